/- The program's Needs: what an element needs, in rising order. -/
import Derived.Test.YteikagdinecfoaaGreatDoorNe
set_option linter.unusedVariables false
set_option linter.unusedSimpArgs false
namespace Go.Proofs.YteikagdinecfoaaGreatDoor.Nd
open Go.RowKit Lb Gr Pd Fl Go.Proofs.YteikagdinecfoaaGreatDoor.Pm Bk Is Sl Go.Proofs.YteikagdinecfoaaGreatDoor.Mp Go.Proofs.YteikagdinecfoaaGreatDoor.So Go.Proofs.YteikagdinecfoaaGreatDoor.Ne Go.Lib Go.Sort
attribute [local go_sem ↓] Go.wp_at_zero Go.wp_at_succ

theorem libFieldsX (t : ByteArray) (w : World) (ht : Tab w) (hs : t.size < 4294967281) (ha : t.data.toList.all (fun b => decide (b.toNat < 128)) = true) (hf : Lib.fields t.data.toList = fieldsL t.data.toList) : Calls Tryz.prog 80 #[.string t] w fun e w' =>
    e = .returned (.slice (some ⟨w.heap.size, 0, none⟩) (fieldsL t.data.toList).length (fieldsL t.data.toList).length) ∧ w' = w.alloc (.cells ((fieldsL t.data.toList).map encStr).toArray 9) := by
  refine (Tryz.strings_Fields t w hs ?_ ht).mono ?_
  · intro j b hb
    rw [List.all_eq_true] at ha
    simpa using ha b (List.mem_of_getElem? hb)
  · rintro e w' ⟨rfl, rfl⟩
    rw [hf]
    exact ⟨rfl, rfl⟩

set_option maxRecDepth 100000 in
theorem gives (s : ByteArray) (x : List UInt8) (B : Nat) (W : World) (hc : W.cell? ⟨B, 0, none⟩ = some (.string s)) :
    FnGives Tryz.prog 98 #[.pointer (some ⟨B, 0, none⟩)] #[encStr x] (.bool (decide (str x = s))) W := by
  show Calls Tryz.prog 98 #[.string (str x), .pointer (some ⟨B, 0, none⟩)] W _
  generalize str x = y
  go_enter Tryz.func98, Tryz.ntmps98
  go_wp2
  go_ret
  exact ⟨(by rw [eq_str]; rfl), 0, rfl⟩

theorem filter_str (l : List (List UInt8)) (s : ByteArray) : ((l.filter fun x => !decide (str x = s)).map str) = (l.map str).filter fun x => !decide (x = s) := by
  rw [List.filter_map]; rfl
/-- slices.DeleteFunc, on the row that Fields has made -/
theorem delete (l : List (List UInt8)) (s : ByteArray) (B : Nat) (w0 : World) (hB : B < w0.heap.size) (hcell : w0.cell? ⟨B, 0, none⟩ = some (.string s)) (hl : l.length ≤ 9223372036854775807) (hm : l.length ≤ maxLen) :
    Calls Tryz.prog 97 #[.slice (some ⟨w0.heap.size, 0, none⟩) l.length l.length, .func (.func 98) #[] #[.pointer (some ⟨B, 0, none⟩)]] (w0.alloc (.cells (l.map encStr).toArray 9)) fun e w' =>
      e = .returned (.slice (some ⟨w0.heap.size, 0, none⟩) (l.filter fun x => !decide (str x = s)).length l.length) ∧ Own w' w0.heap.size (.slice (some ⟨w0.heap.size, 0, none⟩) (l.filter fun x => !decide (str x = s)).length l.length) ((l.filter fun x => !decide (str x = s)).map str) ∧ Below w0.heap.size w0 w' := by
  have hblk : (w0.alloc (.cells (l.map encStr).toArray 9)).heap[w0.heap.size]? = some (.cells (l.map encStr).toArray 9 (0, 0)) := heap_alloc_new w0 _
  have hc2 : (w0.alloc (.cells (l.map encStr).toArray 9)).cell? ⟨B, 0, none⟩ = some (.string s) := (World.cell?_of_block (w := w0) (a := ⟨B, 0, none⟩) (Below.heap_alloc w0 _ B hB)).trans hcell
  have hH : Holds encStr (w0.alloc (.cells (l.map encStr).toArray 9)) w0.heap.size 0 l.toArray := holds_of_block hblk (by show (l.map encStr).take l.length = _; exact List.take_of_length_le (by simp))
  have hcon := Tryz.slices_DeleteFunc (α := List UInt8) encStr (fun _ => rfl) (fun x => decide (str x = s)) 98 #[.pointer (some ⟨B, 0, none⟩)] (enters_of Tryz.func98 (by kernel_rfl) rfl) [] Tryz.zeroValue9 w0.heap.size 0 l.length l.toArray (w0.alloc (.cells (l.map encStr).toArray 9))
    (fun W x hb => gives s x B W ((hb.cell (p := ⟨B, 0, none⟩) (by simp; omega)).trans hc2))
    (fun n os dk x _ => gives s x B _ (by
      unfold sortWorld
      rw [cell?_grow _ _ _ (by show B < (putRow _ _ _ _ _).heap.size; rw [size_putRow]; simp; omega), cell?_putRow_other _ _ _ _ _ _ (Or.inl (by show B ≠ w0.heap.size; omega))]
      exact hc2)) hH (by simpa using hl) (by simp)
  rw [show l.toArray.size = l.length from List.size_toArray] at hcon
  refine hcon.mono ?_
  rintro e w' ⟨rfl, q, rfl⟩
  have e1 : l.toArray.toList = l := rfl
  rw [e1]
  generalize hr : (l.filter fun x => !decide (str x = s)) = r
  have hrl : r.length ≤ l.length := by rw [← hr]; exact List.length_filter_le _ _
  have hgr := grownBy_sorted (w := w0.alloc (.cells (l.map encStr).toArray 9)) (g := w0.heap.size) (n := q) (os := #[]) (r ++ List.replicate (l.length - r.length) ([] : List UInt8)).toArray
  have hhp := heap_sorted (w := w0.alloc (.cells (l.map encStr).toArray 9)) (g := w0.heap.size) (n := q) (os := #[]) (r ++ List.replicate (l.length - r.length) ([] : List UInt8)).toArray hblk
  rw [Sort.grow_empty] at hgr hhp
  refine ⟨rfl, own_str.2 ⟨by simp, .inr ⟨w0.heap.size, l.length, _, rfl, Nat.le_refl _, hhp, hrl, hm, by simp [Sort.putCells], ?_⟩⟩, ((Below.refl _ _).alloc (Nat.le_refl _) _).grown hgr (by simp) (fun k e => by injection e with e; omega)⟩
  have h1 := take_putCells (l.map encStr).toArray (r ++ List.replicate (l.length - r.length) ([] : List UInt8)) (by simp; omega)
  have h2 := congrArg (List.take r.length) h1
  rw [List.take_take, List.map_append, List.take_append_of_le_length (by simp)] at h2
  rw [show min r.length (r ++ List.replicate (l.length - r.length) ([] : List UInt8)).length = r.length from by rw [List.length_append]; omega] at h2
  rw [Nat.mul_one, h2]
  exact List.take_of_length_le (by simp)

set_option maxHeartbeats 4000000 in
set_option maxRecDepth 100000 in
theorem NeedsC (s : ByteArray) (w : World) (ht : Tab w) : Calls Tryz.prog 42 #[.string s] w fun e w' =>
    ∃ A c G, e = .returned (.slice A (needsL s).length c) ∧ kdW.own w' w.heap.size (.slice A (needsL s).length c) (needsL s) G ∧ Below w.heap.size w w' := by
  obtain ⟨o1, o2, o3⟩ := needsP_ok s
  have hq : Hid (((fieldsL (needsP s).data.toList).filter fun x => !decide (str x = s)).map str = needsQ s) := Lib.hid (by rw [filter_str]; rfl)
  have hl9 : (fieldsL (needsP s).data.toList).length ≤ 1000 := by
    have h1 := flds_length (needsP s).data.toList []
    rw [size_len] at h1
    have h3 : (fieldsL (needsP s).data.toList).length = (flds [] (needsP s).data.toList).length := rfl
    omega
  have HT : Hid (∀ W, Below w.heap.size w W → Tab W) := Lib.hid fun W h => ht.below h
  have HN : Hid (∀ W, Below w.heap.size w W → Calls Tryz.prog 96 #[] W fun e w' => ∃ b, e = .returned (.map (some b)) ∧ (Instr.lookup 110 (.map (some b)) (.string s) false).run Tryz.prog w' = .ok (.string (needsP s)) w' ∧ Below W.heap.size W w') := Lib.hid fun W hW => (needsC W (ht.below hW)).mono (by
    rintro e w' ⟨b, rfl, hm, hb⟩
    have hlk := run_look (P := Tryz.prog) (w := w') Tryz.underlying110 Tryz.underlying9 hm s (z := .string ByteArray.empty) (Tryz.zeroValue9 w') false
    rw [look_val] at hlk
    exact ⟨b, rfl, hlk, hb⟩)
  have HF : Hid (∀ W, Below w.heap.size w W → Calls Tryz.prog 80 #[.string (needsP s)] W fun e w' => e = .returned (.slice (some ⟨W.heap.size, 0, none⟩) (fieldsL (needsP s).data.toList).length (fieldsL (needsP s).data.toList).length) ∧ w' = W.alloc (.cells ((fieldsL (needsP s).data.toList).map encStr).toArray 9)) :=
    Lib.hid fun W hW => libFieldsX _ W (ht.below hW) (by omega) o2 o3
  have hne := needs_eq s
  clear ht o1 o2 o3
  generalize fieldsL (needsP s).data.toList = l at *
  obtain ⟨X, hX⟩ : ∃ X, X = w.alloc (.cells #[.string s] 9) := ⟨_, rfl⟩
  have hb0 : Below w.heap.size w X := hX ▸ (Below.refl _ _).alloc (Nat.le_refl _) _
  have hc0 : X.cell? ⟨w.heap.size, 0, none⟩ = some (.string s) := by rw [hX]; exact (Bl.new w 9 [.string s] rfl).cell 0 rfl
  have hs0 : w.heap.size < X.heap.size := by rw [hX]; simp
  have HX := Lib.hid hX
  have HE := Lib.hid hne
  clear hX hne
  go_enter Tryz.func42, Tryz.ntmps42
  go_upto_region 1 with fail
  rw [← HX.out]
  go_region_held3 (fun W' => W'.cell? ⟨w.heap.size, 0, none⟩ = some (.string s))
    (first | exact hc0 | exact z0 | exact z1 | exact z2)
    (first
      | (go_at_call 96; refine (HN.out _ (by exact hb0.drew)).mono ?_; rintro e w1 ⟨b, rfl, hlk, hb1⟩; have hb2 : Below X.heap.size X w1 := (drw X 1).trans hb1; have z0 := (hb2.cell (p := ⟨w.heap.size, 0, none⟩) hs0).trans hc0)
      | (go_at_call 80; refine (HF.out _ (by exact hb0.trans (hb2.mono hb0.size))).mono ?_; rintro e w2 ⟨rfl, rfl⟩; have hb3 : Below X.heap.size X (w1.alloc (.cells (l.map encStr).toArray 9)) := hb2.alloc hb2.size _; have z1 := (hb3.cell (p := ⟨w.heap.size, 0, none⟩) hs0).trans hc0))
  have hz1 := hb2.size
  have hz0 := hb0.size
  have hD := delete l s w.heap.size w1 (by omega) z0 (by omega) (by unfold maxLen; omega)
  have HD := Lib.hid hD
  clear hD
  go_upto_region 3 with (go_at_call 97; refine HD.out.mono ?_; rintro e w3 ⟨rfl, ho3, hb4⟩)
  rw [hq.out] at ho3
  have hll : Hid ((l.filter fun x => !decide (str x = s)).length = (needsQ s).length) := Lib.hid (by rw [← hq.out, List.length_map])
  rw [hll.out] at ho3 ⊢
  have hb5 : Below w.heap.size w w3 := (hb0.trans (hb2.mono hb0.size)).trans (hb4.mono (by omega))
  have hsl := srt_len (needsQ s)
  rw [HE.out] at hsl
  have hql : (needsQ s).length ≤ 1000 := by rw [← hll.out]; exact Nat.le_trans (List.length_filter_le _ _) hl9
  by_cases h0 : (needsQ s).length = 0
  · have hn0 : Hid (needsL s = []) := Lib.hid (List.eq_nil_of_length_eq_zero (by omega))
    have hi0 : ((needsQ s).length : Int) = 0 := by omega
    rw [h0] at ho3 ⊢
    go_wp2
    go_ret
    rw [hn0.out]
    exact ⟨none, 0, [], rfl, ⟨World.ownsRow_nil _ _ _ _, rfl⟩, hb5⟩
  · have hi0 : ¬ ((needsQ s).length : Int) = 0 := by omega
    have ho3' := Lib.hid ho3
    have hbt := bts_str
    have HS : Hid (Calls Tryz.prog 95 #[.slice (some ⟨w1.heap.size, 0, none⟩) (needsQ s).length l.length] w3 fun e w' => e = .returned (.tuple #[]) ∧ Own w' w1.heap.size (.slice (some ⟨w1.heap.size, 0, none⟩) (needsQ s).length l.length) (needsL s) ∧ Below w.heap.size w w') := Lib.hid (by
      have e : ((needsQ s).map fun x : ByteArray => x.data.toList).map str = needsQ s := str_bts _
      have h5 := ho3'.out
      rw [← e] at h5
      have h6 := libSort h5 (by rw [List.length_map]; omega)
      rw [e] at h6
      refine h6.mono ?_
      rintro e1 w' ⟨rfl, h7, h8⟩
      rw [HE.out] at h7
      exact ⟨rfl, h7, hb5.grown h8 hb5.size (fun k hk => by injection hk with hk; subst hk; exact (by show w.heap.size ≤ w1.heap.size; omega))⟩)
    clear ho3 hbt
    go_wp2_with (go_at_call 95; refine HS.out.mono ?_; rintro e w4 ⟨rfl, ho4, hb6⟩)
    go_ret
    rw [hsl]
    refine ⟨some ⟨w1.heap.size, 0, none⟩, l.length, _, rfl, ⟨?_, rfl⟩, hb6⟩
    exact own_low ho4 (by omega)
end Go.Proofs.YteikagdinecfoaaGreatDoor.Nd
