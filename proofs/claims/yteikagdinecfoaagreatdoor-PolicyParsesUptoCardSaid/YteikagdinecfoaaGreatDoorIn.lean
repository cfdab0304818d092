/- Whether a name is in a set: what In returns, the program's and the reference's. -/
import Derived.Test.YteikagdinecfoaaGreatDoorProg
import Derived.Test.YteikagdinecfoaaGreatDoorLib
import Derived.Test.YteikagdinecfoaaGreatDoorShelf
import Derived.Test.YteikagdinecfoaaGreatDoorStr
import Derived.Test.YteikagdinecfoaaGreatDoorRFields
import Derived.Test.YteikagdinecfoaaGreatDoorLists
import Derived.Test.YteikagdinecfoaaGreatDoorRtext
import Derived.Lib.LaidTab
import Derived.Lib.SmallJoins
set_option linter.unusedVariables false
set_option linter.unusedSimpArgs false
namespace Go.Proofs.YteikagdinecfoaaGreatDoor.Is
open Go.RowKit Lb St Fl Ls Rt Rf

/-- the library's table of blanks reads as Go's text lays it -/
def Tab (w : World) : Prop := Lib.TabIs Tryz.prog w "strings.asciiSpace" .u8 Lib.asciiSpaceTab
theorem gTab : Tryz.prog.globalNamed "strings.asciiSpace" = some 0 := by kernel_rfl
theorem Tab.below {w w' : World} (h : Tab w) (hb : Below w.heap.size w w') : Tab w' := Go.Joins.tab_stays gTab h hb (Nat.le_refl _)
theorem aggStr (w : World) : (isAgg 9).run Tryz.prog w = .ok false w := by kernel_rfl

def inS (s : ByteArray) (k : Int) : Bool := inL s.data.toList k
theorem in_no {s : ByteArray} {k : Int} (h : ¬ (0 ≤ k ∧ k < 16)) : inS s k = false := by
  unfold inS inL
  by_cases h1 : 0 ≤ k
  · have h2 : ¬ k < 16 := by omega
    simp [h2]
  · simp [h1]

/-- strings.Fields of a set's text -/
theorem libFields (k : Nat) (hk : k < 16) (w : World) (ht : Tab w) : Calls Tryz.prog 80 #[.string (str (ptx k))] w fun e w' =>
    ∃ A c, e = .returned (.slice A (nm k).length c) ∧ Own w' w.heap.size (.slice A (nm k).length c) ((nm k).map str) ∧ Below w.heap.size w w' := by
  have hlen := len_pt k hk
  have hasc := ascii_pt k hk
  refine (Tryz.strings_Fields (str (ptx k)) w (by rw [str_size]; omega) ?_ ht).mono ?_
  · intro j b hb
    rw [str_toList] at hb
    rw [List.all_eq_true] at hasc
    simpa using hasc b (List.mem_of_getElem? hb)
  · rintro e w' ⟨rfl, rfl⟩
    rw [str_toList, fields_pt k hk]
    have hle : (nm k).length ≤ maxLen := by
      have h1 := flds_length (rtx k) []
      have h2 := len_rt k hk
      have h3 : (nm k).length = (flds [] (rtx k)).length := rfl
      unfold maxLen; omega
    refine ⟨_, _, rfl, ?_, (Below.refl _ _).alloc (Nat.le_refl _) _⟩
    unfold Own
    rw [List.length_map, List.map_map]
    have := World.ownsRow_lit (base := w.heap.size) (e := 9) (size := 1) w ((nm k).map fun l => Value.string ⟨l.toArray⟩).toArray (nm k).length (Nat.le_refl _) hle (by simp)
    simp at this
    exact this

theorem nIsSet (k : Int) (w : World) : Calls Tryz.prog 139 #[.int .i64 k] w fun e w' => e = .returned (.bool (decide (0 ≤ k) && decide (k < 16))) ∧ w = w' := by
  by_cases h1 : 0 ≤ k <;> by_cases h2 : k < 16
  all_goals
    go_enter Tryz.func139, Tryz.ntmps139
    go_wp2
    all_goals (go_ret; simp [h1, h2])

/-- how the loop over the names ends -/
theorem mem_at {l : List (List UInt8)} {j : Nat} {s : ByteArray} (h : j < l.length) (e : str l[j] = s) : l.contains s.data.toList = true := by
  rw [List.contains_iff_mem, ← e, str_toList]; exact List.getElem_mem _
theorem not_mem {l : List (List UInt8)} {s : ByteArray} (h : ∀ j (hj : j < l.length), str l[j] ≠ s) : l.contains s.data.toList = false := by
  rw [Bool.eq_false_iff]
  intro hc
  rw [List.contains_iff_mem] at hc
  obtain ⟨j, hj, e⟩ := List.getElem_of_mem hc
  exact h j hj (by rw [e, str_of])

set_option maxHeartbeats 2000000 in
set_option maxRecDepth 100000 in
theorem nInYes (s : ByteArray) (k : Int) (w : World) (ht : Tab w) (h0 : 0 ≤ k) (h1 : k < 16) : Calls Tryz.prog 88 #[.string s, .int .i64 k] w fun e w' => e = .returned (.bool (inS s k)) ∧ Below w.heap.size w w' := by
  obtain ⟨i0, hi, hz0, hz1, hz2⟩ := info_parts infoStr
  have hkn : k.toNat < 16 := by omega
  have hidx := fun W => run_index_arr (P := Tryz.prog) (w := W) (kd := .i64) (i := k) (x := .string (str (ptx k.toNat))) Tryz.underlying149 hi hz1 (aggStr W) h0 (by omega) (setVals_at hkn)
  have hin : Hid (inS s k = (nm k.toNat).contains s.data.toList) := Lib.hid (by simp [inS, inL, h0, h1])
  obtain ⟨N, hN⟩ : ∃ N, N = nm k.toNat := ⟨_, rfl⟩
  have hNl : N.length < 4000 := by
    have a1 := flds_length (rtx k.toNat) []
    have a2 := len_rt k.toNat hkn
    have a3 : N.length = (flds [] (rtx k.toNat)).length := by rw [hN]; rfl
    omega
  have HN := Lib.hid hN
  clear hN
  go_enter Tryz.func88, Tryz.ntmps88
  go_wp2_with (first
    | (go_at_call 139; refine (nIsSet _ _).mono ?_; rintro e w' ⟨rfl, rfl⟩)
    | (go_at_call 143; refine (nLists _).mono ?_; rintro e w1 ⟨rfl, hb1⟩)
    | (go_at_call 80; refine (libFields k.toNat hkn _ (ht.below hb1)).mono ?_; rintro e w2 ⟨A, c, rfl, hown, hb2⟩))
  rw [← HN.out] at hown ⊢
  have hrd := Lib.hid (Sl.of_own hown)
  have hbb : Below w.heap.size w w2 := hb1.trans (hb2.mono hb1.size)
  clear hidx hb1 hb2 hown ht
  go_loopw [15] (fun i wr => ∃ j : Nat, j ≤ N.length ∧ i = .int .i64 j ∧ Below w2.heap.size w2 wr ∧ Hid (∀ x (hx : x < N.length), x < j → str N[x] ≠ s)) (fun i _ => N.length - (intOf i).toNat)
  case atStart => exact ⟨0, by omega, rfl, Below.refl _ _, Lib.hid (fun x _ hx => by omega)⟩
  case round =>
    obtain ⟨j, hj, rfl, hnx, hall⟩ := hrel
    by_cases hlt : j < N.length
    · obtain ⟨A', c', hv, hc1, hc2, hcells⟩ := hrd.out
      injection hv with hA hn hc
      subst hA
      obtain ⟨b, off, rfl, hbB, hcell⟩ := hcells (by simp; omega)
      have hcx : wr.cell? ⟨b, off + j, none⟩ = some (.string (str N[j])) := (hnx.cell (p := ⟨b, off + j, none⟩) hbB).trans (hcell j _ (by simp [List.getElem?_eq_getElem hlt]))
      obtain ⟨y, hy⟩ : ∃ y, y = str N[j] := ⟨_, rfl⟩
      rw [← hy] at hcx
      have HY := Lib.hid hy
      clear hy hcell hcells hn hc
      by_cases e : y = s
      · have he := toList_eq_of e
        have hfin : Hid (inS s k = true) := Lib.hid (by rw [hin.out, ← HN.out]; exact mem_at hlt (by rw [← HY.out]; exact e))
        clear e
        go_wp2
        go_ret
        exact ⟨rb hfin.out, hbb.trans (hnx.mono hbb.size)⟩
      · have he := toList_ne_of e
        have hall2 : Hid (∀ x (hx : x < N.length), x < j + 1 → str N[x] ≠ s) := Lib.hid (fun x hx hxj => by
          by_cases ex : x = j
          · subst ex; rw [← HY.out]; exact e
          · exact hall.out x hx (by omega))
        clear e
        go_wp2
        go_roundw
        case rel => exact ⟨j + 1, by omega, by go_num, hnx, hall2⟩
        case measure => simp [intOf] <;> omega
    · have hfin : Hid (inS s k = false) := Lib.hid (by rw [hin.out, ← HN.out]; exact not_mem (fun x hx => hall.out x hx (by omega)))
      go_wp2
      go_ret
      exact ⟨rb hfin.out, hbb.trans (hnx.mono hbb.size)⟩
set_option maxHeartbeats 400000 in
theorem nIn (s : ByteArray) (k : Int) (w : World) (ht : Tab w) : Calls Tryz.prog 88 #[.string s, .int .i64 k] w fun e w' => e = .returned (.bool (inS s k)) ∧ Below w.heap.size w w' := by
  by_cases h : 0 ≤ k ∧ k < 16
  · exact nInYes s k w ht h.1 h.2
  · have hb : (decide (0 ≤ k) && decide (k < 16)) = false := by
      rw [Bool.and_eq_false_iff, decide_eq_false_iff_not, decide_eq_false_iff_not]; omega
    have hi := nIsSet k w
    rw [hb] at hi
    have hf := Lib.hid (in_no (s := s) h)
    have HI := Lib.hid hi
    clear hb h hi
    go_enter Tryz.func88, Tryz.ntmps88
    go_wp2_with (go_at_call 139; refine HI.out.mono ?_; rintro e w' ⟨rfl, rfl⟩)
    go_ret
    exact ⟨rb hf.out, Below.refl _ _⟩

theorem fieldsS_rt (k : Nat) : fieldsS (str (rtx k)) = (nm k).map str := rfl
theorem rtS_in {k : Int} (h0 : 0 ≤ k) (h1 : k < 16) : fieldsS (rtS k) = (nm k.toNat).map str := by
  unfold rtS; rw [if_pos ⟨h0, h1⟩]; exact fieldsS_rt _
theorem rtS_out {k : Int} (h : ¬ (0 ≤ k ∧ k < 16)) : fieldsS (rtS k) = [] := by
  unfold rtS; rw [if_neg h]; rfl
theorem rtS_size (k : Int) : (rtS k).size ≤ 2000 := by
  unfold rtS
  split
  · have := len_rt k.toNat (by omega); rw [str_size]; omega
  · rw [str_size]; simp
theorem in_list {s : ByteArray} {k : Int} : (inS s k = true ↔ s ∈ fieldsS (rtS k)) := by
  by_cases h : 0 ≤ k ∧ k < 16
  · rw [rtS_in h.1 h.2]
    unfold inS inL
    simp only [h.1, h.2, decide_true, Bool.true_and, List.contains_iff_mem, List.mem_map]
    constructor
    · intro hm; exact ⟨_, hm, str_of s⟩
    · rintro ⟨x, hx, rfl⟩; rw [str_toList]; exact hx
  · rw [rtS_out h, in_no h]; simp
theorem nil_no (k : Int) : inS (str []) k = false := by
  by_cases h : 0 ≤ k ∧ k < 16
  · have := ne_nm k.toNat (by omega)
    unfold inS inL
    rw [str_toList, this]; simp
  · exact in_no h
theorem nil_no' {s : ByteArray} (h : s.size = 0) (k : Int) : inS s k = false := by
  have hl : s.data.toList = [] := List.eq_nil_of_length_eq_zero (by rw [size_len]; exact h)
  have : s = str [] := by rw [← str_of s, hl]
  rw [this]; exact nil_no k

set_option maxHeartbeats 2000000 in
set_option maxRecDepth 100000 in
theorem rIn (s : ByteArray) (k : Int) (w : World) : Calls Tryz.prog 55 #[.string s, .int .i64 k] w fun e w' => e = .returned (.bool (inS s k)) ∧ Below w.heap.size w w' := by
  by_cases hz : s.size = 0
  · have hf := Lib.hid (nil_no' hz k)
    have he := toList_nil hz
    have hb := isEmpty_nil hz
    go_enter Tryz.func55, Tryz.ntmps55
    go_wp2
    go_ret
    exact ⟨rb hf.out, Below.refl _ _⟩
  have hp : 0 < s.size := by omega
  have he := toList_ne hp
  have hb := isEmpty_ne hp
  have hsz := rtS_size k
  obtain ⟨F, hF⟩ : ∃ F, F = fieldsS (rtS k) := ⟨_, rfl⟩
  have hFl : F.length < 4000 := by
    have a1 := flds_length (rtS k).data.toList []
    rw [size_len] at a1
    have a3 : F.length = (flds [] (rtS k).data.toList).length := by rw [hF]; simp [fieldsS, fieldsL]
    omega
  have HF := Lib.hid hF
  clear hF
  go_enter Tryz.func55, Tryz.ntmps55
  go_wp2_with (first
    | (go_at_call 117; refine (rText _ _).mono ?_; rintro e w' ⟨rfl, rfl⟩)
    | (go_at_call 99; refine (rFieldsR _ _ (by omega)).mono ?_; rintro e w2 ⟨A, c, rfl, hown, hb2⟩))
  rw [← HF.out] at hown ⊢
  have hrd := Lib.hid hown
  clear hown
  go_loopw [13] (fun i wr => ∃ j : Nat, j ≤ F.length ∧ i = .int .i64 j ∧ Below w2.heap.size w2 wr ∧ Hid (∀ x (hx : x < F.length), x < j → F[x] ≠ s)) (fun i _ => F.length - (intOf i).toNat)
  case atStart => exact ⟨0, by omega, rfl, Below.refl _ _, Lib.hid (fun x _ hx => by omega)⟩
  case round =>
    obtain ⟨j, hj, rfl, hnx, hall⟩ := hrel
    by_cases hlt : j < F.length
    · obtain ⟨b, off, rfl, hbB, hcell⟩ := hrd.out.get hlt
      have hcx := hcell wr hnx
      obtain ⟨y, hy⟩ : ∃ y, y = F[j] := ⟨_, rfl⟩
      rw [← hy] at hcx
      have HY := Lib.hid hy
      clear hy hcell
      by_cases e : y = s
      · have he2 := toList_eq_of e
        have hfin : Hid (inS s k = true) := Lib.hid (by rw [in_list, ← HF.out, ← e, HY.out]; exact List.getElem_mem _)
        clear e
        go_wp2
        go_ret
        exact ⟨rb hfin.out, hb2.trans (hnx.mono hb2.size)⟩
      · have he2 := toList_ne_of e
        have hall2 : Hid (∀ x (hx : x < F.length), x < j + 1 → F[x] ≠ s) := Lib.hid (fun x hx hxj => by
          by_cases ex : x = j
          · subst ex; rw [← HY.out]; exact e
          · exact hall.out x hx (by omega))
        clear e
        go_wp2
        go_roundw
        case rel => exact ⟨j + 1, by omega, by go_num, hnx, hall2⟩
        case measure => simp [intOf] <;> omega
    · have hfin : Hid (inS s k = false) := Lib.hid (by
        rw [Bool.eq_false_iff]; intro hc
        rw [in_list, ← HF.out] at hc
        obtain ⟨x, hx, ex⟩ := List.getElem_of_mem hc
        exact hall.out x hx (by omega) ex)
      go_wp2
      go_ret
      exact ⟨rb hfin.out, hb2.trans (hnx.mono hb2.size)⟩
end Go.Proofs.YteikagdinecfoaaGreatDoor.Is
