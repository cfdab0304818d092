/- What elements need: the program's needs and Needs. -/
import Derived.Laws.OwnMore
import Derived.Shelf.SlicesE.DeleteFunc
import Derived.Deep.RegionHeld3
import Derived.Deep.DrawnRows
import Derived.Lib.RowBridge
import Derived.Test.YteikagdinecfoaaGreatDoorSl
import Derived.Test.YteikagdinecfoaaGreatDoorMp
import Derived.Test.YteikagdinecfoaaGreatDoorSo
set_option linter.unusedVariables false
set_option linter.unusedSimpArgs false
namespace Go.Proofs.YteikagdinecfoaaGreatDoor.Ne
open Go.RowKit Lb Gr Pd Fl Go.Proofs.YteikagdinecfoaaGreatDoor.Pm Bk Is Sl Go.Proofs.YteikagdinecfoaaGreatDoor.Mp Go.Proofs.YteikagdinecfoaaGreatDoor.So
attribute [local go_sem ↓] Go.wp_at_zero Go.wp_at_succ

def tabT : ByteArray := str [116, 97, 98, 108, 101, 32, 116, 98, 111, 100, 121, 32, 116, 100, 32, 116, 114]
def moreT : ByteArray := str [116, 97, 98, 108, 101, 32, 99, 97, 112, 116, 105, 111, 110, 32, 99, 111, 108, 103, 114, 111, 117, 112, 32, 116, 104, 101, 97, 100, 32, 116, 98, 111, 100, 121, 32, 116, 102, 111, 111, 116, 32, 116, 114, 32, 116, 100, 32, 116, 104]
def moreL : List ByteArray := [str [116, 97, 98, 108, 101], str [99, 97, 112, 116, 105, 111, 110], str [99, 111, 108, 103, 114, 111, 117, 112], str [116, 104, 101, 97, 100], str [116, 98, 111, 100, 121], str [116, 102, 111, 111, 116], str [116, 114], str [116, 100], str [116, 104]]
theorem more_fields : fieldsS moreT = moreL := by decide +kernel
theorem more_lib : Lib.fields moreT.data.toList = fieldsL moreT.data.toList := by decide +kernel
def baseK : List (ByteArray × ByteArray) := [(str [108, 105], str [117, 108]), (str [117, 108], str [108, 105]), (str [111, 108], str [108, 105]), (str [109, 101, 110, 117], str [108, 105]), (str [100, 116], str [100, 100, 32, 100, 108]), (str [100, 100], str [100, 108]), (str [100, 108], str [100, 100]), (str [99, 111, 108], str [99, 111, 108, 103, 114, 111, 117, 112, 32, 116, 97, 98, 108, 101, 32, 116, 98, 111, 100, 121, 32, 116, 100, 32, 116, 114])]
def keyL (k : Nat) : List (ByteArray × ByteArray) := baseK ++ (moreL.take k).map fun n => (n, tabT)
def valL (l : List (ByteArray × ByteArray)) : List (ByteArray × Value) := l.map fun x => (x.1, Value.string x.2)
theorem look_no {s : ByteArray} {l : List (ByteArray × ByteArray)} (h : (l.any fun x => decide (s = x.1)) = false) : lookL s (valL l) = none := by
  induction l with
  | nil => rfl
  | cons x r ih =>
    rw [List.any_cons, Bool.or_eq_false_iff] at h
    show (if s = x.1 then some (Value.string x.2) else lookL s (valL r)) = none
    rw [if_neg (of_decide_eq_false h.1)]
    exact ih h.2
/-- the text of a name -/
def needsP (s : ByteArray) : ByteArray := (((keyL 9).find? fun x => decide (s = x.1)).map (·.2)).getD ByteArray.empty
theorem look_val (s : ByteArray) (l : List (ByteArray × ByteArray)) : (lookL s (valL l)).getD (.string ByteArray.empty) = .string (((l.find? fun x => decide (s = x.1)).map (·.2)).getD ByteArray.empty) := by
  induction l with
  | nil => rfl
  | cons x r ih =>
    show (if s = x.1 then some (Value.string x.2) else lookL s (valL r)).getD _ = _
    by_cases h : s = x.1
    · rw [if_pos h, List.find?_cons_of_pos (by simpa using h)]; rfl
    · rw [if_neg h, List.find?_cons_of_neg (by simpa using h)]; exact ih
theorem valL_app (a b : List (ByteArray × ByteArray)) : valL (a ++ b) = valL a ++ valL b := by unfold valL; rw [List.map_append]
theorem key_new : ∀ k, k < 9 → ((keyL k).any fun x => decide (moreL[k]! = x.1)) = false := by decide +kernel
theorem key_succ {k : Nat} (h : k < moreL.length) : keyL (k + 1) = keyL k ++ [(moreL[k], tabT)] := by
  unfold keyL
  rw [List.take_succ_eq_append_getElem h, List.map_append, List.append_assoc]
  rfl

/-- behind some stores -/
structure NS (w W : World) (L : List (ByteArray × Value)) : Prop where
  m : MapS W w.heap.size L
  b : Below w.heap.size w W
theorem NS.step {w W W' : World} {L L' : List (ByteArray × Value)} (h : NS w W L) (hm : MapS W' w.heap.size L') (hg : W.grownBy W' (some w.heap.size)) : NS w W' L' :=
  ⟨hm, h.b.grown hg h.b.size (fun k e => by injection e with e; omega)⟩
theorem keep_map {wf wr w9 : World} {lo b : Nat} (h : ∀ k, lo ≤ k → k < wf.heap.size → wr.heap[k]? = wf.heap[k]?) (hb : b < lo) (hg : wr.grownBy w9 (some b)) : ∀ k, lo ≤ k → k < wf.heap.size → w9.heap[k]? = wf.heap[k]? := by
  intro k h1 h2
  have h3 := h k h1 h2
  have hk : k < wr.heap.size := by
    by_cases hx : k < wr.heap.size
    · exact hx
    · rw [Array.getElem?_eq_none (by omega), Array.getElem?_eq_getElem h2] at h3
      cases h3
  exact (hg.block k hk (fun e => by injection e with e; omega)).trans h3
/-- a store of a new key by 'm[k] = v' -/
theorem wpList_update_new {P : Program} (w : World) {ops : Array Oper} {rest : List Oper} {o : Oper} {a : Act} {Q : Exit → Act → World → Prop}
    (hg : o.guard = none) (m x v : Operand) (t : TypeId) (hop : o.op = Op.mapUpdate t m x v)
    (k e : TypeId) (ht : P.underlying t = some (.map k e)) (hk : P.underlying k = some .string) (b : Nat) (L : List (ByteArray × Value)) (s : ByteArray) (val : Value)
    (hm : a.eval m = .map (some b)) (hown : MapS w b L) (hx : a.eval x = .string s) (hv : a.eval v = val) (hn : lookL s L = none)
    (hK : ∀ w', MapS w' b (L ++ [(s, val)]) → w.grownBy w' (some b) → wpList P ops Q rest (a.put o.dst undef) w') :
    wpList P ops Q (o :: rest) a w := by
  refine wpList_plain hg fun K' hK' => ?_
  obtain ⟨w', hrun, r1, r2⟩ := run_put ht hk hown (v := val) hn
  unfold Oper.wp
  simp [execOp, hop, hm, hx, hv, hrun, Result.andThen]
  exact hK' _ _ (hK w' r1 r2)

set_option maxHeartbeats 4000000 in
set_option maxRecDepth 100000 in
theorem needsC (w : World) (ht : Tab w) : Calls Tryz.prog 96 #[] w fun e w' => ∃ b, e = .returned (.map (some b)) ∧ MapS w' b (valL (keyL 9)) ∧ Below w.heap.size w w' := by
  have HF : Hid (∀ W, Below w.heap.size w W → Calls Tryz.prog 80 #[.string moreT] W fun e w' => ∃ A c G, e = .returned (.slice A 9 c) ∧ kdW.own w' W.heap.size (.slice A 9 c) moreL G ∧ Below W.heap.size W w') := Lib.hid fun W hW => (libFieldsC moreT W (ht.below hW) (by decide) (by decide +kernel) more_lib).mono (by rw [more_fields]; exact fun _ _ h => h)
  clear ht
  have hmm := @run_makeMap Tryz.prog
  have hb00 := Below.refl w.heap.size w
  go_enter Tryz.func96, Tryz.ntmps96
  go_upto_region 1 with fail
  have i0 : Hid (NS w (w.alloc (.map #[] 0)) []) := Lib.hid ⟨MapS.made w, hb00.alloc (Nat.le_refl _) _⟩
  go_upto_region 2 with (first

    | (refine wpList_insert_new _ rfl (.tmp 4) (.const (.string (str [108, 105]))) (.const (.string (str [117, 108]))) 110 rfl 9 9 Tryz.underlying110 Tryz.underlying9 w.heap.size (valL (baseK.take 0)) (str [108, 105]) (.string (str [117, 108])) rfl i0.out.1 rfl rfl (look_no (by decide +kernel)) ?_; intro w1 m1 g1; have i1 : Hid (NS w w1 (valL (baseK.take 1))) := Lib.hid (i0.out.step m1 g1); clear m1 g1)
    | (refine wpList_insert_new _ rfl (.tmp 4) (.const (.string (str [117, 108]))) (.const (.string (str [108, 105]))) 110 rfl 9 9 Tryz.underlying110 Tryz.underlying9 w.heap.size (valL (baseK.take 1)) (str [117, 108]) (.string (str [108, 105])) rfl i1.out.1 rfl rfl (look_no (by decide +kernel)) ?_; intro w2 m2 g2; have i2 : Hid (NS w w2 (valL (baseK.take 2))) := Lib.hid (i1.out.step m2 g2); clear m2 g2)
    | (refine wpList_insert_new _ rfl (.tmp 4) (.const (.string (str [111, 108]))) (.const (.string (str [108, 105]))) 110 rfl 9 9 Tryz.underlying110 Tryz.underlying9 w.heap.size (valL (baseK.take 2)) (str [111, 108]) (.string (str [108, 105])) rfl i2.out.1 rfl rfl (look_no (by decide +kernel)) ?_; intro w3 m3 g3; have i3 : Hid (NS w w3 (valL (baseK.take 3))) := Lib.hid (i2.out.step m3 g3); clear m3 g3)
    | (refine wpList_insert_new _ rfl (.tmp 4) (.const (.string (str [109, 101, 110, 117]))) (.const (.string (str [108, 105]))) 110 rfl 9 9 Tryz.underlying110 Tryz.underlying9 w.heap.size (valL (baseK.take 3)) (str [109, 101, 110, 117]) (.string (str [108, 105])) rfl i3.out.1 rfl rfl (look_no (by decide +kernel)) ?_; intro w4 m4 g4; have i4 : Hid (NS w w4 (valL (baseK.take 4))) := Lib.hid (i3.out.step m4 g4); clear m4 g4)
    | (refine wpList_insert_new _ rfl (.tmp 4) (.const (.string (str [100, 116]))) (.const (.string (str [100, 100, 32, 100, 108]))) 110 rfl 9 9 Tryz.underlying110 Tryz.underlying9 w.heap.size (valL (baseK.take 4)) (str [100, 116]) (.string (str [100, 100, 32, 100, 108])) rfl i4.out.1 rfl rfl (look_no (by decide +kernel)) ?_; intro w5 m5 g5; have i5 : Hid (NS w w5 (valL (baseK.take 5))) := Lib.hid (i4.out.step m5 g5); clear m5 g5)
    | (refine wpList_insert_new _ rfl (.tmp 4) (.const (.string (str [100, 100]))) (.const (.string (str [100, 108]))) 110 rfl 9 9 Tryz.underlying110 Tryz.underlying9 w.heap.size (valL (baseK.take 5)) (str [100, 100]) (.string (str [100, 108])) rfl i5.out.1 rfl rfl (look_no (by decide +kernel)) ?_; intro w6 m6 g6; have i6 : Hid (NS w w6 (valL (baseK.take 6))) := Lib.hid (i5.out.step m6 g6); clear m6 g6)
    | (refine wpList_insert_new _ rfl (.tmp 4) (.const (.string (str [100, 108]))) (.const (.string (str [100, 100]))) 110 rfl 9 9 Tryz.underlying110 Tryz.underlying9 w.heap.size (valL (baseK.take 6)) (str [100, 108]) (.string (str [100, 100])) rfl i6.out.1 rfl rfl (look_no (by decide +kernel)) ?_; intro w7 m7 g7; have i7 : Hid (NS w w7 (valL (baseK.take 7))) := Lib.hid (i6.out.step m7 g7); clear m7 g7)
    | (refine wpList_insert_new _ rfl (.tmp 4) (.const (.string (str [99, 111, 108]))) (.const (.string (str [99, 111, 108, 103, 114, 111, 117, 112, 32, 116, 97, 98, 108, 101, 32, 116, 98, 111, 100, 121, 32, 116, 100, 32, 116, 114]))) 110 rfl 9 9 Tryz.underlying110 Tryz.underlying9 w.heap.size (valL (baseK.take 7)) (str [99, 111, 108]) (.string (str [99, 111, 108, 103, 114, 111, 117, 112, 32, 116, 97, 98, 108, 101, 32, 116, 98, 111, 100, 121, 32, 116, 100, 32, 116, 114])) rfl i7.out.1 rfl rfl (look_no (by decide +kernel)) ?_; intro w8 m8 g8; have i8 : Hid (NS w w8 (valL (baseK.take 8))) := Lib.hid (i7.out.step m8 g8); clear m8 g8)
)
  have hlen : moreL.length = 9 := rfl
  go_upto_region 3 with (go_at_call 80; refine (HF.out _ i8.out.b).mono ?_; rintro e wf ⟨A, c, G, rfl, hof, hbf⟩)
  have i9 : Hid (NS w wf (valL (keyL 0))) := Lib.hid ⟨i8.out.m.below hbf, i8.out.b.trans (hbf.mono i8.out.b.size)⟩
  clear i0 i1 i2 i3 i4 i5 i6 i7
  have hrd : kdW.rd wf w8.heap.size wf.heap.size (.slice A 9 c) moreL := kdW.read hof (Nat.le_refl _) (Nat.le_refl _)
  have hz8 := i8.out.b.size
  have hz9 := hbf.size
  have hz8' := i8.out.m.lt
  have HRD : Hid (∀ W, (∀ k, w8.heap.size ≤ k → k < wf.heap.size → W.heap[k]? = wf.heap[k]?) → kdW.rd W w8.heap.size wf.heap.size (.slice A 9 c) moreL) := Lib.hid fun W h => kdW.stay hrd h
  have hof' := Lib.hid hof
  clear hrd hof i8
  go_wp2
  go_loopw [8] (fun i wr => ∃ k : Nat, k ≤ 9 ∧ i = .int .i64 k ∧ Hid (NS w wr (valL (keyL k)) ∧ ∀ k, w8.heap.size ≤ k → k < wf.heap.size → wr.heap[k]? = wf.heap[k]?)) (fun i _ => 9 - (intOf i).toNat)
  case atStart => exact ⟨0, by omega, rfl, Lib.hid ⟨i9.out, fun _ _ _ => rfl⟩⟩
  case round =>
    obtain ⟨k, hk, rfl, hst⟩ := hrel
    by_cases hlt : k < 9
    · obtain ⟨b, off, rfl, hb1, hb2, hc⟩ := rdW_at (HRD.out _ hst.out.2) (show k < moreL.length from hlt)
      have hkn := key_new k hlt
      rw [getElem!_pos moreL k hlt] at hkn
      have hks := Lib.hid (key_succ (k := k) hlt)
      have hl : Hid (lookL (moreL[k]'(show k < moreL.length from hlt)) (valL (keyL k)) = none) := Lib.hid (look_no hkn)
      clear hkn
      generalize hs : moreL[k]'(show k < moreL.length from hlt) = s at *
      have HS := Lib.hid hs
      clear hs
      go_wp2_with (refine wpList_update_new _ rfl (.tmp 12) (.tmp 13) (.const (.string tabT)) 110 rfl 9 9 Tryz.underlying110 Tryz.underlying9 w.heap.size (valL (keyL k)) s (.string tabT) rfl hst.out.1.m rfl rfl hl.out ?_; intro w9 m9 g9)
      have hn : NS w w9 (valL (keyL (k + 1))) := by
        rw [hks.out, valL_app]
        exact hst.out.1.step m9 g9
      have hf := keep_map hst.out.2 (by omega) g9
      go_roundw
      case rel => exact ⟨k + 1, by omega, by go_num, Lib.hid ⟨hn, hf⟩⟩
      case measure => simp [intOf] <;> omega
    · obtain rfl : k = 9 := by omega
      go_wp2
      go_ret
      exact ⟨_, rfl, hst.out.1.m, hst.out.1.b⟩

/-- what the texts are -/
def textsL : List ByteArray := ByteArray.empty :: (keyL 9).map (·.2)
theorem needsP_mem (s : ByteArray) : needsP s ∈ textsL := by
  unfold needsP textsL
  cases h : (keyL 9).find? fun x => decide (s = x.1) with
  | none => simp
  | some x => exact List.mem_cons_of_mem _ (List.mem_map.2 ⟨x, List.mem_of_find?_eq_some h, rfl⟩)
theorem texts_ok : textsL.all (fun t => decide (t.size < 1000) && t.data.toList.all (fun b => decide (b.toNat < 128)) && decide (Lib.fields t.data.toList = fieldsL t.data.toList)) = true := by decide +kernel
theorem needsP_ok (s : ByteArray) : (needsP s).size < 1000 ∧ (needsP s).data.toList.all (fun b => decide (b.toNat < 128)) = true ∧ Lib.fields (needsP s).data.toList = fieldsL (needsP s).data.toList := by
  have := List.all_eq_true.1 texts_ok _ (needsP_mem s)
  simp only [Bool.and_eq_true, decide_eq_true_eq] at this
  exact ⟨this.1.1, this.1.2, this.2⟩
/-- what is left, in rising order -/
def needsQ (s : ByteArray) : List ByteArray := (fieldsS (needsP s)).filter fun x => !decide (x = s)
theorem needs_known : (keyL 9).all (fun x => decide (needsQ x.1 = needsL x.1) && decide ((needsL x.1).Pairwise fun a b => leB a.data.toList b.data.toList = true)) = true := by decide +kernel
theorem needs_not {s : ByteArray} (h : s ∉ (keyL 9).map (·.1)) : needsL s = [] := by
  have hk : (keyL 9).map (·.1) = [str [108, 105], str [117, 108], str [111, 108], str [109, 101, 110, 117], str [100, 116], str [100, 100], str [100, 108], str [99, 111, 108]] ++ moreL := by decide +kernel
  rw [hk] at h
  unfold moreL at h
  simp only [List.mem_append, List.mem_cons, List.not_mem_nil, or_false, not_or] at h
  obtain ⟨⟨h1, h2, h3, h4, h5, h6, h7, h8⟩, g1, g2, g3, g4, g5, g6, g7, g8, g9⟩ := h
  unfold needsL needsT
  simp only [h1, h2, h3, h4, h5, h6, h7, h8, g1, g2, g3, g4, g5, g6, g7, g8, g9, if_false]
  rfl
theorem needs_eq (s : ByteArray) : srt (needsQ s) = needsL s := by
  by_cases h : s ∈ (keyL 9).map (·.1)
  · obtain ⟨x, hx, rfl⟩ := List.mem_map.1 h
    have := List.all_eq_true.1 needs_known x hx
    rw [Bool.and_eq_true] at this
    rw [of_decide_eq_true this.1]
    exact (srt_eq (List.Perm.refl _) (of_decide_eq_true this.2)).symm
  · rw [needs_not h]
    have : needsP s = ByteArray.empty := by
      unfold needsP
      have : (keyL 9).find? (fun x => decide (s = x.1)) = none := by
        rw [List.find?_eq_none]
        intro x hx e
        rw [decide_eq_true_iff] at e
        exact h (List.mem_map.2 ⟨x, hx, e.symm⟩)
      rw [this]; rfl
    have h0 : fieldsS ByteArray.empty = [] := rfl
    unfold needsQ
    rw [this, h0]
    simp [srt]

end Go.Proofs.YteikagdinecfoaaGreatDoor.Ne
