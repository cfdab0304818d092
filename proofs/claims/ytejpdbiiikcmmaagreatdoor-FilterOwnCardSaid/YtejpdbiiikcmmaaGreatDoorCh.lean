/- What is wrong with a policy's elements: the program's elementsRight; globalRight. -/
import Derived.Test.YtejpdbiiikcmmaaGreatDoorCk
import Derived.Laws.OwnMore
import Derived.Shelf.SlicesE.DeleteFunc
import Derived.Deep.RegionHeld3
import Derived.Deep.DrawnRows
import Derived.Lib.RowBridge
import Derived.Test.YtejpdbiiikcmmaaGreatDoorCs
set_option linter.unusedVariables false
set_option linter.unusedSimpArgs false
namespace Go.Proofs.YtejpdbiiikcmmaaGreatDoor.Er
open Go.RowKit Lb Gr Pd Fl Go.Proofs.YtejpdbiiikcmmaaGreatDoor.Pm Bk Is Sl Ha Rm Rn Ro Go.Proofs.YtejpdbiiikcmmaaGreatDoor.Ck
attribute [local go_sem ↓] Go.wp_at_zero Go.wp_at_succ

theorem rgi {a b : Int} (h : b = a) : Ending.returned (.int .i64 a) = .returned (.int .i64 b) := by rw [h]
set_option maxHeartbeats 8000000 in
set_option maxRecDepth 100000 in
theorem elementsRightC (x : Vs) (p : PolD) (w : World) (ht : Tab w) (h : RdP w 0 w.heap.size x p) (hok : OkE p.els) : Calls Tryz.prog 85 #[polV x p] w fun e w' => e = .returned (.int .i64 (elsI p)) ∧ Below w.heap.size w w' := by
  obtain ⟨A1, c1, A2, c2, A3, c3, A4, c4, rfl, q1, q2, q3, q4, q5, q6, q7, q8⟩ := h.form
  have HRD : Hid (∀ W, Below w.heap.size w W → kdE.rd W 0 w.heap.size (.slice A1 p.els.length c1) p.els) := Lib.hid fun W hW => kdE.stay h.1 (stay_below hW (Nat.le_refl _))
  obtain ⟨hl, hw⟩ := hok
  have HM : Hid (∀ W k (hk : k < p.els.length) A5 c5, Below w.heap.size w W → kdR.rd W 0 W.heap.size (.slice A5 p.els[k].rules.length c5) p.els[k].rules → Calls Tryz.prog 158 #[.slice A5 p.els[k].rules.length c5] W fun e w' => e = .returned (.bool (rulesB p.els[k].rules)) ∧ Below W.heap.size W w') :=
    Lib.hid fun W k hk A5 c5 hW hu => rulesMayC A5 _ c5 p.els[k].rules W (ht.below hW) hu (hw k hk)
  have HH : Hid (∀ W k (hk : k < p.els.length), Below w.heap.size w W → Calls Tryz.prog 69 #[.agg #[.slice A1 k c1, .slice none 0 0, .slice none 0 0, .bool false, .slice none 0 0, .int .i64 0, .int .i64 0], .string p.els[k].name] W fun e w' => e = .returned (.bool (hasE (p.els.take k) p.els[k].name)) ∧ Below W.heap.size W w') :=
    Lib.hid fun W k hk hW => hasC A1 none none none k c1 0 0 0 0 0 0 false 0 0 p.els[k].name (p.els.take k) W (kdE.wide (fmE.rd_take (kdE.stay h.1 (stay_below hW (Nat.le_refl _))) (Nat.le_of_lt hk)) (Nat.le_refl _) hW.size) (by omega)
  have HI : Hid (∀ W s, Below w.heap.size w W → Calls Tryz.prog 116 #[.string s, .int .i64 15] W fun e w' => e = .returned (.bool (inA s)) ∧ Below W.heap.size W w') := Lib.hid fun W s hW => nIn s 15 W (ht.below hW)
  have HB : Hid (elsI p = elsFrom inA (p.els.take 0) (p.els.drop 0)) := Lib.hid rfl
  clear h hw ht
  unfold polV
  go_enter Tryz.func85, Tryz.ntmps85
  go_wp2
  go_loopw [2, 8] (fun v2 i wr => ∃ k : Nat, k ≤ p.els.length ∧ i = .int .i64 k ∧ v2 = .int .i64 0 ∧ Bl wr w.heap.size 27 [.slice A1 p.els.length c1, .slice A2 p.glob.length c2, .slice A3 p.schemes.length c3, .bool p.rel, .slice A4 p.drop.length c4, .int .i64 p.depth, .int .i64 p.window] ∧ Below w.heap.size w wr ∧ Hid (elsI p = elsFrom inA (p.els.take k) (p.els.drop k))) (fun _ i _ => p.els.length - (intOf i).toNat)
  case atStart => exact ⟨0, by omega, rfl, rfl, Bl.new w _ _ rfl, (Below.refl _ _).alloc (Nat.le_refl _) _, HB⟩
  case round =>
    obtain ⟨k, hk, rfl, rfl, m1, hnx, hst⟩ := hrel
    by_cases hlt : k < p.els.length
    · obtain ⟨b, off, u, rfl, hb1, hb2, hu, hcell⟩ := fmE.rd_at (HRD.out _ hnx) hlt
      have hu' : kdR.rd wr 0 w.heap.size u p.els[k].rules := hu
      clear hu
      have e0 := hcell 0 _ rfl
      have e1 := hcell 1 _ rfl
      rw [show off + (k * fmE.size + 0) = off + k * 2 from rfl] at e0
      rw [show off + (k * fmE.size + 1) = off + k * 2 + 1 from by show off + (k * 2 + 1) = _; omega] at e1
      obtain ⟨A5, c5, rfl, _⟩ := fmR.rd_form hu'
      clear hcell
      have HU : Hid (∀ W, Below wr.heap.size wr W → kdR.rd W 0 W.heap.size (.slice A5 p.els[k].rules.length c5) p.els[k].rules) := Lib.hid fun W hW => kdR.wide (rd_below hu' hW hnx.size) (Nat.le_refl _) (Nat.le_trans hnx.size hW.size)
      clear hu'
      obtain ⟨W0, hW0⟩ : ∃ W, W = wr.alloc (.cells #[.string p.els[k].name, .slice A5 p.els[k].rules.length c5] 59) := ⟨_, rfl⟩
      have hb0 : Below wr.heap.size wr W0 := hW0 ▸ (Below.refl _ _).alloc (Nat.le_refl _) _
      have k5 : Bl W0 wr.heap.size 59 [.string p.els[k].name, .slice A5 p.els[k].rules.length c5] := hW0 ▸ Bl.new wr _ _ rfl
      have m2 := m1.below hb0
      have y0 := k5.cell 0 rfl
      have z0 := m2.cell 0 rfl
      have hb9 : Below w.heap.size w W0 := hnx.trans (hb0.mono hnx.size)
      have hz9 := hb9.size
      have HX := Lib.hid hW0
      have hk0 : (0 : Int) ≤ (k : Int) := by omega
      have hkc : k ≤ c1 := by omega
      have hkc2 : (k : Int) ≤ (c1 : Int) := by omega
      clear hW0
      obtain ⟨s, hs⟩ : ∃ s, s = p.els[k].name := ⟨_, rfl⟩
      go_upto_region 4 with fail
      rw [← HX.out]
      cases hin : inA p.els[k].name
      · have hr : Hid (elsI p = 140) := Lib.hid (by rw [hst.out]; exact els_bad hlt (.inl hin))
        have HI2 : Hid (∀ W, Below w.heap.size w W → Calls Tryz.prog 116 #[.string p.els[k].name, .int .i64 15] W fun e w' => e = .returned (.bool false) ∧ Below W.heap.size W w') := Lib.hid fun W hW => hin ▸ HI.out W _ hW
        clear hin
        first | (go_region_with (first | (go_at_call 116; refine (HI2.out _ (by exact hb9.drew)).mono ?_; rintro e w1 ⟨rfl, hb3⟩; have k6 := (k5.below (w' := W0.drew) (drw W0 1)).below hb3; have m3 := (m2.below (w' := W0.drew) (drw W0 1)).below hb3; have y1 := k6.cell 0 rfl; have z1 := m3.cell 0 rfl))) | fail
        all_goals (
          go_wp2
          go_ret
          exact ⟨rgi hr.out, hb9.drew.trans (hb3.mono hb9.size)⟩)
      · have HI2 : Hid (∀ W, Below w.heap.size w W → Calls Tryz.prog 116 #[.string p.els[k].name, .int .i64 15] W fun e w' => e = .returned (.bool true) ∧ Below W.heap.size W w') := Lib.hid fun W hW => hin ▸ HI.out W _ hW
        have HIN := Lib.hid hin
        clear hin
        cases hha : hasE (p.els.take k) p.els[k].name
        · have HH2 : Hid (∀ W, Below w.heap.size w W → Calls Tryz.prog 69 #[.agg #[.slice (some ⟨b, off, none⟩) k c1, .slice none 0 0, .slice none 0 0, .bool false, .slice none 0 0, .int .i64 0, .int .i64 0], .string p.els[k].name] W fun e w' => e = .returned (.bool false) ∧ Below W.heap.size W w') := Lib.hid fun W hW => hha ▸ HH.out W k hlt hW
          have HHA := Lib.hid hha
          clear hha
          first | (go_region_with (first
              | (go_at_call 116; refine (HI2.out _ (by exact hb9.drew)).mono ?_; rintro e w1 ⟨rfl, hb3⟩; have hb4 := hb9.drew.trans (hb3.mono hb9.size); have k6 := (k5.below (w' := W0.drew) (drw W0 1)).below hb3; have m3 := (m2.below (w' := W0.drew) (drw W0 1)).below hb3; have y1 := k6.cell 0 rfl; have z1 := m3.cell 0 rfl)
              | (go_at_call 69; refine (HH2.out _ (by exact hb4)).mono ?_; rintro e w2 ⟨rfl, hb5⟩; have k7 := k6.below hb5; have m4 := m3.below hb5; have y2 := k7.cell 0 rfl; have z2 := m4.cell 0 rfl))) | fail
          all_goals (
            have hb6 := hb4.trans (hb5.mono hb4.size)
            have y3 := k7.cell 1 rfl
            have HU2 := Lib.hid (HM.out w2 k hlt A5 c5 hb6 (HU.out _ (hb0.drew.trans ((hb3.trans (hb5.mono hb3.size)).mono hb0.size))))
            cases hrb : rulesB p.els[k].rules
            · have hr : Hid (elsI p = 141) := Lib.hid (by rw [hst.out]; exact els_rules hlt HIN.out HHA.out hrb)
              rw [hrb] at HU2
              clear hrb
              go_wp2_with (go_at_call 158; refine HU2.out.mono ?_; rintro e w3 ⟨rfl, hb7⟩)
              go_ret
              exact ⟨rgi hr.out, hb6.trans (hb7.mono hb6.size)⟩
            · have hr : Hid (elsI p = elsFrom inA (p.els.take (k + 1)) (p.els.drop (k + 1))) := Lib.hid (by rw [hst.out]; exact els_go hlt HIN.out HHA.out hrb)
              rw [hrb] at HU2
              clear hrb
              go_wp2_with (go_at_call 158; refine HU2.out.mono ?_; rintro e w3 ⟨rfl, hb7⟩)
              go_roundw
              case rel => exact ⟨k + 1, by omega, by go_num, rfl, m4.below hb7, hb6.trans (hb7.mono hb6.size), hr⟩
              case measure => simp [intOf] <;> omega)
        · have hr : Hid (elsI p = 140) := Lib.hid (by rw [hst.out]; exact els_bad hlt (.inr hha))
          have HH2 : Hid (∀ W, Below w.heap.size w W → Calls Tryz.prog 69 #[.agg #[.slice (some ⟨b, off, none⟩) k c1, .slice none 0 0, .slice none 0 0, .bool false, .slice none 0 0, .int .i64 0, .int .i64 0], .string p.els[k].name] W fun e w' => e = .returned (.bool true) ∧ Below W.heap.size W w') := Lib.hid fun W hW => hha ▸ HH.out W k hlt hW
          clear hha
          first | (go_region_with (first
              | (go_at_call 116; refine (HI2.out _ (by exact hb9.drew)).mono ?_; rintro e w1 ⟨rfl, hb3⟩; have hb4 := hb9.drew.trans (hb3.mono hb9.size); have k6 := (k5.below (w' := W0.drew) (drw W0 1)).below hb3; have m3 := (m2.below (w' := W0.drew) (drw W0 1)).below hb3; have y1 := k6.cell 0 rfl; have z1 := m3.cell 0 rfl)
              | (go_at_call 69; refine (HH2.out _ (by exact hb4)).mono ?_; rintro e w2 ⟨rfl, hb5⟩; have k7 := k6.below hb5; have m4 := m3.below hb5; have y2 := k7.cell 0 rfl; have z2 := m4.cell 0 rfl))) | fail
          all_goals (
            go_wp2
            go_ret
            exact ⟨rgi hr.out, hb4.trans (hb5.mono hb4.size)⟩)
    · have hr : Hid (elsI p = 0) := Lib.hid (by rw [hst.out]; exact els_end (by omega))
      go_wp2
      go_ret
      exact ⟨rgi hr.out, hnx⟩

set_option maxHeartbeats 1000000 in
set_option maxRecDepth 100000 in
theorem globalRightC (x : Vs) (p : PolD) (w : World) (ht : Tab w) (h : RdP w 0 w.heap.size x p) (hok : OkR p.glob) : Calls Tryz.prog 86 #[polV x p] w fun e w' => e = .returned (.int .i64 (globI p)) ∧ Below w.heap.size w w' := by
  obtain ⟨A1, c1, A2, c2, A3, c3, A4, c4, rfl, q1, q2, q3, q4, q5, q6, q7, q8⟩ := h.form
  obtain ⟨W0, hW0⟩ : ∃ W, W = w.alloc (.cells #[.slice A1 p.els.length c1, .slice A2 p.glob.length c2, .slice A3 p.schemes.length c3, .bool p.rel, .slice A4 p.drop.length c4, .int .i64 p.depth, .int .i64 p.window] 27) := ⟨_, rfl⟩
  have hb0 : Below w.heap.size w W0 := hW0 ▸ (Below.refl _ _).alloc (Nat.le_refl _) _
  have hc := Lib.hid (rulesMayC A2 _ c2 p.glob W0 (ht.below hb0) (kdR.wide (rd_below h.2.1 hb0 (Nat.le_refl _)) (Nat.le_refl _) hb0.size) hok)
  have HX := Lib.hid hW0
  clear h ht hok hW0
  unfold polV
  cases hr : rulesB p.glob
  · have hg : Hid (globI p = 141) := Lib.hid (by unfold globI; rw [hr]; rfl)
    rw [hr] at hc
    clear hr
    go_enter Tryz.func86, Tryz.ntmps86
    go_wp2_with (go_at_call 158; rw [← HX.out]; refine hc.out.mono ?_; rintro e w3 ⟨rfl, hb7⟩)
    go_ret
    exact ⟨rgi hg.out, hb0.trans (hb7.mono hb0.size)⟩
  · have hg : Hid (globI p = 0) := Lib.hid (by unfold globI; rw [hr]; rfl)
    rw [hr] at hc
    clear hr
    go_enter Tryz.func86, Tryz.ntmps86
    go_wp2_with (go_at_call 158; rw [← HX.out]; refine hc.out.mono ?_; rintro e w3 ⟨rfl, hb7⟩)
    go_ret
    exact ⟨rgi hg.out, hb0.trans (hb7.mono hb0.size)⟩
end Go.Proofs.YtejpdbiiikcmmaaGreatDoor.Er

/- What elements need: the program's needs and Needs. -/
set_option linter.unusedVariables false
set_option linter.unusedSimpArgs false
namespace Go.Proofs.YtejpdbiiikcmmaaGreatDoor.Ne
open Go.RowKit Lb Gr Pd Fl Go.Proofs.YtejpdbiiikcmmaaGreatDoor.Pm Bk Is Sl Go.Proofs.YtejpdbiiikcmmaaGreatDoor.Mp Go.Proofs.YtejpdbiiikcmmaaGreatDoor.So
attribute [local go_sem ↓] Go.wp_at_zero Go.wp_at_succ

def tabT : ByteArray := str [116, 97, 98, 108, 101, 32, 116, 98, 111, 100, 121, 32, 116, 100, 32, 116, 114]
def moreT : ByteArray := str [116, 97, 98, 108, 101, 32, 99, 97, 112, 116, 105, 111, 110, 32, 99, 111, 108, 103, 114, 111, 117, 112, 32, 116, 104, 101, 97, 100, 32, 116, 98, 111, 100, 121, 32, 116, 102, 111, 111, 116, 32, 116, 114, 32, 116, 100, 32, 116, 104]
def moreL : List ByteArray := [str [116, 97, 98, 108, 101], str [99, 97, 112, 116, 105, 111, 110], str [99, 111, 108, 103, 114, 111, 117, 112], str [116, 104, 101, 97, 100], str [116, 98, 111, 100, 121], str [116, 102, 111, 111, 116], str [116, 114], str [116, 100], str [116, 104]]
theorem more_fields : fieldsS moreT = moreL := by decide +kernel
theorem more_lib : Lib.fields moreT.data.toList = fieldsL moreT.data.toList := by decide +kernel
def baseK : List (ByteArray × ByteArray) := [(str [108, 105], str [117, 108]), (str [117, 108], str [108, 105]), (str [111, 108], str [108, 105]), (str [109, 101, 110, 117], str [108, 105]), (str [100, 116], str [100, 100, 32, 100, 108]), (str [100, 100], str [100, 108]), (str [100, 108], str [100, 100]), (str [99, 111, 108], str [99, 111, 108, 103, 114, 111, 117, 112, 32, 116, 97, 98, 108, 101, 32, 116, 98, 111, 100, 121, 32, 116, 100, 32, 116, 114])]
def keyL (k : Nat) : List (ByteArray × ByteArray) := baseK ++ (moreL.take k).map fun n => (n, tabT)
def valL (l : List (ByteArray × ByteArray)) : List (ByteArray × Value) := l.map fun x => (x.1, Value.string x.2)
theorem look_no {s : ByteArray} {l : List (ByteArray × ByteArray)} (h : (l.any fun x => decide (s = x.1)) = false) : lookL s (valL l) = none := by
  induction l with
  | nil => rfl
  | cons x r ih =>
    rw [List.any_cons, Bool.or_eq_false_iff] at h
    show (if s = x.1 then some (Value.string x.2) else lookL s (valL r)) = none
    rw [if_neg (of_decide_eq_false h.1)]
    exact ih h.2
/-- the text of a name -/
def needsP (s : ByteArray) : ByteArray := (((keyL 9).find? fun x => decide (s = x.1)).map (·.2)).getD ByteArray.empty
theorem look_val (s : ByteArray) (l : List (ByteArray × ByteArray)) : (lookL s (valL l)).getD (.string ByteArray.empty) = .string (((l.find? fun x => decide (s = x.1)).map (·.2)).getD ByteArray.empty) := by
  induction l with
  | nil => rfl
  | cons x r ih =>
    show (if s = x.1 then some (Value.string x.2) else lookL s (valL r)).getD _ = _
    by_cases h : s = x.1
    · rw [if_pos h, List.find?_cons_of_pos (by simpa using h)]; rfl
    · rw [if_neg h, List.find?_cons_of_neg (by simpa using h)]; exact ih
theorem valL_app (a b : List (ByteArray × ByteArray)) : valL (a ++ b) = valL a ++ valL b := by unfold valL; rw [List.map_append]
theorem key_new : ∀ k, k < 9 → ((keyL k).any fun x => decide (moreL[k]! = x.1)) = false := by decide +kernel
theorem key_succ {k : Nat} (h : k < moreL.length) : keyL (k + 1) = keyL k ++ [(moreL[k], tabT)] := by
  unfold keyL
  rw [List.take_succ_eq_append_getElem h, List.map_append, List.append_assoc]
  rfl

/-- behind some stores -/
structure NS (w W : World) (L : List (ByteArray × Value)) : Prop where
  m : MapS W w.heap.size L
  b : Below w.heap.size w W
theorem NS.step {w W W' : World} {L L' : List (ByteArray × Value)} (h : NS w W L) (hm : MapS W' w.heap.size L') (hg : W.grownBy W' (some w.heap.size)) : NS w W' L' :=
  ⟨hm, h.b.grown hg h.b.size (fun k e => by injection e with e; omega)⟩
theorem keep_map {wf wr w9 : World} {lo b : Nat} (h : ∀ k, lo ≤ k → k < wf.heap.size → wr.heap[k]? = wf.heap[k]?) (hb : b < lo) (hg : wr.grownBy w9 (some b)) : ∀ k, lo ≤ k → k < wf.heap.size → w9.heap[k]? = wf.heap[k]? := by
  intro k h1 h2
  have h3 := h k h1 h2
  have hk : k < wr.heap.size := by
    by_cases hx : k < wr.heap.size
    · exact hx
    · rw [Array.getElem?_eq_none (by omega), Array.getElem?_eq_getElem h2] at h3
      cases h3
  exact (hg.block k hk (fun e => by injection e with e; omega)).trans h3
/-- a store of a new key by 'm[k] = v' -/
theorem wpList_update_new {P : Program} (w : World) {ops : Array Oper} {rest : List Oper} {o : Oper} {a : Act} {Q : Exit → Act → World → Prop}
    (hg : o.guard = none) (m x v : Operand) (t : TypeId) (hop : o.op = Op.mapUpdate t m x v)
    (k e : TypeId) (ht : P.underlying t = some (.map k e)) (hk : P.underlying k = some .string) (b : Nat) (L : List (ByteArray × Value)) (s : ByteArray) (val : Value)
    (hm : a.eval m = .map (some b)) (hown : MapS w b L) (hx : a.eval x = .string s) (hv : a.eval v = val) (hn : lookL s L = none)
    (hK : ∀ w', MapS w' b (L ++ [(s, val)]) → w.grownBy w' (some b) → wpList P ops Q rest (a.put o.dst undef) w') :
    wpList P ops Q (o :: rest) a w := by
  refine wpList_plain hg fun K' hK' => ?_
  obtain ⟨w', hrun, r1, r2⟩ := run_put ht hk hown (v := val) hn
  unfold Oper.wp
  simp [execOp, hop, hm, hx, hv, hrun, Result.andThen]
  exact hK' _ _ (hK w' r1 r2)

set_option maxHeartbeats 4000000 in
set_option maxRecDepth 100000 in
theorem needsC (w : World) (ht : Tab w) : Calls Tryz.prog 211 #[] w fun e w' => ∃ b, e = .returned (.map (some b)) ∧ MapS w' b (valL (keyL 9)) ∧ Below w.heap.size w w' := by
  have HF : Hid (∀ W, Below w.heap.size w W → Calls Tryz.prog 147 #[.string moreT] W fun e w' => ∃ A c G, e = .returned (.slice A 9 c) ∧ kdW.own w' W.heap.size (.slice A 9 c) moreL G ∧ Below W.heap.size W w') := Lib.hid fun W hW => (libFieldsC moreT W (ht.below hW) (by decide) (by decide +kernel) more_lib).mono (by rw [more_fields]; exact fun _ _ h => h)
  clear ht
  have hmm := @run_makeMap Tryz.prog
  have hb00 := Below.refl w.heap.size w
  go_enter Tryz.func211, Tryz.ntmps211
  go_upto_region 1 with fail
  have i0 : Hid (NS w (w.alloc (.map #[] 0)) []) := Lib.hid ⟨MapS.made w, hb00.alloc (Nat.le_refl _) _⟩
  go_upto_region 2 with (first

    | (refine wpList_insert_new _ rfl (.tmp 4) (.const (.string (str [108, 105]))) (.const (.string (str [117, 108]))) 219 rfl 9 9 Tryz.underlying219 Tryz.underlying9 w.heap.size (valL (baseK.take 0)) (str [108, 105]) (.string (str [117, 108])) rfl i0.out.1 rfl rfl (look_no (by decide +kernel)) ?_; intro w1 m1 g1; have i1 : Hid (NS w w1 (valL (baseK.take 1))) := Lib.hid (i0.out.step m1 g1); clear m1 g1)
    | (refine wpList_insert_new _ rfl (.tmp 4) (.const (.string (str [117, 108]))) (.const (.string (str [108, 105]))) 219 rfl 9 9 Tryz.underlying219 Tryz.underlying9 w.heap.size (valL (baseK.take 1)) (str [117, 108]) (.string (str [108, 105])) rfl i1.out.1 rfl rfl (look_no (by decide +kernel)) ?_; intro w2 m2 g2; have i2 : Hid (NS w w2 (valL (baseK.take 2))) := Lib.hid (i1.out.step m2 g2); clear m2 g2)
    | (refine wpList_insert_new _ rfl (.tmp 4) (.const (.string (str [111, 108]))) (.const (.string (str [108, 105]))) 219 rfl 9 9 Tryz.underlying219 Tryz.underlying9 w.heap.size (valL (baseK.take 2)) (str [111, 108]) (.string (str [108, 105])) rfl i2.out.1 rfl rfl (look_no (by decide +kernel)) ?_; intro w3 m3 g3; have i3 : Hid (NS w w3 (valL (baseK.take 3))) := Lib.hid (i2.out.step m3 g3); clear m3 g3)
    | (refine wpList_insert_new _ rfl (.tmp 4) (.const (.string (str [109, 101, 110, 117]))) (.const (.string (str [108, 105]))) 219 rfl 9 9 Tryz.underlying219 Tryz.underlying9 w.heap.size (valL (baseK.take 3)) (str [109, 101, 110, 117]) (.string (str [108, 105])) rfl i3.out.1 rfl rfl (look_no (by decide +kernel)) ?_; intro w4 m4 g4; have i4 : Hid (NS w w4 (valL (baseK.take 4))) := Lib.hid (i3.out.step m4 g4); clear m4 g4)
    | (refine wpList_insert_new _ rfl (.tmp 4) (.const (.string (str [100, 116]))) (.const (.string (str [100, 100, 32, 100, 108]))) 219 rfl 9 9 Tryz.underlying219 Tryz.underlying9 w.heap.size (valL (baseK.take 4)) (str [100, 116]) (.string (str [100, 100, 32, 100, 108])) rfl i4.out.1 rfl rfl (look_no (by decide +kernel)) ?_; intro w5 m5 g5; have i5 : Hid (NS w w5 (valL (baseK.take 5))) := Lib.hid (i4.out.step m5 g5); clear m5 g5)
    | (refine wpList_insert_new _ rfl (.tmp 4) (.const (.string (str [100, 100]))) (.const (.string (str [100, 108]))) 219 rfl 9 9 Tryz.underlying219 Tryz.underlying9 w.heap.size (valL (baseK.take 5)) (str [100, 100]) (.string (str [100, 108])) rfl i5.out.1 rfl rfl (look_no (by decide +kernel)) ?_; intro w6 m6 g6; have i6 : Hid (NS w w6 (valL (baseK.take 6))) := Lib.hid (i5.out.step m6 g6); clear m6 g6)
    | (refine wpList_insert_new _ rfl (.tmp 4) (.const (.string (str [100, 108]))) (.const (.string (str [100, 100]))) 219 rfl 9 9 Tryz.underlying219 Tryz.underlying9 w.heap.size (valL (baseK.take 6)) (str [100, 108]) (.string (str [100, 100])) rfl i6.out.1 rfl rfl (look_no (by decide +kernel)) ?_; intro w7 m7 g7; have i7 : Hid (NS w w7 (valL (baseK.take 7))) := Lib.hid (i6.out.step m7 g7); clear m7 g7)
    | (refine wpList_insert_new _ rfl (.tmp 4) (.const (.string (str [99, 111, 108]))) (.const (.string (str [99, 111, 108, 103, 114, 111, 117, 112, 32, 116, 97, 98, 108, 101, 32, 116, 98, 111, 100, 121, 32, 116, 100, 32, 116, 114]))) 219 rfl 9 9 Tryz.underlying219 Tryz.underlying9 w.heap.size (valL (baseK.take 7)) (str [99, 111, 108]) (.string (str [99, 111, 108, 103, 114, 111, 117, 112, 32, 116, 97, 98, 108, 101, 32, 116, 98, 111, 100, 121, 32, 116, 100, 32, 116, 114])) rfl i7.out.1 rfl rfl (look_no (by decide +kernel)) ?_; intro w8 m8 g8; have i8 : Hid (NS w w8 (valL (baseK.take 8))) := Lib.hid (i7.out.step m8 g8); clear m8 g8)
)
  have hlen : moreL.length = 9 := rfl
  go_upto_region 3 with (go_at_call 147; refine (HF.out _ i8.out.b).mono ?_; rintro e wf ⟨A, c, G, rfl, hof, hbf⟩)
  have i9 : Hid (NS w wf (valL (keyL 0))) := Lib.hid ⟨i8.out.m.below hbf, i8.out.b.trans (hbf.mono i8.out.b.size)⟩
  clear i0 i1 i2 i3 i4 i5 i6 i7
  have hrd : kdW.rd wf w8.heap.size wf.heap.size (.slice A 9 c) moreL := kdW.read hof (Nat.le_refl _) (Nat.le_refl _)
  have hz8 := i8.out.b.size
  have hz9 := hbf.size
  have hz8' := i8.out.m.lt
  have HRD : Hid (∀ W, (∀ k, w8.heap.size ≤ k → k < wf.heap.size → W.heap[k]? = wf.heap[k]?) → kdW.rd W w8.heap.size wf.heap.size (.slice A 9 c) moreL) := Lib.hid fun W h => kdW.stay hrd h
  have hof' := Lib.hid hof
  clear hrd hof i8
  go_wp2
  go_loopw [8] (fun i wr => ∃ k : Nat, k ≤ 9 ∧ i = .int .i64 k ∧ Hid (NS w wr (valL (keyL k)) ∧ ∀ k, w8.heap.size ≤ k → k < wf.heap.size → wr.heap[k]? = wf.heap[k]?)) (fun i _ => 9 - (intOf i).toNat)
  case atStart => exact ⟨0, by omega, rfl, Lib.hid ⟨i9.out, fun _ _ _ => rfl⟩⟩
  case round =>
    obtain ⟨k, hk, rfl, hst⟩ := hrel
    by_cases hlt : k < 9
    · obtain ⟨b, off, rfl, hb1, hb2, hc⟩ := rdW_at (HRD.out _ hst.out.2) (show k < moreL.length from hlt)
      have hkn := key_new k hlt
      rw [getElem!_pos moreL k hlt] at hkn
      have hks := Lib.hid (key_succ (k := k) hlt)
      have hl : Hid (lookL (moreL[k]'(show k < moreL.length from hlt)) (valL (keyL k)) = none) := Lib.hid (look_no hkn)
      clear hkn
      generalize hs : moreL[k]'(show k < moreL.length from hlt) = s at *
      have HS := Lib.hid hs
      clear hs
      go_wp2_with (refine wpList_update_new _ rfl (.tmp 12) (.tmp 13) (.const (.string tabT)) 219 rfl 9 9 Tryz.underlying219 Tryz.underlying9 w.heap.size (valL (keyL k)) s (.string tabT) rfl hst.out.1.m rfl rfl hl.out ?_; intro w9 m9 g9)
      have hn : NS w w9 (valL (keyL (k + 1))) := by
        rw [hks.out, valL_app]
        exact hst.out.1.step m9 g9
      have hf := keep_map hst.out.2 (by omega) g9
      go_roundw
      case rel => exact ⟨k + 1, by omega, by go_num, Lib.hid ⟨hn, hf⟩⟩
      case measure => simp [intOf] <;> omega
    · obtain rfl : k = 9 := by omega
      go_wp2
      go_ret
      exact ⟨_, rfl, hst.out.1.m, hst.out.1.b⟩

/-- what the texts are -/
def textsL : List ByteArray := ByteArray.empty :: (keyL 9).map (·.2)
theorem needsP_mem (s : ByteArray) : needsP s ∈ textsL := by
  unfold needsP textsL
  cases h : (keyL 9).find? fun x => decide (s = x.1) with
  | none => simp
  | some x => exact List.mem_cons_of_mem _ (List.mem_map.2 ⟨x, List.mem_of_find?_eq_some h, rfl⟩)
theorem texts_ok : textsL.all (fun t => decide (t.size < 1000) && t.data.toList.all (fun b => decide (b.toNat < 128)) && decide (Lib.fields t.data.toList = fieldsL t.data.toList)) = true := by decide +kernel
theorem needsP_ok (s : ByteArray) : (needsP s).size < 1000 ∧ (needsP s).data.toList.all (fun b => decide (b.toNat < 128)) = true ∧ Lib.fields (needsP s).data.toList = fieldsL (needsP s).data.toList := by
  have := List.all_eq_true.1 texts_ok _ (needsP_mem s)
  simp only [Bool.and_eq_true, decide_eq_true_eq] at this
  exact ⟨this.1.1, this.1.2, this.2⟩
/-- what is left, in rising order -/
def needsQ (s : ByteArray) : List ByteArray := (fieldsS (needsP s)).filter fun x => !decide (x = s)
theorem needs_known : (keyL 9).all (fun x => decide (needsQ x.1 = needsL x.1) && decide ((needsL x.1).Pairwise fun a b => leB a.data.toList b.data.toList = true)) = true := by decide +kernel
theorem needs_not {s : ByteArray} (h : s ∉ (keyL 9).map (·.1)) : needsL s = [] := by
  have hk : (keyL 9).map (·.1) = [str [108, 105], str [117, 108], str [111, 108], str [109, 101, 110, 117], str [100, 116], str [100, 100], str [100, 108], str [99, 111, 108]] ++ moreL := by decide +kernel
  rw [hk] at h
  unfold moreL at h
  simp only [List.mem_append, List.mem_cons, List.not_mem_nil, or_false, not_or] at h
  obtain ⟨⟨h1, h2, h3, h4, h5, h6, h7, h8⟩, g1, g2, g3, g4, g5, g6, g7, g8, g9⟩ := h
  unfold needsL needsT
  simp only [h1, h2, h3, h4, h5, h6, h7, h8, g1, g2, g3, g4, g5, g6, g7, g8, g9, if_false]
  rfl
theorem needs_eq (s : ByteArray) : srt (needsQ s) = needsL s := by
  by_cases h : s ∈ (keyL 9).map (·.1)
  · obtain ⟨x, hx, rfl⟩ := List.mem_map.1 h
    have := List.all_eq_true.1 needs_known x hx
    rw [Bool.and_eq_true] at this
    rw [of_decide_eq_true this.1]
    exact (srt_eq (List.Perm.refl _) (of_decide_eq_true this.2)).symm
  · rw [needs_not h]
    have : needsP s = ByteArray.empty := by
      unfold needsP
      have : (keyL 9).find? (fun x => decide (s = x.1)) = none := by
        rw [List.find?_eq_none]
        intro x hx e
        rw [decide_eq_true_iff] at e
        exact h (List.mem_map.2 ⟨x, hx, e.symm⟩)
      rw [this]; rfl
    have h0 : fieldsS ByteArray.empty = [] := rfl
    unfold needsQ
    rw [this, h0]
    simp [srt]

end Go.Proofs.YtejpdbiiikcmmaaGreatDoor.Ne

/- The program's Needs: what an element needs, in rising order. -/
set_option linter.unusedVariables false
set_option linter.unusedSimpArgs false
namespace Go.Proofs.YtejpdbiiikcmmaaGreatDoor.Nd
open Go.RowKit Lb Gr Pd Fl Go.Proofs.YtejpdbiiikcmmaaGreatDoor.Pm Bk Is Sl Go.Proofs.YtejpdbiiikcmmaaGreatDoor.Mp Go.Proofs.YtejpdbiiikcmmaaGreatDoor.So Go.Proofs.YtejpdbiiikcmmaaGreatDoor.Ne Go.Lib Go.Sort
attribute [local go_sem ↓] Go.wp_at_zero Go.wp_at_succ

theorem libFieldsX (t : ByteArray) (w : World) (ht : Tab w) (hs : t.size < 4294967281) (ha : t.data.toList.all (fun b => decide (b.toNat < 128)) = true) (hf : Lib.fields t.data.toList = fieldsL t.data.toList) : Calls Tryz.prog 147 #[.string t] w fun e w' =>
    e = .returned (.slice (some ⟨w.heap.size, 0, none⟩) (fieldsL t.data.toList).length (fieldsL t.data.toList).length) ∧ w' = w.alloc (.cells ((fieldsL t.data.toList).map encStr).toArray 9) := by
  refine (Tryz.strings_Fields t w hs ?_ ht).mono ?_
  · intro j b hb
    rw [List.all_eq_true] at ha
    simpa using ha b (List.mem_of_getElem? hb)
  · rintro e w' ⟨rfl, rfl⟩
    rw [hf]
    exact ⟨rfl, rfl⟩

set_option maxRecDepth 100000 in
theorem gives (s : ByteArray) (x : List UInt8) (B : Nat) (W : World) (hc : W.cell? ⟨B, 0, none⟩ = some (.string s)) :
    FnGives Tryz.prog 213 #[.pointer (some ⟨B, 0, none⟩)] #[encStr x] (.bool (decide (str x = s))) W := by
  show Calls Tryz.prog 213 #[.string (str x), .pointer (some ⟨B, 0, none⟩)] W _
  generalize str x = y
  go_enter Tryz.func213, Tryz.ntmps213
  go_wp2
  go_ret
  exact ⟨(by rw [eq_str]; rfl), 0, rfl⟩

theorem filter_str (l : List (List UInt8)) (s : ByteArray) : ((l.filter fun x => !decide (str x = s)).map str) = (l.map str).filter fun x => !decide (x = s) := by
  rw [List.filter_map]; rfl
/-- slices.DeleteFunc, on the row that Fields has made -/
theorem delete (l : List (List UInt8)) (s : ByteArray) (B : Nat) (w0 : World) (hB : B < w0.heap.size) (hcell : w0.cell? ⟨B, 0, none⟩ = some (.string s)) (hl : l.length ≤ 9223372036854775807) (hm : l.length ≤ maxLen) :
    Calls Tryz.prog 212 #[.slice (some ⟨w0.heap.size, 0, none⟩) l.length l.length, .func (.func 213) #[] #[.pointer (some ⟨B, 0, none⟩)]] (w0.alloc (.cells (l.map encStr).toArray 9)) fun e w' =>
      e = .returned (.slice (some ⟨w0.heap.size, 0, none⟩) (l.filter fun x => !decide (str x = s)).length l.length) ∧ Own w' w0.heap.size (.slice (some ⟨w0.heap.size, 0, none⟩) (l.filter fun x => !decide (str x = s)).length l.length) ((l.filter fun x => !decide (str x = s)).map str) ∧ Below w0.heap.size w0 w' := by
  have hblk : (w0.alloc (.cells (l.map encStr).toArray 9)).heap[w0.heap.size]? = some (.cells (l.map encStr).toArray 9 (0, 0)) := heap_alloc_new w0 _
  have hc2 : (w0.alloc (.cells (l.map encStr).toArray 9)).cell? ⟨B, 0, none⟩ = some (.string s) := (World.cell?_of_block (w := w0) (a := ⟨B, 0, none⟩) (Below.heap_alloc w0 _ B hB)).trans hcell
  have hH : Holds encStr (w0.alloc (.cells (l.map encStr).toArray 9)) w0.heap.size 0 l.toArray := holds_of_block hblk (by show (l.map encStr).take l.length = _; exact List.take_of_length_le (by simp))
  have hcon := Tryz.slices_DeleteFunc (α := List UInt8) encStr (fun _ => rfl) (fun x => decide (str x = s)) 213 #[.pointer (some ⟨B, 0, none⟩)] (enters_of Tryz.func213 (by kernel_rfl) rfl) [] Tryz.zeroValue9 w0.heap.size 0 l.length l.toArray (w0.alloc (.cells (l.map encStr).toArray 9))
    (fun W x hb => gives s x B W ((hb.cell (p := ⟨B, 0, none⟩) (by simp; omega)).trans hc2))
    (fun n os dk x _ => gives s x B _ (by
      unfold sortWorld
      rw [cell?_grow _ _ _ (by show B < (putRow _ _ _ _ _).heap.size; rw [size_putRow]; simp; omega), cell?_putRow_other _ _ _ _ _ _ (Or.inl (by show B ≠ w0.heap.size; omega))]
      exact hc2)) hH (by simpa using hl) (by simp)
  rw [show l.toArray.size = l.length from List.size_toArray] at hcon
  refine hcon.mono ?_
  rintro e w' ⟨rfl, q, rfl⟩
  have e1 : l.toArray.toList = l := rfl
  rw [e1]
  generalize hr : (l.filter fun x => !decide (str x = s)) = r
  have hrl : r.length ≤ l.length := by rw [← hr]; exact List.length_filter_le _ _
  have hgr := grownBy_sorted (w := w0.alloc (.cells (l.map encStr).toArray 9)) (g := w0.heap.size) (n := q) (os := #[]) (r ++ List.replicate (l.length - r.length) ([] : List UInt8)).toArray
  have hhp := heap_sorted (w := w0.alloc (.cells (l.map encStr).toArray 9)) (g := w0.heap.size) (n := q) (os := #[]) (r ++ List.replicate (l.length - r.length) ([] : List UInt8)).toArray hblk
  rw [Sort.grow_empty] at hgr hhp
  refine ⟨rfl, own_str.2 ⟨by simp, .inr ⟨w0.heap.size, l.length, _, rfl, Nat.le_refl _, hhp, hrl, hm, by simp [Sort.putCells], ?_⟩⟩, ((Below.refl _ _).alloc (Nat.le_refl _) _).grown hgr (by simp) (fun k e => by injection e with e; omega)⟩
  have h1 := take_putCells (l.map encStr).toArray (r ++ List.replicate (l.length - r.length) ([] : List UInt8)) (by simp; omega)
  have h2 := congrArg (List.take r.length) h1
  rw [List.take_take, List.map_append, List.take_append_of_le_length (by simp)] at h2
  rw [show min r.length (r ++ List.replicate (l.length - r.length) ([] : List UInt8)).length = r.length from by rw [List.length_append]; omega] at h2
  rw [Nat.mul_one, h2]
  exact List.take_of_length_le (by simp)

set_option maxHeartbeats 4000000 in
set_option maxRecDepth 100000 in
theorem NeedsC (s : ByteArray) (w : World) (ht : Tab w) : Calls Tryz.prog 159 #[.string s] w fun e w' =>
    ∃ A c G, e = .returned (.slice A (needsL s).length c) ∧ kdW.own w' w.heap.size (.slice A (needsL s).length c) (needsL s) G ∧ Below w.heap.size w w' := by
  obtain ⟨o1, o2, o3⟩ := needsP_ok s
  have hq : Hid (((fieldsL (needsP s).data.toList).filter fun x => !decide (str x = s)).map str = needsQ s) := Lib.hid (by rw [filter_str]; rfl)
  have hl9 : (fieldsL (needsP s).data.toList).length ≤ 1000 := by
    have h1 := flds_length (needsP s).data.toList []
    rw [size_len] at h1
    have h3 : (fieldsL (needsP s).data.toList).length = (flds [] (needsP s).data.toList).length := rfl
    omega
  have HT : Hid (∀ W, Below w.heap.size w W → Tab W) := Lib.hid fun W h => ht.below h
  have HN : Hid (∀ W, Below w.heap.size w W → Calls Tryz.prog 211 #[] W fun e w' => ∃ b, e = .returned (.map (some b)) ∧ (Instr.lookup 219 (.map (some b)) (.string s) false).run Tryz.prog w' = .ok (.string (needsP s)) w' ∧ Below W.heap.size W w') := Lib.hid fun W hW => (needsC W (ht.below hW)).mono (by
    rintro e w' ⟨b, rfl, hm, hb⟩
    have hlk := run_look (P := Tryz.prog) (w := w') Tryz.underlying219 Tryz.underlying9 hm s (z := .string ByteArray.empty) (Tryz.zeroValue9 w') false
    rw [look_val] at hlk
    exact ⟨b, rfl, hlk, hb⟩)
  have HF : Hid (∀ W, Below w.heap.size w W → Calls Tryz.prog 147 #[.string (needsP s)] W fun e w' => e = .returned (.slice (some ⟨W.heap.size, 0, none⟩) (fieldsL (needsP s).data.toList).length (fieldsL (needsP s).data.toList).length) ∧ w' = W.alloc (.cells ((fieldsL (needsP s).data.toList).map encStr).toArray 9)) :=
    Lib.hid fun W hW => libFieldsX _ W (ht.below hW) (by omega) o2 o3
  have hne := needs_eq s
  clear ht o1 o2 o3
  generalize fieldsL (needsP s).data.toList = l at *
  obtain ⟨X, hX⟩ : ∃ X, X = w.alloc (.cells #[.string s] 9) := ⟨_, rfl⟩
  have hb0 : Below w.heap.size w X := hX ▸ (Below.refl _ _).alloc (Nat.le_refl _) _
  have hc0 : X.cell? ⟨w.heap.size, 0, none⟩ = some (.string s) := by rw [hX]; exact (Bl.new w 9 [.string s] rfl).cell 0 rfl
  have hs0 : w.heap.size < X.heap.size := by rw [hX]; simp
  have HX := Lib.hid hX
  have HE := Lib.hid hne
  clear hX hne
  go_enter Tryz.func159, Tryz.ntmps159
  go_upto_region 1 with fail
  rw [← HX.out]
  go_region_held3 (fun W' => W'.cell? ⟨w.heap.size, 0, none⟩ = some (.string s))
    (first | exact hc0 | exact z0 | exact z1 | exact z2)
    (first
      | (go_at_call 211; refine (HN.out _ (by exact hb0.drew)).mono ?_; rintro e w1 ⟨b, rfl, hlk, hb1⟩; have hb2 : Below X.heap.size X w1 := (drw X 1).trans hb1; have z0 := (hb2.cell (p := ⟨w.heap.size, 0, none⟩) hs0).trans hc0)
      | (go_at_call 147; refine (HF.out _ (by exact hb0.trans (hb2.mono hb0.size))).mono ?_; rintro e w2 ⟨rfl, rfl⟩; have hb3 : Below X.heap.size X (w1.alloc (.cells (l.map encStr).toArray 9)) := hb2.alloc hb2.size _; have z1 := (hb3.cell (p := ⟨w.heap.size, 0, none⟩) hs0).trans hc0))
  have hz1 := hb2.size
  have hz0 := hb0.size
  have hD := delete l s w.heap.size w1 (by omega) z0 (by omega) (by unfold maxLen; omega)
  have HD := Lib.hid hD
  clear hD
  go_upto_region 3 with (go_at_call 212; refine HD.out.mono ?_; rintro e w3 ⟨rfl, ho3, hb4⟩)
  rw [hq.out] at ho3
  have hll : Hid ((l.filter fun x => !decide (str x = s)).length = (needsQ s).length) := Lib.hid (by rw [← hq.out, List.length_map])
  rw [hll.out] at ho3 ⊢
  have hb5 : Below w.heap.size w w3 := (hb0.trans (hb2.mono hb0.size)).trans (hb4.mono (by omega))
  have hsl := srt_len (needsQ s)
  rw [HE.out] at hsl
  have hql : (needsQ s).length ≤ 1000 := by rw [← hll.out]; exact Nat.le_trans (List.length_filter_le _ _) hl9
  by_cases h0 : (needsQ s).length = 0
  · have hn0 : Hid (needsL s = []) := Lib.hid (List.eq_nil_of_length_eq_zero (by omega))
    have hi0 : ((needsQ s).length : Int) = 0 := by omega
    rw [h0] at ho3 ⊢
    go_wp2
    go_ret
    rw [hn0.out]
    exact ⟨none, 0, [], rfl, ⟨World.ownsRow_nil _ _ _ _, rfl⟩, hb5⟩
  · have hi0 : ¬ ((needsQ s).length : Int) = 0 := by omega
    have ho3' := Lib.hid ho3
    have hbt := bts_str
    have HS : Hid (Calls Tryz.prog 129 #[.slice (some ⟨w1.heap.size, 0, none⟩) (needsQ s).length l.length] w3 fun e w' => e = .returned (.tuple #[]) ∧ Own w' w1.heap.size (.slice (some ⟨w1.heap.size, 0, none⟩) (needsQ s).length l.length) (needsL s) ∧ Below w.heap.size w w') := Lib.hid (by
      have e : ((needsQ s).map fun x : ByteArray => x.data.toList).map str = needsQ s := str_bts _
      have h5 := ho3'.out
      rw [← e] at h5
      have h6 := libSort h5 (by rw [List.length_map]; omega)
      rw [e] at h6
      refine h6.mono ?_
      rintro e1 w' ⟨rfl, h7, h8⟩
      rw [HE.out] at h7
      exact ⟨rfl, h7, hb5.grown h8 hb5.size (fun k hk => by injection hk with hk; subst hk; exact (by show w.heap.size ≤ w1.heap.size; omega))⟩)
    clear ho3 hbt
    go_wp2_with (go_at_call 129; refine HS.out.mono ?_; rintro e w4 ⟨rfl, ho4, hb6⟩)
    go_ret
    rw [hsl]
    refine ⟨some ⟨w1.heap.size, 0, none⟩, l.length, _, rfl, ⟨?_, rfl⟩, hb6⟩
    exact own_low ho4 (by omega)
end Go.Proofs.YtejpdbiiikcmmaaGreatDoor.Nd

/- What else is wrong with a policy: the program's closed, schemesRight, dropRight, limitsRight. -/
set_option linter.unusedVariables false
set_option linter.unusedSimpArgs false
namespace Go.Proofs.YtejpdbiiikcmmaaGreatDoor.Sd
open Go.RowKit Lb Gr Pd Fl Go.Proofs.YtejpdbiiikcmmaaGreatDoor.Pm Bk Is Sl Ha Rm Rn Ro Go.Proofs.YtejpdbiiikcmmaaGreatDoor.Ck Go.Proofs.YtejpdbiiikcmmaaGreatDoor.Lk Go.Proofs.YtejpdbiiikcmmaaGreatDoor.Nd Go.Proofs.YtejpdbiiikcmmaaGreatDoor.Th Go.Proofs.YtejpdbiiikcmmaaGreatDoor.Er
attribute [local go_sem ↓] Go.wp_at_zero Go.wp_at_succ

def codeI (b : Bool) (c : Int) : Int := if b then 0 else c
/-- what the rounds so far have told -/
def acc (b : Bool) (c : Int) : Value := .int .i64 (codeI b c)
theorem acc_t (c : Int) : acc true c = .int .i64 0 := rfl
theorem acc_f (c : Int) : acc false c = .int .i64 c := rfl
/-- of a list in which each one is looked at with those ahead of it -/
def onceAll (ok : ByteArray → Bool) (l : List ByteArray) (k : Nat) : Bool := onceFrom ok [] (l.take k)
theorem onceFrom_app (ok : ByteArray → Bool) : ∀ (a b c : List ByteArray), onceFrom ok a (b ++ c) = (onceFrom ok a b && onceFrom ok (a ++ b) c)
  | a, [], c => by simp [onceFrom]
  | a, s :: t, c => by
    simp only [List.cons_append, onceFrom]
    rw [onceFrom_app ok (a ++ [s]) t c, List.append_assoc]
    simp [Bool.and_assoc]
theorem onceAll_succ {ok : ByteArray → Bool} {l : List ByteArray} {k : Nat} (h : k < l.length) : onceAll ok l (k + 1) = (onceAll ok l k && (ok l[k] && !hasT (l.take k) l[k])) := by
  unfold onceAll
  rw [List.take_succ_eq_append_getElem h, onceFrom_app]
  simp [onceFrom]

set_option maxHeartbeats 8000000 in
set_option maxRecDepth 100000 in
theorem schemesRightC (x : Vs) (p : PolD) (w : World) (hn : NevT w) (h : RdP w 0 w.heap.size x p) (hok : OkT p.schemes) : Calls Tryz.prog 88 #[polV x p] w fun e w' => e = .returned (.int .i64 (schI p)) ∧ Below w.heap.size w w' := by
  obtain ⟨A1, c1, A2, c2, A3, c3, A4, c4, rfl, q1, q2, q3, q4, q5, q6, q7, q8⟩ := h.form
  have HRD : Hid (∀ W, Below w.heap.size w W → kdW.rd W 0 w.heap.size (.slice A3 p.schemes.length c3) p.schemes) := Lib.hid fun W hW => kdW.stay h.2.2.1 (stay_below hW (Nat.le_refl _))
  obtain ⟨hl, hw⟩ := hok
  have HM : Hid (∀ W k (hk : k < p.schemes.length), Below w.heap.size w W → Calls Tryz.prog 160 #[.string p.schemes[k]] W fun e w' => e = .returned (.int .i64 (schCode (schemeB p.schemes[k]))) ∧ Below W.heap.size W w') :=
    Lib.hid fun W k hk hW => checkC p.schemes[k] W (hn.below hW) (hw k hk)
  have HC : Hid (∀ W k (hk : k < p.schemes.length), Below w.heap.size w W → Calls Tryz.prog 71 #[.slice A3 k c3, .string p.schemes[k]] W fun e w' => e = .returned (.bool (hasT (p.schemes.take k) p.schemes[k])) ∧ W = w') :=
    Lib.hid fun W k hk hW => libContains (rdW_take (kdW.stay h.2.2.1 (stay_below hW (Nat.le_refl _))) (Nat.le_of_lt hk)) (by omega) p.schemes[k]
  have HB : Hid (schI p = codeI (onceAll schemeB p.schemes p.schemes.length) 143) := Lib.hid (by unfold schI codeI onceAll schOk; rw [List.take_length])
  have H0 : Hid (onceAll schemeB p.schemes 0 = true) := Lib.hid rfl
  clear h hw hn
  unfold polV
  go_enter Tryz.func88, Tryz.ntmps88
  go_wp2
  go_loopw [2, 8] (fun v2 i wr => ∃ k : Nat, k ≤ p.schemes.length ∧ i = .int .i64 k ∧ v2 = acc (onceAll schemeB p.schemes k) 143 ∧ Bl wr w.heap.size 27 [.slice A1 p.els.length c1, .slice A2 p.glob.length c2, .slice A3 p.schemes.length c3, .bool p.rel, .slice A4 p.drop.length c4, .int .i64 p.depth, .int .i64 p.window] ∧ Below w.heap.size w wr) (fun _ i _ => p.schemes.length - (intOf i).toNat)
  case atStart => exact ⟨0, by omega, rfl, by rw [H0.out]; rfl, Bl.new w _ _ rfl, (Below.refl _ _).alloc (Nat.le_refl _) _⟩
  case round =>
    obtain ⟨k, hk, rfl, hv2, m1, hnx⟩ := hrel
    have HV2 := Lib.hid hv2
    clear hv2
    by_cases hlt : k < p.schemes.length
    · obtain ⟨b, off, rfl, hb1, hb2, hcell⟩ := rdW_at (HRD.out _ hnx) hlt
      have z0 := m1.cell 2 rfl
      have hz9 := hnx.size
      have hk0 : (0 : Int) ≤ (k : Int) := by omega
      have hkc : k ≤ c3 := by omega
      have hkc2 : (k : Int) ≤ (c3 : Int) := by omega
      have hsu := Lib.hid (onceAll_succ (ok := schemeB) hlt)
      go_upto_region 4 with fail
      cases hin : schemeB p.schemes[k]
      · have hr : Hid (onceAll schemeB p.schemes (k + 1) = false) := Lib.hid (by rw [hsu.out, hin]; simp)
        have HI2 : Hid (∀ W, Below w.heap.size w W → Calls Tryz.prog 160 #[.string p.schemes[k]] W fun e w' => e = .returned (.int .i64 120) ∧ Below W.heap.size W w') := Lib.hid fun W hW => by
          have := HM.out W k hlt hW
          rw [hin] at this; exact this
        clear hin
        go_wp2_with (first | (go_at_call 160; refine (HI2.out _ (by exact hnx)).mono ?_; rintro e w1 ⟨rfl, hb3⟩; have m3 := m1.below hb3; have z1 := m3.cell 2 rfl))
        go_roundw
        case rel => exact ⟨k + 1, by omega, by go_num, by rw [hr.out]; rfl, m3, hnx.trans (hb3.mono hnx.size)⟩
        case measure => simp [intOf] <;> omega
      · have HI2 : Hid (∀ W, Below w.heap.size w W → Calls Tryz.prog 160 #[.string p.schemes[k]] W fun e w' => e = .returned (.int .i64 0) ∧ Below W.heap.size W w') := Lib.hid fun W hW => by
          have := HM.out W k hlt hW
          rw [hin] at this; exact this
        cases hha : hasT (p.schemes.take k) p.schemes[k]
        · have hr : Hid (onceAll schemeB p.schemes (k + 1) = onceAll schemeB p.schemes k) := Lib.hid (by rw [hsu.out, hin, hha]; simp)
          have HH2 : Hid (∀ W, Below w.heap.size w W → Calls Tryz.prog 71 #[.slice (some ⟨b, off, none⟩) k c3, .string p.schemes[k]] W fun e w' => e = .returned (.bool false) ∧ W = w') := Lib.hid fun W hW => hha ▸ HC.out W k hlt hW
          clear hha hin
          go_wp2_with (first
              | (go_at_call 160; refine (HI2.out _ (by exact hnx)).mono ?_; rintro e w1 ⟨rfl, hb3⟩; have hb4 := hnx.trans (hb3.mono hnx.size); have m3 := m1.below hb3; have z1 := m3.cell 2 rfl)
              | (go_at_call 71; refine (HH2.out _ (by exact hb4)).mono ?_; rintro e w2 ⟨rfl, rfl⟩))
          go_roundw
          case rel => exact ⟨k + 1, by omega, by go_num, by rw [hr.out]; exact HV2.out, m3, hb4⟩
          case measure => simp [intOf] <;> omega
        · have hr : Hid (onceAll schemeB p.schemes (k + 1) = false) := Lib.hid (by rw [hsu.out, hin, hha]; simp)
          have HH2 : Hid (∀ W, Below w.heap.size w W → Calls Tryz.prog 71 #[.slice (some ⟨b, off, none⟩) k c3, .string p.schemes[k]] W fun e w' => e = .returned (.bool true) ∧ W = w') := Lib.hid fun W hW => hha ▸ HC.out W k hlt hW
          clear hha hin
          go_wp2_with (first
              | (go_at_call 160; refine (HI2.out _ (by exact hnx)).mono ?_; rintro e w1 ⟨rfl, hb3⟩; have hb4 := hnx.trans (hb3.mono hnx.size); have m3 := m1.below hb3; have z1 := m3.cell 2 rfl)
              | (go_at_call 71; refine (HH2.out _ (by exact hb4)).mono ?_; rintro e w2 ⟨rfl, rfl⟩))
          go_roundw
          case rel => exact ⟨k + 1, by omega, by go_num, by rw [hr.out]; rfl, m3, hb4⟩
          case measure => simp [intOf] <;> omega
    · obtain rfl : k = p.schemes.length := by omega
      go_wp2
      go_ret
      exact ⟨by rw [HV2.out, HB.out]; rfl, hnx⟩

set_option maxHeartbeats 8000000 in
set_option maxRecDepth 100000 in
theorem dropRightC (x : Vs) (p : PolD) (w : World) (h : RdP w 0 w.heap.size x p) (hok : p.drop.length ≤ 9223372036854775807 ∧ p.els.length ≤ 9223372036854775807) : Calls Tryz.prog 89 #[polV x p] w fun e w' => e = .returned (.int .i64 (dropI p)) ∧ Below w.heap.size w w' := by
  obtain ⟨A1, c1, A2, c2, A3, c3, A4, c4, rfl, q1, q2, q3, q4, q5, q6, q7, q8⟩ := h.form
  have HRD : Hid (∀ W, Below w.heap.size w W → kdW.rd W 0 w.heap.size (.slice A4 p.drop.length c4) p.drop) := Lib.hid fun W hW => kdW.stay h.2.2.2 (stay_below hW (Nat.le_refl _))
  obtain ⟨hl, hl2⟩ := hok
  have HT : Hid (∀ W k (hk : k < p.drop.length), Calls Tryz.prog 161 #[.string p.drop[k]] W fun e w' => e = .returned (.bool (tagB p.drop[k])) ∧ W = w') := Lib.hid fun W k hk => Go.Proofs.YtejpdbiiikcmmaaGreatDoor.Fm.nTagName _ W
  have HH : Hid (∀ W k (hk : k < p.drop.length), Below w.heap.size w W → Calls Tryz.prog 69 #[.agg #[.slice A1 p.els.length c1, .slice A2 p.glob.length c2, .slice A3 p.schemes.length c3, .bool p.rel, .slice A4 p.drop.length c4, .int .i64 p.depth, .int .i64 p.window], .string p.drop[k]] W fun e w' => e = .returned (.bool (hasE p.els p.drop[k])) ∧ Below W.heap.size W w') :=
    Lib.hid fun W k hk hW => hasC A1 A2 A3 A4 p.els.length c1 _ c2 _ c3 _ c4 p.rel p.depth p.window p.drop[k] p.els W (kdE.wide (kdE.stay h.1 (stay_below hW (Nat.le_refl _))) (Nat.le_refl _) hW.size) hl2
  have HC : Hid (∀ W k (hk : k < p.drop.length), Below w.heap.size w W → Calls Tryz.prog 71 #[.slice A4 k c4, .string p.drop[k]] W fun e w' => e = .returned (.bool (hasT (p.drop.take k) p.drop[k])) ∧ W = w') :=
    Lib.hid fun W k hk hW => libContains (rdW_take (kdW.stay h.2.2.2 (stay_below hW (Nat.le_refl _))) (Nat.le_of_lt hk)) (by omega) p.drop[k]
  obtain ⟨ok, hok⟩ : ∃ ok : ByteArray → Bool, ok = fun n => tagB n && !hasE p.els n := ⟨_, rfl⟩
  have HOK : Hid (∀ n, ok n = (tagB n && !hasE p.els n)) := Lib.hid (by intro n; rw [hok])
  have HB : Hid (dropI p = codeI (onceAll ok p.drop p.drop.length) 140) := Lib.hid (by unfold dropI codeI onceAll dropOk; rw [List.take_length, hok])
  have H0 : Hid (onceAll ok p.drop 0 = true) := Lib.hid rfl
  clear h hok
  unfold polV
  go_enter Tryz.func89, Tryz.ntmps89
  go_wp2
  go_loopw [2, 8] (fun v2 i wr => ∃ k : Nat, k ≤ p.drop.length ∧ i = .int .i64 k ∧ v2 = acc (onceAll ok p.drop k) 140 ∧ Bl wr w.heap.size 27 [.slice A1 p.els.length c1, .slice A2 p.glob.length c2, .slice A3 p.schemes.length c3, .bool p.rel, .slice A4 p.drop.length c4, .int .i64 p.depth, .int .i64 p.window] ∧ Below w.heap.size w wr) (fun _ i _ => p.drop.length - (intOf i).toNat)
  case atStart => exact ⟨0, by omega, rfl, by rw [H0.out]; rfl, Bl.new w _ _ rfl, (Below.refl _ _).alloc (Nat.le_refl _) _⟩
  case round =>
    obtain ⟨k, hk, rfl, hv2, m1, hnx⟩ := hrel
    have HV2 := Lib.hid hv2
    clear hv2
    by_cases hlt : k < p.drop.length
    · obtain ⟨b, off, rfl, hb1, hb2, hcell⟩ := rdW_at (HRD.out _ hnx) hlt
      have hrg := m1.range
      have z0 := m1.cell 0 rfl
      have z1 := m1.cell 1 rfl
      have z2 := m1.cell 2 rfl
      have z3 := m1.cell 3 rfl
      have z4 := m1.cell 4 rfl
      have z5 := m1.cell 5 rfl
      have z6 := m1.cell 6 rfl
      have hz9 := hnx.size
      have hk0 : (0 : Int) ≤ (k : Int) := by omega
      have hkc : k ≤ c4 := by omega
      have hkc2 : (k : Int) ≤ (c4 : Int) := by omega
      have hsu := Lib.hid (onceAll_succ (ok := ok) hlt)
      go_upto_region 4 with fail
      cases hin : tagB p.drop[k]
      · have hr : Hid (onceAll ok p.drop (k + 1) = false) := Lib.hid (by rw [hsu.out, HOK.out, hin]; simp)
        have HI2 : Hid (∀ W, Calls Tryz.prog 161 #[.string p.drop[k]] W fun e w' => e = .returned (.bool false) ∧ W = w') := Lib.hid fun W => hin ▸ HT.out W k hlt
        clear hin hrg
        go_wp2_with (first | (go_at_call 161; refine (HI2.out _).mono ?_; rintro e w1 ⟨rfl, rfl⟩))
        go_roundw
        case rel => exact ⟨k + 1, by omega, by go_num, by rw [hr.out]; rfl, m1, hnx⟩
        case measure => simp [intOf] <;> omega
      · have HI2 : Hid (∀ W, Calls Tryz.prog 161 #[.string p.drop[k]] W fun e w' => e = .returned (.bool true) ∧ W = w') := Lib.hid fun W => hin ▸ HT.out W k hlt
        cases hhe : hasE p.els p.drop[k]
        · have HE2 : Hid (∀ W, Below w.heap.size w W → Calls Tryz.prog 69 #[.agg #[.slice A1 p.els.length c1, .slice A2 p.glob.length c2, .slice A3 p.schemes.length c3, .bool p.rel, .slice (some ⟨b, off, none⟩) p.drop.length c4, .int .i64 p.depth, .int .i64 p.window], .string p.drop[k]] W fun e w' => e = .returned (.bool false) ∧ Below W.heap.size W w') := Lib.hid fun W hW => hhe ▸ HH.out W k hlt hW
          cases hha : hasT (p.drop.take k) p.drop[k]
          · have hr : Hid (onceAll ok p.drop (k + 1) = onceAll ok p.drop k) := Lib.hid (by rw [hsu.out, HOK.out, hin, hhe, hha]; simp)
            have HH2 : Hid (∀ W, Below w.heap.size w W → Calls Tryz.prog 71 #[.slice (some ⟨b, off, none⟩) k c4, .string p.drop[k]] W fun e w' => e = .returned (.bool false) ∧ W = w') := Lib.hid fun W hW => hha ▸ HC.out W k hlt hW
            clear hha hhe hin hrg
            go_wp2_with (first
                | (go_at_call 161; refine (HI2.out _).mono ?_; rintro e w1 ⟨rfl, rfl⟩)
                | (go_at_call 69; refine (HE2.out _ (by exact hnx)).mono ?_; rintro e w1 ⟨rfl, hb3⟩; have hb4 := hnx.trans (hb3.mono hnx.size); have m3 := m1.below hb3; have y0 := m3.cell 0 rfl; have y1 := m3.cell 1 rfl; have y2 := m3.cell 2 rfl; have y3 := m3.cell 3 rfl; have y4 := m3.cell 4 rfl; have y5 := m3.cell 5 rfl; have y6 := m3.cell 6 rfl)
                | (go_at_call 71; refine (HH2.out _ (by exact hb4)).mono ?_; rintro e w2 ⟨rfl, rfl⟩))
            go_roundw
            case rel => exact ⟨k + 1, by omega, by go_num, by rw [hr.out]; exact HV2.out, m3, hb4⟩
            case measure => simp [intOf] <;> omega
          · have hr : Hid (onceAll ok p.drop (k + 1) = false) := Lib.hid (by rw [hsu.out, HOK.out, hin, hhe, hha]; simp)
            have HH2 : Hid (∀ W, Below w.heap.size w W → Calls Tryz.prog 71 #[.slice (some ⟨b, off, none⟩) k c4, .string p.drop[k]] W fun e w' => e = .returned (.bool true) ∧ W = w') := Lib.hid fun W hW => hha ▸ HC.out W k hlt hW
            clear hha hhe hin hrg
            go_wp2_with (first
                | (go_at_call 161; refine (HI2.out _).mono ?_; rintro e w1 ⟨rfl, rfl⟩)
                | (go_at_call 69; refine (HE2.out _ (by exact hnx)).mono ?_; rintro e w1 ⟨rfl, hb3⟩; have hb4 := hnx.trans (hb3.mono hnx.size); have m3 := m1.below hb3; have y0 := m3.cell 0 rfl; have y1 := m3.cell 1 rfl; have y2 := m3.cell 2 rfl; have y3 := m3.cell 3 rfl; have y4 := m3.cell 4 rfl; have y5 := m3.cell 5 rfl; have y6 := m3.cell 6 rfl)
                | (go_at_call 71; refine (HH2.out _ (by exact hb4)).mono ?_; rintro e w2 ⟨rfl, rfl⟩))
            go_roundw
            case rel => exact ⟨k + 1, by omega, by go_num, by rw [hr.out]; rfl, m3, hb4⟩
            case measure => simp [intOf] <;> omega
        · have hr : Hid (onceAll ok p.drop (k + 1) = false) := Lib.hid (by rw [hsu.out, HOK.out, hin, hhe]; simp)
          have HE2 : Hid (∀ W, Below w.heap.size w W → Calls Tryz.prog 69 #[.agg #[.slice A1 p.els.length c1, .slice A2 p.glob.length c2, .slice A3 p.schemes.length c3, .bool p.rel, .slice (some ⟨b, off, none⟩) p.drop.length c4, .int .i64 p.depth, .int .i64 p.window], .string p.drop[k]] W fun e w' => e = .returned (.bool true) ∧ Below W.heap.size W w') := Lib.hid fun W hW => hhe ▸ HH.out W k hlt hW
          clear hhe hin hrg
          go_wp2_with (first
              | (go_at_call 161; refine (HI2.out _).mono ?_; rintro e w1 ⟨rfl, rfl⟩)
              | (go_at_call 69; refine (HE2.out _ (by exact hnx)).mono ?_; rintro e w1 ⟨rfl, hb3⟩; have hb4 := hnx.trans (hb3.mono hnx.size); have m3 := m1.below hb3; have y0 := m3.cell 0 rfl; have y1 := m3.cell 1 rfl; have y2 := m3.cell 2 rfl; have y3 := m3.cell 3 rfl; have y4 := m3.cell 4 rfl; have y5 := m3.cell 5 rfl; have y6 := m3.cell 6 rfl))
          go_roundw
          case rel => exact ⟨k + 1, by omega, by go_num, by rw [hr.out]; rfl, m3, hb4⟩
          case measure => simp [intOf] <;> omega
    · obtain rfl : k = p.drop.length := by omega
      go_wp2
      go_ret
      exact ⟨by rw [HV2.out, HB.out]; rfl, hnx⟩
end Go.Proofs.YtejpdbiiikcmmaaGreatDoor.Sd

/- What else is wrong with a policy: the program's closed, limitsRight; Check. -/
set_option linter.unusedVariables false
set_option linter.unusedSimpArgs false
namespace Go.Proofs.YtejpdbiiikcmmaaGreatDoor.Ch
open Go.RowKit Lb Gr Pd Fl Go.Proofs.YtejpdbiiikcmmaaGreatDoor.Pm Bk Is Sl Ha Rm Rn Ro Go.Proofs.YtejpdbiiikcmmaaGreatDoor.Ck Go.Proofs.YtejpdbiiikcmmaaGreatDoor.Lk Go.Proofs.YtejpdbiiikcmmaaGreatDoor.Nd Go.Proofs.YtejpdbiiikcmmaaGreatDoor.Th Go.Proofs.YtejpdbiiikcmmaaGreatDoor.Er Go.Proofs.YtejpdbiiikcmmaaGreatDoor.Sd
attribute [local go_sem ↓] Go.wp_at_zero Go.wp_at_succ

def okClos (l : List ElD) (e : ElD) : Bool := (needsL e.name).all fun n => hasE l n
def closK (l : List ElD) (k : Nat) : Bool := (l.take k).all (okClos l)
theorem closK_succ {l : List ElD} {k : Nat} (h : k < l.length) : closK l (k + 1) = (closK l k && okClos l l[k]) := by
  unfold closK
  rw [List.take_succ_eq_append_getElem h, List.all_append]
  simp
def needK (l : List ElD) (ns : List ByteArray) (b : Bool) (j : Nat) : Bool := b && (ns.take j).all fun n => hasE l n
theorem needK_succ {l : List ElD} {ns : List ByteArray} {b : Bool} {j : Nat} (h : j < ns.length) : needK l ns b (j + 1) = (needK l ns b j && hasE l ns[j]) := by
  unfold needK
  rw [List.take_succ_eq_append_getElem h, List.all_append]
  simp [Bool.and_assoc]
set_option maxHeartbeats 4000000 in
set_option maxRecDepth 100000 in
theorem closedC (x : Vs) (p : PolD) (w : World) (ht : Tab w) (h : RdP w 0 w.heap.size x p) (hl : p.els.length ≤ 9223372036854775807) : Calls Tryz.prog 87 #[polV x p] w fun e w' => e = .returned (.int .i64 (closI p)) ∧ Below w.heap.size w w' := by
  obtain ⟨A1, c1, A2, c2, A3, c3, A4, c4, rfl, q1, q2, q3, q4, q5, q6, q7, q8⟩ := h.form
  have HRD : Hid (∀ W, Below w.heap.size w W → kdE.rd W 0 w.heap.size (.slice A1 p.els.length c1) p.els) := Lib.hid fun W hW => kdE.stay h.1 (stay_below hW (Nat.le_refl _))
  have HN : Hid (∀ W s, Below w.heap.size w W → Calls Tryz.prog 159 #[.string s] W fun e w' => ∃ A c G, e = .returned (.slice A (needsL s).length c) ∧ kdW.own w' W.heap.size (.slice A (needsL s).length c) (needsL s) G ∧ Below W.heap.size W w') := Lib.hid fun W s hW => NeedsC s W (ht.below hW)
  have HH : Hid (∀ W s, Below w.heap.size w W → Calls Tryz.prog 69 #[.agg #[.slice A1 p.els.length c1, .slice A2 p.glob.length c2, .slice A3 p.schemes.length c3, .bool p.rel, .slice A4 p.drop.length c4, .int .i64 p.depth, .int .i64 p.window], .string s] W fun e w' => e = .returned (.bool (hasE p.els s)) ∧ Below W.heap.size W w') :=
    Lib.hid fun W s hW => hasC A1 A2 A3 A4 p.els.length c1 _ c2 _ c3 _ c4 p.rel p.depth p.window s p.els W (kdE.wide (kdE.stay h.1 (stay_below hW (Nat.le_refl _))) (Nat.le_refl _) hW.size) hl
  have HB : Hid (closI p = codeI (closK p.els p.els.length) 142) := Lib.hid (by unfold closI codeI closK closedB; rw [List.take_length]; rfl)
  have H0 : Hid (closK p.els 0 = true) := Lib.hid rfl
  clear h ht
  unfold polV
  go_enter Tryz.func87, Tryz.ntmps87
  go_wp2
  go_loopw [2, 10] (fun v2 i wr => ∃ k : Nat, k ≤ p.els.length ∧ i = .int .i64 k ∧ v2 = acc (closK p.els k) 142 ∧ Bl wr w.heap.size 27 [.slice A1 p.els.length c1, .slice A2 p.glob.length c2, .slice A3 p.schemes.length c3, .bool p.rel, .slice A4 p.drop.length c4, .int .i64 p.depth, .int .i64 p.window] ∧ Below w.heap.size w wr) (fun _ i _ => p.els.length - (intOf i).toNat)
  case atStart => exact ⟨0, by omega, rfl, by rw [H0.out]; rfl, Bl.new w _ _ rfl, (Below.refl _ _).alloc (Nat.le_refl _) _⟩
  case round =>
    obtain ⟨k, hk, rfl, hv2, m1, hnx⟩ := hrel
    have HV2 := Lib.hid hv2
    clear hv2
    by_cases hlt : k < p.els.length
    · obtain ⟨b, off, u, rfl, hb1, hb2, hu, hcell⟩ := fmE.rd_at (HRD.out _ hnx) hlt
      have hu' : kdR.rd wr 0 w.heap.size u p.els[k].rules := hu
      clear hu
      have e0 := hcell 0 _ rfl
      have e1 := hcell 1 _ rfl
      rw [show off + (k * fmE.size + 0) = off + k * 2 from rfl] at e0
      rw [show off + (k * fmE.size + 1) = off + k * 2 + 1 from by show off + (k * 2 + 1) = _; omega] at e1
      obtain ⟨A5, c5, rfl, _⟩ := fmR.rd_form hu'
      clear hcell hu'
      obtain ⟨W0, hW0⟩ : ∃ W, W = wr.alloc (.cells #[.string p.els[k].name, .slice A5 p.els[k].rules.length c5] 59) := ⟨_, rfl⟩
      have hb0 : Below wr.heap.size wr W0 := hW0 ▸ (Below.refl _ _).alloc (Nat.le_refl _) _
      have k5 : Bl W0 wr.heap.size 59 [.string p.els[k].name, .slice A5 p.els[k].rules.length c5] := hW0 ▸ Bl.new wr _ _ rfl
      have m2 := m1.below hb0
      have y0 := k5.cell 0 rfl
      have hb9 : Below w.heap.size w W0 := hnx.trans (hb0.mono hnx.size)
      have HX := Lib.hid hW0
      have hsu := Lib.hid (closK_succ hlt)
      clear hW0
      obtain ⟨ns, hns⟩ : ∃ ns, ns = needsL p.els[k].name := ⟨_, rfl⟩
      have HNS := Lib.hid hns
      have HN2 := HN.out W0 p.els[k].name hb9
      rw [← hns] at HN2
      have HN3 := Lib.hid HN2
      clear HN2 hns
      go_upto_region 4 with fail
      rw [← HX.out]
      go_wp2_with (go_at_call 159; refine HN3.out.mono ?_; rintro e w1 ⟨A9, c9, G9, rfl, ho9, hb3⟩)
      have hb4 := hb9.trans (hb3.mono hb9.size)
      have m3 := m2.below hb3
      have hrd := Lib.hid (kdW.read (lo := 0) (hi := w1.heap.size) ho9 (Nat.zero_le _) (Nat.le_refl _))
      have hf9 := rdW_form hrd.out
      obtain ⟨A8, c8, hv8, h81, h82⟩ := hf9
      injection hv8 with r1 r2 r3
      subst r1 r3
      have hnl : ns.length ≤ 9223372036854775807 := by unfold maxLen at h82; omega
      have HA := Lib.hid (show needK p.els ns (closK p.els k) 0 = closK p.els k by unfold needK; simp)
      clear ho9
      go_loopw [2, 18] (fun v2 i wr => ∃ j : Nat, j ≤ ns.length ∧ i = .int .i64 j ∧ v2 = acc (needK p.els ns (closK p.els k) j) 142 ∧ Bl wr w.heap.size 27 [.slice (some ⟨b, off, none⟩) p.els.length c1, .slice A2 p.glob.length c2, .slice A3 p.schemes.length c3, .bool p.rel, .slice A4 p.drop.length c4, .int .i64 p.depth, .int .i64 p.window] ∧ Below w1.heap.size w1 wr) (fun _ i _ => ns.length - (intOf i).toNat)
      case atStart => exact ⟨0, by omega, rfl, by rw [HA.out]; exact HV2.out, m3, Below.refl _ _⟩
      case round =>
        obtain ⟨j, hj, rfl, hv3, m4, hny⟩ := hrel
        have HV3 := Lib.hid hv3
        clear hv3
        by_cases hltj : j < ns.length
        · obtain ⟨b2, off2, rfl, hc1, hc2, hcl⟩ := rdW_at (kdW.stay hrd.out (stay_below hny (Nat.le_refl _))) hltj
          have z0 := m4.cell 0 rfl
          have z1 := m4.cell 1 rfl
          have z2 := m4.cell 2 rfl
          have z3 := m4.cell 3 rfl
          have z4 := m4.cell 4 rfl
          have z5 := m4.cell 5 rfl
          have z6 := m4.cell 6 rfl
          have hby := hb4.trans (hny.mono hb4.size)
          have hss := Lib.hid (needK_succ (l := p.els) (b := closK p.els k) hltj)
          have HH2 := HH.out wr ns[j] hby
          cases hha : hasE p.els ns[j]
          · have hr : Hid (needK p.els ns (closK p.els k) (j + 1) = false) := Lib.hid (by rw [hss.out, hha]; simp)
            rw [hha] at HH2
            have HH3 := Lib.hid HH2
            clear hha HH2
            go_wp2_with (go_at_call 69; refine HH3.out.mono ?_; rintro e w3 ⟨rfl, hb7⟩)
            go_roundw
            case rel => exact ⟨j + 1, by omega, by go_num, by rw [hr.out]; rfl, m4.below hb7, hny.trans (hb7.mono hny.size)⟩
            case measure => simp [intOf] <;> omega
          · have hr : Hid (needK p.els ns (closK p.els k) (j + 1) = needK p.els ns (closK p.els k) j) := Lib.hid (by rw [hss.out, hha]; simp)
            rw [hha] at HH2
            have HH3 := Lib.hid HH2
            clear hha HH2
            go_wp2_with (go_at_call 69; refine HH3.out.mono ?_; rintro e w3 ⟨rfl, hb7⟩)
            go_roundw
            case rel => exact ⟨j + 1, by omega, by go_num, by rw [hr.out]; exact HV3.out, m4.below hb7, hny.trans (hb7.mono hny.size)⟩
            case measure => simp [intOf] <;> omega
        · obtain rfl : j = ns.length := by omega
          have hr : Hid (closK p.els (k + 1) = needK p.els ns (closK p.els k) ns.length) := Lib.hid (by
            rw [hsu.out]; unfold needK okClos; rw [List.take_length, HNS.out])
          go_wp2
          go_roundw
          case rel => exact ⟨k + 1, by omega, by go_num, by rw [hr.out]; exact HV3.out, m4, hb4.trans (hny.mono hb4.size)⟩
          case measure => simp [intOf] <;> omega
    · obtain rfl : k = p.els.length := by omega
      go_wp2
      go_ret
      exact ⟨by rw [HV2.out, HB.out]; rfl, hnx⟩

set_option maxHeartbeats 2000000 in
set_option maxRecDepth 100000 in
theorem limitsRightC (x : Vs) (p : PolD) (w : World) (h : RdP w 0 w.heap.size x p) (hm : p.els.length ≤ 9223372036854775807 ∧ p.glob.length ≤ 9223372036854775807 ∧ ∀ e ∈ p.els, e.rules.length ≤ 9223372036854775807) : Calls Tryz.prog 90 #[polV x p] w fun e w' => e = .returned (.int .i64 (limI p)) ∧ Below w.heap.size w w' := by
  obtain ⟨A1, c1, A2, c2, A3, c3, A4, c4, rfl, q1, q2, q3, q4, q5, q6, q7, q8⟩ := h.form
  obtain ⟨W0, hW0⟩ : ∃ W, W = w.alloc (.cells #[.slice A1 p.els.length c1, .slice A2 p.glob.length c2, .slice A3 p.schemes.length c3, .bool p.rel, .slice A4 p.drop.length c4, .int .i64 p.depth, .int .i64 p.window] 27) := ⟨_, rfl⟩
  have hb0 : Below w.heap.size w W0 := hW0 ▸ (Below.refl _ _).alloc (Nat.le_refl _) _
  have hc := Lib.hid (thingsC ⟨.slice A1 p.els.length c1, .slice A2 p.glob.length c2, .slice A3 p.schemes.length c3, .slice A4 p.drop.length c4⟩ p W0 ((h.stay (stay_below hb0 (Nat.le_refl _))).wide (Nat.le_refl _) hb0.size) hm)
  have HX := Lib.hid hW0
  have HL : Hid (limOk p = (decide (1 ≤ p.depth) && decide (p.depth ≤ 512) && decide (16 ≤ p.window) && decide (p.window ≤ 1048576) && decide (w64 (thingsN p) ≤ 1000))) := Lib.hid rfl
  have HI : Hid (limI p = if limOk p then 0 else 144) := Lib.hid rfl
  clear h hm hW0
  unfold polV at hc ⊢
  generalize w64 (thingsN p) = T at *
  generalize limI p = res at *
  generalize limOk p = lo at *
  generalize p.depth = d at *
  generalize p.window = q at *
  by_cases h1 : d < 1
  · have hr : Hid (res = 144) := Lib.hid (by rw [HI.out, HL.out, decide_eq_false (show ¬ 1 ≤ d by omega)]; rfl)
    go_enter Tryz.func90, Tryz.ntmps90
    go_wp2
    go_ret
    exact ⟨rgi hr.out, HX.out ▸ hb0⟩
  · by_cases h2 : 512 < d
    · have hr : Hid (res = 144) := Lib.hid (by rw [HI.out, HL.out, decide_eq_false (show ¬ d ≤ 512 by omega), Bool.and_false]; rfl)
      go_enter Tryz.func90, Tryz.ntmps90
      go_wp2
      go_ret
      exact ⟨rgi hr.out, HX.out ▸ hb0⟩
    · by_cases h3 : q < 16
      · have hr : Hid (res = 144) := Lib.hid (by rw [HI.out, HL.out, decide_eq_false (show ¬ 16 ≤ q by omega), Bool.and_false]; rfl)
        go_enter Tryz.func90, Tryz.ntmps90
        go_wp2
        go_ret
        exact ⟨rgi hr.out, HX.out ▸ hb0⟩
      · by_cases h4 : 1048576 < q
        · have hr : Hid (res = 144) := Lib.hid (by rw [HI.out, HL.out, decide_eq_false (show ¬ q ≤ 1048576 by omega), Bool.and_false]; rfl)
          go_enter Tryz.func90, Tryz.ntmps90
          go_wp2
          go_ret
          exact ⟨rgi hr.out, HX.out ▸ hb0⟩
        · by_cases h5 : 1000 < T
          · have hr : Hid (res = 144) := Lib.hid (by rw [HI.out, HL.out, decide_eq_false (show ¬ T ≤ 1000 by omega), Bool.and_false]; rfl)
            go_enter Tryz.func90, Tryz.ntmps90
            go_wp2_with (go_at_call 72; rw [← HX.out]; refine hc.out.mono ?_; rintro e w3 ⟨rfl, hb7⟩)
            go_ret
            exact ⟨rgi hr.out, hb0.trans (hb7.mono hb0.size)⟩
          · have hr : Hid (res = 0) := Lib.hid (by rw [HI.out, HL.out, decide_eq_true (show 1 ≤ d by omega), decide_eq_true (show d ≤ 512 by omega), decide_eq_true (show 16 ≤ q by omega), decide_eq_true (show q ≤ 1048576 by omega), decide_eq_true (show T ≤ 1000 by omega)]; rfl)
            go_enter Tryz.func90, Tryz.ntmps90
            go_wp2_with (go_at_call 72; rw [← HX.out]; refine hc.out.mono ?_; rintro e w3 ⟨rfl, hb7⟩)
            go_ret
            exact ⟨rgi hr.out, hb0.trans (hb7.mono hb0.size)⟩

/-- the six questions -/
def fnK : Nat → Nat
  | 0 => 85
  | 1 => 86
  | 2 => 87
  | 3 => 88
  | 4 => 89
  | _ => 90
def codes (p : PolD) : List Int := [elsI p, globI p, closI p, schI p, dropI p, limI p]
theorem enterK (k : Nat) (hk : k < 6) : ∀ args w, (callFunc (fnK k) args).run Tryz.prog w = .ok (.enter (fnK k) args) w := by
  match k, hk with
  | 0, _ => exact enters_of Tryz.func85 (by kernel_rfl) rfl
  | 1, _ => exact enters_of Tryz.func86 (by kernel_rfl) rfl
  | 2, _ => exact enters_of Tryz.func87 (by kernel_rfl) rfl
  | 3, _ => exact enters_of Tryz.func88 (by kernel_rfl) rfl
  | 4, _ => exact enters_of Tryz.func89 (by kernel_rfl) rfl
  | 5, _ => exact enters_of Tryz.func90 (by kernel_rfl) rfl
def funcsA : Array Value := #[.func (.func 85) #[] #[], .func (.func 86) #[] #[], .func (.func 87) #[] #[], .func (.func 88) #[] #[], .func (.func 89) #[] #[], .func (.func 90) #[] #[]]
theorem funcsA_at (k : Nat) (hk : k < 6) : funcsA[k]? = some (.func (.func (fnK k)) #[] #[]) := by
  match k, hk with
  | 0, _ => rfl
  | 1, _ => rfl
  | 2, _ => rfl
  | 3, _ => rfl
  | 4, _ => rfl
  | 5, _ => rfl
theorem okE_all {l : List ElD} (h : OkE l) : ∀ e ∈ l, e.rules.length ≤ 9223372036854775807 := fun e he => by
  obtain ⟨i, hi, rfl⟩ := List.getElem_of_mem he
  exact (h.2 i hi).1
theorem askK (k : Nat) (hk : k < 6) (x : Vs) (p : PolD) (w : World) (ht : Tab w) (hn : NevT w) (h : RdP w 0 w.heap.size x p) (hok : OkP p) : Calls Tryz.prog (fnK k) #[polV x p] w fun e w' => e = .returned (.int .i64 ((codes p)[k]'hk)) ∧ Below w.heap.size w w' := by
  obtain ⟨o1, o2, o3, o4⟩ := hok
  match k, hk with
  | 0, _ => exact elementsRightC x p w ht h o1
  | 1, _ => exact globalRightC x p w ht h o2
  | 2, _ => exact closedC x p w ht h o1.1
  | 3, _ => exact schemesRightC x p w hn h o3
  | 4, _ => exact dropRightC x p w h ⟨o4.1, o1.1⟩
  | 5, _ => exact limitsRightC x p w h ⟨o1.1, o2.1, okE_all o1⟩
theorem first_zero {l : List Int} {k : Nat} (h : k < l.length) (hz : l[k] = 0) : firstI (l.drop k) = firstI (l.drop (k + 1)) := by
  rw [List.drop_eq_getElem_cons h, firstI, if_pos hz]
theorem first_stop {l : List Int} {k : Nat} (h : k < l.length) (hz : l[k] ≠ 0) : firstI (l.drop k) = l[k] := by
  rw [List.drop_eq_getElem_cons h, firstI, if_neg hz]
set_option maxHeartbeats 2000000 in
set_option maxRecDepth 100000 in
theorem CheckC (x : Vs) (p : PolD) (w : World) (ht : Tab w) (hn : NevT w) (h : RdP w 0 w.heap.size x p) (hok : OkP p) : Calls Tryz.prog 35 #[polV x p] w fun e w' => e = .returned (.int .i64 (checkI p)) ∧ Below w.heap.size w w' := by
  obtain ⟨A1, c1, A2, c2, A3, c3, A4, c4, rfl, q1, q2, q3, q4, q5, q6, q7, q8⟩ := h.form
  have HA : Hid (∀ k (hk : k < 6) W, Below w.heap.size w W → Calls Tryz.prog (fnK k) #[.agg #[.slice A1 p.els.length c1, .slice A2 p.glob.length c2, .slice A3 p.schemes.length c3, .bool p.rel, .slice A4 p.drop.length c4, .int .i64 p.depth, .int .i64 p.window]] W fun e w' => e = .returned (.int .i64 ((codes p)[k]'hk)) ∧ Below W.heap.size W w') :=
    Lib.hid fun k hk W hW => askK k hk ⟨.slice A1 p.els.length c1, .slice A2 p.glob.length c2, .slice A3 p.schemes.length c3, .slice A4 p.drop.length c4⟩ p W (ht.below hW) (hn.below hW) ((h.stay (stay_below hW (Nat.le_refl _))).wide (Nat.le_refl _) hW.size) hok
  have HB : Hid (checkI p = firstI ((codes p).drop 0)) := Lib.hid rfl
  clear h ht hn hok
  unfold polV
  obtain ⟨X, hX⟩ : ∃ X, X = (w.alloc (.cells #[.slice A1 p.els.length c1, .slice A2 p.glob.length c2, .slice A3 p.schemes.length c3, .bool p.rel, .slice A4 p.drop.length c4, .int .i64 p.depth, .int .i64 p.window] 27)).alloc (.cells funcsA 85) := ⟨_, rfl⟩
  have hb0 : Below w.heap.size w X := hX ▸ ((Below.refl _ _).alloc (Nat.le_refl _) _).alloc (by simp) _
  have m1 : Bl X w.heap.size 27 [.slice A1 p.els.length c1, .slice A2 p.glob.length c2, .slice A3 p.schemes.length c3, .bool p.rel, .slice A4 p.drop.length c4, .int .i64 p.depth, .int .i64 p.window] := hX ▸ (Bl.new w _ _ rfl).alloc _
  have hz0 := hb0.size
  have hfb : X.heap[w.heap.size + 1]? = some (.cells funcsA 85 (0, 0)) := by rw [hX]; have := heap_alloc_new (w.alloc (.cells #[.slice A1 p.els.length c1, .slice A2 p.glob.length c2, .slice A3 p.schemes.length c3, .bool p.rel, .slice A4 p.drop.length c4, .int .i64 p.depth, .int .i64 p.window] 27)) (.cells funcsA 85); simpa using this
  have hsz : w.heap.size + 1 < X.heap.size := by rw [hX]; simp
  have HF : Hid (∀ W k (hk : k < 6), Below X.heap.size X W → W.cell? ⟨w.heap.size + 1, k, none⟩ = some (.func (.func (fnK k)) #[] #[])) := Lib.hid fun W k hk hW => by
    rw [hW.cell (p := ⟨w.heap.size + 1, k, none⟩) hsz]
    simp [World.cell?, hfb, funcsA_at k hk]
  have HX := Lib.hid hX
  have hbx := Below.refl X.heap.size X
  clear hX hfb
  go_enter Tryz.func35, Tryz.ntmps35
  go_wp2
  go_loopw [8] (fun i wr => ∃ k : Nat, k ≤ 6 ∧ i = .int .i64 k ∧ Hid (Below X.heap.size X wr ∧ checkI p = firstI ((codes p).drop k))) (fun i _ => 6 - (intOf i).toNat)
  case atStart => exact ⟨0, by omega, rfl, Lib.hid ⟨by rw [HX.out]; exact Below.refl _ _, HB.out⟩⟩
  case round =>
    obtain ⟨k, hk, rfl, hst⟩ := hrel
    by_cases hlt : k < 6
    · have m2 := m1.below hst.out.1
      have z0 := m2.cell 0 rfl
      have z1 := m2.cell 1 rfl
      have z2 := m2.cell 2 rfl
      have z3 := m2.cell 3 rfl
      have z4 := m2.cell 4 rfl
      have z5 := m2.cell 5 rfl
      have z6 := m2.cell 6 rfl
      have y0 := HF.out wr k hlt hst.out.1
      have eK := enterK k hlt
      have hbw := hb0.trans (hst.out.1.mono hz0)
      have hA := HA.out k hlt wr hbw
      obtain ⟨F, hF⟩ : ∃ F, F = fnK k := ⟨_, rfl⟩
      obtain ⟨c, hc⟩ : ∃ c, c = (codes p)[k]'hlt := ⟨_, rfl⟩
      rw [← hF] at y0 eK hA
      rw [← hc] at hA
      have HA2 := Lib.hid hA
      have HC := Lib.hid hc
      clear hA hF hc
      by_cases hz : c = 0
      · subst hz
        have hr : Hid (checkI p = firstI ((codes p).drop (k + 1))) := Lib.hid (by rw [hst.out.2]; exact first_zero (l := codes p) hlt HC.out.symm)
        go_wp2_with (go_at_fn F; refine HA2.out.mono ?_; rintro e w3 ⟨rfl, hb7⟩)
        go_roundw
        case rel => exact ⟨k + 1, by omega, by go_num, Lib.hid ⟨hst.out.1.trans (hb7.mono hst.out.1.size), hr.out⟩⟩
        case measure => simp [intOf] <;> omega
      · have hr : Hid (checkI p = c) := Lib.hid (by rw [hst.out.2, HC.out]; exact first_stop (l := codes p) hlt (by rw [← HC.out]; exact hz))
        have hz2 : (c != 0) = true := by simpa using hz
        go_wp2_with (go_at_fn F; refine HA2.out.mono ?_; rintro e w3 ⟨rfl, hb7⟩)
        go_ret
        exact ⟨rgi hr.out, hbw.trans (hb7.mono hbw.size)⟩
    · obtain rfl : k = 6 := by omega
      have hr : Hid (checkI p = 0) := Lib.hid hst.out.2
      go_wp2
      go_ret
      exact ⟨rgi hr.out, hb0.trans (hst.out.1.mono hz0)⟩
end Go.Proofs.YtejpdbiiikcmmaaGreatDoor.Ch
