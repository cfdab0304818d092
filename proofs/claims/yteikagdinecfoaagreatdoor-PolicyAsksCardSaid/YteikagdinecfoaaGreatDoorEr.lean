/- What is wrong with a policy's elements: the program's elementsRight; globalRight. -/
import Derived.Test.YteikagdinecfoaaGreatDoorCk
set_option linter.unusedVariables false
set_option linter.unusedSimpArgs false
namespace Go.Proofs.YteikagdinecfoaaGreatDoor.Er
open Go.RowKit Lb Gr Pd Fl Go.Proofs.YteikagdinecfoaaGreatDoor.Pm Bk Is Sl Ha Rm Rn Ro Go.Proofs.YteikagdinecfoaaGreatDoor.Ck
attribute [local go_sem ↓] Go.wp_at_zero Go.wp_at_succ

theorem rgi {a b : Int} (h : b = a) : Ending.returned (.int .i64 a) = .returned (.int .i64 b) := by rw [h]
set_option maxHeartbeats 8000000 in
set_option maxRecDepth 100000 in
theorem elementsRightC (x : Vs) (p : PolD) (w : World) (ht : Tab w) (h : RdP w 0 w.heap.size x p) (hok : OkE p.els) : Calls Tryz.prog 69 #[polV x p] w fun e w' => e = .returned (.int .i64 (elsI p)) ∧ Below w.heap.size w w' := by
  obtain ⟨A1, c1, A2, c2, A3, c3, A4, c4, rfl, q1, q2, q3, q4, q5, q6, q7, q8⟩ := h.form
  have HRD : Hid (∀ W, Below w.heap.size w W → kdE.rd W 0 w.heap.size (.slice A1 p.els.length c1) p.els) := Lib.hid fun W hW => kdE.stay h.1 (stay_below hW (Nat.le_refl _))
  obtain ⟨hl, hw⟩ := hok
  have HM : Hid (∀ W k (hk : k < p.els.length) A5 c5, Below w.heap.size w W → kdR.rd W 0 W.heap.size (.slice A5 p.els[k].rules.length c5) p.els[k].rules → Calls Tryz.prog 131 #[.slice A5 p.els[k].rules.length c5] W fun e w' => e = .returned (.bool (rulesB p.els[k].rules)) ∧ Below W.heap.size W w') :=
    Lib.hid fun W k hk A5 c5 hW hu => rulesMayC A5 _ c5 p.els[k].rules W (ht.below hW) hu (hw k hk)
  have HH : Hid (∀ W k (hk : k < p.els.length), Below w.heap.size w W → Calls Tryz.prog 93 #[.agg #[.slice A1 k c1, .slice none 0 0, .slice none 0 0, .bool false, .slice none 0 0, .int .i64 0, .int .i64 0], .string p.els[k].name] W fun e w' => e = .returned (.bool (hasE (p.els.take k) p.els[k].name)) ∧ Below W.heap.size W w') :=
    Lib.hid fun W k hk hW => hasC A1 none none none k c1 0 0 0 0 0 0 false 0 0 p.els[k].name (p.els.take k) W (kdE.wide (fmE.rd_take (kdE.stay h.1 (stay_below hW (Nat.le_refl _))) (Nat.le_of_lt hk)) (Nat.le_refl _) hW.size) (by omega)
  have HI : Hid (∀ W s, Below w.heap.size w W → Calls Tryz.prog 88 #[.string s, .int .i64 15] W fun e w' => e = .returned (.bool (inA s)) ∧ Below W.heap.size W w') := Lib.hid fun W s hW => nIn s 15 W (ht.below hW)
  have HB : Hid (elsI p = elsFrom inA (p.els.take 0) (p.els.drop 0)) := Lib.hid rfl
  clear h hw ht
  unfold polV
  go_enter Tryz.func69, Tryz.ntmps69
  go_wp2
  go_loopw [2, 8] (fun v2 i wr => ∃ k : Nat, k ≤ p.els.length ∧ i = .int .i64 k ∧ v2 = .int .i64 0 ∧ Bl wr w.heap.size 29 [.slice A1 p.els.length c1, .slice A2 p.glob.length c2, .slice A3 p.schemes.length c3, .bool p.rel, .slice A4 p.drop.length c4, .int .i64 p.depth, .int .i64 p.window] ∧ Below w.heap.size w wr ∧ Hid (elsI p = elsFrom inA (p.els.take k) (p.els.drop k))) (fun _ i _ => p.els.length - (intOf i).toNat)
  case atStart => exact ⟨0, by omega, rfl, rfl, Bl.new w _ _ rfl, (Below.refl _ _).alloc (Nat.le_refl _) _, HB⟩
  case round =>
    obtain ⟨k, hk, rfl, rfl, m1, hnx, hst⟩ := hrel
    by_cases hlt : k < p.els.length
    · obtain ⟨b, off, u, rfl, hb1, hb2, hu, hcell⟩ := fmE.rd_at (HRD.out _ hnx) hlt
      have hu' : kdR.rd wr 0 w.heap.size u p.els[k].rules := hu
      clear hu
      have e0 := hcell 0 _ rfl
      have e1 := hcell 1 _ rfl
      rw [show off + (k * fmE.size + 0) = off + k * 2 from rfl] at e0
      rw [show off + (k * fmE.size + 1) = off + k * 2 + 1 from by show off + (k * 2 + 1) = _; omega] at e1
      obtain ⟨A5, c5, rfl, _⟩ := fmR.rd_form hu'
      clear hcell
      have HU : Hid (∀ W, Below wr.heap.size wr W → kdR.rd W 0 W.heap.size (.slice A5 p.els[k].rules.length c5) p.els[k].rules) := Lib.hid fun W hW => kdR.wide (rd_below hu' hW hnx.size) (Nat.le_refl _) (Nat.le_trans hnx.size hW.size)
      clear hu'
      obtain ⟨W0, hW0⟩ : ∃ W, W = wr.alloc (.cells #[.string p.els[k].name, .slice A5 p.els[k].rules.length c5] 45) := ⟨_, rfl⟩
      have hb0 : Below wr.heap.size wr W0 := hW0 ▸ (Below.refl _ _).alloc (Nat.le_refl _) _
      have k5 : Bl W0 wr.heap.size 45 [.string p.els[k].name, .slice A5 p.els[k].rules.length c5] := hW0 ▸ Bl.new wr _ _ rfl
      have m2 := m1.below hb0
      have y0 := k5.cell 0 rfl
      have z0 := m2.cell 0 rfl
      have hb9 : Below w.heap.size w W0 := hnx.trans (hb0.mono hnx.size)
      have hz9 := hb9.size
      have HX := Lib.hid hW0
      have hk0 : (0 : Int) ≤ (k : Int) := by omega
      have hkc : k ≤ c1 := by omega
      have hkc2 : (k : Int) ≤ (c1 : Int) := by omega
      clear hW0
      obtain ⟨s, hs⟩ : ∃ s, s = p.els[k].name := ⟨_, rfl⟩
      go_upto_region 4 with fail
      rw [← HX.out]
      cases hin : inA p.els[k].name
      · have hr : Hid (elsI p = 140) := Lib.hid (by rw [hst.out]; exact els_bad hlt (.inl hin))
        have HI2 : Hid (∀ W, Below w.heap.size w W → Calls Tryz.prog 88 #[.string p.els[k].name, .int .i64 15] W fun e w' => e = .returned (.bool false) ∧ Below W.heap.size W w') := Lib.hid fun W hW => hin ▸ HI.out W _ hW
        clear hin
        first | (go_region_with (first | (go_at_call 88; refine (HI2.out _ (by exact hb9.drew)).mono ?_; rintro e w1 ⟨rfl, hb3⟩; have k6 := (k5.below (w' := W0.drew) (drw W0 1)).below hb3; have m3 := (m2.below (w' := W0.drew) (drw W0 1)).below hb3; have y1 := k6.cell 0 rfl; have z1 := m3.cell 0 rfl))) | fail
        all_goals (
          go_wp2
          go_ret
          exact ⟨rgi hr.out, hb9.drew.trans (hb3.mono hb9.size)⟩)
      · have HI2 : Hid (∀ W, Below w.heap.size w W → Calls Tryz.prog 88 #[.string p.els[k].name, .int .i64 15] W fun e w' => e = .returned (.bool true) ∧ Below W.heap.size W w') := Lib.hid fun W hW => hin ▸ HI.out W _ hW
        have HIN := Lib.hid hin
        clear hin
        cases hha : hasE (p.els.take k) p.els[k].name
        · have HH2 : Hid (∀ W, Below w.heap.size w W → Calls Tryz.prog 93 #[.agg #[.slice (some ⟨b, off, none⟩) k c1, .slice none 0 0, .slice none 0 0, .bool false, .slice none 0 0, .int .i64 0, .int .i64 0], .string p.els[k].name] W fun e w' => e = .returned (.bool false) ∧ Below W.heap.size W w') := Lib.hid fun W hW => hha ▸ HH.out W k hlt hW
          have HHA := Lib.hid hha
          clear hha
          first | (go_region_with (first
              | (go_at_call 88; refine (HI2.out _ (by exact hb9.drew)).mono ?_; rintro e w1 ⟨rfl, hb3⟩; have hb4 := hb9.drew.trans (hb3.mono hb9.size); have k6 := (k5.below (w' := W0.drew) (drw W0 1)).below hb3; have m3 := (m2.below (w' := W0.drew) (drw W0 1)).below hb3; have y1 := k6.cell 0 rfl; have z1 := m3.cell 0 rfl)
              | (go_at_call 93; refine (HH2.out _ (by exact hb4)).mono ?_; rintro e w2 ⟨rfl, hb5⟩; have k7 := k6.below hb5; have m4 := m3.below hb5; have y2 := k7.cell 0 rfl; have z2 := m4.cell 0 rfl))) | fail
          all_goals (
            have hb6 := hb4.trans (hb5.mono hb4.size)
            have y3 := k7.cell 1 rfl
            have HU2 := Lib.hid (HM.out w2 k hlt A5 c5 hb6 (HU.out _ (hb0.drew.trans ((hb3.trans (hb5.mono hb3.size)).mono hb0.size))))
            cases hrb : rulesB p.els[k].rules
            · have hr : Hid (elsI p = 141) := Lib.hid (by rw [hst.out]; exact els_rules hlt HIN.out HHA.out hrb)
              rw [hrb] at HU2
              clear hrb
              go_wp2_with (go_at_call 131; refine HU2.out.mono ?_; rintro e w3 ⟨rfl, hb7⟩)
              go_ret
              exact ⟨rgi hr.out, hb6.trans (hb7.mono hb6.size)⟩
            · have hr : Hid (elsI p = elsFrom inA (p.els.take (k + 1)) (p.els.drop (k + 1))) := Lib.hid (by rw [hst.out]; exact els_go hlt HIN.out HHA.out hrb)
              rw [hrb] at HU2
              clear hrb
              go_wp2_with (go_at_call 131; refine HU2.out.mono ?_; rintro e w3 ⟨rfl, hb7⟩)
              go_roundw
              case rel => exact ⟨k + 1, by omega, by go_num, rfl, m4.below hb7, hb6.trans (hb7.mono hb6.size), hr⟩
              case measure => simp [intOf] <;> omega)
        · have hr : Hid (elsI p = 140) := Lib.hid (by rw [hst.out]; exact els_bad hlt (.inr hha))
          have HH2 : Hid (∀ W, Below w.heap.size w W → Calls Tryz.prog 93 #[.agg #[.slice (some ⟨b, off, none⟩) k c1, .slice none 0 0, .slice none 0 0, .bool false, .slice none 0 0, .int .i64 0, .int .i64 0], .string p.els[k].name] W fun e w' => e = .returned (.bool true) ∧ Below W.heap.size W w') := Lib.hid fun W hW => hha ▸ HH.out W k hlt hW
          clear hha
          first | (go_region_with (first
              | (go_at_call 88; refine (HI2.out _ (by exact hb9.drew)).mono ?_; rintro e w1 ⟨rfl, hb3⟩; have hb4 := hb9.drew.trans (hb3.mono hb9.size); have k6 := (k5.below (w' := W0.drew) (drw W0 1)).below hb3; have m3 := (m2.below (w' := W0.drew) (drw W0 1)).below hb3; have y1 := k6.cell 0 rfl; have z1 := m3.cell 0 rfl)
              | (go_at_call 93; refine (HH2.out _ (by exact hb4)).mono ?_; rintro e w2 ⟨rfl, hb5⟩; have k7 := k6.below hb5; have m4 := m3.below hb5; have y2 := k7.cell 0 rfl; have z2 := m4.cell 0 rfl))) | fail
          all_goals (
            go_wp2
            go_ret
            exact ⟨rgi hr.out, hb4.trans (hb5.mono hb4.size)⟩)
    · have hr : Hid (elsI p = 0) := Lib.hid (by rw [hst.out]; exact els_end (by omega))
      go_wp2
      go_ret
      exact ⟨rgi hr.out, hnx⟩

set_option maxHeartbeats 1000000 in
set_option maxRecDepth 100000 in
theorem globalRightC (x : Vs) (p : PolD) (w : World) (ht : Tab w) (h : RdP w 0 w.heap.size x p) (hok : OkR p.glob) : Calls Tryz.prog 70 #[polV x p] w fun e w' => e = .returned (.int .i64 (globI p)) ∧ Below w.heap.size w w' := by
  obtain ⟨A1, c1, A2, c2, A3, c3, A4, c4, rfl, q1, q2, q3, q4, q5, q6, q7, q8⟩ := h.form
  obtain ⟨W0, hW0⟩ : ∃ W, W = w.alloc (.cells #[.slice A1 p.els.length c1, .slice A2 p.glob.length c2, .slice A3 p.schemes.length c3, .bool p.rel, .slice A4 p.drop.length c4, .int .i64 p.depth, .int .i64 p.window] 29) := ⟨_, rfl⟩
  have hb0 : Below w.heap.size w W0 := hW0 ▸ (Below.refl _ _).alloc (Nat.le_refl _) _
  have hc := Lib.hid (rulesMayC A2 _ c2 p.glob W0 (ht.below hb0) (kdR.wide (rd_below h.2.1 hb0 (Nat.le_refl _)) (Nat.le_refl _) hb0.size) hok)
  have HX := Lib.hid hW0
  clear h ht hok hW0
  unfold polV
  cases hr : rulesB p.glob
  · have hg : Hid (globI p = 141) := Lib.hid (by unfold globI; rw [hr]; rfl)
    rw [hr] at hc
    clear hr
    go_enter Tryz.func70, Tryz.ntmps70
    go_wp2_with (go_at_call 131; rw [← HX.out]; refine hc.out.mono ?_; rintro e w3 ⟨rfl, hb7⟩)
    go_ret
    exact ⟨rgi hg.out, hb0.trans (hb7.mono hb0.size)⟩
  · have hg : Hid (globI p = 0) := Lib.hid (by unfold globI; rw [hr]; rfl)
    rw [hr] at hc
    clear hr
    go_enter Tryz.func70, Tryz.ntmps70
    go_wp2_with (go_at_call 131; rw [← HX.out]; refine hc.out.mono ?_; rintro e w3 ⟨rfl, hb7⟩)
    go_ret
    exact ⟨rgi hg.out, hb0.trans (hb7.mono hb0.size)⟩
end Go.Proofs.YteikagdinecfoaaGreatDoor.Er
