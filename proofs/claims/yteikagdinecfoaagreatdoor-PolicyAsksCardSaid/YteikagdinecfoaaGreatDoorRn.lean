/- May a rule be: the program's ruleMay. -/
import Derived.Test.YteikagdinecfoaaGreatDoorRm
set_option linter.unusedVariables false
set_option linter.unusedSimpArgs false
namespace Go.Proofs.YteikagdinecfoaaGreatDoor.Rn
open Go.RowKit Lb Gr Pd Fl Go.Proofs.YteikagdinecfoaaGreatDoor.Pm Bk Is Sl Ha Rm
attribute [local go_sem ↓] Go.wp_at_zero Go.wp_at_succ

theorem rb2 {a b : Bool} {e : Ending} (he : e = .returned (.bool a)) (h : b = a) : e = .returned (.bool b) := by rw [he, h]

theorem em7 (k : Int) : (Hid (k = 7) ∧ (k == 7) = true) ∨ (Hid (¬ k = 7) ∧ (k == 7) = false) := by
  by_cases h : k = 7
  · exact .inl ⟨h, by simpa using h⟩
  · exact .inr ⟨h, by simpa using h⟩
set_option maxHeartbeats 8000000 in
set_option maxRecDepth 100000 in
theorem ruleMayC (A A2 : Option Addr) (n c n2 c2 : Nat) (l : List RuleD) (r : RuleD) (w : World) (ht : Tab w) (h : kdR.rd w 0 w.heap.size (.slice A n c) l) (h2 : kdW.rd w 0 w.heap.size (.slice A2 n2 c2) r.words) (hn : n ≤ 9223372036854775807) (hn2 : n2 ≤ 9223372036854775807) (hs : r.name.size ≤ maxLen)
    (hk : -9223372036854775808 ≤ r.kind) (hk2 : r.kind ≤ 9223372036854775807) :
    Calls Tryz.prog 180 #[.slice A n c, .agg #[.string r.name, .int .i64 r.kind, .slice A2 n2 c2]] w fun e w' => e = .returned (.bool (ruleB l r)) ∧ Below w.heap.size w w' := by
  have hnn := rd0 h2
  subst hnn
  obtain ⟨X, hX⟩ : ∃ X, X = w.alloc (.cells #[.string r.name, .int .i64 r.kind, .slice A2 r.words.length c2] 50) := ⟨_, rfl⟩
  have hb0 : Below w.heap.size w X := hX ▸ (Below.refl _ _).alloc (Nat.le_refl _) _
  have k0 : Bl X w.heap.size 50 [.string r.name, .int .i64 r.kind, .slice A2 r.words.length c2] := hX ▸ Bl.new w _ _ rfl
  have HK0 : Hid (∀ W, Below X.heap.size X W → Bl W w.heap.size 50 [.string r.name, .int .i64 r.kind, .slice A2 r.words.length c2]) := Lib.hid fun W hW => k0.below hW
  have hz0 := hb0.size
  have hlt0 := k0.lt
  have HA : Hid (∀ W, Calls Tryz.prog 216 #[.string r.name] W fun e w' => e = .returned (.bool (wrt true r.name.data.toList)) ∧ W = w') := Lib.hid fun W => Go.Proofs.YteikagdinecfoaaGreatDoor.Fm.nAttrName _ W
  have HE : Hid (∀ W, Calls Tryz.prog 217 #[.string r.name] W fun e w' => e = .returned (.bool (evt r.name.data.toList)) ∧ Below W.heap.size W w') := Lib.hid fun W => Go.Proofs.YteikagdinecfoaaGreatDoor.Fm.nEvent _ W hs
  have HB : Hid (∀ W, Below X.heap.size X W → Calls Tryz.prog 218 #[.string r.name, .string barT] W fun e w' => e = .returned (.bool (hasT (fieldsS barT) r.name)) ∧ Below W.heap.size W w') := Lib.hid fun W hW => amongC _ _ W ((ht.below hb0).below hW) (by decide) bar_asc bar_lib
  have HL : Hid (∀ W, Below X.heap.size X W → Calls Tryz.prog 218 #[.string r.name, .string linkT] W fun e w' => e = .returned (.bool (hasT (fieldsS linkT) r.name)) ∧ Below W.heap.size W w') := Lib.hid fun W hW => amongC _ _ W ((ht.below hb0).below hW) (by decide) link_asc link_lib
  have HR : Hid (∀ W, Below X.heap.size X W → Calls Tryz.prog 91 #[.slice A n c, .func (.func 219) #[] #[.pointer (some ⟨w.heap.size, 0, none⟩)]] W fun e w' => e = .returned (.bool (hasR l r.name)) ∧ Below W.heap.size W w') :=
    Lib.hid fun W hW => containsRuC (enters_of Tryz.func219 (by kernel_rfl) rfl) rulePred (kdR.wide (rd_below h (hb0.trans (hW.mono hz0)) (Nat.le_refl _)) (Nat.le_refl _) (Nat.le_trans hz0 hW.size)) hn r.name w.heap.size (by have := hW.size; omega) ((k0.below hW).cell 0 rfl)
  have HW : Hid (∀ W, Below X.heap.size X W → Calls Tryz.prog 153 #[.slice A2 r.words.length c2, .func (.func 220) #[] #[]] W fun e w' => e = .returned (.bool (!r.words.all wordB)) ∧ Below W.heap.size W w') :=
    Lib.hid fun W hW => badWord (kdW.wide (rd_below h2 (hb0.trans (hW.mono hz0)) (Nat.le_refl _)) (Nat.le_refl _) (Nat.le_trans hz0 hW.size)) hn2
  have HX := Lib.hid hX
  have HB0 := Lib.hid hb0
  have HRB : Hid (ruleB l r = (wrt true r.name.data.toList && !evt r.name.data.toList && !hasT (fieldsS barT) r.name && !hasR l r.name && kindB r && !(hasT (fieldsS linkT) r.name && decide (r.kind ≠ 5)) && (decide (r.kind = 7) == decide (0 < r.words.length)) && r.words.all wordB)) := Lib.hid rfl
  have HKB : Hid (kindB r = (decide (0 ≤ r.kind) && decide (r.kind < 9))) := Lib.hid rfl
  clear hX hb0 h h2 ht hs
  generalize ruleB l r = res at *
  generalize kindB r = kb at *
  generalize r.words.all wordB = xw at *
  generalize hasT (fieldsS linkT) r.name = xl at *
  generalize hasR l r.name = xr at *
  generalize hasT (fieldsS barT) r.name = xb at *
  generalize evt r.name.data.toList = xe at *
  generalize wrt true r.name.data.toList = xa at *
  generalize r.words.length = m at *
  obtain ⟨nm, kd, ws⟩ := r
  have x0 := (HK0.out _ (Below.refl _ _)).cell 0 rfl
  have x1 := (HK0.out _ (Below.refl _ _)).cell 1 rfl
  have x2 := (HK0.out _ (Below.refl _ _)).cell 2 rfl
  cases xa
  · have hr : Hid (res = false) := Lib.hid (by rw [HRB.out]; rfl)
    go_enter Tryz.func180, Tryz.ntmps180
    go_wp2_with (go_at_call 216; refine (HA.out _).mono ?_; rintro e wa ⟨rfl, rfl⟩)
    go_ret
    rw [← HX.out]
    exact ⟨rb hr.out, HB0.out⟩
  · cases xe
    · cases xb
      · go_enter Tryz.func180, Tryz.ntmps180
        go_upto_region 3 with (first
          | (go_at_call 216; refine (HA.out _).mono ?_; rintro e wa ⟨rfl, rfl⟩; rw [← HX.out])
          | (go_at_call 217; refine (HE.out _).mono ?_; rintro e w1 ⟨rfl, hb1⟩; have k1 := HK0.out _ hb1; have y0 := k1.cell 0 rfl)
          | (go_at_call 218; refine (HB.out _ hb1).mono ?_; rintro e w2 ⟨rfl, hb2⟩; have hb3 := hb1.trans (hb2.mono hb1.size)))
        cases xr
        · go_upto_region 5 with (go_at_call 91; refine (HR.out _ hb3).mono ?_; rintro e w3 ⟨rfl, hb4⟩)
          have hb5 : Below X.heap.size X w3 := hb3.trans (hb4.mono hb3.size)
          have k5 := HK0.out _ hb5
          have k5d := HK0.out _ (hb5.drew)
          have u0 := k5.cell 0 rfl
          have u1 := k5.cell 1 rfl
          have u2 := k5.cell 2 rfl
          clear hb1 hb2 hb4 k1 y0 x0 x1 x2
          have Q5 : Hid ((kd != 5) = decide (kd ≠ 5)) := Lib.hid (by by_cases h : kd = 5 <;> simp [h])
          cases q1 : decide (kd < 0)
          · cases q2 : decide ((9 : Int) ≤ kd)
            · have hkb : Hid (kb = true) := Lib.hid (by
                have p1 := of_decide_eq_false q1
                have p2 := of_decide_eq_false q2
                rw [HKB.out, decide_eq_true (by omega : 0 ≤ kd), decide_eq_true (by omega : kd < 9)]; rfl)
              have p7 : (kd == 7) = decide (kd = 7) := by by_cases h : kd = 7 <;> simp [h]
              have p8 : decide ((0 : Int) < (m : Int)) = decide (0 < m) := by rw [decide_eq_decide]; omega
              cases xl
              · have HF : Hid (res = ((decide (kd = 7) == decide (0 < m)) && xw)) := Lib.hid (by rw [HRB.out, hkb.out]; simp)
                have P7 := Lib.hid p7
                have P8 := Lib.hid p8
                clear p7 p8
                first | (go_region_with (first
                    | (go_at_call 66; refine (kindsC _).mono ?_; rintro e w4 ⟨A9, G9, rfl, ho9, hb9⟩; have hb6 : Below X.heap.size X w4 := hb5.drew.trans (hb9.mono hb5.size); have k6 := HK0.out _ hb6; have v0 := k6.cell 0 rfl; have v1 := k6.cell 1 rfl)
                    | (go_at_call 218; refine (HL.out _ hb6).mono ?_; rintro e w5 ⟨rfl, hb10⟩; have hb7 : Below X.heap.size X w5 := hb6.trans (hb10.mono hb6.size); have k7 := HK0.out _ hb7; have z0 := k7.cell 0 rfl; have z1 := k7.cell 1 rfl))) | fail
                all_goals (
                  have hbz := HB0.out.trans (hb7.mono hz0)
                  have z2 := k7.cell 2 rfl
                  clear q1 q2 P7 P8
                  rcases em7 kd with ⟨e7, e7b⟩ | ⟨e7, e7b⟩
                  · by_cases e8 : 0 < m
                    · have hr : Hid (res = xw) := Lib.hid (by rw [HF.out, decide_eq_true e7.out, decide_eq_true e8]; rfl)
                      go_wp2_with (go_at_call 153; refine (HW.out _ hb7).mono ?_; rintro e w6 ⟨rfl, hb11⟩)
                      go_ret
                      exact ⟨rb hr.out, hbz.trans (hb11.mono hbz.size)⟩
                    · have hr : Hid (res = false) := Lib.hid (by rw [HF.out, decide_eq_true e7.out, decide_eq_false e8]; rfl)
                      go_wp2
                      go_ret
                      exact ⟨rb hr.out, hbz⟩
                  · by_cases e8 : 0 < m
                    · have hr : Hid (res = false) := Lib.hid (by rw [HF.out, decide_eq_false e7.out, decide_eq_true e8]; rfl)
                      go_wp2
                      go_ret
                      exact ⟨rb hr.out, hbz⟩
                    · have hr : Hid (res = xw) := Lib.hid (by rw [HF.out, decide_eq_false e7.out, decide_eq_false e8]; rfl)
                      obtain rfl : m = 0 := by omega
                      go_wp2_with (go_at_call 153; refine (HW.out _ hb7).mono ?_; rintro e w6 ⟨rfl, hb11⟩)
                      go_ret
                      exact ⟨rb hr.out, hbz.trans (hb11.mono hbz.size)⟩)
              · have P7 := Lib.hid p7
                have P8 := Lib.hid p8
                clear p7 p8
                cases q3 : (kd != 5)
                · have HF : Hid (res = ((decide (kd = 7) == decide (0 < m)) && xw)) := Lib.hid (by rw [HRB.out, hkb.out, ← Q5.out, q3]; simp)
                  first | (go_region_with (first
                      | (go_at_call 66; refine (kindsC _).mono ?_; rintro e w4 ⟨A9, G9, rfl, ho9, hb9⟩; have hb6 : Below X.heap.size X w4 := hb5.drew.trans (hb9.mono hb5.size); have k6 := HK0.out _ hb6; have v0 := k6.cell 0 rfl; have v1 := k6.cell 1 rfl)
                      | (go_at_call 218; refine (HL.out _ hb6).mono ?_; rintro e w5 ⟨rfl, hb10⟩; have hb7 : Below X.heap.size X w5 := hb6.trans (hb10.mono hb6.size); have k7 := HK0.out _ hb7; have z0 := k7.cell 0 rfl; have z1 := k7.cell 1 rfl))) | fail
                  all_goals (
                    have hbz := HB0.out.trans (hb7.mono hz0)
                    have z2 := k7.cell 2 rfl
                    clear q1 q2 q3 P7 P8
                    rcases em7 kd with ⟨e7, e7b⟩ | ⟨e7, e7b⟩
                    · by_cases e8 : 0 < m
                      · have hr : Hid (res = xw) := Lib.hid (by rw [HF.out, decide_eq_true e7.out, decide_eq_true e8]; rfl)
                        go_wp2_with (go_at_call 153; refine (HW.out _ hb7).mono ?_; rintro e w6 ⟨rfl, hb11⟩)
                        go_ret
                        exact ⟨rb hr.out, hbz.trans (hb11.mono hbz.size)⟩
                      · have hr : Hid (res = false) := Lib.hid (by rw [HF.out, decide_eq_true e7.out, decide_eq_false e8]; rfl)
                        go_wp2
                        go_ret
                        exact ⟨rb hr.out, hbz⟩
                    · by_cases e8 : 0 < m
                      · have hr : Hid (res = false) := Lib.hid (by rw [HF.out, decide_eq_false e7.out, decide_eq_true e8]; rfl)
                        go_wp2
                        go_ret
                        exact ⟨rb hr.out, hbz⟩
                      · have hr : Hid (res = xw) := Lib.hid (by rw [HF.out, decide_eq_false e7.out, decide_eq_false e8]; rfl)
                        obtain rfl : m = 0 := by omega
                        go_wp2_with (go_at_call 153; refine (HW.out _ hb7).mono ?_; rintro e w6 ⟨rfl, hb11⟩)
                        go_ret
                        exact ⟨rb hr.out, hbz.trans (hb11.mono hbz.size)⟩)
                · have hr : Hid (res = false) := Lib.hid (by rw [HRB.out, ← Q5.out, q3]; simp)
                  first | (go_region_with (first
                      | (go_at_call 66; refine (kindsC _).mono ?_; rintro e w4 ⟨A9, G9, rfl, ho9, hb9⟩; have hb6 : Below X.heap.size X w4 := hb5.drew.trans (hb9.mono hb5.size); have k6 := HK0.out _ hb6; have v0 := k6.cell 0 rfl; have v1 := k6.cell 1 rfl)
                      | (go_at_call 218; refine (HL.out _ hb6).mono ?_; rintro e w5 ⟨rfl, hb10⟩; have hb7 : Below X.heap.size X w5 := hb6.trans (hb10.mono hb6.size); have k7 := HK0.out _ hb7; have z0 := k7.cell 0 rfl; have z1 := k7.cell 1 rfl))) | fail
                  all_goals (
                    go_wp2
                    go_ret
                    exact ⟨rb hr.out, HB0.out.trans (hb7.mono hz0)⟩)
            · have hr : Hid (res = false) := Lib.hid (by
                have p2 := of_decide_eq_true q2
                rw [HRB.out, HKB.out, decide_eq_false (by omega : ¬ kd < 9)]; simp)
              have hundef : undef = Value.tuple #[] := rfl
              first | (go_region_with (first
                  | (go_at_call 66; refine (kindsC _).mono ?_; rintro e w4 ⟨A9, G9, rfl, ho9, hb9⟩; have hb6 : Below X.heap.size X w4 := hb5.drew.trans (hb9.mono hb5.size); have k6 := HK0.out _ hb6; have v0 := k6.cell 0 rfl; have v1 := k6.cell 1 rfl))) | fail
              all_goals (
                clear hundef
                go_wp2
                go_ret
                exact ⟨rb hr.out, HB0.out.trans (hb6.mono hz0)⟩)
          · have hr : Hid (res = false) := Lib.hid (by
              have p1 := of_decide_eq_true q1
              rw [HRB.out, HKB.out, decide_eq_false (by omega : ¬ 0 ≤ kd)]; simp)
            have hundef : undef = Value.tuple #[] := rfl
            first | (go_region_with (first | fail)) | fail
            all_goals (
              clear hundef
              go_wp2
              go_ret
              exact ⟨rb hr.out, HB0.out.trans (hb5.drew.mono hz0)⟩)
        · have hr : Hid (res = false) := Lib.hid (by rw [HRB.out]; rfl)
          go_wp2_with (go_at_call 91; refine (HR.out _ hb3).mono ?_; rintro e w3 ⟨rfl, hb4⟩)
          go_ret
          exact ⟨rb hr.out, HB0.out.trans ((hb3.trans (hb4.mono hb3.size)).mono hz0)⟩
      · have hr : Hid (res = false) := Lib.hid (by rw [HRB.out]; rfl)
        go_enter Tryz.func180, Tryz.ntmps180
        go_wp2_with (first
          | (go_at_call 216; refine (HA.out _).mono ?_; rintro e wa ⟨rfl, rfl⟩; rw [← HX.out])
          | (go_at_call 217; refine (HE.out _).mono ?_; rintro e w1 ⟨rfl, hb1⟩; have k1 := HK0.out _ hb1; have y0 := k1.cell 0 rfl)
          | (go_at_call 218; refine (HB.out _ hb1).mono ?_; rintro e w2 ⟨rfl, hb2⟩; have hb3 := hb1.trans (hb2.mono hb1.size)))
        go_ret
        exact ⟨rb hr.out, HB0.out.trans (hb3.mono hz0)⟩
    · have hr : Hid (res = false) := Lib.hid (by rw [HRB.out]; rfl)
      go_enter Tryz.func180, Tryz.ntmps180
      go_wp2_with (first
        | (go_at_call 216; refine (HA.out _).mono ?_; rintro e wa ⟨rfl, rfl⟩; rw [← HX.out])
        | (go_at_call 217; refine (HE.out _).mono ?_; rintro e w1 ⟨rfl, hb1⟩))
      go_ret
      exact ⟨rb hr.out, HB0.out.trans (hb1.mono hz0)⟩
end Go.Proofs.YteikagdinecfoaaGreatDoor.Rn
