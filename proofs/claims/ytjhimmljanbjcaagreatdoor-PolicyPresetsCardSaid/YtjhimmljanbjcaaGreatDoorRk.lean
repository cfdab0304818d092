/- The reference's rule: may the last rule of a list be, with those ahead of it. -/
import Derived.Test.YtjhimmljanbjcaaGreatDoorCh
import Derived.Test.YtjhimmljanbjcaaGreatDoorSp
import Derived.Test.YtjhimmljanbjcaaGreatDoorCm
import Derived.Deep.RegionHeld3
import Derived.Test.YtjhimmljanbjcaaGreatDoorRg
import Derived.Test.YtjhimmljanbjcaaGreatDoorLk
import Derived.Test.YtjhimmljanbjcaaGreatDoorRd
set_option linter.unusedVariables false
set_option linter.unusedSimpArgs false
namespace Go.Proofs.YtjhimmljanbjcaaGreatDoor.Rj
open Go.RowKit Lb Gr Pd Fl Rf Go.Proofs.YtjhimmljanbjcaaGreatDoor.Pm Bk Is Sl Go.Proofs.YtjhimmljanbjcaaGreatDoor.Rm Dp
attribute [local go_sem ↓] Go.wp_at_zero Go.wp_at_succ

theorem rFieldsK (t : ByteArray) (h : t.size ≤ 2147483647) (w : World) : Calls Tryz.prog 108 #[.string t] w fun e w' => ∃ A c, e = .returned (.slice A (fieldsS t).length c) ∧ kdW.rd w' 0 w'.heap.size (.slice A (fieldsS t).length c) (fieldsS t) ∧ Below w.heap.size w w' :=
  (rFields t w h).mono fun e w' ⟨v, he, ho, hb⟩ => by
    obtain ⟨A, c, rfl⟩ := ho.form
    exact ⟨A, c, he, kdW.read (F := (Value.slice A (fieldsS t).length c).ownBlock.toList) ⟨ho, rfl⟩ (Nat.zero_le _) (Nat.le_refl _), hb⟩

set_option maxHeartbeats 8000000 in
set_option maxRecDepth 100000 in
theorem rMayC (l : List RuleD) (v : Value) (k : Nat) (hk : l.length = k + 1) (w : World) (h : kdR.rd w 0 w.heap.size v l) (hs : ∀ i (hi : i < l.length), (l[i]).name.size ≤ maxLen) :
    Calls Tryz.prog 110 #[v] w fun e w' => e = .returned (.bool (ruleB (l.take k) (l[k]'(by omega)))) ∧ Below w.heap.size w w' := by
  obtain ⟨A, c, rfl, hc1, hc2⟩ := fmR.rd_form h
  have hm : maxLen = 9223372036854775807 := rfl
  have hkl : k < l.length := by omega
  obtain ⟨b, off, u, rfl, hb1, hb2, hu, hcell⟩ := fmR.rd_at h hkl
  have c0 := hcell 0 _ rfl
  have c1 := hcell 1 _ rfl
  have c2 := hcell 2 _ rfl
  rw [show off + (k * fmR.size + 0) = off + k * 3 from rfl] at c0
  rw [show off + (k * fmR.size + 1) = off + k * 3 + 1 from by show off + (k * 3 + 1) = _; omega] at c1
  rw [show off + (k * fmR.size + 2) = off + k * 3 + 2 from by show off + (k * 3 + 2) = _; omega] at c2
  have hu' : kdW.rd w 0 w.heap.size u l[k].words := hu
  obtain ⟨A1, cc1, rfl, hq1, hq2⟩ := rdW_form hu'
  have hns := hs k hkl
  have HRD : Hid (∀ W, Below w.heap.size w W → kdR.rd W 0 w.heap.size (.slice (some ⟨b, off, none⟩) k c) (l.take k)) := Lib.hid fun W hW => fmR.rd_take (rd_below h hW (Nat.le_refl _)) (by omega)
  have HRW : Hid (∀ W, Below w.heap.size w W → kdW.rd W 0 w.heap.size (.slice A1 l[k].words.length cc1) l[k].words) := Lib.hid fun W hW => rd_below hu' hW (Nat.le_refl _)
  have hpl : Hid ((l.take k).length = k) := Lib.hid (by rw [List.length_take]; omega)
  obtain ⟨r, hr⟩ : ∃ r, r = l[k] := ⟨_, rfl⟩
  obtain ⟨pre, hpre⟩ : ∃ pre, pre = l.take k := ⟨_, rfl⟩
  rw [← hr] at c0 c1 c2 HRW hns ⊢
  rw [← hpre] at HRD hpl ⊢
  have hki : (k : Int) ≤ 9223372036854775807 := by omega
  have hwl : (r.words.length : Int) ≤ 9223372036854775807 := by rw [hr]; omega
  have hkc : k + 1 ≤ c ∧ c ≤ maxLen := by omega
  clear h hu hu' hcell hs hr hpre hc1 hc2 hq1 hq2
  rw [hk]
  obtain ⟨nm, kd, ws⟩ := r
  simp only at c0 c1 c2 HRW hns hwl
  have HA : Hid (∀ W, Calls Tryz.prog 162 #[.string nm] W fun e w' => e = .returned (.bool (wrt true nm.data.toList)) ∧ Below W.heap.size W w') := Lib.hid fun W => (Go.Proofs.YtjhimmljanbjcaaGreatDoor.Fm.rAttrName _ W).mono fun e w' h => ⟨h.1, h.2 ▸ Below.refl _ _⟩
  have HE : Hid (∀ W, Calls Tryz.prog 163 #[.string nm] W fun e w' => e = .returned (.bool (evt nm.data.toList)) ∧ Below W.heap.size W w') := Lib.hid fun W => Go.Proofs.YtjhimmljanbjcaaGreatDoor.Fm.rEvent _ W hns
  have HFB : Hid (∀ W, Calls Tryz.prog 108 #[.string barT] W fun e w' => ∃ A c, e = .returned (.slice A (fieldsS barT).length c) ∧ kdW.rd w' 0 w'.heap.size (.slice A (fieldsS barT).length c) (fieldsS barT) ∧ Below W.heap.size W w') := Lib.hid fun W => rFieldsK barT (by decide) W
  have HFL : Hid (∀ W, Calls Tryz.prog 108 #[.string linkT] W fun e w' => ∃ A c, e = .returned (.slice A (fieldsS linkT).length c) ∧ kdW.rd w' 0 w'.heap.size (.slice A (fieldsS linkT).length c) (fieldsS linkT) ∧ Below W.heap.size W w') := Lib.hid fun W => rFieldsK linkT (by decide) W
  have HHS : Hid (∀ W L v, kdW.rd W 0 W.heap.size v L → Calls Tryz.prog 48 #[v, .string nm] W fun e w' => e = .returned (.bool (hasT L nm)) ∧ w' = W) := Lib.hid fun W L v hv => rHasC L v nm W hv
  have HRB : Hid (ruleB pre ⟨nm, kd, ws⟩ = (wrt true nm.data.toList && !evt nm.data.toList && !hasT (fieldsS barT) nm && !hasR pre nm && (decide (0 ≤ kd) && decide (kd < 9)) && !(hasT (fieldsS linkT) nm && decide (kd ≠ 5)) && (decide (kd = 7) == decide (0 < ws.length)) && ws.all wordB)) := Lib.hid rfl
  generalize ruleB pre ⟨nm, kd, ws⟩ = res at *
  obtain ⟨W1, hW1⟩ : ∃ W, W = w.alloc (.cells #[.string nm, .int .i64 kd, .slice A1 ws.length cc1] 50) := ⟨_, rfl⟩
  have hb0 : Below w.heap.size w W1 := hW1 ▸ (Below.refl _ _).alloc (Nat.le_refl _) _
  have k0 : Bl W1 w.heap.size 50 [.string nm, .int .i64 kd, .slice A1 ws.length cc1] := hW1 ▸ Bl.new w _ _ rfl
  have HK : Hid (∀ W, Below W1.heap.size W1 W → W.cell? ⟨w.heap.size, 0, none⟩ = some (.string nm) ∧ W.cell? ⟨w.heap.size, 1, none⟩ = some (.int .i64 kd) ∧ W.cell? ⟨w.heap.size, 2, none⟩ = some (.slice A1 ws.length cc1)) := Lib.hid fun W hW => ⟨(k0.below hW).cell 0 rfl, (k0.below hW).cell 1 rfl, (k0.below hW).cell 2 rfl⟩
  have hz0 := hb0.size
  have HW1 := Lib.hid hW1
  have hkk : IntKind.i64.wrap (((k + 1 : Nat) : Int) - 1) = (k : Int) := by rw [IntKind.wrap_i64]; omega
  have hd0 : Below W1.heap.size W1 W1.drew := drw W1 1
  obtain ⟨z0, z1, z2⟩ := HK.out _ (Below.refl _ _)
  clear hW1 k0 hm hk
  obtain ⟨xa, hxa⟩ : ∃ x, x = wrt true nm.data.toList := ⟨_, rfl⟩
  obtain ⟨xe, hxe⟩ : ∃ x, x = evt nm.data.toList := ⟨_, rfl⟩
  obtain ⟨xb, hxb⟩ : ∃ x, x = hasT (fieldsS barT) nm := ⟨_, rfl⟩
  have HHB : Hid (∀ W v, kdW.rd W 0 W.heap.size v (fieldsS barT) → Calls Tryz.prog 48 #[v, .string nm] W fun e w' => e = .returned (.bool xb) ∧ w' = W) := Lib.hid fun W v hv => by rw [hxb]; exact HHS.out W _ v hv
  rw [← hxa] at HA HRB
  rw [← hxe] at HE HRB
  rw [← hxb] at HRB
  clear hxa hxe hxb
  obtain ⟨FB, hFB⟩ : ∃ x, x = fieldsS barT := ⟨_, rfl⟩
  rw [← hFB] at HFB HHB
  clear hFB
  have hstep : True := trivial
  go_enter Tryz.func110, Tryz.ntmps110
  go_upto_region 2 with fail
  rw [← HW1.out]
  clear c0 c1 c2 hstep
  cases xa
  · skip
    have hr : Hid (res = false) := Lib.hid (by rw [HRB.out]; simp)
    first | (go_region_with (first
        | (go_at_call 162; refine (HA.out _).mono ?_; rintro e wa ⟨rfl, hba⟩; have ha1 : Below W1.heap.size W1 wa := hd0.trans hba; have ya := (HK.out _ ha1).1)
        | (go_at_call 163; refine (HE.out _).mono ?_; rintro e we ⟨rfl, hbe⟩; have he1 : Below W1.heap.size W1 we := ha1.trans (hbe.mono ha1.size); have y0 := (HK.out _ he1).1)
        | (go_at_call 108; refine (HFB.out _).mono ?_; rintro e wf ⟨AF, cF, rfl, hoF, hbf⟩; have hf1 : Below W1.heap.size W1 wf := he1.trans (hbf.mono he1.size); have yf := (HK.out _ hf1).1)
        | (go_at_call 48; refine (HHB.out _ _ hoF).mono ?_; rintro e wh ⟨rfl, h7⟩; obtain rfl := h7.symm))) | fail
    all_goals go_wp2
    all_goals go_ret
    all_goals exact ⟨rb hr.out, hb0.trans (ha1.mono hz0)⟩
  · cases xe
    · cases xb
      · first | (go_region_with (first
            | (go_at_call 162; refine (HA.out _).mono ?_; rintro e wa ⟨rfl, hba⟩; have ha1 : Below W1.heap.size W1 wa := hd0.trans hba; have ya := (HK.out _ ha1).1)
            | (go_at_call 163; refine (HE.out _).mono ?_; rintro e we ⟨rfl, hbe⟩; have he1 : Below W1.heap.size W1 we := ha1.trans (hbe.mono ha1.size); have y0 := (HK.out _ he1).1)
            | (go_at_call 108; refine (HFB.out _).mono ?_; rintro e wf ⟨AF, cF, rfl, hoF, hbf⟩; have hf1 : Below W1.heap.size W1 wf := he1.trans (hbf.mono he1.size); have yf := (HK.out _ hf1).1)
            | (go_at_call 48; refine (HHB.out _ _ hoF).mono ?_; rintro e wh ⟨rfl, h7⟩; obtain rfl := h7.symm))) | fail
        all_goals (
          have HRB2 : Hid (res = (!hasR pre nm && (decide (0 ≤ kd) && decide (kd < 9)) && !(hasT (fieldsS linkT) nm && decide (kd ≠ 5)) && (decide (kd = 7) == decide (0 < ws.length)) && ws.all wordB)) := Lib.hid (by rw [HRB.out]; simp)
          clear HRB HA HE HFB HHB hoF z0 z1 z2
          have hck : (k : Int) ≤ (c : Int) := by omega
          go_wp2
          go_loopw [36] (fun i wr => ∃ j : Nat, j ≤ k ∧ i = .int .i64 j ∧ Hid (hasR pre nm = hasR (pre.drop j) nm) ∧ Below W1.heap.size W1 wr) (fun i _ => k - (intOf i).toNat)
          case atStart => exact ⟨0, by omega, rfl, Lib.hid rfl, hf1⟩
          case round =>
            obtain ⟨j, hj, rfl, hst, hnx⟩ := hrel
            have hw := hb0.trans (hnx.mono hz0)
            have hzr := hnx.size
            by_cases hlt : j < k
            · have hjp : j < pre.length := by rw [hpl.out]; exact hlt
              obtain ⟨b3, off3, u3, hA3, _, hb32, hu3, hcell3⟩ := fmR.rd_at (HRD.out _ hw) hjp
              have hA4 := Option.some.inj hA3
              injection hA4 with e1 e2 e3
              subst e1 e2
              have x0 := hcell3 0 _ rfl
              have x1 := hcell3 1 _ rfl
              have x2 := hcell3 2 _ rfl
              rw [show off + (j * fmR.size + 0) = off + j * 3 from rfl] at x0
              rw [show off + (j * fmR.size + 1) = off + j * 3 + 1 from by show off + (j * 3 + 1) = _; omega] at x1
              rw [show off + (j * fmR.size + 2) = off + j * 3 + 2 from by show off + (j * 3 + 2) = _; omega] at x2
              have hu3' : kdW.rd wr 0 w.heap.size u3 pre[j].words := hu3
              obtain ⟨A5, c5, rfl, _⟩ := rdW_form hu3'
              have hj0 : (0 : Int) ≤ (j : Int) := by omega
              have hj1 : (j : Int) < (k : Int) := by omega
              have hdr : hasR (pre.drop j) nm = (decide (pre[j].name = nm) || hasR (pre.drop (j + 1)) nm) := by unfold hasR; rw [List.drop_eq_getElem_cons hjp, List.any_cons]
              have HDR := Lib.hid hdr
              obtain ⟨pn, hpn⟩ : ∃ x, x = pre[j].name := ⟨_, rfl⟩
              rw [← hpn] at x0 HDR
              clear hcell3 hu3 hu3' hA3 e3 hdr hpn
              go_upto_region 7 with fail
              obtain ⟨W4, hW4⟩ : ∃ W, W = wr.alloc (.cells #[.string pn, .int .i64 pre[j].kind, .slice A5 pre[j].words.length c5] 50) := ⟨_, rfl⟩
              have hb4 : Below wr.heap.size wr W4 := hW4 ▸ (Below.refl _ _).alloc (Nat.le_refl _) _
              have k4 : Bl W4 wr.heap.size 50 [.string pn, .int .i64 pre[j].kind, .slice A5 pre[j].words.length c5] := hW4 ▸ Bl.new wr _ _ rfl
              have y0 := k4.cell 0 rfl
              have hn4 : Below W1.heap.size W1 W4 := hnx.trans (hb4.mono hzr)
              obtain ⟨z0, z1, z2⟩ := HK.out _ hn4
              rw [← hW4]
              have HW4 := Lib.hid hW4
              clear hW4 k4 x0 x1 x2
              by_cases he : pn = nm
              · have q1 := toList_eq_of he
                have hr : Hid (res = false) := Lib.hid (by rw [HRB2.out, hst.out, HDR.out, decide_eq_true he]; simp)
                clear he
                go_wp2
                go_ret
                exact ⟨rb hr.out, hb0.trans (hn4.mono hz0)⟩
              · have q1 := toList_ne_of he
                have hst2 : Hid (hasR pre nm = hasR (pre.drop (j + 1)) nm) := Lib.hid (by rw [hst.out, HDR.out, decide_eq_false he]; rfl)
                clear he
                go_wp2
                go_roundw
                case rel => exact ⟨j + 1, by omega, by go_num, hst2, hn4⟩
                case measure => simp [intOf] <;> omega
            · obtain rfl : j = k := by omega
              have HRB3 : Hid (res = ((decide (0 ≤ kd) && decide (kd < 9)) && !(hasT (fieldsS linkT) nm && decide (kd ≠ 5)) && (decide (kd = 7) == decide (0 < ws.length)) && ws.all wordB)) := Lib.hid (by
                have h9 : hasR pre nm = false := by rw [hst.out, List.drop_of_length_le (by rw [hpl.out]; exact Nat.le_refl _)]; rfl
                rw [HRB2.out, h9]; simp)
              clear HRB2 hst
              obtain ⟨z0, z1, z2⟩ := HK.out _ hnx
              have hdx : Below W1.heap.size W1 wr.drew := hnx.trans ((drw wr 1).mono hzr)
              go_upto_region 10 with fail
              obtain ⟨x0', x1', x2'⟩ := HK.out _ hdx
              obtain ⟨bad, hbad⟩ : ∃ b, b = !((decide (0 ≤ kd) && decide (kd < 9)) && !(hasT (fieldsS linkT) nm && decide (kd ≠ 5)) && (decide (kd = 7) == decide (0 < ws.length))) := ⟨_, rfl⟩
              have HRB4 : Hid (res = (!bad && ws.all wordB)) := Lib.hid (by rw [HRB3.out, hbad, Bool.not_not])
              have HBAD := Lib.hid hbad
              have HNX : Hid (Below W1.heap.size W1 wr) := Lib.hid hnx
              obtain ⟨wo, rfl⟩ : ∃ wo, wo = wr := ⟨_, rfl⟩
              clear HRB3 hbad hpl HRD hck hlt hj hkc hns hnx
              go_cut [74] from 46 (fun s wx => s = .bool bad ∧ Below W1.heap.size W1 wx)
              case first =>
                clear HRW HRB4
                cases hb0' : bad
                · have hg := HBAD.out
                  have HB0 := Lib.hid hb0'
                  rw [hb0'] at hg
                  have hg2 : (decide (0 ≤ kd) && decide (kd < 9)) = true ∧ (hasT (fieldsS linkT) nm && decide (kd ≠ 5)) = false ∧ (decide (kd = 7) == decide (0 < ws.length)) = true := by
                    revert hg
                    generalize (decide (0 ≤ kd) && decide (kd < 9)) = y1
                    generalize (hasT (fieldsS linkT) nm && decide (kd ≠ 5)) = y2
                    generalize (decide (kd = 7) == decide (0 < ws.length)) = y3
                    cases y1 <;> cases y2 <;> cases y3 <;> simp
                  obtain ⟨g1, g2, g3⟩ := hg2
                  simp only [Bool.and_eq_true, decide_eq_true_eq] at g1
                  obtain ⟨p1, p2⟩ := g1
                  have p1' : ¬ kd < 0 := by omega
                  have p2' : ¬ 9 ≤ kd := by omega
                  by_cases k5 : kd = 5
                  · subst k5
                    have hws : ws = [] := by
                      rcases Nat.eq_zero_or_pos ws.length with h | h
                      · exact List.eq_nil_of_length_eq_zero h
                      · rw [decide_eq_true h] at g3; simp at g3
                    subst hws
                    clear g2 g3 hg hb0' HBAD HHS HFL
                    go_quiet (fail)
                    go_wp2_with fail
                    go_meet
                    exact ⟨by rw [HB0.out], HNX.out.trans ((drw wo _).mono hzr)⟩
                  · have e5 : (kd == 5) = false := by simpa using k5
                    have e5' : (kd != 5) = true := by simpa using k5
                    have g2' : hasT (fieldsS linkT) nm = false := by simpa [k5] using g2
                    have HHL : Hid (∀ W v, kdW.rd W 0 W.heap.size v (fieldsS linkT) → Calls Tryz.prog 48 #[v, .string nm] W fun e w' => e = .returned (.bool false) ∧ w' = W) := Lib.hid fun W v hv => by rw [← g2']; exact HHS.out W _ v hv
                    obtain ⟨FL, hFL⟩ : ∃ x, x = fieldsS linkT := ⟨_, rfl⟩
                    rw [← hFL] at HFL HHL
                    by_cases k7 : kd = 7
                    · subst k7
                      have pl : 0 < ws.length := by
                        rcases Nat.eq_zero_or_pos ws.length with h | h
                        · rw [h] at g3; simp at g3
                        · exact h
                      have pl2 : (0 : Int) < (ws.length : Int) := by omega
                      clear g2 g2' g3 hg hb0' HBAD HHS hFL k5
                      go_region_held3 (fun W' => W'.cell? ⟨w.heap.size, 0, none⟩ = some (.string nm) ∧ W'.cell? ⟨w.heap.size, 1, none⟩ = some (.int .i64 7) ∧ W'.cell? ⟨w.heap.size, 2, none⟩ = some (.slice A1 ws.length cc1))
                        (first | exact ⟨x0', x1', x2'⟩ | exact ⟨z0, z1, z2⟩ | exact HS.out)
                        (first
                        | (go_at_call 108; refine (HFL.out _).mono ?_; rintro e wf2 ⟨AG, cG, rfl, hoG, hbg⟩; have hg1 : Below W1.heap.size W1 wf2 := hdx.trans (hbg.mono hdx.size); have HS := Lib.hid (HK.out _ hg1))
                        | (go_at_call 48; refine (HHL.out _ _ hoG).mono ?_; rintro e wh ⟨rfl, h7⟩; obtain rfl := h7.symm))
                      all_goals (go_wp2_with fail; go_meet; exact ⟨by rw [HB0.out], hg1⟩)
                    · have e7 : (kd == 7) = false := by simpa using k7
                      have hws : ws = [] := by
                        rcases Nat.eq_zero_or_pos ws.length with h | h
                        · exact List.eq_nil_of_length_eq_zero h
                        · rw [decide_eq_true h, decide_eq_false k7] at g3; simp at g3
                      subst hws
                      clear g2 g2' g3 hg hb0' HBAD HHS hFL k5 k7
                      go_region_held3 (fun W' => W'.cell? ⟨w.heap.size, 0, none⟩ = some (.string nm) ∧ W'.cell? ⟨w.heap.size, 1, none⟩ = some (.int .i64 kd) ∧ W'.cell? ⟨w.heap.size, 2, none⟩ = some (.slice A1 ([] : List ByteArray).length cc1))
                        (first | exact ⟨x0', x1', x2'⟩ | exact ⟨z0, z1, z2⟩ | exact HS.out)
                        (first
                        | (go_at_call 108; refine (HFL.out _).mono ?_; rintro e wf2 ⟨AG, cG, rfl, hoG, hbg⟩; have hg1 : Below W1.heap.size W1 wf2 := hdx.trans (hbg.mono hdx.size); have HS := Lib.hid (HK.out _ hg1))
                        | (go_at_call 48; refine (HHL.out _ _ hoG).mono ?_; rintro e wh ⟨rfl, h7⟩; obtain rfl := h7.symm))
                      all_goals (go_wp2_with fail; go_meet; exact ⟨by rw [HB0.out], hg1⟩)
                · have HB0 := Lib.hid hb0'
                  by_cases p1 : kd < 0
                  · clear HBAD HHS HFL hb0'
                    go_quiet (fail)
                    go_wp2_with fail
                    go_meet
                    exact ⟨by rw [HB0.out], HNX.out.trans ((drw wo _).mono hzr)⟩
                  · by_cases p2 : 9 ≤ kd
                    · clear HBAD HHS HFL hb0'
                      go_quiet (fail)
                      go_wp2_with fail
                      go_meet
                      exact ⟨by rw [HB0.out], HNX.out.trans ((drw wo _).mono hzr)⟩
                    · have hg := HBAD.out
                      rw [hb0', decide_eq_true (show 0 ≤ kd by omega), decide_eq_true (show kd < 9 by omega)] at hg
                      by_cases k7 : kd = 7
                      · subst k7
                        rcases Nat.eq_zero_or_pos ws.length with hz | pl
                        · have hws := List.eq_nil_of_length_eq_zero hz
                          subst hws
                          clear HBAD HHS HFL hb0' hg hz
                          go_quiet (fail)
                          go_wp2_with fail
                          go_meet
                          exact ⟨by rw [HB0.out], HNX.out.trans ((drw wo _).mono hzr)⟩
                        · have pl2 : (0 : Int) < (ws.length : Int) := by omega
                          have g2' : hasT (fieldsS linkT) nm = true := by
                            rw [decide_eq_true pl] at hg
                            revert hg
                            cases hasT (fieldsS linkT) nm <;> simp
                          have HHL : Hid (∀ W v, kdW.rd W 0 W.heap.size v (fieldsS linkT) → Calls Tryz.prog 48 #[v, .string nm] W fun e w' => e = .returned (.bool true) ∧ w' = W) := Lib.hid fun W v hv => by rw [← g2']; exact HHS.out W _ v hv
                          obtain ⟨FL, hFL⟩ : ∃ x, x = fieldsS linkT := ⟨_, rfl⟩
                          rw [← hFL] at HFL HHL
                          clear g2' hg hb0' HBAD HHS hFL
                          go_region_held3 (fun W' => W'.cell? ⟨w.heap.size, 0, none⟩ = some (.string nm) ∧ W'.cell? ⟨w.heap.size, 1, none⟩ = some (.int .i64 7) ∧ W'.cell? ⟨w.heap.size, 2, none⟩ = some (.slice A1 ws.length cc1))
                            (first | exact ⟨x0', x1', x2'⟩ | exact ⟨z0, z1, z2⟩ | exact HS.out)
                            (first
                            | (go_at_call 108; refine (HFL.out _).mono ?_; rintro e wf2 ⟨AG, cG, rfl, hoG, hbg⟩; have hg1 : Below W1.heap.size W1 wf2 := hdx.trans (hbg.mono hdx.size); have HS := Lib.hid (HK.out _ hg1))
                            | (go_at_call 48; refine (HHL.out _ _ hoG).mono ?_; rintro e wh ⟨rfl, h7⟩; obtain rfl := h7.symm))
                          all_goals (go_wp2_with fail; go_meet; exact ⟨by rw [HB0.out], hg1⟩)
                      · have e7 : (kd == 7) = false := by simpa using k7
                        rcases Nat.eq_zero_or_pos ws.length with hz | pl
                        · have hws := List.eq_nil_of_length_eq_zero hz
                          subst hws
                          have g2'' : hasT (fieldsS linkT) nm = true ∧ kd ≠ 5 := by
                            rw [decide_eq_false k7] at hg
                            revert hg
                            cases hasT (fieldsS linkT) nm <;> by_cases h5 : kd = 5 <;> simp [h5]
                          obtain ⟨g2', k5⟩ := g2''
                          have e5 : (kd == 5) = false := by simpa using k5
                          have e5' : (kd != 5) = true := by simpa using k5
                          have HHL : Hid (∀ W v, kdW.rd W 0 W.heap.size v (fieldsS linkT) → Calls Tryz.prog 48 #[v, .string nm] W fun e w' => e = .returned (.bool true) ∧ w' = W) := Lib.hid fun W v hv => by rw [← g2']; exact HHS.out W _ v hv
                          obtain ⟨FL, hFL⟩ : ∃ x, x = fieldsS linkT := ⟨_, rfl⟩
                          rw [← hFL] at HFL HHL
                          clear g2' hg hb0' HBAD HHS hFL hz k5 k7
                          go_region_held3 (fun W' => W'.cell? ⟨w.heap.size, 0, none⟩ = some (.string nm) ∧ W'.cell? ⟨w.heap.size, 1, none⟩ = some (.int .i64 kd) ∧ W'.cell? ⟨w.heap.size, 2, none⟩ = some (.slice A1 ([] : List ByteArray).length cc1))
                            (first | exact ⟨x0', x1', x2'⟩ | exact ⟨z0, z1, z2⟩ | exact HS.out)
                            (first
                            | (go_at_call 108; refine (HFL.out _).mono ?_; rintro e wf2 ⟨AG, cG, rfl, hoG, hbg⟩; have hg1 : Below W1.heap.size W1 wf2 := hdx.trans (hbg.mono hdx.size); have HS := Lib.hid (HK.out _ hg1))
                            | (go_at_call 48; refine (HHL.out _ _ hoG).mono ?_; rintro e wh ⟨rfl, h7⟩; obtain rfl := h7.symm))
                          all_goals (go_wp2_with fail; go_meet; exact ⟨by rw [HB0.out], hg1⟩)
                        · have pl2 : (0 : Int) < (ws.length : Int) := by omega
                          clear HBAD HHS HFL hb0' hg
                          go_quiet (fail)
                          go_wp2_with fail
                          go_meet
                          exact ⟨by rw [HB0.out], HNX.out.trans ((drw wo _).mono hzr)⟩
              case rest =>
                clear z0 z1 z2 x0' x1' x2' HHS HFL HBAD hdx HNX
                obtain ⟨rfl, hwc⟩ := hcut
                cases bad
                · have HRB5 : Hid (res = ws.all wordB) := Lib.hid (by rw [HRB4.out]; rfl)
                  clear HRB4
                  obtain ⟨z0, z1, z2⟩ := HK.out _ hwc
                  go_wp2
                  go_loopw [78] (fun i wr => ∃ m : Nat, m ≤ ws.length ∧ i = .int .i64 m ∧ Hid (∀ t (h : t < ws.length), t < m → wordB ws[t] = true) ∧ wr = wc) (fun i _ => ws.length - (intOf i).toNat)
                  case atStart => exact ⟨0, by omega, rfl, Lib.hid (fun t h ht => by omega), rfl⟩
                  case round =>
                    obtain ⟨m, hm, rfl, hall, rfl⟩ := hrel
                    by_cases hlt : m < ws.length
                    · obtain ⟨b6, off6, rfl, _, hb6, hc6⟩ := rdW_at (HRW.out _ (hb0.trans (hwc.mono hz0))) hlt
                      obtain ⟨s, hs⟩ : ∃ s, s = ws[m] := ⟨_, rfl⟩
                      have HSW := Lib.hid hs
                      rw [← hs] at hc6
                      clear hs
                      have hm0 : (0 : Int) ≤ (m : Int) := by omega
                      have hm1 : (m : Int) < (ws.length : Int) := by omega
                      have hmem : Hid (s ∈ ws) := Lib.hid (by rw [HSW.out]; exact List.getElem_mem _)
                      have hno : Hid (wordB s = false → res = false) := Lib.hid (fun hf => by
                        rw [HRB5.out, List.all_eq_false]
                        exact ⟨s, hmem.out, by rw [hf]; simp⟩)
                      have hsl := size_len s
                      by_cases h0 : s.size = 0
                      · have hr : Hid (res = false) := Lib.hid (hno.out (by unfold wordB; rw [h0]; rfl))
                        have e0 := toList_nil h0
                        go_wp2
                        go_ret
                        exact ⟨rb hr.out, hb0.trans (hwc.mono hz0)⟩
                      · by_cases h1 : 100 < s.size
                        · have hr : Hid (res = false) := Lib.hid (hno.out (by
                            unfold wordB; have : ¬ s.size ≤ 100 := by omega
                            simp [this]))
                          go_wp2
                          go_ret
                          exact ⟨rb hr.out, hb0.trans (hwc.mono hz0)⟩
                        · have HW : Hid (wordB s = s.data.toList.all okW) := Lib.hid (by
                            unfold wordB
                            have h2 : 1 ≤ s.size := by omega
                            have h3 : s.size ≤ 100 := by omega
                            simp [h2, h3])
                          obtain ⟨wd, rfl⟩ : ∃ wd, wd = wr := ⟨_, rfl⟩
                          go_wp2
                          go_loopw [92] (fun i wr => ∃ q : Nat, q ≤ s.size ∧ i = .int .i64 q ∧ wr = wd ∧ Hid (∀ j (hj : j < q) (h : j < s.size), okW s[j] = true)) (fun i _ => s.size - (intOf i).toNat)
                          case atStart => exact ⟨0, by omega, rfl, rfl, Lib.hid (fun j hj => by omega)⟩
                          case round =>
                            obtain ⟨q, hq, rfl, rfl, hallq⟩ := hrel
                            by_cases hltq : q < s.size
                            · by_cases hb : okW s[q] = true
                              · have HB := Lib.hid hb
                                have b1 : ¬ ((s[q].toNat : Int) < 33) := fun h => by rw [okW_no (.inl h)] at hb; cases hb
                                have b2 : ¬ ((126 : Int) < s[q].toNat) := fun h => by rw [okW_no (.inr h)] at hb; cases hb
                                clear hb
                                go_wp2
                                go_roundw
                                case rel => exact ⟨q + 1, by omega, by go_num, (by first | rfl | trivial), Lib.hid (fun j hj h => by
                                  by_cases e : j = q
                                  · subst e; exact HB.out
                                  · exact hallq.out j (by omega) h)⟩
                                case measure => simp [intOf] <;> omega
                              · have hr : Hid (res = false) := Lib.hid (hno.out (by
                                  rw [HW.out, List.all_eq_false]
                                  exact ⟨s[q], by rw [at_list]; exact List.getElem_mem _, hb⟩))
                                by_cases b1 : (s[q].toNat : Int) < 33
                                · go_wp2
                                  go_ret
                                  exact ⟨rb hr.out, hb0.trans (hwc.mono hz0)⟩
                                · by_cases b2 : (126 : Int) < s[q].toNat
                                  · go_wp2
                                    go_ret
                                    exact ⟨rb hr.out, hb0.trans (hwc.mono hz0)⟩
                                  · exact absurd (okW_yes b1 b2) hb
                            · have ht : Hid (wordB s = true) := Lib.hid (by
                                rw [HW.out, List.all_eq_true]
                                intro x hx
                                obtain ⟨j, hj, rfl⟩ := List.getElem_of_mem hx
                                have hj' : j < s.size := by rw [← size_len]; exact hj
                                have := hallq.out j (by omega) hj'
                                rw [at_list] at this
                                exact this)
                              go_wp2
                              go_roundw
                              case rel => exact ⟨m + 1, by omega, by go_num, Lib.hid (fun t h ht' => by
                                by_cases e : t = m
                                · subst e; rw [← HSW.out]; exact ht.out
                                · exact hall.out t h (by omega)), (by first | rfl | trivial)⟩
                              case measure => simp [intOf] <;> omega
                    · have hr : Hid (res = true) := Lib.hid (by
                        rw [HRB5.out, List.all_eq_true]
                        intro x hx
                        obtain ⟨t, ht, rfl⟩ := List.getElem_of_mem hx
                        exact hall.out t ht (by omega))
                      go_wp2
                      go_ret
                      exact ⟨rb hr.out, hb0.trans (hwc.mono hz0)⟩
                · have hr : Hid (res = false) := Lib.hid (by rw [HRB4.out]; rfl)
                  go_wp2
                  go_ret
                  exact ⟨rb hr.out, hb0.trans (hwc.mono hz0)⟩)
      · skip
        have hr : Hid (res = false) := Lib.hid (by rw [HRB.out]; simp)
        first | (go_region_with (first
            | (go_at_call 162; refine (HA.out _).mono ?_; rintro e wa ⟨rfl, hba⟩; have ha1 : Below W1.heap.size W1 wa := hd0.trans hba; have ya := (HK.out _ ha1).1)
            | (go_at_call 163; refine (HE.out _).mono ?_; rintro e we ⟨rfl, hbe⟩; have he1 : Below W1.heap.size W1 we := ha1.trans (hbe.mono ha1.size); have y0 := (HK.out _ he1).1)
            | (go_at_call 108; refine (HFB.out _).mono ?_; rintro e wf ⟨AF, cF, rfl, hoF, hbf⟩; have hf1 : Below W1.heap.size W1 wf := he1.trans (hbf.mono he1.size); have yf := (HK.out _ hf1).1)
            | (go_at_call 48; refine (HHB.out _ _ hoF).mono ?_; rintro e wh ⟨rfl, h7⟩; obtain rfl := h7.symm))) | fail
        all_goals go_wp2
        all_goals go_ret
        all_goals exact ⟨rb hr.out, hb0.trans (hf1.mono hz0)⟩
    · skip
      have hr : Hid (res = false) := Lib.hid (by rw [HRB.out]; simp)
      first | (go_region_with (first
          | (go_at_call 162; refine (HA.out _).mono ?_; rintro e wa ⟨rfl, hba⟩; have ha1 : Below W1.heap.size W1 wa := hd0.trans hba; have ya := (HK.out _ ha1).1)
          | (go_at_call 163; refine (HE.out _).mono ?_; rintro e we ⟨rfl, hbe⟩; have he1 : Below W1.heap.size W1 we := ha1.trans (hbe.mono ha1.size); have y0 := (HK.out _ he1).1)
          | (go_at_call 108; refine (HFB.out _).mono ?_; rintro e wf ⟨AF, cF, rfl, hoF, hbf⟩; have hf1 : Below W1.heap.size W1 wf := he1.trans (hbf.mono he1.size); have yf := (HK.out _ hf1).1)
          | (go_at_call 48; refine (HHB.out _ _ hoF).mono ?_; rintro e wh ⟨rfl, h7⟩; obtain rfl := h7.symm))) | fail
      all_goals go_wp2
      all_goals go_ret
      all_goals exact ⟨rb hr.out, hb0.trans (he1.mono hz0)⟩
end Go.Proofs.YtjhimmljanbjcaaGreatDoor.Rj

/- The reference's Check of a policy. -/
set_option linter.unusedVariables false
set_option linter.unusedSimpArgs false
namespace Go.Proofs.YtjhimmljanbjcaaGreatDoor.Rk
open Go.RowKit Lb Gr Pd Fl Go.Proofs.YtjhimmljanbjcaaGreatDoor.Pm Bk Ru Co Is Dp Ro Go.Proofs.YtjhimmljanbjcaaGreatDoor.Ck Go.Proofs.YtjhimmljanbjcaaGreatDoor.Er Go.Proofs.YtjhimmljanbjcaaGreatDoor.Lk Go.Proofs.YtjhimmljanbjcaaGreatDoor.Th Go.Proofs.YtjhimmljanbjcaaGreatDoor.Cn Go.Proofs.YtjhimmljanbjcaaGreatDoor.Cl Go.Proofs.YtjhimmljanbjcaaGreatDoor.Rc Go.Proofs.YtjhimmljanbjcaaGreatDoor.Rd Go.Proofs.YtjhimmljanbjcaaGreatDoor.Rg Go.Proofs.YtjhimmljanbjcaaGreatDoor.Rh Go.Proofs.YtjhimmljanbjcaaGreatDoor.Rq Go.Proofs.YtjhimmljanbjcaaGreatDoor.Rj
attribute [local go_sem ↓] Go.wp_at_zero Go.wp_at_succ

theorem hasE_nms (l : List ElD) (s : ByteArray) : hasT (l.map ElD.name) s = hasE l s := by unfold hasT hasE; rw [List.any_map]; rfl
theorem clos_nms (p : PolD) : closedB p.els = (nms p).all fun n => (needsL n).all fun x => hasT (nms p) x := by
  unfold closedB nms
  rw [List.all_map]
  congr 1
  funext e
  show _ = (needsL e.name).all fun x => hasT (p.els.map ElD.name) x
  congr 1
  funext x
  rw [hasE_nms]
theorem chk0 (p : PolD) : checkI p = firstI [elsI p, globI p, closI p, schI p, dropI p, limI p] := rfl
theorem fst_go {a : Int} {l : List Int} (h : a = 0) : firstI (a :: l) = firstI l := by rw [firstI, if_pos h]
theorem fst_no {a c : Int} {l : List Int} (h : a = c) (hc : c ≠ 0) : firstI (a :: l) = c := by subst h; rw [firstI, if_neg hc]
theorem rRulesC' (l : List RuleD) (v : Value) (w : World) (h : kdR.rd w 0 w.heap.size v l) (hok : OkR l) : Calls Tryz.prog 49 #[v] w fun e w' => e = .returned (.bool (rulesB l)) ∧ Below w.heap.size w w' :=
  rRulesC (fun l v k hk w h hs => rMayC l v k hk w h hs) l v w h fun i hi => (hok.2 i hi).2.1

set_option maxHeartbeats 8000000 in
set_option maxRecDepth 100000 in
theorem rCheckC (x : Vs) (p : PolD) (w : World) (h : RdP w 0 w.heap.size x p) (hf : FitP p) (hok : OkP p) : Calls Tryz.prog 13 #[polV x p] w fun e w' => e = .returned (.int .i64 (checkI p)) ∧ Below w.heap.size w w' := by
  obtain ⟨A1, c1, A2, c2, A3, c3, A4, c4, rfl, q1, q2, q3, q4, q5, q6, q7, q8⟩ := h.form
  have hm : maxLen = 9223372036854775807 := rfl
  have hel : (p.els.length : Int) ≤ 9223372036854775807 := by omega
  have hsl : (p.schemes.length : Int) ≤ 9223372036854775807 := by omega
  have hdl : (p.drop.length : Int) ≤ 9223372036854775807 := by omega
  have hq5 : p.schemes.length ≤ c3 ∧ c3 ≤ 9223372036854775807 := by omega
  have hq7 : p.drop.length ≤ c4 ∧ c4 ≤ 9223372036854775807 := by omega
  have hrw : ∀ W, Below w.heap.size w W → RdP W 0 W.heap.size ⟨.slice A1 p.els.length c1, .slice A2 p.glob.length c2, .slice A3 p.schemes.length c3, .slice A4 p.drop.length c4⟩ p := fun W hW => (h.stay (stay_below hW (Nat.le_refl _))).wide (Nat.le_refl _) hW.size
  have HRD : Hid (∀ W, Below w.heap.size w W → RdP W 0 w.heap.size ⟨.slice A1 p.els.length c1, .slice A2 p.glob.length c2, .slice A3 p.schemes.length c3, .slice A4 p.drop.length c4⟩ p) := Lib.hid fun W hW => h.stay (stay_below hW (Nat.le_refl _))
  have hl16 : p.els.length * 16 ≤ 140737488355328 := by have := hf.1.1; omega
  have HNA : Hid (∀ W, Below w.heap.size w W → Calls Tryz.prog 46 #[polV ⟨.slice A1 p.els.length c1, .slice A2 p.glob.length c2, .slice A3 p.schemes.length c3, .slice A4 p.drop.length c4⟩ p] W fun e w' => ∃ A c, e = .returned (.slice A (nms p).length c) ∧ Own w' W.heap.size (.slice A (nms p).length c) (nms p) ∧ Below W.heap.size W w') := Lib.hid fun W hW => rNamesC _ p W (hrw W hW) hl16
  have HTH : Hid (∀ W, Below w.heap.size w W → Calls Tryz.prog 53 #[polV ⟨.slice A1 p.els.length c1, .slice A2 p.glob.length c2, .slice A3 p.schemes.length c3, .slice A4 p.drop.length c4⟩ p] W fun e w' => e = .returned (.int .i64 (w64 (thingsN p))) ∧ Below W.heap.size W w') := Lib.hid fun W hW => rThingsC _ p W (hrw W hW)
  have HRG : Hid (∀ W, Below w.heap.size w W → Calls Tryz.prog 49 #[.slice A2 p.glob.length c2] W fun e w' => e = .returned (.bool (rulesB p.glob)) ∧ Below W.heap.size W w') := Lib.hid fun W hW => rRulesC' p.glob _ W (hrw W hW).2.1 hok.2.1
  have HRE : Hid (∀ W k (hk : k < p.els.length) v, kdR.rd W 0 W.heap.size v p.els[k].rules → Calls Tryz.prog 49 #[v] W fun e w' => e = .returned (.bool (rulesB p.els[k].rules)) ∧ Below W.heap.size W w') := Lib.hid fun W k hk v hv => rRulesC' _ v W hv (hok.1.2 k hk)
  have HIN : Hid (∀ W s, Calls Tryz.prog 47 #[.string s, .int .i64 15] W fun e w' => e = .returned (.bool (inA s)) ∧ Below W.heap.size W w') := Lib.hid fun W s => rIn s 15 W
  have HHS : Hid (∀ W l v s, kdW.rd W 0 W.heap.size v l → Calls Tryz.prog 48 #[v, .string s] W fun e w' => e = .returned (.bool (hasT l s)) ∧ W = w') := Lib.hid fun W l v s hv => (rHasC l v s W hv).mono fun e w' h => ⟨h.1, h.2.symm⟩
  have HND : Hid (∀ W s, Calls Tryz.prog 50 #[.string s] W fun e w' => ∃ A c G, e = .returned (.slice A (needsL s).length c) ∧ kdW.own w' W.heap.size (.slice A (needsL s).length c) (needsL s) G ∧ Below W.heap.size W w') := Lib.hid fun W s => rNeedsC s W
  have HSC : Hid (∀ W s, Calls Tryz.prog 51 #[.string s] W fun e w' => e = .returned (.int .i64 (schCode (schemeB s))) ∧ Below W.heap.size W w') := Lib.hid fun W s => rSchemeC s W
  have HTG : Hid (∀ W s, Calls Tryz.prog 52 #[.string s] W fun e w' => e = .returned (.bool (tagB s)) ∧ W = w') := Lib.hid fun W s => Go.Proofs.YtjhimmljanbjcaaGreatDoor.Fm.rTagName s W
  obtain ⟨ns, hns⟩ : ∃ ns, ns = nms p := ⟨_, rfl⟩
  have HNL : Hid (ns.length = p.els.length) := Lib.hid (by rw [hns]; unfold nms; rw [List.length_map])
  have HNT : Hid (∀ k s, hasT (ns.take k) s = hasE (p.els.take k) s) := Lib.hid fun k s => by rw [hns, ← hasE_nms]; unfold nms; rw [List.map_take]
  have HNT2 : Hid (∀ s, hasT ns s = hasE p.els s) := Lib.hid fun s => by rw [hns, ← hasE_nms]; rfl
  have HCL : Hid (closedB p.els = ns.all fun n => (needsL n).all fun x => hasT ns x) := Lib.hid (by rw [hns]; exact clos_nms p)
  rw [← hns] at HNA
  have HC0 : Hid (checkI p = firstI [elsI p, globI p, closI p, schI p, dropI p, limI p]) := Lib.hid rfl
  have HB1 : Hid (elsI p = elsFrom inA (p.els.take 0) (p.els.drop 0)) := Lib.hid rfl
  have HG1 : Hid (globI p = if rulesB p.glob = true then 0 else 141) := Lib.hid rfl
  have HL1 : Hid (closI p = if closedB p.els = true then 0 else 142) := Lib.hid rfl
  have HS1 : Hid (schI p = if onceFrom schemeB (p.schemes.take 0) (p.schemes.drop 0) = true then 0 else 143) := Lib.hid rfl
  have HD1 : Hid (dropI p = if onceFrom (fun n => tagB n && !hasE p.els n) (p.drop.take 0) (p.drop.drop 0) = true then 0 else 140) := Lib.hid rfl
  have HM1 : Hid (limI p = if limOk p = true then 0 else 144) := Lib.hid rfl
  have HLIM : Hid (limOk p = (decide (1 ≤ p.depth) && decide (p.depth ≤ 512) && decide (16 ≤ p.window) && decide (p.window ≤ 1048576) && decide (w64 (thingsN p) ≤ 1000))) := Lib.hid rfl
  unfold polV at HNA HTH ⊢
  simp only at HNA HTH
  clear h hrw hf hok hns hm
  generalize checkI p = res at *
  generalize elsI p = rE at *
  generalize globI p = rG at *
  generalize closI p = rC at *
  generalize schI p = rS at *
  generalize dropI p = rD at *
  generalize limI p = rL at *
  obtain ⟨W0, hW0⟩ : ∃ W, W = w.alloc (.cells #[.slice A1 p.els.length c1, .slice A2 p.glob.length c2, .slice A3 p.schemes.length c3, .bool p.rel, .slice A4 p.drop.length c4, .int .i64 p.depth, .int .i64 p.window] 26) := ⟨_, rfl⟩
  have hb0 : Below w.heap.size w W0 := hW0 ▸ (Below.refl _ _).alloc (Nat.le_refl _) _
  have k0 : Bl W0 w.heap.size 26 [.slice A1 p.els.length c1, .slice A2 p.glob.length c2, .slice A3 p.schemes.length c3, .bool p.rel, .slice A4 p.drop.length c4, .int .i64 p.depth, .int .i64 p.window] := hW0 ▸ Bl.new w _ _ rfl
  have hz0 := hb0.size
  have HK : Hid (∀ W, Below W0.heap.size W0 W → Below w.heap.size w W ∧ W.cell? ⟨w.heap.size, 0, none⟩ = some (.slice A1 p.els.length c1) ∧ W.cell? ⟨w.heap.size, 1, none⟩ = some (.slice A2 p.glob.length c2) ∧ W.cell? ⟨w.heap.size, 2, none⟩ = some (.slice A3 p.schemes.length c3) ∧ W.cell? ⟨w.heap.size, 3, none⟩ = some (.bool p.rel) ∧ W.cell? ⟨w.heap.size, 4, none⟩ = some (.slice A4 p.drop.length c4) ∧ W.cell? ⟨w.heap.size, 5, none⟩ = some (.int .i64 p.depth) ∧ W.cell? ⟨w.heap.size, 6, none⟩ = some (.int .i64 p.window)) := Lib.hid fun W hW => by
    have j := k0.below hW
    exact ⟨hb0.trans (hW.mono hz0), j.cell 0 rfl, j.cell 1 rfl, j.cell 2 rfl, j.cell 3 rfl, j.cell 4 rfl, j.cell 5 rfl, j.cell 6 rfl⟩
  obtain ⟨_, a0, a1, a2, a3, a4, a5, a6⟩ := HK.out _ (Below.refl _ _)
  have HX0 := Lib.hid hW0
  clear hW0 k0
  go_enter Tryz.func13, Tryz.ntmps13
  go_upto_region 1 with fail
  rw [← HX0.out]
  go_upto_region 2 with (go_at_call 46; refine (HNA.out _ hb0).mono ?_; rintro e w1 ⟨D, e1, rfl, ho1, hb1⟩)
  have hD : ns.length ≤ e1 ∧ e1 ≤ 9223372036854775807 := by
    obtain ⟨_, _, hv, h1, h2⟩ := own_slice ho1
    injection hv with _ _ h3
    exact ⟨by omega, by rw [h3]; exact h2⟩
  have HALL : Hid (∀ W, Below w1.heap.size w1 W → kdW.rd W 0 W.heap.size (.slice D ns.length e1) ns) := Lib.hid fun W hW => rd_own (ho1.below hW)
  have HALK : Hid (∀ W k, k ≤ ns.length → Below w1.heap.size w1 W → kdW.rd W 0 W.heap.size (.slice D k e1) (ns.take k)) := Lib.hid fun W k hk hW => rdW_take (rd_own (ho1.below hW)) hk
  have hz1 := hb1.size
  have HK1 : Hid (∀ W, Below w1.heap.size w1 W → Below w.heap.size w W ∧ W.cell? ⟨w.heap.size, 0, none⟩ = some (.slice A1 p.els.length c1) ∧ W.cell? ⟨w.heap.size, 1, none⟩ = some (.slice A2 p.glob.length c2) ∧ W.cell? ⟨w.heap.size, 2, none⟩ = some (.slice A3 p.schemes.length c3) ∧ W.cell? ⟨w.heap.size, 3, none⟩ = some (.bool p.rel) ∧ W.cell? ⟨w.heap.size, 4, none⟩ = some (.slice A4 p.drop.length c4) ∧ W.cell? ⟨w.heap.size, 5, none⟩ = some (.int .i64 p.depth) ∧ W.cell? ⟨w.heap.size, 6, none⟩ = some (.int .i64 p.window)) := Lib.hid fun W hW => HK.out W (hb1.trans (hW.mono hz1))
  clear a0 a1 a2 a3 a4 a5 a6 ho1 HK
  obtain ⟨_, a0, a1, a2, a3, a4, a5, a6⟩ := HK1.out _ (Below.refl _ _)
  have hq0 := Below.refl w1.heap.size w1
  go_wp2
  go_loopw [19] (fun i wr => ∃ k : Nat, k ≤ p.els.length ∧ i = .int .i64 k ∧ Hid (rE = elsFrom inA (p.els.take k) (p.els.drop k)) ∧ Below w1.heap.size w1 wr) (fun i _ => p.els.length - (intOf i).toNat)
  case atStart => exact ⟨0, by omega, rfl, HB1, hq0⟩
  case round =>
    clear a0 a1 a2 a3 a4 a5 a6 HB1 hq0
    obtain ⟨k, hk, rfl, hst, hnx⟩ := hrel
    obtain ⟨wo, rfl⟩ : ∃ wo, wo = wr := ⟨_, rfl⟩
    obtain ⟨hwr, a0, a1, a2, a3, a4, a5, a6⟩ := HK1.out _ hnx
    have hzr := hwr.size
    have hzq := hnx.size
    by_cases hlt : k < p.els.length
    · clear a0 a1 a2 a3 a4 a5 a6
      obtain ⟨b, off, u, rfl, _, hb2, hu, hcell⟩ := fmE.rd_at (HRD.out _ hwr).1 hlt
      have hu' : kdR.rd wo 0 w.heap.size u p.els[k].rules := hu
      have x0 := hcell 0 _ rfl
      have x1 := hcell 1 _ rfl
      rw [show off + (k * fmE.size + 0) = off + k * 2 from rfl] at x0
      rw [show off + (k * fmE.size + 1) = off + k * 2 + 1 from by show off + (k * 2 + 1) = _; omega] at x1
      obtain ⟨A5, c5, rfl, _⟩ := fmR.rd_form hu'
      have hk0 : (0 : Int) ≤ (k : Int) := by omega
      have hk1 : (k : Int) < (p.els.length : Int) := by omega
      have hk2 : (k : Int) ≤ (e1 : Int) := by have := HNL.out; omega
      have HRU := Lib.hid hu'
      clear hcell hu hu'
      obtain ⟨nm, hnm⟩ : ∃ nm, nm = p.els[k].name := ⟨_, rfl⟩
      have HNM := Lib.hid hnm
      have HHK := Lib.hid (HNT.out k nm)
      rw [← hnm] at x0
      clear hnm
      go_upto_region 5 with fail
      obtain ⟨W2, hW2⟩ : ∃ W, W = wo.alloc (.cells #[.string nm, .slice A5 p.els[k].rules.length c5] 45) := ⟨_, rfl⟩
      have hb3 : Below wo.heap.size wo W2 := hW2 ▸ (Below.refl _ _).alloc (Nat.le_refl _) _
      have k5 : Bl W2 wo.heap.size 45 [.string nm, .slice A5 p.els[k].rules.length c5] := hW2 ▸ Bl.new wo _ _ rfl
      have y0 := k5.cell 0 rfl
      have hz2 := hb3.size
      have hn2 : Below w1.heap.size w1 W2 := hnx.trans (hb3.mono hzq)
      rw [← hW2]
      have HX2 := Lib.hid hW2
      have hd2 : Below W2.heap.size W2 W2.drew := drw W2 1
      have HI := HIN.out W2.drew nm
      clear hW2 x0 x1
      cases hin : inA nm
      · rw [hin] at HI
        have HI2 := Lib.hid HI
        have hr : Hid (res = 140) := Lib.hid (by
          have h9 : rE = 140 := by rw [hst.out]; exact els_bad hlt (.inl (by rw [← HNM.out]; exact hin))
          rw [HC0.out]; exact fst_no h9 (by decide))
        clear hin HI
        first | (go_region_with (first | (go_at_call 47; refine HI2.out.mono ?_; rintro e w5 ⟨rfl, hb5⟩; have h25 : Below W2.heap.size W2 w5 := hd2.trans hb5))) | fail
        all_goals go_wp2
        all_goals go_ret
        all_goals exact ⟨rgi hr.out, (HK1.out _ (hn2.trans (h25.mono hn2.size))).1⟩
      · rw [hin] at HI
        have HI2 := Lib.hid HI
        have HIN2 := Lib.hid hin
        have HH : Hid (∀ W, Below w1.heap.size w1 W → Calls Tryz.prog 48 #[.slice D k e1, .string nm] W fun e w' => e = .returned (.bool (hasE (p.els.take k) nm)) ∧ W = w') := Lib.hid fun W hW => by
          rw [← HHK.out]
          exact HHS.out W _ _ nm (HALK.out W k (by have := HNL.out; omega) hW)
        clear hin HI
        cases hhe : hasE (p.els.take k) nm
        · rw [hhe] at HH
          have HHE := Lib.hid hhe
          clear hhe
          go_region_held3 (fun W' => W'.cell? ⟨wo.heap.size, 0, none⟩ = some (.string nm))
            (first | exact y0 | exact HS.out)
            (first
            | (go_at_call 47; refine HI2.out.mono ?_; rintro e w5 ⟨rfl, hb5⟩; have h25 : Below W2.heap.size W2 w5 := hd2.trans hb5; have HS := Lib.hid ((k5.below h25).cell 0 rfl))
            | (go_at_call 48; refine (HH.out _ (hn2.trans (h25.mono hn2.size))).mono ?_; rintro e w6 ⟨rfl, rfl⟩))
          have hn5 : Below w1.heap.size w1 w5 := hn2.trans (h25.mono hn2.size)
          have y1 := (k5.below h25).cell 1 rfl
          have hz5 := h25.size
          have HR9 := HRE.out w5 k hlt (.slice A5 p.els[k].rules.length c5) (kdR.wide (kdR.stay HRU.out fun j _ hj => (hb3.trans (h25.mono hz2)).block j (by omega)) (Nat.le_refl _) (by omega))
          cases hru : rulesB p.els[k].rules
          · rw [hru] at HR9
            have HR2 := Lib.hid HR9
            have hr : Hid (res = 141) := Lib.hid (by
              have h9 : rE = 141 := by rw [hst.out]; exact els_rules hlt (by rw [← HNM.out]; exact HIN2.out) (by rw [← HNM.out]; exact HHE.out) hru
              rw [HC0.out]; exact fst_no h9 (by decide))
            clear hru HR9
            go_wp2_with (go_at_call 49; refine HR2.out.mono ?_; rintro e w7 ⟨rfl, hb7⟩)
            go_ret
            exact ⟨rgi hr.out, (HK1.out _ (hn5.trans (hb7.mono hn5.size))).1⟩
          · rw [hru] at HR9
            have HR2 := Lib.hid HR9
            have hr : Hid (rE = elsFrom inA (p.els.take (k + 1)) (p.els.drop (k + 1))) := Lib.hid (by rw [hst.out]; exact els_go hlt (by rw [← HNM.out]; exact HIN2.out) (by rw [← HNM.out]; exact HHE.out) hru)
            clear hru HR9
            go_wp2_with (go_at_call 49; refine HR2.out.mono ?_; rintro e w7 ⟨rfl, hb7⟩)
            go_roundw
            case rel => exact ⟨k + 1, by omega, by go_num, hr, hn5.trans (hb7.mono hn5.size)⟩
            case measure => simp [intOf] <;> omega
        · rw [hhe] at HH
          have hr : Hid (res = 140) := Lib.hid (by
            have h9 : rE = 140 := by rw [hst.out]; exact els_bad hlt (.inr (by rw [← HNM.out]; exact hhe))
            rw [HC0.out]; exact fst_no h9 (by decide))
          clear hhe
          go_region_held3 (fun W' => W'.cell? ⟨wo.heap.size, 0, none⟩ = some (.string nm))
            (first | exact y0 | exact HS.out)
            (first
            | (go_at_call 47; refine HI2.out.mono ?_; rintro e w5 ⟨rfl, hb5⟩; have h25 : Below W2.heap.size W2 w5 := hd2.trans hb5; have HS := Lib.hid ((k5.below h25).cell 0 rfl))
            | (go_at_call 48; refine (HH.out _ (hn2.trans (h25.mono hn2.size))).mono ?_; rintro e w6 ⟨rfl, rfl⟩))
          go_wp2
          go_ret
          exact ⟨rgi hr.out, (HK1.out _ (hn2.trans (h25.mono hn2.size))).1⟩
    · obtain rfl : k = p.els.length := by omega
      have HC1 : Hid (res = firstI [rG, rC, rS, rD, rL]) := Lib.hid (by rw [HC0.out]; exact fst_go (by rw [hst.out]; exact els_end (Nat.le_refl _)))
      clear hst HC0
      have HRG2 := HRG.out wo hwr
      cases hru : rulesB p.glob
      · rw [hru] at HRG2
        have HR2 := Lib.hid HRG2
        have hr : Hid (res = 141) := Lib.hid (by
          have h9 : rG = 141 := by rw [HG1.out, hru]; rfl
          rw [HC1.out]; exact fst_no h9 (by decide))
        clear hru HRG2
        go_wp2_with (go_at_call 49; refine HR2.out.mono ?_; rintro e w7 ⟨rfl, hb7⟩)
        go_ret
        exact ⟨rgi hr.out, hwr.trans (hb7.mono hzr)⟩
      · rw [hru] at HRG2
        have HR2 := Lib.hid HRG2
        have HC2 : Hid (res = firstI [rC, rS, rD, rL]) := Lib.hid (by rw [HC1.out]; exact fst_go (by rw [HG1.out, hru]; rfl))
        clear hru HRG2 HC1 HG1 HRG HRE HIN
        go_wp2_with (go_at_call 49; refine HR2.out.mono ?_; rintro e w2 ⟨rfl, hb2⟩)
        have hn2 : Below w1.heap.size w1 w2 := hnx.trans (hb2.mono hzq)
        clear a0 a1 a2 a3 a4 a5 a6
        have hnsm : (ns.length : Int) ≤ 9223372036854775807 := by have := HNL.out; omega
        go_loopw [47] (fun i wr => ∃ k : Nat, k ≤ ns.length ∧ i = .int .i64 k ∧ Hid (∀ t (h : t < ns.length), t < k → ((needsL ns[t]).all fun x => hasT ns x) = true) ∧ Below w1.heap.size w1 wr) (fun i _ => ns.length - (intOf i).toNat)
        case atStart => exact ⟨0, by omega, rfl, Lib.hid (fun t h ht => by omega), hn2⟩
        case round =>
          obtain ⟨k, hk, rfl, hall, hnx⟩ := hrel
          have hzq := hnx.size
          by_cases hlt : k < ns.length
          · obtain ⟨b, off, rfl, _, _, hcx⟩ := rdW_at (HALL.out _ hnx) hlt
            obtain ⟨n, hn⟩ : ∃ n, n = ns[k] := ⟨_, rfl⟩
            have HN := Lib.hid hn
            rw [← hn] at hcx
            have hk0 : (0 : Int) ≤ (k : Int) := by omega
            have hk1 : (k : Int) < (ns.length : Int) := by omega
            have hno : Hid (((needsL n).all fun x => hasT ns x) = false → res = 142) := Lib.hid (fun hf => by
              have h9 : rC = 142 := by
                rw [HL1.out, HCL.out]
                have : (ns.all fun n => (needsL n).all fun x => hasT ns x) = false := by
                  rw [List.all_eq_false]
                  exact ⟨n, by rw [hn]; exact List.getElem_mem _, by rw [hf]; simp⟩
                rw [this]; rfl
              rw [HC2.out]; exact fst_no h9 (by decide))
            have hnlen := needs_len n
            obtain ⟨L, hL⟩ : ∃ L, L = needsL n := ⟨_, rfl⟩
            have HND2 := HND.out wr n
            rw [← hL] at HND2 hno hnlen
            have HND3 := Lib.hid HND2
            have HLN := Lib.hid hL
            clear hn hL HND2
            go_wp2_with (go_at_call 50; refine HND3.out.mono ?_; rintro e w4 ⟨A9, c9, G9, rfl, ho9, hb4⟩)
            have hn4 : Below w1.heap.size w1 w4 := hnx.trans (hb4.mono hzq)
            have HROW : Hid (kdW.rd w4 0 w4.heap.size (.slice A9 L.length c9) L) := Lib.hid (kdW.read ho9 (Nat.zero_le _) (Nat.le_refl _))
            have hLm : (L.length : Int) ≤ 9223372036854775807 := by omega
            clear ho9 hcx
            go_loopw [54] (fun i wr => ∃ j : Nat, j ≤ L.length ∧ i = .int .i64 j ∧ Hid (∀ t (h : t < L.length), t < j → hasT ns L[t] = true) ∧ wr = w4) (fun i _ => L.length - (intOf i).toNat)
            case atStart => exact ⟨0, by omega, rfl, Lib.hid (fun t h ht => by omega), rfl⟩
            case round =>
              obtain ⟨j, hj, rfl, halj, rfl⟩ := hrel
              by_cases hltj : j < L.length
              · obtain ⟨b2, off2, rfl, _, _, hcl⟩ := rdW_at HROW.out hltj
                obtain ⟨y, hy⟩ : ∃ y, y = L[j] := ⟨_, rfl⟩
                have HY := Lib.hid hy
                rw [← hy] at hcl
                have hj0 : (0 : Int) ≤ (j : Int) := by omega
                have hj1 : (j : Int) < (L.length : Int) := by omega
                have HH := HHS.out wr ns _ y (HALL.out wr hn4)
                clear hy
                cases hq : hasT ns y
                · rw [hq] at HH
                  have HH2 := Lib.hid HH
                  have hr : Hid (res = 142) := Lib.hid (hno.out (by
                    rw [List.all_eq_false]
                    exact ⟨y, by rw [HY.out]; exact List.getElem_mem _, by rw [hq]; simp⟩))
                  clear HH hq
                  go_wp2_with (go_at_call 48; refine HH2.out.mono ?_; rintro e w7 ⟨rfl, rfl⟩)
                  go_ret
                  exact ⟨rgi hr.out, (HK1.out _ hn4).1⟩
                · rw [hq] at HH
                  have HH2 := Lib.hid HH
                  have HQ := Lib.hid hq
                  clear HH hq
                  go_wp2_with (go_at_call 48; refine HH2.out.mono ?_; rintro e w7 ⟨rfl, rfl⟩)
                  go_roundw
                  case rel => exact ⟨j + 1, by omega, by go_num, Lib.hid (fun t h ht => by
                    by_cases e : t = j
                    · subst e; rw [← HY.out]; exact HQ.out
                    · exact halj.out t h (by omega)), (by first | rfl | trivial)⟩
                  case measure => simp [intOf] <;> omega
              · have hnew : Hid (∀ t (h : t < ns.length), t < k + 1 → ((needsL ns[t]).all fun x => hasT ns x) = true) := Lib.hid (fun t h ht => by
                  by_cases e : t = k
                  · subst e
                    rw [← HN.out, ← HLN.out, List.all_eq_true]
                    intro x hx
                    obtain ⟨i, hi, rfl⟩ := List.getElem_of_mem hx
                    exact halj.out i hi (by omega)
                  · exact hall.out t h (by omega))
                go_wp2
                go_roundw
                case rel => exact ⟨k + 1, by omega, by go_num, hnew, hn4⟩
                case measure => simp [intOf] <;> omega
          · obtain rfl : k = ns.length := by omega
            have HC3 : Hid (res = firstI [rS, rD, rL]) := Lib.hid (by
              rw [HC2.out]
              refine fst_go ?_
              rw [HL1.out, HCL.out]
              have : (ns.all fun n => (needsL n).all fun x => hasT ns x) = true := by
                rw [List.all_eq_true]
                intro n hn
                obtain ⟨t, ht, rfl⟩ := List.getElem_of_mem hn
                exact hall.out t ht ht
              rw [this]; rfl)
            obtain ⟨w3, rfl⟩ : ∃ w3, w3 = wr := ⟨_, rfl⟩
            obtain ⟨hw3, a0, a1, a2, a3, a4, a5, a6⟩ := HK1.out _ hnx
            clear hall HC2 HL1 HCL HND
            go_wp2
            go_loopw [67] (fun i wr => ∃ k : Nat, k ≤ p.schemes.length ∧ i = .int .i64 k ∧ Hid (rS = if onceFrom schemeB (p.schemes.take k) (p.schemes.drop k) = true then 0 else 143) ∧ Below w1.heap.size w1 wr) (fun i _ => p.schemes.length - (intOf i).toNat)
            case atStart => exact ⟨0, by omega, rfl, HS1, hnx⟩
            case round =>
              clear a0 a1 a2 a3 a4 a5 a6 HS1
              obtain ⟨k, hk, rfl, hst, hny⟩ := hrel
              have hzy := hny.size
              obtain ⟨hwy, _, _, _, _, _, _, _⟩ := HK1.out _ hny
              by_cases hlt : k < p.schemes.length
              · obtain ⟨b, off, rfl, _, _, hcx⟩ := rdW_at (HRD.out _ hwy).2.2.1 hlt
                obtain ⟨t, ht⟩ : ∃ t, t = p.schemes[k] := ⟨_, rfl⟩
                have HT := Lib.hid ht
                rw [← ht] at hcx
                have hk0 : (0 : Int) ≤ (k : Int) := by omega
                have hk1 : (k : Int) < (p.schemes.length : Int) := by omega
                have hk2 : (k : Int) ≤ (c3 : Int) := by omega
                have HSC2 := HSC.out wr t
                clear ht
                cases hsb : schemeB t
                · rw [hsb] at HSC2
                  have HSC3 : Hid (Calls Tryz.prog 51 #[.string t] wr fun e w' => e = .returned (.int .i64 120) ∧ Below wr.heap.size wr w') := Lib.hid HSC2
                  have hr : Hid (res = 143) := Lib.hid (by
                    have h9 : rS = 143 := by rw [hst.out, once_no hlt (.inl (by rw [← HT.out]; exact hsb))]; rfl
                    rw [HC3.out]; exact fst_no h9 (by decide))
                  clear HSC2 hsb
                  go_wp2_with (go_at_call 51; refine HSC3.out.mono ?_; rintro e w7 ⟨rfl, hb7⟩)
                  go_ret
                  exact ⟨rgi hr.out, hwy.trans (hb7.mono hwy.size)⟩
                · rw [hsb] at HSC2
                  have HSC3 : Hid (Calls Tryz.prog 51 #[.string t] wr fun e w' => e = .returned (.int .i64 0) ∧ Below wr.heap.size wr w') := Lib.hid HSC2
                  have HSB := Lib.hid hsb
                  have HHK : Hid (∀ W, Below w.heap.size w W → Calls Tryz.prog 48 #[.slice (some ⟨b, off, none⟩) k c3, .string t] W fun e w' => e = .returned (.bool (hasT (p.schemes.take k) t)) ∧ W = w') := Lib.hid fun W hW => HHS.out W _ _ t (kdW.wide (rdW_take (HRD.out _ hW).2.2.1 (by omega)) (Nat.le_refl _) hW.size)
                  clear HSC2 hsb
                  cases hh : hasT (p.schemes.take k) t
                  · rw [hh] at HHK
                    have hr : Hid (rS = if onceFrom schemeB (p.schemes.take (k + 1)) (p.schemes.drop (k + 1)) = true then 0 else 143) := Lib.hid (by rw [hst.out, once_go hlt (by rw [← HT.out]; exact HSB.out) (by rw [← HT.out]; exact hh)])
                    clear hh
                    go_wp2_with (first
                      | (go_at_call 51; refine HSC3.out.mono ?_; rintro e w7 ⟨rfl, hb7⟩; have hn7 : Below w1.heap.size w1 w7 := hny.trans (hb7.mono hzy); have a2 := (HK1.out _ hn7).2.2.2.1)
                      | (go_at_call 48; refine (HHK.out _ (HK1.out _ hn7).1).mono ?_; rintro e w8 ⟨rfl, rfl⟩))
                    clear a2
                    go_roundw
                    case rel => exact ⟨k + 1, by omega, by go_num, hr, hn7⟩
                    case measure => simp [intOf] <;> omega
                  · rw [hh] at HHK
                    have hr : Hid (res = 143) := Lib.hid (by
                      have h9 : rS = 143 := by rw [hst.out, once_no hlt (.inr (by rw [← HT.out]; exact hh))]; rfl
                      rw [HC3.out]; exact fst_no h9 (by decide))
                    clear hh
                    go_wp2_with (first
                      | (go_at_call 51; refine HSC3.out.mono ?_; rintro e w7 ⟨rfl, hb7⟩; have hn7 : Below w1.heap.size w1 w7 := hny.trans (hb7.mono hzy); have a2 := (HK1.out _ hn7).2.2.2.1)
                      | (go_at_call 48; refine (HHK.out _ (HK1.out _ hn7).1).mono ?_; rintro e w8 ⟨rfl, rfl⟩))
                    go_ret
                    exact ⟨rgi hr.out, (HK1.out _ hn7).1⟩
              · obtain rfl : k = p.schemes.length := by omega
                have HC4 : Hid (res = firstI [rD, rL]) := Lib.hid (by rw [HC3.out]; exact fst_go (by rw [hst.out, once_end (Nat.le_refl _)]; rfl))
                obtain ⟨w4, rfl⟩ : ∃ w4, w4 = wr := ⟨_, rfl⟩
                obtain ⟨_, a0, a1, a2, a3, a4, a5, a6⟩ := HK1.out _ hny
                clear hst HC3 HSC
                go_wp2
                go_loopw [87] (fun i wr => ∃ k : Nat, k ≤ p.drop.length ∧ i = .int .i64 k ∧ Hid (rD = if onceFrom (fun n => tagB n && !hasE p.els n) (p.drop.take k) (p.drop.drop k) = true then 0 else 140) ∧ Below w1.heap.size w1 wr) (fun i _ => p.drop.length - (intOf i).toNat)
                case atStart => exact ⟨0, by omega, rfl, HD1, hny⟩
                case round =>
                  clear a0 a1 a2 a3 a4 a5 a6 HD1
                  obtain ⟨k, hk, rfl, hst, hny⟩ := hrel
                  have hzy := hny.size
                  obtain ⟨hwy, a0, a1, a2, a3, a4, a5, a6⟩ := HK1.out _ hny
                  by_cases hlt : k < p.drop.length
                  · obtain ⟨b, off, rfl, _, _, hcx⟩ := rdW_at (HRD.out _ hwy).2.2.2 hlt
                    obtain ⟨t, ht⟩ : ∃ t, t = p.drop[k] := ⟨_, rfl⟩
                    have HT := Lib.hid ht
                    rw [← ht] at hcx
                    have hk0 : (0 : Int) ≤ (k : Int) := by omega
                    have hk1 : (k : Int) < (p.drop.length : Int) := by omega
                    have hk2 : (k : Int) ≤ (c4 : Int) := by omega
                    have HTG2 := HTG.out wr t
                    have HHA := HHS.out wr ns _ t (HALL.out _ hny)
                    have HHD := HHS.out wr (p.drop.take k) (.slice (some ⟨b, off, none⟩) k c4) t (kdW.wide (rdW_take (HRD.out _ hwy).2.2.2 (by omega)) (Nat.le_refl _) hwy.size)
                    rw [HNT2.out] at HHA
                    clear ht a0 a1 a2 a3 a5 a6
                    by_cases hbad : tagB t = false ∨ hasE p.els t = true ∨ hasT (p.drop.take k) t = true
                    · have hr : Hid (res = 140) := Lib.hid (by
                        have h9 : rD = 140 := by
                          rw [hst.out, once_no hlt ?_]
                          · rfl
                          · rw [← HT.out]
                            rcases hbad with h | h | h
                            · exact .inl (by rw [h]; rfl)
                            · exact .inl (by rw [h]; simp)
                            · exact .inr h
                        rw [HC4.out]; exact fst_no h9 (by decide))
                      cases ht1 : tagB t
                      · rw [ht1] at HTG2
                        have HTG3 := Lib.hid HTG2
                        clear HTG2 ht1 hbad HHA HHD
                        go_wp2_with (go_at_call 52; refine HTG3.out.mono ?_; rintro e w7 ⟨rfl, rfl⟩)
                        go_ret
                        exact ⟨rgi hr.out, hwy⟩
                      · rw [ht1] at HTG2
                        have HTG3 := Lib.hid HTG2
                        cases ht2 : hasE p.els t
                        · have ht3 : hasT (p.drop.take k) t = true := by
                            rcases hbad with h | h | h
                            · rw [ht1] at h; cases h
                            · rw [ht2] at h; cases h
                            · exact h
                          rw [ht2] at HHA
                          rw [ht3] at HHD
                          have HHA2 := Lib.hid HHA
                          have HHD2 := Lib.hid HHD
                          have tok : True := trivial
                          clear HTG2 ht1 ht2 ht3 hbad HHA HHD
                          go_wp2_with (first
                            | (go_at_call 52; refine HTG3.out.mono ?_; rintro e w7 ⟨rfl, rfl⟩)
                            | (go_at_call 48; have _z := tok2; refine HHD2.out.mono ?_; rintro e w8 ⟨rfl, rfl⟩)
                            | (go_at_call 48; refine HHA2.out.mono ?_; rintro e w8 ⟨rfl, rfl⟩; have tok2 := tok))
                          go_ret
                          exact ⟨rgi hr.out, hwy⟩
                        · rw [ht2] at HHA
                          have HHA2 := Lib.hid HHA
                          clear HTG2 ht1 ht2 hbad HHA HHD
                          go_wp2_with (first
                            | (go_at_call 52; refine HTG3.out.mono ?_; rintro e w7 ⟨rfl, rfl⟩)
                            | (go_at_call 48; refine HHA2.out.mono ?_; rintro e w8 ⟨rfl, rfl⟩))
                          go_ret
                          exact ⟨rgi hr.out, hwy⟩
                    · rw [not_or, not_or] at hbad
                      have ht1 : tagB t = true := by simpa using hbad.1
                      have ht2 : hasE p.els t = false := by simpa using hbad.2.1
                      have ht3 : hasT (p.drop.take k) t = false := by simpa using hbad.2.2
                      have hr : Hid (rD = if onceFrom (fun n => tagB n && !hasE p.els n) (p.drop.take (k + 1)) (p.drop.drop (k + 1)) = true then 0 else 140) := Lib.hid (by rw [hst.out, once_go hlt (by rw [← HT.out, ht1, ht2]; rfl) (by rw [← HT.out]; exact ht3)])
                      rw [ht1] at HTG2
                      rw [ht2] at HHA
                      rw [ht3] at HHD
                      have HTG3 := Lib.hid HTG2
                      have HHA2 := Lib.hid HHA
                      have HHD2 := Lib.hid HHD
                      have tok : True := trivial
                      clear HTG2 ht1 ht2 ht3 hbad HHA HHD
                      go_wp2_with (first
                        | (go_at_call 52; refine HTG3.out.mono ?_; rintro e w7 ⟨rfl, rfl⟩)
                        | (go_at_call 48; have _z := tok2; refine HHD2.out.mono ?_; rintro e w8 ⟨rfl, rfl⟩)
                        | (go_at_call 48; refine HHA2.out.mono ?_; rintro e w8 ⟨rfl, rfl⟩; have tok2 := tok))
                      go_roundw
                      case rel => exact ⟨k + 1, by omega, by go_num, hr, hny⟩
                      case measure => simp [intOf] <;> omega
                  · obtain rfl : k = p.drop.length := by omega
                    have HC5 : Hid (res = rL) := Lib.hid (by
                      rw [HC4.out, fst_go (by rw [hst.out, once_end (Nat.le_refl _)]; rfl)]
                      show (if rL = 0 then firstI [] else rL) = rL
                      split
                      · rename_i h; rw [h]; rfl
                      · rfl)
                    have HTH2 := Lib.hid (HTH.out wr hwy)
                    clear hst HC4 HTH HTG
                    by_cases b1 : p.depth < 1
                    · have hr : Hid (res = 144) := Lib.hid (by rw [HC5.out, HM1.out, HLIM.out, decide_eq_false (show ¬ 1 ≤ p.depth by omega)]; simp)
                      go_wp2
                      go_ret
                      exact ⟨rgi hr.out, hwy⟩
                    · by_cases b2 : 512 < p.depth
                      · have hr : Hid (res = 144) := Lib.hid (by rw [HC5.out, HM1.out, HLIM.out, decide_eq_false (show ¬ p.depth ≤ 512 by omega)]; simp)
                        go_wp2
                        go_ret
                        exact ⟨rgi hr.out, hwy⟩
                      · by_cases b3 : p.window < 16
                        · have hr : Hid (res = 144) := Lib.hid (by rw [HC5.out, HM1.out, HLIM.out, decide_eq_false (show ¬ 16 ≤ p.window by omega)]; simp)
                          go_wp2
                          go_ret
                          exact ⟨rgi hr.out, hwy⟩
                        · by_cases b4 : 1048576 < p.window
                          · have hr : Hid (res = 144) := Lib.hid (by rw [HC5.out, HM1.out, HLIM.out, decide_eq_false (show ¬ p.window ≤ 1048576 by omega)]; simp)
                            go_wp2
                            go_ret
                            exact ⟨rgi hr.out, hwy⟩
                          · obtain ⟨tn, htn⟩ : ∃ tn, tn = w64 (thingsN p) := ⟨_, rfl⟩
                            rw [← htn] at HTH2 HLIM
                            clear htn
                            by_cases b5 : 1000 < tn
                            · have hr : Hid (res = 144) := Lib.hid (by rw [HC5.out, HM1.out, HLIM.out, decide_eq_false (show ¬ tn ≤ 1000 by omega)]; simp)
                              go_wp2_with (go_at_call 53; refine HTH2.out.mono ?_; rintro e w7 ⟨rfl, hb7⟩)
                              go_ret
                              exact ⟨rgi hr.out, hwy.trans (hb7.mono hwy.size)⟩
                            · have hr : Hid (res = 0) := Lib.hid (by rw [HC5.out, HM1.out, HLIM.out, decide_eq_true (show 1 ≤ p.depth by omega), decide_eq_true (show p.depth ≤ 512 by omega), decide_eq_true (show 16 ≤ p.window by omega), decide_eq_true (show p.window ≤ 1048576 by omega), decide_eq_true (show tn ≤ 1000 by omega)]; rfl)
                              go_wp2_with (go_at_call 53; refine HTH2.out.mono ?_; rintro e w7 ⟨rfl, hb7⟩)
                              go_ret
                              exact ⟨rgi hr.out, hwy.trans (hb7.mono hwy.size)⟩
end Go.Proofs.YtjhimmljanbjcaaGreatDoor.Rk
