/- The reference's rule: may the last rule of a list be, with those ahead of it. -/
import Derived.Test.YteikagdinecfoaaGreatDoorCh
import Derived.Test.YteikagdinecfoaaGreatDoorSp
import Derived.Test.YteikagdinecfoaaGreatDoorRFields
import Derived.Deep.RegionHeld3
set_option linter.unusedVariables false
set_option linter.unusedSimpArgs false
namespace Go.Proofs.YteikagdinecfoaaGreatDoor.Rj
open Go.RowKit Lb Gr Pd Fl Rf Go.Proofs.YteikagdinecfoaaGreatDoor.Pm Bk Is Sl Go.Proofs.YteikagdinecfoaaGreatDoor.Rm Dp
attribute [local go_sem ↓] Go.wp_at_zero Go.wp_at_succ

theorem rFieldsK (t : ByteArray) (h : t.size ≤ 2147483647) (w : World) : Calls Tryz.prog 99 #[.string t] w fun e w' => ∃ A c, e = .returned (.slice A (fieldsS t).length c) ∧ kdW.rd w' 0 w'.heap.size (.slice A (fieldsS t).length c) (fieldsS t) ∧ Below w.heap.size w w' :=
  (rFields t w h).mono fun e w' ⟨v, he, ho, hb⟩ => by
    obtain ⟨A, c, rfl⟩ := ho.form
    exact ⟨A, c, he, kdW.read (F := (Value.slice A (fieldsS t).length c).ownBlock.toList) ⟨ho, rfl⟩ (Nat.zero_le _) (Nat.le_refl _), hb⟩

set_option maxHeartbeats 8000000 in
set_option maxRecDepth 100000 in
theorem rMayC (l : List RuleD) (v : Value) (k : Nat) (hk : l.length = k + 1) (w : World) (h : kdR.rd w 0 w.heap.size v l) (hs : ∀ i (hi : i < l.length), (l[i]).name.size ≤ maxLen) :
    Calls Tryz.prog 118 #[v] w fun e w' => e = .returned (.bool (ruleB (l.take k) (l[k]'(by omega)))) ∧ Below w.heap.size w w' := by
  obtain ⟨A, c, rfl, hc1, hc2⟩ := fmR.rd_form h
  have hm : maxLen = 9223372036854775807 := rfl
  have hkl : k < l.length := by omega
  obtain ⟨b, off, u, rfl, hb1, hb2, hu, hcell⟩ := fmR.rd_at h hkl
  have c0 := hcell 0 _ rfl
  have c1 := hcell 1 _ rfl
  have c2 := hcell 2 _ rfl
  rw [show off + (k * fmR.size + 0) = off + k * 3 from rfl] at c0
  rw [show off + (k * fmR.size + 1) = off + k * 3 + 1 from by show off + (k * 3 + 1) = _; omega] at c1
  rw [show off + (k * fmR.size + 2) = off + k * 3 + 2 from by show off + (k * 3 + 2) = _; omega] at c2
  have hu' : kdW.rd w 0 w.heap.size u l[k].words := hu
  obtain ⟨A1, cc1, rfl, hq1, hq2⟩ := rdW_form hu'
  have hns := hs k hkl
  have HRD : Hid (∀ W, Below w.heap.size w W → kdR.rd W 0 w.heap.size (.slice (some ⟨b, off, none⟩) k c) (l.take k)) := Lib.hid fun W hW => fmR.rd_take (rd_below h hW (Nat.le_refl _)) (by omega)
  have HRW : Hid (∀ W, Below w.heap.size w W → kdW.rd W 0 w.heap.size (.slice A1 l[k].words.length cc1) l[k].words) := Lib.hid fun W hW => rd_below hu' hW (Nat.le_refl _)
  have hpl : Hid ((l.take k).length = k) := Lib.hid (by rw [List.length_take]; omega)
  obtain ⟨r, hr⟩ : ∃ r, r = l[k] := ⟨_, rfl⟩
  obtain ⟨pre, hpre⟩ : ∃ pre, pre = l.take k := ⟨_, rfl⟩
  rw [← hr] at c0 c1 c2 HRW hns ⊢
  rw [← hpre] at HRD hpl ⊢
  have hki : (k : Int) ≤ 9223372036854775807 := by omega
  have hwl : (r.words.length : Int) ≤ 9223372036854775807 := by rw [hr]; omega
  have hkc : k + 1 ≤ c ∧ c ≤ maxLen := by omega
  clear h hu hu' hcell hs hr hpre hc1 hc2 hq1 hq2
  rw [hk]
  obtain ⟨nm, kd, ws⟩ := r
  simp only at c0 c1 c2 HRW hns hwl
  have HA : Hid (∀ W, Calls Tryz.prog 168 #[.string nm] W fun e w' => e = .returned (.bool (wrt true nm.data.toList)) ∧ Below W.heap.size W w') := Lib.hid fun W => (Go.Proofs.YteikagdinecfoaaGreatDoor.Fm.rAttrName _ W).mono fun e w' h => ⟨h.1, h.2 ▸ Below.refl _ _⟩
  have HE : Hid (∀ W, Calls Tryz.prog 169 #[.string nm] W fun e w' => e = .returned (.bool (evt nm.data.toList)) ∧ Below W.heap.size W w') := Lib.hid fun W => Go.Proofs.YteikagdinecfoaaGreatDoor.Fm.rEvent _ W hns
  have HFB : Hid (∀ W, Calls Tryz.prog 99 #[.string barT] W fun e w' => ∃ A c, e = .returned (.slice A (fieldsS barT).length c) ∧ kdW.rd w' 0 w'.heap.size (.slice A (fieldsS barT).length c) (fieldsS barT) ∧ Below W.heap.size W w') := Lib.hid fun W => rFieldsK barT (by decide) W
  have HFL : Hid (∀ W, Calls Tryz.prog 99 #[.string linkT] W fun e w' => ∃ A c, e = .returned (.slice A (fieldsS linkT).length c) ∧ kdW.rd w' 0 w'.heap.size (.slice A (fieldsS linkT).length c) (fieldsS linkT) ∧ Below W.heap.size W w') := Lib.hid fun W => rFieldsK linkT (by decide) W
  have HHS : Hid (∀ W L v, kdW.rd W 0 W.heap.size v L → Calls Tryz.prog 56 #[v, .string nm] W fun e w' => e = .returned (.bool (hasT L nm)) ∧ w' = W) := Lib.hid fun W L v hv => rHasC L v nm W hv
  have HRB : Hid (ruleB pre ⟨nm, kd, ws⟩ = (wrt true nm.data.toList && !evt nm.data.toList && !hasT (fieldsS barT) nm && !hasR pre nm && (decide (0 ≤ kd) && decide (kd < 9)) && !(hasT (fieldsS linkT) nm && decide (kd ≠ 5)) && (decide (kd = 7) == decide (0 < ws.length)) && ws.all wordB)) := Lib.hid rfl
  generalize ruleB pre ⟨nm, kd, ws⟩ = res at *
  obtain ⟨W1, hW1⟩ : ∃ W, W = w.alloc (.cells #[.string nm, .int .i64 kd, .slice A1 ws.length cc1] 50) := ⟨_, rfl⟩
  have hb0 : Below w.heap.size w W1 := hW1 ▸ (Below.refl _ _).alloc (Nat.le_refl _) _
  have k0 : Bl W1 w.heap.size 50 [.string nm, .int .i64 kd, .slice A1 ws.length cc1] := hW1 ▸ Bl.new w _ _ rfl
  have HK : Hid (∀ W, Below W1.heap.size W1 W → W.cell? ⟨w.heap.size, 0, none⟩ = some (.string nm) ∧ W.cell? ⟨w.heap.size, 1, none⟩ = some (.int .i64 kd) ∧ W.cell? ⟨w.heap.size, 2, none⟩ = some (.slice A1 ws.length cc1)) := Lib.hid fun W hW => ⟨(k0.below hW).cell 0 rfl, (k0.below hW).cell 1 rfl, (k0.below hW).cell 2 rfl⟩
  have hz0 := hb0.size
  have HW1 := Lib.hid hW1
  have hkk : IntKind.i64.wrap (((k + 1 : Nat) : Int) - 1) = (k : Int) := by rw [IntKind.wrap_i64]; omega
  have hd0 : Below W1.heap.size W1 W1.drew := drw W1 1
  obtain ⟨z0, z1, z2⟩ := HK.out _ (Below.refl _ _)
  clear hW1 k0 hm hk
  obtain ⟨xa, hxa⟩ : ∃ x, x = wrt true nm.data.toList := ⟨_, rfl⟩
  obtain ⟨xe, hxe⟩ : ∃ x, x = evt nm.data.toList := ⟨_, rfl⟩
  obtain ⟨xb, hxb⟩ : ∃ x, x = hasT (fieldsS barT) nm := ⟨_, rfl⟩
  have HHB : Hid (∀ W v, kdW.rd W 0 W.heap.size v (fieldsS barT) → Calls Tryz.prog 56 #[v, .string nm] W fun e w' => e = .returned (.bool xb) ∧ w' = W) := Lib.hid fun W v hv => by rw [hxb]; exact HHS.out W _ v hv
  rw [← hxa] at HA HRB
  rw [← hxe] at HE HRB
  rw [← hxb] at HRB
  clear hxa hxe hxb
  obtain ⟨FB, hFB⟩ : ∃ x, x = fieldsS barT := ⟨_, rfl⟩
  rw [← hFB] at HFB HHB
  clear hFB
  have hstep : True := trivial
  go_enter Tryz.func118, Tryz.ntmps118
  go_upto_region 2 with fail
  rw [← HW1.out]
  clear c0 c1 c2 hstep
  cases xa
  · skip
    have hr : Hid (res = false) := Lib.hid (by rw [HRB.out]; simp)
    first | (go_region_with (first
        | (go_at_call 168; refine (HA.out _).mono ?_; rintro e wa ⟨rfl, hba⟩; have ha1 : Below W1.heap.size W1 wa := hd0.trans hba; have ya := (HK.out _ ha1).1)
        | (go_at_call 169; refine (HE.out _).mono ?_; rintro e we ⟨rfl, hbe⟩; have he1 : Below W1.heap.size W1 we := ha1.trans (hbe.mono ha1.size); have y0 := (HK.out _ he1).1)
        | (go_at_call 99; refine (HFB.out _).mono ?_; rintro e wf ⟨AF, cF, rfl, hoF, hbf⟩; have hf1 : Below W1.heap.size W1 wf := he1.trans (hbf.mono he1.size); have yf := (HK.out _ hf1).1)
        | (go_at_call 56; refine (HHB.out _ _ hoF).mono ?_; rintro e wh ⟨rfl, h7⟩; obtain rfl := h7.symm))) | fail
    all_goals go_wp2
    all_goals go_ret
    all_goals exact ⟨rb hr.out, hb0.trans (ha1.mono hz0)⟩
  · cases xe
    · cases xb
      · first | (go_region_with (first
            | (go_at_call 168; refine (HA.out _).mono ?_; rintro e wa ⟨rfl, hba⟩; have ha1 : Below W1.heap.size W1 wa := hd0.trans hba; have ya := (HK.out _ ha1).1)
            | (go_at_call 169; refine (HE.out _).mono ?_; rintro e we ⟨rfl, hbe⟩; have he1 : Below W1.heap.size W1 we := ha1.trans (hbe.mono ha1.size); have y0 := (HK.out _ he1).1)
            | (go_at_call 99; refine (HFB.out _).mono ?_; rintro e wf ⟨AF, cF, rfl, hoF, hbf⟩; have hf1 : Below W1.heap.size W1 wf := he1.trans (hbf.mono he1.size); have yf := (HK.out _ hf1).1)
            | (go_at_call 56; refine (HHB.out _ _ hoF).mono ?_; rintro e wh ⟨rfl, h7⟩; obtain rfl := h7.symm))) | fail
        all_goals (
          have HRB2 : Hid (res = (!hasR pre nm && (decide (0 ≤ kd) && decide (kd < 9)) && !(hasT (fieldsS linkT) nm && decide (kd ≠ 5)) && (decide (kd = 7) == decide (0 < ws.length)) && ws.all wordB)) := Lib.hid (by rw [HRB.out]; simp)
          clear HRB HA HE HFB HHB hoF z0 z1 z2
          have hck : (k : Int) ≤ (c : Int) := by omega
          go_wp2
          go_loopw [36] (fun i wr => ∃ j : Nat, j ≤ k ∧ i = .int .i64 j ∧ Hid (hasR pre nm = hasR (pre.drop j) nm) ∧ Below W1.heap.size W1 wr) (fun i _ => k - (intOf i).toNat)
          case atStart => exact ⟨0, by omega, rfl, Lib.hid rfl, hf1⟩
          case round =>
            obtain ⟨j, hj, rfl, hst, hnx⟩ := hrel
            have hw := hb0.trans (hnx.mono hz0)
            have hzr := hnx.size
            by_cases hlt : j < k
            · have hjp : j < pre.length := by rw [hpl.out]; exact hlt
              obtain ⟨b3, off3, u3, hA3, _, hb32, hu3, hcell3⟩ := fmR.rd_at (HRD.out _ hw) hjp
              have hA4 := Option.some.inj hA3
              injection hA4 with e1 e2 e3
              subst e1 e2
              have x0 := hcell3 0 _ rfl
              have x1 := hcell3 1 _ rfl
              have x2 := hcell3 2 _ rfl
              rw [show off + (j * fmR.size + 0) = off + j * 3 from rfl] at x0
              rw [show off + (j * fmR.size + 1) = off + j * 3 + 1 from by show off + (j * 3 + 1) = _; omega] at x1
              rw [show off + (j * fmR.size + 2) = off + j * 3 + 2 from by show off + (j * 3 + 2) = _; omega] at x2
              have hu3' : kdW.rd wr 0 w.heap.size u3 pre[j].words := hu3
              obtain ⟨A5, c5, rfl, _⟩ := rdW_form hu3'
              have hj0 : (0 : Int) ≤ (j : Int) := by omega
              have hj1 : (j : Int) < (k : Int) := by omega
              have hdr : hasR (pre.drop j) nm = (decide (pre[j].name = nm) || hasR (pre.drop (j + 1)) nm) := by unfold hasR; rw [List.drop_eq_getElem_cons hjp, List.any_cons]
              have HDR := Lib.hid hdr
              obtain ⟨pn, hpn⟩ : ∃ x, x = pre[j].name := ⟨_, rfl⟩
              rw [← hpn] at x0 HDR
              clear hcell3 hu3 hu3' hA3 e3 hdr hpn
              go_upto_region 7 with fail
              obtain ⟨W4, hW4⟩ : ∃ W, W = wr.alloc (.cells #[.string pn, .int .i64 pre[j].kind, .slice A5 pre[j].words.length c5] 50) := ⟨_, rfl⟩
              have hb4 : Below wr.heap.size wr W4 := hW4 ▸ (Below.refl _ _).alloc (Nat.le_refl _) _
              have k4 : Bl W4 wr.heap.size 50 [.string pn, .int .i64 pre[j].kind, .slice A5 pre[j].words.length c5] := hW4 ▸ Bl.new wr _ _ rfl
              have y0 := k4.cell 0 rfl
              have hn4 : Below W1.heap.size W1 W4 := hnx.trans (hb4.mono hzr)
              obtain ⟨z0, z1, z2⟩ := HK.out _ hn4
              rw [← hW4]
              have HW4 := Lib.hid hW4
              clear hW4 k4 x0 x1 x2
              by_cases he : pn = nm
              · have q1 := toList_eq_of he
                have hr : Hid (res = false) := Lib.hid (by rw [HRB2.out, hst.out, HDR.out, decide_eq_true he]; simp)
                clear he
                go_wp2
                go_ret
                exact ⟨rb hr.out, hb0.trans (hn4.mono hz0)⟩
              · have q1 := toList_ne_of he
                have hst2 : Hid (hasR pre nm = hasR (pre.drop (j + 1)) nm) := Lib.hid (by rw [hst.out, HDR.out, decide_eq_false he]; rfl)
                clear he
                go_wp2
                go_roundw
                case rel => exact ⟨j + 1, by omega, by go_num, hst2, hn4⟩
                case measure => simp [intOf] <;> omega
            · obtain rfl : j = k := by omega
              have HRB3 : Hid (res = ((decide (0 ≤ kd) && decide (kd < 9)) && !(hasT (fieldsS linkT) nm && decide (kd ≠ 5)) && (decide (kd = 7) == decide (0 < ws.length)) && ws.all wordB)) := Lib.hid (by
                have h9 : hasR pre nm = false := by rw [hst.out, List.drop_of_length_le (by rw [hpl.out]; exact Nat.le_refl _)]; rfl
                rw [HRB2.out, h9]; simp)
              clear HRB2 hst
              obtain ⟨z0, z1, z2⟩ := HK.out _ hnx
              have hdx : Below W1.heap.size W1 wr.drew := hnx.trans ((drw wr 1).mono hzr)
              go_upto_region 10 with fail
              obtain ⟨x0', x1', x2'⟩ := HK.out _ hdx
              obtain ⟨bad, hbad⟩ : ∃ b, b = !((decide (0 ≤ kd) && decide (kd < 9)) && !(hasT (fieldsS linkT) nm && decide (kd ≠ 5)) && (decide (kd = 7) == decide (0 < ws.length))) := ⟨_, rfl⟩
              have HRB4 : Hid (res = (!bad && ws.all wordB)) := Lib.hid (by rw [HRB3.out, hbad, Bool.not_not])
              have HBAD := Lib.hid hbad
              have HNX : Hid (Below W1.heap.size W1 wr) := Lib.hid hnx
              obtain ⟨wo, rfl⟩ : ∃ wo, wo = wr := ⟨_, rfl⟩
              clear HRB3 hbad hpl HRD hck hlt hj hkc hns hnx
              go_cut [74] from 46 (fun s wx => s = .bool bad ∧ Below W1.heap.size W1 wx)
              case first =>
                clear HRW HRB4
                cases hb0' : bad
                · have hg := HBAD.out
                  have HB0 := Lib.hid hb0'
                  rw [hb0'] at hg
                  have hg2 : (decide (0 ≤ kd) && decide (kd < 9)) = true ∧ (hasT (fieldsS linkT) nm && decide (kd ≠ 5)) = false ∧ (decide (kd = 7) == decide (0 < ws.length)) = true := by
                    revert hg
                    generalize (decide (0 ≤ kd) && decide (kd < 9)) = y1
                    generalize (hasT (fieldsS linkT) nm && decide (kd ≠ 5)) = y2
                    generalize (decide (kd = 7) == decide (0 < ws.length)) = y3
                    cases y1 <;> cases y2 <;> cases y3 <;> simp
                  obtain ⟨g1, g2, g3⟩ := hg2
                  simp only [Bool.and_eq_true, decide_eq_true_eq] at g1
                  obtain ⟨p1, p2⟩ := g1
                  have p1' : ¬ kd < 0 := by omega
                  have p2' : ¬ 9 ≤ kd := by omega
                  by_cases k5 : kd = 5
                  · subst k5
                    have hws : ws = [] := by
                      rcases Nat.eq_zero_or_pos ws.length with h | h
                      · exact List.eq_nil_of_length_eq_zero h
                      · rw [decide_eq_true h] at g3; simp at g3
                    subst hws
                    clear g2 g3 hg hb0' HBAD HHS HFL
                    go_quiet (fail)
                    go_wp2_with fail
                    go_meet
                    exact ⟨by rw [HB0.out], HNX.out.trans ((drw wo _).mono hzr)⟩
                  · have e5 : (kd == 5) = false := by simpa using k5
                    have e5' : (kd != 5) = true := by simpa using k5
                    have g2' : hasT (fieldsS linkT) nm = false := by simpa [k5] using g2
                    have HHL : Hid (∀ W v, kdW.rd W 0 W.heap.size v (fieldsS linkT) → Calls Tryz.prog 56 #[v, .string nm] W fun e w' => e = .returned (.bool false) ∧ w' = W) := Lib.hid fun W v hv => by rw [← g2']; exact HHS.out W _ v hv
                    obtain ⟨FL, hFL⟩ : ∃ x, x = fieldsS linkT := ⟨_, rfl⟩
                    rw [← hFL] at HFL HHL
                    by_cases k7 : kd = 7
                    · subst k7
                      have pl : 0 < ws.length := by
                        rcases Nat.eq_zero_or_pos ws.length with h | h
                        · rw [h] at g3; simp at g3
                        · exact h
                      have pl2 : (0 : Int) < (ws.length : Int) := by omega
                      clear g2 g2' g3 hg hb0' HBAD HHS hFL k5
                      go_region_held3 (fun W' => W'.cell? ⟨w.heap.size, 0, none⟩ = some (.string nm) ∧ W'.cell? ⟨w.heap.size, 1, none⟩ = some (.int .i64 7) ∧ W'.cell? ⟨w.heap.size, 2, none⟩ = some (.slice A1 ws.length cc1))
                        (first | exact ⟨x0', x1', x2'⟩ | exact ⟨z0, z1, z2⟩ | exact HS.out)
                        (first
                        | (go_at_call 99; refine (HFL.out _).mono ?_; rintro e wf2 ⟨AG, cG, rfl, hoG, hbg⟩; have hg1 : Below W1.heap.size W1 wf2 := hdx.trans (hbg.mono hdx.size); have HS := Lib.hid (HK.out _ hg1))
                        | (go_at_call 56; refine (HHL.out _ _ hoG).mono ?_; rintro e wh ⟨rfl, h7⟩; obtain rfl := h7.symm))
                      all_goals (go_wp2_with fail; go_meet; exact ⟨by rw [HB0.out], hg1⟩)
                    · have e7 : (kd == 7) = false := by simpa using k7
                      have hws : ws = [] := by
                        rcases Nat.eq_zero_or_pos ws.length with h | h
                        · exact List.eq_nil_of_length_eq_zero h
                        · rw [decide_eq_true h, decide_eq_false k7] at g3; simp at g3
                      subst hws
                      clear g2 g2' g3 hg hb0' HBAD HHS hFL k5 k7
                      go_region_held3 (fun W' => W'.cell? ⟨w.heap.size, 0, none⟩ = some (.string nm) ∧ W'.cell? ⟨w.heap.size, 1, none⟩ = some (.int .i64 kd) ∧ W'.cell? ⟨w.heap.size, 2, none⟩ = some (.slice A1 ([] : List ByteArray).length cc1))
                        (first | exact ⟨x0', x1', x2'⟩ | exact ⟨z0, z1, z2⟩ | exact HS.out)
                        (first
                        | (go_at_call 99; refine (HFL.out _).mono ?_; rintro e wf2 ⟨AG, cG, rfl, hoG, hbg⟩; have hg1 : Below W1.heap.size W1 wf2 := hdx.trans (hbg.mono hdx.size); have HS := Lib.hid (HK.out _ hg1))
                        | (go_at_call 56; refine (HHL.out _ _ hoG).mono ?_; rintro e wh ⟨rfl, h7⟩; obtain rfl := h7.symm))
                      all_goals (go_wp2_with fail; go_meet; exact ⟨by rw [HB0.out], hg1⟩)
                · have HB0 := Lib.hid hb0'
                  by_cases p1 : kd < 0
                  · clear HBAD HHS HFL hb0'
                    go_quiet (fail)
                    go_wp2_with fail
                    go_meet
                    exact ⟨by rw [HB0.out], HNX.out.trans ((drw wo _).mono hzr)⟩
                  · by_cases p2 : 9 ≤ kd
                    · clear HBAD HHS HFL hb0'
                      go_quiet (fail)
                      go_wp2_with fail
                      go_meet
                      exact ⟨by rw [HB0.out], HNX.out.trans ((drw wo _).mono hzr)⟩
                    · have hg := HBAD.out
                      rw [hb0', decide_eq_true (show 0 ≤ kd by omega), decide_eq_true (show kd < 9 by omega)] at hg
                      by_cases k7 : kd = 7
                      · subst k7
                        rcases Nat.eq_zero_or_pos ws.length with hz | pl
                        · have hws := List.eq_nil_of_length_eq_zero hz
                          subst hws
                          clear HBAD HHS HFL hb0' hg hz
                          go_quiet (fail)
                          go_wp2_with fail
                          go_meet
                          exact ⟨by rw [HB0.out], HNX.out.trans ((drw wo _).mono hzr)⟩
                        · have pl2 : (0 : Int) < (ws.length : Int) := by omega
                          have g2' : hasT (fieldsS linkT) nm = true := by
                            rw [decide_eq_true pl] at hg
                            revert hg
                            cases hasT (fieldsS linkT) nm <;> simp
                          have HHL : Hid (∀ W v, kdW.rd W 0 W.heap.size v (fieldsS linkT) → Calls Tryz.prog 56 #[v, .string nm] W fun e w' => e = .returned (.bool true) ∧ w' = W) := Lib.hid fun W v hv => by rw [← g2']; exact HHS.out W _ v hv
                          obtain ⟨FL, hFL⟩ : ∃ x, x = fieldsS linkT := ⟨_, rfl⟩
                          rw [← hFL] at HFL HHL
                          clear g2' hg hb0' HBAD HHS hFL
                          go_region_held3 (fun W' => W'.cell? ⟨w.heap.size, 0, none⟩ = some (.string nm) ∧ W'.cell? ⟨w.heap.size, 1, none⟩ = some (.int .i64 7) ∧ W'.cell? ⟨w.heap.size, 2, none⟩ = some (.slice A1 ws.length cc1))
                            (first | exact ⟨x0', x1', x2'⟩ | exact ⟨z0, z1, z2⟩ | exact HS.out)
                            (first
                            | (go_at_call 99; refine (HFL.out _).mono ?_; rintro e wf2 ⟨AG, cG, rfl, hoG, hbg⟩; have hg1 : Below W1.heap.size W1 wf2 := hdx.trans (hbg.mono hdx.size); have HS := Lib.hid (HK.out _ hg1))
                            | (go_at_call 56; refine (HHL.out _ _ hoG).mono ?_; rintro e wh ⟨rfl, h7⟩; obtain rfl := h7.symm))
                          all_goals (go_wp2_with fail; go_meet; exact ⟨by rw [HB0.out], hg1⟩)
                      · have e7 : (kd == 7) = false := by simpa using k7
                        rcases Nat.eq_zero_or_pos ws.length with hz | pl
                        · have hws := List.eq_nil_of_length_eq_zero hz
                          subst hws
                          have g2'' : hasT (fieldsS linkT) nm = true ∧ kd ≠ 5 := by
                            rw [decide_eq_false k7] at hg
                            revert hg
                            cases hasT (fieldsS linkT) nm <;> by_cases h5 : kd = 5 <;> simp [h5]
                          obtain ⟨g2', k5⟩ := g2''
                          have e5 : (kd == 5) = false := by simpa using k5
                          have e5' : (kd != 5) = true := by simpa using k5
                          have HHL : Hid (∀ W v, kdW.rd W 0 W.heap.size v (fieldsS linkT) → Calls Tryz.prog 56 #[v, .string nm] W fun e w' => e = .returned (.bool true) ∧ w' = W) := Lib.hid fun W v hv => by rw [← g2']; exact HHS.out W _ v hv
                          obtain ⟨FL, hFL⟩ : ∃ x, x = fieldsS linkT := ⟨_, rfl⟩
                          rw [← hFL] at HFL HHL
                          clear g2' hg hb0' HBAD HHS hFL hz k5 k7
                          go_region_held3 (fun W' => W'.cell? ⟨w.heap.size, 0, none⟩ = some (.string nm) ∧ W'.cell? ⟨w.heap.size, 1, none⟩ = some (.int .i64 kd) ∧ W'.cell? ⟨w.heap.size, 2, none⟩ = some (.slice A1 ([] : List ByteArray).length cc1))
                            (first | exact ⟨x0', x1', x2'⟩ | exact ⟨z0, z1, z2⟩ | exact HS.out)
                            (first
                            | (go_at_call 99; refine (HFL.out _).mono ?_; rintro e wf2 ⟨AG, cG, rfl, hoG, hbg⟩; have hg1 : Below W1.heap.size W1 wf2 := hdx.trans (hbg.mono hdx.size); have HS := Lib.hid (HK.out _ hg1))
                            | (go_at_call 56; refine (HHL.out _ _ hoG).mono ?_; rintro e wh ⟨rfl, h7⟩; obtain rfl := h7.symm))
                          all_goals (go_wp2_with fail; go_meet; exact ⟨by rw [HB0.out], hg1⟩)
                        · have pl2 : (0 : Int) < (ws.length : Int) := by omega
                          clear HBAD HHS HFL hb0' hg
                          go_quiet (fail)
                          go_wp2_with fail
                          go_meet
                          exact ⟨by rw [HB0.out], HNX.out.trans ((drw wo _).mono hzr)⟩
              case rest =>
                clear z0 z1 z2 x0' x1' x2' HHS HFL HBAD hdx HNX
                obtain ⟨rfl, hwc⟩ := hcut
                cases bad
                · have HRB5 : Hid (res = ws.all wordB) := Lib.hid (by rw [HRB4.out]; rfl)
                  clear HRB4
                  obtain ⟨z0, z1, z2⟩ := HK.out _ hwc
                  go_wp2
                  go_loopw [78] (fun i wr => ∃ m : Nat, m ≤ ws.length ∧ i = .int .i64 m ∧ Hid (∀ t (h : t < ws.length), t < m → wordB ws[t] = true) ∧ wr = wc) (fun i _ => ws.length - (intOf i).toNat)
                  case atStart => exact ⟨0, by omega, rfl, Lib.hid (fun t h ht => by omega), rfl⟩
                  case round =>
                    obtain ⟨m, hm, rfl, hall, rfl⟩ := hrel
                    by_cases hlt : m < ws.length
                    · obtain ⟨b6, off6, rfl, _, hb6, hc6⟩ := rdW_at (HRW.out _ (hb0.trans (hwc.mono hz0))) hlt
                      obtain ⟨s, hs⟩ : ∃ s, s = ws[m] := ⟨_, rfl⟩
                      have HSW := Lib.hid hs
                      rw [← hs] at hc6
                      clear hs
                      have hm0 : (0 : Int) ≤ (m : Int) := by omega
                      have hm1 : (m : Int) < (ws.length : Int) := by omega
                      have hmem : Hid (s ∈ ws) := Lib.hid (by rw [HSW.out]; exact List.getElem_mem _)
                      have hno : Hid (wordB s = false → res = false) := Lib.hid (fun hf => by
                        rw [HRB5.out, List.all_eq_false]
                        exact ⟨s, hmem.out, by rw [hf]; simp⟩)
                      have hsl := size_len s
                      by_cases h0 : s.size = 0
                      · have hr : Hid (res = false) := Lib.hid (hno.out (by unfold wordB; rw [h0]; rfl))
                        have e0 := toList_nil h0
                        go_wp2
                        go_ret
                        exact ⟨rb hr.out, hb0.trans (hwc.mono hz0)⟩
                      · by_cases h1 : 100 < s.size
                        · have hr : Hid (res = false) := Lib.hid (hno.out (by
                            unfold wordB; have : ¬ s.size ≤ 100 := by omega
                            simp [this]))
                          go_wp2
                          go_ret
                          exact ⟨rb hr.out, hb0.trans (hwc.mono hz0)⟩
                        · have HW : Hid (wordB s = s.data.toList.all okW) := Lib.hid (by
                            unfold wordB
                            have h2 : 1 ≤ s.size := by omega
                            have h3 : s.size ≤ 100 := by omega
                            simp [h2, h3])
                          obtain ⟨wd, rfl⟩ : ∃ wd, wd = wr := ⟨_, rfl⟩
                          go_wp2
                          go_loopw [92] (fun i wr => ∃ q : Nat, q ≤ s.size ∧ i = .int .i64 q ∧ wr = wd ∧ Hid (∀ j (hj : j < q) (h : j < s.size), okW s[j] = true)) (fun i _ => s.size - (intOf i).toNat)
                          case atStart => exact ⟨0, by omega, rfl, rfl, Lib.hid (fun j hj => by omega)⟩
                          case round =>
                            obtain ⟨q, hq, rfl, rfl, hallq⟩ := hrel
                            by_cases hltq : q < s.size
                            · by_cases hb : okW s[q] = true
                              · have HB := Lib.hid hb
                                have b1 : ¬ ((s[q].toNat : Int) < 33) := fun h => by rw [okW_no (.inl h)] at hb; cases hb
                                have b2 : ¬ ((126 : Int) < s[q].toNat) := fun h => by rw [okW_no (.inr h)] at hb; cases hb
                                clear hb
                                go_wp2
                                go_roundw
                                case rel => exact ⟨q + 1, by omega, by go_num, (by first | rfl | trivial), Lib.hid (fun j hj h => by
                                  by_cases e : j = q
                                  · subst e; exact HB.out
                                  · exact hallq.out j (by omega) h)⟩
                                case measure => simp [intOf] <;> omega
                              · have hr : Hid (res = false) := Lib.hid (hno.out (by
                                  rw [HW.out, List.all_eq_false]
                                  exact ⟨s[q], by rw [at_list]; exact List.getElem_mem _, hb⟩))
                                by_cases b1 : (s[q].toNat : Int) < 33
                                · go_wp2
                                  go_ret
                                  exact ⟨rb hr.out, hb0.trans (hwc.mono hz0)⟩
                                · by_cases b2 : (126 : Int) < s[q].toNat
                                  · go_wp2
                                    go_ret
                                    exact ⟨rb hr.out, hb0.trans (hwc.mono hz0)⟩
                                  · exact absurd (okW_yes b1 b2) hb
                            · have ht : Hid (wordB s = true) := Lib.hid (by
                                rw [HW.out, List.all_eq_true]
                                intro x hx
                                obtain ⟨j, hj, rfl⟩ := List.getElem_of_mem hx
                                have hj' : j < s.size := by rw [← size_len]; exact hj
                                have := hallq.out j (by omega) hj'
                                rw [at_list] at this
                                exact this)
                              go_wp2
                              go_roundw
                              case rel => exact ⟨m + 1, by omega, by go_num, Lib.hid (fun t h ht' => by
                                by_cases e : t = m
                                · subst e; rw [← HSW.out]; exact ht.out
                                · exact hall.out t h (by omega)), (by first | rfl | trivial)⟩
                              case measure => simp [intOf] <;> omega
                    · have hr : Hid (res = true) := Lib.hid (by
                        rw [HRB5.out, List.all_eq_true]
                        intro x hx
                        obtain ⟨t, ht, rfl⟩ := List.getElem_of_mem hx
                        exact hall.out t ht (by omega))
                      go_wp2
                      go_ret
                      exact ⟨rb hr.out, hb0.trans (hwc.mono hz0)⟩
                · have hr : Hid (res = false) := Lib.hid (by rw [HRB4.out]; rfl)
                  go_wp2
                  go_ret
                  exact ⟨rb hr.out, hb0.trans (hwc.mono hz0)⟩)
      · skip
        have hr : Hid (res = false) := Lib.hid (by rw [HRB.out]; simp)
        first | (go_region_with (first
            | (go_at_call 168; refine (HA.out _).mono ?_; rintro e wa ⟨rfl, hba⟩; have ha1 : Below W1.heap.size W1 wa := hd0.trans hba; have ya := (HK.out _ ha1).1)
            | (go_at_call 169; refine (HE.out _).mono ?_; rintro e we ⟨rfl, hbe⟩; have he1 : Below W1.heap.size W1 we := ha1.trans (hbe.mono ha1.size); have y0 := (HK.out _ he1).1)
            | (go_at_call 99; refine (HFB.out _).mono ?_; rintro e wf ⟨AF, cF, rfl, hoF, hbf⟩; have hf1 : Below W1.heap.size W1 wf := he1.trans (hbf.mono he1.size); have yf := (HK.out _ hf1).1)
            | (go_at_call 56; refine (HHB.out _ _ hoF).mono ?_; rintro e wh ⟨rfl, h7⟩; obtain rfl := h7.symm))) | fail
        all_goals go_wp2
        all_goals go_ret
        all_goals exact ⟨rb hr.out, hb0.trans (hf1.mono hz0)⟩
    · skip
      have hr : Hid (res = false) := Lib.hid (by rw [HRB.out]; simp)
      first | (go_region_with (first
          | (go_at_call 168; refine (HA.out _).mono ?_; rintro e wa ⟨rfl, hba⟩; have ha1 : Below W1.heap.size W1 wa := hd0.trans hba; have ya := (HK.out _ ha1).1)
          | (go_at_call 169; refine (HE.out _).mono ?_; rintro e we ⟨rfl, hbe⟩; have he1 : Below W1.heap.size W1 we := ha1.trans (hbe.mono ha1.size); have y0 := (HK.out _ he1).1)
          | (go_at_call 99; refine (HFB.out _).mono ?_; rintro e wf ⟨AF, cF, rfl, hoF, hbf⟩; have hf1 : Below W1.heap.size W1 wf := he1.trans (hbf.mono he1.size); have yf := (HK.out _ hf1).1)
          | (go_at_call 56; refine (HHB.out _ _ hoF).mono ?_; rintro e wh ⟨rfl, h7⟩; obtain rfl := h7.symm))) | fail
      all_goals go_wp2
      all_goals go_ret
      all_goals exact ⟨rb hr.out, hb0.trans (he1.mono hz0)⟩
end Go.Proofs.YteikagdinecfoaaGreatDoor.Rj
