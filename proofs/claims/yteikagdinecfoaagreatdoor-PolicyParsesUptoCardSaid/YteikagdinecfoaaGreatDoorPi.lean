/- A rule in a policy's text: the reference's ruleIn. -/
import Derived.Test.YteikagdinecfoaaGreatDoorPo
import Derived.Deep.RegionHeld3
set_option linter.unusedVariables false
set_option linter.unusedSimpArgs false
namespace Go.Proofs.YteikagdinecfoaaGreatDoor.Pi
open Go.RowKit Lb Gr Pd Fl Go.Proofs.YteikagdinecfoaaGreatDoor.Pm Bk Is Ea Lc Go.Proofs.YteikagdinecfoaaGreatDoor.Sl Go.Proofs.YteikagdinecfoaaGreatDoor.Ck Go.Proofs.YteikagdinecfoaaGreatDoor.Ow Go.Proofs.YteikagdinecfoaaGreatDoor.Rz Go.Proofs.YteikagdinecfoaaGreatDoor.Tr Pt Pn Po
attribute [local go_sem ↓] Go.wp_at_zero Go.wp_at_succ

theorem kindZ_hit {s : ByteArray} {i : Nat} (hi : i < 9) (h : kindsL[i]'(by rw [kinds_len]; exact hi) = s) (hne : ∀ j (hj : j < 9), j < i → kindsL[j]'(by rw [kinds_len]; exact hj) ≠ s) : kindZ s = i := by
  unfold kindZ
  have h1 := Go.Lib.idxOfS_hit kindsL 9 i s hi (by decide) (by rw [List.getD_eq_getElem?_getD, List.getElem?_eq_getElem (by rw [kinds_len]; exact hi), Option.getD_some]; exact h) (fun j hj => by
    rw [List.getD_eq_getElem?_getD, List.getElem?_eq_getElem (by rw [kinds_len]; omega), Option.getD_some]; exact hne j (by omega) hj)
  rw [show kindsL.take 9 = kindsL from rfl] at h1
  exact h1
theorem kindZ_miss {s : ByteArray} (hne : ∀ j (hj : j < 9), kindsL[j]'(by rw [kinds_len]; exact hj) ≠ s) : kindZ s = -1 := by
  unfold kindZ
  have h1 := Go.Lib.idxOfS_miss kindsL 9 s (fun j hj => by
    rw [List.getD_eq_getElem?_getD, List.getElem?_eq_getElem (by rw [kinds_len]; omega), Option.getD_some]; exact hne j hj)
  rw [show kindsL.take 9 = kindsL from rfl] at h1
  exact h1

set_option maxHeartbeats 4000000 in
set_option maxRecDepth 100000 in
theorem ruleInC (l : List ByteArray) (v : Value) (w : World) (h : kdW.rd w 0 w.heap.size v l) (hl : l.length * 16 ≤ 140737488355328) : Calls Tryz.prog 167 #[v] w (RuOf l w) := by
  obtain ⟨j0, hj', jw0, jw1, jw2⟩ := info_parts infoStr
  obtain ⟨A, c, rfl, hc1, hc2⟩ := rdW_form h
  have k1 : Bl (w.alloc (.cells #[.string ByteArray.empty, .int .i64 0, .slice none 0 0] 50)) w.heap.size 50 [.string ByteArray.empty, .int .i64 0, .slice none 0 0] := Bl.new w _ _ rfl
  have hb0 : Below w.heap.size w (w.alloc (.cells #[.string ByteArray.empty, .int .i64 0, .slice none 0 0] 50)) := (Below.refl _ _).alloc (Nat.le_refl _) _
  match l, h, hl, hc1 with
  | [], h, hl, hc1 =>
    go_enter Tryz.func167, Tryz.ntmps167
    go_wp2
    refine bodyPost_ret (res_cell2 Tryz.results167 rfl k1 Tryz.underlying50 rfl (by kernel_rfl)) rfl ?_
    exact ⟨ru0, .slice none 0 0, [], rfl, ⟨World.ownsRow_nil _ _ _ _, rfl⟩, fun r' h => (by cases h), hb0⟩
  | [n], h, hl, hc1 =>
    go_enter Tryz.func167, Tryz.ntmps167
    go_wp2
    refine bodyPost_ret (res_cell2 Tryz.results167 rfl k1 Tryz.underlying50 rfl (by kernel_rfl)) rfl ?_
    exact ⟨ru0, .slice none 0 0, [], rfl, ⟨World.ownsRow_nil _ _ _ _, rfl⟩, fun r' h => (by cases h), hb0⟩
  | n :: k :: ws, h, hl, hc1 =>
    obtain ⟨b, off, rfl, _, hb2, hx0⟩ := rdW_at h (i := 0) (by simp)
    obtain ⟨b', off', hA', _, _, hx1⟩ := rdW_at h (i := 1) (by simp)
    injection hA' with hA'
    injection hA' with e1 e2
    subst e1 e2
    have hx0' : w.cell? ⟨b, off, none⟩ = some (.string n) := by simpa using hx0
    have hx1' : w.cell? ⟨b, off + 1, none⟩ = some (.string k) := by simpa using hx1
    obtain ⟨m, hm⟩ : ∃ m, m = ws.length := ⟨_, rfl⟩
    obtain ⟨c2, rfl⟩ : ∃ c2, c = c2 + 2 := ⟨c - 2, by simp at hc1; omega⟩
    have hmc : m ≤ c2 := by simp at hc1; omega
    have hl2 : m * 16 ≤ 140737488355328 := by simp at hl; omega
    have hlen : (n :: k :: ws).length = m + 2 := by simp [hm]
    have hmm : maxLen = 9223372036854775807 := rfl
    have hDR : Hid (∀ W, Below w.heap.size w W → kdW.rd W 0 w.heap.size (.slice (some ⟨b, off + 2, none⟩) m c2) ws) := Lib.hid fun W hW => by
      have h1 := rdW_drop (rd_below h hW (Nat.le_refl _)) (k := 2) (by simp)
      rw [hlen] at h1
      exact h1
    have HM := Lib.hid hm
    have HRO : Hid (ruleO (n :: k :: ws) = if 0 ≤ kindZ k ∧ (kindZ k = 7 ∨ ws = []) then some ⟨n, kindZ k, ws⟩ else none) := Lib.hid rfl
    rw [hlen]
    obtain ⟨N, hN⟩ : ∃ N, N = m + 2 := ⟨_, rfl⟩
    obtain ⟨C, hC⟩ : ∃ C, C = c2 + 2 := ⟨_, rfl⟩
    rw [← hN, ← hC]
    have n1 : (2 : Int) ≤ (N : Int) := by omega
    have n2 : (N : Int) ≤ (C : Int) := by omega
    have n7 : (C : Int) ≤ 9223372036854775807 := by omega
    have n8 : (1 : Int) < (N : Int) := by omega
    have n9 : (0 : Int) < (N : Int) := by omega
    have N3 : Hid (((N : Int) - 2).toNat = m ∧ ((C : Int) - 2).toNat = c2 ∧ N - 2 = m ∧ C - 2 = c2) := Lib.hid ⟨by omega, by omega, by omega, by omega⟩
    have HN := Lib.hid hN
    have HC := Lib.hid hC
    obtain ⟨W0, hW0⟩ : ∃ W, W = w.alloc (.cells #[.string ⟨#[]⟩, .int .i64 0, .slice none 0 0] 50) := ⟨_, rfl⟩
    have k1 : Bl W0 w.heap.size 50 [.string ⟨#[]⟩, .int .i64 0, .slice none 0 0] := hW0 ▸ Bl.new w _ _ rfl
    have hb0 : Below w.heap.size w W0 := hW0 ▸ (Below.refl _ _).alloc (Nat.le_refl _) _
    have hz0 := hb0.size
    have HW0 : Hid (∀ W, Below W0.heap.size W0 W → W.cell? ⟨b, off, none⟩ = some (.string n) ∧ W.cell? ⟨b, off + 1, none⟩ = some (.string k)) := Lib.hid fun W hW => by
      have h9 : Below w.heap.size w W := hb0.trans (hW.mono hz0)
      exact ⟨(h9.cell (p := ⟨b, off, none⟩) hb2).trans hx0', (h9.cell (p := ⟨b, off + 1, none⟩) hb2).trans hx1'⟩
    have HKN : Hid (∀ (i : Nat) (hi : i < 9) W, Calls Tryz.prog 135 #[.int .i64 (i : Int)] W fun e w' => e = .returned (.string (kindsL[i]'(by rw [kinds_len]; exact hi))) ∧ Below W.heap.size W w') := Lib.hid fun i hi W => rKindC i hi W
    have HX0 := Lib.hid hW0
    clear h hx0 hx1 hx0' hx1' hm hlen hW0 hmm hc1 hc2 hl hN hC
    go_enter Tryz.func167, Tryz.ntmps167
    go_upto_region 3 with fail
    rw [← HX0.out]
    have hq0 := Below.refl W0.heap.size W0
    go_wp2
    go_loopw [9] (fun i wr => ∃ q : Nat, q ≤ 9 ∧ i = .int .i64 q ∧ Hid (∀ j (hj : j < 9), j < q → kindsL[j]'(by rw [kinds_len]; exact hj) ≠ k) ∧ Below W0.heap.size W0 wr) (fun i _ => 9 - (intOf i).toNat)
    case atStart => exact ⟨0, by omega, rfl, Lib.hid (fun j hj h => by omega), hq0⟩
    case round =>
      obtain ⟨q, hq, rfl, hne, hnx⟩ := hrel
      have hzr := hnx.size
      by_cases hlt : q < 9
      · obtain ⟨y0, y1⟩ := HW0.out _ hnx
        have hd0 : Below wr.heap.size wr wr.drew := drw wr 1
        have HK1 := HKN.out q hlt
        obtain ⟨kn, hkn⟩ : ∃ kn, kn = kindsL[q]'(by rw [kinds_len]; exact hlt) := ⟨_, rfl⟩
        rw [← hkn] at HK1
        have HK2 := Lib.hid HK1
        have HKQ := Lib.hid hkn
        have hq1 : (0 : Int) ≤ (q : Int) := by omega
        have hq2 : (q : Int) < 9 := by omega
        clear HK1 hkn
        go_upto_region 6 with fail
        have HY : Hid (∀ W, Below wr.heap.size wr W → W.cell? ⟨b, off + 1, none⟩ = some (.string k)) := Lib.hid fun W hW => (HW0.out _ (hnx.trans (hW.mono hzr))).2
        by_cases he : k = kn
        · have q1 := toList_eq_of he
          have HE := Lib.hid he
          clear he
          go_region_held3 (fun W' => W'.cell? ⟨b, off + 1, none⟩ = some (.string k))
            (first | exact y1 | exact HS.out)
            (first | (go_at_call 135; refine (HK2.out _).mono ?_; rintro e w1 ⟨rfl, hb1⟩; have h1 : Below wr.heap.size wr w1 := hd0.trans hb1; have HS := Lib.hid (HY.out _ h1)))
          have hw1 : Below w.heap.size w w1 := hb0.trans ((hnx.trans (h1.mono hzr)).mono hz0)
          have h01 : Below W0.heap.size W0 w1 := hnx.trans (h1.mono hzr)
          have x0 := (HW0.out _ h01).1
          have hba : Below w1.heap.size w1 (w1.alloc (.cells #[] 9)) := (Below.refl _ _).alloc (Nat.le_refl _) _
          have HZ0 : Hid (∀ W, Below w1.heap.size w1 W → W.cell? ⟨b, off, none⟩ = some (.string n)) := Lib.hid fun W hW => (HW0.out _ (h01.trans (hW.mono h01.size))).1
          have x0a := HZ0.out _ hba
          have HZF : Hid (∀ (W : World) u0 u1 u2, W.cell? ⟨b, off, none⟩ = some (.string n) → (((W.setCell ⟨w.heap.size, 0, none⟩ u0).setCell ⟨w.heap.size, 1, none⟩ u1).setCell ⟨w.heap.size, 2, none⟩ u2).cell? ⟨b, off, none⟩ = some (.string n)) := Lib.hid fun W u0 u1 u2 hW => by
            rw [World.cell?_of_block (a := ⟨b, off, none⟩) (w := W) (Fr.block (Fr.set3 W w.heap.size u0 u1 u2) b (World.block_lt_of_cell? (a := ⟨b, off, none⟩) _ hW) (by simp; omega))]
            exact hW
          have hoA := own_empty w1 w1.heap.size rfl
          have k11 := k1.below h01
          have k11a := k11.alloc (.cells #[] 9)
          have hkla := k11a.lt
          have hklw := k11.lt
          have hm1 := HM.out
          have r1 : 0 + m ≤ maxLen := by unfold maxLen; omega
          have r2 : (0 + m) * 16 ≤ 140737488355328 := by omega
          have hkq : Hid (kindZ k = (q : Int)) := Lib.hid (kindZ_hit hlt (by rw [← HKQ.out, HE.out]) (fun j hj hjq => hne.out j hj hjq))
          have hrr : Hid (∀ r', ruleO (n :: k :: ws) = some r' → (⟨n, q, ws⟩ : RuleD) = r') := Lib.hid (fun r' hr => by
            rw [HRO.out, hkq.out] at hr
            split at hr
            · exact Option.some.inj hr
            · cases hr)
          have hsrc0 := rd_src (hDR.out _ (hw1.trans (hba.mono hw1.size)))
          go_upto_region 7 with fail
          clear y0 y1 q1
          by_cases hc0 : c2 = 0
          · have hws : ws = [] := List.eq_nil_of_length_eq_zero (by omega)
            subst hws
            have hm00 : m = 0 := by simpa using hm1
            subst hc0 hm00
            have hN2 : N = 2 := HN.out
            have hC2 : C = 2 := HC.out
            have hsrc : 0 < (([] : List ByteArray).map Value.string).length → ∃ b' off', (some ⟨b, off, none⟩ : Option Addr) = some ⟨b', off', none⟩ ∧ ∀ j u, (([] : List ByteArray).map Value.string)[j]? = some u → (w1.alloc (.cells #[] 9)).cell? ⟨b', off' + j, none⟩ = some u := fun h => by simp at h
            clear n1 n2 n7 n8 n9 hm1
            subst hN2 hC2
            by_cases h7 : q = 7
            · have e7 : ((q : Int) == 7) = true := by rw [h7]; rfl
              have H7 := Lib.hid h7
              have hob : Hid ((ruleO (n :: k :: [])).isSome = true) := Lib.hid (by rw [HRO.out, hkq.out, if_pos ⟨by omega, .inl (by rw [h7]; rfl)⟩]; rfl)
              clear h7
              first
                | (go_region_with (first | (refine step_append_src _ (by rfl) (.tmp 22) (.tmp 24) 27 (by rfl) w1.heap.size 9 j0 _ 1 16 Tryz.underlying27 hj' jw0 jw1 jw2 rfl (by decide) (.slice (some ⟨w1.heap.size, 0, none⟩) 0 0) 0 [] (by rfl) (by exact hoA) (some ⟨b, off, none⟩) 0 0 (([] : List ByteArray).map Value.string) (by rfl) (by simp) (by exact hsrc) (by simp [Value.oneCell']) r1 r2 (by simp) ?_; intro v9 w9 hown9 hgrow9 hrow9; rw [Nat.zero_add, List.nil_append] at hown9; obtain ⟨A6, c6, rfl, _⟩ := own_slice hown9; have k12 := k11a.of (hgrow9.block _ hkla (fun e => by have h7 : w.heap.size = w1.heap.size := Option.some.inj e; omega)); have st := k12.store3 (.string n) (.int .i64 q) (.slice A6 0 c6); have hb9 : Below w1.heap.size w1 w9 := hba.drew.grown hgrow9 (by simp) (fun j hj => by have h7 : w1.heap.size = j := Option.some.inj hj; omega); have x9 := (HZ0.out _ hb9); have HSF := Lib.hid (HZF.out w9 (.string n) (.int .i64 q) (.slice A6 0 c6) x9))))
                | (go_region_law (first | (go_simp; (refine step_append_src _ (by rfl) (.tmp 22) (.tmp 24) 27 (by rfl) w1.heap.size 9 j0 _ 1 16 Tryz.underlying27 hj' jw0 jw1 jw2 rfl (by decide) (.slice (some ⟨w1.heap.size, 0, none⟩) 0 0) 0 [] (by rfl) (by exact hoA) (some ⟨b, off, none⟩) 0 0 (([] : List ByteArray).map Value.string) (by rfl) (by simp) (by exact hsrc) (by simp [Value.oneCell']) r1 r2 (by simp) ?_; intro v9 w9 hown9 hgrow9 hrow9; rw [Nat.zero_add, List.nil_append] at hown9; obtain ⟨A6, c6, rfl, _⟩ := own_slice hown9; have k12 := k11a.of (hgrow9.block _ hkla (fun e => by have h7 : w.heap.size = w1.heap.size := Option.some.inj e; omega)); have st := k12.store3 (.string n) (.int .i64 q) (.slice A6 0 c6); have hb9 : Below w1.heap.size w1 w9 := hba.drew.grown hgrow9 (by simp) (fun j hj => by have h7 : w1.heap.size = j := Option.some.inj hj; omega); have x9 := (HZ0.out _ hb9); have HSF := Lib.hid (HZF.out w9 (.string n) (.int .i64 q) (.slice A6 0 c6) x9))) | ((refine step_append_src _ (by rfl) (.tmp 22) (.tmp 24) 27 (by rfl) w1.heap.size 9 j0 _ 1 16 Tryz.underlying27 hj' jw0 jw1 jw2 rfl (by decide) (.slice (some ⟨w1.heap.size, 0, none⟩) 0 0) 0 [] (by rfl) (by exact hoA) (some ⟨b, off, none⟩) 0 0 (([] : List ByteArray).map Value.string) (by rfl) (by simp) (by exact hsrc) (by simp [Value.oneCell']) r1 r2 (by simp) ?_; intro v9 w9 hown9 hgrow9 hrow9; rw [Nat.zero_add, List.nil_append] at hown9; obtain ⟨A6, c6, rfl, _⟩ := own_slice hown9; have k12 := k11a.of (hgrow9.block _ hkla (fun e => by have h7 : w.heap.size = w1.heap.size := Option.some.inj e; omega)); have st := k12.store3 (.string n) (.int .i64 q) (.slice A6 0 c6); have hb9 : Below w1.heap.size w1 w9 := hba.drew.grown hgrow9 (by simp) (fun j hj => by have h7 : w1.heap.size = j := Option.some.inj hj; omega); have x9 := (HZ0.out _ hb9); have HSF := Lib.hid (HZF.out w9 (.string n) (.int .i64 q) (.slice A6 0 c6) x9)))))
                | (go_region_law (refine step_append_src _ (by rfl) (.tmp 22) (.tmp 24) 27 (by rfl) w1.heap.size 9 j0 _ 1 16 Tryz.underlying27 hj' jw0 jw1 jw2 rfl (by decide) (.slice (some ⟨w1.heap.size, 0, none⟩) 0 0) 0 [] (by rfl) (by exact hoA) (some ⟨b, off, none⟩) 0 0 (([] : List ByteArray).map Value.string) (by rfl) (by simp) (by exact hsrc) (by simp [Value.oneCell']) r1 r2 (by simp) ?_; intro v9 w9 hown9 hgrow9 hrow9; rw [Nat.zero_add, List.nil_append] at hown9; obtain ⟨A6, c6, rfl, _⟩ := own_slice hown9; have k12 := k11a.of (hgrow9.block _ hkla (fun e => by have h7 : w.heap.size = w1.heap.size := Option.some.inj e; omega)); have st := k12.store3 (.string n) (.int .i64 q) (.slice A6 0 c6); have hb9 : Below w1.heap.size w1 w9 := hba.drew.grown hgrow9 (by simp) (fun j hj => by have h7 : w1.heap.size = j := Option.some.inj hj; omega); have x9 := (HZ0.out _ hb9); have HSF := Lib.hid (HZF.out w9 (.string n) (.int .i64 q) (.slice A6 0 c6) x9)))
                | fail
              all_goals (
                have j4 := k12.three (.string n) (.int .i64 q) (.slice A6 0 c6)
                have HFR := Lib.hid (Fr.set3 w9 w.heap.size (.string n) (.int .i64 q) (.slice A6 0 c6))
                have HO9 := Lib.hid hown9
                go_wp2
                refine bodyPost_ret (res_cell2 Tryz.results167 rfl j4 Tryz.underlying50 rfl (by kernel_rfl)) rfl ?_
                have how : Own w9 w1.heap.size (.slice A6 0 c6) [] := by
                  have h9 := HO9.out
                  skip
                  exact h9
                have hoF := own_F how
                have hw9 : Below w.heap.size w w9 := hw1.trans (hb9.mono hw1.size)
                refine ⟨⟨n, q, []⟩, .slice A6 0 c6, _, by rw [hob.out]; exact rfl, kdW.low (kdW.keep hoF HFR.out.size fun x hx => HFR.out.block x (kdW.ge hoF x hx).2 ?_) hw1.size, hrr.out, hw9.trans (HFR.out.below hw9.size (by simp))⟩
                have := (kdW.ge hoF x hx).1
                simp
                omega)
            · have e7 : ((q : Int) == 7) = false := by
                simp
                omega
              have hob : Hid ((ruleO (n :: k :: [])).isSome = true) := Lib.hid (by rw [HRO.out, hkq.out, if_pos ⟨by omega, .inr rfl⟩]; rfl)
              clear h7
              go_region_held3 (fun W' => W'.cell? ⟨b, off, none⟩ = some (.string n))
                (first | exact x0 | exact x0a | exact x9 | exact HSF.out | go_keep)
                (first | (refine step_append_src _ (by rfl) (.tmp 22) (.tmp 24) 27 (by rfl) w1.heap.size 9 j0 _ 1 16 Tryz.underlying27 hj' jw0 jw1 jw2 rfl (by decide) (.slice (some ⟨w1.heap.size, 0, none⟩) 0 0) 0 [] (by rfl) (by exact hoA) (some ⟨b, off, none⟩) 0 0 (([] : List ByteArray).map Value.string) (by rfl) (by simp) (by exact hsrc) (by simp [Value.oneCell']) r1 r2 (by simp) ?_; intro v9 w9 hown9 hgrow9 hrow9; rw [Nat.zero_add, List.nil_append] at hown9; obtain ⟨A6, c6, rfl, _⟩ := own_slice hown9; have k12 := k11a.of (hgrow9.block _ hkla (fun e => by have h7 : w.heap.size = w1.heap.size := Option.some.inj e; omega)); have st := k12.store3 (.string n) (.int .i64 q) (.slice A6 0 c6); have hb9 : Below w1.heap.size w1 w9 := hba.drew.grown hgrow9 (by simp) (fun j hj => by have h7 : w1.heap.size = j := Option.some.inj hj; omega); have x9 := (HZ0.out _ hb9); have HSF := Lib.hid (HZF.out w9 (.string n) (.int .i64 q) (.slice A6 0 c6) x9)))
              have j4 := k12.three (.string n) (.int .i64 q) (.slice A6 0 c6)
              have HFR := Lib.hid (Fr.set3 w9 w.heap.size (.string n) (.int .i64 q) (.slice A6 0 c6))
              have HO9 := Lib.hid hown9
              go_wp2
              refine bodyPost_ret (res_cell2 Tryz.results167 rfl j4 Tryz.underlying50 rfl (by kernel_rfl)) rfl ?_
              have how : Own w9 w1.heap.size (.slice A6 0 c6) [] := by
                have h9 := HO9.out
                skip
                exact h9
              have hoF := own_F how
              have hw9 : Below w.heap.size w w9 := hw1.trans (hb9.mono hw1.size)
              refine ⟨⟨n, q, []⟩, .slice A6 0 c6, _, by rw [hob.out]; exact rfl, kdW.low (kdW.keep hoF HFR.out.size fun x hx => HFR.out.block x (kdW.ge hoF x hx).2 ?_) hw1.size, hrr.out, hw9.trans (HFR.out.below hw9.size (by simp))⟩
              have := (kdW.ge hoF x hx).1
              simp
              omega
          · have hcn : ¬ C = 2 := by have := HC.out; omega
            have hcn2 : ¬ (C : Int) = 2 := by have := HC.out; omega
            obtain ⟨z0, z1, z2, z3⟩ := N3.out
            have hsrc := hsrc0
            have n10 : 0 < N := by have := HN.out; omega
            have n11 : ¬ N = 0 := by have := HN.out; omega
            have n12 : 1 < N := by have := HN.out; omega
            clear hc0 hm1
            by_cases h7 : q = 7
            · have e7 : ((q : Int) == 7) = true := by rw [h7]; rfl
              have H7 := Lib.hid h7
              have hob : Hid ((ruleO (n :: k :: ws)).isSome = true) := Lib.hid (by rw [HRO.out, hkq.out, if_pos ⟨by omega, .inl (by rw [h7]; rfl)⟩]; rfl)
              clear h7
              first
                | (go_region_with (first | (refine step_append_src _ (by rfl) (.tmp 22) (.tmp 24) 27 (by rfl) w1.heap.size 9 j0 _ 1 16 Tryz.underlying27 hj' jw0 jw1 jw2 rfl (by decide) (.slice (some ⟨w1.heap.size, 0, none⟩) 0 0) 0 [] (by rfl) (by exact hoA) (some ⟨b, off + 2, none⟩) m c2 (ws.map Value.string) (by rfl) (by rw [List.length_map, Nat.mul_one]; exact HM.out.symm) (by exact hsrc) (by simp [Value.oneCell']) r1 r2 (by simp) ?_; intro v9 w9 hown9 hgrow9 hrow9; rw [Nat.zero_add, List.nil_append] at hown9; obtain ⟨A6, c6, rfl, _⟩ := own_slice hown9; have k12 := k11a.of (hgrow9.block _ hkla (fun e => by have h7 : w.heap.size = w1.heap.size := Option.some.inj e; omega)); have st := k12.store3 (.string n) (.int .i64 q) (.slice A6 m c6); have hb9 : Below w1.heap.size w1 w9 := hba.drew.grown hgrow9 (by simp) (fun j hj => by have h7 : w1.heap.size = j := Option.some.inj hj; omega); have x9 := (HZ0.out _ hb9); have HSF := Lib.hid (HZF.out w9 (.string n) (.int .i64 q) (.slice A6 m c6) x9))))
                | (go_region_law (first | (go_simp; (refine step_append_src _ (by rfl) (.tmp 22) (.tmp 24) 27 (by rfl) w1.heap.size 9 j0 _ 1 16 Tryz.underlying27 hj' jw0 jw1 jw2 rfl (by decide) (.slice (some ⟨w1.heap.size, 0, none⟩) 0 0) 0 [] (by rfl) (by exact hoA) (some ⟨b, off + 2, none⟩) m c2 (ws.map Value.string) (by rfl) (by rw [List.length_map, Nat.mul_one]; exact HM.out.symm) (by exact hsrc) (by simp [Value.oneCell']) r1 r2 (by simp) ?_; intro v9 w9 hown9 hgrow9 hrow9; rw [Nat.zero_add, List.nil_append] at hown9; obtain ⟨A6, c6, rfl, _⟩ := own_slice hown9; have k12 := k11a.of (hgrow9.block _ hkla (fun e => by have h7 : w.heap.size = w1.heap.size := Option.some.inj e; omega)); have st := k12.store3 (.string n) (.int .i64 q) (.slice A6 m c6); have hb9 : Below w1.heap.size w1 w9 := hba.drew.grown hgrow9 (by simp) (fun j hj => by have h7 : w1.heap.size = j := Option.some.inj hj; omega); have x9 := (HZ0.out _ hb9); have HSF := Lib.hid (HZF.out w9 (.string n) (.int .i64 q) (.slice A6 m c6) x9))) | ((refine step_append_src _ (by rfl) (.tmp 22) (.tmp 24) 27 (by rfl) w1.heap.size 9 j0 _ 1 16 Tryz.underlying27 hj' jw0 jw1 jw2 rfl (by decide) (.slice (some ⟨w1.heap.size, 0, none⟩) 0 0) 0 [] (by rfl) (by exact hoA) (some ⟨b, off + 2, none⟩) m c2 (ws.map Value.string) (by rfl) (by rw [List.length_map, Nat.mul_one]; exact HM.out.symm) (by exact hsrc) (by simp [Value.oneCell']) r1 r2 (by simp) ?_; intro v9 w9 hown9 hgrow9 hrow9; rw [Nat.zero_add, List.nil_append] at hown9; obtain ⟨A6, c6, rfl, _⟩ := own_slice hown9; have k12 := k11a.of (hgrow9.block _ hkla (fun e => by have h7 : w.heap.size = w1.heap.size := Option.some.inj e; omega)); have st := k12.store3 (.string n) (.int .i64 q) (.slice A6 m c6); have hb9 : Below w1.heap.size w1 w9 := hba.drew.grown hgrow9 (by simp) (fun j hj => by have h7 : w1.heap.size = j := Option.some.inj hj; omega); have x9 := (HZ0.out _ hb9); have HSF := Lib.hid (HZF.out w9 (.string n) (.int .i64 q) (.slice A6 m c6) x9)))))
                | (go_region_law (refine step_append_src _ (by rfl) (.tmp 22) (.tmp 24) 27 (by rfl) w1.heap.size 9 j0 _ 1 16 Tryz.underlying27 hj' jw0 jw1 jw2 rfl (by decide) (.slice (some ⟨w1.heap.size, 0, none⟩) 0 0) 0 [] (by rfl) (by exact hoA) (some ⟨b, off + 2, none⟩) m c2 (ws.map Value.string) (by rfl) (by rw [List.length_map, Nat.mul_one]; exact HM.out.symm) (by exact hsrc) (by simp [Value.oneCell']) r1 r2 (by simp) ?_; intro v9 w9 hown9 hgrow9 hrow9; rw [Nat.zero_add, List.nil_append] at hown9; obtain ⟨A6, c6, rfl, _⟩ := own_slice hown9; have k12 := k11a.of (hgrow9.block _ hkla (fun e => by have h7 : w.heap.size = w1.heap.size := Option.some.inj e; omega)); have st := k12.store3 (.string n) (.int .i64 q) (.slice A6 m c6); have hb9 : Below w1.heap.size w1 w9 := hba.drew.grown hgrow9 (by simp) (fun j hj => by have h7 : w1.heap.size = j := Option.some.inj hj; omega); have x9 := (HZ0.out _ hb9); have HSF := Lib.hid (HZF.out w9 (.string n) (.int .i64 q) (.slice A6 m c6) x9)))
                | fail
              all_goals (
                have j4 := k12.three (.string n) (.int .i64 q) (.slice A6 m c6)
                have HFR := Lib.hid (Fr.set3 w9 w.heap.size (.string n) (.int .i64 q) (.slice A6 m c6))
                have HO9 := Lib.hid hown9
                go_wp2
                refine bodyPost_ret (res_cell2 Tryz.results167 rfl j4 Tryz.underlying50 rfl (by kernel_rfl)) rfl ?_
                have how : Own w9 w1.heap.size (.slice A6 m c6) ws := by
                  have h9 := HO9.out
                  rw [HM.out] at h9 ⊢
                  exact h9
                have hoF := own_F how
                have hw9 : Below w.heap.size w w9 := hw1.trans (hb9.mono hw1.size)
                refine ⟨⟨n, q, ws⟩, .slice A6 m c6, _, by rw [hob.out]; exact rfl, kdW.low (kdW.keep hoF HFR.out.size fun x hx => HFR.out.block x (kdW.ge hoF x hx).2 ?_) hw1.size, hrr.out, hw9.trans (HFR.out.below hw9.size (by simp))⟩
                have := (kdW.ge hoF x hx).1
                simp
                omega)
            · have e7 : ((q : Int) == 7) = false := by
                simp
                omega
              by_cases hm0 : m = 0
              · have b1 : ((N : Int) == 2) = true := by
                  have := HN.out
                  simp
                  omega
                have hob : Hid ((ruleO (n :: k :: ws)).isSome = true) := Lib.hid (by
                  have hws : ws = [] := List.eq_nil_of_length_eq_zero (by have := HM.out; omega)
                  rw [HRO.out, hkq.out, if_pos ⟨by omega, .inr hws⟩]; rfl)
                clear h7 hm0
                go_region_held3 (fun W' => W'.cell? ⟨b, off, none⟩ = some (.string n))
                  (first | exact x0 | exact x0a | exact x9 | exact HSF.out | go_keep)
                  (first | (refine step_append_src _ (by rfl) (.tmp 22) (.tmp 24) 27 (by rfl) w1.heap.size 9 j0 _ 1 16 Tryz.underlying27 hj' jw0 jw1 jw2 rfl (by decide) (.slice (some ⟨w1.heap.size, 0, none⟩) 0 0) 0 [] (by rfl) (by exact hoA) (some ⟨b, off + 2, none⟩) m c2 (ws.map Value.string) (by rfl) (by rw [List.length_map, Nat.mul_one]; exact HM.out.symm) (by exact hsrc) (by simp [Value.oneCell']) r1 r2 (by simp) ?_; intro v9 w9 hown9 hgrow9 hrow9; rw [Nat.zero_add, List.nil_append] at hown9; obtain ⟨A6, c6, rfl, _⟩ := own_slice hown9; have k12 := k11a.of (hgrow9.block _ hkla (fun e => by have h7 : w.heap.size = w1.heap.size := Option.some.inj e; omega)); have st := k12.store3 (.string n) (.int .i64 q) (.slice A6 m c6); have hb9 : Below w1.heap.size w1 w9 := hba.drew.grown hgrow9 (by simp) (fun j hj => by have h7 : w1.heap.size = j := Option.some.inj hj; omega); have x9 := (HZ0.out _ hb9); have HSF := Lib.hid (HZF.out w9 (.string n) (.int .i64 q) (.slice A6 m c6) x9)))
                all_goals (
                  have j4 := k12.three (.string n) (.int .i64 q) (.slice A6 m c6)
                  have HFR := Lib.hid (Fr.set3 w9 w.heap.size (.string n) (.int .i64 q) (.slice A6 m c6))
                  have HO9 := Lib.hid hown9
                  go_wp2
                  refine bodyPost_ret (res_cell2 Tryz.results167 rfl j4 Tryz.underlying50 rfl (by kernel_rfl)) rfl ?_
                  have how : Own w9 w1.heap.size (.slice A6 m c6) ws := by
                    have h9 := HO9.out
                    rw [HM.out] at h9 ⊢
                    exact h9
                  have hoF := own_F how
                  have hw9 : Below w.heap.size w w9 := hw1.trans (hb9.mono hw1.size)
                  refine ⟨⟨n, q, ws⟩, .slice A6 m c6, _, by rw [hob.out]; exact rfl, kdW.low (kdW.keep hoF HFR.out.size fun x hx => HFR.out.block x (kdW.ge hoF x hx).2 ?_) hw1.size, hrr.out, hw9.trans (HFR.out.below hw9.size (by simp))⟩
                  have := (kdW.ge hoF x hx).1
                  simp
                  omega)
              · have b1 : ((N : Int) == 2) = false := by
                  have := HN.out
                  simp
                  omega
                have hob : Hid ((ruleO (n :: k :: ws)).isSome = false) := Lib.hid (by
                  have hws : ws ≠ [] := fun e => hm0 (by rw [HM.out, e]; rfl)
                  rw [HRO.out, hkq.out, if_neg (fun h => h.2.elim (fun h => by omega) hws)]; rfl)
                clear h7 hm0
                go_region_held3 (fun W' => W'.cell? ⟨b, off, none⟩ = some (.string n))
                  (first | exact x0 | exact x0a | exact x9 | exact HSF.out | go_keep)
                  (first | (refine step_append_src _ (by rfl) (.tmp 22) (.tmp 24) 27 (by rfl) w1.heap.size 9 j0 _ 1 16 Tryz.underlying27 hj' jw0 jw1 jw2 rfl (by decide) (.slice (some ⟨w1.heap.size, 0, none⟩) 0 0) 0 [] (by rfl) (by exact hoA) (some ⟨b, off + 2, none⟩) m c2 (ws.map Value.string) (by rfl) (by rw [List.length_map, Nat.mul_one]; exact HM.out.symm) (by exact hsrc) (by simp [Value.oneCell']) r1 r2 (by simp) ?_; intro v9 w9 hown9 hgrow9 hrow9; rw [Nat.zero_add, List.nil_append] at hown9; obtain ⟨A6, c6, rfl, _⟩ := own_slice hown9; have k12 := k11a.of (hgrow9.block _ hkla (fun e => by have h7 : w.heap.size = w1.heap.size := Option.some.inj e; omega)); have st := k12.store3 (.string n) (.int .i64 q) (.slice A6 m c6); have hb9 : Below w1.heap.size w1 w9 := hba.drew.grown hgrow9 (by simp) (fun j hj => by have h7 : w1.heap.size = j := Option.some.inj hj; omega); have x9 := (HZ0.out _ hb9); have HSF := Lib.hid (HZF.out w9 (.string n) (.int .i64 q) (.slice A6 m c6) x9)))
                all_goals (
                  have j4 := k12.three (.string n) (.int .i64 q) (.slice A6 m c6)
                  have HFR := Lib.hid (Fr.set3 w9 w.heap.size (.string n) (.int .i64 q) (.slice A6 m c6))
                  have HO9 := Lib.hid hown9
                  go_wp2
                  refine bodyPost_ret (res_cell2 Tryz.results167 rfl j4 Tryz.underlying50 rfl (by kernel_rfl)) rfl ?_
                  have how : Own w9 w1.heap.size (.slice A6 m c6) ws := by
                    have h9 := HO9.out
                    rw [HM.out] at h9 ⊢
                    exact h9
                  have hoF := own_F how
                  have hw9 : Below w.heap.size w w9 := hw1.trans (hb9.mono hw1.size)
                  refine ⟨⟨n, q, ws⟩, .slice A6 m c6, _, by rw [hob.out]; exact rfl, kdW.low (kdW.keep hoF HFR.out.size fun x hx => HFR.out.block x (kdW.ge hoF x hx).2 ?_) hw1.size, hrr.out, hw9.trans (HFR.out.below hw9.size (by simp))⟩
                  have := (kdW.ge hoF x hx).1
                  simp
                  omega)
        · have q1 := toList_ne_of he
          have hnx2 : Hid (∀ j (hj : j < 9), j < q + 1 → kindsL[j]'(by rw [kinds_len]; exact hj) ≠ k) := Lib.hid (fun j hj hjq => by
            by_cases e : j = q
            · subst e; rw [← HKQ.out]; exact fun e => he e.symm
            · exact hne.out j hj (by omega))
          clear he
          go_region_held3 (fun W' => W'.cell? ⟨b, off + 1, none⟩ = some (.string k))
            (first | exact y1 | exact HS.out)
            (first | (go_at_call 135; refine (HK2.out _).mono ?_; rintro e w1 ⟨rfl, hb1⟩; have h1 : Below wr.heap.size wr w1 := hd0.trans hb1; have HS := Lib.hid (HY.out _ h1)))
          go_wp2
          go_roundw
          case rel => exact ⟨q + 1, by omega, by go_num, hnx2, hnx.trans (h1.mono hzr)⟩
          case measure => simp [intOf] <;> omega
      · obtain rfl : q = 9 := by omega
        have hob : Hid (ruleO (n :: k :: ws) = none) := Lib.hid (by
          rw [HRO.out, kindZ_miss (fun j hj => hne.out j hj hj), if_neg (fun h => absurd h.1 (by decide))])
        have k11 := k1.below hnx
        obtain ⟨s0, s1, s2, s3, s4, s5⟩ := k11.store3 (.string ⟨#[]⟩) (.int .i64 0) (.slice none 0 0)
        have j4 := k11.three (.string ⟨#[]⟩) (.int .i64 0) (.slice none 0 0)
        have HFR := Lib.hid (Fr.set3 wr w.heap.size (.string ⟨#[]⟩) (.int .i64 0) (.slice none 0 0))
        have hw2 : Below w.heap.size w wr := hb0.trans (hnx.mono hz0)
        go_wp2
        refine bodyPost_ret (res_cell2 Tryz.results167 rfl j4 Tryz.underlying50 rfl (by kernel_rfl)) rfl ?_
        exact ⟨ru0, .slice none 0 0, [], by rw [hob.out]; exact rfl, ⟨World.ownsRow_nil _ _ _ _, rfl⟩, fun r' h => (by rw [hob.out] at h; cases h), hw2.trans (HFR.out.below hw2.size (by simp))⟩
end Go.Proofs.YteikagdinecfoaaGreatDoor.Pi
