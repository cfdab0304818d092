/- A rule in a policy's text: the reference's ruleIn. -/
import Derived.Test.YtjhimmljanbjcaaGreatDoorPo
import Derived.Deep.RegionHeld3
import Derived.Test.YtjhimmljanbjcaaGreatDoorSp
set_option linter.unusedVariables false
set_option linter.unusedSimpArgs false
namespace Go.Proofs.YtjhimmljanbjcaaGreatDoor.Pi
open Go.RowKit Lb Gr Pd Fl Go.Proofs.YtjhimmljanbjcaaGreatDoor.Pm Bk Is Ea Lc Go.Proofs.YtjhimmljanbjcaaGreatDoor.Sl Go.Proofs.YtjhimmljanbjcaaGreatDoor.Ck Go.Proofs.YtjhimmljanbjcaaGreatDoor.Ow Go.Proofs.YtjhimmljanbjcaaGreatDoor.Rz Go.Proofs.YtjhimmljanbjcaaGreatDoor.Tr Pt Pn Po
attribute [local go_sem ↓] Go.wp_at_zero Go.wp_at_succ

theorem kindZ_hit {s : ByteArray} {i : Nat} (hi : i < 9) (h : kindsL[i]'(by rw [kinds_len]; exact hi) = s) (hne : ∀ j (hj : j < 9), j < i → kindsL[j]'(by rw [kinds_len]; exact hj) ≠ s) : kindZ s = i := by
  unfold kindZ
  have h1 := Go.Lib.idxOfS_hit kindsL 9 i s hi (by decide) (by rw [List.getD_eq_getElem?_getD, List.getElem?_eq_getElem (by rw [kinds_len]; exact hi), Option.getD_some]; exact h) (fun j hj => by
    rw [List.getD_eq_getElem?_getD, List.getElem?_eq_getElem (by rw [kinds_len]; omega), Option.getD_some]; exact hne j (by omega) hj)
  rw [show kindsL.take 9 = kindsL from rfl] at h1
  exact h1
theorem kindZ_miss {s : ByteArray} (hne : ∀ j (hj : j < 9), kindsL[j]'(by rw [kinds_len]; exact hj) ≠ s) : kindZ s = -1 := by
  unfold kindZ
  have h1 := Go.Lib.idxOfS_miss kindsL 9 s (fun j hj => by
    rw [List.getD_eq_getElem?_getD, List.getElem?_eq_getElem (by rw [kinds_len]; omega), Option.getD_some]; exact hne j hj)
  rw [show kindsL.take 9 = kindsL from rfl] at h1
  exact h1

set_option maxHeartbeats 4000000 in
set_option maxRecDepth 100000 in
theorem ruleInC (l : List ByteArray) (v : Value) (w : World) (h : kdW.rd w 0 w.heap.size v l) (hl : l.length * 16 ≤ 140737488355328) : Calls Tryz.prog 160 #[v] w (RuOf l w) := by
  obtain ⟨j0, hj', jw0, jw1, jw2⟩ := info_parts infoStr
  obtain ⟨A, c, rfl, hc1, hc2⟩ := rdW_form h
  have k1 : Bl (w.alloc (.cells #[.string ByteArray.empty, .int .i64 0, .slice none 0 0] 50)) w.heap.size 50 [.string ByteArray.empty, .int .i64 0, .slice none 0 0] := Bl.new w _ _ rfl
  have hb0 : Below w.heap.size w (w.alloc (.cells #[.string ByteArray.empty, .int .i64 0, .slice none 0 0] 50)) := (Below.refl _ _).alloc (Nat.le_refl _) _
  match l, h, hl, hc1 with
  | [], h, hl, hc1 =>
    go_enter Tryz.func160, Tryz.ntmps160
    go_wp2
    refine bodyPost_ret (res_cell2 Tryz.results160 rfl k1 Tryz.underlying50 rfl (by kernel_rfl)) rfl ?_
    exact ⟨ru0, .slice none 0 0, [], rfl, ⟨World.ownsRow_nil _ _ _ _, rfl⟩, fun r' h => (by cases h), hb0⟩
  | [n], h, hl, hc1 =>
    go_enter Tryz.func160, Tryz.ntmps160
    go_wp2
    refine bodyPost_ret (res_cell2 Tryz.results160 rfl k1 Tryz.underlying50 rfl (by kernel_rfl)) rfl ?_
    exact ⟨ru0, .slice none 0 0, [], rfl, ⟨World.ownsRow_nil _ _ _ _, rfl⟩, fun r' h => (by cases h), hb0⟩
  | n :: k :: ws, h, hl, hc1 =>
    obtain ⟨b, off, rfl, _, hb2, hx0⟩ := rdW_at h (i := 0) (by simp)
    obtain ⟨b', off', hA', _, _, hx1⟩ := rdW_at h (i := 1) (by simp)
    injection hA' with hA'
    injection hA' with e1 e2
    subst e1 e2
    have hx0' : w.cell? ⟨b, off, none⟩ = some (.string n) := by simpa using hx0
    have hx1' : w.cell? ⟨b, off + 1, none⟩ = some (.string k) := by simpa using hx1
    obtain ⟨m, hm⟩ : ∃ m, m = ws.length := ⟨_, rfl⟩
    obtain ⟨c2, rfl⟩ : ∃ c2, c = c2 + 2 := ⟨c - 2, by simp at hc1; omega⟩
    have hmc : m ≤ c2 := by simp at hc1; omega
    have hl2 : m * 16 ≤ 140737488355328 := by simp at hl; omega
    have hlen : (n :: k :: ws).length = m + 2 := by simp [hm]
    have hmm : maxLen = 9223372036854775807 := rfl
    have hDR : Hid (∀ W, Below w.heap.size w W → kdW.rd W 0 w.heap.size (.slice (some ⟨b, off + 2, none⟩) m c2) ws) := Lib.hid fun W hW => by
      have h1 := rdW_drop (rd_below h hW (Nat.le_refl _)) (k := 2) (by simp)
      rw [hlen] at h1
      exact h1
    have HM := Lib.hid hm
    have HRO : Hid (ruleO (n :: k :: ws) = if 0 ≤ kindZ k ∧ (kindZ k = 7 ∨ ws = []) then some ⟨n, kindZ k, ws⟩ else none) := Lib.hid rfl
    rw [hlen]
    obtain ⟨N, hN⟩ : ∃ N, N = m + 2 := ⟨_, rfl⟩
    obtain ⟨C, hC⟩ : ∃ C, C = c2 + 2 := ⟨_, rfl⟩
    rw [← hN, ← hC]
    have n1 : (2 : Int) ≤ (N : Int) := by omega
    have n2 : (N : Int) ≤ (C : Int) := by omega
    have n7 : (C : Int) ≤ 9223372036854775807 := by omega
    have n8 : (1 : Int) < (N : Int) := by omega
    have n9 : (0 : Int) < (N : Int) := by omega
    have N3 : Hid (((N : Int) - 2).toNat = m ∧ ((C : Int) - 2).toNat = c2 ∧ N - 2 = m ∧ C - 2 = c2) := Lib.hid ⟨by omega, by omega, by omega, by omega⟩
    have HN := Lib.hid hN
    have HC := Lib.hid hC
    obtain ⟨W0, hW0⟩ : ∃ W, W = w.alloc (.cells #[.string ⟨#[]⟩, .int .i64 0, .slice none 0 0] 50) := ⟨_, rfl⟩
    have k1 : Bl W0 w.heap.size 50 [.string ⟨#[]⟩, .int .i64 0, .slice none 0 0] := hW0 ▸ Bl.new w _ _ rfl
    have hb0 : Below w.heap.size w W0 := hW0 ▸ (Below.refl _ _).alloc (Nat.le_refl _) _
    have hz0 := hb0.size
    have HW0 : Hid (∀ W, Below W0.heap.size W0 W → W.cell? ⟨b, off, none⟩ = some (.string n) ∧ W.cell? ⟨b, off + 1, none⟩ = some (.string k)) := Lib.hid fun W hW => by
      have h9 : Below w.heap.size w W := hb0.trans (hW.mono hz0)
      exact ⟨(h9.cell (p := ⟨b, off, none⟩) hb2).trans hx0', (h9.cell (p := ⟨b, off + 1, none⟩) hb2).trans hx1'⟩
    have HKN : Hid (∀ (i : Nat) (hi : i < 9) W, Calls Tryz.prog 127 #[.int .i64 (i : Int)] W fun e w' => e = .returned (.string (kindsL[i]'(by rw [kinds_len]; exact hi))) ∧ Below W.heap.size W w') := Lib.hid fun i hi W => rKindC i hi W
    have HX0 := Lib.hid hW0
    clear h hx0 hx1 hx0' hx1' hm hlen hW0 hmm hc1 hc2 hl hN hC
    go_enter Tryz.func160, Tryz.ntmps160
    go_upto_region 3 with fail
    rw [← HX0.out]
    have hq0 := Below.refl W0.heap.size W0
    go_wp2
    go_loopw [9] (fun i wr => ∃ q : Nat, q ≤ 9 ∧ i = .int .i64 q ∧ Hid (∀ j (hj : j < 9), j < q → kindsL[j]'(by rw [kinds_len]; exact hj) ≠ k) ∧ Below W0.heap.size W0 wr) (fun i _ => 9 - (intOf i).toNat)
    case atStart => exact ⟨0, by omega, rfl, Lib.hid (fun j hj h => by omega), hq0⟩
    case round =>
      obtain ⟨q, hq, rfl, hne, hnx⟩ := hrel
      have hzr := hnx.size
      by_cases hlt : q < 9
      · obtain ⟨y0, y1⟩ := HW0.out _ hnx
        have hd0 : Below wr.heap.size wr wr.drew := drw wr 1
        have HK1 := HKN.out q hlt
        obtain ⟨kn, hkn⟩ : ∃ kn, kn = kindsL[q]'(by rw [kinds_len]; exact hlt) := ⟨_, rfl⟩
        rw [← hkn] at HK1
        have HK2 := Lib.hid HK1
        have HKQ := Lib.hid hkn
        have hq1 : (0 : Int) ≤ (q : Int) := by omega
        have hq2 : (q : Int) < 9 := by omega
        clear HK1 hkn
        go_upto_region 6 with fail
        have HY : Hid (∀ W, Below wr.heap.size wr W → W.cell? ⟨b, off + 1, none⟩ = some (.string k)) := Lib.hid fun W hW => (HW0.out _ (hnx.trans (hW.mono hzr))).2
        by_cases he : k = kn
        · have q1 := toList_eq_of he
          have HE := Lib.hid he
          clear he
          go_region_held3 (fun W' => W'.cell? ⟨b, off + 1, none⟩ = some (.string k))
            (first | exact y1 | exact HS.out)
            (first | (go_at_call 127; refine (HK2.out _).mono ?_; rintro e w1 ⟨rfl, hb1⟩; have h1 : Below wr.heap.size wr w1 := hd0.trans hb1; have HS := Lib.hid (HY.out _ h1)))
          have hw1 : Below w.heap.size w w1 := hb0.trans ((hnx.trans (h1.mono hzr)).mono hz0)
          have h01 : Below W0.heap.size W0 w1 := hnx.trans (h1.mono hzr)
          have x0 := (HW0.out _ h01).1
          have hba : Below w1.heap.size w1 (w1.alloc (.cells #[] 9)) := (Below.refl _ _).alloc (Nat.le_refl _) _
          have HZ0 : Hid (∀ W, Below w1.heap.size w1 W → W.cell? ⟨b, off, none⟩ = some (.string n)) := Lib.hid fun W hW => (HW0.out _ (h01.trans (hW.mono h01.size))).1
          have x0a := HZ0.out _ hba
          have HZF : Hid (∀ (W : World) u0 u1 u2, W.cell? ⟨b, off, none⟩ = some (.string n) → (((W.setCell ⟨w.heap.size, 0, none⟩ u0).setCell ⟨w.heap.size, 1, none⟩ u1).setCell ⟨w.heap.size, 2, none⟩ u2).cell? ⟨b, off, none⟩ = some (.string n)) := Lib.hid fun W u0 u1 u2 hW => by
            rw [World.cell?_of_block (a := ⟨b, off, none⟩) (w := W) (Fr.block (Fr.set3 W w.heap.size u0 u1 u2) b (World.block_lt_of_cell? (a := ⟨b, off, none⟩) _ hW) (by simp; omega))]
            exact hW
          have hoA := own_empty w1 w1.heap.size rfl
          have k11 := k1.below h01
          have k11a := k11.alloc (.cells #[] 9)
          have hkla := k11a.lt
          have hklw := k11.lt
          have hm1 := HM.out
          have r1 : 0 + m ≤ maxLen := by unfold maxLen; omega
          have r2 : (0 + m) * 16 ≤ 140737488355328 := by omega
          have hkq : Hid (kindZ k = (q : Int)) := Lib.hid (kindZ_hit hlt (by rw [← HKQ.out, HE.out]) (fun j hj hjq => hne.out j hj hjq))
          have hrr : Hid (∀ r', ruleO (n :: k :: ws) = some r' → (⟨n, q, ws⟩ : RuleD) = r') := Lib.hid (fun r' hr => by
            rw [HRO.out, hkq.out] at hr
            split at hr
            · exact Option.some.inj hr
            · cases hr)
          have hsrc0 := rd_src (hDR.out _ (hw1.trans (hba.mono hw1.size)))
          go_upto_region 7 with fail
          clear y0 y1 q1
          by_cases hc0 : c2 = 0
          · have hws : ws = [] := List.eq_nil_of_length_eq_zero (by omega)
            subst hws
            have hm00 : m = 0 := by simpa using hm1
            subst hc0 hm00
            have hN2 : N = 2 := HN.out
            have hC2 : C = 2 := HC.out
            have hsrc : 0 < (([] : List ByteArray).map Value.string).length → ∃ b' off', (some ⟨b, off, none⟩ : Option Addr) = some ⟨b', off', none⟩ ∧ ∀ j u, (([] : List ByteArray).map Value.string)[j]? = some u → (w1.alloc (.cells #[] 9)).cell? ⟨b', off' + j, none⟩ = some u := fun h => by simp at h
            clear n1 n2 n7 n8 n9 hm1
            subst hN2 hC2
            by_cases h7 : q = 7
            · have e7 : ((q : Int) == 7) = true := by rw [h7]; rfl
              have H7 := Lib.hid h7
              have hob : Hid ((ruleO (n :: k :: [])).isSome = true) := Lib.hid (by rw [HRO.out, hkq.out, if_pos ⟨by omega, .inl (by rw [h7]; rfl)⟩]; rfl)
              clear h7
              first
                | (go_region_with (first | (refine step_append_src _ (by rfl) (.tmp 22) (.tmp 24) 24 (by rfl) w1.heap.size 9 j0 _ 1 16 Tryz.underlying24 hj' jw0 jw1 jw2 rfl (by decide) (.slice (some ⟨w1.heap.size, 0, none⟩) 0 0) 0 [] (by rfl) (by exact hoA) (some ⟨b, off, none⟩) 0 0 (([] : List ByteArray).map Value.string) (by rfl) (by simp) (by exact hsrc) (by simp [Value.oneCell']) r1 r2 (by simp) ?_; intro v9 w9 hown9 hgrow9 hrow9; rw [Nat.zero_add, List.nil_append] at hown9; obtain ⟨A6, c6, rfl, _⟩ := own_slice hown9; have k12 := k11a.of (hgrow9.block _ hkla (fun e => by have h7 : w.heap.size = w1.heap.size := Option.some.inj e; omega)); have st := k12.store3 (.string n) (.int .i64 q) (.slice A6 0 c6); have hb9 : Below w1.heap.size w1 w9 := hba.drew.grown hgrow9 (by simp) (fun j hj => by have h7 : w1.heap.size = j := Option.some.inj hj; omega); have x9 := (HZ0.out _ hb9); have HSF := Lib.hid (HZF.out w9 (.string n) (.int .i64 q) (.slice A6 0 c6) x9))))
                | (go_region_law (first | (go_simp; (refine step_append_src _ (by rfl) (.tmp 22) (.tmp 24) 24 (by rfl) w1.heap.size 9 j0 _ 1 16 Tryz.underlying24 hj' jw0 jw1 jw2 rfl (by decide) (.slice (some ⟨w1.heap.size, 0, none⟩) 0 0) 0 [] (by rfl) (by exact hoA) (some ⟨b, off, none⟩) 0 0 (([] : List ByteArray).map Value.string) (by rfl) (by simp) (by exact hsrc) (by simp [Value.oneCell']) r1 r2 (by simp) ?_; intro v9 w9 hown9 hgrow9 hrow9; rw [Nat.zero_add, List.nil_append] at hown9; obtain ⟨A6, c6, rfl, _⟩ := own_slice hown9; have k12 := k11a.of (hgrow9.block _ hkla (fun e => by have h7 : w.heap.size = w1.heap.size := Option.some.inj e; omega)); have st := k12.store3 (.string n) (.int .i64 q) (.slice A6 0 c6); have hb9 : Below w1.heap.size w1 w9 := hba.drew.grown hgrow9 (by simp) (fun j hj => by have h7 : w1.heap.size = j := Option.some.inj hj; omega); have x9 := (HZ0.out _ hb9); have HSF := Lib.hid (HZF.out w9 (.string n) (.int .i64 q) (.slice A6 0 c6) x9))) | ((refine step_append_src _ (by rfl) (.tmp 22) (.tmp 24) 24 (by rfl) w1.heap.size 9 j0 _ 1 16 Tryz.underlying24 hj' jw0 jw1 jw2 rfl (by decide) (.slice (some ⟨w1.heap.size, 0, none⟩) 0 0) 0 [] (by rfl) (by exact hoA) (some ⟨b, off, none⟩) 0 0 (([] : List ByteArray).map Value.string) (by rfl) (by simp) (by exact hsrc) (by simp [Value.oneCell']) r1 r2 (by simp) ?_; intro v9 w9 hown9 hgrow9 hrow9; rw [Nat.zero_add, List.nil_append] at hown9; obtain ⟨A6, c6, rfl, _⟩ := own_slice hown9; have k12 := k11a.of (hgrow9.block _ hkla (fun e => by have h7 : w.heap.size = w1.heap.size := Option.some.inj e; omega)); have st := k12.store3 (.string n) (.int .i64 q) (.slice A6 0 c6); have hb9 : Below w1.heap.size w1 w9 := hba.drew.grown hgrow9 (by simp) (fun j hj => by have h7 : w1.heap.size = j := Option.some.inj hj; omega); have x9 := (HZ0.out _ hb9); have HSF := Lib.hid (HZF.out w9 (.string n) (.int .i64 q) (.slice A6 0 c6) x9)))))
                | (go_region_law (refine step_append_src _ (by rfl) (.tmp 22) (.tmp 24) 24 (by rfl) w1.heap.size 9 j0 _ 1 16 Tryz.underlying24 hj' jw0 jw1 jw2 rfl (by decide) (.slice (some ⟨w1.heap.size, 0, none⟩) 0 0) 0 [] (by rfl) (by exact hoA) (some ⟨b, off, none⟩) 0 0 (([] : List ByteArray).map Value.string) (by rfl) (by simp) (by exact hsrc) (by simp [Value.oneCell']) r1 r2 (by simp) ?_; intro v9 w9 hown9 hgrow9 hrow9; rw [Nat.zero_add, List.nil_append] at hown9; obtain ⟨A6, c6, rfl, _⟩ := own_slice hown9; have k12 := k11a.of (hgrow9.block _ hkla (fun e => by have h7 : w.heap.size = w1.heap.size := Option.some.inj e; omega)); have st := k12.store3 (.string n) (.int .i64 q) (.slice A6 0 c6); have hb9 : Below w1.heap.size w1 w9 := hba.drew.grown hgrow9 (by simp) (fun j hj => by have h7 : w1.heap.size = j := Option.some.inj hj; omega); have x9 := (HZ0.out _ hb9); have HSF := Lib.hid (HZF.out w9 (.string n) (.int .i64 q) (.slice A6 0 c6) x9)))
                | fail
              all_goals (
                have j4 := k12.three (.string n) (.int .i64 q) (.slice A6 0 c6)
                have HFR := Lib.hid (Fr.set3 w9 w.heap.size (.string n) (.int .i64 q) (.slice A6 0 c6))
                have HO9 := Lib.hid hown9
                go_wp2
                refine bodyPost_ret (res_cell2 Tryz.results160 rfl j4 Tryz.underlying50 rfl (by kernel_rfl)) rfl ?_
                have how : Own w9 w1.heap.size (.slice A6 0 c6) [] := by
                  have h9 := HO9.out
                  skip
                  exact h9
                have hoF := own_F how
                have hw9 : Below w.heap.size w w9 := hw1.trans (hb9.mono hw1.size)
                refine ⟨⟨n, q, []⟩, .slice A6 0 c6, _, by rw [hob.out]; exact rfl, kdW.low (kdW.keep hoF HFR.out.size fun x hx => HFR.out.block x (kdW.ge hoF x hx).2 ?_) hw1.size, hrr.out, hw9.trans (HFR.out.below hw9.size (by simp))⟩
                have := (kdW.ge hoF x hx).1
                simp
                omega)
            · have e7 : ((q : Int) == 7) = false := by
                simp
                omega
              have hob : Hid ((ruleO (n :: k :: [])).isSome = true) := Lib.hid (by rw [HRO.out, hkq.out, if_pos ⟨by omega, .inr rfl⟩]; rfl)
              clear h7
              go_region_held3 (fun W' => W'.cell? ⟨b, off, none⟩ = some (.string n))
                (first | exact x0 | exact x0a | exact x9 | exact HSF.out | go_keep)
                (first | (refine step_append_src _ (by rfl) (.tmp 22) (.tmp 24) 24 (by rfl) w1.heap.size 9 j0 _ 1 16 Tryz.underlying24 hj' jw0 jw1 jw2 rfl (by decide) (.slice (some ⟨w1.heap.size, 0, none⟩) 0 0) 0 [] (by rfl) (by exact hoA) (some ⟨b, off, none⟩) 0 0 (([] : List ByteArray).map Value.string) (by rfl) (by simp) (by exact hsrc) (by simp [Value.oneCell']) r1 r2 (by simp) ?_; intro v9 w9 hown9 hgrow9 hrow9; rw [Nat.zero_add, List.nil_append] at hown9; obtain ⟨A6, c6, rfl, _⟩ := own_slice hown9; have k12 := k11a.of (hgrow9.block _ hkla (fun e => by have h7 : w.heap.size = w1.heap.size := Option.some.inj e; omega)); have st := k12.store3 (.string n) (.int .i64 q) (.slice A6 0 c6); have hb9 : Below w1.heap.size w1 w9 := hba.drew.grown hgrow9 (by simp) (fun j hj => by have h7 : w1.heap.size = j := Option.some.inj hj; omega); have x9 := (HZ0.out _ hb9); have HSF := Lib.hid (HZF.out w9 (.string n) (.int .i64 q) (.slice A6 0 c6) x9)))
              have j4 := k12.three (.string n) (.int .i64 q) (.slice A6 0 c6)
              have HFR := Lib.hid (Fr.set3 w9 w.heap.size (.string n) (.int .i64 q) (.slice A6 0 c6))
              have HO9 := Lib.hid hown9
              go_wp2
              refine bodyPost_ret (res_cell2 Tryz.results160 rfl j4 Tryz.underlying50 rfl (by kernel_rfl)) rfl ?_
              have how : Own w9 w1.heap.size (.slice A6 0 c6) [] := by
                have h9 := HO9.out
                skip
                exact h9
              have hoF := own_F how
              have hw9 : Below w.heap.size w w9 := hw1.trans (hb9.mono hw1.size)
              refine ⟨⟨n, q, []⟩, .slice A6 0 c6, _, by rw [hob.out]; exact rfl, kdW.low (kdW.keep hoF HFR.out.size fun x hx => HFR.out.block x (kdW.ge hoF x hx).2 ?_) hw1.size, hrr.out, hw9.trans (HFR.out.below hw9.size (by simp))⟩
              have := (kdW.ge hoF x hx).1
              simp
              omega
          · have hcn : ¬ C = 2 := by have := HC.out; omega
            have hcn2 : ¬ (C : Int) = 2 := by have := HC.out; omega
            obtain ⟨z0, z1, z2, z3⟩ := N3.out
            have hsrc := hsrc0
            have n10 : 0 < N := by have := HN.out; omega
            have n11 : ¬ N = 0 := by have := HN.out; omega
            have n12 : 1 < N := by have := HN.out; omega
            clear hc0 hm1
            by_cases h7 : q = 7
            · have e7 : ((q : Int) == 7) = true := by rw [h7]; rfl
              have H7 := Lib.hid h7
              have hob : Hid ((ruleO (n :: k :: ws)).isSome = true) := Lib.hid (by rw [HRO.out, hkq.out, if_pos ⟨by omega, .inl (by rw [h7]; rfl)⟩]; rfl)
              clear h7
              first
                | (go_region_with (first | (refine step_append_src _ (by rfl) (.tmp 22) (.tmp 24) 24 (by rfl) w1.heap.size 9 j0 _ 1 16 Tryz.underlying24 hj' jw0 jw1 jw2 rfl (by decide) (.slice (some ⟨w1.heap.size, 0, none⟩) 0 0) 0 [] (by rfl) (by exact hoA) (some ⟨b, off + 2, none⟩) m c2 (ws.map Value.string) (by rfl) (by rw [List.length_map, Nat.mul_one]; exact HM.out.symm) (by exact hsrc) (by simp [Value.oneCell']) r1 r2 (by simp) ?_; intro v9 w9 hown9 hgrow9 hrow9; rw [Nat.zero_add, List.nil_append] at hown9; obtain ⟨A6, c6, rfl, _⟩ := own_slice hown9; have k12 := k11a.of (hgrow9.block _ hkla (fun e => by have h7 : w.heap.size = w1.heap.size := Option.some.inj e; omega)); have st := k12.store3 (.string n) (.int .i64 q) (.slice A6 m c6); have hb9 : Below w1.heap.size w1 w9 := hba.drew.grown hgrow9 (by simp) (fun j hj => by have h7 : w1.heap.size = j := Option.some.inj hj; omega); have x9 := (HZ0.out _ hb9); have HSF := Lib.hid (HZF.out w9 (.string n) (.int .i64 q) (.slice A6 m c6) x9))))
                | (go_region_law (first | (go_simp; (refine step_append_src _ (by rfl) (.tmp 22) (.tmp 24) 24 (by rfl) w1.heap.size 9 j0 _ 1 16 Tryz.underlying24 hj' jw0 jw1 jw2 rfl (by decide) (.slice (some ⟨w1.heap.size, 0, none⟩) 0 0) 0 [] (by rfl) (by exact hoA) (some ⟨b, off + 2, none⟩) m c2 (ws.map Value.string) (by rfl) (by rw [List.length_map, Nat.mul_one]; exact HM.out.symm) (by exact hsrc) (by simp [Value.oneCell']) r1 r2 (by simp) ?_; intro v9 w9 hown9 hgrow9 hrow9; rw [Nat.zero_add, List.nil_append] at hown9; obtain ⟨A6, c6, rfl, _⟩ := own_slice hown9; have k12 := k11a.of (hgrow9.block _ hkla (fun e => by have h7 : w.heap.size = w1.heap.size := Option.some.inj e; omega)); have st := k12.store3 (.string n) (.int .i64 q) (.slice A6 m c6); have hb9 : Below w1.heap.size w1 w9 := hba.drew.grown hgrow9 (by simp) (fun j hj => by have h7 : w1.heap.size = j := Option.some.inj hj; omega); have x9 := (HZ0.out _ hb9); have HSF := Lib.hid (HZF.out w9 (.string n) (.int .i64 q) (.slice A6 m c6) x9))) | ((refine step_append_src _ (by rfl) (.tmp 22) (.tmp 24) 24 (by rfl) w1.heap.size 9 j0 _ 1 16 Tryz.underlying24 hj' jw0 jw1 jw2 rfl (by decide) (.slice (some ⟨w1.heap.size, 0, none⟩) 0 0) 0 [] (by rfl) (by exact hoA) (some ⟨b, off + 2, none⟩) m c2 (ws.map Value.string) (by rfl) (by rw [List.length_map, Nat.mul_one]; exact HM.out.symm) (by exact hsrc) (by simp [Value.oneCell']) r1 r2 (by simp) ?_; intro v9 w9 hown9 hgrow9 hrow9; rw [Nat.zero_add, List.nil_append] at hown9; obtain ⟨A6, c6, rfl, _⟩ := own_slice hown9; have k12 := k11a.of (hgrow9.block _ hkla (fun e => by have h7 : w.heap.size = w1.heap.size := Option.some.inj e; omega)); have st := k12.store3 (.string n) (.int .i64 q) (.slice A6 m c6); have hb9 : Below w1.heap.size w1 w9 := hba.drew.grown hgrow9 (by simp) (fun j hj => by have h7 : w1.heap.size = j := Option.some.inj hj; omega); have x9 := (HZ0.out _ hb9); have HSF := Lib.hid (HZF.out w9 (.string n) (.int .i64 q) (.slice A6 m c6) x9)))))
                | (go_region_law (refine step_append_src _ (by rfl) (.tmp 22) (.tmp 24) 24 (by rfl) w1.heap.size 9 j0 _ 1 16 Tryz.underlying24 hj' jw0 jw1 jw2 rfl (by decide) (.slice (some ⟨w1.heap.size, 0, none⟩) 0 0) 0 [] (by rfl) (by exact hoA) (some ⟨b, off + 2, none⟩) m c2 (ws.map Value.string) (by rfl) (by rw [List.length_map, Nat.mul_one]; exact HM.out.symm) (by exact hsrc) (by simp [Value.oneCell']) r1 r2 (by simp) ?_; intro v9 w9 hown9 hgrow9 hrow9; rw [Nat.zero_add, List.nil_append] at hown9; obtain ⟨A6, c6, rfl, _⟩ := own_slice hown9; have k12 := k11a.of (hgrow9.block _ hkla (fun e => by have h7 : w.heap.size = w1.heap.size := Option.some.inj e; omega)); have st := k12.store3 (.string n) (.int .i64 q) (.slice A6 m c6); have hb9 : Below w1.heap.size w1 w9 := hba.drew.grown hgrow9 (by simp) (fun j hj => by have h7 : w1.heap.size = j := Option.some.inj hj; omega); have x9 := (HZ0.out _ hb9); have HSF := Lib.hid (HZF.out w9 (.string n) (.int .i64 q) (.slice A6 m c6) x9)))
                | fail
              all_goals (
                have j4 := k12.three (.string n) (.int .i64 q) (.slice A6 m c6)
                have HFR := Lib.hid (Fr.set3 w9 w.heap.size (.string n) (.int .i64 q) (.slice A6 m c6))
                have HO9 := Lib.hid hown9
                go_wp2
                refine bodyPost_ret (res_cell2 Tryz.results160 rfl j4 Tryz.underlying50 rfl (by kernel_rfl)) rfl ?_
                have how : Own w9 w1.heap.size (.slice A6 m c6) ws := by
                  have h9 := HO9.out
                  rw [HM.out] at h9 ⊢
                  exact h9
                have hoF := own_F how
                have hw9 : Below w.heap.size w w9 := hw1.trans (hb9.mono hw1.size)
                refine ⟨⟨n, q, ws⟩, .slice A6 m c6, _, by rw [hob.out]; exact rfl, kdW.low (kdW.keep hoF HFR.out.size fun x hx => HFR.out.block x (kdW.ge hoF x hx).2 ?_) hw1.size, hrr.out, hw9.trans (HFR.out.below hw9.size (by simp))⟩
                have := (kdW.ge hoF x hx).1
                simp
                omega)
            · have e7 : ((q : Int) == 7) = false := by
                simp
                omega
              by_cases hm0 : m = 0
              · have b1 : ((N : Int) == 2) = true := by
                  have := HN.out
                  simp
                  omega
                have hob : Hid ((ruleO (n :: k :: ws)).isSome = true) := Lib.hid (by
                  have hws : ws = [] := List.eq_nil_of_length_eq_zero (by have := HM.out; omega)
                  rw [HRO.out, hkq.out, if_pos ⟨by omega, .inr hws⟩]; rfl)
                clear h7 hm0
                go_region_held3 (fun W' => W'.cell? ⟨b, off, none⟩ = some (.string n))
                  (first | exact x0 | exact x0a | exact x9 | exact HSF.out | go_keep)
                  (first | (refine step_append_src _ (by rfl) (.tmp 22) (.tmp 24) 24 (by rfl) w1.heap.size 9 j0 _ 1 16 Tryz.underlying24 hj' jw0 jw1 jw2 rfl (by decide) (.slice (some ⟨w1.heap.size, 0, none⟩) 0 0) 0 [] (by rfl) (by exact hoA) (some ⟨b, off + 2, none⟩) m c2 (ws.map Value.string) (by rfl) (by rw [List.length_map, Nat.mul_one]; exact HM.out.symm) (by exact hsrc) (by simp [Value.oneCell']) r1 r2 (by simp) ?_; intro v9 w9 hown9 hgrow9 hrow9; rw [Nat.zero_add, List.nil_append] at hown9; obtain ⟨A6, c6, rfl, _⟩ := own_slice hown9; have k12 := k11a.of (hgrow9.block _ hkla (fun e => by have h7 : w.heap.size = w1.heap.size := Option.some.inj e; omega)); have st := k12.store3 (.string n) (.int .i64 q) (.slice A6 m c6); have hb9 : Below w1.heap.size w1 w9 := hba.drew.grown hgrow9 (by simp) (fun j hj => by have h7 : w1.heap.size = j := Option.some.inj hj; omega); have x9 := (HZ0.out _ hb9); have HSF := Lib.hid (HZF.out w9 (.string n) (.int .i64 q) (.slice A6 m c6) x9)))
                all_goals (
                  have j4 := k12.three (.string n) (.int .i64 q) (.slice A6 m c6)
                  have HFR := Lib.hid (Fr.set3 w9 w.heap.size (.string n) (.int .i64 q) (.slice A6 m c6))
                  have HO9 := Lib.hid hown9
                  go_wp2
                  refine bodyPost_ret (res_cell2 Tryz.results160 rfl j4 Tryz.underlying50 rfl (by kernel_rfl)) rfl ?_
                  have how : Own w9 w1.heap.size (.slice A6 m c6) ws := by
                    have h9 := HO9.out
                    rw [HM.out] at h9 ⊢
                    exact h9
                  have hoF := own_F how
                  have hw9 : Below w.heap.size w w9 := hw1.trans (hb9.mono hw1.size)
                  refine ⟨⟨n, q, ws⟩, .slice A6 m c6, _, by rw [hob.out]; exact rfl, kdW.low (kdW.keep hoF HFR.out.size fun x hx => HFR.out.block x (kdW.ge hoF x hx).2 ?_) hw1.size, hrr.out, hw9.trans (HFR.out.below hw9.size (by simp))⟩
                  have := (kdW.ge hoF x hx).1
                  simp
                  omega)
              · have b1 : ((N : Int) == 2) = false := by
                  have := HN.out
                  simp
                  omega
                have hob : Hid ((ruleO (n :: k :: ws)).isSome = false) := Lib.hid (by
                  have hws : ws ≠ [] := fun e => hm0 (by rw [HM.out, e]; rfl)
                  rw [HRO.out, hkq.out, if_neg (fun h => h.2.elim (fun h => by omega) hws)]; rfl)
                clear h7 hm0
                go_region_held3 (fun W' => W'.cell? ⟨b, off, none⟩ = some (.string n))
                  (first | exact x0 | exact x0a | exact x9 | exact HSF.out | go_keep)
                  (first | (refine step_append_src _ (by rfl) (.tmp 22) (.tmp 24) 24 (by rfl) w1.heap.size 9 j0 _ 1 16 Tryz.underlying24 hj' jw0 jw1 jw2 rfl (by decide) (.slice (some ⟨w1.heap.size, 0, none⟩) 0 0) 0 [] (by rfl) (by exact hoA) (some ⟨b, off + 2, none⟩) m c2 (ws.map Value.string) (by rfl) (by rw [List.length_map, Nat.mul_one]; exact HM.out.symm) (by exact hsrc) (by simp [Value.oneCell']) r1 r2 (by simp) ?_; intro v9 w9 hown9 hgrow9 hrow9; rw [Nat.zero_add, List.nil_append] at hown9; obtain ⟨A6, c6, rfl, _⟩ := own_slice hown9; have k12 := k11a.of (hgrow9.block _ hkla (fun e => by have h7 : w.heap.size = w1.heap.size := Option.some.inj e; omega)); have st := k12.store3 (.string n) (.int .i64 q) (.slice A6 m c6); have hb9 : Below w1.heap.size w1 w9 := hba.drew.grown hgrow9 (by simp) (fun j hj => by have h7 : w1.heap.size = j := Option.some.inj hj; omega); have x9 := (HZ0.out _ hb9); have HSF := Lib.hid (HZF.out w9 (.string n) (.int .i64 q) (.slice A6 m c6) x9)))
                all_goals (
                  have j4 := k12.three (.string n) (.int .i64 q) (.slice A6 m c6)
                  have HFR := Lib.hid (Fr.set3 w9 w.heap.size (.string n) (.int .i64 q) (.slice A6 m c6))
                  have HO9 := Lib.hid hown9
                  go_wp2
                  refine bodyPost_ret (res_cell2 Tryz.results160 rfl j4 Tryz.underlying50 rfl (by kernel_rfl)) rfl ?_
                  have how : Own w9 w1.heap.size (.slice A6 m c6) ws := by
                    have h9 := HO9.out
                    rw [HM.out] at h9 ⊢
                    exact h9
                  have hoF := own_F how
                  have hw9 : Below w.heap.size w w9 := hw1.trans (hb9.mono hw1.size)
                  refine ⟨⟨n, q, ws⟩, .slice A6 m c6, _, by rw [hob.out]; exact rfl, kdW.low (kdW.keep hoF HFR.out.size fun x hx => HFR.out.block x (kdW.ge hoF x hx).2 ?_) hw1.size, hrr.out, hw9.trans (HFR.out.below hw9.size (by simp))⟩
                  have := (kdW.ge hoF x hx).1
                  simp
                  omega)
        · have q1 := toList_ne_of he
          have hnx2 : Hid (∀ j (hj : j < 9), j < q + 1 → kindsL[j]'(by rw [kinds_len]; exact hj) ≠ k) := Lib.hid (fun j hj hjq => by
            by_cases e : j = q
            · subst e; rw [← HKQ.out]; exact fun e => he e.symm
            · exact hne.out j hj (by omega))
          clear he
          go_region_held3 (fun W' => W'.cell? ⟨b, off + 1, none⟩ = some (.string k))
            (first | exact y1 | exact HS.out)
            (first | (go_at_call 127; refine (HK2.out _).mono ?_; rintro e w1 ⟨rfl, hb1⟩; have h1 : Below wr.heap.size wr w1 := hd0.trans hb1; have HS := Lib.hid (HY.out _ h1)))
          go_wp2
          go_roundw
          case rel => exact ⟨q + 1, by omega, by go_num, hnx2, hnx.trans (h1.mono hzr)⟩
          case measure => simp [intOf] <;> omega
      · obtain rfl : q = 9 := by omega
        have hob : Hid (ruleO (n :: k :: ws) = none) := Lib.hid (by
          rw [HRO.out, kindZ_miss (fun j hj => hne.out j hj hj), if_neg (fun h => absurd h.1 (by decide))])
        have k11 := k1.below hnx
        obtain ⟨s0, s1, s2, s3, s4, s5⟩ := k11.store3 (.string ⟨#[]⟩) (.int .i64 0) (.slice none 0 0)
        have j4 := k11.three (.string ⟨#[]⟩) (.int .i64 0) (.slice none 0 0)
        have HFR := Lib.hid (Fr.set3 wr w.heap.size (.string ⟨#[]⟩) (.int .i64 0) (.slice none 0 0))
        have hw2 : Below w.heap.size w wr := hb0.trans (hnx.mono hz0)
        go_wp2
        refine bodyPost_ret (res_cell2 Tryz.results160 rfl j4 Tryz.underlying50 rfl (by kernel_rfl)) rfl ?_
        exact ⟨ru0, .slice none 0 0, [], by rw [hob.out]; exact rfl, ⟨World.ownsRow_nil _ _ _ _, rfl⟩, fun r' h => (by rw [hob.out] at h; cases h), hw2.trans (HFR.out.below hw2.size (by simp))⟩
end Go.Proofs.YtjhimmljanbjcaaGreatDoor.Pi

/- A text cut at a byte: the reference's cut. -/
set_option linter.unusedVariables false
set_option linter.unusedSimpArgs false
namespace Go.Proofs.YtjhimmljanbjcaaGreatDoor.Ru
open Go.RowKit Lb Gr Pd Fl Go.Proofs.YtjhimmljanbjcaaGreatDoor.Pm Bk Is Go.Proofs.YtjhimmljanbjcaaGreatDoor.Sl Go.Proofs.YtjhimmljanbjcaaGreatDoor.Ck Pt
theorem cutG_hit {c : UInt8} {L : List UInt8} {k : Nat} (hk : k < L.length) (h : L[k] = c) (cur : List UInt8) : cutG c cur (L.drop k) = cur :: cutG c [] (L.drop (k + 1)) := by
  rw [List.drop_eq_getElem_cons hk, cutG, if_pos h]
theorem cutG_go {c : UInt8} {L : List UInt8} {k : Nat} (hk : k < L.length) (h : L[k] ≠ c) (cur : List UInt8) : cutG c cur (L.drop k) = cutG c (cur ++ [L[k]]) (L.drop (k + 1)) := by
  rw [List.drop_eq_getElem_cons hk, cutG, if_neg h]
theorem u8_eq {a b : UInt8} (h : a = b) : ((a.toNat : Int) == (b.toNat : Int)) = true := by subst h; simp
theorem u8_ne {a b : UInt8} (h : a ≠ b) : ((a.toNat : Int) == (b.toNat : Int)) = false := by
  simp only [beq_eq_false_iff_ne, ne_eq, Int.ofNat_inj]
  exact fun e => h (UInt8.toNat_inj.1 e)
theorem cutG_len (c : UInt8) : ∀ (l cur : List UInt8), (cutG c cur l).length ≤ l.length + 1
  | [], cur => by simp [cutG]
  | b :: t, cur => by
    unfold cutG
    split
    · have := cutG_len c t []; simp; omega
    · have := cutG_len c t (cur ++ [b]); simp; omega

set_option maxHeartbeats 2000000 in
set_option maxRecDepth 100000 in
theorem rCutC (s : ByteArray) (c : UInt8) (w : World) (hs : s.size ≤ 2147483647) : Calls Tryz.prog 106 #[.string s, .int .u8 (c.toNat : Int)] w fun e w' => ∃ v, e = .returned v ∧ Own w' w.heap.size v (cutS s c) ∧ Below w.heap.size w w' := by
  obtain ⟨i0, hi, hz0, hz1, hz2⟩ := info_parts infoStr
  obtain ⟨L, hL⟩ : ∃ L, L = s.data.toList := ⟨_, rfl⟩
  have hLs : L.length = s.size := by rw [hL, size_len]
  have HLs := Lib.hid hLs; clear hLs
  have HL := Lib.hid hL; clear hL
  go_enter Tryz.func106, Tryz.ntmps106
  go_wp2
  go_loopw [5, 6, 10] (fun v f i wr => ∃ (k a : Nat) (done : List ByteArray), k ≤ s.size ∧ a ≤ k ∧ i = .int .i64 k ∧ f = .int .i64 a ∧ Own wr w.heap.size v done ∧ Below w.heap.size w wr ∧ done.length ≤ k ∧
      Hid (done ++ (cutG c ((L.drop a).take (k - a)) (L.drop k)).map str = cutS s c)) (fun _ _ i _ => s.size - (intOf i).toNat)
  case atStart => exact ⟨0, 0, [], by omega, by omega, rfl, rfl, Own.nil _ _, Below.refl _ _, by simp, Lib.hid (by simp [cutS, cutL, HL.out])⟩
  case round =>
    obtain ⟨k, a, done, hk, hak, rfl, rfl, hown, hnx, hdl, hst⟩ := hrel
    have hsz := hnx.size
    have g1 : done.length + 1 ≤ maxLen := by unfold maxLen; omega
    have g2 : (done.length + 1) * 16 ≤ 140737488355328 := by omega
    by_cases hlt : k < s.size
    · have hlL : k < L.length := by rw [HLs.out]; exact hlt
      have hck : s[k] = L[k] := by rw [at_list]; congr 1; exact HL.out.symm
      by_cases he : s[k] = c
      · have b1 := u8_eq he
        have hst2 : Hid ((done ++ [s.extract a k]) ++ (cutG c [] (L.drop (k + 1))).map str = cutS s c) := Lib.hid (by
          have h1 := hst.out
          rw [cutG_hit hlL (hck ▸ he)] at h1
          rw [← h1, extract_str, ← HL.out]; simp)
        clear hst hck he
        go_wp2_with (at_builtin; (refine wpList_append_src _ rfl (.tmp 18) (.tmp 23) 24 rfl w.heap.size 9 i0 _ 1 16 Tryz.underlying24 hi hz0 hz1 hz2 rfl (by decide) _ _ _ rfl (hown.alloc _) (some ⟨wr.heap.size, 0, none⟩) 1 1 [.string (s.extract a k)] rfl rfl (news_src wr _ _) (by simp [Value.oneCell']) g1 g2 (by simp; omega) ?_; intro v' w1 hown' hgrow _))
        have hown2 := Own.push hown'
        have hb2 := push_below hown hnx hsz hgrow
        clear hown' hgrow hown hnx
        go_wp2
        go_roundw
        case rel => exact ⟨k + 1, k + 1, _, by omega, by omega, by go_num, by go_num, hown2, hb2, by simp; omega, by simpa using hst2⟩
        case measure => simp [intOf] <;> omega
      · have b1 := u8_ne he
        have hst2 : Hid (done ++ (cutG c ((L.drop a).take (k + 1 - a)) (L.drop (k + 1))).map str = cutS s c) := Lib.hid (by
          have h1 := hst.out
          rw [cutG_go hlL (fun e => he (hck.trans e)), seg_step hlL (by omega)] at h1
          exact h1)
        clear hst hck he
        go_wp2
        go_roundw
        case rel => exact ⟨k + 1, a, done, by omega, by omega, by go_num, rfl, hown, hnx, by omega, hst2⟩
        case measure => simp [intOf] <;> omega
    · have hke : k = s.size := by omega
      subst hke
      have hfin : Hid (done ++ [s.extract a s.size] = cutS s c) := Lib.hid (by
        have h1 := hst.out
        rw [List.drop_eq_nil_of_le (i := s.size) (by rw [HLs.out]; exact Nat.le_refl _)] at h1
        rw [show ∀ cur, cutG c cur [] = [cur] from fun _ => rfl] at h1
        rw [← h1, extract_str, ← HL.out]; simp)
      clear hst hlt
      go_wp2_with (at_builtin; (refine wpList_append_src _ rfl (.tmp 28) (.tmp 32) 24 rfl w.heap.size 9 i0 _ 1 16 Tryz.underlying24 hi hz0 hz1 hz2 rfl (by decide) _ _ _ rfl (hown.alloc _) (some ⟨wr.heap.size, 0, none⟩) 1 1 [.string (s.extract a s.size)] rfl rfl (news_src wr _ _) (by simp [Value.oneCell']) g1 g2 (by simp; omega) ?_; intro v' w1 hown' hgrow _))
      have hown2 := Own.push hown'
      have hb2 := push_below hown hnx hsz hgrow
      clear hown' hgrow hown hnx
      go_wp2
      go_ret
      exact ⟨_, rfl, by rw [← hfin.out]; exact hown2, hb2⟩
end Go.Proofs.YtjhimmljanbjcaaGreatDoor.Ru

/- A policy of the call's own: one of its four rows turned, the others as they stood. -/
set_option linter.unusedVariables false
set_option linter.unusedSimpArgs false
namespace Go.Proofs.YtjhimmljanbjcaaGreatDoor.Rw
open Go.RowKit Lb Gr Pd Fl Go.Proofs.YtjhimmljanbjcaaGreatDoor.Pm Bk Is Go.Proofs.YtjhimmljanbjcaaGreatDoor.Sl Go.Proofs.YtjhimmljanbjcaaGreatDoor.Ck Pt
theorem mid {A M C M' : List Nat} {N : Nat} (h : (A ++ (M ++ C)).Nodup) (hm : M'.Nodup) (hn : ∀ k ∈ M', k ∈ M ∨ N ≤ k) (hl : ∀ k ∈ A ++ C, k < N) : (A ++ (M' ++ C)).Nodup := by
  obtain ⟨h1, h2, h3⟩ := List.nodup_append.1 h
  obtain ⟨h4, h5, h6⟩ := List.nodup_append.1 h2
  refine List.nodup_append.2 ⟨h1, List.nodup_append.2 ⟨hm, h5, fun a ha b hb e => ?_⟩, fun a ha b hb e => ?_⟩
  · subst e
    rcases hn a ha with h | h
    · exact h6 a h a hb rfl
    · have := hl a (List.mem_append_right _ hb); omega
  · subst e
    rcases List.mem_append.1 hb with hb | hb
    · rcases hn a hb with h | h
      · exact h3 a ha a (List.mem_append_left _ h) rfl
      · have := hl a (List.mem_append_left _ ha); omega
    · exact h3 a ha a (List.mem_append_right _ hb) rfl
/-- what one row more, or one row turned, leaves of the memory -/
structure Tn (w w9 : World) (F F' : List Nat) : Prop where
  size : w.heap.size ≤ w9.heap.size
  old : ∀ k, k ∉ F → k < w.heap.size → w9.heap[k]? = w.heap[k]?
  new : ∀ k ∈ F', k ∈ F ∨ w.heap.size ≤ k
theorem out_of {A M C : List Nat} (h : (A ++ (M ++ C)).Nodup) : ∀ k ∈ A ++ C, k ∉ M := by
  obtain ⟨h1, h2, h3⟩ := List.nodup_append.1 h
  obtain ⟨h4, h5, h6⟩ := List.nodup_append.1 h2
  intro k hk hm
  rcases List.mem_append.1 hk with hk | hk
  · exact h3 k hk k (List.mem_append_left _ hm) rfl
  · exact h6 k hm k hk rfl
theorem turnE {w w9 : World} {B : Nat} {x : Vs} {p : PolD} {F1 F2 F3 F4 F' : List Nat} {v : Value} {l : List ElD} (h2 : kdR.own w B x.g p.glob F2) (h3 : kdW.own w B x.s p.schemes F3) (h4 : kdW.own w B x.d p.drop F4)
    (hn : (F1 ++ (F2 ++ (F3 ++ F4))).Nodup) (h : kdE.own w9 B v l F') (ht : Tn w w9 F1 F') : OwnP w9 B ⟨v, x.g, x.s, x.d⟩ { p with els := l } (F' ++ (F2 ++ (F3 ++ F4))) := by
  have ho := out_of (A := []) (by simpa using hn)
  have hl : ∀ k ∈ ([] : List Nat) ++ (F2 ++ (F3 ++ F4)), k < w.heap.size := fun k hk => by
    simp only [List.nil_append, List.mem_append] at hk
    rcases hk with hk | hk | hk
    · exact (kdR.ge h2 k hk).2
    · exact (kdW.ge h3 k hk).2
    · exact (kdW.ge h4 k hk).2
  have hk2 : ∀ k ∈ F2 ++ (F3 ++ F4), w9.heap[k]? = w.heap[k]? := fun k hk => ht.old k (ho k (by simpa using hk)) (hl k (by simpa using hk))
  exact ⟨_, _, _, _, h, kdR.keep h2 ht.size fun k hk => hk2 k (by simp [hk]), kdW.keep h3 ht.size fun k hk => hk2 k (by simp [hk]), kdW.keep h4 ht.size fun k hk => hk2 k (by simp [hk]), rfl, by simpa using mid (A := []) (by simpa using hn) (kdE.nodup h) ht.new hl⟩
theorem turnG {w w9 : World} {B : Nat} {x : Vs} {p : PolD} {F1 F2 F3 F4 F' : List Nat} {v : Value} {l : List RuleD} (h1 : kdE.own w B x.e p.els F1) (h3 : kdW.own w B x.s p.schemes F3) (h4 : kdW.own w B x.d p.drop F4)
    (hn : (F1 ++ (F2 ++ (F3 ++ F4))).Nodup) (h : kdR.own w9 B v l F') (ht : Tn w w9 F2 F') : OwnP w9 B ⟨x.e, v, x.s, x.d⟩ { p with glob := l } (F1 ++ (F' ++ (F3 ++ F4))) := by
  have ho := out_of (A := F1) hn
  have hl : ∀ k ∈ F1 ++ (F3 ++ F4), k < w.heap.size := fun k hk => by
    simp only [List.mem_append] at hk
    rcases hk with hk | hk | hk
    · exact (kdE.ge h1 k hk).2
    · exact (kdW.ge h3 k hk).2
    · exact (kdW.ge h4 k hk).2
  have hk2 : ∀ k ∈ F1 ++ (F3 ++ F4), w9.heap[k]? = w.heap[k]? := fun k hk => ht.old k (ho k hk) (hl k hk)
  exact ⟨_, _, _, _, kdE.keep h1 ht.size fun k hk => hk2 k (by simp [hk]), h, kdW.keep h3 ht.size fun k hk => hk2 k (by simp [hk]), kdW.keep h4 ht.size fun k hk => hk2 k (by simp [hk]), rfl, mid hn (kdR.nodup h) ht.new hl⟩
theorem turnS {w w9 : World} {B : Nat} {x : Vs} {p : PolD} {F1 F2 F3 F4 F' : List Nat} {v : Value} {l : List ByteArray} (h1 : kdE.own w B x.e p.els F1) (h2 : kdR.own w B x.g p.glob F2) (h4 : kdW.own w B x.d p.drop F4)
    (hn : (F1 ++ (F2 ++ (F3 ++ F4))).Nodup) (h : kdW.own w9 B v l F') (ht : Tn w w9 F3 F') : OwnP w9 B ⟨x.e, x.g, v, x.d⟩ { p with schemes := l } (F1 ++ (F2 ++ (F' ++ F4))) := by
  have hn' : ((F1 ++ F2) ++ (F3 ++ F4)).Nodup := by simpa using hn
  have ho := out_of hn'
  have hl : ∀ k ∈ (F1 ++ F2) ++ F4, k < w.heap.size := fun k hk => by
    simp only [List.mem_append] at hk
    rcases hk with (hk | hk) | hk
    · exact (kdE.ge h1 k hk).2
    · exact (kdR.ge h2 k hk).2
    · exact (kdW.ge h4 k hk).2
  have hk2 : ∀ k ∈ (F1 ++ F2) ++ F4, w9.heap[k]? = w.heap[k]? := fun k hk => ht.old k (ho k hk) (hl k hk)
  exact ⟨_, _, _, _, kdE.keep h1 ht.size fun k hk => hk2 k (by simp [hk]), kdR.keep h2 ht.size fun k hk => hk2 k (by simp [hk]), h, kdW.keep h4 ht.size fun k hk => hk2 k (by simp [hk]), rfl, by simpa using mid hn' (kdW.nodup h) ht.new hl⟩
theorem turnD {w w9 : World} {B : Nat} {x : Vs} {p : PolD} {F1 F2 F3 F4 F' : List Nat} {v : Value} {l : List ByteArray} (h1 : kdE.own w B x.e p.els F1) (h2 : kdR.own w B x.g p.glob F2) (h3 : kdW.own w B x.s p.schemes F3)
    (hn : (F1 ++ (F2 ++ (F3 ++ F4))).Nodup) (h : kdW.own w9 B v l F') (ht : Tn w w9 F4 F') : OwnP w9 B ⟨x.e, x.g, x.s, v⟩ { p with drop := l } (F1 ++ (F2 ++ (F3 ++ F'))) := by
  have hn' : ((F1 ++ (F2 ++ F3)) ++ (F4 ++ [])).Nodup := by simpa using hn
  have ho := out_of hn'
  have hl : ∀ k ∈ (F1 ++ (F2 ++ F3)) ++ [], k < w.heap.size := fun k hk => by
    simp only [List.append_nil, List.mem_append] at hk
    rcases hk with hk | hk | hk
    · exact (kdE.ge h1 k hk).2
    · exact (kdR.ge h2 k hk).2
    · exact (kdW.ge h3 k hk).2
  have hk2 : ∀ k ∈ F1 ++ (F2 ++ F3), w9.heap[k]? = w.heap[k]? := fun k hk => ht.old k (ho k (by simpa using hk)) (hl k (by simpa using hk))
  exact ⟨_, _, _, _, kdE.keep h1 ht.size fun k hk => hk2 k (by simp [hk]), kdR.keep h2 ht.size fun k hk => hk2 k (by simp [hk]), kdW.keep h3 ht.size fun k hk => hk2 k (by simp [hk]), h, rfl, by simpa using mid hn' (kdW.nodup h) ht.new hl⟩
/-- a text more behind a row of the call's own -/
theorem word_more {w w9 : World} {B : Nat} {v v9 : Value} {l : List ByteArray} {F : List Nat} {y : ByteArray} {o : Obj} (h : kdW.own w B v l F) (h1 : w9.ownsRow B 9 1 v9 (l.length + 1) (l.map Value.string ++ [.string y]))
    (hg : (w.alloc o).grownBy w9 v.ownBlock) (hv : v9.ownBlock = v.ownBlock ∨ v9.ownBlock = some (w.alloc o).heap.size) : kdW.own w9 B v9 (l ++ [y]) v9.ownBlock.toList ∧ Tn w w9 F v9.ownBlock.toList := by
  have hF : F = v.ownBlock.toList := h.2
  refine ⟨⟨Own.push h1, rfl⟩, ⟨by have := hg.size; simp at this; omega, fun k hk hlt => ?_, fun k hk => ?_⟩⟩
  · rw [hg.block k (by simp; omega) (fun e => hk (by rw [hF, ← e]; simp)), Below.heap_alloc _ _ _ hlt]
  · rcases hv with e | e
    · rw [e] at hk; rw [hF]; exact .inl hk
    · rw [e] at hk; simp at hk; right; omega
/-- a struct more behind a row of the call's own -/
theorem item_more {α β : Type} (M : Fm α β) {wr W2 w1 : World} {B : Nat} {v v' : Value} {T : List (It α)} {t : It α} {o : Obj} (ho : wr.ownsRow B M.e M.size v T.length (M.cells T)) (hs : ∀ t ∈ T, M.kd.own wr B t.v (M.sub t.a) t.G) (hn : (v.ownBlock.toList ++ outG T).Nodup)
    (hb : Below wr.heap.size wr W2) (hB : B ≤ wr.heap.size) (ht : M.kd.own W2 wr.heap.size t.v (M.sub t.a) t.G)
    (h1 : w1.ownsRow B M.e M.size v' (T.length + 1) (M.cells T ++ M.enc t.a t.v)) (hg : (W2.alloc o).grownBy w1 v.ownBlock) (hv : v'.ownBlock = v.ownBlock ∨ v'.ownBlock = some (W2.alloc o).heap.size) :
    M.own w1 B v' (T.map (·.a) ++ [t.a]) (v'.ownBlock.toList ++ outG (T ++ [t])) ∧ Tn wr w1 (v.ownBlock.toList ++ outG T) (v'.ownBlock.toList ++ outG (T ++ [t])) := by
  have hz := hb.size
  have hgs := hg.size
  refine ⟨M.push ho hs hn hb hB ht h1 hg hv, ⟨by simp at hgs; omega, fun k hk hlt => ?_, fun k hk => ?_⟩⟩
  · rw [hg.block k (by simp; omega) (fun e => hk (List.mem_append_left _ (by rw [← e]; simp))), Below.heap_alloc _ _ _ (by omega), hb.block k hlt]
  · rcases List.mem_append.1 hk with hk | hk
    · rcases hv with e | e
      · rw [e] at hk; exact .inl (List.mem_append_left _ hk)
      · rw [e] at hk; simp at hk; right; omega
    · have e : outG (T ++ [t]) = outG T ++ t.G := by simp [outG]
      rw [e] at hk
      rcases List.mem_append.1 hk with hk | hk
      · exact .inl (List.mem_append_right _ hk)
      · exact .inr (M.kd.ge ht k hk).1
theorem cutS_len (s : ByteArray) (c : UInt8) : (cutS s c).length ≤ s.size + 1 := by
  unfold cutS cutL
  rw [List.length_map]
  have h : ∀ (l cur : List UInt8), (cutG c cur l).length ≤ l.length + 1 := Ru.cutG_len c
  have := h s.data.toList []
  rw [size_len] at this
  exact this
/-- how long the rows of a policy are at most -/
def LenP (p : PolD) (n : Nat) : Prop := p.els.length ≤ n ∧ p.glob.length ≤ n ∧ p.schemes.length ≤ n ∧ p.drop.length ≤ n ∧ ∀ e ∈ p.els, e.rules.length ≤ n
theorem lastR_len (l : List ElD) (r : RuleD) : (lastR l r).length = l.length := by simp [lastR]
theorem lastR_mem {l : List ElD} {r : RuleD} {e : ElD} (h : e ∈ lastR l r) : e ∈ l ∨ ∃ e' ∈ l, e = ⟨e'.name, e'.rules ++ [r]⟩ := by
  unfold lastR at h
  obtain ⟨i, hi, rfl⟩ := List.mem_iff_getElem.1 h
  have hi' : i < l.length := by simpa using hi
  rw [List.getElem_modify]
  split
  · exact .inr ⟨_, List.getElem_mem hi', rfl⟩
  · exact .inl (List.getElem_mem hi')
theorem line_len {st st' : RS} {ws : List ByteArray} {n : Nat} (h : lineO st ws = some st') (hl : LenP st.p n) : LenP st'.p (n + 1) := by
  obtain ⟨h1, h2, h3, h4, h5⟩ := hl
  have h5' : ∀ e ∈ st.p.els, e.rules.length ≤ n + 1 := fun e he => Nat.le_succ_of_le (h5 e he)
  unfold lineO at h
  repeat' split at h
  all_goals first
    | (cases h; done)
    | (obtain rfl := Option.some.inj h
       refine ⟨?_, ?_, ?_, ?_, ?_⟩ <;> first
         | (show _ ≤ _; simp [lastR_len]; omega)
         | (show _ ≤ _; simp; omega)
         | exact h5'
         | (intro e he
            simp only [List.mem_append, List.mem_singleton] at he
            rcases he with he | rfl
            · exact h5' e he
            · simp)
         | (intro e he
            rcases lastR_mem he with he | ⟨e', he', rfl⟩
            · exact h5' e he
            · have := h5 e' he'
              simp
              omega))
end Go.Proofs.YtjhimmljanbjcaaGreatDoor.Rw

/- A line of a policy's text: the reference's line. (under way) -/
set_option linter.unusedVariables false
set_option linter.unusedSimpArgs false
namespace Go.Proofs.YtjhimmljanbjcaaGreatDoor.Rx
open Go.RowKit Lb Gr Pd Fl Go.Proofs.YtjhimmljanbjcaaGreatDoor.Pm Bk Is Go.Proofs.YtjhimmljanbjcaaGreatDoor.Sl Go.Proofs.YtjhimmljanbjcaaGreatDoor.Ck Go.Proofs.YtjhimmljanbjcaaGreatDoor.Ow Go.Proofs.YtjhimmljanbjcaaGreatDoor.Rz Go.Proofs.YtjhimmljanbjcaaGreatDoor.Dp Pt Pn Po Rw
attribute [local go_sem ↓] Go.wp_at_zero Go.wp_at_succ
/-- the reference's reader in memory: the policy's block g, the block h of what was seen, the rows from B on -/
structure St (w : World) (B g h : Nat) (x : Vs) (st : RS) (F : List Nat) : Prop where
  own : OwnP w B x st.p F
  bg : Bl w g 26 [x.e, x.g, x.s, .bool st.p.rel, x.d, .int .i64 st.p.depth, .int .i64 st.p.window]
  bh : Bl w h 126 [.bool st.sd, .bool st.sw, .bool st.sr]
  gh : g < h
  hB : h < B
  size : B ≤ w.heap.size
/-- what a line leaves as it stood: all that lies below B, but for the reader's two blocks -/
structure Kpt (w : World) (B g h : Nat) (w' : World) : Prop where
  below : Below g w w'
  old : ∀ k, k < B → k ≠ g → k ≠ h → w'.heap[k]? = w.heap[k]?
theorem Kpt.size {w w' : World} {B g h : Nat} (hk : Kpt w B g h w') : w.heap.size ≤ w'.heap.size := hk.below.size
theorem Kpt.trans {w w1 w2 : World} {B g h : Nat} (h1 : Kpt w B g h w1) (h2 : Kpt w1 B g h w2) : Kpt w B g h w2 :=
  ⟨h1.below.trans h2.below, fun k a b c => (h2.old k a b c).trans (h1.old k a b c)⟩
theorem Kpt.of {w w' : World} {B g h : Nat} (hg : g ≤ B) (hB : B ≤ w.heap.size) (hb : Below w.heap.size w w') : Kpt w B g h w' :=
  ⟨hb.mono (Nat.le_trans hg hB), fun k hk _ _ => hb.block k (Nat.lt_of_lt_of_le hk hB)⟩
theorem Kpt.fr {w w' : World} {B g h : Nat} (hg : g ≤ w.heap.size) (hgh : g ≤ h) (hB : B ≤ w.heap.size) (hf : Fr [g, h] w w') : Kpt w B g h w' :=
  ⟨hf.below hg (by simp; omega), fun k hk h1 h2 => hf.block k (Nat.lt_of_lt_of_le hk hB) (by simp; omega)⟩
/-- what a line leaves -/
def LineR (w : World) (B g h : Nat) (st : RS) (ws : List ByteArray) (e : Ending) (w' : World) : Prop :=
  Kpt w B g h w' ∧ match lineO st ws with
    | none => e = .returned (.bool false)
    | some st' => e = .returned (.bool true) ∧ ∃ x' F', St w' B g h x' st' F'
theorem St.kpt {w : World} {B g h : Nat} {x : Vs} {st : RS} {F : List Nat} (hs : St w B g h x st F) {w' : World} (hb : Below w.heap.size w w') : Kpt w B g h w' :=
  Kpt.of (by have := hs.gh; have := hs.hB; omega) hs.size hb
theorem line_empty {st : RS} {ws : List ByteArray} (h : hasT ws ByteArray.empty = true) : lineO st ws = none := by
  unfold lineO; rw [if_pos h]
theorem LineR.no {w w' : World} {B g h : Nat} {st : RS} {ws : List ByteArray} (hb : Kpt w B g h w') (hn : lineO st ws = none) : LineR w B g h st ws (.returned (.bool false)) w' :=
  ⟨hb, by rw [hn]⟩
theorem LineR.yes {w w' : World} {B g h : Nat} {st st' : RS} {ws : List ByteArray} {x' : Vs} {F' : List Nat} (hb : Kpt w B g h w') (hn : lineO st ws = some st') (hs : St w' B g h x' st' F') : LineR w B g h st ws (.returned (.bool true)) w' :=
  ⟨hb, by rw [hn]; exact ⟨rfl, x', F', hs⟩⟩
/-- two stores: one into the policy's block, one into what was seen -/
theorem St.two {w : World} {B g h : Nat} {x : Vs} {st : RS} {F : List Nat} (hs : St w B g h x st F) (i j : Nat) (u z : Value) :
    Kpt w B g h ((w.setCell ⟨g, i, none⟩ u).setCell ⟨h, j, none⟩ z) ∧ OwnP ((w.setCell ⟨g, i, none⟩ u).setCell ⟨h, j, none⟩ z) B x st.p F ∧ B ≤ ((w.setCell ⟨g, i, none⟩ u).setCell ⟨h, j, none⟩ z).heap.size ∧
    Bl ((w.setCell ⟨g, i, none⟩ u).setCell ⟨h, j, none⟩ z) g 26 ([x.e, x.g, x.s, .bool st.p.rel, x.d, .int .i64 st.p.depth, .int .i64 st.p.window].set i u) ∧
    Bl ((w.setCell ⟨g, i, none⟩ u).setCell ⟨h, j, none⟩ z) h 126 ([.bool st.sd, .bool st.sw, .bool st.sr].set j z) := by
  have h1 := hs.gh
  have h2 := hs.hB
  have h3 := hs.size
  have hf : Fr [g, h] w ((w.setCell ⟨g, i, none⟩ u).setCell ⟨h, j, none⟩ z) := (Fr.setCell w ⟨g, i, none⟩ u (.inl (by simp))).trans (Fr.setCell _ ⟨h, j, none⟩ z (.inl (by simp)))
  refine ⟨Kpt.fr (by omega) (by omega) h3 hf, hs.own.keep hf.size fun k hk => ?_, Nat.le_trans h3 hf.size, ?_, ?_⟩
  · have h4 := hs.own.ge k hk
    exact hf.block k h4.2 (by simp; omega)
  · exact (hs.bg.set i u).other (p := ⟨h, j, none⟩) (by show g ≠ h; omega) z
  · exact (hs.bh.other (p := ⟨g, i, none⟩) (by show h ≠ g; omega) u).set j z
set_option maxHeartbeats 4000000 in
set_option maxRecDepth 100000 in
/-- a line with an empty word in it -/
theorem rLineE (w : World) (B g h : Nat) (x : Vs) (st : RS) (F : List Nat) (v : Value) (ws : List ByteArray) (hs : St w B g h x st F) (hv : kdW.rd w 0 w.heap.size v ws) (he : hasT ws ByteArray.empty = true) :
    Calls Tryz.prog 107 #[.pointer (some ⟨g, 0, none⟩), .pointer (some ⟨h, 0, none⟩), v] w (LineR w B g h st ws) := by
  have HHS : Hid (Calls Tryz.prog 48 #[v, .string ByteArray.empty] w fun e w' => e = .returned (.bool (hasT ws ByteArray.empty)) ∧ w = w') := Lib.hid ((rHasC ws v ByteArray.empty w hv).mono fun e w' h => ⟨h.1, h.2.symm⟩)
  have hq : Hid (hasT ws ByteArray.empty = true) := Lib.hid he
  have hno := Lib.hid (line_empty (st := st) he)
  have HS := Lib.hid hs
  clear hs hv he
  go_enter Tryz.func107, Tryz.ntmps107
  go_wp2_with (go_at_call 48; refine HHS.out.mono ?_; rintro e w1 ⟨rfl, rfl⟩; rw [hq.out])
  go_ret
  exact LineR.no (HS.out.kpt (Below.refl _ _)) hno.out
set_option maxHeartbeats 4000000 in
set_option maxRecDepth 100000 in
/-- 'relative', alone, not seen before -/
theorem rLineRel (w : World) (B g h : Nat) (x : Vs) (st : RS) (F : List Nat) (v : Value) (hs : St w B g h x st F) (hv : kdW.rd w 0 w.heap.size v [wRel]) (he : hasT [wRel] ByteArray.empty = false) (hr : st.sr = false) :
    Calls Tryz.prog 107 #[.pointer (some ⟨g, 0, none⟩), .pointer (some ⟨h, 0, none⟩), v] w (LineR w B g h st [wRel]) := by
  have HHS : Hid (Calls Tryz.prog 48 #[v, .string ByteArray.empty] w fun e w' => e = .returned (.bool (hasT [wRel] ByteArray.empty)) ∧ w = w') := Lib.hid ((rHasC [wRel] v ByteArray.empty w hv).mono fun e w' h => ⟨h.1, h.2.symm⟩)
  have hq : Hid (hasT [wRel] ByteArray.empty = false) := Lib.hid he
  have hno : Hid (lineO st [wRel] = some { st with p := { st.p with rel := true }, sr := true }) := Lib.hid (by
    unfold lineO; rw [if_neg (by rw [he]; decide)]; simp [hr])
  obtain ⟨A, c, rfl, hc1, hc2⟩ := rdW_form hv
  obtain ⟨b, off, rfl, _, hb2, hx0⟩ := rdW_at hv (i := 0) (by simp)
  have hx0' : w.cell? ⟨b, off, none⟩ = some (.string ⟨#[114, 101, 108, 97, 116, 105, 118, 101]⟩) := by
    have h9 : w.cell? ⟨b, off, none⟩ = some (.string wRel) := by simpa using hx0
    exact h9
  have HS := Lib.hid hs
  have k3 := hs.bh.cell 2 rfl
  have k4 := hs.bh.fz 2
  have k5 := hs.bg.fz 3
  have k6 := hs.bg.cell 3 rfl
  have hne : ¬ g = h := by have := hs.gh; omega
  have hne2 : ¬ h = g := by have := hs.gh; omega
  rw [hr] at k3
  clear hs hv he hx0
  go_enter Tryz.func107, Tryz.ntmps107
  go_wp2_with (go_at_call 48; refine HHS.out.mono ?_; rintro e w1 ⟨rfl, rfl⟩; rw [hq.out])
  go_ret
  refine LineR.yes (x' := x) (F' := F) ?_ hno.out ?_
  · exact (HS.out.two 3 2 _ _).1
  · obtain ⟨_, a1, a2, a3, a4⟩ := HS.out.two 3 2 (.bool true) (.bool true)
    exact ⟨a1, a3, a4, HS.out.gh, HS.out.hB, a2⟩
set_option maxHeartbeats 4000000 in
set_option maxRecDepth 100000 in
/-- 'relative', alone, seen before -/
theorem rLineRel2 (w : World) (B g h : Nat) (x : Vs) (st : RS) (F : List Nat) (v : Value) (hs : St w B g h x st F) (hv : kdW.rd w 0 w.heap.size v [wRel]) (he : hasT [wRel] ByteArray.empty = false) (hr : st.sr = true) :
    Calls Tryz.prog 107 #[.pointer (some ⟨g, 0, none⟩), .pointer (some ⟨h, 0, none⟩), v] w (LineR w B g h st [wRel]) := by
  have HHS : Hid (Calls Tryz.prog 48 #[v, .string ByteArray.empty] w fun e w' => e = .returned (.bool (hasT [wRel] ByteArray.empty)) ∧ w = w') := Lib.hid ((rHasC [wRel] v ByteArray.empty w hv).mono fun e w' h => ⟨h.1, h.2.symm⟩)
  have hq : Hid (hasT [wRel] ByteArray.empty = false) := Lib.hid he
  have hno : Hid (lineO st [wRel] = none) := Lib.hid (by
    unfold lineO; rw [if_neg (by rw [he]; decide)]; simp [hr])
  obtain ⟨A, c, rfl, hc1, hc2⟩ := rdW_form hv
  obtain ⟨b, off, rfl, _, hb2, hx0⟩ := rdW_at hv (i := 0) (by simp)
  have hx0' : w.cell? ⟨b, off, none⟩ = some (.string ⟨#[114, 101, 108, 97, 116, 105, 118, 101]⟩) := by
    have h9 : w.cell? ⟨b, off, none⟩ = some (.string wRel) := by simpa using hx0
    exact h9
  have HS := Lib.hid hs
  have k3 := hs.bh.cell 2 rfl
  have k4 := hs.bh.fz 2
  have k5 := hs.bg.fz 3
  have k6 := hs.bg.cell 3 rfl
  have hne : ¬ g = h := by have := hs.gh; omega
  have hne2 : ¬ h = g := by have := hs.gh; omega
  rw [hr] at k3
  clear hs hv he hx0
  go_enter Tryz.func107, Tryz.ntmps107
  go_wp2_with (go_at_call 48; refine HHS.out.mono ?_; rintro e w1 ⟨rfl, rfl⟩; rw [hq.out])
  go_ret
  exact LineR.no (HS.out.kpt (Below.refl _ _)) hno.out
end Go.Proofs.YtjhimmljanbjcaaGreatDoor.Rx
