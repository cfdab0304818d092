/- The reference's count and things. -/
import Derived.Test.YteikagdinecfoaaGreatDoorCh
import Derived.Test.YteikagdinecfoaaGreatDoorEs
set_option linter.unusedVariables false
set_option linter.unusedSimpArgs false
namespace Go.Proofs.YteikagdinecfoaaGreatDoor.Rg
open Go.RowKit Lb Gr Pd Fl Go.Proofs.YteikagdinecfoaaGreatDoor.Pm Bk Ru Go.Proofs.YteikagdinecfoaaGreatDoor.Th
attribute [local go_sem ↓] Go.wp_at_zero Go.wp_at_succ

theorem w64_len {n : Nat} (h : n ≤ 9223372036854775807) : (n : Int) = w64 n := (w64_in h).symm
set_option maxHeartbeats 4000000 in
set_option maxRecDepth 100000 in
theorem rCountC (l : List RuleD) (v : Value) (w : World) (h : kdR.rd w 0 w.heap.size v l) : Calls Tryz.prog 123 #[v] w fun e w' => e = .returned (.int .i64 (w64 (l.length + wordsN l))) ∧ Below w.heap.size w w' := by
  obtain ⟨A, c, rfl, hc1, hc2⟩ := fmR.rd_form h
  have hm : maxLen = 9223372036854775807 := rfl
  have hlen : (l.length : Int) ≤ 9223372036854775807 := by omega
  have HRD : Hid (∀ W, Below w.heap.size w W → kdR.rd W 0 w.heap.size (.slice A l.length c) l) := Lib.hid fun W hW => rd_below h hW (Nat.le_refl _)
  have H0 : Hid ((l.length : Int) = w64 (l.length + wordsN (l.take 0))) := Lib.hid (by rw [List.take_zero]; exact w64_len (n := l.length) (by omega))
  clear h hc1 hc2 hm
  go_enter Tryz.func123, Tryz.ntmps123
  go_wp2
  go_loopw [3, 10] (fun v3 i wr => ∃ k : Nat, k ≤ l.length ∧ i = .int .i64 k ∧ v3 = .int .i64 (w64 (l.length + wordsN (l.take k))) ∧ Below w.heap.size w wr) (fun _ i _ => l.length - (intOf i).toNat)
  case atStart => exact ⟨0, by omega, rfl, by rw [← H0.out], Below.refl _ _⟩
  case round =>
    obtain ⟨k, hk, rfl, rfl, hnx⟩ := hrel
    by_cases hlt : k < l.length
    · obtain ⟨b, off, u, rfl, hb1, hb2, hu, hcell⟩ := fmR.rd_at (HRD.out _ hnx) hlt
      have c0 := hcell 0 _ rfl
      have c1 := hcell 1 _ rfl
      have c2 := hcell 2 _ rfl
      rw [show off + (k * fmR.size + 0) = off + k * 3 from rfl] at c0
      rw [show off + (k * fmR.size + 1) = off + k * 3 + 1 from by show off + (k * 3 + 1) = _; omega] at c1
      rw [show off + (k * fmR.size + 2) = off + k * 3 + 2 from by show off + (k * 3 + 2) = _; omega] at c2
      have hu' : kdW.rd wr 0 w.heap.size u l[k].words := hu
      obtain ⟨A1, cc1, rfl, hq1, hq2⟩ := rdW_form hu'
      have hk0 : (0 : Int) ≤ (k : Int) := by omega
      have hzz := hnx.size
      have hs : Hid (w64 (l.length + wordsN (l.take (k + 1))) = RowKit.wrap64 (w64 (l.length + wordsN (l.take k)) + (l[k].words.length : Int))) := Lib.hid (by rw [words_take_succ hlt, w64_add, Nat.add_assoc])
      have hs2 : Hid (w64 (l.length + wordsN (l.take (k + 1))) = IntKind.i64.wrap (w64 (l.length + wordsN (l.take k)) + (l[k].words.length : Int))) := Lib.hid (by rw [words_take_succ hlt, w64_add', Nat.add_assoc])
      clear hcell hu hu'
      generalize w64 (l.length + wordsN (l.take k)) = n0 at *
      go_wp2
      go_roundw
      case rel => exact ⟨k + 1, by omega, by go_num, (by first | (rw [hs.out]; done) | (rw [hs2.out]; done) | (rw [hs.out]; rfl) | (rw [hs2.out]; rfl) | simp [hs.out, hs2.out]), hnx.alloc hzz _⟩
      case measure => simp [intOf] <;> omega
    · obtain rfl : k = l.length := by omega
      have HQ : Hid (wordsN (l.take l.length) = wordsN l) := Lib.hid (by rw [List.take_length])
      go_wp2
      go_ret
      exact ⟨by first | rfl | (rw [HQ.out]; done) | (rw [HQ.out]; rfl), hnx⟩

theorem w64_w64 (a b : Nat) : IntKind.i64.wrap (w64 a + w64 b) = w64 (a + b) := by rw [IntKind.wrap_i64]; unfold w64 RowKit.wrap64; omega
set_option maxHeartbeats 4000000 in
set_option maxRecDepth 100000 in
theorem rThingsC (x : Vs) (p : PolD) (w : World) (h : RdP w 0 w.heap.size x p) : Calls Tryz.prog 60 #[polV x p] w fun e w' => e = .returned (.int .i64 (w64 (thingsN p))) ∧ Below w.heap.size w w' := by
  obtain ⟨A1, c1, A2, c2, A3, c3, A4, c4, rfl, q1, q2, q3, q4, q5, q6, q7, q8⟩ := h.form
  have hm : maxLen = 9223372036854775807 := rfl
  have hlen : (p.els.length : Int) ≤ 9223372036854775807 := by omega
  have HRD : Hid (∀ W, Below w.heap.size w W → kdE.rd W 0 w.heap.size (.slice A1 p.els.length c1) p.els) := Lib.hid fun W hW => (h.stay (stay_below hW (Nat.le_refl _))).1
  have HCN : Hid (∀ W l v, kdR.rd W 0 W.heap.size v l → Calls Tryz.prog 123 #[v] W fun e w' => e = .returned (.int .i64 (w64 (l.length + wordsN l))) ∧ Below W.heap.size W w') := Lib.hid fun W l v hv => rCountC l v W hv
  have HG : Hid (∀ W, Below w.heap.size w W → Calls Tryz.prog 123 #[.slice A2 p.glob.length c2] W fun e w' => e = .returned (.int .i64 (w64 (p.glob.length + wordsN p.glob))) ∧ Below W.heap.size W w') := Lib.hid fun W hW => rCountC p.glob _ W (kdR.wide (rd_below h.2.1 hW (Nat.le_refl _)) (Nat.le_refl _) hW.size)
  clear h q1 q2 q3 q4 q5 q6 q7 q8 hm
  unfold polV
  obtain ⟨W0, hW0⟩ : ∃ W, W = w.alloc (.cells #[.slice A1 p.els.length c1, .slice A2 p.glob.length c2, .slice A3 p.schemes.length c3, .bool p.rel, .slice A4 p.drop.length c4, .int .i64 p.depth, .int .i64 p.window] 29) := ⟨_, rfl⟩
  have hb0 : Below w.heap.size w W0 := hW0 ▸ (Below.refl _ _).alloc (Nat.le_refl _) _
  have k0 : Bl W0 w.heap.size 29 [.slice A1 p.els.length c1, .slice A2 p.glob.length c2, .slice A3 p.schemes.length c3, .bool p.rel, .slice A4 p.drop.length c4, .int .i64 p.depth, .int .i64 p.window] := hW0 ▸ Bl.new w _ _ rfl
  have g0 := k0.cell 0 rfl
  have g1 := k0.cell 1 rfl
  have g2 := k0.cell 2 rfl
  have g4 := k0.cell 4 rfl
  have HX0 := Lib.hid hW0
  clear hW0
  have hz0 := hb0.size
  go_enter Tryz.func60, Tryz.ntmps60
  go_upto_region 1 with fail
  rw [← HX0.out]
  go_region_held3 (fun W' => W'.cell? ⟨w.heap.size, 0, none⟩ = some (.slice A1 p.els.length c1) ∧ W'.cell? ⟨w.heap.size, 1, none⟩ = some (.slice A2 p.glob.length c2) ∧ W'.cell? ⟨w.heap.size, 2, none⟩ = some (.slice A3 p.schemes.length c3) ∧ W'.cell? ⟨w.heap.size, 4, none⟩ = some (.slice A4 p.drop.length c4))
    (first | exact ⟨g0, g1, g2, g4⟩ | exact HS.out)
    (first | (go_at_call 123; refine (HG.out _ (by exact hb0.drew)).mono ?_; rintro e w1 ⟨rfl, hb1⟩; have h1 : Below W0.heap.size W0 w1 := (drw W0 1).trans hb1; have HS : Hid (w1.cell? ⟨w.heap.size, 0, none⟩ = some (.slice A1 p.els.length c1) ∧ w1.cell? ⟨w.heap.size, 1, none⟩ = some (.slice A2 p.glob.length c2) ∧ w1.cell? ⟨w.heap.size, 2, none⟩ = some (.slice A3 p.schemes.length c3) ∧ w1.cell? ⟨w.heap.size, 4, none⟩ = some (.slice A4 p.drop.length c4)) := Lib.hid ⟨(k0.below h1).cell 0 rfl, (k0.below h1).cell 1 rfl, (k0.below h1).cell 2 rfl, (k0.below h1).cell 4 rfl⟩))
  have HSUM : Hid (IntKind.i64.wrap (IntKind.i64.wrap (IntKind.i64.wrap ((p.els.length : Int) + (p.schemes.length : Int)) + (p.drop.length : Int)) + w64 (p.glob.length + wordsN p.glob)) = w64 (p.els.length + p.schemes.length + p.drop.length + (p.glob.length + wordsN p.glob))) := Lib.hid (by
    rw [w64_two', w64_add', w64_w64])
  have HTH : Hid (p.els.length + p.schemes.length + p.drop.length + (p.glob.length + wordsN p.glob) + elsN p.els = thingsN p) := Lib.hid (by unfold thingsN; omega)
  obtain ⟨bs, hbs⟩ : ∃ bs, bs = p.els.length + p.schemes.length + p.drop.length + (p.glob.length + wordsN p.glob) := ⟨_, rfl⟩
  rw [← hbs] at HSUM HTH
  clear hbs g0 g1 g2 g4
  all_goals (
    rw [HSUM.out]
    have h1w := hb0.trans (h1.mono hz0)
    have j0 := (k0.below h1).cell 0 rfl
    go_wp2
    go_loopw [3, 24] (fun v3 i wr => ∃ k : Nat, k ≤ p.els.length ∧ i = .int .i64 k ∧ v3 = .int .i64 (w64 (bs + elsN (p.els.take k))) ∧ Below w.heap.size w wr) (fun _ i _ => p.els.length - (intOf i).toNat)
    case atStart => exact ⟨0, by omega, rfl, by rw [List.take_zero]; rfl, h1w⟩
    case round =>
      clear j0
      obtain ⟨k, hk, rfl, rfl, hnx⟩ := hrel
      by_cases hlt : k < p.els.length
      · obtain ⟨b, off, u, rfl, _, hb2, hu, hcell⟩ := fmE.rd_at (HRD.out _ hnx) hlt
        have x0 := hcell 0 _ rfl
        have x1 := hcell 1 _ rfl
        rw [show off + (k * fmE.size + 0) = off + k * 2 from rfl] at x0
        rw [show off + (k * fmE.size + 1) = off + k * 2 + 1 from by show off + (k * 2 + 1) = _; omega] at x1
        have hu' : kdR.rd wr 0 w.heap.size u p.els[k].rules := hu
        obtain ⟨A5, c5, rfl, _⟩ := fmR.rd_form hu'
        have hk0 : (0 : Int) ≤ (k : Int) := by omega
        have hk1 : (k : Int) < (p.els.length : Int) := by omega
        have hzz := hnx.size
        have hs : Hid (w64 (bs + elsN (p.els.take (k + 1))) = IntKind.i64.wrap (w64 (bs + elsN (p.els.take k)) + w64 (p.els[k].rules.length + wordsN p.els[k].rules))) := Lib.hid (by rw [els_take_succ hlt, w64_w64, Nat.add_assoc])
        obtain ⟨W2, hW2⟩ : ∃ W, W = wr.alloc (.cells #[.string p.els[k].name, .slice A5 p.els[k].rules.length c5] 45) := ⟨_, rfl⟩
        have hb3 : Below wr.heap.size wr W2 := hW2 ▸ (Below.refl _ _).alloc (Nat.le_refl _) _
        have HC := Lib.hid (HCN.out W2 p.els[k].rules (.slice A5 p.els[k].rules.length c5) (kdR.wide (rd_below hu' hb3 (Nat.le_trans hzz (Nat.le_refl _))) (Nat.le_refl _) (Nat.le_trans hzz hb3.size)))
        have k5 : Bl W2 wr.heap.size 45 [.string p.els[k].name, .slice A5 p.els[k].rules.length c5] := hW2 ▸ Bl.new wr _ _ rfl
        have y1 := k5.cell 1 rfl
        have HW2 := Lib.hid hW2
        have hsub : fmE.sub p.els[k] = p.els[k].rules := rfl
        clear hcell hu hu' hW2 k5
        generalize w64 (bs + elsN (p.els.take k)) = n0 at *
        generalize w64 (p.els[k].rules.length + wordsN p.els[k].rules) = n1 at *
        go_upto_region 5 with fail
        rw [← HW2.out]
        clear x0 x1
        go_wp2_with (go_at_call 123; refine HC.out.mono ?_; rintro e w4 ⟨rfl, hb4⟩)
        go_roundw
        case rel => exact ⟨k + 1, by omega, by go_num, (by first | rfl | (rw [hs.out]; done) | (rw [hs.out, IntKind.wrap_i64]; congr 1; unfold RowKit.wrap64; omega)), hnx.trans ((hb3.trans (hb4.mono hb3.size)).mono hzz)⟩
        case measure => simp [intOf] <;> omega
      · obtain rfl : k = p.els.length := by omega
        have HQ : Hid (w64 (bs + elsN (p.els.take p.els.length)) = w64 (thingsN p)) := Lib.hid (by rw [List.take_length, HTH.out])
        rw [HQ.out]
        go_wp2
        go_ret
        exact ⟨rfl, hnx⟩)
end Go.Proofs.YteikagdinecfoaaGreatDoor.Rg
