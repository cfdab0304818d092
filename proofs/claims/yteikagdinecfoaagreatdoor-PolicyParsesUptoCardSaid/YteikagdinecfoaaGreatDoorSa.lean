/- The law's same: two policies that read alike are the same. -/
import Derived.Test.YteikagdinecfoaaGreatDoorSp
set_option linter.unusedVariables false
set_option linter.unusedSimpArgs false
namespace Go.Proofs.YteikagdinecfoaaGreatDoor.Sa
open Go.RowKit Lb Gr Pd Fl Go.Proofs.YteikagdinecfoaaGreatDoor.Pm Bk Tx
attribute [local go_sem ↓] Go.wp_at_zero Go.wp_at_succ

set_option maxHeartbeats 8000000 in
set_option maxRecDepth 100000 in
theorem lSameC (x y : Vs) (p : PolD) (w : World) (h : RdP w 0 w.heap.size x p) (h2 : RdP w 0 w.heap.size y p) : Calls Tryz.prog 23 #[polV x p, polV y p] w fun e w' => e = .returned (.bool true) ∧ Below w.heap.size w w' := by
  have HRU : Hid (∀ W, Below w.heap.size w W → Calls Tryz.prog 33 #[x.g, y.g] W fun e w' => e = .returned (.bool true) ∧ Below W.heap.size W w') :=
    Lib.hid fun W hW => lRules p.glob _ _ W (kdR.wide (rd_below h.2.1 hW (Nat.le_refl _)) (Nat.le_refl _) hW.size) (kdR.wide (rd_below h2.2.1 hW (Nat.le_refl _)) (Nat.le_refl _) hW.size)
  have HTS : Hid (∀ W, Below w.heap.size w W → Calls Tryz.prog 41 #[x.s, y.s] W fun e w' => e = .returned (.bool true) ∧ Below W.heap.size W w') :=
    Lib.hid fun W hW => lTexts p.schemes _ _ W (kdW.wide (rd_below h.2.2.1 hW (Nat.le_refl _)) (Nat.le_refl _) hW.size) (kdW.wide (rd_below h2.2.2.1 hW (Nat.le_refl _)) (Nat.le_refl _) hW.size)
  have HTD : Hid (∀ W, Below w.heap.size w W → Calls Tryz.prog 41 #[x.d, y.d] W fun e w' => e = .returned (.bool true) ∧ Below W.heap.size W w') :=
    Lib.hid fun W hW => lTexts p.drop _ _ W (kdW.wide (rd_below h.2.2.2 hW (Nat.le_refl _)) (Nat.le_refl _) hW.size) (kdW.wide (rd_below h2.2.2.2 hW (Nat.le_refl _)) (Nat.le_refl _) hW.size)
  have HX : Hid (∀ W, Below w.heap.size w W → kdE.rd W 0 w.heap.size x.e p.els) := Lib.hid fun W hW => rd_below h.1 hW (Nat.le_refl _)
  have HY : Hid (∀ W, Below w.heap.size w W → kdE.rd W 0 w.heap.size y.e p.els) := Lib.hid fun W hW => rd_below h2.1 hW (Nat.le_refl _)
  have HRR : Hid (∀ W l u v, kdR.rd W 0 W.heap.size u l → kdR.rd W 0 W.heap.size v l → Calls Tryz.prog 33 #[u, v] W fun e w' => e = .returned (.bool true) ∧ Below W.heap.size W w') := Lib.hid fun W l u v h1 h2 => lRules l u v W h1 h2
  obtain ⟨A1, c1, A2, c2, A3, c3, A4, c4, rfl, q1, q2, q3, q4, q5, q6, q7, q8⟩ := h.form
  obtain ⟨B1, d1, B2, d2, B3, d3, B4, d4, rfl, p1, p2, p3, p4, p5, p6, p7, p8⟩ := h2.form
  clear h h2
  unfold polV
  simp only at HRU HTS HTD HX HY
  have hm : maxLen = 9223372036854775807 := rfl
  have hn : (p.els.length : Int) ≤ 9223372036854775807 := by omega
  have e0 : ((p.els.length : Int) != (p.els.length : Int)) = false := by simp
  have e1 : (p.rel != p.rel) = false := by simp
  have e2 : (p.depth != p.depth) = false := by simp
  have e3 : (p.window != p.window) = false := by simp
  obtain ⟨W0, hW0⟩ : ∃ W, W = (w.alloc (.cells #[.slice A1 p.els.length c1, .slice A2 p.glob.length c2, .slice A3 p.schemes.length c3, .bool p.rel, .slice A4 p.drop.length c4, .int .i64 p.depth, .int .i64 p.window] 29)).alloc (.cells #[.slice B1 p.els.length d1, .slice B2 p.glob.length d2, .slice B3 p.schemes.length d3, .bool p.rel, .slice B4 p.drop.length d4, .int .i64 p.depth, .int .i64 p.window] 29) := ⟨_, rfl⟩
  have hb0 : Below w.heap.size w W0 := hW0 ▸ ((Below.refl _ _).alloc (Nat.le_refl _) _).alloc (by simp) _
  have k0 : Bl W0 w.heap.size 29 [.slice A1 p.els.length c1, .slice A2 p.glob.length c2, .slice A3 p.schemes.length c3, .bool p.rel, .slice A4 p.drop.length c4, .int .i64 p.depth, .int .i64 p.window] := hW0 ▸ (Bl.new w _ _ rfl).alloc _
  have k1 : Bl W0 (w.heap.size + 1) 29 [.slice B1 p.els.length d1, .slice B2 p.glob.length d2, .slice B3 p.schemes.length d3, .bool p.rel, .slice B4 p.drop.length d4, .int .i64 p.depth, .int .i64 p.window] := hW0 ▸ Bl.new _ _ _ (by simp)
  have hz0 := hb0.size
  have HK : Hid (∀ W, Below W0.heap.size W0 W → Below w.heap.size w W ∧ (W.cell? ⟨w.heap.size, 0, none⟩ = some (.slice A1 p.els.length c1) ∧ W.cell? ⟨w.heap.size, 1, none⟩ = some (.slice A2 p.glob.length c2) ∧ W.cell? ⟨w.heap.size, 2, none⟩ = some (.slice A3 p.schemes.length c3) ∧ W.cell? ⟨w.heap.size, 3, none⟩ = some (.bool p.rel) ∧ W.cell? ⟨w.heap.size, 4, none⟩ = some (.slice A4 p.drop.length c4) ∧ W.cell? ⟨w.heap.size, 5, none⟩ = some (.int .i64 p.depth) ∧ W.cell? ⟨w.heap.size, 6, none⟩ = some (.int .i64 p.window)) ∧
      (W.cell? ⟨w.heap.size + 1, 0, none⟩ = some (.slice B1 p.els.length d1) ∧ W.cell? ⟨w.heap.size + 1, 1, none⟩ = some (.slice B2 p.glob.length d2) ∧ W.cell? ⟨w.heap.size + 1, 2, none⟩ = some (.slice B3 p.schemes.length d3) ∧ W.cell? ⟨w.heap.size + 1, 3, none⟩ = some (.bool p.rel) ∧ W.cell? ⟨w.heap.size + 1, 4, none⟩ = some (.slice B4 p.drop.length d4) ∧ W.cell? ⟨w.heap.size + 1, 5, none⟩ = some (.int .i64 p.depth) ∧ W.cell? ⟨w.heap.size + 1, 6, none⟩ = some (.int .i64 p.window))) := Lib.hid fun W hW => by
    have j0 := k0.below hW
    have j1 := k1.below hW
    exact ⟨hb0.trans (hW.mono hz0), ⟨j0.cell 0 rfl, j0.cell 1 rfl, j0.cell 2 rfl, j0.cell 3 rfl, j0.cell 4 rfl, j0.cell 5 rfl, j0.cell 6 rfl⟩, j1.cell 0 rfl, j1.cell 1 rfl, j1.cell 2 rfl, j1.cell 3 rfl, j1.cell 4 rfl, j1.cell 5 rfl, j1.cell 6 rfl⟩
  have h00 := Below.refl W0.heap.size W0
  obtain ⟨_, ⟨a0, a1, a2, a3, a4, a5, a6⟩, b0, b1, b2, b3, b4, b5, b6⟩ := HK.out _ h00
  have HX0 := Lib.hid hW0
  clear hW0 k0 k1 hm
  go_enter Tryz.func23, Tryz.ntmps23
  go_upto_region 1 with fail
  rw [← HX0.out]
  go_upto_region 3 with (first
    | (go_at_call 33; refine (HRU.out _ hb0).mono ?_; rintro e w1 ⟨rfl, hb1⟩; obtain ⟨hw1, ⟨f0, f1, f2, f3, f4, f5, f6⟩, g0, g1, g2, g3, g4, g5, g6⟩ := HK.out _ hb1)
    | (go_at_call 41; have _z := hc2; refine (HTD.out _ hw2).mono ?_; rintro e w3 ⟨rfl, hb3⟩; have hc3 : Below W0.heap.size W0 w3 := hc2.trans (hb3.mono hc2.size); obtain ⟨hw3, ⟨j0, j1, j2, j3, j4, j5, j6⟩, l0, l1, l2, l3, l4, l5, l6⟩ := HK.out _ hc3)
    | (go_at_call 41; refine (HTS.out _ hw1).mono ?_; rintro e w2 ⟨rfl, hb2⟩; have hc2 : Below W0.heap.size W0 w2 := hb1.trans (hb2.mono hb1.size); obtain ⟨hw2, ⟨h0, h1, h2, h3, h4, h5, h6⟩, i0, i1, i2, i3, i4, i5, i6⟩ := HK.out _ hc2))
  clear a0 a1 a2 a3 a4 a5 a6 b0 b1 b2 b3 b4 b5 b6 f0 f1 f2 f3 f4 f5 f6 g0 g1 g2 g3 g4 g5 g6 h0 h1 h2 h3 h4 h5 h6 i0 i1 i2 i3 i4 i5 i6
  go_wp2
  go_loopw [61] (fun i wr => ∃ k : Nat, k ≤ p.els.length ∧ i = .int .i64 k ∧ Below W0.heap.size W0 wr) (fun i _ => p.els.length - (intOf i).toNat)
  case atStart => exact ⟨0, by omega, rfl, hc3⟩
  case round =>
    obtain ⟨k, hk, rfl, hnx⟩ := hrel
    obtain ⟨hwr, ⟨a0, _⟩, b0, _⟩ := HK.out _ hnx
    by_cases hlt : k < p.els.length
    · have hzz := hnx.size
      obtain ⟨t1, o1, u1, rfl, _, hb1, hu1, hcell1⟩ := fmE.rd_at (HX.out _ hwr) hlt
      obtain ⟨t2, o2, u2, rfl, _, hb2, hu2, hcell2⟩ := fmE.rd_at (HY.out _ hwr) hlt
      have m0 := hcell1 0 _ rfl
      have m1 := hcell1 1 _ rfl
      have n0 := hcell2 0 _ rfl
      have n1 := hcell2 1 _ rfl
      rw [show o1 + (k * fmE.size + 0) = o1 + k * 2 from rfl] at m0
      rw [show o1 + (k * fmE.size + 1) = o1 + k * 2 + 1 from by show o1 + (k * 2 + 1) = _; omega] at m1
      rw [show o2 + (k * fmE.size + 0) = o2 + k * 2 from rfl] at n0
      rw [show o2 + (k * fmE.size + 1) = o2 + k * 2 + 1 from by show o2 + (k * 2 + 1) = _; omega] at n1
      have hu1' : kdR.rd wr 0 w.heap.size u1 p.els[k].rules := hu1
      have hu2' : kdR.rd wr 0 w.heap.size u2 p.els[k].rules := hu2
      have hzr := hwr.size
      have HC : Hid (Calls Tryz.prog 33 #[u1, u2] wr.drew fun e w' => e = .returned (.bool true) ∧ Below wr.drew.heap.size wr.drew w') :=
        Lib.hid (HRR.out wr.drew _ _ _ (kdR.wide (kdR.stay hu1' fun _ _ _ => rfl) (Nat.le_refl _) hzr) (kdR.wide (kdR.stay hu2' fun _ _ _ => rfl) (Nat.le_refl _) hzr))
      obtain ⟨C1, r1, rfl, _⟩ := fmR.rd_form hu1'
      obtain ⟨C2, r2, rfl, _⟩ := fmR.rd_form hu2'
      clear hu1 hu2 hu1' hu2' hcell1 hcell2
      obtain ⟨en, hen⟩ : ∃ en, en = p.els[k].name := ⟨_, rfl⟩
      rw [← hen] at m0 n0
      clear hen
      have he := toList_eq_of (a := en) (b := en) rfl
      have hk0 : (0 : Int) ≤ (k : Int) := by omega
      have hk1 : (k : Int) < (p.els.length : Int) := by omega
      go_upto_region 6 with fail
      have hzz2 := hzz
      go_region_held3 (fun W' => W'.cell? ⟨w.heap.size, 0, none⟩ = some (.slice (some ⟨t1, o1, none⟩) p.els.length c1) ∧ W'.cell? ⟨w.heap.size + 1, 0, none⟩ = some (.slice (some ⟨t2, o2, none⟩) p.els.length d1) ∧ W'.cell? ⟨t1, o1 + k * 2, none⟩ = some (.string en) ∧ W'.cell? ⟨t1, o1 + k * 2 + 1, none⟩ = some (.slice C1 p.els[k].rules.length r1) ∧ W'.cell? ⟨t2, o2 + k * 2, none⟩ = some (.string en) ∧ W'.cell? ⟨t2, o2 + k * 2 + 1, none⟩ = some (.slice C2 p.els[k].rules.length r2))
        (first | exact ⟨a0, b0, m0, m1, n0, n1⟩ | exact HS.out)
        (first | (go_at_call 33; refine HC.out.mono ?_; rintro e w5 ⟨rfl, hb5⟩; have hd5 : Below wr.heap.size wr w5 := (drw wr 1).trans hb5; have HS : Hid (w5.cell? ⟨w.heap.size, 0, none⟩ = some (.slice (some ⟨t1, o1, none⟩) p.els.length c1) ∧ w5.cell? ⟨w.heap.size + 1, 0, none⟩ = some (.slice (some ⟨t2, o2, none⟩) p.els.length d1) ∧ w5.cell? ⟨t1, o1 + k * 2, none⟩ = some (.string en) ∧ w5.cell? ⟨t1, o1 + k * 2 + 1, none⟩ = some (.slice C1 p.els[k].rules.length r1) ∧ w5.cell? ⟨t2, o2 + k * 2, none⟩ = some (.string en) ∧ w5.cell? ⟨t2, o2 + k * 2 + 1, none⟩ = some (.slice C2 p.els[k].rules.length r2)) := Lib.hid ⟨(HK.out _ (hnx.trans (hd5.mono hzz))).2.1.1, (HK.out _ (hnx.trans (hd5.mono hzz))).2.2.1, (hd5.cell (p := ⟨t1, o1 + k * 2, none⟩) (Nat.lt_of_lt_of_le hb1 hzr)).trans m0, (hd5.cell (p := ⟨t1, o1 + k * 2 + 1, none⟩) (Nat.lt_of_lt_of_le hb1 hzr)).trans m1, (hd5.cell (p := ⟨t2, o2 + k * 2, none⟩) (Nat.lt_of_lt_of_le hb2 hzr)).trans n0, (hd5.cell (p := ⟨t2, o2 + k * 2 + 1, none⟩) (Nat.lt_of_lt_of_le hb2 hzr)).trans n1⟩))
      all_goals go_wp2
      all_goals go_roundw
      all_goals first | (exact ⟨k + 1, by omega, by go_num, (hnx.trans ((drw wr 1).mono hzz)).trans (hb5.mono hzz)⟩) | (simp [intOf] <;> omega)
    · go_wp2
      go_ret
      exact ⟨rfl, hwr⟩
end Go.Proofs.YteikagdinecfoaaGreatDoor.Sa
