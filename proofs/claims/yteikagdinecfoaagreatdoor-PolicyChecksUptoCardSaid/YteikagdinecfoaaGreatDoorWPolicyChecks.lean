/- The walk of PolicyChecks: what is wrong with any policy; in order; its text. -/
import Derived.Test.YteikagdinecfoaaGreatDoorWPolicyShut
import Derived.Test.YteikagdinecfoaaGreatDoorOw
import Derived.Test.YteikagdinecfoaaGreatDoorWr
import Derived.Test.YteikagdinecfoaaGreatDoorRk
import Derived.Test.YteikagdinecfoaaGreatDoorRp
import Derived.Test.YteikagdinecfoaaGreatDoorPf
set_option linter.unusedVariables false
set_option linter.unusedSimpArgs false
namespace Go.Proofs.YteikagdinecfoaaGreatDoor.policyChecks
open Go.RowKit Lb Gr Pd Fl Go.Proofs.YteikagdinecfoaaGreatDoor.Pm Bk Ru Co Sa Tx Go.Proofs.YteikagdinecfoaaGreatDoor.Ck Go.Proofs.YteikagdinecfoaaGreatDoor.Ty Go.Proofs.YteikagdinecfoaaGreatDoor.Vd Go.Proofs.YteikagdinecfoaaGreatDoor.Or Go.Proofs.YteikagdinecfoaaGreatDoor.Ch Go.Proofs.YteikagdinecfoaaGreatDoor.Pl Go.Proofs.YteikagdinecfoaaGreatDoor.Pp Go.Proofs.YteikagdinecfoaaGreatDoor.Aw Pa Fg Go.Proofs.YteikagdinecfoaaGreatDoor.Ow Go.Proofs.YteikagdinecfoaaGreatDoor.Wr Go.Proofs.YteikagdinecfoaaGreatDoor.Tt Go.Proofs.YteikagdinecfoaaGreatDoor.Rk Go.Proofs.YteikagdinecfoaaGreatDoor.Rp Pf
attribute [local go_sem ↓] Go.wp_at_zero Go.wp_at_succ

theorem cells7 {w : World} {g : Nat} {t : TypeId} {a0 a1 a2 a3 a4 a5 a6 : Value} (h : Bl w g t [a0, a1, a2, a3, a4, a5, a6]) : w.cell? ⟨g, 0, none⟩ = some a0 ∧ w.cell? ⟨g, 1, none⟩ = some a1 ∧ w.cell? ⟨g, 2, none⟩ = some a2 ∧ w.cell? ⟨g, 3, none⟩ = some a3 ∧ w.cell? ⟨g, 4, none⟩ = some a4 ∧ w.cell? ⟨g, 5, none⟩ = some a5 ∧ w.cell? ⟨g, 6, none⟩ = some a6 :=
  ⟨h.cell 0 rfl, h.cell 1 rfl, h.cell 2 rfl, h.cell 3 rfl, h.cell 4 rfl, h.cell 5 rfl, h.cell 6 rfl⟩

set_option maxHeartbeats 8000000 in
set_option maxRecDepth 100000 in
theorem walk (w : World) (hl : Laid w) (x : Vs) (p : PolD) (h : RdP w 0 w.heap.size x p) (hg : GdP p) (hbk : bP p ≤ 1048576) : Calls Tryz.prog 4 #[polV x p] w fun e w' => e = .returned (.bool true) ∧ Below w.heap.size w w' := by
  have hs := sized_of hg
  have hrw : ∀ W, Below w.heap.size w W → RdP W 0 W.heap.size x p := fun W hW => (h.stay (stay_below hW (Nat.le_refl _))).wide (Nat.le_refl _) hW.size
  have HA : Hid (∀ W, Below w.heap.size w W → Calls Tryz.prog 17 #[] W fun e w' => e = .returned (.bool true) ∧ Below W.heap.size W w') := Lib.hid fun W hW => awakeC W (hl.below hW)
  have HOW : Hid (∀ W, Below w.heap.size w W → Calls Tryz.prog 18 #[polV x p] W fun e w' => ∃ D1 e1 D2 e2 D3 e3 D4 e4 F, e = .returned (.agg #[.slice D1 p.els.length e1, .slice D2 p.glob.length e2, .slice D3 p.schemes.length e3, .bool p.rel, .slice D4 p.drop.length e4, .int .i64 p.depth, .int .i64 p.window]) ∧ OwnP w' W.heap.size ⟨.slice D1 p.els.length e1, .slice D2 p.glob.length e2, .slice D3 p.schemes.length e3, .slice D4 p.drop.length e4⟩ p F ∧ Below W.heap.size W w') := Lib.hid fun W hW => (ownC x p W (hrw W hW) hs.fit).mono fun e w' ⟨y, F, he, ho, hb⟩ => by
    obtain ⟨D1, e1, D2, e2, D3, e3, D4, e4, rfl, _⟩ := (ho.rd (lo := 0) (hi := w'.heap.size) (Nat.zero_le _) (Nat.le_refl _)).form
    exact ⟨D1, e1, D2, e2, D3, e3, D4, e4, F, he, ho, hb⟩
  obtain ⟨c, hc⟩ : ∃ c, c = checkI p := ⟨_, rfl⟩
  obtain ⟨q, hq⟩ : ∃ q, q = tidyQ p := ⟨_, rfl⟩
  obtain ⟨ps, hps⟩ : ∃ s, s = printQ p := ⟨_, rfl⟩
  have HRC : Hid (∀ W, Below w.heap.size w W → Calls Tryz.prog 19 #[polV x p] W fun e w' => e = .returned (.int .i64 c) ∧ Below W.heap.size W w') := Lib.hid fun W hW => by rw [hc]; exact rCheckC x p W (hrw W hW) hs.fit hs.ok
  have HCK : Hid (∀ W y, Below w.heap.size w W → RdP W 0 W.heap.size y p → Calls Tryz.prog 22 #[polV y p] W fun e w' => e = .returned (.int .i64 c) ∧ Below W.heap.size W w') := Lib.hid fun W y hW hy => by rw [hc]; exact CheckC y p W (hl.tab.below hW) (hl.nev.below hW) hy hs.ok
  have HTD : Hid (∀ W y, Below w.heap.size w W → RdP W 0 W.heap.size y p → Calls Tryz.prog 20 #[polV y p] W fun e w' => ∃ E1 f1 E2 f2 E3 f3 E4 f4 F, e = .returned (.tuple #[.agg #[.slice E1 q.els.length f1, .slice E2 q.glob.length f2, .slice E3 q.schemes.length f3, .bool q.rel, .slice E4 q.drop.length f4, .int .i64 q.depth, .int .i64 q.window], .int .i64 c]) ∧ OwnP w' W.heap.size ⟨.slice E1 q.els.length f1, .slice E2 q.glob.length f2, .slice E3 q.schemes.length f3, .slice E4 q.drop.length f4⟩ q F ∧ Below W.heap.size W w') := Lib.hid fun W y hW hy => (TidyC y p W (hl.tab.below hW) (hl.nev.below hW) hy hs).mono fun e w' ⟨y, F, he, ho, hb⟩ => by
    rw [← hq, ← hc] at he
    rw [← hq] at ho
    obtain ⟨E1, f1, E2, f2, E3, f3, E4, f4, rfl, _⟩ := (ho.rd (lo := 0) (hi := w'.heap.size) (Nat.zero_le _) (Nat.le_refl _)).form
    exact ⟨E1, f1, E2, f2, E3, f3, E4, f4, F, he, ho, hb⟩
  have HPR : Hid (∀ W y, Below w.heap.size w W → RdP W 0 W.heap.size y p → Calls Tryz.prog 21 #[polV y p] W fun e w' => e = .returned (.tuple #[.string ps, .int .i64 c]) ∧ Below W.heap.size W w') := Lib.hid fun W y hW hy => by rw [hps, hc]; exact PrintC y p W (hl.tab.below hW) (hl.nev.below hW) (hl.pow.below hW) hy hs fun h0 => (prok_of hg h0 hbk).1
  have HTR : Hid (c = 0 → q = tidyP p ∧ (∀ W, Below w.heap.size w W → Calls Tryz.prog 24 #[polV x p] W fun e w' => ∃ H1 h1 H2 h2 H3 h3 H4 h4, e = .returned (.agg #[.slice H1 q.els.length h1, .slice H2 q.glob.length h2, .slice H3 q.schemes.length h3, .bool q.rel, .slice H4 q.drop.length h4, .int .i64 q.depth, .int .i64 q.window]) ∧ RdP w' W.heap.size w'.heap.size ⟨.slice H1 q.els.length h1, .slice H2 q.glob.length h2, .slice H3 q.schemes.length h3, .slice H4 q.drop.length h4⟩ q ∧ Below W.heap.size W w') ∧ (∀ W, Below w.heap.size w W → Calls Tryz.prog 25 #[polV x p] W fun e w' => e = .returned (.string ps) ∧ Below W.heap.size W w')) := Lib.hid fun h0 => by
    have h1 : checkI p = 0 := by rw [← hc]; exact h0
    have h2 : q = tidyP p := by rw [hq]; unfold tidyQ; rw [if_pos h1]
    have hd := (valid_of h1).dif
    obtain ⟨g1, g2, g3⟩ := prok_of hg h1 hbk
    refine ⟨h2, fun W hW => (rTidyC x p W (hrw W hW) hs.fit hd hs.okv).mono fun e w' ⟨y, he, ho, hb⟩ => ?_, fun W hW => ?_⟩
    · rw [← h2] at he ho
      obtain ⟨H1, h1, H2, h2, H3, h3, H4, h4, rfl, _⟩ := ho.form
      exact ⟨H1, h1, H2, h2, H3, h3, H4, h4, he, ho, hb⟩
    · have e1 : ps = str (printL (tidyP p)) := by rw [hps]; unfold printQ; rw [if_pos h1]
      rw [e1]
      exact rPrintC x p W (hrw W hW) hs.fit hd hs.okv g1 ⟨g2.1, by omega⟩ ⟨g3.1, by omega⟩
  have HZ : Hid (c ≠ 0 → q = zeroP ∧ ps = str []) := Lib.hid fun h0 => by
    have h1 : checkI p ≠ 0 := by rw [← hc]; exact h0
    exact ⟨by rw [hq]; unfold tidyQ; rw [if_neg h1], by rw [hps]; unfold printQ; rw [if_neg h1]⟩
  have HSM : Hid (∀ W q y y2, RdP W 0 W.heap.size y q → RdP W 0 W.heap.size y2 q → Calls Tryz.prog 23 #[polV y q, polV y2 q] W fun e w' => e = .returned (.bool true) ∧ Below W.heap.size W w') := Lib.hid fun W q y y2 h1 h2 => lSameC y y2 q W h1 h2
  have HSB : Hid (c = 0 → Spb q) := Lib.hid fun h0 => by
    have h1 : checkI p = 0 := by rw [← hc]; exact h0
    rw [hq]; unfold tidyQ; rw [if_pos h1]
    exact spb_tidy hg
  have HSP : Hid (∀ W B y F, Spb q → OwnP W B y q F → Calls Tryz.prog 26 #[polV y q] W fun e w' => e = .returned (.tuple #[]) ∧ Fr F W w') := Lib.hid fun W B y F h9 ho => spoilC W ho h9
  obtain ⟨A1, c1, A2, c2, A3, c3, A4, c4, rfl, _⟩ := h.form
  have HX := Lib.hid h
  have HPP : Hid (∀ W, Below w.heap.size w W → RdP W 0 W.heap.size ⟨.slice A1 p.els.length c1, .slice A2 p.glob.length c2, .slice A3 p.schemes.length c3, .slice A4 p.drop.length c4⟩ p) := Lib.hid hrw
  unfold polV at HOW HRC HCK HTD HPR HTR HSM HSP ⊢
  simp only at HOW HRC HTR ⊢
  clear hs hrw hl h hg hbk hc hq hps
  obtain ⟨W0, hW0⟩ : ∃ W, W = w.alloc (.cells #[.slice A1 p.els.length c1, .slice A2 p.glob.length c2, .slice A3 p.schemes.length c3, .bool p.rel, .slice A4 p.drop.length c4, .int .i64 p.depth, .int .i64 p.window] 29) := ⟨_, rfl⟩
  have hb0 : Below w.heap.size w W0 := hW0 ▸ (Below.refl _ _).alloc (Nat.le_refl _) _
  have kP : Bl W0 w.heap.size 29 [.slice A1 p.els.length c1, .slice A2 p.glob.length c2, .slice A3 p.schemes.length c3, .bool p.rel, .slice A4 p.drop.length c4, .int .i64 p.depth, .int .i64 p.window] := hW0 ▸ Bl.new w _ _ rfl
  have hz0 := hb0.size
  have HKP : Hid (∀ W, Below W0.heap.size W0 W → W.cell? ⟨w.heap.size, 0, none⟩ = some (.slice A1 p.els.length c1) ∧ W.cell? ⟨w.heap.size, 1, none⟩ = some (.slice A2 p.glob.length c2) ∧ W.cell? ⟨w.heap.size, 2, none⟩ = some (.slice A3 p.schemes.length c3) ∧ W.cell? ⟨w.heap.size, 3, none⟩ = some (.bool p.rel) ∧ W.cell? ⟨w.heap.size, 4, none⟩ = some (.slice A4 p.drop.length c4) ∧ W.cell? ⟨w.heap.size, 5, none⟩ = some (.int .i64 p.depth) ∧ W.cell? ⟨w.heap.size, 6, none⟩ = some (.int .i64 p.window)) := Lib.hid fun W hW => cells7 (kP.below hW)
  obtain ⟨a0, a1, a2, a3, a4, a5, a6⟩ := HKP.out _ (Below.refl _ _)
  have HX0 := Lib.hid hW0
  clear hW0 kP
  go_enter Tryz.func4, Tryz.ntmps4
  go_upto_region 1 with fail
  rw [← HX0.out]
  go_upto_region 2 with (go_at_call 18; refine (HOW.out _ hb0).mono ?_; rintro e w1 ⟨D1, e1, D2, e2, D3, e3, D4, e4, F0, rfl, ho1, hb1⟩)
  clear a0 a1 a2 a3 a4 a5 a6
  obtain ⟨W1, hW1⟩ : ∃ W, W = w1.alloc (.cells #[.slice D1 p.els.length e1, .slice D2 p.glob.length e2, .slice D3 p.schemes.length e3, .bool p.rel, .slice D4 p.drop.length e4, .int .i64 p.depth, .int .i64 p.window] 29) := ⟨_, rfl⟩
  have hc1 : Below W0.heap.size W0 W1 := hW1 ▸ hb1.alloc hb1.size _
  have kB1 : Bl W1 w1.heap.size 29 [.slice D1 p.els.length e1, .slice D2 p.glob.length e2, .slice D3 p.schemes.length e3, .bool p.rel, .slice D4 p.drop.length e4, .int .i64 p.depth, .int .i64 p.window] := hW1 ▸ Bl.new w1 _ _ rfl
  have hz1 := hb1.size
  have hy1 : W1.heap.size = w1.heap.size + 1 := by rw [hW1]; simp
  have hF1 : ∀ k ∈ F0, W0.heap.size ≤ k ∧ k < w1.heap.size := ho1.ge
  have og1 : OwnP W1 W0.heap.size ⟨.slice D1 p.els.length e1, .slice D2 p.glob.length e2, .slice D3 p.schemes.length e3, .slice D4 p.drop.length e4⟩ p F0 := ho1.keep (by omega) fun k hk => by rw [hW1]; exact Below.heap_alloc _ _ _ (hF1 k hk).2
  have HG : Hid (∀ W, Below W1.heap.size W1 W → OwnP W W0.heap.size ⟨.slice D1 p.els.length e1, .slice D2 p.glob.length e2, .slice D3 p.schemes.length e3, .slice D4 p.drop.length e4⟩ p F0) := Lib.hid fun W hW => og1.keep hW.size fun k hk => hW.block k (by have := hF1 k hk; omega)
  have HK1 : Hid (∀ W, Below W1.heap.size W1 W → W.cell? ⟨w1.heap.size, 0, none⟩ = some (.slice D1 p.els.length e1) ∧ W.cell? ⟨w1.heap.size, 1, none⟩ = some (.slice D2 p.glob.length e2) ∧ W.cell? ⟨w1.heap.size, 2, none⟩ = some (.slice D3 p.schemes.length e3) ∧ W.cell? ⟨w1.heap.size, 3, none⟩ = some (.bool p.rel) ∧ W.cell? ⟨w1.heap.size, 4, none⟩ = some (.slice D4 p.drop.length e4) ∧ W.cell? ⟨w1.heap.size, 5, none⟩ = some (.int .i64 p.depth) ∧ W.cell? ⟨w1.heap.size, 6, none⟩ = some (.int .i64 p.window)) := Lib.hid fun W hW => cells7 (kB1.below hW)
  have HX1 := Lib.hid hW1
  have HF1 := Lib.hid hF1
  have hkl1 := kB1.lt
  have hF1' : ∀ (k : Nat), Hid (k ∈ F0 → W0.heap.size ≤ k ∧ k < w1.heap.size) := fun k => Lib.hid (HF1.out k)
  rw [← hW1]
  clear hW1 ho1 og1 hF1 hF1' kB1
  have h10 : Below w.heap.size w W1 := hb0.trans (hc1.mono hz0)
  obtain ⟨a0, a1, a2, a3, a4, a5, a6⟩ := HKP.out _ hc1
  go_upto_region 3 with (go_at_call 19; refine (HRC.out _ h10).mono ?_; rintro e w2 ⟨rfl, hb2⟩)
  clear a0 a1 a2 a3 a4 a5 a6
  have h20 : Below w.heap.size w w2 := h10.trans (hb2.mono h10.size)
  have hz2 := hb2.size
  obtain ⟨b0, b1, b2, b3, b4, b5, b6⟩ := HK1.out _ hb2
  go_upto_region 4 with (go_at_call 20; refine (HTD.out _ ⟨.slice D1 p.els.length e1, .slice D2 p.glob.length e2, .slice D3 p.schemes.length e3, .slice D4 p.drop.length e4⟩ h20 ((HG.out _ hb2).rd (Nat.zero_le _) (Nat.le_refl _))).mono ?_; rintro e w3 ⟨E1, f1, E2, f2, E3, f3, E4, f4, F1, rfl, ho3, hb3⟩)
  clear b0 b1 b2 b3 b4 b5 b6
  obtain ⟨W3, hW3⟩ : ∃ W, W = w3.alloc (.cells #[.slice E1 q.els.length f1, .slice E2 q.glob.length f2, .slice E3 q.schemes.length f3, .bool q.rel, .slice E4 q.drop.length f4, .int .i64 q.depth, .int .i64 q.window] 29) := ⟨_, rfl⟩
  have hc3 : Below w2.heap.size w2 W3 := hW3 ▸ hb3.alloc hb3.size _
  have kB3 : Bl W3 w3.heap.size 29 [.slice E1 q.els.length f1, .slice E2 q.glob.length f2, .slice E3 q.schemes.length f3, .bool q.rel, .slice E4 q.drop.length f4, .int .i64 q.depth, .int .i64 q.window] := hW3 ▸ Bl.new w3 _ _ rfl
  have hz3 := hb3.size
  have hy3 : W3.heap.size = w3.heap.size + 1 := by rw [hW3]; simp
  have hF3 : ∀ k ∈ F1, w2.heap.size ≤ k ∧ k < w3.heap.size := ho3.ge
  have og3 : OwnP W3 w2.heap.size ⟨.slice E1 q.els.length f1, .slice E2 q.glob.length f2, .slice E3 q.schemes.length f3, .slice E4 q.drop.length f4⟩ q F1 := ho3.keep (by omega) fun k hk => by rw [hW3]; exact Below.heap_alloc _ _ _ (hF3 k hk).2
  have HE : Hid (∀ W, Below W3.heap.size W3 W → OwnP W w2.heap.size ⟨.slice E1 q.els.length f1, .slice E2 q.glob.length f2, .slice E3 q.schemes.length f3, .slice E4 q.drop.length f4⟩ q F1) := Lib.hid fun W hW => og3.keep hW.size fun k hk => hW.block k (by have := hF3 k hk; omega)
  have HK3 : Hid (∀ W, Below W3.heap.size W3 W → W.cell? ⟨w3.heap.size, 0, none⟩ = some (.slice E1 q.els.length f1) ∧ W.cell? ⟨w3.heap.size, 1, none⟩ = some (.slice E2 q.glob.length f2) ∧ W.cell? ⟨w3.heap.size, 2, none⟩ = some (.slice E3 q.schemes.length f3) ∧ W.cell? ⟨w3.heap.size, 3, none⟩ = some (.bool q.rel) ∧ W.cell? ⟨w3.heap.size, 4, none⟩ = some (.slice E4 q.drop.length f4) ∧ W.cell? ⟨w3.heap.size, 5, none⟩ = some (.int .i64 q.depth) ∧ W.cell? ⟨w3.heap.size, 6, none⟩ = some (.int .i64 q.window)) := Lib.hid fun W hW => cells7 (kB3.below hW)
  have HX3 := Lib.hid hW3
  have HF3 := Lib.hid hF3
  have hkl3 := kB3.lt
  have hF3' : ∀ (k : Nat), Hid (k ∈ F1 → w2.heap.size ≤ k ∧ k < w3.heap.size) := fun k => Lib.hid (HF3.out k)
  rw [← hW3]
  clear hW3 ho3 og3 hF3 hF3' kB3
  have h30 : Below w.heap.size w W3 := h20.trans (hc3.mono h20.size)
  have h31 : Below W1.heap.size W1 W3 := hb2.trans (hc3.mono hz2)
  obtain ⟨b0, b1, b2, b3, b4, b5, b6⟩ := HK1.out _ h31
  go_upto_region 5 with (go_at_call 20; refine (HTD.out _ ⟨.slice D1 p.els.length e1, .slice D2 p.glob.length e2, .slice D3 p.schemes.length e3, .slice D4 p.drop.length e4⟩ h30 ((HG.out _ h31).rd (Nat.zero_le _) (Nat.le_refl _))).mono ?_; rintro e w4 ⟨I1, i1, I2, i2, I3, i3, I4, i4, F2, rfl, ho4, hb4⟩)
  clear b0 b1 b2 b3 b4 b5 b6
  obtain ⟨W4, hW4⟩ : ∃ W, W = w4.alloc (.cells #[.slice I1 q.els.length i1, .slice I2 q.glob.length i2, .slice I3 q.schemes.length i3, .bool q.rel, .slice I4 q.drop.length i4, .int .i64 q.depth, .int .i64 q.window] 29) := ⟨_, rfl⟩
  have hc4 : Below W3.heap.size W3 W4 := hW4 ▸ hb4.alloc hb4.size _
  have kB4 : Bl W4 w4.heap.size 29 [.slice I1 q.els.length i1, .slice I2 q.glob.length i2, .slice I3 q.schemes.length i3, .bool q.rel, .slice I4 q.drop.length i4, .int .i64 q.depth, .int .i64 q.window] := hW4 ▸ Bl.new w4 _ _ rfl
  have hz4 := hb4.size
  have hy4 : W4.heap.size = w4.heap.size + 1 := by rw [hW4]; simp
  have hF4 : ∀ k ∈ F2, W3.heap.size ≤ k ∧ k < w4.heap.size := ho4.ge
  have og4 : OwnP W4 W3.heap.size ⟨.slice I1 q.els.length i1, .slice I2 q.glob.length i2, .slice I3 q.schemes.length i3, .slice I4 q.drop.length i4⟩ q F2 := ho4.keep (by omega) fun k hk => by rw [hW4]; exact Below.heap_alloc _ _ _ (hF4 k hk).2
  have HI : Hid (∀ W, Below W4.heap.size W4 W → OwnP W W3.heap.size ⟨.slice I1 q.els.length i1, .slice I2 q.glob.length i2, .slice I3 q.schemes.length i3, .slice I4 q.drop.length i4⟩ q F2) := Lib.hid fun W hW => og4.keep hW.size fun k hk => hW.block k (by have := hF4 k hk; omega)
  have HK4 : Hid (∀ W, Below W4.heap.size W4 W → W.cell? ⟨w4.heap.size, 0, none⟩ = some (.slice I1 q.els.length i1) ∧ W.cell? ⟨w4.heap.size, 1, none⟩ = some (.slice I2 q.glob.length i2) ∧ W.cell? ⟨w4.heap.size, 2, none⟩ = some (.slice I3 q.schemes.length i3) ∧ W.cell? ⟨w4.heap.size, 3, none⟩ = some (.bool q.rel) ∧ W.cell? ⟨w4.heap.size, 4, none⟩ = some (.slice I4 q.drop.length i4) ∧ W.cell? ⟨w4.heap.size, 5, none⟩ = some (.int .i64 q.depth) ∧ W.cell? ⟨w4.heap.size, 6, none⟩ = some (.int .i64 q.window)) := Lib.hid fun W hW => cells7 (kB4.below hW)
  have HX4 := Lib.hid hW4
  have HF4 := Lib.hid hF4
  have hkl4 := kB4.lt
  have hF4' : ∀ (k : Nat), Hid (k ∈ F2 → W3.heap.size ≤ k ∧ k < w4.heap.size) := fun k => Lib.hid (HF4.out k)
  rw [← hW4]
  clear hW4 ho4 og4 hF4 hF4' kB4
  have h40 : Below w.heap.size w W4 := h30.trans (hc4.mono h30.size)
  have h41 : Below W1.heap.size W1 W4 := h31.trans (hc4.mono h31.size)
  obtain ⟨b0, b1, b2, b3, b4, b5, b6⟩ := HK1.out _ h41
  go_upto_region 6 with (go_at_call 21; refine (HPR.out _ ⟨.slice D1 p.els.length e1, .slice D2 p.glob.length e2, .slice D3 p.schemes.length e3, .slice D4 p.drop.length e4⟩ h40 ((HG.out _ h41).rd (Nat.zero_le _) (Nat.le_refl _))).mono ?_; rintro e w5 ⟨rfl, hb5⟩)
  clear b0 b1 b2 b3 b4 b5 b6
  have h54 : Below W4.heap.size W4 w5 := hb5
  have hz5 := hb5.size
  have HW4 : Hid (∀ W, Below W4.heap.size W4 W → Below w.heap.size w W ∧ Below W0.heap.size W0 W ∧ Below W1.heap.size W1 W ∧ Below W3.heap.size W3 W) := Lib.hid fun W hW => ⟨h40.trans (hW.mono h40.size), hc1.trans ((h41.trans (hW.mono h41.size)).mono hc1.size), h41.trans (hW.mono h41.size), hc4.trans (hW.mono hc4.size)⟩
  have HS1 : Hid (∀ W, Below W4.heap.size W4 W → Calls Tryz.prog 23 #[.agg #[.slice D1 p.els.length e1, .slice D2 p.glob.length e2, .slice D3 p.schemes.length e3, .bool p.rel, .slice D4 p.drop.length e4, .int .i64 p.depth, .int .i64 p.window], .agg #[.slice A1 p.els.length c1, .slice A2 p.glob.length c2, .slice A3 p.schemes.length c3, .bool p.rel, .slice A4 p.drop.length c4, .int .i64 p.depth, .int .i64 p.window]] W fun e w' => e = .returned (.bool true) ∧ Below W.heap.size W w') := Lib.hid fun W hW => HSM.out W p ⟨.slice D1 p.els.length e1, .slice D2 p.glob.length e2, .slice D3 p.schemes.length e3, .slice D4 p.drop.length e4⟩ ⟨.slice A1 p.els.length c1, .slice A2 p.glob.length c2, .slice A3 p.schemes.length c3, .slice A4 p.drop.length c4⟩ ((HG.out W (HW4.out W hW).2.2.1).rd (Nat.zero_le _) (Nat.le_refl _)) (HPP.out W (HW4.out W hW).1)
  have HCK2 : Hid (Calls Tryz.prog 22 #[.agg #[.slice D1 p.els.length e1, .slice D2 p.glob.length e2, .slice D3 p.schemes.length e3, .bool p.rel, .slice D4 p.drop.length e4, .int .i64 p.depth, .int .i64 p.window]] w5 fun e w' => e = .returned (.int .i64 c) ∧ Below w5.heap.size w5 w') := Lib.hid (HCK.out w5 ⟨.slice D1 p.els.length e1, .slice D2 p.glob.length e2, .slice D3 p.schemes.length e3, .slice D4 p.drop.length e4⟩ (HW4.out _ h54).1 ((HG.out _ (HW4.out _ h54).2.2.1).rd (Nat.zero_le _) (Nat.le_refl _)))
  obtain ⟨b0, b1, b2, b3, b4, b5, b6⟩ := HK1.out _ (HW4.out _ h54).2.2.1
  have hcc : (c != c) = false := by simp
  go_upto_region 8 with (first
    | (go_at_call 16; refine (numC _ _).mono ?_; rintro e w9 ⟨rfl, rfl⟩)
    | (go_at_call 22; refine HCK2.out.mono ?_; rintro e w6 ⟨rfl, hb6⟩; have h64 : Below W4.heap.size W4 w6 := h54.trans (hb6.mono hz5); obtain ⟨s0, s1, s2, s3, s4, s5, s6⟩ := HK1.out _ (HW4.out _ h64).2.2.1; obtain ⟨t0, t1, t2, t3, t4, t5, t6⟩ := HKP.out _ (HW4.out _ h64).2.1)
    | (go_at_call 23; refine (HS1.out _ h64).mono ?_; rintro e w7 ⟨rfl, hb7⟩))
  clear b0 b1 b2 b3 b4 b5 b6 s0 s1 s2 s3 s4 s5 s6 t0 t1 t2 t3 t4 t5 t6 hcc
  have h74 : Below W4.heap.size W4 w7 := h64.trans (hb7.mono h64.size)
  have h70 := (HW4.out _ h74).1
  by_cases hc0 : c = 0
  · obtain ⟨hqt, HT1, HT2⟩ := HTR.out hc0
    have hsb := HSB.out hc0
    have HSBQ := Lib.hid hsb
    have HT1' := Lib.hid HT1
    have HT2' := Lib.hid HT2
    subst hc0
    obtain ⟨a0, a1, a2, a3, a4, a5, a6⟩ := HKP.out _ (HW4.out _ h74).2.1
    clear HTR HZ HTD HPR HCK HRC HOW hqt HT1 HT2 hsb HSB
    go_upto_region 11 with (go_at_call 24; refine (HT1'.out _ h70).mono ?_; rintro e w8 ⟨H1, h1, H2, h2, H3, h3, H4, h4, rfl, ho8, hb8⟩)
    clear a0 a1 a2 a3 a4 a5 a6
    obtain ⟨W8, hW8⟩ : ∃ W, W = w8.alloc (.cells #[.slice H1 q.els.length h1, .slice H2 q.glob.length h2, .slice H3 q.schemes.length h3, .bool q.rel, .slice H4 q.drop.length h4, .int .i64 q.depth, .int .i64 q.window] 29) := ⟨_, rfl⟩
    have hc8 : Below w7.heap.size w7 W8 := hW8 ▸ hb8.alloc hb8.size _
    have kB8 : Bl W8 w8.heap.size 29 [.slice H1 q.els.length h1, .slice H2 q.glob.length h2, .slice H3 q.schemes.length h3, .bool q.rel, .slice H4 q.drop.length h4, .int .i64 q.depth, .int .i64 q.window] := hW8 ▸ Bl.new w8 _ _ rfl
    have hz8 := hb8.size
    have hy8 : W8.heap.size = w8.heap.size + 1 := by rw [hW8]; simp
    have hr8 : RdP W8 w7.heap.size w8.heap.size ⟨.slice H1 q.els.length h1, .slice H2 q.glob.length h2, .slice H3 q.schemes.length h3, .slice H4 q.drop.length h4⟩ q := ho8.stay fun k _ hk => by rw [hW8]; exact Below.heap_alloc _ _ _ hk
    have HX8 := Lib.hid hW8
    rw [← hW8]
    have h84 : Below W4.heap.size W4 W8 := h74.trans (hc8.mono h74.size)
    have HR8 : Hid (∀ W, W8.heap.size ≤ W.heap.size → (∀ k, w7.heap.size ≤ k → k < w8.heap.size → W.heap[k]? = W8.heap[k]?) → RdP W 0 W.heap.size ⟨.slice H1 q.els.length h1, .slice H2 q.glob.length h2, .slice H3 q.schemes.length h3, .slice H4 q.drop.length h4⟩ q) := Lib.hid fun W hs hW => (hr8.stay hW).wide (Nat.zero_le _) (by omega)
    have hs74 := h74.size
    have HS2 : Hid (∀ W, Below W8.heap.size W8 W → Calls Tryz.prog 23 #[.agg #[.slice E1 q.els.length f1, .slice E2 q.glob.length f2, .slice E3 q.schemes.length f3, .bool q.rel, .slice E4 q.drop.length f4, .int .i64 q.depth, .int .i64 q.window], .agg #[.slice H1 q.els.length h1, .slice H2 q.glob.length h2, .slice H3 q.schemes.length h3, .bool q.rel, .slice H4 q.drop.length h4, .int .i64 q.depth, .int .i64 q.window]] W fun e w' => e = .returned (.bool true) ∧ Below W.heap.size W w') := Lib.hid fun W hW => HSM.out W q ⟨.slice E1 q.els.length f1, .slice E2 q.glob.length f2, .slice E3 q.schemes.length f3, .slice E4 q.drop.length f4⟩ ⟨.slice H1 q.els.length h1, .slice H2 q.glob.length h2, .slice H3 q.schemes.length h3, .slice H4 q.drop.length h4⟩ ((HE.out W (HW4.out W (h84.trans (hW.mono h84.size))).2.2.2).rd (Nat.zero_le _) (Nat.le_refl _)) (HR8.out W hW.size fun k _ hk => hW.block k (by omega))
    have HK8 : Hid (∀ W, Below W8.heap.size W8 W → W.cell? ⟨w8.heap.size, 0, none⟩ = some (.slice H1 q.els.length h1) ∧ W.cell? ⟨w8.heap.size, 1, none⟩ = some (.slice H2 q.glob.length h2) ∧ W.cell? ⟨w8.heap.size, 2, none⟩ = some (.slice H3 q.schemes.length h3) ∧ W.cell? ⟨w8.heap.size, 3, none⟩ = some (.bool q.rel) ∧ W.cell? ⟨w8.heap.size, 4, none⟩ = some (.slice H4 q.drop.length h4) ∧ W.cell? ⟨w8.heap.size, 5, none⟩ = some (.int .i64 q.depth) ∧ W.cell? ⟨w8.heap.size, 6, none⟩ = some (.int .i64 q.window)) := Lib.hid fun W hW => cells7 (kB8.below hW)
    have h88 := Below.refl W8.heap.size W8
    obtain ⟨a0, a1, a2, a3, a4, a5, a6⟩ := HK8.out _ h88
    obtain ⟨b0, b1, b2, b3, b4, b5, b6⟩ := HK3.out _ (HW4.out _ h84).2.2.2
    have hpe := toList_eq_of (a := ps) (b := ps) rfl
    have hpe2 := toList_beq_of (a := ps) (b := ps) rfl
    clear hW8 ho8
    go_upto_region 13 with (first
      | (go_at_call 23; refine (HS2.out _ h88).mono ?_; rintro e w9 ⟨rfl, hb9⟩; have h94 : Below W4.heap.size W4 w9 := h84.trans (hb9.mono h84.size); obtain ⟨s0, s1, s2, s3, s4, s5, s6⟩ := HKP.out _ (HW4.out _ h94).2.1)
      | (go_at_call 25; refine (HT2'.out _ (HW4.out _ h94).1).mono ?_; rintro e w10 ⟨rfl, hb10⟩))
    clear a0 a1 a2 a3 a4 a5 a6 b0 b1 b2 b3 b4 b5 b6 s0 s1 s2 s3 s4 s5 s6 hpe hpe2
    have h10_8 : Below W8.heap.size W8 w10 := hb9.trans (hb10.mono hb9.size)
    have h104 : Below W4.heap.size W4 w10 := h84.trans (h10_8.mono h84.size)
    have h103 := (HW4.out _ h104).2.2.2
    obtain ⟨b0, b1, b2, b3, b4, b5, b6⟩ := HK3.out _ h103
    have oE := HE.out _ h103
    go_upto_region 14 with (go_at_call 26; refine (HSP.out _ w2.heap.size ⟨.slice E1 q.els.length f1, .slice E2 q.glob.length f2, .slice E3 q.schemes.length f3, .slice E4 q.drop.length f4⟩ F1 HSBQ.out oE).mono ?_; rintro e w11 ⟨rfl, hf11⟩)
    clear b0 b1 b2 b3 b4 b5 b6 oE
    have hz11 := hf11.size
    have hz108 := h10_8.size
    have hz104 := h104.size
    have hf3 := HF3.out
    have hw11 : Below w.heap.size w w11 := (HW4.out _ h104).1.trans (hf11.below (HW4.out _ h104).1.size (fun k hk => by have := hf3 k hk; have := h20.size; omega))
    have hG11 : OwnP w11 W0.heap.size ⟨.slice D1 p.els.length e1, .slice D2 p.glob.length e2, .slice D3 p.schemes.length e3, .slice D4 p.drop.length e4⟩ p F0 := (HG.out _ (HW4.out _ h104).2.2.1).keep hf11.size fun k hk => hf11.block k (by have := HF1.out k hk; omega) (fun hx => by have := HF1.out k hk; have := hf3 k hx; omega)
    have hI11 : OwnP w11 W3.heap.size ⟨.slice I1 q.els.length i1, .slice I2 q.glob.length i2, .slice I3 q.schemes.length i3, .slice I4 q.drop.length i4⟩ q F2 := (HI.out _ h104).keep hf11.size fun k hk => hf11.block k (by have := HF4.out k hk; omega) (fun hx => by have := HF4.out k hk; have := hf3 k hx; omega)
    have k4b : Bl w10 w4.heap.size 29 [.slice I1 q.els.length i1, .slice I2 q.glob.length i2, .slice I3 q.schemes.length i3, .bool q.rel, .slice I4 q.drop.length i4, .int .i64 q.depth, .int .i64 q.window] := by
      have := Bl.new w4 29 [.slice I1 q.els.length i1, .slice I2 q.glob.length i2, .slice I3 q.schemes.length i3, .bool q.rel, .slice I4 q.drop.length i4, .int .i64 q.depth, .int .i64 q.window] rfl
      rw [show w4.alloc (.cells [.slice I1 q.els.length i1, .slice I2 q.glob.length i2, .slice I3 q.schemes.length i3, .bool q.rel, .slice I4 q.drop.length i4, .int .i64 q.depth, .int .i64 q.window].toArray 29 (0, 0)) = W4 from HX4.out.symm] at this
      exact this.below h104
    have k1b : Bl w10 w1.heap.size 29 [.slice D1 p.els.length e1, .slice D2 p.glob.length e2, .slice D3 p.schemes.length e3, .bool p.rel, .slice D4 p.drop.length e4, .int .i64 p.depth, .int .i64 p.window] := by
      have := Bl.new w1 29 [.slice D1 p.els.length e1, .slice D2 p.glob.length e2, .slice D3 p.schemes.length e3, .bool p.rel, .slice D4 p.drop.length e4, .int .i64 p.depth, .int .i64 p.window] rfl
      rw [show w1.alloc (.cells [.slice D1 p.els.length e1, .slice D2 p.glob.length e2, .slice D3 p.schemes.length e3, .bool p.rel, .slice D4 p.drop.length e4, .int .i64 p.depth, .int .i64 p.window].toArray 29 (0, 0)) = W1 from HX1.out.symm] at this
      exact this.below (HW4.out _ h104).2.2.1
    have kPb : Bl w10 w.heap.size 29 [.slice A1 p.els.length c1, .slice A2 p.glob.length c2, .slice A3 p.schemes.length c3, .bool p.rel, .slice A4 p.drop.length c4, .int .i64 p.depth, .int .i64 p.window] := by
      have := Bl.new w 29 [.slice A1 p.els.length c1, .slice A2 p.glob.length c2, .slice A3 p.schemes.length c3, .bool p.rel, .slice A4 p.drop.length c4, .int .i64 p.depth, .int .i64 p.window] rfl
      rw [show w.alloc (.cells [.slice A1 p.els.length c1, .slice A2 p.glob.length c2, .slice A3 p.schemes.length c3, .bool p.rel, .slice A4 p.drop.length c4, .int .i64 p.depth, .int .i64 p.window].toArray 29 (0, 0)) = W0 from HX0.out.symm] at this
      exact this.below (HW4.out _ h104).2.1
    have k8b : Bl w10 w8.heap.size 29 [.slice H1 q.els.length h1, .slice H2 q.glob.length h2, .slice H3 q.schemes.length h3, .bool q.rel, .slice H4 q.drop.length h4, .int .i64 q.depth, .int .i64 q.window] := kB8.below h10_8
    have k4c := k4b.of (hf11.block _ k4b.lt (fun hx => by have := hf3 _ hx; omega))
    have k1c := k1b.of (hf11.block _ k1b.lt (fun hx => by have := hf3 _ hx; omega))
    have hlw : w.heap.size < W0.heap.size := by rw [HX0.out]; simp
    have kPc := kPb.of (hf11.block _ kPb.lt (fun hx => by have := hf3 _ hx; omega))
    have k8c := k8b.of (hf11.block _ k8b.lt (fun hx => by have := hf3 _ hx; omega))
    have HS3 : Hid (∀ W, Below w11.heap.size w11 W → Calls Tryz.prog 23 #[.agg #[.slice I1 q.els.length i1, .slice I2 q.glob.length i2, .slice I3 q.schemes.length i3, .bool q.rel, .slice I4 q.drop.length i4, .int .i64 q.depth, .int .i64 q.window], .agg #[.slice H1 q.els.length h1, .slice H2 q.glob.length h2, .slice H3 q.schemes.length h3, .bool q.rel, .slice H4 q.drop.length h4, .int .i64 q.depth, .int .i64 q.window]] W fun e w' => e = .returned (.bool true) ∧ Below W.heap.size W w') := Lib.hid fun W hW => HSM.out W q ⟨.slice I1 q.els.length i1, .slice I2 q.glob.length i2, .slice I3 q.schemes.length i3, .slice I4 q.drop.length i4⟩ ⟨.slice H1 q.els.length h1, .slice H2 q.glob.length h2, .slice H3 q.schemes.length h3, .slice H4 q.drop.length h4⟩ ((hI11.keep hW.size fun k hk => hW.block k (by have := HF4.out k hk; omega)).rd (Nat.zero_le _) (Nat.le_refl _)) (HR8.out W (by have := hW.size; omega) fun k h1 h2 => by
      rw [hW.block k (by omega), hf11.block k (by omega) (fun hx => by have := hf3 k hx; omega)]
      exact h10_8.block k (by omega))
    have HS4 : Hid (∀ W, Below w11.heap.size w11 W → Calls Tryz.prog 23 #[.agg #[.slice D1 p.els.length e1, .slice D2 p.glob.length e2, .slice D3 p.schemes.length e3, .bool p.rel, .slice D4 p.drop.length e4, .int .i64 p.depth, .int .i64 p.window], .agg #[.slice A1 p.els.length c1, .slice A2 p.glob.length c2, .slice A3 p.schemes.length c3, .bool p.rel, .slice A4 p.drop.length c4, .int .i64 p.depth, .int .i64 p.window]] W fun e w' => e = .returned (.bool true) ∧ Below W.heap.size W w') := Lib.hid fun W hW => HSM.out W p ⟨.slice D1 p.els.length e1, .slice D2 p.glob.length e2, .slice D3 p.schemes.length e3, .slice D4 p.drop.length e4⟩ ⟨.slice A1 p.els.length c1, .slice A2 p.glob.length c2, .slice A3 p.schemes.length c3, .slice A4 p.drop.length c4⟩ ((hG11.keep hW.size fun k hk => hW.block k (by have := HF1.out k hk; omega)).rd (Nat.zero_le _) (Nat.le_refl _)) (HPP.out W (hw11.trans (hW.mono hw11.size)))
    have h1111 := Below.refl w11.heap.size w11
    obtain ⟨a0, a1, a2, a3, a4, a5, a6⟩ := cells7 k4c
    obtain ⟨b0, b1, b2, b3, b4, b5, b6⟩ := cells7 k8c
    have K1C := Lib.hid k1c
    have KPC := Lib.hid kPc
    clear k4b k1b kPb k8b k4c k1c kPc k8c hG11 hI11 hf3
    go_wp2_with (first
      | (go_at_call 23; have _z := h12; refine (HS4.out _ h12).mono ?_; rintro e w13 ⟨rfl, hb13⟩; have h13 : Below w11.heap.size w11 w13 := h12.trans (hb13.mono h12.size))
      | (go_at_call 23; refine (HS3.out _ h1111).mono ?_; rintro e w12 ⟨rfl, hb12⟩; have h12 : Below w11.heap.size w11 w12 := hb12; obtain ⟨s0, s1, s2, s3, s4, s5, s6⟩ := cells7 (K1C.out.below h12); obtain ⟨t0, t1, t2, t3, t4, t5, t6⟩ := cells7 (KPC.out.below h12))
      | (go_at_call 17; refine (HA.out _ (hw11.trans (h13.mono hw11.size))).mono ?_; rintro e w14 ⟨rfl, hb14⟩))
    go_ret
    have hw13 := hw11.trans (h13.mono hw11.size)
    exact ⟨rfl, hw13.trans (hb14.mono hw13.size)⟩
  · have hc2 : (c != 0) = true := by simpa using hc0
    obtain ⟨hqz, hpz⟩ := HZ.out hc0
    have HZE : Hid (∀ W, Below w7.heap.size w7 W → Calls Tryz.prog 23 #[.agg #[.slice E1 q.els.length f1, .slice E2 q.glob.length f2, .slice E3 q.schemes.length f3, .bool q.rel, .slice E4 q.drop.length f4, .int .i64 q.depth, .int .i64 q.window], .agg #[.slice none 0 0, .slice none 0 0, .slice none 0 0, .bool false, .slice none 0 0, .int .i64 0, .int .i64 0]] W fun e w' => e = .returned (.bool true) ∧ Below W.heap.size W w') := Lib.hid fun W hW => by
      have h1 := (HE.out W (HW4.out W (h74.trans (hW.mono h74.size))).2.2.2).rd (lo := 0) (hi := W.heap.size) (Nat.zero_le _) (Nat.le_refl _)
      have h2 := HSM.out W q ⟨.slice E1 q.els.length f1, .slice E2 q.glob.length f2, .slice E3 q.schemes.length f3, .slice E4 q.drop.length f4⟩ zeroV h1 (by rw [hqz]; exact (own_zero W 0).rd (Nat.zero_le _) (Nat.le_refl _))
      have e1 : q.rel = false ∧ q.depth = 0 ∧ q.window = 0 := by rw [hqz]; exact ⟨rfl, rfl, rfl⟩
      have e2 : zeroV = ⟨.slice none 0 0, .slice none 0 0, .slice none 0 0, .slice none 0 0⟩ := rfl
      rw [e2] at h2
      simp only [e1.1, e1.2.1, e1.2.2] at h2 ⊢
      exact h2
    have hp0 : ps.size = 0 := by rw [hpz]; rfl
    have e0 := toList_nil hp0
    obtain ⟨b0, b1, b2, b3, b4, b5, b6⟩ := HK3.out _ (HW4.out _ h74).2.2.2
    have h77 := Below.refl w7.heap.size w7
    clear hpz hp0 hqz HZ HTR
    go_wp2_with (first
      | (go_at_call 23; refine (HZE.out _ h77).mono ?_; rintro e w8 ⟨rfl, hb8⟩; have hw8 : Below w.heap.size w w8 := h70.trans (hb8.mono h70.size))
      | (go_at_call 17; refine (HA.out _ hw8).mono ?_; rintro e w9 ⟨rfl, hb9⟩))
    go_ret
    exact ⟨rfl, hw8.trans (hb9.mono hw8.size)⟩
end Go.Proofs.YteikagdinecfoaaGreatDoor.policyChecks
