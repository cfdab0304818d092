/- The walk of PolicyCloses: what every name needs; every policy with what its elements need. -/
import Derived.Test.YteikagdinecfoaaGreatDoorWPolicyShut
import Derived.Test.YteikagdinecfoaaGreatDoorOw
import Derived.Test.YteikagdinecfoaaGreatDoorWr
import Derived.Test.YteikagdinecfoaaGreatDoorRe
set_option linter.unusedVariables false
set_option linter.unusedSimpArgs false
namespace Go.Proofs.YteikagdinecfoaaGreatDoor.policyCloses
open Go.RowKit Lb Gr Pd Fl Go.Proofs.YteikagdinecfoaaGreatDoor.Pm Bk Ru Co Ea Sa Tx Go.Proofs.YteikagdinecfoaaGreatDoor.Aw Pa Go.Proofs.YteikagdinecfoaaGreatDoor.Cn Go.Proofs.YteikagdinecfoaaGreatDoor.Cl Go.Proofs.YteikagdinecfoaaGreatDoor.Nd Fg Go.Proofs.YteikagdinecfoaaGreatDoor.Ow Go.Proofs.YteikagdinecfoaaGreatDoor.Wr Go.Proofs.YteikagdinecfoaaGreatDoor.Rc Go.Proofs.YteikagdinecfoaaGreatDoor.Re
attribute [local go_sem ↓] Go.wp_at_zero Go.wp_at_succ

theorem cells7 {w : World} {g : Nat} {t : TypeId} {a0 a1 a2 a3 a4 a5 a6 : Value} (h : Bl w g t [a0, a1, a2, a3, a4, a5, a6]) : w.cell? ⟨g, 0, none⟩ = some a0 ∧ w.cell? ⟨g, 1, none⟩ = some a1 ∧ w.cell? ⟨g, 2, none⟩ = some a2 ∧ w.cell? ⟨g, 3, none⟩ = some a3 ∧ w.cell? ⟨g, 4, none⟩ = some a4 ∧ w.cell? ⟨g, 5, none⟩ = some a5 ∧ w.cell? ⟨g, 6, none⟩ = some a6 :=
  ⟨h.cell 0 rfl, h.cell 1 rfl, h.cell 2 rfl, h.cell 3 rfl, h.cell 4 rfl, h.cell 5 rfl, h.cell 6 rfl⟩
theorem close_uni {p : PolD} {m m' : List ByteArray} (h : Full (nms p) m) (h' : Full (nms p) m') : closeP p m' = closeP p m := by unfold closeP; rw [full_srt h' h]

set_option maxHeartbeats 8000000 in
set_option maxRecDepth 100000 in
theorem walk (w : World) (hl : Laid w) (x : Vs) (p : PolD) (h : RdP w 0 w.heap.size x p) (hg : GdP p) (n : ByteArray) : Calls Tryz.prog 8 #[polV x p, .string n] w fun e w' => e = .returned (.bool true) ∧ Below w.heap.size w w' := by
  have hr : reachBytes = 140737488351232 := rfl
  have hg1 := hg.1
  have hrw : ∀ W, Below w.heap.size w W → RdP W 0 W.heap.size x p := fun W hW => (h.stay (stay_below hW (Nat.le_refl _))).wide (Nat.le_refl _) hW.size
  have HA : Hid (∀ W, Below w.heap.size w W → Calls Tryz.prog 17 #[] W fun e w' => e = .returned (.bool true) ∧ Below W.heap.size W w') := Lib.hid fun W hW => awakeC W (hl.below hW)
  have HND : Hid (∀ W, Below w.heap.size w W → Calls Tryz.prog 42 #[.string n] W fun e w' => ∃ A c G, e = .returned (.slice A (needsL n).length c) ∧ kdW.own w' W.heap.size (.slice A (needsL n).length c) (needsL n) G ∧ Below W.heap.size W w') := Lib.hid fun W hW => NeedsC n W (hl.tab.below hW)
  have HNR : Hid (∀ W, Calls Tryz.prog 43 #[.string n] W fun e w' => ∃ A c G, e = .returned (.slice A (needsL n).length c) ∧ kdW.own w' W.heap.size (.slice A (needsL n).length c) (needsL n) G ∧ Below W.heap.size W w') := Lib.hid fun W => rNeedsC n W
  have HTX : Hid (∀ W l v u, kdW.rd W 0 W.heap.size v l → kdW.rd W 0 W.heap.size u l → Calls Tryz.prog 41 #[v, u] W fun e w' => e = .returned (.bool true) ∧ Below W.heap.size W w') := Lib.hid fun W l v u h1 h2 => lTexts l v u W h1 h2
  have HOW : Hid (∀ W, Below w.heap.size w W → Calls Tryz.prog 18 #[polV x p] W fun e w' => ∃ D1 e1 D2 e2 D3 e3 D4 e4 F, e = .returned (.agg #[.slice D1 p.els.length e1, .slice D2 p.glob.length e2, .slice D3 p.schemes.length e3, .bool p.rel, .slice D4 p.drop.length e4, .int .i64 p.depth, .int .i64 p.window]) ∧ OwnP w' W.heap.size ⟨.slice D1 p.els.length e1, .slice D2 p.glob.length e2, .slice D3 p.schemes.length e3, .slice D4 p.drop.length e4⟩ p F ∧ Below W.heap.size W w') := Lib.hid fun W hW => (ownC x p W (hrw W hW) (fit_of hg)).mono fun e w' ⟨y, F, he, ho, hb⟩ => by
    obtain ⟨D1, e1, D2, e2, D3, e3, D4, e4, rfl, _⟩ := (ho.rd (lo := 0) (hi := w'.heap.size) (Nat.zero_le _) (Nat.le_refl _)).form
    exact ⟨D1, e1, D2, e2, D3, e3, D4, e4, F, he, ho, hb⟩
  have HCL : Hid (∀ W y, Below w.heap.size w W → RdP W 0 W.heap.size y p → Calls Tryz.prog 39 #[polV y p] W fun e w' => ∃ m E1 f1 E2 f2 E3 f3 E4 f4 F, Full (nms p) m ∧ e = .returned (.agg #[.slice E1 (closeP p m).els.length f1, .slice E2 (closeP p m).glob.length f2, .slice E3 (closeP p m).schemes.length f3, .bool (closeP p m).rel, .slice E4 (closeP p m).drop.length f4, .int .i64 (closeP p m).depth, .int .i64 (closeP p m).window]) ∧ OwnP w' W.heap.size ⟨.slice E1 (closeP p m).els.length f1, .slice E2 (closeP p m).glob.length f2, .slice E3 (closeP p m).schemes.length f3, .slice E4 (closeP p m).drop.length f4⟩ (closeP p m) F ∧ Below W.heap.size W w') := Lib.hid fun W y hW hy => (closeC y p W (hl.tab.below hW) hy (fit_of hg) (by omega)).mono fun e w' ⟨m, y, F, hfu, he, ho, hb⟩ => by
    obtain ⟨E1, f1, E2, f2, E3, f3, E4, f4, rfl, _⟩ := (ho.rd (lo := 0) (hi := w'.heap.size) (Nat.zero_le _) (Nat.le_refl _)).form
    exact ⟨m, E1, f1, E2, f2, E3, f3, E4, f4, F, hfu, he, ho, hb⟩
  have HRC : Hid (∀ W, Below w.heap.size w W → Calls Tryz.prog 40 #[polV x p] W fun e w' => ∃ m H1 h1 H2 h2 H3 h3 H4 h4, Full (nms p) m ∧ e = .returned (.agg #[.slice H1 (closeP p m).els.length h1, .slice H2 (closeP p m).glob.length h2, .slice H3 (closeP p m).schemes.length h3, .bool (closeP p m).rel, .slice H4 (closeP p m).drop.length h4, .int .i64 (closeP p m).depth, .int .i64 (closeP p m).window]) ∧ (∀ w2 : World, w'.heap.size ≤ w2.heap.size → (∀ k, (k < w.heap.size ∨ W.heap.size ≤ k) → k < w'.heap.size → w2.heap[k]? = w'.heap[k]?) → RdP w2 0 w2.heap.size ⟨.slice H1 (closeP p m).els.length h1, .slice H2 (closeP p m).glob.length h2, .slice H3 (closeP p m).schemes.length h3, .slice H4 (closeP p m).drop.length h4⟩ (closeP p m)) ∧ Below W.heap.size W w') := Lib.hid fun W hW => (rCloseC x p W w.heap.size hW.size (h.stay (stay_below hW (Nat.le_refl _))) (by omega)).mono fun e w' ⟨m, y, hfu, he, ho, hb⟩ => by
    obtain ⟨H1, h1, H2, h2, H3, h3, H4, h4, rfl, _⟩ := (ho w' (Nat.le_refl _) (fun _ _ _ => rfl)).form
    exact ⟨m, H1, h1, H2, h2, H3, h3, H4, h4, hfu, he, ho, hb⟩
  have HSM : Hid (∀ W q y y2, RdP W 0 W.heap.size y q → RdP W 0 W.heap.size y2 q → Calls Tryz.prog 23 #[polV y q, polV y2 q] W fun e w' => e = .returned (.bool true) ∧ Below W.heap.size W w') := Lib.hid fun W q y y2 h1 h2 => lSameC y y2 q W h1 h2
  have HSP : Hid (∀ m, Full (nms p) m → ∀ W B y F, OwnP W B y (closeP p m) F → Calls Tryz.prog 26 #[polV y (closeP p m)] W fun e w' => e = .returned (.tuple #[]) ∧ Fr F W w') := Lib.hid fun m hm W B y F ho => spoilC W ho (Spb.of (fit_close hg hm.1.len))
  obtain ⟨A1, c1, A2, c2, A3, c3, A4, c4, rfl, q1, q2, q3, q4, q5, q6, q7, q8⟩ := h.form
  have HX := Lib.hid h
  clear hrw hg h hl q1 q2 q3 q4 q5 q6 q7 q8 hg1 hr
  unfold polV at HOW HCL HRC HSM HSP ⊢
  simp only at HOW HRC ⊢
  obtain ⟨W0, hW0⟩ : ∃ W, W = w.alloc (.cells #[.slice A1 p.els.length c1, .slice A2 p.glob.length c2, .slice A3 p.schemes.length c3, .bool p.rel, .slice A4 p.drop.length c4, .int .i64 p.depth, .int .i64 p.window] 29) := ⟨_, rfl⟩
  have hb0 : Below w.heap.size w W0 := hW0 ▸ (Below.refl _ _).alloc (Nat.le_refl _) _
  have kP : Bl W0 w.heap.size 29 [.slice A1 p.els.length c1, .slice A2 p.glob.length c2, .slice A3 p.schemes.length c3, .bool p.rel, .slice A4 p.drop.length c4, .int .i64 p.depth, .int .i64 p.window] := hW0 ▸ Bl.new w _ _ rfl
  have hz0 := hb0.size
  obtain ⟨a0, a1, a2, a3, a4, a5, a6⟩ := cells7 kP
  have HX0 := Lib.hid hW0
  clear hW0
  go_enter Tryz.func8, Tryz.ntmps8
  go_upto_region 1 with fail
  rw [← HX0.out]
  go_upto_region 2 with (go_at_call 18; refine (HOW.out _ hb0).mono ?_; rintro e w1 ⟨D1, e1, D2, e2, D3, e3, D4, e4, F0, rfl, ho1, hb1⟩)
  clear a0 a1 a2 a3 a4 a5 a6
  obtain ⟨W1, hW1⟩ : ∃ W, W = w1.alloc (.cells #[.slice D1 p.els.length e1, .slice D2 p.glob.length e2, .slice D3 p.schemes.length e3, .bool p.rel, .slice D4 p.drop.length e4, .int .i64 p.depth, .int .i64 p.window] 29) := ⟨_, rfl⟩
  have hc1 : Below W0.heap.size W0 W1 := hW1 ▸ hb1.alloc hb1.size _
  have kB1 : Bl W1 w1.heap.size 29 [.slice D1 p.els.length e1, .slice D2 p.glob.length e2, .slice D3 p.schemes.length e3, .bool p.rel, .slice D4 p.drop.length e4, .int .i64 p.depth, .int .i64 p.window] := hW1 ▸ Bl.new w1 _ _ rfl
  have hz1 := hb1.size
  have hy1 : W1.heap.size = w1.heap.size + 1 := by rw [hW1]; simp
  have hal1 : ∀ k, k < w1.heap.size → W1.heap[k]? = w1.heap[k]? := fun k hk => by rw [hW1]; exact Below.heap_alloc _ _ _ hk
  have HX1 := Lib.hid hW1
  rw [← hW1]
  clear hW1
  have hw1 : Below w.heap.size w W1 := hb0.trans (hc1.mono (by have := hb0.size; omega))
  have kP1 := kP.below hc1
  have og : OwnP W1 W0.heap.size ⟨.slice D1 p.els.length e1, .slice D2 p.glob.length e2, .slice D3 p.schemes.length e3, .slice D4 p.drop.length e4⟩ p F0 := ho1.keep (by omega) fun k hk => hal1 k (ho1.ge k hk).2
  have hF0 : ∀ k ∈ F0, W0.heap.size ≤ k ∧ k < w1.heap.size := ho1.ge
  obtain ⟨b0, b1, b2, b3, b4, b5, b6⟩ := cells7 kB1
  clear ho1
  go_upto_region 3 with (go_at_call 39; refine (HCL.out _ ⟨.slice D1 p.els.length e1, .slice D2 p.glob.length e2, .slice D3 p.schemes.length e3, .slice D4 p.drop.length e4⟩ hw1 (og.rd (Nat.zero_le _) (Nat.le_refl _))).mono ?_; rintro e w2 ⟨m, E1, f1, E2, f2, E3, f3, E4, f4, F1, hfu, rfl, ho2, hb2⟩)
  obtain ⟨q, hq⟩ : ∃ q, q = closeP p m := ⟨_, rfl⟩
  have HCL2 : Hid (∀ W y, Below w.heap.size w W → RdP W 0 W.heap.size y p → Calls Tryz.prog 39 #[polV y p] W fun e w' => ∃ E1 f1 E2 f2 E3 f3 E4 f4 F, e = .returned (.agg #[.slice E1 q.els.length f1, .slice E2 q.glob.length f2, .slice E3 q.schemes.length f3, .bool q.rel, .slice E4 q.drop.length f4, .int .i64 q.depth, .int .i64 q.window]) ∧ OwnP w' W.heap.size ⟨.slice E1 q.els.length f1, .slice E2 q.glob.length f2, .slice E3 q.schemes.length f3, .slice E4 q.drop.length f4⟩ q F ∧ Below W.heap.size W w') := Lib.hid fun W y hW hy => (HCL.out W y hW hy).mono fun e w' ⟨m2, E1, f1, E2, f2, E3, f3, E4, f4, F, hf2, he, ho, hb⟩ => by
    rw [close_uni hfu hf2, ← hq] at he ho
    exact ⟨E1, f1, E2, f2, E3, f3, E4, f4, F, he, ho, hb⟩
  have HRC2 : Hid (∀ W, Below w.heap.size w W → Calls Tryz.prog 40 #[.agg #[.slice A1 p.els.length c1, .slice A2 p.glob.length c2, .slice A3 p.schemes.length c3, .bool p.rel, .slice A4 p.drop.length c4, .int .i64 p.depth, .int .i64 p.window]] W fun e w' => ∃ H1 h1 H2 h2 H3 h3 H4 h4, e = .returned (.agg #[.slice H1 q.els.length h1, .slice H2 q.glob.length h2, .slice H3 q.schemes.length h3, .bool q.rel, .slice H4 q.drop.length h4, .int .i64 q.depth, .int .i64 q.window]) ∧ (∀ w2 : World, w'.heap.size ≤ w2.heap.size → (∀ k, (k < w.heap.size ∨ W.heap.size ≤ k) → k < w'.heap.size → w2.heap[k]? = w'.heap[k]?) → RdP w2 0 w2.heap.size ⟨.slice H1 q.els.length h1, .slice H2 q.glob.length h2, .slice H3 q.schemes.length h3, .slice H4 q.drop.length h4⟩ q) ∧ Below W.heap.size W w') := Lib.hid fun W hW => (HRC.out W hW).mono fun e w' ⟨m2, H1, h1, H2, h2, H3, h3, H4, h4, hf2, he, ho, hb⟩ => by
    rw [close_uni hfu hf2, ← hq] at he ho
    exact ⟨H1, h1, H2, h2, H3, h3, H4, h4, he, ho, hb⟩
  have HSP2 : Hid (∀ W B y F, OwnP W B y q F → Calls Tryz.prog 26 #[polV y q] W fun e w' => e = .returned (.tuple #[]) ∧ Fr F W w') := Lib.hid fun W B y F ho => by rw [hq] at ho ⊢; exact HSP.out m hfu W B y F ho
  rw [← hq] at ho2 ⊢
  unfold polV at HCL2 HSP2
  clear HCL HRC HSP hq hfu b0 b1 b2 b3 b4 b5 b6
  obtain ⟨W2, hW2⟩ : ∃ W, W = w2.alloc (.cells #[.slice E1 q.els.length f1, .slice E2 q.glob.length f2, .slice E3 q.schemes.length f3, .bool q.rel, .slice E4 q.drop.length f4, .int .i64 q.depth, .int .i64 q.window] 29) := ⟨_, rfl⟩
  have hc2 : Below W1.heap.size W1 W2 := hW2 ▸ hb2.alloc hb2.size _
  have kB2 : Bl W2 w2.heap.size 29 [.slice E1 q.els.length f1, .slice E2 q.glob.length f2, .slice E3 q.schemes.length f3, .bool q.rel, .slice E4 q.drop.length f4, .int .i64 q.depth, .int .i64 q.window] := hW2 ▸ Bl.new w2 _ _ rfl
  have hz2 := hb2.size
  have hy2 : W2.heap.size = w2.heap.size + 1 := by rw [hW2]; simp
  have hal2 : ∀ k, k < w2.heap.size → W2.heap[k]? = w2.heap[k]? := fun k hk => by rw [hW2]; exact Below.heap_alloc _ _ _ hk
  have HX2 := Lib.hid hW2
  rw [← hW2]
  clear hW2
  have hw2 : Below w.heap.size w W2 := hw1.trans (hc2.mono (by have := hw1.size; omega))
  have kP2 := kP1.below hc2
  have kB12 := kB1.below hc2
  have oc : OwnP W2 W1.heap.size ⟨.slice E1 q.els.length f1, .slice E2 q.glob.length f2, .slice E3 q.schemes.length f3, .slice E4 q.drop.length f4⟩ q F1 := ho2.keep (by omega) fun k hk => hal2 k (ho2.ge k hk).2
  have hF1 : ∀ k ∈ F1, W1.heap.size ≤ k ∧ k < w2.heap.size := ho2.ge
  have og2 : OwnP W2 W0.heap.size ⟨.slice D1 p.els.length e1, .slice D2 p.glob.length e2, .slice D3 p.schemes.length e3, .slice D4 p.drop.length e4⟩ p F0 := og.keep hc2.size fun k hk => hc2.block k (by have := hF0 k hk; omega)
  obtain ⟨b0, b1, b2, b3, b4, b5, b6⟩ := cells7 kB12
  clear ho2 og
  go_upto_region 4 with (go_at_call 39; refine (HCL2.out _ ⟨.slice D1 p.els.length e1, .slice D2 p.glob.length e2, .slice D3 p.schemes.length e3, .slice D4 p.drop.length e4⟩ hw2 (og2.rd (Nat.zero_le _) (Nat.le_refl _))).mono ?_; rintro e w3 ⟨I1, i1, I2, i2, I3, i3, I4, i4, F2, rfl, ho3, hb3⟩)
  clear b0 b1 b2 b3 b4 b5 b6
  obtain ⟨W3, hW3⟩ : ∃ W, W = w3.alloc (.cells #[.slice I1 q.els.length i1, .slice I2 q.glob.length i2, .slice I3 q.schemes.length i3, .bool q.rel, .slice I4 q.drop.length i4, .int .i64 q.depth, .int .i64 q.window] 29) := ⟨_, rfl⟩
  have hc3 : Below W2.heap.size W2 W3 := hW3 ▸ hb3.alloc hb3.size _
  have kB3 : Bl W3 w3.heap.size 29 [.slice I1 q.els.length i1, .slice I2 q.glob.length i2, .slice I3 q.schemes.length i3, .bool q.rel, .slice I4 q.drop.length i4, .int .i64 q.depth, .int .i64 q.window] := hW3 ▸ Bl.new w3 _ _ rfl
  have hz3 := hb3.size
  have hy3 : W3.heap.size = w3.heap.size + 1 := by rw [hW3]; simp
  have hal3 : ∀ k, k < w3.heap.size → W3.heap[k]? = w3.heap[k]? := fun k hk => by rw [hW3]; exact Below.heap_alloc _ _ _ hk
  have HX3 := Lib.hid hW3
  rw [← hW3]
  clear hW3
  have hw3 : Below w.heap.size w W3 := hw2.trans (hc3.mono (by have := hw2.size; omega))
  have kP3 := kP2.below hc3
  have kB13 := kB12.below hc3
  have kB23 := kB2.below hc3
  have od : OwnP W3 W2.heap.size ⟨.slice I1 q.els.length i1, .slice I2 q.glob.length i2, .slice I3 q.schemes.length i3, .slice I4 q.drop.length i4⟩ q F2 := ho3.keep (by omega) fun k hk => hal3 k (ho3.ge k hk).2
  have hF2 : ∀ k ∈ F2, W2.heap.size ≤ k ∧ k < w3.heap.size := ho3.ge
  have og3 : OwnP W3 W0.heap.size ⟨.slice D1 p.els.length e1, .slice D2 p.glob.length e2, .slice D3 p.schemes.length e3, .slice D4 p.drop.length e4⟩ p F0 := og2.keep hc3.size fun k hk => hc3.block k (by have := hF0 k hk; omega)
  have oc3 : OwnP W3 W1.heap.size ⟨.slice E1 q.els.length f1, .slice E2 q.glob.length f2, .slice E3 q.schemes.length f3, .slice E4 q.drop.length f4⟩ q F1 := oc.keep hc3.size fun k hk => hc3.block k (by have := hF1 k hk; omega)
  obtain ⟨a0, a1, a2, a3, a4, a5, a6⟩ := cells7 kP3
  clear ho3 og2 oc
  go_upto_region 5 with (go_at_call 40; refine (HRC2.out _ hw3).mono ?_; rintro e w4 ⟨H1, h1, H2, h2, H3, h3, H4, h4, rfl, ho4, hb4⟩)
  clear a0 a1 a2 a3 a4 a5 a6
  obtain ⟨W4, hW4⟩ : ∃ W, W = w4.alloc (.cells #[.slice H1 q.els.length h1, .slice H2 q.glob.length h2, .slice H3 q.schemes.length h3, .bool q.rel, .slice H4 q.drop.length h4, .int .i64 q.depth, .int .i64 q.window] 29) := ⟨_, rfl⟩
  have hc4 : Below W3.heap.size W3 W4 := hW4 ▸ hb4.alloc hb4.size _
  have kB4 : Bl W4 w4.heap.size 29 [.slice H1 q.els.length h1, .slice H2 q.glob.length h2, .slice H3 q.schemes.length h3, .bool q.rel, .slice H4 q.drop.length h4, .int .i64 q.depth, .int .i64 q.window] := hW4 ▸ Bl.new w4 _ _ rfl
  have hz4 := hb4.size
  have hy4 : W4.heap.size = w4.heap.size + 1 := by rw [hW4]; simp
  have hal4 : ∀ k, k < w4.heap.size → W4.heap[k]? = w4.heap[k]? := fun k hk => by rw [hW4]; exact Below.heap_alloc _ _ _ hk
  have HX4 := Lib.hid hW4
  rw [← hW4]
  clear hW4
  have hw4 : Below w.heap.size w W4 := hw3.trans (hc4.mono (by have := hw3.size; omega))
  have kP4 := kP3.below hc4
  have kB14 := kB13.below hc4
  have kB24 := kB23.below hc4
  have kB34 := kB3.below hc4
  have od4 : OwnP W4 W2.heap.size ⟨.slice I1 q.els.length i1, .slice I2 q.glob.length i2, .slice I3 q.schemes.length i3, .slice I4 q.drop.length i4⟩ q F2 := od.keep hc4.size fun k hk => hc4.block k (by have := hF2 k hk; omega)
  have og4 : OwnP W4 W0.heap.size ⟨.slice D1 p.els.length e1, .slice D2 p.glob.length e2, .slice D3 p.schemes.length e3, .slice D4 p.drop.length e4⟩ p F0 := og3.keep hc4.size fun k hk => hc4.block k (by have := hF0 k hk; omega)
  have oc4 : OwnP W4 W1.heap.size ⟨.slice E1 q.els.length f1, .slice E2 q.glob.length f2, .slice E3 q.schemes.length f3, .slice E4 q.drop.length f4⟩ q F1 := oc3.keep hc4.size fun k hk => hc4.block k (by have := hF1 k hk; omega)
  have HW : Hid (∀ W, Below W4.heap.size W4 W → RdP W 0 W.heap.size ⟨.slice H1 q.els.length h1, .slice H2 q.glob.length h2, .slice H3 q.schemes.length h3, .slice H4 q.drop.length h4⟩ q) := Lib.hid fun W hW => ho4 W (by have := hW.size; omega) fun k _ hk => (hW.block k (by omega)).trans (hal4 k hk)
  have HP : Hid (∀ W, Below W4.heap.size W4 W → Below w.heap.size w W ∧ RdP W 0 W.heap.size ⟨.slice A1 p.els.length c1, .slice A2 p.glob.length c2, .slice A3 p.schemes.length c3, .slice A4 p.drop.length c4⟩ p) := Lib.hid fun W hW => by
    have h9 : Below w.heap.size w W := hw4.trans (hW.mono hw4.size)
    exact ⟨h9, (HX.out.stay (stay_below h9 (Nat.le_refl _))).wide (Nat.le_refl _) h9.size⟩
  have HS1 : Hid (∀ W, Below W4.heap.size W4 W → Calls Tryz.prog 23 #[.agg #[.slice E1 q.els.length f1, .slice E2 q.glob.length f2, .slice E3 q.schemes.length f3, .bool q.rel, .slice E4 q.drop.length f4, .int .i64 q.depth, .int .i64 q.window], .agg #[.slice H1 q.els.length h1, .slice H2 q.glob.length h2, .slice H3 q.schemes.length h3, .bool q.rel, .slice H4 q.drop.length h4, .int .i64 q.depth, .int .i64 q.window]] W fun e w' => e = .returned (.bool true) ∧ Below W.heap.size W w') := Lib.hid fun W hW => HSM.out W q ⟨.slice E1 q.els.length f1, .slice E2 q.glob.length f2, .slice E3 q.schemes.length f3, .slice E4 q.drop.length f4⟩ ⟨.slice H1 q.els.length h1, .slice H2 q.glob.length h2, .slice H3 q.schemes.length h3, .slice H4 q.drop.length h4⟩ ((oc4.keep hW.size fun k hk => hW.block k (by have := hF1 k hk; omega)).rd (Nat.zero_le _) (Nat.le_refl _)) (HW.out W hW)
  have HS2 : Hid (∀ W, Below W4.heap.size W4 W → Calls Tryz.prog 23 #[.agg #[.slice D1 p.els.length e1, .slice D2 p.glob.length e2, .slice D3 p.schemes.length e3, .bool p.rel, .slice D4 p.drop.length e4, .int .i64 p.depth, .int .i64 p.window], .agg #[.slice A1 p.els.length c1, .slice A2 p.glob.length c2, .slice A3 p.schemes.length c3, .bool p.rel, .slice A4 p.drop.length c4, .int .i64 p.depth, .int .i64 p.window]] W fun e w' => e = .returned (.bool true) ∧ Below W.heap.size W w') := Lib.hid fun W hW => HSM.out W p ⟨.slice D1 p.els.length e1, .slice D2 p.glob.length e2, .slice D3 p.schemes.length e3, .slice D4 p.drop.length e4⟩ ⟨.slice A1 p.els.length c1, .slice A2 p.glob.length c2, .slice A3 p.schemes.length c3, .slice A4 p.drop.length c4⟩ ((og4.keep hW.size fun k hk => hW.block k (by have := hF0 k hk; omega)).rd (Nat.zero_le _) (Nat.le_refl _)) (HP.out W hW).2
  have HO4 := Lib.hid ho4
  have h44 := Below.refl W4.heap.size W4
  obtain ⟨a0, a1, a2, a3, a4, a5, a6⟩ := cells7 kP4
  obtain ⟨b0, b1, b2, b3, b4, b5, b6⟩ := cells7 kB14
  obtain ⟨c0', c1', c2', c3', c4', c5', c6'⟩ := cells7 kB24
  obtain ⟨d0, d1, d2, d3, d4, d5, d6⟩ := cells7 kB4
  clear ho4 od og3 oc3
  go_upto_region 7 with (first
    | (go_at_call 42; refine (HND.out _ hw4).mono ?_; rintro e w5 ⟨X1, y1, G1, rfl, ho5, hb5⟩)
    | (go_at_call 43; refine (HNR.out _).mono ?_; rintro e w6 ⟨X2, y2, G2, rfl, ho6, hb6⟩)
    | (go_at_call 41; refine (HTX.out w6 (needsL n) _ _ (kdW.wide (rd_below (kdW.read (lo := 0) (hi := w5.heap.size) ho5 (Nat.zero_le _) (Nat.le_refl _)) hb6 (Nat.le_refl _)) (Nat.le_refl _) hb6.size) (kdW.read ho6 (Nat.zero_le _) (Nat.le_refl _))).mono ?_; rintro e w7 ⟨rfl, hb7⟩; have h7 : Below W4.heap.size W4 w7 := (hb5.trans (hb6.mono hb5.size)).trans (hb7.mono (Nat.le_trans hb5.size hb6.size)); obtain ⟨p0, p1, p2, p3, p4, p5, p6⟩ := cells7 (kB24.below h7); obtain ⟨r0, r1, r2, r3, r4, r5, r6⟩ := cells7 (kB4.below h7))
    | (go_at_call 23; have _z := h8; refine (HS2.out _ h8).mono ?_; rintro e w9 ⟨rfl, hb9⟩; have h9 : Below W4.heap.size W4 w9 := h8.trans (hb9.mono h8.size))
    | (go_at_call 23; refine (HS1.out _ h7).mono ?_; rintro e w8 ⟨rfl, hb8⟩; have h8 : Below W4.heap.size W4 w8 := h7.trans (hb8.mono h7.size); obtain ⟨s0, s1, s2, s3, s4, s5, s6⟩ := cells7 (kB14.below h8); obtain ⟨t0, t1, t2, t3, t4, t5, t6⟩ := cells7 (kP4.below h8)))
  clear p0 p1 p2 p3 p4 p5 p6 r0 r1 r2 r3 r4 r5 r6 s0 s1 s2 s3 s4 s5 s6 t0 t1 t2 t3 t4 t5 t6 a0 a1 a2 a3 a4 a5 a6 b0 b1 b2 b3 b4 b5 b6 c0' c1' c2' c3' c4' c5' c6' d0 d1 d2 d3 d4 d5 d6
  have h9s := h9.size
  have oc9 : OwnP w9 W1.heap.size ⟨.slice E1 q.els.length f1, .slice E2 q.glob.length f2, .slice E3 q.schemes.length f3, .slice E4 q.drop.length f4⟩ q F1 := oc4.keep h9.size fun k hk => h9.block k (by have := hF1 k hk; omega)
  have hW9 := (HP.out _ h9).1
  have kP9 := kP4.below h9
  have kB19 := kB14.below h9
  have kB29 := kB24.below h9
  have kB39 := kB34.below h9
  have kB49 := kB4.below h9
  obtain ⟨a0, a1, a2, a3, a4, a5, a6⟩ := cells7 kB29
  go_upto_region 8 with (go_at_call 26; refine (HSP2.out _ W1.heap.size ⟨.slice E1 q.els.length f1, .slice E2 q.glob.length f2, .slice E3 q.schemes.length f3, .slice E4 q.drop.length f4⟩ F1 oc9).mono ?_; rintro e w10 ⟨rfl, hf10⟩)
  have hz10 := hf10.size
  have hlP := kP.lt
  have hl1 := kB1.lt
  have kP10 := kP9.of (hf10.block _ kP9.lt (fun hx => by have := hF1 _ hx; omega))
  have kB110 := kB19.of (hf10.block _ kB19.lt (fun hx => by have := hF1 _ hx; omega))
  have kB310 := kB39.of (hf10.block _ kB39.lt (fun hx => by have := hF1 _ hx; omega))
  have kB410 := kB49.of (hf10.block _ kB49.lt (fun hx => by have := hF1 _ hx; omega))
  have hw10 : Below w.heap.size w w10 := hW9.trans (hf10.below hW9.size (fun k hk => by have := hF1 k hk; have := hw1.size; omega))
  have og10 : OwnP w10 W0.heap.size ⟨.slice D1 p.els.length e1, .slice D2 p.glob.length e2, .slice D3 p.schemes.length e3, .slice D4 p.drop.length e4⟩ p F0 := (og4.keep h9.size fun k hk => h9.block k (by have := hF0 k hk; omega)).keep hf10.size fun k hk => hf10.block k (by have := hF0 k hk; omega) (fun hx => by have := hF0 k hk; have := hF1 k hx; omega)
  have od10 : OwnP w10 W2.heap.size ⟨.slice I1 q.els.length i1, .slice I2 q.glob.length i2, .slice I3 q.schemes.length i3, .slice I4 q.drop.length i4⟩ q F2 := (od4.keep h9.size fun k hk => h9.block k (by have := hF2 k hk; omega)).keep hf10.size fun k hk => hf10.block k (by have := hF2 k hk; omega) (fun hx => by have := hF2 k hk; have := hF1 k hx; omega)
  have HW10 : Hid (∀ W, Below w10.heap.size w10 W → RdP W 0 W.heap.size ⟨.slice H1 q.els.length h1, .slice H2 q.glob.length h2, .slice H3 q.schemes.length h3, .slice H4 q.drop.length h4⟩ q) := Lib.hid fun W hW => HO4.out W (by have := hW.size; omega) fun k hk1 hk => by
    have hnf : k ∉ F1 := fun hx => by have := hF1 k hx; have := hw1.size; omega
    rw [hW.block k (by omega), hf10.block k (by omega) hnf, h9.block k (by omega)]
    exact hal4 k hk
  have HS3 : Hid (∀ W, Below w10.heap.size w10 W → Calls Tryz.prog 23 #[.agg #[.slice I1 q.els.length i1, .slice I2 q.glob.length i2, .slice I3 q.schemes.length i3, .bool q.rel, .slice I4 q.drop.length i4, .int .i64 q.depth, .int .i64 q.window], .agg #[.slice H1 q.els.length h1, .slice H2 q.glob.length h2, .slice H3 q.schemes.length h3, .bool q.rel, .slice H4 q.drop.length h4, .int .i64 q.depth, .int .i64 q.window]] W fun e w' => e = .returned (.bool true) ∧ Below W.heap.size W w') := Lib.hid fun W hW => HSM.out W q ⟨.slice I1 q.els.length i1, .slice I2 q.glob.length i2, .slice I3 q.schemes.length i3, .slice I4 q.drop.length i4⟩ ⟨.slice H1 q.els.length h1, .slice H2 q.glob.length h2, .slice H3 q.schemes.length h3, .slice H4 q.drop.length h4⟩ ((od10.keep hW.size fun k hk => hW.block k (by have := hF2 k hk; omega)).rd (Nat.zero_le _) (Nat.le_refl _)) (HW10.out W hW)
  have HS4 : Hid (∀ W, Below w10.heap.size w10 W → Calls Tryz.prog 23 #[.agg #[.slice D1 p.els.length e1, .slice D2 p.glob.length e2, .slice D3 p.schemes.length e3, .bool p.rel, .slice D4 p.drop.length e4, .int .i64 p.depth, .int .i64 p.window], .agg #[.slice A1 p.els.length c1, .slice A2 p.glob.length c2, .slice A3 p.schemes.length c3, .bool p.rel, .slice A4 p.drop.length c4, .int .i64 p.depth, .int .i64 p.window]] W fun e w' => e = .returned (.bool true) ∧ Below W.heap.size W w') := Lib.hid fun W hW => by
    have h9 : Below w.heap.size w W := hw10.trans (hW.mono hw10.size)
    exact HSM.out W p ⟨.slice D1 p.els.length e1, .slice D2 p.glob.length e2, .slice D3 p.schemes.length e3, .slice D4 p.drop.length e4⟩ ⟨.slice A1 p.els.length c1, .slice A2 p.glob.length c2, .slice A3 p.schemes.length c3, .slice A4 p.drop.length c4⟩ ((og10.keep hW.size fun k hk => hW.block k (by have := hF0 k hk; omega)).rd (Nat.zero_le _) (Nat.le_refl _)) ((HX.out.stay (stay_below h9 (Nat.le_refl _))).wide (Nat.le_refl _) h9.size)
  have h10 := Below.refl w10.heap.size w10
  clear a0 a1 a2 a3 a4 a5 a6
  obtain ⟨a0, a1, a2, a3, a4, a5, a6⟩ := cells7 kB310
  obtain ⟨b0, b1, b2, b3, b4, b5, b6⟩ := cells7 kB410
  go_wp2_with (first
    | (go_at_call 23; have _z := h11; refine (HS4.out _ h11).mono ?_; rintro e w12 ⟨rfl, hb12⟩; have h12 : Below w10.heap.size w10 w12 := h11.trans (hb12.mono h11.size))
    | (go_at_call 23; refine (HS3.out _ h10).mono ?_; rintro e w11 ⟨rfl, hb11⟩; have h11 : Below w10.heap.size w10 w11 := h10.trans (hb11.mono h10.size); obtain ⟨s0, s1, s2, s3, s4, s5, s6⟩ := cells7 (kB110.below h11); obtain ⟨t0, t1, t2, t3, t4, t5, t6⟩ := cells7 (kP10.below h11))
    | (go_at_call 17; refine (HA.out _ (hw10.trans (h12.mono hw10.size))).mono ?_; rintro e w13 ⟨rfl, hb13⟩))
  go_ret
  have hw12 := hw10.trans (h12.mono hw10.size)
  exact ⟨rfl, hw12.trans (hb13.mono hw12.size)⟩
end Go.Proofs.YteikagdinecfoaaGreatDoor.policyCloses
