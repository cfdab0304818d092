/- The walk of PolicyAsks: an element, a rule, what is dropped. -/
import Derived.Test.YteikagdinecfoaaGreatDoorAw
import Derived.Test.YteikagdinecfoaaGreatDoorPa
import Derived.Test.YteikagdinecfoaaGreatDoorRa
import Derived.Test.YteikagdinecfoaaGreatDoorSp
set_option linter.unusedVariables false
set_option linter.unusedSimpArgs false
namespace Go.Proofs.YteikagdinecfoaaGreatDoor.policyAsks
open Go.RowKit Lb Gr Pd Go.Proofs.YteikagdinecfoaaGreatDoor.Pm Bk Ru Co Ea Go.Proofs.YteikagdinecfoaaGreatDoor.Fd Ra Dp Tx Go.Proofs.YteikagdinecfoaaGreatDoor.Sp Go.Proofs.YteikagdinecfoaaGreatDoor.Aw Pa
attribute [local go_sem ↓] Go.wp_at_zero Go.wp_at_succ

theorem fitR_of {l : List RuleD} (h1 : l.length * 48 ≤ reachBytes) (h2 : ∀ r ∈ l, GdR r) : FitR l := by
  have hr : reachBytes = 140737488351232 := rfl
  refine ⟨by omega, fun i hi => ?_⟩
  have := (h2 _ (List.getElem_mem hi)).2.2.2.1
  omega
theorem fit_of {p : PolD} (h : GdP p) : FitP p := by
  have hr : reachBytes = 140737488351232 := rfl
  obtain ⟨h1, h2, h3, h4, h5, h6, _⟩ := h
  have h7 := h5.1
  have h8 := h6.1
  exact ⟨⟨by omega, fun i hi => fitR_of (h2 _ (List.getElem_mem hi)).2.1 (h2 _ (List.getElem_mem hi)).2.2⟩, fitR_of h3 h4, by omega, by omega⟩
theorem fitE_at {p : PolD} (h : FitP p) (s : ByteArray) : FitR ((fndE p.els s).getD el0).rules := by
  cases he : fndE p.els s with
  | none => exact ⟨by simp [el0], fun i hi => by simp [el0] at hi⟩
  | some e =>
    obtain ⟨i, hi, rfl⟩ := List.getElem_of_mem (List.mem_of_find?_eq_some he)
    exact h.1.2 i hi

set_option maxHeartbeats 8000000 in
set_option maxRecDepth 100000 in
theorem walk (w : World) (hl : Laid w) (x : Vs) (p : PolD) (h : RdP w 0 w.heap.size x p) (hg : GdP p) (n a : ByteArray) : Calls Tryz.prog 6 #[polV x p, .string n, .string a] w fun e w' => e = .returned (.bool true) ∧ Below w.heap.size w w' := by
  have hf := fit_of hg
  have hfe := fitE_at hf n
  have hrw : ∀ W, Below w.heap.size w W → RdP W 0 W.heap.size x p := fun W hW => (h.stay (stay_below hW (Nat.le_refl _))).wide (Nat.le_refl _) hW.size
  have HA : Hid (∀ W, Below w.heap.size w W → Calls Tryz.prog 17 #[] W fun e w' => e = .returned (.bool true) ∧ Below W.heap.size W w') := Lib.hid fun W hW => awakeC W (hl.below hW)
  have HE : Hid (∀ W, Below w.heap.size w W → Calls Tryz.prog 29 #[polV x p, .string n] W fun e w' => ∃ A c G, e = .returned (.tuple #[.agg #[.string ((fndE p.els n).getD el0).name, .slice A ((fndE p.els n).getD el0).rules.length c], .bool (fndE p.els n).isSome]) ∧ kdR.own w' W.heap.size (.slice A ((fndE p.els n).getD el0).rules.length c) ((fndE p.els n).getD el0).rules G ∧ Below W.heap.size W w') :=
    Lib.hid fun W hW => (elementC x p n W (hrw W hW) hf.1).mono fun e w' ⟨u, G, he, ho, hb⟩ => by obtain ⟨A, c, rfl, _⟩ := fmR.own_form ho; exact ⟨A, c, G, he, ho, hb⟩
  have HF : Hid (∀ W, Below w.heap.size w W → Calls Tryz.prog 30 #[polV x p, .string n] W fun e w' => ∃ A c, e = .returned (.tuple #[.agg #[.string ((fndE p.els n).getD el0).name, .slice A ((fndE p.els n).getD el0).rules.length c], .bool (fndE p.els n).isSome]) ∧ kdR.rd w' 0 w.heap.size (.slice A ((fndE p.els n).getD el0).rules.length c) ((fndE p.els n).getD el0).rules ∧ Below W.heap.size W w') :=
    Lib.hid fun W hW => (findC x p n W w.heap.size hW.size (h.stay (stay_below hW (Nat.le_refl _)))).mono fun e w' ⟨u, he, ho, hb⟩ => by obtain ⟨A, c, rfl, _⟩ := fmR.rd_form ho; exact ⟨A, c, he, ho, hb⟩
  have HR : Hid (∀ W, Below w.heap.size w W → Calls Tryz.prog 31 #[polV x p, .string n, .string a] W fun e w' => ∃ A c G, e = .returned (.tuple #[.agg #[.string (ruD p n a).name, .int .i64 (ruD p n a).kind, .slice A (ruD p n a).words.length c], .bool (ruleL p n a).isSome]) ∧ kdW.own w' W.heap.size (.slice A (ruD p n a).words.length c) (ruD p n a).words G ∧ Below W.heap.size W w') :=
    Lib.hid fun W hW => (pRuleC x p n a W (hrw W hW) hf).mono fun e w' ⟨u, G, he, ho, hb⟩ => by obtain ⟨A, c, rfl, _⟩ := own_slice ho.1; exact ⟨A, c, G, he, ho, hb⟩
  have HQ : Hid (∀ W, Below w.heap.size w W → Calls Tryz.prog 32 #[polV x p, .string n, .string a] W fun e w' => ∃ A c, e = .returned (.tuple #[.agg #[.string (ruD p n a).name, .int .i64 (ruD p n a).kind, .slice A (ruD p n a).words.length c], .bool (ruleL p n a).isSome]) ∧ kdW.rd w' 0 W.heap.size (.slice A (ruD p n a).words.length c) (ruD p n a).words ∧ Below W.heap.size W w') :=
    Lib.hid fun W hW => (rRuleC x p n a W (hrw W hW)).mono fun e w' ⟨u, he, ho, hb⟩ => by obtain ⟨A, c, rfl, _⟩ := rdW_form ho; exact ⟨A, c, he, ho, hb⟩
  have HD : Hid (∀ W, Below w.heap.size w W → Calls Tryz.prog 36 #[polV x p, .string n] W fun e w' => e = .returned (.bool (drpB p n)) ∧ Below W.heap.size W w') := Lib.hid fun W hW => droppedC x p n W (hl.below hW).tab (hrw W hW)
  have HDR : Hid (∀ W, Below w.heap.size w W → Calls Tryz.prog 37 #[polV x p, .string n] W fun e w' => e = .returned (.bool (drpB p n)) ∧ Below W.heap.size W w') := Lib.hid fun W hW => rDroppedC x p n W (hrw W hW)
  generalize (fndE p.els n).getD el0 = E at HE HF hfe
  generalize (fndE p.els n).isSome = b1 at HE HF
  generalize (ruleL p n a).isSome = b2 at HR HQ
  generalize ruD p n a = R at HR HQ
  generalize drpB p n = b3 at HD HDR
  obtain ⟨A1, c1, A2, c2, A3, c3, A4, c4, rfl, q1, q2, q3, q4, q5, q6, q7, q8⟩ := h.form
  obtain ⟨en, er⟩ := E
  obtain ⟨rn, rk, rws⟩ := R
  simp only at HE HF HR HQ hfe
  unfold polV at HE HF HR HQ HD HDR ⊢
  simp only at HE HF HR HQ HD HDR ⊢
  have HRU : Hid (∀ W v u, kdR.rd W 0 W.heap.size v er → kdR.rd W 0 W.heap.size u er → Calls Tryz.prog 33 #[v, u] W fun e w' => e = .returned (.bool true) ∧ Below W.heap.size W w') := Lib.hid fun W v u h1 h2 => lRules er v u W h1 h2
  have HRL : Hid (∀ W v u, kdW.rd W 0 W.heap.size v rws → kdW.rd W 0 W.heap.size u rws → Calls Tryz.prog 34 #[.agg #[.string rn, .int .i64 rk, v], .agg #[.string rn, .int .i64 rk, u]] W fun e w' => e = .returned (.bool true) ∧ Below W.heap.size W w') := Lib.hid fun W v u h1 h2 => lRule ⟨rn, rk, rws⟩ v u W h1 h2
  have hfe2 : er.length ≤ 9223372036854775807 ∧ ∀ i (h : i < er.length), (er[i]).words.length ≤ 9223372036854775807 := ⟨by have := hfe.1; omega, fun i hi => by have := hfe.2 i hi; omega⟩
  have HSP : Hid (∀ W B v G, kdR.own W B v er G → Calls Tryz.prog 35 #[v] W fun e w' => e = .returned (.tuple #[]) ∧ Fr G W w') := Lib.hid fun W B v G ho => (spoiltC W ho hfe2.1 hfe2.2).mono fun e w' ⟨he, F', _, _, hfr⟩ => ⟨he, hfr⟩
  clear hrw hf hfe hg h hl hfe2
  obtain ⟨W0, hW0⟩ : ∃ W, W = w.alloc (.cells #[.slice A1 p.els.length c1, .slice A2 p.glob.length c2, .slice A3 p.schemes.length c3, .bool p.rel, .slice A4 p.drop.length c4, .int .i64 p.depth, .int .i64 p.window] 29) := ⟨_, rfl⟩
  have hb0 : Below w.heap.size w W0 := hW0 ▸ (Below.refl _ _).alloc (Nat.le_refl _) _
  have k0 : Bl W0 w.heap.size 29 [.slice A1 p.els.length c1, .slice A2 p.glob.length c2, .slice A3 p.schemes.length c3, .bool p.rel, .slice A4 p.drop.length c4, .int .i64 p.depth, .int .i64 p.window] := hW0 ▸ Bl.new w _ _ rfl
  have hz0 := hb0.size
  have g0 := k0.cell 0 rfl
  have g1 := k0.cell 1 rfl
  have g2 := k0.cell 2 rfl
  have g3 := k0.cell 3 rfl
  have g4 := k0.cell 4 rfl
  have g5 := k0.cell 5 rfl
  have g6 := k0.cell 6 rfl
  have HX0 := Lib.hid hW0
  clear hW0
  have hne := toList_eq_of (a := en) (b := en) rfl
  go_enter Tryz.func6, Tryz.ntmps6
  go_upto_region 1 with fail
  rw [← HX0.out]
  go_upto_region 2 with (go_at_call 29; refine (HE.out _ hb0).mono ?_; rintro e w1 ⟨B1, d1, G1, rfl, ho1, hb1⟩)
  obtain ⟨W1, hW1⟩ : ∃ W, W = w1.alloc (.cells #[.string en, .slice B1 er.length d1] 45) := ⟨_, rfl⟩
  have hc1 : Below W0.heap.size W0 W1 := hW1 ▸ hb1.alloc hb1.size _
  have k1 : Bl W1 w1.heap.size 45 [.string en, .slice B1 er.length d1] := hW1 ▸ Bl.new w1 _ _ rfl
  have hz1 := hb1.size
  have hy1 : W1.heap.size = w1.heap.size + 1 := by rw [hW1]; simp
  have hg1 : ∀ j ∈ G1, W0.heap.size ≤ j ∧ j < w1.heap.size := kdR.ge ho1
  have hp1 : kdR.own W1 W0.heap.size (.slice B1 er.length d1) er G1 := kdR.keep ho1 (by omega) fun j hj => by rw [hW1]; exact Below.heap_alloc _ _ _ (hg1 j hj).2
  have HX1 := Lib.hid hW1
  clear hW1 ho1
  rw [← HX1.out]
  have k01 := k0.below hc1
  have g0 := k01.cell 0 rfl
  have g1 := k01.cell 1 rfl
  have g2 := k01.cell 2 rfl
  have g3 := k01.cell 3 rfl
  have g4 := k01.cell 4 rfl
  have g5 := k01.cell 5 rfl
  have g6 := k01.cell 6 rfl
  have hw1 : Below w.heap.size w W1 := hb0.trans (hc1.mono hz0)
  go_upto_region 3 with (go_at_call 30; refine (HF.out _ hw1).mono ?_; rintro e w2 ⟨B2, d2, rfl, ho2, hb2⟩)
  obtain ⟨W2, hW2⟩ : ∃ W, W = w2.alloc (.cells #[.string en, .slice B2 er.length d2] 45) := ⟨_, rfl⟩
  have hc2 : Below W1.heap.size W1 W2 := hW2 ▸ hb2.alloc hb2.size _
  have k2 : Bl W2 w2.heap.size 45 [.string en, .slice B2 er.length d2] := hW2 ▸ Bl.new w2 _ _ rfl
  have hz2 := hb2.size
  have hy2 : W2.heap.size = w2.heap.size + 1 := by rw [hW2]; simp
  have hp2 : kdR.rd W2 0 w.heap.size (.slice B2 er.length d2) er := kdR.stay ho2 fun j _ hj => by rw [hW2]; exact Below.heap_alloc _ _ _ (by omega)
  have HX2 := Lib.hid hW2
  clear hW2 ho2
  rw [← HX2.out]
  have k02 := k01.below hc2
  have k12 := k1.below hc2
  have g0 := k02.cell 0 rfl
  have g1 := k02.cell 1 rfl
  have g2 := k02.cell 2 rfl
  have g3 := k02.cell 3 rfl
  have g4 := k02.cell 4 rfl
  have g5 := k02.cell 5 rfl
  have g6 := k02.cell 6 rfl
  have hw2 : Below w.heap.size w W2 := hw1.trans (hc2.mono (by omega))
  go_upto_region 4 with (go_at_call 31; refine (HR.out _ hw2).mono ?_; rintro e w3 ⟨B3, d3, G3, rfl, ho3, hb3⟩)
  obtain ⟨W3, hW3⟩ : ∃ W, W = w3.alloc (.cells #[.string rn, .int .i64 rk, .slice B3 rws.length d3] 50) := ⟨_, rfl⟩
  have hc3 : Below W2.heap.size W2 W3 := hW3 ▸ hb3.alloc hb3.size _
  have k3 : Bl W3 w3.heap.size 50 [.string rn, .int .i64 rk, .slice B3 rws.length d3] := hW3 ▸ Bl.new w3 _ _ rfl
  have hz3 := hb3.size
  have hy3 : W3.heap.size = w3.heap.size + 1 := by rw [hW3]; simp
  have hp3 : kdW.rd W3 0 W3.heap.size (.slice B3 rws.length d3) rws := kdW.wide (kdW.stay (kdW.read ho3 (Nat.zero_le _) (Nat.le_refl _)) fun j _ hj => by rw [hW3]; exact Below.heap_alloc _ _ _ hj) (Nat.le_refl _) (by omega)
  have HX3 := Lib.hid hW3
  clear hW3 ho3
  rw [← HX3.out]
  have k03 := k02.below hc3
  have k13 := k12.below hc3
  have k23 := k2.below hc3
  have g0 := k03.cell 0 rfl
  have g1 := k03.cell 1 rfl
  have g2 := k03.cell 2 rfl
  have g3 := k03.cell 3 rfl
  have g4 := k03.cell 4 rfl
  have g5 := k03.cell 5 rfl
  have g6 := k03.cell 6 rfl
  have hw3 : Below w.heap.size w W3 := hw2.trans (hc3.mono (by omega))
  go_upto_region 5 with (go_at_call 32; refine (HQ.out _ hw3).mono ?_; rintro e w4 ⟨B4, d4, rfl, ho4, hb4⟩)
  obtain ⟨W4, hW4⟩ : ∃ W, W = w4.alloc (.cells #[.string rn, .int .i64 rk, .slice B4 rws.length d4] 50) := ⟨_, rfl⟩
  have hc4 : Below W3.heap.size W3 W4 := hW4 ▸ hb4.alloc hb4.size _
  have k4 : Bl W4 w4.heap.size 50 [.string rn, .int .i64 rk, .slice B4 rws.length d4] := hW4 ▸ Bl.new w4 _ _ rfl
  have hz4 := hb4.size
  have hy4 : W4.heap.size = w4.heap.size + 1 := by rw [hW4]; simp
  have hp4 : kdW.rd W4 0 W4.heap.size (.slice B4 rws.length d4) rws := kdW.wide (kdW.stay ho4 fun j _ hj => by rw [hW4]; exact Below.heap_alloc _ _ _ (by omega)) (Nat.le_refl _) (by omega)
  have HX4 := Lib.hid hW4
  clear hW4 ho4
  rw [← HX4.out]
  have k04 := k03.below hc4
  have k14 := k13.below hc4
  have k24 := k23.below hc4
  have k34 := k3.below hc4
  have hw4 : Below w.heap.size w W4 := hw3.trans (hc4.mono (by omega))
  have hw14 : Below W1.heap.size W1 W4 := (hc2.trans (hc3.mono (by omega))).trans (hc4.mono (by omega))
  have hp14 : kdR.own W4 W0.heap.size (.slice B1 er.length d1) er G1 := kdR.keep hp1 hw14.size fun j hj => hw14.block j (by have := hg1 j hj; omega)
  have hp24 : kdR.rd W4 0 w.heap.size (.slice B2 er.length d2) er := kdR.stay hp2 fun j _ hj => (hc3.trans (hc4.mono (by omega))).block j (by omega)
  have hp34 : kdW.rd W4 0 W4.heap.size (.slice B3 rws.length d3) rws := kdW.wide (kdW.stay hp3 fun j _ hj => hc4.block j hj) (Nat.le_refl _) (by omega)
  have HRU4 := Lib.hid (HRU.out W4 _ _ (kdR.read hp14 (Nat.zero_le _) (Nat.le_refl _)) (kdR.wide hp24 (Nat.le_refl _) (by omega)))
  have v0 := k14.cell 0 rfl
  have v1 := k14.cell 1 rfl
  have u0 := k24.cell 0 rfl
  have u1 := k24.cell 1 rfl
  have HP34 := Lib.hid hp34
  have HP4 := Lib.hid hp4
  have HP14 := Lib.hid hp14
  have HP24 := Lib.hid hp24
  clear hp1 hp2 hp3 hp34 hp4 hp14 hp24
  have e1 : (b1 != b1) = false := by simp
  have e2 : (b2 != b2) = false := by simp
  go_upto_region 7 with (first
    | (go_at_call 33; refine HRU4.out.mono ?_; rintro e w5 ⟨rfl, hb5⟩; have k35 := k34.below hb5; have k45 := k4.below hb5; have r0 := k35.cell 0 rfl; have r1 := k35.cell 1 rfl; have r2 := k35.cell 2 rfl; have o0 := k45.cell 0 rfl; have o1 := k45.cell 1 rfl; have o2 := k45.cell 2 rfl)
    | (go_at_call 34; refine (HRL.out w5 _ _ (kdW.wide (rd_below HP34.out hb5 (Nat.le_refl _)) (Nat.le_refl _) hb5.size) (kdW.wide (rd_below HP4.out hb5 (Nat.le_refl _)) (Nat.le_refl _) hb5.size)).mono ?_; rintro e w6 ⟨rfl, hb6⟩))
  have h46 : Below W4.heap.size W4 w6 := hb5.trans (hb6.mono hb5.size)
  have hz6 := h46.size
  have k06 := k04.below h46
  have k16 := k14.below h46
  have k26 := k24.below h46
  have g0 := k06.cell 0 rfl
  have g1 := k06.cell 1 rfl
  have g2 := k06.cell 2 rfl
  have g3 := k06.cell 3 rfl
  have g4 := k06.cell 4 rfl
  have g5 := k06.cell 5 rfl
  have g6 := k06.cell 6 rfl
  have hw6 : Below w.heap.size w w6 := hw4.trans (h46.mono (by omega))
  go_upto_region 8 with (go_at_call 29; refine (HE.out _ hw6).mono ?_; rintro e w7 ⟨B5, d5, G5, rfl, ho5, hb7⟩)
  obtain ⟨W7, hW7⟩ : ∃ W, W = w7.alloc (.cells #[.string en, .slice B5 er.length d5] 45) := ⟨_, rfl⟩
  have hc7 : Below w6.heap.size w6 W7 := hW7 ▸ hb7.alloc hb7.size _
  have k5 : Bl W7 w7.heap.size 45 [.string en, .slice B5 er.length d5] := hW7 ▸ Bl.new w7 _ _ rfl
  have hz7 := hb7.size
  have hy7 : W7.heap.size = w7.heap.size + 1 := by rw [hW7]; simp
  have hg5 : ∀ j ∈ G5, w6.heap.size ≤ j ∧ j < w7.heap.size := kdR.ge ho5
  have hp5 : kdR.own W7 w6.heap.size (.slice B5 er.length d5) er G5 := kdR.keep ho5 (by omega) fun j hj => by rw [hW7]; exact Below.heap_alloc _ _ _ (hg5 j hj).2
  have HX7 := Lib.hid hW7
  clear hW7 ho5
  rw [← HX7.out]
  have k07 := k06.below hc7
  have k17 := k16.below hc7
  have k27 := k26.below hc7
  have hw7 : Below w.heap.size w W7 := hw6.trans (hc7.mono (by omega))
  have h47 : Below W4.heap.size W4 W7 := h46.trans (hc7.mono hz6)
  have hp17 : kdR.own W7 W0.heap.size (.slice B1 er.length d1) er G1 := kdR.keep HP14.out h47.size fun j hj => h47.block j (by have := hg1 j hj; omega)
  have HSP7 := Lib.hid (HSP.out W7 _ _ _ hp17)
  have v0 := k17.cell 0 rfl
  have v1 := k17.cell 1 rfl
  clear hp17
  go_upto_region 9 with (go_at_call 35; refine HSP7.out.mono ?_; rintro e w8 ⟨rfl, hf8⟩)
  have hn0 : w.heap.size ∉ G1 := fun hx => by have := hg1 _ hx; have := k0.lt; omega
  have hn2 : w2.heap.size ∉ G1 := fun hx => by have := hg1 _ hx; omega
  have hn5 : w7.heap.size ∉ G1 := fun hx => by have := hg1 _ hx; omega
  have k08 := k07.of (hf8.block _ k07.lt hn0)
  have k28 := k27.of (hf8.block _ k27.lt hn2)
  have k58 := k5.of (hf8.block _ k5.lt hn5)
  have hz8 := hf8.size
  have hw8 : Below w.heap.size w w8 := hw7.trans (hf8.below hw7.size (fun j hj => by have := hg1 j hj; omega))
  have hp58 : kdR.own w8 w6.heap.size (.slice B5 er.length d5) er G5 := kdR.keep hp5 hz8 fun j hj => hf8.block j (by have := hg5 j hj; omega) (fun hx => by have := hg1 j hx; have := hg5 j hj; omega)
  have h48 : Below w.heap.size W4 w8 := (h47.mono (by omega)).trans (hf8.below hw7.size (fun j hj => by have := hg1 j hj; omega))
  have hp28 : kdR.rd w8 0 w.heap.size (.slice B2 er.length d2) er := kdR.stay HP24.out fun j _ hj => h48.block j hj
  have HK : Hid (∀ W, Below w8.heap.size w8 W → Below w.heap.size w W ∧ W.cell? ⟨w.heap.size, 0, none⟩ = some (.slice A1 p.els.length c1) ∧ W.cell? ⟨w.heap.size, 1, none⟩ = some (.slice A2 p.glob.length c2) ∧ W.cell? ⟨w.heap.size, 2, none⟩ = some (.slice A3 p.schemes.length c3) ∧ W.cell? ⟨w.heap.size, 3, none⟩ = some (.bool p.rel) ∧ W.cell? ⟨w.heap.size, 4, none⟩ = some (.slice A4 p.drop.length c4) ∧ W.cell? ⟨w.heap.size, 5, none⟩ = some (.int .i64 p.depth) ∧ W.cell? ⟨w.heap.size, 6, none⟩ = some (.int .i64 p.window) ∧ W.cell? ⟨w2.heap.size, 1, none⟩ = some (.slice B2 er.length d2) ∧ W.cell? ⟨w7.heap.size, 1, none⟩ = some (.slice B5 er.length d5)) := Lib.hid fun W hW => by
    have j0 := k08.below hW
    exact ⟨hw8.trans (hW.mono hw8.size), j0.cell 0 rfl, j0.cell 1 rfl, j0.cell 2 rfl, j0.cell 3 rfl, j0.cell 4 rfl, j0.cell 5 rfl, j0.cell 6 rfl, (k28.below hW).cell 1 rfl, (k58.below hW).cell 1 rfl⟩
  have HRU8 : Hid (∀ W, Below w8.heap.size w8 W → Calls Tryz.prog 33 #[.slice B5 er.length d5, .slice B2 er.length d2] W fun e w' => e = .returned (.bool true) ∧ Below W.heap.size W w') := Lib.hid fun W hW => HRU.out W _ _ (kdR.wide (rd_below (kdR.read hp58 (Nat.zero_le _) (Nat.le_refl _)) hW (Nat.le_refl _)) (Nat.le_refl _) hW.size) (kdR.wide (kdR.stay hp28 fun j _ hj => hW.block j (Nat.lt_of_lt_of_le hj hw8.size)) (Nat.le_refl _) (Nat.le_trans hw8.size hW.size))
  have h88 : Below w8.heap.size w8 w8.drew := drw w8 1
  obtain ⟨hq0, a0, a1, a2, a3, a4, a5, a6, a7, a8⟩ := HK.out _ h88
  have hs8 := hw8.size
  clear k08 k28 k58 k07 k17 k27 k06 k16 k26 k04 k14 k24 k34 k4 k3 k2 k1 k0 k01 k02 k12 k03 k13 k23 hp58 hp28 hf8 hp5
  clear k5 v0 v1 u0 u1 g0 g1 g2 g3 g4 g5 g6
  cases b3 <;>
  · go_region_with (first
      | (go_at_call 33; refine (HRU8.out _ (by exact h88)).mono ?_; rintro e w9 ⟨rfl, hb9⟩; have h89 : Below w8.heap.size w8 w9 := h88.trans hb9; obtain ⟨hq9, i0, i1, i2, i3, i4, i5, i6, i7, i8⟩ := HK.out _ h89)
      | (go_at_call 36; refine (HD.out _ hq9).mono ?_; rintro e w10 ⟨rfl, hb10⟩; have h810 : Below w8.heap.size w8 w10 := h89.trans (hb10.mono h89.size); obtain ⟨hq10, m0, m1, m2, m3, m4, m5, m6, m7, m8⟩ := HK.out _ h810)
      | (go_at_call 37; refine (HDR.out _ hq10).mono ?_; rintro e w11 ⟨rfl, hb11⟩; have h811 : Below w8.heap.size w8 w11 := h810.trans (hb11.mono h810.size); obtain ⟨hq11, n0, n1, n2, n3, n4, n5, n6, n7, n8⟩ := HK.out _ h811)
      | (go_at_call 17; refine (HA.out _ hq11).mono ?_; rintro e w12 ⟨rfl, hb12⟩))
    all_goals first
      | (go_ret; exact ⟨rfl, hq11.trans (hb12.mono hq11.size)⟩)
      | (go_wp2; go_ret; exact ⟨rfl, hq11.trans (hb12.mono hq11.size)⟩)
end Go.Proofs.YteikagdinecfoaaGreatDoor.policyAsks
