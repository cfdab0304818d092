/- The walk of PolicyBack: a policy's text says it, in order; in order it stays, and says the same of every element and attribute. -/
import Derived.Test.YteikagdinecfoaaGreatDoorWPolicyShut
import Derived.Test.YteikagdinecfoaaGreatDoorSp
import Derived.Test.YteikagdinecfoaaGreatDoorRa
import Derived.Test.YteikagdinecfoaaGreatDoorBv
import Derived.Test.YteikagdinecfoaaGreatDoorBu
import Derived.Test.YteikagdinecfoaaGreatDoorLq
import Derived.Deep.RegionHeld3
set_option linter.unusedVariables false
set_option linter.unusedSimpArgs false
namespace Go.Proofs.YteikagdinecfoaaGreatDoor.policyBack
open Go.RowKit Lb Gr Pd Fl Go.Proofs.YteikagdinecfoaaGreatDoor.Pm Bk Ru Co Sa Tx Ea Go.Proofs.YteikagdinecfoaaGreatDoor.Fd Go.Proofs.YteikagdinecfoaaGreatDoor.Ra Dp Go.Proofs.YteikagdinecfoaaGreatDoor.Ck Go.Proofs.YteikagdinecfoaaGreatDoor.Ty Go.Proofs.YteikagdinecfoaaGreatDoor.Vd Go.Proofs.YteikagdinecfoaaGreatDoor.Or Go.Proofs.YteikagdinecfoaaGreatDoor.Ch Go.Proofs.YteikagdinecfoaaGreatDoor.Pl Go.Proofs.YteikagdinecfoaaGreatDoor.Pp Go.Proofs.YteikagdinecfoaaGreatDoor.Aw Pa Fg Pf Pt Bt Bv Bu Go.Proofs.YteikagdinecfoaaGreatDoor.Lq
attribute [local go_sem ↓] Go.wp_at_zero Go.wp_at_succ

theorem cells7 {w : World} {g : Nat} {t : TypeId} {a0 a1 a2 a3 a4 a5 a6 : Value} (h : Bl w g t [a0, a1, a2, a3, a4, a5, a6]) : w.cell? ⟨g, 0, none⟩ = some a0 ∧ w.cell? ⟨g, 1, none⟩ = some a1 ∧ w.cell? ⟨g, 2, none⟩ = some a2 ∧ w.cell? ⟨g, 3, none⟩ = some a3 ∧ w.cell? ⟨g, 4, none⟩ = some a4 ∧ w.cell? ⟨g, 5, none⟩ = some a5 ∧ w.cell? ⟨g, 6, none⟩ = some a6 :=
  ⟨h.cell 0 rfl, h.cell 1 rfl, h.cell 2 rfl, h.cell 3 rfl, h.cell 4 rfl, h.cell 5 rfl, h.cell 6 rfl⟩
theorem cells2 {w : World} {g : Nat} {t : TypeId} {a0 a1 a2 : Value} (h : Bl w g t [a0, a1, a2]) : w.cell? ⟨g, 0, none⟩ = some a0 ∧ w.cell? ⟨g, 1, none⟩ = some a1 := ⟨h.cell 0 rfl, h.cell 1 rfl⟩

set_option maxHeartbeats 8000000 in
set_option maxRecDepth 100000 in
theorem walk (w : World) (hl : Laid w) (hm : Mx w) (x : Vs) (p : PolD) (h : RdP w 0 w.heap.size x p) (hg : GdP p) (hbk : bP p ≤ 1048576) (nm at' : ByteArray) : Calls Tryz.prog 15 #[polV x p, .string nm, .string at'] w fun e w' => e = .returned (.bool true) ∧ Below w.heap.size w w' := by
  have hs := sized_of hg
  have hrw : ∀ W, Below w.heap.size w W → RdP W 0 W.heap.size x p := fun W hW => (h.stay (stay_below hW (Nat.le_refl _))).wide (Nat.le_refl _) hW.size
  have HA : Hid (∀ W, Below w.heap.size w W → Calls Tryz.prog 17 #[] W fun e w' => e = .returned (.bool true) ∧ Below W.heap.size W w') := Lib.hid fun W hW => awakeC W (hl.below hW)
  obtain ⟨c, hc⟩ : ∃ c, c = checkI p := ⟨_, rfl⟩
  obtain ⟨q, hq⟩ : ∃ q, q = tidyQ p := ⟨_, rfl⟩
  obtain ⟨ps, hps⟩ : ∃ s, s = printQ p := ⟨_, rfl⟩
  have HTD : Hid (∀ W, Below w.heap.size w W → Calls Tryz.prog 20 #[polV x p] W fun e w' => ∃ E1 f1 E2 f2 E3 f3 E4 f4 F, e = .returned (.tuple #[.agg #[.slice E1 q.els.length f1, .slice E2 q.glob.length f2, .slice E3 q.schemes.length f3, .bool q.rel, .slice E4 q.drop.length f4, .int .i64 q.depth, .int .i64 q.window], .int .i64 c]) ∧ OwnP w' W.heap.size ⟨.slice E1 q.els.length f1, .slice E2 q.glob.length f2, .slice E3 q.schemes.length f3, .slice E4 q.drop.length f4⟩ q F ∧ Below W.heap.size W w') := Lib.hid fun W hW => (TidyC x p W (hl.tab.below hW) (hl.nev.below hW) (hrw W hW) hs).mono fun e w' ⟨y, F, he, ho, hb⟩ => by
    rw [← hq, ← hc] at he
    rw [← hq] at ho
    obtain ⟨E1, f1, E2, f2, E3, f3, E4, f4, rfl, _⟩ := (ho.rd (lo := 0) (hi := w'.heap.size) (Nat.zero_le _) (Nat.le_refl _)).form
    exact ⟨E1, f1, E2, f2, E3, f3, E4, f4, F, he, ho, hb⟩
  have HPR : Hid (∀ W, Below w.heap.size w W → Calls Tryz.prog 21 #[polV x p] W fun e w' => e = .returned (.tuple #[.string ps, .int .i64 c]) ∧ Below W.heap.size W w') := Lib.hid fun W hW => by rw [hps, hc]; exact PrintC x p W (hl.tab.below hW) (hl.nev.below hW) (hl.pow.below hW) (hrw W hW) hs fun h0 => (prok_of hg h0 hbk).1
  have HCK : Hid (∀ W, Below w.heap.size w W → Calls Tryz.prog 22 #[polV x p] W fun e w' => e = .returned (.int .i64 c) ∧ Below W.heap.size W w') := Lib.hid fun W hW => by rw [hc]; exact CheckC x p W (hl.tab.below hW) (hl.nev.below hW) (hrw W hW) hs.ok
  obtain ⟨rn, hrn⟩ : ∃ s, s = (ruD p nm at').name := ⟨_, rfl⟩
  obtain ⟨rk, hrk⟩ : ∃ s, s = (ruD p nm at').kind := ⟨_, rfl⟩
  obtain ⟨rb, hrb⟩ : ∃ s, s = (ruleL p nm at').isSome := ⟨_, rfl⟩
  obtain ⟨en, hen⟩ : ∃ s, s = ((fndE p.els nm).getD el0).name := ⟨_, rfl⟩
  obtain ⟨eb, heb⟩ : ∃ s, s = (fndE p.els nm).isSome := ⟨_, rfl⟩
  obtain ⟨db, hdb⟩ : ∃ s, s = drpB p nm := ⟨_, rfl⟩
  have HRL : Hid (∀ W, Below w.heap.size w W → Calls Tryz.prog 31 #[polV x p, .string nm, .string at'] W fun e w' => ∃ B n b, e = .returned (.tuple #[.agg #[.string rn, .int .i64 rk, .slice B n b], .bool rb]) ∧ Below W.heap.size W w') := Lib.hid fun W hW => (pRuleC x p nm at' W (hrw W hW) hs.fit).mono fun e w' ⟨u, G, he, ho, hb⟩ => by
    obtain ⟨B, b, rfl, _⟩ := own_slice ho.1
    rw [← hrn, ← hrk, ← hrb] at he
    exact ⟨B, _, b, he, hb⟩
  have HEL : Hid (∀ W, Below w.heap.size w W → Calls Tryz.prog 29 #[polV x p, .string nm] W fun e w' => ∃ B n b, e = .returned (.tuple #[.agg #[.string en, .slice B n b], .bool eb]) ∧ Below W.heap.size W w') := Lib.hid fun W hW => (elementC x p nm W (hrw W hW) hs.fit.1).mono fun e w' ⟨u, G, he, ho, hb⟩ => by
    obtain ⟨B, b, rfl, _⟩ := fmR.own_form ho
    rw [← hen, ← heb] at he
    exact ⟨B, _, b, he, hb⟩
  have HDP : Hid (∀ W, Below w.heap.size w W → Calls Tryz.prog 36 #[polV x p, .string nm] W fun e w' => e = .returned (.bool db) ∧ Below W.heap.size W w') := Lib.hid fun W hW => by rw [hdb]; exact droppedC x p nm W (hl.tab.below hW) (hrw W hW)
  have HT : Hid (c = 0 →
      (∀ W, Below w.heap.size w W → Calls Tryz.prog 51 #[.string ps] W fun e w' => ∃ I1 i1 I2 i2 I3 i3 I4 i4 F, e = .returned (.tuple #[.agg #[.slice I1 q.els.length i1, .slice I2 q.glob.length i2, .slice I3 q.schemes.length i3, .bool q.rel, .slice I4 q.drop.length i4, .int .i64 q.depth, .int .i64 q.window], .int .i64 0, .int .i64 0]) ∧ OwnP w' W.heap.size ⟨.slice I1 q.els.length i1, .slice I2 q.glob.length i2, .slice I3 q.schemes.length i3, .slice I4 q.drop.length i4⟩ q F ∧ Below W.heap.size W w') ∧
      (∀ W y, Below w.heap.size w W → RdP W 0 W.heap.size y q → Calls Tryz.prog 20 #[polV y q] W fun e w' => ∃ H1 h1 H2 h2 H3 h3 H4 h4 F, e = .returned (.tuple #[.agg #[.slice H1 q.els.length h1, .slice H2 q.glob.length h2, .slice H3 q.schemes.length h3, .bool q.rel, .slice H4 q.drop.length h4, .int .i64 q.depth, .int .i64 q.window], .int .i64 0]) ∧ OwnP w' W.heap.size ⟨.slice H1 q.els.length h1, .slice H2 q.glob.length h2, .slice H3 q.schemes.length h3, .slice H4 q.drop.length h4⟩ q F ∧ Below W.heap.size W w') ∧
      (∀ W y, Below w.heap.size w W → RdP W 0 W.heap.size y q → Calls Tryz.prog 31 #[polV y q, .string nm, .string at'] W fun e w' => ∃ B n b, e = .returned (.tuple #[.agg #[.string rn, .int .i64 rk, .slice B n b], .bool rb]) ∧ Below W.heap.size W w') ∧
      (∀ W y, Below w.heap.size w W → RdP W 0 W.heap.size y q → Calls Tryz.prog 29 #[polV y q, .string nm] W fun e w' => ∃ B n b, e = .returned (.tuple #[.agg #[.string en, .slice B n b], .bool eb]) ∧ Below W.heap.size W w') ∧
      (∀ W y, Below w.heap.size w W → RdP W 0 W.heap.size y q → Calls Tryz.prog 36 #[polV y q, .string nm] W fun e w' => e = .returned (.bool db) ∧ Below W.heap.size W w')) := Lib.hid fun h0 => by
    have h1 : checkI p = 0 := by rw [← hc]; exact h0
    have hv := valid_of h1
    have hzz : thingsN p ≤ 9223372036854775807 := by have := things_bP p; omega
    have hvt := valid_tidy hv hzz
    have hct := of_valid hvt
    have hst := sized_of (gd_tidy hg)
    have e1 : q = tidyP p := by rw [hq]; unfold tidyQ; rw [if_pos h1]
    have e2 : tidyQ (tidyP p) = tidyP p := by unfold tidyQ; rw [if_pos hct]; exact tidyP_self hv
    have e3 : ps = str (printL (tidyP p)) := by rw [hps]; unfold printQ; rw [if_pos h1]
    obtain ⟨g1, g2, g3⟩ := prok_of hg h1 hbk
    obtain ⟨r1, r2, r3⟩ := ruD_tidy hv nm at'
    have hlen : ps.size ≤ 2147483647 := by
      rw [e3, str_size]
      have := print_len p g2 g3
      omega
    refine ⟨fun W hW => (ParseC ps W (hl.tab.below hW) (hl.nev.below hW) (hm.below hW) hlen).mono fun e w' ⟨y, F, he, ho, hb⟩ => ?_, fun W y hW hy => ?_, fun W y hW hy => ?_, fun W y hW hy => ?_, fun W y hW hy => ?_⟩
    · have e4 : parseQ ps = (q, 0, 0) := by rw [e3, e1]; exact back h1 hzz
      rw [e4] at he ho
      obtain ⟨I1, i1, I2, i2, I3, i3, I4, i4, rfl, _⟩ := (ho.rd (lo := 0) (hi := w'.heap.size) (Nat.zero_le _) (Nat.le_refl _)).form
      exact ⟨I1, i1, I2, i2, I3, i3, I4, i4, F, he, ho, hb⟩
    · rw [e1] at hy ⊢
      refine (TidyC y (tidyP p) W (hl.tab.below hW) (hl.nev.below hW) hy hst).mono fun e w' ⟨y, F, he, ho, hb⟩ => ?_
      rw [e2, hct] at he
      rw [e2] at ho
      obtain ⟨H1, h1, H2, h2, H3, h3, H4, h4, rfl, _⟩ := (ho.rd (lo := 0) (hi := w'.heap.size) (Nat.zero_le _) (Nat.le_refl _)).form
      exact ⟨H1, h1, H2, h2, H3, h3, H4, h4, F, he, ho, hb⟩
    · rw [e1] at hy ⊢
      refine (pRuleC y (tidyP p) nm at' W hy hst.fit).mono fun e w' ⟨u, G, he, ho, hb⟩ => ?_
      obtain ⟨B, b, rfl, _⟩ := own_slice ho.1
      rw [r1, r2, r3, ← hrn, ← hrk, ← hrb] at he
      exact ⟨B, _, b, he, hb⟩
    · rw [e1] at hy ⊢
      refine (elementC y (tidyP p) nm W hy hst.fit.1).mono fun e w' ⟨u, G, he, ho, hb⟩ => ?_
      obtain ⟨B, b, rfl, _⟩ := fmR.own_form ho
      rw [fndE_name hv, fndE_some hv, ← hen, ← heb] at he
      exact ⟨B, _, b, he, hb⟩
    · rw [e1] at hy ⊢
      rw [hdb, ← drpB_tidy p nm]
      exact droppedC y (tidyP p) nm W (hl.tab.below hW) hy
  have HSM : Hid (∀ W q y y2, RdP W 0 W.heap.size y q → RdP W 0 W.heap.size y2 q → Calls Tryz.prog 23 #[polV y q, polV y2 q] W fun e w' => e = .returned (.bool true) ∧ Below W.heap.size W w') := Lib.hid fun W q y y2 h1 h2 => lSameC y y2 q W h1 h2
  obtain ⟨A1, c1, A2, c2, A3, c3, A4, c4, rfl, _⟩ := h.form
  unfold polV at HTD HPR HCK HRL HEL HDP HT HSM ⊢
  simp only at HTD HPR HCK HRL HEL HDP ⊢
  have hn1 := toList_eq_of (a := rn) (b := rn) rfl
  have hn2 : (rk == rk) = true := by simp
  have hn3 : (rb == rb) = true := by simp
  have hn4 : (eb == eb) = true := by simp
  have hn5 : (db == db) = true := by simp
  clear hs hrw hl hm h hg hbk hc hq hps hrn hrk hrb hen heb hdb
  obtain ⟨W0, hW0⟩ : ∃ W, W = w.alloc (.cells #[.slice A1 p.els.length c1, .slice A2 p.glob.length c2, .slice A3 p.schemes.length c3, .bool p.rel, .slice A4 p.drop.length c4, .int .i64 p.depth, .int .i64 p.window] 29) := ⟨_, rfl⟩
  have hb0 : Below w.heap.size w W0 := hW0 ▸ (Below.refl _ _).alloc (Nat.le_refl _) _
  have kP : Bl W0 w.heap.size 29 [.slice A1 p.els.length c1, .slice A2 p.glob.length c2, .slice A3 p.schemes.length c3, .bool p.rel, .slice A4 p.drop.length c4, .int .i64 p.depth, .int .i64 p.window] := hW0 ▸ Bl.new w _ _ rfl
  have hz0 := hb0.size
  have HKP : Hid (∀ W, Below W0.heap.size W0 W → W.cell? ⟨w.heap.size, 0, none⟩ = some (.slice A1 p.els.length c1) ∧ W.cell? ⟨w.heap.size, 1, none⟩ = some (.slice A2 p.glob.length c2) ∧ W.cell? ⟨w.heap.size, 2, none⟩ = some (.slice A3 p.schemes.length c3) ∧ W.cell? ⟨w.heap.size, 3, none⟩ = some (.bool p.rel) ∧ W.cell? ⟨w.heap.size, 4, none⟩ = some (.slice A4 p.drop.length c4) ∧ W.cell? ⟨w.heap.size, 5, none⟩ = some (.int .i64 p.depth) ∧ W.cell? ⟨w.heap.size, 6, none⟩ = some (.int .i64 p.window)) := Lib.hid fun W hW => cells7 (kP.below hW)
  obtain ⟨a0, a1, a2, a3, a4, a5, a6⟩ := HKP.out _ (Below.refl _ _)
  have HX0 := Lib.hid hW0
  clear hW0 kP
  go_enter Tryz.func15, Tryz.ntmps15
  go_upto_region 1 with fail
  rw [← HX0.out]
  go_upto_region 2 with (go_at_call 20; refine (HTD.out _ hb0).mono ?_; rintro e w1 ⟨E1, f1, E2, f2, E3, f3, E4, f4, F0, rfl, ho1, hb1⟩)
  clear a0 a1 a2 a3 a4 a5 a6
  obtain ⟨W1, hW1⟩ : ∃ W, W = w1.alloc (.cells #[.slice E1 q.els.length f1, .slice E2 q.glob.length f2, .slice E3 q.schemes.length f3, .bool q.rel, .slice E4 q.drop.length f4, .int .i64 q.depth, .int .i64 q.window] 29) := ⟨_, rfl⟩
  have hc1 : Below W0.heap.size W0 W1 := hW1 ▸ hb1.alloc hb1.size _
  have kB1 : Bl W1 w1.heap.size 29 [.slice E1 q.els.length f1, .slice E2 q.glob.length f2, .slice E3 q.schemes.length f3, .bool q.rel, .slice E4 q.drop.length f4, .int .i64 q.depth, .int .i64 q.window] := hW1 ▸ Bl.new w1 _ _ rfl
  have hz1 := hb1.size
  have hy1 : W1.heap.size = w1.heap.size + 1 := by rw [hW1]; simp
  have og1 : OwnP W1 W0.heap.size ⟨.slice E1 q.els.length f1, .slice E2 q.glob.length f2, .slice E3 q.schemes.length f3, .slice E4 q.drop.length f4⟩ q F0 := ho1.keep (by omega) fun k hk => by rw [hW1]; exact Below.heap_alloc _ _ _ (ho1.ge k hk).2
  have HG : Hid (∀ W, Below W1.heap.size W1 W → RdP W 0 W.heap.size ⟨.slice E1 q.els.length f1, .slice E2 q.glob.length f2, .slice E3 q.schemes.length f3, .slice E4 q.drop.length f4⟩ q) := Lib.hid fun W hW => (og1.keep hW.size fun k hk => hW.block k (og1.ge k hk).2).rd (Nat.zero_le _) (Nat.le_refl _)
  clear og1 ho1
  have HK1 : Hid (∀ W, Below W1.heap.size W1 W → W.cell? ⟨w1.heap.size, 0, none⟩ = some (.slice E1 q.els.length f1) ∧ W.cell? ⟨w1.heap.size, 1, none⟩ = some (.slice E2 q.glob.length f2) ∧ W.cell? ⟨w1.heap.size, 2, none⟩ = some (.slice E3 q.schemes.length f3) ∧ W.cell? ⟨w1.heap.size, 3, none⟩ = some (.bool q.rel) ∧ W.cell? ⟨w1.heap.size, 4, none⟩ = some (.slice E4 q.drop.length f4) ∧ W.cell? ⟨w1.heap.size, 5, none⟩ = some (.int .i64 q.depth) ∧ W.cell? ⟨w1.heap.size, 6, none⟩ = some (.int .i64 q.window)) := Lib.hid fun W hW => cells7 (kB1.below hW)
  have HX1 := Lib.hid hW1
  have HY1 := Lib.hid hy1
  rw [← hW1]
  clear hW1 kB1 hy1
  have h10 : Below w.heap.size w W1 := hb0.trans (hc1.mono hz0)
  obtain ⟨a0, a1, a2, a3, a4, a5, a6⟩ := HKP.out _ hc1
  go_upto_region 3 with (go_at_call 21; refine (HPR.out _ h10).mono ?_; rintro e w2 ⟨rfl, hb2⟩)
  clear a0 a1 a2 a3 a4 a5 a6
  have h20 : Below w.heap.size w w2 := h10.trans (hb2.mono h10.size)
  have h21 : Below W1.heap.size W1 w2 := hb2
  by_cases hc0 : c = 0
  · obtain ⟨HPA, HT2, HR2, HE2, HD2⟩ := HT.out hc0
    have HPA := Lib.hid HPA
    have HT2 := Lib.hid HT2
    have HR2 := Lib.hid HR2
    have HE2 := Lib.hid HE2
    have HD2 := Lib.hid HD2
    subst hc0
    clear HT
    go_upto_region 5 with (go_at_call 16; refine (numC _ _).mono ?_; rintro e w9 ⟨rfl, rfl⟩)
    go_upto_region 6 with (go_at_call 51; refine (HPA.out _ h20).mono ?_; rintro e w3 ⟨I1, i1, I2, i2, I3, i3, I4, i4, F1, rfl, ho3, hb3⟩)
    obtain ⟨W3, hW3⟩ : ∃ W, W = w3.alloc (.cells #[.slice I1 q.els.length i1, .slice I2 q.glob.length i2, .slice I3 q.schemes.length i3, .bool q.rel, .slice I4 q.drop.length i4, .int .i64 q.depth, .int .i64 q.window] 29) := ⟨_, rfl⟩
    have hc3 : Below w2.heap.size w2 W3 := hW3 ▸ hb3.alloc hb3.size _
    have kB3 : Bl W3 w3.heap.size 29 [.slice I1 q.els.length i1, .slice I2 q.glob.length i2, .slice I3 q.schemes.length i3, .bool q.rel, .slice I4 q.drop.length i4, .int .i64 q.depth, .int .i64 q.window] := hW3 ▸ Bl.new w3 _ _ rfl
    have hz3 := hb3.size
    have hy3 : W3.heap.size = w3.heap.size + 1 := by rw [hW3]; simp
    have og3 : OwnP W3 w2.heap.size ⟨.slice I1 q.els.length i1, .slice I2 q.glob.length i2, .slice I3 q.schemes.length i3, .slice I4 q.drop.length i4⟩ q F1 := ho3.keep (by omega) fun k hk => by rw [hW3]; exact Below.heap_alloc _ _ _ (ho3.ge k hk).2
    have HQ : Hid (∀ W, Below W3.heap.size W3 W → RdP W 0 W.heap.size ⟨.slice I1 q.els.length i1, .slice I2 q.glob.length i2, .slice I3 q.schemes.length i3, .slice I4 q.drop.length i4⟩ q) := Lib.hid fun W hW => (og3.keep hW.size fun k hk => hW.block k (og3.ge k hk).2).rd (Nat.zero_le _) (Nat.le_refl _)
    clear og3 ho3
    have HK3 : Hid (∀ W, Below W3.heap.size W3 W → W.cell? ⟨w3.heap.size, 0, none⟩ = some (.slice I1 q.els.length i1) ∧ W.cell? ⟨w3.heap.size, 1, none⟩ = some (.slice I2 q.glob.length i2) ∧ W.cell? ⟨w3.heap.size, 2, none⟩ = some (.slice I3 q.schemes.length i3) ∧ W.cell? ⟨w3.heap.size, 3, none⟩ = some (.bool q.rel) ∧ W.cell? ⟨w3.heap.size, 4, none⟩ = some (.slice I4 q.drop.length i4) ∧ W.cell? ⟨w3.heap.size, 5, none⟩ = some (.int .i64 q.depth) ∧ W.cell? ⟨w3.heap.size, 6, none⟩ = some (.int .i64 q.window)) := Lib.hid fun W hW => cells7 (kB3.below hW)
    have HX3 := Lib.hid hW3
    have HY3 := Lib.hid hy3
    rw [← hW3]
    clear hW3 kB3 hy3
    have h30 : Below w.heap.size w W3 := h20.trans (hc3.mono h20.size)
    have h31 : Below W1.heap.size W1 W3 := h21.trans (hc3.mono h21.size)
    obtain ⟨b0, b1, b2, b3, b4, b5, b6⟩ := HK1.out _ h31
    go_upto_region 7 with (go_at_call 20; refine (HT2.out _ ⟨.slice E1 q.els.length f1, .slice E2 q.glob.length f2, .slice E3 q.schemes.length f3, .slice E4 q.drop.length f4⟩ h30 (HG.out _ h31)).mono ?_; rintro e w4 ⟨H1, h1, H2, h2, H3, h3, H4, h4, F2, rfl, ho4, hb4⟩)
    clear b0 b1 b2 b3 b4 b5 b6
    obtain ⟨W4, hW4⟩ : ∃ W, W = w4.alloc (.cells #[.slice H1 q.els.length h1, .slice H2 q.glob.length h2, .slice H3 q.schemes.length h3, .bool q.rel, .slice H4 q.drop.length h4, .int .i64 q.depth, .int .i64 q.window] 29) := ⟨_, rfl⟩
    have hc4 : Below W3.heap.size W3 W4 := hW4 ▸ hb4.alloc hb4.size _
    have kB4 : Bl W4 w4.heap.size 29 [.slice H1 q.els.length h1, .slice H2 q.glob.length h2, .slice H3 q.schemes.length h3, .bool q.rel, .slice H4 q.drop.length h4, .int .i64 q.depth, .int .i64 q.window] := hW4 ▸ Bl.new w4 _ _ rfl
    have hz4 := hb4.size
    have hy4 : W4.heap.size = w4.heap.size + 1 := by rw [hW4]; simp
    have og4 : OwnP W4 W3.heap.size ⟨.slice H1 q.els.length h1, .slice H2 q.glob.length h2, .slice H3 q.schemes.length h3, .slice H4 q.drop.length h4⟩ q F2 := ho4.keep (by omega) fun k hk => by rw [hW4]; exact Below.heap_alloc _ _ _ (ho4.ge k hk).2
    have HH : Hid (∀ W, Below W4.heap.size W4 W → RdP W 0 W.heap.size ⟨.slice H1 q.els.length h1, .slice H2 q.glob.length h2, .slice H3 q.schemes.length h3, .slice H4 q.drop.length h4⟩ q) := Lib.hid fun W hW => (og4.keep hW.size fun k hk => hW.block k (og4.ge k hk).2).rd (Nat.zero_le _) (Nat.le_refl _)
    clear og4 ho4
    have HK4 : Hid (∀ W, Below W4.heap.size W4 W → W.cell? ⟨w4.heap.size, 0, none⟩ = some (.slice H1 q.els.length h1) ∧ W.cell? ⟨w4.heap.size, 1, none⟩ = some (.slice H2 q.glob.length h2) ∧ W.cell? ⟨w4.heap.size, 2, none⟩ = some (.slice H3 q.schemes.length h3) ∧ W.cell? ⟨w4.heap.size, 3, none⟩ = some (.bool q.rel) ∧ W.cell? ⟨w4.heap.size, 4, none⟩ = some (.slice H4 q.drop.length h4) ∧ W.cell? ⟨w4.heap.size, 5, none⟩ = some (.int .i64 q.depth) ∧ W.cell? ⟨w4.heap.size, 6, none⟩ = some (.int .i64 q.window)) := Lib.hid fun W hW => cells7 (kB4.below hW)
    have HX4 := Lib.hid hW4
    have HY4 := Lib.hid hy4
    rw [← hW4]
    clear hW4 kB4 hy4
    have h40 : Below w.heap.size w W4 := h30.trans (hc4.mono h30.size)
    have h41 : Below W1.heap.size W1 W4 := h31.trans (hc4.mono h31.size)
    have h00 : Below W0.heap.size W0 W4 := hc1.trans (h41.mono hc1.size)
    obtain ⟨a0, a1, a2, a3, a4, a5, a6⟩ := HKP.out _ h00
    go_upto_region 8 with (go_at_call 31; refine (HRL.out _ h40).mono ?_; rintro e w5 ⟨B1, n1, z1, rfl, hb5⟩)
    clear a0 a1 a2 a3 a4 a5 a6
    obtain ⟨W5, hW5⟩ : ∃ W, W = w5.alloc (.cells #[.string rn, .int .i64 rk, .slice B1 n1 z1] 50) := ⟨_, rfl⟩
    have hc5 : Below W4.heap.size W4 W5 := hW5 ▸ hb5.alloc hb5.size _
    have kB5 : Bl W5 w5.heap.size 50 [.string rn, .int .i64 rk, .slice B1 n1 z1] := hW5 ▸ Bl.new w5 _ _ rfl
    have hz5 := hb5.size
    have hy5 : W5.heap.size = w5.heap.size + 1 := by rw [hW5]; simp
    have HK5 : Hid (∀ W, Below W5.heap.size W5 W → W.cell? ⟨w5.heap.size, 0, none⟩ = some (.string rn) ∧ W.cell? ⟨w5.heap.size, 1, none⟩ = some (.int .i64 rk)) := Lib.hid fun W hW => cells2 (kB5.below hW)
    have HX5 := Lib.hid hW5
    have HY5 := Lib.hid hy5
    rw [← hW5]
    clear hW5 kB5 hy5
    have h50 : Below w.heap.size w W5 := h40.trans (hc5.mono h40.size)
    have h51 : Below W1.heap.size W1 W5 := h41.trans (hc5.mono h41.size)
    obtain ⟨b0, b1, b2, b3, b4, b5, b6⟩ := HK1.out _ h51
    go_upto_region 9 with (go_at_call 31; refine (HR2.out _ ⟨.slice E1 q.els.length f1, .slice E2 q.glob.length f2, .slice E3 q.schemes.length f3, .slice E4 q.drop.length f4⟩ h50 (HG.out _ h51)).mono ?_; rintro e w6 ⟨B2, n2, z2, rfl, hb6⟩)
    clear b0 b1 b2 b3 b4 b5 b6
    obtain ⟨W6, hW6⟩ : ∃ W, W = w6.alloc (.cells #[.string rn, .int .i64 rk, .slice B2 n2 z2] 50) := ⟨_, rfl⟩
    have hc6 : Below W5.heap.size W5 W6 := hW6 ▸ hb6.alloc hb6.size _
    have kB6 : Bl W6 w6.heap.size 50 [.string rn, .int .i64 rk, .slice B2 n2 z2] := hW6 ▸ Bl.new w6 _ _ rfl
    have hz6 := hb6.size
    have hy6 : W6.heap.size = w6.heap.size + 1 := by rw [hW6]; simp
    have HK6 : Hid (∀ W, Below W6.heap.size W6 W → W.cell? ⟨w6.heap.size, 0, none⟩ = some (.string rn) ∧ W.cell? ⟨w6.heap.size, 1, none⟩ = some (.int .i64 rk)) := Lib.hid fun W hW => cells2 (kB6.below hW)
    have HX6 := Lib.hid hW6
    have HY6 := Lib.hid hy6
    rw [← hW6]
    clear hW6 kB6 hy6
    have h60 : Below w.heap.size w W6 := h50.trans (hc6.mono h50.size)
    have h06 : Below W0.heap.size W0 W6 := h00.trans ((hc5.trans (hc6.mono hc5.size)).mono h00.size)
    have h61 : Below W1.heap.size W1 W6 := h51.trans (hc6.mono h51.size)
    obtain ⟨a0, a1, a2, a3, a4, a5, a6⟩ := HKP.out _ h06
    go_upto_region 10 with (go_at_call 29; refine (HEL.out _ h60).mono ?_; rintro e w7 ⟨B3, n3, z3, rfl, hb7⟩)
    clear a0 a1 a2 a3 a4 a5 a6
    obtain ⟨W7, hW7⟩ : ∃ W, W = w7.alloc (.cells #[.string en, .slice B3 n3 z3] 45) := ⟨_, rfl⟩
    have hc7 : Below W6.heap.size W6 W7 := hW7 ▸ hb7.alloc hb7.size _
    have kB7 : Bl W7 w7.heap.size 45 [.string en, .slice B3 n3 z3] := hW7 ▸ Bl.new w7 _ _ rfl
    have hz7 := hb7.size
    have hy7 : W7.heap.size = w7.heap.size + 1 := by rw [hW7]; simp
    have HX7 := Lib.hid hW7
    have HY7 := Lib.hid hy7
    rw [← hW7]
    clear hW7 kB7 hy7
    have h70 : Below w.heap.size w W7 := h60.trans (hc7.mono h60.size)
    have h71 : Below W1.heap.size W1 W7 := h61.trans (hc7.mono h61.size)
    obtain ⟨b0, b1, b2, b3, b4, b5, b6⟩ := HK1.out _ h71
    go_upto_region 11 with (go_at_call 29; refine (HE2.out _ ⟨.slice E1 q.els.length f1, .slice E2 q.glob.length f2, .slice E3 q.schemes.length f3, .slice E4 q.drop.length f4⟩ h70 (HG.out _ h71)).mono ?_; rintro e w8 ⟨B4, n4, z4, rfl, hb8⟩)
    clear b0 b1 b2 b3 b4 b5 b6
    obtain ⟨W8, hW8⟩ : ∃ W, W = w8.alloc (.cells #[.string en, .slice B4 n4 z4] 45) := ⟨_, rfl⟩
    have hc8 : Below W7.heap.size W7 W8 := hW8 ▸ hb8.alloc hb8.size _
    have kB8 : Bl W8 w8.heap.size 45 [.string en, .slice B4 n4 z4] := hW8 ▸ Bl.new w8 _ _ rfl
    have hz8 := hb8.size
    have hy8 : W8.heap.size = w8.heap.size + 1 := by rw [hW8]; simp
    have HX8 := Lib.hid hW8
    have HY8 := Lib.hid hy8
    rw [← hW8]
    clear hW8 kB8 hy8
    have h86 : Below W6.heap.size W6 W8 := hc7.trans (hc8.mono hc7.size)
    have h85 : Below W5.heap.size W5 W8 := hc6.trans (h86.mono hc6.size)
    have h84 : Below W4.heap.size W4 W8 := hc5.trans (h85.mono hc5.size)
    have h83 : Below W3.heap.size W3 W8 := hc4.trans (h84.mono hc4.size)
    have h81 : Below W1.heap.size W1 W8 := h31.trans (h83.mono h31.size)
    have h80 : Below w.heap.size w W8 := h30.trans (h83.mono h30.size)
    have h8P : Below W0.heap.size W0 W8 := hc1.trans (h81.mono hc1.size)
    have HUP : Hid (∀ W, Below W8.heap.size W8 W → Below w.heap.size w W ∧ Below W0.heap.size W0 W ∧ Below W1.heap.size W1 W ∧ Below W3.heap.size W3 W ∧ Below W4.heap.size W4 W ∧ Below W5.heap.size W5 W ∧ Below W6.heap.size W6 W) := Lib.hid fun W hW => ⟨h80.trans (hW.mono h80.size), h8P.trans (hW.mono h8P.size), h81.trans (hW.mono h81.size), h83.trans (hW.mono h83.size), h84.trans (hW.mono h84.size), h85.trans (hW.mono h85.size), h86.trans (hW.mono h86.size)⟩
    have HS1 : Hid (∀ W, Below W8.heap.size W8 W → Calls Tryz.prog 23 #[.agg #[.slice I1 q.els.length i1, .slice I2 q.glob.length i2, .slice I3 q.schemes.length i3, .bool q.rel, .slice I4 q.drop.length i4, .int .i64 q.depth, .int .i64 q.window], .agg #[.slice E1 q.els.length f1, .slice E2 q.glob.length f2, .slice E3 q.schemes.length f3, .bool q.rel, .slice E4 q.drop.length f4, .int .i64 q.depth, .int .i64 q.window]] W fun e w' => e = .returned (.bool true) ∧ Below W.heap.size W w') := Lib.hid fun W hW => HSM.out W q ⟨.slice I1 q.els.length i1, .slice I2 q.glob.length i2, .slice I3 q.schemes.length i3, .slice I4 q.drop.length i4⟩ ⟨.slice E1 q.els.length f1, .slice E2 q.glob.length f2, .slice E3 q.schemes.length f3, .slice E4 q.drop.length f4⟩ (HQ.out _ (HUP.out _ hW).2.2.2.1) (HG.out _ (HUP.out _ hW).2.2.1)
    have HS2 : Hid (∀ W, Below W8.heap.size W8 W → Calls Tryz.prog 23 #[.agg #[.slice H1 q.els.length h1, .slice H2 q.glob.length h2, .slice H3 q.schemes.length h3, .bool q.rel, .slice H4 q.drop.length h4, .int .i64 q.depth, .int .i64 q.window], .agg #[.slice E1 q.els.length f1, .slice E2 q.glob.length f2, .slice E3 q.schemes.length f3, .bool q.rel, .slice E4 q.drop.length f4, .int .i64 q.depth, .int .i64 q.window]] W fun e w' => e = .returned (.bool true) ∧ Below W.heap.size W w') := Lib.hid fun W hW => HSM.out W q ⟨.slice H1 q.els.length h1, .slice H2 q.glob.length h2, .slice H3 q.schemes.length h3, .slice H4 q.drop.length h4⟩ ⟨.slice E1 q.els.length f1, .slice E2 q.glob.length f2, .slice E3 q.schemes.length f3, .slice E4 q.drop.length f4⟩ (HH.out _ (HUP.out _ hW).2.2.2.2.1) (HG.out _ (HUP.out _ hW).2.2.1)
    have HD1 : Hid (∀ W, Below W8.heap.size W8 W → Calls Tryz.prog 36 #[.agg #[.slice A1 p.els.length c1, .slice A2 p.glob.length c2, .slice A3 p.schemes.length c3, .bool p.rel, .slice A4 p.drop.length c4, .int .i64 p.depth, .int .i64 p.window], .string nm] W fun e w' => e = .returned (.bool db) ∧ Below W.heap.size W w') := Lib.hid fun W hW => HDP.out W (HUP.out _ hW).1
    have HD3 : Hid (∀ W, Below W8.heap.size W8 W → Calls Tryz.prog 36 #[.agg #[.slice E1 q.els.length f1, .slice E2 q.glob.length f2, .slice E3 q.schemes.length f3, .bool q.rel, .slice E4 q.drop.length f4, .int .i64 q.depth, .int .i64 q.window], .string nm] W fun e w' => e = .returned (.bool db) ∧ Below W.heap.size W w') := Lib.hid fun W hW => HD2.out W ⟨.slice E1 q.els.length f1, .slice E2 q.glob.length f2, .slice E3 q.schemes.length f3, .slice E4 q.drop.length f4⟩ (HUP.out _ hW).1 (HG.out _ (HUP.out _ hW).2.2.1)
    have h88 : Below W8.heap.size W8 W8.drew := drw W8 1
    have HSW : Hid (∀ W, Below W8.heap.size W8 W → W.cell? ⟨w3.heap.size, 0, none⟩ = some (.slice I1 q.els.length i1) ∧ W.cell? ⟨w3.heap.size, 1, none⟩ = some (.slice I2 q.glob.length i2) ∧ W.cell? ⟨w3.heap.size, 2, none⟩ = some (.slice I3 q.schemes.length i3) ∧ W.cell? ⟨w3.heap.size, 3, none⟩ = some (.bool q.rel) ∧ W.cell? ⟨w3.heap.size, 4, none⟩ = some (.slice I4 q.drop.length i4) ∧ W.cell? ⟨w3.heap.size, 5, none⟩ = some (.int .i64 q.depth) ∧ W.cell? ⟨w3.heap.size, 6, none⟩ = some (.int .i64 q.window) ∧ W.cell? ⟨w1.heap.size, 0, none⟩ = some (.slice E1 q.els.length f1) ∧ W.cell? ⟨w1.heap.size, 1, none⟩ = some (.slice E2 q.glob.length f2) ∧ W.cell? ⟨w1.heap.size, 2, none⟩ = some (.slice E3 q.schemes.length f3) ∧ W.cell? ⟨w1.heap.size, 3, none⟩ = some (.bool q.rel) ∧ W.cell? ⟨w1.heap.size, 4, none⟩ = some (.slice E4 q.drop.length f4) ∧ W.cell? ⟨w1.heap.size, 5, none⟩ = some (.int .i64 q.depth) ∧ W.cell? ⟨w1.heap.size, 6, none⟩ = some (.int .i64 q.window) ∧ W.cell? ⟨w4.heap.size, 0, none⟩ = some (.slice H1 q.els.length h1) ∧ W.cell? ⟨w4.heap.size, 1, none⟩ = some (.slice H2 q.glob.length h2) ∧ W.cell? ⟨w4.heap.size, 2, none⟩ = some (.slice H3 q.schemes.length h3) ∧ W.cell? ⟨w4.heap.size, 3, none⟩ = some (.bool q.rel) ∧ W.cell? ⟨w4.heap.size, 4, none⟩ = some (.slice H4 q.drop.length h4) ∧ W.cell? ⟨w4.heap.size, 5, none⟩ = some (.int .i64 q.depth) ∧ W.cell? ⟨w4.heap.size, 6, none⟩ = some (.int .i64 q.window) ∧ W.cell? ⟨w.heap.size, 0, none⟩ = some (.slice A1 p.els.length c1) ∧ W.cell? ⟨w.heap.size, 1, none⟩ = some (.slice A2 p.glob.length c2) ∧ W.cell? ⟨w.heap.size, 2, none⟩ = some (.slice A3 p.schemes.length c3) ∧ W.cell? ⟨w.heap.size, 3, none⟩ = some (.bool p.rel) ∧ W.cell? ⟨w.heap.size, 4, none⟩ = some (.slice A4 p.drop.length c4) ∧ W.cell? ⟨w.heap.size, 5, none⟩ = some (.int .i64 p.depth) ∧ W.cell? ⟨w.heap.size, 6, none⟩ = some (.int .i64 p.window) ∧ W.cell? ⟨w5.heap.size, 0, none⟩ = some (.string rn) ∧ W.cell? ⟨w5.heap.size, 1, none⟩ = some (.int .i64 rk) ∧ W.cell? ⟨w6.heap.size, 0, none⟩ = some (.string rn) ∧ W.cell? ⟨w6.heap.size, 1, none⟩ = some (.int .i64 rk)) := Lib.hid fun W hW => by
      obtain ⟨a0, a1, a2, a3, a4, a5, a6⟩ := HK3.out _ (HUP.out _ hW).2.2.2.1
      obtain ⟨b0, b1, b2, b3, b4, b5, b6⟩ := HK1.out _ (HUP.out _ hW).2.2.1
      obtain ⟨s0, s1, s2, s3, s4, s5, s6⟩ := HK4.out _ (HUP.out _ hW).2.2.2.2.1
      obtain ⟨t0, t1, t2, t3, t4, t5, t6⟩ := HKP.out _ (HUP.out _ hW).2.1
      obtain ⟨p0, p1⟩ := HK5.out _ (HUP.out _ hW).2.2.2.2.2.1
      obtain ⟨r0, r1⟩ := HK6.out _ (HUP.out _ hW).2.2.2.2.2.2
      exact ⟨a0, a1, a2, a3, a4, a5, a6, b0, b1, b2, b3, b4, b5, b6, s0, s1, s2, s3, s4, s5, s6, t0, t1, t2, t3, t4, t5, t6, p0, p1, r0, r1⟩
    have HS0 := Lib.hid (HSW.out _ h88)
    have HS00 := Lib.hid (HSW.out _ (Below.refl _ _))
    clear HRL HEL HDP HR2 HE2 HD2 HT2 HPA HTD HPR HCK HSM HK1 HK3 HK4 HK5 HK6 HKP HG HQ HH
    go_region_held3 (fun W => W.cell? ⟨w3.heap.size, 0, none⟩ = some (.slice I1 q.els.length i1) ∧ W.cell? ⟨w3.heap.size, 1, none⟩ = some (.slice I2 q.glob.length i2) ∧ W.cell? ⟨w3.heap.size, 2, none⟩ = some (.slice I3 q.schemes.length i3) ∧ W.cell? ⟨w3.heap.size, 3, none⟩ = some (.bool q.rel) ∧ W.cell? ⟨w3.heap.size, 4, none⟩ = some (.slice I4 q.drop.length i4) ∧ W.cell? ⟨w3.heap.size, 5, none⟩ = some (.int .i64 q.depth) ∧ W.cell? ⟨w3.heap.size, 6, none⟩ = some (.int .i64 q.window) ∧ W.cell? ⟨w1.heap.size, 0, none⟩ = some (.slice E1 q.els.length f1) ∧ W.cell? ⟨w1.heap.size, 1, none⟩ = some (.slice E2 q.glob.length f2) ∧ W.cell? ⟨w1.heap.size, 2, none⟩ = some (.slice E3 q.schemes.length f3) ∧ W.cell? ⟨w1.heap.size, 3, none⟩ = some (.bool q.rel) ∧ W.cell? ⟨w1.heap.size, 4, none⟩ = some (.slice E4 q.drop.length f4) ∧ W.cell? ⟨w1.heap.size, 5, none⟩ = some (.int .i64 q.depth) ∧ W.cell? ⟨w1.heap.size, 6, none⟩ = some (.int .i64 q.window) ∧ W.cell? ⟨w4.heap.size, 0, none⟩ = some (.slice H1 q.els.length h1) ∧ W.cell? ⟨w4.heap.size, 1, none⟩ = some (.slice H2 q.glob.length h2) ∧ W.cell? ⟨w4.heap.size, 2, none⟩ = some (.slice H3 q.schemes.length h3) ∧ W.cell? ⟨w4.heap.size, 3, none⟩ = some (.bool q.rel) ∧ W.cell? ⟨w4.heap.size, 4, none⟩ = some (.slice H4 q.drop.length h4) ∧ W.cell? ⟨w4.heap.size, 5, none⟩ = some (.int .i64 q.depth) ∧ W.cell? ⟨w4.heap.size, 6, none⟩ = some (.int .i64 q.window) ∧ W.cell? ⟨w.heap.size, 0, none⟩ = some (.slice A1 p.els.length c1) ∧ W.cell? ⟨w.heap.size, 1, none⟩ = some (.slice A2 p.glob.length c2) ∧ W.cell? ⟨w.heap.size, 2, none⟩ = some (.slice A3 p.schemes.length c3) ∧ W.cell? ⟨w.heap.size, 3, none⟩ = some (.bool p.rel) ∧ W.cell? ⟨w.heap.size, 4, none⟩ = some (.slice A4 p.drop.length c4) ∧ W.cell? ⟨w.heap.size, 5, none⟩ = some (.int .i64 p.depth) ∧ W.cell? ⟨w.heap.size, 6, none⟩ = some (.int .i64 p.window) ∧ W.cell? ⟨w5.heap.size, 0, none⟩ = some (.string rn) ∧ W.cell? ⟨w5.heap.size, 1, none⟩ = some (.int .i64 rk) ∧ W.cell? ⟨w6.heap.size, 0, none⟩ = some (.string rn) ∧ W.cell? ⟨w6.heap.size, 1, none⟩ = some (.int .i64 rk))
      (first | exact HS13.out | exact HS12.out | exact HS11.out | exact HS10.out | exact HS0.out | exact HS00.out)
      (first
      | (go_at_call 16; refine (numC _ _).mono ?_; rintro e w9 ⟨rfl, rfl⟩)
      | (go_at_call 23; have _z := hk9; refine (HS2.out _ hk9).mono ?_; rintro e w11 ⟨rfl, hb11⟩; have hk11 : Below W8.heap.size W8 w11 := hk9.trans (hb11.mono hk9.size); have HS11 := Lib.hid (HSW.out _ hk11))
      | (go_at_call 23; refine (HS1.out _ (by exact h88)).mono ?_; rintro e w10 ⟨rfl, hb10⟩; have hk9 : Below W8.heap.size W8 w10 := h88.trans hb10; have HS10 := Lib.hid (HSW.out _ hk9))
      | (go_at_call 36; have _z := hk12; refine (HD3.out _ hk12).mono ?_; rintro e w13 ⟨rfl, hb13⟩; have hk13 : Below W8.heap.size W8 w13 := hk12.trans (hb13.mono hk12.size); have HS13 := Lib.hid (HSW.out _ hk13))
      | (go_at_call 36; refine (HD1.out _ hk11).mono ?_; rintro e w12 ⟨rfl, hb12⟩; have hk12 : Below W8.heap.size W8 w12 := hk11.trans (hb12.mono hk11.size); have HS12 := Lib.hid (HSW.out _ hk12))
      | (go_at_call 17; refine (HA.out _ (HUP.out _ hk13).1).mono ?_; rintro e w14 ⟨rfl, hb14⟩; have HS13 := Lib.hid (HSW.out _ (hk13.trans (hb14.mono hk13.size)))))
    all_goals first
      | (go_ret; have hw13 := (HUP.out _ hk13).1; exact ⟨rfl, hw13.trans (hb14.mono hw13.size)⟩)
      | (go_wp2; go_ret; have hw13 := (HUP.out _ hk13).1; exact ⟨rfl, hw13.trans (hb14.mono hw13.size)⟩)
  · have hc2 : (c != 0) = true := by simpa using hc0
    have hc3 : (c == c) = true := by simp
    have h0P : Below W0.heap.size W0 w2 := hc1.trans (h21.mono hc1.size)
    obtain ⟨a0, a1, a2, a3, a4, a5, a6⟩ := HKP.out _ h0P
    clear HT
    go_wp2_with (first
      | (go_at_call 16; refine (numC _ _).mono ?_; rintro e w9 ⟨rfl, rfl⟩)
      | (go_at_call 22; refine (HCK.out _ h20).mono ?_; rintro e w10 ⟨rfl, hb10⟩; have hw10 : Below w.heap.size w w10 := h20.trans (hb10.mono h20.size))
      | (go_at_call 17; refine (HA.out _ hw10).mono ?_; rintro e w14 ⟨rfl, hb14⟩))
    go_ret
    exact ⟨rfl, hw10.trans (hb14.mono hw10.size)⟩
end Go.Proofs.YteikagdinecfoaaGreatDoor.policyBack
