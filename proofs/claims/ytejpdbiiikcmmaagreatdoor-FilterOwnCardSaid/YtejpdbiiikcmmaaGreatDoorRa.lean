/- An element by its name, a rule for an attribute: the program's Element and Rule, the reference's Find, ruleOf, Rule. -/
import Derived.Deep.RegionHeld3
import Derived.Deep.DrawnRows
import Derived.Deep.MidRow
import Derived.Test.YtejpdbiiikcmmaaGreatDoorEs
set_option linter.unusedVariables false
set_option linter.unusedSimpArgs false
/-! An element by its name, a rule by its name: plainly; the program's Element; the reference's Find and ruleOf. -/
namespace Go.Proofs.YtejpdbiiikcmmaaGreatDoor.Ea
open Go.RowKit Lb Gr Pd Fl Go.Proofs.YtejpdbiiikcmmaaGreatDoor.Pm Bk Ru Co
attribute [local go_sem ↓] Go.wp_at_zero Go.wp_at_succ

def fndE (l : List ElD) (s : ByteArray) : Option ElD := l.find? fun e => decide (e.name = s)
def fndR (l : List RuleD) (s : ByteArray) : Option RuleD := l.find? fun e => decide (e.name = s)
def el0 : ElD := ⟨ByteArray.empty, []⟩
def ru0 : RuleD := ⟨ByteArray.empty, 0, []⟩
theorem fndE_hit {l : List ElD} {s : ByteArray} {k : Nat} (h : k < l.length) (e : l[k].name = s) : fndE (l.drop k) s = some l[k] := by
  unfold fndE; rw [List.drop_eq_getElem_cons h, List.find?_cons, decide_eq_true e]
theorem fndE_miss {l : List ElD} {s : ByteArray} {k : Nat} (h : k < l.length) (e : l[k].name ≠ s) : fndE (l.drop k) s = fndE (l.drop (k + 1)) s := by
  unfold fndE; rw [List.drop_eq_getElem_cons h, List.find?_cons, decide_eq_false e]
theorem fndE_end {l : List ElD} {s : ByteArray} {k : Nat} (h : ¬ k < l.length) : fndE (l.drop k) s = none := by
  rw [List.drop_eq_nil_of_le (by omega)]; rfl
theorem fndR_hit {l : List RuleD} {s : ByteArray} {k : Nat} (h : k < l.length) (e : l[k].name = s) : fndR (l.drop k) s = some l[k] := by
  unfold fndR; rw [List.drop_eq_getElem_cons h, List.find?_cons, decide_eq_true e]
theorem fndR_miss {l : List RuleD} {s : ByteArray} {k : Nat} (h : k < l.length) (e : l[k].name ≠ s) : fndR (l.drop k) s = fndR (l.drop (k + 1)) s := by
  unfold fndR; rw [List.drop_eq_getElem_cons h, List.find?_cons, decide_eq_false e]
theorem fndR_end {l : List RuleD} {s : ByteArray} {k : Nat} (h : ¬ k < l.length) : fndR (l.drop k) s = none := by
  rw [List.drop_eq_nil_of_le (by omega)]; rfl

set_option maxHeartbeats 4000000 in
set_option maxRecDepth 100000 in
theorem elementC (x : Vs) (p : PolD) (s : ByteArray) (w : World) (h : RdP w 0 w.heap.size x p) (hf : FitE p.els) : Calls Tryz.prog 68 #[polV x p, .string s] w fun e w' =>
    ∃ u G, e = .returned (.tuple #[.agg #[.string ((fndE p.els s).getD el0).name, u], .bool (fndE p.els s).isSome]) ∧ kdR.own w' w.heap.size u ((fndE p.els s).getD el0).rules G ∧ Below w.heap.size w w' := by
  obtain ⟨A1, c1, A2, c2, A3, c3, A4, c4, rfl, q1, q2, q3, q4, q5, q6, q7, q8⟩ := h.form
  have HRD : Hid (∀ W, Below w.heap.size w W → kdE.rd W 0 w.heap.size (.slice A1 p.els.length c1) p.els) := Lib.hid fun W hW => kdE.stay h.1 (stay_below hW (Nat.le_refl _))
  obtain ⟨hl, hw⟩ := hf
  have HM : Hid (∀ W k (hk : k < p.els.length) v, kdR.rd W 0 W.heap.size v p.els[k].rules → Calls Tryz.prog 130 #[v] W fun e w' => ∃ v' F, e = .returned v' ∧ kdR.own w' W.heap.size v' p.els[k].rules F ∧ Below W.heap.size W w') :=
    Lib.hid fun W k hk v hu => rulesC _ v W hu (hw k hk)
  have HB : Hid (fndE p.els s = fndE (p.els.drop 0) s) := Lib.hid rfl
  have hlen : (p.els.length : Int) ≤ 9223372036854775807 := by omega
  clear h hw
  unfold polV
  have hm4 : Bl ((w.alloc (.cells #[.slice A1 p.els.length c1, .slice A2 p.glob.length c2, .slice A3 p.schemes.length c3, .bool p.rel, .slice A4 p.drop.length c4, .int .i64 p.depth, .int .i64 p.window] 27)).alloc (.cells #[.string ByteArray.empty, .slice none 0 0] 59)) (w.heap.size + 1) 59 [.string ByteArray.empty, .slice none 0 0] := Bl.new _ _ _ (by simp)
  have hb00 := ((Below.refl w.heap.size w).alloc (Nat.le_refl _) (.cells #[.slice A1 p.els.length c1, .slice A2 p.glob.length c2, .slice A3 p.schemes.length c3, .bool p.rel, .slice A4 p.drop.length c4, .int .i64 p.depth, .int .i64 p.window] 27)).alloc (by simp) (.cells #[.string ByteArray.empty, .slice none 0 0] 59)
  go_enter Tryz.func68, Tryz.ntmps68
  go_wp2
  go_loopw [11] (fun i wr => ∃ k : Nat, k ≤ p.els.length ∧ i = .int .i64 k ∧ Bl wr (w.heap.size + 1) 59 [.string ByteArray.empty, .slice none 0 0] ∧ Below w.heap.size w wr ∧ Hid (fndE p.els s = fndE (p.els.drop k) s)) (fun i _ => p.els.length - (intOf i).toNat)
  case atStart => exact ⟨0, by omega, rfl, hm4, hb00, HB⟩
  case round =>
    obtain ⟨k, hk, rfl, m4, hnx, hst⟩ := hrel
    by_cases hlt : k < p.els.length
    · obtain ⟨b, off, u, rfl, hb1, hb2, hu, hcell⟩ := fmE.rd_at (HRD.out _ hnx) hlt
      have hu' : kdR.rd wr 0 w.heap.size u p.els[k].rules := hu
      clear hu
      have e0 := hcell 0 _ rfl
      have e1 := hcell 1 _ rfl
      rw [show off + (k * fmE.size + 0) = off + k * 2 from rfl] at e0
      rw [show off + (k * fmE.size + 1) = off + k * 2 + 1 from by show off + (k * 2 + 1) = _; omega] at e1
      obtain ⟨A5, c5, rfl, _⟩ := fmR.rd_form hu'
      clear hcell
      obtain ⟨W0, hW0⟩ : ∃ W, W = wr.alloc (.cells #[.string p.els[k].name, .slice A5 p.els[k].rules.length c5] 59) := ⟨_, rfl⟩
      have hb0 : Below wr.heap.size wr W0 := hW0 ▸ (Below.refl _ _).alloc (Nat.le_refl _) _
      have k5 : Bl W0 wr.heap.size 59 [.string p.els[k].name, .slice A5 p.els[k].rules.length c5] := hW0 ▸ Bl.new wr _ _ rfl
      have hu2 : kdR.rd W0.drew 0 W0.drew.heap.size (.slice A5 p.els[k].rules.length c5) p.els[k].rules := kdR.wide (kdR.stay hu' fun j _ hj => hb0.block j (Nat.lt_of_lt_of_le hj hnx.size)) (Nat.le_refl _) (Nat.le_trans hnx.size hb0.size)
      have m5 := m4.below hb0
      have y0 := k5.cell 0 rfl
      have y1 := k5.cell 1 rfl
      have hb9 : Below w.heap.size w W0 := hnx.trans (hb0.mono hnx.size)
      have hz9 := hb9.size
      have hzr : W0.heap.size = wr.heap.size + 1 := by rw [hW0]; simp
      have hml := m4.lt
      have HM2 := Lib.hid (HM.out W0.drew k hlt _ hu2)
      have HX := Lib.hid hW0
      have hk0 : (0 : Int) ≤ (k : Int) := by omega
      clear hW0 hu' hu2
      by_cases hs : p.els[k].name = s
      · have hr : Hid (fndE p.els s = some p.els[k]) := Lib.hid (by rw [hst.out]; exact fndE_hit hlt hs)
        have he := toList_eq_of hs
        clear hs
        go_upto_region 5 with fail
        rw [← HX.out]
        go_region_held3 (fun W' => W'.cell? ⟨wr.heap.size, 0, none⟩ = some (.string p.els[k].name) ∧ W'.cell? ⟨wr.heap.size, 1, none⟩ = some (.slice A5 p.els[k].rules.length c5))
          (first | exact ⟨y0, y1⟩ | exact ⟨f0, f1⟩ | exact ⟨g0, g1⟩)
          (first | (go_at_call 130; refine HM2.out.mono ?_; rintro e w1 ⟨u', G, rfl, ho, hb1⟩; obtain ⟨A6, c6, rfl, _⟩ := fmR.own_form ho; have j1 := (k5.below (w' := W0.drew) (drw W0 1)).below hb1; have j2 := (m5.below (w' := W0.drew) (drw W0 1)).below hb1; have f0 := j1.cell 0 rfl; have f1 := j1.cell 1 rfl; obtain ⟨s0, s1, s2, s3⟩ := j2.store2 (.string p.els[k].name) (.slice A6 p.els[k].rules.length c6); have j3 := j1.oth2 (g2 := w.heap.size + 1) (by omega) (.string p.els[k].name) (.slice A6 p.els[k].rules.length c6); have j4 := j2.two (.string p.els[k].name) (.slice A6 p.els[k].rules.length c6); have g0 := j3.cell 0 rfl; have g1 := j3.cell 1 rfl))
        have hfr := Fr.set2 w1 (w.heap.size + 1) (.string p.els[k].name) (.slice A6 p.els[k].rules.length c6)
        generalize (w1.setCell ⟨w.heap.size + 1, 0, none⟩ (.string p.els[k].name)).setCell ⟨w.heap.size + 1, 1, none⟩ (.slice A6 p.els[k].rules.length c6) = w2 at *
        go_wp2
        refine bodyPost_ret (res_cell2 Tryz.results68 rfl j4 Tryz.underlying59 rfl (by kernel_rfl)) rfl ?_
        have hbz : Below w.heap.size w w1 := hb9.drew.trans (hb1.mono hb9.size)
        rw [hr.out]
        refine ⟨_, G, rfl, kdR.low (kdR.keep ho hfr.size fun j hj => hfr.block j ?_ ?_) hb9.size, hbz.trans (hfr.below hbz.size (by simp))⟩
        · exact (kdR.ge ho j hj).2
        · have h1 := (kdR.ge ho j hj).1
          have h2 : W0.drew.heap.size = W0.heap.size := rfl
          simp
          omega
      · have hr : Hid (fndE p.els s = fndE (p.els.drop (k + 1)) s) := Lib.hid (by rw [hst.out]; exact fndE_miss hlt hs)
        have he := toList_ne_of hs
        clear hs
        go_wp2
        rw [← HX.out]
        go_roundw
        case rel => exact ⟨k + 1, by omega, by go_num, m5, hb9, hr⟩
        case measure => simp [intOf] <;> omega
    · have hr : Hid (fndE p.els s = none) := Lib.hid (by rw [hst.out]; exact fndE_end hlt)
      obtain ⟨s0, s1, s2, s3⟩ := m4.store2 (.string ⟨#[]⟩) (.slice none 0 0)
      have j4 := m4.two (.string ⟨#[]⟩) (.slice none 0 0)
      have hfr := Fr.set2 wr (w.heap.size + 1) (.string ⟨#[]⟩) (.slice none 0 0)
      go_wp2
      refine bodyPost_ret (res_cell2 Tryz.results68 rfl j4 Tryz.underlying59 rfl (by kernel_rfl)) rfl ?_
      rw [hr.out]
      exact ⟨_, [], rfl, fmR.own_nil _ _, hnx.trans (hfr.below hnx.size (by simp))⟩
end Go.Proofs.YtejpdbiiikcmmaaGreatDoor.Ea

/-! The reference's Find, ruleOf, Rule, has. -/
namespace Go.Proofs.YtejpdbiiikcmmaaGreatDoor.Fd
open Go.RowKit Lb Gr Pd Fl Go.Proofs.YtejpdbiiikcmmaaGreatDoor.Pm Bk Ru Co Ea
attribute [local go_sem ↓] Go.wp_at_zero Go.wp_at_succ

theorem rd_nilW (w : World) (lo hi : Nat) : kdW.rd w lo hi (.slice none 0 0) [] := ⟨none, 0, rfl, Nat.le_refl _, by simp, fun h => by simp at h⟩

set_option maxHeartbeats 4000000 in
set_option maxRecDepth 100000 in
theorem findC (x : Vs) (p : PolD) (s : ByteArray) (w : World) (hi : Nat) (hh : hi ≤ w.heap.size) (h : RdP w 0 hi x p) : Calls Tryz.prog 54 #[polV x p, .string s] w fun e w' =>
    ∃ u, e = .returned (.tuple #[.agg #[.string ((fndE p.els s).getD el0).name, u], .bool (fndE p.els s).isSome]) ∧ kdR.rd w' 0 hi u ((fndE p.els s).getD el0).rules ∧ Below w.heap.size w w' := by
  obtain ⟨A1, c1, A2, c2, A3, c3, A4, c4, rfl, q1, q2, q3, q4, q5, q6, q7, q8⟩ := h.form
  have HRD : Hid (∀ W, Below w.heap.size w W → kdE.rd W 0 hi (.slice A1 p.els.length c1) p.els) := Lib.hid fun W hW => kdE.stay h.1 (stay_below hW hh)
  have HB : Hid (fndE p.els s = fndE (p.els.drop 0) s) := Lib.hid rfl
  have hm : maxLen = 9223372036854775807 := rfl
  have hlen : (p.els.length : Int) ≤ 9223372036854775807 := by omega
  clear h hm
  unfold polV
  have hm4 : Bl ((w.alloc (.cells #[.slice A1 p.els.length c1, .slice A2 p.glob.length c2, .slice A3 p.schemes.length c3, .bool p.rel, .slice A4 p.drop.length c4, .int .i64 p.depth, .int .i64 p.window] 27)).alloc (.cells #[.string ByteArray.empty, .slice none 0 0] 59)) (w.heap.size + 1) 59 [.string ByteArray.empty, .slice none 0 0] := Bl.new _ _ _ (by simp)
  have hb00 := ((Below.refl w.heap.size w).alloc (Nat.le_refl _) (.cells #[.slice A1 p.els.length c1, .slice A2 p.glob.length c2, .slice A3 p.schemes.length c3, .bool p.rel, .slice A4 p.drop.length c4, .int .i64 p.depth, .int .i64 p.window] 27)).alloc (by simp) (.cells #[.string ByteArray.empty, .slice none 0 0] 59)
  go_enter Tryz.func54, Tryz.ntmps54
  go_wp2
  go_loopw [11] (fun i wr => ∃ k : Nat, k ≤ p.els.length ∧ i = .int .i64 k ∧ Bl wr (w.heap.size + 1) 59 [.string ByteArray.empty, .slice none 0 0] ∧ Below w.heap.size w wr ∧ Hid (fndE p.els s = fndE (p.els.drop k) s)) (fun i _ => p.els.length - (intOf i).toNat)
  case atStart => exact ⟨0, by omega, rfl, hm4, hb00, HB⟩
  case round =>
    obtain ⟨k, hk, rfl, m4, hnx, hst⟩ := hrel
    by_cases hlt : k < p.els.length
    · obtain ⟨b, off, u, rfl, hb1, hb2, hu, hcell⟩ := fmE.rd_at (HRD.out _ hnx) hlt
      have hu' : kdR.rd wr 0 hi u p.els[k].rules := hu
      clear hu
      have e0 := hcell 0 _ rfl
      have e1 := hcell 1 _ rfl
      rw [show off + (k * fmE.size + 0) = off + k * 2 from rfl] at e0
      rw [show off + (k * fmE.size + 1) = off + k * 2 + 1 from by show off + (k * 2 + 1) = _; omega] at e1
      obtain ⟨A5, c5, rfl, _⟩ := fmR.rd_form hu'
      clear hcell
      obtain ⟨W0, hW0⟩ : ∃ W, W = wr.alloc (.cells #[.string p.els[k].name, .slice A5 p.els[k].rules.length c5] 59) := ⟨_, rfl⟩
      have hb0 : Below wr.heap.size wr W0 := hW0 ▸ (Below.refl _ _).alloc (Nat.le_refl _) _
      have k5 : Bl W0 wr.heap.size 59 [.string p.els[k].name, .slice A5 p.els[k].rules.length c5] := hW0 ▸ Bl.new wr _ _ rfl
      have m5 := m4.below hb0
      have y0 := k5.cell 0 rfl
      have y1 := k5.cell 1 rfl
      have hb9 : Below w.heap.size w W0 := hnx.trans (hb0.mono hnx.size)
      have HU := Lib.hid hu'
      have HX := Lib.hid hW0
      have hk0 : (0 : Int) ≤ (k : Int) := by omega
      clear hW0 hu'
      by_cases hs : p.els[k].name = s
      · have hr : Hid (fndE p.els s = some p.els[k]) := Lib.hid (by rw [hst.out]; exact fndE_hit hlt hs)
        have he := toList_eq_of hs
        clear hs
        obtain ⟨s0, s1, s2, s3⟩ := m5.store2 (.string p.els[k].name) (.slice A5 p.els[k].rules.length c5)
        have j4 := m5.two (.string p.els[k].name) (.slice A5 p.els[k].rules.length c5)
        have hfr := Fr.set2 W0 (w.heap.size + 1) (.string p.els[k].name) (.slice A5 p.els[k].rules.length c5)
        go_upto_region 5 with fail
        rw [← HX.out]
        go_wp2
        refine bodyPost_ret (res_cell2 Tryz.results54 rfl j4 Tryz.underlying59 rfl (by kernel_rfl)) rfl ?_
        have hbz : Below w.heap.size wr _ := (hb0.mono hnx.size).trans (hfr.below hb9.size (by simp))
        rw [hr.out]
        exact ⟨_, rfl, kdR.stay HU.out fun j _ hj => hbz.block j (Nat.lt_of_lt_of_le hj hh), hnx.trans hbz⟩
      · have hr : Hid (fndE p.els s = fndE (p.els.drop (k + 1)) s) := Lib.hid (by rw [hst.out]; exact fndE_miss hlt hs)
        have he := toList_ne_of hs
        clear hs
        go_wp2
        rw [← HX.out]
        go_roundw
        case rel => exact ⟨k + 1, by omega, by go_num, m5, hb9, hr⟩
        case measure => simp [intOf] <;> omega
    · have hr : Hid (fndE p.els s = none) := Lib.hid (by rw [hst.out]; exact fndE_end hlt)
      obtain ⟨s0, s1, s2, s3⟩ := m4.store2 (.string ⟨#[]⟩) (.slice none 0 0)
      have j4 := m4.two (.string ⟨#[]⟩) (.slice none 0 0)
      have hfr := Fr.set2 wr (w.heap.size + 1) (.string ⟨#[]⟩) (.slice none 0 0)
      go_wp2
      refine bodyPost_ret (res_cell2 Tryz.results54 rfl j4 Tryz.underlying59 rfl (by kernel_rfl)) rfl ?_
      rw [hr.out]
      exact ⟨_, rfl, fmR.rd_nil _ _ _, hnx.trans (hfr.below hnx.size (by simp))⟩

set_option maxHeartbeats 4000000 in
set_option maxRecDepth 100000 in
theorem ruleOfC (l : List RuleD) (v : Value) (s : ByteArray) (w : World) (hi : Nat) (hh : hi ≤ w.heap.size) (h : kdR.rd w 0 hi v l) : Calls Tryz.prog 55 #[v, .string s] w fun e w' =>
    ∃ u, e = .returned (.tuple #[.agg #[.string ((fndR l s).getD ru0).name, .int .i64 ((fndR l s).getD ru0).kind, u], .bool (fndR l s).isSome]) ∧ kdW.rd w' 0 hi u ((fndR l s).getD ru0).words ∧ Below w.heap.size w w' := by
  obtain ⟨A, c, rfl, hc1, hc2⟩ := fmR.rd_form h
  have HRD : Hid (∀ W, Below w.heap.size w W → kdR.rd W 0 hi (.slice A l.length c) l) := Lib.hid fun W hW => kdR.stay h (stay_below hW hh)
  have HB : Hid (fndR l s = fndR (l.drop 0) s) := Lib.hid rfl
  have hm : maxLen = 9223372036854775807 := rfl
  have hlen : (l.length : Int) ≤ 9223372036854775807 := by omega
  clear h hm
  have hm4 : Bl (w.alloc (.cells #[.string ByteArray.empty, .int .i64 0, .slice none 0 0] 51)) w.heap.size 51 [.string ByteArray.empty, .int .i64 0, .slice none 0 0] := Bl.new _ _ _ rfl
  have hb00 := (Below.refl w.heap.size w).alloc (Nat.le_refl _) (.cells #[.string ByteArray.empty, .int .i64 0, .slice none 0 0] 51)
  go_enter Tryz.func55, Tryz.ntmps55
  go_wp2
  go_loopw [10] (fun i wr => ∃ k : Nat, k ≤ l.length ∧ i = .int .i64 k ∧ Bl wr w.heap.size 51 [.string ByteArray.empty, .int .i64 0, .slice none 0 0] ∧ Below w.heap.size w wr ∧ Hid (fndR l s = fndR (l.drop k) s)) (fun i _ => l.length - (intOf i).toNat)
  case atStart => exact ⟨0, by omega, rfl, hm4, hb00, HB⟩
  case round =>
    obtain ⟨k, hk, rfl, m4, hnx, hst⟩ := hrel
    by_cases hlt : k < l.length
    · obtain ⟨b, off, u, rfl, hb1, hb2, hu, hcell⟩ := fmR.rd_at (HRD.out _ hnx) hlt
      have hu' : kdW.rd wr 0 hi u l[k].words := hu
      clear hu
      have e0 := hcell 0 _ rfl
      have e1 := hcell 1 _ rfl
      have e2 := hcell 2 _ rfl
      rw [show off + (k * fmR.size + 0) = off + k * 3 from rfl] at e0
      rw [show off + (k * fmR.size + 1) = off + k * 3 + 1 from by show off + (k * 3 + 1) = _; omega] at e1
      rw [show off + (k * fmR.size + 2) = off + k * 3 + 2 from by show off + (k * 3 + 2) = _; omega] at e2
      obtain ⟨A5, c5, rfl, _⟩ := rdW_form hu'
      clear hcell
      obtain ⟨W0, hW0⟩ : ∃ W, W = wr.alloc (.cells #[.string l[k].name, .int .i64 l[k].kind, .slice A5 l[k].words.length c5] 51) := ⟨_, rfl⟩
      have hb0 : Below wr.heap.size wr W0 := hW0 ▸ (Below.refl _ _).alloc (Nat.le_refl _) _
      have k5 : Bl W0 wr.heap.size 51 [.string l[k].name, .int .i64 l[k].kind, .slice A5 l[k].words.length c5] := hW0 ▸ Bl.new wr _ _ rfl
      have m5 := m4.below hb0
      have y0 := k5.cell 0 rfl
      have y1 := k5.cell 1 rfl
      have y2 := k5.cell 2 rfl
      have hb9 : Below w.heap.size w W0 := hnx.trans (hb0.mono hnx.size)
      have HU := Lib.hid hu'
      have HX := Lib.hid hW0
      have hk0 : (0 : Int) ≤ (k : Int) := by omega
      clear hW0 hu'
      by_cases hs : l[k].name = s
      · have hr : Hid (fndR l s = some l[k]) := Lib.hid (by rw [hst.out]; exact fndR_hit hlt hs)
        have he := toList_eq_of hs
        clear hs
        obtain ⟨s0, s1, s2, s3, s4, s5⟩ := m5.store3 (.string l[k].name) (.int .i64 l[k].kind) (.slice A5 l[k].words.length c5)
        have j4 := m5.three (.string l[k].name) (.int .i64 l[k].kind) (.slice A5 l[k].words.length c5)
        have hfr := Fr.set3 W0 w.heap.size (.string l[k].name) (.int .i64 l[k].kind) (.slice A5 l[k].words.length c5)
        go_upto_region 5 with fail
        rw [← HX.out]
        go_wp2
        refine bodyPost_ret (res_cell2 Tryz.results55 rfl j4 Tryz.underlying51 rfl (by kernel_rfl)) rfl ?_
        have hbz : Below w.heap.size wr _ := (hb0.mono hnx.size).trans (hfr.below hb9.size (by simp))
        rw [hr.out]
        exact ⟨_, rfl, kdW.stay HU.out fun j _ hj => hbz.block j (Nat.lt_of_lt_of_le hj hh), hnx.trans hbz⟩
      · have hr : Hid (fndR l s = fndR (l.drop (k + 1)) s) := Lib.hid (by rw [hst.out]; exact fndR_miss hlt hs)
        have he := toList_ne_of hs
        clear hs
        go_wp2
        rw [← HX.out]
        go_roundw
        case rel => exact ⟨k + 1, by omega, by go_num, m5, hb9, hr⟩
        case measure => simp [intOf] <;> omega
    · have hr : Hid (fndR l s = none) := Lib.hid (by rw [hst.out]; exact fndR_end hlt)
      obtain ⟨s0, s1, s2, s3, s4, s5⟩ := m4.store3 (.string ⟨#[]⟩) (.int .i64 0) (.slice none 0 0)
      have j4 := m4.three (.string ⟨#[]⟩) (.int .i64 0) (.slice none 0 0)
      have hfr := Fr.set3 wr w.heap.size (.string ⟨#[]⟩) (.int .i64 0) (.slice none 0 0)
      go_wp2
      refine bodyPost_ret (res_cell2 Tryz.results55 rfl j4 Tryz.underlying51 rfl (by kernel_rfl)) rfl ?_
      rw [hr.out]
      exact ⟨_, rfl, rd_nilW _ _ _, hnx.trans (hfr.below hnx.size (by simp))⟩

/-- the rule for an element's attribute -/
def ruleL (p : PolD) (n a : ByteArray) : Option RuleD := match fndE p.els n with
  | none => none
  | some e => match fndR e.rules a with
    | some r => some r
    | none => fndR p.glob a
def ruD (p : PolD) (n a : ByteArray) : RuleD := (ruleL p n a).getD ru0

set_option maxHeartbeats 4000000 in
set_option maxRecDepth 100000 in
theorem rRuleC (x : Vs) (p : PolD) (n a : ByteArray) (w : World) (h : RdP w 0 w.heap.size x p) : Calls Tryz.prog 21 #[polV x p, .string n, .string a] w fun e w' =>
    ∃ u, e = .returned (.tuple #[.agg #[.string (ruD p n a).name, .int .i64 (ruD p n a).kind, u], .bool (ruleL p n a).isSome]) ∧ kdW.rd w' 0 w.heap.size u (ruD p n a).words ∧ Below w.heap.size w w' := by
  have HF : Hid (∀ W, Below w.heap.size w W → Calls Tryz.prog 54 #[polV x p, .string n] W fun e w' =>
    ∃ u, e = .returned (.tuple #[.agg #[.string ((fndE p.els n).getD el0).name, u], .bool (fndE p.els n).isSome]) ∧ kdR.rd w' 0 w.heap.size u ((fndE p.els n).getD el0).rules ∧ Below W.heap.size W w') :=
    Lib.hid fun W hW => findC x p n W w.heap.size hW.size (h.stay (stay_below hW (Nat.le_refl _)))
  have HG : Hid (∀ W, Below w.heap.size w W → Calls Tryz.prog 55 #[x.g, .string a] W fun e w' =>
    ∃ u, e = .returned (.tuple #[.agg #[.string ((fndR p.glob a).getD ru0).name, .int .i64 ((fndR p.glob a).getD ru0).kind, u], .bool (fndR p.glob a).isSome]) ∧ kdW.rd w' 0 w.heap.size u ((fndR p.glob a).getD ru0).words ∧ Below W.heap.size W w') :=
    Lib.hid fun W hW => ruleOfC p.glob x.g a W w.heap.size hW.size (kdR.stay h.2.1 (stay_below hW (Nat.le_refl _)))
  obtain ⟨A1, c1, A2, c2, A3, c3, A4, c4, rfl, q1, q2, q3, q4, q5, q6, q7, q8⟩ := h.form
  clear h
  unfold polV at HF ⊢
  simp only at HG
  obtain ⟨W1, hW1⟩ : ∃ W, W = (w.alloc (.cells #[.slice A1 p.els.length c1, .slice A2 p.glob.length c2, .slice A3 p.schemes.length c3, .bool p.rel, .slice A4 p.drop.length c4, .int .i64 p.depth, .int .i64 p.window] 27)).alloc (.cells #[.string ByteArray.empty, .int .i64 0, .slice none 0 0] 51) := ⟨_, rfl⟩
  have hb1 : Below w.heap.size w W1 := hW1 ▸ ((Below.refl _ _).alloc (Nat.le_refl _) _).alloc (by simp) _
  have m1 : Bl W1 w.heap.size 27 [.slice A1 p.els.length c1, .slice A2 p.glob.length c2, .slice A3 p.schemes.length c3, .bool p.rel, .slice A4 p.drop.length c4, .int .i64 p.depth, .int .i64 p.window] := hW1 ▸ (Bl.new w _ _ rfl).alloc _
  have m2 : Bl W1 (w.heap.size + 1) 51 [.string ByteArray.empty, .int .i64 0, .slice none 0 0] := hW1 ▸ Bl.new _ _ _ (by simp)
  have z0 := m1.cell 0 rfl
  have z1 := m1.cell 1 rfl
  have z2 := m1.cell 2 rfl
  have z3 := m1.cell 3 rfl
  have z4 := m1.cell 4 rfl
  have z5 := m1.cell 5 rfl
  have z6 := m1.cell 6 rfl
  have HX := Lib.hid hW1
  clear hW1
  go_enter Tryz.func21, Tryz.ntmps21
  go_upto_region 1 with fail
  rw [show ({ data := #[] } : ByteArray) = ByteArray.empty from rfl, ← HX.out]
  cases hE : fndE p.els n
  · have hr : Hid (ruleL p n a = none) := Lib.hid (by unfold ruleL; rw [hE])
    rw [hE] at HF
    clear hE
    go_upto_region 2 with (go_at_call 54; refine (HF.out _ hb1).mono ?_; rintro e w2 ⟨u, rfl, hu, hb2⟩; obtain ⟨A5, c5, rfl, _⟩ := fmR.rd_form hu)
    have m3 := (m2.below hb2).alloc (.cells #[.string el0.name, .slice A5 el0.rules.length c5] 59)
    obtain ⟨s0, s1, s2, s3, s4, s5⟩ := m3.store3 (.string ⟨#[]⟩) (.int .i64 0) (.slice none 0 0)
    have j4 := m3.three (.string ⟨#[]⟩) (.int .i64 0) (.slice none 0 0)
    have hb3 : Below w.heap.size w (w2.alloc (.cells #[.string el0.name, .slice A5 el0.rules.length c5] 59)) := (hb1.trans (hb2.mono hb1.size)).alloc (hb1.trans (hb2.mono hb1.size)).size _
    have hfr := Fr.set3 (w2.alloc (.cells #[.string el0.name, .slice A5 el0.rules.length c5] 59)) (w.heap.size + 1) (.string ⟨#[]⟩) (.int .i64 0) (.slice none 0 0)
    go_wp2
    refine bodyPost_ret (res_cell2 Tryz.results21 rfl j4 Tryz.underlying51 rfl (by kernel_rfl)) rfl ?_
    unfold ruD
    rw [hr.out]
    exact ⟨_, rfl, rd_nilW _ _ _, hb3.trans (hfr.below hb3.size (by simp))⟩
  · rename_i E
    rw [hE] at HF
    obtain ⟨en, er⟩ := E
    simp only [Option.getD_some, Option.isSome_some] at HF
    cases hR : fndR er a
    · have hr : Hid (ruleL p n a = fndR p.glob a) := Lib.hid (by unfold ruleL; rw [hE]; simp only [hR])
      have HR : Hid (∀ W v, w.heap.size ≤ W.heap.size → kdR.rd W 0 w.heap.size v er → Calls Tryz.prog 55 #[v, .string a] W fun e w' => ∃ A c, e = .returned (.tuple #[.agg #[.string ru0.name, .int .i64 ru0.kind, .slice A 0 c], .bool false]) ∧ Below W.heap.size W w') :=
        Lib.hid fun W v h1 h2 => (ruleOfC er v a W w.heap.size h1 h2).mono fun e w' ⟨u, he, hu, hb⟩ => by rw [hR] at he hu; obtain ⟨A, c, rfl, _⟩ := rdW_form hu; exact ⟨A, c, he, hb⟩
      have HG2 : Hid (∀ W, Below w.heap.size w W → Calls Tryz.prog 55 #[.slice A2 p.glob.length c2, .string a] W fun e w' =>
        ∃ A c, e = .returned (.tuple #[.agg #[.string ((fndR p.glob a).getD ru0).name, .int .i64 ((fndR p.glob a).getD ru0).kind, .slice A ((fndR p.glob a).getD ru0).words.length c], .bool (fndR p.glob a).isSome]) ∧ kdW.rd w' 0 w.heap.size (.slice A ((fndR p.glob a).getD ru0).words.length c) ((fndR p.glob a).getD ru0).words ∧ Below W.heap.size W w') :=
        Lib.hid fun W hW => (HG.out W hW).mono fun e w' ⟨u, he, hu, hb⟩ => by obtain ⟨A, c, rfl, _⟩ := rdW_form hu; exact ⟨A, c, he, hu, hb⟩
      clear hE hR
      go_upto_region 2 with (go_at_call 54; refine (HF.out _ hb1).mono ?_; rintro e w2 ⟨u, rfl, hu, hb2⟩; obtain ⟨A5, c5, rfl, _⟩ := fmR.rd_form hu)
      obtain ⟨W3, hW3⟩ : ∃ W, W = w2.alloc (.cells #[.string en, .slice A5 er.length c5] 59) := ⟨_, rfl⟩
      have hb3 : Below W1.heap.size W1 W3 := hW3 ▸ hb2.alloc hb2.size _
      have k3 : Bl W3 w2.heap.size 59 [.string en, .slice A5 er.length c5] := hW3 ▸ Bl.new w2 _ _ rfl
      have hz1 := hb1.size
      have hz2 := hb2.size
      have hz3 := hb3.size
      have hu3 : kdR.rd W3 0 w.heap.size (.slice A5 er.length c5) er := kdR.stay hu fun j _ hj => by rw [hW3]; exact Below.heap_alloc _ _ _ (by omega)
      have HR3 := Lib.hid (HR.out W3 _ (by omega) hu3)
      have k30 := k3.cell 0 rfl
      have k31 := k3.cell 1 rfl
      have HX3 := Lib.hid hW3
      clear hW3 hu hu3
      rw [← HX3.out]
      go_upto_region 5 with (go_at_call 55; refine HR3.out.mono ?_; rintro e w4 ⟨A6, c6, rfl, hb4⟩)
      obtain ⟨W5, hW5⟩ : ∃ W, W = w4.alloc (.cells #[.string ru0.name, .int .i64 ru0.kind, .slice A6 0 c6] 51) := ⟨_, rfl⟩
      have hb5 : Below W1.heap.size W1 W5 := hW5 ▸ (hb3.trans (hb4.mono hz3)).alloc (hb3.trans (hb4.mono hz3)).size _
      have m5 := m1.below hb5
      have m6 := m2.below hb5
      have y1 := m5.cell 1 rfl
      have hb6 := hb1.trans (hb5.mono hz1)
      have HX5 := Lib.hid hW5
      clear hW5
      rw [← HX5.out]
      go_upto_region 8 with (go_at_call 55; refine (HG2.out _ hb6).mono ?_; rintro e w6 ⟨A7, c7, rfl, hu7, hb7⟩; have m7 := m6.below hb7; obtain ⟨s0, s1, s2, s3, s4, s5⟩ := m7.store3 (.string ((fndR p.glob a).getD ru0).name) (.int .i64 ((fndR p.glob a).getD ru0).kind) (.slice A7 ((fndR p.glob a).getD ru0).words.length c7))
      have j4 := m7.three (.string ((fndR p.glob a).getD ru0).name) (.int .i64 ((fndR p.glob a).getD ru0).kind) (.slice A7 ((fndR p.glob a).getD ru0).words.length c7)
      have hfr := Fr.set3 w6 (w.heap.size + 1) (.string ((fndR p.glob a).getD ru0).name) (.int .i64 ((fndR p.glob a).getD ru0).kind) (.slice A7 ((fndR p.glob a).getD ru0).words.length c7)
      refine bodyPost_ret (res_cell2 Tryz.results21 rfl j4 Tryz.underlying51 rfl (by kernel_rfl)) rfl ?_
      unfold ruD
      rw [hr.out]
      have hb8 := hb6.trans (hb7.mono hb6.size)
      have hb9 := hfr.below hb8.size (by simp)
      exact ⟨_, rfl, kdW.stay hu7 fun j _ hj => hb9.block j hj, hb8.trans hb9⟩
    · rename_i R
      obtain ⟨rn, rk, rw'⟩ := R
      have hr : Hid (ruleL p n a = some ⟨rn, rk, rw'⟩) := Lib.hid (by unfold ruleL; rw [hE]; simp only [hR])
      have HR : Hid (∀ W v, w.heap.size ≤ W.heap.size → kdR.rd W 0 w.heap.size v er → Calls Tryz.prog 55 #[v, .string a] W fun e w' => ∃ A c, e = .returned (.tuple #[.agg #[.string rn, .int .i64 rk, .slice A rw'.length c], .bool true]) ∧ kdW.rd w' 0 w.heap.size (.slice A rw'.length c) rw' ∧ Below W.heap.size W w') :=
        Lib.hid fun W v h1 h2 => (ruleOfC er v a W w.heap.size h1 h2).mono fun e w' ⟨u, he, hu, hb⟩ => by rw [hR] at he hu; obtain ⟨A, c, rfl, _⟩ := rdW_form hu; exact ⟨A, c, he, hu, hb⟩
      clear hE hR
      go_upto_region 2 with (go_at_call 54; refine (HF.out _ hb1).mono ?_; rintro e w2 ⟨u, rfl, hu, hb2⟩; obtain ⟨A5, c5, rfl, _⟩ := fmR.rd_form hu)
      obtain ⟨W3, hW3⟩ : ∃ W, W = w2.alloc (.cells #[.string en, .slice A5 er.length c5] 59) := ⟨_, rfl⟩
      have hb3 : Below W1.heap.size W1 W3 := hW3 ▸ hb2.alloc hb2.size _
      have k3 : Bl W3 w2.heap.size 59 [.string en, .slice A5 er.length c5] := hW3 ▸ Bl.new w2 _ _ rfl
      have hz1 := hb1.size
      have hz2 := hb2.size
      have hz3 := hb3.size
      have hu3 : kdR.rd W3 0 w.heap.size (.slice A5 er.length c5) er := kdR.stay hu fun j _ hj => by rw [hW3]; exact Below.heap_alloc _ _ _ (by omega)
      have HR3 := Lib.hid (HR.out W3 _ (by omega) hu3)
      have k30 := k3.cell 0 rfl
      have k31 := k3.cell 1 rfl
      have HX3 := Lib.hid hW3
      clear hW3 hu hu3
      rw [← HX3.out]
      go_upto_region 5 with (go_at_call 55; refine HR3.out.mono ?_; rintro e w4 ⟨A6, c6, rfl, hu6, hb4⟩)
      obtain ⟨W5, hW5⟩ : ∃ W, W = w4.alloc (.cells #[.string rn, .int .i64 rk, .slice A6 rw'.length c6] 51) := ⟨_, rfl⟩
      have hb45 : Below W1.heap.size W1 w4 := hb3.trans (hb4.mono hz3)
      have hb5 : Below W1.heap.size W1 W5 := hW5 ▸ hb45.alloc hb45.size _
      have m6 := m2.below hb5
      have k6 : Bl W5 w4.heap.size 51 [.string rn, .int .i64 rk, .slice A6 rw'.length c6] := hW5 ▸ Bl.new w4 _ _ rfl
      have y0 := k6.cell 0 rfl
      have y1 := k6.cell 1 rfl
      have y2 := k6.cell 2 rfl
      have hz4 := hb45.size
      have hu7 : kdW.rd W5 0 w.heap.size (.slice A6 rw'.length c6) rw' := kdW.stay hu6 fun j _ hj => by rw [hW5]; exact Below.heap_alloc _ _ _ (by omega)
      obtain ⟨s0, s1, s2, s3, s4, s5⟩ := m6.store3 (.string rn) (.int .i64 rk) (.slice A6 rw'.length c6)
      have j4 := m6.three (.string rn) (.int .i64 rk) (.slice A6 rw'.length c6)
      have hfr := Fr.set3 W5 (w.heap.size + 1) (.string rn) (.int .i64 rk) (.slice A6 rw'.length c6)
      have hb6 := hb1.trans (hb5.mono hz1)
      have HX5 := Lib.hid hW5
      clear hW5 hu6
      rw [← HX5.out]
      go_wp2
      refine bodyPost_ret (res_cell2 Tryz.results21 rfl j4 Tryz.underlying51 rfl (by kernel_rfl)) rfl ?_
      unfold ruD
      rw [hr.out]
      have hb9 := hfr.below hb6.size (by simp)
      exact ⟨_, rfl, kdW.stay hu7 fun j _ hj => hb9.block j hj, hb6.trans hb9⟩
end Go.Proofs.YtejpdbiiikcmmaaGreatDoor.Fd

/-! The program's Rule: the rule for an element's attribute, in new memory. -/
namespace Go.Proofs.YtejpdbiiikcmmaaGreatDoor.Ra
open Go.RowKit Lb Gr Pd Fl Go.Proofs.YtejpdbiiikcmmaaGreatDoor.Pm Bk Ru Co Ea Go.Proofs.YtejpdbiiikcmmaaGreatDoor.Fd
attribute [local go_sem ↓] Go.wp_at_zero Go.wp_at_succ

/-- what is left to be looked at, from the j-th of the two lists on -/
def rest (er g : List RuleD) (a : ByteArray) (j : Nat) : Option RuleD := if j = 0 then (fndR er a).or (fndR g a) else if j = 1 then fndR g a else none
theorem rest_step {er g : List RuleD} {a : ByteArray} {j : Nat} (h : j < 2) : rest er g a j = (fndR (if j = 0 then er else g) a).or (rest er g a (j + 1)) := by
  rcases (show j = 0 ∨ j = 1 by omega) with rfl | rfl
  · simp [rest]
  · simp [rest]
theorem rest_end {er g : List RuleD} {a : ByteArray} {j : Nat} (h : ¬ j < 2) : rest er g a j = none := by
  unfold rest
  rw [if_neg (by omega), if_neg (by omega)]
theorem ruleL_rest {p : PolD} {n a : ByteArray} {e : ElD} (h : fndE p.els n = some e) : ruleL p n a = rest e.rules p.glob a 0 := by
  unfold ruleL rest
  rw [h]
  simp only [if_true]
  cases fndR e.rules a <;> rfl

set_option maxHeartbeats 8000000 in
set_option maxRecDepth 100000 in
theorem pRuleC (x : Vs) (p : PolD) (n a : ByteArray) (w : World) (h : RdP w 0 w.heap.size x p) (hf : FitP p) : Calls Tryz.prog 74 #[polV x p, .string n, .string a] w fun e w' =>
    ∃ u G, e = .returned (.tuple #[.agg #[.string (ruD p n a).name, .int .i64 (ruD p n a).kind, u], .bool (ruleL p n a).isSome]) ∧ kdW.own w' w.heap.size u (ruD p n a).words G ∧ Below w.heap.size w w' := by
  obtain ⟨A1, c1, A2, c2, A3, c3, A4, c4, rfl, q1, q2, q3, q4, q5, q6, q7, q8⟩ := h.form
  have HRD : Hid (∀ W, Below w.heap.size w W → kdE.rd W 0 w.heap.size (.slice A1 p.els.length c1) p.els) := Lib.hid fun W hW => kdE.stay h.1 (stay_below hW (Nat.le_refl _))
  have HGD : Hid (∀ W, Below w.heap.size w W → kdR.rd W 0 w.heap.size (.slice A2 p.glob.length c2) p.glob) := Lib.hid fun W hW => kdR.stay h.2.1 (stay_below hW (Nat.le_refl _))
  obtain ⟨⟨hl, hw⟩, hg, _⟩ := hf
  have HRU : Hid (∀ W (r : RuleD) u, kdW.rd W 0 W.heap.size u r.words → r.words.length * 16 ≤ 140737488355328 → Calls Tryz.prog 133 #[.agg #[.string r.name, .int .i64 r.kind, u]] W fun e w' => ∃ u' G, e = .returned (.agg #[.string r.name, .int .i64 r.kind, u']) ∧ kdW.own w' W.heap.size u' r.words G ∧ Below W.heap.size W w') :=
    Lib.hid fun W r u hu hb => ruleC r u W hu hb
  have HB : Hid (fndE p.els n = fndE (p.els.drop 0) n) := Lib.hid rfl
  have HW := Lib.hid hw
  have HGF := Lib.hid hg
  have hlen : (p.els.length : Int) ≤ 9223372036854775807 := by omega
  clear h hw hg
  unfold polV
  have hm1 : Bl ((w.alloc (.cells #[.slice A1 p.els.length c1, .slice A2 p.glob.length c2, .slice A3 p.schemes.length c3, .bool p.rel, .slice A4 p.drop.length c4, .int .i64 p.depth, .int .i64 p.window] 27)).alloc (.cells #[.string ByteArray.empty, .int .i64 0, .slice none 0 0] 51)) w.heap.size 27 [.slice A1 p.els.length c1, .slice A2 p.glob.length c2, .slice A3 p.schemes.length c3, .bool p.rel, .slice A4 p.drop.length c4, .int .i64 p.depth, .int .i64 p.window] := (Bl.new _ _ _ rfl).alloc _
  have hm2 : Bl ((w.alloc (.cells #[.slice A1 p.els.length c1, .slice A2 p.glob.length c2, .slice A3 p.schemes.length c3, .bool p.rel, .slice A4 p.drop.length c4, .int .i64 p.depth, .int .i64 p.window] 27)).alloc (.cells #[.string ByteArray.empty, .int .i64 0, .slice none 0 0] 51)) (w.heap.size + 1) 51 [.string ByteArray.empty, .int .i64 0, .slice none 0 0] := Bl.new _ _ _ (by simp)
  have hb00 := ((Below.refl w.heap.size w).alloc (Nat.le_refl _) (.cells #[.slice A1 p.els.length c1, .slice A2 p.glob.length c2, .slice A3 p.schemes.length c3, .bool p.rel, .slice A4 p.drop.length c4, .int .i64 p.depth, .int .i64 p.window] 27)).alloc (by simp) (.cells #[.string ByteArray.empty, .int .i64 0, .slice none 0 0] 51)
  go_enter Tryz.func74, Tryz.ntmps74
  go_wp2
  go_loopw [17] (fun i wr => ∃ k : Nat, k ≤ p.els.length ∧ i = .int .i64 k ∧ Bl wr w.heap.size 27 [.slice A1 p.els.length c1, .slice A2 p.glob.length c2, .slice A3 p.schemes.length c3, .bool p.rel, .slice A4 p.drop.length c4, .int .i64 p.depth, .int .i64 p.window] ∧ Bl wr (w.heap.size + 1) 51 [.string ByteArray.empty, .int .i64 0, .slice none 0 0] ∧ Below w.heap.size w wr ∧ Hid (fndE p.els n = fndE (p.els.drop k) n)) (fun i _ => p.els.length - (intOf i).toNat)
  case atStart => exact ⟨0, by omega, rfl, hm1, hm2, hb00, HB⟩
  case round =>
    obtain ⟨k, hk, rfl, m1, m2, hnx, hst⟩ := hrel
    by_cases hlt : k < p.els.length
    · obtain ⟨b, off, u, rfl, hb1, hb2, hu, hcell⟩ := fmE.rd_at (HRD.out _ hnx) hlt
      have hu' : kdR.rd wr 0 w.heap.size u p.els[k].rules := hu
      clear hu
      have e0 := hcell 0 _ rfl
      have e1 := hcell 1 _ rfl
      rw [show off + (k * fmE.size + 0) = off + k * 2 from rfl] at e0
      rw [show off + (k * fmE.size + 1) = off + k * 2 + 1 from by show off + (k * 2 + 1) = _; omega] at e1
      obtain ⟨A5, c5, rfl, hc5, hd5⟩ := fmR.rd_form hu'
      clear hcell
      obtain ⟨W0, hW0⟩ : ∃ W, W = wr.alloc (.cells #[.string p.els[k].name, .slice A5 p.els[k].rules.length c5] 59) := ⟨_, rfl⟩
      have hb0 : Below wr.heap.size wr W0 := hW0 ▸ (Below.refl _ _).alloc (Nat.le_refl _) _
      have k5 : Bl W0 wr.heap.size 59 [.string p.els[k].name, .slice A5 p.els[k].rules.length c5] := hW0 ▸ Bl.new wr _ _ rfl
      have m3 := m1.below hb0
      have m5 := m2.below hb0
      have y0 := k5.cell 0 rfl
      have y1 := k5.cell 1 rfl
      have z1 := m3.cell 1 rfl
      have hb9 : Below w.heap.size w W0 := hnx.trans (hb0.mono hnx.size)
      have hz9 := hb9.size
      have hzw := hnx.size
      have HED : Hid (∀ W, Below W0.heap.size W0 W → kdR.rd W 0 w.heap.size (.slice A5 p.els[k].rules.length c5) p.els[k].rules) := Lib.hid fun W hW => kdR.stay hu' fun j _ hj => (hW.block j (by omega)).trans (hb0.block j (by omega))
      have HX := Lib.hid hW0
      have hk0 : (0 : Int) ≤ (k : Int) := by omega
      clear hW0 hu'
      by_cases hs : p.els[k].name = n
      · have hr : Hid (ruleL p n a = rest p.els[k].rules p.glob a 0) := Lib.hid (ruleL_rest (by rw [hst.out]; exact fndE_hit hlt hs))
        have he := toList_eq_of hs
        have hfk := HW.out k hlt
        obtain ⟨er, her⟩ : ∃ er, er = p.els[k].rules := ⟨_, rfl⟩
        rw [← her] at hr HED y1 k5 hfk
        have HFK := Lib.hid hfk
        have HER := Lib.hid her
        clear hs hfk
        obtain ⟨w1, rfl⟩ : ∃ w1, w1 = wr := ⟨_, rfl⟩
        go_upto_region 5 with fail
        rw [← HX.out]
        rw [← her] at *
        clear her
        have hbt : Below w.heap.size w (W0.alloc (.cells #[.slice A5 er.length c5, .slice A2 p.glob.length c2] 24)) := hb9.alloc hb9.size _
        go_wp2
        go_loopw [31] (fun i wr => ∃ j : Nat, j ≤ 2 ∧ i = .int .i64 j ∧ Bl wr W0.heap.size 24 [.slice A5 er.length c5, .slice A2 p.glob.length c2] ∧ Bl wr (w.heap.size + 1) 51 [.string ByteArray.empty, .int .i64 0, .slice none 0 0] ∧ Below W0.heap.size W0 wr ∧ Hid (ruleL p n a = rest er p.glob a j)) (fun i _ => 2 - (intOf i).toNat)
        case atStart => exact ⟨0, by omega, rfl, Bl.new W0 _ _ rfl, m5.alloc _, (Below.refl _ _).alloc (Nat.le_refl _) _, hr⟩
        case round =>
          obtain ⟨j, hj, rfl, t1, m6, hnt, hrt⟩ := hrel
          by_cases hj2 : j < 2
          · obtain ⟨L, AL, cL, hcj, HL, hFL, hLl, hrj⟩ : ∃ (L : List RuleD) (AL : Option Addr) (cL : Nat), wr.cell? ⟨W0.heap.size, j, none⟩ = some (.slice AL L.length cL) ∧ Hid (∀ W, Below W0.heap.size W0 W → kdR.rd W 0 w.heap.size (.slice AL L.length cL) L) ∧ Hid (FitR L) ∧ L.length ≤ 9223372036854775807 ∧ Hid (ruleL p n a = (fndR L a).or (rest er p.glob a (j + 1))) := by
              have h1 := hrt.out
              rw [rest_step hj2] at h1
              rcases (show j = 0 ∨ j = 1 by omega) with rfl | rfl
              · exact ⟨er, A5, c5, t1.cell 0 rfl, HED, HFK, by have := HFK.out.1; omega, Lib.hid h1⟩
              · exact ⟨p.glob, A2, c2, t1.cell 1 rfl, Lib.hid fun W hW => HGD.out W (hb9.trans (hW.mono hz9)), HGF, by have := HGF.out.1; omega, Lib.hid h1⟩
            have hj0 : (0 : Int) ≤ (j : Int) := by omega
            have hb0L : Hid (ruleL p n a = (fndR (L.drop 0) a).or (rest er p.glob a (j + 1))) := hrj
            obtain ⟨w2, rfl⟩ : ∃ w2, w2 = wr := ⟨_, rfl⟩
            go_wp2
            go_loopw [37] (fun i wr => ∃ q : Nat, q ≤ L.length ∧ i = .int .i64 q ∧ Bl wr W0.heap.size 24 [.slice A5 er.length c5, .slice A2 p.glob.length c2] ∧ Bl wr (w.heap.size + 1) 51 [.string ByteArray.empty, .int .i64 0, .slice none 0 0] ∧ Below W0.heap.size W0 wr ∧ Hid (ruleL p n a = (fndR (L.drop q) a).or (rest er p.glob a (j + 1)))) (fun i _ => L.length - (intOf i).toNat)
            case atStart => exact ⟨0, by omega, rfl, t1, m6, hnt, hb0L⟩
            case round =>
              obtain ⟨q, hq, rfl, t2, m7, hnq, hrq⟩ := hrel
              by_cases hlq : q < L.length
              · obtain ⟨b3, o3, u3, rfl, _, hb3, hu3, hcell3⟩ := fmR.rd_at (HL.out _ hnq) hlq
                have hu3' : kdW.rd wr 0 w.heap.size u3 L[q].words := hu3
                have f0 := hcell3 0 _ rfl
                have f1 := hcell3 1 _ rfl
                have f2 := hcell3 2 _ rfl
                rw [show o3 + (q * fmR.size + 0) = o3 + q * 3 from rfl] at f0
                rw [show o3 + (q * fmR.size + 1) = o3 + q * 3 + 1 from by show o3 + (q * 3 + 1) = _; omega] at f1
                rw [show o3 + (q * fmR.size + 2) = o3 + q * 3 + 2 from by show o3 + (q * 3 + 2) = _; omega] at f2
                obtain ⟨A7, c7, rfl, _⟩ := rdW_form hu3'
                clear hcell3 hu3
                obtain ⟨W4, hW4⟩ : ∃ W, W = wr.alloc (.cells #[.string L[q].name, .int .i64 L[q].kind, .slice A7 L[q].words.length c7] 51) := ⟨_, rfl⟩
                have hb4 : Below wr.heap.size wr W4 := hW4 ▸ (Below.refl _ _).alloc (Nat.le_refl _) _
                have k8 : Bl W4 wr.heap.size 51 [.string L[q].name, .int .i64 L[q].kind, .slice A7 L[q].words.length c7] := hW4 ▸ Bl.new wr _ _ rfl
                have hzq := hnq.size
                have hz4 := hb4.size
                have hu4 : kdW.rd W4 0 W4.heap.size (.slice A7 L[q].words.length c7) L[q].words := kdW.wide (kdW.stay hu3' fun i _ hi => hb4.block i (by omega)) (Nat.le_refl _) (by omega)
                have t3 := t2.below hb4
                have m8 := m7.below hb4
                have x0 := k8.cell 0 rfl
                have x1 := k8.cell 1 rfl
                have x2 := k8.cell 2 rfl
                have hb44 : Below W0.heap.size W0 W4 := hnq.trans (hb4.mono hzq)
                have HRU4 := Lib.hid (HRU.out W4 L[q] _ hu4 (hFL.out.2 q hlq))
                have HX4 := Lib.hid hW4
                have hq0 : (0 : Int) ≤ (q : Int) := by omega
                clear hW4 hu3' hu4
                by_cases hsq : L[q].name = a
                · have hrr : Hid (ruleL p n a = some L[q]) := Lib.hid (by rw [hrq.out, fndR_hit hlq hsq]; rfl)
                  have heq := toList_eq_of hsq
                  clear hsq
                  go_upto_region 12 with fail
                  rw [← HX4.out]
                  go_wp2_with (go_at_call 133; refine HRU4.out.mono ?_; rintro e w6 ⟨u6, G, rfl, ho6, hb6⟩; obtain ⟨A9, c9, rfl, _⟩ := own_slice ho6.1; have m9 := m8.below hb6; obtain ⟨s0, s1, s2, s3, s4, s5⟩ := m9.store3 (.string L[q].name) (.int .i64 L[q].kind) (.slice A9 L[q].words.length c9))
                  have j4 := m9.three (.string L[q].name) (.int .i64 L[q].kind) (.slice A9 L[q].words.length c9)
                  have hfr := Fr.set3 w6 (w.heap.size + 1) (.string L[q].name) (.int .i64 L[q].kind) (.slice A9 L[q].words.length c9)
                  refine bodyPost_ret (res_cell2 Tryz.results74 rfl j4 Tryz.underlying51 rfl (by kernel_rfl)) rfl ?_
                  have hbz : Below w.heap.size w w6 := (hb9.trans (hb44.mono hz9)).trans (hb6.mono (by omega))
                  have hml := m8.lt
                  have hml2 := m7.lt
                  unfold ruD
                  rw [hrr.out]
                  refine ⟨_, G, rfl, kdW.low (kdW.keep ho6 hfr.size fun i hi => hfr.block i (kdW.ge ho6 i hi).2 ?_) (by omega), hbz.trans (hfr.below hbz.size (by simp))⟩
                  have h1 := (kdW.ge ho6 i hi).1
                  simp
                  omega
                · have hrr : Hid (ruleL p n a = (fndR (L.drop (q + 1)) a).or (rest er p.glob a (j + 1))) := Lib.hid (by rw [hrq.out, fndR_miss hlq hsq])
                  have heq := toList_ne_of hsq
                  clear hsq
                  go_wp2
                  rw [← HX4.out]
                  go_roundw
                  case rel => exact ⟨q + 1, by omega, by go_num, t3, m8, hb44, hrr⟩
                  case measure => simp [intOf] <;> omega
              · have hrr : Hid (ruleL p n a = rest er p.glob a (j + 1)) := Lib.hid (by rw [hrq.out, fndR_end hlq]; rfl)
                go_wp2
                go_roundw
                case rel => exact ⟨j + 1, by omega, by go_num, t2, m7, hnq, hrr⟩
                case measure => simp [intOf] <;> omega
          · have hrr : Hid (ruleL p n a = none) := Lib.hid (by rw [hrt.out]; exact rest_end hj2)
            obtain ⟨s0, s1, s2, s3, s4, s5⟩ := m6.store3 (.string ⟨#[]⟩) (.int .i64 0) (.slice none 0 0)
            have j4 := m6.three (.string ⟨#[]⟩) (.int .i64 0) (.slice none 0 0)
            have hfr := Fr.set3 wr (w.heap.size + 1) (.string ⟨#[]⟩) (.int .i64 0) (.slice none 0 0)
            go_wp2
            refine bodyPost_ret (res_cell2 Tryz.results74 rfl j4 Tryz.underlying51 rfl (by kernel_rfl)) rfl ?_
            have hbz : Below w.heap.size w wr := hb9.trans (hnt.mono hz9)
            unfold ruD
            rw [hrr.out]
            exact ⟨_, [], rfl, ⟨World.ownsRow_nil _ _ _ _, rfl⟩, hbz.trans (hfr.below hbz.size (by simp))⟩
      · have hr : Hid (fndE p.els n = fndE (p.els.drop (k + 1)) n) := Lib.hid (by rw [hst.out]; exact fndE_miss hlt hs)
        have he := toList_ne_of hs
        clear hs
        go_wp2
        rw [← HX.out]
        go_roundw
        case rel => exact ⟨k + 1, by omega, by go_num, m3, m5, hb9, hr⟩
        case measure => simp [intOf] <;> omega
    · have hr : Hid (ruleL p n a = none) := Lib.hid (by unfold ruleL; rw [hst.out, fndE_end hlt])
      obtain ⟨s0, s1, s2, s3, s4, s5⟩ := m2.store3 (.string ⟨#[]⟩) (.int .i64 0) (.slice none 0 0)
      have j4 := m2.three (.string ⟨#[]⟩) (.int .i64 0) (.slice none 0 0)
      have hfr := Fr.set3 wr (w.heap.size + 1) (.string ⟨#[]⟩) (.int .i64 0) (.slice none 0 0)
      go_wp2
      refine bodyPost_ret (res_cell2 Tryz.results74 rfl j4 Tryz.underlying51 rfl (by kernel_rfl)) rfl ?_
      unfold ruD
      rw [hr.out]
      exact ⟨_, [], rfl, ⟨World.ownsRow_nil _ _ _ _, rfl⟩, hnx.trans (hfr.below hnx.size (by simp))⟩
end Go.Proofs.YtejpdbiiikcmmaaGreatDoor.Ra

