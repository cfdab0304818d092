/- The walk of PolicyShut: what is closed stays so, and misses nothing. -/
import Derived.Test.YteikagdinecfoaaGreatDoorAw
import Derived.Test.YteikagdinecfoaaGreatDoorPa
import Derived.Test.YteikagdinecfoaaGreatDoorRa
import Derived.Test.YteikagdinecfoaaGreatDoorSa
import Derived.Test.YteikagdinecfoaaGreatDoorCl
set_option linter.unusedVariables false
set_option linter.unusedSimpArgs false
namespace Go.Proofs.YteikagdinecfoaaGreatDoor.Fg
open Go.RowKit Lb Gr Pd Go.Proofs.YteikagdinecfoaaGreatDoor.Pm Ru Co Pa Go.Proofs.YteikagdinecfoaaGreatDoor.So Go.Proofs.YteikagdinecfoaaGreatDoor.Cn Go.Proofs.YteikagdinecfoaaGreatDoor.Ea

theorem fitR_of {l : List RuleD} (h1 : l.length * 48 ≤ reachBytes) (h2 : ∀ r ∈ l, GdR r) : FitR l := by
  have hr : reachBytes = 140737488351232 := rfl
  refine ⟨by omega, fun i hi => ?_⟩
  have := (h2 _ (List.getElem_mem hi)).2.2.2.1
  omega
theorem fit_of {p : PolD} (h : GdP p) : FitP p := by
  have hr : reachBytes = 140737488351232 := rfl
  obtain ⟨h1, h2, h3, h4, h5, h6, _⟩ := h
  have h7 := h5.1
  have h8 := h6.1
  exact ⟨⟨by omega, fun i hi => fitR_of (h2 _ (List.getElem_mem hi)).2.1 (h2 _ (List.getElem_mem hi)).2.2⟩, fitR_of h3 h4, by omega, by omega⟩
theorem fitE_at {p : PolD} (h : FitP p) (s : ByteArray) : FitR ((fndE p.els s).getD el0).rules := by
  cases he : fndE p.els s with
  | none => exact ⟨by simp [el0], fun i hi => by simp [el0] at hi⟩
  | some e =>
    obtain ⟨i, hi, rfl⟩ := List.getElem_of_mem (List.mem_of_find?_eq_some he)
    exact h.1.2 i hi
open Go.Proofs.YteikagdinecfoaaGreatDoor.Ro Go.Proofs.YteikagdinecfoaaGreatDoor.Ck in
theorem okR_of {l : List RuleD} (h1 : l.length * 48 ≤ reachBytes) (h2 : ∀ r ∈ l, GdR r) : OkR l := by
  have hr : reachBytes = 140737488351232 := rfl
  have hm : maxLen = 9223372036854775807 := rfl
  refine ⟨by omega, fun i hi => ?_⟩
  obtain ⟨g1, g2, g3, g4⟩ := h2 _ (List.getElem_mem hi)
  have := g4.1
  exact ⟨by omega, by omega, g2, g3⟩
open Go.Proofs.YteikagdinecfoaaGreatDoor.Ck in
theorem okT_of {l : List ByteArray} (h : SzT l) : OkT l := by
  have hr : reachBytes = 140737488351232 := rfl
  have hm : maxLen = 9223372036854775807 := rfl
  have h1 := h.1
  exact ⟨by omega, fun i hi => by have := h.2 _ (List.getElem_mem hi); omega⟩
open Go.Proofs.YteikagdinecfoaaGreatDoor.Ck in
theorem ok_of {p : PolD} (h : GdP p) : OkP p := by
  have hr : reachBytes = 140737488351232 := rfl
  obtain ⟨h1, h2, h3, h4, h5, h6, _⟩ := h
  exact ⟨⟨by omega, fun i hi => okR_of (h2 _ (List.getElem_mem hi)).2.1 (h2 _ (List.getElem_mem hi)).2.2⟩, okR_of h3 h4, okT_of h5, okT_of h6⟩
theorem els_at {p : PolD} {m : List ByteArray} {i : Nat} (h : i < (closeP p m).els.length) : (∃ h2 : i < p.els.length, (closeP p m).els[i] = p.els[i]) ∨ (closeP p m).els[i].rules = [] := by
  by_cases h2 : i < p.els.length
  · left
    refine ⟨h2, ?_⟩
    have e : (closeP p m).els = p.els ++ (srt m).map fun n => (⟨n, []⟩ : ElD) := rfl
    rw [List.getElem_of_eq e h, List.getElem_append_left h2]
  · right
    have e : (closeP p m).els = p.els ++ (srt m).map fun n => (⟨n, []⟩ : ElD) := rfl
    rw [List.getElem_of_eq e h, List.getElem_append_right (Nat.le_of_not_lt h2)]
    simp
theorem els_len (p : PolD) (m : List ByteArray) : (closeP p m).els.length = p.els.length + m.length := by
  have := srt_len m
  unfold closeP
  simp
  omega
/-- closed: it fits as well -/
theorem fit_close {p : PolD} (h : GdP p) {m : List ByteArray} (hm : m.length ≤ 9) : FitP (closeP p m) := by
  have hr : reachBytes = 140737488351232 := rfl
  have hl := els_len p m
  have h1 := h.1
  obtain ⟨⟨f1, f2⟩, f3, f4, f5⟩ := fit_of h
  refine ⟨⟨by omega, fun i hi => ?_⟩, f3, f4, f5⟩
  rcases els_at hi with ⟨h2, e⟩ | e
  · rw [e]; exact f2 i h2
  · rw [e]; exact ⟨by simp, fun j hj => by simp at hj⟩
open Go.Proofs.YteikagdinecfoaaGreatDoor.Ck in
theorem ok_close {p : PolD} (h : GdP p) {m : List ByteArray} (hm : m.length ≤ 9) : OkP (closeP p m) := by
  have hr : reachBytes = 140737488351232 := rfl
  have hl := els_len p m
  have h1 := h.1
  obtain ⟨⟨f1, f2⟩, f3, f4, f5⟩ := ok_of h
  refine ⟨⟨by omega, fun i hi => ?_⟩, f3, f4, f5⟩
  rcases els_at hi with ⟨h2, e⟩ | e
  · rw [e]; exact f2 i h2
  · rw [e]; exact ⟨by simp, fun j hj => by simp at hj⟩
theorem fnd_has {l : List ElD} {s : ByteArray} (h : hasE l s = true) : (fndE l s).isSome = true := by
  unfold hasE at h
  obtain ⟨e, he, h2⟩ := List.any_eq_true.1 h
  cases hf : fndE l s with
  | some x => rfl
  | none =>
    have := List.find?_eq_none.1 hf e he
    exact absurd h2 this
end Go.Proofs.YteikagdinecfoaaGreatDoor.Fg

namespace Go.Proofs.YteikagdinecfoaaGreatDoor.policyShut
open Go.RowKit Lb Gr Pd Fl Go.Proofs.YteikagdinecfoaaGreatDoor.Pm Bk Ru Co Ea Sa Go.Proofs.YteikagdinecfoaaGreatDoor.Aw Pa Go.Proofs.YteikagdinecfoaaGreatDoor.Cn Go.Proofs.YteikagdinecfoaaGreatDoor.Cl Go.Proofs.YteikagdinecfoaaGreatDoor.Ch Go.Proofs.YteikagdinecfoaaGreatDoor.Ck Go.Proofs.YteikagdinecfoaaGreatDoor.Nd Fg
attribute [local go_sem ↓] Go.wp_at_zero Go.wp_at_succ

set_option maxHeartbeats 8000000 in
set_option maxRecDepth 100000 in
theorem walk (w : World) (hl : Laid w) (x : Vs) (p : PolD) (h : RdP w 0 w.heap.size x p) (hg : GdP p) : Calls Tryz.prog 9 #[polV x p] w fun e w' => e = .returned (.bool true) ∧ Below w.heap.size w w' := by
  have hr : reachBytes = 140737488351232 := rfl
  have hg1 := hg.1
  have hrw : ∀ W, Below w.heap.size w W → RdP W 0 W.heap.size x p := fun W hW => (h.stay (stay_below hW (Nat.le_refl _))).wide (Nat.le_refl _) hW.size
  have HA : Hid (∀ W, Below w.heap.size w W → Calls Tryz.prog 17 #[] W fun e w' => e = .returned (.bool true) ∧ Below W.heap.size W w') := Lib.hid fun W hW => awakeC W (hl.below hW)
  have HND : Hid (∀ W s, Below w.heap.size w W → Calls Tryz.prog 42 #[.string s] W fun e w' => ∃ A c G, e = .returned (.slice A (needsL s).length c) ∧ kdW.own w' W.heap.size (.slice A (needsL s).length c) (needsL s) G ∧ Below W.heap.size W w') := Lib.hid fun W s hW => NeedsC s W (hl.tab.below hW)
  have HNM : Hid (∀ W (e : Int), Calls Tryz.prog 16 #[.int .i64 e] W fun r w' => r = .returned (.int .i64 e) ∧ W = w') := Lib.hid fun W e => numC e W
  have HC0 : Hid (∀ W, Below w.heap.size w W → Calls Tryz.prog 39 #[polV x p] W fun e w' => ∃ m D1 e1 D2 e2 D3 e3 D4 e4, Full (nms p) m ∧ e = .returned (.agg #[.slice D1 (closeP p m).els.length e1, .slice D2 (closeP p m).glob.length e2, .slice D3 (closeP p m).schemes.length e3, .bool (closeP p m).rel, .slice D4 (closeP p m).drop.length e4, .int .i64 (closeP p m).depth, .int .i64 (closeP p m).window]) ∧ RdP w' 0 w'.heap.size ⟨.slice D1 (closeP p m).els.length e1, .slice D2 (closeP p m).glob.length e2, .slice D3 (closeP p m).schemes.length e3, .slice D4 (closeP p m).drop.length e4⟩ (closeP p m) ∧ Below W.heap.size W w') :=
    Lib.hid fun W hW => (closeC x p W (hl.tab.below hW) (hrw W hW) (fit_of hg) (by omega)).mono fun e w' ⟨m, y, F, hfu, he, ho, hb⟩ => by
      have hrd := ho.rd (lo := 0) (hi := w'.heap.size) (Nat.zero_le _) (Nat.le_refl _)
      obtain ⟨D1, e1, D2, e2, D3, e3, D4, e4, rfl, _⟩ := hrd.form
      exact ⟨m, D1, e1, D2, e2, D3, e3, D4, e4, hfu, he, hrd, hb⟩
  have HQ : Hid (∀ m W y, Full (nms p) m → Below w.heap.size w W → RdP W 0 W.heap.size y (closeP p m) → 
      (Calls Tryz.prog 39 #[polV y (closeP p m)] W fun e w' => ∃ D1 e1 D2 e2 D3 e3 D4 e4, e = .returned (.agg #[.slice D1 (closeP p m).els.length e1, .slice D2 (closeP p m).glob.length e2, .slice D3 (closeP p m).schemes.length e3, .bool (closeP p m).rel, .slice D4 (closeP p m).drop.length e4, .int .i64 (closeP p m).depth, .int .i64 (closeP p m).window]) ∧ RdP w' 0 w'.heap.size ⟨.slice D1 (closeP p m).els.length e1, .slice D2 (closeP p m).glob.length e2, .slice D3 (closeP p m).schemes.length e3, .slice D4 (closeP p m).drop.length e4⟩ (closeP p m) ∧ Below W.heap.size W w') ∧
      (Calls Tryz.prog 22 #[polV y (closeP p m)] W fun e w' => e = .returned (.int .i64 (checkI (closeP p m))) ∧ Below W.heap.size W w') ∧
      (∀ s, Calls Tryz.prog 29 #[polV y (closeP p m), .string s] W fun e w' => ∃ n A k c, e = .returned (.tuple #[.agg #[.string n, .slice A k c], .bool (fndE (closeP p m).els s).isSome]) ∧ Below W.heap.size W w')) :=
    Lib.hid fun m W y hfu hW hy => by
      have hm9 := hfu.1.len
      refine ⟨(closeC y _ W (hl.tab.below hW) hy (fit_close hg hm9) (by rw [els_len]; omega)).mono fun e w' ⟨m2, y2, F, hf2, he, ho, hb⟩ => ?_, CheckC y _ W (hl.tab.below hW) (hl.nev.below hW) hy (ok_close hg hm9), fun s => (elementC y _ s W hy (fit_close hg hm9).1).mono fun e w' ⟨u, G, he, ho, hb⟩ => ?_⟩
      · have e0 := shut_nil hfu hf2
        subst e0
        rw [close_nil] at he ho
        have hrd := ho.rd (lo := 0) (hi := w'.heap.size) (Nat.zero_le _) (Nat.le_refl _)
        obtain ⟨D1, e1, D2, e2, D3, e3, D4, e4, rfl, _⟩ := hrd.form
        exact ⟨D1, e1, D2, e2, D3, e3, D4, e4, he, hrd, hb⟩
      · obtain ⟨A, c, rfl, _⟩ := fmR.own_form ho
        exact ⟨_, A, _, c, he, hb⟩
  have HSM : Hid (∀ W q y y2, RdP W 0 W.heap.size y q → RdP W 0 W.heap.size y2 q → Calls Tryz.prog 23 #[polV y q, polV y2 q] W fun e w' => e = .returned (.bool true) ∧ Below W.heap.size W w') := Lib.hid fun W q y y2 h1 h2 => lSameC y y2 q W h1 h2
  obtain ⟨A1, c1, A2, c2, A3, c3, A4, c4, rfl, q1, q2, q3, q4, q5, q6, q7, q8⟩ := h.form
  have HBD : Hid (∀ m : List ByteArray, Full (nms p) m → (closeP p m).els.length ≤ 9223372036854775807) := Lib.hid fun m hm => by have := hm.1.len; rw [els_len]; omega
  clear hrw hg h hl q1 q2 q3 q4 q5 q6 q7 q8 hg1 hr
  unfold polV at HC0 HQ HSM ⊢
  simp only at HC0
  obtain ⟨W0, hW0⟩ : ∃ W, W = w.alloc (.cells #[.slice A1 p.els.length c1, .slice A2 p.glob.length c2, .slice A3 p.schemes.length c3, .bool p.rel, .slice A4 p.drop.length c4, .int .i64 p.depth, .int .i64 p.window] 29) := ⟨_, rfl⟩
  have hb0 : Below w.heap.size w W0 := hW0 ▸ (Below.refl _ _).alloc (Nat.le_refl _) _
  have k0 : Bl W0 w.heap.size 29 [.slice A1 p.els.length c1, .slice A2 p.glob.length c2, .slice A3 p.schemes.length c3, .bool p.rel, .slice A4 p.drop.length c4, .int .i64 p.depth, .int .i64 p.window] := hW0 ▸ Bl.new w _ _ rfl
  have hz0 := hb0.size
  have g0 := k0.cell 0 rfl
  have g1 := k0.cell 1 rfl
  have g2 := k0.cell 2 rfl
  have g3 := k0.cell 3 rfl
  have g4 := k0.cell 4 rfl
  have g5 := k0.cell 5 rfl
  have g6 := k0.cell 6 rfl
  have HX0 := Lib.hid hW0
  clear hW0
  go_enter Tryz.func9, Tryz.ntmps9
  go_upto_region 1 with fail
  rw [← HX0.out]
  go_upto_region 2 with (go_at_call 39; refine (HC0.out _ hb0).mono ?_; rintro e w1 ⟨m, D1, e1, D2, e2, D3, e3, D4, e4, hfu, rfl, ho1, hb1⟩)
  have HQ1 := Lib.hid (fun W y => HQ.out m W y hfu)
  have hlen := HBD.out m hfu
  have hlenI : ((closeP p m).els.length : Int) ≤ 9223372036854775807 := by omega
  have hcl := closed_close hfu
  have hck := check_ne hcl
  have HHE : Hid (∀ e ∈ (closeP p m).els, ∀ n ∈ needsL e.name, (fndE (closeP p m).els n).isSome = true) := Lib.hid fun e he n hn => fnd_has (List.all_eq_true.1 (List.all_eq_true.1 hcl e he) n hn)
  clear HQ HBD HC0 hcl hfu g0 g1 g2 g3 g4 g5 g6 hlen
  obtain ⟨q, hq⟩ : ∃ q, q = closeP p m := ⟨_, rfl⟩
  rw [← hq] at ho1 HQ1 hck HHE hlenI ⊢
  clear hq
  have hcI : (checkI q == 142) = false := by simpa using hck
  clear hck
  generalize checkI q = ck at *
  obtain ⟨W1, hW1⟩ : ∃ W, W = w1.alloc (.cells #[.slice D1 q.els.length e1, .slice D2 q.glob.length e2, .slice D3 q.schemes.length e3, .bool q.rel, .slice D4 q.drop.length e4, .int .i64 q.depth, .int .i64 q.window] 29) := ⟨_, rfl⟩
  have hc1 : Below W0.heap.size W0 W1 := hW1 ▸ hb1.alloc hb1.size _
  have k1 : Bl W1 w1.heap.size 29 [.slice D1 q.els.length e1, .slice D2 q.glob.length e2, .slice D3 q.schemes.length e3, .bool q.rel, .slice D4 q.drop.length e4, .int .i64 q.depth, .int .i64 q.window] := hW1 ▸ Bl.new w1 _ _ rfl
  have hz1 : w1.heap.size ≤ W1.heap.size := by rw [hW1]; simp
  have ho : RdP W1 0 w1.heap.size ⟨.slice D1 q.els.length e1, .slice D2 q.glob.length e2, .slice D3 q.schemes.length e3, .slice D4 q.drop.length e4⟩ q := ho1.stay fun j _ hj => by rw [hW1]; exact Below.heap_alloc _ _ _ hj
  have HX1 := Lib.hid hW1
  rw [← hW1]
  clear hW1 ho1
  have hw1 : Below w.heap.size w W1 := hb0.trans (hc1.mono hz0)
  have hzw := hw1.size
  have HY : Hid (∀ W, Below W1.heap.size W1 W → Below w.heap.size w W ∧ RdP W 0 W.heap.size ⟨.slice D1 q.els.length e1, .slice D2 q.glob.length e2, .slice D3 q.schemes.length e3, .slice D4 q.drop.length e4⟩ q) := Lib.hid fun W hW => ⟨hw1.trans (hW.mono hzw), (ho.stay (stay_below hW hz1)).wide (Nat.le_refl _) (Nat.le_trans hz1 hW.size)⟩
  have HK : Hid (∀ W, Below W1.heap.size W1 W → (W.cell? ⟨w1.heap.size, 0, none⟩ = some (.slice D1 q.els.length e1) ∧ W.cell? ⟨w1.heap.size, 1, none⟩ = some (.slice D2 q.glob.length e2) ∧ W.cell? ⟨w1.heap.size, 2, none⟩ = some (.slice D3 q.schemes.length e3) ∧ W.cell? ⟨w1.heap.size, 3, none⟩ = some (.bool q.rel) ∧ W.cell? ⟨w1.heap.size, 4, none⟩ = some (.slice D4 q.drop.length e4) ∧ W.cell? ⟨w1.heap.size, 5, none⟩ = some (.int .i64 q.depth) ∧ W.cell? ⟨w1.heap.size, 6, none⟩ = some (.int .i64 q.window))) := Lib.hid fun W hW => by
    have j0 := k1.below hW
    exact ⟨j0.cell 0 rfl, j0.cell 1 rfl, j0.cell 2 rfl, j0.cell 3 rfl, j0.cell 4 rfl, j0.cell 5 rfl, j0.cell 6 rfl⟩
  have h11 : Below W1.heap.size W1 W1.drew := drw W1 1
  obtain ⟨a0, a1, a2, a3, a4, a5, a6⟩ := HK.out _ (Below.refl _ _)
  have HEL0 : Hid (∀ W, Below W1.heap.size W1 W → ∀ s, Calls Tryz.prog 29 #[.agg #[.slice D1 q.els.length e1, .slice D2 q.glob.length e2, .slice D3 q.schemes.length e3, .bool q.rel, .slice D4 q.drop.length e4, .int .i64 q.depth, .int .i64 q.window], .string s] W fun e w' => ∃ n A k c, e = .returned (.tuple #[.agg #[.string n, .slice A k c], .bool (fndE q.els s).isSome]) ∧ Below W.heap.size W w') := Lib.hid fun W hW s => (HQ1.out W ⟨.slice D1 q.els.length e1, .slice D2 q.glob.length e2, .slice D3 q.schemes.length e3, .slice D4 q.drop.length e4⟩ (HY.out _ hW).1 (HY.out _ hW).2).2.2 s
  clear k0 k1 ho
  go_region_held3 (fun W' => W'.cell? ⟨w1.heap.size, 0, none⟩ = some (.slice D1 q.els.length e1) ∧ W'.cell? ⟨w1.heap.size, 1, none⟩ = some (.slice D2 q.glob.length e2) ∧ W'.cell? ⟨w1.heap.size, 2, none⟩ = some (.slice D3 q.schemes.length e3) ∧ W'.cell? ⟨w1.heap.size, 3, none⟩ = some (.bool q.rel) ∧ W'.cell? ⟨w1.heap.size, 4, none⟩ = some (.slice D4 q.drop.length e4) ∧ W'.cell? ⟨w1.heap.size, 5, none⟩ = some (.int .i64 q.depth) ∧ W'.cell? ⟨w1.heap.size, 6, none⟩ = some (.int .i64 q.window))
    (first | exact ⟨a0, a1, a2, a3, a4, a5, a6⟩ | exact HK.out _ h4 | exact HK.out _ h3 | exact HK.out _ h2)
    (first
      | (go_at_call 39; refine ((HQ1.out _ ⟨.slice D1 q.els.length e1, .slice D2 q.glob.length e2, .slice D3 q.schemes.length e3, .slice D4 q.drop.length e4⟩ (HY.out _ (by exact h11)).1 (HY.out _ (by exact h11)).2).1).mono ?_; rintro e w2 ⟨E1, f1, E2, f2, E3, f3, E4, f4, rfl, ho2, hb2⟩; have h2 : Below W1.heap.size W1 w2 := h11.trans hb2)
      | (go_at_call 23; refine (HSM.out _ q ⟨.slice E1 q.els.length f1, .slice E2 q.glob.length f2, .slice E3 q.schemes.length f3, .slice E4 q.drop.length f4⟩ ⟨.slice D1 q.els.length e1, .slice D2 q.glob.length e2, .slice D3 q.schemes.length e3, .slice D4 q.drop.length e4⟩ ho2 (HY.out _ h2).2).mono ?_; rintro e w3 ⟨rfl, hb3⟩; have h3 : Below W1.heap.size W1 w3 := h2.trans (hb3.mono h2.size))
      | (go_at_call 22; refine ((HQ1.out _ ⟨.slice D1 q.els.length e1, .slice D2 q.glob.length e2, .slice D3 q.schemes.length e3, .slice D4 q.drop.length e4⟩ (HY.out _ h3).1 (HY.out _ h3).2).2.1).mono ?_; rintro e w4 ⟨rfl, hb4⟩; have h4 : Below W1.heap.size W1 w4 := h3.trans (hb4.mono h3.size))
      | (go_at_call 16; refine (HNM.out _ ck).mono ?_; rintro e w5 ⟨rfl, rfl⟩))
  all_goals (
    obtain ⟨b0, b1', b2', b3', b4', b5', b6'⟩ := HK.out _ h4
    clear a0 a1 a2 a3 a4 a5 a6
    clear HQ1 HSM
    go_wp2
    go_loopw [26] (fun i wr => ∃ k : Nat, k ≤ q.els.length ∧ i = .int .i64 k ∧ Below W1.heap.size W1 wr) (fun i _ => q.els.length - (intOf i).toNat)
    case atStart => exact ⟨0, by omega, rfl, h4⟩
    case round =>
      clear b0 b1' b2' b3' b4' b5' b6'
      obtain ⟨k, hk, rfl, hnx⟩ := hrel
      obtain ⟨hwr, hrd⟩ := HY.out _ hnx
      have hzr := hnx.size
      by_cases hlt : k < q.els.length
      · obtain ⟨b, off, u, rfl, _, hb3', hu, hcell⟩ := fmE.rd_at hrd.1 hlt
        have x0 := hcell 0 _ rfl
        have x1 := hcell 1 _ rfl
        rw [show off + (k * fmE.size + 0) = off + k * 2 from rfl] at x0
        rw [show off + (k * fmE.size + 1) = off + k * 2 + 1 from by show off + (k * 2 + 1) = _; omega] at x1
        obtain ⟨A5, c5, rfl, _⟩ := fmR.rd_form hu
        have hk0 : (0 : Int) ≤ (k : Int) := by omega
        have hk1 : (k : Int) < (q.els.length : Int) := by omega
        have HHK := Lib.hid (HHE.out _ (List.getElem_mem hlt))
        obtain ⟨nm, hnm⟩ : ∃ nm, nm = q.els[k].name := ⟨_, rfl⟩
        rw [← hnm] at x0 HHK
        clear hcell hu hnm hrd
        go_upto_region 7 with fail
        obtain ⟨W2, hW2⟩ : ∃ W, W = wr.alloc (.cells #[.string nm, .slice A5 (fmE.sub q.els[k]).length c5] 45) := ⟨_, rfl⟩
        have hb7 : Below wr.heap.size wr W2 := hW2 ▸ (Below.refl _ _).alloc (Nat.le_refl _) _
        have k5 : Bl W2 wr.heap.size 45 [.string nm, .slice A5 (fmE.sub q.els[k]).length c5] := hW2 ▸ Bl.new wr _ _ rfl
        have y0 := k5.cell 0 rfl
        rw [← hW2]
        have HX2 := Lib.hid hW2
        clear hW2 x0 x1
        have hn2 : Below W1.heap.size W1 W2 := hnx.trans (hb7.mono hzr)
        have hw2 := (HY.out _ hn2).1
        go_wp2_with (go_at_call 42; refine (HND.out _ nm hw2).mono ?_; rintro e w6 ⟨A6, c6, G6, rfl, ho6, hb6⟩)
        have hn6 : Below W1.heap.size W1 w6 := hn2.trans (hb6.mono hn2.size)
        have HROW : Hid (kdW.rd w6 0 w6.heap.size (.slice A6 (needsL nm).length c6) (needsL nm)) := Lib.hid (kdW.read ho6 (Nat.zero_le _) (Nat.le_refl _))
        have h5 := needs_len nm
        clear ho6 y0
        go_loopw [34] (fun i wr => ∃ j : Nat, j ≤ (needsL nm).length ∧ i = .int .i64 j ∧ Below w6.heap.size w6 wr) (fun i _ => (needsL nm).length - (intOf i).toNat)
        case atStart => exact ⟨0, by omega, rfl, Below.refl _ _⟩
        case round =>
          obtain ⟨j, hj, rfl, hny⟩ := hrel
          have hn7 : Below W1.heap.size W1 wr := hn6.trans (hny.mono hn6.size)
          obtain ⟨d0, d1, d2, d3, d4, d5, d6⟩ := HK.out _ hn7
          by_cases hltj : j < (needsL nm).length
          · obtain ⟨b2, off2, rfl, _, _, hcx⟩ := rdW_at (kdW.stay HROW.out (stay_below hny (Nat.le_refl _))) hltj
            have hj0 : (0 : Int) ≤ (j : Int) := by omega
            have hj1 : (j : Int) < ((needsL nm).length : Int) := by omega
            have hfd := HHK.out _ (List.getElem_mem hltj)
            obtain ⟨y, hy⟩ : ∃ y, y = (needsL nm)[j] := ⟨_, rfl⟩
            rw [← hy] at hcx hfd
            clear hy
            have HEL := HEL0.out wr hn7 y
            rw [hfd] at HEL
            have HEL2 := Lib.hid HEL
            clear HEL hfd
            go_wp2_with (go_at_call 29; refine HEL2.out.mono ?_; rintro e w8 ⟨en, A8, k8, c8, rfl, hb8⟩)
            have hz8 := hb8.size
            go_roundw
            case rel => exact ⟨j + 1, by omega, by go_num, (hny.trans (hb8.mono hny.size)).alloc (by have h9 := hny.size; omega) _⟩
            case measure => simp [intOf] <;> omega
          · obtain rfl : j = (needsL nm).length := by omega
            go_wp2
            go_roundw
            case rel => exact ⟨k + 1, by omega, by go_num, hn7⟩
            case measure => simp [intOf] <;> omega
      · obtain rfl : k = q.els.length := by omega
        go_wp2_with (go_at_call 17; refine (HA.out _ hwr).mono ?_; rintro e w9 ⟨rfl, hb9⟩)
        go_ret
        exact ⟨rfl, hwr.trans (hb9.mono hwr.size)⟩)
end Go.Proofs.YteikagdinecfoaaGreatDoor.policyShut
