/- What a valid policy has: plain laws. And the program's Tidy. -/
import Derived.Test.YteikagdinecfoaaGreatDoorTy
import Derived.Test.YteikagdinecfoaaGreatDoorCh
set_option linter.unusedVariables false
set_option linter.unusedSimpArgs false
namespace Go.Proofs.YteikagdinecfoaaGreatDoor.Vd
open Go.RowKit Lb Gr Pd Fl Go.Proofs.YteikagdinecfoaaGreatDoor.Pm Bk Is Ru Go.Proofs.YteikagdinecfoaaGreatDoor.Co Ro Go.Proofs.YteikagdinecfoaaGreatDoor.Ck Go.Proofs.YteikagdinecfoaaGreatDoor.Lk Go.Proofs.YteikagdinecfoaaGreatDoor.Th Go.Proofs.YteikagdinecfoaaGreatDoor.Or Go.Proofs.YteikagdinecfoaaGreatDoor.Sr Go.Proofs.YteikagdinecfoaaGreatDoor.Ty Go.Proofs.YteikagdinecfoaaGreatDoor.Ch Go.Proofs.YteikagdinecfoaaGreatDoor.Er
attribute [local go_sem ↓] Go.wp_at_zero Go.wp_at_succ

theorem hasR_app (l : List RuleD) (r : RuleD) (s : ByteArray) : hasR (l ++ [r]) s = (hasR l s || decide (r.name = s)) := by simp [hasR]
theorem hasE_app (l : List ElD) (r : ElD) (s : ByteArray) : hasE (l ++ [r]) s = (hasE l s || decide (r.name = s)) := by simp [hasE]
theorem rulesFrom_facts : ∀ (r l : List RuleD), rulesFrom l r = true → (r.map RuleD.name).Nodup ∧ ∀ x ∈ r, hasR l x.name = false ∧ ∃ l', ruleB l' x = true
  | [], l, _ => by simp
  | a :: t, l, h => by
    rw [rulesFrom, Bool.and_eq_true] at h
    obtain ⟨h1, h2⟩ := rulesFrom_facts t (l ++ [a]) h.2
    have ha : hasR l a.name = false := by
      have := h.1
      unfold ruleB at this
      simp only [Bool.and_eq_true, Bool.not_eq_true'] at this
      exact this.1.1.1.1.2
    refine ⟨?_, ?_⟩
    · rw [List.map_cons, List.nodup_cons]
      refine ⟨fun hm => ?_, h1⟩
      obtain ⟨x, hx, he⟩ := List.mem_map.1 hm
      have := (h2 x hx).1
      rw [hasR_app, he] at this
      simp at this
    · intro x hx
      rcases List.mem_cons.1 hx with rfl | hx
      · exact ⟨ha, l, h.1⟩
      · have := (h2 x hx).1
        rw [hasR_app, Bool.or_eq_false_iff] at this
        exact ⟨this.1, (h2 x hx).2⟩
theorem rules_nodup {l : List RuleD} (h : rulesB l = true) : (l.map RuleD.name).Nodup := (rulesFrom_facts l [] h).1
theorem rules_each {l : List RuleD} (h : rulesB l = true) {x : RuleD} (hx : x ∈ l) : ∃ l', ruleB l' x = true := ((rulesFrom_facts l [] h).2 x hx).2
theorem elsFrom_facts : ∀ (r l : List ElD), elsFrom inA l r = 0 → (r.map ElD.name).Nodup ∧ ∀ x ∈ r, hasE l x.name = false ∧ inA x.name = true ∧ rulesB x.rules = true
  | [], l, _ => by simp
  | a :: t, l, h => by
    rw [elsFrom] at h
    by_cases h1 : inA a.name = false ∨ hasE l a.name = true
    · rw [if_pos h1] at h; omega
    · rw [if_neg h1] at h
      by_cases h2 : rulesB a.rules = false
      · rw [if_pos h2] at h; omega
      · rw [if_neg h2] at h
        obtain ⟨g1, g2⟩ := elsFrom_facts t (l ++ [a]) h
        rw [not_or] at h1
        have i1 : inA a.name = true := by simpa using h1.1
        have i2 : hasE l a.name = false := by simpa using h1.2
        have i3 : rulesB a.rules = true := by simpa using h2
        refine ⟨?_, ?_⟩
        · rw [List.map_cons, List.nodup_cons]
          refine ⟨fun hm => ?_, g1⟩
          obtain ⟨x, hx, he⟩ := List.mem_map.1 hm
          have := (g2 x hx).1
          rw [hasE_app, he] at this
          simp at this
        · intro x hx
          rcases List.mem_cons.1 hx with rfl | hx
          · exact ⟨i2, i1, i3⟩
          · have := g2 x hx
            rw [hasE_app, Bool.or_eq_false_iff] at this
            exact ⟨this.1.1, this.2⟩
theorem onceFrom_facts {ok : ByteArray → Bool} : ∀ (r l : List ByteArray), onceFrom ok l r = true → r.Nodup ∧ ∀ x ∈ r, hasT l x = false ∧ ok x = true
  | [], l, _ => by simp
  | a :: t, l, h => by
    rw [onceFrom] at h
    simp only [Bool.and_eq_true, Bool.not_eq_true'] at h
    obtain ⟨h1, h2⟩ := onceFrom_facts t (l ++ [a]) h.2
    have happ : ∀ s, hasT (l ++ [a]) s = (hasT l s || decide (a = s)) := fun s => by simp [hasT]
    refine ⟨?_, ?_⟩
    · rw [List.nodup_cons]
      refine ⟨fun hm => ?_, h1⟩
      have := (h2 a hm).1
      rw [happ] at this
      simp at this
    · intro x hx
      rcases List.mem_cons.1 hx with rfl | hx
      · exact ⟨h.1.2, h.1.1⟩
      · have := h2 x hx
        rw [happ, Bool.or_eq_false_iff] at this
        exact ⟨this.1.1, this.2⟩
theorem first_all : ∀ {l : List Int}, firstI l = 0 → ∀ x ∈ l, x = 0
  | [], _, x, hx => by cases hx
  | a :: t, h, x, hx => by
    by_cases ha : a = 0
    · rw [firstI, if_pos ha] at h
      rcases List.mem_cons.1 hx with rfl | hx
      · exact ha
      · exact first_all h x hx
    · rw [firstI, if_neg ha] at h; exact absurd h ha
structure Valid (p : PolD) : Prop where
  nodup : (p.els.map ElD.name).Nodup
  els : ∀ e ∈ p.els, inA e.name = true ∧ rulesB e.rules = true
  glob : rulesB p.glob = true
  closed : closedB p.els = true
  schemes : schOk p.schemes = true
  drop : dropOk p = true
  lim : limOk p = true
theorem valid_of {p : PolD} (h : checkI p = 0) : Valid p := by
  have ha := first_all h
  have e1 : elsI p = 0 := ha _ (by simp)
  have e2 : globI p = 0 := ha _ (by simp)
  have e3 : closI p = 0 := ha _ (by simp)
  have e4 : schI p = 0 := ha _ (by simp)
  have e5 : dropI p = 0 := ha _ (by simp)
  have e6 : limI p = 0 := ha _ (by simp)
  obtain ⟨g1, g2⟩ := elsFrom_facts p.els [] e1
  unfold globI at e2
  unfold closI at e3
  unfold schI at e4
  unfold dropI at e5
  unfold limI at e6
  refine ⟨g1, fun e he => (g2 e he).2, ?_, ?_, ?_, ?_, ?_⟩
  · by_cases h : rulesB p.glob = true
    · exact h
    · rw [if_neg h] at e2; omega
  · by_cases h : closedB p.els = true
    · exact h
    · rw [if_neg h] at e3; omega
  · by_cases h : schOk p.schemes = true
    · exact h
    · rw [if_neg h] at e4; omega
  · by_cases h : dropOk p = true
    · exact h
    · rw [if_neg h] at e5; omega
  · by_cases h : limOk p = true
    · exact h
    · rw [if_neg h] at e6; omega
theorem Valid.dif {p : PolD} (h : Valid p) : Dif p := ⟨h.nodup, fun i hi => rules_nodup (h.els _ (List.getElem_mem hi)).2, rules_nodup h.glob⟩

/-- what a policy's lists must not pass -/
structure Sized (p : PolD) : Prop where
  fit : FitP p
  ok : OkP p
  okv : OkV p
/-- no policy -/
def zeroP : PolD := ⟨[], [], [], false, [], 0, 0⟩
def zeroV : Vs := ⟨.slice none 0 0, .slice none 0 0, .slice none 0 0, .slice none 0 0⟩
theorem own_zero (w : World) (B : Nat) : OwnP w B zeroV zeroP [] :=
  ⟨[], [], [], [], fmE.own_nil w B, fmR.own_nil w B, ⟨World.ownsRow_nil _ _ _ _, rfl⟩, ⟨World.ownsRow_nil _ _ _ _, rfl⟩, rfl, by simp⟩
def tidyQ (p : PolD) : PolD := if checkI p = 0 then tidyP p else zeroP

set_option maxHeartbeats 2000000 in
set_option maxRecDepth 100000 in
theorem TidyC (x : Vs) (p : PolD) (w : World) (ht : Tab w) (hn : NevT w) (h : RdP w 0 w.heap.size x p) (hs : Sized p) : Calls Tryz.prog 20 #[polV x p] w fun e w' =>
    ∃ y F, e = .returned (.tuple #[polV y (tidyQ p), .int .i64 (checkI p)]) ∧ OwnP w' w.heap.size y (tidyQ p) F ∧ Below w.heap.size w w' := by
  obtain ⟨A1, c1, A2, c2, A3, c3, A4, c4, rfl, q1, q2, q3, q4, q5, q6, q7, q8⟩ := h.form
  obtain ⟨W0, hW0⟩ : ∃ W, W = (w.alloc (.cells #[.slice A1 p.els.length c1, .slice A2 p.glob.length c2, .slice A3 p.schemes.length c3, .bool p.rel, .slice A4 p.drop.length c4, .int .i64 p.depth, .int .i64 p.window] 29)).alloc (.cells #[.slice none 0 0, .slice none 0 0, .slice none 0 0, .bool false, .slice none 0 0, .int .i64 0, .int .i64 0] 29) := ⟨_, rfl⟩
  have hb0 : Below w.heap.size w W0 := hW0 ▸ ((Below.refl _ _).alloc (Nat.le_refl _) _).alloc (by simp) _
  have hsz0 : W0.heap.size = w.heap.size + 2 := by rw [hW0]; simp
  have k0 : Bl W0 w.heap.size 29 [.slice A1 p.els.length c1, .slice A2 p.glob.length c2, .slice A3 p.schemes.length c3, .bool p.rel, .slice A4 p.drop.length c4, .int .i64 p.depth, .int .i64 p.window] := hW0 ▸ (Bl.new w _ _ rfl).alloc _
  have k1 : Bl W0 (w.heap.size + 1) 29 [.slice none 0 0, .slice none 0 0, .slice none 0 0, .bool false, .slice none 0 0, .int .i64 0, .int .i64 0] := hW0 ▸ Bl.new _ _ _ (by simp)
  have hrd : ∀ W, Below w.heap.size w W → RdP W 0 W.heap.size ⟨.slice A1 p.els.length c1, .slice A2 p.glob.length c2, .slice A3 p.schemes.length c3, .slice A4 p.drop.length c4⟩ p := fun W hW => (h.stay (stay_below hW (Nat.le_refl _))).wide (Nat.le_refl _) hW.size
  have HCK := Lib.hid (CheckC ⟨.slice A1 p.els.length c1, .slice A2 p.glob.length c2, .slice A3 p.schemes.length c3, .slice A4 p.drop.length c4⟩ p W0 (ht.below hb0) (hn.below hb0) (hrd _ hb0) hs.ok)
  have HTD : Hid (checkI p = 0 → ∀ W, Below w.heap.size w W → Calls Tryz.prog 61 #[.agg #[.slice A1 p.els.length c1, .slice A2 p.glob.length c2, .slice A3 p.schemes.length c3, .bool p.rel, .slice A4 p.drop.length c4, .int .i64 p.depth, .int .i64 p.window]] W fun e w' => ∃ y F, e = .returned (polV y (tidyP p)) ∧ OwnP w' W.heap.size y (tidyP p) F ∧ Below W.heap.size W w') :=
    Lib.hid fun hz W hW => tidyC ⟨.slice A1 p.els.length c1, .slice A2 p.glob.length c2, .slice A3 p.schemes.length c3, .slice A4 p.drop.length c4⟩ p W (hrd W hW) hs.fit (valid_of hz).dif hs.okv
  have a0 := k0.cell 0 rfl
  have a1 := k0.cell 1 rfl
  have a2 := k0.cell 2 rfl
  have a3 := k0.cell 3 rfl
  have a4 := k0.cell 4 rfl
  have a5 := k0.cell 5 rfl
  have a6 := k0.cell 6 rfl
  have HX := Lib.hid hW0
  have HS0 := Lib.hid hsz0
  have HQ : Hid (tidyQ p = if checkI p = 0 then tidyP p else zeroP) := Lib.hid rfl
  clear h hs ht hn hrd hW0 hsz0
  unfold polV
  unfold polV at HCK
  generalize checkI p = c at *
  generalize tidyQ p = q at *
  by_cases hc : c = 0
  · have HQ2 : Hid (q = tidyP p) := Lib.hid (by rw [HQ.out, if_pos hc])
    have HTD2 : Hid (∀ W, Below w.heap.size w W → Calls Tryz.prog 61 #[.agg #[.slice A1 p.els.length c1, .slice A2 p.glob.length c2, .slice A3 p.schemes.length c3, .bool p.rel, .slice A4 p.drop.length c4, .int .i64 p.depth, .int .i64 p.window]] W fun e w' => ∃ y F, e = .returned (.agg #[y.e, y.g, y.s, .bool q.rel, y.d, .int .i64 q.depth, .int .i64 q.window]) ∧ OwnP w' W.heap.size y q F ∧ Below W.heap.size W w') := Lib.hid (by rw [HQ2.out]; exact HTD.out hc)
    subst hc
    clear HTD HQ
    go_enter Tryz.func20, Tryz.ntmps20
    go_upto_region 1 with fail
    rw [← HX.out]
    go_upto_region 2 with (go_at_call 22; refine HCK.out.mono ?_; rintro e w1 ⟨rfl, hb1⟩; have m0 := k0.below hb1; have z0 := m0.cell 0 rfl; have z1 := m0.cell 1 rfl; have z2 := m0.cell 2 rfl; have z3 := m0.cell 3 rfl; have z4 := m0.cell 4 rfl; have z5 := m0.cell 5 rfl; have z6 := m0.cell 6 rfl)
    have hb2 : Below w.heap.size w w1 := hb0.trans (hb1.mono hb0.size)
    have m1 := k1.below hb1
    go_upto_region 4 with fail
    go_wp2_with (go_at_call 61; refine (HTD2.out _ hb2).mono ?_; rintro e w2 ⟨y, F, rfl, ho, hb3⟩; obtain ⟨B1, d1, B2, d2, B3, d3, B4, d4, rfl, _⟩ := (ho.rd (lo := 0) (hi := w2.heap.size) (Nat.zero_le _) (Nat.le_refl _)).form; have n1 := m1.below hb3; obtain ⟨s0, s1, s2, s3, s4, s5, s6, s7, s8, s9, s10, s11, s12, s13⟩ := n1.store7 (.slice B1 q.els.length d1) (.slice B2 q.glob.length d2) (.slice B3 q.schemes.length d3) (.bool q.rel) (.slice B4 q.drop.length d4) (.int .i64 q.depth) (.int .i64 q.window))
    have jz := n1.seven (.slice B1 q.els.length d1) (.slice B2 q.glob.length d2) (.slice B3 q.schemes.length d3) (.bool q.rel) (.slice B4 q.drop.length d4) (.int .i64 q.depth) (.int .i64 q.window)
    have hfz := Fr.set7 w2 (w.heap.size + 1) (.slice B1 q.els.length d1) (.slice B2 q.glob.length d2) (.slice B3 q.schemes.length d3) (.bool q.rel) (.slice B4 q.drop.length d4) (.int .i64 q.depth) (.int .i64 q.window)
    refine bodyPost_ret (res_cell2 Tryz.results20 rfl jz Tryz.underlying29 rfl (by kernel_rfl)) rfl ?_
    have hz1 := hb1.size
    have hs0 := HS0.out
    have hz2 := hb2.size
    exact ⟨_, F, rfl, (ho.keep hfz.size fun x hx => hfz.block x (ho.ge x hx).2 (by have := (ho.ge x hx).1; simp; omega)).low hz2, (hb2.trans (hb3.mono hz2)).trans (hfz.below (Nat.le_trans hz2 hb3.size) (by simp))⟩
  · have hc2 : (c != 0) = true := by simpa using hc
    have HQ2 : Hid (q = zeroP) := Lib.hid (by rw [HQ.out, if_neg hc])
    clear HTD HQ
    go_enter Tryz.func20, Tryz.ntmps20
    go_upto_region 1 with fail
    rw [← HX.out]
    go_upto_region 3 with (go_at_call 22; refine HCK.out.mono ?_; rintro e w1 ⟨rfl, hb1⟩)
    have m1 := k1.below hb1
    obtain ⟨s0, s1, s2, s3, s4, s5, s6, s7, s8, s9, s10, s11, s12, s13⟩ := m1.store7 (.slice none 0 0) (.slice none 0 0) (.slice none 0 0) (.bool false) (.slice none 0 0) (.int .i64 0) (.int .i64 0)
    have jz := m1.seven (.slice none 0 0) (.slice none 0 0) (.slice none 0 0) (.bool false) (.slice none 0 0) (.int .i64 0) (.int .i64 0)
    have hfz := Fr.set7 w1 (w.heap.size + 1) (.slice none 0 0) (.slice none 0 0) (.slice none 0 0) (.bool false) (.slice none 0 0) (.int .i64 0) (.int .i64 0)
    go_wp2
    refine bodyPost_ret (res_cell2 Tryz.results20 rfl jz Tryz.underlying29 rfl (by kernel_rfl)) rfl ?_
    have hb2 : Below w.heap.size w w1 := hb0.trans (hb1.mono hb0.size)
    rw [HQ2.out]
    exact ⟨zeroV, [], rfl, own_zero _ _, hb2.trans (hfz.below hb2.size (by simp))⟩
end Go.Proofs.YteikagdinecfoaaGreatDoor.Vd
