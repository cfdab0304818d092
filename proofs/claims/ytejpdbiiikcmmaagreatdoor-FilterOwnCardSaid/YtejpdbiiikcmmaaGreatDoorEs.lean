/- The program's rule and rules: rules in new memory. -/
import Derived.Deep.RegionHeld3
import Derived.Deep.DrawnRows
import Derived.Deep.MidRow
import Derived.Test.YtejpdbiiikcmmaaGreatDoorBk
import Derived.Deep.AppendLies
import Derived.Test.YtejpdbiiikcmmaaGreatDoorCs
set_option linter.unusedVariables false
set_option linter.unusedSimpArgs false
namespace Go.Proofs.YtejpdbiiikcmmaaGreatDoor.Ru
open Go.RowKit Lb Gr Pd Fl Go.Proofs.YtejpdbiiikcmmaaGreatDoor.Pm Bk
attribute [local go_sem ↓] Go.wp_at_zero Go.wp_at_succ

set_option maxHeartbeats 2000000 in
set_option maxRecDepth 100000 in
theorem ruleC (r : RuleD) (u : Value) (w : World) (h : kdW.rd w 0 w.heap.size u r.words) (hb : r.words.length * 16 ≤ 140737488355328) : Calls Tryz.prog 133 #[ruV r u] w fun e w' =>
    ∃ u' G, e = .returned (.agg #[.string r.name, .int .i64 r.kind, u']) ∧ kdW.own w' w.heap.size u' r.words G ∧ Below w.heap.size w w' := by
  obtain ⟨A, c, rfl, hc1, hc2⟩ := rdW_form h
  have hcl : Hid (∀ W, Below w.heap.size w W → Calls Tryz.prog 70 #[.slice A r.words.length c] W fun e w' => ∃ u G, e = .returned u ∧ kdW.own w' W.heap.size u r.words G ∧ Below W.heap.size W w') :=
    Lib.hid fun W hW => libClone (kdW.wide (rd_below h hW (Nat.le_refl _)) (Nat.le_refl _) hW.size) hb
  clear h
  obtain ⟨n, k, ws⟩ := r
  have hq : Hid (ws.length = ws.length) := rfl
  unfold ruV
  go_enter Tryz.func133, Tryz.ntmps133
  go_upto_region 1 with fail
  obtain ⟨W0, hW0⟩ : ∃ W, W = (w.alloc (.cells #[.string n, .int .i64 k, .slice A ws.length c] 51)).alloc (.cells #[.string ByteArray.empty, .int .i64 0, .slice none 0 0] 51) := ⟨_, rfl⟩
  have hb0 : Below w.heap.size w W0 := hW0 ▸ ((Below.refl _ _).alloc (Nat.le_refl _) _).alloc (by simp) _
  have k1 : Bl W0 w.heap.size 51 [.string n, .int .i64 k, .slice A ws.length c] := hW0 ▸ (Bl.new w _ _ rfl).alloc _
  have k2 : Bl W0 (w.heap.size + 1) 51 [.string ByteArray.empty, .int .i64 0, .slice none 0 0] := hW0 ▸ Bl.new _ _ _ (by simp)
  have e0 := k1.cell 0 rfl
  have e1 := k1.cell 1 rfl
  have e2 := k1.cell 2 rfl
  rw [show ({ data := #[] } : ByteArray) = ByteArray.empty from rfl, ← hW0]
  have HX := Lib.hid hW0
  clear hW0
  go_region_held3 (fun W' => W'.cell? ⟨w.heap.size, 0, none⟩ = some (.string n) ∧ W'.cell? ⟨w.heap.size, 1, none⟩ = some (.int .i64 k) ∧ W'.cell? ⟨w.heap.size, 2, none⟩ = some (.slice A ws.length c))
    (first | exact ⟨e0, e1, e2⟩ | exact ⟨f0, f1, f2⟩ | exact ⟨g0, g1, g2⟩)
    (first | (go_at_call 70; refine (hcl.out _ (by exact hb0.drew)).mono ?_; rintro e w1 ⟨u, G, rfl, ho, hb1⟩; obtain ⟨A2, c2, rfl, _⟩ := own_slice ho.1; have j1 := (k1.below (w' := W0.drew) (drw W0 1)).below hb1; have j2 := (k2.below (w' := W0.drew) (drw W0 1)).below hb1; have f0 := j1.cell 0 rfl; have f1 := j1.cell 1 rfl; have f2 := j1.cell 2 rfl; obtain ⟨s0, s1, s2, s3, s4, s5⟩ := j2.store3 (.string n) (.int .i64 k) (.slice A2 ws.length c2); have j3 := j1.oth3 (g2 := w.heap.size + 1) (by omega) (.string n) (.int .i64 k) (.slice A2 ws.length c2); have j4 := j2.three (.string n) (.int .i64 k) (.slice A2 ws.length c2); have g0 := j3.cell 0 rfl; have g1 := j3.cell 1 rfl; have g2 := j3.cell 2 rfl))
  have hfr := Fr.set3 w1 (w.heap.size + 1) (.string n) (.int .i64 k) (.slice A2 ws.length c2)
  generalize ((w1.setCell ⟨w.heap.size + 1, 0, none⟩ (.string n)).setCell ⟨w.heap.size + 1, 1, none⟩ (.int .i64 k)).setCell ⟨w.heap.size + 1, 2, none⟩ (.slice A2 ws.length c2) = w2 at *
  go_wp2
  refine bodyPost_ret (res_cell Tryz.results133 rfl j4 Tryz.underlying51 rfl (by kernel_rfl)) rfl ?_
  have hsz := k2.lt
  have hb2 : Below w.heap.size w w1 := hb0.drew.trans (hb1.mono hb0.size)
  refine ⟨_, G, rfl, kdW.low (kdW.keep ho hfr.size fun x hx => hfr.block x ?_ ?_) hb0.size, hb2.trans (hfr.below hb2.size (by simp))⟩
  · exact (kdW.ge ho x hx).2
  · have h1 := (kdW.ge ho x hx).1
    have h2 : W0.drew.heap.size = W0.heap.size := rfl
    simp
    omega

/-- what a list's copy must not pass -/
def FitR (l : List RuleD) : Prop := l.length * 48 ≤ 140737488355328 ∧ ∀ i (h : i < l.length), (l[i]).words.length * 16 ≤ 140737488355328
theorem map_take {T : List (It RuleD)} {l : List RuleD} {k : Nat} (h : T.map (·.a) = l.take k) (hk : k ≤ l.length) : T.length = k := by
  have := congrArg List.length h; simp at this; omega

set_option maxHeartbeats 2000000 in
set_option maxRecDepth 100000 in
theorem rulesC (l : List RuleD) (v : Value) (w : World) (h : kdR.rd w 0 w.heap.size v l) (hf : FitR l) : Calls Tryz.prog 130 #[v] w fun e w' =>
    ∃ v' F, e = .returned v' ∧ kdR.own w' w.heap.size v' l F ∧ Below w.heap.size w w' := by
  obtain ⟨i0, hi, hz0, hz1, hz2⟩ := info_parts infoRule
  obtain ⟨A, c, rfl, hc1, hc2⟩ := fmR.rd_form h
  obtain ⟨hf1, hf2⟩ := hf
  have HR : Hid (∀ W i (hi : i < l.length) u, kdW.rd W 0 W.heap.size u l[i].words → Calls Tryz.prog 133 #[ruV l[i] u] W fun e w' => ∃ u' G, e = .returned (.agg #[.string l[i].name, .int .i64 l[i].kind, u']) ∧ kdW.own w' W.heap.size u' l[i].words G ∧ Below W.heap.size W w') :=
    Lib.hid fun W i hi u hu => ruleC l[i] u W hu (hf2 i hi)
  have HRD : Hid (∀ W, Below w.heap.size w W → kdR.rd W 0 w.heap.size (.slice A l.length c) l) := Lib.hid fun W hW => rd_below h hW (Nat.le_refl _)
  clear h hf2
  have hlen : (l.length : Int) ≤ 9223372036854775807 := by omega
  go_enter Tryz.func130, Tryz.ntmps130
  go_wp2
  go_loopw [3, 8] (fun v3 i wr => ∃ (k : Nat) (T : List (It RuleD)), k ≤ l.length ∧ i = .int .i64 k ∧ Hid (T.map (·.a) = l.take k ∧ wr.ownsRow w.heap.size 51 3 v3 T.length (fmR.cells T) ∧ (∀ t ∈ T, kdW.own wr w.heap.size t.v t.a.words t.G) ∧ (v3.ownBlock.toList ++ outG T).Nodup) ∧ Below w.heap.size w wr) (fun _ i _ => l.length - (intOf i).toNat)
  case atStart => exact ⟨0, [], by omega, rfl, Lib.hid ⟨rfl, World.ownsRow_nil _ _ _ _, by simp, by simp [Value.ownBlock, outG]⟩, Below.refl _ _⟩
  case round =>
    obtain ⟨k, T, hk, rfl, hown, hnx⟩ := hrel
    by_cases hlt : k < l.length
    · obtain ⟨b, off, u, rfl, hb1, hb2, hu, hcell⟩ := fmR.rd_at (HRD.out _ hnx) hlt
      have c0 := hcell 0 _ rfl
      have c1 := hcell 1 _ rfl
      have c2 := hcell 2 _ rfl
      rw [show off + (k * fmR.size + 0) = off + k * 3 from rfl] at c0
      rw [show off + (k * fmR.size + 1) = off + k * 3 + 1 from by show off + (k * 3 + 1) = _; omega] at c1
      rw [show off + (k * fmR.size + 2) = off + k * 3 + 2 from by show off + (k * 3 + 2) = _; omega] at c2
      obtain ⟨A1, cc1, rfl, _⟩ := rdW_form hu
      clear hcell
      have HU : Hid (∀ W, Below wr.heap.size wr W → kdW.rd W 0 W.heap.size (.slice A1 l[k].words.length cc1) l[k].words) := Lib.hid fun W hW => kdW.wide (rd_below hu hW hnx.size) (Nat.le_refl _) (Nat.le_trans hnx.size hW.size)
      have hzz := hnx.size
      have hTl := map_take hown.out.1 hk
      have g1 : T.length + 1 ≤ maxLen := by unfold maxLen; omega
      have g2 : (T.length + 1) * 48 ≤ 140737488355328 := by omega
      have HTL := Lib.hid hTl
      clear hTl
      go_wp2_with (first
        | (go_at_call 133; refine (HR.out _ k hlt (.slice A1 l[k].words.length cc1) (HU.out _ ((Below.refl _ _).alloc (Nat.le_refl _) _))).mono ?_; rintro e w2 ⟨u2, G, rfl, ho2, hb2'⟩; obtain ⟨A2, c3, rfl, _⟩ := own_slice ho2.1; have hb3 : Below wr.heap.size wr w2 := ((Below.refl _ _).alloc (Nat.le_refl _) _).trans (hb2'.mono (by simp)); have hzy := hb3.size; have how := own_stay hown.out.2.1 (w' := w2) (fun k hk => hb3.block k (own_ge2 hown.out.2.1 k hk).2))
        | (at_builtin; refine wpList_append_src _ rfl (.tmp 12) (.tmp 15) 24 rfl w.heap.size 51 i0 _ 3 48 Tryz.underlying24 hi hz0 hz1 hz2 rfl (by decide) _ _ _ rfl (how.alloc _) (some ⟨w2.heap.size, 0, none⟩) 1 1 [.string l[k].name, .int .i64 l[k].kind, .slice A2 l[k].words.length c3] rfl rfl (news_src w2 _ _) (by simp [Value.oneCell']) g1 g2 (by simp; omega) ?_; intro v9 w9 hown9 hgrow9 hrow9))
      have hp := fmR.push (t := ⟨l[k], .slice A2 l[k].words.length c3, G⟩) hown.out.2.1 hown.out.2.2.1 hown.out.2.2.2 hb3 hzz (kdW.low ho2 (by simp)) hown9 hgrow9 hrow9
      obtain ⟨T2, hT2, ho9, hs9, hF9, hn9⟩ := hp
      have hb9 : Below w.heap.size w w9 := ((hnx.trans (hb3.mono hzz)).alloc (by omega) _).grown hgrow9 (by simp; omega) (fun j hj => (hown.out.2.1.lt j hj).1)
      go_roundw
      case rel => exact ⟨k + 1, T2, by omega, by go_num, Lib.hid ⟨by rw [hT2, hown.out.1, List.take_succ_eq_append_getElem hlt], ho9, hs9, hF9 ▸ hn9⟩, hb9⟩
      case measure => simp [intOf] <;> omega
    · obtain rfl : k = l.length := by omega
      go_wp2
      go_ret
      obtain ⟨h1, h2, h3, h4⟩ := hown.out
      exact ⟨_, _, rfl, ⟨T, by rw [h1, List.take_length], h2, h3, rfl, h4⟩, hnx⟩
end Go.Proofs.YtejpdbiiikcmmaaGreatDoor.Ru

/- The program's copied: a policy in new memory. -/
set_option linter.unusedVariables false
set_option linter.unusedSimpArgs false
namespace Go.Proofs.YtejpdbiiikcmmaaGreatDoor.Co
open Go.RowKit Lb Gr Pd Fl Go.Proofs.YtejpdbiiikcmmaaGreatDoor.Pm Bk Ru
attribute [local go_sem ↓] Go.wp_at_zero Go.wp_at_succ

/-- what a list of elements, a policy must not pass to be copied -/
def FitE (l : List ElD) : Prop := l.length * 40 ≤ 140737488355328 ∧ ∀ i (h : i < l.length), FitR (l[i]).rules
def FitP (p : PolD) : Prop := FitE p.els ∧ FitR p.glob ∧ p.schemes.length * 16 ≤ 140737488355328 ∧ p.drop.length * 16 ≤ 140737488355328
theorem mapE_take {T : List (It ElD)} {l : List ElD} {k : Nat} (h : T.map (·.a) = l.take k) (hk : k ≤ l.length) : T.length = k := by
  have := congrArg List.length h; simp at this; omega

set_option maxHeartbeats 4000000 in
set_option maxRecDepth 100000 in
theorem copiedC (x : Vs) (p : PolD) (w : World) (h : RdP w 0 w.heap.size x p) (hf : FitP p) : Calls Tryz.prog 124 #[polV x p] w fun e w' =>
    ∃ y F, e = .returned (polV y p) ∧ OwnP w' w.heap.size y p F ∧ Below w.heap.size w w' := by
  obtain ⟨i0, hi, hz0, hz1, hz2⟩ := info_parts infoEl
  obtain ⟨A1, c1, A2, c2, A3, c3, A4, c4, rfl, q1, q2, q3, q4, q5, q6, q7, q8⟩ := h.form
  obtain ⟨⟨hf1, hf2⟩, hf3, hf4, hf5⟩ := hf
  have HRS : Hid (∀ W l v, kdR.rd W 0 W.heap.size v l → FitR l → Calls Tryz.prog 130 #[v] W fun e w' => ∃ v' F, e = .returned v' ∧ kdR.own w' W.heap.size v' l F ∧ Below W.heap.size W w') := Lib.hid fun W l v hv hl => rulesC l v W hv hl
  have HCL : Hid (∀ W v l, kdW.rd W 0 W.heap.size v l → l.length * 16 ≤ 140737488355328 → Calls Tryz.prog 70 #[v] W fun e w' => ∃ u G, e = .returned u ∧ kdW.own w' W.heap.size u l G ∧ Below W.heap.size W w') := Lib.hid fun W v l hv hl => libClone hv hl
  have HRD : Hid (∀ W, Below w.heap.size w W → RdP W 0 w.heap.size ⟨.slice A1 p.els.length c1, .slice A2 p.glob.length c2, .slice A3 p.schemes.length c3, .slice A4 p.drop.length c4⟩ p) := Lib.hid fun W hW => h.stay (stay_below hW (Nat.le_refl _))
  have HF2 := Lib.hid hf2
  have HF3 := Lib.hid hf3
  clear h hf2 hf3
  unfold polV
  go_enter Tryz.func124, Tryz.ntmps124
  go_wp2
  go_loopw [11] (fun i wr => ∃ (k : Nat) (v0 : Value) (T : List (It ElD)), k ≤ p.els.length ∧ i = .int .i64 k ∧ Hid (T.map (·.a) = p.els.take k ∧ wr.ownsRow (w.heap.size + 3) 59 2 v0 T.length (fmE.cells T) ∧ (∀ t ∈ T, kdR.own wr (w.heap.size + 3) t.v t.a.rules t.G) ∧ (v0.ownBlock.toList ++ outG T).Nodup) ∧
    Bl wr w.heap.size 27 [.slice A1 p.els.length c1, .slice A2 p.glob.length c2, .slice A3 p.schemes.length c3, .bool p.rel, .slice A4 p.drop.length c4, .int .i64 p.depth, .int .i64 p.window] ∧
    Bl wr (w.heap.size + 1) 27 [.slice none 0 0, .slice none 0 0, .slice none 0 0, .bool false, .slice none 0 0, .int .i64 0, .int .i64 0] ∧
    Bl wr (w.heap.size + 2) 27 [v0, .slice A2 p.glob.length c2, .slice A3 p.schemes.length c3, .bool p.rel, .slice A4 p.drop.length c4, .int .i64 p.depth, .int .i64 p.window] ∧ Below w.heap.size w wr) (fun i _ => p.els.length - (intOf i).toNat)
  case atStart =>
    refine ⟨0, _, [], by omega, rfl, Lib.hid ⟨rfl, World.ownsRow_nil _ _ _ _, by simp, by simp [Value.ownBlock, outG]⟩, ((Bl.new w _ _ rfl).alloc _).alloc _, (Bl.new _ _ _ (by simp)).alloc _, Bl.new _ _ _ (by simp), (((Below.refl _ _).alloc (Nat.le_refl _) _).alloc (by simp) _).alloc (by simp; omega) _⟩
  case round =>
    obtain ⟨k, v0, T, hk, rfl, hown, m1, m2, m3, hnx⟩ := hrel
    by_cases hlt : k < p.els.length
    · obtain ⟨b, off, u, rfl, hb1, hb2, hu, hcell⟩ := fmE.rd_at (HRD.out _ hnx).1 hlt
      have e0 := hcell 0 _ rfl
      have e1 := hcell 1 _ rfl
      rw [show off + (k * fmE.size + 0) = off + k * 2 from rfl] at e0
      rw [show off + (k * fmE.size + 1) = off + k * 2 + 1 from by show off + (k * 2 + 1) = _; omega] at e1
      obtain ⟨A5, c5, rfl, _⟩ := fmR.rd_form hu
      clear hcell
      have HU : Hid (∀ W, Below wr.heap.size wr W → kdR.rd W 0 W.heap.size (.slice A5 p.els[k].rules.length c5) p.els[k].rules) := Lib.hid fun W hW => kdR.wide (rd_below hu hW hnx.size) (Nat.le_refl _) (Nat.le_trans hnx.size hW.size)
      have hzz := hnx.size
      have hTl := mapE_take hown.out.1 hk
      have g1 : T.length + 1 ≤ maxLen := by unfold maxLen; omega
      have g2 : (T.length + 1) * 40 ≤ 140737488355328 := by omega
      have HTL := Lib.hid hTl
      clear hTl
      go_upto_region 6 with fail
      obtain ⟨W0, hW0⟩ : ∃ W, W = wr.alloc (.cells #[.string p.els[k].name, .slice A5 (fmE.sub p.els[k]).length c5] 59) := ⟨_, rfl⟩
      have hb0 : Below wr.heap.size wr W0 := hW0 ▸ (Below.refl _ _).alloc (Nat.le_refl _) _
      have k5 : Bl W0 wr.heap.size 59 [.string p.els[k].name, .slice A5 (fmE.sub p.els[k]).length c5] := hW0 ▸ Bl.new wr _ _ rfl
      have n3 := m3.below hb0
      have x0 := n3.cell 0 rfl
      have y0 := k5.cell 0 rfl
      have y1 := k5.cell 1 rfl
      have hm3 := m3.lt
      rw [← hW0]
      have HX := Lib.hid hW0
      clear hW0
      have how := hown.out.2.1
      go_region_law (first
          | (go_simp; go_at_call 130; refine (HRS.out _ p.els[k].rules (.slice A5 p.els[k].rules.length c5) (by exact HU.out _ hb0.drew) (HF2.out k hlt)).mono ?_; rintro e w2 ⟨u2, G, rfl, ho2, hb2'⟩; obtain ⟨A6, c6, rfl, _⟩ := fmR.own_form ho2; have hb3 : Below wr.heap.size wr w2 := hb0.drew.trans (hb2'.mono hb0.size); have hzy := hb3.size; have k6 := (k5.below (w' := W0.drew) (drw W0 1)).below hb2'; have z0 := k6.cell 0 rfl; have z1 := k6.cell 1 rfl; have n6 := (n3.below (w' := W0.drew) (drw W0 1)).below hb2'; have x1 := n6.cell 0 rfl; have k7 := k6.alloc (.cells #[.string p.els[k].name, .slice A6 p.els[k].rules.length c6] 59); have z2 := k7.cell 0 rfl; have z3 := k7.cell 1 rfl; have n7 := n6.alloc (.cells #[.string p.els[k].name, .slice A6 p.els[k].rules.length c6] 59); have x2 := n7.cell 0 rfl; have how2 := own_stay how (w' := w2) (fun k hk => hb3.block k (own_ge2 how k hk).2))
          | (refine step_append_lies _ (by rfl) (.tmp 16) (.tmp 23) 23 (by rfl) (w.heap.size + 3) 59 i0 _ 2 40 Tryz.underlying23 hi hz0 hz1 hz2 rfl (by decide) v0 T.length (fmE.cells T) (by rfl) (by exact how2.alloc _) ⟨w2.heap.size, 0, none⟩ 1 1 [.string p.els[k].name, .slice A6 p.els[k].rules.length c6] (by rfl) (by rfl) (by exact World.news_of_block (heap_alloc_new w2 _)) (by simp [Value.oneCell']) (by decide) g1 g2 (by simp; omega) _ rfl ?_; intro g9 cap9 w9 hown9 hgrow9 hat9 hlt9; have n9 := n7.of (hgrow9.block _ (by simp; omega) (fun e => by have := (how.lt _ e.symm).1; omega)); have k9 := k7.of (hgrow9.block _ (by simp; omega) (fun e => by have := (how.lt _ e.symm).2; omega)); have z4 := k9.cell 0 rfl; have z5 := k9.cell 1 rfl; have x3 := n9.cell 0 rfl; have x4 := n9.fz 0; have k10 := k9.other (p := ⟨w.heap.size + 2, 0, none⟩) (by show wr.heap.size ≠ w.heap.size + 2; omega) (.slice (some ⟨g9, 0, none⟩) (T.length + 1) cap9); have z6 := k10.cell 0 rfl; have z7 := k10.cell 1 rfl))
      all_goals (
        have hp := fmE.push (t := ⟨p.els[k], .slice A6 p.els[k].rules.length c6, G⟩) how hown.out.2.2.1 hown.out.2.2.2 hb3 (by omega) (kdR.low ho2 hb0.size) hown9 hgrow9 (hat9.elim (fun h => .inl h.symm) (fun h => .inr (congrArg some h)))
        obtain ⟨F9, hF9⟩ : ∃ F, F = (Value.slice (some ⟨g9, 0, none⟩) (T.length + 1) cap9).ownBlock.toList ++ outG (T ++ [⟨p.els[k], .slice A6 p.els[k].rules.length c6, G⟩]) := ⟨_, rfl⟩
        rw [← hF9] at hp
        have hgr : ∀ j, j < wr.heap.size → v0.ownBlock ≠ some j → w9.heap[j]? = wr.heap[j]? := fun j hj hn => (hgrow9.block j (by simp; omega) (fun e => hn e.symm)).trans ((Below.heap_alloc w2 _ j (by omega)).trans (hb3.block j hj))
        have hnb : ∀ j, j < w.heap.size + 3 → v0.ownBlock ≠ some j := fun j hj e => by have := (how.lt _ e).1; omega
        have m1' := (m1.of (hgr _ m1.lt (hnb _ (by omega)))).other (p := ⟨w.heap.size + 2, 0, none⟩) (by show w.heap.size ≠ w.heap.size + 2; omega) (.slice (some ⟨g9, 0, none⟩) (T.length + 1) cap9)
        have m2' := (m2.of (hgr _ m2.lt (hnb _ (by omega)))).other (p := ⟨w.heap.size + 2, 0, none⟩) (by show w.heap.size + 1 ≠ w.heap.size + 2; omega) (.slice (some ⟨g9, 0, none⟩) (T.length + 1) cap9)
        have m3' := n9.set 0 (.slice (some ⟨g9, 0, none⟩) (T.length + 1) cap9)
        have hp' := kdE.keep (w' := w9.setCell ⟨w.heap.size + 2, 0, none⟩ (.slice (some ⟨g9, 0, none⟩) (T.length + 1) cap9)) hp (by simp [World.setCell]) (fun j hj => Below.heap_setCell _ _ _ _ (by have := (kdE.ge hp j hj).1; show j ≠ w.heap.size + 2; omega))
        obtain ⟨T2, hT2, ho9, hs9, hF9', hn9⟩ := hp'
        have hb9 : Below w.heap.size w (w9.setCell ⟨w.heap.size + 2, 0, none⟩ (.slice (some ⟨g9, 0, none⟩) (T.length + 1) cap9)) := (((hnx.trans (hb3.mono hzz)).alloc (by omega) _).grown hgrow9 (by simp; omega) (fun j hj => by have := (how.lt j hj).1; omega)).setCell (p := ⟨w.heap.size + 2, 0, none⟩) (by show w.heap.size ≤ w.heap.size + 2; omega) _
        have hrel : Hid (T2.map (·.a) = p.els.take (k + 1) ∧ (w9.setCell ⟨w.heap.size + 2, 0, none⟩ (.slice (some ⟨g9, 0, none⟩) (T.length + 1) cap9)).ownsRow (w.heap.size + 3) 59 2 (.slice (some ⟨g9, 0, none⟩) (T.length + 1) cap9) T2.length (fmE.cells T2) ∧ (∀ t ∈ T2, kdR.own (w9.setCell ⟨w.heap.size + 2, 0, none⟩ (.slice (some ⟨g9, 0, none⟩) (T.length + 1) cap9)) (w.heap.size + 3) t.v t.a.rules t.G) ∧ ((Value.slice (some ⟨g9, 0, none⟩) (T.length + 1) cap9).ownBlock.toList ++ outG T2).Nodup) :=
          Lib.hid ⟨by rw [hT2, hown.out.1, List.take_succ_eq_append_getElem hlt], ho9, hs9, hF9' ▸ hn9⟩
        clear hp hF9 hgr hnb ho9 hs9 hF9' hn9 hT2 hown9 hgrow9 hat9 how how2 ho2 n9 n7 n6 k6 k7 k9 k10 x0 x1 x2 x3 x4 y0 y1 z0 z1 z2 z3 z4 z5 z6 z7
        go_wp2
        go_roundw
        case rel => exact ⟨k + 1, _, T2, by omega, by go_num, hrel, m1', m2', m3', hb9⟩
        case measure => simp [intOf] <;> omega)
    · obtain rfl : k = p.els.length := by omega
      have l1 := m1.cell 1 rfl
      have hG : kdR.rd wr 0 wr.heap.size (.slice A2 p.glob.length c2) p.glob := kdR.wide (HRD.out _ hnx).2.1 (Nat.le_refl _) hnx.size
      have hzz := hnx.size
      have hm3 := m3.lt
      go_upto_region 9 with (go_at_call 130; refine (HRS.out _ p.glob (.slice A2 p.glob.length c2) hG HF3.out).mono ?_; rintro e wa ⟨ua, Ga, rfl, hoa, hba⟩; obtain ⟨Aa, ca, rfl, _⟩ := fmR.own_form hoa; have a1 := m1.below hba; have a2 := m2.below hba; have a3 := m3.below hba; have s0 := a3.cell 1 rfl; have s1 := a3.fz 1)
      have b1 := a1.other (p := ⟨w.heap.size + 2, 1, none⟩) (by show w.heap.size ≠ w.heap.size + 2; omega) (.slice Aa p.glob.length ca)
      have b2 := a2.other (p := ⟨w.heap.size + 2, 1, none⟩) (by show w.heap.size + 1 ≠ w.heap.size + 2; omega) (.slice Aa p.glob.length ca)
      have b3 := a3.set 1 (.slice Aa p.glob.length ca)
      have hfa : Fr [w.heap.size + 2] wa (wa.setCell ⟨w.heap.size + 2, 1, none⟩ (.slice Aa p.glob.length ca)) := Fr.setCell _ _ _ (.inl (by simp))
      obtain ⟨wb, hwb⟩ : ∃ W, W = wa.setCell ⟨w.heap.size + 2, 1, none⟩ (.slice Aa p.glob.length ca) := ⟨_, rfl⟩
      have hwb' : wa.setCell ⟨w.heap.size + 1 + 1, 1, none⟩ (.slice Aa p.glob.length ca) = wb := hwb.symm
      rw [← hwb] at b1 b2 b3 hfa
      rw [hwb']
      have HWB := Lib.hid hwb
      clear hwb hwb'
      have hbb : Below w.heap.size w wb := (hnx.trans (hba.mono hzz)).trans (hfa.below (Nat.le_trans hzz hba.size) (by simp))
      have l2 := b1.cell 2 rfl
      have hS : kdW.rd wb 0 wb.heap.size (.slice A3 p.schemes.length c3) p.schemes := kdW.wide (HRD.out _ hbb).2.2.1 (Nat.le_refl _) hbb.size
      go_upto_region 10 with (go_at_call 70; refine (HCL.out _ (.slice A3 p.schemes.length c3) p.schemes hS hf4).mono ?_; rintro e wc ⟨uc, Gc, rfl, hoc, hbc⟩; obtain ⟨Ac, cc, rfl, _⟩ := own_slice hoc.1; have d1 := b1.below hbc; have d2 := b2.below hbc; have d3 := b3.below hbc; have t0 := d3.cell 2 rfl; have t1 := d3.fz 2)
      have e1 := d1.other (p := ⟨w.heap.size + 2, 2, none⟩) (by show w.heap.size ≠ w.heap.size + 2; omega) (.slice Ac p.schemes.length cc)
      have e2 := d2.other (p := ⟨w.heap.size + 2, 2, none⟩) (by show w.heap.size + 1 ≠ w.heap.size + 2; omega) (.slice Ac p.schemes.length cc)
      have e3 := d3.set 2 (.slice Ac p.schemes.length cc)
      have hfc : Fr [w.heap.size + 2] wc (wc.setCell ⟨w.heap.size + 2, 2, none⟩ (.slice Ac p.schemes.length cc)) := Fr.setCell _ _ _ (.inl (by simp))
      obtain ⟨wd, hwd⟩ : ∃ W, W = wc.setCell ⟨w.heap.size + 2, 2, none⟩ (.slice Ac p.schemes.length cc) := ⟨_, rfl⟩
      have hwd' : wc.setCell ⟨w.heap.size + 1 + 1, 2, none⟩ (.slice Ac p.schemes.length cc) = wd := hwd.symm
      rw [← hwd] at e1 e2 e3 hfc
      rw [hwd']
      have HWD := Lib.hid hwd
      clear hwd hwd'
      have hzb := hbb.size
      have hbd : Below w.heap.size w wd := (hbb.trans (hbc.mono hzb)).trans (hfc.below (Nat.le_trans hzb hbc.size) (by simp))
      have l4 := e1.cell 4 rfl
      have hD : kdW.rd wd 0 wd.heap.size (.slice A4 p.drop.length c4) p.drop := kdW.wide (HRD.out _ hbd).2.2.2 (Nat.le_refl _) hbd.size
      go_upto_region 11 with (go_at_call 70; refine (HCL.out _ (.slice A4 p.drop.length c4) p.drop hD hf5).mono ?_; rintro e we ⟨ue, Ge, rfl, hoe, hbe⟩; obtain ⟨Ae, ce, rfl, _⟩ := own_slice hoe.1; have g1 := e1.below hbe; have g2 := e2.below hbe; have g3 := e3.below hbe; have v1 := g3.cell 4 rfl; have v2 := g3.fz 4)
      have j2 := g2.other (p := ⟨w.heap.size + 2, 4, none⟩) (by show w.heap.size + 1 ≠ w.heap.size + 2; omega) (.slice Ae p.drop.length ce)
      have j3 := g3.set 4 (.slice Ae p.drop.length ce)
      have hfe : Fr [w.heap.size + 2] we (we.setCell ⟨w.heap.size + 2, 4, none⟩ (.slice Ae p.drop.length ce)) := Fr.setCell _ _ _ (.inl (by simp))
      obtain ⟨wf, hwf⟩ : ∃ W, W = we.setCell ⟨w.heap.size + 2, 4, none⟩ (.slice Ae p.drop.length ce) := ⟨_, rfl⟩
      have hwf' : we.setCell ⟨w.heap.size + 1 + 1, 4, none⟩ (.slice Ae p.drop.length ce) = wf := hwf.symm
      rw [← hwf] at j2 j3 hfe
      rw [hwf']
      have HWF := Lib.hid hwf
      clear hwf hwf'
      obtain ⟨h1, h2, h3, h4⟩ := hown.out
      obtain ⟨A0, c0, rfl, _⟩ := own_slice h2
      have r0 := j3.cell 0 rfl
      have r1 := j3.cell 1 rfl
      have r2 := j3.cell 2 rfl
      have r3 := j3.cell 3 rfl
      have r4 := j3.cell 4 rfl
      have r5 := j3.cell 5 rfl
      have r6 := j3.cell 6 rfl
      obtain ⟨s0, s1, s2, s3, s4, s5, s6, s7, s8, s9, s10, s11, s12, s13⟩ := j2.store7 (.slice A0 T.length c0) (.slice Aa p.glob.length ca) (.slice Ac p.schemes.length cc) (.bool p.rel) (.slice Ae p.drop.length ce) (.int .i64 p.depth) (.int .i64 p.window)
      have jz := j2.seven (.slice A0 T.length c0) (.slice Aa p.glob.length ca) (.slice Ac p.schemes.length cc) (.bool p.rel) (.slice Ae p.drop.length ce) (.int .i64 p.depth) (.int .i64 p.window)
      have hfz := Fr.set7 wf (w.heap.size + 1) (.slice A0 T.length c0) (.slice Aa p.glob.length ca) (.slice Ac p.schemes.length cc) (.bool p.rel) (.slice Ae p.drop.length ce) (.int .i64 p.depth) (.int .i64 p.window)
      have y4 : Fr [w.heap.size + 1, w.heap.size + 2] we _ := (hfe.mono (by simp)).trans (hfz.mono (by simp))
      have y3 : Fr [w.heap.size + 1, w.heap.size + 2] wc _ := ((hfc.mono (by simp)).trans (Fr.of_below hbe)).trans y4
      have y2 : Fr [w.heap.size + 1, w.heap.size + 2] wa _ := ((hfa.mono (by simp)).trans (Fr.of_below hbc)).trans y3
      have y1 : Fr [w.heap.size + 1, w.heap.size + 2] wr _ := (Fr.of_below hba).trans y2
      have hE : kdE.own wr (w.heap.size + 3) (.slice A0 T.length c0) p.els _ := ⟨T, by rw [h1, List.take_length], h2, h3, rfl, h4⟩
      go_wp2
      refine bodyPost_ret (res_cell Tryz.results124 rfl jz Tryz.underlying27 rfl (by kernel_rfl)) rfl ?_
      have z1 := hba.size
      have z2 := hfa.size
      have z3 := hbc.size
      have z4 := hfc.size
      have q1 := kdE.keep hE y1.size fun k hk => y1.block k (kdE.ge hE k hk).2 (by have := (kdE.ge hE k hk).1; simp; omega)
      have q2 := kdR.keep hoa y2.size fun k hk => y2.block k (kdR.ge hoa k hk).2 (by have := (kdR.ge hoa k hk).1; simp; omega)
      have q3 := kdW.keep hoc y3.size fun k hk => y3.block k (kdW.ge hoc k hk).2 (by have := (kdW.ge hoc k hk).1; simp; omega)
      have q4 := kdW.keep hoe y4.size fun k hk => y4.block k (kdW.ge hoe k hk).2 (by have := (kdW.ge hoe k hk).1; simp; omega)
      refine ⟨⟨.slice A0 T.length c0, .slice Aa p.glob.length ca, .slice Ac p.schemes.length cc, .slice Ae p.drop.length ce⟩, _, rfl, ⟨_, _, _, _, kdE.low q1 (by omega), kdR.low q2 (by omega), kdW.low q3 (by omega), kdW.low q4 (by omega), rfl, ?_⟩, ?_⟩
      · refine nod wr.heap.size (kdE.nodup hE) (nod wb.heap.size (kdR.nodup hoa) (nod wd.heap.size (kdW.nodup hoc) (kdW.nodup hoe) ?_ ?_) ?_ ?_) (fun k hk => (kdE.ge hE k hk).2) ?_
        · intro k hk; have := (kdW.ge hoc k hk).2; omega
        · intro k hk; exact (kdW.ge hoe k hk).1
        · intro k hk; have := (kdR.ge hoa k hk).2; omega
        · intro k hk
          rcases List.mem_append.1 hk with hk | hk
          · exact (kdW.ge hoc k hk).1
          · have := (kdW.ge hoe k hk).1; omega
        · intro k hk
          rcases List.mem_append.1 hk with hk | hk
          · exact (kdR.ge hoa k hk).1
          · rcases List.mem_append.1 hk with hk | hk
            · have := (kdW.ge hoc k hk).1; omega
            · have := (kdW.ge hoe k hk).1; omega
      · exact hnx.trans (y1.below hzz (by simp))
end Go.Proofs.YtejpdbiiikcmmaaGreatDoor.Co

/- The program's elements: elements by their names, with the rules of some. -/
set_option linter.unusedVariables false
set_option linter.unusedSimpArgs false
namespace Go.Proofs.YtejpdbiiikcmmaaGreatDoor.Es
open Go.RowKit Lb Gr Pd Fl Go.Proofs.YtejpdbiiikcmmaaGreatDoor.Pm Bk Ru Go.Proofs.YtejpdbiiikcmmaaGreatDoor.Mp
attribute [local go_sem ↓] Go.wp_at_zero Go.wp_at_succ

theorem lookNil (w : World) (s : ByteArray) : (Instr.lookup 165 (.map none) (.string s) false).run Tryz.prog w = .ok (.slice none 0 0) w := by
  have h := Tryz.underlying165
  have hk : Tryz.prog.underlying 9 = some .string := Tryz.underlying9
  have hc := MapKept.run_checkKey (P := Tryz.prog) (w := w) (k := .string s) hk (by trivial) true 9999
  have hf : (Instr.findKey 9 (.string s) []).run Tryz.prog w = .ok none w := MapKept.run_findKey hk rfl
  simp [Instr.lookup, run_underlying h, hc, hf, Tryz.zeroValue24, Result.andThen]

/-- what the elements of a list of names are -/
def elsOf (rl : ByteArray → List RuleD) (l : List ByteArray) : List ElD := l.map fun n => ⟨n, rl n⟩
theorem mapE_len {T : List (It ElD)} {l : List ElD} {k : Nat} (h : T.map (·.a) = l.take k) (hk : k ≤ l.length) : T.length = k := by
  have := congrArg List.length h; simp at this; omega
set_option maxHeartbeats 4000000 in
set_option maxRecDepth 100000 in
theorem elementsC (l : List ByteArray) (A : Option Addr) (n c : Nat) (mp : Value) (rl : ByteArray → List RuleD) (vl : ByteArray → Value) (w : World) (h : kdW.rd w 0 w.heap.size (.slice A n c) l) (hb : l.length * 40 ≤ 140737488355328)
    (hlk : ∀ W, Below w.heap.size w W → ∀ s, (Instr.lookup 165 mp (.string s) false).run Tryz.prog W = .ok (vl s) W) (hrl : ∀ s, kdR.rd w 0 w.heap.size (vl s) (rl s)) :
    Calls Tryz.prog 146 #[.slice A n c, mp] w fun e w' => ∃ v, e = .returned v ∧ kdE.rd w' 0 w'.heap.size v (elsOf rl l) ∧ Below w.heap.size w w' := by
  obtain ⟨i0, hi, hz0, hz1, hz2⟩ := info_parts infoEl
  have hn : n = l.length := by obtain ⟨_, _, hv, _⟩ := h; injection hv
  subst hn
  have HRD : Hid (∀ W, Below w.heap.size w W → kdW.rd W 0 w.heap.size (.slice A l.length c) l) := Lib.hid fun W hW => rd_below h hW (Nat.le_refl _)
  have HLK := Lib.hid hlk
  have HRL := Lib.hid hrl
  have hlen : (l.length : Int) ≤ 9223372036854775807 := by omega
  have hel : Hid ((elsOf rl l).length = l.length) := Lib.hid (by simp [elsOf])
  clear h hlk hrl
  go_enter Tryz.func146, Tryz.ntmps146
  go_wp2
  go_loopw [5, 10] (fun v5 i wr => ∃ (k : Nat) (T : List (It ElD)), k ≤ l.length ∧ i = .int .i64 k ∧ Hid (T.map (·.a) = (elsOf rl l).take k ∧ wr.ownsRow w.heap.size 59 2 v5 T.length (fmE.cells T) ∧ (∀ t ∈ T, t.v = vl t.a.name ∧ t.a.rules = rl t.a.name)) ∧ Below w.heap.size w wr) (fun _ i _ => l.length - (intOf i).toNat)
  case atStart => exact ⟨0, [], by omega, rfl, Lib.hid ⟨rfl, World.ownsRow_nil _ _ _ _, by simp⟩, Below.refl _ _⟩
  case round =>
    obtain ⟨k, T, hk, rfl, hown, hnx⟩ := hrel
    by_cases hlt : k < l.length
    · obtain ⟨b, off, rfl, hb1, hb2, hcell⟩ := rdW_at (HRD.out _ hnx) hlt
      have hzz := hnx.size
      have hTl := mapE_len hown.out.1 (by rw [hel.out]; exact hk)
      have g1 : T.length + 1 ≤ maxLen := by unfold maxLen; omega
      have g2 : (T.length + 1) * 40 ≤ 140737488355328 := by omega
      have HTL := Lib.hid hTl
      have hlk := HLK.out wr hnx l[k]
      have hvr := HRL.out l[k]
      obtain ⟨A1, c1, hv1, _⟩ := fmR.rd_form hvr
      obtain ⟨s, hs⟩ : ∃ s, s = l[k] := ⟨_, rfl⟩
      rw [← hs] at hcell hlk hv1
      rw [hv1] at hlk
      have HS := Lib.hid hs
      have HV1 := Lib.hid hv1
      have how := hown.out.2.1
      clear hTl hv1 hvr hs
      generalize (rl s).length = m at *
      go_wp2_with (first
        | (at_builtin; refine wpList_append_src _ rfl (.tmp 14) (.tmp 20) 23 rfl w.heap.size 59 i0 _ 2 40 Tryz.underlying23 hi hz0 hz1 hz2 rfl (by decide) _ _ _ rfl (how.alloc _) (some ⟨wr.heap.size, 0, none⟩) 1 1 [.string s, .slice A1 m c1] rfl rfl (news_src wr _ _) (by simp [Value.oneCell']) g1 g2 (by simp; omega) ?_; intro v9 w9 hown9 hgrow9 hrow9))
      have hb9 : Below w.heap.size w w9 := (hnx.alloc hzz _).grown hgrow9 (by simp; omega) (fun j hj => (how.lt j hj).1)
      obtain ⟨T2, hT2⟩ : ∃ T2 : List (It ElD), T2 = T ++ [⟨⟨s, rl s⟩, .slice A1 m c1, []⟩] := ⟨_, rfl⟩
      have hrel2 : Hid (T2.map (·.a) = (elsOf rl l).take (k + 1) ∧ w9.ownsRow w.heap.size 59 2 v9 T2.length (fmE.cells T2) ∧ (∀ t ∈ T2, t.v = vl t.a.name ∧ t.a.rules = rl t.a.name)) := Lib.hid (by
        subst hT2
        refine ⟨?_, ?_, ?_⟩
        · rw [List.map_append, hown.out.1, List.take_succ_eq_append_getElem (by rw [hel.out]; exact hlt)]
          simp [elsOf, HS.out]
        · rw [List.length_append, fmE.cells_app, fmE.cells_one]
          exact hown9
        · intro t ht
          rcases List.mem_append.1 ht with ht | ht
          · exact hown.out.2.2 t ht
          · simp at ht
            subst ht
            exact ⟨HV1.out.symm, rfl⟩)
      clear hT2
      clear hlk how hown9 hgrow9 hrow9
      go_roundw
      case rel => exact ⟨k + 1, T2, by omega, by go_num, hrel2, hb9⟩
      case measure => simp [intOf] <;> omega
    · obtain rfl : k = l.length := by omega
      go_wp2
      go_ret
      obtain ⟨h1, h2, h3⟩ := hown.out
      rw [← hel.out, List.take_length] at h1
      refine ⟨_, rfl, ⟨T, h1, Sl2.of_own h2 (Nat.zero_le _) (Nat.le_refl _), fun t ht => ?_⟩, hnx⟩
      have h5 := kdR.wide (rd_below (HRL.out t.a.name) hnx (Nat.le_refl _)) (Nat.le_refl 0) hnx.size
      rw [← (h3 t ht).1] at h5
      show kdR.rd wr 0 wr.heap.size t.v t.a.rules
      rw [(h3 t ht).2]
      exact h5
end Go.Proofs.YtejpdbiiikcmmaaGreatDoor.Es
