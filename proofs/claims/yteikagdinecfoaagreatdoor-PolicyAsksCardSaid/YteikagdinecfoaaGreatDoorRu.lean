/- The program's rule and rules: rules in new memory. -/
import Derived.Deep.RegionHeld3
import Derived.Deep.DrawnRows
import Derived.Deep.MidRow
import Derived.Test.YteikagdinecfoaaGreatDoorPm
import Derived.Test.YteikagdinecfoaaGreatDoorBk
set_option linter.unusedVariables false
set_option linter.unusedSimpArgs false
namespace Go.Proofs.YteikagdinecfoaaGreatDoor.Ru
open Go.RowKit Lb Gr Pd Fl Go.Proofs.YteikagdinecfoaaGreatDoor.Pm Bk
attribute [local go_sem ↓] Go.wp_at_zero Go.wp_at_succ

set_option maxHeartbeats 2000000 in
set_option maxRecDepth 100000 in
theorem ruleC (r : RuleD) (u : Value) (w : World) (h : kdW.rd w 0 w.heap.size u r.words) (hb : r.words.length * 16 ≤ 140737488355328) : Calls Tryz.prog 85 #[ruV r u] w fun e w' =>
    ∃ u' G, e = .returned (.agg #[.string r.name, .int .i64 r.kind, u']) ∧ kdW.own w' w.heap.size u' r.words G ∧ Below w.heap.size w w' := by
  obtain ⟨A, c, rfl, hc1, hc2⟩ := rdW_form h
  have hcl : Hid (∀ W, Below w.heap.size w W → Calls Tryz.prog 94 #[.slice A r.words.length c] W fun e w' => ∃ u G, e = .returned u ∧ kdW.own w' W.heap.size u r.words G ∧ Below W.heap.size W w') :=
    Lib.hid fun W hW => libClone (kdW.wide (rd_below h hW (Nat.le_refl _)) (Nat.le_refl _) hW.size) hb
  clear h
  obtain ⟨n, k, ws⟩ := r
  have hq : Hid (ws.length = ws.length) := rfl
  unfold ruV
  go_enter Tryz.func85, Tryz.ntmps85
  go_upto_region 1 with fail
  obtain ⟨W0, hW0⟩ : ∃ W, W = (w.alloc (.cells #[.string n, .int .i64 k, .slice A ws.length c] 50)).alloc (.cells #[.string ByteArray.empty, .int .i64 0, .slice none 0 0] 50) := ⟨_, rfl⟩
  have hb0 : Below w.heap.size w W0 := hW0 ▸ ((Below.refl _ _).alloc (Nat.le_refl _) _).alloc (by simp) _
  have k1 : Bl W0 w.heap.size 50 [.string n, .int .i64 k, .slice A ws.length c] := hW0 ▸ (Bl.new w _ _ rfl).alloc _
  have k2 : Bl W0 (w.heap.size + 1) 50 [.string ByteArray.empty, .int .i64 0, .slice none 0 0] := hW0 ▸ Bl.new _ _ _ (by simp)
  have e0 := k1.cell 0 rfl
  have e1 := k1.cell 1 rfl
  have e2 := k1.cell 2 rfl
  rw [show ({ data := #[] } : ByteArray) = ByteArray.empty from rfl, ← hW0]
  have HX := Lib.hid hW0
  clear hW0
  go_region_held3 (fun W' => W'.cell? ⟨w.heap.size, 0, none⟩ = some (.string n) ∧ W'.cell? ⟨w.heap.size, 1, none⟩ = some (.int .i64 k) ∧ W'.cell? ⟨w.heap.size, 2, none⟩ = some (.slice A ws.length c))
    (first | exact ⟨e0, e1, e2⟩ | exact ⟨f0, f1, f2⟩ | exact ⟨g0, g1, g2⟩)
    (first | (go_at_call 94; refine (hcl.out _ (by exact hb0.drew)).mono ?_; rintro e w1 ⟨u, G, rfl, ho, hb1⟩; obtain ⟨A2, c2, rfl, _⟩ := own_slice ho.1; have j1 := (k1.below (w' := W0.drew) (drw W0 1)).below hb1; have j2 := (k2.below (w' := W0.drew) (drw W0 1)).below hb1; have f0 := j1.cell 0 rfl; have f1 := j1.cell 1 rfl; have f2 := j1.cell 2 rfl; obtain ⟨s0, s1, s2, s3, s4, s5⟩ := j2.store3 (.string n) (.int .i64 k) (.slice A2 ws.length c2); have j3 := j1.oth3 (g2 := w.heap.size + 1) (by omega) (.string n) (.int .i64 k) (.slice A2 ws.length c2); have j4 := j2.three (.string n) (.int .i64 k) (.slice A2 ws.length c2); have g0 := j3.cell 0 rfl; have g1 := j3.cell 1 rfl; have g2 := j3.cell 2 rfl))
  have hfr := Fr.set3 w1 (w.heap.size + 1) (.string n) (.int .i64 k) (.slice A2 ws.length c2)
  generalize ((w1.setCell ⟨w.heap.size + 1, 0, none⟩ (.string n)).setCell ⟨w.heap.size + 1, 1, none⟩ (.int .i64 k)).setCell ⟨w.heap.size + 1, 2, none⟩ (.slice A2 ws.length c2) = w2 at *
  go_wp2
  refine bodyPost_ret (res_cell Tryz.results85 rfl j4 Tryz.underlying50 rfl (by kernel_rfl)) rfl ?_
  have hsz := k2.lt
  have hb2 : Below w.heap.size w w1 := hb0.drew.trans (hb1.mono hb0.size)
  refine ⟨_, G, rfl, kdW.low (kdW.keep ho hfr.size fun x hx => hfr.block x ?_ ?_) hb0.size, hb2.trans (hfr.below hb2.size (by simp))⟩
  · exact (kdW.ge ho x hx).2
  · have h1 := (kdW.ge ho x hx).1
    have h2 : W0.drew.heap.size = W0.heap.size := rfl
    simp
    omega

/-- what a list's copy must not pass -/
def FitR (l : List RuleD) : Prop := l.length * 48 ≤ 140737488355328 ∧ ∀ i (h : i < l.length), (l[i]).words.length * 16 ≤ 140737488355328
theorem map_take {T : List (It RuleD)} {l : List RuleD} {k : Nat} (h : T.map (·.a) = l.take k) (hk : k ≤ l.length) : T.length = k := by
  have := congrArg List.length h; simp at this; omega

set_option maxHeartbeats 2000000 in
set_option maxRecDepth 100000 in
theorem rulesC (l : List RuleD) (v : Value) (w : World) (h : kdR.rd w 0 w.heap.size v l) (hf : FitR l) : Calls Tryz.prog 84 #[v] w fun e w' =>
    ∃ v' F, e = .returned v' ∧ kdR.own w' w.heap.size v' l F ∧ Below w.heap.size w w' := by
  obtain ⟨i0, hi, hz0, hz1, hz2⟩ := info_parts infoRule
  obtain ⟨A, c, rfl, hc1, hc2⟩ := fmR.rd_form h
  obtain ⟨hf1, hf2⟩ := hf
  have HR : Hid (∀ W i (hi : i < l.length) u, kdW.rd W 0 W.heap.size u l[i].words → Calls Tryz.prog 85 #[ruV l[i] u] W fun e w' => ∃ u' G, e = .returned (.agg #[.string l[i].name, .int .i64 l[i].kind, u']) ∧ kdW.own w' W.heap.size u' l[i].words G ∧ Below W.heap.size W w') :=
    Lib.hid fun W i hi u hu => ruleC l[i] u W hu (hf2 i hi)
  have HRD : Hid (∀ W, Below w.heap.size w W → kdR.rd W 0 w.heap.size (.slice A l.length c) l) := Lib.hid fun W hW => rd_below h hW (Nat.le_refl _)
  clear h hf2
  have hlen : (l.length : Int) ≤ 9223372036854775807 := by omega
  go_enter Tryz.func84, Tryz.ntmps84
  go_wp2
  go_loopw [3, 8] (fun v3 i wr => ∃ (k : Nat) (T : List (It RuleD)), k ≤ l.length ∧ i = .int .i64 k ∧ Hid (T.map (·.a) = l.take k ∧ wr.ownsRow w.heap.size 50 3 v3 T.length (fmR.cells T) ∧ (∀ t ∈ T, kdW.own wr w.heap.size t.v t.a.words t.G) ∧ (v3.ownBlock.toList ++ outG T).Nodup) ∧ Below w.heap.size w wr) (fun _ i _ => l.length - (intOf i).toNat)
  case atStart => exact ⟨0, [], by omega, rfl, Lib.hid ⟨rfl, World.ownsRow_nil _ _ _ _, by simp, by simp [Value.ownBlock, outG]⟩, Below.refl _ _⟩
  case round =>
    obtain ⟨k, T, hk, rfl, hown, hnx⟩ := hrel
    by_cases hlt : k < l.length
    · obtain ⟨b, off, u, rfl, hb1, hb2, hu, hcell⟩ := fmR.rd_at (HRD.out _ hnx) hlt
      have c0 := hcell 0 _ rfl
      have c1 := hcell 1 _ rfl
      have c2 := hcell 2 _ rfl
      rw [show off + (k * fmR.size + 0) = off + k * 3 from rfl] at c0
      rw [show off + (k * fmR.size + 1) = off + k * 3 + 1 from by show off + (k * 3 + 1) = _; omega] at c1
      rw [show off + (k * fmR.size + 2) = off + k * 3 + 2 from by show off + (k * 3 + 2) = _; omega] at c2
      obtain ⟨A1, cc1, rfl, _⟩ := rdW_form hu
      clear hcell
      have HU : Hid (∀ W, Below wr.heap.size wr W → kdW.rd W 0 W.heap.size (.slice A1 l[k].words.length cc1) l[k].words) := Lib.hid fun W hW => kdW.wide (rd_below hu hW hnx.size) (Nat.le_refl _) (Nat.le_trans hnx.size hW.size)
      have hzz := hnx.size
      have hTl := map_take hown.out.1 hk
      have g1 : T.length + 1 ≤ maxLen := by unfold maxLen; omega
      have g2 : (T.length + 1) * 48 ≤ 140737488355328 := by omega
      have HTL := Lib.hid hTl
      clear hTl
      go_wp2_with (first
        | (go_at_call 85; refine (HR.out _ k hlt (.slice A1 l[k].words.length cc1) (HU.out _ ((Below.refl _ _).alloc (Nat.le_refl _) _))).mono ?_; rintro e w2 ⟨u2, G, rfl, ho2, hb2'⟩; obtain ⟨A2, c3, rfl, _⟩ := own_slice ho2.1; have hb3 : Below wr.heap.size wr w2 := ((Below.refl _ _).alloc (Nat.le_refl _) _).trans (hb2'.mono (by simp)); have hzy := hb3.size; have how := own_stay hown.out.2.1 (w' := w2) (fun k hk => hb3.block k (own_ge2 hown.out.2.1 k hk).2))
        | (at_builtin; refine wpList_append_src _ rfl (.tmp 12) (.tmp 15) 26 rfl w.heap.size 50 i0 _ 3 48 Tryz.underlying26 hi hz0 hz1 hz2 rfl (by decide) _ _ _ rfl (how.alloc _) (some ⟨w2.heap.size, 0, none⟩) 1 1 [.string l[k].name, .int .i64 l[k].kind, .slice A2 l[k].words.length c3] rfl rfl (news_src w2 _ _) (by simp [Value.oneCell']) g1 g2 (by simp; omega) ?_; intro v9 w9 hown9 hgrow9 hrow9))
      have hp := fmR.push (t := ⟨l[k], .slice A2 l[k].words.length c3, G⟩) hown.out.2.1 hown.out.2.2.1 hown.out.2.2.2 hb3 hzz (kdW.low ho2 (by simp)) hown9 hgrow9 hrow9
      obtain ⟨T2, hT2, ho9, hs9, hF9, hn9⟩ := hp
      have hb9 : Below w.heap.size w w9 := ((hnx.trans (hb3.mono hzz)).alloc (by omega) _).grown hgrow9 (by simp; omega) (fun j hj => (hown.out.2.1.lt j hj).1)
      go_roundw
      case rel => exact ⟨k + 1, T2, by omega, by go_num, Lib.hid ⟨by rw [hT2, hown.out.1, List.take_succ_eq_append_getElem hlt], ho9, hs9, hF9 ▸ hn9⟩, hb9⟩
      case measure => simp [intOf] <;> omega
    · obtain rfl : k = l.length := by omega
      go_wp2
      go_ret
      obtain ⟨h1, h2, h3, h4⟩ := hown.out
      exact ⟨_, _, rfl, ⟨T, by rw [h1, List.take_length], h2, h3, rfl, h4⟩, hnx⟩
end Go.Proofs.YteikagdinecfoaaGreatDoor.Ru
