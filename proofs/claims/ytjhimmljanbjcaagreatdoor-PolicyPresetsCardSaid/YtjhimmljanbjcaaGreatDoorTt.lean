/- The reference's tidyRules: rules by their names, their words in small letters, in order, each once. -/
import Derived.Test.YtjhimmljanbjcaaGreatDoorRd
import Derived.Test.YtjhimmljanbjcaaGreatDoorVd
import Derived.Deep.RegionHeld3
import Derived.Test.YtjhimmljanbjcaaGreatDoorRa
set_option linter.unusedVariables false
set_option linter.unusedSimpArgs false
namespace Go.Proofs.YtjhimmljanbjcaaGreatDoor.Tr
open Go.RowKit Lb Gr Pd Fl Go.Proofs.YtjhimmljanbjcaaGreatDoor.Pm Bk Ru Lc Is Go.Proofs.YtjhimmljanbjcaaGreatDoor.So Go.Proofs.YtjhimmljanbjcaaGreatDoor.Rs Go.Proofs.YtjhimmljanbjcaaGreatDoor.Or Go.Proofs.YtjhimmljanbjcaaGreatDoor.Sr Go.Proofs.YtjhimmljanbjcaaGreatDoor.Rd Go.Proofs.YtjhimmljanbjcaaGreatDoor.Cl Go.Proofs.YtjhimmljanbjcaaGreatDoor.Lw Go.Proofs.YtjhimmljanbjcaaGreatDoor.Sk
attribute [local go_sem ↓] Go.wp_at_zero Go.wp_at_succ

/-! ### an insertion sort by names, plain -/
section
variable {α : Type} {f : α → ByteArray}
/-- behind j rounds -/
def OutN (f : α → ByteArray) (l0 l : List α) (j : Nat) : Prop := ∃ p r, l = p ++ r ∧ p.length = j ∧ p.Pairwise (fun a b => leN f a b = true) ∧ l.Perm l0
/-- within a round: what goes down stands at k -/
def InnN (f : α → ByteArray) (l0 l : List α) (j k : Nat) : Prop := ∃ p x q r, l = p ++ x :: (q ++ r) ∧ p.length = k ∧ p.length + q.length = j ∧ (p ++ q).Pairwise (fun a b => leN f a b = true) ∧ (∀ y ∈ q, leN f x y = true) ∧ l.Perm l0
theorem innN_start {l0 l : List α} {j : Nat} (h : OutN f l0 l j) (hj : j < l.length) : InnN f l0 l j j := by
  obtain ⟨p, r, rfl, h1, h2, h3⟩ := h
  cases r with
  | nil => rw [List.append_nil] at hj; omega
  | cons x r => exact ⟨p, x, [], r, rfl, h1, by simpa using h1, by simpa using h2, fun y hy => (by cases hy), h3⟩
theorem innN_stop {l0 l : List α} {j k : Nat} (h : InnN f l0 l j k) (hs : ∀ (h1 : k - 1 < l.length) (h2 : k < l.length), 0 < k → leN f l[k - 1] l[k] = true) : OutN f l0 l (j + 1) := by
  obtain ⟨p, x, q, r, rfl, h1, h2, h3, h4, h5⟩ := h
  refine ⟨p ++ x :: q, r, by simp, by simp; omega, ?_, h5⟩
  rw [List.pairwise_append] at h3 ⊢
  obtain ⟨g1, g2, g3⟩ := h3
  have hpx : ∀ a ∈ p, leN f a x = true := by
    rcases List.eq_nil_or_concat p with rfl | ⟨p', y, he⟩
    · intro a ha; cases ha
    · rw [List.concat_eq_append] at he
      subst he
      have hk : k = p'.length + 1 := by rw [← h1]; simp
      subst hk
      have h6 := hs (by simp) (by simp) (by omega)
      have e1 : ((p' ++ [y]) ++ x :: (q ++ r))[p'.length + 1]'(by simp) = x := by simp
      have e2 : ((p' ++ [y]) ++ x :: (q ++ r))[p'.length + 1 - 1]'(by simp) = y := by simp
      rw [e1, e2] at h6
      intro a ha
      rw [List.pairwise_append] at g1
      rcases List.mem_append.1 ha with ha | ha
      · exact le_trans' (a := f a) (b := f y) (c := f x) (g1.2.2 a ha y (List.mem_singleton.2 rfl)) h6
      · rw [List.mem_singleton.1 ha]; exact h6
  refine ⟨g1, List.pairwise_cons.2 ⟨h4, g2⟩, fun a ha b hb => ?_⟩
  rcases List.mem_cons.1 hb with rfl | hb
  · exact hpx a ha
  · exact g3 a ha b hb
theorem innN_swap {l0 l : List α} {j k : Nat} (h : InnN f l0 l j (k + 1)) (hk : k + 1 < l.length) (hl : leN f l[k + 1] l[k] = true) : InnN f l0 ((l.set (k + 1) l[k]).set k l[k + 1]) j k := by
  obtain ⟨p, x, q, r, rfl, h1, h2, h3, h4, h5⟩ := h
  rcases List.eq_nil_or_concat p with rfl | ⟨p', y, he⟩
  · simp at h1
  · rw [List.concat_eq_append] at he
    subst he
    have hk : k = p'.length := by simpa using h1.symm
    subst hk
    have e1 : ((p' ++ [y]) ++ x :: (q ++ r))[p'.length + 1]'(by simp) = x := by simp
    have e2 : ((p' ++ [y]) ++ x :: (q ++ r))[p'.length]'(by simp) = y := by simp
    rw [e1, e2] at hl ⊢
    have e3 : ((((p' ++ [y]) ++ x :: (q ++ r))).set (p'.length + 1) y).set p'.length x = p' ++ x :: y :: (q ++ r) := by
      have e0 : (p' ++ [y]) ++ x :: (q ++ r) = p' ++ y :: x :: (q ++ r) := by simp
      rw [e0, List.set_append_right _ _ (by omega), List.set_append_right _ _ (by omega)]
      simp
    rw [e3]
    refine ⟨p', x, y :: q, r, by simp, rfl, by simp at h2 ⊢; omega, by simpa using h3, fun z hz => ?_, ?_⟩
    · rcases List.mem_cons.1 hz with rfl | hz
      · exact hl
      · exact h4 z hz
    · refine List.Perm.trans ?_ h5
      rw [show (p' ++ [y]) ++ x :: (q ++ r) = p' ++ y :: x :: (q ++ r) by simp]
      exact List.Perm.append_left _ (List.Perm.swap ..)
theorem outN_end {l0 l : List α} {j : Nat} (h : OutN f l0 l j) (hj : l.length ≤ j) : l.Perm l0 ∧ l.Pairwise (fun a b => leN f a b = true) := by
  obtain ⟨p, r, rfl, h1, h2, h3⟩ := h
  have : r = [] := by
    rw [List.length_append] at hj
    exact List.eq_nil_of_length_eq_zero (by omega)
  subst this
  rw [List.append_nil] at h3 ⊢
  exact ⟨h3, h2⟩
end

/-! ### a row of rules: two of them change places -/
/-- three cells of a row of the call's own -/
structure Put3 (w : World) (B g n c k : Nat) (xs : List Value) (a b d : Value) : Prop where
  f0 : w.frozen? ⟨g, k * 3, none⟩ = false
  c1 : (w.setCell ⟨g, k * 3, none⟩ a).cell? ⟨g, k * 3 + 1, none⟩ = xs[k * 3 + 1]?
  f1 : (w.setCell ⟨g, k * 3, none⟩ a).frozen? ⟨g, k * 3 + 1, none⟩ = false
  c2 : ((w.setCell ⟨g, k * 3, none⟩ a).setCell ⟨g, k * 3 + 1, none⟩ b).cell? ⟨g, k * 3 + 2, none⟩ = xs[k * 3 + 2]?
  f2 : ((w.setCell ⟨g, k * 3, none⟩ a).setCell ⟨g, k * 3 + 1, none⟩ b).frozen? ⟨g, k * 3 + 2, none⟩ = false
  own : (((w.setCell ⟨g, k * 3, none⟩ a).setCell ⟨g, k * 3 + 1, none⟩ b).setCell ⟨g, k * 3 + 2, none⟩ d).ownsRow B 50 3 (.slice (some ⟨g, 0, none⟩) n c) n (((xs.set (k * 3) a).set (k * 3 + 1) b).set (k * 3 + 2) d)
  gr : w.grownBy (((w.setCell ⟨g, k * 3, none⟩ a).setCell ⟨g, k * 3 + 1, none⟩ b).setCell ⟨g, k * 3 + 2, none⟩ d) (some g)
theorem grw {w w1 w2 : World} {r : Option Nat} (h : w.grownBy w1 r) (k : w1.grownBy w2 r) : w.grownBy w2 r :=
  ⟨k.os.trans h.os, k.tape.trans h.tape, k.output.trans h.output, Nat.le_trans h.size k.size, fun i hi hn => (k.block i (Nat.lt_of_lt_of_le hi h.size) hn).trans (h.block i hi hn)⟩
theorem put3 {w : World} {B g n c k : Nat} {xs : List Value} (h : w.ownsRow B 50 3 (.slice (some ⟨g, 0, none⟩) n c) n xs) (hk : k < n) (a b d : Value) : Put3 w B g n c k xs a b d := by
  obtain ⟨h1, g1⟩ := h.stored (k * 3) a
  obtain ⟨h2, g2⟩ := h1.stored (k * 3 + 1) b
  obtain ⟨h3, g3⟩ := h2.stored (k * 3 + 2) d
  refine ⟨h.frozenAt _, ?_, h1.frozenAt _, ?_, h2.frozenAt _, h3, grw (grw g1 g2) g3⟩
  · rw [h1.cellAt _ (by omega), List.getElem?_set_ne (by omega)]
  · rw [h2.cellAt _ (by omega), List.getElem?_set_ne (by omega), List.getElem?_set_ne (by omega)]
theorem cells_at3 {T : List (It RuleD)} {k : Nat} (hk : k < T.length) : (fmR.cells T)[k * 3]? = some (.string T[k].a.name) ∧ (fmR.cells T)[k * 3 + 1]? = some (.int .i64 T[k].a.kind) ∧ (fmR.cells T)[k * 3 + 2]? = some T[k].v :=
  ⟨fmR.cells_at (List.getElem?_eq_getElem hk) (c := 0) (by decide), fmR.cells_at (List.getElem?_eq_getElem hk) (c := 1) (by decide), fmR.cells_at (List.getElem?_eq_getElem hk) (c := 2) (by decide)⟩
/-- a rule of a row, put into another one's place -/
theorem cells_set3 {T : List (It RuleD)} {k : Nat} (hk : k < T.length) (t : It RuleD) : (((fmR.cells T).set (k * 3) (.string t.a.name)).set (k * 3 + 1) (.int .i64 t.a.kind)).set (k * 3 + 2) t.v = fmR.cells (T.set k t) := by
  have hl : (fmR.cells T).length = T.length * 3 := fmR.cells_len T
  have hl2 : (fmR.cells (T.set k t)).length = T.length * 3 := by rw [fmR.cells_len, List.length_set]; rfl
  apply List.ext_getElem?
  intro j
  by_cases hj : j < T.length * 3
  · obtain ⟨q, r, hr, rfl⟩ : ∃ q r, r < 3 ∧ j = q * 3 + r := ⟨j / 3, j % 3, Nat.mod_lt _ (by decide), by omega⟩
    have hq : q < T.length := by omega
    have hq2 : q < (T.set k t).length := by rw [List.length_set]; exact hq
    have e1 := fmR.cells_at (List.getElem?_eq_getElem hq) (c := r) hr
    have e2 := fmR.cells_at (List.getElem?_eq_getElem hq2) (c := r) hr
    rw [show q * fmR.size + r = q * 3 + r from rfl] at e1 e2
    rw [e2]
    by_cases he : q = k
    · subst he
      rw [List.getElem_set_self]
      match r, hr with
      | 0, _ => rw [List.getElem?_set_ne (by omega), List.getElem?_set_ne (by omega), Nat.add_zero, List.getElem?_set_self (by omega)]; rfl
      | 1, _ => rw [List.getElem?_set_ne (by omega), List.getElem?_set_self (by rw [List.length_set]; omega)]; rfl
      | 2, _ => rw [List.getElem?_set_self (by rw [List.length_set, List.length_set]; omega)]; rfl
    · rw [List.getElem_set_ne (fun e => he e.symm), ← e1, List.getElem?_set_ne (by omega), List.getElem?_set_ne (by omega), List.getElem?_set_ne (by omega)]
  · rw [List.getElem?_eq_none (by rw [List.length_set, List.length_set, List.length_set]; omega), List.getElem?_eq_none (by omega)]

theorem srt_of_perm {a b : List ByteArray} (h : a.Perm b) : srt a = srt b := srt_eq ((srt_perm a).trans h) (srt_sorted a)
theorem tidyW_of (ws : List ByteArray) : onceL (srt ((srt ws).map lowS)) = tidyW ws := by
  unfold tidyW
  rw [srt_of_perm ((srt_perm ws).map lowS)]
theorem own_F {w : World} {B : Nat} {v : Value} {l : List ByteArray} (h : Own w B v l) : kdW.own w B v l v.ownBlock.toList := ⟨h, rfl⟩
theorem tidyRs_of {T2 : List (It RuleD)} {T : List (It RuleD)} {l : List RuleD} (hT : T.map (·.a) = l.map tidyR) (hnd : (l.map RuleD.name).Nodup) (hp : T2.Perm T) (hs : T2.Pairwise fun a b => leN (fun t : It RuleD => t.a.name) a b = true) : T2.map (·.a) = tidyRs l := by
  unfold tidyRs
  refine ordBy_eq (by rw [← hT]; exact hp.map _) (List.pairwise_map.2 hs) ?_
  rw [List.map_map]
  exact hnd

set_option maxHeartbeats 8000000 in
set_option maxRecDepth 100000 in
theorem rTidyRC (l : List RuleD) (v : Value) (w : World) (h : kdR.rd w 0 w.heap.size v l) (hf : FitR l) (hok : OkW l) (hnd : (l.map RuleD.name).Nodup) : Calls Tryz.prog 69 #[v] w fun e w' =>
    ∃ v' F, e = .returned v' ∧ kdR.own w' w.heap.size v' (tidyRs l) F ∧ Below w.heap.size w w' := by
  obtain ⟨i0, hi, iz0, iz1, iz2⟩ := info_parts infoRule
  obtain ⟨j0, hj', jw0, jw1, jw2⟩ := info_parts infoStr
  obtain ⟨A, c, rfl, hc1, hc2⟩ := fmR.rd_form h
  obtain ⟨hf1, hf2⟩ := hf
  have HF2 := Lib.hid hf2
  have HOK := Lib.hid hok
  have HND := Lib.hid hnd
  have HRI : Hid (∀ W v l0, kdW.rd W 0 W.heap.size v l0 → l0.length * 16 ≤ 140737488355328 → Calls Tryz.prog 70 #[v] W fun e w' => ∃ A c, e = .returned (.slice A (srt l0).length c) ∧ Own w' W.heap.size (.slice A (srt l0).length c) (srt l0) ∧ Below W.heap.size W w') := Lib.hid fun W v l0 hv hl => risingC v l0 W hv hl
  have HRD : Hid (∀ W, Below w.heap.size w W → kdR.rd W 0 w.heap.size (.slice A l.length c) l) := Lib.hid fun W hW => rd_below h hW (Nat.le_refl _)
  clear h hf2 hok hnd
  have hlen : (l.length : Int) ≤ 9223372036854775807 := by omega
  go_enter Tryz.func69, Tryz.ntmps69
  go_wp2
  go_loopw [3, 16] (fun v3 i wr => ∃ (k : Nat) (T : List (It RuleD)), k ≤ l.length ∧ i = .int .i64 k ∧ Hid (T.map (·.a) = (l.take k).map tidyR ∧ wr.ownsRow w.heap.size 50 3 v3 T.length (fmR.cells T) ∧ (∀ t ∈ T, kdW.own wr w.heap.size t.v t.a.words t.G) ∧ (v3.ownBlock.toList ++ outG T).Nodup) ∧ Below w.heap.size w wr) (fun _ i _ => l.length - (intOf i).toNat)
  case atStart => exact ⟨0, [], by omega, rfl, Lib.hid ⟨rfl, World.ownsRow_nil _ _ _ _, by simp, by simp [Value.ownBlock, outG]⟩, Below.refl _ _⟩
  case round =>
    obtain ⟨k, T, hk, rfl, hown, hnx⟩ := hrel
    obtain ⟨wo, rfl⟩ : ∃ wo, wo = wr := ⟨_, rfl⟩
    by_cases hlt : k < l.length
    · obtain ⟨b, off, u, rfl, hb1, hb2, hu, hcell⟩ := fmR.rd_at (HRD.out _ hnx) hlt
      have c0 := hcell 0 _ rfl
      have c1 := hcell 1 _ rfl
      have c2 := hcell 2 _ rfl
      rw [show off + (k * fmR.size + 0) = off + k * 3 from rfl] at c0
      rw [show off + (k * fmR.size + 1) = off + k * 3 + 1 from by show off + (k * 3 + 1) = _; omega] at c1
      rw [show off + (k * fmR.size + 2) = off + k * 3 + 2 from by show off + (k * 3 + 2) = _; omega] at c2
      have hu' : kdW.rd wo 0 w.heap.size u l[k].words := hu
      obtain ⟨A1, cc1, rfl, hq1, hq2⟩ := rdW_form hu'
      have hzz := hnx.size
      have hTl : T.length = k := by have := congrArg List.length hown.out.1; simp at this; omega
      have g1 : T.length + 1 ≤ maxLen := by unfold maxLen; omega
      have g2 : (T.length + 1) * 48 ≤ 140737488355328 := by omega
      have HTL := Lib.hid hTl
      have hwl := HF2.out k hlt
      have hws := (HOK.out.2 k hlt).2
      obtain ⟨r, hr⟩ : ∃ r, r = l[k] := ⟨_, rfl⟩
      have HR := Lib.hid hr
      rw [← hr] at c0 c1 c2 hu' hq1 hwl hws
      obtain ⟨nm, kd, ws⟩ := r
      simp only at c0 c1 c2 hu' hq1 hwl hws
      have HWS : Hid (∀ x ∈ ws, x.size ≤ maxLen) := Lib.hid (fun x hx => by
        obtain ⟨j, hj, rfl⟩ := List.getElem_of_mem hx
        exact hws j hj)
      clear hcell hu hTl hr hws
      go_upto_region 5 with fail
      obtain ⟨W0, hW0⟩ : ∃ W, W = wo.alloc (.cells #[.string nm, .int .i64 kd, .slice A1 ws.length cc1] 50) := ⟨_, rfl⟩
      have hb0 : Below wo.heap.size wo W0 := hW0 ▸ (Below.refl _ _).alloc (Nat.le_refl _) _
      have k5 : Bl W0 wo.heap.size 50 [.string nm, .int .i64 kd, .slice A1 ws.length cc1] := hW0 ▸ Bl.new wo _ _ rfl
      have y2 := k5.cell 2 rfl
      have hz0 := hb0.size
      have hrdw : kdW.rd W0 0 W0.heap.size (.slice A1 ws.length cc1) ws := kdW.wide (kdW.stay hu' fun j _ hj => hb0.block j (by omega)) (Nat.le_refl _) (by omega)
      have HR1 := Lib.hid (HRI.out W0 _ ws hrdw hwl)
      rw [← hW0]
      have HX0 := Lib.hid hW0
      clear hW0 hu' hrdw c0 c1 c2
      have hsl := srt_len ws
      have hsm : ∀ x ∈ srt ws, x.size ≤ maxLen := fun x hx => HWS.out x (srt_mem.1 hx)
      have HTW := Lib.hid (tidyW_of ws)
      obtain ⟨sw, hsw⟩ : ∃ sw, sw = srt ws := ⟨_, rfl⟩
      rw [← hsw] at HR1 hsl hsm HTW
      have HSM := Lib.hid hsm
      have hwl2 : sw.length * 16 ≤ 140737488355328 := by omega
      clear hsm hsw hsl
      go_wp2_with (go_at_call 70; refine HR1.out.mono ?_; rintro e w1 ⟨D, e1, rfl, ho1, hb1⟩)
      have h01 : Below wo.heap.size wo w1 := hb0.trans (hb1.mono hz0)
      have HROW : Hid (∀ W, Below w1.heap.size w1 W → kdW.rd W 0 w1.heap.size (.slice D sw.length e1) sw) := Lib.hid fun W hW => rd_below (rd_own ho1) hW (Nat.le_refl _)
      have k51 := k5.below hb1
      clear ho1 y2
      go_loopw [6, 24] (fun v6 i wr => ∃ j : Nat, j ≤ sw.length ∧ i = .int .i64 j ∧ Hid (Own wr w1.heap.size v6 ((sw.take j).map lowS)) ∧ Below w1.heap.size w1 wr) (fun _ i _ => sw.length - (intOf i).toNat)
      case atStart => exact ⟨0, by omega, rfl, Lib.hid (by rw [List.take_zero]; exact Own.nil _ _), Below.refl _ _⟩
      case round =>
        obtain ⟨j, hj, rfl, hst, hnq⟩ := hrel
        have hzq := hnq.size
        obtain ⟨A7, c7, rfl⟩ := hst.out.form
        by_cases hltj : j < sw.length
        · obtain ⟨b2, off2, rfl, _, _, hcl⟩ := rdW_at (HROW.out _ hnq) hltj
          have hxs := HSM.out _ (List.getElem_mem hltj)
          have htl : ((sw.take j).map lowS).length = j := by rw [List.length_map, List.length_take]; omega
          have hts : Hid ((sw.take (j + 1)).map lowS = (sw.take j).map lowS ++ [lowS sw[j]]) := Lib.hid (by rw [List.take_succ_eq_append_getElem hltj, List.map_append]; rfl)
          obtain ⟨x, hx⟩ : ∃ x, x = sw[j] := ⟨_, rfl⟩
          rw [← hx] at hcl hxs hts
          obtain ⟨L, hL⟩ : ∃ L, L = (sw.take j).map lowS := ⟨_, rfl⟩
          rw [← hL] at htl hts hst
          rw [← hL]
          have HLW := Lib.hid (fun W => rLower x W hxs)
          have how := hst.out
          have r1 : L.length + 1 ≤ maxLen := by unfold maxLen; omega
          have r2 : (L.length + 1) * 16 ≤ 140737488355328 := by omega
          have HTL2 := Lib.hid htl
          have hj0 : (0 : Int) ≤ (j : Int) := by omega
          have hj1 : (j : Int) < (sw.length : Int) := by omega
          clear hx hL htl
          go_wp2_with (first
            | (go_at_call 126; refine (HLW.out _).mono ?_; rintro e w4 ⟨rfl, hb4⟩; have how4 := how.below hb4)
            | (at_builtin; refine wpList_append_src _ rfl (.tmp 28) (.tmp 31) 24 rfl w1.heap.size 9 j0 _ 1 16 Tryz.underlying24 hj' jw0 jw1 jw2 rfl (by decide) _ _ _ rfl (how4.alloc _) (some ⟨w4.heap.size, 0, none⟩) 1 1 [.string (lowS x)] rfl rfl (news_src w4 _ _) (by simp [Value.oneCell']) r1 r2 (by have := hb4.size; simp; omega) ?_; intro v9 w9 hown9 hgrow9 hrow9))
          have hz4 := hb4.size
          have hn9 : Below w1.heap.size w1 w9 := ((hnq.trans (hb4.mono hzq)).alloc (by omega) _).grown hgrow9 (by simp; omega) (fun j hj => how4.ge j hj)
          have hnew : Hid (Own w9 w1.heap.size v9 ((sw.take (j + 1)).map lowS)) := Lib.hid (by rw [hts.out]; exact Own.push hown9)
          clear hown9 hgrow9 hrow9 how how4
          go_roundw
          case rel => exact ⟨j + 1, by omega, by go_num, hnew, hn9⟩
          case measure => simp [intOf] <;> omega
        · obtain rfl : j = sw.length := by omega
          obtain ⟨w2, rfl⟩ : ∃ w2, w2 = wr := ⟨_, rfl⟩
          have hfin := hst.out
          rw [List.take_length] at hfin ⊢
          obtain ⟨lw, hlw⟩ : ∃ lw, lw = sw.map lowS := ⟨_, rfl⟩
          have hll : lw.length = sw.length := by rw [hlw, List.length_map]
          rw [← hlw] at hfin HTW ⊢
          have hwl3 : lw.length * 16 ≤ 140737488355328 := by omega
          have HR2 := Lib.hid (HRI.out w2 _ lw (rd_own hfin) hwl3)
          have hsl := srt_len lw
          obtain ⟨sl, hsl2⟩ : ∃ sl, sl = srt lw := ⟨_, rfl⟩
          rw [← hsl2] at HR2 hsl HTW
          have hwl4 : sl.length * 16 ≤ 140737488355328 := by omega
          clear hfin hst hlw hsl2 hsl hll
          go_wp2_with (go_at_call 70; refine HR2.out.mono ?_; rintro e w3 ⟨D3, e3, rfl, ho3, hb3⟩)
          have h03 : Below wo.heap.size wo w3 := (h01.trans (hnq.mono h01.size)).trans (hb3.mono (by have := h01.size; omega))
          have HROW3 : Hid (∀ W, Below w3.heap.size w3 W → kdW.rd W 0 w3.heap.size (.slice D3 sl.length e3) sl) := Lib.hid fun W hW => rd_below (rd_own ho3) hW (Nat.le_refl _)
          have k53 := (k51.below hnq).below hb3
          have hz3 := h03.size
          clear ho3
          go_loopw [9, 38] (fun v9 i wr => ∃ j : Nat, j ≤ sl.length ∧ i = .int .i64 j ∧ Hid (Own wr w3.heap.size v9 (onceL (sl.take j))) ∧ Below w3.heap.size w3 wr) (fun _ i _ => sl.length - (intOf i).toNat)
          case atStart => exact ⟨0, by omega, rfl, Lib.hid (by rw [List.take_zero]; exact Own.nil _ _), Below.refl _ _⟩
          case round =>
            obtain ⟨j, hj, rfl, hst, hnp⟩ := hrel
            have hzp := hnp.size
            obtain ⟨A8, c8, rfl⟩ := hst.out.form
            by_cases hltj : j < sl.length
            · have hrow := HROW3.out _ hnp
              obtain ⟨b2, off2, rfl, _, _, hcl⟩ := rdW_at hrow hltj
              have hol : (onceL (sl.take j)).length ≤ j := Nat.le_trans (once_len _) (by rw [List.length_take]; omega)
              have hon := once_app (sl.take j) sl[j]
              rw [← List.take_succ_eq_append_getElem hltj] at hon
              obtain ⟨x, hx⟩ : ∃ x, x = sl[j] := ⟨_, rfl⟩
              rw [← hx] at hcl hon
              have hj0 : (0 : Int) ≤ (j : Int) := by omega
              have hj1 : (j : Int) < (sl.length : Int) := by omega
              have how := hst.out
              have r1 : (onceL (sl.take j)).length + 1 ≤ maxLen := by unfold maxLen; omega
              have r2 : ((onceL (sl.take j)).length + 1) * 16 ≤ 140737488355328 := by omega
              have HOL := Lib.hid hol
              clear hx hol
              cases j with
              | zero =>
                have hon2 : Hid (onceL (sl.take 1) = onceL (sl.take 0) ++ [x]) := Lib.hid (by rw [hon]; simp)
                rw [Nat.add_zero] at hcl
                obtain ⟨L, hL⟩ : ∃ L, L = onceL (sl.take 0) := ⟨_, rfl⟩
                rw [← hL] at how hon2 r1 r2 ⊢
                clear hon hL hst hrow
                go_wp2_with (at_builtin; refine wpList_append_src _ rfl (.tmp 54) (.tmp 56) 24 rfl w3.heap.size 9 j0 _ 1 16 Tryz.underlying24 hj' jw0 jw1 jw2 rfl (by decide) _ _ _ rfl (how.alloc _) (some ⟨wr.heap.size, 0, none⟩) 1 1 [.string x] rfl rfl (news_src wr _ _) (by simp [Value.oneCell']) r1 r2 (by simp; omega) ?_; intro v9 w9 hown9 hgrow9 hrow9)
                have hn9 : Below w3.heap.size w3 w9 := (hnp.alloc (by omega) _).grown hgrow9 (by simp; omega) (fun j hj => how.ge j hj)
                have hnew : Hid (Own w9 w3.heap.size v9 (onceL (sl.take 1))) := Lib.hid (by rw [hon2.out]; exact Own.push hown9)
                clear hown9 hgrow9 hrow9 how
                go_roundw
                case rel => exact ⟨1, by omega, rfl, hnew, hn9⟩
                case measure => simp [intOf] <;> omega
              | succ q =>
                obtain ⟨b3, off3, hA3, _, _, hcq⟩ := rdW_at hrow (i := q) (by omega)
                injection hA3 with hA3
                injection hA3 with a1 a2
                subst a1 a2
                have hlast : (sl.take (q + 1)).getLast? = some sl[q] := by rw [List.take_succ_eq_append_getElem (by omega), List.getLast?_concat]
                rw [hlast] at hon
                obtain ⟨y, hy⟩ : ∃ y, y = sl[q] := ⟨_, rfl⟩
                rw [← hy] at hcq hon
                have hi1 : ((q + 1 : Nat) : Int) - 1 = (q : Int) := by omega
                have hi3 : (q : Int) < (sl.length : Int) := by omega
                have hi4 : (((q + 1 : Nat) : Int) == 0) = false := by simp; omega
                have hwk : IntKind.i64.wrap (((q + 1 : Nat) : Int) - 1) = (q : Int) := by rw [IntKind.wrap_i64] <;> omega
                obtain ⟨L, hL⟩ : ∃ L, L = onceL (sl.take (q + 1)) := ⟨_, rfl⟩
                rw [← hL] at how hon r1 r2 ⊢
                by_cases he : y = x
                · have q1 := toList_eq_of he
                  have q2 := toList_eq_of he.symm
                  have hnew : Hid (Own wr w3.heap.size (.slice A8 L.length c8) (onceL (sl.take (q + 1 + 1)))) := Lib.hid (by rw [hon, he, if_pos rfl]; exact how)
                  clear hon he hL hy hst hrow hlast how
                  go_wp2
                  go_roundw
                  case rel => exact ⟨q + 1 + 1, by omega, by go_num, hnew, hnp⟩
                  case measure => simp [intOf] <;> omega
                · have q1 := toList_ne_of he
                  have q2 := toList_ne_of (fun e => he e.symm : x ≠ y)
                  have hon2 : Hid (onceL (sl.take (q + 1 + 1)) = L ++ [x]) := Lib.hid (by rw [hon, if_neg (fun e => he (Option.some.inj e))])
                  clear hon he hL hy hst hrow hlast
                  go_wp2_with (at_builtin; refine wpList_append_src _ rfl (.tmp 54) (.tmp 56) 24 rfl w3.heap.size 9 j0 _ 1 16 Tryz.underlying24 hj' jw0 jw1 jw2 rfl (by decide) _ _ _ rfl (how.alloc _) (some ⟨wr.heap.size, 0, none⟩) 1 1 [.string x] rfl rfl (news_src wr _ _) (by simp [Value.oneCell']) r1 r2 (by simp; omega) ?_; intro v9 w9 hown9 hgrow9 hrow9)
                  have hn9 : Below w3.heap.size w3 w9 := (hnp.alloc (by omega) _).grown hgrow9 (by simp; omega) (fun j hj => how.ge j hj)
                  have hnew : Hid (Own w9 w3.heap.size v9 (onceL (sl.take (q + 1 + 1)))) := Lib.hid (by rw [hon2.out]; exact Own.push hown9)
                  clear hown9 hgrow9 hrow9 how
                  go_roundw
                  case rel => exact ⟨q + 1 + 1, by omega, by go_num, hnew, hn9⟩
                  case measure => simp [intOf] <;> omega
            · obtain rfl : j = sl.length := by omega
              obtain ⟨w4, rfl⟩ : ∃ w4, w4 = wr := ⟨_, rfl⟩
              have hfin := hst.out
              rw [List.take_length, HTW.out] at hfin
              have hlo : (onceL (sl.take sl.length)).length = (tidyW ws).length := by rw [List.take_length, HTW.out]
              rw [hlo]
              have h04 : Below wo.heap.size wo w4 := h03.trans (hnp.mono hz3)
              have k54 := k53.below hnp
              have y0 := k54.cell 0 rfl
              have y1 := k54.cell 1 rfl
              have hoF : kdW.own w4 wo.heap.size (.slice A8 (tidyW ws).length c8) (tidyW ws) (Value.slice A8 (tidyW ws).length c8).ownBlock.toList := kdW.low (own_F hfin) (by omega)
              have HOF := Lib.hid hoF
              have hz4 := h04.size
              have how := own_stay hown.out.2.1 (w' := w4) (fun k hk => h04.block k (own_ge2 hown.out.2.1 k hk).2)
              clear hst hfin hlo hoF
              generalize hGG : (Value.slice A8 (tidyW ws).length c8).ownBlock.toList = GG at HOF
              clear hGG
              go_wp2_with (at_builtin; refine wpList_append_src _ rfl (.tmp 59) (.tmp 66) 23 rfl w.heap.size 50 i0 _ 3 48 Tryz.underlying23 hi iz0 iz1 iz2 rfl (by decide) _ _ _ rfl (how.alloc _) (some ⟨w4.heap.size, 0, none⟩) 1 1 [.string nm, .int .i64 kd, .slice A8 (tidyW ws).length c8] rfl rfl (news_src w4 _ _) (by simp [Value.oneCell']) g1 g2 (by simp; omega) ?_; intro v9 w9 hown9 hgrow9 hrow9)
              have hp := fmR.push (t := ⟨⟨nm, kd, tidyW ws⟩, .slice A8 (tidyW ws).length c8, GG⟩) hown.out.2.1 hown.out.2.2.1 hown.out.2.2.2 h04 hzz HOF.out hown9 hgrow9 hrow9
              obtain ⟨T2, hT2, ho9, hs9, hF9, hn9⟩ := hp
              have hb9 : Below w.heap.size w w9 := ((hnx.trans (h04.mono hzz)).alloc (by omega) _).grown hgrow9 (by simp; omega) (fun j hj => (hown.out.2.1.lt j hj).1)
              have hT3 : Hid (T2.map (·.a) = (l.take (k + 1)).map tidyR) := Lib.hid (by rw [hT2, hown.out.1, List.take_succ_eq_append_getElem hlt, List.map_append, ← HR.out]; rfl)
              have hfin2 : Hid (T2.map (·.a) = (l.take (k + 1)).map tidyR ∧ w9.ownsRow w.heap.size 50 3 v9 T2.length (fmR.cells T2) ∧ (∀ t ∈ T2, kdW.own w9 w.heap.size t.v t.a.words t.G) ∧ (v9.ownBlock.toList ++ outG T2).Nodup) := Lib.hid ⟨hT3.out, ho9, hs9, hF9 ▸ hn9⟩
              clear hT2 ho9 hs9 hF9 hn9 hown9 hgrow9 hrow9 how
              go_roundw
              case rel => exact ⟨k + 1, T2, by omega, by go_num, hfin2, hb9⟩
              case measure => simp [intOf] <;> omega
    · obtain rfl : k = l.length := by omega
      have hT := hown.out.1
      rw [List.take_length] at hT
      have hTl : T.length = l.length := by have := congrArg List.length hT; simpa using this
      obtain ⟨A9, c9, rfl, hc9, hc9'⟩ := own_slice hown.out.2.1
      obtain ⟨n, hn⟩ : ∃ n, n = T.length := ⟨_, rfl⟩
      have HO : Hid (wo.ownsRow w.heap.size 50 3 (.slice A9 n c9) n (fmR.cells T)) := Lib.hid (by rw [hn]; exact hown.out.2.1)
      have HG := Lib.hid (World.grownBy.refl wo (Value.slice A9 n c9).ownBlock)
      have HT := Lib.hid hT
      have HN : Hid (n = T.length) := Lib.hid hn
      have hnm : (n : Int) ≤ 9223372036854775807 := by omega
      rw [← hn]
      have HOWN : Hid ((∀ t ∈ T, kdW.own wo w.heap.size t.v t.a.words t.G) ∧ ((Value.slice A9 n c9).ownBlock.toList ++ outG T).Nodup ∧ ∀ x, (Value.slice A9 n c9).ownBlock = some x → w.heap.size ≤ x) := Lib.hid ⟨hown.out.2.2.1, by rw [hn]; exact hown.out.2.2.2, fun x hx => (HO.out.lt x hx).1⟩
      clear hown hT hTl hn hc9 hc9'
      go_wp2
      go_loopw [71] (fun i wr => ∃ (j : Nat) (T2 : List (It RuleD)), j ≤ n ∧ i = .int .i64 j ∧ Hid (wr.ownsRow w.heap.size 50 3 (.slice A9 n c9) n (fmR.cells T2)) ∧ Hid (wo.grownBy wr (Value.slice A9 n c9).ownBlock) ∧ Hid (OutN (fun t : It RuleD => t.a.name) T T2 j) ∧ Hid (n = T2.length)) (fun i _ => n - (intOf i).toNat)
      case atStart => exact ⟨0, T, Nat.zero_le _, rfl, HO, HG, Lib.hid ⟨[], T, rfl, rfl, List.Pairwise.nil, List.Perm.refl _⟩, HN⟩
      case round =>
        obtain ⟨j, T2, hj, rfl, ho, hg, hout, hln⟩ := hrel
        by_cases hltj : j < n
        · have hjl : j < T2.length := by have := hln.out; omega
          have hinn := Lib.hid (innN_start hout.out hjl)
          have hb3 : (j : Int) < (n : Int) := by omega
          clear hout
          go_wp2
          go_loopw [13] (fun i wr => ∃ (q : Nat) (T2 : List (It RuleD)), q ≤ j ∧ i = .int .i64 q ∧ Hid (wr.ownsRow w.heap.size 50 3 (.slice A9 n c9) n (fmR.cells T2)) ∧ Hid (wo.grownBy wr (Value.slice A9 n c9).ownBlock) ∧ Hid (InnN (fun t : It RuleD => t.a.name) T T2 j q) ∧ Hid (n = T2.length)) (fun i _ => (intOf i).toNat)
          case atStart => exact ⟨j, T2, Nat.le_refl _, rfl, ho, hg, hinn, hln⟩
          case round =>
            clear ho hg hinn hln hjl
            obtain ⟨q, T3, hq, rfl, ho2, hg2, hin2, hln2⟩ := hrel
            cases q with
            | zero =>
              have hout2 := Lib.hid (innN_stop hin2.out (fun _ _ h => absurd h (Nat.lt_irrefl 0)))
              have hz : ¬ (0 : Int) < ((0 : Nat) : Int) := by omega
              have hz2 : decide ((0 : Int) < ((0 : Nat) : Int)) = false := by simp
              go_wp2
              go_quiet (fail)
              go_wp2
              go_roundw
              case rel => exact ⟨j + 1, T3, by omega, by go_num, Lib.hid ho2.out, Lib.hid (grown_drewN hg2.out _), hout2, hln2⟩
              case measure => simp [intOf] <;> omega
            | succ q =>
              have hql : q + 1 < T3.length := by have := hln2.out; omega
              obtain ⟨g, cap, hv, hBg, hgw⟩ := ho2.out.form (by omega)
              injection hv with hv1 hv2 hv3
              subst hv1
              obtain ⟨x0, x1, x2⟩ := cells_at3 hql
              obtain ⟨y0, y1, y2⟩ := cells_at3 (show q < T3.length by omega)
              have hpm : T3.Perm T := by obtain ⟨_, _, _, _, _, _, _, _, _, h9⟩ := hin2.out; exact h9
              obtain ⟨Ax, cx, hvx, _⟩ := own_slice (HOWN.out.1 _ (hpm.mem_iff.1 (List.getElem_mem hql))).1
              obtain ⟨Ay, cy, hvy, _⟩ := own_slice (HOWN.out.1 _ (hpm.mem_iff.1 (List.getElem_mem (show q < T3.length by omega)))).1
              have e0 := ho2.out.cellAt ((q + 1) * 3) (by omega)
              have e1 := ho2.out.cellAt ((q + 1) * 3 + 1) (by omega)
              have e2 := ho2.out.cellAt ((q + 1) * 3 + 2) (by omega)
              have d0 := ho2.out.cellAt (q * 3) (by omega)
              have d1 := ho2.out.cellAt (q * 3 + 1) (by omega)
              have d2 := ho2.out.cellAt (q * 3 + 2) (by omega)
              rw [x0] at e0
              rw [x1] at e1
              rw [x2] at e2
              rw [y0] at d0
              rw [y1] at d1
              rw [y2] at d2
              have hq1 : q + 1 < n := by have := hln2.out; omega
              have hq2 : q < n := by omega
              have hsw : ∀ W : World, W.ownsRow w.heap.size 50 3 (.slice (some ⟨g, 0, none⟩) n c9) n (fmR.cells T3) →
                  ∃ P1 : Put3 W w.heap.size g n c9 (q + 1) (fmR.cells T3) (.string T3[q].a.name) (.int .i64 T3[q].a.kind) T3[q].v,
                  ∃ P2 : Put3 (((W.setCell ⟨g, (q + 1) * 3, none⟩ (.string T3[q].a.name)).setCell ⟨g, (q + 1) * 3 + 1, none⟩ (.int .i64 T3[q].a.kind)).setCell ⟨g, (q + 1) * 3 + 2, none⟩ T3[q].v) w.heap.size g n c9 q (fmR.cells (T3.set (q + 1) T3[q])) (.string T3[q + 1].a.name) (.int .i64 T3[q + 1].a.kind) T3[q + 1].v,
                  ((((W.setCell ⟨g, (q + 1) * 3, none⟩ (.string T3[q].a.name)).setCell ⟨g, (q + 1) * 3 + 1, none⟩ (.int .i64 T3[q].a.kind)).setCell ⟨g, (q + 1) * 3 + 2, none⟩ T3[q].v)).cell? ⟨g, q * 3, none⟩ = some (.string T3[q].a.name) ∧
                  (fmR.cells T3)[(q + 1) * 3 + 1]? = some (.int .i64 T3[q + 1].a.kind) ∧ (fmR.cells T3)[(q + 1) * 3 + 2]? = some T3[q + 1].v ∧
                  (fmR.cells (T3.set (q + 1) T3[q]))[q * 3 + 1]? = some (.int .i64 T3[q].a.kind) ∧ (fmR.cells (T3.set (q + 1) T3[q]))[q * 3 + 2]? = some T3[q].v ∧
                  ((((fmR.cells (T3.set (q + 1) T3[q])).set (q * 3) (.string T3[q + 1].a.name)).set (q * 3 + 1) (.int .i64 T3[q + 1].a.kind)).set (q * 3 + 2) T3[q + 1].v) = fmR.cells ((T3.set (q + 1) T3[q]).set q T3[q + 1]) := fun W hW => by
                have P1 := put3 hW hq1 (.string T3[q].a.name) (.int .i64 T3[q].a.kind) T3[q].v
                have ho := P1.own
                rw [cells_set3 hql T3[q]] at ho
                have hq3 : q < (T3.set (q + 1) T3[q]).length := by rw [List.length_set]; omega
                have z := cells_at3 hq3
                have hz9 : (T3.set (q + 1) T3[q])[q] = T3[q] := List.getElem_set_ne (by omega) _
                rw [hz9] at z
                refine ⟨P1, put3 ho hq2 _ _ _, ?_, x1, x2, z.2.1, z.2.2, cells_set3 hq3 _⟩
                rw [ho.cellAt _ (by omega)]
                exact z.1
              have HSW := Lib.hid hsw
              have hnx1 : T3[q + 1].a.name = T3[q + 1].a.name := rfl
              obtain ⟨P1, P2, k0, k1, k2, k3, k4, _⟩ := hsw wr ho2.out
              have m0 := P1.f0
              have m1 := P1.c1
              have m2 := P1.f1
              have m3 := P1.c2
              have m4 := P1.f2
              have m5 := P2.f0
              have m6 := P2.c1
              have m7 := P2.f1
              have m8 := P2.c2
              have m9 := P2.f2
              rw [k1] at m1
              rw [k2] at m3
              rw [k3] at m6
              rw [k4] at m8
              simp only [hvx, hvy] at e2 d2 k0 m0 m1 m2 m3 m4 m5 m6 m7 m8 m9
              obtain ⟨xn, hxn⟩ : ∃ xn, xn = T3[q + 1].a.name := ⟨_, rfl⟩
              obtain ⟨xk, hxk⟩ : ∃ xn, xn = T3[q + 1].a.kind := ⟨_, rfl⟩
              obtain ⟨xl, hxl⟩ : ∃ xn, xn = T3[q + 1].a.words.length := ⟨_, rfl⟩
              obtain ⟨yn, hyn⟩ : ∃ xn, xn = T3[q].a.name := ⟨_, rfl⟩
              obtain ⟨yk, hyk⟩ : ∃ xn, xn = T3[q].a.kind := ⟨_, rfl⟩
              obtain ⟨yl, hyl⟩ : ∃ xn, xn = T3[q].a.words.length := ⟨_, rfl⟩
              have HLE : Hid ((leS xn yn = true → leN (fun t : It RuleD => t.a.name) T3[q + 1] T3[q] = true) ∧ (leS yn xn = true → leN (fun t : It RuleD => t.a.name) T3[q] T3[q + 1] = true)) := Lib.hid ⟨fun h => by show leS T3[q + 1].a.name T3[q].a.name = true; rw [← hxn, ← hyn]; exact h, fun h => by show leS T3[q].a.name T3[q + 1].a.name = true; rw [← hxn, ← hyn]; exact h⟩
              have HV : Hid (T3[q + 1].v = .slice Ax xl cx ∧ T3[q].v = .slice Ay yl cy ∧ xn = T3[q + 1].a.name ∧ xk = T3[q + 1].a.kind ∧ yn = T3[q].a.name ∧ yk = T3[q].a.kind) := Lib.hid ⟨by rw [hxl]; exact hvx, by rw [hyl]; exact hvy, hxn, hxk, hyn, hyk⟩
              simp only [← hxn, ← hxk, ← hxl, ← hyn, ← hyk, ← hyl] at e0 e1 e2 d0 d1 d2 k0 m0 m1 m2 m3 m4 m5 m6 m7 m8 m9
              have HOO := Lib.hid ho2.out
              have z0 := ho2.out.frozenAt ((q + 1) * 3)
              have z1 := ho2.out.frozenAt ((q + 1) * 3 + 1)
              have z2 := ho2.out.frozenAt ((q + 1) * 3 + 2)
              have z3 := ho2.out.frozenAt (q * 3)
              have z4 := ho2.out.frozenAt (q * 3 + 1)
              have z5 := ho2.out.frozenAt (q * 3 + 2)
              have hz : (0 : Int) < ((q + 1 : Nat) : Int) := by omega
              have hi1 : ((q + 1 : Nat) : Int) - 1 = (q : Int) := by omega
              have hi2 : ((q + 1 : Nat) : Int) < (n : Int) := by omega
              have hi3 : (q : Int) < (n : Int) := by omega
              have hwk : IntKind.i64.wrap (((q + 1 : Nat) : Int) - 1) = (q : Int) := by rw [IntKind.wrap_i64] <;> omega
              have hnk : q + 1 - 1 = q := rfl
              have hwq : IntKind.i64.wrap (q : Int) = (q : Int) := by rw [IntKind.wrap_i64] <;> omega
              have hq0 : (0 : Int) ≤ (q : Int) := by omega
              have HLN := Lib.hid hln2.out
              have HPM := Lib.hid hpm
              clear hsw hnx1 P1 P2 k1 k2 k3 k4 hxn hxk hxl hyn hyk hyl x0 x1 x2 y0 y1 y2 hvx hvy hpm hv3 hv2
              cases hless : Op.bytesLess xn.toList yn.toList
              · have hout2 := Lib.hid (innN_stop hin2.out (fun h1 h2 _ => HLE.out.2 (less_no hless)))
                clear k0 m0 m1 m2 m3 m4 m5 m6 m7 m8 m9
                go_wp2
                go_quiet (fail)
                go_wp2
                go_roundw
                case rel => exact ⟨j + 1, T3, by omega, by go_num, Lib.hid ho2.out, Lib.hid (grown_drewN hg2.out _), hout2, hln2⟩
                case measure => simp [intOf] <;> omega
              · have hin3 := Lib.hid (innN_swap hin2.out hql (HLE.out.1 (less_yes hless)))
                go_wp2
                go_quiet (fail)
                go_wp2
                clear m0 m1 m2 m3 m4 m5 m6 m7 m8 m9 k0
                go_region
                go_wp2
                go_roundw
                case rel =>
                  obtain ⟨P1, P2, _, _, _, _, _, hcl⟩ := HSW.out (wr.drewN (nq + 1)) ho2.out
                  obtain ⟨v1, v2, v3, v4, v5, v6⟩ := HV.out
                  have ho3 := P2.own
                  have hg3 := grw P1.gr P2.gr
                  rw [hcl] at ho3
                  rw [v1, v2, ← v3, ← v4, ← v5, ← v6] at ho3 hg3
                  exact ⟨q, _, by omega, rfl, Lib.hid ho3, Lib.hid (grw (grown_drewN hg2.out _) hg3), hin3, Lib.hid (by rw [List.length_set, List.length_set]; exact HLN.out)⟩
                case measure => simp [intOf] <;> omega
        · obtain ⟨hpm, hss⟩ := outN_end hout.out (by have := hln.out; omega)
          have HFIN : Hid (kdR.own wr w.heap.size (.slice A9 n c9) (tidyRs l) ((Value.slice A9 n c9).ownBlock.toList ++ outG T2) ∧ Below w.heap.size w wr) := Lib.hid (by
            obtain ⟨g1, g2, g3⟩ := HOWN.out
            have hpo : (outG T2).Perm (outG T) := hpm.flatMap_right _
            refine ⟨⟨T2, tidyRs_of HT.out HND.out hpm hss, by rw [← hln.out]; exact ho.out, fun t ht => ?_, rfl, ?_⟩, hnx.grown hg.out hnx.size g3⟩
            · have ht0 := hpm.mem_iff.1 ht
              have hge := kdW.ge (g1 t ht0)
              refine kdW.keep (g1 t ht0) hg.out.size fun x hx => hg.out.block x (hge x hx).2 fun e => ?_
              rw [List.nodup_append] at g2
              exact g2.2.2 x (by rw [← e]; simp) x (mem_outG ht0 hx) rfl
            · exact ((List.Perm.append_left _ hpo).nodup_iff).2 g2)
          clear hpm hss ho hg hout hln
          go_wp2
          go_ret
          exact ⟨_, _, rfl, HFIN.out.1, HFIN.out.2⟩
end Go.Proofs.YtjhimmljanbjcaaGreatDoor.Tr

/- The reference's Tidy: a policy in order. -/
set_option linter.unusedVariables false
set_option linter.unusedSimpArgs false
namespace Go.Proofs.YtjhimmljanbjcaaGreatDoor.Tt
open Go.RowKit Lb Gr Pd Fl Go.Proofs.YtjhimmljanbjcaaGreatDoor.Pm Bk Ru Co Lc Is Ea Go.Proofs.YtjhimmljanbjcaaGreatDoor.So Go.Proofs.YtjhimmljanbjcaaGreatDoor.Rs Go.Proofs.YtjhimmljanbjcaaGreatDoor.Or Go.Proofs.YtjhimmljanbjcaaGreatDoor.Sr Go.Proofs.YtjhimmljanbjcaaGreatDoor.Rd Go.Proofs.YtjhimmljanbjcaaGreatDoor.Cl Go.Proofs.YtjhimmljanbjcaaGreatDoor.Cn Go.Proofs.YtjhimmljanbjcaaGreatDoor.Ty Go.Proofs.YtjhimmljanbjcaaGreatDoor.Fd Go.Proofs.YtjhimmljanbjcaaGreatDoor.Tr
attribute [local go_sem ↓] Go.wp_at_zero Go.wp_at_succ

/-- the element of a name, tidy -/
def tidyN (p : PolD) (n : ByteArray) : ElD := ⟨n, tidyRs ((fndE p.els n).getD el0).rules⟩
theorem fnd_of {l : List ElD} (hn : (l.map ElD.name).Nodup) {e : ElD} (he : e ∈ l) : fndE l e.name = some e := by
  induction l with
  | nil => cases he
  | cons a t ih =>
    unfold fndE
    rw [List.map_cons, List.nodup_cons] at hn
    rcases List.mem_cons.1 he with rfl | ht
    · rw [List.find?_cons_of_pos (by simp)]
    · have hne : a.name ≠ e.name := fun h => hn.1 (List.mem_map.2 ⟨e, ht, h.symm⟩)
      rw [List.find?_cons_of_neg (by simpa using hne)]
      exact ih hn.2 ht
theorem tidy_els {p : PolD} (hn : (p.els.map ElD.name).Nodup) : (srt (nms p)).map (tidyN p) = (tidyP p).els := by
  show _ = ordBy ElD.name (p.els.map tidyE)
  rw [← els_tidy hn]
  unfold nms
  rw [← map_ordBy, List.map_map]
  refine List.map_congr_left fun e he => ?_
  have hm : e ∈ p.els := (ordBy_perm ElD.name p.els).mem_iff.1 he
  show tidyN p e.name = tidyE e
  unfold tidyN
  rw [fnd_of hn hm]
  rfl

theorem Bl.oth7 {W : World} {a g : Nat} {t : TypeId} {xs : List Value} (h : Bl W a t xs) (hne : a ≠ g) (u0 u1 u2 u3 u4 u5 u6 : Value) : Bl (((((((W.setCell ⟨g, 0, none⟩ u0).setCell ⟨g, 1, none⟩ u1).setCell ⟨g, 2, none⟩ u2).setCell ⟨g, 3, none⟩ u3).setCell ⟨g, 4, none⟩ u4).setCell ⟨g, 5, none⟩ u5).setCell ⟨g, 6, none⟩ u6) a t xs :=
  ((((((h.other (p := ⟨g, 0, none⟩) hne u0).other (p := ⟨g, 1, none⟩) hne u1).other (p := ⟨g, 2, none⟩) hne u2).other (p := ⟨g, 3, none⟩) hne u3).other (p := ⟨g, 4, none⟩) hne u4).other (p := ⟨g, 5, none⟩) hne u5).other (p := ⟨g, 6, none⟩) hne u6
theorem Fr.then_below {F : List Nat} {a b c : World} (h : Fr F a b) (k : Below a.heap.size b c) : Fr F a c :=
  ⟨k.os.trans h.os, k.tape.trans h.tape, k.output.trans h.output, Nat.le_trans h.size k.size, fun i hi hn => (k.block i hi).trans (h.block i hi hn)⟩
/-- an empty policy's block; one that is filled -/
def zeroC : List Value := [.slice none 0 0, .slice none 0 0, .slice none 0 0, .bool false, .slice none 0 0, .int .i64 0, .int .i64 0]
/-- the new policy in block g, all but its elements -/
structure Gt (W0 wx : World) (g : Nat) (v1 v2 v3 : Value) (L1 : List RuleD) (L2 L3 : List ByteArray) (b : Bool) (d q : Int) : Prop where
  bl : Bl wx g 26 [.slice none 0 0, v1, v2, .bool b, v3, .int .i64 d, .int .i64 q]
  below : Below W0.heap.size W0 wx
  ge : W0.heap.size ≤ g
  o1 : ∃ F, kdR.own wx W0.heap.size v1 L1 F ∧ g ∉ F
  o2 : Own wx W0.heap.size v2 L2 ∧ v2.ownBlock ≠ some g
  o3 : Own wx W0.heap.size v3 L3 ∧ v3.ownBlock ≠ some g
theorem own_fr {w w' : World} {B g : Nat} {v : Value} {l : List ByteArray} (h : Own w B v l) (hf : Fr [g] w w') (hg : v.ownBlock ≠ some g) : Own w' B v l :=
  own_stay h fun k hk => hf.block k (own_ge2 h k hk).2 (by simp; intro e; subst e; exact hg (by simpa using hk))
theorem own_ne {w X : World} {B g : Nat} {v : Value} {l : List ByteArray} (h : Own w B v l) (hg : g < B ∨ w.heap.size ≤ g) : v.ownBlock ≠ some g := fun e => by
  have := own_ge2 h g (by rw [e]; simp)
  omega
section
variable {W0 X1 X2 X3 w1 w2 w3 : World} {g : Nat} {v1 v2 v3 : Value} {L1 : List RuleD} {L2 L3 : List ByteArray} {F1 : List Nat}
theorem Gt.early (a1 : Below W0.heap.size W0 X1) (hb1 : Below X1.heap.size X1 w1) (o1 : kdR.own w1 X1.heap.size v1 L1 F1) (a2 : Below w1.heap.size w1 X2) (hb2 : Below X2.heap.size X2 w2) (o2 : Own w2 X2.heap.size v2 L2)
    (a3 : Below w2.heap.size w2 X3) (hb3 : Below X3.heap.size X3 w3) (o3 : Own w3 X3.heap.size v3 L3) (hg : Bl w3 g 26 zeroC) (hge : W0.heap.size ≤ g)
    (n1 : g < X1.heap.size ∨ w1.heap.size ≤ g) (n2 : g < X2.heap.size ∨ w2.heap.size ≤ g) (n3 : g < X3.heap.size ∨ w3.heap.size ≤ g) (b : Bool) (d q : Int) :
    Gt W0 (((((((w3.setCell ⟨g, 0, none⟩ (.slice none 0 0)).setCell ⟨g, 1, none⟩ v1).setCell ⟨g, 2, none⟩ v2).setCell ⟨g, 3, none⟩ (.bool b)).setCell ⟨g, 4, none⟩ v3).setCell ⟨g, 5, none⟩ (.int .i64 d)).setCell ⟨g, 6, none⟩ (.int .i64 q)) g v1 v2 v3 L1 L2 L3 b d q := by
  have hfz := Fr.set7 w3 g (.slice none 0 0) v1 v2 (.bool b) v3 (.int .i64 d) (.int .i64 q)
  have b12 : Below w1.heap.size w1 w2 := a2.trans (hb2.mono a2.size)
  have b23 : Below w2.heap.size w2 w3 := a3.trans (hb3.mono a3.size)
  have b13 : Below w1.heap.size w1 w3 := b12.trans (b23.mono b12.size)
  have b01 : Below W0.heap.size W0 w1 := a1.trans (hb1.mono a1.size)
  have b03 : Below W0.heap.size W0 w3 := b01.trans (b13.mono b01.size)
  have s1 := a1.size
  have s2 := b01.size
  have s3 := a2.size
  have s4 := b12.size
  have s5 := a3.size
  refine ⟨hg.seven _ _ _ _ _ _ _, b03.trans (hfz.below b03.size (by simp; exact hge)), hge, ⟨F1, ?_, fun h => by have := kdR.ge o1 g h; omega⟩, ⟨?_, own_ne (X := w1) o2 n2⟩, own_fr (own_low o3 (by omega)) hfz (own_ne (X := w1) o3 n3), own_ne (X := w1) o3 n3⟩
  · refine kdR.low (kdR.keep o1 (Nat.le_trans b13.size hfz.size) fun k hk => ?_) s1
    have h9 := kdR.ge o1 k hk
    rw [hfz.block k (by have := b13.size; omega) (by simp; omega)]
    exact b13.block k h9.2
  · exact own_fr (Own.below (own_low o2 (by omega)) b23) hfz (own_ne (X := w1) o2 n2)
theorem Gt.late (a1 : Below W0.heap.size W0 X1) (hb1 : Below X1.heap.size X1 w1) (o1 : kdR.own w1 X1.heap.size v1 L1 F1) (a2 : Below w1.heap.size w1 X2) (hb2 : Below X2.heap.size X2 w2) (o2 : Own w2 X2.heap.size v2 L2)
    (a3 : Below w2.heap.size w2 X3) (hb3 : Below X3.heap.size X3 w3) (o3 : Own w3 X3.heap.size v3 L3) (b : Bool) (d q : Int) :
    Gt W0 (w3.alloc (.cells #[.slice none 0 0, v1, v2, .bool b, v3, .int .i64 d, .int .i64 q] 26)) w3.heap.size v1 v2 v3 L1 L2 L3 b d q := by
  have b12 : Below w1.heap.size w1 w2 := a2.trans (hb2.mono a2.size)
  have b23 : Below w2.heap.size w2 w3 := a3.trans (hb3.mono a3.size)
  have b13 : Below w1.heap.size w1 w3 := b12.trans (b23.mono b12.size)
  have b01 : Below W0.heap.size W0 w1 := a1.trans (hb1.mono a1.size)
  have b03 : Below W0.heap.size W0 w3 := b01.trans (b13.mono b01.size)
  have s1 := a1.size
  have s2 := b01.size
  have s3 := a2.size
  have s4 := b12.size
  have s5 := a3.size
  have s6 := hb3.size
  have s7 := b13.size
  have s8 := b23.size
  refine ⟨Bl.new w3 _ _ rfl, b03.alloc b03.size _, b03.size, ⟨F1, ?_, fun h => by have := kdR.ge o1 _ h; omega⟩, ⟨?_, own_ne (X := w1) o2 (.inr s8)⟩, Own.below (own_low o3 (by omega)) ((Below.refl _ _).alloc (Nat.le_refl _) _), own_ne (X := w1) o3 (.inr (Nat.le_refl _))⟩
  · refine kdR.low (kdR.keep o1 (by simp; omega) fun k hk => ?_) s1
    have h9 := kdR.ge o1 k hk
    rw [Below.heap_alloc _ _ _ (by omega)]
    exact b13.block k h9.2
  · exact Own.below (own_low o2 (by omega)) (b23.alloc b23.size _)
end

set_option maxHeartbeats 8000000 in
set_option maxRecDepth 100000 in
theorem rTidyC (x : Vs) (p : PolD) (w : World) (h : RdP w 0 w.heap.size x p) (hf : FitP p) (hd : Dif p) (hok : OkV p) : Calls Tryz.prog 20 #[polV x p] w fun e w' =>
    ∃ y, e = .returned (polV y (tidyP p)) ∧ RdP w' w.heap.size w'.heap.size y (tidyP p) ∧ Below w.heap.size w w' := by
  obtain ⟨i0, hi, iz0, iz1, iz2⟩ := info_parts infoEl
  obtain ⟨A1, c1, A2, c2, A3, c3, A4, c4, rfl, q1, q2, q3, q4, q5, q6, q7, q8⟩ := h.form
  have hrw : ∀ W, Below w.heap.size w W → RdP W 0 W.heap.size ⟨.slice A1 p.els.length c1, .slice A2 p.glob.length c2, .slice A3 p.schemes.length c3, .slice A4 p.drop.length c4⟩ p := fun W hW => (h.stay (stay_below hW (Nat.le_refl _))).wide (Nat.le_refl _) hW.size
  obtain ⟨⟨hf1, hf2⟩, hf3, hf4, hf5⟩ := hf
  have HTG : Hid (∀ W, Below w.heap.size w W → Calls Tryz.prog 69 #[.slice A2 p.glob.length c2] W fun e w' => ∃ A c F, e = .returned (.slice A (tidyRs p.glob).length c) ∧ kdR.own w' W.heap.size (.slice A (tidyRs p.glob).length c) (tidyRs p.glob) F ∧ Below W.heap.size W w') := Lib.hid fun W hW => (rTidyRC p.glob _ W (hrw W hW).2.1 hf3 hok.glob hd.glob).mono fun e w' ⟨v, F, he, ho, hb⟩ => by
    obtain ⟨A, c, rfl, _⟩ := fmR.own_form ho
    exact ⟨A, c, F, he, ho, hb⟩
  have HRS : Hid (∀ W, Below w.heap.size w W → Calls Tryz.prog 70 #[.slice A3 p.schemes.length c3] W fun e w' => ∃ A c, e = .returned (.slice A (srt p.schemes).length c) ∧ Own w' W.heap.size (.slice A (srt p.schemes).length c) (srt p.schemes) ∧ Below W.heap.size W w') := Lib.hid fun W hW => risingC _ p.schemes W (hrw W hW).2.2.1 hf4
  have HRW : Hid (∀ W, Below w.heap.size w W → Calls Tryz.prog 70 #[.slice A4 p.drop.length c4] W fun e w' => ∃ A c, e = .returned (.slice A (srt p.drop).length c) ∧ Own w' W.heap.size (.slice A (srt p.drop).length c) (srt p.drop) ∧ Below W.heap.size W w') := Lib.hid fun W hW => risingC _ p.drop W (hrw W hW).2.2.2 hf5
  obtain ⟨LG, hLG⟩ : ∃ L, L = (tidyRs p.glob).length := ⟨_, rfl⟩
  obtain ⟨LS, hLS⟩ : ∃ L, L = (srt p.schemes).length := ⟨_, rfl⟩
  obtain ⟨LD, hLD⟩ : ∃ L, L = (srt p.drop).length := ⟨_, rfl⟩
  rw [← hLG] at HTG
  rw [← hLS] at HRS
  rw [← hLD] at HRW
  have HLL := Lib.hid (And.intro hLG (And.intro hLS hLD))
  unfold polV
  obtain ⟨W0, hW0⟩ : ∃ W, W = (w.alloc (.cells #[.slice A1 p.els.length c1, .slice A2 p.glob.length c2, .slice A3 p.schemes.length c3, .bool p.rel, .slice A4 p.drop.length c4, .int .i64 p.depth, .int .i64 p.window] 26)).alloc (.cells #[.slice none 0 0, .slice none 0 0, .slice none 0 0, .bool false, .slice none 0 0, .int .i64 0, .int .i64 0] 26) := ⟨_, rfl⟩
  have hb0 : Below w.heap.size w W0 := hW0 ▸ ((Below.refl _ _).alloc (Nat.le_refl _) _).alloc (by simp) _
  have hsz0 : W0.heap.size = w.heap.size + 2 := by rw [hW0]; simp
  have k0 : Bl W0 w.heap.size 26 [.slice A1 p.els.length c1, .slice A2 p.glob.length c2, .slice A3 p.schemes.length c3, .bool p.rel, .slice A4 p.drop.length c4, .int .i64 p.depth, .int .i64 p.window] := hW0 ▸ (Bl.new w _ _ rfl).alloc _
  have k1 : Bl W0 (w.heap.size + 1) 26 [.slice none 0 0, .slice none 0 0, .slice none 0 0, .bool false, .slice none 0 0, .int .i64 0, .int .i64 0] := hW0 ▸ Bl.new _ _ _ (by simp)
  have HP : Hid (∀ W, Below W0.heap.size W0 W → W.cell? ⟨w.heap.size, 1, none⟩ = some (.slice A2 p.glob.length c2) ∧ W.cell? ⟨w.heap.size, 2, none⟩ = some (.slice A3 p.schemes.length c3) ∧ W.cell? ⟨w.heap.size, 3, none⟩ = some (.bool p.rel) ∧ W.cell? ⟨w.heap.size, 4, none⟩ = some (.slice A4 p.drop.length c4) ∧ W.cell? ⟨w.heap.size, 5, none⟩ = some (.int .i64 p.depth) ∧ W.cell? ⟨w.heap.size, 6, none⟩ = some (.int .i64 p.window)) := Lib.hid fun W hW => by
    have j := k0.below hW
    exact ⟨j.cell 1 rfl, j.cell 2 rfl, j.cell 3 rfl, j.cell 4 rfl, j.cell 5 rfl, j.cell 6 rfl⟩
  have hk0 := k0.lt
  have HQ : Hid (∀ (W : World) (g : Nat) (u0 u1 u2 u3 u4 u5 u6 : Value), Below W0.heap.size W0 W → Bl W g 26 zeroC → W0.heap.size ≤ g → (((((((W.setCell ⟨g, 0, none⟩ u0).setCell ⟨g, 1, none⟩ u1).setCell ⟨g, 2, none⟩ u2).setCell ⟨g, 3, none⟩ u3).setCell ⟨g, 4, none⟩ u4).setCell ⟨g, 5, none⟩ u5).setCell ⟨g, 6, none⟩ u6).cell? ⟨w.heap.size, 1, none⟩ = some (.slice A2 p.glob.length c2) ∧ (((((((W.setCell ⟨g, 0, none⟩ u0).setCell ⟨g, 1, none⟩ u1).setCell ⟨g, 2, none⟩ u2).setCell ⟨g, 3, none⟩ u3).setCell ⟨g, 4, none⟩ u4).setCell ⟨g, 5, none⟩ u5).setCell ⟨g, 6, none⟩ u6).cell? ⟨w.heap.size, 2, none⟩ = some (.slice A3 p.schemes.length c3) ∧ (((((((W.setCell ⟨g, 0, none⟩ u0).setCell ⟨g, 1, none⟩ u1).setCell ⟨g, 2, none⟩ u2).setCell ⟨g, 3, none⟩ u3).setCell ⟨g, 4, none⟩ u4).setCell ⟨g, 5, none⟩ u5).setCell ⟨g, 6, none⟩ u6).cell? ⟨w.heap.size, 3, none⟩ = some (.bool p.rel) ∧ (((((((W.setCell ⟨g, 0, none⟩ u0).setCell ⟨g, 1, none⟩ u1).setCell ⟨g, 2, none⟩ u2).setCell ⟨g, 3, none⟩ u3).setCell ⟨g, 4, none⟩ u4).setCell ⟨g, 5, none⟩ u5).setCell ⟨g, 6, none⟩ u6).cell? ⟨w.heap.size, 4, none⟩ = some (.slice A4 p.drop.length c4) ∧ (((((((W.setCell ⟨g, 0, none⟩ u0).setCell ⟨g, 1, none⟩ u1).setCell ⟨g, 2, none⟩ u2).setCell ⟨g, 3, none⟩ u3).setCell ⟨g, 4, none⟩ u4).setCell ⟨g, 5, none⟩ u5).setCell ⟨g, 6, none⟩ u6).cell? ⟨w.heap.size, 5, none⟩ = some (.int .i64 p.depth) ∧ (((((((W.setCell ⟨g, 0, none⟩ u0).setCell ⟨g, 1, none⟩ u1).setCell ⟨g, 2, none⟩ u2).setCell ⟨g, 3, none⟩ u3).setCell ⟨g, 4, none⟩ u4).setCell ⟨g, 5, none⟩ u5).setCell ⟨g, 6, none⟩ u6).cell? ⟨w.heap.size, 6, none⟩ = some (.int .i64 p.window)) := Lib.hid fun W g u0 u1 u2 u3 u4 u5 u6 hW _ hg => by
    have j := Bl.oth7 (k0.below hW) (g := g) (by omega) u0 u1 u2 u3 u4 u5 u6
    exact ⟨j.cell 1 rfl, j.cell 2 rfl, j.cell 3 rfl, j.cell 4 rfl, j.cell 5 rfl, j.cell 6 rfl⟩
  have HRWD := Lib.hid hrw
  have HF2 := Lib.hid hf2
  have HD := Lib.hid hd
  have HOK := Lib.hid hok
  have HX := Lib.hid hW0
  have HS0 := Lib.hid hsz0
  have hz0 := hb0.size
  have hd0 : Below W0.heap.size W0 W0.drew := drw W0 1
  obtain ⟨a1, a2, a3, a4, a5, a6⟩ := HP.out _ (Below.refl _ _)
  clear h hrw hf2 hf3 hd hok hW0 hsz0 hLG hLS hLD
  go_enter Tryz.func20, Tryz.ntmps20
  go_upto_region 1 with fail
  rw [← HX.out]
  go_cut [3] from 8 (fun s3 wx => ∃ (g : Nat) (B1 B2 B3 : Option Addr) (d1 d2 d3 : Nat), s3 = .pointer (some ⟨g, 0, none⟩) ∧ Gt W0 wx g (.slice B1 LG d1) (.slice B2 LS d2) (.slice B3 LD d3) (tidyRs p.glob) (srt p.schemes) (srt p.drop) p.rel p.depth p.window)
  case first =>
    have hd1 : Below W0.heap.size W0 ((W0.alloc (.cells #[.slice none 0 0, .slice none 0 0, .slice none 0 0, .bool false, .slice none 0 0, .int .i64 0, .int .i64 0] 26)).drew) := ((Below.refl _ _).alloc (Nat.le_refl _) _).drew
    go_region_held3 (fun W' => W'.cell? ⟨w.heap.size, 1, none⟩ = some (.slice A2 p.glob.length c2) ∧ W'.cell? ⟨w.heap.size, 2, none⟩ = some (.slice A3 p.schemes.length c3) ∧ W'.cell? ⟨w.heap.size, 3, none⟩ = some (.bool p.rel) ∧ W'.cell? ⟨w.heap.size, 4, none⟩ = some (.slice A4 p.drop.length c4) ∧ W'.cell? ⟨w.heap.size, 5, none⟩ = some (.int .i64 p.depth) ∧ W'.cell? ⟨w.heap.size, 6, none⟩ = some (.int .i64 p.window))
      (first | with_reducible exact ⟨a1, a2, a3, a4, a5, a6⟩ | with_reducible exact HP.out _ h1 | with_reducible exact HP.out _ h2 | with_reducible exact HP.out _ h3 | with_reducible exact sf.out | with_reducible exact HP.out _ (h1.alloc h1.size _) | with_reducible exact HP.out _ (h2.alloc h2.size _) | with_reducible exact HP.out _ (h3.alloc h3.size _) | with_reducible exact HP.out _ hd0 | with_reducible exact HP.out _ hd1 | go_keep)
      (first
        | (go_at_call 69; refine (HTG.out _ (by first | exact hb0.drew | exact hb0.trans (hd1.mono hz0))).mono ?_; rintro e w1 ⟨B1, d1, F1, rfl, ho1, hb1⟩; have h1 : Below W0.heap.size W0 w1 := (by first | exact hd0.trans hb1 | exact hd1.trans (hb1.mono hd1.size)); have n1 := (by first | exact (Bl.drew (Bl.new W0 _ _ rfl) 1).below hb1 | exact True.intro))
        | (go_at_call 70; have _z := h2; refine (HRW.out _ (by first | exact hb0.trans (h2.mono hz0) | exact hb0.trans ((h2.alloc h2.size _).mono hz0))).mono ?_; rintro e w3 ⟨B3, d3, rfl, ho3, hb3⟩; have h3 : Below W0.heap.size W0 w3 := (by first | exact h2.trans (hb3.mono h2.size) | exact (h2.alloc h2.size _).trans (hb3.mono (h2.alloc h2.size _).size)); have n3 := (by first | exact n2.below hb3 | exact (Bl.new w2 _ _ rfl).below hb3 | exact True.intro); have y1 := h1.size; have y2 := h2.size; have st := (by first | exact n3.store7 (.slice none 0 0) (.slice B1 LG d1) (.slice B2 LS d2) (.bool p.rel) (.slice B3 LD d3) (.int .i64 p.depth) (.int .i64 p.window) | exact True.intro); have sf := (by first | exact Lib.hid (HQ.out _ _ (.slice none 0 0) (.slice B1 LG d1) (.slice B2 LS d2) (.bool p.rel) (.slice B3 LD d3) (.int .i64 p.depth) (.int .i64 p.window) h3 n3 (by omega)) | exact Lib.hid True.intro))
        | (go_at_call 70; refine (HRS.out _ (by first | exact hb0.trans (h1.mono hz0) | exact hb0.trans ((h1.alloc h1.size _).mono hz0))).mono ?_; rintro e w2 ⟨B2, d2, rfl, ho2, hb2⟩; have h2 : Below W0.heap.size W0 w2 := (by first | exact h1.trans (hb2.mono h1.size) | exact (h1.alloc h1.size _).trans (hb2.mono (h1.alloc h1.size _).size)); have n2 := (by first | exact n1.below hb2 | exact (Bl.new w1 _ _ rfl).below hb2 | exact True.intro)))
    all_goals (
      go_wp2_with fail
      go_meet
      have s1 := hb1.size
      have s2 := hb2.size
      have s3 := hb3.size
      try simp at s1
      try simp at s2
      try simp at s3
      have y3 := h3.size
      first
      | exact ⟨_, B1, B2, B3, d1, d2, d3, rfl, Gt.late (X1 := W0.drew) (X2 := w1) (X3 := w2) hd0 hb1 ho1 (Below.refl _ _) hb2 ho2 (Below.refl _ _) hb3 ho3 p.rel p.depth p.window⟩
      | exact ⟨_, B1, B2, B3, d1, d2, d3, rfl, Gt.early (X1 := W0.drew) (X2 := w1) (X3 := w2.alloc (.cells #[.slice none 0 0, .slice none 0 0, .slice none 0 0, .bool false, .slice none 0 0, .int .i64 0, .int .i64 0] 26)) hd0 hb1 ho1 (Below.refl _ _) hb2 ho2 ((Below.refl _ _).alloc (Nat.le_refl _) _) hb3 ho3 n3 (by omega) (.inr (by omega)) (.inr (by omega)) (.inl (by simp)) p.rel p.depth p.window⟩
      | exact ⟨_, B1, B2, B3, d1, d2, d3, rfl, Gt.early (X1 := W0.drew) (X2 := w1.alloc (.cells #[.slice none 0 0, .slice none 0 0, .slice none 0 0, .bool false, .slice none 0 0, .int .i64 0, .int .i64 0] 26)) (X3 := w2) hd0 hb1 ho1 ((Below.refl _ _).alloc (Nat.le_refl _) _) hb2 ho2 (Below.refl _ _) hb3 ho3 n3 (by omega) (.inr (by omega)) (.inl (by simp)) (.inl (by omega)) p.rel p.depth p.window⟩
      | exact ⟨_, B1, B2, B3, d1, d2, d3, rfl, Gt.early (X1 := (W0.alloc (.cells #[.slice none 0 0, .slice none 0 0, .slice none 0 0, .bool false, .slice none 0 0, .int .i64 0, .int .i64 0] 26)).drew) (X2 := w1) (X3 := w2) hd1 hb1 ho1 (Below.refl _ _) hb2 ho2 (Below.refl _ _) hb3 ho3 n3 (by omega) (.inl (by show W0.heap.size < (W0.alloc _).heap.size; simp)) (.inl (by omega)) (.inl (by omega)) p.rel p.depth p.window⟩)
  case rest =>
    obtain ⟨g, B1, B2, B3, d1, d2, d3, rfl, hG⟩ := hcut
    have HG := Lib.hid hG
    have hbc := hG.below
    have hge := hG.ge
    have a0 := (k0.below hbc).cell 0 rfl
    obtain ⟨a1, a2, a3, a4, a5, a6⟩ := HP.out _ hbc
    clear hG
    have hwc : Below w.heap.size w wc := hb0.trans (hbc.mono hz0)
    have hzc := hwc.size
    have HNA := Lib.hid (rNamesC ⟨.slice A1 p.els.length c1, .slice A2 p.glob.length c2, .slice A3 p.schemes.length c3, .slice A4 p.drop.length c4⟩ p wc (HRWD.out wc hwc) (by omega))
    have HRI : Hid (∀ W v, kdW.rd W 0 W.heap.size v (nms p) → Calls Tryz.prog 70 #[v] W fun e w' => ∃ A c, e = .returned (.slice A (srt (nms p)).length c) ∧ Own w' W.heap.size (.slice A (srt (nms p)).length c) (srt (nms p)) ∧ Below W.heap.size W w') := Lib.hid fun W v hv => risingC v (nms p) W hv (by unfold nms; rw [List.length_map]; omega)
    have hnl : (srt (nms p)).length = p.els.length := by rw [srt_len]; unfold nms; rw [List.length_map]
    have HNE : Hid ((srt (nms p)).map (tidyN p) = (tidyP p).els) := Lib.hid (tidy_els HD.out.els)
    obtain ⟨ns, hns⟩ : ∃ ns, ns = srt (nms p) := ⟨_, rfl⟩
    rw [← hns] at HRI hnl HNE
    have HTE : Hid (∀ (n : ByteArray) W v, kdR.rd W 0 W.heap.size v ((fndE p.els n).getD el0).rules → Calls Tryz.prog 69 #[v] W fun e w' => ∃ A c F, e = .returned (.slice A (tidyN p n).rules.length c) ∧ kdR.own w' W.heap.size (.slice A (tidyN p n).rules.length c) (tidyN p n).rules F ∧ Below W.heap.size W w') := Lib.hid fun n W v hv => by
      have h9 : FitR ((fndE p.els n).getD el0).rules ∧ OkW ((fndE p.els n).getD el0).rules ∧ (((fndE p.els n).getD el0).rules.map RuleD.name).Nodup := by
        cases he : fndE p.els n with
        | none => exact ⟨⟨by simp [el0], fun i hi => by simp [el0] at hi⟩, ⟨by simp [el0], fun i hi => by simp [el0] at hi⟩, by simp [el0]⟩
        | some e =>
          obtain ⟨i, hi, rfl⟩ := List.getElem_of_mem (List.mem_of_find?_eq_some he)
          exact ⟨HF2.out i hi, HOK.out.rules i hi, HD.out.rules i hi⟩
      refine (rTidyRC _ v W hv h9.1 h9.2.1 h9.2.2).mono fun e w' ⟨v, F, he, ho, hb⟩ => ?_
      obtain ⟨A, c, rfl, _⟩ := fmR.own_form ho
      exact ⟨A, c, F, he, ho, hb⟩
    have HFD : Hid (∀ (n : ByteArray) W, w.heap.size ≤ W.heap.size → RdP W 0 w.heap.size ⟨.slice A1 p.els.length c1, .slice A2 p.glob.length c2, .slice A3 p.schemes.length c3, .slice A4 p.drop.length c4⟩ p → Calls Tryz.prog 26 #[polV ⟨.slice A1 p.els.length c1, .slice A2 p.glob.length c2, .slice A3 p.schemes.length c3, .slice A4 p.drop.length c4⟩ p, .string n] W fun e w' => ∃ A c, e = .returned (.tuple #[.agg #[.string ((fndE p.els n).getD el0).name, .slice A ((fndE p.els n).getD el0).rules.length c], .bool (fndE p.els n).isSome]) ∧ kdR.rd w' 0 w.heap.size (.slice A ((fndE p.els n).getD el0).rules.length c) ((fndE p.els n).getD el0).rules ∧ Below W.heap.size W w') := Lib.hid fun n W hW h => (findC _ p n W w.heap.size hW h).mono fun e w' ⟨u, he, ho, hb⟩ => by obtain ⟨A, c, rfl, _⟩ := fmR.rd_form ho; exact ⟨A, c, he, ho, hb⟩
    have HRP : Hid (RdP w 0 w.heap.size ⟨.slice A1 p.els.length c1, .slice A2 p.glob.length c2, .slice A3 p.schemes.length c3, .slice A4 p.drop.length c4⟩ p) := Lib.hid (HRWD.out w (Below.refl _ _))
    unfold polV at HNA HFD
    simp only at HNA HFD
    clear hns HQ HTG HRS HRW
    go_wp2_with (first
      | (go_at_call 46; refine HNA.out.mono ?_; rintro e w4 ⟨D4, e4, rfl, ho4, hb4⟩)
      | (go_at_call 70; refine (HRI.out w4 _ (rd_own ho4)).mono ?_; rintro e w5 ⟨D5, e5, rfl, ho5, hb5⟩))
    have hz4 := hb4.size
    have hc5 : Below wc.heap.size wc w5 := hb4.trans (hb5.mono hz4)
    have hw5 : Below w.heap.size w w5 := hwc.trans (hc5.mono hzc)
    have hz5 := hc5.size
    obtain ⟨B0, hB0⟩ : ∃ B, B = w5.heap.size := ⟨_, rfl⟩
    have hg1 : w.heap.size + 2 ≤ g := by have := HS0.out; omega
    have hg2 : g < wc.heap.size := HG.out.bl.lt
    have HROW : Hid (∀ W, Fr [g] w5 W → kdW.rd W wc.heap.size w5.heap.size (.slice D5 ns.length e5) ns) := Lib.hid fun W hW => kdW.stay (kdW.read (own_F ho5) (by omega) (Nat.le_refl _)) fun k h1 h2 => hW.block k h2 (by simp; omega)
    have HSRC : Hid (∀ W, Fr [g] w5 W → RdP W 0 w.heap.size ⟨.slice A1 p.els.length c1, .slice A2 p.glob.length c2, .slice A3 p.schemes.length c3, .slice A4 p.drop.length c4⟩ p ∧ Bl W w.heap.size 26 [.slice A1 p.els.length c1, .slice A2 p.glob.length c2, .slice A3 p.schemes.length c3, .bool p.rel, .slice A4 p.drop.length c4, .int .i64 p.depth, .int .i64 p.window] ∧ Bl W (w.heap.size + 1) 26 [.slice none 0 0, .slice none 0 0, .slice none 0 0, .bool false, .slice none 0 0, .int .i64 0, .int .i64 0]) := Lib.hid fun W hW => by
      have k05 := ((k0.below hbc).below hc5)
      have k15 := ((k1.below hbc).below hc5)
      exact ⟨HRP.out.stay fun k _ hk => (hW.block k (by omega) (by simp; omega)).trans (hw5.block k hk), k05.of (hW.block _ k05.lt (by simp; omega)), k15.of (hW.block _ k15.lt (by simp; omega))⟩
    have m3 := HG.out.bl.below hc5
    have hst0 : Hid ([].map (fun t : It ElD => t.a) = (ns.take 0).map (tidyN p) ∧ w5.ownsRow B0 45 2 (.slice none 0 0) ([] : List (It ElD)).length (fmE.cells []) ∧ (∀ t ∈ ([] : List (It ElD)), kdR.own w5 B0 t.v t.a.rules t.G) ∧ ((Value.slice none 0 0).ownBlock.toList ++ outG ([] : List (It ElD))).Nodup) := Lib.hid ⟨by simp, World.ownsRow_nil _ _ _ _, by simp, by simp [Value.ownBlock, outG]⟩
    have hfr0 : Hid (Fr [g] w5 w5) := Lib.hid (Fr.refl _ _)
    clear ho4 ho5 a0 a1 a2 a3 a4 a5 a6
    have hnm : (ns.length : Int) ≤ 9223372036854775807 := by omega
    go_loopw [28] (fun i wr => ∃ (k : Nat) (v0 : Value) (T : List (It ElD)), k ≤ ns.length ∧ i = .int .i64 k ∧ Hid (T.map (·.a) = (ns.take k).map (tidyN p) ∧ wr.ownsRow B0 45 2 v0 T.length (fmE.cells T) ∧ (∀ t ∈ T, kdR.own wr B0 t.v t.a.rules t.G) ∧ (v0.ownBlock.toList ++ outG T).Nodup) ∧
      Bl wr g 26 [v0, .slice B1 LG d1, .slice B2 LS d2, .bool p.rel, .slice B3 LD d3, .int .i64 p.depth, .int .i64 p.window] ∧ Hid (Fr [g] w5 wr)) (fun i _ => ns.length - (intOf i).toNat)
    case atStart => exact ⟨0, _, [], by omega, rfl, hst0, m3, hfr0⟩
    case round =>
      clear m3 hst0 hfr0
      obtain ⟨k, v0, T, hk, rfl, hown, m3, hfr⟩ := hrel
      have hzr := hfr.out.size
      by_cases hlt : k < ns.length
      · obtain ⟨b6, off6, rfl, _, _, hc6⟩ := rdW_at (HROW.out _ hfr.out) hlt
        obtain ⟨n, hn⟩ : ∃ n, n = ns[k] := ⟨_, rfl⟩
        rw [← hn] at hc6
        obtain ⟨hsr, k0r, _⟩ := HSRC.out _ hfr.out
        have HFN := Lib.hid (HFD.out n wr (by omega) hsr)
        have a0 := k0r.cell 0 rfl
        have a1 := k0r.cell 1 rfl
        have a2 := k0r.cell 2 rfl
        have a3 := k0r.cell 3 rfl
        have a4 := k0r.cell 4 rfl
        have a5 := k0r.cell 5 rfl
        have a6 := k0r.cell 6 rfl
        have hTl : T.length = k := by have := congrArg List.length hown.out.1; simp at this; omega
        have g1 : T.length + 1 ≤ maxLen := by unfold maxLen; omega
        have g2 : (T.length + 1) * 40 ≤ 140737488355328 := by omega
        have HTL := Lib.hid hTl
        have HNS := Lib.hid hn
        have HTN := Lib.hid (HTE.out n)
        have hk0' : (0 : Int) ≤ (k : Int) := by omega
        have hk1' : (k : Int) < (ns.length : Int) := by omega
        clear hTl hn hsr
        have hname : (tidyN p n).name = n := rfl
        obtain ⟨E, hE⟩ : ∃ E, E = (fndE p.els n).getD el0 := ⟨_, rfl⟩
        rw [← hE] at HFN HTN
        have hes : fmE.sub E = E.rules := rfl
        obtain ⟨TE, hTE⟩ : ∃ E, E = tidyN p n := ⟨_, rfl⟩
        rw [← hTE] at HTN
        have HTE2 := Lib.hid hTE
        clear hE hTE hname hes
        go_upto_region 6 with (go_at_call 26; refine HFN.out.mono ?_; rintro e w6 ⟨A5, c5, rfl, ho6, hb6⟩)
        obtain ⟨W6, hW6⟩ : ∃ W, W = w6.alloc (.cells #[.string E.name, .slice A5 E.rules.length c5] 45) := ⟨_, rfl⟩
        have hb66 : Below w6.heap.size w6 W6 := hW6 ▸ (Below.refl _ _).alloc (Nat.le_refl _) _
        have hb0' : Below wr.heap.size wr W6 := hb6.trans (hb66.mono hb6.size)
        have k5 : Bl W6 w6.heap.size 45 [.string E.name, .slice A5 E.rules.length c5] := hW6 ▸ Bl.new w6 _ _ rfl
        have n3 := m3.below hb0'
        have x0 := n3.cell 0 rfl
        have y1 := k5.cell 1 rfl
        have hm3 := m3.lt
        have hz6 := hb0'.size
        have hrd6 : kdR.rd W6.drew 0 W6.drew.heap.size (.slice A5 E.rules.length c5) E.rules := kdR.wide (kdR.stay ho6 fun j _ hj => hb66.block j (by have := hb6.size; omega)) (Nat.le_refl _) (by show w.heap.size ≤ W6.heap.size; omega)
        have HT6 := Lib.hid (HTN.out W6.drew _ hrd6)
        rw [← hW6]
        have HX6 := Lib.hid hW6
        have how := hown.out.2.1
        clear hW6 ho6 hrd6 a0 a1 a2 a3 a4 a5 a6 hc6
        go_region_law (first
          | (go_simp; go_at_call 69; refine HT6.out.mono ?_; rintro e w2 ⟨A6, c6, G, rfl, ho2, hb2'⟩; have hb3 : Below wr.heap.size wr w2 := hb0'.drew.trans (hb2'.mono hb0'.size); have hzy := hb3.size; have n6 := (n3.below (w' := W6.drew) (drw W6 1)).below hb2'; have x1 := n6.cell 0 rfl; have n7 := n6.alloc (.cells #[.string n, .slice A6 TE.rules.length c6] 45); have x2 := n7.cell 0 rfl; have how2 := own_stay how (w' := w2) (fun k hk => hb3.block k (own_ge2 how k hk).2))
          | (refine step_append_lies _ (by rfl) (.tmp 39) (.tmp 45) 22 (by rfl) B0 45 i0 _ 2 40 Tryz.underlying22 hi iz0 iz1 iz2 rfl (by decide) v0 T.length (fmE.cells T) (by rfl) (by exact how2.alloc _) ⟨w2.heap.size, 0, none⟩ 1 1 [.string n, .slice A6 TE.rules.length c6] (by rfl) (by rfl) (by exact World.news_of_block (heap_alloc_new w2 _)) (by simp [Value.oneCell']) (by decide) g1 g2 (by simp; omega) _ rfl ?_; intro g9 cap9 w9 hown9 hgrow9 hat9 hlt9; have n9 := n7.of (hgrow9.block _ (by simp; omega) (fun e => by have := (how.lt _ e.symm).1; omega)); have x3 := n9.cell 0 rfl; have x4 := n9.fz 0))
        all_goals (
          have hp := fmE.push (t := ⟨⟨n, TE.rules⟩, .slice A6 TE.rules.length c6, G⟩) how hown.out.2.2.1 hown.out.2.2.2 hb3 (by omega) (kdR.low ho2 hz6) hown9 hgrow9 (hat9.elim (fun h => .inl h.symm) (fun h => .inr (congrArg some h)))
          obtain ⟨F9, hF9⟩ : ∃ F, F = (Value.slice (some ⟨g9, 0, none⟩) (T.length + 1) cap9).ownBlock.toList ++ outG (T ++ [⟨⟨n, TE.rules⟩, .slice A6 TE.rules.length c6, G⟩]) := ⟨_, rfl⟩
          rw [← hF9] at hp
          have m3' := n9.set 0 (.slice (some ⟨g9, 0, none⟩) (T.length + 1) cap9)
          have hp' := kdE.keep (w' := w9.setCell ⟨g, 0, none⟩ (.slice (some ⟨g9, 0, none⟩) (T.length + 1) cap9)) hp (by simp [World.setCell]) (fun j hj => Below.heap_setCell _ _ _ _ (by have := (kdE.ge hp j hj).1; show j ≠ g; omega))
          obtain ⟨T2, hT2, ho9, hs9, hF9', hn9⟩ := hp'
          have hb9 : Below w5.heap.size wr w9 := (((hb3.mono (by omega : w5.heap.size ≤ wr.heap.size)).alloc (by omega) _).grown hgrow9 (by simp; omega) (fun j hj => by have := (how.lt j hj).1; omega))
          have hfr9 : Hid (Fr [g] w5 (w9.setCell ⟨g, 0, none⟩ (.slice (some ⟨g9, 0, none⟩) (T.length + 1) cap9))) := Lib.hid ((Fr.then_below hfr.out hb9).trans (Fr.setCell _ ⟨g, 0, none⟩ _ (.inl (by simp))))
          have hrel : Hid (T2.map (·.a) = (ns.take (k + 1)).map (tidyN p) ∧ (w9.setCell ⟨g, 0, none⟩ (.slice (some ⟨g9, 0, none⟩) (T.length + 1) cap9)).ownsRow B0 45 2 (.slice (some ⟨g9, 0, none⟩) (T.length + 1) cap9) T2.length (fmE.cells T2) ∧ (∀ t ∈ T2, kdR.own (w9.setCell ⟨g, 0, none⟩ (.slice (some ⟨g9, 0, none⟩) (T.length + 1) cap9)) B0 t.v t.a.rules t.G) ∧ ((Value.slice (some ⟨g9, 0, none⟩) (T.length + 1) cap9).ownBlock.toList ++ outG T2).Nodup) :=
            Lib.hid ⟨by rw [hT2, hown.out.1, List.take_succ_eq_append_getElem hlt, List.map_append, ← HNS.out]; show _ = _ ++ [tidyN p n]; rw [← HTE2.out]; congr 1; rw [HTE2.out]; rfl, ho9, hs9, hF9' ▸ hn9⟩
          clear hp hF9 ho9 hs9 hF9' hn9 hT2 hown9 hgrow9 hat9 how how2 ho2 n9 n7 n6 x0 x1 x2 x3 x4 y1
          go_wp2
          go_roundw
          case rel => exact ⟨k + 1, _, T2, by omega, by go_num, hrel, m3', hfr9⟩
          case measure => simp [intOf] <;> omega)
      · obtain rfl : k = ns.length := by omega
        obtain ⟨A9, c9, rfl, _⟩ := own_slice hown.out.2.1
        obtain ⟨_, k0r, k1r⟩ := HSRC.out _ hfr.out
        have v0 := m3.cell 0 rfl
        have v1 := m3.cell 1 rfl
        have v2 := m3.cell 2 rfl
        have v3 := m3.cell 3 rfl
        have v4 := m3.cell 4 rfl
        have v5 := m3.cell 5 rfl
        have v6 := m3.cell 6 rfl
        obtain ⟨s0, s1, s2, s3, s4, s5, s6, s7, s8, s9, s10, s11, s12, s13⟩ := k1r.store7 (.slice A9 T.length c9) (.slice B1 LG d1) (.slice B2 LS d2) (.bool p.rel) (.slice B3 LD d3) (.int .i64 p.depth) (.int .i64 p.window)
        have jz := k1r.seven (.slice A9 T.length c9) (.slice B1 LG d1) (.slice B2 LS d2) (.bool p.rel) (.slice B3 LD d3) (.int .i64 p.depth) (.int .i64 p.window)
        have hfz := Fr.set7 wr (w.heap.size + 1) (.slice A9 T.length c9) (.slice B1 LG d1) (.slice B2 LS d2) (.bool p.rel) (.slice B3 LD d3) (.int .i64 p.depth) (.int .i64 p.window)
        have HFZ := Lib.hid hfz
        clear hfz k0r
        go_wp2
        refine bodyPost_ret (res_cell Tryz.results20 rfl jz Tryz.underlying26 rfl (by kernel_rfl)) rfl ?_
        have hfz := HFZ.out
        have hs0 := HS0.out
        have hT9 : T.map (·.a) = (tidyP p).els := by rw [hown.out.1, List.take_length, HNE.out]
        obtain ⟨l1, l2, l3⟩ := HLL.out
        have hwr : Below w.heap.size w wr := hw5.trans (hfr.out.below hw5.size (by simp; omega))
        have hge1 := fun k hk => own_ge2 hown.out.2.1 k hk
        obtain ⟨F1, o1, f1⟩ := HG.out.o1
        obtain ⟨o2, f2⟩ := HG.out.o2
        obtain ⟨o3, f3⟩ := HG.out.o3
        have st1 : ∀ k, k < wc.heap.size → k ≠ g → k ≠ w.heap.size + 1 → wr.heap[k]? = wc.heap[k]? := fun k h1 h2 _ => (hfr.out.block k (by omega) (by simpa using h2)).trans (hc5.block k h1)
        refine ⟨⟨.slice A9 T.length c9, .slice B1 LG d1, .slice B2 LS d2, .slice B3 LD d3⟩, rfl, ⟨?_, ?_, ?_, ?_⟩, hwr.trans (hfz.below hwr.size (by simp))⟩
        · have h8 : kdE.own wr B0 (.slice A9 T.length c9) (tidyP p).els ((Value.slice A9 T.length c9).ownBlock.toList ++ outG T) := ⟨T, hT9, hown.out.2.1, hown.out.2.2.1, rfl, hown.out.2.2.2⟩
          have h9 := kdE.keep h8 hfz.size fun k hk => hfz.block k (kdE.ge h8 k hk).2 (by have := (kdE.ge h8 k hk).1; simp; omega)
          exact kdE.read h9 (by omega) (Nat.le_refl _)
        · have h8 := kdR.keep o1 (Nat.le_trans (Nat.le_trans hz5 hzr) hfz.size) fun k hk => by
            have h7 := kdR.ge o1 k hk
            rw [hfz.block k (by omega) (by simp; omega), st1 k h7.2 (fun e => f1 (e ▸ hk)) (by omega)]
          exact kdR.read h8 (by omega) (Nat.le_refl _)
        · have h8 := own_stay o2 fun k hk => by
            have h7 := own_ge2 o2 k hk
            rw [hfz.block k (by omega) (by simp; omega), st1 k h7.2 (fun e => f2 (by rw [← e]; simpa using hk)) (by omega)]
          exact kdW.read (own_F h8) (by omega) (Nat.le_refl _)
        · have h8 := own_stay o3 fun k hk => by
            have h7 := own_ge2 o3 k hk
            rw [hfz.block k (by omega) (by simp; omega), st1 k h7.2 (fun e => f3 (by rw [← e]; simpa using hk)) (by omega)]
          exact kdW.read (own_F h8) (by omega) (Nat.le_refl _)
end Go.Proofs.YtjhimmljanbjcaaGreatDoor.Tt
