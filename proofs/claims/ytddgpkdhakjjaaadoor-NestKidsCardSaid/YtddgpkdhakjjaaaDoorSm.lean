/- nest: a right stack stays right behind a plan, and what asked for it then asks nothing. No program. -/
import Derived.Test.YtddgpkdhakjjaaaDoorSl
set_option linter.unusedVariables false
set_option linter.unusedSimpArgs false
namespace Go.Proofs.YtddgpkdhakjjaaaDoor.Sm
open Go.Proofs.YtddgpkdhakjjaaaDoor.Np hiding is_li is_dt is_dd is_textarea is_a
open Go.RowKit Lb Fl Is Tp Wk Wp Wi Wo Pt Oc Pm Go.Proofs.YtddgpkdhakjjaaaDoor.Ask Rt Go.Proofs.YtddgpkdhakjjaaaDoor.Op Aw Lt En El Rn Ri Rj Rp Rq Go.Proofs.YtddgpkdhakjjaaaDoor.Eq Sl

/-- right, no textarea, and what asks nothing more of what stands further below -/
structure Good (y : ByteArray) (t : List ByteArray) : Prop where
  right : rightB t = true
  nota : ∀ x ∈ t, is_textarea x = false
  a : is_a y = true → tm (namedB s_a) cellB t < 0
  hd : headB y = true → tm headB wallB t < 0
  bl : inS y 6 = true → tm (namedB s_p) wallB t < 0
theorem nota_top {t : List ByteArray} (h : ∀ x ∈ t, is_textarea x = false) : is_textarea (topS t) = false := by
  rcases topS_mem t with e | e
  · rw [e]; decide +kernel
  · exact h _ e
theorem Good.fit {y : ByteArray} {t : List ByteArray} (h : Good y t) (hp : plc t y) : Fit t y := ⟨nota_top h.nota, h.a, h.hd, h.bl, hp⟩
/-- a name that asks nothing of what stands further below -/
def Mild (y : ByteArray) : Prop := is_a y = false ∧ headB y = false ∧ inS y 6 = false
theorem mild_of {y : ByteArray} {t : List ByteArray} (h : Mild y) (hr : rightB t = true) (hn : ∀ x ∈ t, is_textarea x = false) : Good y t :=
  ⟨hr, hn, fun e => (by rw [h.1] at e; cases e), fun e => (by rw [h.2.1] at e; cases e), fun e => (by rw [h.2.2] at e; cases e)⟩
theorem plc1 {t : List ByteArray} {y : ByteArray} (hk : kd y = 1) (h : is_table (topS t) = true) : plc t y := by
  unfold plc
  rw [hk]
  exact ⟨fun _ => h, by simp, by simp, by simp, by simp, by simp, by simp⟩
theorem plc2 {t : List ByteArray} {y : ByteArray} (hk : kd y = 2) (h : is_tr (topS t) = true) : plc t y := by
  unfold plc
  rw [hk]
  exact ⟨by simp, fun _ => h, by simp, by simp, by simp, by simp, by simp⟩
theorem plc3 {t : List ByteArray} {y : ByteArray} (hk : kd y = 3) (h : is_colgroup (topS t) = true) : plc t y := by
  unfold plc
  rw [hk]
  exact ⟨by simp, by simp, fun _ => h, by simp, by simp, by simp, by simp⟩
theorem plc4 {t : List ByteArray} {y : ByteArray} (hk : kd y = 4) (h : groupB (topS t) = true) : plc t y := by
  unfold plc
  rw [hk]
  exact ⟨by simp, by simp, by simp, fun _ => h, by simp, by simp, by simp⟩
theorem plcL {t : List ByteArray} {y : ByteArray} (hk : kd y = 0) (hl : is_li y = true) (h : listB (topS t) = true) : plc t y := by
  unfold plc
  rw [hk, hl]
  exact ⟨by simp, by simp, by simp, by simp, fun _ _ => h, by simp, by simp⟩
theorem plcD {t : List ByteArray} {y : ByteArray} (hk : kd y = 0) (hl : is_li y = false) (hd : (is_dt y || is_dd y) = true) (h : is_dl (topS t) = true) : plc t y := by
  unfold plc
  rw [hk, hl, hd]
  exact ⟨by simp, by simp, by simp, by simp, by simp, fun _ _ _ => h, by simp⟩
theorem plcO {t : List ByteArray} {y : ByteArray} (hk : kd y = 0) (hl : is_li y = false) (hd : (is_dt y || is_dd y) = false) (h : plain (topS t)) : plc t y := by
  unfold plc
  rw [hk, hl, hd]
  exact ⟨by simp, by simp, by simp, by simp, by simp, by simp, fun _ _ _ => h⟩

/-- one name more -/
theorem more {t : List ByteArray} {y : ByteArray} (h : Good y t) (hp : plc t y) (h15 : inS y 15 = true) (h0 : inS y 0 = false) (hta : is_textarea y = false) : rightB (t ++ [y]) = true ∧ ∀ x ∈ t ++ [y], is_textarea x = false :=
  ⟨right_snoc h.right h15 h0 (h.fit hp), fun x hx => by
    rcases List.mem_append.1 hx with hx | hx
    · exact h.nota x hx
    · rw [List.mem_singleton.1 hx]; exact hta⟩
theorem moreM {t : List ByteArray} {y : ByteArray} (h : rightB t = true ∧ ∀ x ∈ t, is_textarea x = false) (hm : Mild y) (hp : plc t y) (h15 : inS y 15 = true) (h0 : inS y 0 = false) (hta : is_textarea y = false) : rightB (t ++ [y]) = true ∧ ∀ x ∈ t ++ [y], is_textarea x = false :=
  more (mild_of hm h.1 h.2) hp h15 h0 hta
theorem mild_l : Mild s_tbody ∧ Mild s_tr ∧ Mild s_td ∧ Mild s_colgroup := by unfold Mild; decide +kernel
theorem on_table {t : List ByteArray} (h : rightB t = true ∧ ∀ x ∈ t, is_textarea x = false) (ht : is_table (topS t) = true) : rightB (t ++ [s_tbody]) = true ∧ ∀ x ∈ t ++ [s_tbody], is_textarea x = false :=
  moreM h mild_l.1 (plc1 (by decide +kernel) ht) (by decide +kernel) (by decide +kernel) (by decide +kernel)
theorem on_tablec {t : List ByteArray} (h : rightB t = true ∧ ∀ x ∈ t, is_textarea x = false) (ht : is_table (topS t) = true) : rightB (t ++ [s_colgroup]) = true ∧ ∀ x ∈ t ++ [s_colgroup], is_textarea x = false :=
  moreM h mild_l.2.2.2 (plc1 (by decide +kernel) ht) (by decide +kernel) (by decide +kernel) (by decide +kernel)
theorem on_group {t : List ByteArray} (h : rightB t = true ∧ ∀ x ∈ t, is_textarea x = false) (ht : groupB (topS t) = true) : rightB (t ++ [s_tr]) = true ∧ ∀ x ∈ t ++ [s_tr], is_textarea x = false :=
  moreM h mild_l.2.1 (plc4 (by decide +kernel) ht) (by decide +kernel) (by decide +kernel) (by decide +kernel)
theorem on_tr {t : List ByteArray} (h : rightB t = true ∧ ∀ x ∈ t, is_textarea x = false) (ht : is_tr (topS t) = true) : rightB (t ++ [s_td]) = true ∧ ∀ x ∈ t ++ [s_td], is_textarea x = false :=
  moreM h mild_l.2.2.1 (plc2 (by decide +kernel) ht) (by decide +kernel) (by decide +kernel) (by decide +kernel)
theorem tops {t : List ByteArray} : is_table (topS (t ++ [s_table])) = true ∧ groupB (topS (t ++ [s_tbody])) = true ∧ is_tr (topS (t ++ [s_tr])) = true ∧ listB (topS (t ++ [s_ul])) = true ∧ is_dl (topS (t ++ [s_dl])) = true ∧ is_colgroup (topS (t ++ [s_colgroup])) = true := by
  simp only [topS_snoc]
  decide +kernel

/-! what the top wants -/
theorem td_good {y : ByteArray} {t : List ByteArray} (h : rightB (t ++ [s_td]) = true ∧ ∀ x ∈ t ++ [s_td], is_textarea x = false) : Good y (t ++ [s_td]) ∧ plain (topS (t ++ [s_td])) := by
  refine ⟨⟨h.1, h.2, fun _ => ?_, fun _ => ?_, fun _ => ?_⟩, ?_⟩
  · rw [tm_stop (by decide +kernel)]; decide
  · rw [tm_stop (by decide +kernel)]; decide
  · rw [tm_stop (by decide +kernel)]; decide
  · rw [topS_snoc]; unfold plain; decide +kernel
theorem app3 (t : List ByteArray) (a b c : ByteArray) : t ++ [a, b, c] = ((t ++ [a]) ++ [b]) ++ [c] := by simp
theorem app2 (t : List ByteArray) (a b : ByteArray) : t ++ [a, b] = (t ++ [a]) ++ [b] := by simp
theorem want_table {y : ByteArray} {t : List ByteArray} (h : rightB t = true ∧ ∀ x ∈ t, is_textarea x = false) (ht : is_table (topS t) = true) : Good y (t ++ [s_tbody, s_tr, s_td]) ∧ plain (topS (t ++ [s_tbody, s_tr, s_td])) := by
  rw [app3]
  exact td_good (on_tr (on_group (on_table h ht) tops.2.1) tops.2.2.1)
theorem snoc_good {y u z : ByteArray} {l : List ByteArray} (h : Good y (l ++ [u])) (hr : rightB ((l ++ [u]) ++ [z]) = true) (hz : is_textarea z = false) (hza : namedB s_a z = false) (hzc : cellB z = false) (hzh : headB z = false) (hzw : wallB z = false) (hzp : namedB s_p z = false) : Good y ((l ++ [u]) ++ [z]) := by
  refine ⟨hr, fun x hx => ?_, fun e => ?_, fun e => ?_, fun e => ?_⟩
  · rcases List.mem_append.1 hx with hx | hx
    · exact h.nota x hx
    · rw [List.mem_singleton.1 hx]; exact hz
  · rw [tm_snoc hza hzc]; exact h.a e
  · rw [tm_snoc hzh hzw]; exact h.hd e
  · rw [tm_snoc hzp hzw]; exact h.bl e
theorem top_snoc {t : List ByteArray} (h : t ≠ []) : ∃ l, t = l ++ [topS t] := by
  refine ⟨t.dropLast, ?_⟩
  have : topS t = t.getLast h := by
    unfold topS
    rw [List.getLastD_eq_getLast?, List.getLast?_eq_some_getLast h, Option.getD_some]
  rw [this, List.dropLast_concat_getLast]
/-- li on a list, dd on a dl -/
theorem want_item {y u z : ByteArray} {l : List ByteArray} (h : Good y (l ++ [u])) (hu6 : inS u 6 = true) (hup : namedB s_p u = false) (huw : wallB u = false) (hz : z = s_li ∧ listB u = true ∨ z = s_dd ∧ is_dl u = true) :
    Good y ((l ++ [u]) ++ [z]) ∧ plain (topS ((l ++ [u]) ++ [z])) := by
  have hb : tm (namedB s_p) wallB (l ++ [u]) < 0 := by rw [tm_snoc hup huw]; exact (right_top h.right).bl hu6
  rcases hz with ⟨rfl, hl⟩ | ⟨rfl, hl⟩
  · have hf : Fit (l ++ [u]) s_li := ⟨nota_top h.nota, fun e => absurd e (by decide +kernel), fun e => absurd e (by decide +kernel), fun _ => hb, plcL (by decide +kernel) (by decide +kernel) (by rw [topS_snoc]; exact hl)⟩
    exact ⟨snoc_good h (right_snoc h.right (by decide +kernel) (by decide +kernel) hf) (by decide +kernel) (by decide +kernel) (by decide +kernel) (by decide +kernel) (by decide +kernel) (by decide +kernel), by rw [topS_snoc]; unfold plain; decide +kernel⟩
  · have hf : Fit (l ++ [u]) s_dd := ⟨nota_top h.nota, fun e => absurd e (by decide +kernel), fun e => absurd e (by decide +kernel), fun _ => hb, plcD (by decide +kernel) (by decide +kernel) (by decide +kernel) (by rw [topS_snoc]; exact hl)⟩
    exact ⟨snoc_good h (right_snoc h.right (by decide +kernel) (by decide +kernel) hf) (by decide +kernel) (by decide +kernel) (by decide +kernel) (by decide +kernel) (by decide +kernel) (by decide +kernel), by rw [topS_snoc]; unfold plain; decide +kernel⟩
theorem addN_T' {y : ByteArray} (h : is_table y = true) : addN y = [s_tbody, s_tr, s_td] := by unfold addN; rw [h]; rfl
/-- the top with what it wants: right, and wants nothing more -/
theorem want {y : ByteArray} {t : List ByteArray} (h : Good y t) : Good y (inS2 t [] ++ inP2 t []) ∧ plain (topS (inS2 t [] ++ inP2 t [])) := by
  rw [inP2_eq]
  cases hc : is_colgroup (topS t)
  · have e : inS2 t [] = t := by unfold inS2; rw [hc]; simp
    rw [e]
    unfold addN
    cases h1 : is_table (topS t)
    · cases h2 : groupB (topS t)
      · cases h3 : is_tr (topS t)
        · cases h4 : listB (topS t)
          · cases h5 : is_dl (topS t)
            · simp only [Bool.false_eq_true, if_false, List.append_nil]
              exact ⟨h, hc, h1, h2, h3, h4, h5⟩
            · simp only [Bool.false_eq_true, if_false, if_true]
              obtain ⟨l, hl⟩ := top_snoc (ne_of (f := is_dl) h5 (by decide +kernel))
              have e2 := dl_is h5
              rw [e2] at hl
              rw [hl] at h ⊢
              exact want_item h (by decide +kernel) (by decide +kernel) (by decide +kernel) (.inr ⟨rfl, by decide +kernel⟩)
          · simp only [Bool.false_eq_true, if_false, if_true]
            obtain ⟨l, hl⟩ := top_snoc (ne_of (f := listB) h4 (by decide +kernel))
            generalize topS t = u at *
            subst hl
            have h9 := list_wall h4
            exact want_item h h9.2.1 h9.2.2.2.2.1 h9.1 (.inl ⟨rfl, h4⟩)
        · simp only [Bool.false_eq_true, if_false, if_true]
          exact td_good (on_tr ⟨h.right, h.nota⟩ h3)
      · simp only [Bool.false_eq_true, if_false, if_true]
        rw [app2]
        exact td_good (on_tr (on_group ⟨h.right, h.nota⟩ h2) tops.2.2.1)
    · simp only [if_true]
      exact want_table ⟨h.right, h.nota⟩ h1
  · have e : inS2 t [] = t.dropLast := by unfold inS2; rw [hc]; simp
    obtain ⟨l, hl⟩ := top_snoc (ne_of (f := is_colgroup) hc (by decide +kernel))
    have ec := kd_cg hc
    rw [ec] at hl
    have ht : is_table (topS l) = true := (right_top (hl ▸ h.right)).at_.1 (by decide +kernel)
    rw [e, hl, List.dropLast_concat, addN_T' ht]
    exact want_table ⟨right_pre h.right (hl ▸ List.prefix_append _ _), fun x hx => h.nota x (by rw [hl]; exact List.mem_append_left _ hx)⟩ ht

/-! what a cut leaves -/
theorem cut_self {p q : ByteArray → Bool} {t : List ByteArray} (h : ∀ r x a, t = r ++ x :: a → p x = true → q x = false → tm p q r < 0) : tm p q (wT (tm p q t) t) < 0 := by
  by_cases h0 : 0 ≤ tm p q t
  · obtain ⟨r, x, a, e, e2, h1, h2, _⟩ := tm_split h0
    have e3 : wT (tm p q t) t = r := by
      unfold wT
      rw [if_pos h0, e2, Int.toNat_natCast, e, List.take_left]
    rw [e3]
    exact h r x a e h1 h2
  · rw [wT_neg (by omega)]; omega
theorem cut_keep {p1 p2 q : ByteArray → Bool} {t : List ByteArray} (h : tm p2 q t < 0) : tm p2 q (wT (tm p1 q t) t) < 0 := by
  by_cases h0 : 0 ≤ tm p1 q t
  · obtain ⟨r, x, a, e, e2, _, h2, h3⟩ := tm_split h0
    have e3 : wT (tm p1 q t) t = r := by
      unfold wT
      rw [if_pos h0, e2, Int.toNat_natCast, e, List.take_left]
    rw [e3]
    refine tm_tail (a := x :: a) (fun z hz => ?_) (e ▸ h)
    rcases List.mem_cons.1 hz with rfl | hz
    · exact h2
    · exact h3 z hz
  · rw [wT_neg (by omega)]; exact h
theorem named_x {y x : ByteArray} (h : namedB y x = true) : x = y := by
  rw [named_eq] at h
  simpa using h
theorem cut_a {t : List ByteArray} (h : rightB t = true) : tm (namedB s_a) cellB (wT (tm (namedB s_a) cellB t) t) < 0 := cut_self fun r x a e hp _ => by
  have := right_in (e ▸ h)
  rw [named_x hp] at this
  exact this.a (by decide +kernel)
theorem cut_h {t : List ByteArray} (h : rightB t = true) : tm headB wallB (wT (tm headB wallB t) t) < 0 := cut_self fun r x a e hp _ => (right_in (e ▸ h)).hd hp
theorem cut_p {t : List ByteArray} (h : rightB t = true) : tm (namedB s_p) wallB (wT (tm (namedB s_p) wallB t) t) < 0 := cut_self fun r x a e hp _ => by
  have := right_in (e ▸ h)
  rw [named_x hp] at this
  exact this.bl (by decide +kernel)
theorem nota_aS0 {s : List ByteArray} (h : rightB s = true) : ∀ x ∈ aS0 s, is_textarea x = false := by
  intro x hx
  rw [Bool.eq_false_iff]
  intro ht
  obtain ⟨r, a, e⟩ := List.append_of_mem hx
  -- something stands upon it, or it is the top, which was taken off
  cases a with
  | nil =>
    have e1 : topS (aS0 s) = x := by rw [e, topS_snoc]
    unfold aS0 at e e1
    split at e
    · next hta =>
      have hne : s ≠ [] := ne_of (f := is_textarea) hta (by decide +kernel)
      obtain ⟨l, hl⟩ := top_snoc hne
      generalize topS s = u at *
      subst hl
      rw [List.dropLast_concat] at e
      subst e
      have := (right_top h).ta
      rw [topS_snoc, ht] at this
      cases this
    · next hta =>
      subst e
      rw [topS_snoc] at hta
      exact hta ht
  | cons z a =>
    have hs : ∃ b, s = (r ++ [x]) ++ z :: b := by
      obtain ⟨c, hc⟩ := aS0_pre s
      refine ⟨a ++ c, ?_⟩
      rw [← hc, e]
      simp
    obtain ⟨b, hb⟩ := hs
    have := (right_in (hb ▸ h)).ta
    rw [topS_snoc, ht] at this
    cases this
theorem mem_pre {t s : List ByteArray} (h : t <+: s) {x : ByteArray} (hx : x ∈ t) : x ∈ s := h.subset hx
/-- where steps 1 and 2 leave a right stack -/
theorem aS_good {y : ByteArray} {s : List ByteArray} (h : rightB s = true) : Good y (aS y s) := by
  have r0 := right_pre h (aS0_pre s)
  have r1 := right_pre r0 (aS1_pre y (aS0 s))
  have r2 := right_pre r1 (aS2_pre y (aS1 y (aS0 s)))
  have r3 := right_pre r2 (aS3_pre y (aS2 y (aS1 y (aS0 s))))
  refine ⟨r3, fun x hx => nota_aS0 h x (mem_pre ((aS3_pre _ _).trans ((aS2_pre _ _).trans (aS1_pre _ _))) hx), fun e => ?_, fun e => ?_, fun e => ?_⟩
  · have e1 := a_is e
    subst e1
    have e2 : aS s_a s = aS1 s_a (aS0 s) := by
      unfold aS aS3 aS2
      rw [if_neg (by decide +kernel), if_neg (by decide +kernel)]
    rw [e2]
    unfold aS1
    rw [if_pos (by decide +kernel)]
    exact cut_a r0
  · have h2 : tm headB wallB (aS2 y (aS1 y (aS0 s))) < 0 := by
      unfold aS2
      rw [if_pos e]
      exact cut_h r1
    show tm headB wallB (aS3 y (aS2 y (aS1 y (aS0 s)))) < 0
    unfold aS3
    split
    · exact cut_keep h2
    · exact h2
  · show tm (namedB s_p) wallB (aS3 y (aS2 y (aS1 y (aS0 s)))) < 0
    unfold aS3
    rw [if_pos e]
    exact cut_p r2
theorem Good.pre {y : ByteArray} {t r : List ByteArray} (h : Good y t) (hm : Mild y) (hp : r <+: t) : Good y r := mild_of hm (right_pre h.right hp) (fun x hx => h.nota x (mem_pre hp hx))

/-! what is left, with what is put in -/
def Stay (y : ByteArray) (t : List ByteArray) : Prop := rightB t = true ∧ Fit t y
theorem stay_of {y : ByteArray} {t : List ByteArray} (h : Good y t) (hp : plc t y) : Stay y t := ⟨h.right, h.fit hp⟩
theorem stayM {y : ByteArray} {t : List ByteArray} (h : rightB t = true ∧ ∀ x ∈ t, is_textarea x = false) (hm : Mild y) (hp : plc t y) : Stay y t := stay_of (mild_of hm h.1 h.2) hp
/-- a table of its own -/
theorem own_table {y : ByteArray} {t : List ByteArray} (h : Good y t) : (rightB (inS2 (noS t) [] ++ inP2 (noS t) [] ++ [s_table]) = true ∧ ∀ x ∈ inS2 (noS t) [] ++ inP2 (noS t) [] ++ [s_table], is_textarea x = false) := by
  have hp : noS t <+: t := noS_prefix t
  have hg : Good s_table (noS t) := ⟨right_pre h.right hp, fun x hx => h.nota x (mem_pre hp hx), fun e => absurd e (by decide +kernel), fun e => absurd e (by decide +kernel), fun _ => cut_p h.right⟩
  have hw := want hg
  exact more hw.1 (plcO (by decide +kernel) (by decide +kernel) (by decide +kernel) hw.2) (by decide +kernel) (by decide +kernel) (by decide +kernel)
theorem kd_mild {y : ByteArray} (h : kd y ≠ 0) : Mild y := by
  rcases kd_cases y with hk | hk | hk | hk | hk
  · rcases kd1 hk with rfl | rfl | rfl | rfl | rfl <;> (unfold Mild; decide +kernel)
  · rcases kd2 hk with rfl | rfl <;> (unfold Mild; decide +kernel)
  · rw [kd3 hk]; unfold Mild; decide +kernel
  · rw [kd4 hk]; unfold Mild; decide +kernel
  · exact absurd hk h
theorem found {pr q : ByteArray → Bool} {t : List ByteArray} (h0 : 0 ≤ tm pr q t) : ∃ r x a, t = r ++ x :: a ∧ t.take ((tm pr q t).toNat + 1) = r ++ [x] ∧ t.getD (tm pr q t).toNat ⟨#[]⟩ = x ∧ pr x = true ∧ q x = false ∧ ∀ z ∈ a, q z = false := by
  obtain ⟨r, x, a, e, e2, h1, h2, h3⟩ := tm_split h0
  refine ⟨r, x, a, e, ?_, ?_, h1, h2, h3⟩
  · rw [e2, Int.toNat_natCast, e, show r ++ x :: a = (r ++ [x]) ++ a from by simp, show r.length + 1 = (r ++ [x]).length from by simp, List.take_left]
  · rw [e2, Int.toNat_natCast, e, List.getD_eq_getElem?_getD, List.getElem?_append_right (Nat.le_refl _)]
    simp
theorem pre1 {t r a : List ByteArray} {x : ByteArray} (e : t = r ++ x :: a) : r ++ [x] <+: t := ⟨a, by rw [e]; simp⟩
theorem good2 {y : ByteArray} {t r a : List ByteArray} {x : ByteArray} (h : Good y t) (e : t = r ++ x :: a) : rightB (r ++ [x]) = true ∧ ∀ z ∈ r ++ [x], is_textarea z = false :=
  ⟨right_pre h.right (pre1 e), fun z hz => h.nota z (mem_pre (pre1 e) hz)⟩
theorem ask_stay {y : ByteArray} {s : List ByteArray} (h : rightB s = true) : Stay y (askS y s ++ askP y s) := by
  have hg := aS_good (y := y) h
  unfold askS askP
  rcases kd_cases y with hk | hk | hk | hk | hk
  · simp only [hk]
    have hm := kd_mild (y := y) (by rw [hk]; decide)
    unfold ownS ownP
    by_cases h0 : 0 ≤ tm (namedB s_table) noB (aS y s)
    · rw [if_pos h0, if_pos h0]
      obtain ⟨r, x, a, e, e2, e3, h1, _⟩ := found h0
      rw [e2]
      simp only [noneF, List.append_nil]
      exact stayM (good2 hg e) hm (plc1 hk (by rw [topS_snoc]; exact named_is _ h1))
    · rw [if_neg h0, if_neg h0]
      simp only [noneF]
      rw [← List.append_assoc]
      exact stayM (own_table hg) hm (plc1 hk tops.1)
  · simp only [hk]
    have hm := kd_mild (y := y) (by rw [hk]; decide)
    unfold ownS ownP
    by_cases h0 : 0 ≤ tm cellsB noB (aS y s)
    · rw [if_pos h0, if_pos h0]
      obtain ⟨r, x, a, e, e2, e3, h1, _⟩ := found h0
      rw [e2, e3, List.nil_append]
      have hr := good2 hg e
      unfold cellsF
      cases hx : is_tr x
      · simp only [Bool.false_eq_true, if_false]
        cases hx2 : is_table x
        · simp only [Bool.false_eq_true, if_false]
          have hx3 : groupB x = true := by unfold cellsB at h1; rw [hx, hx2] at h1; simpa using h1
          exact stayM (on_group hr (by rw [topS_snoc]; exact hx3)) hm (plc2 hk tops.2.2.1)
        · simp only [if_true]
          rw [app2]
          exact stayM (on_group (on_table hr (by rw [topS_snoc]; exact hx2)) tops.2.1) hm (plc2 hk tops.2.2.1)
      · simp only [if_true, List.append_nil]
        exact stayM hr hm (plc2 hk (by rw [topS_snoc]; exact hx))
    · rw [if_neg h0, if_neg h0]
      have e : cellsF s_table = [s_tbody, s_tr] := by decide +kernel
      rw [e, show inS2 (noS (aS y s)) [] ++ (inP2 (noS (aS y s)) [] ++ s_table :: [s_tbody, s_tr]) = ((inS2 (noS (aS y s)) [] ++ inP2 (noS (aS y s)) [] ++ [s_table]) ++ [s_tbody]) ++ [s_tr] from by simp]
      exact stayM (on_group (on_table (own_table hg) tops.1) tops.2.1) hm (plc2 hk tops.2.2.1)
  · simp only [hk]
    have hm := kd_mild (y := y) (by rw [hk]; decide)
    unfold ownS ownP
    by_cases h0 : 0 ≤ tm colB noB (aS y s)
    · rw [if_pos h0, if_pos h0]
      obtain ⟨r, x, a, e, e2, e3, h1, _⟩ := found h0
      rw [e2, e3, List.nil_append]
      have hr := good2 hg e
      unfold colF
      cases hx2 : is_table x
      · simp only [Bool.false_eq_true, if_false, List.append_nil]
        have hx3 : is_colgroup x = true := by unfold colB at h1; rw [hx2] at h1; simpa using h1
        exact stayM hr hm (plc3 hk (by rw [topS_snoc]; exact hx3))
      · simp only [if_true]
        exact stayM (on_tablec hr (by rw [topS_snoc]; exact hx2)) hm (plc3 hk tops.2.2.2.2.2)
    · rw [if_neg h0, if_neg h0]
      have e : colF s_table = [s_colgroup] := by decide +kernel
      rw [e, show inS2 (noS (aS y s)) [] ++ (inP2 (noS (aS y s)) [] ++ s_table :: [s_colgroup]) = (inS2 (noS (aS y s)) [] ++ inP2 (noS (aS y s)) [] ++ [s_table]) ++ [s_colgroup] from by simp]
      exact stayM (on_tablec (own_table hg) tops.1) hm (plc3 hk tops.2.2.2.2.2)
  · simp only [hk]
    have hm := kd_mild (y := y) (by rw [hk]; decide)
    unfold ownS ownP
    by_cases h0 : 0 ≤ tm trB noB (aS y s)
    · rw [if_pos h0, if_pos h0]
      obtain ⟨r, x, a, e, e2, e3, h1, _⟩ := found h0
      rw [e2, e3, List.nil_append]
      have hr := good2 hg e
      unfold trF
      cases hx2 : is_table x
      · simp only [Bool.false_eq_true, if_false, List.append_nil]
        have hx3 : groupB x = true := by unfold trB at h1; rw [hx2] at h1; simpa using h1
        exact stayM hr hm (plc4 hk (by rw [topS_snoc]; exact hx3))
      · simp only [if_true]
        exact stayM (on_table hr (by rw [topS_snoc]; exact hx2)) hm (plc4 hk tops.2.1)
    · rw [if_neg h0, if_neg h0]
      have e : trF s_table = [s_tbody] := by decide +kernel
      rw [e, show inS2 (noS (aS y s)) [] ++ (inP2 (noS (aS y s)) [] ++ s_table :: [s_tbody]) = (inS2 (noS (aS y s)) [] ++ inP2 (noS (aS y s)) [] ++ [s_table]) ++ [s_tbody] from by simp]
      exact stayM (on_table (own_table hg) tops.1) hm (plc4 hk tops.2.1)
  · simp only [hk]
    have it : ∀ (pr : ByteArray → Bool) (z : ByteArray), inS y 6 = true → is_a y = false → headB y = false → (∀ x, pr x = true → namedB s_p x = false) → kd z = 0 → is_li z = false → (is_dt z || is_dd z) = false → inS z 15 = true → inS z 0 = false → is_textarea z = false → is_a z = false → headB z = false →
        namedB s_p z = false → wallB z = false → (∀ t, pr (topS t) = true → plc t y) → pr z = true → Stay y (itS pr (aS y s) [] ++ itP pr z (aS y s) []) := by
      intro pr z h6 hya hyh hprp hz0 hzl hzd hz15 hzv hzt hza hzh hzp hzw hpl hprz
      unfold itS itP
      by_cases h0 : 0 ≤ tm pr wallB (aS y s)
      · rw [if_pos h0, if_pos h0, List.append_nil]
        obtain ⟨r, x, a, e, e2, e3, h1, h2, h3⟩ := found h0
        have e4 : (tm pr wallB (aS y s) + 1).toNat = (tm pr wallB (aS y s)).toNat + 1 := by omega
        rw [e4, e2]
        have hr := good2 hg e
        refine ⟨hr.1, nota_top hr.2, fun e => (by rw [hya] at e; cases e), fun e => (by rw [hyh] at e; cases e), fun _ => ?_, hpl _ (by rw [topS_snoc]; exact h1)⟩
        refine tm_tail (a := a) h3 ?_
        rw [show (r ++ [x]) ++ a = r ++ x :: a from by simp, ← e]
        exact hg.bl h6
      · rw [if_neg h0, if_neg h0, ← List.append_assoc]
        have hw := want hg
        have hz : Good z (inS2 (aS y s) [] ++ inP2 (aS y s) []) := ⟨hw.1.right, hw.1.nota, fun e => (by rw [hza] at e; cases e), fun e => (by rw [hzh] at e; cases e), fun _ => hw.1.bl h6⟩
        have hm := more hz (plcO hz0 hzl hzd hw.2) hz15 hzv hzt
        refine ⟨hm.1, nota_top hm.2, fun e => (by rw [hya] at e; cases e), fun e => (by rw [hyh] at e; cases e), fun _ => ?_, hpl _ (by rw [topS_snoc]; exact hprz)⟩
        rw [tm_snoc hzp hzw]
        exact hw.1.bl h6
    cases hl : is_li y
    · cases hd : (is_dt y || is_dd y)
      · simp only [Bool.false_eq_true, if_false]
        have hw := want hg
        exact stay_of hw.1 (plcO hk hl hd hw.2)
      · simp only [Bool.false_eq_true, if_false, if_true]
        have hy : inS y 6 = true ∧ is_a y = false ∧ headB y = false := by
          simp only [Bool.or_eq_true] at hd
          rcases hd with hd | hd
          · rw [dt_is hd]; decide +kernel
          · rw [dd_is hd]; decide +kernel
        exact it (namedB s_dl) s_dl hy.1 hy.2.1 hy.2.2 (fun x hx => by rw [named_x hx]; decide +kernel) (by decide +kernel) (by decide +kernel) (by decide +kernel) (by decide +kernel) (by decide +kernel) (by decide +kernel) (by decide +kernel) (by decide +kernel) (by decide +kernel) (by decide +kernel)
          (fun t ht => plcD hk hl hd (by rw [named_x ht]; decide +kernel)) (by decide +kernel)
    · simp only [if_true]
      have e := li_is hl
      subst e
      exact it listB s_ul (by decide +kernel) (by decide +kernel) (by decide +kernel) (fun x hx => (list_wall hx).2.2.2.2.1) (by decide +kernel) (by decide +kernel) (by decide +kernel) (by decide +kernel) (by decide +kernel) (by decide +kernel) (by decide +kernel) (by decide +kernel) (by decide +kernel) (by decide +kernel)
        (fun t ht => plcL hk hl ht) (by decide +kernel)
/-- behind a plan the stack is right, and the name asks nothing -/
theorem ask_right {y : ByteArray} {s : List ByteArray} (h : rightB s = true) : rightB (askS y s ++ askP y s) = true := (ask_stay h).1
theorem ask_still {y : ByteArray} {s : List ByteArray} (h : rightB s = true) : stillB (askS y s ++ askP y s) y = true := fit_still (ask_stay h).2
/-- with the name upon it -/
theorem ask_push {y : ByteArray} {s : List ByteArray} (h : rightB s = true) (h15 : inS y 15 = true) (h0 : inS y 0 = false) : rightB (askS y s ++ askP y s ++ [y]) = true := right_snoc (ask_stay h).1 h15 h0 (ask_stay h).2
/-- a text's -/
theorem text_right {s : List ByteArray} (h : rightB s = true) (ht : is_textarea (topS s) = false) : rightB (inS2 s [] ++ inP2 s []) = true ∧ plain (topS (inS2 s [] ++ inP2 s [])) := by
  have e : aS0 s = s := by unfold aS0; rw [ht]; rfl
  have hn := nota_aS0 h
  rw [e] at hn
  have hm : Mild s_td := mild_l.2.2.1
  have hw := want (mild_of hm h hn)
  exact ⟨hw.1.right, hw.2⟩
end Go.Proofs.YtddgpkdhakjjaaaDoor.Sm
