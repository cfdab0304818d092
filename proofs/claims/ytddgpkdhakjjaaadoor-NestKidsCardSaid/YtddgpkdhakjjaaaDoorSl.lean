/- nest: when a name may stand on a stack; what stands in right stacks; a stack stays right behind a plan, and a name behind its own. No program. -/
import Derived.Test.YtddgpkdhakjjaaaDoorEq
set_option linter.unusedVariables false
set_option linter.unusedSimpArgs false
namespace Go.Proofs.YtddgpkdhakjjaaaDoor.Sl
open Go.Proofs.YtddgpkdhakjjaaaDoor.Np hiding is_li is_dt is_dd is_textarea is_a
open Go.RowKit Lb Fl Is Tp Wk Wp Wi Wo Pt Oc Pm Go.Proofs.YtddgpkdhakjjaaaDoor.Ask Rt Go.Proofs.YtddgpkdhakjjaaaDoor.Op Aw Lt En El Rn Ri Rj Rp Rq Go.Proofs.YtddgpkdhakjjaaaDoor.Eq
open Go.Proofs.YtddgpkdhakjjaaaDoor.St (nm inL)

/-! the topmost -/
theorem tmGo_neg (p q : ByteArray → Bool) : ∀ l : List ByteArray, tmGo p q l < 0 → tmGo p noB l ≤ tmGo q noB l
  | [], _ => Int.le_refl _
  | x :: r, h => by
    have h2 := (tm_lt p noB r).2
    unfold tmGo at h ⊢
    simp only [noB, Bool.false_eq_true, if_false]
    cases hq : q x
    · cases hp : p x
      · simp only [hq, hp, Bool.false_eq_true, if_false] at h ⊢
        exact tmGo_neg p q r h
      · simp only [hq, hp, Bool.false_eq_true, if_false, if_true] at h
        omega
    · simp only [if_true]
      split
      · exact Int.le_refl _
      · omega
/-- where the one is not met ahead of the other, its last stands no higher -/
theorem tm_neg {p q : ByteArray → Bool} {s : List ByteArray} (h : tm p q s < 0) : tm p noB s ≤ tm q noB s := tmGo_neg p q _ h
theorem tmGo_tail (p q : ByteArray → Bool) : ∀ a r : List ByteArray, (∀ x ∈ a, q x = false) → tmGo p q (a ++ r) < 0 → tmGo p q r < 0
  | [], r, _, h => h
  | x :: a, r, hq, h => by
    have h1 := hq x (List.mem_cons_self ..)
    rw [List.cons_append] at h
    unfold tmGo at h
    simp only [h1, Bool.false_eq_true, if_false] at h
    split at h
    · omega
    · exact tmGo_tail p q a r (fun y hy => hq y (List.mem_cons_of_mem _ hy)) h
theorem tmGo_at (p q : ByteArray → Bool) : ∀ l : List ByteArray, 0 ≤ tmGo p q l → ∃ a x r, l = a ++ x :: r ∧ tmGo p q l = (r.length : Int) ∧ p x = true ∧ q x = false ∧ ∀ z ∈ a, q z = false
  | [], h => absurd h (by show ¬ (0 : Int) ≤ -1; decide)
  | x :: r, h => by
    unfold tmGo at h ⊢
    cases hq : q x
    · cases hp : p x
      · rw [hq, hp] at h
        simp only [Bool.false_eq_true, if_false] at h ⊢
        obtain ⟨a, y, r', e, e2, e3, e4, e5⟩ := tmGo_at p q r h
        refine ⟨x :: a, y, r', by rw [e]; rfl, e2, e3, e4, fun z hz => ?_⟩
        rcases List.mem_cons.1 hz with rfl | hz
        · exact hq
        · exact e5 z hz
      · simp only [Bool.false_eq_true, if_false, if_true]
        exact ⟨[], x, r, rfl, rfl, hp, hq, fun z hz => by cases hz⟩
    · rw [hq] at h
      simp only [if_true] at h
      exact absurd h (by decide)
/-- the topmost, and what stands below and above it -/
theorem tm_split {p q : ByteArray → Bool} {s : List ByteArray} (h : 0 ≤ tm p q s) : ∃ r x a, s = r ++ x :: a ∧ tm p q s = (r.length : Int) ∧ p x = true ∧ q x = false ∧ ∀ z ∈ a, q z = false := by
  obtain ⟨a, x, r, e, e2, e3, e4, e5⟩ := tmGo_at p q s.reverse h
  refine ⟨r.reverse, x, a.reverse, ?_, ?_, e3, e4, fun z hz => e5 z (List.mem_reverse.1 hz)⟩
  · have := congrArg List.reverse e
    simpa using this
  · rw [List.length_reverse]; exact e2
theorem tm_tail {p q : ByteArray → Bool} {r a : List ByteArray} (hq : ∀ z ∈ a, q z = false) (h : tm p q (r ++ a) < 0) : tm p q r < 0 := by
  unfold tm at h ⊢
  rw [List.reverse_append] at h
  exact tmGo_tail p q _ _ (fun x hx => hq x (List.mem_reverse.1 hx)) h
theorem tm_snoc {p q : ByteArray → Bool} {t : List ByteArray} {x : ByteArray} (hp : p x = false) (hq : q x = false) : tm p q (t ++ [x]) = tm p q t := by
  unfold tm
  rw [List.reverse_append, List.reverse_singleton, List.singleton_append, tmGo, hp, hq]
  simp
theorem tm_stop {p q : ByteArray → Bool} {t : List ByteArray} {x : ByteArray} (hq : q x = true) : tm p q (t ++ [x]) = -1 := by
  unfold tm
  rw [List.reverse_append, List.reverse_singleton, List.singleton_append, tmGo, hq]
  simp
theorem wT_id {t : Int} {s : List ByteArray} (h : wT t s = s) (hl : t < s.length) : t < 0 := by
  by_cases h0 : 0 ≤ t
  · unfold wT at h
    rw [if_pos h0] at h
    have := congrArg List.length h
    rw [List.length_take] at this
    omega
  · omega
theorem wT_neg {t : Int} {s : List ByteArray} (h : t < 0) : wT t s = s := by unfold wT; rw [if_neg (by omega)]
theorem pre_snoc {l s : List ByteArray} {x : ByteArray} : l <+: l ++ x :: s := List.prefix_append _ _
theorem pre_snoc1 {l s : List ByteArray} {x : ByteArray} : l ++ [x] <+: l ++ x :: s := ⟨s, by simp⟩

/-! when a name may stand -/
def plain (x : ByteArray) : Prop := is_colgroup x = false ∧ is_table x = false ∧ groupB x = false ∧ is_tr x = false ∧ listB x = false ∧ is_dl x = false
def plc (t : List ByteArray) (y : ByteArray) : Prop :=
  (kd y = 1 → is_table (topS t) = true) ∧ (kd y = 2 → is_tr (topS t) = true) ∧ (kd y = 3 → is_colgroup (topS t) = true) ∧ (kd y = 4 → groupB (topS t) = true) ∧
  (kd y = 0 → is_li y = true → listB (topS t) = true) ∧ (kd y = 0 → is_li y = false → (is_dt y || is_dd y) = true → is_dl (topS t) = true) ∧
  (kd y = 0 → is_li y = false → (is_dt y || is_dd y) = false → plain (topS t))
structure Fit (t : List ByteArray) (y : ByteArray) : Prop where
  ta : is_textarea (topS t) = false
  a : is_a y = true → tm (namedB s_a) cellB t < 0
  hd : headB y = true → tm headB wallB t < 0
  bl : inS y 6 = true → tm (namedB s_p) wallB t < 0
  at_ : plc t y

theorem askS_lenA (y : ByteArray) (s : List ByteArray) : (askS y s).length ≤ (aS y s).length := by
  unfold askS
  split
  · exact ownS_len _ _ _
  · exact ownS_len _ _ _
  · exact ownS_len _ _ _
  · exact ownS_len _ _ _
  · split
    · exact itS_len _ _ _
    · split
      · exact itS_len _ _ _
      · exact inS2_len _ _
theorem top_get {t : List ByteArray} : t.getD (t.length - 1) ⟨#[]⟩ = topS t := by
  unfold topS
  rw [List.getLastD_eq_getLast?, List.getLast?_eq_getElem?, List.getD_eq_getElem?_getD]
theorem own_top {pr : ByteArray → Bool} {f : ByteArray → List ByteArray} {t : List ByteArray} (h1 : (ownS pr t []).length = t.length) (h2 : ownP pr f t [] = []) : pr (topS t) = true ∧ f (topS t) = [] := by
  unfold ownP at h2
  split at h2
  · next h0 =>
    unfold ownS at h1
    rw [if_pos h0, List.length_take] at h1
    have h3 := tm_val h0
    have h4 := tm_le pr noB t
    have h6 : (tm pr noB t).toNat = t.length - 1 := by omega
    rw [h6, top_get] at h3
    rw [h6, top_get, List.nil_append] at h2
    exact ⟨h3, h2⟩
  · simp at h2
theorem it_top {pr : ByteArray → Bool} {x : ByteArray} {t : List ByteArray} (h1 : (itS pr t []).length = t.length) (h2 : itP pr x t [] = []) : pr (topS t) = true := by
  unfold itP at h2
  split at h2
  · next h0 =>
    unfold itS at h1
    rw [if_pos h0, List.length_take] at h1
    have h3 := tm_val h0
    have h4 := tm_le pr wallB t
    have h6 : (tm pr wallB t).toNat = t.length - 1 := by omega
    rw [h6, top_get] at h3
    exact h3
  · simp at h2
theorem addN_nil {x : ByteArray} (h : addN x = []) : is_table x = false ∧ groupB x = false ∧ is_tr x = false ∧ listB x = false ∧ is_dl x = false := by
  unfold addN at h
  cases h1 : is_table x
  · cases h2 : groupB x
    · cases h3 : is_tr x
      · cases h4 : listB x
        · cases h5 : is_dl x
          · exact ⟨rfl, rfl, rfl, rfl, rfl⟩
          · simp [h1, h2, h3, h4, h5] at h
        · simp [h1, h2, h3, h4] at h
      · simp [h1, h2, h3] at h
    · simp [h1, h2] at h
  · simp [h1] at h
theorem in_top {t : List ByteArray} (h1 : (inS2 t []).length = t.length) (h2 : inP2 t [] = []) : plain (topS t) := by
  have hc : is_colgroup (topS t) = false := by
    rw [Bool.eq_false_iff]
    intro hc
    have hne : t ≠ [] := by rintro rfl; exact absurd hc (by decide +kernel)
    have := List.length_pos_iff.2 hne
    unfold inS2 at h1
    rw [if_pos ⟨rfl, hc⟩, List.length_dropLast] at h1
    omega
  have e : inS2 t [] = t := by unfold inS2; rw [hc]; simp
  rw [inP2_eq, e] at h2
  exact ⟨hc, addN_nil h2⟩
theorem still_fit {t : List ByteArray} {y : ByteArray} (h : stillB t y = true) : Fit t y := by
  unfold stillB at h
  simp only [Bool.and_eq_true, beq_iff_eq] at h
  have h1 : (askS y t).length = t.length := by omega
  have h2 : askP y t = [] := List.eq_nil_of_length_eq_zero (by omega)
  have hA : aS y t = t := (aS_pre y t).eq_of_length_le (by have := askS_lenA y t; omega)
  have l0 := (aS0_pre t).length_le
  have l1 := (aS1_pre y (aS0 t)).length_le
  have l2 := (aS2_pre y (aS1 y (aS0 t))).length_le
  have l3 := (aS3_pre y (aS2 y (aS1 y (aS0 t)))).length_le
  have l4 : (aS3 y (aS2 y (aS1 y (aS0 t)))).length = t.length := congrArg List.length hA
  have e0 : aS0 t = t := (aS0_pre t).eq_of_length_le (by omega)
  rw [e0] at l1 l2 l3 l4
  have e1 : aS1 y t = t := (aS1_pre y t).eq_of_length_le (by omega)
  rw [e1] at l2 l3 l4
  have e2 : aS2 y t = t := (aS2_pre y t).eq_of_length_le (by omega)
  rw [e2] at l3 l4
  have e3 : aS3 y t = t := (aS3_pre y t).eq_of_length_le (by omega)
  refine ⟨?_, fun ha => ?_, fun ha => ?_, fun ha => ?_, ?_⟩
  · rw [Bool.eq_false_iff]
    intro ht
    have hne : t ≠ [] := by rintro rfl; exact absurd ht (by decide +kernel)
    have := List.length_pos_iff.2 hne
    unfold aS0 at e0
    rw [if_pos ht] at e0
    have := congrArg List.length e0
    rw [List.length_dropLast] at this
    omega
  · unfold aS1 at e1
    rw [if_pos ha] at e1
    exact wT_id e1 (tm_le _ _ _)
  · unfold aS2 at e2
    rw [if_pos ha] at e2
    exact wT_id e2 (tm_le _ _ _)
  · unfold aS3 at e3
    rw [if_pos ha] at e3
    exact wT_id e3 (tm_le _ _ _)
  · unfold askS at h1
    unfold askP at h2
    rw [hA] at h1 h2
    unfold plc
    rcases kd_cases y with hk | hk | hk | hk | hk <;> rw [hk] at h1 h2 ⊢
    · have h3 := own_top h1 h2
      refine ⟨fun _ => named_is _ h3.1, ?_, ?_, ?_, ?_, ?_, ?_⟩ <;> intro hz <;> exact absurd hz (by decide)
    · have h3 := own_top h1 h2
      refine ⟨?_, fun _ => ?_, ?_, ?_, ?_, ?_, ?_⟩
      rotate_left
      · cases h5 : is_tr (topS t)
        · exfalso
          have h6 := h3.2
          unfold cellsF at h6
          rw [h5] at h6
          simp only [Bool.false_eq_true, if_false] at h6
          split at h6 <;> cases h6
        · rfl
      all_goals intro hz; exact absurd hz (by decide)
    · have h3 := own_top h1 h2
      refine ⟨?_, ?_, fun _ => ?_, ?_, ?_, ?_, ?_⟩
      rotate_left 2
      · have h5 := h3.1
        have h6 := h3.2
        unfold colF at h6
        unfold colB at h5
        cases h7 : is_table (topS t)
        · rw [h7, Bool.or_false] at h5; exact h5
        · rw [h7] at h6; simp at h6
      all_goals intro hz; exact absurd hz (by decide)
    · have h3 := own_top h1 h2
      refine ⟨?_, ?_, ?_, fun _ => ?_, ?_, ?_, ?_⟩
      rotate_left 3
      · have h5 := h3.1
        have h6 := h3.2
        unfold trF at h6
        unfold trB at h5
        cases h7 : is_table (topS t)
        · rw [h7, Bool.or_false] at h5; exact h5
        · rw [h7] at h6; simp at h6
      all_goals intro hz; exact absurd hz (by decide)
    · refine ⟨fun hz => absurd hz (by decide), fun hz => absurd hz (by decide), fun hz => absurd hz (by decide), fun hz => absurd hz (by decide), fun _ hl => ?_, fun _ hl hd => ?_, fun _ hl hd => ?_⟩
      · simp only [hl, if_true] at h1 h2
        exact it_top h1 h2
      · simp only [hl, hd, Bool.false_eq_true, if_false, if_true] at h1 h2
        have := it_top h1 h2
        rw [named_eq] at this
        have e : topS t = s_dl := by simpa using this
        rw [e]; decide +kernel
      · simp only [hl, hd, Bool.false_eq_true, if_false] at h1 h2
        exact in_top h1 h2
/-- found at the top -/
theorem tm_last {p q : ByteArray → Bool} {t : List ByteArray} (h : t ≠ []) (hp : p (topS t) = true) (hq : q (topS t) = false) : (tm p q t).toNat + 1 = t.length ∧ 0 ≤ tm p q t ∧ (tm p q t + 1).toNat = t.length := by
  have := List.length_pos_iff.2 h
  rw [tm_top h hq hp]
  omega
theorem own_id {pr : ByteArray → Bool} {f : ByteArray → List ByteArray} {t : List ByteArray} (h : t ≠ []) (hp : pr (topS t) = true) (hf : f (topS t) = []) : ownS pr t [] = t ∧ ownP pr f t [] = [] := by
  have h1 := tm_last (q := noB) h hp rfl
  unfold ownS ownP
  rw [if_pos h1.2.1, if_pos h1.2.1, h1.1, List.take_length]
  have h2 : (tm pr noB t).toNat = t.length - 1 := by omega
  rw [h2, top_get, hf]
  exact ⟨rfl, rfl⟩
theorem it_id {pr : ByteArray → Bool} {x : ByteArray} {t : List ByteArray} (h : t ≠ []) (hp : pr (topS t) = true) (hq : wallB (topS t) = false) : itS pr t [] = t ∧ itP pr x t [] = [] := by
  have h1 := tm_last h hp hq
  unfold itS itP
  rw [if_pos h1.2.1, if_pos h1.2.1, h1.2.2, List.take_length]
  exact ⟨rfl, rfl⟩
theorem addN_plain {x : ByteArray} (h : plain x) : addN x = [] := by
  unfold addN
  rw [h.2.1, h.2.2.1, h.2.2.2.1, h.2.2.2.2.1, h.2.2.2.2.2]
  rfl
theorem in_id {t : List ByteArray} (h : plain (topS t)) : inS2 t [] = t ∧ inP2 t [] = [] := by
  have e : inS2 t [] = t := by unfold inS2; rw [h.1]; simp
  rw [inP2_eq, e]
  exact ⟨rfl, addN_plain h⟩
theorem list_cases {x : ByteArray} (h : listB x = true) : x = s_ul ∨ x = ⟨#[111, 108]⟩ ∨ x = ⟨#[109, 101, 110, 117]⟩ := by
  unfold listB is_ul is_ol is_menu at h
  simp only [Bool.or_eq_true] at h
  rcases h with (h | h) | h
  · exact .inl (z_of (by decide +kernel) h)
  · exact .inr (.inl (z_of (by decide +kernel) h))
  · exact .inr (.inr (z_of (by decide +kernel) h))
theorem list_wall {x : ByteArray} (h : listB x = true) : wallB x = false ∧ inS x 6 = true ∧ is_a x = false ∧ headB x = false ∧ namedB s_p x = false ∧ is_textarea x = false := by
  rcases list_cases h with rfl | rfl | rfl <;> decide +kernel
theorem group_cases {x : ByteArray} (h : groupB x = true) : x = s_thead ∨ x = s_tbody ∨ x = s_tfoot := by
  unfold groupB is_thead is_tbody is_tfoot at h
  simp only [Bool.or_eq_true] at h
  rcases h with (h | h) | h
  · exact .inl (z_of (by decide +kernel) h)
  · exact .inr (.inl (z_of (by decide +kernel) h))
  · exact .inr (.inr (z_of (by decide +kernel) h))
theorem tab_is {x : ByteArray} (h : is_table x = true) : x = s_table := by unfold is_table at h; exact z_of (by decide +kernel) h
theorem tr_is {x : ByteArray} (h : is_tr x = true) : x = s_tr := by unfold is_tr at h; exact z_of (by decide +kernel) h
theorem dl_is {x : ByteArray} (h : is_dl x = true) : x = s_dl := by unfold is_dl at h; exact z_of (by decide +kernel) h
theorem li_is {x : ByteArray} (h : is_li x = true) : x = s_li := by unfold is_li at h; exact z_of (by decide +kernel) h
theorem a_is {x : ByteArray} (h : is_a x = true) : x = s_a := by unfold is_a at h; exact z_of (by decide +kernel) h
theorem ne_of {f : ByteArray → Bool} {t : List ByteArray} (h : f (topS t) = true) (h0 : f ⟨#[]⟩ = false) : t ≠ [] := by
  rintro rfl
  rw [show topS ([] : List ByteArray) = ⟨#[]⟩ from rfl, h0] at h
  cases h
theorem fit_still {t : List ByteArray} {y : ByteArray} (h : Fit t y) : stillB t y = true := by
  have e0 : aS0 t = t := by unfold aS0; rw [h.ta]; rfl
  have e1 : aS1 y t = t := by
    unfold aS1
    split
    · next ha => exact wT_neg (h.a ha)
    · rfl
  have e2 : aS2 y t = t := by
    unfold aS2
    split
    · next ha => exact wT_neg (h.hd ha)
    · rfl
  have e3 : aS3 y t = t := by
    unfold aS3
    split
    · next ha => exact wT_neg (h.bl ha)
    · rfl
  have eA : aS y t = t := by unfold aS; rw [e0, e1, e2, e3]
  have key : askS y t = t ∧ askP y t = [] := by
    have hp := h.at_
    unfold plc at hp
    obtain ⟨p1, p2, p3, p4, p5, p6, p7⟩ := hp
    unfold askS askP
    rw [eA]
    rcases kd_cases y with hk | hk | hk | hk | hk
    · simp only [hk]
      have h1 := p1 hk
      have e := tab_is h1
      exact own_id (ne_of h1 (by decide +kernel)) (by rw [e]; decide +kernel) rfl
    · simp only [hk]
      have h1 := p2 hk
      refine own_id (ne_of h1 (by decide +kernel)) ?_ ?_
      · unfold cellsB; rw [h1]; rfl
      · unfold cellsF; rw [h1]; rfl
    · simp only [hk]
      have h1 := p3 hk
      have e := kd_cg h1
      refine own_id (ne_of h1 (by decide +kernel)) ?_ ?_
      · unfold colB; rw [h1]; rfl
      · rw [e]; decide +kernel
    · simp only [hk]
      have h1 := p4 hk
      refine own_id (ne_of h1 (by decide +kernel)) ?_ ?_
      · unfold trB; rw [h1]; rfl
      · unfold trF; rw [(group_z h1).1]; rfl
    · simp only [hk]
      cases hl : is_li y
      · cases hd : (is_dt y || is_dd y)
        · simp only [Bool.false_eq_true, if_false]
          exact in_id (p7 hk hl hd)
        · simp only [Bool.false_eq_true, if_false, if_true]
          have h1 := p6 hk hl hd
          have e := dl_is h1
          exact it_id (ne_of h1 (by decide +kernel)) (by rw [e]; decide +kernel) (by rw [e]; decide +kernel)
      · simp only [if_true]
        have h1 := p5 hk hl
        exact it_id (ne_of h1 (by decide +kernel)) h1 (list_wall h1).1
  unfold stillB
  rw [key.1, key.2]
  simp

/-! right stacks -/
theorem right_mem {s : List ByteArray} (h : rightB s = true) {x : ByteArray} (hx : x ∈ s) : inS x 15 = true ∧ inS x 0 = false := by
  obtain ⟨j, hj, rfl⟩ := List.getElem_of_mem hx
  have h1 := right_at h j hj
  unfold okY at h1
  simp only [Bool.and_eq_true, Bool.not_eq_true'] at h1
  exact h1.1
theorem right_fit {s : List ByteArray} (h : rightB s = true) (j : Nat) (hj : j < s.length) : Fit (s.take j) s[j] := by
  have h1 := right_at h j hj
  unfold okY at h1
  simp only [Bool.and_eq_true] at h1
  exact still_fit h1.2
theorem right_pre {s t : List ByteArray} (h : rightB s = true) (ht : t <+: s) : rightB t = true := by
  obtain ⟨a, rfl⟩ := ht
  refine right_all fun j hj => ?_
  have h1 := right_at h j (by rw [List.length_append]; omega)
  rw [List.take_append_of_le_length (by omega), List.getElem_append_left hj] at h1
  exact h1
theorem right_snoc {t : List ByteArray} {y : ByteArray} (h : rightB t = true) (hy : inS y 15 = true) (hv : inS y 0 = false) (hf : Fit t y) : rightB (t ++ [y]) = true := by
  refine right_all fun j hj => ?_
  rw [List.length_append, List.length_singleton] at hj
  by_cases e : j < t.length
  · rw [List.take_append_of_le_length (by omega), List.getElem_append_left e]
    exact right_at h j e
  · have ej : j = t.length := by omega
    subst ej
    rw [List.take_left]
    have : (t ++ [y])[t.length]'(by simp) = y := by simp
    rw [this]
    unfold okY
    rw [hy, hv, fit_still hf]
    rfl
theorem right_in {r a : List ByteArray} {x : ByteArray} (h : rightB (r ++ x :: a) = true) : Fit r x := by
  have h1 := right_fit h r.length (by simp)
  rw [List.take_left] at h1
  have : (r ++ x :: a)[r.length]'(by simp) = x := by simp
  rwa [this] at h1
theorem right_top {l : List ByteArray} {x : ByteArray} (h : rightB (l ++ [x]) = true) : Fit l x := right_in h

/-! what a right stack's names stand on -/
theorem kdL_cases {x : ByteArray} : ∀ {l : List ByteArray}, kdL x l = true → x ∈ l
  | [], h => by cases h
  | y :: r, h => by
    unfold kdL at h
    simp only [Bool.or_eq_true, decide_eq_true_eq] at h
    rcases h with h | h
    · rw [h]; exact List.mem_cons_self ..
    · exact List.mem_cons_of_mem _ (kdL_cases h)
theorem kd1 {x : ByteArray} (h : kd x = 1) : x = s_caption ∨ x = s_colgroup ∨ x = s_thead ∨ x = s_tbody ∨ x = s_tfoot := by
  unfold kd at h
  split at h
  · next h1 => simpa using kdL_cases h1
  · repeat' split at h
    all_goals exact absurd h (by decide)
theorem kd2 {x : ByteArray} (h : kd x = 2) : x = s_td ∨ x = s_th := by
  unfold kd at h
  split at h
  · exact absurd h (by decide)
  · split at h
    · next h1 => simpa using kdL_cases h1
    · repeat' split at h
      all_goals exact absurd h (by decide)
theorem kd3 {x : ByteArray} (h : kd x = 3) : x = s_col := by
  unfold kd at h
  split at h
  · exact absurd h (by decide)
  · split at h
    · exact absurd h (by decide)
    · split at h
      · next h1 => simpa using kdL_cases h1
      · repeat' split at h
        all_goals exact absurd h (by decide)
theorem kd4 {x : ByteArray} (h : kd x = 4) : x = s_tr := by
  unfold kd at h
  split at h
  · exact absurd h (by decide)
  · split at h
    · exact absurd h (by decide)
    · split at h
      · exact absurd h (by decide)
      · split at h
        · next h1 => simpa using kdL_cases h1
        · exact absurd h (by decide)
theorem dt_is {x : ByteArray} (h : is_dt x = true) : x = ⟨#[100, 116]⟩ := by unfold is_dt at h; exact z_of (by decide +kernel) h
theorem dd_is {x : ByteArray} (h : is_dd x = true) : x = s_dd := by unfold is_dd at h; exact z_of (by decide +kernel) h
theorem kd0_ne {x z : ByteArray} (h : kd x = 0) (hz : kd z ≠ 0) : x ≠ z := by rintro rfl; exact hz h
end Go.Proofs.YtddgpkdhakjjaaaDoor.Sl
