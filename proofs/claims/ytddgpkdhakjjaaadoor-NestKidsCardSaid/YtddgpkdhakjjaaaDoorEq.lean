/- nest: where no two column groups stand one on the other, what the reference asks is what the program asks; a stack is right for both or for none. No program. -/
import Derived.Test.YtddgpkdhakjjaaaDoorRq
set_option linter.unusedVariables false
set_option linter.unusedSimpArgs false
namespace Go.Proofs.YtddgpkdhakjjaaaDoor.Eq
open Go.Proofs.YtddgpkdhakjjaaaDoor.Np hiding is_li is_dt is_dd is_textarea is_a
open Go.RowKit Lb Fl Is Tp Wk Wp Wi Wo Pt Oc Pm Go.Proofs.YtddgpkdhakjjaaaDoor.Ask Rt Go.Proofs.YtddgpkdhakjjaaaDoor.Op Aw Lt En El Rn Ri Rj Rp Rq

/-- no column group stands directly on another -/
def noCC (s : List ByteArray) : Prop := ∀ l x y, (l ++ [x, y]) <+: s → is_colgroup y = true → is_colgroup x = false
theorem noCC_pre {s t : List ByteArray} (h : noCC s) (ht : t <+: s) : noCC t := fun l x y hp => h l x y (hp.trans ht)
theorem inn_eq {s : List ByteArray} (h : noCC s) : innS s = inS2 s [] := by
  rcases List.eq_nil_or_concat s with rfl | ⟨l, x, he⟩
  · unfold inS2; simp [innS, dropCg]
  · rw [List.concat_eq_append] at he
    subst he
    rw [innS_snoc]
    unfold inS2
    rw [topS_snoc]
    cases hx : is_colgroup x
    · simp
    · simp only [true_and, if_true, List.dropLast_concat]
      rcases List.eq_nil_or_concat l with rfl | ⟨r, z, he⟩
      · rfl
      · rw [List.concat_eq_append] at he
        subst he
        rw [innS_snoc]
        have := h r z x (by simp) hx
        rw [this]
        rfl
theorem inp_eq {s : List ByteArray} (h : noCC s) : innP s = inP2 s [] := by rw [inP2_eq, ← inn_eq h]; rfl
theorem tmGo_val (p q : ByteArray → Bool) : ∀ l : List ByteArray, 0 ≤ tmGo p q l → ∃ a x r, l = a ++ x :: r ∧ tmGo p q l = (r.length : Int) ∧ p x = true
  | [], h => absurd h (by show ¬ (0 : Int) ≤ -1; decide)
  | x :: r, h => by
    unfold tmGo at h ⊢
    cases hq : q x
    · cases hp : p x
      · rw [hq, hp] at h
        simp only [Bool.false_eq_true, if_false] at h ⊢
        obtain ⟨a, y, r', e, e2, e3⟩ := tmGo_val p q r h
        exact ⟨x :: a, y, r', by rw [e]; rfl, e2, e3⟩
      · simp only [Bool.false_eq_true, if_false, if_true]
        exact ⟨[], x, r, rfl, rfl, hp⟩
    · rw [hq] at h
      simp only [if_true] at h
      exact absurd h (by decide)
theorem tm_val {p q : ByteArray → Bool} {s : List ByteArray} (h : 0 ≤ tm p q s) : p (s.getD (tm p q s).toNat ⟨#[]⟩) = true := by
  obtain ⟨a, x, r, e, e2, e3⟩ := tmGo_val p q s.reverse h
  have e4 : s = r.reverse ++ x :: a.reverse := by
    have := congrArg List.reverse e
    simpa using this
  have e5 : tm p q s = (r.length : Int) := e2
  rw [e5, Int.toNat_natCast, e4]
  have : (r.reverse ++ x :: a.reverse).getD r.length ⟨#[]⟩ = x := by
    rw [List.getD_eq_getElem?_getD, List.getElem?_append_right (by simp)]
    simp
  rw [this]; exact e3
theorem own_eqS {pr : ByteArray → Bool} {s : List ByteArray} (h : noCC s) : plS pr s = ownS pr s [] := by
  unfold plS ownS
  split
  · rfl
  · exact inn_eq (noCC_pre h (noS_prefix s))
theorem own_eqP {pr : ByteArray → Bool} {f : ByteArray → List ByteArray} {T G s : List ByteArray} (h : noCC s) (hf : ∀ z, pr z = true → rfF T G z = f z) (ht : T = f s_table) : plP pr T G s = ownP pr f s [] := by
  unfold plP ownP
  split
  · next h0 => rw [List.nil_append]; exact hf _ (tm_val h0)
  · rw [inp_eq (noCC_pre h (noS_prefix s)), ht]
theorem it_eqS {pr : ByteArray → Bool} {s : List ByteArray} (h : noCC s) : rItS pr s = itS pr s [] := by
  unfold rItS itS
  split
  · next h0 =>
    congr 1
    omega
  · exact inn_eq h
theorem it_eqP {pr : ByteArray → Bool} {x : ByteArray} {s : List ByteArray} (h : noCC s) : rItP pr x s = itP pr x s [] := by
  unfold rItP itP
  split
  · rfl
  · rw [inp_eq h]
theorem named_is (z : ByteArray) (h : namedB s_table z = true) : is_table z = true := by
  rw [named_eq] at h
  have : z = s_table := by simpa using h
  rw [this]; decide +kernel
theorem z_of {z a : ByteArray} {l : List UInt8} (hl : a.toList = l) (h : (z.toList == l) = true) : z = a := by
  subst hl
  rw [eq_str] at h
  simpa using h
theorem group_z {z : ByteArray} (h : groupB z = true) : is_table z = false ∧ is_tr z = false := by
  unfold groupB is_thead is_tbody is_tfoot at h
  simp only [Bool.or_eq_true] at h
  rcases h with (h | h) | h
  · rw [z_of (a := s_thead) (by decide +kernel) h]; decide +kernel
  · rw [z_of (a := s_tbody) (by decide +kernel) h]; decide +kernel
  · rw [z_of (a := s_tfoot) (by decide +kernel) h]; decide +kernel
theorem table_z {z : ByteArray} (h : is_table z = true) : is_tr z = false ∧ groupB z = false ∧ is_colgroup z = false := by
  unfold is_table at h
  rw [z_of (a := s_table) (by decide +kernel) h]; decide +kernel
theorem cells_rf (z : ByteArray) (h : cellsB z = true) : rfF [s_tbody, s_tr] [s_tr] z = cellsF z := by
  unfold rfF cellsF
  cases h1 : is_table z
  · cases h2 : groupB z
    · unfold cellsB at h
      rw [h1, h2] at h
      simp at h
      rw [h]; rfl
    · rw [(group_z h2).2]; rfl
  · rw [(table_z h1).1]; rfl
theorem col_rf (z : ByteArray) (h : colB z = true) : rfF [s_colgroup] [] z = colF z := by
  unfold rfF colF
  cases h1 : is_table z
  · simp
  · rfl
theorem tr_rf (z : ByteArray) (h : trB z = true) : rfF [s_tbody] [] z = trF z := by
  unfold rfF trF
  cases h1 : is_table z
  · simp
  · rfl
theorem none_rf (z : ByteArray) : rfF [] [] z = noneF z := by unfold rfF noneF; split <;> (try split) <;> rfl
theorem rS_eq {y : ByteArray} {s : List ByteArray} (h : noCC s) : rS y s = askS y s := by
  have h' := noCC_pre h (aS_pre y s)
  unfold rS askS
  rcases kd_cases y with hk | hk | hk | hk | hk <;> rw [hk]
  · exact own_eqS h'
  · exact own_eqS h'
  · exact own_eqS h'
  · exact own_eqS h'
  · show (if is_li y then _ else _) = (if is_li y then _ else _)
    split
    · exact it_eqS h'
    · split
      · exact it_eqS h'
      · exact inn_eq h'
theorem rP_eq {y : ByteArray} {s : List ByteArray} (h : noCC s) : rP y s = askP y s := by
  have h' := noCC_pre h (aS_pre y s)
  unfold rP askP
  rcases kd_cases y with hk | hk | hk | hk | hk <;> rw [hk]
  · exact own_eqP h' (fun z _ => none_rf z) rfl
  · exact own_eqP h' cells_rf (by decide +kernel)
  · exact own_eqP h' col_rf (by decide +kernel)
  · exact own_eqP h' tr_rf (by decide +kernel)
  · show (if is_li y then _ else _) = (if is_li y then _ else _)
    split
    · exact it_eqP h'
    · split
      · exact it_eqP h'
      · exact inp_eq h'

/-! right -/
def okR (n i : Nat) (s : List ByteArray) (y : ByteArray) : Bool := inS y 15 && !inS y 0 && !(is_textarea y && decide (i + 1 < n)) && decide (i ≤ (rS y s).length) && decide ((rP y s).length = 0)
def rightR (s : List ByteArray) : Bool := (List.range s.length).all fun i => okR s.length i (s.take i) (s.getD i ⟨#[]⟩)
theorem rightR_at {s : List ByteArray} (h : rightR s = true) (j : Nat) (hj : j < s.length) : okR s.length j (s.take j) s[j] = true := by
  unfold rightR at h
  rw [List.all_eq_true] at h
  have := h j (List.mem_range.2 hj)
  rwa [List.getD_eq_getElem?_getD, List.getElem?_eq_getElem hj, Option.getD_some] at this
theorem rightR_all {s : List ByteArray} (h : ∀ j (hj : j < s.length), okR s.length j (s.take j) s[j] = true) : rightR s = true := by
  unfold rightR
  rw [List.all_eq_true]
  intro j hj
  rw [List.mem_range] at hj
  rw [List.getD_eq_getElem?_getD, List.getElem?_eq_getElem hj, Option.getD_some]
  exact h j hj
theorem rightR_bad {s : List ByteArray} (j : Nat) (hj : j < s.length) (h : okR s.length j (s.take j) s[j] = false) : rightR s = false := by
  rw [Bool.eq_false_iff]
  intro hc
  rw [rightR_at hc j hj] at h
  cases h
theorem kd_cg {x : ByteArray} (h : is_colgroup x = true) : x = s_colgroup := by unfold is_colgroup at h; exact z_of (by decide +kernel) h
/-- a column group asks nothing only of a table -/
theorem cg_ask {s : List ByteArray} (hs : s ≠ []) (h1 : s.length ≤ (askS s_colgroup s).length) (h2 : askP s_colgroup s = []) : is_table (topS s) = true := by
  have hk : kd s_colgroup = 1 := by decide +kernel
  have eS : askS s_colgroup s = ownS (namedB s_table) (aS s_colgroup s) [] := by unfold askS; rw [hk]; rfl
  have eP : askP s_colgroup s = ownP (namedB s_table) noneF (aS s_colgroup s) [] := by unfold askP; rw [hk]; rfl
  rw [eS] at h1
  rw [eP] at h2
  unfold ownP at h2
  split at h2
  · next h0 =>
    unfold ownS at h1
    rw [if_pos h0, List.length_take] at h1
    have hl := aS_len s_colgroup s
    have hpre := aS_pre s_colgroup s
    have hE : aS s_colgroup s = s := hpre.eq_of_length_le (by omega)
    rw [hE] at h0 h1
    have h3 := tm_val h0
    have h4 := tm_le (namedB s_table) noB s
    have h5 : 0 < s.length := List.length_pos_iff.2 hs
    have h6 : (tm (namedB s_table) noB s).toNat = s.length - 1 := by omega
    rw [h6] at h3
    have h7 : s.getD (s.length - 1) ⟨#[]⟩ = topS s := by
      unfold topS
      rw [List.getLastD_eq_getLast?, List.getLast?_eq_getElem?, List.getD_eq_getElem?_getD]
    rw [h7] at h3
    exact named_is _ h3
  · simp at h2
theorem cg_rsk {s : List ByteArray} (hs : s ≠ []) (h1 : s.length ≤ (rS s_colgroup s).length) (h2 : rP s_colgroup s = []) : is_table (topS s) = true := by
  have hk : kd s_colgroup = 1 := by decide +kernel
  have eS : rS s_colgroup s = plS (namedB s_table) (aS s_colgroup s) := by unfold rS; rw [hk]; rfl
  have eP : rP s_colgroup s = plP (namedB s_table) [] [] (aS s_colgroup s) := by unfold rP; rw [hk]; rfl
  rw [eS] at h1
  rw [eP] at h2
  unfold plP at h2
  split at h2
  · next h0 =>
    unfold plS at h1
    rw [if_pos h0, List.length_take] at h1
    have hl := aS_len s_colgroup s
    have hpre := aS_pre s_colgroup s
    have hE : aS s_colgroup s = s := hpre.eq_of_length_le (by omega)
    rw [hE] at h0 h1
    have h3 := tm_val h0
    have h4 := tm_le (namedB s_table) noB s
    have h5 : 0 < s.length := List.length_pos_iff.2 hs
    have h6 : (tm (namedB s_table) noB s).toNat = s.length - 1 := by omega
    rw [h6] at h3
    have h7 : s.getD (s.length - 1) ⟨#[]⟩ = topS s := by
      unfold topS
      rw [List.getLastD_eq_getLast?, List.getLast?_eq_getElem?, List.getD_eq_getElem?_getD]
    rw [h7] at h3
    exact named_is _ h3
  · simp at h2
theorem noCC_of {s : List ByteArray} (h : ∀ j (hj : j < s.length), s[j] = s_colgroup → s.take j ≠ [] → is_table (topS (s.take j)) = true) : noCC s := by
  intro l x y hp hy
  have hlen := hp.length_le
  simp at hlen
  have hj : l.length + 1 < s.length := by omega
  have e1 : s[l.length + 1] = y := by
    obtain ⟨r, rfl⟩ := hp
    simp
  have e2 : s.take (l.length + 1) = l ++ [x] := by
    obtain ⟨r, rfl⟩ := hp
    rw [show l ++ [x, y] ++ r = (l ++ [x]) ++ (y :: r) from by simp, show l.length + 1 = (l ++ [x]).length from by simp, List.take_left]
  have h3 := h _ hj (by rw [e1]; exact kd_cg hy) (by rw [e2]; simp)
  rw [e2, topS_snoc] at h3
  exact (table_z h3).2.2
theorem right_CC {s : List ByteArray} (h : rightB s = true) : noCC s := noCC_of fun j hj e hne => by
  have h1 := right_at h j hj
  rw [e] at h1
  unfold okY stillB at h1
  simp at h1
  have hlt : (s.take j).length = j := by rw [List.length_take]; omega
  exact cg_ask hne (by rw [hlt]; have := h1.2.1; omega) h1.2.2
theorem rightR_CC {s : List ByteArray} (h : rightR s = true) : noCC s := noCC_of fun j hj e hne => by
  have h1 := rightR_at h j hj
  rw [e] at h1
  unfold okR at h1
  simp at h1
  have hlt : (s.take j).length = j := by rw [List.length_take]; omega
  exact cg_rsk hne (by rw [hlt]; exact h1.1.2) h1.2
theorem askS_len' (y : ByteArray) (s : List ByteArray) : (askS y s).length ≤ (aS0 s).length := by
  have h1 : (aS1 y (aS0 s)).length ≤ (aS0 s).length := (aS1_pre _ _).length_le
  have h2 : (aS2 y (aS1 y (aS0 s))).length ≤ (aS1 y (aS0 s)).length := (aS2_pre _ _).length_le
  have h3 : (aS y s).length ≤ (aS2 y (aS1 y (aS0 s))).length := (aS3_pre _ _).length_le
  have h4 : (askS y s).length ≤ (aS y s).length := by
    unfold askS
    split
    · exact ownS_len _ _ _
    · exact ownS_len _ _ _
    · exact ownS_len _ _ _
    · exact ownS_len _ _ _
    · split
      · exact itS_len _ _ _
      · split
        · exact itS_len _ _ _
        · exact inS2_len _ _
  omega
theorem ta_ask {s : List ByteArray} {y : ByteArray} (hs : s ≠ []) (h : is_textarea (topS s) = true) : (askS y s).length < s.length := by
  have h0 : (aS0 s).length = s.length - 1 := by unfold aS0; rw [if_pos h, List.length_dropLast]
  have h1 := askS_len' y s
  have h2 : 0 < s.length := List.length_pos_iff.2 hs
  omega
theorem right_eq (s : List ByteArray) : rightB s = rightR s := by
  rw [Bool.eq_iff_iff]
  constructor
  · intro h
    have hcc := right_CC h
    refine rightR_all fun j hj => ?_
    have h1 := right_at h j hj
    have hcj := noCC_pre hcc (List.take_prefix j s)
    unfold okY stillB at h1
    unfold okR
    rw [rS_eq hcj, rP_eq hcj]
    have hlt : (s.take j).length = j := by rw [List.length_take]; omega
    simp only [Bool.and_eq_true, beq_iff_eq, hlt] at h1
    obtain ⟨⟨h2, h3⟩, h4, h5⟩ := h1
    simp only [Bool.and_eq_true, decide_eq_true_eq]
    refine ⟨⟨⟨⟨h2, h3⟩, ?_⟩, by omega⟩, by omega⟩
    simp only [Bool.not_eq_true', Bool.and_eq_false_iff, decide_eq_false_iff_not]
    rcases Nat.lt_or_ge (j + 1) s.length with hl | hl
    · left
      rw [Bool.eq_false_iff]
      intro ht
      have h6 := right_at h (j + 1) hl
      unfold okY stillB at h6
      simp only [Bool.and_eq_true, beq_iff_eq] at h6
      have hne : s.take (j + 1) ≠ [] := by intro e; have h9 := congrArg List.length e; rw [List.length_take, List.length_nil] at h9; omega
      have htop : topS (s.take (j + 1)) = s[j] := by rw [List.take_succ_eq_append_getElem hj, topS_snoc]
      have h7 := ta_ask (y := s[j + 1]) hne (by rw [htop]; exact ht)
      have := h6.2.1
      omega
    · exact .inr (by omega)
  · intro h
    have hcc := rightR_CC h
    refine right_all fun j hj => ?_
    have h1 := rightR_at h j hj
    have hcj := noCC_pre hcc (List.take_prefix j s)
    unfold okR at h1
    rw [rS_eq hcj, rP_eq hcj] at h1
    have hlt : (s.take j).length = j := by rw [List.length_take]; omega
    have hle := askS_len s[j] (s.take j)
    simp only [Bool.and_eq_true, decide_eq_true_eq] at h1
    obtain ⟨⟨⟨⟨h2, h3⟩, h4⟩, h5⟩, h6⟩ := h1
    unfold okY stillB
    simp only [Bool.and_eq_true, beq_iff_eq, hlt]
    exact ⟨⟨h2, h3⟩, by omega, by omega⟩
end Go.Proofs.YtddgpkdhakjjaaaDoor.Eq
