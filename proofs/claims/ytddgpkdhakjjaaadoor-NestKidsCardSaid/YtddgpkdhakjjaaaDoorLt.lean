/- nest: what is put in is little, and of a few names; what is left is no more than there was. No program. -/
import Derived.Test.YtddgpkdhakjjaaaDoorAw
set_option linter.unusedVariables false
set_option linter.unusedSimpArgs false
namespace Go.Proofs.YtddgpkdhakjjaaaDoor.Lt
open Go.RowKit Lb Fl Is Tp Np Wk Wp Wi Wo Pt Oc Pm Go.Proofs.YtddgpkdhakjjaaaDoor.Ask Rt Go.Proofs.YtddgpkdhakjjaaaDoor.Op Aw

def putL : List ByteArray := [s_tbody, s_tr, s_td, s_li, s_dd, s_ul, s_dl, s_table, s_colgroup]
theorem put_in : ∀ x ∈ putL, inS x 15 = true ∧ inS x 0 = false := by decide +kernel
theorem addN_mem (y x : ByteArray) (h : x ∈ addN y) : x ∈ putL := by
  unfold addN at h
  repeat' split at h
  all_goals (simp at h; try (rcases h with h | h | h)) <;> (try (rcases h with h | h)) <;> simp_all [putL]
theorem inP2_mem (s : List ByteArray) (x : ByteArray) (h : x ∈ inP2 s []) : x ∈ putL := by
  unfold inP2 at h
  rw [List.nil_append] at h
  exact addN_mem _ _ h
theorem ownP_mem (pr : ByteArray → Bool) (f : ByteArray → List ByteArray) (s : List ByteArray) (hf : ∀ z, ∀ x ∈ f z, x ∈ putL) (x : ByteArray) (h : x ∈ ownP pr f s []) : x ∈ putL := by
  unfold ownP at h
  split at h
  · rw [List.nil_append] at h; exact hf _ _ h
  · rw [List.mem_append, List.mem_cons] at h
    rcases h with h | h | h
    · exact inP2_mem _ _ h
    · subst h; simp [putL]
    · exact hf _ _ h
theorem itP_mem (pr : ByteArray → Bool) (y : ByteArray) (s : List ByteArray) (hy : y ∈ putL) (x : ByteArray) (h : x ∈ itP pr y s []) : x ∈ putL := by
  unfold itP at h
  split at h
  · cases h
  · rw [List.mem_append, List.mem_singleton] at h
    rcases h with h | h
    · exact inP2_mem _ _ h
    · subst h; exact hy
theorem noneF_mem : ∀ z, ∀ x ∈ noneF z, x ∈ putL := by intro z x h; cases h
theorem cellsF_mem : ∀ z, ∀ x ∈ cellsF z, x ∈ putL := by
  intro z x h
  unfold cellsF at h
  split at h
  · cases h
  · split at h
    · simp at h; rcases h with rfl | rfl <;> simp [putL]
    · simp at h; subst h; simp [putL]
theorem colF_mem : ∀ z, ∀ x ∈ colF z, x ∈ putL := by
  intro z x h
  unfold colF at h
  split at h
  · simp at h; subst h; simp [putL]
  · cases h
theorem trF_mem : ∀ z, ∀ x ∈ trF z, x ∈ putL := by
  intro z x h
  unfold trF at h
  split at h
  · simp at h; subst h; simp [putL]
  · cases h
theorem askP_mem (y : ByteArray) (s : List ByteArray) (x : ByteArray) (h : x ∈ askP y s) : x ∈ putL := by
  unfold askP at h
  split at h
  · exact ownP_mem _ _ _ noneF_mem _ h
  · exact ownP_mem _ _ _ cellsF_mem _ h
  · exact ownP_mem _ _ _ colF_mem _ h
  · exact ownP_mem _ _ _ trF_mem _ h
  · split at h
    · exact itP_mem _ _ _ (by simp [putL]) _ h
    · split at h
      · exact itP_mem _ _ _ (by simp [putL]) _ h
      · exact inP2_mem _ _ h

/-! no more than there was -/
theorem wT_len (t : Int) (s : List ByteArray) : (wT t s).length ≤ s.length := by unfold wT; split <;> simp <;> omega
theorem noS_len (s : List ByteArray) : (noS s).length ≤ s.length := wT_len _ s
theorem inS2_len (s p : List ByteArray) : (inS2 s p).length ≤ s.length := by unfold inS2; split <;> simp <;> omega
theorem aS_len (y : ByteArray) (s : List ByteArray) : (aS y s).length ≤ s.length := by
  have h0 : (aS0 s).length ≤ s.length := by unfold aS0; split <;> simp <;> omega
  have h1 : (aS1 y (aS0 s)).length ≤ (aS0 s).length := by
    unfold aS1
    split
    · exact wT_len _ _
    · exact Nat.le_refl _
  have h2 : (aS2 y (aS1 y (aS0 s))).length ≤ (aS1 y (aS0 s)).length := by
    unfold aS2
    split
    · exact wT_len _ _
    · exact Nat.le_refl _
  have h3 : (aS y s).length ≤ (aS2 y (aS1 y (aS0 s))).length := by
    unfold aS aS3
    split
    · exact wT_len _ _
    · exact Nat.le_refl _
  omega
theorem ownS_len (pr : ByteArray → Bool) (s p : List ByteArray) : (ownS pr s p).length ≤ s.length := by
  unfold ownS
  split
  · rw [List.length_take]; omega
  · exact Nat.le_trans (inS2_len _ _) (noS_len _)
theorem itS_len (pr : ByteArray → Bool) (s p : List ByteArray) : (itS pr s p).length ≤ s.length := by
  unfold itS
  split
  · rw [List.length_take]; omega
  · exact inS2_len _ _
theorem askS_len (y : ByteArray) (s : List ByteArray) : (askS y s).length ≤ s.length := by
  refine Nat.le_trans ?_ (aS_len y s)
  unfold askS
  split
  · exact ownS_len _ _ _
  · exact ownS_len _ _ _
  · exact ownS_len _ _ _
  · exact ownS_len _ _ _
  · split
    · exact itS_len _ _ _
    · split
      · exact itS_len _ _ _
      · exact inS2_len _ _

/-! at most four -/
theorem tmGo_no (p : ByteArray → Bool) : ∀ l : List ByteArray, ¬ 0 ≤ tmGo p noB l → ∀ x ∈ l, p x = false
  | [], _, x, h => by cases h
  | y :: r, hn, x, h => by
    unfold tmGo at hn
    simp only [noB, Bool.false_eq_true, if_false] at hn
    split at hn
    · exact absurd (Int.natCast_nonneg _) hn
    · next hp =>
      rcases List.mem_cons.1 h with rfl | h
      · simpa using hp
      · exact tmGo_no p r hn x h
theorem tm_no {p : ByteArray → Bool} {l : List ByteArray} (h : ¬ 0 ≤ tm p noB l) (x : ByteArray) (hx : x ∈ l) : p x = false := tmGo_no p l.reverse h x (List.mem_reverse.2 hx)
theorem topS_mem (l : List ByteArray) : topS l = ⟨#[]⟩ ∨ topS l ∈ l := by
  cases l with
  | nil => exact .inl rfl
  | cons x r =>
    right
    unfold topS
    rw [List.getLastD_cons]
    cases r with
    | nil => simp
    | cons z r =>
      rw [List.getLastD_eq_getLast?, List.getLast?_eq_some_getLast (by simp), Option.getD_some]
      exact List.mem_cons_of_mem _ (List.getLast_mem _)
theorem wT_sub (t : Int) (s : List ByteArray) (x : ByteArray) (h : x ∈ wT t s) : x ∈ s := by
  unfold wT at h
  split at h
  · exact List.mem_of_mem_take h
  · exact h
theorem inS2_sub (s p : List ByteArray) (x : ByteArray) (h : x ∈ inS2 s p) : x ∈ s := by
  unfold inS2 at h
  split at h
  · exact (List.dropLast_sublist _).subset h
  · exact h
theorem addN_1 {y : ByteArray} (h1 : is_table y = false) (h2 : groupB y = false) (h3 : is_tr y = false) : (addN y).length ≤ 1 := by
  unfold addN
  rw [h1, h2, h3]
  simp only [Bool.false_eq_true, if_false]
  split
  · simp
  · split <;> simp
theorem addN_2 {y : ByteArray} (h1 : is_table y = false) : (addN y).length ≤ 2 := by
  unfold addN
  rw [h1]
  simp only [Bool.false_eq_true, if_false]
  repeat' split
  all_goals simp
theorem e_no : is_table ⟨#[]⟩ = false ∧ groupB ⟨#[]⟩ = false ∧ is_tr ⟨#[]⟩ = false := by decide +kernel
/-- the top behind 'inner' is none of those that are met nowhere -/
theorem top_no {pr : ByteArray → Bool} {s : List ByteArray} (h : ¬ 0 ≤ tm pr noB s) : topS (inS2 (noS s) []) = ⟨#[]⟩ ∨ pr (topS (inS2 (noS s) [])) = false := by
  rcases topS_mem (inS2 (noS s) []) with e | e
  · exact .inl e
  · exact .inr (tm_no h _ (wT_sub _ _ _ (inS2_sub _ _ _ e)))
theorem inP2_eq (s : List ByteArray) : inP2 s [] = addN (topS (inS2 s [])) := by unfold inP2; simp
theorem own4 (pr : ByteArray → Bool) (f : ByteArray → List ByteArray) (s : List ByteArray) (k : Nat) (hf : ∀ z, (f z).length ≤ 2) (ht : (f s_table).length ≤ k) (hk : ¬ 0 ≤ tm pr noB s → (addN (topS (inS2 (noS s) []))).length + k ≤ 3) : (ownP pr f s []).length ≤ 4 := by
  unfold ownP
  split
  · rw [List.nil_append]
    have := hf (s.getD (tm pr noB s).toNat ⟨#[]⟩)
    omega
  · next h =>
    have := hk h
    rw [inP2_eq, List.length_append, List.length_cons]
    omega
theorem cells_f {x : ByteArray} (h : cellsB x = false) : is_table x = false ∧ groupB x = false ∧ is_tr x = false := by
  unfold cellsB at h
  simp at h
  exact ⟨h.2, h.1.2, h.1.1⟩
theorem tr_f {x : ByteArray} (h : trB x = false) : is_table x = false ∧ groupB x = false := by
  unfold trB at h
  simp at h
  exact ⟨h.2, h.1⟩
theorem col_f {x : ByteArray} (h : colB x = false) : is_table x = false := by
  unfold colB at h
  simp at h
  exact h.2
theorem addN_3 (y : ByteArray) (h1 : is_table y = false) (h2 : groupB y = false) : (addN y).length ≤ 1 := by
  unfold addN
  rw [h1, h2]
  simp only [Bool.false_eq_true, if_false]
  repeat' split
  all_goals simp
theorem it4 (pr : ByteArray → Bool) (y : ByteArray) (s : List ByteArray) : (itP pr y s []).length ≤ 4 := by
  unfold itP
  split
  · simp
  · rw [inP2_eq, List.length_append, List.length_singleton]
    have := addN_len (topS (inS2 s []))
    omega
theorem askP_4 (y : ByteArray) (s : List ByteArray) : (askP y s).length ≤ 4 := by
  unfold askP
  split
  · refine own4 _ _ _ 0 (by simp [noneF]) (by simp [noneF]) (fun _ => ?_)
    have := addN_len (topS (inS2 (noS (aS y s)) []))
    omega
  · refine own4 _ _ _ 2 (fun z => ?_) (by unfold cellsF; repeat' split
                                          all_goals simp) (fun h => ?_)
    · unfold cellsF; repeat' split
      all_goals simp
    · rcases top_no h with e | e
      · rw [e]
        have := addN_1 e_no.1 e_no.2.1 e_no.2.2
        omega
      · have h3 := cells_f e
        have := addN_1 h3.1 h3.2.1 h3.2.2
        omega
  · refine own4 _ _ _ 1 (fun z => by unfold colF; split <;> simp) (by unfold colF; split <;> simp) (fun h => ?_)
    rcases top_no h with e | e
    · rw [e]
      have := addN_2 e_no.1
      omega
    · have := addN_2 (col_f e)
      omega
  · refine own4 _ _ _ 1 (fun z => by unfold trF; split <;> simp) (by unfold trF; split <;> simp) (fun h => ?_)
    rcases top_no h with e | e
    · rw [e]
      have := addN_3 _ e_no.1 e_no.2.1
      omega
    · have h3 := tr_f e
      have := addN_3 _ h3.1 h3.2
      omega
  · split
    · exact it4 _ _ _
    · split
      · exact it4 _ _ _
      · rw [inP2_eq]
        have := addN_len (topS (inS2 (aS y s) []))
        omega
end Go.Proofs.YtddgpkdhakjjaaaDoor.Lt
