/- A text without outer blanks that has one field is that field. No program. -/
import Derived.Test.YtddgpkdhakjjaaaDoorLib
set_option linter.unusedVariables false
set_option linter.unusedSimpArgs false
namespace Go.Proofs.YtddgpkdhakjjaaaDoor.Fo
open Go.RowKit Lb

theorem flds_cons (cur : List UInt8) (c : UInt8) (r : List UInt8) : flds cur (c :: r) = if blB c then (if cur = [] then flds [] r else cur :: flds [] r) else flds (cur ++ [c]) r := by
  rw [flds]
  split <;> (try split) <;> simp_all
theorem flds_cur_ne : ∀ (r cur : List UInt8), cur ≠ [] → flds cur r ≠ []
  | [], cur, h => by rw [flds]; simp [h]
  | c :: r, cur, h => by
    rw [flds_cons]
    split
    · simp
    · exact flds_cur_ne r (cur ++ [c]) (by simp)
theorem flds_ne : ∀ r : List UInt8, (∃ x ∈ r, blB x = false) → flds [] r ≠ []
  | [], h => by obtain ⟨x, hx, _⟩ := h; cases hx
  | c :: r, h => by
    rw [flds_cons]
    split
    · next hc =>
      rw [if_pos rfl]
      refine flds_ne r ?_
      obtain ⟨x, hx, hb⟩ := h
      rcases List.mem_cons.1 hx with rfl | hx
      · rw [hb] at hc; cases hc
      · exact ⟨x, hx, hb⟩
    · exact flds_cur_ne r _ (by simp)
theorem flds_one : ∀ (r cur z : List UInt8), cur ≠ [] → flds cur r = [z] → (∀ x, r.getLast? = some x → blB x = false) → z = cur ++ r
  | [], cur, z, h, h1, _ => by
    rw [flds] at h1
    simp [h] at h1
    rw [← h1, List.append_nil]
  | c :: r, cur, z, h, h1, hl => by
    rw [flds_cons] at h1
    split at h1
    · next hc =>
      exfalso
      have h2 : flds [] r = [] := by
        injection h1
      rcases List.eq_nil_or_concat r with rfl | ⟨q, x, he⟩
      · have := hl c rfl
        rw [this] at hc; cases hc
      · rw [List.concat_eq_append] at he
        subst he
        refine flds_ne _ ⟨x, by simp, hl x ?_⟩ h2
        rw [← List.cons_append, List.getLast?_append]
        simp
    · have := flds_one r (cur ++ [c]) z (by simp) h1 (fun x hx => hl x (by
        cases r with
        | nil => cases hx
        | cons a r => rw [List.getLast?_cons_cons]; exact hx))
      rw [this]; simp
theorem one_field {l z : List UInt8} (h : flds [] l = [z]) (hf : ∀ x, l.head? = some x → blB x = false) (hl : ∀ x, l.getLast? = some x → blB x = false) : z = l := by
  cases l with
  | nil => rw [flds] at h; simp at h
  | cons c r =>
    rw [flds_cons, if_neg (by rw [hf c rfl]; simp)] at h
    have := flds_one r [c] z (by simp) h (fun x hx => hl x (by
      cases r with
      | nil => cases hx
      | cons a r => rw [List.getLast?_cons_cons]; exact hx))
    rw [this]; rfl
theorem drop_len (l : List UInt8) : (l.dropWhile blB).length ≤ l.length := (List.dropWhile_sublist _).length_le
theorem back_len (l : List UInt8) : (backL l).length ≤ l.length := by
  unfold backL
  rw [List.length_reverse]
  have := drop_len l.reverse
  rwa [List.length_reverse] at this
theorem trim_head {l : List UInt8} (h : trimL l = l) : ∀ x, l.head? = some x → blB x = false := by
  intro x hx
  cases l with
  | nil => cases hx
  | cons c r =>
    simp at hx
    subst hx
    rw [Bool.eq_false_iff]
    intro hb
    have h1 : frontL (c :: r) = frontL r := by unfold frontL; rw [List.dropWhile_cons, if_pos hb]
    have h2 := congrArg List.length h
    unfold trimL at h2
    rw [h1] at h2
    have h3 := back_len (frontL r)
    have h4 := drop_len r
    unfold frontL at h2 h3
    simp at h2
    omega
theorem trim_last {l : List UInt8} (h : trimL l = l) : ∀ x, l.getLast? = some x → blB x = false := by
  intro x hx
  rw [Bool.eq_false_iff]
  intro hb
  rcases List.eq_nil_or_concat l with rfl | ⟨q, z, he⟩
  · cases hx
  · rw [List.concat_eq_append] at he
    subst he
    simp at hx
    subst hx
    have hfr : frontL (q ++ [z]) = q ++ [z] := by
      cases hq : q ++ [z] with
      | nil => rfl
      | cons c r =>
        have := trim_head h c (by rw [hq]; rfl)
        unfold frontL
        rw [List.dropWhile_cons, if_neg (by rw [this]; simp)]
    have h2 := congrArg List.length h
    unfold trimL at h2
    rw [hfr] at h2
    unfold backL at h2
    rw [List.reverse_append, List.reverse_singleton, List.singleton_append, List.dropWhile_cons, if_pos hb, List.length_reverse] at h2
    have h4 := drop_len q.reverse
    simp at h2 h4
    omega
theorem trim_field {l z : List UInt8} (ht : trimL l = l) (h : fieldsL l = [z]) : z = l := one_field h (trim_head ht) (trim_last ht)
end Go.Proofs.YtddgpkdhakjjaaaDoor.Fo
