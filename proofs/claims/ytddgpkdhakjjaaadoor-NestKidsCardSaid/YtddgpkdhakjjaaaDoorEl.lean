/- nest: the plain law of end tags: that of the top closes one; that of what is not open closes nothing. No program. -/
import Derived.Test.YtddgpkdhakjjaaaDoorEn
set_option linter.unusedVariables false
set_option linter.unusedSimpArgs false
namespace Go.Proofs.YtddgpkdhakjjaaaDoor.El
open Go.RowKit Lb Fl Is Tp Np Wk Wp Wi Wo Pt Oc Go.Proofs.YtddgpkdhakjjaaaDoor.Ask Rt Go.Proofs.YtddgpkdhakjjaaaDoor.Op Aw Lt En
open Go.Proofs.YtddgpkdhakjjaaaDoor.St (nm inL)

theorem tmGo_miss (p q : ByteArray → Bool) : ∀ l : List ByteArray, (∀ x ∈ l, p x = false) → tmGo p q l = -1
  | [], _ => rfl
  | x :: r, h => by
    unfold tmGo
    rw [h x (List.mem_cons_self ..)]
    simp only [Bool.false_eq_true, if_false]
    split
    · rfl
    · exact tmGo_miss p q r (fun y hy => h y (List.mem_cons_of_mem _ hy))
theorem tm_miss {p q : ByteArray → Bool} {l : List ByteArray} (h : ∀ x ∈ l, p x = false) : tm p q l = -1 := tmGo_miss p q l.reverse (fun x hx => h x (List.mem_reverse.1 hx))
/-- the top is one, and does not stop -/
theorem tm_top {p q : ByteArray → Bool} {l : List ByteArray} (h : l ≠ []) (hq : q (topS l) = false) (hp : p (topS l) = true) : tm p q l = (l.length : Int) - 1 := by
  obtain ⟨r, x, rfl⟩ : ∃ r x, l = r ++ [x] := ⟨l.dropLast, l.getLast h, (List.dropLast_concat_getLast h).symm⟩
  have e : topS (r ++ [x]) = x := by unfold topS; simp
  rw [e] at hq hp
  unfold tm
  rw [List.reverse_append, List.reverse_singleton, List.singleton_append, tmGo, hq, hp]
  simp
theorem named_eq {x y : ByteArray} : namedB y x = decide (x = y) := by
  unfold namedB
  exact eq_str
theorem named_self (y : ByteArray) : namedB y y = true := by rw [named_eq]; simp
theorem named_ne {x y : ByteArray} (h : x ≠ y) : namedB y x = false := by rw [named_eq]; simpa using h
/-- what a set has, one by one -/
theorem in_all {k : Nat} (hk : k < 16) {P : ByteArray → Bool} (h : (nm k).all (fun l => P (str l)) = true) {x : ByteArray} (hx : inS x k = true) : P x = true := by
  have h1 : (nm k).contains x.data.toList = true := by
    unfold inS inL at hx
    have h2 : (k : Int).toNat = k := Int.toNat_natCast k
    simp only [h2] at hx
    simp at hx
    simpa using hx.2
  rw [List.contains_iff_mem] at h1
  have := List.all_eq_true.1 h _ h1
  rwa [str_of] at this
theorem head_wall {x : ByteArray} (h : headB x = true) : wallB x = false := by
  have := in_all (k := 5) (by decide) (P := fun x => !wallB x) (by decide +kernel) h
  simpa using this
theorem wall_set {x : ByteArray} (h : wallB x = true) : is_table x = true ∨ inS x 14 = true := by
  have e : ∀ (a : List UInt8), (x.toList == a) = true → x = str a := fun a h => by
    have h1 : x.toList = (str a).toList := by
      rw [Lib.toList_data, Lib.toList_data, str_toList, ← Lib.toList_data]
      simpa using h
    have h2 : (x.toList == (str a).toList) = true := by simp [h1]
    rw [eq_str] at h2
    simpa using h2
  unfold wallB cellB is_td is_th is_caption at h
  simp only [Bool.or_eq_true] at h
  rcases h with ((h | h) | h) | h
  · right; rw [e _ h]; decide +kernel
  · right; rw [e _ h]; decide +kernel
  · right; rw [e _ h]; decide +kernel
  · exact .inl h
theorem end_miss {s : List ByteArray} {y : ByteArray} (hh : headB y = false) (hy : ∀ x ∈ s, x ≠ y) : endV s y = 0 := by
  have h1 : ∀ q, tm (namedB y) q s = -1 := fun q => tm_miss (fun x hx => named_ne (hy x hx))
  have h2 : endAt s y = -1 := by unfold endAt; rw [hh]; simp [h1]
  unfold endV
  rw [h2]
  simp
theorem end_top {s : List ByteArray} (h : s ≠ []) (hr : rightB s = true) : endV s (topS s) = 1 := by
  have h2 : endAt s (topS s) = (s.length : Int) - 1 := by
    unfold endAt
    cases hh : headB (topS s)
    · simp only [Bool.false_eq_true, if_false]
      cases ht : is_table (topS s)
      · simp only [Bool.false_eq_true, if_false]
        cases hi : inS (topS s) 14
        · simp only [Bool.false_eq_true, if_false]
          refine tm_top h ?_ (named_self _)
          rw [Bool.eq_false_iff]
          intro hw
          rcases wall_set hw with e | e
          · rw [e] at ht; cases ht
          · rw [e] at hi; cases hi
        · simp only [if_true]
          refine tm_top h (named_ne ?_) (named_self _)
          intro e
          rw [e] at ht
          exact absurd ht (by decide +kernel)
      · simp only [if_true]
        exact tm_top h rfl (named_self _)
    · simp only [if_true]
      exact tm_top h (head_wall hh) hh
  have h3 : 0 < s.length := List.length_pos_iff.2 h
  unfold endV
  rw [h2, hr]
  simp only [if_true]
  rw [if_neg (by omega)]
  omega
theorem end_nil (y : ByteArray) : endV [] y = 0 := by
  have h1 : ∀ p q, tm p q [] = -1 := fun p q => rfl
  unfold endV
  split
  · have h2 : endAt [] y = -1 := by
      unfold endAt
      repeat' split
      all_goals rfl
    rw [h2]
    rfl
  · rfl
end Go.Proofs.YtddgpkdhakjjaaaDoor.El
