/- How far two texts are apart: the plain law. No program. -/
import Derived.Test.YtknpppppjmhomaaDoorLib
set_option linter.unusedVariables false
set_option linter.unusedSimpArgs false
namespace Go.Proofs.YtknpppppjmhomaaDoor.Lv
open Go.RowKit Lb

def lev : List UInt8 → List UInt8 → Nat
  | [], b => b.length
  | a, [] => a.length
  | x :: a, y :: b => if x = y then lev a b else 1 + min (lev a b) (min (lev (x :: a) b) (lev a (y :: b)))
termination_by a b => a.length + b.length
theorem lev_nil (b : List UInt8) : lev [] b = b.length := by rw [lev]
theorem lev_nil' (a : List UInt8) : lev a [] = a.length := by
  cases a with
  | nil => rw [lev]
  | cons x a => rw [lev]; exact fun h => by cases h
theorem lev_cons (x y : UInt8) (a b : List UInt8) : lev (x :: a) (y :: b) = if x = y then lev a b else 1 + min (lev a b) (min (lev (x :: a) b) (lev a (y :: b))) := by rw [lev]
/-- one byte more or less on a side -/
theorem lev_step (n : Nat) : ∀ (a b : List UInt8), a.length + b.length ≤ n → (∀ x, lev (x :: a) b ≤ lev a b + 1 ∧ lev a b ≤ lev (x :: a) b + 1) ∧ (∀ y, lev a (y :: b) ≤ lev a b + 1 ∧ lev a b ≤ lev a (y :: b) + 1) := by
  induction n with
  | zero =>
    intro a b h
    have ha : a = [] := List.eq_nil_of_length_eq_zero (by omega)
    have hb : b = [] := List.eq_nil_of_length_eq_zero (by omega)
    subst ha hb
    exact ⟨fun x => by simp only [lev_nil', List.length_cons]; omega, fun y => by simp only [lev_nil, List.length_cons]; omega⟩
  | succ n ih =>
    intro a b h
    constructor
    · intro x
      cases b with
      | nil => simp only [lev_nil', List.length_cons]; omega
      | cons y b =>
        rw [lev_cons]
        simp only [List.length_cons] at h
        have i1 := (ih a b (by omega)).2 y
        split
        · omega
        · have i2 := (ih a b (by omega)).1 x
          omega
    · intro y
      cases a with
      | nil => simp only [lev_nil, List.length_cons]; omega
      | cons x a =>
        rw [lev_cons]
        simp only [List.length_cons] at h
        have i1 := (ih a b (by omega)).1 x
        split
        · omega
        · have i2 := (ih a b (by omega)).2 y
          omega
theorem lev_l (x : UInt8) (a b : List UInt8) : lev (x :: a) b ≤ lev a b + 1 ∧ lev a b ≤ lev (x :: a) b + 1 := (lev_step _ a b (Nat.le_refl _)).1 x
theorem lev_r (y : UInt8) (a b : List UInt8) : lev a (y :: b) ≤ lev a b + 1 ∧ lev a b ≤ lev a (y :: b) + 1 := (lev_step _ a b (Nat.le_refl _)).2 y
/-- the same, as the least of three -/
theorem lev_min (x y : UInt8) (a b : List UInt8) : lev (x :: a) (y :: b) = min (lev a (y :: b) + 1) (min (lev (x :: a) b + 1) (lev a b + if x = y then 0 else 1)) := by
  rw [lev_cons]
  have h1 := lev_l x a b
  have h2 := lev_r y a b
  split <;> omega

/-! prefixes -/
def D (a b : List UInt8) (i j : Nat) : Nat := lev (a.take i).reverse (b.take j).reverse
theorem D_0 (a b : List UInt8) {j : Nat} (h : j ≤ b.length) : D a b 0 j = j := by
  unfold D
  rw [List.take_zero, List.reverse_nil, lev_nil, List.length_reverse, List.length_take]
  omega
theorem D_i0 (a b : List UInt8) {i : Nat} (h : i ≤ a.length) : D a b i 0 = i := by
  unfold D
  rw [List.take_zero, List.reverse_nil, lev_nil', List.length_reverse, List.length_take]
  omega
theorem rev_take {a : List UInt8} {i : Nat} (h : i < a.length) : (a.take (i + 1)).reverse = a[i] :: (a.take i).reverse := by
  rw [List.take_succ_eq_append_getElem h, List.reverse_append]
  rfl
theorem D_eq {a b : List UInt8} {i j : Nat} (hi : i < a.length) (hj : j < b.length) (h : a[i] = b[j]) : D a b (i + 1) (j + 1) = D a b i j := by
  unfold D
  rw [rev_take hi, rev_take hj, lev_cons, if_pos h]
theorem D_ne {a b : List UInt8} {i j : Nat} (hi : i < a.length) (hj : j < b.length) (h : a[i] ≠ b[j]) : D a b (i + 1) (j + 1) = 1 + min (D a b i j) (min (D a b (i + 1) j) (D a b i (j + 1))) := by
  unfold D
  rw [rev_take hi, rev_take hj, lev_cons, if_neg h]
theorem D_min {a b : List UInt8} {i j : Nat} (hi : i < a.length) (hj : j < b.length) : D a b (i + 1) (j + 1) = min (D a b i (j + 1) + 1) (min (D a b (i + 1) j + 1) (D a b i j + if a[i] = b[j] then 0 else 1)) := by
  unfold D
  rw [rev_take hi, rev_take hj, lev_min]
theorem lev_le (n : Nat) : ∀ (a b : List UInt8), a.length + b.length ≤ n → lev a b ≤ max a.length b.length := by
  induction n with
  | zero =>
    intro a b h
    have ha : a = [] := List.eq_nil_of_length_eq_zero (by omega)
    subst ha
    rw [lev_nil]; exact Nat.le_max_right _ _
  | succ n ih =>
    intro a b h
    cases a with
    | nil => rw [lev_nil]; exact Nat.le_max_right _ _
    | cons x a =>
      cases b with
      | nil => rw [lev_nil']; exact Nat.le_max_left _ _
      | cons y b =>
        rw [lev_cons]
        simp only [List.length_cons] at h ⊢
        have := ih a b (by omega)
        split <;> omega
theorem D_le (a b : List UInt8) (i j : Nat) : D a b i j ≤ a.length + b.length := by
  have h := lev_le _ (a.take i).reverse (b.take j).reverse (Nat.le_refl _)
  unfold D
  simp only [List.length_reverse, List.length_take] at h
  omega
/-- no longer than the limit -/
def sh (s : ByteArray) : List UInt8 := s.data.toList.take 100
def dist (s t : ByteArray) : Nat := D (sh s) (sh t) (sh s).length (sh t).length
/-- a row, halfway: the first k of the next, the rest of this one -/
def mid (a b : List UInt8) (i k : Nat) : List Int := (List.range (b.length + 1)).map fun j => if j ≤ k then (D a b (i + 1) j : Int) else (D a b i j : Int)
def rowD (a b : List UInt8) (i : Nat) : List Int := (List.range (b.length + 1)).map fun j => (D a b i j : Int)
end Go.Proofs.YtknpppppjmhomaaDoor.Lv
