/- How far texts are apart: the same both ways, nought of the same alone, no way around is shorter; a known name is nearest to itself. No program. -/
import Derived.Test.YtknpppppjmhomaaDoorNr
set_option linter.unusedVariables false
set_option linter.unusedSimpArgs false
namespace Go.Proofs.YtknpppppjmhomaaDoor.Tr
open Go.RowKit Lb St Is Go.Proofs.YtknpppppjmhomaaDoor.So Kn Km Lv Sh Nr

theorem lev_comm (n : Nat) : ∀ (a b : List UInt8), a.length + b.length ≤ n → lev a b = lev b a := by
  induction n with
  | zero =>
    intro a b h
    have ha : a = [] := List.eq_nil_of_length_eq_zero (by omega)
    have hb : b = [] := List.eq_nil_of_length_eq_zero (by omega)
    subst ha hb
    rfl
  | succ n ih =>
    intro a b h
    cases a with
    | nil => rw [lev_nil, lev_nil']
    | cons x a =>
      cases b with
      | nil => rw [lev_nil, lev_nil']
      | cons y b =>
        simp only [List.length_cons] at h
        rw [lev_min, lev_min, ih a (y :: b) (by simp only [List.length_cons]; omega), ih (x :: a) b (by simp only [List.length_cons]; omega), ih a b (by omega)]
        by_cases e : x = y
        · subst e; simp; omega
        · have e2 : ¬ y = x := fun h => e h.symm
          rw [if_neg e, if_neg e2]; omega
theorem lev_sym (a b : List UInt8) : lev a b = lev b a := lev_comm _ a b (Nat.le_refl _)
theorem lev_self : ∀ (a : List UInt8), lev a a = 0
  | [] => by rw [lev_nil]; rfl
  | x :: a => by rw [lev_cons, if_pos rfl]; exact lev_self a
theorem lev_0 (n : Nat) : ∀ (a b : List UInt8), a.length + b.length ≤ n → lev a b = 0 → a = b := by
  induction n with
  | zero =>
    intro a b h _
    have ha : a = [] := List.eq_nil_of_length_eq_zero (by omega)
    have hb : b = [] := List.eq_nil_of_length_eq_zero (by omega)
    rw [ha, hb]
  | succ n ih =>
    intro a b h h0
    cases a with
    | nil => rw [lev_nil] at h0; rw [List.eq_nil_of_length_eq_zero h0]
    | cons x a =>
      cases b with
      | nil => rw [lev_nil'] at h0; simp at h0
      | cons y b =>
        simp only [List.length_cons] at h
        rw [lev_cons] at h0
        split at h0
        · next e => rw [e, ih a b (by omega) h0]
        · omega
theorem lev_zero {a b : List UInt8} : lev a b = 0 ↔ a = b := ⟨lev_0 _ a b (Nat.le_refl _), fun e => by rw [e]; exact lev_self b⟩
theorem lev_diff (n : Nat) : ∀ (a b : List UInt8), a.length + b.length ≤ n → a.length ≤ lev a b + b.length := by
  induction n with
  | zero => intro a b h; omega
  | succ n ih =>
    intro a b h
    cases a with
    | nil => simp
    | cons x a =>
      cases b with
      | nil => rw [lev_nil']; omega
      | cons y b =>
        simp only [List.length_cons] at h
        have i1 := ih a (y :: b) (by simp only [List.length_cons]; omega)
        have i2 := ih (x :: a) b (by simp only [List.length_cons]; omega)
        have i3 := ih a b (by omega)
        rw [lev_min]
        simp only [List.length_cons] at *
        split <;> omega
theorem lev_ge (a b : List UInt8) : a.length ≤ lev a b + b.length := lev_diff _ a b (Nat.le_refl _)
theorem lev_ge' (a b : List UInt8) : b.length ≤ lev a b + a.length := by rw [lev_sym]; exact lev_ge b a
theorem lev_max (a b : List UInt8) : lev a b ≤ max a.length b.length := lev_le _ a b (Nat.le_refl _)
theorem lev_tri (n : Nat) : ∀ (a b c : List UInt8), a.length + b.length + c.length ≤ n → lev a c ≤ lev a b + lev b c := by
  induction n with
  | zero =>
    intro a b c h
    have ha : a = [] := List.eq_nil_of_length_eq_zero (by omega)
    have hc : c = [] := List.eq_nil_of_length_eq_zero (by omega)
    rw [ha, hc, lev_self]; omega
  | succ n ih =>
    intro a b c h
    cases a with
    | nil => have := lev_ge' b c; rw [lev_nil, lev_nil]; omega
    | cons x a =>
      cases c with
      | nil => have := lev_ge (x :: a) b; rw [lev_nil', lev_nil']; omega
      | cons z c =>
        cases b with
        | nil => have := lev_max (x :: a) (z :: c); rw [lev_nil, lev_nil']; omega
        | cons y b =>
          simp only [List.length_cons] at h
          have i1 := ih a (y :: b) (z :: c) (by simp only [List.length_cons]; omega)
          have i2 := ih (x :: a) (y :: b) c (by simp only [List.length_cons]; omega)
          have i3 := ih (x :: a) b (z :: c) (by simp only [List.length_cons]; omega)
          have i4 := ih (x :: a) b c (by simp only [List.length_cons]; omega)
          have i5 := ih a b (z :: c) (by simp only [List.length_cons]; omega)
          have i6 := ih a b c (by omega)
          have m1 := lev_min x y a b
          have m2 := lev_min y z b c
          have m3 := lev_min x z a c
          have hd : (if x = z then 0 else 1 : Nat) ≤ (if x = y then 0 else 1) + (if y = z then 0 else 1) := by
            by_cases e1 : x = y
            · subst e1; simp
            · rw [if_neg e1]; split <;> omega
          generalize (if x = z then 0 else 1 : Nat) = d3 at *
          generalize (if x = y then 0 else 1 : Nat) = d1 at *
          generalize (if y = z then 0 else 1 : Nat) = d2 at *
          omega
theorem dist_lev (s t : ByteArray) : dist s t = lev (sh s).reverse (sh t).reverse := by unfold dist D; rw [List.take_length, List.take_length]
theorem sh_all {s : ByteArray} (h : s.size ≤ 100) : sh s = s.data.toList := by unfold sh; exact List.take_of_length_le (by rw [size_len]; exact h)
theorem dist_sym (s t : ByteArray) : dist s t = dist t s := by rw [dist_lev, dist_lev, lev_sym]
theorem dist_tri (a b c : ByteArray) : dist a c ≤ dist a b + dist b c := by rw [dist_lev, dist_lev, dist_lev]; exact lev_tri _ _ _ _ (Nat.le_refl _)
theorem dist_zero {s t : ByteArray} (hs : s.size ≤ 100) (ht : t.size ≤ 100) : dist s t = 0 ↔ s = t := by
  rw [dist_lev, lev_zero, sh_all hs, sh_all ht]
  constructor
  · intro h
    have h2 := List.reverse_inj.1 h
    rw [← str_of s, h2, str_of]
  · rintro rfl; rfl
theorem dist_max {s t : ByteArray} (hs : s.size ≤ 100) (ht : t.size ≤ 100) : dist s t ≤ max s.size t.size := by
  have := lev_max (sh s).reverse (sh t).reverse
  rw [dist_lev]
  rw [sh_all hs, sh_all ht] at *
  simp only [List.length_reverse, size_len] at this
  exact this
theorem dist_ge {s t : ByteArray} (hs : s.size ≤ 100) (ht : t.size ≤ 100) : s.size ≤ dist s t + t.size := by
  have := lev_ge (sh s).reverse (sh t).reverse
  rw [dist_lev]
  rw [sh_all hs, sh_all ht] at *
  simp only [List.length_reverse, size_len] at this
  exact this

/-! the nearest name -/
theorem lows_nm : ∀ k, k < 16 → (nm k).all (fun l => lowL l == l) = true := by decide +kernel
theorem low_known {x : ByteArray} (h : x ∈ knownL) : lowS x = x := by
  obtain ⟨k, hk, hx⟩ := known_mem.1 h
  have := List.all_eq_true.1 (lows_nm k hk) _ hx
  unfold lowS
  rw [eq_of_beq this, str_of]
/-- behind any names: a known one, with its distance -/
theorem near_inv (low : ByteArray) : ∀ (l : List ByteArray) (p : ByteArray × Int), (p.2 = (dist low p.1 : Int) ∧ p.1 ∈ knownL) → (∀ x ∈ l, x ∈ knownL) →
    (l.foldl (nearer low) p).2 = (dist low (l.foldl (nearer low) p).1 : Int) ∧ (l.foldl (nearer low) p).1 ∈ knownL
  | [], p, h, _ => h
  | x :: l, p, h, hl => by
    rw [List.foldl_cons]
    refine near_inv low l _ ?_ (fun y hy => hl y (List.mem_cons_of_mem _ hy))
    unfold nearer
    split
    · exact ⟨rfl, hl x (List.mem_cons_self ..)⟩
    · exact h
theorem near_le (low : ByteArray) : ∀ (l : List ByteArray) (p : ByteArray × Int), 0 ≤ p.2 → (l.foldl (nearer low) p).2 ≤ p.2 ∧ 0 ≤ (l.foldl (nearer low) p).2 ∧ ∀ x ∈ l, (l.foldl (nearer low) p).2 ≤ (dist low x : Int)
  | [], p, h => ⟨Int.le_refl _, h, fun x hx => by cases hx⟩
  | x :: l, p, h => by
    rw [List.foldl_cons]
    by_cases c : p.2 < 0 ∨ (dist low x : Int) < p.2
    · rw [nearer_yes c]
      have ih := near_le low l (x, (dist low x : Int)) (by dsimp only; omega)
      dsimp only at ih
      refine ⟨by omega, ih.2.1, fun y hy => ?_⟩
      rcases List.mem_cons.1 hy with rfl | hy
      · exact ih.1
      · exact ih.2.2 y hy
    · rw [nearer_no c]
      have ih := near_le low l p h
      refine ⟨ih.1, ih.2.1, fun y hy => ?_⟩
      rcases List.mem_cons.1 hy with rfl | hy
      · have := ih.1; omega
      · exact ih.2.2 y hy
theorem known_ne : knownL ≠ [] := by
  intro h
  have h1 : str [97] ∈ knownL := known_mem.2 ⟨4, by decide, by decide +kernel⟩
  rw [h] at h1
  cases h1
theorem near_facts (low : ByteArray) : (nearG low knownL).2 = (dist low (nearG low knownL).1 : Int) ∧ (nearG low knownL).1 ∈ knownL ∧ ∀ x ∈ knownL, (nearG low knownL).2 ≤ (dist low x : Int) := by
  cases hK : knownL with
  | nil => exact absurd hK known_ne
  | cons x l =>
    have hs : ∀ y ∈ x :: l, y ∈ knownL := fun y hy => by rw [hK]; exact hy
    unfold nearG
    rw [List.foldl_cons, nearer_yes (.inl (by decide))]
    have h1 := near_inv low l (x, (dist low x : Int)) ⟨rfl, hs x (List.mem_cons_self ..)⟩ (fun y hy => hs y (List.mem_cons_of_mem _ hy))
    have h2 := near_le low l (x, (dist low x : Int)) (by dsimp only; omega)
    dsimp only at h2
    rw [hK] at h1
    refine ⟨h1.1, h1.2, fun y hy => ?_⟩
    rcases List.mem_cons.1 hy with rfl | hy
    · exact h2.1
    · exact h2.2.2 y hy
theorem near_mem (s : ByteArray) : (near s).1 ∈ knownL := (near_facts _).2.1
theorem near_dist (s : ByteArray) : (near s).2 = (dist (lowS s) (near s).1 : Int) := (near_facts _).1
theorem near_known {x : ByteArray} (h : x ∈ knownL) : near x = (x, 0) := by
  have hl := low_known h
  have h1 := near_facts (lowS x)
  have h2 := h1.2.2 x h
  have h3 := near_mem x
  unfold near at h3 ⊢
  rw [hl] at *
  have h4 : dist x x = 0 := (dist_zero (known_size h) (known_size h)).2 rfl
  rw [h4] at h2
  have h5 : dist x (nearG x knownL).1 = 0 := by have := h1.1; omega
  have h6 := (dist_zero (known_size h) (known_size h3)).1 h5
  have h7 := h1.1
  rw [h5] at h7
  exact Prod.ext h6.symm h7
theorem near_near (s : ByteArray) : near (near s).1 = ((near s).1, 0) := near_known (near_mem s)
end Go.Proofs.YtknpppppjmhomaaDoor.Tr
