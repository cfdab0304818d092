/- The reference's is, topmost, above, inner, unblocked. -/
import Derived.Test.YtddgpkdhakjjaaaDoorRFields
import Derived.Test.YtddgpkdhakjjaaaDoorEl
set_option linter.unusedVariables false
set_option linter.unusedSimpArgs false
namespace Go.Proofs.YtddgpkdhakjjaaaDoor.Rn
open Go.RowKit Lb Fl Is Tp Np Wk Wp Wi Wo Pt Oc Go.Proofs.YtddgpkdhakjjaaaDoor.Ask Rt Go.Proofs.YtddgpkdhakjjaaaDoor.Op Aw Lt En El

def isB (some : ByteArray) (x : ByteArray) : Bool := (fieldsS some).any fun z => decide (z = x)
theorem is_hit {some x : ByteArray} {j : Nat} (h : j < (fieldsS some).length) (e : (fieldsS some)[j] = x) : isB some x = true := by
  unfold isB
  rw [List.any_eq_true]
  exact ⟨_, List.getElem_mem h, by simpa using e⟩
theorem is_miss {some x : ByteArray} (h : ∀ j (hj : j < (fieldsS some).length), (fieldsS some)[j] ≠ x) : isB some x = false := by
  unfold isB
  rw [List.any_eq_false]
  intro z hz
  obtain ⟨j, hj, rfl⟩ := List.getElem_of_mem hz
  simpa using h j hj

set_option maxHeartbeats 2000000 in
set_option maxRecDepth 100000 in
theorem isC (x some : ByteArray) (w : World) (hs : some.size ≤ 2147483647) : Calls Tryd.prog 58 #[.string x, .string some] w fun e w' => e = .returned (.bool (isB some x)) ∧ Below w.heap.size w w' := by
  have hF := Lib.hid (Rf.rFieldsR some w hs)
  have hH := Lib.hid (fun j h e => is_hit (some := some) (x := x) (j := j) h e)
  have hM := Lib.hid (fun h => is_miss (some := some) (x := x) h)
  have hln : Hid ((fieldsS some).length ≤ 2147483648) := Lib.hid (by
    have h1 := flds_length some.data.toList []
    rw [size_len] at h1
    unfold fieldsS fieldsL
    simp at h1 ⊢
    omega)
  generalize isB some x = r at *
  generalize fieldsS some = N at *
  go_enter Tryd.func58, Tryd.ntmps58
  go_wp2_with (go_at_call 62; refine hF.out.mono ?_; rintro e w2 ⟨A, c, rfl, hown, hb2⟩)
  have hrd := Lib.hid hown.rd
  have hnl := hln.out
  clear hown hF
  go_loopw [10] (fun i wr => ∃ j : Nat, j ≤ N.length ∧ i = .int .i64 j ∧ Below w2.heap.size w2 wr ∧ Hid (∀ i (hi : i < N.length), i < j → N[i] ≠ x)) (fun i _ => N.length - (intOf i).toNat)
  case atStart => exact ⟨0, by omega, rfl, Below.refl _ _, Lib.hid (fun i _ hi => absurd hi (Nat.not_lt_zero _))⟩
  case round =>
    obtain ⟨j, hj, rfl, hnx, hall⟩ := hrel
    by_cases hlt : j < N.length
    · obtain ⟨b1, o1, rfl, _, hcx⟩ := hrd.out.get hlt
      have hx1 := hcx wr hnx
      obtain ⟨y, hy⟩ : ∃ y, y = N[j] := ⟨_, rfl⟩
      rw [← hy] at hx1
      have HY := Lib.hid hy
      clear hy hcx
      have hb3 : (j : Int) < (N.length : Int) := by omega
      have hb0 : (0 : Int) ≤ (j : Int) := by omega
      by_cases e : y = x
      · have he := toList_eq_of e
        have hfin := Lib.hid (hH.out j hlt (by rw [← HY.out]; exact e))
        clear e
        go_wp2
        go_ret
        exact ⟨rb hfin.out, seq hb2 hnx⟩
      · have he := toList_ne_of e
        have hall2 : Hid (∀ i (hi : i < N.length), i < j + 1 → N[i] ≠ x) := Lib.hid (fun i hi hij => by
          by_cases ex : i = j
          · subst ex; rw [← HY.out]; exact e
          · exact hall.out i hi (by omega))
        clear e
        go_wp2
        go_roundw
        case rel => exact ⟨j + 1, by omega, by go_num, hnx, hall2⟩
        case measure => simp [intOf] <;> omega
    · have hfin := Lib.hid (hM.out (fun i hi => hall.out i hi (by omega)))
      go_wp2
      go_ret
      exact ⟨rb hfin.out, seq hb2 hnx⟩

theorem tm_hit {p q : ByteArray → Bool} {l : List ByteArray} (k : Nat) (hk : k < l.length) (hp : p l[k] = true) (hq : q l[k] = false) (h : ∀ j (hj : j < l.length), k < j → q l[j] = false ∧ p l[j] = false) : tm p q l = k := by
  have e : l = l.take k ++ l[k] :: l.drop (k + 1) := by
    have h1 : l.drop k = l[k] :: l.drop (k + 1) := List.drop_eq_getElem_cons hk
    rw [← h1, List.take_append_drop]
  have e2 : l.reverse = (l.drop (k + 1)).reverse ++ l[k] :: (l.take k).reverse := by
    have := congrArg List.reverse e
    simpa only [List.reverse_append, List.reverse_cons, List.append_assoc, List.singleton_append] using this
  unfold tm
  rw [e2, tmGo_skip p q _ _ (fun x hx => by
    rw [List.mem_reverse] at hx
    obtain ⟨i, hi, rfl⟩ := List.getElem_of_mem hx
    rw [List.getElem_drop]
    rw [List.length_drop] at hi
    exact h _ (by omega) (by omega))]
  rw [tmGo, hp, hq]
  simp only [Bool.false_eq_true, if_false, if_true, List.length_reverse, List.length_take]
  omega

set_option maxHeartbeats 2000000 in
set_option maxRecDepth 100000 in
theorem topR (A : Option Addr) (n c : Nat) (s : List ByteArray) (some : ByteArray) (w : World) (hr : Rd w A n s) (hn : n ≤ 9223372036854775807) (hs : some.size ≤ 2147483647) :
    Calls Tryd.prog 60 #[.slice A n c, .string some] w fun e w' => e = .returned (.int .i64 (tm (isB some) noB s)) ∧ Below w.heap.size w w' := by
  have HR := Lib.hid hr
  have HN := Lib.hid hr.1
  have hH := Lib.hid (fun (k : Nat) (hk : k < s.length) (hp : isB some s[k] = true) (h : ∀ j (hj : j < s.length), k < j → isB some s[j] = false) => tm_hit (p := isB some) (q := noB) (l := s) k hk hp rfl (fun j hj hkj => ⟨rfl, h j hj hkj⟩))
  have hM := Lib.hid (fun (h : ∀ x ∈ s, isB some x = false) => tm_miss (p := isB some) (q := noB) (l := s) h)
  have hI := Lib.hid (fun x W => isC x some W hs)
  clear hr
  generalize tm (isB some) noB s = r at *
  go_enter Tryd.func60, Tryd.ntmps60
  go_wp2
  go_loopw [5] (fun i wr => ∃ k : Nat, k ≤ n ∧ i = .int .i64 ((k : Int) - 1) ∧ Below w.heap.size w wr ∧ Hid (∀ j (hj : j < s.length), k ≤ j → isB some s[j] = false)) (fun i _ => (intOf i + 1).toNat)
  case atStart => exact ⟨n, Nat.le_refl _, rfl, Below.refl _ _, Lib.hid (fun j hj hk => by have := HN.out; omega)⟩
  case round =>
    obtain ⟨k, hk, rfl, hnx, hall⟩ := hrel
    cases k with
    | zero =>
      have e : (((0 : Nat) : Int) - 1) = -1 := rfl
      rw [e]
      have hfin := Lib.hid (hM.out (fun x hx => by
        obtain ⟨j, hj, rfl⟩ := List.getElem_of_mem hx
        exact hall.out j hj (Nat.zero_le _)))
      go_wp2
      go_ret
      exact ⟨ri hfin.out, hnx⟩
    | succ k =>
      have e : (((k + 1 : Nat) : Int) - 1) = (k : Int) := by omega
      rw [e]
      have hks : k < s.length := by rw [← HN.out]; omega
      obtain ⟨b1, o1, rfl, _, hcx⟩ := HR.out.get hks
      have hx1 := hcx wr hnx
      obtain ⟨y, hy⟩ : ∃ y, y = s[k] := ⟨_, rfl⟩
      rw [← hy] at hx1
      have HY := Lib.hid hy
      clear hy hcx e
      have hb3 : (k : Int) < (n : Int) := by omega
      have hb0 : (0 : Int) ≤ (k : Int) := by omega
      have hIy := hI.out y
      cases hq : isB some y
      · rw [hq] at hIy
        have hall2 : Hid (∀ j (hj : j < s.length), k ≤ j → isB some s[j] = false) := Lib.hid (fun j hj hkj => by
          by_cases ex : j = k
          · subst ex; rw [← HY.out]; exact hq
          · exact hall.out j hj (by omega))
        have HI := Lib.hid hIy
        clear hIy hq
        go_wp2_with (go_at_call 58; refine (HI.out _).mono ?_; rintro e w3 ⟨rfl, hb3⟩)
        go_roundw
        case rel => exact ⟨k, by omega, by go_num, seq hnx hb3, hall2⟩
        case measure => simp [intOf] <;> omega
      · rw [hq] at hIy
        have hfin := Lib.hid (hH.out k hks (by rw [← HY.out]; exact hq) (fun j hj hkj => hall.out j hj (by omega)))
        have HI := Lib.hid hIy
        clear hIy hq
        go_wp2_with (go_at_call 58; refine (HI.out _).mono ?_; rintro e w3 ⟨rfl, hb3⟩)
        go_ret
        exact ⟨ri hfin.out, seq hnx hb3⟩

theorem tmGo_above (p q : ByteArray → Bool) : ∀ l : List ByteArray, (if tmGo q noB l < tmGo p noB l then tmGo p noB l else -1) = tmGo p q l
  | [] => rfl
  | x :: r => by
    have ih := tmGo_above p q r
    have h1 := tm_lt p noB r
    have h2 := tm_lt q noB r
    unfold tmGo
    simp only [noB, Bool.false_eq_true, if_false]
    cases hq : q x <;> cases hp : p x <;> simp only [Bool.false_eq_true, if_false, if_true]
    · exact ih
    · rw [if_pos h2.2]
    · rw [if_neg (by omega)]
    · rw [if_neg (by omega)]
theorem tm_above (p q : ByteArray → Bool) (l : List ByteArray) : (if tm q noB l < tm p noB l then tm p noB l else -1) = tm p q l := tmGo_above p q l.reverse

set_option maxHeartbeats 1000000 in
set_option maxRecDepth 100000 in
theorem aboveC (A : Option Addr) (n c : Nat) (s : List ByteArray) (some oth : ByteArray) (w : World) (hr : Rd w A n s) (hn : n ≤ 9223372036854775807) (hs : some.size ≤ 2147483647) (ho : oth.size ≤ 2147483647) :
    Calls Tryd.prog 59 #[.slice A n c, .string some, .string oth] w fun e w' => e = .returned (.int .i64 (tm (isB some) (isB oth) s)) ∧ Below w.heap.size w w' := by
  have h1 := Lib.hid (topR A n c s some w hr hn hs)
  have h2 := Lib.hid (fun W (hb : Below w.heap.size w W) => topR A n c s oth W (hr.below hb) hn ho)
  have hE := tm_above (isB some) (isB oth) s
  rw [← hE]
  clear hE hr
  generalize tm (isB some) noB s = i at *
  generalize tm (isB oth) noB s = k at *
  by_cases hlt : k < i
  all_goals
    go_enter Tryd.func59, Tryd.ntmps59
    go_upto_region 2 with (go_at_call 60; refine h1.out.mono ?_; rintro e w2 ⟨rfl, hb2⟩)
    go_wp2_with (go_at_call 60; refine (h2.out _ hb2).mono ?_; rintro e w3 ⟨rfl, hb3⟩)
    go_ret
    exact ⟨ri (by simp [hlt]), seq hb2 hb3⟩

def c_cells : ByteArray := ⟨#[116, 100, 32, 116, 104, 32, 99, 97, 112, 116, 105, 111, 110]⟩
def c_walls : ByteArray := ⟨#[116, 100, 32, 116, 104, 32, 99, 97, 112, 116, 105, 111, 110, 32, 116, 97, 98, 108, 101]⟩
def c_groups : ByteArray := ⟨#[116, 104, 101, 97, 100, 32, 116, 98, 111, 100, 121, 32, 116, 102, 111, 111, 116]⟩
def c_lists : ByteArray := ⟨#[117, 108, 32, 111, 108, 32, 109, 101, 110, 117]⟩
def c_heads : ByteArray := ⟨#[104, 49, 32, 104, 50, 32, 104, 51, 32, 104, 52, 32, 104, 53, 32, 104, 54]⟩
def c_own : ByteArray := ⟨#[99, 97, 112, 116, 105, 111, 110, 32, 99, 111, 108, 103, 114, 111, 117, 112, 32, 116, 104, 101, 97, 100, 32, 116, 98, 111, 100, 121, 32, 116, 102, 111, 111, 116]⟩
def c_col : ByteArray := ⟨#[116, 97, 98, 108, 101, 32, 99, 111, 108, 103, 114, 111, 117, 112]⟩
def c_tr : ByteArray := ⟨#[116, 97, 98, 108, 101, 32, 116, 104, 101, 97, 100, 32, 116, 98, 111, 100, 121, 32, 116, 102, 111, 111, 116]⟩
def c_td : ByteArray := ⟨#[116, 97, 98, 108, 101, 32, 116, 104, 101, 97, 100, 32, 116, 98, 111, 100, 121, 32, 116, 102, 111, 111, 116, 32, 116, 114]⟩
end Go.Proofs.YtddgpkdhakjjaaaDoor.Rn
