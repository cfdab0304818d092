/- The reference's sorted: the same list, in rising order, in its own place. -/
import Derived.WalkLawsBesides
import Derived.RegionTactic
import Derived.BigRegion
import Derived.BigQuiet
import Derived.Deep.QuietTactic
import Derived.Sort.Walk0
import Derived.Test.YteikagdinecfoaaGreatDoorSo
set_option linter.unusedVariables false
set_option linter.unusedSimpArgs false
namespace Go.Proofs.YteikagdinecfoaaGreatDoor.Rs
open Go.RowKit Lb St Fl Ls Rt Is Go.Proofs.YteikagdinecfoaaGreatDoor.So

/-- no later than -/
def leS (a b : ByteArray) : Bool := leB a.data.toList b.data.toList
theorem le_trans' {a b c : ByteArray} (h1 : leS a b = true) (h2 : leS b c = true) : leS a c = true := by
  unfold leS leB at *
  simp only [decide_eq_true_eq] at *
  exact List.le_trans h1 h2
theorem less_no {a b : ByteArray} (h : Op.bytesLess a.toList b.toList = false) : leS b a = true := by
  rw [Lib.toList_data, Lib.toList_data, bytesLess_eq] at h
  unfold leS leB
  simp only [decide_eq_false_iff_not, decide_eq_true_eq] at *
  rcases List.le_total b.data.toList a.data.toList with h1 | h1
  · exact h1
  · exact List.not_lt.1 h
theorem less_yes {a b : ByteArray} (h : Op.bytesLess a.toList b.toList = true) : leS a b = true := by
  rw [Lib.toList_data, Lib.toList_data, bytesLess_eq] at h
  unfold leS leB
  simp only [decide_eq_true_eq] at *
  exact List.le_of_lt h

/-- behind j rounds -/
def Out (l0 l : List ByteArray) (j : Nat) : Prop := ∃ p r, l = p ++ r ∧ p.length = j ∧ p.Pairwise (fun a b => leS a b = true) ∧ l.Perm l0
/-- within a round: the name that goes down stands at k -/
def Inn (l0 l : List ByteArray) (j k : Nat) : Prop := ∃ p x q r, l = p ++ x :: (q ++ r) ∧ p.length = k ∧ p.length + q.length = j ∧ (p ++ q).Pairwise (fun a b => leS a b = true) ∧ (∀ y ∈ q, leS x y = true) ∧ l.Perm l0
theorem inn_start {l0 l : List ByteArray} {j : Nat} (h : Out l0 l j) (hj : j < l.length) : Inn l0 l j j := by
  obtain ⟨p, r, rfl, h1, h2, h3⟩ := h
  cases r with
  | nil => rw [List.append_nil] at hj; omega
  | cons x r => exact ⟨p, x, [], r, rfl, h1, by simpa using h1, by simpa using h2, fun y hy => (by cases hy), h3⟩
theorem inn_stop {l0 l : List ByteArray} {j k : Nat} (h : Inn l0 l j k) (hs : ∀ (h1 : k - 1 < l.length) (h2 : k < l.length), 0 < k → leS l[k - 1] l[k] = true) : Out l0 l (j + 1) := by
  obtain ⟨p, x, q, r, rfl, h1, h2, h3, h4, h5⟩ := h
  refine ⟨p ++ x :: q, r, by simp, by simp; omega, ?_, h5⟩
  rw [List.pairwise_append] at h3 ⊢
  obtain ⟨g1, g2, g3⟩ := h3
  have hpx : ∀ a ∈ p, leS a x = true := by
    rcases List.eq_nil_or_concat p with rfl | ⟨p', y, he⟩
    · intro a ha; cases ha
    · rw [List.concat_eq_append] at he
      subst he
      have hk : k = p'.length + 1 := by rw [← h1]; simp
      subst hk
      have h6 := hs (by simp) (by simp) (by omega)
      have e1 : ((p' ++ [y]) ++ x :: (q ++ r))[p'.length + 1]'(by simp) = x := by simp
      have e2 : ((p' ++ [y]) ++ x :: (q ++ r))[p'.length + 1 - 1]'(by simp) = y := by simp
      rw [e1, e2] at h6
      intro a ha
      rw [List.pairwise_append] at g1
      rcases List.mem_append.1 ha with ha | ha
      · exact le_trans' (g1.2.2 a ha y (List.mem_singleton.2 rfl)) h6
      · rw [List.mem_singleton.1 ha]; exact h6
  refine ⟨g1, List.pairwise_cons.2 ⟨h4, g2⟩, fun a ha b hb => ?_⟩
  rcases List.mem_cons.1 hb with rfl | hb
  · exact hpx a ha
  · exact g3 a ha b hb
theorem inn_swap {l0 l : List ByteArray} {j k : Nat} (h : Inn l0 l j (k + 1)) (hl : leS (l.getD (k + 1) ⟨#[]⟩) (l.getD k ⟨#[]⟩) = true) : Inn l0 ((l.set (k + 1) (l.getD k ⟨#[]⟩)).set k (l.getD (k + 1) ⟨#[]⟩)) j k := by
  obtain ⟨p, x, q, r, rfl, h1, h2, h3, h4, h5⟩ := h
  rcases List.eq_nil_or_concat p with rfl | ⟨p', y, he⟩
  · simp at h1
  · rw [List.concat_eq_append] at he
    subst he
    have hk : k = p'.length := by simpa using h1.symm
    subst hk
    have e0 : (p' ++ [y]) ++ x :: (q ++ r) = p' ++ y :: x :: (q ++ r) := by simp
    rw [e0] at hl h5 ⊢
    have e1 : (p' ++ y :: x :: (q ++ r)).getD (p'.length + 1) ⟨#[]⟩ = x := by rw [List.getD_eq_getElem?_getD]; simp
    have e2 : (p' ++ y :: x :: (q ++ r)).getD p'.length ⟨#[]⟩ = y := by rw [List.getD_eq_getElem?_getD]; simp
    rw [e1, e2] at hl ⊢
    have e3 : ((p' ++ y :: x :: (q ++ r)).set (p'.length + 1) y).set p'.length x = p' ++ x :: y :: (q ++ r) := by
      rw [List.set_append_right _ _ (by omega), List.set_append_right _ _ (by omega)]
      simp
    rw [e3]
    refine ⟨p', x, y :: q, r, by simp, rfl, by simp at h2 ⊢; omega, by simpa using h3, fun z hz => ?_, ?_⟩
    · rcases List.mem_cons.1 hz with rfl | hz
      · exact hl
      · exact h4 z hz
    · refine List.Perm.trans ?_ h5
      exact List.Perm.append_left _ (List.Perm.swap ..)
theorem out_end {l0 l : List ByteArray} {j : Nat} (h : Out l0 l j) (hj : l.length ≤ j) : l = srt l0 := by
  obtain ⟨p, r, rfl, h1, h2, h3⟩ := h
  have : r = [] := by
    rw [List.length_append] at hj
    exact List.eq_nil_of_length_eq_zero (by omega)
  subst this
  rw [List.append_nil] at h3 ⊢
  exact srt_eq h3 h2
theorem set_len2 (l : List ByteArray) (a b : Nat) (x y : ByteArray) : ((l.set a x).set b y).length = l.length := by simp

theorem grown_drewN {w w' : World} {r : Option Nat} (h : w.grownBy w' r) (k : Nat) : w.grownBy (w'.drewN k) r := ⟨h.1, h.2, h.3, h.4, h.5⟩

theorem own_set {w : World} {B g n c j : Nat} {l : List ByteArray} (h : Own w B (.slice (some ⟨g, 0, none⟩) n c) l) (hj : j < l.length) (x : ByteArray) : Own (w.setCell ⟨g, j, none⟩ (.string x)) B (.slice (some ⟨g, 0, none⟩) n c) (l.set j x) := by
  obtain ⟨g', e, _, _, _, _, h2⟩ := h.store hj x
  injection e with e
  injection e with e
  subst e
  exact h2
theorem own_swap {w : World} {B g n c a b : Nat} {l : List ByteArray} (h : Own w B (.slice (some ⟨g, 0, none⟩) n c) l) (ha : a < l.length) (hb : b < l.length) (x y : ByteArray) : Own ((w.setCell ⟨g, a, none⟩ (.string x)).setCell ⟨g, b, none⟩ (.string y)) B (.slice (some ⟨g, 0, none⟩) n c) ((l.set a x).set b y) :=
  own_set (own_set h ha x) (by rw [List.length_set]; exact hb) y
theorem grown_set {w wr : World} {g n c : Nat} (h : w.grownBy wr (Value.slice (some ⟨g, 0, none⟩) n c).ownBlock) (j : Nat) (u : Value) : w.grownBy (wr.setCell ⟨g, j, none⟩ u) (Value.slice (some ⟨g, 0, none⟩) n c).ownBlock :=
  ⟨h.os, h.tape, h.output, by have := h.size; simpa using this, fun k hk hne => (Below.heap_setCell wr ⟨g, j, none⟩ u k (fun e => hne (by rw [e]; rfl))).trans (h.block k hk hne)⟩
set_option maxHeartbeats 8000000 in
set_option maxRecDepth 100000 in
theorem rSortC (B n c : Nat) (A : Option Addr) (l0 : List ByteArray) (w : World) (ho : Own w B (.slice A n c) l0) (hn : n ≤ 1048576) :
    Calls Tryz.prog 141 #[.slice A n c] w fun e w' => e = .returned (.slice A n c) ∧ Own w' B (.slice A n c) (srt l0) ∧ w.grownBy w' (Value.slice A n c).ownBlock := by
  have HL0 : Hid (n = l0.length) := Lib.hid (by obtain ⟨A', c', hv⟩ := ho.form; injection hv)
  have HO := Lib.hid ho
  have hgr := World.grownBy.refl w (Value.slice A n c).ownBlock
  have HG := Lib.hid hgr
  clear ho hgr
  go_enter Tryz.func141, Tryz.ntmps141
  go_wp2
  go_loopw [7] (fun i wr => ∃ (j : Nat) (l : List ByteArray), j ≤ n ∧ i = .int .i64 j ∧ Hid (Own wr B (.slice A n c) l) ∧ Hid (w.grownBy wr (Value.slice A n c).ownBlock) ∧ Hid (Out l0 l j) ∧ Hid (n = l.length)) (fun i _ => n - (intOf i).toNat)
  case atStart => exact ⟨0, l0, Nat.zero_le _, rfl, HO, HG, Lib.hid ⟨[], l0, rfl, rfl, List.Pairwise.nil, List.Perm.refl _⟩, HL0⟩
  case round =>
    obtain ⟨j, l, hj, rfl, ho, hg, hout, hln⟩ := hrel
    by_cases hlt : j < n
    · have hjl : j < l.length := by have := hln.out; omega
      have hinn := Lib.hid (inn_start hout.out hjl)
      have hb3 : (j : Int) < (n : Int) := by omega
      clear hout
      go_wp2
      go_loopw [4] (fun i wr => ∃ (k : Nat) (l : List ByteArray), k ≤ j ∧ i = .int .i64 k ∧ Hid (Own wr B (.slice A n c) l) ∧ Hid (w.grownBy wr (Value.slice A n c).ownBlock) ∧ Hid (Inn l0 l j k) ∧ Hid (n = l.length)) (fun i _ => (intOf i).toNat)
      case atStart => exact ⟨j, l, Nat.le_refl _, rfl, ho, hg, hinn, hln⟩
      case round =>
        clear ho hg hinn hln hjl
        obtain ⟨k, l2, hk, rfl, ho2, hg2, hin2, hln2⟩ := hrel
        cases k with
        | zero =>
          have hout2 := Lib.hid (inn_stop hin2.out (fun _ _ h => absurd h (Nat.lt_irrefl 0)))
          have hz : ¬ (0 : Int) < ((0 : Nat) : Int) := by omega
          have hz2 : decide ((0 : Int) < ((0 : Nat) : Int)) = false := by simp
          go_wp2
          go_quiet (fail)
          go_wp2
          go_roundw
          case rel => exact ⟨j + 1, l2, by omega, by go_num, Lib.hid ho2.out, Lib.hid (grown_drewN hg2.out _), hout2, hln2⟩
          case measure => simp [intOf] <;> omega
        | succ k =>
          have hkl : k + 1 < l2.length := by have := hln2.out; omega
          obtain ⟨g, rfl, hBg, hgw, hfz1, hc1, hst1⟩ := ho2.out.store hkl (l2.getD k ⟨#[]⟩)
          obtain ⟨g2, e2, _, _, hfz0, hc0, _⟩ := ho2.out.store (j := k) (by omega) ⟨#[]⟩
          injection e2 with e2
          injection e2 with e2
          subst e2
          have e1 : l2[k + 1] = l2.getD (k + 1) ⟨#[]⟩ := by rw [List.getD_eq_getElem?_getD, List.getElem?_eq_getElem hkl, Option.getD_some]
          have e0 : l2[k] = l2.getD k ⟨#[]⟩ := by rw [List.getD_eq_getElem?_getD, List.getElem?_eq_getElem (by omega), Option.getD_some]
          rw [e1] at hc1
          rw [e0] at hc0
          have hz : (0 : Int) < ((k + 1 : Nat) : Int) := by omega
          have hi1 : ((k + 1 : Nat) : Int) - 1 = (k : Int) := by omega
          have hi2 : ((k + 1 : Nat) : Int) < (n : Int) := by omega
          have hi3 : (k : Int) < (n : Int) := by omega
          have hwk : IntKind.i64.wrap (((k + 1 : Nat) : Int) - 1) = (k : Int) := by rw [IntKind.wrap_i64] <;> omega
          have hnk : k + 1 - 1 = k := rfl
          have HLN := Lib.hid hln2.out
          clear e1 e0 hst1
          generalize hx : l2.getD (k + 1) ⟨#[]⟩ = x at *
          generalize hy : l2.getD k ⟨#[]⟩ = y at *
          have HX := Lib.hid hx
          have HY := Lib.hid hy
          clear hx hy
          cases hless : Op.bytesLess x.toList y.toList
          · have hout2 := Lib.hid (inn_stop hin2.out (fun h1 h2 _ => by
              have e3 : l2[k + 1] = x := by rw [← HX.out, List.getD_eq_getElem?_getD, List.getElem?_eq_getElem hkl, Option.getD_some]
              have e4 : l2[k + 1 - 1] = y := by rw [← HY.out, List.getD_eq_getElem?_getD, List.getElem?_eq_getElem (by omega), Option.getD_some]; rfl
              rw [e3, e4]; exact less_no hless))
            go_wp2
            go_quiet (fail)
            go_wp2
            go_roundw
            case rel => exact ⟨j + 1, l2, by omega, by go_num, Lib.hid ho2.out, Lib.hid (grown_drewN hg2.out _), hout2, hln2⟩
            case measure => simp [intOf] <;> omega
          · have hin3 := Lib.hid (inn_swap hin2.out (by rw [HX.out, HY.out]; exact less_yes hless))
            rw [HX.out, HY.out] at hin3
            go_wp2
            go_quiet (fail)
            go_wp2
            go_region
            go_wp2
            go_roundw
            case rel =>
              have ho3 : Own (wr.drewN (nq + 1)) B (.slice (some ⟨g, 0, none⟩) n c) l2 := ho2.out
              exact ⟨k, _, by omega, rfl, Lib.hid (own_swap ho3 hkl (by omega) y x), Lib.hid (grown_set (grown_set (grown_drewN hg2.out _) _ _) _ _), hin3, Lib.hid (by rw [set_len2]; exact HLN.out)⟩
            case measure => simp [intOf] <;> omega
    · have hfin := Lib.hid (out_end hout.out (by have := hln.out; omega))
      go_wp2
      go_ret
      exact ⟨rfl, by rw [← hfin.out]; exact ho.out, hg.out⟩
end Go.Proofs.YteikagdinecfoaaGreatDoor.Rs
