/- names.List: a set's names in rising order, or none and the error. A box of one value of any type. -/
import Derived.Test.YtknpppppjmhomaaDoorAl
import Derived.Test.YtknpppppjmhomaaDoorRl
set_option linter.unusedVariables false
set_option linter.unusedSimpArgs false
namespace Go.Proofs.YtknpppppjmhomaaDoor.Nl
open Go.RowKit Lb Fl St Ls Rt Is Al Go.Proofs.YtknpppppjmhomaaDoor.So

/-- block b holds the one value v -/
def Bv (T : TypeId) (W : World) (b : Nat) (v : Value) : Prop := W.heap[b]? = some (.cells #[v] T (0, 0))
section
variable {T : TypeId}
theorem Bv.c {W : World} {b : Nat} {v : Value} (h : Bv T W b v) : W.cell? ⟨b, 0, none⟩ = some v := by simp [World.cell?, show W.heap[b]? = _ from h]
theorem Bv.f {W : World} {b : Nat} {v : Value} (h : Bv T W b v) : W.frozen? ⟨b, 0, none⟩ = false := by simp [World.frozen?, show W.heap[b]? = _ from h]
theorem Bv.lt {W : World} {b : Nat} {v : Value} (h : Bv T W b v) : b < W.heap.size := (Array.getElem?_eq_some_iff.1 h).1
theorem Bv.below {W W' : World} {b : Nat} {v : Value} (h : Bv T W b v) (hb : Below W.heap.size W W') : Bv T W' b v := (hb.block b h.lt).trans h
theorem Bv.set {W : World} {b : Nat} {v : Value} (h : Bv T W b v) (u : Value) : Bv T (W.setCell ⟨b, 0, none⟩ u) b u := by
  unfold Bv at *
  simp [World.setCell, Array.getElem?_modify, h]
theorem Bv.grown {W W' : World} {b : Nat} {v : Value} {row : Option Nat} (h : Bv T W b v) (hg : W.grownBy W' row) (hne : some b ≠ row) : Bv T W' b v := (hg.block b h.lt hne).trans h
theorem Bv.new (W : World) (v : Value) (b : Nat) (h : W.heap.size = b) : Bv T (W.alloc (.cells #[v] T)) b v := by
  subst h
  exact heap_alloc_new W _
theorem Bv.other {W : World} {b : Nat} {v : Value} (h : Bv T W b v) {p : Addr} (hp : b ≠ p.block) (u : Value) : Bv T (W.setCell p u) b v := (Below.heap_setCell W p u b hp).trans h
theorem Bv.is {W : World} {b : Nat} {v : Value} (h : Bv T W b v) {r : Nat} {o : Obj} (ho : W.heap[r]? = some o) (hc : o.isCells = false) : some b ≠ some r := by
  rintro e
  cases e
  rw [show W.heap[b]? = _ from h] at ho
  cases ho
  cases hc
end

theorem own_mono {w : World} {B B' : Nat} {v : Value} {l : List ByteArray} (h : Fl.Own w B v l) (hB : B' ≤ B) : Fl.Own w B' v l := by
  obtain ⟨h1, h2⟩ := h
  refine ⟨h1, ?_⟩
  rcases h2 with h2 | ⟨g, cap, cur, hv, hg, r⟩
  · exact .inl h2
  · exact .inr ⟨g, cap, cur, hv, Nat.le_trans hB hg, r⟩
theorem own_kept {W W' : World} {B : Nat} {v : Value} {l : List ByteArray} {row : Option Nat} (h : Fl.Own W B v l) (hg : W.grownBy W' row) (hr : ∀ r, row = some r → ∃ o : Obj, W.heap[r]? = some o ∧ o.isCells = false) : Fl.Own W' B v l := by
  refine World.ownsRow.kept h hg ?_
  cases hv : v.ownBlock with
  | none => exact .inl rfl
  | some k =>
    refine .inr (fun e => ?_)
    obtain ⟨o, ho, hc⟩ := hr k e.symm
    rcases h.2 with ⟨h1, _⟩ | ⟨g, cap, cur, h1, _, hgg, _⟩
    · rw [h1] at hv; cases hv
    · rw [h1] at hv
      cases hv
      rw [hgg] at ho
      cases ho
      cases hc
/-- all rows lie as they lay, but block b -/
def KpN (b : Nat) (W W' : World) : Prop := W.heap.size ≤ W'.heap.size ∧ ∀ g o, W.heap[g]? = some o → o.isCells = true → g ≠ b → W'.heap[g]? = some o
theorem kpN_t {b : Nat} {X Y Z : World} (h : KpN b X Y) (k : KpN b Y Z) : KpN b X Z := ⟨Nat.le_trans h.1 k.1, fun g o hg ho hb => k.2 g o (h.2 g o hg ho hb) ho hb⟩
theorem kpN_put {b : Nat} (W : World) (l : Nat) (o o' : Obj) (h : W.heap[l]? = some o) (hc : o.isCells = false) : KpN b W (W.putObj l o') :=
  ⟨by simp, fun g o2 hg ho hb => (World.putObj_heap_other (fun e => by subst e; rw [h] at hg; cases hg; rw [hc] at ho; cases ho)).trans hg⟩
theorem kpN_set {b : Nat} (W : World) (j : Nat) (v : Value) : KpN b W (W.setCell ⟨b, j, none⟩ v) := ⟨by simp, fun g o hg _ hb => (Below.heap_setCell W ⟨b, j, none⟩ v g hb).trans hg⟩
theorem leavesN (b : Nat) : Al.Leaves (KpN b) (fun _ g => g ≠ b) := fun W W' hk g o hg ho hs => ⟨hk.2 g o hg ho hs, hs⟩
/-- names.List's error -/
def errK (k : Int) : Int := if 0 ≤ k ∧ k < 16 then 0 else 41
theorem errK_y {k : Int} (h : 0 ≤ k ∧ k < 16) : errK k = 0 := by unfold errK; rw [if_pos h]
theorem errK_n {k : Int} (h : ¬ (0 ≤ k ∧ k < 16)) : errK k = 41 := by unfold errK; rw [if_neg h]
set_option maxHeartbeats 2000000 in
theorem nListC (k : Int) (w : World) (ht : Tab w) : Calls Tryd.prog 46 #[.int .i64 k] w fun e w' =>
    ∃ A c, e = .returned (.tuple #[.slice A (allL k).length c, .int .i64 (errK k)]) ∧ Fl.Own w' w.heap.size (.slice A (allL k).length c) (allL k) ∧ Below w.heap.size w w' := by
  have hb := nIsSet k
  by_cases hk : 0 ≤ k ∧ k < 16
  · have hL : allL k = srt ((nm k.toNat).map str) := by unfold allL; rw [if_pos hk]
    have hbb : (decide (0 ≤ k) && decide (k < 16)) = true := by simp [hk.1, hk.2]
    rw [hbb] at hb
    have hS := sortedC k w ht hk.1 hk.2
    rw [errK_y hk]
    rw [← hL] at hS
    generalize allL k = L at *
    have HB := Lib.hid hb
    have HS := Lib.hid hS
    clear hb hbb hS hL hk ht
    go_enter Tryd.func46, Tryd.ntmps46
    go_wp2_with (first
      | (go_at_call 68; refine (HB.out _).mono ?_; rintro e w1 ⟨rfl, rfl⟩)
      | (go_at_call 69; refine HS.out.mono ?_; rintro e w2 ⟨A2, c2, rfl, ho2, hb2⟩))
    go_ret2
    exact ⟨A2, c2, rfl, ho2, hb2⟩
  · have hL : allL k = [] := by unfold allL; rw [if_neg hk]
    have hbb : (decide (0 ≤ k) && decide (k < 16)) = false := by
      rw [Bool.and_eq_false_iff, decide_eq_false_iff_not, decide_eq_false_iff_not]; omega
    rw [hbb] at hb
    rw [errK_n hk, hL]
    have HB := Lib.hid hb
    clear hb hbb hL hk ht
    go_enter Tryd.func46, Tryd.ntmps46
    go_wp2_with (go_at_call 68; refine (HB.out _).mono ?_; rintro e w1 ⟨rfl, rfl⟩)
    go_ret2
    exact ⟨none, 0, rfl, Fl.Own.nil _ _, Below.refl _ _⟩
theorem rListA {k : Int} (h0 : 0 ≤ k) (h1 : k < 16) (w : World) : Calls Tryd.prog 49 #[.int .i64 k] w fun e w' => RetS w (allL k) e w' := by
  have h := Go.Proofs.YtknpppppjmhomaaDoor.Rl.rListC k w
  rw [rtS_in h0 h1] at h
  unfold allL
  rw [if_pos ⟨h0, h1⟩]
  exact h
end Go.Proofs.YtknpppppjmhomaaDoor.Nl
