/- A stack that is being made ready (nest.work): its block, and the small methods with, to. -/
import Derived.Test.YtddgpkdhakjjaaaDoorNp
set_option linter.unusedVariables false
set_option linter.unusedSimpArgs false
namespace Go.Proofs.YtddgpkdhakjjaaaDoor.Wk
open Go.RowKit Lb Fl Is Tp Np

/-- block g is a work with these two slices -/
def Wrk (w : World) (g : Nat) (sv pv : Value) : Prop := w.heap[g]? = some (.cells #[sv, pv] 74 (0, 0))
theorem Wrk.lt {w : World} {g : Nat} {sv pv : Value} (h : Wrk w g sv pv) : g < w.heap.size := (Array.getElem?_eq_some_iff.1 h).1
theorem Wrk.c0 {w : World} {g : Nat} {sv pv : Value} (h : Wrk w g sv pv) : w.cell? ⟨g, 0, none⟩ = some sv := by simp [World.cell?, show w.heap[g]? = _ from h]
theorem Wrk.c1 {w : World} {g : Nat} {sv pv : Value} (h : Wrk w g sv pv) : w.cell? ⟨g, 1, none⟩ = some pv := by simp [World.cell?, show w.heap[g]? = _ from h]
theorem Wrk.fz {w : World} {g : Nat} {sv pv : Value} (h : Wrk w g sv pv) (j : Nat) : w.frozen? ⟨g, j, none⟩ = false := by simp [World.frozen?, show w.heap[g]? = _ from h]
theorem Wrk.set0 {w : World} {g : Nat} {sv pv : Value} (h : Wrk w g sv pv) (u : Value) : Wrk (w.setCell ⟨g, 0, none⟩ u) g u pv := by
  unfold Wrk at h ⊢
  simp [World.setCell, Array.getElem?_modify, h]
theorem Wrk.set1 {w : World} {g : Nat} {sv pv : Value} (h : Wrk w g sv pv) (u : Value) : Wrk (w.setCell ⟨g, 1, none⟩ u) g sv u := by
  unfold Wrk at h ⊢
  simp [World.setCell, Array.getElem?_modify, h]
theorem Wrk.below {w w' : World} {g : Nat} {sv pv : Value} (h : Wrk w g sv pv) (hb : Below w.heap.size w w') : Wrk w' g sv pv := (hb.block g h.lt).trans h
theorem Wrk.other {w : World} {g : Nat} {sv pv : Value} (h : Wrk w g sv pv) {p : Addr} (hp : g ≠ p.block) (u : Value) : Wrk (w.setCell p u) g sv pv := (Below.heap_setCell w p u g hp).trans h
theorem Wrk.grown {w w' : World} {g : Nat} {sv pv : Value} {row : Option Nat} (h : Wrk w g sv pv) (hb : w.grownBy w' row) (hg : some g ≠ row) : Wrk w' g sv pv := (hb.block g h.lt hg).trans h
/-- a row of texts never lies in a work's block -/
theorem Wrk.apart {w : World} {g B : Nat} {sv pv v : Value} {l : List ByteArray} (h : Wrk w g sv pv) (ho : Fl.Own w B v l) : v.ownBlock ≠ some g := by
  rcases ho.2 with ⟨rfl, _⟩ | ⟨g', cap, cur, rfl, _, hh, _⟩
  · simp [Value.ownBlock]
  · intro he
    have : g' = g := by simpa [Value.ownBlock] using he
    subst this
    unfold Wrk at h
    rw [h] at hh
    injection hh with hh
    injection hh with _ ht
    exact absurd ht (by decide)

/-- THE STATE of a work at block g: its stack reads below B, its put is a row of the call's own from B on, in block r -/
def St (w : World) (B g : Nat) (r : Option Nat) (stack put : List ByteArray) : Prop :=
  ∃ A n c pv, Wrk w g (.slice A n c) pv ∧ n ≤ c ∧ c ≤ 9223372036854775807 ∧ RdB w B A n stack ∧ Fl.Own w B pv put ∧ B ≤ g ∧ pv.ownBlock = r
theorem St.below {w w' : World} {B g : Nat} {r : Option Nat} {s p : List ByteArray} (h : St w B g r s p) (hb : Below w.heap.size w w') (hB : B ≤ w.heap.size) : St w' B g r s p := by
  obtain ⟨A, n, c, pv, h1, h2, h3, h4, h5, h6, h7⟩ := h
  exact ⟨A, n, c, pv, h1.below hb, h2, h3, h4.below (hb.mono hB), h5.below hb, h6, h7⟩

/-- what a call that remakes the stack leaves -/
def Left (w : World) (B g : Nat) (r : Option Nat) (s p : List ByteArray) (e : Ending) (w' : World) : Prop :=
  e = .returned (.tuple #[]) ∧ St w' B g r s p ∧ Below B w w' ∧ w'.heap.size = w.heap.size ∧ ∀ k, g ≠ k → w'.heap[k]? = w.heap[k]?

set_option maxHeartbeats 800000 in
set_option maxRecDepth 100000 in
theorem withC (w : World) (B g : Nat) (r : Option Nat) (at_ : Int) (s p : List ByteArray) (hB : B ≤ w.heap.size) (h : St w B g r s p) (h1 : -1 ≤ at_) (h2 : at_ < s.length) :
    Calls Tryd.prog 69 #[.pointer (some ⟨g, 0, none⟩), .int .i64 at_] w (Left w B g r (if 0 ≤ at_ then s.take at_.toNat else s) p) := by
  obtain ⟨A, n, c, pv, hw, hc, hc2, hr, ho, hg, hrow⟩ := h
  have e0 := hw.c0
  have ef := hw.fz 0
  have hl := hr.1
  have hgl := hw.lt
  by_cases h0 : 0 ≤ at_
  · obtain ⟨k, rfl⟩ : ∃ k : Nat, at_ = k := ⟨at_.toNat, by omega⟩
    have hk : k < n := by omega
    have hk2 : k ≤ c := by omega
    have FIN : ∀ e : Ending, e = .returned (.tuple #[]) → Left w B g r (if (0:Int) ≤ (k:Int) then s.take ((k:Int)).toNat else s) p e (w.setCell ⟨g, 0, none⟩ (.slice A k c)) := by
      rintro e rfl
      refine ⟨rfl, ⟨A, k, c, pv, hw.set0 _, hk2, hc2, ?_, ho.other' ?_, hg, hrow⟩, (Below.refl _ _).setCell (p := ⟨g, 0, none⟩) hg _, by simp, fun k hk => Below.heap_setCell w ⟨g, 0, none⟩ _ k (Ne.symm hk)⟩
      · rw [if_pos (by omega), Int.toNat_natCast]
        exact (hr.take (by omega)).below ((Below.refl _ _).setCell (p := ⟨g, 0, none⟩) hg _)
      · exact hw.apart ho
    generalize Left w B g r (if (0:Int) ≤ (k:Int) then s.take ((k:Int)).toNat else s) p = P at FIN ⊢
    have HF := Lib.hid FIN
    clear FIN hl hw hr ho h2
    go_enter Tryd.func69, Tryd.ntmps69
    go_wp2
    go_end0
    exact HF.out _ rfl
  · have FIN : ∀ e : Ending, e = .returned (.tuple #[]) → Left w B g r (if 0 ≤ at_ then s.take at_.toNat else s) p e w := by
      rintro e rfl
      exact ⟨rfl, ⟨A, n, c, pv, hw, hc, hc2, by rw [if_neg h0]; exact hr, ho, hg, hrow⟩, Below.refl _ _, rfl, fun _ _ => rfl⟩
    generalize Left w B g r (if 0 ≤ at_ then s.take at_.toNat else s) p = P at FIN ⊢
    have HF := Lib.hid FIN
    clear FIN hl hw hr ho
    go_enter Tryd.func69, Tryd.ntmps69
    go_wp2
    go_end0
    exact HF.out _ rfl

set_option maxHeartbeats 800000 in
set_option maxRecDepth 100000 in
theorem toC (w : World) (B g : Nat) (r : Option Nat) (at_ : Int) (s p : List ByteArray) (hB : B ≤ w.heap.size) (h : St w B g r s p) (h1 : -1 ≤ at_) (h2 : at_ < s.length) :
    Calls Tryd.prog 68 #[.pointer (some ⟨g, 0, none⟩), .int .i64 at_] w (Left w B g r (s.take (at_ + 1).toNat) p) := by
  obtain ⟨A, n, c, pv, hw, hc, hc2, hr, ho, hg, hrow⟩ := h
  have e0 := hw.c0
  have ef := hw.fz 0
  have hl := hr.1
  have hgl := hw.lt
  obtain ⟨k, rfl⟩ : ∃ k : Nat, at_ = (k : Int) - 1 := ⟨(at_ + 1).toNat, by omega⟩
  have hk : k ≤ n := by omega
  have hk2 : k ≤ c := by omega
  have e1 : (k : Int) - 1 + 1 = k := by omega
  have FIN : ∀ e : Ending, e = .returned (.tuple #[]) → Left w B g r (s.take ((k : Int) - 1 + 1).toNat) p e (w.setCell ⟨g, 0, none⟩ (.slice A k c)) := by
    rintro e rfl
    refine ⟨rfl, ⟨A, k, c, pv, hw.set0 _, hk2, hc2, ?_, ho.other' ?_, hg, hrow⟩, (Below.refl _ _).setCell (p := ⟨g, 0, none⟩) hg _, by simp, fun k hk => Below.heap_setCell w ⟨g, 0, none⟩ _ k (Ne.symm hk)⟩
    · rw [e1, Int.toNat_natCast]
      exact (hr.take (by omega)).below ((Below.refl _ _).setCell (p := ⟨g, 0, none⟩) hg _)
    · exact hw.apart ho
  generalize Left w B g r (s.take ((k : Int) - 1 + 1).toNat) p = P at FIN ⊢
  have HF := Lib.hid FIN
  clear FIN hl hw hr ho h2
  go_enter Tryd.func68, Tryd.ntmps68
  go_wp2
  go_end0
  exact HF.out _ rfl
end Go.Proofs.YtddgpkdhakjjaaaDoor.Wk
