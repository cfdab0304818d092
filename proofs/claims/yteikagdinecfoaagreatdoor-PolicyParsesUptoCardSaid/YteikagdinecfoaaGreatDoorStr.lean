/- Rows of texts that the call itself made, lists of texts that are read. No program but for the number of the type string. -/
import Derived.Test.YteikagdinecfoaaGreatDoorProg
import Derived.Test.YteikagdinecfoaaGreatDoorLib
set_option linter.unusedVariables false
set_option linter.unusedSimpArgs false
namespace Go.Proofs.YteikagdinecfoaaGreatDoor.Fl
open Go.RowKit Lb
theorem infoStr : (Tryz.prog.info? 9).map (fun i => (i.zero, i.size, i.bytes)) = some (some (.string ByteArray.empty), 1, 16) := by kernel_rfl

/-- v is a row of texts of the call's own, from block B on -/
def Own (w : World) (B : Nat) (v : Value) (l : List ByteArray) : Prop := w.ownsRow B 9 1 v l.length (l.map Value.string)

theorem Own.nil (w : World) (B : Nat) : Own w B (.slice none 0 0) [] := World.ownsRow_nil _ _ _ _

theorem Own.push {w1 : World} {B : Nat} {v' : Value} {l : List ByteArray} {x : ByteArray} (h : w1.ownsRow B 9 1 v' (l.length + 1) (l.map Value.string ++ [.string x])) : Own w1 B v' (l ++ [x]) := by
  unfold Own
  simpa using h
theorem le_alloc {w : World} {B : Nat} (h : B ≤ w.heap.size) (o : Obj) : B ≤ (w.alloc o).heap.size := by simp; omega
theorem Own.ge {w : World} {B : Nat} {v : Value} {l : List ByteArray} (h : Own w B v l) : ∀ k, v.ownBlock = some k → B ≤ k := own_ge h
theorem push_below {w w1 wr : World} {B : Nat} {o : Obj} {v : Value} {l : List ByteArray} (h : Own wr B v l) (hnx : Below B w wr) (hB : B ≤ wr.heap.size) (hg : (wr.alloc o).grownBy w1 v.ownBlock) : Below B w w1 :=
  (hnx.alloc hB o).grown hg (by simp; omega) h.ge

/-- the j-th text of a row, in any later world -/
theorem Own.get {w : World} {B n c : Nat} {A : Option Addr} {l : List ByteArray} (h : Own w B (.slice A n c) l) {j : Nat} (hj : j < l.length) :
    ∃ b off, A = some ⟨b, off, none⟩ ∧ b < w.heap.size ∧ ∀ w', Below w.heap.size w w' → w'.cell? ⟨b, off + j, none⟩ = some (.string l[j]) := by
  obtain ⟨A', c', hv, _, _, hc⟩ := Sl.of_own h
  injection hv with hA hn hcc
  subst hA
  obtain ⟨b, off, rfl, hb, hcell⟩ := hc (by simp; omega)
  exact ⟨b, off, rfl, hb, fun w' hw => (hw.cell (p := ⟨b, off + j, none⟩) hb).trans (hcell j _ (by simp [List.getElem?_eq_getElem hj]))⟩
theorem Own.form {w : World} {B : Nat} {v : Value} {l : List ByteArray} (h : Own w B v l) : ∃ A c, v = .slice A l.length c := by
  obtain ⟨A, c, rfl, _⟩ := Sl.of_own h
  exact ⟨A, c, rfl⟩
/-- what a call that gives a new list of texts ends in -/
def RetS (w : World) (l : List ByteArray) (e : Ending) (w' : World) : Prop :=
  ∃ A c, e = .returned (.slice A l.length c) ∧ Own w' w.heap.size (.slice A l.length c) l ∧ Below w.heap.size w w'
theorem RetS.mk {w w' : World} {l : List ByteArray} {v : Value} (h : Own w' w.heap.size v l) (hb : Below w.heap.size w w') : RetS w l (.returned v) w' := by
  obtain ⟨A, c, rfl⟩ := h.form
  exact ⟨A, c, rfl, h, hb⟩

/-- the slice at A, of n elements, reads as the texts l, now and in any later world -/
def Rd (w : World) (A : Option Addr) (n : Nat) (l : List ByteArray) : Prop :=
  n = l.length ∧ ∀ j (h : j < l.length), ∃ b off, A = some ⟨b, off, none⟩ ∧ b < w.heap.size ∧ ∀ w', Below w.heap.size w w' → w'.cell? ⟨b, off + j, none⟩ = some (.string l[j])
theorem Own.rd {w : World} {B n c : Nat} {A : Option Addr} {l : List ByteArray} (h : Own w B (.slice A n c) l) : Rd w A n l := by
  refine ⟨?_, fun j hj => h.get hj⟩
  obtain ⟨A', c', hv⟩ := h.form
  injection hv
theorem Rd.below {w w' : World} {A : Option Addr} {n : Nat} {l : List ByteArray} (h : Rd w A n l) (hb : Below w.heap.size w w') : Rd w' A n l :=
  ⟨h.1, fun j hj => by
    obtain ⟨b, off, e, hlt, hc⟩ := h.2 j hj
    have := hb.size
    exact ⟨b, off, e, by omega, fun w2 h2 => hc w2 (hb.trans (h2.mono hb.size))⟩⟩
theorem Rd.len {w : World} {A : Option Addr} {n : Nat} {l : List ByteArray} (h : Rd w A n l) : n = l.length := h.1
theorem Rd.get {w : World} {A : Option Addr} {n : Nat} {l : List ByteArray} (h : Rd w A n l) {j : Nat} (hj : j < l.length) :
    ∃ b off, A = some ⟨b, off, none⟩ ∧ b < w.heap.size ∧ ∀ w', Below w.heap.size w w' → w'.cell? ⟨b, off + j, none⟩ = some (.string l[j]) := h.2 j hj
theorem Rd.nil (w : World) (A : Option Addr) : Rd w A 0 [] := ⟨rfl, fun j hj => by simp at hj⟩

theorem Own.below {w w' : World} {B : Nat} {v : Value} {l : List ByteArray} (h : Own w B v l) (hb : Below w.heap.size w w') : Own w' B v l := by
  obtain ⟨h1, h2⟩ := h
  refine ⟨h1, ?_⟩
  rcases h2 with h2 | ⟨g, cap, cur, hv, hg, hh, r⟩
  · exact Or.inl h2
  · exact Or.inr ⟨g, cap, cur, hv, hg, by rw [hb.block g (Array.getElem?_eq_some_iff.1 hh).1]; exact hh, r⟩
/-- the j-th place of a row of the call's own may be written -/
theorem Own.store {w : World} {B n c : Nat} {A : Option Addr} {l : List ByteArray} (h : Own w B (.slice A n c) l) {j : Nat} (hj : j < l.length) (x : ByteArray) :
    ∃ g, A = some ⟨g, 0, none⟩ ∧ B ≤ g ∧ g < w.heap.size ∧ w.frozen? ⟨g, j, none⟩ = false ∧ w.cell? ⟨g, j, none⟩ = some (.string l[j]) ∧ Own (w.setCell ⟨g, j, none⟩ (.string x)) B (.slice A n c) (l.set j x) := by
  have hl : n = l.length := by obtain ⟨A', c', hv⟩ := h.form; injection hv
  subst hl
  rcases h.2 with ⟨hn, h0⟩ | ⟨g, cap, cur, hv, hg, hh, _⟩
  · omega
  · injection hv with hA _ hc
    subst hA
    have hown : w.ownsRow B 9 1 (.slice (some ⟨g, 0, none⟩) l.length c) l.length (l.map Value.string) := h
    refine ⟨g, rfl, hg, (Array.getElem?_eq_some_iff.1 hh).1, hown.frozenAt j, ?_, ?_⟩
    · rw [hown.cellAt j (by omega)]; simp [List.getElem?_eq_getElem hj]
    · have h2 := (hown.stored j (.string x)).1
      unfold Own
      rw [List.length_set, List.map_set]
      exact h2
theorem Own.other {w : World} {B B' : Nat} {v : Value} {l : List ByteArray} (h : Own w B v l) {p : Addr} (hp : p.block < B') (hB : B' ≤ B) (u : Value) : Own (w.setCell p u) B v l :=
  ownsRow_setCell_below h (by omega) u
theorem Own.apart {wa wb : World} {Ba : Nat} {vf vg : Value} {lf lg : List ByteArray} (hf : Own wa Ba vf lf) (hg : Own wb wa.heap.size vg lg) : vg.ownBlock = none ∨ vg.ownBlock ≠ vf.ownBlock := by
  cases hgb : vg.ownBlock with
  | none => exact .inl rfl
  | some k =>
    refine .inr (fun e => ?_)
    have h1 := (hg.lt k hgb).1
    have h2 := (hf.lt k (by rw [← e])).2
    omega
theorem Own.apart2 {wa wb : World} {Ba Bg : Nat} {vf vg : Value} {lf lg : List ByteArray} (hf : Own wa Ba vf lf) (hg : Own wb Bg vg lg) (hB : wa.heap.size ≤ Bg) : vg.ownBlock = none ∨ vg.ownBlock ≠ vf.ownBlock := by
  cases hgb : vg.ownBlock with
  | none => exact .inl rfl
  | some k =>
    refine .inr (fun e => ?_)
    have h1 := (hg.lt k hgb).1
    have h2 := (hf.lt k (by rw [← e])).2
    omega

theorem Rd.cells {w : World} {A : Option Addr} {n : Nat} {l : List ByteArray} (h : Rd w A n l) : 0 < (l.map Value.string).length → ∃ b off, A = some ⟨b, off, none⟩ ∧ ∀ j u, (l.map Value.string)[j]? = some u → w.cell? ⟨b, off + j, none⟩ = some u := by
  intro hp
  have h0 : 0 < l.length := by simpa using hp
  obtain ⟨b, off, e, _, _⟩ := h.get h0
  refine ⟨b, off, e, fun j u hu => ?_⟩
  have hj : j < l.length := by
    have := (List.getElem?_eq_some_iff.1 hu).1
    simpa using this
  obtain ⟨b', off', e', _, hc⟩ := h.get hj
  rw [e] at e'
  injection e' with e'
  injection e' with e1 e2
  subst e1 e2
  rw [hc w (Below.refl _ _)]
  rw [List.getElem?_map, List.getElem?_eq_getElem hj] at hu
  simpa using hu
theorem Own.other' {w : World} {B : Nat} {v u : Value} {l : List ByteArray} (h : Own w B v l) {p : Addr} (hp : v.ownBlock ≠ some p.block) : Own (w.setCell p u) B v l :=
  ownsRow_setCell_other h hp u
end Go.Proofs.YteikagdinecfoaaGreatDoor.Fl
