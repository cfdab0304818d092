/- A struct's block: its cells, and what a store of a whole struct needs. -/
import Derived.Deep.RegionHeld3
import Derived.Deep.MidRow
import Derived.BigQuiet
import Derived.Deep.QuietTactic
import Derived.Test.YteikagdinecfoaaGreatDoorGr
set_option linter.unusedVariables false
namespace Go.Proofs.YteikagdinecfoaaGreatDoor.Bk
open Go.RowKit Lb Gr

/-- block g holds the struct of the cells xs -/
def Bl (w : World) (g : Nat) (t : TypeId) (xs : List Value) : Prop := w.heap[g]? = some (.cells xs.toArray t (0, 0))
theorem Bl.lt {w : World} {g : Nat} {t : TypeId} {xs : List Value} (h : Bl w g t xs) : g < w.heap.size := (Array.getElem?_eq_some_iff.1 h).1
theorem Bl.cell {w : World} {g : Nat} {t : TypeId} {xs : List Value} (h : Bl w g t xs) (i : Nat) {v : Value} (hv : xs[i]? = some v) : w.cell? ⟨g, i, none⟩ = some v := by
  unfold Bl at h
  simp [World.cell?, h, hv]
theorem Bl.fz {w : World} {g : Nat} {t : TypeId} {xs : List Value} (h : Bl w g t xs) (j : Nat) : w.frozen? ⟨g, j, none⟩ = false := by
  unfold Bl at h
  simp [World.frozen?, h]
theorem Bl.of {w w' : World} {g : Nat} {t : TypeId} {xs : List Value} (h : Bl w g t xs) (he : w'.heap[g]? = w.heap[g]?) : Bl w' g t xs := he.trans h
theorem Bl.below {w w' : World} {g : Nat} {t : TypeId} {xs : List Value} (h : Bl w g t xs) (hb : Below w.heap.size w w') : Bl w' g t xs := (hb.block g h.lt).trans h
theorem Bl.alloc {w : World} {g : Nat} {t : TypeId} {xs : List Value} (h : Bl w g t xs) (o : Obj) : Bl (w.alloc o) g t xs := (Below.heap_alloc w o g h.lt).trans h
theorem Bl.drew {w : World} {g : Nat} {t : TypeId} {xs : List Value} (h : Bl w g t xs) (n : Nat) : Bl (w.drewN n) g t xs := h
theorem Bl.other {w : World} {g : Nat} {t : TypeId} {xs : List Value} (h : Bl w g t xs) {p : Addr} (hp : g ≠ p.block) (z : Value) : Bl (w.setCell p z) g t xs := (Below.heap_setCell w p z g hp).trans h
theorem Bl.new (w : World) (t : TypeId) (xs : List Value) {g : Nat} (h : w.heap.size = g) : Bl (w.alloc (.cells xs.toArray t (0, 0))) g t xs := by
  subst h; exact heap_alloc_new w _
theorem Bl.set {w : World} {g : Nat} {t : TypeId} {xs : List Value} (h : Bl w g t xs) (i : Nat) (z : Value) : Bl (w.setCell ⟨g, i, none⟩ z) g t (xs.set i z) := by
  unfold Bl at h ⊢
  simp [World.setCell, h, Array.getElem?_modify]
theorem Bl.store2 {w : World} {g : Nat} {t : TypeId} {a b : Value} (h : Bl w g t [a, b]) (x y : Value) :
    w.cell? ⟨g, 0, none⟩ = some a ∧ w.frozen? ⟨g, 0, none⟩ = false ∧ (w.setCell ⟨g, 0, none⟩ x).cell? ⟨g, 1, none⟩ = some b ∧ (w.setCell ⟨g, 0, none⟩ x).frozen? ⟨g, 1, none⟩ = false :=
  ⟨h.cell 0 rfl, h.fz 0, (h.set 0 x).cell 1 rfl, (h.set 0 x).fz 1⟩
theorem Bl.store3 {w : World} {g : Nat} {t : TypeId} {a b c : Value} (h : Bl w g t [a, b, c]) (x y z : Value) :
    w.cell? ⟨g, 0, none⟩ = some a ∧ w.frozen? ⟨g, 0, none⟩ = false ∧ (w.setCell ⟨g, 0, none⟩ x).cell? ⟨g, 1, none⟩ = some b ∧ (w.setCell ⟨g, 0, none⟩ x).frozen? ⟨g, 1, none⟩ = false ∧
    ((w.setCell ⟨g, 0, none⟩ x).setCell ⟨g, 1, none⟩ y).cell? ⟨g, 2, none⟩ = some c ∧ ((w.setCell ⟨g, 0, none⟩ x).setCell ⟨g, 1, none⟩ y).frozen? ⟨g, 2, none⟩ = false :=
  ⟨h.cell 0 rfl, h.fz 0, (h.set 0 x).cell 1 rfl, (h.set 0 x).fz 1, ((h.set 0 x).set 1 y).cell 2 rfl, ((h.set 0 x).set 1 y).fz 2⟩
theorem Bl.three {w : World} {g : Nat} {t : TypeId} {a b c : Value} (h : Bl w g t [a, b, c]) (x y z : Value) : Bl (((w.setCell ⟨g, 0, none⟩ x).setCell ⟨g, 1, none⟩ y).setCell ⟨g, 2, none⟩ z) g t [x, y, z] :=
  ((h.set 0 x).set 1 y).set 2 z
theorem Bl.two {w : World} {g : Nat} {t : TypeId} {a b : Value} (h : Bl w g t [a, b]) (x y : Value) : Bl ((w.setCell ⟨g, 0, none⟩ x).setCell ⟨g, 1, none⟩ y) g t [x, y] := (h.set 0 x).set 1 y
theorem Bl.oth2 {w : World} {g g2 : Nat} {t : TypeId} {xs : List Value} (h : Bl w g t xs) (hne : g ≠ g2) (x y : Value) : Bl ((w.setCell ⟨g2, 0, none⟩ x).setCell ⟨g2, 1, none⟩ y) g t xs :=
  (h.other (p := ⟨g2, 0, none⟩) hne x).other (p := ⟨g2, 1, none⟩) hne y
theorem Bl.oth3 {w : World} {g g2 : Nat} {t : TypeId} {xs : List Value} (h : Bl w g t xs) (hne : g ≠ g2) (x y z : Value) : Bl (((w.setCell ⟨g2, 0, none⟩ x).setCell ⟨g2, 1, none⟩ y).setCell ⟨g2, 2, none⟩ z) g t xs :=
  (h.oth2 hne x y).other (p := ⟨g2, 2, none⟩) hne z
theorem Fr.set2 (w : World) (g : Nat) (x y : Value) : Fr [g] w ((w.setCell ⟨g, 0, none⟩ x).setCell ⟨g, 1, none⟩ y) := (Fr.setCell w ⟨g, 0, none⟩ x (.inl (by simp))).trans (Fr.setCell _ ⟨g, 1, none⟩ y (.inl (by simp)))
theorem Fr.set3 (w : World) (g : Nat) (x y z : Value) : Fr [g] w (((w.setCell ⟨g, 0, none⟩ x).setCell ⟨g, 1, none⟩ y).setCell ⟨g, 2, none⟩ z) := (Fr.set2 w g x y).trans (Fr.setCell _ ⟨g, 2, none⟩ z (.inl (by simp)))
theorem Bl.store7 {w : World} {g : Nat} {t : TypeId} {a0 a1 a2 a3 a4 a5 a6 : Value} (h : Bl w g t [a0, a1, a2, a3, a4, a5, a6]) (x0 x1 x2 x3 x4 x5 x6 : Value) :
    w.cell? ⟨g, 0, none⟩ = some a0 ∧ w.frozen? ⟨g, 0, none⟩ = false ∧ (w.setCell ⟨g, 0, none⟩ x0).cell? ⟨g, 1, none⟩ = some a1 ∧ (w.setCell ⟨g, 0, none⟩ x0).frozen? ⟨g, 1, none⟩ = false ∧ ((w.setCell ⟨g, 0, none⟩ x0).setCell ⟨g, 1, none⟩ x1).cell? ⟨g, 2, none⟩ = some a2 ∧ ((w.setCell ⟨g, 0, none⟩ x0).setCell ⟨g, 1, none⟩ x1).frozen? ⟨g, 2, none⟩ = false ∧ (((w.setCell ⟨g, 0, none⟩ x0).setCell ⟨g, 1, none⟩ x1).setCell ⟨g, 2, none⟩ x2).cell? ⟨g, 3, none⟩ = some a3 ∧ (((w.setCell ⟨g, 0, none⟩ x0).setCell ⟨g, 1, none⟩ x1).setCell ⟨g, 2, none⟩ x2).frozen? ⟨g, 3, none⟩ = false ∧ ((((w.setCell ⟨g, 0, none⟩ x0).setCell ⟨g, 1, none⟩ x1).setCell ⟨g, 2, none⟩ x2).setCell ⟨g, 3, none⟩ x3).cell? ⟨g, 4, none⟩ = some a4 ∧ ((((w.setCell ⟨g, 0, none⟩ x0).setCell ⟨g, 1, none⟩ x1).setCell ⟨g, 2, none⟩ x2).setCell ⟨g, 3, none⟩ x3).frozen? ⟨g, 4, none⟩ = false ∧ (((((w.setCell ⟨g, 0, none⟩ x0).setCell ⟨g, 1, none⟩ x1).setCell ⟨g, 2, none⟩ x2).setCell ⟨g, 3, none⟩ x3).setCell ⟨g, 4, none⟩ x4).cell? ⟨g, 5, none⟩ = some a5 ∧ (((((w.setCell ⟨g, 0, none⟩ x0).setCell ⟨g, 1, none⟩ x1).setCell ⟨g, 2, none⟩ x2).setCell ⟨g, 3, none⟩ x3).setCell ⟨g, 4, none⟩ x4).frozen? ⟨g, 5, none⟩ = false ∧ ((((((w.setCell ⟨g, 0, none⟩ x0).setCell ⟨g, 1, none⟩ x1).setCell ⟨g, 2, none⟩ x2).setCell ⟨g, 3, none⟩ x3).setCell ⟨g, 4, none⟩ x4).setCell ⟨g, 5, none⟩ x5).cell? ⟨g, 6, none⟩ = some a6 ∧ ((((((w.setCell ⟨g, 0, none⟩ x0).setCell ⟨g, 1, none⟩ x1).setCell ⟨g, 2, none⟩ x2).setCell ⟨g, 3, none⟩ x3).setCell ⟨g, 4, none⟩ x4).setCell ⟨g, 5, none⟩ x5).frozen? ⟨g, 6, none⟩ = false :=
  ⟨h.cell 0 rfl, h.fz 0, (h.set 0 x0).cell 1 rfl, (h.set 0 x0).fz 1, ((h.set 0 x0).set 1 x1).cell 2 rfl, ((h.set 0 x0).set 1 x1).fz 2, (((h.set 0 x0).set 1 x1).set 2 x2).cell 3 rfl, (((h.set 0 x0).set 1 x1).set 2 x2).fz 3, ((((h.set 0 x0).set 1 x1).set 2 x2).set 3 x3).cell 4 rfl, ((((h.set 0 x0).set 1 x1).set 2 x2).set 3 x3).fz 4, (((((h.set 0 x0).set 1 x1).set 2 x2).set 3 x3).set 4 x4).cell 5 rfl, (((((h.set 0 x0).set 1 x1).set 2 x2).set 3 x3).set 4 x4).fz 5, ((((((h.set 0 x0).set 1 x1).set 2 x2).set 3 x3).set 4 x4).set 5 x5).cell 6 rfl, ((((((h.set 0 x0).set 1 x1).set 2 x2).set 3 x3).set 4 x4).set 5 x5).fz 6⟩
theorem Bl.seven {w : World} {g : Nat} {t : TypeId} {a0 a1 a2 a3 a4 a5 a6 : Value} (h : Bl w g t [a0, a1, a2, a3, a4, a5, a6]) (x0 x1 x2 x3 x4 x5 x6 : Value) : Bl (((((((w.setCell ⟨g, 0, none⟩ x0).setCell ⟨g, 1, none⟩ x1).setCell ⟨g, 2, none⟩ x2).setCell ⟨g, 3, none⟩ x3).setCell ⟨g, 4, none⟩ x4).setCell ⟨g, 5, none⟩ x5).setCell ⟨g, 6, none⟩ x6) g t [x0, x1, x2, x3, x4, x5, x6] := (((((((h.set 0 x0).set 1 x1).set 2 x2).set 3 x3).set 4 x4).set 5 x5).set 6 x6)
theorem Fr.set7 (w : World) (g : Nat) (x0 x1 x2 x3 x4 x5 x6 : Value) : Fr [g] w (((((((w.setCell ⟨g, 0, none⟩ x0).setCell ⟨g, 1, none⟩ x1).setCell ⟨g, 2, none⟩ x2).setCell ⟨g, 3, none⟩ x3).setCell ⟨g, 4, none⟩ x4).setCell ⟨g, 5, none⟩ x5).setCell ⟨g, 6, none⟩ x6) := (((((((Fr.refl _ _).trans (Fr.setCell _ ⟨g, 0, none⟩ x0 (.inl (by simp)))).trans (Fr.setCell _ ⟨g, 1, none⟩ x1 (.inl (by simp)))).trans (Fr.setCell _ ⟨g, 2, none⟩ x2 (.inl (by simp)))).trans (Fr.setCell _ ⟨g, 3, none⟩ x3 (.inl (by simp)))).trans (Fr.setCell _ ⟨g, 4, none⟩ x4 (.inl (by simp)))).trans (Fr.setCell _ ⟨g, 5, none⟩ x5 (.inl (by simp)))).trans (Fr.setCell _ ⟨g, 6, none⟩ x6 (.inl (by simp)))
theorem Bl.range {w : World} {g : Nat} {t : TypeId} {xs : List Value} (h : Bl w g t xs) : w.rangeAt g 0 xs := fun j v hv => by
  rw [Nat.zero_add]; exact h.cell j hv
section
variable {P : Program}
/-- a result that lies in a variable; with a second one beside -/
theorem res_cell {fn : Func} {t : Tmp} {ty tg : TypeId} {tmps : Array Value} {w : World} {g : Nat} {xs : List Value} {d : TypeDesc} (h : fn.results = #[.cell t ty]) (hp : tmps.getD t undef = .pointer (some ⟨g, 0, none⟩)) (hb : Bl w g tg xs)
    (hu : P.underlying ty = some d) (hd : d.isRow = true) (hi : (P.info? ty).map (·.size) = some xs.length) : (results fn tmps).run P w = .ok (.agg xs.toArray) w := by
  have hl := run_loadVar_mid w g 0 ty xs d hb.range hu hd hi
  rw [Array.getD_eq_getD_getElem?] at hp
  simp [results, h, hp, asAddr, hl]
theorem res_cell2 {fn : Func} {t u : Tmp} {ty tg : TypeId} {tmps : Array Value} {w : World} {g : Nat} {xs : List Value} {d : TypeDesc} (h : fn.results = #[.cell t ty, .tmp u]) (hp : tmps.getD t undef = .pointer (some ⟨g, 0, none⟩)) (hb : Bl w g tg xs)
    (hu : P.underlying ty = some d) (hd : d.isRow = true) (hi : (P.info? ty).map (·.size) = some xs.length) : (results fn tmps).run P w = .ok (.tuple #[.agg xs.toArray, tmps.getD u undef]) w := by
  have hl := run_loadVar_mid w g 0 ty xs d hb.range hu hd hi
  rw [Array.getD_eq_getD_getElem?] at hp
  simp [results, h, hp, asAddr, hl]
end
/-- the cells of a struct in a block of its own, to be appended -/
theorem news_src (w : World) (xs : List Value) (t : TypeId) : 0 < xs.length → ∃ b off, some (⟨w.heap.size, 0, none⟩ : Addr) = some ⟨b, off, none⟩ ∧ ∀ j u, xs[j]? = some u → (w.alloc (.cells xs.toArray t)).cell? ⟨b, off + j, none⟩ = some u :=
  fun _ => ⟨_, 0, rfl, fun j u hu => by rw [Nat.zero_add]; exact (Bl.new w t xs rfl).cell j hu⟩
theorem drw (w : World) (n : Nat) : Below w.heap.size w (w.drewN n) := ⟨rfl, rfl, rfl, Nat.le_refl _, fun _ _ => rfl⟩
end Go.Proofs.YteikagdinecfoaaGreatDoor.Bk
