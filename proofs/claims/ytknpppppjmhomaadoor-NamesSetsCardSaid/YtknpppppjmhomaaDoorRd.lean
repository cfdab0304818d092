/- More on lists of texts that are read. -/
import Derived.Test.YtknpppppjmhomaaDoorFields
namespace Go.Proofs.YtknpppppjmhomaaDoor.Fl
open Go.RowKit Lb
theorem Rd.cells {w : World} {A : Option Addr} {n : Nat} {l : List ByteArray} (h : Rd w A n l) : 0 < (l.map Value.string).length → ∃ b off, A = some ⟨b, off, none⟩ ∧ ∀ j u, (l.map Value.string)[j]? = some u → w.cell? ⟨b, off + j, none⟩ = some u := by
  intro hp
  have h0 : 0 < l.length := by simpa using hp
  obtain ⟨b, off, e, _, _⟩ := h.get h0
  refine ⟨b, off, e, fun j u hu => ?_⟩
  have hj : j < l.length := by
    have := (List.getElem?_eq_some_iff.1 hu).1
    simpa using this
  obtain ⟨b', off', e', _, hc⟩ := h.get hj
  rw [e] at e'
  injection e' with e'
  injection e' with e1 e2
  subst e1 e2
  rw [hc w (Below.refl _ _)]
  rw [List.getElem?_map, List.getElem?_eq_getElem hj] at hu
  simpa using hu
end Go.Proofs.YtknpppppjmhomaaDoor.Fl
