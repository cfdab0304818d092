/- Two ranges' marks taken, and the named result read. -/
import Derived.Test.YtknpppppjmhomaaDoorNl
import Derived.Laws.OwnMore
import Derived.Sort.CutIn
set_option linter.unusedVariables false
set_option linter.unusedSimpArgs false
namespace Go.Proofs.YtknpppppjmhomaaDoor
open Go.RowKit Nl

theorem leaves2 {fn : Func} {tmps : Array Value} {R : Ending → World → Prop} {Wz : World} {D D2 n b : Nat} {a1 a2 : Array Value}
    (hres : fn.results = #[.cell 6 4]) (htm : tmps[6]? = some (.pointer (some ⟨b, 0, none⟩))) (h6 : Wz.cell? ⟨b, 0, none⟩ = some (.bool true))
    (hda : Wz.heap[D]? = some (.deferred (some []))) (hda2 : Wz.heap[D2]? = some (.deferred (some []))) (hDD : D ≠ D2)
    (hR : R (.returned (.bool true)) ((Wz.putObj D2 (.deferred none)).putObj D (.deferred none))) :
    LeavesInM Fence.wide n Tryd.prog fn tmps R [{ target := .collected D2, args := a1 }, { target := .collected D, args := a2 }] .returning Wz := by
  have hdb : (Wz.putObj D2 (.deferred none)).heap[D]? = some (.deferred (some [])) := (World.putObj_heap_other hDD).trans hda
  have h6e : ((Wz.putObj D2 (.deferred none)).putObj D (.deferred none)).cell? ⟨b, 0, none⟩ = some (.bool true) :=
    cell_kept (cell_kept h6 (grownBy_putObj' Wz D2 (.deferred none)) (fun r e => by cases e; exact ⟨_, hda2, rfl⟩)) (grownBy_putObj' _ D (.deferred none)) (fun r e => by cases e; exact ⟨_, hdb, rfl⟩)
  refine ⟨by simp, .inl ⟨_, _, rfl, run_takeDeferred hda2, ?_⟩⟩
  refine ⟨by simp, .inl ⟨_, _, rfl, run_takeDeferred hdb, ?_⟩⟩
  exact ⟨.bool true, by simp [results, hres, htm, h6e, go_sem], hR⟩
end Go.Proofs.YtknpppppjmhomaaDoor
