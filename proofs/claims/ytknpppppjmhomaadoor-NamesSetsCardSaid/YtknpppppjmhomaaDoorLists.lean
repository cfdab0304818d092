/- What lists() gives: the sixteen texts, in an array. -/
import Derived.Test.YtknpppppjmhomaaDoorProg
import Derived.Test.YtknpppppjmhomaaDoorSets
namespace Go.Proofs.YtknpppppjmhomaaDoor.Ls
open Go.RowKit Lb St
set_option maxHeartbeats 4000000 in
set_option maxRecDepth 100000 in
theorem nLists (w : World) : Calls Tryd.prog 71 #[] w fun e w' => e = .returned (.agg setVals) ∧ Below w.heap.size w w' := by
  go_enter Tryd.func71, Tryd.ntmps71
  go_wp2
  refine bodyPost_ret (v := .agg setVals) ?_ rfl ⟨rfl, ?_⟩
  · simp [results, Tryd.results71, go_sem]
    rfl
  · exact (((Below.refl _ _).alloc (Nat.le_refl _) _).alloc (by simp) _)
end Go.Proofs.YtknpppppjmhomaaDoor.Ls
