/- What lists() gives: the sixteen texts, in an array. -/
import Derived.Test.YteikagdinecfoaaGreatDoorProg
import Derived.Test.YteikagdinecfoaaGreatDoorSets
set_option linter.unusedVariables false
set_option linter.unusedSimpArgs false
namespace Go.Proofs.YteikagdinecfoaaGreatDoor.Ls
open Go.RowKit Lb St
set_option maxHeartbeats 4000000 in
set_option maxRecDepth 100000 in
theorem nLists (w : World) : Calls Tryz.prog 143 #[] w fun e w' => e = .returned (.agg setVals) ∧ Below w.heap.size w w' := by
  go_enter Tryz.func143, Tryz.ntmps143
  go_wp2
  refine bodyPost_ret (v := .agg setVals) ?_ rfl ⟨rfl, ?_⟩
  · simp [results, Tryz.results143, go_sem]
    rfl
  · exact (((Below.refl _ _).alloc (Nat.le_refl _) _).alloc (by simp) _)
end Go.Proofs.YteikagdinecfoaaGreatDoor.Ls
