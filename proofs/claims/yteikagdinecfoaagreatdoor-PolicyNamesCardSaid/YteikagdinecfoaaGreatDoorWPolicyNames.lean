/- The walk of PolicyNames: numbers, and the document's example. -/
import Derived.Test.YteikagdinecfoaaGreatDoorAw
set_option linter.unusedVariables false
set_option linter.unusedSimpArgs false
namespace Go.Proofs.YteikagdinecfoaaGreatDoor.policyNames
open Go.RowKit Lb Go.Proofs.YteikagdinecfoaaGreatDoor.Aw
attribute [local go_sem ↓] Go.wp_at_zero Go.wp_at_succ
set_option maxHeartbeats 2000000 in
set_option maxRecDepth 100000 in
theorem walk (w : World) (hl : Laid w) : Calls Tryz.prog 3 #[] w fun e w' => e = .returned (.bool true) ∧ Below w.heap.size w w' := by
  have HA := Lib.hid (awakeC w hl)
  clear hl
  go_enter Tryz.func3, Tryz.ntmps3
  go_wp2_with (first
    | (go_at_call 16; refine (numC _ _).mono ?_; rintro e w4 ⟨rfl, rfl⟩)
    | (go_at_call 17; refine HA.out.mono ?_; rintro e w3 ⟨rfl, hb3⟩))
  go_ret
  exact ⟨rfl, hb3⟩
end Go.Proofs.YteikagdinecfoaaGreatDoor.policyNames
