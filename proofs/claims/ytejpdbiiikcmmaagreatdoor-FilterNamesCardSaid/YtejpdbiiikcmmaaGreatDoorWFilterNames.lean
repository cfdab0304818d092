/- The walk of FilterNames: numbers, and the document's example. -/
import Derived.Test.YtejpdbiiikcmmaaGreatDoorLi
set_option linter.unusedVariables false
set_option linter.unusedSimpArgs false
namespace Go.Proofs.YtejpdbiiikcmmaaGreatDoor.filterNames
open Go.RowKit Lb Is Go.Proofs.YtejpdbiiikcmmaaGreatDoor.Lk Go.Proofs.YtejpdbiiikcmmaaGreatDoor.Lv
attribute [local go_sem ↓] Go.wp_at_zero Go.wp_at_succ
set_option maxHeartbeats 2000000 in
set_option maxRecDepth 100000 in
theorem walk (w : World) (ht : Tab w ∧ NevT w) : Calls Tryz.prog 3 #[] w fun e w' => e = .returned (.bool true) ∧ Below w.heap.size w w' := by
  have HL := Lib.hid (livesC w ht.1 ht.2)
  clear ht
  go_enter Tryz.func3, Tryz.ntmps3
  go_wp2_with (go_at_call 13; refine HL.out.mono ?_; rintro e w3 ⟨rfl, hb3⟩)
  go_ret
  exact ⟨rfl, hb3⟩
end Go.Proofs.YtejpdbiiikcmmaaGreatDoor.filterNames
