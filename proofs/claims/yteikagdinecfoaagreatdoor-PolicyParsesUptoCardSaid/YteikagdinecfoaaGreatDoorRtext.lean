/- What the reference's text() gives for each set's number. -/
import Derived.Test.YteikagdinecfoaaGreatDoorProg
import Derived.Test.YteikagdinecfoaaGreatDoorSets
set_option linter.unusedVariables false
set_option linter.unusedSimpArgs false
namespace Go.Proofs.YteikagdinecfoaaGreatDoor.Rt
open Go.RowKit Lb St
def rtS (k : Int) : ByteArray := if 0 ≤ k ∧ k < 16 then str (rtx k.toNat) else str []

set_option maxHeartbeats 1000000 in
set_option maxRecDepth 100000 in
theorem text0 (w : World) : Calls Tryz.prog 117 #[.int .i64 0] w fun e w' => e = .returned (.string (str rt0)) ∧ w = w' := by
  go_enter Tryz.func117, Tryz.ntmps117
  go_wp2
  go_ret
  exact ⟨rs (by kernel_rfl), rfl⟩

set_option maxHeartbeats 1000000 in
set_option maxRecDepth 100000 in
theorem text1 (w : World) : Calls Tryz.prog 117 #[.int .i64 1] w fun e w' => e = .returned (.string (str rt1)) ∧ w = w' := by
  go_enter Tryz.func117, Tryz.ntmps117
  go_wp2
  go_ret
  exact ⟨rs (by kernel_rfl), rfl⟩

set_option maxHeartbeats 1000000 in
set_option maxRecDepth 100000 in
theorem text2 (w : World) : Calls Tryz.prog 117 #[.int .i64 2] w fun e w' => e = .returned (.string (str rt2)) ∧ w = w' := by
  go_enter Tryz.func117, Tryz.ntmps117
  go_wp2
  go_ret
  exact ⟨rs (by kernel_rfl), rfl⟩

set_option maxHeartbeats 1000000 in
set_option maxRecDepth 100000 in
theorem text3 (w : World) : Calls Tryz.prog 117 #[.int .i64 3] w fun e w' => e = .returned (.string (str rt3)) ∧ w = w' := by
  go_enter Tryz.func117, Tryz.ntmps117
  go_wp2
  go_ret
  exact ⟨rs (by kernel_rfl), rfl⟩

set_option maxHeartbeats 1000000 in
set_option maxRecDepth 100000 in
theorem text4 (w : World) : Calls Tryz.prog 117 #[.int .i64 4] w fun e w' => e = .returned (.string (str rt4)) ∧ w = w' := by
  go_enter Tryz.func117, Tryz.ntmps117
  go_wp2
  go_ret
  exact ⟨rs (by kernel_rfl), rfl⟩

set_option maxHeartbeats 1000000 in
set_option maxRecDepth 100000 in
theorem text5 (w : World) : Calls Tryz.prog 117 #[.int .i64 5] w fun e w' => e = .returned (.string (str rt5)) ∧ w = w' := by
  go_enter Tryz.func117, Tryz.ntmps117
  go_wp2
  go_ret
  exact ⟨rs (by kernel_rfl), rfl⟩

set_option maxHeartbeats 1000000 in
set_option maxRecDepth 100000 in
theorem text6 (w : World) : Calls Tryz.prog 117 #[.int .i64 6] w fun e w' => e = .returned (.string (str rt6)) ∧ w = w' := by
  go_enter Tryz.func117, Tryz.ntmps117
  go_wp2
  go_ret
  exact ⟨rs (by kernel_rfl), rfl⟩

set_option maxHeartbeats 1000000 in
set_option maxRecDepth 100000 in
theorem text7 (w : World) : Calls Tryz.prog 117 #[.int .i64 7] w fun e w' => e = .returned (.string (str rt7)) ∧ w = w' := by
  go_enter Tryz.func117, Tryz.ntmps117
  go_wp2
  go_ret
  exact ⟨rs (by kernel_rfl), rfl⟩

set_option maxHeartbeats 1000000 in
set_option maxRecDepth 100000 in
theorem text8 (w : World) : Calls Tryz.prog 117 #[.int .i64 8] w fun e w' => e = .returned (.string (str rt8)) ∧ w = w' := by
  go_enter Tryz.func117, Tryz.ntmps117
  go_wp2
  go_ret
  exact ⟨rs (by kernel_rfl), rfl⟩

set_option maxHeartbeats 1000000 in
set_option maxRecDepth 100000 in
theorem text9 (w : World) : Calls Tryz.prog 117 #[.int .i64 9] w fun e w' => e = .returned (.string (str rt9)) ∧ w = w' := by
  go_enter Tryz.func117, Tryz.ntmps117
  go_wp2
  go_ret
  exact ⟨rs (by kernel_rfl), rfl⟩

set_option maxHeartbeats 1000000 in
set_option maxRecDepth 100000 in
theorem text10 (w : World) : Calls Tryz.prog 117 #[.int .i64 10] w fun e w' => e = .returned (.string (str rt10)) ∧ w = w' := by
  go_enter Tryz.func117, Tryz.ntmps117
  go_wp2
  go_ret
  exact ⟨rs (by kernel_rfl), rfl⟩

set_option maxHeartbeats 1000000 in
set_option maxRecDepth 100000 in
theorem text11 (w : World) : Calls Tryz.prog 117 #[.int .i64 11] w fun e w' => e = .returned (.string (str rt11)) ∧ w = w' := by
  go_enter Tryz.func117, Tryz.ntmps117
  go_wp2
  go_ret
  exact ⟨rs (by kernel_rfl), rfl⟩

set_option maxHeartbeats 1000000 in
set_option maxRecDepth 100000 in
theorem text12 (w : World) : Calls Tryz.prog 117 #[.int .i64 12] w fun e w' => e = .returned (.string (str rt12)) ∧ w = w' := by
  go_enter Tryz.func117, Tryz.ntmps117
  go_wp2
  go_ret
  exact ⟨rs (by kernel_rfl), rfl⟩

set_option maxHeartbeats 1000000 in
set_option maxRecDepth 100000 in
theorem text13 (w : World) : Calls Tryz.prog 117 #[.int .i64 13] w fun e w' => e = .returned (.string (str rt13)) ∧ w = w' := by
  go_enter Tryz.func117, Tryz.ntmps117
  go_wp2
  go_ret
  exact ⟨rs (by kernel_rfl), rfl⟩

set_option maxHeartbeats 1000000 in
set_option maxRecDepth 100000 in
theorem text14 (w : World) : Calls Tryz.prog 117 #[.int .i64 14] w fun e w' => e = .returned (.string (str rt14)) ∧ w = w' := by
  go_enter Tryz.func117, Tryz.ntmps117
  go_wp2
  go_ret
  exact ⟨rs (by kernel_rfl), rfl⟩

set_option maxHeartbeats 1000000 in
set_option maxRecDepth 100000 in
theorem text15 (w : World) : Calls Tryz.prog 117 #[.int .i64 15] w fun e w' => e = .returned (.string (str rt15)) ∧ w = w' := by
  go_enter Tryz.func117, Tryz.ntmps117
  go_wp2
  go_ret
  exact ⟨rs (by kernel_rfl), rfl⟩

set_option maxHeartbeats 1000000 in
set_option maxRecDepth 100000 in
theorem textNo (k : Int) (w : World) (h : k < 0 ∨ 16 ≤ k) : Calls Tryz.prog 117 #[.int .i64 k] w fun e w' => e = .returned (.string (str [])) ∧ w = w' := by
  have e0 : (k == 0) = false := by rw [beq_eq_false_iff_ne]; omega
  have e1 : (k == 1) = false := by rw [beq_eq_false_iff_ne]; omega
  have e2 : (k == 2) = false := by rw [beq_eq_false_iff_ne]; omega
  have e3 : (k == 3) = false := by rw [beq_eq_false_iff_ne]; omega
  have e4 : (k == 4) = false := by rw [beq_eq_false_iff_ne]; omega
  have e5 : (k == 5) = false := by rw [beq_eq_false_iff_ne]; omega
  have e6 : (k == 6) = false := by rw [beq_eq_false_iff_ne]; omega
  have e7 : (k == 7) = false := by rw [beq_eq_false_iff_ne]; omega
  have e8 : (k == 8) = false := by rw [beq_eq_false_iff_ne]; omega
  have e9 : (k == 9) = false := by rw [beq_eq_false_iff_ne]; omega
  have e10 : (k == 10) = false := by rw [beq_eq_false_iff_ne]; omega
  have e11 : (k == 11) = false := by rw [beq_eq_false_iff_ne]; omega
  have e12 : (k == 12) = false := by rw [beq_eq_false_iff_ne]; omega
  have e13 : (k == 13) = false := by rw [beq_eq_false_iff_ne]; omega
  have e14 : (k == 14) = false := by rw [beq_eq_false_iff_ne]; omega
  have e15 : (k == 15) = false := by rw [beq_eq_false_iff_ne]; omega
  clear h
  go_enter Tryz.func117, Tryz.ntmps117
  go_wp2
  go_ret
  exact ⟨rs (by kernel_rfl), rfl⟩
theorem rText (k : Int) (w : World) : Calls Tryz.prog 117 #[.int .i64 k] w fun e w' => e = .returned (.string (rtS k)) ∧ w = w' := by
  by_cases h : 0 ≤ k ∧ k < 16
  · have hk : k = 0 ∨ k = 1 ∨ k = 2 ∨ k = 3 ∨ k = 4 ∨ k = 5 ∨ k = 6 ∨ k = 7 ∨ k = 8 ∨ k = 9 ∨ k = 10 ∨ k = 11 ∨ k = 12 ∨ k = 13 ∨ k = 14 ∨ k = 15 := by omega
    rcases hk with rfl | rfl | rfl | rfl | rfl | rfl | rfl | rfl | rfl | rfl | rfl | rfl | rfl | rfl | rfl | rfl
    · exact text0 w
    · exact text1 w
    · exact text2 w
    · exact text3 w
    · exact text4 w
    · exact text5 w
    · exact text6 w
    · exact text7 w
    · exact text8 w
    · exact text9 w
    · exact text10 w
    · exact text11 w
    · exact text12 w
    · exact text13 w
    · exact text14 w
    · exact text15 w
  · have : rtS k = str [] := by unfold rtS; rw [if_neg h]
    rw [this]
    exact textNo k w (by omega)
end Go.Proofs.YteikagdinecfoaaGreatDoor.Rt
