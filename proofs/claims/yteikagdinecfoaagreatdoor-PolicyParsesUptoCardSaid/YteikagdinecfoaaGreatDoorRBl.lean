/- Blanks: the reference's. -/
import Derived.Test.YteikagdinecfoaaGreatDoorProg
import Derived.WalkKit
import Derived.Lib.Hide
import Derived.WalkSpells
import Derived.WalkLawsBesides
import Derived.Test.YteikagdinecfoaaGreatDoorLib
set_option linter.unusedVariables false
set_option linter.unusedSimpArgs false
namespace Go.Proofs.YteikagdinecfoaaGreatDoor.Rb
open Go.RowKit Lb
def bl (r : Int) : Bool := r == 9 || r == 10 || r == 12 || r == 32
set_option maxHeartbeats 400000 in
theorem rBlank (r : Int) (w : World) : Calls Tryz.prog 196 #[.int .i32 r] w fun e w' => e = .returned (.bool (bl r)) ∧ w = w' := by
  unfold bl
  by_cases h1 : r = 9
  · subst h1
    go_enter Tryz.func196, Tryz.ntmps196
    go_wp2
    go_ret
    simp
  by_cases h2 : r = 10
  · subst h2
    go_enter Tryz.func196, Tryz.ntmps196
    go_wp2
    go_ret
    simp
  by_cases h3 : r = 12
  · subst h3
    go_enter Tryz.func196, Tryz.ntmps196
    go_wp2
    go_ret
    simp
  by_cases h4 : r = 32
  · subst h4
    go_enter Tryz.func196, Tryz.ntmps196
    go_wp2
    go_ret
    simp
  · have e1 : (r == 9) = false := by simpa using h1
    have e2 : (r == 10) = false := by simpa using h2
    have e3 : (r == 12) = false := by simpa using h3
    have e4 : (r == 32) = false := by simpa using h4
    go_enter Tryz.func196, Tryz.ntmps196
    go_wp2
    go_ret
    simp [e1, e2, e3, e4]

set_option maxHeartbeats 400000 in
theorem rBlankByte (c : Int) (w : World) (h0 : 0 ≤ c) (h9 : c ≤ 255) : Calls Tryz.prog 150 #[.int .u8 c] w fun e w' => e = .returned (.bool (bl c)) ∧ w = w' := by
  go_enter Tryz.func150, Tryz.ntmps150
  go_wp2_with (go_at_call 196; refine (rBlank _ _).mono ?_; rintro e w' ⟨rfl, rfl⟩)
  go_ret
  exact ⟨rfl, rfl⟩

theorem bl_blB (c : UInt8) : bl (c.toNat : Int) = blB c := rfl
theorem rBlank8 (c : UInt8) (w : World) : Calls Tryz.prog 150 #[.int .u8 (c.toNat : Int)] w fun e w' => e = .returned (.bool (blB c)) ∧ w = w' := by
  have h := c.toNat_lt
  exact rBlankByte _ w (by omega) (by omega)

end Go.Proofs.YteikagdinecfoaaGreatDoor.Rb
