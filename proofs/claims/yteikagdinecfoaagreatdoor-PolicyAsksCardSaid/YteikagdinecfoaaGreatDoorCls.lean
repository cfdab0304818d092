/- The classes of runes and bytes: what each small function of package names and of its reference returns. No condition but that the rune is an int32, the byte a byte. -/
import Derived.Test.YteikagdinecfoaaGreatDoorProg
import Derived.WalkKit
import Derived.Lib.Hide
import Derived.WalkSpells
import Derived.WalkLawsBesides
namespace Go.Proofs.YteikagdinecfoaaGreatDoor.Cls
open Go.RowKit

def up (r : Int) : Bool := decide (65 ≤ r) && decide (r ≤ 90)
def lo (r : Int) : Bool := decide (97 ≤ r) && decide (r ≤ 122)
def dg (r : Int) : Bool := decide (48 ≤ r) && decide (r ≤ 57)
def bl (r : Int) : Bool := r == 9 || r == 10 || r == 12 || r == 32
def vl (r : Int) : Int := if dg r then r - 48 else if 97 ≤ r ∧ r ≤ 102 then r - 87 else if 65 ≤ r ∧ r ≤ 70 then r - 55 else -1
def lw (r : Int) : Int := if up r then r + 32 else r
theorem ri {k : IntKind} {a b : Int} (h : b = a) : Ending.returned (.int k a) = .returned (.int k b) := by rw [h]
theorem rb {a b : Bool} (h : b = a) : Ending.returned (.bool a) = .returned (.bool b) := by rw [h]
theorem up_t {r : Int} (h1 : 65 ≤ r) (h2 : r ≤ 90) : up r = true := by simp [up, h1, h2]
theorem dg_t {r : Int} (h1 : 48 ≤ r) (h2 : r ≤ 57) : dg r = true := by simp [dg, h1, h2]
theorem up_f {r : Int} (h1 : ¬ (65 ≤ r ∧ r ≤ 90)) : up r = false := by simp [up]; omega
theorem dg_f {r : Int} (h1 : ¬ (48 ≤ r ∧ r ≤ 57)) : dg r = false := by simp [dg]; omega

set_option maxHeartbeats 400000 in
theorem nUpper (r : Int) (w : World) : Calls Tryz.prog 252 #[.int .i32 r] w fun e w' => e = .returned (.bool (up r)) ∧ w = w' := by
  unfold up
  by_cases h1 : 65 ≤ r <;> by_cases h2 : r ≤ 90
  all_goals
    go_enter Tryz.func252, Tryz.ntmps252
    go_wp2
    go_ret
    simp [h1, h2]

set_option maxHeartbeats 400000 in
theorem nDigit (r : Int) (w : World) : Calls Tryz.prog 200 #[.int .i32 r] w fun e w' => e = .returned (.bool (dg r)) ∧ w = w' := by
  unfold dg
  by_cases h1 : 48 ≤ r <;> by_cases h2 : r ≤ 57
  all_goals
    go_enter Tryz.func200, Tryz.ntmps200
    go_wp2
    go_ret
    simp [h1, h2]

set_option maxHeartbeats 400000 in
theorem nLetter (r : Int) (w : World) : Calls Tryz.prog 222 #[.int .i32 r] w fun e w' => e = .returned (.bool (up r || lo r)) ∧ w = w' := by
  have hu : up r = true ∨ up r = false := by cases up r <;> simp
  unfold lo
  rcases hu with hu | hu <;> by_cases h1 : 97 ≤ r <;> by_cases h2 : r ≤ 122
  all_goals
    go_enter Tryz.func222, Tryz.ntmps222
    go_wp2_with (go_at_call 252; refine (nUpper _ _).mono ?_; rintro e w' ⟨rfl, rfl⟩)
    all_goals (go_ret; simp [hu, h1, h2])

set_option maxHeartbeats 400000 in
theorem rUpper (r : Int) (w : World) : Calls Tryz.prog 120 #[.int .i32 r] w fun e w' => e = .returned (.bool (up r)) ∧ w = w' := by
  unfold up
  by_cases h1 : 65 ≤ r <;> by_cases h2 : r ≤ 90
  all_goals
    go_enter Tryz.func120, Tryz.ntmps120
    go_wp2
    go_ret
    simp [h1, h2]

set_option maxHeartbeats 400000 in
theorem rDigit (r : Int) (w : World) : Calls Tryz.prog 171 #[.int .i32 r] w fun e w' => e = .returned (.bool (dg r)) ∧ w = w' := by
  unfold dg
  by_cases h1 : 48 ≤ r <;> by_cases h2 : r ≤ 57
  all_goals
    go_enter Tryz.func171, Tryz.ntmps171
    go_wp2
    go_ret
    simp [h1, h2]

set_option maxHeartbeats 400000 in
theorem rLetter (r : Int) (w : World) : Calls Tryz.prog 170 #[.int .i32 r] w fun e w' => e = .returned (.bool (up r || lo r)) ∧ w = w' := by
  have hu : up r = true ∨ up r = false := by cases up r <;> simp
  unfold lo
  rcases hu with hu | hu <;> by_cases h1 : 97 ≤ r <;> by_cases h2 : r ≤ 122
  all_goals
    go_enter Tryz.func170, Tryz.ntmps170
    go_wp2_with (go_at_call 120; refine (rUpper _ _).mono ?_; rintro e w' ⟨rfl, rfl⟩)
    all_goals (go_ret; simp [hu, h1, h2])

end Go.Proofs.YteikagdinecfoaaGreatDoor.Cls
