/- The classes of runes and bytes: what each small function of package names and of its reference returns. No condition but that the rune is an int32, the byte a byte. -/
import Derived.Test.YtknpppppjmhomaaDoorProg
import Derived.WalkKit
import Derived.Lib.Hide
import Derived.WalkSpells
import Derived.WalkLawsBesides
namespace Go.Proofs.YtknpppppjmhomaaDoor.Cls
open Go.RowKit

def up (r : Int) : Bool := decide (65 ≤ r) && decide (r ≤ 90)
def lo (r : Int) : Bool := decide (97 ≤ r) && decide (r ≤ 122)
def dg (r : Int) : Bool := decide (48 ≤ r) && decide (r ≤ 57)
def bl (r : Int) : Bool := r == 9 || r == 10 || r == 12 || r == 32
def vl (r : Int) : Int := if dg r then r - 48 else if 97 ≤ r ∧ r ≤ 102 then r - 87 else if 65 ≤ r ∧ r ≤ 70 then r - 55 else -1
def lw (r : Int) : Int := if up r then r + 32 else r
theorem ri {k : IntKind} {a b : Int} (h : b = a) : Ending.returned (.int k a) = .returned (.int k b) := by rw [h]
theorem rb {a b : Bool} (h : b = a) : Ending.returned (.bool a) = .returned (.bool b) := by rw [h]
theorem up_t {r : Int} (h1 : 65 ≤ r) (h2 : r ≤ 90) : up r = true := by simp [up, h1, h2]
theorem dg_t {r : Int} (h1 : 48 ≤ r) (h2 : r ≤ 57) : dg r = true := by simp [dg, h1, h2]
theorem up_f {r : Int} (h1 : ¬ (65 ≤ r ∧ r ≤ 90)) : up r = false := by simp [up]; omega
theorem dg_f {r : Int} (h1 : ¬ (48 ≤ r ∧ r ≤ 57)) : dg r = false := by simp [dg]; omega

set_option maxHeartbeats 400000 in
theorem nUpper (r : Int) (w : World) : Calls Tryd.prog 28 #[.int .i32 r] w fun e w' => e = .returned (.bool (up r)) ∧ w = w' := by
  unfold up
  by_cases h1 : 65 ≤ r <;> by_cases h2 : r ≤ 90
  all_goals
    go_enter Tryd.func28, Tryd.ntmps28
    go_wp2
    go_ret
    simp [h1, h2]

set_option maxHeartbeats 400000 in
theorem nDigit (r : Int) (w : World) : Calls Tryd.prog 30 #[.int .i32 r] w fun e w' => e = .returned (.bool (dg r)) ∧ w = w' := by
  unfold dg
  by_cases h1 : 48 ≤ r <;> by_cases h2 : r ≤ 57
  all_goals
    go_enter Tryd.func30, Tryd.ntmps30
    go_wp2
    go_ret
    simp [h1, h2]

set_option maxHeartbeats 400000 in
theorem nLetter (r : Int) (w : World) : Calls Tryd.prog 26 #[.int .i32 r] w fun e w' => e = .returned (.bool (up r || lo r)) ∧ w = w' := by
  have hu : up r = true ∨ up r = false := by cases up r <;> simp
  unfold lo
  rcases hu with hu | hu <;> by_cases h1 : 97 ≤ r <;> by_cases h2 : r ≤ 122
  all_goals
    go_enter Tryd.func26, Tryd.ntmps26
    go_wp2_with (go_at_call 28; refine (nUpper _ _).mono ?_; rintro e w' ⟨rfl, rfl⟩)
    all_goals (go_ret; simp [hu, h1, h2])

set_option maxHeartbeats 400000 in
theorem nBlank (r : Int) (w : World) : Calls Tryd.prog 34 #[.int .i32 r] w fun e w' => e = .returned (.bool (bl r)) ∧ w = w' := by
  unfold bl
  by_cases h1 : r = 9
  · subst h1
    go_enter Tryd.func34, Tryd.ntmps34
    go_wp2
    go_ret
    simp
  by_cases h2 : r = 10
  · subst h2
    go_enter Tryd.func34, Tryd.ntmps34
    go_wp2
    go_ret
    simp
  by_cases h3 : r = 12
  · subst h3
    go_enter Tryd.func34, Tryd.ntmps34
    go_wp2
    go_ret
    simp
  by_cases h4 : r = 32
  · subst h4
    go_enter Tryd.func34, Tryd.ntmps34
    go_wp2
    go_ret
    simp
  · have e1 : (r == 9) = false := by simpa using h1
    have e2 : (r == 10) = false := by simpa using h2
    have e3 : (r == 12) = false := by simpa using h3
    have e4 : (r == 32) = false := by simpa using h4
    go_enter Tryd.func34, Tryd.ntmps34
    go_wp2
    go_ret
    simp [e1, e2, e3, e4]

set_option maxHeartbeats 400000 in
theorem nValue (r : Int) (w : World) (h0 : -2147483648 ≤ r) (h9 : r ≤ 2147483647) : Calls Tryd.prog 36 #[.int .i32 r] w fun e w' => e = .returned (.int .i64 (vl r)) ∧ w = w' := by
  by_cases hd : 48 ≤ r ∧ r ≤ 57
  · have hv : vl r = r - 48 := by simp [vl, dg_t hd.1 hd.2]
    have hd' : dg r = true := dg_t hd.1 hd.2
    have HV := Lib.hid hv; clear hv
    obtain ⟨d1, d2⟩ := hd
    go_enter Tryd.func36, Tryd.ntmps36
    go_wp2_with (go_at_call 30; refine (nDigit _ _).mono ?_; rintro e w' ⟨rfl, rfl⟩)
    go_ret
    exact ⟨ri HV.out, rfl⟩
  have hd' : dg r = false := dg_f hd
  by_cases ha : 97 ≤ r ∧ r ≤ 102
  · have hv : vl r = r - 87 := by simp [vl, hd', ha]
    have HV := Lib.hid hv; clear hv
    obtain ⟨d1, d2⟩ := ha
    go_enter Tryd.func36, Tryd.ntmps36
    go_wp2_with (go_at_call 30; refine (nDigit _ _).mono ?_; rintro e w' ⟨rfl, rfl⟩)
    go_ret
    exact ⟨ri (by rw [HV.out]; omega), rfl⟩
  by_cases hb : 65 ≤ r ∧ r ≤ 70
  · have hv : vl r = r - 55 := by simp [vl, hd', hb]; omega
    have HV := Lib.hid hv; clear hv
    obtain ⟨d1, d2⟩ := hb
    have d3 : ¬ 97 ≤ r := by omega
    clear ha
    go_enter Tryd.func36, Tryd.ntmps36
    go_wp2_with (go_at_call 30; refine (nDigit _ _).mono ?_; rintro e w' ⟨rfl, rfl⟩)
    go_ret
    exact ⟨ri (by rw [HV.out]; omega), rfl⟩
  · have hv : vl r = -1 := by simp [vl, hd', ha, hb]
    have HV := Lib.hid hv; clear hv
    by_cases d1 : 97 ≤ r <;> by_cases d2 : r ≤ 102 <;> by_cases d3 : 65 ≤ r <;> by_cases d4 : r ≤ 70 <;> try (exfalso; omega)
    all_goals
      clear ha hb hd
      go_enter Tryd.func36, Tryd.ntmps36
      go_wp2_with (go_at_call 30; refine (nDigit _ _).mono ?_; rintro e w' ⟨rfl, rfl⟩)
      go_ret
      exact ⟨ri HV.out, rfl⟩

set_option maxHeartbeats 400000 in
theorem nHex (r : Int) (w : World) (h0 : -2147483648 ≤ r) (h9 : r ≤ 2147483647) : Calls Tryd.prog 32 #[.int .i32 r] w fun e w' => e = .returned (.bool (decide (0 ≤ vl r))) ∧ w = w' := by
  have h : 0 ≤ vl r ∨ ¬ 0 ≤ vl r := Decidable.em _
  rcases h with h | h
  all_goals
    go_enter Tryd.func32, Tryd.ntmps32
    go_wp2_with (go_at_call 36; refine (nValue _ _ h0 h9).mono ?_; rintro e w' ⟨rfl, rfl⟩)
    go_ret
    simp [h]

set_option maxHeartbeats 400000 in
theorem nLowerRune (r : Int) (w : World) : Calls Tryd.prog 38 #[.int .i32 r] w fun e w' => e = .returned (.int .i32 (lw r)) ∧ w = w' := by
  by_cases hd : 65 ≤ r ∧ r ≤ 90
  · have hu : up r = true := up_t hd.1 hd.2
    have hv : lw r = r + 32 := by simp [lw, hu]
    have HV := Lib.hid hv; clear hv
    obtain ⟨d1, d2⟩ := hd
    go_enter Tryd.func38, Tryd.ntmps38
    go_wp2_with (go_at_call 28; refine (nUpper _ _).mono ?_; rintro e w' ⟨rfl, rfl⟩)
    go_ret
    exact ⟨ri (by rw [HV.out]; omega), rfl⟩
  · have hu : up r = false := up_f hd
    have hv : lw r = r := by simp [lw, hu]
    have HV := Lib.hid hv; clear hv
    go_enter Tryd.func38, Tryd.ntmps38
    go_wp2_with (go_at_call 28; refine (nUpper _ _).mono ?_; rintro e w' ⟨rfl, rfl⟩)
    go_ret
    exact ⟨ri HV.out, rfl⟩

set_option maxHeartbeats 400000 in
theorem rUpper (r : Int) (w : World) : Calls Tryd.prog 29 #[.int .i32 r] w fun e w' => e = .returned (.bool (up r)) ∧ w = w' := by
  unfold up
  by_cases h1 : 65 ≤ r <;> by_cases h2 : r ≤ 90
  all_goals
    go_enter Tryd.func29, Tryd.ntmps29
    go_wp2
    go_ret
    simp [h1, h2]

set_option maxHeartbeats 400000 in
theorem rDigit (r : Int) (w : World) : Calls Tryd.prog 31 #[.int .i32 r] w fun e w' => e = .returned (.bool (dg r)) ∧ w = w' := by
  unfold dg
  by_cases h1 : 48 ≤ r <;> by_cases h2 : r ≤ 57
  all_goals
    go_enter Tryd.func31, Tryd.ntmps31
    go_wp2
    go_ret
    simp [h1, h2]

set_option maxHeartbeats 400000 in
theorem rLetter (r : Int) (w : World) : Calls Tryd.prog 27 #[.int .i32 r] w fun e w' => e = .returned (.bool (up r || lo r)) ∧ w = w' := by
  have hu : up r = true ∨ up r = false := by cases up r <;> simp
  unfold lo
  rcases hu with hu | hu <;> by_cases h1 : 97 ≤ r <;> by_cases h2 : r ≤ 122
  all_goals
    go_enter Tryd.func27, Tryd.ntmps27
    go_wp2_with (go_at_call 29; refine (rUpper _ _).mono ?_; rintro e w' ⟨rfl, rfl⟩)
    all_goals (go_ret; simp [hu, h1, h2])

set_option maxHeartbeats 400000 in
theorem rBlank (r : Int) (w : World) : Calls Tryd.prog 35 #[.int .i32 r] w fun e w' => e = .returned (.bool (bl r)) ∧ w = w' := by
  unfold bl
  by_cases h1 : r = 9
  · subst h1
    go_enter Tryd.func35, Tryd.ntmps35
    go_wp2
    go_ret
    simp
  by_cases h2 : r = 10
  · subst h2
    go_enter Tryd.func35, Tryd.ntmps35
    go_wp2
    go_ret
    simp
  by_cases h3 : r = 12
  · subst h3
    go_enter Tryd.func35, Tryd.ntmps35
    go_wp2
    go_ret
    simp
  by_cases h4 : r = 32
  · subst h4
    go_enter Tryd.func35, Tryd.ntmps35
    go_wp2
    go_ret
    simp
  · have e1 : (r == 9) = false := by simpa using h1
    have e2 : (r == 10) = false := by simpa using h2
    have e3 : (r == 12) = false := by simpa using h3
    have e4 : (r == 32) = false := by simpa using h4
    go_enter Tryd.func35, Tryd.ntmps35
    go_wp2
    go_ret
    simp [e1, e2, e3, e4]

set_option maxHeartbeats 400000 in
theorem rValue (r : Int) (w : World) (h0 : -2147483648 ≤ r) (h9 : r ≤ 2147483647) : Calls Tryd.prog 37 #[.int .i32 r] w fun e w' => e = .returned (.int .i64 (vl r)) ∧ w = w' := by
  by_cases hd : 48 ≤ r ∧ r ≤ 57
  · have hv : vl r = r - 48 := by simp [vl, dg_t hd.1 hd.2]
    have hd' : dg r = true := dg_t hd.1 hd.2
    have HV := Lib.hid hv; clear hv
    obtain ⟨d1, d2⟩ := hd
    go_enter Tryd.func37, Tryd.ntmps37
    go_wp2_with (go_at_call 31; refine (rDigit _ _).mono ?_; rintro e w' ⟨rfl, rfl⟩)
    go_ret
    exact ⟨ri HV.out, rfl⟩
  have hd' : dg r = false := dg_f hd
  by_cases ha : 97 ≤ r ∧ r ≤ 102
  · have hv : vl r = r - 87 := by simp [vl, hd', ha]
    have HV := Lib.hid hv; clear hv
    obtain ⟨d1, d2⟩ := ha
    go_enter Tryd.func37, Tryd.ntmps37
    go_wp2_with (go_at_call 31; refine (rDigit _ _).mono ?_; rintro e w' ⟨rfl, rfl⟩)
    go_ret
    exact ⟨ri (by rw [HV.out]; omega), rfl⟩
  by_cases hb : 65 ≤ r ∧ r ≤ 70
  · have hv : vl r = r - 55 := by simp [vl, hd', hb]; omega
    have HV := Lib.hid hv; clear hv
    obtain ⟨d1, d2⟩ := hb
    have d3 : ¬ 97 ≤ r := by omega
    clear ha
    go_enter Tryd.func37, Tryd.ntmps37
    go_wp2_with (go_at_call 31; refine (rDigit _ _).mono ?_; rintro e w' ⟨rfl, rfl⟩)
    go_ret
    exact ⟨ri (by rw [HV.out]; omega), rfl⟩
  · have hv : vl r = -1 := by simp [vl, hd', ha, hb]
    have HV := Lib.hid hv; clear hv
    by_cases d1 : 97 ≤ r <;> by_cases d2 : r ≤ 102 <;> by_cases d3 : 65 ≤ r <;> by_cases d4 : r ≤ 70 <;> try (exfalso; omega)
    all_goals
      clear ha hb hd
      go_enter Tryd.func37, Tryd.ntmps37
      go_wp2_with (go_at_call 31; refine (rDigit _ _).mono ?_; rintro e w' ⟨rfl, rfl⟩)
      go_ret
      exact ⟨ri HV.out, rfl⟩

set_option maxHeartbeats 400000 in
theorem rHex (r : Int) (w : World) (h0 : -2147483648 ≤ r) (h9 : r ≤ 2147483647) : Calls Tryd.prog 33 #[.int .i32 r] w fun e w' => e = .returned (.bool (decide (0 ≤ vl r))) ∧ w = w' := by
  have h : 0 ≤ vl r ∨ ¬ 0 ≤ vl r := Decidable.em _
  rcases h with h | h
  all_goals
    go_enter Tryd.func33, Tryd.ntmps33
    go_wp2_with (go_at_call 37; refine (rValue _ _ h0 h9).mono ?_; rintro e w' ⟨rfl, rfl⟩)
    go_ret
    simp [h]

set_option maxHeartbeats 400000 in
theorem rLowerRune (r : Int) (w : World) : Calls Tryd.prog 39 #[.int .i32 r] w fun e w' => e = .returned (.int .i32 (lw r)) ∧ w = w' := by
  by_cases hd : 65 ≤ r ∧ r ≤ 90
  · have hu : up r = true := up_t hd.1 hd.2
    have hv : lw r = r + 32 := by simp [lw, hu]
    have HV := Lib.hid hv; clear hv
    obtain ⟨d1, d2⟩ := hd
    go_enter Tryd.func39, Tryd.ntmps39
    go_wp2_with (go_at_call 29; refine (rUpper _ _).mono ?_; rintro e w' ⟨rfl, rfl⟩)
    go_ret
    exact ⟨ri (by rw [HV.out]; omega), rfl⟩
  · have hu : up r = false := up_f hd
    have hv : lw r = r := by simp [lw, hu]
    have HV := Lib.hid hv; clear hv
    go_enter Tryd.func39, Tryd.ntmps39
    go_wp2_with (go_at_call 29; refine (rUpper _ _).mono ?_; rintro e w' ⟨rfl, rfl⟩)
    go_ret
    exact ⟨ri HV.out, rfl⟩

set_option maxHeartbeats 400000 in
theorem nBlankByte (c : Int) (w : World) (h0 : 0 ≤ c) (h9 : c ≤ 255) : Calls Tryd.prog 61 #[.int .u8 c] w fun e w' => e = .returned (.bool (bl c)) ∧ w = w' := by
  go_enter Tryd.func61, Tryd.ntmps61
  go_wp2_with (go_at_call 34; refine (nBlank _ _).mono ?_; rintro e w' ⟨rfl, rfl⟩)
  go_ret
  exact ⟨rfl, rfl⟩

set_option maxHeartbeats 400000 in
theorem rBlankByte (c : Int) (w : World) (h0 : 0 ≤ c) (h9 : c ≤ 255) : Calls Tryd.prog 63 #[.int .u8 c] w fun e w' => e = .returned (.bool (bl c)) ∧ w = w' := by
  go_enter Tryd.func63, Tryd.ntmps63
  go_wp2_with (go_at_call 35; refine (rBlank _ _).mono ?_; rintro e w' ⟨rfl, rfl⟩)
  go_ret
  exact ⟨rfl, rfl⟩

end Go.Proofs.YtknpppppjmhomaaDoor.Cls
