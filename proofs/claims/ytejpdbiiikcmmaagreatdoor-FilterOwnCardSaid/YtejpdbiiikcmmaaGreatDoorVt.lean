/- value.Tidy of a link rule at a slash, where no schemes are allowed and links without one are. -/
import Derived.Test.YtejpdbiiikcmmaaGreatDoorVn
import Derived.Test.YtejpdbiiikcmmaaGreatDoorLk
import Derived.Laws.EntriesVeiled
import Derived.Deep.RegionHeld3
import Derived.WalkMore
import Derived.Test.YtejpdbiiikcmmaaGreatDoorUb
set_option linter.unusedVariables false
set_option linter.unusedSimpArgs false
namespace Go.Proofs.YtejpdbiiikcmmaaGreatDoor.Vm
open Go.RowKit Lb Gr Pd Fl Fpl Kf Mp Go.Proofs.YtejpdbiiikcmmaaGreatDoor.Pm Bk Lc Ck Fi Cls Lw
attribute [local go_sem ↓] Go.wp_at_zero Go.wp_at_succ
set_option maxHeartbeats 4000000 in
set_option maxRecDepth 100000 in
theorem letter47 (w : World) : Calls Tryz.prog 266 #[.int .i32 47] w fun e w' => e = .returned (.bool false) ∧ w = w' := by
  go_enter Tryz.func266, Tryz.ntmps266
  go_wp2
  go_ret
  exact ⟨rfl, rfl⟩
set_option maxHeartbeats 4000000 in
set_option maxRecDepth 100000 in
theorem schemeS (w : World) : Calls Tryz.prog 327 #[.string slT] w fun e w' => e = .returned (.tuple #[.int .i64 0, .bool false]) ∧ w = w' := by
  have hsz : slT.size = 1 := rfl
  have hp : 0 < slT.size := by decide
  have hne := toList_ne hp
  have hnb := isEmpty_ne hp
  have h0 : (((slT[0]'(by decide)).toNat : Nat) : Int) = 47 := by decide
  have HL := Lib.hid (fun W => letter47 W)
  go_enter Tryz.func327, Tryz.ntmps327
  go_wp2
  go_step3
  go_wp2_with (go_at_call 266; refine (HL.out _).mono ?_; rintro e w1 ⟨rfl, rfl⟩)
  rw [Exit.noGoto_ret]
  go_ret2
  exact ⟨rfl, rfl⟩

set_option maxHeartbeats 4000000 in
set_option maxRecDepth 100000 in
theorem SchemeS (w : World) : Calls Tryz.prog 312 #[.string slT] w fun e w' => e = .returned (.tuple #[.string ByteArray.empty, .bool false]) ∧ Below w.heap.size w w' := by
  have HS := Lib.hid (fun W => stripS W)
  have HC := Lib.hid (fun W => schemeS W)
  have HL : Hid (∀ W, Calls Tryz.prog 166 #[.string ByteArray.empty] W fun e w' => e = .returned (.string ByteArray.empty) ∧ Below W.heap.size W w') := Lib.hid fun W => nLower ByteArray.empty W (by decide)
  have hx : slT.extract 0 0 = ByteArray.empty := rfl
  have hsz : slT.size = 1 := rfl
  go_enter Tryz.func312, Tryz.ntmps312
  go_wp2_with (first
    | (go_at_call 279; refine (HS.out _).mono ?_; rintro e w1 ⟨rfl, hb1⟩)
    | (go_at_call 327; refine (HC.out _).mono ?_; rintro e w2 ⟨rfl, rfl⟩)
    | (go_at_call 166; refine (HL.out _).mono ?_; rintro e w3 ⟨rfl, hb3⟩))
  go_ret2
  exact ⟨rfl, hb1.trans (hb3.mono hb1.size)⟩
set_option maxHeartbeats 4000000 in
set_option maxRecDepth 100000 in
theorem allowedS (A : Option Addr) (cp : Nat) (w : World) : Calls Tryz.prog 278 #[.string slT, .slice A 0 cp, .bool true] w fun e w' => e = .returned (.tuple #[.bool true, .int .i64 0]) ∧ Below w.heap.size w w' := by
  have HS := Lib.hid (fun W => SchemeS W)
  go_enter Tryz.func278, Tryz.ntmps278
  go_wp2
  go_loopw [16] (fun i wr => wr = w ∧ i = .int .i64 0) (fun _ _ => 0)
  case atStart => exact ⟨rfl, rfl⟩
  case round =>
    obtain ⟨rfl, rfl⟩ := hrel
    go_wp2_with (go_at_call 312; refine (HS.out _).mono ?_; rintro e w1 ⟨rfl, hb1⟩)
    go_ret2
    exact ⟨rfl, hb1.alloc hb1.size _⟩
set_option maxHeartbeats 4000000 in
set_option maxRecDepth 100000 in
theorem linkS (A : Option Addr) (cp : Nat) (a b c : Value) (w : World) : Calls Tryz.prog 225 #[.agg #[a, b, c, .slice A 0 cp, .bool true], .string slT] w fun e w' => e = .returned (.tuple #[.string slT, .bool true]) ∧ Below w.heap.size w w' := by
  have HA := Lib.hid (fun W => allowedS A cp W)
  have HS := Lib.hid (fun W => stripS W)
  have hb0 : Below w.heap.size w (w.alloc (.cells #[a, b, c, .slice A 0 cp, .bool true] 198)) := (Below.refl _ _).alloc (Nat.le_refl _) _
  go_enter Tryz.func225, Tryz.ntmps225
  go_upto_region 1 with fail
  obtain ⟨W0, hW0⟩ : ∃ W, W = w.alloc (.cells #[a, b, c, .slice A 0 cp, .bool true] 198) := ⟨_, rfl⟩
  have k0 : Bl W0 w.heap.size 198 [a, b, c, .slice A 0 cp, .bool true] := hW0 ▸ Bl.new w _ _ rfl
  rw [← hW0] at hb0 ⊢
  clear hW0
  have y3 := k0.cell 3 rfl
  have y4 := k0.cell 4 rfl
  go_wp2_with (first
    | (go_at_call 278; refine (HA.out _).mono ?_; rintro e w1 ⟨rfl, hb1⟩)
    | (go_at_call 279; refine (HS.out _).mono ?_; rintro e w2 ⟨rfl, hb2⟩))
  go_ret2
  have hq := hb0.trans (hb1.mono hb0.size)
  exact ⟨rfl, hq.trans (hb2.mono hq.size)⟩
end Go.Proofs.YtejpdbiiikcmmaaGreatDoor.Vm
