/- filter.length of a start tag 'a' with one attribute, href at a slash: 12. -/
import Derived.Test.YtejpdbiiikcmmaaGreatDoorVk
set_option linter.unusedVariables false
set_option linter.unusedSimpArgs false
namespace Go.Proofs.YtejpdbiiikcmmaaGreatDoor.Vm
open Go.RowKit Lb Gr Pd Fl Fpl Kf Mp Go.Proofs.YtejpdbiiikcmmaaGreatDoor.Pm Bk Lc Ck Fi Cls Lw
attribute [local go_sem ↓] Go.wp_at_zero Go.wp_at_succ
theorem runes_a1 : runesN (str [97]) = 1 := by decide +kernel
theorem runes_href : runesN (str [104, 114, 101, 102]) = 4 := by decide +kernel
set_option maxHeartbeats 8000000 in
set_option maxRecDepth 100000 in
theorem length1C (x : Nat) (off cap : Nat) (w : World) (h0 : w.cell? ⟨x, off, none⟩ = some (.string (str [104, 114, 101, 102]))) (h1 : w.cell? ⟨x, off + 1, none⟩ = some (.string slT)) :
    Calls Tryz.prog 118 #[.agg #[.int .i64 1, .string (str [97]), .string ByteArray.empty, .slice (some ⟨x, off, none⟩) 1 cap, .bool false, .int .i64 0, .int .i64 0, .int .i64 0]] w fun e w' => e = .returned (.int .i64 12) ∧ Below w.heap.size w w' := by
  have hxl := World.block_lt_of_cell? (a := ⟨x, off, none⟩) _ h0
  obtain ⟨W0, hW0⟩ : ∃ W, W = w.alloc (.cells #[.int .i64 1, .string (str [97]), .string ByteArray.empty, .slice (some ⟨x, off, none⟩) 1 cap, .bool false, .int .i64 0, .int .i64 0, .int .i64 0] 39) := ⟨_, rfl⟩
  have hb0 : Below w.heap.size w W0 := hW0 ▸ (Below.refl _ _).alloc (Nat.le_refl _) _
  have k0 : Bl W0 w.heap.size 39 [.int .i64 1, .string (str [97]), .string ByteArray.empty, .slice (some ⟨x, off, none⟩) 1 cap, .bool false, .int .i64 0, .int .i64 0, .int .i64 0] := hW0 ▸ Bl.new w _ _ rfl
  have HX := Lib.hid hW0
  clear hW0
  have y1 := k0.cell 1 rfl
  have HA : Hid (∀ W, Calls Tryz.prog 182 #[.string (str [97])] W fun e w' => e = .returned (.int .i64 1) ∧ Below W.heap.size W w') := Lib.hid fun W => by
    have := runesC (str [97]) (by decide) W
    rw [runes_a1] at this; exact this
  have HH : Hid (∀ W, Calls Tryz.prog 182 #[.string (str [104, 114, 101, 102])] W fun e w' => e = .returned (.int .i64 4) ∧ Below W.heap.size W w') := Lib.hid fun W => by
    have := runesC (str [104, 114, 101, 102]) (by decide) W
    rw [runes_href] at this; exact this
  have HCX : Hid (∀ W, Below w.heap.size w W → W.cell? ⟨x, off, none⟩ = some (.string (str [104, 114, 101, 102])) ∧ W.cell? ⟨x, off + 1, none⟩ = some (.string slT)) := Lib.hid fun W hW => ⟨(World.cell?_of_block (a := ⟨x, off, none⟩) (hW.block x hxl)).trans h0, (World.cell?_of_block (a := ⟨x, off + 1, none⟩) (hW.block x hxl)).trans h1⟩
  generalize str [97] = an at *
  generalize str [104, 114, 101, 102] = hn at *
  clear h0 h1
  go_enter Tryz.func118, Tryz.ntmps118
  go_upto_region 1 with fail
  rw [← HX.out]
  go_upto_region 2 with (go_at_call 182; refine (HA.out _).mono ?_; rintro e w1 ⟨rfl, hb1⟩)
  have k1 := k0.below hb1
  have y3 := k1.cell 3 rfl
  have hq1 := hb0.trans (hb1.mono hb0.size)
  go_wp2
  go_loopw [3, 15] (fun n i wr => (wr = w1 ∧ i = .int .i64 0 ∧ n = .int .i64 3) ∨ (i = .int .i64 1 ∧ n = .int .i64 12 ∧ Below w.heap.size w wr)) (fun _ i _ => 1 - (intOf i).toNat)
  case atStart => exact .inl ⟨rfl, rfl, rfl⟩
  case round =>
    rcases hrel with ⟨rfl, rfl, rfl⟩ | ⟨rfl, rfl, hbw⟩
    · obtain ⟨w2, rfl⟩ : ∃ Y, Y = wr := ⟨_, rfl⟩
      obtain ⟨c0, c1⟩ := HCX.out _ hq1
      obtain ⟨W3, hW3⟩ : ∃ W, W = w2.alloc (.cells #[.string hn, .string slT] 48) := ⟨_, rfl⟩
      have hb3 : Below w2.heap.size w2 W3 := hW3 ▸ (Below.refl _ _).alloc (Nat.le_refl _) _
      have k3 : Bl W3 w2.heap.size 48 [.string hn, .string slT] := hW3 ▸ Bl.new w2 _ _ rfl
      have HX3 := Lib.hid hW3
      clear hW3
      have z0 := k3.cell 0 rfl
      have hq3 := hq1.trans (hb3.mono hq1.size)
      go_upto_region 5 with fail
      rw [← HX3.out]
      go_upto_region 6 with (go_at_call 182; refine (HH.out _).mono ?_; rintro e w4 ⟨rfl, hb4⟩)
      have k4 := k3.below hb4
      have z1 := k4.cell 1 rfl
      have hq4 := hq3.trans (hb4.mono hq3.size)
      go_wp2
      go_loopw [3] (fun n wr => (wr = w4.iter slT 0 ∧ n = .int .i64 11) ∨ (wr = w4.iter slT 1 ∧ n = .int .i64 12)) (fun _ wr => 1 - wr.iterPos w4.heap.size)
      case atStart => exact .inl ⟨rfl, rfl⟩
      case round =>
        rcases hrel with ⟨rfl, rfl⟩ | ⟨rfl, rfl⟩
        · have hnx : ∀ ty, (Instr.next (.pointer (some ⟨w4.heap.size, 0, none⟩)) true ty).run Tryz.prog (w4.iter slT 0) = .ok (.tuple #[.bool true, .int .i64 0, .int .i32 47]) (w4.iter slT 1) := fun ty => run_next_ascii (P := Tryz.prog) w4 slT 0 ty (by decide) (by decide)
          go_wp2
          go_roundw
          case rel => exact .inr ⟨by first | trivial | rfl, by first | rfl | trivial⟩
          case measure => simp
        · have hnx : ∀ ty, (Instr.next (.pointer (some ⟨w4.heap.size, 0, none⟩)) true ty).run Tryz.prog (w4.iter slT 1) = .ok (.tuple #[.bool false]) (w4.iter slT 1) := fun ty => run_next_end (P := Tryz.prog) w4 slT 1 ty (by decide)
          have hq5 := hq4.trans ((below_iter w4 slT 1).mono hq4.size)
          go_wp2
          go_roundw
          case rel => exact .inr ⟨rfl, rfl, hq5⟩
          case measure => decide
    · go_wp2
      go_ret
      exact ⟨rfl, hbw⟩
end Go.Proofs.YtejpdbiiikcmmaaGreatDoor.Vm
