/- The walk of FilterNone: filters that no call made. -/
import Derived.Test.YtejpdbiiikcmmaaGreatDoorLi
set_option linter.unusedVariables false
set_option linter.unusedSimpArgs false
namespace Go.Proofs.YtejpdbiiikcmmaaGreatDoor.filterNone
open Go.RowKit Lb Is Gr Bk Go.Proofs.YtejpdbiiikcmmaaGreatDoor.Lk Go.Proofs.YtejpdbiiikcmmaaGreatDoor.Lv Fi
attribute [local go_sem ↓] Go.wp_at_zero Go.wp_at_succ
set_option maxHeartbeats 4000000 in
set_option maxRecDepth 100000 in
theorem walk (w : World) (ht : Tab w ∧ NevT w) (c0 c1 c2 c3 c4 c5 c6 c7 : Value) : Calls Tryz.prog 8 #[.agg #[c0, c1, c2, c3, c4, c5, c6, c7]] w fun e w' => e = .returned (.bool true) ∧ Below w.heap.size w w' := by
  have HL := Lib.hid (fun W (h : Below w.heap.size w W) => livesC W (ht.1.below h) (ht.2.below h))
  clear ht
  obtain ⟨W0, hW0⟩ : ∃ W, W = w.alloc (.cells #[c0, c1, c2, c3, c4, c5, c6, c7] 39) := ⟨_, rfl⟩
  have hb0 : Below w.heap.size w W0 := hW0 ▸ (Below.refl _ _).alloc (Nat.le_refl _) _
  have k0 : Bl W0 w.heap.size 39 [c0, c1, c2, c3, c4, c5, c6, c7] := hW0 ▸ Bl.new w _ _ rfl
  have HX := Lib.hid hW0
  clear hW0
  obtain ⟨W1, hW1⟩ : ∃ W, W = W0.alloc (.cells #[.map none, .map none, .map none, .slice none 0 0, .bool false, .int .i64 0, .string ⟨#[]⟩, .int .i64 0, .bool false] 76) := ⟨_, rfl⟩
  have hb1 : Below W0.heap.size W0 W1 := hW1 ▸ (Below.refl _ _).alloc (Nat.le_refl _) _
  have kz : Bl W1 W0.heap.size 76 [.map none, .map none, .map none, .slice none 0 0, .bool false, .int .i64 0, .string ⟨#[]⟩, .int .i64 0, .bool false] := hW1 ▸ Bl.new W0 _ _ rfl
  have HX1 := Lib.hid hW1
  clear hW1
  have k1 := k0.below hb1
  have y0 := k1.cell 0 rfl
  have y1 := k1.cell 1 rfl
  have y2 := k1.cell 2 rfl
  have y3 := k1.cell 3 rfl
  have y4 := k1.cell 4 rfl
  have y5 := k1.cell 5 rfl
  have y6 := k1.cell 6 rfl
  have y7 := k1.cell 7 rfl
  have hq1 := hb0.trans (hb1.mono hb0.size)
  go_enter Tryz.func8, Tryz.ntmps8
  go_upto_region 2 with fail
  rw [← HX.out]
  go_upto_region 3 with fail
  rw [← HX1.out]
  go_upto_region 4 with (go_at_call 25; refine (takeNil c0 c1 c2 c3 c4 c5 c6 c7 _).mono ?_; rintro e w2 ⟨rfl, hb2⟩)
  have k2 := k1.below hb2
  have kz2 := kz.below hb2
  have z0 := k2.cell 0 rfl
  have z1 := k2.cell 1 rfl
  have z2 := k2.cell 2 rfl
  have z3 := k2.cell 3 rfl
  have z4 := k2.cell 4 rfl
  have z5 := k2.cell 5 rfl
  have z6 := k2.cell 6 rfl
  have z7 := k2.cell 7 rfl
  have hq2 := hq1.trans (hb2.mono hq1.size)
  go_upto_region 5 with (go_at_call 25; refine (takeZero _ c0 c1 c2 c3 c4 c5 c6 c7 _ (kz2.cell 8 rfl)).mono ?_; rintro e w3 ⟨rfl, hb3⟩)
  have kz3 := kz2.below hb3
  have hq3 := hq2.trans (hb3.mono hq2.size)
  go_upto_region 6 with (go_at_call 27; refine (dropNil _).mono ?_; rintro e w4 ⟨rfl, rfl⟩)
  go_upto_region 7 with (go_at_call 27; refine (dropZero _ _ (kz3.cell 8 rfl)).mono ?_; rintro e w4 ⟨rfl, rfl⟩)
  have he : (ByteArray.empty.toList == []) = true := by decide +kernel
  have he2 : ByteArray.empty.toList.isEmpty = true := isEmpty_nil rfl
  go_wp2_with (go_at_call 13; refine (HL.out _ hq3).mono ?_; rintro e w5 ⟨rfl, hb5⟩)
  go_ret
  exact ⟨rfl, hq3.trans (hb5.mono hq3.size)⟩
end Go.Proofs.YtejpdbiiikcmmaaGreatDoor.filterNone
