/- value.kinds; value.Tidy of a link rule at a slash. -/
import Derived.Test.YtejpdbiiikcmmaaGreatDoorVt
set_option linter.unusedVariables false
set_option linter.unusedSimpArgs false
namespace Go.Proofs.YtejpdbiiikcmmaaGreatDoor.Vm
open Go.RowKit Lb Gr Pd Fl Fpl Kf Mp Go.Proofs.YtejpdbiiikcmmaaGreatDoor.Pm Bk Lc Ck Fi Cls Lw
attribute [local go_sem ↓] Go.wp_at_zero Go.wp_at_succ
def kindsA : List Value := [.func (.func 220) #[] #[], .func (.func 221) #[] #[], .func (.func 222) #[] #[], .func (.func 223) #[] #[], .func (.func 224) #[] #[], .func (.func 225) #[] #[], .func (.func 226) #[] #[], .func (.func 227) #[] #[], .func (.func 228) #[] #[]]
set_option maxHeartbeats 4000000 in
set_option maxRecDepth 100000 in
theorem kindsC (w : World) : Calls Tryz.prog 181 #[] w fun e w' => e = .returned (.agg kindsA.toArray) ∧ Below w.heap.size w w' := by
  go_enter Tryz.func181, Tryz.ntmps181
  go_wp2
  have k : Bl (w.alloc (.cells kindsA.toArray 194)) w.heap.size 194 kindsA := Bl.new w _ _ rfl
  refine bodyPost_ret (res_cell rfl rfl k Tryz.underlying194 rfl (by kernel_rfl)) rfl ?_
  exact ⟨rfl, (Below.refl _ _).alloc (Nat.le_refl _) _⟩
set_option maxHeartbeats 8000000 in
set_option maxRecDepth 100000 in
theorem tidyS (A : Option Addr) (cp : Nat) (nm : ByteArray) (v : Value) (w : World) : Calls Tryz.prog 117 #[.agg #[.string nm, .int .i64 5, v], .slice A 0 cp, .bool true, .string slT] w fun e w' => e = .returned (.tuple #[.string slT, .bool true, .int .i64 0]) ∧ Below w.heap.size w w' := by
  have HK0 := (fun W => kindsC W)
  unfold kindsA at HK0
  have HK := Lib.hid HK0
  clear HK0
  have HC := Lib.hid (fun W => cleanS W)
  have HL := Lib.hid (fun W => linkS A cp (.string nm) (.int .i64 5) v W)
  obtain ⟨W0, hW0⟩ : ∃ W, W = w.alloc (.cells #[.string nm, .int .i64 5, v] 51) := ⟨_, rfl⟩
  have hb0 : Below w.heap.size w W0 := hW0 ▸ (Below.refl _ _).alloc (Nat.le_refl _) _
  have k0 : Bl W0 w.heap.size 51 [.string nm, .int .i64 5, v] := hW0 ▸ Bl.new w _ _ rfl
  have HX := Lib.hid hW0
  clear hW0
  go_enter Tryz.func117, Tryz.ntmps117
  go_upto_region 1 with fail
  rw [← HX.out]
  go_upto_region 2 with (go_at_call 181; refine (HK.out _).mono ?_; rintro e w1 ⟨rfl, hb1⟩)
  obtain ⟨W2, hW2⟩ : ∃ W, W = w1.alloc (.cells kindsA.toArray 194) := ⟨_, rfl⟩
  have hb2 : Below w1.heap.size w1 W2 := hW2 ▸ (Below.refl _ _).alloc (Nat.le_refl _) _
  have k2 : Bl W2 w1.heap.size 194 kindsA := hW2 ▸ Bl.new w1 _ _ rfl
  have hW3 : W2 = w1.alloc (.cells #[.func (.func 220) #[] #[], .func (.func 221) #[] #[], .func (.func 222) #[] #[], .func (.func 223) #[] #[], .func (.func 224) #[] #[], .func (.func 225) #[] #[], .func (.func 226) #[] #[], .func (.func 227) #[] #[], .func (.func 228) #[] #[]] 194) := hW2
  have HX2 := Lib.hid hW3
  clear hW2 hW3
  rw [← HX2.out]
  have d0 := (k0.below hb1).below hb2
  have hc2 : Below w.heap.size w W2 := (hb0.trans (hb1.mono hb0.size)).trans (hb2.mono (Nat.le_trans hb0.size hb1.size))
  have y1 := d0.cell 1 rfl
  go_upto_region 4 with fail
  have e0 := (d0.below (drw W2 1)).cell 0 rfl
  have e1 := (d0.below (drw W2 1)).cell 1 rfl
  have e2 := (d0.below (drw W2 1)).cell 2 rfl
  have e5 := (k2.below (drw W2 1)).cell 5 rfl
  have hc3 := hc2.trans ((drw W2 1).mono hc2.size)
  have kd0 := d0.below (drw W2 1)
  have kd2 := k2.below (drw W2 1)
  go_region_held3 (fun W' => W'.cell? ⟨w.heap.size, 0, none⟩ = some (.string nm) ∧ W'.cell? ⟨w.heap.size, 1, none⟩ = some (.int .i64 5) ∧ W'.cell? ⟨w.heap.size, 2, none⟩ = some v ∧ W'.cell? ⟨w1.heap.size, 5, none⟩ = some (.func (.func 225) #[] #[]))
    (first | exact ⟨e0, e1, e2, e5⟩ | exact ⟨s0, s1, s2, s5⟩ | exact ⟨t0, t1, t2, t5⟩)
    (first
      | (go_at_call 225; refine (HL.out _).mono ?_; rintro e w5 ⟨rfl, hb5⟩; have m0 := l0.below hb5; have m2 := l2.below hb5; have t0 := m0.cell 0 rfl; have t1 := m0.cell 1 rfl; have t2 := m0.cell 2 rfl; have t5 := m2.cell 5 rfl; have hc5 := hc4.trans (hb5.mono hc4.size))
      | (go_at_call 115; refine (HC.out _).mono ?_; rintro e w4 ⟨rfl, hb4⟩; have l0 := kd0.below hb4; have l2 := kd2.below hb4; have s0 := l0.cell 0 rfl; have s1 := l0.cell 1 rfl; have s2 := l0.cell 2 rfl; have s5 := l2.cell 5 rfl; have hc4 := hc3.trans (hb4.mono hc3.size)))
  all_goals (
    go_wp2
    go_ret3
    exact ⟨rfl, hc5⟩)
end Go.Proofs.YtejpdbiiikcmmaaGreatDoor.Vm
