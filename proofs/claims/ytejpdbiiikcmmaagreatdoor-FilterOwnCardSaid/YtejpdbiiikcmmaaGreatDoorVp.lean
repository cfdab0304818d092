/- Take of the tag of FilterOwn. -/
import Derived.Test.YtejpdbiiikcmmaaGreatDoorVo
set_option linter.unusedVariables false
set_option linter.unusedSimpArgs false
namespace Go.Proofs.YtejpdbiiikcmmaaGreatDoor.Vo
open Go.RowKit Lb Gr Pd Fl Fpl Kf Mp Is Go.Proofs.YtejpdbiiikcmmaaGreatDoor.Pm Bk Lc Ck Ea Tk Fi Lv Vm
attribute [local go_sem ↓] Go.wp_at_zero Go.wp_at_succ
set_option maxHeartbeats 8000000 in
set_option maxRecDepth 100000 in
theorem takeAny (g base : Nat) (p : PolD) (X : ByteArray) (nm : ByteArray) (Av : Option Addr) (n c : Nat) (w : World) (em gm dm : Nat) (sv : Value) (E : List (ElD × Nat)) (hD : FilD w g base em gm dm sv E p X 0) (HCH : ∀ W, Below w.heap.size w W → Calls Tryz.prog 41 #[.agg #[.int .i64 1, .string nm, .string ByteArray.empty, .slice Av n c, .bool false, .int .i64 0, .int .i64 0, .int .i64 0]] W fun e w' => e = .returned (.int .i64 0) ∧ Below W.heap.size W w') (R : Ending → World → World → Prop)
    (hst : ∀ W, Below w.heap.size w W → FilD W g base em gm dm sv E p X 0 → Calls Tryz.prog 58 #[.pointer (some ⟨g, 0, none⟩), .agg #[.int .i64 1, .string nm, .string ByteArray.empty, .slice Av n c, .bool false, .int .i64 0, .int .i64 0, .int .i64 0]] W fun e w' => ∃ a b, e = .returned (.tuple #[a, b]) ∧ Fr [g] W w' ∧ R (.returned (.tuple #[a, b, .int .i64 0])) W w') :
    Calls Tryz.prog 25 #[.pointer (some ⟨g, 0, none⟩), .agg #[.int .i64 1, .string nm, .string ByteArray.empty, .slice Av n c, .bool false, .int .i64 0, .int .i64 0, .int .i64 0]] w fun e w' => ∃ W, Below w.heap.size w W ∧ R e W w' := by
  have HC := Lib.hid HCH
  have HS : Hid (∀ W, Below w.heap.size w W → FilD W g base em gm dm sv E p X 0 → Calls Tryz.prog 58 #[.pointer (some ⟨g, 0, none⟩), .agg #[.int .i64 1, .string nm, .string ByteArray.empty, .slice Av n c, .bool false, .int .i64 0, .int .i64 0, .int .i64 0]] W fun e w' => ∃ a b, e = .returned (.tuple #[a, b]) ∧ Fr [g] W w' ∧ R (.returned (.tuple #[a, b, .int .i64 0])) W w') := Lib.hid fun W h1 h2 => hst W h1 h2
  clear hst HCH
  obtain ⟨W0, hW0⟩ : ∃ W, W = w.alloc (.cells #[.int .i64 1, .string nm, .string ByteArray.empty, .slice Av n c, .bool false, .int .i64 0, .int .i64 0, .int .i64 0] 39) := ⟨_, rfl⟩
  have hb0 : Below w.heap.size w W0 := hW0 ▸ (Below.refl _ _).alloc (Nat.le_refl _) _
  have k0 : Bl W0 w.heap.size 39 [.int .i64 1, .string nm, .string ByteArray.empty, .slice Av n c, .bool false, .int .i64 0, .int .i64 0, .int .i64 0] := hW0 ▸ Bl.new w _ _ rfl
  have d0 := hD.below hb0
  have HX := Lib.hid hW0
  clear hW0
  have y0 := k0.cell 0 rfl
  have y1 := k0.cell 1 rfl
  have y2 := k0.cell 2 rfl
  have y3 := k0.cell 3 rfl
  have y4 := k0.cell 4 rfl
  have y5 := k0.cell 5 rfl
  have y6 := k0.cell 6 rfl
  have y7 := k0.cell 7 rfl
  have x8 := d0.blk.cell 8 rfl
  have hmf : ∀ (fn : Fn) (first cap : Array Value) (w : World), (Instr.makeFunc fn first cap).run Tryz.prog w = .ok (.func fn first cap) w := fun _ _ _ _ => rfl
  go_enter Tryz.func25, Tryz.ntmps25
  go_upto_region 1 with fail
  rw [← HX.out]
  go_upto_region 6 with (go_at_call 41; refine (HC.out _ hb0).mono ?_; rintro e w1 ⟨rfl, hb1⟩; have d1 := d0.below hb1; have k1 := k0.below hb1; have hc1 := hb0.trans (hb1.mono hb0.size))
  have x7 := d1.blk.cell 7 rfl
  go_upto_region 15 with fail
  obtain ⟨W2, hW2⟩ : ∃ X, X = w1.alloc (.cells #[.func (.func 57) #[.pointer (some ⟨g, 0, none⟩)] #[], .func (.func 58) #[.pointer (some ⟨g, 0, none⟩)] #[], .func (.func 59) #[.pointer (some ⟨g, 0, none⟩)] #[], .func (.func 60) #[.pointer (some ⟨g, 0, none⟩)] #[], .func (.func 61) #[.pointer (some ⟨g, 0, none⟩)] #[]] 104) := ⟨_, rfl⟩
  have hb2 : Below w1.heap.size w1 W2 := hW2 ▸ (Below.refl _ _).alloc (Nat.le_refl _) _
  have kA : Bl W2 w1.heap.size 104 [.func (.func 57) #[.pointer (some ⟨g, 0, none⟩)] #[], .func (.func 58) #[.pointer (some ⟨g, 0, none⟩)] #[], .func (.func 59) #[.pointer (some ⟨g, 0, none⟩)] #[], .func (.func 60) #[.pointer (some ⟨g, 0, none⟩)] #[], .func (.func 61) #[.pointer (some ⟨g, 0, none⟩)] #[]] := hW2 ▸ Bl.new w1 _ _ rfl
  have HX2 := Lib.hid hW2
  clear hW2
  rw [← HX2.out]
  have d2 := (d1.below hb2).below (drw W2 1)
  have k2 := (k1.below hb2).below (drw W2 1)
  have kB := kA.below (drw W2 1)
  have hc2 : Below w.heap.size w W2.drew := (hc1.trans (hb2.mono hc1.size)).trans ((drw W2 1).mono (Nat.le_trans hc1.size hb2.size))
  have hgl := hD.blk.lt
  have hz1 := hc1.size
  have a0 := k2.cell 0 rfl
  have a1 := k2.cell 1 rfl
  have a2 := k2.cell 2 rfl
  have a3 := k2.cell 3 rfl
  have a4 := k2.cell 4 rfl
  have a5 := k2.cell 5 rfl
  have a6 := k2.cell 6 rfl
  have a7 := k2.cell 7 rfl
  have b1 := kB.cell 1 rfl
  go_region_held3 (fun W' => W'.cell? ⟨w1.heap.size, 1, none⟩ = some (.func (.func 58) #[.pointer (some ⟨g, 0, none⟩)] #[]) ∧ W'.cell? ⟨w.heap.size, 0, none⟩ = some (.int .i64 1) ∧ W'.cell? ⟨w.heap.size, 1, none⟩ = some (.string nm) ∧ W'.cell? ⟨w.heap.size, 2, none⟩ = some (.string ByteArray.empty) ∧ W'.cell? ⟨w.heap.size, 3, none⟩ = some (.slice Av n c) ∧ W'.cell? ⟨w.heap.size, 4, none⟩ = some (.bool false) ∧ W'.cell? ⟨w.heap.size, 5, none⟩ = some (.int .i64 0) ∧ W'.cell? ⟨w.heap.size, 6, none⟩ = some (.int .i64 0) ∧ W'.cell? ⟨w.heap.size, 7, none⟩ = some (.int .i64 0))
    (first | exact ⟨b1, a0, a1, a2, a3, a4, a5, a6, a7⟩ | exact ⟨s8, s0, s1, s2, s3, s4, s5, s6, s7⟩)
    (first | (go_at_call 58; refine (HS.out _ hc2 d2).mono ?_; rintro e w4 ⟨oa, ob, rfl, hf4, hR⟩; have k4 := k2.of (hf4.block _ k2.lt (by simp; omega)); have kC := kB.of (hf4.block _ kB.lt (by simp; omega)); have s8 := kC.cell 1 rfl; have s0 := k4.cell 0 rfl; have s1 := k4.cell 1 rfl; have s2 := k4.cell 2 rfl; have s3 := k4.cell 3 rfl; have s4 := k4.cell 4 rfl; have s5 := k4.cell 5 rfl; have s6 := k4.cell 6 rfl; have s7 := k4.cell 7 rfl))
  all_goals (
    go_wp2
    go_ret3
    exact ⟨_, hc2, hR⟩)

end Go.Proofs.YtejpdbiiikcmmaaGreatDoor.Vo
