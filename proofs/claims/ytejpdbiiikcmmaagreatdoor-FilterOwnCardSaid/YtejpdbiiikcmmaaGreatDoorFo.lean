/- Package filter: start, of a tag that is allowed and has no attributes. -/
import Derived.Test.YtejpdbiiikcmmaaGreatDoorFs
import Derived.Deep.RegionHeld3
set_option linter.unusedVariables false
set_option linter.unusedSimpArgs false
namespace Go.Proofs.YtejpdbiiikcmmaaGreatDoor.Fi
open Go.RowKit Lb Gr Pd Fl Fpl Kf Mp Is Go.Proofs.YtejpdbiiikcmmaaGreatDoor.Pm Bk Lc Ck Ea
attribute [local go_sem ↓] Go.wp_at_zero Go.wp_at_succ
theorem infoTok2 : (Tryz.prog.info? 39).map (fun i => (i.zero, i.size, i.bytes)) = some (some (.agg #[.int .i64 0, .string ByteArray.empty, .string ByteArray.empty, .slice none 0 0, .bool false, .int .i64 0, .int .i64 0, .int .i64 0]), 8, 96) := by kernel_rfl
set_option maxHeartbeats 8000000 in
set_option maxRecDepth 100000 in
theorem startIn (g base : Nat) (p : PolD) (X : ByteArray) (N : Int) (nm : ByteArray) (p1 p2 p3 : Int) (w : World) (em gm dm : Nat) (sv : Value) (E : List (ElD × Nat)) (hD : FilD w g base em gm dm sv E p X N) (e : ElD) (hno : fndE p.els nm = some e) (hsz : nm.size ≤ 1000) (hlen : ((2 + runesN nm : Nat) : Int) ≤ p.window) :
    Calls Tryz.prog 58 #[.pointer (some ⟨g, 0, none⟩), tokV (bareT 1 nm p1 p2 p3) (.slice none 0 0)] w fun e w' => ∃ u, e = .returned (.tuple #[u, .slice none 0 0]) ∧ w'.ownsRow w.heap.size 39 8 u 1 (encT (bareT 1 nm p1 p2 p3) (.slice none 0 0)) ∧ FilD w' g base em gm dm sv E p X N ∧ Below w.heap.size w w' := by
  obtain ⟨B, hl0⟩ : ∃ B, lookL nm (E.map fun x => (x.1.name, Value.map (some x.2))) = some (.map (some B)) := by
    rcases look_fnd nm E with h | ⟨x, hx, h1, h2⟩
    · rw [hD.eq, hno] at h; cases h.2
    · exact ⟨_, h1⟩
  have HL0 := Lib.hid hl0
  have HLEN : Hid (∀ W, Calls Tryz.prog 118 #[.agg #[.int .i64 1, .string nm, .string ByteArray.empty, .slice none 0 0, .bool false, .int .i64 p1, .int .i64 p2, .int .i64 p3]] W fun e w' => e = .returned (.int .i64 (2 + runesN nm : Nat)) ∧ Below W.heap.size W w') := Lib.hid fun W => length0C nm hsz p1 p2 p3 W
  obtain ⟨i1, hi1, hz1, hz2, hz3⟩ := info_parts infoTok2
  clear hl0 hno
  generalize (2 + runesN nm : Nat) = M at *
  unfold tokV bareT
  simp only
  obtain ⟨W0, hW0⟩ : ∃ W, W = w.alloc (.cells #[.int .i64 1, .string nm, .string ByteArray.empty, .slice none 0 0, .bool false, .int .i64 p1, .int .i64 p2, .int .i64 p3] 39) := ⟨_, rfl⟩
  have hb0 : Below w.heap.size w W0 := hW0 ▸ (Below.refl _ _).alloc (Nat.le_refl _) _
  have k0 : Bl W0 w.heap.size 39 [.int .i64 1, .string nm, .string ByteArray.empty, .slice none 0 0, .bool false, .int .i64 p1, .int .i64 p2, .int .i64 p3] := hW0 ▸ Bl.new w _ _ rfl
  have d0 := hD.below hb0
  have HX := Lib.hid hW0
  clear hW0
  have y1 := k0.cell 1 rfl
  have x0 := d0.blk.cell 0 rfl
  have hlk : ∀ n, (Instr.lookup 72 (.map (some em)) (.string nm) true).run Tryz.prog (W0.drewN n) = .ok (.tuple #[.map (some B), .bool true]) (W0.drewN n) := fun n => by
    have h2 := run_look (P := Tryz.prog) (w := W0.drewN n) Tryz.underlying72 Tryz.underlying9 (d0.below (drw W0 n)).emm nm (z := .map none) (Tryz.zeroValue73 _) true
    rw [HL0.out] at h2
    exact h2
  have hlk0 := hlk 0
  go_enter Tryz.func58, Tryz.ntmps58
  go_upto_region 1 with fail
  rw [← HX.out]
  go_quiet (fail)
  go_upto_region 8 with fail
  obtain ⟨W1, hW1⟩ : ∃ X, X = W0.drewN nq := ⟨_, rfl⟩
  rw [← hW1]
  have hb01 : Below W0.heap.size W0 W1 := hW1 ▸ drw W0 nq
  clear hW1 hlk hlk0
  have dd := d0.below hb01
  have kd1 := k0.below hb01
  have hcc : Below w.heap.size w W1 := hb0.trans (hb01.mono hb0.size)
  have r1 := kd1.cell 1 rfl
  have r3 := kd1.cell 3 rfl
  have r5 := kd1.cell 5 rfl
  have r6 := kd1.cell 6 rfl
  have r7 := kd1.cell 7 rfl
  clear y1 x0
  obtain ⟨W2, hW2⟩ : ∃ X, X = W1.alloc (.cells #[.int .i64 1, .string nm, .string ByteArray.empty, .slice none 0 0, .bool false, .int .i64 p1, .int .i64 p2, .int .i64 p3] 39) := ⟨_, rfl⟩
  have hb2 : Below W1.heap.size W1 W2 := hW2 ▸ (Below.refl _ _).alloc (Nat.le_refl _) _
  have k2 : Bl W2 W1.heap.size 39 [.int .i64 1, .string nm, .string ByteArray.empty, .slice none 0 0, .bool false, .int .i64 p1, .int .i64 p2, .int .i64 p3] := hW2 ▸ Bl.new W1 _ _ rfl
  have HX2 := Lib.hid hW2
  clear hW2
  have d2 := dd.below hb2
  have kd2 := kd1.below hb2
  have hc2 := hcc.trans (hb2.mono hcc.size)
  go_upto_region 9 with fail
  rw [show (ByteArray.mk #[]) = ByteArray.empty from rfl]
  rw [← HX2.out]
  have t3 := kd2.cell 3 rfl
  go_wp2
  go_loopw [5, 81] (fun f i wr => wr = W2 ∧ i = .int .i64 0 ∧ f = .slice none 0 0) (fun _ _ _ => 0)
  case atStart => exact ⟨rfl, rfl, rfl⟩
  case round =>
    obtain ⟨rfl, rfl, rfl⟩ := hrel
    go_upto_region 22 with fail
    have hd2 := d2.below (drw wr 1)
    have kk2 := k2.below (drw wr 1)
    have a0 := kk2.cell 0 rfl
    have a1 := kk2.cell 1 rfl
    have a2 := kk2.cell 2 rfl
    have a3 := kk2.cell 3 rfl
    have a4 := kk2.cell 4 rfl
    have a5 := kk2.cell 5 rfl
    have a6 := kk2.cell 6 rfl
    have a7 := kk2.cell 7 rfl
    have b5 := hd2.blk.cell 5 rfl
    have hcd := hc2.trans ((drw wr 1).mono hc2.size)
    go_region_held3 (fun W' => W'.cell? ⟨g, 5, none⟩ = some (.int .i64 p.window) ∧ W'.cell? ⟨W1.heap.size, 0, none⟩ = some (.int .i64 1) ∧ W'.cell? ⟨W1.heap.size, 1, none⟩ = some (.string nm) ∧ W'.cell? ⟨W1.heap.size, 2, none⟩ = some (.string ByteArray.empty) ∧ W'.cell? ⟨W1.heap.size, 3, none⟩ = some (.slice none 0 0) ∧ W'.cell? ⟨W1.heap.size, 4, none⟩ = some (.bool false) ∧ W'.cell? ⟨W1.heap.size, 5, none⟩ = some (.int .i64 p1) ∧ W'.cell? ⟨W1.heap.size, 6, none⟩ = some (.int .i64 p2) ∧ W'.cell? ⟨W1.heap.size, 7, none⟩ = some (.int .i64 p3))
      (first | exact ⟨b5, a0, a1, a2, a3, a4, a5, a6, a7⟩ | exact ⟨s5, s0, s1, s2, s3, s4, s51, s6, s7⟩)
      (first | (go_at_call 118; refine (HLEN.out _).mono ?_; rintro e w4 ⟨rfl, hb4⟩; have d4 := hd2.below hb4; have k4 := kk2.below hb4; have s5 := d4.blk.cell 5 rfl; have s0 := k4.cell 0 rfl; have s1 := k4.cell 1 rfl; have s2 := k4.cell 2 rfl; have s3 := k4.cell 3 rfl; have s4 := k4.cell 4 rfl; have s51 := k4.cell 5 rfl; have s6 := k4.cell 6 rfl; have s7 := k4.cell 7 rfl; have hc4 := hcd.trans (hb4.mono hcd.size)))
    all_goals (
      go_wp2_with (at_builtin; refine wpList_append_src _ rfl (.tmp 169) (.tmp 171) 28 rfl w4.heap.size 39 i1 _ 8 96 Tryz.underlying28 hi1 hz1 hz2 hz3 rfl (by decide) _ 0 [] rfl (World.ownsRow_nil _ _ _ _) (some ⟨w4.heap.size, 0, none⟩) 1 1 [.int .i64 1, .string nm, .string ByteArray.empty, .slice none 0 0, .bool false, .int .i64 p1, .int .i64 p2, .int .i64 p3] rfl rfl (news_src w4 _ _) (by simp [Value.oneCell']) (by decide) (by decide) (by simp) ?_; intro v9 w9 hown9 hgrow9 hrow9; obtain ⟨A9, c9, rfl, hcl9⟩ := own_slice hown9)
      go_ret2
      have hgn : (w4.alloc (.cells #[.int .i64 1, .string nm, .string ByteArray.empty, .slice none 0 0, .bool false, .int .i64 p1, .int .i64 p2, .int .i64 p3] 39)).grownBy w9 none := hgrow9
      have hb49 : Below w4.heap.size w4 w9 := (((Below.refl _ _).alloc (Nat.le_refl _) _).trans ((Fr.of_grown hgn).below (by simp) (by simp)))
      exact ⟨_, rfl, own_low hown9 hc4.size, d4.below hb49, hc4.trans (hb49.mono hc4.size)⟩)
end Go.Proofs.YtejpdbiiikcmmaaGreatDoor.Fi
