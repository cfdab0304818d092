/- Take of the tag of FilterOwn: it may be or not, by its second value. -/
import Derived.Test.YtejpdbiiikcmmaaGreatDoorVp
set_option linter.unusedVariables false
set_option linter.unusedSimpArgs false
namespace Go.Proofs.YtejpdbiiikcmmaaGreatDoor.Vo
open Go.RowKit Lb Gr Pd Fl Fpl Kf Mp Is Go.Proofs.YtejpdbiiikcmmaaGreatDoor.Pm Bk Lc Ck Ea Tk Fi Lv Vm
attribute [local go_sem ↓] Go.wp_at_zero Go.wp_at_succ
def ownT (nm : ByteArray) : TokD := ⟨1, aT, ByteArray.empty, [⟨hrefT, slT⟩, ⟨idT, nm⟩], false, 0, 0, 0⟩
theorem checkOwn (nm : ByteArray) (hs : nm.size ≤ maxLen) (bA : Nat) (w : World) (h0 : w.cell? ⟨bA, 0, none⟩ = some (.string hrefT)) (h1 : w.cell? ⟨bA, 1, none⟩ = some (.string slT)) (h2 : w.cell? ⟨bA, 2, none⟩ = some (.string idT)) (h3 : w.cell? ⟨bA, 3, none⟩ = some (.string nm)) :
    Calls Tryz.prog 41 #[.agg #[.int .i64 1, .string aT, .string ByteArray.empty, .slice (some ⟨bA, 0, none⟩) 2 2, .bool false, .int .i64 0, .int .i64 0, .int .i64 0]] w fun e w' => e = .returned (.int .i64 (mayI (ownT nm))) ∧ Below w.heap.size w w' := by
  have hbl := World.block_lt_of_cell? (a := ⟨bA, 0, none⟩) _ h0
  refine checkStart (ownT nm) (.slice (some ⟨bA, 0, none⟩) 2 2) w ⟨some ⟨bA, 0, none⟩, 2, rfl, Nat.le_refl _, by decide, fun _ => ⟨bA, 0, rfl, Nat.zero_le _, hbl, fun j u hu => ?_⟩⟩ ⟨by show 1 ≤ maxLen; decide, by show 0 ≤ maxLen; decide, by show 2 ≤ 9223372036854775807; decide, fun a ha => ?_⟩ rfl
  · rw [Nat.zero_add]
    match j, hu with
    | 0, hu => injection hu with hu; rw [← hu]; exact h0
    | 1, hu => injection hu with hu; rw [← hu]; exact h1
    | 2, hu => injection hu with hu; rw [← hu]; exact h2
    | 3, hu => injection hu with hu; rw [← hu]; exact h3
  · simp only [ownT, List.mem_cons, List.not_mem_nil, or_false] at ha
    rcases ha with rfl | rfl
    · exact ⟨by decide, by decide⟩
    · exact ⟨by show 2 ≤ maxLen; decide, hs⟩
set_option maxHeartbeats 8000000 in
set_option maxRecDepth 100000 in
theorem takeBad (g base : Nat) (p : PolD) (X : ByteArray) (nm : ByteArray) (Av : Option Addr) (n c : Nat) (w : World) (em gm dm : Nat) (sv : Value) (E : List (ElD × Nat)) (hD : FilD w g base em gm dm sv E p X 0) (HCH : ∀ W, Below w.heap.size w W → Calls Tryz.prog 41 #[.agg #[.int .i64 1, .string nm, .string ByteArray.empty, .slice Av n c, .bool false, .int .i64 0, .int .i64 0, .int .i64 0]] W fun e w' => e = .returned (.int .i64 70) ∧ Below W.heap.size W w') :
    Calls Tryz.prog 25 #[.pointer (some ⟨g, 0, none⟩), .agg #[.int .i64 1, .string nm, .string ByteArray.empty, .slice Av n c, .bool false, .int .i64 0, .int .i64 0, .int .i64 0]] w fun e w' => e = .returned (.tuple #[.slice none 0 0, .slice none 0 0, .int .i64 70]) ∧ Below w.heap.size w w' := by
  have HC := Lib.hid HCH
  clear HCH
  obtain ⟨W0, hW0⟩ : ∃ W, W = w.alloc (.cells #[.int .i64 1, .string nm, .string ByteArray.empty, .slice Av n c, .bool false, .int .i64 0, .int .i64 0, .int .i64 0] 39) := ⟨_, rfl⟩
  have hb0 : Below w.heap.size w W0 := hW0 ▸ (Below.refl _ _).alloc (Nat.le_refl _) _
  have k0 : Bl W0 w.heap.size 39 [.int .i64 1, .string nm, .string ByteArray.empty, .slice Av n c, .bool false, .int .i64 0, .int .i64 0, .int .i64 0] := hW0 ▸ Bl.new w _ _ rfl
  have d0 := hD.below hb0
  have HX := Lib.hid hW0
  clear hW0
  have y0 := k0.cell 0 rfl
  have y1 := k0.cell 1 rfl
  have y2 := k0.cell 2 rfl
  have y3 := k0.cell 3 rfl
  have y4 := k0.cell 4 rfl
  have y5 := k0.cell 5 rfl
  have y6 := k0.cell 6 rfl
  have y7 := k0.cell 7 rfl
  have x8 := d0.blk.cell 8 rfl
  go_enter Tryz.func25, Tryz.ntmps25
  go_upto_region 1 with fail
  rw [← HX.out]
  go_wp2_with (go_at_call 41; refine (HC.out _ hb0).mono ?_; rintro e w1 ⟨rfl, hb1⟩)
  go_ret3
  exact ⟨rfl, hb0.trans (hb1.mono hb0.size)⟩
theorem takeOwn (g base : Nat) (nm : ByteArray) (bA : Nat) (w : World) (em gm dm : Nat) (sv : Value) (E : List (ElD × Nat)) (hD : FilD w g base em gm dm sv E polP ByteArray.empty 0)
    (hb : bA < w.heap.size) (h0 : w.cell? ⟨bA, 0, none⟩ = some (.string hrefT)) (h1 : w.cell? ⟨bA, 1, none⟩ = some (.string slT)) (h2 : w.cell? ⟨bA, 2, none⟩ = some (.string idT)) (h3 : w.cell? ⟨bA, 3, none⟩ = some (.string nm))
    (HCH : ∀ W, Below w.heap.size w W → Calls Tryz.prog 41 #[.agg #[.int .i64 1, .string aT, .string ByteArray.empty, .slice (some ⟨bA, 0, none⟩) 2 2, .bool false, .int .i64 0, .int .i64 0, .int .i64 0]] W fun e w' => e = .returned (.int .i64 0) ∧ Below W.heap.size W w') :
    Calls Tryz.prog 25 #[.pointer (some ⟨g, 0, none⟩), .agg #[.int .i64 1, .string aT, .string ByteArray.empty, .slice (some ⟨bA, 0, none⟩) 2 2, .bool false, .int .i64 0, .int .i64 0, .int .i64 0]] w fun e w' => ∃ u f x off c, e = .returned (.tuple #[u, f, .int .i64 0]) ∧ w'.ownsRow w.heap.size 39 8 u 1 [.int .i64 1, .string aT, .string ByteArray.empty, .slice (some ⟨x, off, none⟩) 1 c, .bool false, .int .i64 0, .int .i64 0, .int .i64 0] ∧ w'.cell? ⟨x, off, none⟩ = some (.string hrefT) ∧ w.heap.size ≤ x ∧ FilD w' g base em gm dm sv E polP ByteArray.empty 0 ∧ Below w.heap.size w w' := by
  have h := takeAny g base polP ByteArray.empty aT (some ⟨bA, 0, none⟩) 2 2 w em gm dm sv E hD HCH (fun e V w' => ∃ u f x off c, e = .returned (.tuple #[u, f, .int .i64 0]) ∧ w'.ownsRow w.heap.size 39 8 u 1 [.int .i64 1, .string aT, .string ByteArray.empty, .slice (some ⟨x, off, none⟩) 1 c, .bool false, .int .i64 0, .int .i64 0, .int .i64 0] ∧ w'.cell? ⟨x, off, none⟩ = some (.string hrefT) ∧ w.heap.size ≤ x ∧ FilD w' g base em gm dm sv E polP ByteArray.empty 0 ∧ Below w.heap.size w w') (fun V hV hDV => by
    have hh : ∀ o, V.cell? ⟨bA, o, none⟩ = w.cell? ⟨bA, o, none⟩ := fun o => World.cell?_of_block (a := ⟨bA, o, none⟩) (hV.block bA hb)
    refine (startOwn g base nm bA V em gm dm sv E hDV ((hh 0).trans h0) ((hh 1).trans h1) ((hh 2).trans h2) ((hh 3).trans h3)).mono ?_
    rintro e w' ⟨u, f, x, off, c, rfl, r1, r2, r3, r4, r5⟩
    exact ⟨u, f, rfl, Fr.of_below r5, u, f, x, off, c, rfl, own_low r1 hV.size, r2, Nat.le_trans hV.size r3, r4, hV.trans (r5.mono hV.size)⟩)
  refine h.mono ?_
  rintro e w' ⟨V, _, h9⟩
  exact h9
end Go.Proofs.YtejpdbiiikcmmaaGreatDoor.Vo
