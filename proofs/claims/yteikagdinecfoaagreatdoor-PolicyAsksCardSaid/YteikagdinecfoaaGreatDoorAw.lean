/- The law's awake: the document's example. -/
import Derived.Test.YteikagdinecfoaaGreatDoorPb
import Derived.Test.YteikagdinecfoaaGreatDoorPp
set_option linter.unusedVariables false
set_option linter.unusedSimpArgs false
namespace Go.Proofs.YteikagdinecfoaaGreatDoor.Aw
open Go.RowKit Lb Gr Pd Fl Go.Proofs.YteikagdinecfoaaGreatDoor.Pm Bk Is Sl Go.Proofs.YteikagdinecfoaaGreatDoor.Ck Go.Proofs.YteikagdinecfoaaGreatDoor.Lk Go.Proofs.YteikagdinecfoaaGreatDoor.Or Go.Proofs.YteikagdinecfoaaGreatDoor.Ty Go.Proofs.YteikagdinecfoaaGreatDoor.Vd Go.Proofs.YteikagdinecfoaaGreatDoor.Pl Go.Proofs.YteikagdinecfoaaGreatDoor.Pp Go.Proofs.YteikagdinecfoaaGreatDoor.Pb
attribute [local go_sem ↓] Go.wp_at_zero Go.wp_at_succ

def exampleL : List UInt8 := [100, 101, 112, 116, 104, 32, 51, 50, 10, 119, 105, 110, 100, 111, 119, 32, 52, 48, 57, 54, 10, 101, 108, 101, 109, 101, 110, 116, 32, 98, 10, 101, 108, 101, 109, 101, 110, 116, 32, 98, 114, 10, 101, 108, 101, 109, 101, 110, 116, 32, 99, 111, 100, 101, 10, 101, 108, 101, 109, 101, 110, 116, 32, 101, 109, 10, 101, 108, 101, 109, 101, 110, 116, 32, 105, 10, 101, 108, 101, 109, 101, 110, 116, 32, 112, 10, 101, 108, 101, 109, 101, 110, 116, 32, 115, 116, 114, 111, 110, 103, 10]
theorem print_basic : printL basicP = exampleL := by decide +kernel
theorem basic_prok : PrOk basicP := by
  refine ⟨fun i h => by simp [basicP] at h, fun i h j hj => by rw [basic_rules i h] at hj; simp at hj, by decide, by decide, by rw [print_basic]; decide, ⟨by rw [basic_len]; decide, by decide, by decide, by decide⟩, fun i h => by rw [basic_rules i h]; decide⟩
theorem printQ_basic : printQ basicP = str exampleL := by
  unfold printQ
  rw [basic_check, if_pos rfl, tidy_basic, print_basic]
set_option maxHeartbeats 400000 in
theorem numC (e : Int) (w : World) : Calls Tryz.prog 16 #[.int .i64 e] w fun r w' => r = .returned (.int .i64 e) ∧ w = w' := by
  go_enter Tryz.func16, Tryz.ntmps16
  go_wp2
  go_ret
  exact ⟨rfl, rfl⟩
/-- what the library's and the program's tables lay -/
structure Laid (w : World) : Prop where
  tab : Tab w
  nev : NevT w
  pow : Pow w
theorem Laid.below {w w' : World} (h : Laid w) (hb : Below w.heap.size w w') : Laid w' := ⟨h.tab.below hb, h.nev.below hb, h.pow.below hb⟩

set_option maxHeartbeats 2000000 in
set_option maxRecDepth 100000 in
theorem awakeC (w : World) (hl : Laid w) : Calls Tryz.prog 17 #[] w fun e w' => e = .returned (.bool true) ∧ Below w.heap.size w w' := by
  have HP := Lib.hid (presetBasicC w hl.tab)
  have HPR : Hid (∀ W x, Below w.heap.size w W → RdP W 0 W.heap.size x basicP → Calls Tryz.prog 21 #[polV x basicP] W fun e w' => e = .returned (.tuple #[.string (str exampleL), .int .i64 0]) ∧ Below W.heap.size W w') :=
    Lib.hid fun W x hW h => by
      have h2 := PrintC x basicP W (hl.tab.below hW) (hl.nev.below hW) (hl.pow.below hW) h basic_size (fun _ => by rw [tidy_basic]; exact basic_prok)
      rw [printQ_basic, basic_check] at h2
      exact h2
  have HS : Hid ((str exampleL).toList = exampleL) := Lib.hid (by rw [Lib.toList_data]; rfl)
  obtain ⟨sv, hsv⟩ : ∃ sv, sv = str exampleL := ⟨_, rfl⟩
  have hq : (sv.toList == [100, 101, 112, 116, 104, 32, 51, 50, 10, 119, 105, 110, 100, 111, 119, 32, 52, 48, 57, 54, 10, 101, 108, 101, 109, 101, 110, 116, 32, 98, 10, 101, 108, 101, 109, 101, 110, 116, 32, 98, 114, 10, 101, 108, 101, 109, 101, 110, 116, 32, 99, 111, 100, 101, 10, 101, 108, 101, 109, 101, 110, 116, 32, 101, 109, 10, 101, 108, 101, 109, 101, 110, 116, 32, 105, 10, 101, 108, 101, 109, 101, 110, 116, 32, 112, 10, 101, 108, 101, 109, 101, 110, 116, 32, 115, 116, 114, 111, 110, 103, 10]) = true := by rw [hsv, HS.out]; exact beq_self_eq_true exampleL
  rw [← hsv] at HPR
  have hd : basicP.depth = 32 := rfl
  have hw : basicP.window = 4096 := rfl
  have hr : basicP.rel = false := rfl
  clear hsv hl HS
  unfold polV at HP HPR
  rw [hd, hw, hr] at HP HPR
  clear hd hw hr
  generalize basicP = P0 at *
  go_enter Tryz.func17, Tryz.ntmps17
  go_upto_region 2 with (go_at_call 27; refine HP.out.mono ?_; rintro e w1 ⟨y, F, rfl, ho, hb1⟩; obtain ⟨B1, d1, B2, d2, B3, d3, B4, d4, rfl, _⟩ := (ho.rd (lo := 0) (hi := w1.heap.size) (Nat.zero_le _) (Nat.le_refl _)).form)
  obtain ⟨W2, hW2⟩ : ∃ W, W = w1.alloc (.cells #[.slice B1 P0.els.length d1, .slice B2 P0.glob.length d2, .slice B3 P0.schemes.length d3, .bool false, .slice B4 P0.drop.length d4, .int .i64 32, .int .i64 4096] 29) := ⟨_, rfl⟩
  have hb2 : Below w1.heap.size w1 W2 := hW2 ▸ (Below.refl _ _).alloc (Nat.le_refl _) _
  have k2 : Bl W2 w1.heap.size 29 [.slice B1 P0.els.length d1, .slice B2 P0.glob.length d2, .slice B3 P0.schemes.length d3, .bool false, .slice B4 P0.drop.length d4, .int .i64 32, .int .i64 4096] := hW2 ▸ Bl.new w1 _ _ rfl
  have hbw : Below w.heap.size w W2 := hb1.trans (hb2.mono hb1.size)
  have hrd := ((ho.rd (lo := 0) (hi := w1.heap.size) (Nat.zero_le _) (Nat.le_refl _)).stay (stay_below hb2 (Nat.le_refl _))).wide (Nat.le_refl _) hb2.size
  have HC := Lib.hid (HPR.out W2 _ hbw hrd)
  have z0 := k2.cell 0 rfl
  have z1 := k2.cell 1 rfl
  have z2 := k2.cell 2 rfl
  have z3 := k2.cell 3 rfl
  have z4 := k2.cell 4 rfl
  have z5 := k2.cell 5 rfl
  have z6 := k2.cell 6 rfl
  rw [← hW2]
  clear hW2 ho
  go_wp2_with (first
    | (go_at_call 21; refine HC.out.mono ?_; rintro e w3 ⟨rfl, hb3⟩)
    | (go_at_call 16; refine (numC _ _).mono ?_; rintro e w4 ⟨rfl, rfl⟩))
  go_ret
  exact ⟨rfl, hbw.trans (hb3.mono hbw.size)⟩
end Go.Proofs.YteikagdinecfoaaGreatDoor.Aw
