/- The reference's presets 'basic' and 'rich'. -/
import Derived.Test.YtjhimmljanbjcaaGreatDoorLy
import Derived.Test.YtjhimmljanbjcaaGreatDoorPs
import Derived.Test.YtjhimmljanbjcaaGreatDoorRl2
set_option linter.unusedVariables false
set_option linter.unusedSimpArgs false
namespace Go.Proofs.YtjhimmljanbjcaaGreatDoor.Pv
open Go.RowKit Lb Gr Pd Fl Go.Proofs.YtjhimmljanbjcaaGreatDoor.Pm Bk Is Go.Proofs.YtjhimmljanbjcaaGreatDoor.Sl Go.Proofs.YtjhimmljanbjcaaGreatDoor.Ck Go.Proofs.YtjhimmljanbjcaaGreatDoor.Vd Go.Proofs.YtjhimmljanbjcaaGreatDoor.Pl Go.Proofs.YtjhimmljanbjcaaGreatDoor.Pp Pt Ps Go.Proofs.YtjhimmljanbjcaaGreatDoor.Rl2 Go.Proofs.YtjhimmljanbjcaaGreatDoor.Lq Go.Proofs.YtjhimmljanbjcaaGreatDoor.Ly
attribute [local go_sem ↓] Go.wp_at_zero Go.wp_at_succ
def hN : List ByteArray := [str [104, 49], str [104, 50], str [104, 51], str [104, 52], str [104, 53], str [104, 54], str [104, 114], str [105]]
def eB : List UInt8 := [101, 108, 101, 109, 101, 110, 116, 32]
def tB : List UInt8 := [114, 101, 108, 97, 116, 105, 118, 101, 10, 115, 99, 104, 101, 109, 101, 32, 104, 116, 116, 112, 10, 115, 99, 104, 101, 109, 101, 32, 104, 116, 116, 112, 115, 10, 115, 99, 104, 101, 109, 101, 32, 109, 97, 105, 108, 116, 111, 10, 103, 108, 111, 98, 97, 108, 32, 99, 108, 97, 115, 115, 32, 116, 111, 107, 101, 110, 115, 10, 103, 108, 111, 98, 97, 108, 32, 108, 97, 110, 103, 32, 108, 97, 110, 103, 10, 101, 108, 101, 109, 101, 110, 116, 32, 97, 10, 97, 116, 116, 114, 32, 104, 114, 101, 102, 32, 108, 105, 110, 107, 10, 97, 116, 116, 114, 32, 116, 105, 116, 108, 101, 32, 97, 110, 121, 10, 101, 108, 101, 109, 101, 110, 116, 32, 98, 10, 101, 108, 101, 109, 101, 110, 116, 32, 98, 108, 111, 99, 107, 113, 117, 111, 116, 101, 10, 97, 116, 116, 114, 32, 99, 105, 116, 101, 32, 108, 105, 110, 107, 10, 101, 108, 101, 109, 101, 110, 116, 32, 98, 114, 10, 101, 108, 101, 109, 101, 110, 116, 32, 99, 111, 100, 101, 10, 101, 108, 101, 109, 101, 110, 116, 32, 101, 109, 10]
def tk (k : Nat) : List UInt8 := tB ++ (hN.take k).flatMap fun h => eB ++ (h.data.toList ++ [10])
def tE : List UInt8 := [101, 108, 101, 109, 101, 110, 116, 32, 105, 109, 103, 10, 97, 116, 116, 114, 32, 97, 108, 116, 32, 97, 110, 121, 10, 97, 116, 116, 114, 32, 104, 101, 105, 103, 104, 116, 32, 108, 101, 110, 103, 116, 104, 10, 97, 116, 116, 114, 32, 115, 114, 99, 32, 108, 105, 110, 107, 10, 97, 116, 116, 114, 32, 119, 105, 100, 116, 104, 32, 108, 101, 110, 103, 116, 104, 10, 101, 108, 101, 109, 101, 110, 116, 32, 108, 105, 10, 101, 108, 101, 109, 101, 110, 116, 32, 111, 108, 10, 97, 116, 116, 114, 32, 115, 116, 97, 114, 116, 32, 110, 117, 109, 98, 101, 114, 10, 101, 108, 101, 109, 101, 110, 116, 32, 112, 10, 101, 108, 101, 109, 101, 110, 116, 32, 112, 114, 101, 10, 101, 108, 101, 109, 101, 110, 116, 32, 115, 116, 114, 111, 110, 103, 10, 101, 108, 101, 109, 101, 110, 116, 32, 117, 108, 10]
theorem tk_succ {k : Nat} (h : k < hN.length) : tk (k + 1) = tk k ++ (eB ++ ((hN[k]).data.toList ++ [10])) := by
  unfold tk
  rw [List.take_succ_eq_append_getElem h, List.flatMap_append, List.flatMap_cons, List.flatMap_nil, List.append_nil]
  simp only [List.append_assoc]
theorem hN_len : hN.length = 8 := rfl
theorem hN_size : ∀ h ∈ hN, h.size ≤ 2 := by decide +kernel
theorem tk_len : ∀ k, k ≤ 8 → (tk k).length ≤ 1000
  | 0, _ => by decide +kernel | 1, _ => by decide +kernel | 2, _ => by decide +kernel | 3, _ => by decide +kernel | 4, _ => by decide +kernel | 5, _ => by decide +kernel | 6, _ => by decide +kernel | 7, _ => by decide +kernel | 8, _ => by decide +kernel
  | k + 9, h => absurd h (by omega)
theorem rich_text : str (tk 8 ++ tE) = richT := by decide +kernel
theorem rich_ne : 0 < richT.size := by decide +kernel
theorem rich_sz : richT.size ≤ 2147483647 := by decide +kernel
/-- what the reference's Preset gives for a text -/
def RpR (t : ByteArray) (w : World) (e : Ending) (w' : World) : Prop :=
  ∃ y F, e = .returned (.tuple #[polV y (parseQ t).1, .bool true]) ∧ OwnP w' w.heap.size y (parseQ t).1 F ∧ Below w.heap.size w w'
set_option maxHeartbeats 4000000 in
set_option maxRecDepth 100000 in
theorem rPresetRichC (w : World) : Calls Tryz.prog 24 #[.string (str [114, 105, 99, 104])] w (RpR richT w) := by
  obtain ⟨r, hr⟩ : ∃ r, r = (parseQ richT).1 := ⟨_, rfl⟩
  have HP : Hid (∀ W, Calls Tryz.prog 44 #[.string richT] W fun e w' => ∃ B1 d1 B2 d2 B3 d3 B4 d4 F n c, e = .returned (.tuple #[.agg #[.slice B1 r.els.length d1, .slice B2 r.glob.length d2, .slice B3 r.schemes.length d3, .bool r.rel, .slice B4 r.drop.length d4, .int .i64 r.depth, .int .i64 r.window], .int .i64 n, .int .i64 c]) ∧ OwnP w' W.heap.size ⟨.slice B1 r.els.length d1, .slice B2 r.glob.length d2, .slice B3 r.schemes.length d3, .slice B4 r.drop.length d4⟩ r F ∧ Below W.heap.size W w') := Lib.hid fun W => (rParseC richT W rich_sz).mono fun e w' ⟨y, F, he, ho, hb⟩ => by
    rw [← hr] at he ho
    obtain ⟨B1, d1, B2, d2, B3, d3, B4, d4, rfl, _⟩ := (ho.rd (lo := 0) (hi := w'.heap.size) (Nat.zero_le _) (Nat.le_refl _)).form
    exact ⟨B1, d1, B2, d2, B3, d3, B4, d4, F, _, _, he, ho, hb⟩
  have HR : Hid (∀ e w', (∃ y F, e = .returned (.tuple #[polV y r, .bool true]) ∧ OwnP w' w.heap.size y r F ∧ Below w.heap.size w w') → RpR richT w e w') := Lib.hid fun e w' h => by
    unfold RpR
    rw [← hr]
    exact h
  clear hr
  obtain ⟨W0, hW0⟩ : ∃ W, W = w.alloc (.cells #[.slice none 0 0, .slice none 0 0, .slice none 0 0, .bool false, .slice none 0 0, .int .i64 0, .int .i64 0] 26) := ⟨_, rfl⟩
  have hb0 : Below w.heap.size w W0 := hW0 ▸ (Below.refl _ _).alloc (Nat.le_refl _) _
  have k0 : Bl W0 w.heap.size 26 [.slice none 0 0, .slice none 0 0, .slice none 0 0, .bool false, .slice none 0 0, .int .i64 0, .int .i64 0] := hW0 ▸ Bl.new w _ _ rfl
  obtain ⟨W1, hW1⟩ : ∃ W, W = W0.alloc (.cells #[.string ⟨#[104, 49]⟩, .string ⟨#[104, 50]⟩, .string ⟨#[104, 51]⟩, .string ⟨#[104, 52]⟩, .string ⟨#[104, 53]⟩, .string ⟨#[104, 54]⟩, .string ⟨#[104, 114]⟩, .string ⟨#[105]⟩] 9) := ⟨_, rfl⟩
  have hb1 : Below w.heap.size w W1 := hW1 ▸ hb0.alloc hb0.size _
  have k1 : Bl W1 w.heap.size 26 [.slice none 0 0, .slice none 0 0, .slice none 0 0, .bool false, .slice none 0 0, .int .i64 0, .int .i64 0] := hW1 ▸ k0.alloc _
  have HC : Hid (∀ k (h : k < hN.length), W1.cell? ⟨W0.heap.size, k, none⟩ = some (.string hN[k])) := Lib.hid fun k h => by
    have h1 : Bl W1 W0.heap.size 9 (hN.map Value.string) := hW1 ▸ Bl.new W0 _ _ rfl
    exact h1.cell k (by rw [List.getElem?_map, List.getElem?_eq_getElem h]; rfl)
  have HAD : Hid (∀ k (h : k < hN.length) W, (Op.stringOp .add ⟨#[101, 108, 101, 109, 101, 110, 116, 32]⟩ hN[k]).run Tryz.prog W = .ok (.string (str (eB ++ (hN[k]).data.toList))) W ∧ (Op.stringOp .add (str (eB ++ (hN[k]).data.toList)) ⟨#[10]⟩).run Tryz.prog W = .ok (.string (str (eB ++ ((hN[k]).data.toList ++ [10])))) W ∧
      (Op.stringOp .add (str (tk k)) (str (eB ++ ((hN[k]).data.toList ++ [10])))).run Tryz.prog W = .ok (.string (str (tk (k + 1)))) W) := Lib.hid fun k h W => by
    have h1 := hN_size _ (List.getElem_mem h)
    rw [← size_len] at h1
    have h2 := tk_len k (by have := hN_len; omega)
    have h3 : eB.length = 8 := rfl
    refine ⟨addS (a := eB) rfl (str_of _).symm (by rw [List.length_append]; omega) W, (by rw [← List.append_assoc]; exact addS rfl rfl (by rw [List.length_append, List.length_append]; simp only [List.length_cons, List.length_nil]; omega) W), ?_⟩
    rw [tk_succ h]
    exact addS rfl rfl (by rw [List.length_append, List.length_append, List.length_append]; simp only [List.length_cons, List.length_nil]; omega) W
  have HAE : Hid (∀ W, (Op.stringOp .add (str (tk 8)) ⟨#[101, 108, 101, 109, 101, 110, 116, 32, 105, 109, 103, 10, 97, 116, 116, 114, 32, 97, 108, 116, 32, 97, 110, 121, 10, 97, 116, 116, 114, 32, 104, 101, 105, 103, 104, 116, 32, 108, 101, 110, 103, 116, 104, 10, 97, 116, 116, 114, 32, 115, 114, 99, 32, 108, 105, 110, 107, 10, 97, 116, 116, 114, 32, 119, 105, 100, 116, 104, 32, 108, 101, 110, 103, 116, 104, 10, 101, 108, 101, 109, 101, 110, 116, 32, 108, 105, 10, 101, 108, 101, 109, 101, 110, 116, 32, 111, 108, 10, 97, 116, 116, 114, 32, 115, 116, 97, 114, 116, 32, 110, 117, 109, 98, 101, 114, 10, 101, 108, 101, 109, 101, 110, 116, 32, 112, 10, 101, 108, 101, 109, 101, 110, 116, 32, 112, 114, 101, 10, 101, 108, 101, 109, 101, 110, 116, 32, 115, 116, 114, 111, 110, 103, 10, 101, 108, 101, 109, 101, 110, 116, 32, 117, 108, 10]⟩).run Tryz.prog W = .ok (.string richT) W) := Lib.hid fun W => by
    rw [← rich_text]
    have h2 := tk_len 8 (Nat.le_refl _)
    have h3 : tE.length ≤ 1000 := by decide +kernel
    exact addS (b := tE) rfl rfl (by rw [List.length_append]; omega) W
  have hbq : ((str [114, 105, 99, 104]).toList == [98, 97, 115, 105, 99]) = false := by rw [Lib.toList_data]; rfl
  have hbr : ((str [114, 105, 99, 104]).toList == [114, 105, 99, 104]) = true := by rw [Lib.toList_data]; rfl
  have hbf : ((str [114, 105, 99, 104]).toList == [102, 117, 108, 108]) = false := by rw [Lib.toList_data]; rfl
  have e0 := toList_ne (s := richT) rich_ne
  have e1 := isEmpty_ne (s := richT) rich_ne
  have HX0 := Lib.hid hW0
  have HX1 := Lib.hid hW1
  have HT0 : Hid (str (tk 0) = ⟨#[114, 101, 108, 97, 116, 105, 118, 101, 10, 115, 99, 104, 101, 109, 101, 32, 104, 116, 116, 112, 10, 115, 99, 104, 101, 109, 101, 32, 104, 116, 116, 112, 115, 10, 115, 99, 104, 101, 109, 101, 32, 109, 97, 105, 108, 116, 111, 10, 103, 108, 111, 98, 97, 108, 32, 99, 108, 97, 115, 115, 32, 116, 111, 107, 101, 110, 115, 10, 103, 108, 111, 98, 97, 108, 32, 108, 97, 110, 103, 32, 108, 97, 110, 103, 10, 101, 108, 101, 109, 101, 110, 116, 32, 97, 10, 97, 116, 116, 114, 32, 104, 114, 101, 102, 32, 108, 105, 110, 107, 10, 97, 116, 116, 114, 32, 116, 105, 116, 108, 101, 32, 97, 110, 121, 10, 101, 108, 101, 109, 101, 110, 116, 32, 98, 10, 101, 108, 101, 109, 101, 110, 116, 32, 98, 108, 111, 99, 107, 113, 117, 111, 116, 101, 10, 97, 116, 116, 114, 32, 99, 105, 116, 101, 32, 108, 105, 110, 107, 10, 101, 108, 101, 109, 101, 110, 116, 32, 98, 114, 10, 101, 108, 101, 109, 101, 110, 116, 32, 99, 111, 100, 101, 10, 101, 108, 101, 109, 101, 110, 116, 32, 101, 109, 10]⟩) := Lib.hid rfl
  generalize hTT : richT = T at *
  clear hTT
  obtain ⟨N, hN'⟩ : ∃ N, N = hN := ⟨_, rfl⟩
  clear hW0 hW1 hN'
  go_enter Tryz.func24, Tryz.ntmps24
  go_upto_region 1 with fail
  rw [← HX0.out]
  go_upto_region 7 with fail
  go_wp2
  rw [← HX1.out]
  have hk0 : Bl W1 w.heap.size 26 [.slice none 0 0, .slice none 0 0, .slice none 0 0, .bool false, .slice none 0 0, .int .i64 0, .int .i64 0] := k1
  go_loopw [4, 19] (fun s i wr => ∃ k : Nat, k ≤ 8 ∧ i = .int .i64 k ∧ s = .string (str (tk k)) ∧ wr = W1) (fun _ i _ => 8 - (intOf i).toNat)
  case atStart => exact ⟨0, Nat.zero_le _, rfl, (by rw [HT0.out]), rfl⟩
  case round =>
    obtain ⟨k, hk, rfl, rfl, rfl⟩ := hrel
    by_cases hlt : k < 8
    · have hkl : k < hN.length := hlt
      have y0 := HC.out k hkl
      obtain ⟨hx, hhx⟩ : ∃ x, x = hN[k] := ⟨_, rfl⟩
      have HAK : Hid (∀ W, (Op.stringOp .add ⟨#[101, 108, 101, 109, 101, 110, 116, 32]⟩ hx).run Tryz.prog W = .ok (.string (str (eB ++ hx.data.toList))) W ∧ (Op.stringOp .add (str (eB ++ hx.data.toList)) ⟨#[10]⟩).run Tryz.prog W = .ok (.string (str (eB ++ (hx.data.toList ++ [10])))) W ∧ (Op.stringOp .add (str (tk k)) (str (eB ++ (hx.data.toList ++ [10])))).run Tryz.prog W = .ok (.string (str (tk (k + 1)))) W) := Lib.hid (by rw [hhx]; exact HAD.out k hkl)
      rw [← hhx] at y0
      clear hhx
      have a1 := fun W => (HAK.out W).1
      have a2 := fun W => (HAK.out W).2.1
      have a3 := fun W => (HAK.out W).2.2
      go_wp2
      go_roundw
      case rel => exact ⟨k + 1, by omega, by go_num, rfl, trivial⟩
      case measure => simp [intOf] <;> omega
    · obtain rfl : k = 8 := by omega
      have a4 := HAE.out
      go_upto_region 41 with fail
      go_upto_region 42 with (go_at_call 44; refine (HP.out _).mono ?_; rintro e w2 ⟨B1, d1, B2, d2, B3, d3, B4, d4, F, n9, c9, rfl, ho, hb2⟩)
      obtain ⟨W3, hW3⟩ : ∃ W, W = w2.alloc (.cells #[.slice B1 r.els.length d1, .slice B2 r.glob.length d2, .slice B3 r.schemes.length d3, .bool r.rel, .slice B4 r.drop.length d4, .int .i64 r.depth, .int .i64 r.window] 26) := ⟨_, rfl⟩
      have hb3 : Below wr.heap.size wr W3 := hW3 ▸ hb2.alloc hb2.size _
      have m1 := k1.below hb3
      have m2 : Bl W3 w2.heap.size 26 [.slice B1 r.els.length d1, .slice B2 r.glob.length d2, .slice B3 r.schemes.length d3, .bool r.rel, .slice B4 r.drop.length d4, .int .i64 r.depth, .int .i64 r.window] := hW3 ▸ Bl.new w2 _ _ rfl
      have c0 := m2.cell 0 rfl
      have c1 := m2.cell 1 rfl
      have c2 := m2.cell 2 rfl
      have c3 := m2.cell 3 rfl
      have c4 := m2.cell 4 rfl
      have c5 := m2.cell 5 rfl
      have c6 := m2.cell 6 rfl
      have ho3 : Hid (OwnP W3 wr.heap.size ⟨.slice B1 r.els.length d1, .slice B2 r.glob.length d2, .slice B3 r.schemes.length d3, .slice B4 r.drop.length d4⟩ r F) := Lib.hid (ho.keep (by rw [hW3]; simp) fun k hk => by rw [hW3]; exact Below.heap_alloc _ _ _ (ho.ge k hk).2)
      obtain ⟨s0, s1, s2, s3, s4, s5, s6, s7, s8, s9, s10, s11, s12, s13⟩ := m1.store7 (.slice B1 r.els.length d1) (.slice B2 r.glob.length d2) (.slice B3 r.schemes.length d3) (.bool r.rel) (.slice B4 r.drop.length d4) (.int .i64 r.depth) (.int .i64 r.window)
      have jz := m1.seven (.slice B1 r.els.length d1) (.slice B2 r.glob.length d2) (.slice B3 r.schemes.length d3) (.bool r.rel) (.slice B4 r.drop.length d4) (.int .i64 r.depth) (.int .i64 r.window)
      have hfz := Fr.set7 W3 w.heap.size (.slice B1 r.els.length d1) (.slice B2 r.glob.length d2) (.slice B3 r.schemes.length d3) (.bool r.rel) (.slice B4 r.drop.length d4) (.int .i64 r.depth) (.int .i64 r.window)
      have HW3 := Lib.hid hW3
      have hk1 := k1.lt
      rw [← hW3]
      clear hW3 ho m2
      go_wp2
      refine bodyPost_ret (res_cell2 Tryz.results24 rfl jz Tryz.underlying26 rfl (by kernel_rfl)) rfl ?_
      have hbw := hb1.trans (hb3.mono hb1.size)
      exact HR.out _ _ ⟨_, F, rfl, (ho3.out.keep hfz.size fun x hx => hfz.block x (ho3.out.ge x hx).2 (by have := (ho3.out.ge x hx).1; simp; omega)).low (by omega), hbw.trans (hfz.below hbw.size (by simp))⟩
end Go.Proofs.YtjhimmljanbjcaaGreatDoor.Pv

/- The reference's preset 'basic'. -/
set_option linter.unusedVariables false
set_option linter.unusedSimpArgs false
namespace Go.Proofs.YtjhimmljanbjcaaGreatDoor.Pw
open Go.RowKit Lb Gr Pd Fl Go.Proofs.YtjhimmljanbjcaaGreatDoor.Pm Bk Is Go.Proofs.YtjhimmljanbjcaaGreatDoor.Sl Go.Proofs.YtjhimmljanbjcaaGreatDoor.Ck Go.Proofs.YtjhimmljanbjcaaGreatDoor.Vd Go.Proofs.YtjhimmljanbjcaaGreatDoor.Pl Go.Proofs.YtjhimmljanbjcaaGreatDoor.Pp Pt Ps Go.Proofs.YtjhimmljanbjcaaGreatDoor.Rl2 Go.Proofs.YtjhimmljanbjcaaGreatDoor.Lq Go.Proofs.YtjhimmljanbjcaaGreatDoor.Ly Go.Proofs.YtjhimmljanbjcaaGreatDoor.Pv
attribute [local go_sem ↓] Go.wp_at_zero Go.wp_at_succ
def basT : ByteArray := str [100, 101, 112, 116, 104, 32, 51, 50, 10, 119, 105, 110, 100, 111, 119, 32, 52, 48, 57, 54, 10, 101, 108, 101, 109, 101, 110, 116, 32, 98, 10, 101, 108, 101, 109, 101, 110, 116, 32, 98, 114, 10, 101, 108, 101, 109, 101, 110, 116, 32, 99, 111, 100, 101, 10, 101, 108, 101, 109, 101, 110, 116, 32, 101, 109, 10, 101, 108, 101, 109, 101, 110, 116, 32, 105, 10, 101, 108, 101, 109, 101, 110, 116, 32, 112, 10, 101, 108, 101, 109, 101, 110, 116, 32, 115, 116, 114, 111, 110, 103, 10]
theorem bas_sz : basT.size ≤ 2147483647 := by decide +kernel
theorem bas_ne : 0 < basT.size := by decide +kernel
set_option maxHeartbeats 4000000 in
set_option maxRecDepth 100000 in
theorem rPresetBasicC (w : World) : Calls Tryz.prog 24 #[.string (str [98, 97, 115, 105, 99])] w (RpR basT w) := by
  obtain ⟨r, hr⟩ : ∃ r, r = (parseQ basT).1 := ⟨_, rfl⟩
  have HP : Hid (∀ W, Calls Tryz.prog 44 #[.string basT] W fun e w' => ∃ B1 d1 B2 d2 B3 d3 B4 d4 F n c, e = .returned (.tuple #[.agg #[.slice B1 r.els.length d1, .slice B2 r.glob.length d2, .slice B3 r.schemes.length d3, .bool r.rel, .slice B4 r.drop.length d4, .int .i64 r.depth, .int .i64 r.window], .int .i64 n, .int .i64 c]) ∧ OwnP w' W.heap.size ⟨.slice B1 r.els.length d1, .slice B2 r.glob.length d2, .slice B3 r.schemes.length d3, .slice B4 r.drop.length d4⟩ r F ∧ Below W.heap.size W w') := Lib.hid fun W => (rParseC basT W bas_sz).mono fun e w' ⟨y, F, he, ho, hb⟩ => by
    rw [← hr] at he ho
    obtain ⟨B1, d1, B2, d2, B3, d3, B4, d4, rfl, _⟩ := (ho.rd (lo := 0) (hi := w'.heap.size) (Nat.zero_le _) (Nat.le_refl _)).form
    exact ⟨B1, d1, B2, d2, B3, d3, B4, d4, F, _, _, he, ho, hb⟩
  have HR : Hid (∀ e w', (∃ y F, e = .returned (.tuple #[polV y r, .bool true]) ∧ OwnP w' w.heap.size y r F ∧ Below w.heap.size w w') → RpR basT w e w') := Lib.hid fun e w' h => by
    unfold RpR
    rw [← hr]
    exact h
  clear hr
  obtain ⟨W0, hW0⟩ : ∃ W, W = w.alloc (.cells #[.slice none 0 0, .slice none 0 0, .slice none 0 0, .bool false, .slice none 0 0, .int .i64 0, .int .i64 0] 26) := ⟨_, rfl⟩
  have hb0 : Below w.heap.size w W0 := hW0 ▸ (Below.refl _ _).alloc (Nat.le_refl _) _
  have k0 : Bl W0 w.heap.size 26 [.slice none 0 0, .slice none 0 0, .slice none 0 0, .bool false, .slice none 0 0, .int .i64 0, .int .i64 0] := hW0 ▸ Bl.new w _ _ rfl
  have hbq : ((str [98, 97, 115, 105, 99]).toList == [98, 97, 115, 105, 99]) = true := by rw [Lib.toList_data]; rfl
  have e0 := toList_ne (s := basT) bas_ne
  have e1 := isEmpty_ne (s := basT) bas_ne
  have HX0 := Lib.hid hW0
  clear hW0
  have HTE : Hid ((⟨#[100, 101, 112, 116, 104, 32, 51, 50, 10, 119, 105, 110, 100, 111, 119, 32, 52, 48, 57, 54, 10, 101, 108, 101, 109, 101, 110, 116, 32, 98, 10, 101, 108, 101, 109, 101, 110, 116, 32, 98, 114, 10, 101, 108, 101, 109, 101, 110, 116, 32, 99, 111, 100, 101, 10, 101, 108, 101, 109, 101, 110, 116, 32, 101, 109, 10, 101, 108, 101, 109, 101, 110, 116, 32, 105, 10, 101, 108, 101, 109, 101, 110, 116, 32, 112, 10, 101, 108, 101, 109, 101, 110, 116, 32, 115, 116, 114, 111, 110, 103, 10]⟩ : ByteArray) = basT) := Lib.hid rfl
  go_enter Tryz.func24, Tryz.ntmps24
  go_upto_region 1 with fail
  rw [← HX0.out]
  go_upto_region 42 with (go_at_call 44; refine (HP.out _).mono ?_; rintro e w2 ⟨B1, d1, B2, d2, B3, d3, B4, d4, F, n9, c9, rfl, ho, hb2⟩)
  obtain ⟨W3, hW3⟩ : ∃ W, W = w2.alloc (.cells #[.slice B1 r.els.length d1, .slice B2 r.glob.length d2, .slice B3 r.schemes.length d3, .bool r.rel, .slice B4 r.drop.length d4, .int .i64 r.depth, .int .i64 r.window] 26) := ⟨_, rfl⟩
  have hb3 : Below W0.heap.size W0 W3 := hW3 ▸ hb2.alloc hb2.size _
  have m1 := k0.below hb3
  have m2 : Bl W3 w2.heap.size 26 [.slice B1 r.els.length d1, .slice B2 r.glob.length d2, .slice B3 r.schemes.length d3, .bool r.rel, .slice B4 r.drop.length d4, .int .i64 r.depth, .int .i64 r.window] := hW3 ▸ Bl.new w2 _ _ rfl
  have c0 := m2.cell 0 rfl
  have c1 := m2.cell 1 rfl
  have c2 := m2.cell 2 rfl
  have c3 := m2.cell 3 rfl
  have c4 := m2.cell 4 rfl
  have c5 := m2.cell 5 rfl
  have c6 := m2.cell 6 rfl
  have ho3 : Hid (OwnP W3 W0.heap.size ⟨.slice B1 r.els.length d1, .slice B2 r.glob.length d2, .slice B3 r.schemes.length d3, .slice B4 r.drop.length d4⟩ r F) := Lib.hid (ho.keep (by rw [hW3]; simp) fun k hk => by rw [hW3]; exact Below.heap_alloc _ _ _ (ho.ge k hk).2)
  obtain ⟨s0, s1, s2, s3, s4, s5, s6, s7, s8, s9, s10, s11, s12, s13⟩ := m1.store7 (.slice B1 r.els.length d1) (.slice B2 r.glob.length d2) (.slice B3 r.schemes.length d3) (.bool r.rel) (.slice B4 r.drop.length d4) (.int .i64 r.depth) (.int .i64 r.window)
  have jz := m1.seven (.slice B1 r.els.length d1) (.slice B2 r.glob.length d2) (.slice B3 r.schemes.length d3) (.bool r.rel) (.slice B4 r.drop.length d4) (.int .i64 r.depth) (.int .i64 r.window)
  have hfz := Fr.set7 W3 w.heap.size (.slice B1 r.els.length d1) (.slice B2 r.glob.length d2) (.slice B3 r.schemes.length d3) (.bool r.rel) (.slice B4 r.drop.length d4) (.int .i64 r.depth) (.int .i64 r.window)
  have HW3 := Lib.hid hW3
  have hk1 := k0.lt
  rw [← hW3]
  clear hW3 ho m2
  go_wp2
  refine bodyPost_ret (res_cell2 Tryz.results24 rfl jz Tryz.underlying26 rfl (by kernel_rfl)) rfl ?_
  have hbw := hb0.trans (hb3.mono hb0.size)
  exact HR.out _ _ ⟨_, F, rfl, (ho3.out.keep hfz.size fun x hx => hfz.block x (ho3.out.ge x hx).2 (by have := (ho3.out.ge x hx).1; simp; omega)).low (by omega), hbw.trans (hfz.below hbw.size (by simp))⟩
end Go.Proofs.YtjhimmljanbjcaaGreatDoor.Pw
