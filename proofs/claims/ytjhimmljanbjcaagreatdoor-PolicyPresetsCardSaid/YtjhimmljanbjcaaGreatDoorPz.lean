/- The reference's preset 'full'. -/
import Derived.Test.YtjhimmljanbjcaaGreatDoorPv
import Derived.Test.YtjhimmljanbjcaaGreatDoorCs
set_option linter.unusedVariables false
set_option linter.unusedSimpArgs false
namespace Go.Proofs.YtjhimmljanbjcaaGreatDoor.Pz
open Go.RowKit Lb Gr Pd Fl Go.Proofs.YtjhimmljanbjcaaGreatDoor.Pm Bk Is Go.Proofs.YtjhimmljanbjcaaGreatDoor.Sl Go.Proofs.YtjhimmljanbjcaaGreatDoor.Ck Go.Proofs.YtjhimmljanbjcaaGreatDoor.Vd Go.Proofs.YtjhimmljanbjcaaGreatDoor.Pl Go.Proofs.YtjhimmljanbjcaaGreatDoor.Pp Pt Ps Go.Proofs.YtjhimmljanbjcaaGreatDoor.Rl2 Go.Proofs.YtjhimmljanbjcaaGreatDoor.Lq Go.Proofs.YtjhimmljanbjcaaGreatDoor.Ly Go.Proofs.YtjhimmljanbjcaaGreatDoor.Px Go.Proofs.YtjhimmljanbjcaaGreatDoor.Ni Go.Proofs.YtjhimmljanbjcaaGreatDoor.Pv
attribute [local go_sem ↓] Go.wp_at_zero Go.wp_at_succ
/-- the text behind name k, its own rules not yet written -/
def mk (k : Nat) (h : ByteArray) : List UInt8 := fk k ++ (eB2 ++ (h.data.toList ++ [10]))
theorem fk_succ {k : Nat} (h : k < fullN.length) : fk (k + 1) = mk k fullN[k] ++ textAt fullN[k] := by
  unfold mk fk
  rw [List.take_succ_eq_append_getElem h, List.flatMap_append, List.flatMap_cons, List.flatMap_nil, List.append_nil]
  simp only [List.append_assoc]
theorem fk_len (k : Nat) : (fk k).length ≤ 100000 := by
  have h1 : (fk fullN.length).length ≤ 100000 := by decide +kernel
  refine Nat.le_trans ?_ h1
  unfold fk
  rw [List.take_length, List.length_append, List.length_append]
  conv => rhs; rw [← List.take_append_drop k fullN, List.flatMap_append, List.length_append]
  omega
theorem fullN_size : ∀ h ∈ fullN, h.size ≤ 100 := by decide +kernel
theorem text_len (s : ByteArray) : (textAt s).length ≤ 1000 := by
  unfold textAt
  cases h : fullA.find? fun x => decide (s = x.1) with
  | none => exact Nat.zero_le _
  | some x =>
    have h1 := List.mem_of_find?_eq_some h
    have h2 : ∀ x ∈ fullA, x.2.length ≤ 1000 := by decide +kernel
    exact h2 x h1
theorem is_of {s : ByteArray} {l : List UInt8} (h : (s.toList == l) = true) : s = str l := by
  have h1 := eq_of_beq h
  rw [Lib.toList_data] at h1
  rw [← h1, str_of]
theorem no_of {s : ByteArray} {l : List UInt8} (h : (s.toList == l) = false) : ¬ s = str l := fun e => by
  rw [e, Lib.toList_data] at h
  exact absurd h (by simp [str])
theorem text_0 {s : ByteArray} (h : (s.toList == [97]) = true) : textAt s = [97, 116, 116, 114, 32, 104, 114, 101, 102, 32, 108, 105, 110, 107, 10] := by rw [is_of h]; decide +kernel
theorem text_1 {s : ByteArray} (h : (s.toList == [98, 108, 111, 99, 107, 113, 117, 111, 116, 101]) = true) : textAt s = [97, 116, 116, 114, 32, 99, 105, 116, 101, 32, 108, 105, 110, 107, 10] := by rw [is_of h]; decide +kernel
theorem text_2 {s : ByteArray} (h : (s.toList == [100, 101, 108]) = true) : textAt s = [97, 116, 116, 114, 32, 99, 105, 116, 101, 32, 108, 105, 110, 107, 10] := by rw [is_of h]; decide +kernel
theorem text_3 {s : ByteArray} (h : (s.toList == [105, 110, 115]) = true) : textAt s = [97, 116, 116, 114, 32, 99, 105, 116, 101, 32, 108, 105, 110, 107, 10] := by rw [is_of h]; decide +kernel
theorem text_4 {s : ByteArray} (h : (s.toList == [113]) = true) : textAt s = [97, 116, 116, 114, 32, 99, 105, 116, 101, 32, 108, 105, 110, 107, 10] := by rw [is_of h]; decide +kernel
theorem text_5 {s : ByteArray} (h : (s.toList == [105, 109, 103]) = true) : textAt s = [97, 116, 116, 114, 32, 97, 108, 116, 32, 97, 110, 121, 10, 97, 116, 116, 114, 32, 104, 101, 105, 103, 104, 116, 32, 108, 101, 110, 103, 116, 104, 10, 97, 116, 116, 114, 32, 115, 114, 99, 32, 108, 105, 110, 107, 10, 97, 116, 116, 114, 32, 119, 105, 100, 116, 104, 32, 108, 101, 110, 103, 116, 104, 10] := by rw [is_of h]; decide +kernel
theorem text_6 {s : ByteArray} (h : (s.toList == [111, 108]) = true) : textAt s = [97, 116, 116, 114, 32, 115, 116, 97, 114, 116, 32, 110, 117, 109, 98, 101, 114, 10] := by rw [is_of h]; decide +kernel
theorem text_7 {s : ByteArray} (h : (s.toList == [116, 100]) = true) : textAt s = [97, 116, 116, 114, 32, 99, 111, 108, 115, 112, 97, 110, 32, 110, 117, 109, 98, 101, 114, 10, 97, 116, 116, 114, 32, 114, 111, 119, 115, 112, 97, 110, 32, 110, 117, 109, 98, 101, 114, 10] := by rw [is_of h]; decide +kernel
theorem text_8 {s : ByteArray} (h : (s.toList == [116, 104]) = true) : textAt s = [97, 116, 116, 114, 32, 99, 111, 108, 115, 112, 97, 110, 32, 110, 117, 109, 98, 101, 114, 10, 97, 116, 116, 114, 32, 114, 111, 119, 115, 112, 97, 110, 32, 110, 117, 109, 98, 101, 114, 10] := by rw [is_of h]; decide +kernel
theorem text_9 {s : ByteArray} (h : (s.toList == [116, 105, 109, 101]) = true) : textAt s = [97, 116, 116, 114, 32, 100, 97, 116, 101, 116, 105, 109, 101, 32, 97, 110, 121, 10] := by rw [is_of h]; decide +kernel
theorem text_10 {s : ByteArray} (h : (s.toList == [100, 97, 116, 97]) = true) : textAt s = [97, 116, 116, 114, 32, 118, 97, 108, 117, 101, 32, 97, 110, 121, 10] := by rw [is_of h]; decide +kernel
theorem text_no {s : ByteArray} (h0 : (s.toList == [97]) = false) (h1 : (s.toList == [98, 108, 111, 99, 107, 113, 117, 111, 116, 101]) = false) (h2 : (s.toList == [100, 101, 108]) = false) (h3 : (s.toList == [105, 110, 115]) = false) (h4 : (s.toList == [113]) = false) (h5 : (s.toList == [105, 109, 103]) = false) (h6 : (s.toList == [111, 108]) = false) (h7 : (s.toList == [116, 100]) = false) (h8 : (s.toList == [116, 104]) = false) (h9 : (s.toList == [116, 105, 109, 101]) = false) (h10 : (s.toList == [100, 97, 116, 97]) = false) : textAt s = [] := by
  unfold textAt
  rw [List.find?_eq_none.2]
  · rfl
  · intro x hx
    unfold fullA at hx
    simp only [List.mem_cons, List.not_mem_nil, or_false] at hx
    rcases hx with rfl | rfl | rfl | rfl | rfl | rfl | rfl | rfl | rfl | rfl | rfl
    · simpa using no_of h0
    · simpa using no_of h5
    · simpa using no_of h6
    · simpa using no_of h9
    · simpa using no_of h10
    · simpa using no_of h1
    · simpa using no_of h2
    · simpa using no_of h3
    · simpa using no_of h4
    · simpa using no_of h7
    · simpa using no_of h8

set_option maxHeartbeats 8000000 in
set_option maxRecDepth 100000 in
theorem rPresetFullC (w : World) : Calls Tryz.prog 24 #[.string (str [102, 117, 108, 108])] w (RpR fullT w) := by
  have full_sz : fullT.size ≤ 2147483647 := by
    have := fk_len fullN.length
    unfold fullT
    rw [str_size]
    omega
  obtain ⟨r, hr⟩ : ∃ r, r = (parseQ fullT).1 := ⟨_, rfl⟩
  have HP : Hid (∀ W, Calls Tryz.prog 44 #[.string fullT] W fun e w' => ∃ B1 d1 B2 d2 B3 d3 B4 d4 F n c, e = .returned (.tuple #[.agg #[.slice B1 r.els.length d1, .slice B2 r.glob.length d2, .slice B3 r.schemes.length d3, .bool r.rel, .slice B4 r.drop.length d4, .int .i64 r.depth, .int .i64 r.window], .int .i64 n, .int .i64 c]) ∧ OwnP w' W.heap.size ⟨.slice B1 r.els.length d1, .slice B2 r.glob.length d2, .slice B3 r.schemes.length d3, .slice B4 r.drop.length d4⟩ r F ∧ Below W.heap.size W w') := Lib.hid fun W => (rParseC fullT W full_sz).mono fun e w' ⟨y, F, he, ho, hb⟩ => by
    rw [← hr] at he ho
    obtain ⟨B1, d1, B2, d2, B3, d3, B4, d4, rfl, _⟩ := (ho.rd (lo := 0) (hi := w'.heap.size) (Nat.zero_le _) (Nat.le_refl _)).form
    exact ⟨B1, d1, B2, d2, B3, d3, B4, d4, F, _, _, he, ho, hb⟩
  have HR : Hid (∀ e w', (∃ y F, e = .returned (.tuple #[polV y r, .bool true]) ∧ OwnP w' w.heap.size y r F ∧ Below w.heap.size w w') → RpR fullT w e w') := Lib.hid fun e w' h => by
    unfold RpR
    rw [← hr]
    exact h
  clear hr
  obtain ⟨W0, hW0⟩ : ∃ W, W = w.alloc (.cells #[.slice none 0 0, .slice none 0 0, .slice none 0 0, .bool false, .slice none 0 0, .int .i64 0, .int .i64 0] 26) := ⟨_, rfl⟩
  have hb0 : Below w.heap.size w W0 := hW0 ▸ (Below.refl _ _).alloc (Nat.le_refl _) _
  have k0 : Bl W0 w.heap.size 26 [.slice none 0 0, .slice none 0 0, .slice none 0 0, .bool false, .slice none 0 0, .int .i64 0, .int .i64 0] := hW0 ▸ Bl.new w _ _ rfl
  have HAD : Hid (∀ k (h : k < fullN.length) W, (Op.stringOp .add ⟨#[101, 108, 101, 109, 101, 110, 116, 32]⟩ fullN[k]).run Tryz.prog W = .ok (.string (str (eB2 ++ (fullN[k]).data.toList))) W ∧ (Op.stringOp .add (str (eB2 ++ (fullN[k]).data.toList)) ⟨#[10]⟩).run Tryz.prog W = .ok (.string (str (eB2 ++ ((fullN[k]).data.toList ++ [10])))) W ∧
      (Op.stringOp .add (str (fk k)) (str (eB2 ++ ((fullN[k]).data.toList ++ [10])))).run Tryz.prog W = .ok (.string (str (mk k fullN[k]))) W) := Lib.hid fun k h W => by
    have h1 := fullN_size _ (List.getElem_mem h)
    rw [← size_len] at h1
    have h2 := fk_len k
    have h3 : eB2.length = 8 := rfl
    refine ⟨addS (a := eB2) rfl (str_of _).symm (by rw [List.length_append]; omega) W, (by rw [← List.append_assoc]; exact addS rfl rfl (by rw [List.length_append, List.length_append]; simp only [List.length_cons, List.length_nil]; omega) W), ?_⟩
    exact addS rfl rfl (by rw [List.length_append, List.length_append, List.length_append]; simp only [List.length_cons, List.length_nil]; omega) W
  have HMK : Hid (∀ k (h : k < fullN.length) (x : ByteArray) (l : List UInt8), x = str l → textAt fullN[k] = l → ∀ W, (Op.stringOp .add (str (mk k fullN[k])) x).run Tryz.prog W = .ok (.string (str (fk (k + 1)))) W) := Lib.hid fun k h x l hx hl W => by
    have h1 := fk_len (k + 1)
    rw [fk_succ h, hl] at h1 ⊢
    exact addS rfl hx (by omega) W
  have HSUC : Hid (∀ k (h : k < fullN.length), textAt fullN[k] = [] → str (mk k fullN[k]) = str (fk (k + 1))) := Lib.hid fun k h e => by rw [fk_succ h, e, List.append_nil]
  have full_ne : 0 < fullT.size := by decide +kernel
  have hbq : ((str [102, 117, 108, 108]).toList == [98, 97, 115, 105, 99]) = false := by rw [Lib.toList_data]; rfl
  have hbr : ((str [102, 117, 108, 108]).toList == [114, 105, 99, 104]) = false := by rw [Lib.toList_data]; rfl
  have hbf : ((str [102, 117, 108, 108]).toList == [102, 117, 108, 108]) = true := by rw [Lib.toList_data]; rfl
  have e0 := toList_ne (s := fullT) full_ne
  have e1 := isEmpty_ne (s := fullT) full_ne
  have HX0 := Lib.hid hW0
  have HT0 : Hid (str (fk 0) = ⟨#[100, 101, 112, 116, 104, 32, 50, 53, 54, 10, 114, 101, 108, 97, 116, 105, 118, 101, 10, 115, 99, 104, 101, 109, 101, 32, 104, 116, 116, 112, 10, 115, 99, 104, 101, 109, 101, 32, 104, 116, 116, 112, 115, 10, 115, 99, 104, 101, 109, 101, 32, 109, 97, 105, 108, 116, 111, 10, 100, 114, 111, 112, 32, 109, 97, 116, 104, 10, 100, 114, 111, 112, 32, 115, 101, 108, 101, 99, 116, 10, 100, 114, 111, 112, 32, 115, 118, 103, 10, 100, 114, 111, 112, 32, 116, 101, 109, 112, 108, 97, 116, 101, 10, 103, 108, 111, 98, 97, 108, 32, 99, 108, 97, 115, 115, 32, 116, 111, 107, 101, 110, 115, 10, 103, 108, 111, 98, 97, 108, 32, 100, 105, 114, 32, 111, 110, 101, 111, 102, 32, 97, 117, 116, 111, 32, 108, 116, 114, 32, 114, 116, 108, 10, 103, 108, 111, 98, 97, 108, 32, 105, 100, 32, 110, 97, 109, 101, 10, 103, 108, 111, 98, 97, 108, 32, 108, 97, 110, 103, 32, 108, 97, 110, 103, 10, 103, 108, 111, 98, 97, 108, 32, 116, 105, 116, 108, 101, 32, 97, 110, 121, 10]⟩) := Lib.hid rfl
  obtain ⟨N, hN⟩ : ∃ N, N = fullN.length := ⟨_, rfl⟩
  have hN0 : 0 < N := by rw [hN]; decide +kernel
  have hN1 : N ≤ 1000 := by rw [hN]; decide +kernel
  have HTT : Hid (str (fk N) = fullT) := Lib.hid (by rw [hN]; rfl)
  have HLI : Hid (∀ W, Calls Tryz.prog 77 #[.int .i64 15] W fun e w' => ∃ b off c, e = .returned (.slice (some ⟨b, off, none⟩) N c) ∧ (∀ k (h : k < fullN.length), w'.cell? ⟨b, off + k, none⟩ = some (.string fullN[k])) ∧ Below W.heap.size W w') := Lib.hid fun W => (rList15 W).mono (by
    rw [show n15 = fullN from full_N.symm]
    rintro e w' ⟨A, c, rfl, ho, hb⟩
    obtain ⟨A', c', hv, _, _, hc⟩ := Sl.of_own ho
    injection hv with hA hn hcc
    subst hA
    obtain ⟨b, off, rfl, hlt, hcell⟩ := hc (by rw [List.length_map]; omega)
    exact ⟨b, off, c, by rw [hN], fun k h => hcell k _ (by rw [List.getElem?_map, List.getElem?_eq_getElem h]; rfl), hb⟩)
  generalize hT9 : fullT = T at *
  clear hT9
  clear hW0
  have hNN := Lib.hid hN
  clear hN
  go_enter Tryz.func24, Tryz.ntmps24
  go_upto_region 1 with fail
  rw [← HX0.out]
  go_upto_region 15 with fail
  go_wp2_with (go_at_call 77; refine (HLI.out _).mono ?_; rintro e w2 ⟨b0, off0, c0, rfl, hcl, hb2⟩; have HC := Lib.hid hcl; have k2 := k0.below hb2; have hb02 : Below w.heap.size w w2 := hb0.trans (hb2.mono hb0.size); clear hcl)
  go_loopw [4, 35] (fun s i wr => ∃ k : Nat, k ≤ N ∧ i = .int .i64 k ∧ s = .string (str (fk k)) ∧ wr = w2) (fun _ i _ => N - (intOf i).toNat)
  case atStart => exact ⟨0, Nat.zero_le _, rfl, (by rw [HT0.out]), rfl⟩
  case round =>
    obtain ⟨k, hk, rfl, rfl, rfl⟩ := hrel
    by_cases hlt : k < N
    · have hkl : k < fullN.length := by rw [← hNN.out]; exact hlt
      have y0 := HC.out k hkl
      obtain ⟨hx, hhx⟩ : ∃ x, x = fullN[k] := ⟨_, rfl⟩
      have HAK : Hid (∀ W, (Op.stringOp .add ⟨#[101, 108, 101, 109, 101, 110, 116, 32]⟩ hx).run Tryz.prog W = .ok (.string (str (eB2 ++ hx.data.toList))) W ∧ (Op.stringOp .add (str (eB2 ++ hx.data.toList)) ⟨#[10]⟩).run Tryz.prog W = .ok (.string (str (eB2 ++ (hx.data.toList ++ [10])))) W ∧ (Op.stringOp .add (str (fk k)) (str (eB2 ++ (hx.data.toList ++ [10])))).run Tryz.prog W = .ok (.string (str (mk k hx))) W) := Lib.hid (by rw [hhx]; exact HAD.out k hkl)
      have HMX : Hid (∀ (x : ByteArray) (l : List UInt8), x = str l → textAt hx = l → ∀ W, (Op.stringOp .add (str (mk k hx)) x).run Tryz.prog W = .ok (.string (str (fk (k + 1)))) W) := Lib.hid (by rw [hhx]; exact HMK.out k hkl)
      have HSX : Hid (textAt hx = [] → str (mk k hx) = str (fk (k + 1))) := Lib.hid (by rw [hhx]; exact HSUC.out k hkl)
      rw [← hhx] at y0
      clear hhx
      have a1 := fun W => (HAK.out W).1
      have a2 := fun W => (HAK.out W).2.1
      have a3 := fun W => (HAK.out W).2.2
      cases c0 : (hx.toList == [97])
      rotate_left
      · have a4 := HMX.out ⟨#[97, 116, 116, 114, 32, 104, 114, 101, 102, 32, 108, 105, 110, 107, 10]⟩ _ rfl (text_0 c0)
        go_wp2
        go_roundw
        case rel => exact ⟨k + 1, by omega, by go_num, rfl, trivial⟩
        case measure => simp [intOf] <;> omega
      cases c1 : (hx.toList == [98, 108, 111, 99, 107, 113, 117, 111, 116, 101])
      rotate_left
      · have a4 := HMX.out ⟨#[97, 116, 116, 114, 32, 99, 105, 116, 101, 32, 108, 105, 110, 107, 10]⟩ _ rfl (text_1 c1)
        go_wp2
        go_roundw
        case rel => exact ⟨k + 1, by omega, by go_num, rfl, trivial⟩
        case measure => simp [intOf] <;> omega
      cases c2 : (hx.toList == [100, 101, 108])
      rotate_left
      · have a4 := HMX.out ⟨#[97, 116, 116, 114, 32, 99, 105, 116, 101, 32, 108, 105, 110, 107, 10]⟩ _ rfl (text_2 c2)
        go_wp2
        go_roundw
        case rel => exact ⟨k + 1, by omega, by go_num, rfl, trivial⟩
        case measure => simp [intOf] <;> omega
      cases c3 : (hx.toList == [105, 110, 115])
      rotate_left
      · have a4 := HMX.out ⟨#[97, 116, 116, 114, 32, 99, 105, 116, 101, 32, 108, 105, 110, 107, 10]⟩ _ rfl (text_3 c3)
        go_wp2
        go_roundw
        case rel => exact ⟨k + 1, by omega, by go_num, rfl, trivial⟩
        case measure => simp [intOf] <;> omega
      cases c4 : (hx.toList == [113])
      rotate_left
      · have a4 := HMX.out ⟨#[97, 116, 116, 114, 32, 99, 105, 116, 101, 32, 108, 105, 110, 107, 10]⟩ _ rfl (text_4 c4)
        go_wp2
        go_roundw
        case rel => exact ⟨k + 1, by omega, by go_num, rfl, trivial⟩
        case measure => simp [intOf] <;> omega
      cases c5 : (hx.toList == [105, 109, 103])
      rotate_left
      · have a4 := HMX.out ⟨#[97, 116, 116, 114, 32, 97, 108, 116, 32, 97, 110, 121, 10, 97, 116, 116, 114, 32, 104, 101, 105, 103, 104, 116, 32, 108, 101, 110, 103, 116, 104, 10, 97, 116, 116, 114, 32, 115, 114, 99, 32, 108, 105, 110, 107, 10, 97, 116, 116, 114, 32, 119, 105, 100, 116, 104, 32, 108, 101, 110, 103, 116, 104, 10]⟩ _ rfl (text_5 c5)
        go_wp2
        go_roundw
        case rel => exact ⟨k + 1, by omega, by go_num, rfl, trivial⟩
        case measure => simp [intOf] <;> omega
      cases c6 : (hx.toList == [111, 108])
      rotate_left
      · have a4 := HMX.out ⟨#[97, 116, 116, 114, 32, 115, 116, 97, 114, 116, 32, 110, 117, 109, 98, 101, 114, 10]⟩ _ rfl (text_6 c6)
        go_wp2
        go_roundw
        case rel => exact ⟨k + 1, by omega, by go_num, rfl, trivial⟩
        case measure => simp [intOf] <;> omega
      cases c7 : (hx.toList == [116, 100])
      rotate_left
      · have a4 := HMX.out ⟨#[97, 116, 116, 114, 32, 99, 111, 108, 115, 112, 97, 110, 32, 110, 117, 109, 98, 101, 114, 10, 97, 116, 116, 114, 32, 114, 111, 119, 115, 112, 97, 110, 32, 110, 117, 109, 98, 101, 114, 10]⟩ _ rfl (text_7 c7)
        go_wp2
        go_roundw
        case rel => exact ⟨k + 1, by omega, by go_num, rfl, trivial⟩
        case measure => simp [intOf] <;> omega
      cases c8 : (hx.toList == [116, 104])
      rotate_left
      · have a4 := HMX.out ⟨#[97, 116, 116, 114, 32, 99, 111, 108, 115, 112, 97, 110, 32, 110, 117, 109, 98, 101, 114, 10, 97, 116, 116, 114, 32, 114, 111, 119, 115, 112, 97, 110, 32, 110, 117, 109, 98, 101, 114, 10]⟩ _ rfl (text_8 c8)
        go_wp2
        go_roundw
        case rel => exact ⟨k + 1, by omega, by go_num, rfl, trivial⟩
        case measure => simp [intOf] <;> omega
      cases c9 : (hx.toList == [116, 105, 109, 101])
      rotate_left
      · have a4 := HMX.out ⟨#[97, 116, 116, 114, 32, 100, 97, 116, 101, 116, 105, 109, 101, 32, 97, 110, 121, 10]⟩ _ rfl (text_9 c9)
        go_wp2
        go_roundw
        case rel => exact ⟨k + 1, by omega, by go_num, rfl, trivial⟩
        case measure => simp [intOf] <;> omega
      cases c10 : (hx.toList == [100, 97, 116, 97])
      rotate_left
      · have a4 := HMX.out ⟨#[97, 116, 116, 114, 32, 118, 97, 108, 117, 101, 32, 97, 110, 121, 10]⟩ _ rfl (text_10 c10)
        go_wp2
        go_roundw
        case rel => exact ⟨k + 1, by omega, by go_num, rfl, trivial⟩
        case measure => simp [intOf] <;> omega
      have a5 := HSX.out (text_no c0 c1 c2 c3 c4 c5 c6 c7 c8 c9 c10)
      rw [a5] at a3
      go_wp2
      go_roundw
      case rel => exact ⟨k + 1, by omega, by go_num, rfl, trivial⟩
      case measure => simp [intOf] <;> omega
    · obtain rfl : k = N := by omega
      rw [HTT.out]
      go_upto_region 41 with fail
      go_upto_region 42 with (go_at_call 44; refine (HP.out _).mono ?_; rintro e w3 ⟨B1, d1, B2, d2, B3, d3, B4, d4, F, n9, c9, rfl, ho, hb3⟩)
      obtain ⟨W3, hW3⟩ : ∃ W, W = w3.alloc (.cells #[.slice B1 r.els.length d1, .slice B2 r.glob.length d2, .slice B3 r.schemes.length d3, .bool r.rel, .slice B4 r.drop.length d4, .int .i64 r.depth, .int .i64 r.window] 26) := ⟨_, rfl⟩
      have hb4 : Below wr.heap.size wr W3 := hW3 ▸ hb3.alloc hb3.size _
      have m1 := k2.below hb4
      have m2 : Bl W3 w3.heap.size 26 [.slice B1 r.els.length d1, .slice B2 r.glob.length d2, .slice B3 r.schemes.length d3, .bool r.rel, .slice B4 r.drop.length d4, .int .i64 r.depth, .int .i64 r.window] := hW3 ▸ Bl.new w3 _ _ rfl
      have c0 := m2.cell 0 rfl
      have c1 := m2.cell 1 rfl
      have c2 := m2.cell 2 rfl
      have c3 := m2.cell 3 rfl
      have c4 := m2.cell 4 rfl
      have c5 := m2.cell 5 rfl
      have c6 := m2.cell 6 rfl
      have ho3 : Hid (OwnP W3 wr.heap.size ⟨.slice B1 r.els.length d1, .slice B2 r.glob.length d2, .slice B3 r.schemes.length d3, .slice B4 r.drop.length d4⟩ r F) := Lib.hid (ho.keep (by rw [hW3]; simp) fun k hk => by rw [hW3]; exact Below.heap_alloc _ _ _ (ho.ge k hk).2)
      obtain ⟨s0, s1, s2, s3, s4, s5, s6, s7, s8, s9, s10, s11, s12, s13⟩ := m1.store7 (.slice B1 r.els.length d1) (.slice B2 r.glob.length d2) (.slice B3 r.schemes.length d3) (.bool r.rel) (.slice B4 r.drop.length d4) (.int .i64 r.depth) (.int .i64 r.window)
      have jz := m1.seven (.slice B1 r.els.length d1) (.slice B2 r.glob.length d2) (.slice B3 r.schemes.length d3) (.bool r.rel) (.slice B4 r.drop.length d4) (.int .i64 r.depth) (.int .i64 r.window)
      have hfz := Fr.set7 W3 w.heap.size (.slice B1 r.els.length d1) (.slice B2 r.glob.length d2) (.slice B3 r.schemes.length d3) (.bool r.rel) (.slice B4 r.drop.length d4) (.int .i64 r.depth) (.int .i64 r.window)
      have HW3 := Lib.hid hW3
      have hk1 := k2.lt
      rw [← hW3]
      clear hW3 ho m2
      go_wp2
      refine bodyPost_ret (res_cell2 Tryz.results24 rfl jz Tryz.underlying26 rfl (by kernel_rfl)) rfl ?_
      have hbw := hb02.trans (hb4.mono hb02.size)
      exact HR.out _ _ ⟨_, F, rfl, (ho3.out.keep hfz.size fun x hx => hfz.block x (ho3.out.ge x hx).2 (by have := (ho3.out.ge x hx).1; simp; omega)).low (by omega), hbw.trans (hfz.below hbw.size (by simp))⟩
end Go.Proofs.YtjhimmljanbjcaaGreatDoor.Pz
