/- Numbers in a policy's text: the program's number and once, the reference's number. -/
import Derived.Test.YteikagdinecfoaaGreatDoorPt
set_option linter.unusedVariables false
set_option linter.unusedSimpArgs false
namespace Go.Proofs.YteikagdinecfoaaGreatDoor.Pn
open Go.RowKit Lb Gr Pd Fl Go.Proofs.YteikagdinecfoaaGreatDoor.Pm Bk Is Go.Proofs.YteikagdinecfoaaGreatDoor.Fm Pt
attribute [local go_sem ↓] Go.wp_at_zero Go.wp_at_succ

def numR (s : ByteArray) : Int := if numB s then numV s.data.toList else 0
theorem ret2 {a b : Int} {x y : Bool} (h : b = a) (k : y = x) : Ending.returned (.tuple #[.int .i64 a, .bool x]) = .returned (.tuple #[.int .i64 b, .bool y]) := by rw [h, k]
theorem numR_no {s : ByteArray} (h : numB s = false) : numR s = 0 := by unfold numR; rw [h]; rfl
theorem numR_yes {s : ByteArray} (h : numB s = true) : numR s = numV s.data.toList := by unfold numR; rw [h]; rfl
theorem num_snoc {s : ByteArray} {k : Nat} (h : k < s.size) : numV (s.data.toList.take (k + 1)) = 10 * numV (s.data.toList.take k) + ((s[k].toNat : Int) - 48) := by
  rw [List.take_succ_eq_append_getElem (by rw [size_len]; exact h), numV_snoc, at_list h]
theorem all_snoc {s : ByteArray} {k : Nat} (h : k < s.size) : (s.data.toList.take (k + 1)).all dgB = ((s.data.toList.take k).all dgB && dgB s[k]) := by
  rw [List.take_succ_eq_append_getElem (by rw [size_len]; exact h), List.all_append, at_list h]; simp

set_option maxHeartbeats 2000000 in
set_option maxRecDepth 100000 in
theorem numC (s : ByteArray) (w : World) : Calls Tryz.prog 165 #[.string s] w fun e w' => e = .returned (.tuple #[.int .i64 (numR s), .bool (numB s)]) ∧ w = w' := by
  have hsl := size_len s
  by_cases h0 : s.size = 0
  · have hb : numB s = false := by unfold numB; rw [h0]; rfl
    have H1 := Lib.hid hb
    have H2 := Lib.hid (numR_no hb)
    have e0 := toList_nil h0
    clear hb
    go_enter Tryz.func165, Tryz.ntmps165
    go_wp2
    go_ret2
    exact ⟨ret2 H2.out H1.out, rfl⟩
  · by_cases h1 : 9 < s.size
    · have hb : numB s = false := by
        unfold numB; have : ¬ s.size ≤ 9 := by omega
        simp [this]
      have H1 := Lib.hid hb
      have H2 := Lib.hid (numR_no hb)
      have e0 := toList_ne (s := s) (by omega)
      have e1 := isEmpty_ne (s := s) (by omega)
      clear hb
      go_enter Tryz.func165, Tryz.ntmps165
      go_wp2
      go_ret2
      exact ⟨ret2 H2.out H1.out, rfl⟩
    · have HW : Hid (numB s = s.data.toList.all dgB) := Lib.hid (by
        unfold numB
        have h2 : 1 ≤ s.size := by omega
        have h3 : s.size ≤ 9 := by omega
        simp [h2, h3])
      have e0 := toList_ne (s := s) (by omega)
      have e1 := isEmpty_ne (s := s) (by omega)
      have HSL := Lib.hid hsl
      have HV0 : Hid (numV (s.data.toList.take 0) = 0 ∧ (s.data.toList.take 0).all dgB = true) := Lib.hid ⟨by simp [numV], by simp⟩
      clear hsl
      go_enter Tryz.func165, Tryz.ntmps165
      go_wp2
      go_loopw [4, 15] (fun v i wr => ∃ (k : Nat) (V : Int), k ≤ s.size ∧ i = .int .i64 k ∧ v = .int .i64 V ∧ Hid (V = numV (s.data.toList.take k) ∧ (s.data.toList.take k).all dgB = true) ∧ wr = w) (fun _ i _ => s.size - (intOf i).toNat)
      case atStart => exact ⟨0, 0, by omega, rfl, rfl, Lib.hid ⟨HV0.out.1.symm, HV0.out.2⟩, rfl⟩
      case round =>
        obtain ⟨k, V, hk, rfl, rfl, hst, rfl⟩ := hrel
        by_cases hlt : k < s.size
        · cases hd : dgB s[k]
          · have hb : numB s = false := by
              rw [HW.out, List.all_eq_false]
              exact ⟨s[k], by rw [at_list hlt]; exact List.getElem_mem _, by rw [hd]; simp⟩
            have H1 := Lib.hid hb
            have H2 := Lib.hid (numR_no hb)
            have hdf := dgB_f hd
            have HDG : Hid (∀ W, Calls Tryz.prog 200 #[.int .i32 (s[k].toNat : Int)] W fun e w2 => e = .returned (.bool false) ∧ W = w2) := Lib.hid fun W => by have h := Go.Proofs.YteikagdinecfoaaGreatDoor.Cls.nDigit (s[k].toNat : Int) W; rw [Go.Proofs.YteikagdinecfoaaGreatDoor.Cls.dg_f (by omega)] at h; exact h
            have c1 : (0 : Int) ≤ (s[k].toNat : Int) := by omega
            have c2 : (s[k].toNat : Int) ≤ 255 := by have := s[k].toNat_lt; omega
            clear hb hd
            clear hdf
            go_wp2_with (go_at_call 200; refine (HDG.out _).mono ?_; rintro e w7 ⟨rfl, rfl⟩)
            go_ret2
            exact ⟨ret2 H2.out H1.out, rfl⟩
          · have hdt := dgB_t hd
            have hv := numV_le k (s.data.toList.take k) (by rw [List.length_take, HSL.out]; omega) hst.out.2
            have hp : (10 : Int) ^ k ≤ 100000000 := by
              have : ∀ j : Nat, j ≤ 8 → (10 : Int) ^ j ≤ 100000000 := by decide
              exact this k (by omega)
            rw [← hst.out.1] at hv
            have v1 : (0 : Int) ≤ V := hv.1
            have v2 : V < 100000000 := by omega
            have hnx : Hid (10 * V + ((s[k].toNat : Int) - 48) = numV (s.data.toList.take (k + 1)) ∧ (s.data.toList.take (k + 1)).all dgB = true) := Lib.hid ⟨by rw [num_snoc hlt, hst.out.1], by rw [all_snoc hlt, hst.out.2, hd]; rfl⟩
            have HDG : Hid (∀ W, Calls Tryz.prog 200 #[.int .i32 (s[k].toNat : Int)] W fun e w2 => e = .returned (.bool true) ∧ W = w2) := Lib.hid fun W => by have h := Go.Proofs.YteikagdinecfoaaGreatDoor.Cls.nDigit (s[k].toNat : Int) W; rw [Go.Proofs.YteikagdinecfoaaGreatDoor.Cls.dg_t (by omega) (by omega)] at h; exact h
            obtain ⟨c, hc⟩ : ∃ c, c = s[k].toNat := ⟨_, rfl⟩
            have b1 : ¬ (s[k].toNat : Int) < 48 := by omega
            have b2 : ¬ (57 : Int) < (s[k].toNat : Int) := by omega
            have b3 : (48 : Int) ≤ (s[k].toNat : Int) := by omega
            have b4 : (s[k].toNat : Int) ≤ 57 := by omega
            clear hd hv hp hdt hc
            go_wp2_with (go_at_call 200; refine (HDG.out _).mono ?_; rintro e w7 ⟨rfl, rfl⟩)
            go_roundw
            case rel => exact ⟨k + 1, _, by omega, by go_num, rfl, hnx, (by first | rfl | trivial)⟩
            case measure => simp [intOf] <;> omega
        · have hk2 : k = s.size := by omega
          have hb : numB s = true ∧ numR s = V := by
            have h9 : s.data.toList.take k = s.data.toList := List.take_of_length_le (by rw [HSL.out]; omega)
            have h8 := hst.out
            rw [h9] at h8
            have h7 : numB s = true := by rw [HW.out]; exact h8.2
            exact ⟨h7, by rw [numR_yes h7, h8.1]⟩
          have H1 := Lib.hid hb
          clear hb hk2
          go_wp2
          go_ret2
          exact ⟨ret2 H1.out.2 H1.out.1, rfl⟩

set_option maxHeartbeats 2000000 in
set_option maxRecDepth 100000 in
theorem rNumC (s : ByteArray) (w : World) : Calls Tryz.prog 166 #[.string s] w fun e w' => e = .returned (.tuple #[.int .i64 (numR s), .bool (numB s)]) ∧ w = w' := by
  have hsl := size_len s
  by_cases h0 : s.size = 0
  · have hb : numB s = false := by unfold numB; rw [h0]; rfl
    have H1 := Lib.hid hb
    have H2 := Lib.hid (numR_no hb)
    have e0 := toList_nil h0
    clear hb
    go_enter Tryz.func166, Tryz.ntmps166
    go_wp2
    go_ret2
    exact ⟨ret2 H2.out H1.out, rfl⟩
  · by_cases h1 : 9 < s.size
    · have hb : numB s = false := by
        unfold numB; have : ¬ s.size ≤ 9 := by omega
        simp [this]
      have H1 := Lib.hid hb
      have H2 := Lib.hid (numR_no hb)
      have e0 := toList_ne (s := s) (by omega)
      have e1 := isEmpty_ne (s := s) (by omega)
      clear hb
      go_enter Tryz.func166, Tryz.ntmps166
      go_wp2
      go_ret2
      exact ⟨ret2 H2.out H1.out, rfl⟩
    · have HW : Hid (numB s = s.data.toList.all dgB) := Lib.hid (by
        unfold numB
        have h2 : 1 ≤ s.size := by omega
        have h3 : s.size ≤ 9 := by omega
        simp [h2, h3])
      have e0 := toList_ne (s := s) (by omega)
      have e1 := isEmpty_ne (s := s) (by omega)
      have HSL := Lib.hid hsl
      have HV0 : Hid (numV (s.data.toList.take 0) = 0 ∧ (s.data.toList.take 0).all dgB = true) := Lib.hid ⟨by simp [numV], by simp⟩
      clear hsl
      go_enter Tryz.func166, Tryz.ntmps166
      go_wp2
      go_loopw [4, 16] (fun v i wr => ∃ (k : Nat) (V : Int), k ≤ s.size ∧ i = .int .i64 k ∧ v = .int .i64 V ∧ Hid (V = numV (s.data.toList.take k) ∧ (s.data.toList.take k).all dgB = true) ∧ wr = w) (fun _ i _ => s.size - (intOf i).toNat)
      case atStart => exact ⟨0, 0, by omega, rfl, rfl, Lib.hid ⟨HV0.out.1.symm, HV0.out.2⟩, rfl⟩
      case round =>
        obtain ⟨k, V, hk, rfl, rfl, hst, rfl⟩ := hrel
        by_cases hlt : k < s.size
        · cases hd : dgB s[k]
          · have hb : numB s = false := by
              rw [HW.out, List.all_eq_false]
              exact ⟨s[k], by rw [at_list hlt]; exact List.getElem_mem _, by rw [hd]; simp⟩
            have H1 := Lib.hid hb
            have H2 := Lib.hid (numR_no hb)
            have hdf := dgB_f hd
            have c1 : (0 : Int) ≤ (s[k].toNat : Int) := by omega
            have c2 : (s[k].toNat : Int) ≤ 255 := by have := s[k].toNat_lt; omega
            clear hb hd
            rcases hdf with hdf | hdf
            
            · have b1 : (s[k].toNat : Int) < 48 := by omega
              go_wp2
              go_ret2
              exact ⟨ret2 H2.out H1.out, rfl⟩
            · have b1 : ¬ (s[k].toNat : Int) < 48 := by omega
              have b2 : (57 : Int) < (s[k].toNat : Int) := by omega
              go_wp2
              go_ret2
              exact ⟨ret2 H2.out H1.out, rfl⟩
          · have hdt := dgB_t hd
            have hv := numV_le k (s.data.toList.take k) (by rw [List.length_take, HSL.out]; omega) hst.out.2
            have hp : (10 : Int) ^ k ≤ 100000000 := by
              have : ∀ j : Nat, j ≤ 8 → (10 : Int) ^ j ≤ 100000000 := by decide
              exact this k (by omega)
            rw [← hst.out.1] at hv
            have v1 : (0 : Int) ≤ V := hv.1
            have v2 : V < 100000000 := by omega
            have hnx : Hid (10 * V + ((s[k].toNat : Int) - 48) = numV (s.data.toList.take (k + 1)) ∧ (s.data.toList.take (k + 1)).all dgB = true) := Lib.hid ⟨by rw [num_snoc hlt, hst.out.1], by rw [all_snoc hlt, hst.out.2, hd]; rfl⟩
            obtain ⟨c, hc⟩ : ∃ c, c = s[k].toNat := ⟨_, rfl⟩
            have b1 : ¬ (s[k].toNat : Int) < 48 := by omega
            have b2 : ¬ (57 : Int) < (s[k].toNat : Int) := by omega
            have b3 : (48 : Int) ≤ (s[k].toNat : Int) := by omega
            have b4 : (s[k].toNat : Int) ≤ 57 := by omega
            clear hd hv hp hdt hc
            go_wp2
            go_roundw
            case rel => exact ⟨k + 1, _, by omega, by go_num, rfl, hnx, (by first | rfl | trivial)⟩
            case measure => simp [intOf] <;> omega
        · have hk2 : k = s.size := by omega
          have hb : numB s = true ∧ numR s = V := by
            have h9 : s.data.toList.take k = s.data.toList := List.take_of_length_le (by rw [HSL.out]; omega)
            have h8 := hst.out
            rw [h9] at h8
            have h7 : numB s = true := by rw [HW.out]; exact h8.2
            exact ⟨h7, by rw [numR_yes h7, h8.1]⟩
          have H1 := Lib.hid hb
          clear hb hk2
          go_wp2
          go_ret2
          exact ⟨ret2 H1.out.2 H1.out.1, rfl⟩

set_option maxHeartbeats 1000000 in
set_option maxRecDepth 100000 in
/-- once, on a place of a reader's block -/
theorem onceC (g i : Nat) (b : Bool) (w : World) (hc : w.cell? ⟨g, i, none⟩ = some (.bool b)) (hf : w.frozen? ⟨g, i, none⟩ = false) : Calls Tryz.prog 164 #[.pointer (some ⟨g, i, none⟩)] w fun e w' => e = .returned (.bool (!b)) ∧ w' = w.setCell ⟨g, i, none⟩ (.bool true) := by
  go_enter Tryz.func164, Tryz.ntmps164
  go_wp2
  go_ret
  exact ⟨rfl, rfl⟩
end Go.Proofs.YteikagdinecfoaaGreatDoor.Pn
