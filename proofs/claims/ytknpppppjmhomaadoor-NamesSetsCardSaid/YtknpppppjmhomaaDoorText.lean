/- Trimmed texts, and the fields of a text: what Trim and Fields return, the program's and the reference's. -/
import Derived.Test.YtknpppppjmhomaaDoorProg
import Derived.Test.YtknpppppjmhomaaDoorLib
import Derived.Test.YtknpppppjmhomaaDoorCls
namespace Go.Proofs.YtknpppppjmhomaaDoor.Tx
open Go.RowKit Lb Cls
def strN : Value → Nat | .string s => s.size | _ => 0

theorem bl_blB (c : UInt8) : bl (c.toNat : Int) = blB c := rfl

theorem nBlank8 (c : UInt8) (w : World) : Calls Tryd.prog 61 #[.int .u8 (c.toNat : Int)] w fun e w' => e = .returned (.bool (blB c)) ∧ w = w' := by
  have h := c.toNat_lt
  exact nBlankByte _ w (by omega) (by omega)
theorem rBlank8 (c : UInt8) (w : World) : Calls Tryd.prog 63 #[.int .u8 (c.toNat : Int)] w fun e w' => e = .returned (.bool (blB c)) ∧ w = w' := by
  have h := c.toNat_lt
  exact rBlankByte _ w (by omega) (by omega)

set_option maxHeartbeats 2000000 in
set_option maxRecDepth 100000 in
theorem nTrim (s : ByteArray) (w : World) (hs : s.size ≤ maxLen) : Calls Tryd.prog 16 #[.string s] w fun e w' => e = .returned (.string (str (trimL s.data.toList))) ∧ w = w' := by
  unfold maxLen at hs
  obtain ⟨L, hL⟩ : ∃ L, L = s.data.toList := ⟨_, rfl⟩
  have HL := Lib.hid hL; clear hL
  go_enter Tryd.func16, Tryd.ntmps16
  go_wp2
  go_loop [0] (fun v => ∃ s' : ByteArray, v = .string s' ∧ s'.size ≤ s.size ∧ Hid (frontL s'.data.toList = frontL L)) (fun v => strN v)
  case atStart => exact ⟨s, rfl, by omega, Lib.hid (by rw [HL.out])⟩
  case round =>
    obtain ⟨s', rfl, hle, hfr⟩ := hrel
    have key : (0 < s'.size ∧ ∃ h : 0 < s'.size, blB s'[0] = true) ∨ Hid (s'.data.toList = frontL L) ∧ (s'.size = 0 ∨ ∃ h : 0 < s'.size, blB s'[0] = false) := by
      by_cases h0 : 0 < s'.size
      · cases hb : blB s'[0]
        · exact .inr ⟨Lib.hid (by rw [← hfr.out, front_stop (by rw [size_len]; exact h0) (by rw [at_list] at hb; exact hb)]), .inr ⟨h0, hb⟩⟩
        · exact .inl ⟨h0, h0, hb⟩
      · have hz : s'.size = 0 := by omega
        exact .inr ⟨Lib.hid (by rw [← hfr.out, front_nil (by rw [size_len]; exact hz)]), .inl hz⟩
    rcases key with ⟨h0, h0', hb⟩ | ⟨hst, hex⟩
    · have hne := toList_ne h0
      have hnb := isEmpty_ne h0
      go_wp2_with (go_at_call 61; refine (nBlank8 _ _).mono ?_; rintro e w' ⟨rfl, rfl⟩)
      go_round
      case rel =>
        refine ⟨_, rfl, ?_, Lib.hid ?_⟩
        · rw [extract_str, str_size]; simp; have := size_len s'; omega
        · rw [extract_str, str_toList, ← hfr.out]
          rw [List.take_of_length_le (by simp)]
          exact front_cons (by rw [size_len]; exact h0) (by rw [at_list] at hb; exact hb)
      case measure => simp only [strN]; rw [extract_str, str_size]; simp; have := size_len s'; omega
    · obtain ⟨L1, hL1⟩ : ∃ L1, L1 = s'.data.toList := ⟨_, rfl⟩
      have HL1 := Lib.hid hL1; clear hL1
      have hcase : (s'.toList = [] ∧ s'.size = 0) ∨ (¬ s'.toList = [] ∧ ∃ h : 0 < s'.size, blB s'[0] = false) := by
        rcases hex with h | ⟨h, hb⟩
        · exact .inl ⟨toList_nil h, h⟩
        · exact .inr ⟨toList_ne h, h, hb⟩
      clear hex
      rcases hcase with ⟨he, hz⟩ | ⟨hne, h0, hb⟩
      case' inl => have hnb := isEmpty_nil hz
      case' inr => have hnb := isEmpty_ne h0
      all_goals
        go_wp2_with (go_at_call 61; refine (nBlank8 _ _).mono ?_; rintro e w' ⟨rfl, rfl⟩)
        go_loop [0] (fun v => ∃ t : ByteArray, v = .string t ∧ t.size ≤ s'.size ∧ Hid (backL t.data.toList = backL L1)) (fun v => strN v)
        case atStart => exact ⟨s', rfl, by omega, Lib.hid (by rw [HL1.out])⟩
        case round =>
          obtain ⟨t, rfl, hlt, hbk⟩ := hrel
          have key : (∃ (h0 : 0 < t.size), blB (t[t.size - 1]'(by omega)) = true) ∨ Hid (t.data.toList = backL L1) ∧ (t.size = 0 ∨ ∃ h : 0 < t.size, blB (t[t.size - 1]'(by omega)) = false) := by
            by_cases h0 : 0 < t.size
            · have hl : 0 < t.data.toList.length := by rw [size_len]; exact h0
              cases hb : blB (t[t.size - 1]'(by omega))
              · have hs2 := back_stop hl (by simp only [size_len]; rw [at_list] at hb; exact hb)
                exact .inr ⟨Lib.hid (by rw [← hbk.out, hs2]), .inr ⟨h0, hb⟩⟩
              · exact .inl ⟨h0, hb⟩
            · have hz : t.size = 0 := by omega
              exact .inr ⟨Lib.hid (by rw [← hbk.out, back_nil (by rw [size_len]; exact hz)]), .inl hz⟩
          rcases key with ⟨h0, hb⟩ | ⟨hst2, hex⟩
          · first
            | (exfalso; omega)
            | (skip
               have hne := toList_ne h0
               have hnb := isEmpty_ne h0
               go_wp2_with (go_at_call 61; refine (nBlank8 _ _).mono ?_; rintro e w' ⟨rfl, rfl⟩)
               go_round
               case rel =>
                 refine ⟨_, rfl, ?_, Lib.hid ?_⟩
                 · rw [extract_str, str_size]; simp; omega
                 · rw [extract_str, str_toList, ← hbk.out]
                   have e1 : t.data.toList.length - 1 = t.size - 1 := by rw [size_len]
                   have := back_cons (l := t.data.toList) (by rw [size_len]; exact h0) (by simp only [size_len]; rw [at_list] at hb; exact hb)
                   rw [e1] at this
                   simpa using this
               case measure => simp only [strN]; rw [extract_str, str_size]; simp; omega)
          · have hcase : (t.toList = [] ∧ t.size = 0) ∨ (¬ t.toList = [] ∧ ∃ h : 0 < t.size, blB (t[t.size - 1]'(by omega)) = false) := by
              rcases hex with h | ⟨h, hb⟩
              · exact .inl ⟨toList_nil h, h⟩
              · exact .inr ⟨toList_ne h, h, hb⟩
            clear hex
            have hfin : Hid (t = str (trimL s.data.toList)) := by
              have h1 := hst2.out
              rw [HL1.out, hst.out, HL.out] at h1
              exact Lib.hid (by rw [← str_of t, h1]; rfl)
            clear hst2 hbk hst
            rcases hcase with ⟨he, hz⟩ | ⟨hne, h0, hb⟩
            case' inl => have hnb := isEmpty_nil hz
            case' inr => have hnb := isEmpty_ne h0
            all_goals
              go_wp2_with (go_at_call 61; refine (nBlank8 _ _).mono ?_; rintro e w' ⟨rfl, rfl⟩)
              all_goals (go_ret; exact ⟨rs hfin.out.symm, rfl⟩)

set_option maxHeartbeats 2000000 in
set_option maxRecDepth 100000 in
theorem rTrim (s : ByteArray) (w : World) (hs : s.size ≤ maxLen) : Calls Tryd.prog 24 #[.string s] w fun e w' => e = .returned (.string (str (trimL s.data.toList))) ∧ w = w' := by
  unfold maxLen at hs
  obtain ⟨L, hL⟩ : ∃ L, L = s.data.toList := ⟨_, rfl⟩
  have HL := Lib.hid hL; clear hL
  go_enter Tryd.func24, Tryd.ntmps24
  go_wp2
  go_loop [0] (fun v => ∃ s' : ByteArray, v = .string s' ∧ s'.size ≤ s.size ∧ Hid (frontL s'.data.toList = frontL L)) (fun v => strN v)
  case atStart => exact ⟨s, rfl, by omega, Lib.hid (by rw [HL.out])⟩
  case round =>
    obtain ⟨s', rfl, hle, hfr⟩ := hrel
    have key : (0 < s'.size ∧ ∃ h : 0 < s'.size, blB s'[0] = true) ∨ Hid (s'.data.toList = frontL L) ∧ (s'.size = 0 ∨ ∃ h : 0 < s'.size, blB s'[0] = false) := by
      by_cases h0 : 0 < s'.size
      · cases hb : blB s'[0]
        · exact .inr ⟨Lib.hid (by rw [← hfr.out, front_stop (by rw [size_len]; exact h0) (by rw [at_list] at hb; exact hb)]), .inr ⟨h0, hb⟩⟩
        · exact .inl ⟨h0, h0, hb⟩
      · have hz : s'.size = 0 := by omega
        exact .inr ⟨Lib.hid (by rw [← hfr.out, front_nil (by rw [size_len]; exact hz)]), .inl hz⟩
    rcases key with ⟨h0, h0', hb⟩ | ⟨hst, hex⟩
    · have hne := toList_ne h0
      have hnb := isEmpty_ne h0
      go_wp2_with (go_at_call 63; refine (rBlank8 _ _).mono ?_; rintro e w' ⟨rfl, rfl⟩)
      go_round
      case rel =>
        refine ⟨_, rfl, ?_, Lib.hid ?_⟩
        · rw [extract_str, str_size]; simp; have := size_len s'; omega
        · rw [extract_str, str_toList, ← hfr.out]
          rw [List.take_of_length_le (by simp)]
          exact front_cons (by rw [size_len]; exact h0) (by rw [at_list] at hb; exact hb)
      case measure => simp only [strN]; rw [extract_str, str_size]; simp; have := size_len s'; omega
    · obtain ⟨L1, hL1⟩ : ∃ L1, L1 = s'.data.toList := ⟨_, rfl⟩
      have HL1 := Lib.hid hL1; clear hL1
      have hcase : (s'.toList = [] ∧ s'.size = 0) ∨ (¬ s'.toList = [] ∧ ∃ h : 0 < s'.size, blB s'[0] = false) := by
        rcases hex with h | ⟨h, hb⟩
        · exact .inl ⟨toList_nil h, h⟩
        · exact .inr ⟨toList_ne h, h, hb⟩
      clear hex
      rcases hcase with ⟨he, hz⟩ | ⟨hne, h0, hb⟩
      case' inl => have hnb := isEmpty_nil hz
      case' inr => have hnb := isEmpty_ne h0
      all_goals
        go_wp2_with (go_at_call 63; refine (rBlank8 _ _).mono ?_; rintro e w' ⟨rfl, rfl⟩)
        go_loop [0] (fun v => ∃ t : ByteArray, v = .string t ∧ t.size ≤ s'.size ∧ Hid (backL t.data.toList = backL L1)) (fun v => strN v)
        case atStart => exact ⟨s', rfl, by omega, Lib.hid (by rw [HL1.out])⟩
        case round =>
          obtain ⟨t, rfl, hlt, hbk⟩ := hrel
          have key : (∃ (h0 : 0 < t.size), blB (t[t.size - 1]'(by omega)) = true) ∨ Hid (t.data.toList = backL L1) ∧ (t.size = 0 ∨ ∃ h : 0 < t.size, blB (t[t.size - 1]'(by omega)) = false) := by
            by_cases h0 : 0 < t.size
            · have hl : 0 < t.data.toList.length := by rw [size_len]; exact h0
              cases hb : blB (t[t.size - 1]'(by omega))
              · have hs2 := back_stop hl (by simp only [size_len]; rw [at_list] at hb; exact hb)
                exact .inr ⟨Lib.hid (by rw [← hbk.out, hs2]), .inr ⟨h0, hb⟩⟩
              · exact .inl ⟨h0, hb⟩
            · have hz : t.size = 0 := by omega
              exact .inr ⟨Lib.hid (by rw [← hbk.out, back_nil (by rw [size_len]; exact hz)]), .inl hz⟩
          rcases key with ⟨h0, hb⟩ | ⟨hst2, hex⟩
          · first
            | (exfalso; omega)
            | (skip
               have hne := toList_ne h0
               have hnb := isEmpty_ne h0
               go_wp2_with (go_at_call 63; refine (rBlank8 _ _).mono ?_; rintro e w' ⟨rfl, rfl⟩)
               go_round
               case rel =>
                 refine ⟨_, rfl, ?_, Lib.hid ?_⟩
                 · rw [extract_str, str_size]; simp; omega
                 · rw [extract_str, str_toList, ← hbk.out]
                   have e1 : t.data.toList.length - 1 = t.size - 1 := by rw [size_len]
                   have := back_cons (l := t.data.toList) (by rw [size_len]; exact h0) (by simp only [size_len]; rw [at_list] at hb; exact hb)
                   rw [e1] at this
                   simpa using this
               case measure => simp only [strN]; rw [extract_str, str_size]; simp; omega)
          · have hcase : (t.toList = [] ∧ t.size = 0) ∨ (¬ t.toList = [] ∧ ∃ h : 0 < t.size, blB (t[t.size - 1]'(by omega)) = false) := by
              rcases hex with h | ⟨h, hb⟩
              · exact .inl ⟨toList_nil h, h⟩
              · exact .inr ⟨toList_ne h, h, hb⟩
            clear hex
            have hfin : Hid (t = str (trimL s.data.toList)) := by
              have h1 := hst2.out
              rw [HL1.out, hst.out, HL.out] at h1
              exact Lib.hid (by rw [← str_of t, h1]; rfl)
            clear hst2 hbk hst
            rcases hcase with ⟨he, hz⟩ | ⟨hne, h0, hb⟩
            case' inl => have hnb := isEmpty_nil hz
            case' inr => have hnb := isEmpty_ne h0
            all_goals
              go_wp2_with (go_at_call 63; refine (rBlank8 _ _).mono ?_; rintro e w' ⟨rfl, rfl⟩)
              all_goals (go_ret; exact ⟨rs hfin.out.symm, rfl⟩)
end Go.Proofs.YtknpppppjmhomaaDoor.Tx
