/- The reference's Check of a scheme. -/
import Derived.Test.YteikagdinecfoaaGreatDoorLk
set_option linter.unusedVariables false
set_option linter.unusedSimpArgs false
namespace Go.Proofs.YteikagdinecfoaaGreatDoor.Rh
open Go.RowKit Lb Pd Lw Fm Is Go.Proofs.YteikagdinecfoaaGreatDoor.Lk

set_option maxHeartbeats 1000000 in
set_option maxRecDepth 100000 in
theorem innerC (c : UInt8) (w : World) : Calls Tryz.prog 119 #[.int .u8 (c.toNat : Int)] w fun e w' => e = .returned (.bool (schB c)) ∧ w = w' := by
  have hc := c.toNat_lt
  obtain ⟨n, hn⟩ : ∃ n, n = c.toNat := ⟨_, rfl⟩
  unfold schB
  rw [← hn] at hc ⊢
  have hw : IntKind.i32.wrap (n : Int) = (n : Int) := by rw [IntKind.wrap_i32] <;> omega
  obtain ⟨x, hx⟩ : ∃ x, x = (Cls.up (n : Int) || Cls.lo (n : Int)) := ⟨_, rfl⟩
  obtain ⟨y, hy⟩ : ∃ y, y = Cls.dg (n : Int) := ⟨_, rfl⟩
  have HX : Hid (∀ W, Calls Tryz.prog 170 #[.int .i32 (n : Int)] W fun e w' => e = .returned (.bool x) ∧ W = w') := Lib.hid fun W => hx ▸ Cls.rLetter _ W
  have HY : Hid (∀ W, Calls Tryz.prog 171 #[.int .i32 (n : Int)] W fun e w' => e = .returned (.bool y) ∧ W = w') := Lib.hid fun W => hy ▸ Cls.rDigit _ W
  rw [← hx, ← hy]
  clear hx hy hn
  cases x
  · cases y
    · cases h1 : ((n : Int) == 43)
      · cases h2 : ((n : Int) == 45)
        · cases h3 : ((n : Int) == 46)
          · go_enter Tryz.func119, Tryz.ntmps119
            go_wp2_with (first | (go_at_call 170; refine (HX.out _).mono ?_; rintro e w' ⟨rfl, rfl⟩) | (go_at_call 171; refine (HY.out _).mono ?_; rintro e w' ⟨rfl, rfl⟩))
            go_ret
            exact ⟨rb (by simp [*]), rfl⟩
          · go_enter Tryz.func119, Tryz.ntmps119
            go_wp2_with (first | (go_at_call 170; refine (HX.out _).mono ?_; rintro e w' ⟨rfl, rfl⟩) | (go_at_call 171; refine (HY.out _).mono ?_; rintro e w' ⟨rfl, rfl⟩))
            go_ret
            exact ⟨rb (by simp [*]), rfl⟩
        · go_enter Tryz.func119, Tryz.ntmps119
          go_wp2_with (first | (go_at_call 170; refine (HX.out _).mono ?_; rintro e w' ⟨rfl, rfl⟩) | (go_at_call 171; refine (HY.out _).mono ?_; rintro e w' ⟨rfl, rfl⟩))
          go_ret
          exact ⟨rb (by simp [*]), rfl⟩
      · go_enter Tryz.func119, Tryz.ntmps119
        go_wp2_with (first | (go_at_call 170; refine (HX.out _).mono ?_; rintro e w' ⟨rfl, rfl⟩) | (go_at_call 171; refine (HY.out _).mono ?_; rintro e w' ⟨rfl, rfl⟩))
        go_ret
        exact ⟨rb (by simp [*]), rfl⟩
    · go_enter Tryz.func119, Tryz.ntmps119
      go_wp2_with (first | (go_at_call 170; refine (HX.out _).mono ?_; rintro e w' ⟨rfl, rfl⟩) | (go_at_call 171; refine (HY.out _).mono ?_; rintro e w' ⟨rfl, rfl⟩))
      go_ret
      exact ⟨rb (by simp [*]), rfl⟩
  · go_enter Tryz.func119, Tryz.ntmps119
    go_wp2_with (first | (go_at_call 170; refine (HX.out _).mono ?_; rintro e w' ⟨rfl, rfl⟩) | (go_at_call 171; refine (HY.out _).mono ?_; rintro e w' ⟨rfl, rfl⟩))
    go_ret
    exact ⟨rb (by simp [*]), rfl⟩

theorem up_no {c : UInt8} (h : Cls.up (c.toNat : Int) = false) : lowB c = c := by
  refine lowB_no (fun h2 => ?_)
  unfold Cls.up at h
  rw [Bool.and_eq_false_iff, decide_eq_false_iff_not, decide_eq_false_iff_not] at h
  omega
theorem up_yes {c : UInt8} (h : Cls.up (c.toNat : Int) = true) : lowB c ≠ c := fun e => by
  unfold Cls.up at h
  rw [Bool.and_eq_true, decide_eq_true_iff, decide_eq_true_iff] at h
  have h1 := lowB_up (c := c) (by omega) (by omega)
  rw [e] at h1
  omega
theorem low_same {s : ByteArray} (h : ∀ j (h : j < s.size), Cls.up (s[j].toNat : Int) = false) : s = lowS s := by
  have h1 : lowL s.data.toList = s.data.toList := by
    unfold lowL
    conv => rhs; rw [← List.map_id s.data.toList]
    refine List.map_congr_left fun c hc => ?_
    obtain ⟨j, hj, rfl⟩ := List.getElem_of_mem hc
    have hj' : j < s.size := by rw [← size_len]; exact hj
    have h2 := h j hj'
    rw [at_list] at h2
    exact up_no h2
  unfold lowS
  rw [h1, str_of]
theorem low_not {s : ByteArray} {j : Nat} (h : j < s.size) (hu : Cls.up (s[j].toNat : Int) = true) : s ≠ lowS s := fun e => by
  have h1 : s.data.toList = lowL s.data.toList := by
    conv => lhs; rw [e]
    rfl
  have hj : j < s.data.toList.length := by rw [size_len]; exact h
  have h2 : s.data.toList[j] = lowB s.data.toList[j] := by
    have h3 : s.data.toList[j]? = (lowL s.data.toList)[j]? := by rw [← h1]
    rw [lowL, List.getElem?_map, List.getElem?_eq_getElem hj] at h3
    exact Option.some.inj h3
  rw [at_list] at hu
  exact up_yes hu h2.symm

set_option maxHeartbeats 4000000 in
set_option maxRecDepth 100000 in
theorem rSchemeC (s : ByteArray) (w : World) : Calls Tryz.prog 58 #[.string s] w fun e w' => e = .returned (.int .i64 (schCode (schemeB s))) ∧ Below w.heap.size w w' := by
  have hsl := size_len s
  by_cases h0 : s.size = 0
  · have hw : Hid (schemeB s = false) := Lib.hid (by unfold schemeB; rw [h0]; rfl)
    go_enter Tryz.func58, Tryz.ntmps58
    go_wp2
    go_ret
    exact ⟨ri (by rw [hw.out]; rfl), Below.refl _ _⟩
  · by_cases h1 : 100 < s.size
    · have hw : Hid (schemeB s = false) := Lib.hid (by unfold schemeB; have : ¬ s.size ≤ 100 := by omega
                                                       simp [this])
      go_enter Tryz.func58, Tryz.ntmps58
      go_wp2
      go_ret
      exact ⟨ri (by rw [hw.out]; rfl), Below.refl _ _⟩
    · have hh := head_at (s := s) (by omega)
      have hpos : 0 < s.size := by omega
      cases hsm : smB s[0]
      · have hw : Hid (schemeB s = false) := Lib.hid (by unfold schemeB; rw [hh, hsm]; simp)
        have hf := smB_f hsm
        clear hsm hh
        by_cases h2 : (s[0].toNat : Int) < 97
        · go_enter Tryz.func58, Tryz.ntmps58
          go_wp2
          go_ret
          exact ⟨ri (by rw [hw.out]; rfl), Below.refl _ _⟩
        · have h3 : (122 : Int) < s[0].toNat := by omega
          go_enter Tryz.func58, Tryz.ntmps58
          go_wp2
          go_ret
          exact ⟨ri (by rw [hw.out]; rfl), Below.refl _ _⟩
      · obtain ⟨t1, t2⟩ := smB_t hsm
        have h2 : ¬ (s[0].toNat : Int) < 97 := by omega
        have h3 : ¬ (122 : Int) < s[0].toNat := by omega
        have HW : Hid (schemeB s = (decide (s = lowS s) && s.data.toList.all schB && !hasT neverL s)) := Lib.hid (by
          unfold schemeB
          rw [hh, hsm, decide_eq_true (by omega : 1 ≤ s.size), decide_eq_true (by omega : s.size ≤ 100)]
          simp)
        have hsi : (s.size : Int) ≤ 9223372036854775807 := by omega
        clear hsm hh t1 t2
        go_enter Tryz.func58, Tryz.ntmps58
        go_wp2
        go_loopw [26] (fun i wr => ∃ k : Nat, k ≤ s.size ∧ i = .int .i64 k ∧ wr = w ∧ Hid (∀ j (hj : j < k) (h : j < s.size), schB s[j] = true ∧ Cls.up (s[j].toNat : Int) = false)) (fun i _ => s.size - (intOf i).toNat)
        case atStart => exact ⟨0, by omega, rfl, rfl, Lib.hid (fun j hj => by omega)⟩
        case round =>
          obtain ⟨k, hk, rfl, rfl, hall⟩ := hrel
          have hk0 : (0 : Int) ≤ (k : Int) := by omega
          by_cases hlt : k < s.size
          · have hcb := s[k].toNat_lt
            have hwr : IntKind.i32.wrap (s[k].toNat : Int) = (s[k].toNat : Int) := by rw [IntKind.wrap_i32] <;> omega
            cases hb : schB s[k]
            · have hw : Hid (schemeB s = false) := Lib.hid (by
                rw [HW.out]
                have : s.data.toList.all schB = false := by
                  rw [List.all_eq_false]
                  exact ⟨s[k], by rw [at_list]; exact List.getElem_mem _, by rw [hb]; decide⟩
                rw [this]; simp)
              have HB : Hid (∀ W, Calls Tryz.prog 119 #[.int .u8 (s[k].toNat : Int)] W fun e w' => e = .returned (.bool false) ∧ W = w') := Lib.hid fun W => hb ▸ innerC s[k] W
              clear hb
              go_wp2_with (go_at_call 119; refine (HB.out _).mono ?_; rintro e w' ⟨rfl, rfl⟩)
              go_ret
              exact ⟨ri (by rw [hw.out]; rfl), Below.refl _ _⟩
            · have HB : Hid (∀ W, Calls Tryz.prog 119 #[.int .u8 (s[k].toNat : Int)] W fun e w' => e = .returned (.bool true) ∧ W = w') := Lib.hid fun W => hb ▸ innerC s[k] W
              have HBB := Lib.hid hb
              cases hu : Cls.up (s[k].toNat : Int)
              · have HU : Hid (∀ W, Calls Tryz.prog 120 #[.int .i32 (s[k].toNat : Int)] W fun e w' => e = .returned (.bool false) ∧ W = w') := Lib.hid fun W => hu ▸ Cls.rUpper _ W
                have HUU := Lib.hid hu
                clear hb hu
                go_wp2_with (first
                  | (go_at_call 119; refine (HB.out _).mono ?_; rintro e w' ⟨rfl, rfl⟩)
                  | (go_at_call 120; refine (HU.out _).mono ?_; rintro e w' ⟨rfl, rfl⟩))
                go_roundw
                case rel => exact ⟨k + 1, by omega, by go_num, (by first | rfl | trivial), Lib.hid (fun j hj h => by
                  by_cases e : j = k
                  · subst e; exact ⟨HBB.out, HUU.out⟩
                  · exact hall.out j (by omega) h)⟩
                case measure => simp [intOf] <;> omega
              · have HU : Hid (∀ W, Calls Tryz.prog 120 #[.int .i32 (s[k].toNat : Int)] W fun e w' => e = .returned (.bool true) ∧ W = w') := Lib.hid fun W => hu ▸ Cls.rUpper _ W
                have hw : Hid (schemeB s = false) := Lib.hid (by rw [HW.out, decide_eq_false (low_not hlt hu)]; rfl)
                clear hb hu
                go_wp2_with (first
                  | (go_at_call 119; refine (HB.out _).mono ?_; rintro e w' ⟨rfl, rfl⟩)
                  | (go_at_call 120; refine (HU.out _).mono ?_; rintro e w' ⟨rfl, rfl⟩))
                go_ret
                exact ⟨ri (by rw [hw.out]; rfl), Below.refl _ _⟩
          · have HW2 : Hid (schemeB s = !hasT neverL s) := Lib.hid (by
              rw [HW.out, decide_eq_true (low_same fun j h => (hall.out j (by omega) h).2)]
              have : s.data.toList.all schB = true := by
                rw [List.all_eq_true]
                intro c hc
                obtain ⟨j, hj, rfl⟩ := List.getElem_of_mem hc
                have hj' : j < s.size := by rw [← size_len]; exact hj
                have := (hall.out j (by omega) hj').1
                rw [at_list] at this
                exact this
              rw [this]; rfl)
            clear hall HW
            obtain ⟨W1, hW1⟩ : ∃ W, W = wr.alloc (.cells #[.string ⟨#[106, 97, 118, 97, 115, 99, 114, 105, 112, 116]⟩, .string ⟨#[100, 97, 116, 97]⟩, .string ⟨#[118, 98, 115, 99, 114, 105, 112, 116]⟩, .string ⟨#[98, 108, 111, 98]⟩, .string ⟨#[102, 105, 108, 101]⟩, .string ⟨#[102, 105, 108, 101, 115, 121, 115, 116, 101, 109]⟩, .string ⟨#[97, 98, 111, 117, 116]⟩] 9) := ⟨_, rfl⟩
            have hb2 : Below wr.heap.size wr W1 := hW1 ▸ (Below.refl _ _).alloc (Nat.le_refl _) _
            have HNM : Hid (∀ j (hj : j < 7), W1.cell? ⟨wr.heap.size, j, none⟩ = some (.string (neverL[j]'(by show j < 7; exact hj)))) := Lib.hid fun j hj => by
              have hk : W1.heap[wr.heap.size]? = some (.cells #[.string ⟨#[106, 97, 118, 97, 115, 99, 114, 105, 112, 116]⟩, .string ⟨#[100, 97, 116, 97]⟩, .string ⟨#[118, 98, 115, 99, 114, 105, 112, 116]⟩, .string ⟨#[98, 108, 111, 98]⟩, .string ⟨#[102, 105, 108, 101]⟩, .string ⟨#[102, 105, 108, 101, 115, 121, 115, 116, 101, 109]⟩, .string ⟨#[97, 98, 111, 117, 116]⟩] 9 (0, 0)) := by rw [hW1]; exact heap_alloc_new wr _
              have e : (#[.string ⟨#[106, 97, 118, 97, 115, 99, 114, 105, 112, 116]⟩, .string ⟨#[100, 97, 116, 97]⟩, .string ⟨#[118, 98, 115, 99, 114, 105, 112, 116]⟩, .string ⟨#[98, 108, 111, 98]⟩, .string ⟨#[102, 105, 108, 101]⟩, .string ⟨#[102, 105, 108, 101, 115, 121, 115, 116, 101, 109]⟩, .string ⟨#[97, 98, 111, 117, 116]⟩] : Array Value) = (neverL.map Value.string).toArray := rfl
              rw [e] at hk
              simp [World.cell?, hk, List.getElem?_eq_getElem (show j < neverL.length from hj)]
            have HW1 := Lib.hid hW1
            clear hW1
            go_wp2
            rw [← HW1.out]
            go_loopw [44] (fun i wx => ∃ k : Nat, k ≤ 7 ∧ i = .int .i64 k ∧ wx = W1 ∧ Hid (∀ j (hj : j < k) (h : j < neverL.length), neverL[j] ≠ s)) (fun i _ => 7 - (intOf i).toNat)
            case atStart => exact ⟨0, by omega, rfl, rfl, Lib.hid (fun j hj => by omega)⟩
            case round =>
              obtain ⟨m, hm, rfl, rfl, hnone⟩ := hrel
              by_cases hlt2 : m < 7
              · have hb3 : (m : Int) < (7 : Int) := by omega
                have hb0 : (0 : Int) ≤ (m : Int) := by omega
                have hx := HNM.out m hlt2
                obtain ⟨t, ht⟩ : ∃ t, t = neverL[m]'(by show m < 7; exact hlt2) := ⟨_, rfl⟩
                rw [← ht] at hx
                by_cases he : s = t
                · have hw : Hid (schemeB s = false) := Lib.hid (by
                    rw [HW2.out, hasT_iff.2 (by rw [he, ht]; exact List.getElem_mem _)]; rfl)
                  have q1 := toList_eq_of he
                  clear he ht
                  go_wp2
                  go_ret
                  exact ⟨ri (by rw [hw.out]; rfl), hb2⟩
                · have q1 := toList_ne_of he
                  have HE : Hid (neverL[m]'(by show m < 7; exact hlt2) ≠ s) := Lib.hid (fun h9 => he (by rw [← h9, ht]))
                  clear he ht
                  go_wp2
                  go_roundw
                  case rel => exact ⟨m + 1, by omega, by go_num, (by first | rfl | trivial), Lib.hid (fun j hj h => by
                    by_cases e : j = m
                    · subst e; exact HE.out
                    · exact hnone.out j (by omega) h)⟩
                  case measure => simp [intOf] <;> omega
              · have hw : Hid (schemeB s = true) := Lib.hid (by
                  rw [HW2.out]
                  have : hasT neverL s = false := by
                    cases hq : hasT neverL s
                    · rfl
                    · obtain ⟨j, hj, he⟩ := List.getElem_of_mem (hasT_iff.1 hq)
                      exact absurd he (hnone.out j (by have : neverL.length = 7 := rfl; omega) hj)
                  rw [this]; rfl)
                obtain rfl : m = 7 := by omega
                go_wp2
                go_ret
                exact ⟨ri (by rw [hw.out]; rfl), hb2⟩
end Go.Proofs.YteikagdinecfoaaGreatDoor.Rh
