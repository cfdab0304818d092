/- Package token: valid, name, attrs, Check: what may be. No condition but that lists are no longer than memory. -/
import Derived.Test.YtejpdbiiikcmmaaGreatDoorCs
import Derived.Test.YtejpdbiiikcmmaaGreatDoorKf
import Derived.Test.YtejpdbiiikcmmaaGreatDoorUv
set_option linter.unusedVariables false
set_option linter.unusedSimpArgs false
namespace Go.Proofs.YtejpdbiiikcmmaaGreatDoor.Tk
open Go.RowKit Lb Gr Pd Fpl Kf Ub Mp Lw Go.Proofs.YtejpdbiiikcmmaaGreatDoor.Pm Bk
attribute [local go_sem ↓] Go.wp_at_zero Go.wp_at_succ

set_option maxHeartbeats 4000000 in
set_option maxRecDepth 100000 in
theorem validC (s : ByteArray) (hs : s.size ≤ maxLen) (w : World) : Calls Tryz.prog 100 #[.string s] w fun e w' => e = .returned (.bool (validB s.data.toList)) ∧ Below w.heap.size w w' := by
  obtain ⟨cap, o, hcap, hconv, hbyt⟩ := byt_of_string (P := Tryz.prog) w 9 139 5 s Tryz.underlying9 Tryz.underlying139 Tryz.underlying5
  obtain ⟨W, hW⟩ : ∃ W, W = (w.alloc o).drew := ⟨_, rfl⟩
  have hb0 : Below w.heap.size w W := hW ▸ ((Below.refl w.heap.size w).alloc (Nat.le_refl _) o).drew
  have hby : Byt W w.heap.size 5 s.data.toList := hW ▸ hbyt
  rw [← hW] at hconv
  have HV := ValidC W w.heap.size cap s.data.toList (by rw [size_len]; exact hs) (by rw [size_len]; exact hcap) (fun j hj => hby.cell hj)
  rw [size_len] at HV
  have HV := Lib.hid HV
  clear hW hbyt hby
  go_enter Tryz.func100, Tryz.ntmps100
  go_wp2_with (go_at_call 169; refine HV.out.mono ?_; rintro e w1 ⟨rfl, hb1⟩)
  go_ret
  exact ⟨rfl, hb0.trans (hb1.mono hb0.size)⟩

/-! ### a name -/
theorem blC (c : UInt8) (w : World) : Calls Tryz.prog 170 #[.int .u8 (c.toNat : Int)] w fun e w' => e = .returned (.bool (blB c)) ∧ w = w' := by
  have h9 := c.toNat_lt
  have hb : blB c = ((c.toNat : Int) == 9 || (c.toNat : Int) == 10 || (c.toNat : Int) == 12 || (c.toNat : Int) == 32) := rfl
  rw [hb]
  generalize (c.toNat : Int) = k
  clear hb h9
  cases h1 : (k == 9) <;> cases h2 : (k == 10) <;> cases h3 : (k == 12) <;> cases h4 : (k == 32) <;> (
    go_enter Tryz.func170, Tryz.ntmps170
    go_wp2
    go_ret
    exact ⟨rb (by simp), rfl⟩)

theorem nameP_nil (attr : Bool) {s : ByteArray} (h : s.size = 0) : nameP attr s.data.toList = false := by
  have : s.data.toList = [] := List.eq_nil_of_length_eq_zero (by rw [size_len]; exact h)
  rw [this]; rfl
theorem nameP_inv (attr : Bool) {l : List UInt8} (h : validB l = false) : nameP attr l = false := by
  unfold nameP; rw [h]; simp
theorem nameP_head {l : List UInt8} (h0 : 0 < l.length) (h : smB l[0] = false) : nameP false l = false := by
  unfold nameP
  have : l.getD 0 0 = l[0] := by simp [List.getD, List.getElem?_eq_getElem h0]
  rw [this, h]; simp
theorem nameP_from (attr : Bool) {l : List UInt8} (h0 : 0 < l.length) (hv : validB l = true) (h : attr = true ∨ smB l[0] = true) : nameP attr l = nameFrom attr 0 (l.drop 0) := by
  unfold nameP
  have h1 : l.getD 0 0 = l[0] := by simp [List.getD, List.getElem?_eq_getElem h0]
  have h2 : l.isEmpty = false := by
    rw [List.isEmpty_eq_false_iff]
    intro e
    rw [e] at h0
    simp at h0
  rw [h1, h2, hv, List.drop_zero]
  rcases h with h | h
  · rw [h]; simp
  · rw [h]; simp
set_option maxHeartbeats 16000000 in
set_option maxRecDepth 100000 in
theorem nameC (s : ByteArray) (hs : s.size ≤ maxLen) (attr : Bool) (w : World) : Calls Tryz.prog 101 #[.string s, .bool attr] w fun e w' => e = .returned (.bool (nameP attr s.data.toList)) ∧ Below w.heap.size w w' := by
  by_cases h0 : s.size = 0
  · have hf := Lib.hid (nameP_nil attr h0)
    have he := toList_nil h0
    have hb := isEmpty_nil h0
    rw [hf.out]
    go_enter Tryz.func101, Tryz.ntmps101
    go_wp2
    go_ret
    exact ⟨rfl, Below.refl _ _⟩
  have hp : 0 < s.size := by omega
  have hpl : 0 < s.data.toList.length := by rw [size_len]; exact hp
  have hne := toList_ne hp
  have hnb := isEmpty_ne hp
  have hss : s.size ≤ 9223372036854775807 := hs
  have HV := Lib.hid (fun W => validC s hs W)
  have hu0 := (s[0]).toNat_lt
  have h0l : s.data.toList[0] = s[0] := rfl
  cases hv : validB s.data.toList
  · have hf := Lib.hid (nameP_inv attr hv)
    rw [hv] at HV
    rw [hf.out]
    go_enter Tryz.func101, Tryz.ntmps101
    go_wp2_with (go_at_call 100; refine (HV.out _).mono ?_; rintro e w1 ⟨rfl, hb1⟩)
    go_ret
    exact ⟨rfl, hb1⟩
  rw [hv] at HV
  have HN : Hid (attr = true ∨ smB s.data.toList[0] = true → nameP attr s.data.toList = nameFrom attr 0 (s.data.toList.drop 0)) := Lib.hid (nameP_from attr hpl hv)
  clear hv
  cases attr
  · cases hs0 : smB s[0]
    · have hf := Lib.hid (nameP_head hpl hs0)
      rw [hf.out]
      rcases smB_f hs0 with h1 | h1
      · clear hs0
        go_enter Tryz.func101, Tryz.ntmps101
        go_wp2_with (go_at_call 100; refine (HV.out _).mono ?_; rintro e w1 ⟨rfl, hb1⟩)
        go_ret
        exact ⟨rfl, hb1⟩
      · clear hs0
        have h2 : 97 ≤ (s[0]).toNat := by omega
        go_enter Tryz.func101, Tryz.ntmps101
        go_wp2_with (go_at_call 100; refine (HV.out _).mono ?_; rintro e w1 ⟨rfl, hb1⟩)
        go_ret
        exact ⟨rfl, hb1⟩
    obtain ⟨h1, h2⟩ := smB_t hs0
    have hf := Lib.hid (HN.out (.inr hs0))
    rw [hf.out]
    clear hs0 HN h0l
    go_enter Tryz.func101, Tryz.ntmps101
    go_wp2_with (go_at_call 100; refine (HV.out _).mono ?_; rintro e w1 ⟨rfl, hb1⟩)
    go_loopw [30] (fun i wr => ∃ k : Nat, k ≤ s.size ∧ i = .int .i64 k ∧ Hid (nameFrom false 0 (s.data.toList.drop 0) = nameFrom false k (s.data.toList.drop k)) ∧ Below w.heap.size w wr) (fun i _ => s.size - (intOf i).toNat)
    case atStart => exact ⟨0, by omega, rfl, Lib.hid rfl, hb1⟩
    case round =>
      obtain ⟨k, hk, rfl, hall, hbr⟩ := hrel
      by_cases hlt : k < s.size
      · have hu := (s[k]).toNat_lt
        have hll : k < s.data.toList.length := by rw [size_len]; exact hlt
        obtain ⟨c, hc⟩ : ∃ c, c = s[k] := ⟨_, rfl⟩
        have HG : Hid (nmStop false k c = false → nameFrom false k (s.data.toList.drop k) = nameFrom false (k + 1) (s.data.toList.drop (k + 1))) := Lib.hid (fun h => nameFrom_go hll (by rw [hc] at h; exact h))
        have HX : Hid (nmStop false k c = true → nameFrom false k (s.data.toList.drop k) = false) := Lib.hid (fun h => nameFrom_no hll (by rw [hc] at h; exact h))
        have HD : Hid (nmStop false k c = (blB c || (c.toNat : Int) == 47 || (c.toNat : Int) == 62 || (decide (65 ≤ c.toNat) && decide (c.toNat ≤ 90)) || (c.toNat : Int) == 0 || (false && (c.toNat : Int) == 61 && decide (0 < k)))) := Lib.hid rfl
        have HB := Lib.hid (fun W => blC c W)
        have hci : s[k] = c := hc.symm
        clear hc
        obtain ⟨bl, hbl⟩ : ∃ b, b = blB c := ⟨_, rfl⟩
        rw [← hbl] at HB HD
        clear hbl
        rw [hci] at hu
        cases bl
        · skip
          by_cases e1 : ((c.toNat : Int) == 47) = true
          · skip
            have hz := Lib.hid (hall.out.trans (HX.out (by rw [HD.out]; simp [*])))
            go_wp2_with (go_at_call 170; refine (HB.out _).mono ?_; rintro e w2 ⟨rfl, rfl⟩)
            go_ret
            exact ⟨rb hz.out, hbr⟩
          rw [Bool.not_eq_true] at e1
          by_cases e2 : ((c.toNat : Int) == 62) = true
          · skip
            have hz := Lib.hid (hall.out.trans (HX.out (by rw [HD.out]; simp [*])))
            go_wp2_with (go_at_call 170; refine (HB.out _).mono ?_; rintro e w2 ⟨rfl, rfl⟩)
            go_ret
            exact ⟨rb hz.out, hbr⟩
          rw [Bool.not_eq_true] at e2
          by_cases e3 : 65 ≤ c.toNat
          · by_cases e4 : c.toNat ≤ 90
            · skip
              have hz := Lib.hid (hall.out.trans (HX.out (by rw [HD.out]; simp [*])))
              go_wp2_with (go_at_call 170; refine (HB.out _).mono ?_; rintro e w2 ⟨rfl, rfl⟩)
              go_ret
              exact ⟨rb hz.out, hbr⟩
            · have e5 : ((c.toNat : Int) == 0) = false := by simp; omega
              have e6 : ((c.toNat : Int) == 61) = false := by simp; omega
              have e4 : 90 < c.toNat := by omega
              have e7 : ¬ c.toNat ≤ 90 := by omega
              have hz := Lib.hid (hall.out.trans (HG.out (by rw [HD.out]; simp [*] <;> omega)))
              go_wp2_with (go_at_call 170; refine (HB.out _).mono ?_; rintro e w2 ⟨rfl, rfl⟩)
              go_roundw
              case rel => exact ⟨k + 1, by omega, by go_num, hz, hbr⟩
              case measure => simp [intOf] <;> omega
          have e4 : c.toNat < 65 := by omega
          by_cases e5 : ((c.toNat : Int) == 0) = true
          · skip
            have hz := Lib.hid (hall.out.trans (HX.out (by rw [HD.out]; simp [*])))
            go_wp2_with (go_at_call 170; refine (HB.out _).mono ?_; rintro e w2 ⟨rfl, rfl⟩)
            go_ret
            exact ⟨rb hz.out, hbr⟩
          rw [Bool.not_eq_true] at e5
          have hz := Lib.hid (hall.out.trans (HG.out (by rw [HD.out]; simp [*] <;> omega)))
          go_wp2_with (go_at_call 170; refine (HB.out _).mono ?_; rintro e w2 ⟨rfl, rfl⟩)
          go_roundw
          case rel => exact ⟨k + 1, by omega, by go_num, hz, hbr⟩
          case measure => simp [intOf] <;> omega
        · skip
          have hz := Lib.hid (hall.out.trans (HX.out (by rw [HD.out]; simp [*])))
          go_wp2_with (go_at_call 170; refine (HB.out _).mono ?_; rintro e w2 ⟨rfl, rfl⟩)
          go_ret
          exact ⟨rb hz.out, hbr⟩
      · have hy := Lib.hid (hall.out.trans (nameFrom_end (by rw [size_len]; omega)))
        go_wp2
        go_ret
        exact ⟨rb hy.out, hbr⟩
  · have hf := Lib.hid (HN.out (.inl rfl))
    rw [hf.out]
    clear HN h0l
    go_enter Tryz.func101, Tryz.ntmps101
    go_wp2_with (go_at_call 100; refine (HV.out _).mono ?_; rintro e w1 ⟨rfl, hb1⟩)
    go_loopw [30] (fun i wr => ∃ k : Nat, k ≤ s.size ∧ i = .int .i64 k ∧ Hid (nameFrom true 0 (s.data.toList.drop 0) = nameFrom true k (s.data.toList.drop k)) ∧ Below w.heap.size w wr) (fun i _ => s.size - (intOf i).toNat)
    case atStart => exact ⟨0, by omega, rfl, Lib.hid rfl, hb1⟩
    case round =>
      obtain ⟨k, hk, rfl, hall, hbr⟩ := hrel
      by_cases hlt : k < s.size
      · have hu := (s[k]).toNat_lt
        have hll : k < s.data.toList.length := by rw [size_len]; exact hlt
        obtain ⟨c, hc⟩ : ∃ c, c = s[k] := ⟨_, rfl⟩
        have HG : Hid (nmStop true k c = false → nameFrom true k (s.data.toList.drop k) = nameFrom true (k + 1) (s.data.toList.drop (k + 1))) := Lib.hid (fun h => nameFrom_go hll (by rw [hc] at h; exact h))
        have HX : Hid (nmStop true k c = true → nameFrom true k (s.data.toList.drop k) = false) := Lib.hid (fun h => nameFrom_no hll (by rw [hc] at h; exact h))
        have HD : Hid (nmStop true k c = (blB c || (c.toNat : Int) == 47 || (c.toNat : Int) == 62 || (decide (65 ≤ c.toNat) && decide (c.toNat ≤ 90)) || (c.toNat : Int) == 0 || (true && (c.toNat : Int) == 61 && decide (0 < k)))) := Lib.hid rfl
        have HB := Lib.hid (fun W => blC c W)
        have hci : s[k] = c := hc.symm
        clear hc
        obtain ⟨bl, hbl⟩ : ∃ b, b = blB c := ⟨_, rfl⟩
        rw [← hbl] at HB HD
        clear hbl
        rw [hci] at hu
        cases bl
        · skip
          by_cases e1 : ((c.toNat : Int) == 47) = true
          · skip
            have hz := Lib.hid (hall.out.trans (HX.out (by rw [HD.out]; simp [*])))
            go_wp2_with (go_at_call 170; refine (HB.out _).mono ?_; rintro e w2 ⟨rfl, rfl⟩)
            go_ret
            exact ⟨rb hz.out, hbr⟩
          rw [Bool.not_eq_true] at e1
          by_cases e2 : ((c.toNat : Int) == 62) = true
          · skip
            have hz := Lib.hid (hall.out.trans (HX.out (by rw [HD.out]; simp [*])))
            go_wp2_with (go_at_call 170; refine (HB.out _).mono ?_; rintro e w2 ⟨rfl, rfl⟩)
            go_ret
            exact ⟨rb hz.out, hbr⟩
          rw [Bool.not_eq_true] at e2
          by_cases e3 : 65 ≤ c.toNat
          · by_cases e4 : c.toNat ≤ 90
            · skip
              have hz := Lib.hid (hall.out.trans (HX.out (by rw [HD.out]; simp [*])))
              go_wp2_with (go_at_call 170; refine (HB.out _).mono ?_; rintro e w2 ⟨rfl, rfl⟩)
              go_ret
              exact ⟨rb hz.out, hbr⟩
            · have e5 : ((c.toNat : Int) == 0) = false := by simp; omega
              have e6 : ((c.toNat : Int) == 61) = false := by simp; omega
              have e4 : 90 < c.toNat := by omega
              have e7 : ¬ c.toNat ≤ 90 := by omega
              have hz := Lib.hid (hall.out.trans (HG.out (by rw [HD.out]; simp [*] <;> omega)))
              go_wp2_with (go_at_call 170; refine (HB.out _).mono ?_; rintro e w2 ⟨rfl, rfl⟩)
              go_roundw
              case rel => exact ⟨k + 1, by omega, by go_num, hz, hbr⟩
              case measure => simp [intOf] <;> omega
          have e4 : c.toNat < 65 := by omega
          by_cases e5 : ((c.toNat : Int) == 0) = true
          · skip
            have hz := Lib.hid (hall.out.trans (HX.out (by rw [HD.out]; simp [*])))
            go_wp2_with (go_at_call 170; refine (HB.out _).mono ?_; rintro e w2 ⟨rfl, rfl⟩)
            go_ret
            exact ⟨rb hz.out, hbr⟩
          rw [Bool.not_eq_true] at e5
          by_cases e6 : ((c.toNat : Int) == 61) = true
          · by_cases e7 : 0 < k
            · skip
              have hz := Lib.hid (hall.out.trans (HX.out (by rw [HD.out]; simp [*])))
              go_wp2_with (go_at_call 170; refine (HB.out _).mono ?_; rintro e w2 ⟨rfl, rfl⟩)
              go_ret
              exact ⟨rb hz.out, hbr⟩
            · obtain rfl : k = 0 := by omega
              have hz := Lib.hid (hall.out.trans (HG.out (by rw [HD.out]; simp [*] <;> omega)))
              go_wp2_with (go_at_call 170; refine (HB.out _).mono ?_; rintro e w2 ⟨rfl, rfl⟩)
              go_roundw
              case rel => exact ⟨0 + 1, by omega, by go_num, hz, hbr⟩
              case measure => simp [intOf] <;> omega
          rw [Bool.not_eq_true] at e6
          have hz := Lib.hid (hall.out.trans (HG.out (by rw [HD.out]; simp [*] <;> omega)))
          go_wp2_with (go_at_call 170; refine (HB.out _).mono ?_; rintro e w2 ⟨rfl, rfl⟩)
          go_roundw
          case rel => exact ⟨k + 1, by omega, by go_num, hz, hbr⟩
          case measure => simp [intOf] <;> omega
        · skip
          have hz := Lib.hid (hall.out.trans (HX.out (by rw [HD.out]; simp [*])))
          go_wp2_with (go_at_call 170; refine (HB.out _).mono ?_; rintro e w2 ⟨rfl, rfl⟩)
          go_ret
          exact ⟨rb hz.out, hbr⟩
      · have hy := Lib.hid (hall.out.trans (nameFrom_end (by rw [size_len]; omega)))
        go_wp2
        go_ret
        exact ⟨rb hy.out, hbr⟩

end Go.Proofs.YtejpdbiiikcmmaaGreatDoor.Tk
