/- Which names may be written, and which handle an event: what the functions return, the program's and the reference's. -/
import Derived.Test.YteikagdinecfoaaGreatDoorProg
import Derived.Test.YteikagdinecfoaaGreatDoorLib
import Derived.Test.YteikagdinecfoaaGreatDoorShelf
import Derived.Test.YteikagdinecfoaaGreatDoorLower
namespace Go.Proofs.YteikagdinecfoaaGreatDoor.Fm
open Go.RowKit Lb Lw

def inB (a b : Nat) (c : Int) : Bool := decide ((a : Int) ≤ c) && decide (c ≤ b)

set_option maxHeartbeats 400000 in
theorem rSmall (c : UInt8) (w : World) : Calls Tryz.prog 121 #[.int .u8 (c.toNat : Int)] w fun e w' => e = .returned (.bool (smB c)) ∧ w = w' := by
  have h9 := c.toNat_lt
  cases h : smB c
  · rcases smB_f h with h1 | h1
    · go_enter Tryz.func121, Tryz.ntmps121
      go_wp2
      go_ret
      exact ⟨rb (by simp <;> omega), rfl⟩
    · have h2 : 97 ≤ c.toNat := by omega
      go_enter Tryz.func121, Tryz.ntmps121
      go_wp2
      go_ret
      exact ⟨rb (by simp <;> omega), rfl⟩
  · obtain ⟨h1, h2⟩ := smB_t h
    go_enter Tryz.func121, Tryz.ntmps121
    go_wp2
    go_ret
    exact ⟨rb (by simp <;> omega), rfl⟩

theorem dgB_t {c : UInt8} (h : dgB c = true) : 48 ≤ c.toNat ∧ c.toNat ≤ 57 := by simpa [dgB] using h
theorem dgB_f {c : UInt8} (h : dgB c = false) : c.toNat < 48 ∨ 57 < c.toNat := by
  have := h; simp [dgB] at this; omega

set_option maxHeartbeats 400000 in
theorem rDigit (c : UInt8) (w : World) : Calls Tryz.prog 122 #[.int .u8 (c.toNat : Int)] w fun e w' => e = .returned (.bool (dgB c)) ∧ w = w' := by
  have h9 := c.toNat_lt
  cases h : dgB c
  · rcases dgB_f h with h1 | h1
    · go_enter Tryz.func122, Tryz.ntmps122
      go_wp2
      go_ret
      exact ⟨rb (by simp <;> omega), rfl⟩
    · have h2 : 48 ≤ c.toNat := by omega
      go_enter Tryz.func122, Tryz.ntmps122
      go_wp2
      go_ret
      exact ⟨rb (by simp <;> omega), rfl⟩
  · obtain ⟨h1, h2⟩ := dgB_t h
    go_enter Tryz.func122, Tryz.ntmps122
    go_wp2
    go_ret
    exact ⟨rb (by simp <;> omega), rfl⟩

set_option maxHeartbeats 800000 in
theorem nPlain (c : UInt8) (w : World) : Calls Tryz.prog 223 #[.int .u8 (c.toNat : Int)] w fun e w' => e = .returned (.bool (smB c || dgB c)) ∧ w = w' := by
  have h9 := c.toNat_lt
  by_cases h1 : 97 ≤ c.toNat <;> by_cases h2 : c.toNat ≤ 122 <;> by_cases h3 : 48 ≤ c.toNat <;> by_cases h4 : c.toNat ≤ 57 <;> try (exfalso; omega)
  all_goals
    have e1 : smB c = (decide (97 ≤ c.toNat) && decide (c.toNat ≤ 122)) := rfl
    have e2 : dgB c = (decide (48 ≤ c.toNat) && decide (c.toNat ≤ 57)) := rfl
    simp only [h1, h2, h3, h4] at e1 e2
    have E1 := Lib.hid e1
    have E2 := Lib.hid e2
    clear e1 e2
    go_enter Tryz.func223, Tryz.ntmps223
    go_wp2
    all_goals (go_ret; exact ⟨rb (by rw [E1.out, E2.out]; simp <;> omega), rfl⟩)

set_option maxHeartbeats 2000000 in
set_option maxRecDepth 100000 in
theorem nWritten0 (s : ByteArray) (w : World) : Calls Tryz.prog 182 #[.string s, .int .u8 0] w fun e w' => e = .returned (.bool (wrt false s.data.toList)) ∧ w = w' := by
  by_cases h0 : s.size = 0
  · have hf := Lib.hid (wrt_0 (o := false) h0)
    have he := toList_nil h0
    have hb := isEmpty_nil h0
    go_enter Tryz.func182, Tryz.ntmps182
    go_wp2
    go_ret
    exact ⟨rb hf.out, rfl⟩
  have hp : 0 < s.size := by omega
  have hne := toList_ne hp
  have hnb := isEmpty_ne hp
  by_cases hl : 100 < s.size
  · have hf := Lib.hid (wrt_long (o := false) hl)
    go_enter Tryz.func182, Tryz.ntmps182
    go_wp2
    go_ret
    exact ⟨rb hf.out, rfl⟩
  have hl2 : s.size ≤ 100 := by omega
  have hu0 := (s[0]).toNat_lt
  cases hs : smB s[0]
  · have hf := Lib.hid (wrt_head (o := false) hp hs)
    rcases smB_f hs with h1 | h1
    · go_enter Tryz.func182, Tryz.ntmps182
      go_wp2
      go_ret
      exact ⟨rb hf.out, rfl⟩
    · have h2 : 97 ≤ (s[0]).toNat := by omega
      go_enter Tryz.func182, Tryz.ntmps182
      go_wp2
      go_ret
      exact ⟨rb hf.out, rfl⟩
  obtain ⟨hs1, hs2⟩ := smB_t hs
  have HS := Lib.hid hs
  clear hs
  by_cases hd : (s[s.size - 1]'(by omega)).toNat = 45
  · have hf := Lib.hid (wrt_last (o := false) hp hd)
    have hd1 : (((s[s.size - 1]'(by omega)).toNat : Int) == 45) = true := by rw [hd]; rfl
    go_enter Tryz.func182, Tryz.ntmps182
    go_wp2
    go_ret
    exact ⟨rb hf.out, rfl⟩
  have hd1 : (((s[s.size - 1]'(by omega)).toNat : Int) == 45) = false := by simpa using (by omega : ¬ ((s[s.size - 1]'(by omega)).toNat : Int) = 45)
  have HD := Lib.hid hd
  clear hd
  go_enter Tryz.func182, Tryz.ntmps182
  go_wp2
  go_loop [33] (fun i => ∃ k : Nat, k ≤ s.size ∧ i = .int .i64 k ∧ Hid (∀ j (hj : j < s.size), j < k → okB false s[j] = true)) (fun i => s.size - (intOf i).toNat)
  case atStart => exact ⟨0, by omega, rfl, Lib.hid (fun j _ hj => by omega)⟩
  case round =>
    obtain ⟨k, hk, rfl, hall⟩ := hrel
    by_cases hlt : k < s.size
    · have hu := (s[k]).toNat_lt
      cases hpl : (smB s[k] || dgB s[k])

      · have hbad := Lib.hid (wrt_bad (o := false) hlt (by simpa [okB] using hpl))
        have hz : (((s[k]).toNat : Int) != 0) = true ∨ (((s[k]).toNat : Int) != 0) = false := by cases ((s[k]).toNat : Int) != 0 <;> simp
        rcases hz with hz | hz
        all_goals
          go_wp2_with (go_at_call 223; refine (nPlain _ _).mono ?_; rintro e w' ⟨rfl, rfl⟩)
          go_ret
          exact ⟨rb hbad.out, rfl⟩

      · have hok : Hid (∀ j (hj : j < s.size), j < k + 1 → okB false s[j] = true) := Lib.hid (fun j hj hjk => by
          by_cases e : j = k
          · subst e; simp [okB, hpl]
          · exact hall.out j hj (by omega))
        go_wp2_with (go_at_call 223; refine (nPlain _ _).mono ?_; rintro e w' ⟨rfl, rfl⟩)
        go_round
        case rel => exact ⟨k + 1, by omega, by go_num, hok⟩
        case measure => simp [intOf] <;> omega
    · have hy := Lib.hid (wrt_yes (o := false) hp hl2 HS.out (fun _ => HD.out) (fun j hj => hall.out j hj (by omega)))
      go_wp2
      go_ret
      exact ⟨rb hy.out, rfl⟩

set_option maxHeartbeats 2000000 in
set_option maxRecDepth 100000 in
theorem nWritten45 (s : ByteArray) (w : World) : Calls Tryz.prog 182 #[.string s, .int .u8 45] w fun e w' => e = .returned (.bool (wrt true s.data.toList)) ∧ w = w' := by
  by_cases h0 : s.size = 0
  · have hf := Lib.hid (wrt_0 (o := true) h0)
    have he := toList_nil h0
    have hb := isEmpty_nil h0
    go_enter Tryz.func182, Tryz.ntmps182
    go_wp2
    go_ret
    exact ⟨rb hf.out, rfl⟩
  have hp : 0 < s.size := by omega
  have hne := toList_ne hp
  have hnb := isEmpty_ne hp
  by_cases hl : 100 < s.size
  · have hf := Lib.hid (wrt_long (o := true) hl)
    go_enter Tryz.func182, Tryz.ntmps182
    go_wp2
    go_ret
    exact ⟨rb hf.out, rfl⟩
  have hl2 : s.size ≤ 100 := by omega
  have hu0 := (s[0]).toNat_lt
  cases hs : smB s[0]
  · have hf := Lib.hid (wrt_head (o := true) hp hs)
    rcases smB_f hs with h1 | h1
    · go_enter Tryz.func182, Tryz.ntmps182
      go_wp2
      go_ret
      exact ⟨rb hf.out, rfl⟩
    · have h2 : 97 ≤ (s[0]).toNat := by omega
      go_enter Tryz.func182, Tryz.ntmps182
      go_wp2
      go_ret
      exact ⟨rb hf.out, rfl⟩
  obtain ⟨hs1, hs2⟩ := smB_t hs
  have HS := Lib.hid hs
  clear hs
  by_cases hd : (s[s.size - 1]'(by omega)).toNat = 45
  · have hf := Lib.hid (wrt_last (o := true) hp hd)
    have hd1 : (((s[s.size - 1]'(by omega)).toNat : Int) == 45) = true := by rw [hd]; rfl
    go_enter Tryz.func182, Tryz.ntmps182
    go_wp2
    go_ret
    exact ⟨rb hf.out, rfl⟩
  have hd1 : (((s[s.size - 1]'(by omega)).toNat : Int) == 45) = false := by simpa using (by omega : ¬ ((s[s.size - 1]'(by omega)).toNat : Int) = 45)
  have HD := Lib.hid hd
  clear hd
  go_enter Tryz.func182, Tryz.ntmps182
  go_wp2
  go_loop [33] (fun i => ∃ k : Nat, k ≤ s.size ∧ i = .int .i64 k ∧ Hid (∀ j (hj : j < s.size), j < k → okB true s[j] = true)) (fun i => s.size - (intOf i).toNat)
  case atStart => exact ⟨0, by omega, rfl, Lib.hid (fun j _ hj => by omega)⟩
  case round =>
    obtain ⟨k, hk, rfl, hall⟩ := hrel
    by_cases hlt : k < s.size
    · have hu := (s[k]).toNat_lt
      cases hpl : (smB s[k] || dgB s[k])

      · by_cases h45 : (s[k]).toNat = 45
        · have hz : (((s[k]).toNat : Int) != 45) = false := by rw [h45]; rfl
          have hok : Hid (∀ j (hj : j < s.size), j < k + 1 → okB true s[j] = true) := Lib.hid (fun j hj hjk => by
            by_cases e : j = k
            · subst e; simp [okB, h45]
            · exact hall.out j hj (by omega))
          clear h45
          go_wp2_with (go_at_call 223; refine (nPlain _ _).mono ?_; rintro e w' ⟨rfl, rfl⟩)
          go_round
          case rel => exact ⟨k + 1, by omega, by go_num, hok⟩
          case measure => simp [intOf] <;> omega
        · have hz : (((s[k]).toNat : Int) != 45) = true := by rw [bne_iff_ne]; omega
          have hbad := Lib.hid (wrt_bad (o := true) hlt (by simp [okB, h45]; simpa using hpl))
          clear h45
          go_wp2_with (go_at_call 223; refine (nPlain _ _).mono ?_; rintro e w' ⟨rfl, rfl⟩)
          go_ret
          exact ⟨rb hbad.out, rfl⟩

      · have hok : Hid (∀ j (hj : j < s.size), j < k + 1 → okB true s[j] = true) := Lib.hid (fun j hj hjk => by
          by_cases e : j = k
          · subst e; simp [okB, hpl]
          · exact hall.out j hj (by omega))
        go_wp2_with (go_at_call 223; refine (nPlain _ _).mono ?_; rintro e w' ⟨rfl, rfl⟩)
        go_round
        case rel => exact ⟨k + 1, by omega, by go_num, hok⟩
        case measure => simp [intOf] <;> omega
    · have hy := Lib.hid (wrt_yes (o := true) hp hl2 HS.out (fun _ => HD.out) (fun j hj => hall.out j hj (by omega)))
      go_wp2
      go_ret
      exact ⟨rb hy.out, rfl⟩

set_option maxHeartbeats 400000 in
theorem nTagName (s : ByteArray) (w : World) : Calls Tryz.prog 133 #[.string s] w fun e w' => e = .returned (.bool (wrt false s.data.toList)) ∧ w = w' := by
  go_enter Tryz.func133, Tryz.ntmps133
  go_wp2_with (go_at_call 182; refine (nWritten0 _ _).mono ?_; rintro e w' ⟨rfl, rfl⟩)
  go_ret
  exact ⟨rfl, rfl⟩

set_option maxHeartbeats 400000 in
theorem nAttrName (s : ByteArray) (w : World) : Calls Tryz.prog 216 #[.string s] w fun e w' => e = .returned (.bool (wrt true s.data.toList)) ∧ w = w' := by
  go_enter Tryz.func216, Tryz.ntmps216
  go_wp2_with (go_at_call 182; refine (nWritten45 _ _).mono ?_; rintro e w' ⟨rfl, rfl⟩)
  go_ret
  exact ⟨rfl, rfl⟩

set_option maxHeartbeats 2000000 in
set_option maxRecDepth 100000 in
theorem rTagName (s : ByteArray) (w : World) : Calls Tryz.prog 59 #[.string s] w fun e w' => e = .returned (.bool (wrt false s.data.toList)) ∧ w = w' := by
  by_cases h0 : s.size = 0
  · have hf := Lib.hid (wrt_0 (o := false) h0)
    go_enter Tryz.func59, Tryz.ntmps59
    go_wp2
    go_ret
    exact ⟨rb hf.out, rfl⟩
  have hp : 0 < s.size := by omega
  by_cases hl : 100 < s.size
  · have hf := Lib.hid (wrt_long (o := false) hl)
    go_enter Tryz.func59, Tryz.ntmps59
    go_wp2
    go_ret
    exact ⟨rb hf.out, rfl⟩
  have hl2 : s.size ≤ 100 := by omega
  cases hs : smB s[0]
  · have hf := Lib.hid (wrt_head (o := false) hp hs)
    go_enter Tryz.func59, Tryz.ntmps59
    go_wp2_with (first | (go_at_call 121; refine (rSmall _ _).mono ?_; rintro e w' ⟨rfl, rfl⟩) | (go_at_call 122; refine (rDigit _ _).mono ?_; rintro e w' ⟨rfl, rfl⟩))
    go_ret
    exact ⟨rb hf.out, rfl⟩

  have HS := Lib.hid hs
  go_enter Tryz.func59, Tryz.ntmps59
  go_wp2_with (first | (go_at_call 121; refine (rSmall _ _).mono ?_; rintro e w' ⟨rfl, rfl⟩) | (go_at_call 122; refine (rDigit _ _).mono ?_; rintro e w' ⟨rfl, rfl⟩))
  go_loop [20] (fun i => ∃ k : Nat, k ≤ s.size ∧ i = .int .i64 k ∧ Hid (∀ j (hj : j < s.size), j < k → okB false s[j] = true)) (fun i => s.size - (intOf i).toNat)
  case atStart => exact ⟨0, by omega, rfl, Lib.hid (fun j _ hj => by omega)⟩
  case round =>
    obtain ⟨k, hk, rfl, hall⟩ := hrel
    clear hs
    by_cases hlt : k < s.size
    · have hsm : smB s[k] = true ∨ (smB s[k] = false ∧ dgB s[k] = true) ∨ (smB s[k] = false ∧ dgB s[k] = false) := by
        cases smB s[k] <;> cases dgB s[k] <;> simp
      rcases hsm with hsm | ⟨hsm, hdg⟩ | ⟨hsm, hdg⟩
      · have hok : Hid (∀ j (hj : j < s.size), j < k + 1 → okB false s[j] = true) := Lib.hid (fun j hj hjk => by
          by_cases e : j = k
          · subst e; simp [okB, hsm]
          · exact hall.out j hj (by omega))
        go_wp2_with (first | (go_at_call 121; refine (rSmall _ _).mono ?_; rintro e w' ⟨rfl, rfl⟩) | (go_at_call 122; refine (rDigit _ _).mono ?_; rintro e w' ⟨rfl, rfl⟩))
        go_round
        case rel => exact ⟨k + 1, by omega, by go_num, hok⟩
        case measure => simp [intOf] <;> omega
      · have hok : Hid (∀ j (hj : j < s.size), j < k + 1 → okB false s[j] = true) := Lib.hid (fun j hj hjk => by
          by_cases e : j = k
          · subst e; simp [okB, hdg]
          · exact hall.out j hj (by omega))
        go_wp2_with (first | (go_at_call 121; refine (rSmall _ _).mono ?_; rintro e w' ⟨rfl, rfl⟩) | (go_at_call 122; refine (rDigit _ _).mono ?_; rintro e w' ⟨rfl, rfl⟩))
        go_round
        case rel => exact ⟨k + 1, by omega, by go_num, hok⟩
        case measure => simp [intOf] <;> omega
      · have hbad := Lib.hid (wrt_bad (o := false) hlt (by simp [okB, hsm, hdg]))
        go_wp2_with (first | (go_at_call 121; refine (rSmall _ _).mono ?_; rintro e w' ⟨rfl, rfl⟩) | (go_at_call 122; refine (rDigit _ _).mono ?_; rintro e w' ⟨rfl, rfl⟩))
        go_ret
        exact ⟨rb hbad.out, rfl⟩
    · have hy := Lib.hid (wrt_yes (o := false) hp hl2 HS.out (fun e => by cases e) (fun j hj => hall.out j hj (by omega)))
      go_wp2
      go_ret
      exact ⟨rb hy.out, rfl⟩

set_option maxHeartbeats 2000000 in
set_option maxRecDepth 100000 in
theorem rAttrName (s : ByteArray) (w : World) : Calls Tryz.prog 168 #[.string s] w fun e w' => e = .returned (.bool (wrt true s.data.toList)) ∧ w = w' := by
  by_cases h0 : s.size = 0
  · have hf := Lib.hid (wrt_0 (o := true) h0)
    go_enter Tryz.func168, Tryz.ntmps168
    go_wp2
    go_ret
    exact ⟨rb hf.out, rfl⟩
  have hp : 0 < s.size := by omega
  by_cases hl : 100 < s.size
  · have hf := Lib.hid (wrt_long (o := true) hl)
    go_enter Tryz.func168, Tryz.ntmps168
    go_wp2
    go_ret
    exact ⟨rb hf.out, rfl⟩
  have hl2 : s.size ≤ 100 := by omega
  cases hs : smB s[0]
  · have hf := Lib.hid (wrt_head (o := true) hp hs)
    go_enter Tryz.func168, Tryz.ntmps168
    go_wp2_with (first | (go_at_call 121; refine (rSmall _ _).mono ?_; rintro e w' ⟨rfl, rfl⟩) | (go_at_call 122; refine (rDigit _ _).mono ?_; rintro e w' ⟨rfl, rfl⟩))
    go_ret
    exact ⟨rb hf.out, rfl⟩

  by_cases hd : (s[s.size - 1]'(by omega)).toNat = 45
  · have hf := Lib.hid (wrt_last (o := true) hp hd)
    have hd1 : (((s[s.size - 1]'(by omega)).toNat : Int) == 45) = true := by rw [hd]; rfl
    go_enter Tryz.func168, Tryz.ntmps168
    go_wp2_with (first | (go_at_call 121; refine (rSmall _ _).mono ?_; rintro e w' ⟨rfl, rfl⟩) | (go_at_call 122; refine (rDigit _ _).mono ?_; rintro e w' ⟨rfl, rfl⟩))
    go_ret
    exact ⟨rb hf.out, rfl⟩
  have hd1 : (((s[s.size - 1]'(by omega)).toNat : Int) == 45) = false := by simpa using (by omega : ¬ ((s[s.size - 1]'(by omega)).toNat : Int) = 45)
  have HD := Lib.hid hd
  clear hd

  have HS := Lib.hid hs
  go_enter Tryz.func168, Tryz.ntmps168
  go_wp2_with (first | (go_at_call 121; refine (rSmall _ _).mono ?_; rintro e w' ⟨rfl, rfl⟩) | (go_at_call 122; refine (rDigit _ _).mono ?_; rintro e w' ⟨rfl, rfl⟩))
  go_loop [28] (fun i => ∃ k : Nat, k ≤ s.size ∧ i = .int .i64 k ∧ Hid (∀ j (hj : j < s.size), j < k → okB true s[j] = true)) (fun i => s.size - (intOf i).toNat)
  case atStart => exact ⟨0, by omega, rfl, Lib.hid (fun j _ hj => by omega)⟩
  case round =>
    obtain ⟨k, hk, rfl, hall⟩ := hrel
    clear hs
    by_cases hlt : k < s.size
    · have hsm : smB s[k] = true ∨ (smB s[k] = false ∧ dgB s[k] = true) ∨ (smB s[k] = false ∧ dgB s[k] = false) := by
        cases smB s[k] <;> cases dgB s[k] <;> simp
      rcases hsm with hsm | ⟨hsm, hdg⟩ | ⟨hsm, hdg⟩
      · have hok : Hid (∀ j (hj : j < s.size), j < k + 1 → okB true s[j] = true) := Lib.hid (fun j hj hjk => by
          by_cases e : j = k
          · subst e; simp [okB, hsm]
          · exact hall.out j hj (by omega))
        go_wp2_with (first | (go_at_call 121; refine (rSmall _ _).mono ?_; rintro e w' ⟨rfl, rfl⟩) | (go_at_call 122; refine (rDigit _ _).mono ?_; rintro e w' ⟨rfl, rfl⟩))
        go_round
        case rel => exact ⟨k + 1, by omega, by go_num, hok⟩
        case measure => simp [intOf] <;> omega
      · have hok : Hid (∀ j (hj : j < s.size), j < k + 1 → okB true s[j] = true) := Lib.hid (fun j hj hjk => by
          by_cases e : j = k
          · subst e; simp [okB, hdg]
          · exact hall.out j hj (by omega))
        go_wp2_with (first | (go_at_call 121; refine (rSmall _ _).mono ?_; rintro e w' ⟨rfl, rfl⟩) | (go_at_call 122; refine (rDigit _ _).mono ?_; rintro e w' ⟨rfl, rfl⟩))
        go_round
        case rel => exact ⟨k + 1, by omega, by go_num, hok⟩
        case measure => simp [intOf] <;> omega
      · by_cases h45 : (s[k]).toNat = 45
        · have hz : (((s[k]).toNat : Int) != 45) = false := by rw [h45]; rfl
          have hok : Hid (∀ j (hj : j < s.size), j < k + 1 → okB true s[j] = true) := Lib.hid (fun j hj hjk => by
            by_cases e : j = k
            · subst e; simp [okB, h45]
            · exact hall.out j hj (by omega))
          clear h45
          go_wp2_with (first | (go_at_call 121; refine (rSmall _ _).mono ?_; rintro e w' ⟨rfl, rfl⟩) | (go_at_call 122; refine (rDigit _ _).mono ?_; rintro e w' ⟨rfl, rfl⟩))
          go_round
          case rel => exact ⟨k + 1, by omega, by go_num, hok⟩
          case measure => simp [intOf] <;> omega
        · have hz : (((s[k]).toNat : Int) != 45) = true := by rw [bne_iff_ne]; omega
          have hbad := Lib.hid (wrt_bad (o := true) hlt (by simp [okB, h45, hsm, hdg]))
          clear h45
          go_wp2_with (first | (go_at_call 121; refine (rSmall _ _).mono ?_; rintro e w' ⟨rfl, rfl⟩) | (go_at_call 122; refine (rDigit _ _).mono ?_; rintro e w' ⟨rfl, rfl⟩))
          go_ret
          exact ⟨rb hbad.out, rfl⟩
    · have hy := Lib.hid (wrt_yes (o := true) hp hl2 HS.out (fun _ => HD.out) (fun j hj => hall.out j hj (by omega)))
      go_wp2
      go_ret
      exact ⟨rb hy.out, rfl⟩

/-- the name begins with o, n in whatever letters -/
def evt (l : List UInt8) : Bool := Lib.hasPrefix (lowL l) [111, 110]
set_option maxHeartbeats 400000 in
theorem nEvent (s : ByteArray) (w : World) (hs : s.size ≤ maxLen) : Calls Tryz.prog 217 #[.string s] w fun e w' => e = .returned (.bool (evt s.data.toList)) ∧ Below w.heap.size w w' := by
  go_enter Tryz.func217, Tryz.ntmps217
  go_wp2_with (first | (go_at_call 160; refine (nLower _ _ hs).mono ?_; rintro e w1 ⟨rfl, hb⟩) | (go_at_call 251; refine (Tryz.strings_HasPrefix _ _ _).mono ?_; rintro e w' ⟨rfl, rfl⟩))
  go_ret
  exact ⟨rfl, hb⟩
theorem evt_short {s : ByteArray} (h : s.size < 2) : evt s.data.toList = false := by
  have hl := size_len s
  unfold evt Lib.hasPrefix lowL
  match hq : s.data.toList, hl with
  | [], _ => rfl
  | [c], _ => simp [List.isPrefixOf]
  | c :: d :: r, hl => simp at hl; omega
theorem evt_long {s : ByteArray} (h : 2 ≤ s.size) : evt s.data.toList = ((lowS (s.extract 0 2)).toList == (str [111, 110]).toList) := by
  have hl := size_len s
  unfold evt Lib.hasPrefix
  rw [Lib.toList_data, Lib.toList_data, str_toList]
  unfold lowS
  rw [str_toList, extract_str, str_toList]
  unfold lowL
  match hq : s.data.toList, hl with
  | [], hl => simp at hl; omega
  | [c], hl => simp at hl; omega
  | c :: d :: r, hl => simp [List.isPrefixOf]; rw [Bool.eq_iff_iff]; simp; constructor <;> (rintro ⟨a, b⟩; exact ⟨a.symm, b.symm⟩)
set_option maxHeartbeats 400000 in
theorem rEvent (s : ByteArray) (w : World) (hs : s.size ≤ maxLen) : Calls Tryz.prog 169 #[.string s] w fun e w' => e = .returned (.bool (evt s.data.toList)) ∧ Below w.heap.size w w' := by
  by_cases h2 : 2 ≤ s.size
  · have hv := Lib.hid (evt_long h2)
    have hz : (s.extract 0 2).size ≤ maxLen := by rw [extract_str, str_size]; unfold maxLen at hs ⊢; simp; omega
    go_enter Tryz.func169, Tryz.ntmps169
    go_wp2_with (go_at_call 134; refine (rLower _ _ hz).mono ?_; rintro e w1 ⟨rfl, hb⟩)
    go_ret
    exact ⟨rb (by rw [hv.out, Lib.toList_data (str _)]; rfl), hb⟩
  · have hv := Lib.hid (evt_short (by omega : s.size < 2))
    go_enter Tryz.func169, Tryz.ntmps169
    go_wp2
    go_ret
    exact ⟨rb hv.out, Below.refl _ _⟩

end Go.Proofs.YteikagdinecfoaaGreatDoor.Fm
