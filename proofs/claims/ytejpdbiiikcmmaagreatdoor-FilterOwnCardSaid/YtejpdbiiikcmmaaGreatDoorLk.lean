/- The classes of runes and bytes: what each small function of package names and of its reference returns. No condition but that the rune is an int32, the byte a byte. -/
import Derived.Test.YtejpdbiiikcmmaaGreatDoorProg
import Derived.WalkKit
import Derived.Lib.Hide
import Derived.WalkSpells
import Derived.WalkLawsBesides
import Derived.Test.YtejpdbiiikcmmaaGreatDoorCi
import Derived.Test.YtejpdbiiikcmmaaGreatDoorShelf
import Derived.Test.YtejpdbiiikcmmaaGreatDoorBk
namespace Go.Proofs.YtejpdbiiikcmmaaGreatDoor.Cls
open Go.RowKit

def up (r : Int) : Bool := decide (65 ≤ r) && decide (r ≤ 90)
def lo (r : Int) : Bool := decide (97 ≤ r) && decide (r ≤ 122)
def dg (r : Int) : Bool := decide (48 ≤ r) && decide (r ≤ 57)
def bl (r : Int) : Bool := r == 9 || r == 10 || r == 12 || r == 32
def vl (r : Int) : Int := if dg r then r - 48 else if 97 ≤ r ∧ r ≤ 102 then r - 87 else if 65 ≤ r ∧ r ≤ 70 then r - 55 else -1
def lw (r : Int) : Int := if up r then r + 32 else r
theorem ri {k : IntKind} {a b : Int} (h : b = a) : Ending.returned (.int k a) = .returned (.int k b) := by rw [h]
theorem rb {a b : Bool} (h : b = a) : Ending.returned (.bool a) = .returned (.bool b) := by rw [h]
theorem up_t {r : Int} (h1 : 65 ≤ r) (h2 : r ≤ 90) : up r = true := by simp [up, h1, h2]
theorem dg_t {r : Int} (h1 : 48 ≤ r) (h2 : r ≤ 57) : dg r = true := by simp [dg, h1, h2]
theorem up_f {r : Int} (h1 : ¬ (65 ≤ r ∧ r ≤ 90)) : up r = false := by simp [up]; omega
theorem dg_f {r : Int} (h1 : ¬ (48 ≤ r ∧ r ≤ 57)) : dg r = false := by simp [dg]; omega

set_option maxHeartbeats 400000 in
theorem nUpper (r : Int) (w : World) : Calls Tryz.prog 309 #[.int .i32 r] w fun e w' => e = .returned (.bool (up r)) ∧ w = w' := by
  unfold up
  by_cases h1 : 65 ≤ r <;> by_cases h2 : r ≤ 90
  all_goals
    go_enter Tryz.func309, Tryz.ntmps309
    go_wp2
    go_ret
    simp [h1, h2]

set_option maxHeartbeats 400000 in
theorem nDigit (r : Int) (w : World) : Calls Tryz.prog 267 #[.int .i32 r] w fun e w' => e = .returned (.bool (dg r)) ∧ w = w' := by
  unfold dg
  by_cases h1 : 48 ≤ r <;> by_cases h2 : r ≤ 57
  all_goals
    go_enter Tryz.func267, Tryz.ntmps267
    go_wp2
    go_ret
    simp [h1, h2]

set_option maxHeartbeats 400000 in
theorem nLetter (r : Int) (w : World) : Calls Tryz.prog 266 #[.int .i32 r] w fun e w' => e = .returned (.bool (up r || lo r)) ∧ w = w' := by
  have hu : up r = true ∨ up r = false := by cases up r <;> simp
  unfold lo
  rcases hu with hu | hu <;> by_cases h1 : 97 ≤ r <;> by_cases h2 : r ≤ 122
  all_goals
    go_enter Tryz.func266, Tryz.ntmps266
    go_wp2_with (go_at_call 309; refine (nUpper _ _).mono ?_; rintro e w' ⟨rfl, rfl⟩)
    all_goals (go_ret; simp [hu, h1, h2])

set_option maxHeartbeats 400000 in
theorem rUpper (r : Int) (w : World) : Calls Tryz.prog 107 #[.int .i32 r] w fun e w' => e = .returned (.bool (up r)) ∧ w = w' := by
  unfold up
  by_cases h1 : 65 ≤ r <;> by_cases h2 : r ≤ 90
  all_goals
    go_enter Tryz.func107, Tryz.ntmps107
    go_wp2
    go_ret
    simp [h1, h2]

set_option maxHeartbeats 400000 in
theorem rDigit (r : Int) (w : World) : Calls Tryz.prog 175 #[.int .i32 r] w fun e w' => e = .returned (.bool (dg r)) ∧ w = w' := by
  unfold dg
  by_cases h1 : 48 ≤ r <;> by_cases h2 : r ≤ 57
  all_goals
    go_enter Tryz.func175, Tryz.ntmps175
    go_wp2
    go_ret
    simp [h1, h2]

set_option maxHeartbeats 400000 in
theorem rLetter (r : Int) (w : World) : Calls Tryz.prog 174 #[.int .i32 r] w fun e w' => e = .returned (.bool (up r || lo r)) ∧ w = w' := by
  have hu : up r = true ∨ up r = false := by cases up r <;> simp
  unfold lo
  rcases hu with hu | hu <;> by_cases h1 : 97 ≤ r <;> by_cases h2 : r ≤ 122
  all_goals
    go_enter Tryz.func174, Tryz.ntmps174
    go_wp2_with (go_at_call 107; refine (rUpper _ _).mono ?_; rintro e w' ⟨rfl, rfl⟩)
    all_goals (go_ret; simp [hu, h1, h2])

end Go.Proofs.YtejpdbiiikcmmaaGreatDoor.Cls

/- Small letters: both functions Lower return the text with each of A to Z in lower case. -/
namespace Go.Proofs.YtejpdbiiikcmmaaGreatDoor.Lw
open Go.RowKit Lb

set_option maxHeartbeats 1000000 in
set_option maxRecDepth 100000 in
theorem nLower (s : ByteArray) (w : World) (hs : s.size ≤ maxLen) : Calls Tryz.prog 166 #[.string s] w fun e w' => e = .returned (.string (lowS s)) ∧ Below w.heap.size w w' := by
  unfold maxLen at hs
  obtain ⟨cap, o, hcap, hconv, hbyt⟩ := byt_of_string (P := Tryz.prog) w 9 139 5 s Tryz.underlying9 Tryz.underlying139 Tryz.underlying5
  have hbel : Below w.heap.size w (w.alloc o) := (Below.refl _ _).alloc (Nat.le_refl _) o
  obtain ⟨l, hl⟩ : ∃ l, l = s.data.toList := ⟨_, rfl⟩
  have hsz : l.length = s.size := by rw [hl, size_len]
  have HB := Lib.hid hbyt; clear hbyt
  have HS := Lib.hid hsz; clear hsz
  have HL := Lib.hid hl; clear hl
  go_enter Tryz.func166, Tryz.ntmps166
  go_wp2
  go_loopw [10] (fun i wr => ∃ k : Nat, k ≤ s.size ∧ i = .int .i64 k ∧ Hid (Byt wr w.heap.size 5 ((lowL l).take k ++ l.drop k)) ∧ Below w.heap.size w wr) (fun i _ => s.size - (intOf i).toNat)
  case atStart => exact ⟨0, Nat.zero_le _, rfl, Lib.hid (by rw [HL.out]; exact HB.out), hbel.drew⟩
  case round =>
    obtain ⟨k, hk, rfl, hB, hnx⟩ := hrel
    by_cases hlt : k < s.size
    · have hkl : k < l.length := by rw [HS.out]; exact hlt
      have hk2 : k < ((lowL l).take k ++ l.drop k).length := by rw [low_at l k hkl]; exact hkl
      have hc := hB.out.cell hk2
      rw [low_get l k hkl hk2] at hc
      have hf := hB.out.free hk2
      obtain ⟨c, hcdef⟩ : ∃ c, c = l[k] := ⟨_, rfl⟩
      rw [← hcdef] at hc
      have HC := Lib.hid hcdef; clear hcdef
      have hb1 : c.toNat < 256 := c.toNat_lt
      by_cases hu : 65 ≤ c.toNat ∧ c.toNat ≤ 90
      · obtain ⟨h1, h2⟩ := hu
        go_wp2
        go_roundw
        case rel =>
          refine ⟨k + 1, by omega, by go_num, Lib.hid ?_, hnx.setCell (Nat.le_refl _) _⟩
          have := hB.out.set hk2 (lowB c)
          rw [HC.out, low_step l k hkl, ← HC.out] at this
          rw [lowB_up h1 h2] at this
          have e : (c.toNat : Int) + 97 - 65 = c.toNat + 32 := by omega
          rw [e]; exact this
        case measure => simp [intOf]; omega
      · have h1 : ¬ (65 ≤ c.toNat) ∨ ¬ (c.toNat ≤ 90) := by omega
        have hst := low_stay l k hkl (by rw [← HC.out]; exact hu)
        have HST := Lib.hid hst; clear hst
        clear hu
        by_cases h2 : 65 ≤ c.toNat
        · have h3 : ¬ (c.toNat ≤ 90) := by omega
          clear h1
          go_wp2
          go_roundw
          case rel => exact ⟨k + 1, by omega, by go_num, Lib.hid (by rw [← HST.out]; exact hB.out), hnx⟩
          case measure => simp [intOf]; omega
        · clear h1
          go_wp2
          go_roundw
          case rel => exact ⟨k + 1, by omega, by go_num, Lib.hid (by rw [← HST.out]; exact hB.out), hnx⟩
          case measure => simp [intOf]; omega
    · have hke : k = s.size := by omega
      subst hke
      have hfin : (lowL l).take s.size ++ l.drop s.size = lowL l := by
        rw [← HS.out, List.drop_length, List.append_nil, List.take_of_length_le (by simp [lowL])]
      have hb2 := hB.out
      rw [hfin] at hb2
      have hback := string_of_byt (P := Tryz.prog) (cap := cap) Tryz.underlying139 Tryz.underlying5 Tryz.underlying9 (n := s.size) hb2 (by rw [← HS.out]; simp [lowL])
      clear hfin hb2 hB
      go_wp2
      go_ret
      exact ⟨rs (by unfold lowS; rw [HL.out]), hnx⟩

set_option maxHeartbeats 1000000 in
set_option maxRecDepth 100000 in
theorem rLower (s : ByteArray) (w : World) (hs : s.size ≤ maxLen) : Calls Tryz.prog 143 #[.string s] w fun e w' => e = .returned (.string (lowS s)) ∧ Below w.heap.size w w' := by
  unfold maxLen at hs
  obtain ⟨cap, o, hcap, hconv, hbyt⟩ := byt_of_string (P := Tryz.prog) w 9 139 5 s Tryz.underlying9 Tryz.underlying139 Tryz.underlying5
  have hbel : Below w.heap.size w (w.alloc o) := (Below.refl _ _).alloc (Nat.le_refl _) o
  obtain ⟨l, hl⟩ : ∃ l, l = s.data.toList := ⟨_, rfl⟩
  have hsz : l.length = s.size := by rw [hl, size_len]
  have HB := Lib.hid hbyt; clear hbyt
  have HS := Lib.hid hsz; clear hsz
  have HL := Lib.hid hl; clear hl
  go_enter Tryz.func143, Tryz.ntmps143
  go_wp2
  go_loopw [9] (fun i wr => ∃ k : Nat, k ≤ s.size ∧ i = .int .i64 k ∧ Hid (Byt wr w.heap.size 5 ((lowL l).take k ++ l.drop k)) ∧ Below w.heap.size w wr) (fun i _ => s.size - (intOf i).toNat)
  case atStart => exact ⟨0, Nat.zero_le _, rfl, Lib.hid (by rw [HL.out]; exact HB.out), hbel.drew⟩
  case round =>
    obtain ⟨k, hk, rfl, hB, hnx⟩ := hrel
    by_cases hlt : k < s.size
    · have hkl : k < l.length := by rw [HS.out]; exact hlt
      have hk2 : k < ((lowL l).take k ++ l.drop k).length := by rw [low_at l k hkl]; exact hkl
      have hc := hB.out.cell hk2
      rw [low_get l k hkl hk2] at hc
      have hf := hB.out.free hk2
      obtain ⟨c, hcdef⟩ : ∃ c, c = l[k] := ⟨_, rfl⟩
      rw [← hcdef] at hc
      have HC := Lib.hid hcdef; clear hcdef
      have hb1 : c.toNat < 256 := c.toNat_lt
      by_cases hu : 65 ≤ c.toNat ∧ c.toNat ≤ 90
      · obtain ⟨h1, h2⟩ := hu
        go_wp2
        go_roundw
        case rel =>
          refine ⟨k + 1, by omega, by go_num, Lib.hid ?_, hnx.setCell (Nat.le_refl _) _⟩
          have := hB.out.set hk2 (lowB c)
          rw [HC.out, low_step l k hkl, ← HC.out] at this
          rw [lowB_up h1 h2] at this
          exact this
        case measure => simp [intOf] <;> omega
      · have h1 : ¬ (65 ≤ c.toNat) ∨ ¬ (c.toNat ≤ 90) := by omega
        have hst := low_stay l k hkl (by rw [← HC.out]; exact hu)
        have HST := Lib.hid hst; clear hst
        clear hu
        by_cases h2 : 65 ≤ c.toNat
        · have h3 : ¬ (c.toNat ≤ 90) := by omega
          clear h1
          go_wp2
          go_roundw
          case rel => exact ⟨k + 1, by omega, by go_num, Lib.hid (by rw [← HST.out]; exact hB.out), hnx⟩
          case measure => simp [intOf] <;> omega
        · clear h1
          go_wp2
          go_roundw
          case rel => exact ⟨k + 1, by omega, by go_num, Lib.hid (by rw [← HST.out]; exact hB.out), hnx⟩
          case measure => simp [intOf] <;> omega
    · have hke : k = s.size := by omega
      subst hke
      have hfin : (lowL l).take s.size ++ l.drop s.size = lowL l := by
        rw [← HS.out, List.drop_length, List.append_nil, List.take_of_length_le (by simp [lowL])]
      have hb2 := hB.out
      rw [hfin] at hb2
      have hback := string_of_byt (P := Tryz.prog) (cap := cap) Tryz.underlying139 Tryz.underlying5 Tryz.underlying9 (n := s.size) hb2 (by rw [← HS.out]; simp [lowL])
      clear hfin hb2 hB
      go_wp2
      go_ret
      exact ⟨rs (by unfold lowS; rw [HL.out]), hnx⟩
end Go.Proofs.YtejpdbiiikcmmaaGreatDoor.Lw

/- Which names may be written, and which handle an event: what the functions return, the program's and the reference's. -/
namespace Go.Proofs.YtejpdbiiikcmmaaGreatDoor.Fm
open Go.RowKit Lb Lw

def inB (a b : Nat) (c : Int) : Bool := decide ((a : Int) ≤ c) && decide (c ≤ b)

set_option maxHeartbeats 400000 in
theorem rSmall (c : UInt8) (w : World) : Calls Tryz.prog 108 #[.int .u8 (c.toNat : Int)] w fun e w' => e = .returned (.bool (smB c)) ∧ w = w' := by
  have h9 := c.toNat_lt
  cases h : smB c
  · rcases smB_f h with h1 | h1
    · go_enter Tryz.func108, Tryz.ntmps108
      go_wp2
      go_ret
      exact ⟨rb (by simp <;> omega), rfl⟩
    · have h2 : 97 ≤ c.toNat := by omega
      go_enter Tryz.func108, Tryz.ntmps108
      go_wp2
      go_ret
      exact ⟨rb (by simp <;> omega), rfl⟩
  · obtain ⟨h1, h2⟩ := smB_t h
    go_enter Tryz.func108, Tryz.ntmps108
    go_wp2
    go_ret
    exact ⟨rb (by simp <;> omega), rfl⟩

theorem dgB_t {c : UInt8} (h : dgB c = true) : 48 ≤ c.toNat ∧ c.toNat ≤ 57 := by simpa [dgB] using h
theorem dgB_f {c : UInt8} (h : dgB c = false) : c.toNat < 48 ∨ 57 < c.toNat := by
  have := h; simp [dgB] at this; omega

set_option maxHeartbeats 400000 in
theorem rDigit (c : UInt8) (w : World) : Calls Tryz.prog 109 #[.int .u8 (c.toNat : Int)] w fun e w' => e = .returned (.bool (dgB c)) ∧ w = w' := by
  have h9 := c.toNat_lt
  cases h : dgB c
  · rcases dgB_f h with h1 | h1
    · go_enter Tryz.func109, Tryz.ntmps109
      go_wp2
      go_ret
      exact ⟨rb (by simp <;> omega), rfl⟩
    · have h2 : 48 ≤ c.toNat := by omega
      go_enter Tryz.func109, Tryz.ntmps109
      go_wp2
      go_ret
      exact ⟨rb (by simp <;> omega), rfl⟩
  · obtain ⟨h1, h2⟩ := dgB_t h
    go_enter Tryz.func109, Tryz.ntmps109
    go_wp2
    go_ret
    exact ⟨rb (by simp <;> omega), rfl⟩

set_option maxHeartbeats 800000 in
theorem nPlain (c : UInt8) (w : World) : Calls Tryz.prog 268 #[.int .u8 (c.toNat : Int)] w fun e w' => e = .returned (.bool (smB c || dgB c)) ∧ w = w' := by
  have h9 := c.toNat_lt
  by_cases h1 : 97 ≤ c.toNat <;> by_cases h2 : c.toNat ≤ 122 <;> by_cases h3 : 48 ≤ c.toNat <;> by_cases h4 : c.toNat ≤ 57 <;> try (exfalso; omega)
  all_goals
    have e1 : smB c = (decide (97 ≤ c.toNat) && decide (c.toNat ≤ 122)) := rfl
    have e2 : dgB c = (decide (48 ≤ c.toNat) && decide (c.toNat ≤ 57)) := rfl
    simp only [h1, h2, h3, h4] at e1 e2
    have E1 := Lib.hid e1
    have E2 := Lib.hid e2
    clear e1 e2
    go_enter Tryz.func268, Tryz.ntmps268
    go_wp2
    all_goals (go_ret; exact ⟨rb (by rw [E1.out, E2.out]; simp <;> omega), rfl⟩)

set_option maxHeartbeats 2000000 in
set_option maxRecDepth 100000 in
theorem nWritten0 (s : ByteArray) (w : World) : Calls Tryz.prog 215 #[.string s, .int .u8 0] w fun e w' => e = .returned (.bool (wrt false s.data.toList)) ∧ w = w' := by
  by_cases h0 : s.size = 0
  · have hf := Lib.hid (wrt_0 (o := false) h0)
    have he := toList_nil h0
    have hb := isEmpty_nil h0
    go_enter Tryz.func215, Tryz.ntmps215
    go_wp2
    go_ret
    exact ⟨rb hf.out, rfl⟩
  have hp : 0 < s.size := by omega
  have hne := toList_ne hp
  have hnb := isEmpty_ne hp
  by_cases hl : 100 < s.size
  · have hf := Lib.hid (wrt_long (o := false) hl)
    go_enter Tryz.func215, Tryz.ntmps215
    go_wp2
    go_ret
    exact ⟨rb hf.out, rfl⟩
  have hl2 : s.size ≤ 100 := by omega
  have hu0 := (s[0]).toNat_lt
  cases hs : smB s[0]
  · have hf := Lib.hid (wrt_head (o := false) hp hs)
    rcases smB_f hs with h1 | h1
    · go_enter Tryz.func215, Tryz.ntmps215
      go_wp2
      go_ret
      exact ⟨rb hf.out, rfl⟩
    · have h2 : 97 ≤ (s[0]).toNat := by omega
      go_enter Tryz.func215, Tryz.ntmps215
      go_wp2
      go_ret
      exact ⟨rb hf.out, rfl⟩
  obtain ⟨hs1, hs2⟩ := smB_t hs
  have HS := Lib.hid hs
  clear hs
  by_cases hd : (s[s.size - 1]'(by omega)).toNat = 45
  · have hf := Lib.hid (wrt_last (o := false) hp hd)
    have hd1 : (((s[s.size - 1]'(by omega)).toNat : Int) == 45) = true := by rw [hd]; rfl
    go_enter Tryz.func215, Tryz.ntmps215
    go_wp2
    go_ret
    exact ⟨rb hf.out, rfl⟩
  have hd1 : (((s[s.size - 1]'(by omega)).toNat : Int) == 45) = false := by simpa using (by omega : ¬ ((s[s.size - 1]'(by omega)).toNat : Int) = 45)
  have HD := Lib.hid hd
  clear hd
  go_enter Tryz.func215, Tryz.ntmps215
  go_wp2
  go_loop [33] (fun i => ∃ k : Nat, k ≤ s.size ∧ i = .int .i64 k ∧ Hid (∀ j (hj : j < s.size), j < k → okB false s[j] = true)) (fun i => s.size - (intOf i).toNat)
  case atStart => exact ⟨0, by omega, rfl, Lib.hid (fun j _ hj => by omega)⟩
  case round =>
    obtain ⟨k, hk, rfl, hall⟩ := hrel
    by_cases hlt : k < s.size
    · have hu := (s[k]).toNat_lt
      cases hpl : (smB s[k] || dgB s[k])

      · have hbad := Lib.hid (wrt_bad (o := false) hlt (by simpa [okB] using hpl))
        have hz : (((s[k]).toNat : Int) != 0) = true ∨ (((s[k]).toNat : Int) != 0) = false := by cases ((s[k]).toNat : Int) != 0 <;> simp
        rcases hz with hz | hz
        all_goals
          go_wp2_with (go_at_call 268; refine (nPlain _ _).mono ?_; rintro e w' ⟨rfl, rfl⟩)
          go_ret
          exact ⟨rb hbad.out, rfl⟩

      · have hok : Hid (∀ j (hj : j < s.size), j < k + 1 → okB false s[j] = true) := Lib.hid (fun j hj hjk => by
          by_cases e : j = k
          · subst e; simp [okB, hpl]
          · exact hall.out j hj (by omega))
        go_wp2_with (go_at_call 268; refine (nPlain _ _).mono ?_; rintro e w' ⟨rfl, rfl⟩)
        go_round
        case rel => exact ⟨k + 1, by omega, by go_num, hok⟩
        case measure => simp [intOf] <;> omega
    · have hy := Lib.hid (wrt_yes (o := false) hp hl2 HS.out (fun _ => HD.out) (fun j hj => hall.out j hj (by omega)))
      go_wp2
      go_ret
      exact ⟨rb hy.out, rfl⟩

set_option maxHeartbeats 2000000 in
set_option maxRecDepth 100000 in
theorem nWritten45 (s : ByteArray) (w : World) : Calls Tryz.prog 215 #[.string s, .int .u8 45] w fun e w' => e = .returned (.bool (wrt true s.data.toList)) ∧ w = w' := by
  by_cases h0 : s.size = 0
  · have hf := Lib.hid (wrt_0 (o := true) h0)
    have he := toList_nil h0
    have hb := isEmpty_nil h0
    go_enter Tryz.func215, Tryz.ntmps215
    go_wp2
    go_ret
    exact ⟨rb hf.out, rfl⟩
  have hp : 0 < s.size := by omega
  have hne := toList_ne hp
  have hnb := isEmpty_ne hp
  by_cases hl : 100 < s.size
  · have hf := Lib.hid (wrt_long (o := true) hl)
    go_enter Tryz.func215, Tryz.ntmps215
    go_wp2
    go_ret
    exact ⟨rb hf.out, rfl⟩
  have hl2 : s.size ≤ 100 := by omega
  have hu0 := (s[0]).toNat_lt
  cases hs : smB s[0]
  · have hf := Lib.hid (wrt_head (o := true) hp hs)
    rcases smB_f hs with h1 | h1
    · go_enter Tryz.func215, Tryz.ntmps215
      go_wp2
      go_ret
      exact ⟨rb hf.out, rfl⟩
    · have h2 : 97 ≤ (s[0]).toNat := by omega
      go_enter Tryz.func215, Tryz.ntmps215
      go_wp2
      go_ret
      exact ⟨rb hf.out, rfl⟩
  obtain ⟨hs1, hs2⟩ := smB_t hs
  have HS := Lib.hid hs
  clear hs
  by_cases hd : (s[s.size - 1]'(by omega)).toNat = 45
  · have hf := Lib.hid (wrt_last (o := true) hp hd)
    have hd1 : (((s[s.size - 1]'(by omega)).toNat : Int) == 45) = true := by rw [hd]; rfl
    go_enter Tryz.func215, Tryz.ntmps215
    go_wp2
    go_ret
    exact ⟨rb hf.out, rfl⟩
  have hd1 : (((s[s.size - 1]'(by omega)).toNat : Int) == 45) = false := by simpa using (by omega : ¬ ((s[s.size - 1]'(by omega)).toNat : Int) = 45)
  have HD := Lib.hid hd
  clear hd
  go_enter Tryz.func215, Tryz.ntmps215
  go_wp2
  go_loop [33] (fun i => ∃ k : Nat, k ≤ s.size ∧ i = .int .i64 k ∧ Hid (∀ j (hj : j < s.size), j < k → okB true s[j] = true)) (fun i => s.size - (intOf i).toNat)
  case atStart => exact ⟨0, by omega, rfl, Lib.hid (fun j _ hj => by omega)⟩
  case round =>
    obtain ⟨k, hk, rfl, hall⟩ := hrel
    by_cases hlt : k < s.size
    · have hu := (s[k]).toNat_lt
      cases hpl : (smB s[k] || dgB s[k])

      · by_cases h45 : (s[k]).toNat = 45
        · have hz : (((s[k]).toNat : Int) != 45) = false := by rw [h45]; rfl
          have hok : Hid (∀ j (hj : j < s.size), j < k + 1 → okB true s[j] = true) := Lib.hid (fun j hj hjk => by
            by_cases e : j = k
            · subst e; simp [okB, h45]
            · exact hall.out j hj (by omega))
          clear h45
          go_wp2_with (go_at_call 268; refine (nPlain _ _).mono ?_; rintro e w' ⟨rfl, rfl⟩)
          go_round
          case rel => exact ⟨k + 1, by omega, by go_num, hok⟩
          case measure => simp [intOf] <;> omega
        · have hz : (((s[k]).toNat : Int) != 45) = true := by rw [bne_iff_ne]; omega
          have hbad := Lib.hid (wrt_bad (o := true) hlt (by simp [okB, h45]; simpa using hpl))
          clear h45
          go_wp2_with (go_at_call 268; refine (nPlain _ _).mono ?_; rintro e w' ⟨rfl, rfl⟩)
          go_ret
          exact ⟨rb hbad.out, rfl⟩

      · have hok : Hid (∀ j (hj : j < s.size), j < k + 1 → okB true s[j] = true) := Lib.hid (fun j hj hjk => by
          by_cases e : j = k
          · subst e; simp [okB, hpl]
          · exact hall.out j hj (by omega))
        go_wp2_with (go_at_call 268; refine (nPlain _ _).mono ?_; rintro e w' ⟨rfl, rfl⟩)
        go_round
        case rel => exact ⟨k + 1, by omega, by go_num, hok⟩
        case measure => simp [intOf] <;> omega
    · have hy := Lib.hid (wrt_yes (o := true) hp hl2 HS.out (fun _ => HD.out) (fun j hj => hall.out j hj (by omega)))
      go_wp2
      go_ret
      exact ⟨rb hy.out, rfl⟩

set_option maxHeartbeats 400000 in
theorem nTagName (s : ByteArray) (w : World) : Calls Tryz.prog 161 #[.string s] w fun e w' => e = .returned (.bool (wrt false s.data.toList)) ∧ w = w' := by
  go_enter Tryz.func161, Tryz.ntmps161
  go_wp2_with (go_at_call 215; refine (nWritten0 _ _).mono ?_; rintro e w' ⟨rfl, rfl⟩)
  go_ret
  exact ⟨rfl, rfl⟩

set_option maxHeartbeats 400000 in
theorem nAttrName (s : ByteArray) (w : World) : Calls Tryz.prog 260 #[.string s] w fun e w' => e = .returned (.bool (wrt true s.data.toList)) ∧ w = w' := by
  go_enter Tryz.func260, Tryz.ntmps260
  go_wp2_with (go_at_call 215; refine (nWritten45 _ _).mono ?_; rintro e w' ⟨rfl, rfl⟩)
  go_ret
  exact ⟨rfl, rfl⟩

set_option maxHeartbeats 2000000 in
set_option maxRecDepth 100000 in
theorem rTagName (s : ByteArray) (w : World) : Calls Tryz.prog 48 #[.string s] w fun e w' => e = .returned (.bool (wrt false s.data.toList)) ∧ w = w' := by
  by_cases h0 : s.size = 0
  · have hf := Lib.hid (wrt_0 (o := false) h0)
    go_enter Tryz.func48, Tryz.ntmps48
    go_wp2
    go_ret
    exact ⟨rb hf.out, rfl⟩
  have hp : 0 < s.size := by omega
  by_cases hl : 100 < s.size
  · have hf := Lib.hid (wrt_long (o := false) hl)
    go_enter Tryz.func48, Tryz.ntmps48
    go_wp2
    go_ret
    exact ⟨rb hf.out, rfl⟩
  have hl2 : s.size ≤ 100 := by omega
  cases hs : smB s[0]
  · have hf := Lib.hid (wrt_head (o := false) hp hs)
    go_enter Tryz.func48, Tryz.ntmps48
    go_wp2_with (first | (go_at_call 108; refine (rSmall _ _).mono ?_; rintro e w' ⟨rfl, rfl⟩) | (go_at_call 109; refine (rDigit _ _).mono ?_; rintro e w' ⟨rfl, rfl⟩))
    go_ret
    exact ⟨rb hf.out, rfl⟩

  have HS := Lib.hid hs
  go_enter Tryz.func48, Tryz.ntmps48
  go_wp2_with (first | (go_at_call 108; refine (rSmall _ _).mono ?_; rintro e w' ⟨rfl, rfl⟩) | (go_at_call 109; refine (rDigit _ _).mono ?_; rintro e w' ⟨rfl, rfl⟩))
  go_loop [20] (fun i => ∃ k : Nat, k ≤ s.size ∧ i = .int .i64 k ∧ Hid (∀ j (hj : j < s.size), j < k → okB false s[j] = true)) (fun i => s.size - (intOf i).toNat)
  case atStart => exact ⟨0, by omega, rfl, Lib.hid (fun j _ hj => by omega)⟩
  case round =>
    obtain ⟨k, hk, rfl, hall⟩ := hrel
    clear hs
    by_cases hlt : k < s.size
    · have hsm : smB s[k] = true ∨ (smB s[k] = false ∧ dgB s[k] = true) ∨ (smB s[k] = false ∧ dgB s[k] = false) := by
        cases smB s[k] <;> cases dgB s[k] <;> simp
      rcases hsm with hsm | ⟨hsm, hdg⟩ | ⟨hsm, hdg⟩
      · have hok : Hid (∀ j (hj : j < s.size), j < k + 1 → okB false s[j] = true) := Lib.hid (fun j hj hjk => by
          by_cases e : j = k
          · subst e; simp [okB, hsm]
          · exact hall.out j hj (by omega))
        go_wp2_with (first | (go_at_call 108; refine (rSmall _ _).mono ?_; rintro e w' ⟨rfl, rfl⟩) | (go_at_call 109; refine (rDigit _ _).mono ?_; rintro e w' ⟨rfl, rfl⟩))
        go_round
        case rel => exact ⟨k + 1, by omega, by go_num, hok⟩
        case measure => simp [intOf] <;> omega
      · have hok : Hid (∀ j (hj : j < s.size), j < k + 1 → okB false s[j] = true) := Lib.hid (fun j hj hjk => by
          by_cases e : j = k
          · subst e; simp [okB, hdg]
          · exact hall.out j hj (by omega))
        go_wp2_with (first | (go_at_call 108; refine (rSmall _ _).mono ?_; rintro e w' ⟨rfl, rfl⟩) | (go_at_call 109; refine (rDigit _ _).mono ?_; rintro e w' ⟨rfl, rfl⟩))
        go_round
        case rel => exact ⟨k + 1, by omega, by go_num, hok⟩
        case measure => simp [intOf] <;> omega
      · have hbad := Lib.hid (wrt_bad (o := false) hlt (by simp [okB, hsm, hdg]))
        go_wp2_with (first | (go_at_call 108; refine (rSmall _ _).mono ?_; rintro e w' ⟨rfl, rfl⟩) | (go_at_call 109; refine (rDigit _ _).mono ?_; rintro e w' ⟨rfl, rfl⟩))
        go_ret
        exact ⟨rb hbad.out, rfl⟩
    · have hy := Lib.hid (wrt_yes (o := false) hp hl2 HS.out (fun e => by cases e) (fun j hj => hall.out j hj (by omega)))
      go_wp2
      go_ret
      exact ⟨rb hy.out, rfl⟩

set_option maxHeartbeats 2000000 in
set_option maxRecDepth 100000 in
theorem rAttrName (s : ByteArray) (w : World) : Calls Tryz.prog 172 #[.string s] w fun e w' => e = .returned (.bool (wrt true s.data.toList)) ∧ w = w' := by
  by_cases h0 : s.size = 0
  · have hf := Lib.hid (wrt_0 (o := true) h0)
    go_enter Tryz.func172, Tryz.ntmps172
    go_wp2
    go_ret
    exact ⟨rb hf.out, rfl⟩
  have hp : 0 < s.size := by omega
  by_cases hl : 100 < s.size
  · have hf := Lib.hid (wrt_long (o := true) hl)
    go_enter Tryz.func172, Tryz.ntmps172
    go_wp2
    go_ret
    exact ⟨rb hf.out, rfl⟩
  have hl2 : s.size ≤ 100 := by omega
  cases hs : smB s[0]
  · have hf := Lib.hid (wrt_head (o := true) hp hs)
    go_enter Tryz.func172, Tryz.ntmps172
    go_wp2_with (first | (go_at_call 108; refine (rSmall _ _).mono ?_; rintro e w' ⟨rfl, rfl⟩) | (go_at_call 109; refine (rDigit _ _).mono ?_; rintro e w' ⟨rfl, rfl⟩))
    go_ret
    exact ⟨rb hf.out, rfl⟩

  by_cases hd : (s[s.size - 1]'(by omega)).toNat = 45
  · have hf := Lib.hid (wrt_last (o := true) hp hd)
    have hd1 : (((s[s.size - 1]'(by omega)).toNat : Int) == 45) = true := by rw [hd]; rfl
    go_enter Tryz.func172, Tryz.ntmps172
    go_wp2_with (first | (go_at_call 108; refine (rSmall _ _).mono ?_; rintro e w' ⟨rfl, rfl⟩) | (go_at_call 109; refine (rDigit _ _).mono ?_; rintro e w' ⟨rfl, rfl⟩))
    go_ret
    exact ⟨rb hf.out, rfl⟩
  have hd1 : (((s[s.size - 1]'(by omega)).toNat : Int) == 45) = false := by simpa using (by omega : ¬ ((s[s.size - 1]'(by omega)).toNat : Int) = 45)
  have HD := Lib.hid hd
  clear hd

  have HS := Lib.hid hs
  go_enter Tryz.func172, Tryz.ntmps172
  go_wp2_with (first | (go_at_call 108; refine (rSmall _ _).mono ?_; rintro e w' ⟨rfl, rfl⟩) | (go_at_call 109; refine (rDigit _ _).mono ?_; rintro e w' ⟨rfl, rfl⟩))
  go_loop [28] (fun i => ∃ k : Nat, k ≤ s.size ∧ i = .int .i64 k ∧ Hid (∀ j (hj : j < s.size), j < k → okB true s[j] = true)) (fun i => s.size - (intOf i).toNat)
  case atStart => exact ⟨0, by omega, rfl, Lib.hid (fun j _ hj => by omega)⟩
  case round =>
    obtain ⟨k, hk, rfl, hall⟩ := hrel
    clear hs
    by_cases hlt : k < s.size
    · have hsm : smB s[k] = true ∨ (smB s[k] = false ∧ dgB s[k] = true) ∨ (smB s[k] = false ∧ dgB s[k] = false) := by
        cases smB s[k] <;> cases dgB s[k] <;> simp
      rcases hsm with hsm | ⟨hsm, hdg⟩ | ⟨hsm, hdg⟩
      · have hok : Hid (∀ j (hj : j < s.size), j < k + 1 → okB true s[j] = true) := Lib.hid (fun j hj hjk => by
          by_cases e : j = k
          · subst e; simp [okB, hsm]
          · exact hall.out j hj (by omega))
        go_wp2_with (first | (go_at_call 108; refine (rSmall _ _).mono ?_; rintro e w' ⟨rfl, rfl⟩) | (go_at_call 109; refine (rDigit _ _).mono ?_; rintro e w' ⟨rfl, rfl⟩))
        go_round
        case rel => exact ⟨k + 1, by omega, by go_num, hok⟩
        case measure => simp [intOf] <;> omega
      · have hok : Hid (∀ j (hj : j < s.size), j < k + 1 → okB true s[j] = true) := Lib.hid (fun j hj hjk => by
          by_cases e : j = k
          · subst e; simp [okB, hdg]
          · exact hall.out j hj (by omega))
        go_wp2_with (first | (go_at_call 108; refine (rSmall _ _).mono ?_; rintro e w' ⟨rfl, rfl⟩) | (go_at_call 109; refine (rDigit _ _).mono ?_; rintro e w' ⟨rfl, rfl⟩))
        go_round
        case rel => exact ⟨k + 1, by omega, by go_num, hok⟩
        case measure => simp [intOf] <;> omega
      · by_cases h45 : (s[k]).toNat = 45
        · have hz : (((s[k]).toNat : Int) != 45) = false := by rw [h45]; rfl
          have hok : Hid (∀ j (hj : j < s.size), j < k + 1 → okB true s[j] = true) := Lib.hid (fun j hj hjk => by
            by_cases e : j = k
            · subst e; simp [okB, h45]
            · exact hall.out j hj (by omega))
          clear h45
          go_wp2_with (first | (go_at_call 108; refine (rSmall _ _).mono ?_; rintro e w' ⟨rfl, rfl⟩) | (go_at_call 109; refine (rDigit _ _).mono ?_; rintro e w' ⟨rfl, rfl⟩))
          go_round
          case rel => exact ⟨k + 1, by omega, by go_num, hok⟩
          case measure => simp [intOf] <;> omega
        · have hz : (((s[k]).toNat : Int) != 45) = true := by rw [bne_iff_ne]; omega
          have hbad := Lib.hid (wrt_bad (o := true) hlt (by simp [okB, h45, hsm, hdg]))
          clear h45
          go_wp2_with (first | (go_at_call 108; refine (rSmall _ _).mono ?_; rintro e w' ⟨rfl, rfl⟩) | (go_at_call 109; refine (rDigit _ _).mono ?_; rintro e w' ⟨rfl, rfl⟩))
          go_ret
          exact ⟨rb hbad.out, rfl⟩
    · have hy := Lib.hid (wrt_yes (o := true) hp hl2 HS.out (fun _ => HD.out) (fun j hj => hall.out j hj (by omega)))
      go_wp2
      go_ret
      exact ⟨rb hy.out, rfl⟩

/-- the name begins with o, n in whatever letters -/
def evt (l : List UInt8) : Bool := Lib.hasPrefix (lowL l) [111, 110]
set_option maxHeartbeats 400000 in
theorem nEvent (s : ByteArray) (w : World) (hs : s.size ≤ maxLen) : Calls Tryz.prog 261 #[.string s] w fun e w' => e = .returned (.bool (evt s.data.toList)) ∧ Below w.heap.size w w' := by
  go_enter Tryz.func261, Tryz.ntmps261
  go_wp2_with (first | (go_at_call 166; refine (nLower _ _ hs).mono ?_; rintro e w1 ⟨rfl, hb⟩) | (go_at_call 308; refine (Tryz.strings_HasPrefix _ _ _).mono ?_; rintro e w' ⟨rfl, rfl⟩))
  go_ret
  exact ⟨rfl, hb⟩
theorem evt_short {s : ByteArray} (h : s.size < 2) : evt s.data.toList = false := by
  have hl := size_len s
  unfold evt Lib.hasPrefix lowL
  match hq : s.data.toList, hl with
  | [], _ => rfl
  | [c], _ => simp [List.isPrefixOf]
  | c :: d :: r, hl => simp at hl; omega
theorem evt_long {s : ByteArray} (h : 2 ≤ s.size) : evt s.data.toList = ((lowS (s.extract 0 2)).toList == (str [111, 110]).toList) := by
  have hl := size_len s
  unfold evt Lib.hasPrefix
  rw [Lib.toList_data, Lib.toList_data, str_toList]
  unfold lowS
  rw [str_toList, extract_str, str_toList]
  unfold lowL
  match hq : s.data.toList, hl with
  | [], hl => simp at hl; omega
  | [c], hl => simp at hl; omega
  | c :: d :: r, hl => simp [List.isPrefixOf]; rw [Bool.eq_iff_iff]; simp; constructor <;> (rintro ⟨a, b⟩; exact ⟨a.symm, b.symm⟩)
set_option maxHeartbeats 400000 in
theorem rEvent (s : ByteArray) (w : World) (hs : s.size ≤ maxLen) : Calls Tryz.prog 173 #[.string s] w fun e w' => e = .returned (.bool (evt s.data.toList)) ∧ Below w.heap.size w w' := by
  by_cases h2 : 2 ≤ s.size
  · have hv := Lib.hid (evt_long h2)
    have hz : (s.extract 0 2).size ≤ maxLen := by rw [extract_str, str_size]; unfold maxLen at hs ⊢; simp; omega
    go_enter Tryz.func173, Tryz.ntmps173
    go_wp2_with (go_at_call 143; refine (rLower _ _ hz).mono ?_; rintro e w1 ⟨rfl, hb⟩)
    go_ret
    exact ⟨rb (by rw [hv.out, Lib.toList_data (str _)]; rfl), hb⟩
  · have hv := Lib.hid (evt_short (by omega : s.size < 2))
    go_enter Tryz.func173, Tryz.ntmps173
    go_wp2
    go_ret
    exact ⟨rb hv.out, Below.refl _ _⟩

end Go.Proofs.YtejpdbiiikcmmaaGreatDoor.Fm

/- Schemes: the program's link.Check. -/
set_option linter.unusedVariables false
set_option linter.unusedSimpArgs false
namespace Go.Proofs.YtejpdbiiikcmmaaGreatDoor.Lk
open Go.RowKit Lb Pd Lw Is

/-- a byte of a scheme -/
def schB (c : UInt8) : Bool := ((Cls.up (c.toNat : Int) || Cls.lo (c.toNat : Int)) || Cls.dg (c.toNat : Int)) || ((c.toNat : Int) == 43) || ((c.toNat : Int) == 45) || ((c.toNat : Int) == 46)
set_option maxHeartbeats 1000000 in
set_option maxRecDepth 100000 in
theorem schemeByteC (c : UInt8) (w : World) : Calls Tryz.prog 214 #[.int .u8 (c.toNat : Int)] w fun e w' => e = .returned (.bool (schB c)) ∧ w = w' := by
  have hc := c.toNat_lt
  obtain ⟨n, hn⟩ : ∃ n, n = c.toNat := ⟨_, rfl⟩
  unfold schB
  rw [← hn] at hc ⊢
  have hw : IntKind.i32.wrap (n : Int) = (n : Int) := by rw [IntKind.wrap_i32] <;> omega
  obtain ⟨x, hx⟩ : ∃ x, x = (Cls.up (n : Int) || Cls.lo (n : Int)) := ⟨_, rfl⟩
  obtain ⟨y, hy⟩ : ∃ y, y = Cls.dg (n : Int) := ⟨_, rfl⟩
  have HX : Hid (∀ W, Calls Tryz.prog 266 #[.int .i32 (n : Int)] W fun e w' => e = .returned (.bool x) ∧ W = w') := Lib.hid fun W => hx ▸ Cls.nLetter _ W
  have HY : Hid (∀ W, Calls Tryz.prog 267 #[.int .i32 (n : Int)] W fun e w' => e = .returned (.bool y) ∧ W = w') := Lib.hid fun W => hy ▸ Cls.nDigit _ W
  rw [← hx, ← hy]
  clear hx hy hn
  cases x
  · cases y
    · cases h1 : ((n : Int) == 43)
      · cases h2 : ((n : Int) == 45)
        · cases h3 : ((n : Int) == 46)
          · go_enter Tryz.func214, Tryz.ntmps214
            go_wp2_with (first | (go_at_call 266; refine (HX.out _).mono ?_; rintro e w' ⟨rfl, rfl⟩) | (go_at_call 267; refine (HY.out _).mono ?_; rintro e w' ⟨rfl, rfl⟩))
            go_ret
            exact ⟨rb (by simp [*]), rfl⟩
          · go_enter Tryz.func214, Tryz.ntmps214
            go_wp2_with (first | (go_at_call 266; refine (HX.out _).mono ?_; rintro e w' ⟨rfl, rfl⟩) | (go_at_call 267; refine (HY.out _).mono ?_; rintro e w' ⟨rfl, rfl⟩))
            go_ret
            exact ⟨rb (by simp [*]), rfl⟩
        · go_enter Tryz.func214, Tryz.ntmps214
          go_wp2_with (first | (go_at_call 266; refine (HX.out _).mono ?_; rintro e w' ⟨rfl, rfl⟩) | (go_at_call 267; refine (HY.out _).mono ?_; rintro e w' ⟨rfl, rfl⟩))
          go_ret
          exact ⟨rb (by simp [*]), rfl⟩
      · go_enter Tryz.func214, Tryz.ntmps214
        go_wp2_with (first | (go_at_call 266; refine (HX.out _).mono ?_; rintro e w' ⟨rfl, rfl⟩) | (go_at_call 267; refine (HY.out _).mono ?_; rintro e w' ⟨rfl, rfl⟩))
        go_ret
        exact ⟨rb (by simp [*]), rfl⟩
    · go_enter Tryz.func214, Tryz.ntmps214
      go_wp2_with (first | (go_at_call 266; refine (HX.out _).mono ?_; rintro e w' ⟨rfl, rfl⟩) | (go_at_call 267; refine (HY.out _).mono ?_; rintro e w' ⟨rfl, rfl⟩))
      go_ret
      exact ⟨rb (by simp [*]), rfl⟩
  · go_enter Tryz.func214, Tryz.ntmps214
    go_wp2_with (first | (go_at_call 266; refine (HX.out _).mono ?_; rintro e w' ⟨rfl, rfl⟩) | (go_at_call 267; refine (HY.out _).mono ?_; rintro e w' ⟨rfl, rfl⟩))
    go_ret
    exact ⟨rb (by simp [*]), rfl⟩

/-- what may not be a scheme -/
def neverL : List ByteArray := [str [106, 97, 118, 97, 115, 99, 114, 105, 112, 116], str [100, 97, 116, 97], str [118, 98, 115, 99, 114, 105, 112, 116], str [98, 108, 111, 98], str [102, 105, 108, 101], str [102, 105, 108, 101, 115, 121, 115, 116, 101, 109], str [97, 98, 111, 117, 116]]
theorem nev_at {m : Nat} (h : m < 7) : (#[.string (str [106, 97, 118, 97, 115, 99, 114, 105, 112, 116]), .string (str [100, 97, 116, 97]), .string (str [118, 98, 115, 99, 114, 105, 112, 116]), .string (str [98, 108, 111, 98]), .string (str [102, 105, 108, 101]), .string (str [102, 105, 108, 101, 115, 121, 115, 116, 101, 109]), .string (str [97, 98, 111, 117, 116])] : Array Value)[m]? = some (.string (neverL[m]'(by show m < 7; exact h))) := by
  have e : (#[.string (str [106, 97, 118, 97, 115, 99, 114, 105, 112, 116]), .string (str [100, 97, 116, 97]), .string (str [118, 98, 115, 99, 114, 105, 112, 116]), .string (str [98, 108, 111, 98]), .string (str [102, 105, 108, 101]), .string (str [102, 105, 108, 101, 115, 121, 115, 116, 101, 109]), .string (str [97, 98, 111, 117, 116])] : Array Value) = (neverL.map Value.string).toArray := rfl
  rw [e, List.getElem?_toArray, List.getElem?_map, List.getElem?_eq_getElem (show m < neverL.length from h)]; rfl
def NevT (w : World) : Prop := ∀ j (h : j < 7), w.cell? ⟨1, j, none⟩ = some (.string (neverL[j]'(by show j < 7; exact h)))
theorem NevT.below {w w' : World} (h : NevT w) (hb : Below w.heap.size w w') : NevT w' := fun j hj => by
  have h1 := h j hj
  rw [← h1]
  refine hb.cell (p := ⟨1, j, none⟩) ?_
  exact World.block_lt_of_cell? w _ h1
def schCode (b : Bool) : Int := if b then 0 else 120
def schemeB (s : ByteArray) : Bool := decide (1 ≤ s.size) && decide (s.size ≤ 100) && smB (s.data.toList.headD 0) && decide (s = lowS s) && s.data.toList.all schB && !hasT neverL s
set_option maxHeartbeats 4000000 in
set_option maxRecDepth 100000 in
theorem checkC (s : ByteArray) (w : World) (hn : NevT w) (hsz : s.size ≤ maxLen) : Calls Tryz.prog 160 #[.string s] w fun e w' => e = .returned (.int .i64 (schCode (schemeB s))) ∧ Below w.heap.size w w' := by
  have hsl := size_len s
  by_cases h0 : s.size = 0
  · have hw : Hid (schemeB s = false) := Lib.hid (by unfold schemeB; rw [h0]; rfl)
    have e0 := toList_nil h0
    go_enter Tryz.func160, Tryz.ntmps160
    go_wp2
    go_ret
    exact ⟨ri (by rw [hw.out]; rfl), Below.refl _ _⟩
  · have e0 := toList_ne (s := s) (by omega)
    have e1 := isEmpty_ne (s := s) (by omega)
    by_cases h1 : 100 < s.size
    · have hw : Hid (schemeB s = false) := Lib.hid (by unfold schemeB; have : ¬ s.size ≤ 100 := by omega
                                                       simp [this])
      go_enter Tryz.func160, Tryz.ntmps160
      go_wp2
      go_ret
      exact ⟨ri (by rw [hw.out]; rfl), Below.refl _ _⟩
    · have hh := head_at (s := s) (by omega)
      have hpos : 0 < s.size := by omega
      cases hsm : smB s[0]
      · have hw : Hid (schemeB s = false) := Lib.hid (by unfold schemeB; rw [hh, hsm]; simp)
        have hf := smB_f hsm
        clear hsm hh
        by_cases h2 : (s[0].toNat : Int) < 97
        · go_enter Tryz.func160, Tryz.ntmps160
          go_wp2
          go_ret
          exact ⟨ri (by rw [hw.out]; rfl), Below.refl _ _⟩
        · have h3 : (122 : Int) < s[0].toNat := by omega
          go_enter Tryz.func160, Tryz.ntmps160
          go_wp2
          go_ret
          exact ⟨ri (by rw [hw.out]; rfl), Below.refl _ _⟩
      · obtain ⟨t1, t2⟩ := smB_t hsm
        have h2 : ¬ (s[0].toNat : Int) < 97 := by omega
        have h3 : ¬ (122 : Int) < s[0].toNat := by omega
        have HL : Hid (Calls Tryz.prog 166 #[.string s] w fun e w' => e = .returned (.string (lowS s)) ∧ Below w.heap.size w w') := Lib.hid (nLower s w hsz)
        by_cases hlo : s = lowS s
        · have HW : Hid (schemeB s = (s.data.toList.all schB && !hasT neverL s)) := Lib.hid (by
            unfold schemeB
            rw [hh, hsm, decide_eq_true hlo, decide_eq_true (by omega : 1 ≤ s.size), decide_eq_true (by omega : s.size ≤ 100)]
            rfl)
          have HN : Hid (∀ W, Below w.heap.size w W → NevT W) := Lib.hid fun W h => hn.below h
          rw [← hlo] at HL
          have HLO := Lib.hid hlo
          clear hsm hh hn hlo t1 t2
          go_enter Tryz.func160, Tryz.ntmps160
          go_upto_region 4 with (go_at_call 166; refine HL.out.mono ?_; rintro e w1 ⟨rfl, hb1⟩)
          have hnt := HN.out _ hb1
          have n0 := hnt 0 (by omega)
          have n1 := hnt 1 (by omega)
          have n2 := hnt 2 (by omega)
          have n3 := hnt 3 (by omega)
          have n4 := hnt 4 (by omega)
          have n5 := hnt 5 (by omega)
          have n6 := hnt 6 (by omega)
          simp only [neverL, List.getElem_cons_zero, List.getElem_cons_succ] at n0 n1 n2 n3 n4 n5 n6
          clear hnt HL
          go_loopw [31] (fun i wr => ∃ k : Nat, k ≤ s.size ∧ i = .int .i64 k ∧ wr = w1 ∧ Hid (∀ j (hj : j < k) (h : j < s.size), schB s[j] = true)) (fun i _ => s.size - (intOf i).toNat)
          case atStart => exact ⟨0, by omega, rfl, rfl, Lib.hid (fun j hj => by omega)⟩
          case round =>
            obtain ⟨k, hk, rfl, rfl, hall⟩ := hrel
            by_cases hlt : k < s.size
            · cases hb : schB s[k]
              · have hw : Hid (schemeB s = false) := Lib.hid (by
                  rw [HW.out]
                  have : s.data.toList.all schB = false := by
                    rw [List.all_eq_false]
                    exact ⟨s[k], by rw [at_list]; exact List.getElem_mem _, by rw [hb]; decide⟩
                  rw [this]; rfl)
                have HB : Hid (∀ W, Calls Tryz.prog 214 #[.int .u8 (s[k].toNat : Int)] W fun e w' => e = .returned (.bool false) ∧ W = w') := Lib.hid fun W => hb ▸ schemeByteC s[k] W
                clear hb
                go_wp2_with (go_at_call 214; refine (HB.out _).mono ?_; rintro e w' ⟨rfl, rfl⟩)
                go_ret
                exact ⟨ri (by rw [hw.out]; rfl), hb1⟩
              · have HB : Hid (∀ W, Calls Tryz.prog 214 #[.int .u8 (s[k].toNat : Int)] W fun e w' => e = .returned (.bool true) ∧ W = w') := Lib.hid fun W => hb ▸ schemeByteC s[k] W
                have HBB := Lib.hid hb
                clear hb
                go_wp2_with (go_at_call 214; refine (HB.out _).mono ?_; rintro e w' ⟨rfl, rfl⟩)
                go_roundw
                case rel => exact ⟨k + 1, by omega, by go_num, (by first | rfl | trivial), Lib.hid (fun j hj h => by
                  by_cases e : j = k
                  · subst e; exact HBB.out
                  · exact hall.out j (by omega) h)⟩
                case measure => simp [intOf] <;> omega
            · have HW2 : Hid (schemeB s = !hasT neverL s) := Lib.hid (by
                rw [HW.out]
                have : s.data.toList.all schB = true := by
                  rw [List.all_eq_true]
                  intro c hc
                  obtain ⟨j, hj, rfl⟩ := List.getElem_of_mem hc
                  have hj' : j < s.size := by rw [← size_len]; exact hj
                  have := hall.out j (by omega) hj'
                  rw [at_list] at this
                  exact this
                rw [this]; rfl)
              clear hall HW
              go_wp2
              go_loopw [41] (fun i wx => ∃ k : Nat, k ≤ 7 ∧ i = .int .i64 k ∧ wx = wr ∧ Hid (∀ j (hj : j < k) (h : j < neverL.length), neverL[j] ≠ s)) (fun i _ => 7 - (intOf i).toNat)
              case atStart => exact ⟨0, by omega, rfl, rfl, Lib.hid (fun j hj => by omega)⟩
              case round =>
                obtain ⟨m, hm, rfl, rfl, hnone⟩ := hrel
                by_cases hlt2 : m < 7
                · have hb3 : (m : Int) < (7 : Int) := by omega
                  have hb0 : (0 : Int) ≤ (m : Int) := by omega
                  obtain ⟨i0, hi, hz0, hz1, hz2⟩ := info_parts Fl.infoStr
                  have hidx := fun W => run_index_arr (P := Tryz.prog) (w := W) (kd := .i64) (i := (m : Int)) (cs := #[.string (str [106, 97, 118, 97, 115, 99, 114, 105, 112, 116]), .string (str [100, 97, 116, 97]), .string (str [118, 98, 115, 99, 114, 105, 112, 116]), .string (str [98, 108, 111, 98]), .string (str [102, 105, 108, 101]), .string (str [102, 105, 108, 101, 115, 121, 115, 116, 101, 109]), .string (str [97, 98, 111, 117, 116])]) (x := .string (neverL[m]'(by show m < 7; exact hlt2))) Tryz.underlying222 hi hz1 (aggStr W) hb0 hb3 (by rw [Int.toNat_natCast]; exact nev_at hlt2)
                  by_cases he : s = neverL[m]'(by show m < 7; exact hlt2)
                  · have hw : Hid (schemeB s = false) := Lib.hid (by
                      rw [HW2.out, hasT_iff.2 (by rw [he]; exact List.getElem_mem _)]; rfl)
                    have q1 := toList_eq_of he
                    have HE := Lib.hid he
                    clear he
                    go_wp2
                    go_ret
                    exact ⟨ri (by rw [hw.out]; rfl), hb1⟩
                  · have q1 := toList_ne_of he
                    have HE := Lib.hid he
                    clear he
                    go_wp2
                    go_roundw
                    case rel => exact ⟨m + 1, by omega, by go_num, (by first | rfl | trivial), Lib.hid (fun j hj h => by
                      by_cases e : j = m
                      · subst e; exact fun h9 => HE.out h9.symm
                      · exact hnone.out j (by omega) h)⟩
                    case measure => simp [intOf] <;> omega
                · have hw : Hid (schemeB s = true) := Lib.hid (by
                    rw [HW2.out]
                    have : hasT neverL s = false := by
                      rw [Bool.eq_false_iff]
                      intro h
                      obtain ⟨j, hj, e⟩ := List.getElem_of_mem (hasT_iff.1 h)
                      exact hnone.out j (by have : neverL.length = 7 := rfl
                                            omega) hj e
                    rw [this]; rfl)
                  go_wp2
                  go_ret
                  exact ⟨ri (by rw [hw.out]; rfl), hb1⟩
        · have hw : Hid (schemeB s = false) := Lib.hid (by unfold schemeB; rw [decide_eq_false hlo]; simp)
          have q1 := toList_ne_of hlo
          have q2 := toList_bne_of hlo
          clear hsm hh t1 t2
          go_enter Tryz.func160, Tryz.ntmps160
          go_wp2_with (go_at_call 166; refine HL.out.mono ?_; rintro e w1 ⟨rfl, hb1⟩)
          go_ret
          exact ⟨ri (by rw [hw.out]; rfl), hb1⟩
end Go.Proofs.YtejpdbiiikcmmaaGreatDoor.Lk

/- The reference's Check of a scheme. -/
set_option linter.unusedVariables false
set_option linter.unusedSimpArgs false
namespace Go.Proofs.YtejpdbiiikcmmaaGreatDoor.Rh
open Go.RowKit Lb Pd Lw Fm Is Go.Proofs.YtejpdbiiikcmmaaGreatDoor.Lk

set_option maxHeartbeats 1000000 in
set_option maxRecDepth 100000 in
theorem innerC (c : UInt8) (w : World) : Calls Tryz.prog 106 #[.int .u8 (c.toNat : Int)] w fun e w' => e = .returned (.bool (schB c)) ∧ w = w' := by
  have hc := c.toNat_lt
  obtain ⟨n, hn⟩ : ∃ n, n = c.toNat := ⟨_, rfl⟩
  unfold schB
  rw [← hn] at hc ⊢
  have hw : IntKind.i32.wrap (n : Int) = (n : Int) := by rw [IntKind.wrap_i32] <;> omega
  obtain ⟨x, hx⟩ : ∃ x, x = (Cls.up (n : Int) || Cls.lo (n : Int)) := ⟨_, rfl⟩
  obtain ⟨y, hy⟩ : ∃ y, y = Cls.dg (n : Int) := ⟨_, rfl⟩
  have HX : Hid (∀ W, Calls Tryz.prog 174 #[.int .i32 (n : Int)] W fun e w' => e = .returned (.bool x) ∧ W = w') := Lib.hid fun W => hx ▸ Cls.rLetter _ W
  have HY : Hid (∀ W, Calls Tryz.prog 175 #[.int .i32 (n : Int)] W fun e w' => e = .returned (.bool y) ∧ W = w') := Lib.hid fun W => hy ▸ Cls.rDigit _ W
  rw [← hx, ← hy]
  clear hx hy hn
  cases x
  · cases y
    · cases h1 : ((n : Int) == 43)
      · cases h2 : ((n : Int) == 45)
        · cases h3 : ((n : Int) == 46)
          · go_enter Tryz.func106, Tryz.ntmps106
            go_wp2_with (first | (go_at_call 174; refine (HX.out _).mono ?_; rintro e w' ⟨rfl, rfl⟩) | (go_at_call 175; refine (HY.out _).mono ?_; rintro e w' ⟨rfl, rfl⟩))
            go_ret
            exact ⟨rb (by simp [*]), rfl⟩
          · go_enter Tryz.func106, Tryz.ntmps106
            go_wp2_with (first | (go_at_call 174; refine (HX.out _).mono ?_; rintro e w' ⟨rfl, rfl⟩) | (go_at_call 175; refine (HY.out _).mono ?_; rintro e w' ⟨rfl, rfl⟩))
            go_ret
            exact ⟨rb (by simp [*]), rfl⟩
        · go_enter Tryz.func106, Tryz.ntmps106
          go_wp2_with (first | (go_at_call 174; refine (HX.out _).mono ?_; rintro e w' ⟨rfl, rfl⟩) | (go_at_call 175; refine (HY.out _).mono ?_; rintro e w' ⟨rfl, rfl⟩))
          go_ret
          exact ⟨rb (by simp [*]), rfl⟩
      · go_enter Tryz.func106, Tryz.ntmps106
        go_wp2_with (first | (go_at_call 174; refine (HX.out _).mono ?_; rintro e w' ⟨rfl, rfl⟩) | (go_at_call 175; refine (HY.out _).mono ?_; rintro e w' ⟨rfl, rfl⟩))
        go_ret
        exact ⟨rb (by simp [*]), rfl⟩
    · go_enter Tryz.func106, Tryz.ntmps106
      go_wp2_with (first | (go_at_call 174; refine (HX.out _).mono ?_; rintro e w' ⟨rfl, rfl⟩) | (go_at_call 175; refine (HY.out _).mono ?_; rintro e w' ⟨rfl, rfl⟩))
      go_ret
      exact ⟨rb (by simp [*]), rfl⟩
  · go_enter Tryz.func106, Tryz.ntmps106
    go_wp2_with (first | (go_at_call 174; refine (HX.out _).mono ?_; rintro e w' ⟨rfl, rfl⟩) | (go_at_call 175; refine (HY.out _).mono ?_; rintro e w' ⟨rfl, rfl⟩))
    go_ret
    exact ⟨rb (by simp [*]), rfl⟩

theorem up_no {c : UInt8} (h : Cls.up (c.toNat : Int) = false) : lowB c = c := by
  refine lowB_no (fun h2 => ?_)
  unfold Cls.up at h
  rw [Bool.and_eq_false_iff, decide_eq_false_iff_not, decide_eq_false_iff_not] at h
  omega
theorem up_yes {c : UInt8} (h : Cls.up (c.toNat : Int) = true) : lowB c ≠ c := fun e => by
  unfold Cls.up at h
  rw [Bool.and_eq_true, decide_eq_true_iff, decide_eq_true_iff] at h
  have h1 := lowB_up (c := c) (by omega) (by omega)
  rw [e] at h1
  omega
theorem low_same {s : ByteArray} (h : ∀ j (h : j < s.size), Cls.up (s[j].toNat : Int) = false) : s = lowS s := by
  have h1 : lowL s.data.toList = s.data.toList := by
    unfold lowL
    conv => rhs; rw [← List.map_id s.data.toList]
    refine List.map_congr_left fun c hc => ?_
    obtain ⟨j, hj, rfl⟩ := List.getElem_of_mem hc
    have hj' : j < s.size := by rw [← size_len]; exact hj
    have h2 := h j hj'
    rw [at_list] at h2
    exact up_no h2
  unfold lowS
  rw [h1, str_of]
theorem low_not {s : ByteArray} {j : Nat} (h : j < s.size) (hu : Cls.up (s[j].toNat : Int) = true) : s ≠ lowS s := fun e => by
  have h1 : s.data.toList = lowL s.data.toList := by
    conv => lhs; rw [e]
    rfl
  have hj : j < s.data.toList.length := by rw [size_len]; exact h
  have h2 : s.data.toList[j] = lowB s.data.toList[j] := by
    have h3 : s.data.toList[j]? = (lowL s.data.toList)[j]? := by rw [← h1]
    rw [lowL, List.getElem?_map, List.getElem?_eq_getElem hj] at h3
    exact Option.some.inj h3
  rw [at_list] at hu
  exact up_yes hu h2.symm

set_option maxHeartbeats 4000000 in
set_option maxRecDepth 100000 in
theorem rSchemeC (s : ByteArray) (w : World) : Calls Tryz.prog 47 #[.string s] w fun e w' => e = .returned (.int .i64 (schCode (schemeB s))) ∧ Below w.heap.size w w' := by
  have hsl := size_len s
  by_cases h0 : s.size = 0
  · have hw : Hid (schemeB s = false) := Lib.hid (by unfold schemeB; rw [h0]; rfl)
    go_enter Tryz.func47, Tryz.ntmps47
    go_wp2
    go_ret
    exact ⟨ri (by rw [hw.out]; rfl), Below.refl _ _⟩
  · by_cases h1 : 100 < s.size
    · have hw : Hid (schemeB s = false) := Lib.hid (by unfold schemeB; have : ¬ s.size ≤ 100 := by omega
                                                       simp [this])
      go_enter Tryz.func47, Tryz.ntmps47
      go_wp2
      go_ret
      exact ⟨ri (by rw [hw.out]; rfl), Below.refl _ _⟩
    · have hh := head_at (s := s) (by omega)
      have hpos : 0 < s.size := by omega
      cases hsm : smB s[0]
      · have hw : Hid (schemeB s = false) := Lib.hid (by unfold schemeB; rw [hh, hsm]; simp)
        have hf := smB_f hsm
        clear hsm hh
        by_cases h2 : (s[0].toNat : Int) < 97
        · go_enter Tryz.func47, Tryz.ntmps47
          go_wp2
          go_ret
          exact ⟨ri (by rw [hw.out]; rfl), Below.refl _ _⟩
        · have h3 : (122 : Int) < s[0].toNat := by omega
          go_enter Tryz.func47, Tryz.ntmps47
          go_wp2
          go_ret
          exact ⟨ri (by rw [hw.out]; rfl), Below.refl _ _⟩
      · obtain ⟨t1, t2⟩ := smB_t hsm
        have h2 : ¬ (s[0].toNat : Int) < 97 := by omega
        have h3 : ¬ (122 : Int) < s[0].toNat := by omega
        have HW : Hid (schemeB s = (decide (s = lowS s) && s.data.toList.all schB && !hasT neverL s)) := Lib.hid (by
          unfold schemeB
          rw [hh, hsm, decide_eq_true (by omega : 1 ≤ s.size), decide_eq_true (by omega : s.size ≤ 100)]
          simp)
        have hsi : (s.size : Int) ≤ 9223372036854775807 := by omega
        clear hsm hh t1 t2
        go_enter Tryz.func47, Tryz.ntmps47
        go_wp2
        go_loopw [26] (fun i wr => ∃ k : Nat, k ≤ s.size ∧ i = .int .i64 k ∧ wr = w ∧ Hid (∀ j (hj : j < k) (h : j < s.size), schB s[j] = true ∧ Cls.up (s[j].toNat : Int) = false)) (fun i _ => s.size - (intOf i).toNat)
        case atStart => exact ⟨0, by omega, rfl, rfl, Lib.hid (fun j hj => by omega)⟩
        case round =>
          obtain ⟨k, hk, rfl, rfl, hall⟩ := hrel
          have hk0 : (0 : Int) ≤ (k : Int) := by omega
          by_cases hlt : k < s.size
          · have hcb := s[k].toNat_lt
            have hwr : IntKind.i32.wrap (s[k].toNat : Int) = (s[k].toNat : Int) := by rw [IntKind.wrap_i32] <;> omega
            cases hb : schB s[k]
            · have hw : Hid (schemeB s = false) := Lib.hid (by
                rw [HW.out]
                have : s.data.toList.all schB = false := by
                  rw [List.all_eq_false]
                  exact ⟨s[k], by rw [at_list]; exact List.getElem_mem _, by rw [hb]; decide⟩
                rw [this]; simp)
              have HB : Hid (∀ W, Calls Tryz.prog 106 #[.int .u8 (s[k].toNat : Int)] W fun e w' => e = .returned (.bool false) ∧ W = w') := Lib.hid fun W => hb ▸ innerC s[k] W
              clear hb
              go_wp2_with (go_at_call 106; refine (HB.out _).mono ?_; rintro e w' ⟨rfl, rfl⟩)
              go_ret
              exact ⟨ri (by rw [hw.out]; rfl), Below.refl _ _⟩
            · have HB : Hid (∀ W, Calls Tryz.prog 106 #[.int .u8 (s[k].toNat : Int)] W fun e w' => e = .returned (.bool true) ∧ W = w') := Lib.hid fun W => hb ▸ innerC s[k] W
              have HBB := Lib.hid hb
              cases hu : Cls.up (s[k].toNat : Int)
              · have HU : Hid (∀ W, Calls Tryz.prog 107 #[.int .i32 (s[k].toNat : Int)] W fun e w' => e = .returned (.bool false) ∧ W = w') := Lib.hid fun W => hu ▸ Cls.rUpper _ W
                have HUU := Lib.hid hu
                clear hb hu
                go_wp2_with (first
                  | (go_at_call 106; refine (HB.out _).mono ?_; rintro e w' ⟨rfl, rfl⟩)
                  | (go_at_call 107; refine (HU.out _).mono ?_; rintro e w' ⟨rfl, rfl⟩))
                go_roundw
                case rel => exact ⟨k + 1, by omega, by go_num, (by first | rfl | trivial), Lib.hid (fun j hj h => by
                  by_cases e : j = k
                  · subst e; exact ⟨HBB.out, HUU.out⟩
                  · exact hall.out j (by omega) h)⟩
                case measure => simp [intOf] <;> omega
              · have HU : Hid (∀ W, Calls Tryz.prog 107 #[.int .i32 (s[k].toNat : Int)] W fun e w' => e = .returned (.bool true) ∧ W = w') := Lib.hid fun W => hu ▸ Cls.rUpper _ W
                have hw : Hid (schemeB s = false) := Lib.hid (by rw [HW.out, decide_eq_false (low_not hlt hu)]; rfl)
                clear hb hu
                go_wp2_with (first
                  | (go_at_call 106; refine (HB.out _).mono ?_; rintro e w' ⟨rfl, rfl⟩)
                  | (go_at_call 107; refine (HU.out _).mono ?_; rintro e w' ⟨rfl, rfl⟩))
                go_ret
                exact ⟨ri (by rw [hw.out]; rfl), Below.refl _ _⟩
          · have HW2 : Hid (schemeB s = !hasT neverL s) := Lib.hid (by
              rw [HW.out, decide_eq_true (low_same fun j h => (hall.out j (by omega) h).2)]
              have : s.data.toList.all schB = true := by
                rw [List.all_eq_true]
                intro c hc
                obtain ⟨j, hj, rfl⟩ := List.getElem_of_mem hc
                have hj' : j < s.size := by rw [← size_len]; exact hj
                have := (hall.out j (by omega) hj').1
                rw [at_list] at this
                exact this
              rw [this]; rfl)
            clear hall HW
            obtain ⟨W1, hW1⟩ : ∃ W, W = wr.alloc (.cells #[.string ⟨#[106, 97, 118, 97, 115, 99, 114, 105, 112, 116]⟩, .string ⟨#[100, 97, 116, 97]⟩, .string ⟨#[118, 98, 115, 99, 114, 105, 112, 116]⟩, .string ⟨#[98, 108, 111, 98]⟩, .string ⟨#[102, 105, 108, 101]⟩, .string ⟨#[102, 105, 108, 101, 115, 121, 115, 116, 101, 109]⟩, .string ⟨#[97, 98, 111, 117, 116]⟩] 9) := ⟨_, rfl⟩
            have hb2 : Below wr.heap.size wr W1 := hW1 ▸ (Below.refl _ _).alloc (Nat.le_refl _) _
            have HNM : Hid (∀ j (hj : j < 7), W1.cell? ⟨wr.heap.size, j, none⟩ = some (.string (neverL[j]'(by show j < 7; exact hj)))) := Lib.hid fun j hj => by
              have hk : W1.heap[wr.heap.size]? = some (.cells #[.string ⟨#[106, 97, 118, 97, 115, 99, 114, 105, 112, 116]⟩, .string ⟨#[100, 97, 116, 97]⟩, .string ⟨#[118, 98, 115, 99, 114, 105, 112, 116]⟩, .string ⟨#[98, 108, 111, 98]⟩, .string ⟨#[102, 105, 108, 101]⟩, .string ⟨#[102, 105, 108, 101, 115, 121, 115, 116, 101, 109]⟩, .string ⟨#[97, 98, 111, 117, 116]⟩] 9 (0, 0)) := by rw [hW1]; exact heap_alloc_new wr _
              have e : (#[.string ⟨#[106, 97, 118, 97, 115, 99, 114, 105, 112, 116]⟩, .string ⟨#[100, 97, 116, 97]⟩, .string ⟨#[118, 98, 115, 99, 114, 105, 112, 116]⟩, .string ⟨#[98, 108, 111, 98]⟩, .string ⟨#[102, 105, 108, 101]⟩, .string ⟨#[102, 105, 108, 101, 115, 121, 115, 116, 101, 109]⟩, .string ⟨#[97, 98, 111, 117, 116]⟩] : Array Value) = (neverL.map Value.string).toArray := rfl
              rw [e] at hk
              simp [World.cell?, hk, List.getElem?_eq_getElem (show j < neverL.length from hj)]
            have HW1 := Lib.hid hW1
            clear hW1
            go_wp2
            rw [← HW1.out]
            go_loopw [44] (fun i wx => ∃ k : Nat, k ≤ 7 ∧ i = .int .i64 k ∧ wx = W1 ∧ Hid (∀ j (hj : j < k) (h : j < neverL.length), neverL[j] ≠ s)) (fun i _ => 7 - (intOf i).toNat)
            case atStart => exact ⟨0, by omega, rfl, rfl, Lib.hid (fun j hj => by omega)⟩
            case round =>
              obtain ⟨m, hm, rfl, rfl, hnone⟩ := hrel
              by_cases hlt2 : m < 7
              · have hb3 : (m : Int) < (7 : Int) := by omega
                have hb0 : (0 : Int) ≤ (m : Int) := by omega
                have hx := HNM.out m hlt2
                obtain ⟨t, ht⟩ : ∃ t, t = neverL[m]'(by show m < 7; exact hlt2) := ⟨_, rfl⟩
                rw [← ht] at hx
                by_cases he : s = t
                · have hw : Hid (schemeB s = false) := Lib.hid (by
                    rw [HW2.out, hasT_iff.2 (by rw [he, ht]; exact List.getElem_mem _)]; rfl)
                  have q1 := toList_eq_of he
                  clear he ht
                  go_wp2
                  go_ret
                  exact ⟨ri (by rw [hw.out]; rfl), hb2⟩
                · have q1 := toList_ne_of he
                  have HE : Hid (neverL[m]'(by show m < 7; exact hlt2) ≠ s) := Lib.hid (fun h9 => he (by rw [← h9, ht]))
                  clear he ht
                  go_wp2
                  go_roundw
                  case rel => exact ⟨m + 1, by omega, by go_num, (by first | rfl | trivial), Lib.hid (fun j hj h => by
                    by_cases e : j = m
                    · subst e; exact HE.out
                    · exact hnone.out j (by omega) h)⟩
                  case measure => simp [intOf] <;> omega
              · have hw : Hid (schemeB s = true) := Lib.hid (by
                  rw [HW2.out]
                  have : hasT neverL s = false := by
                    cases hq : hasT neverL s
                    · rfl
                    · obtain ⟨j, hj, he⟩ := List.getElem_of_mem (hasT_iff.1 hq)
                      exact absurd he (hnone.out j (by have : neverL.length = 7 := rfl; omega) hj)
                  rw [this]; rfl)
                obtain rfl : m = 7 := by omega
                go_wp2
                go_ret
                exact ⟨ri (by rw [hw.out]; rfl), hb2⟩
end Go.Proofs.YtejpdbiiikcmmaaGreatDoor.Rh
