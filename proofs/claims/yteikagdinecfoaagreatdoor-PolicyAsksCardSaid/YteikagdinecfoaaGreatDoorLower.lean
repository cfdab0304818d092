/- Small letters: both functions Lower return the text with each of A to Z in lower case. -/
import Derived.Test.YteikagdinecfoaaGreatDoorProg
import Derived.Test.YteikagdinecfoaaGreatDoorLib
namespace Go.Proofs.YteikagdinecfoaaGreatDoor.Lw
open Go.RowKit Lb

set_option maxHeartbeats 1000000 in
set_option maxRecDepth 100000 in
theorem nLower (s : ByteArray) (w : World) (hs : s.size ≤ maxLen) : Calls Tryz.prog 160 #[.string s] w fun e w' => e = .returned (.string (lowS s)) ∧ Below w.heap.size w w' := by
  unfold maxLen at hs
  obtain ⟨cap, o, hcap, hconv, hbyt⟩ := byt_of_string (P := Tryz.prog) w 9 81 5 s Tryz.underlying9 Tryz.underlying81 Tryz.underlying5
  have hbel : Below w.heap.size w (w.alloc o) := (Below.refl _ _).alloc (Nat.le_refl _) o
  obtain ⟨l, hl⟩ : ∃ l, l = s.data.toList := ⟨_, rfl⟩
  have hsz : l.length = s.size := by rw [hl, size_len]
  have HB := Lib.hid hbyt; clear hbyt
  have HS := Lib.hid hsz; clear hsz
  have HL := Lib.hid hl; clear hl
  go_enter Tryz.func160, Tryz.ntmps160
  go_wp2
  go_loopw [10] (fun i wr => ∃ k : Nat, k ≤ s.size ∧ i = .int .i64 k ∧ Hid (Byt wr w.heap.size 5 ((lowL l).take k ++ l.drop k)) ∧ Below w.heap.size w wr) (fun i _ => s.size - (intOf i).toNat)
  case atStart => exact ⟨0, Nat.zero_le _, rfl, Lib.hid (by rw [HL.out]; exact HB.out), hbel.drew⟩
  case round =>
    obtain ⟨k, hk, rfl, hB, hnx⟩ := hrel
    by_cases hlt : k < s.size
    · have hkl : k < l.length := by rw [HS.out]; exact hlt
      have hk2 : k < ((lowL l).take k ++ l.drop k).length := by rw [low_at l k hkl]; exact hkl
      have hc := hB.out.cell hk2
      rw [low_get l k hkl hk2] at hc
      have hf := hB.out.free hk2
      obtain ⟨c, hcdef⟩ : ∃ c, c = l[k] := ⟨_, rfl⟩
      rw [← hcdef] at hc
      have HC := Lib.hid hcdef; clear hcdef
      have hb1 : c.toNat < 256 := c.toNat_lt
      by_cases hu : 65 ≤ c.toNat ∧ c.toNat ≤ 90
      · obtain ⟨h1, h2⟩ := hu
        go_wp2
        go_roundw
        case rel =>
          refine ⟨k + 1, by omega, by go_num, Lib.hid ?_, hnx.setCell (Nat.le_refl _) _⟩
          have := hB.out.set hk2 (lowB c)
          rw [HC.out, low_step l k hkl, ← HC.out] at this
          rw [lowB_up h1 h2] at this
          have e : (c.toNat : Int) + 97 - 65 = c.toNat + 32 := by omega
          rw [e]; exact this
        case measure => simp [intOf]; omega
      · have h1 : ¬ (65 ≤ c.toNat) ∨ ¬ (c.toNat ≤ 90) := by omega
        have hst := low_stay l k hkl (by rw [← HC.out]; exact hu)
        have HST := Lib.hid hst; clear hst
        clear hu
        by_cases h2 : 65 ≤ c.toNat
        · have h3 : ¬ (c.toNat ≤ 90) := by omega
          clear h1
          go_wp2
          go_roundw
          case rel => exact ⟨k + 1, by omega, by go_num, Lib.hid (by rw [← HST.out]; exact hB.out), hnx⟩
          case measure => simp [intOf]; omega
        · clear h1
          go_wp2
          go_roundw
          case rel => exact ⟨k + 1, by omega, by go_num, Lib.hid (by rw [← HST.out]; exact hB.out), hnx⟩
          case measure => simp [intOf]; omega
    · have hke : k = s.size := by omega
      subst hke
      have hfin : (lowL l).take s.size ++ l.drop s.size = lowL l := by
        rw [← HS.out, List.drop_length, List.append_nil, List.take_of_length_le (by simp [lowL])]
      have hb2 := hB.out
      rw [hfin] at hb2
      have hback := string_of_byt (P := Tryz.prog) (cap := cap) Tryz.underlying81 Tryz.underlying5 Tryz.underlying9 (n := s.size) hb2 (by rw [← HS.out]; simp [lowL])
      clear hfin hb2 hB
      go_wp2
      go_ret
      exact ⟨rs (by unfold lowS; rw [HL.out]), hnx⟩

set_option maxHeartbeats 1000000 in
set_option maxRecDepth 100000 in
theorem rLower (s : ByteArray) (w : World) (hs : s.size ≤ maxLen) : Calls Tryz.prog 134 #[.string s] w fun e w' => e = .returned (.string (lowS s)) ∧ Below w.heap.size w w' := by
  unfold maxLen at hs
  obtain ⟨cap, o, hcap, hconv, hbyt⟩ := byt_of_string (P := Tryz.prog) w 9 81 5 s Tryz.underlying9 Tryz.underlying81 Tryz.underlying5
  have hbel : Below w.heap.size w (w.alloc o) := (Below.refl _ _).alloc (Nat.le_refl _) o
  obtain ⟨l, hl⟩ : ∃ l, l = s.data.toList := ⟨_, rfl⟩
  have hsz : l.length = s.size := by rw [hl, size_len]
  have HB := Lib.hid hbyt; clear hbyt
  have HS := Lib.hid hsz; clear hsz
  have HL := Lib.hid hl; clear hl
  go_enter Tryz.func134, Tryz.ntmps134
  go_wp2
  go_loopw [9] (fun i wr => ∃ k : Nat, k ≤ s.size ∧ i = .int .i64 k ∧ Hid (Byt wr w.heap.size 5 ((lowL l).take k ++ l.drop k)) ∧ Below w.heap.size w wr) (fun i _ => s.size - (intOf i).toNat)
  case atStart => exact ⟨0, Nat.zero_le _, rfl, Lib.hid (by rw [HL.out]; exact HB.out), hbel.drew⟩
  case round =>
    obtain ⟨k, hk, rfl, hB, hnx⟩ := hrel
    by_cases hlt : k < s.size
    · have hkl : k < l.length := by rw [HS.out]; exact hlt
      have hk2 : k < ((lowL l).take k ++ l.drop k).length := by rw [low_at l k hkl]; exact hkl
      have hc := hB.out.cell hk2
      rw [low_get l k hkl hk2] at hc
      have hf := hB.out.free hk2
      obtain ⟨c, hcdef⟩ : ∃ c, c = l[k] := ⟨_, rfl⟩
      rw [← hcdef] at hc
      have HC := Lib.hid hcdef; clear hcdef
      have hb1 : c.toNat < 256 := c.toNat_lt
      by_cases hu : 65 ≤ c.toNat ∧ c.toNat ≤ 90
      · obtain ⟨h1, h2⟩ := hu
        go_wp2
        go_roundw
        case rel =>
          refine ⟨k + 1, by omega, by go_num, Lib.hid ?_, hnx.setCell (Nat.le_refl _) _⟩
          have := hB.out.set hk2 (lowB c)
          rw [HC.out, low_step l k hkl, ← HC.out] at this
          rw [lowB_up h1 h2] at this
          exact this
        case measure => simp [intOf] <;> omega
      · have h1 : ¬ (65 ≤ c.toNat) ∨ ¬ (c.toNat ≤ 90) := by omega
        have hst := low_stay l k hkl (by rw [← HC.out]; exact hu)
        have HST := Lib.hid hst; clear hst
        clear hu
        by_cases h2 : 65 ≤ c.toNat
        · have h3 : ¬ (c.toNat ≤ 90) := by omega
          clear h1
          go_wp2
          go_roundw
          case rel => exact ⟨k + 1, by omega, by go_num, Lib.hid (by rw [← HST.out]; exact hB.out), hnx⟩
          case measure => simp [intOf] <;> omega
        · clear h1
          go_wp2
          go_roundw
          case rel => exact ⟨k + 1, by omega, by go_num, Lib.hid (by rw [← HST.out]; exact hB.out), hnx⟩
          case measure => simp [intOf] <;> omega
    · have hke : k = s.size := by omega
      subst hke
      have hfin : (lowL l).take s.size ++ l.drop s.size = lowL l := by
        rw [← HS.out, List.drop_length, List.append_nil, List.take_of_length_le (by simp [lowL])]
      have hb2 := hB.out
      rw [hfin] at hb2
      have hback := string_of_byt (P := Tryz.prog) (cap := cap) Tryz.underlying81 Tryz.underlying5 Tryz.underlying9 (n := s.size) hb2 (by rw [← HS.out]; simp [lowL])
      clear hfin hb2 hB
      go_wp2
      go_ret
      exact ⟨rs (by unfold lowS; rw [HL.out]), hnx⟩
end Go.Proofs.YteikagdinecfoaaGreatDoor.Lw
