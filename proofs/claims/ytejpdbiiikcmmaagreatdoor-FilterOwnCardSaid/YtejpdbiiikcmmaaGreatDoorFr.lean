/- Package filter: runes and length of a start tag without attributes. -/
import Derived.Test.YtejpdbiiikcmmaaGreatDoorFi
import Derived.Laws.RangeAny
import Derived.Laws.RangeString
set_option linter.unusedVariables false
set_option linter.unusedSimpArgs false
namespace Go.Proofs.YtejpdbiiikcmmaaGreatDoor.Fi
open Go.RowKit Lb Gr Pd Fl Fpl Kf Mp Go.Proofs.YtejpdbiiikcmmaaGreatDoor.Pm Bk Lc Ck
attribute [local go_sem ↓] Go.wp_at_zero Go.wp_at_succ

theorem width_pos (s : ByteArray) (pos : Nat) (h : pos < s.size) : 1 ≤ (Utf8.decode s pos).2 := by
  by_cases ha : (s[pos]'h).toNat < 128
  · rw [decode_ascii s pos h ha]
    exact Nat.le_refl _
  · exact (decode_high s pos h (by omega)).2
theorem runesF_le (s : ByteArray) : ∀ f pos, runesF s f pos ≤ s.size - pos
  | 0, _ => Nat.zero_le _
  | f + 1, pos => by
    unfold runesF
    split
    · rename_i h
      have h1 := width_pos s pos h
      have h2 := runesF_le s f (pos + (Utf8.decode s pos).2)
      omega
    · exact Nat.zero_le _
theorem runesF_end {s : ByteArray} {f pos : Nat} (h : ¬ pos < s.size) : runesF s f pos = 0 := by
  cases f with
  | zero => rfl
  | succ f => unfold runesF; rw [if_neg h]
theorem below_iter (w : World) (s : ByteArray) (pos : Nat) : Below w.heap.size w (w.iter s pos) := (Below.refl _ _).alloc (Nat.le_refl _) _
set_option maxHeartbeats 4000000 in
set_option maxRecDepth 100000 in
theorem runesC (s : ByteArray) (hs : s.size ≤ maxLen) (w : World) : Calls Tryz.prog 182 #[.string s] w fun e w' => e = .returned (.int .i64 (runesN s)) ∧ Below w.heap.size w w' := by
  have hR : Hid (runesN s = 0 + runesF s s.size 0) := Lib.hid (by rw [Nat.zero_add]; rfl)
  have hss : s.size ≤ 9223372036854775807 := hs
  go_enter Tryz.func182, Tryz.ntmps182
  go_wp2
  go_loopw [3] (fun n w' => ∃ (pos b c : Nat), w' = w.iter s pos ∧ n = .int .i64 c ∧ Hid (runesN s = c + runesF s b pos) ∧ s.size ≤ pos + b ∧ c ≤ pos ∧ (c ≤ s.size)) (fun _ w' => s.size - w'.iterPos w.heap.size)
  case atStart => exact ⟨0, s.size, 0, rfl, rfl, hR, by omega, by omega, by omega⟩
  case round =>
    obtain ⟨pos, b, c, rfl, rfl, hc, hb, hcp, hcs⟩ := hrel
    by_cases hp : pos < s.size
    · have hnx : ∀ ty, (Instr.next (.pointer (some ⟨w.heap.size, 0, none⟩)) true ty).run Tryz.prog (w.iter s pos) = _ := fun ty => run_next_any w s pos ty hp
      have hwd := width_pos s pos hp
      go_wp2
      go_roundw
      case rel =>
        cases b with
        | zero => omega
        | succ b =>
          refine ⟨pos + (Utf8.decode s pos).2, b, c + 1, rfl, by go_num, Lib.hid ?_, by omega, by omega, by omega⟩
          rw [hc.out]
          conv => lhs; unfold runesF
          rw [if_pos hp]
          omega
      case measure =>
        simp
        omega
    · have hnx : ∀ ty, (Instr.next (.pointer (some ⟨w.heap.size, 0, none⟩)) true ty).run Tryz.prog (w.iter s pos) = _ := fun ty => run_next_end w s pos ty hp
      have hq : Hid (runesN s = c) := Lib.hid (by rw [hc.out, runesF_end hp, Nat.add_zero])
      go_wp2
      go_ret
      exact ⟨by rw [hq.out]; rfl, below_iter w s pos⟩

/-- a token with no attributes, no text -/
def bareT (k : Int) (n : ByteArray) (b l c : Int) : TokD := ⟨k, n, ByteArray.empty, [], false, b, l, c⟩
set_option maxHeartbeats 4000000 in
set_option maxRecDepth 100000 in
theorem length0C (n : ByteArray) (hs : n.size ≤ 1000) (q1 q2 q3 : Int) (w : World) : Calls Tryz.prog 118 #[tokV (bareT 1 n q1 q2 q3) (.slice none 0 0)] w fun e w' => e = .returned (.int .i64 (2 + runesN n : Nat)) ∧ Below w.heap.size w w' := by
  unfold tokV bareT
  simp only
  obtain ⟨W0, hW0⟩ : ∃ W, W = w.alloc (.cells #[.int .i64 1, .string n, .string ByteArray.empty, .slice none 0 0, .bool false, .int .i64 q1, .int .i64 q2, .int .i64 q3] 39) := ⟨_, rfl⟩
  have hb0 : Below w.heap.size w W0 := hW0 ▸ (Below.refl _ _).alloc (Nat.le_refl _) _
  have k0 : Bl W0 w.heap.size 39 [.int .i64 1, .string n, .string ByteArray.empty, .slice none 0 0, .bool false, .int .i64 q1, .int .i64 q2, .int .i64 q3] := hW0 ▸ Bl.new w _ _ rfl
  have HX := Lib.hid hW0
  clear hW0
  have y1 := k0.cell 1 rfl
  have hrn : runesN n ≤ 1000 := Nat.le_trans (runesF_le n n.size 0) (by omega)
  have HR := Lib.hid (fun W => runesC n (by unfold maxLen; omega) W)
  go_enter Tryz.func118, Tryz.ntmps118
  go_upto_region 1 with fail
  rw [← HX.out]
  go_upto_region 2 with (go_at_call 182; refine (HR.out _).mono ?_; rintro e w1 ⟨rfl, hb1⟩)
  have k1 := k0.below hb1
  have y3 := k1.cell 3 rfl
  have hbx := hb0.trans (hb1.mono hb0.size)
  go_wp2
  go_loopw [3, 15] (fun v i wr => wr = w1 ∧ i = .int .i64 0 ∧ v = .int .i64 (2 + runesN n : Nat)) (fun _ _ _ => 0)
  case atStart => exact ⟨rfl, rfl, by go_num⟩
  case round =>
    obtain ⟨rfl, rfl, rfl⟩ := hrel
    go_wp2
    go_ret
    exact ⟨rfl, hbx⟩
end Go.Proofs.YtejpdbiiikcmmaaGreatDoor.Fi
