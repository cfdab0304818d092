/- utf.Valid. -/
import Derived.Test.YtejpdbiiikcmmaaGreatDoorUb
set_option linter.unusedVariables false
set_option linter.unusedSimpArgs false
namespace Go.Proofs.YtejpdbiiikcmmaaGreatDoor.Ub
open Go.RowKit Lb
attribute [local go_sem ↓] Go.wp_at_zero Go.wp_at_succ
set_option maxHeartbeats 8000000 in
set_option maxRecDepth 100000 in
theorem ValidC (w : World) (b cap : Nat) (l : List UInt8) (hm : l.length ≤ maxLen) (hcap : l.length ≤ cap) (hc : ∀ j (hj : j < l.length), w.cell? ⟨b, j, none⟩ = some (.int .u8 (l[j].toNat : Int))) :
    Calls Tryz.prog 169 #[.slice (some ⟨b, 0, none⟩) l.length cap] w fun e w' => e = .returned (.bool (validB l)) ∧ Below w.heap.size w w' := by
  have hmm : l.length ≤ 9223372036854775807 := hm
  have HR : Hid (∀ W, Hid (∀ j (hj : j < l.length), W.cell? ⟨b, j, none⟩ = some (.int .u8 (l[j].toNat : Int))) → ∀ k, k < l.length → ∀ c, Calls Tryz.prog 216 #[.slice (some ⟨b, k, none⟩) (l.length - k) c] W fun e w' => (∃ r : Int, e = .returned (.tuple #[.int .i32 r, .int .i64 (readU (l.drop k)).1, .int .i64 (readU (l.drop k)).2])) ∧ Below W.heap.size W w') := Lib.hid (fun W hW k hk c => by
    have := readC W b k c (l.drop k) (by simp; omega) (by simp; omega) (fun j hj => by
      have := hW.out (k + j) (by simp at hj; omega)
      rw [List.getElem_drop]; exact this)
    rwa [List.length_drop] at this)
  have hbl : 0 < l.length → b < w.heap.size := fun h => World.block_lt_of_cell? (a := ⟨b, _, none⟩) _ (hc 0 h)
  have HC := Lib.hid hc
  clear hc hm
  go_enter Tryz.func169, Tryz.ntmps169
  go_wp2
  go_step3
  go_wp2
  go_step3
  go_wp2
  go_loopw [3, 4] (fun vb vi wr => ∃ (k : Nat), vb = .bool true ∧ vi = .int .i64 k ∧ k ≤ l.length ∧ Hid (validB l = validB (l.drop k)) ∧ Hid (∀ j (hj : j < l.length), wr.cell? ⟨b, j, none⟩ = some (.int .u8 (l[j].toNat : Int))) ∧ Below w.heap.size w wr) (fun _ vi _ => l.length - (intOf vi).toNat)
  case atStart => exact ⟨0, rfl, rfl, Nat.zero_le _, Lib.hid (by rw [List.drop_zero]), HC, Below.refl _ _⟩
  case round =>
    obtain ⟨k, rfl, rfl, hk, hv, hcw, hbw⟩ := hrel
    by_cases hlt : k < l.length
    · have hl0 : 0 < (l.drop k).length := by simp; omega
      have h1 := readU_ge (l.drop k)
      have h2 := readU_le hl0
      rw [List.length_drop] at h2
      have HY : Hid ((readU (l.drop k)).2 = 0 → validB l = validB (l.drop (k + (readU (l.drop k)).1))) := Lib.hid (fun h => hv.out.trans ((valid_go hl0 h).trans (by rw [List.drop_drop])))
      have HN : Hid ((readU (l.drop k)).2 ≠ 0 → validB l = false) := Lib.hid (fun h => hv.out.trans (valid_no hl0 h))
      have HRk := Lib.hid (HR.out wr hcw k hlt)
      have hbl2 := hbl (by omega)
      generalize (readU (l.drop k)).1 = n at h1 h2 HY HRk
      generalize (readU (l.drop k)).2 = q at HY HN HRk
      by_cases hq : q = 0
      · have hy := Lib.hid (HY.out hq)
        subst hq
        go_wp2_with (go_at_call 216; refine (HRk.out _).mono ?_; rintro e w1 ⟨⟨r, rfl⟩, hb1⟩)
        go_roundw
        case rel => exact ⟨k + n, rfl, by go_num, by omega, hy, Lib.hid (fun j hj => (World.cell?_of_block (a := ⟨b, j, none⟩) (hb1.block b (by have := hbw.size; omega))).trans (hcw.out j hj)), hbw.trans (hb1.mono hbw.size)⟩
        case measure => simp [intOf] <;> omega
      · have hy := Lib.hid (HN.out hq)
        have hqf : (q != 0) = true := by simp [hq]
        have hqe : (q == 0) = false := by simp [hq]
        rw [hy.out]
        go_wp2_with (go_at_call 216; refine (HRk.out _).mono ?_; rintro e w1 ⟨⟨r, rfl⟩, hb1⟩)
        rw [Exit.noGoto_ret]
        go_ret
        exact ⟨by rw [hy.out]; rfl, hbw.trans (hb1.mono hbw.size)⟩
    · have hy := Lib.hid (hv.out.trans (show validB (l.drop k) = true from by rw [List.drop_of_length_le (by omega)]; rfl))
      rw [hy.out]
      go_wp2
      rw [Exit.noGoto_ret]
      go_ret
      exact ⟨by rw [hy.out]; rfl, hbw⟩
end Go.Proofs.YtejpdbiiikcmmaaGreatDoor.Ub
