/- link.Strip at a slash. -/
import Derived.Test.YtejpdbiiikcmmaaGreatDoorVm
set_option linter.unusedVariables false
set_option linter.unusedSimpArgs false
namespace Go.Proofs.YtejpdbiiikcmmaaGreatDoor.Vm
open Go.RowKit Lb Gr Pd Fl Fpl Kf Mp Go.Proofs.YtejpdbiiikcmmaaGreatDoor.Pm Bk Lc Ck Fi
attribute [local go_sem ↓] Go.wp_at_zero Go.wp_at_succ
theorem runesOfS (w : World) : ∃ cap W, (convert 9 145 (.string slT)).run Tryz.prog w = .ok (.slice (some ⟨w.heap.size, 0, none⟩) 1 cap) W ∧ 1 ≤ cap ∧ W.cell? ⟨w.heap.size, 0, none⟩ = some (.int .i32 47) ∧ Below w.heap.size w W := by
  have hr : Conv.runesFrom slT slT.size 0 #[] = #[.int .i32 47] := rfl
  have h := run_runes_of_string (P := Tryz.prog) w 9 145 21 slT Tryz.underlying9 Tryz.underlying145 Tryz.underlying21 (by rw [hr]; decide)
  rw [hr] at h
  refine ⟨_, _, h, grownCap_ge w 1 0 21, ?_, ?_⟩
  · have hb : (w.drew.alloc (.cells (#[Value.int .i32 47] ++ Array.replicate (grownCap w 1 0 21 - 1) (.int .i32 0)) 21)).heap[w.heap.size]? = some (.cells (#[Value.int .i32 47] ++ Array.replicate (grownCap w 1 0 21 - 1) (.int .i32 0)) 21 (0, 0)) := heap_alloc_new w.drew _
    have hb2 : (w.drew.alloc (.cells (#[Value.int .i32 47] ++ Array.replicate (grownCap w 1 0 21 - 1) (.int .i32 0)) 21)).cell? ⟨w.heap.size, 0, none⟩ = some (.int .i32 47) := by
      unfold World.cell?
      rw [hb]
      simp [Array.getElem?_append]
    exact hb2
  · exact ((Below.refl w.heap.size w).drew).alloc (Nat.le_refl _) _
set_option maxHeartbeats 8000000 in
set_option maxRecDepth 100000 in
theorem stripS (w : World) : Calls Tryz.prog 279 #[.string slT] w fun e w' => e = .returned (.string slT) ∧ Below w.heap.size w w' := by
  obtain ⟨i1, hi1, hz1, hz2, hz3⟩ := info_parts infoI32
  have HM := Lib.hid (fun W => mendA slT sl_asc W)
  have HC : Hid (∀ (W : World) (b off cap : Nat), W.cell? ⟨b, off, none⟩ = some (.int .i32 47) → (convert 145 9 (.slice (some ⟨b, off, none⟩) 1 cap)).run Tryz.prog W = .ok (.string slT) W) := Lib.hid fun W b off cap hc => by
    have h := run_convert_runes (P := Tryz.prog) W 145 9 21 ⟨b, off, none⟩ 1 cap [47] (Nat.le_refl _) Tryz.underlying145 Tryz.underlying21 Tryz.underlying9 (fun j hj => by
      obtain rfl : j = 0 := by simpa using hj
      have hp : (⟨b, off, none⟩ : Addr).add 0 = ⟨b, off, none⟩ := by unfold Addr.add; simp
      rw [hp]; exact hc)
    rw [h]
    have : runesBytes (List.take 1 [47]) = slT := by decide +kernel
    rw [this]
  go_enter Tryz.func279, Tryz.ntmps279
  go_wp2_with (go_at_call 177; refine (HM.out _).mono ?_; rintro e w1 ⟨rfl, hb1⟩; obtain ⟨cap, W2, hcv, hcap, hcell, hb2⟩ := runesOfS w1)
  have hq2 := hb1.trans (hb2.mono hb1.size)
  have hbl := World.block_lt_of_cell? (a := ⟨w1.heap.size, 0, none⟩) _ hcell
  go_loopw [3] (fun o wr => wr = W2 ∧ o = .slice (some ⟨w1.heap.size, 0, none⟩) 1 cap) (fun _ _ => 0)
  case atStart => exact ⟨rfl, rfl⟩
  case round =>
    obtain ⟨rfl, rfl⟩ := hrel
    obtain ⟨W3, rfl⟩ : ∃ Y, Y = wr := ⟨_, rfl⟩
    go_wp2
    go_loopw [3] (fun o wr' => wr' = W3 ∧ o = .slice (some ⟨w1.heap.size, 0, none⟩) 1 cap) (fun _ _ => 0)
    case atStart => exact ⟨rfl, rfl⟩
    case round =>
      obtain ⟨rfl, rfl⟩ := hrel
      obtain ⟨W4, rfl⟩ : ∃ Y, Y = wr := ⟨_, rfl⟩
      go_wp2_with (at_make; refine wpList_make_own _ rfl (.const (.int .i64 0)) (.tmp 39) 145 rfl W4.heap.size 21 i1 (.int .i32 0) 1 Tryz.underlying145 hi1 hz1 hz2 .i64 .i64 _ 1 rfl rfl rfl (by rw [hz3]; decide) (by decide) (Nat.le_refl _) ?_; intro w3 hown3 hg3)
      have hb3 : Below W4.heap.size W4 w3 := (Fr.of_grown hg3).below (Nat.le_refl _) (by simp)
      have hq3 := hq2.trans (hb3.mono hq2.size)
      have hz4 := hq2.size
      have hce3 : w3.cell? ⟨w1.heap.size, 0, none⟩ = some (.int .i32 47) := (World.cell?_of_block (a := ⟨w1.heap.size, 0, none⟩) (hb3.block _ hbl)).trans hcell
      go_loopw [4, 43] (fun o i wr => (wr = w3 ∧ i = .int .i64 0 ∧ o = .slice (some ⟨W4.heap.size, 0, none⟩) 0 1) ∨ (∃ A c, i = .int .i64 1 ∧ o = .slice A 1 c ∧ wr.ownsRow w.heap.size 21 1 (.slice A 1 c) 1 [.int .i32 47] ∧ Below w.heap.size w wr)) (fun _ i _ => 1 - (intOf i).toNat)
      case atStart => exact .inl ⟨rfl, rfl, rfl⟩
      case round =>
        rcases hrel with ⟨rfl, rfl, rfl⟩ | ⟨A, c, rfl, rfl, ho, hbw⟩
        · obtain ⟨w5, rfl⟩ : ∃ Y, Y = wr := ⟨_, rfl⟩
          have hcell5 := hce3
          go_wp2_with (at_builtin; refine wpList_append_src _ rfl (.tmp 48) (.tmp 50) 145 rfl W4.heap.size 21 i1 _ 1 4 Tryz.underlying145 hi1 hz1 hz2 hz3 rfl (by decide) _ 0 [] rfl (hown3.alloc _) (some ⟨w5.heap.size, 0, none⟩) 1 1 [.int .i32 47] rfl rfl (news_src w5 _ _) (by simp [Value.oneCell']) (by decide) (by decide) (by have := hb3.size; simp; omega) ?_; intro v9 w9 hown9 hgrow9 hrow9; obtain ⟨A9, c9, rfl, hcl9⟩ := own_slice hown9)
          have hgn : (w5.alloc (.cells #[.int .i32 47] 21)).grownBy w9 (some W4.heap.size) := hgrow9
          have hb59 : Below w.heap.size w w9 := (hq3.alloc hq3.size _).trans ((Fr.of_grown hgn).below (by have := hq3.size; simp; omega) (by simp; omega))
          go_roundw
          case rel => exact .inr ⟨A9, c9, rfl, rfl, own_low hown9 hz4, hb59⟩
          case measure => decide
        · obtain ⟨b, off, rfl, hx⟩ := own_srcV ho (by decide)
          have hcv2 := HC.out wr b off c (hx 0 _ rfl)
          go_wp2
          go_ret
          exact ⟨rfl, hbw⟩
end Go.Proofs.YtejpdbiiikcmmaaGreatDoor.Vm
