/- The reference's kind: a kind's name. -/
import Derived.Test.YteikagdinecfoaaGreatDoorCk
set_option linter.unusedVariables false
set_option linter.unusedSimpArgs false
namespace Go.Proofs.YteikagdinecfoaaGreatDoor.Rz
open Go.RowKit Lb Gr Pd Fl Go.Proofs.YteikagdinecfoaaGreatDoor.Pm Bk Go.Proofs.YteikagdinecfoaaGreatDoor.Sl
attribute [local go_sem ↓] Go.wp_at_zero Go.wp_at_succ

theorem kinds_len : kindsL.length = 9 := rfl
set_option maxHeartbeats 2000000 in
set_option maxRecDepth 100000 in
theorem rKindC (k : Nat) (hk : k < 9) (w : World) : Calls Tryz.prog 135 #[.int .i64 (k : Int)] w fun e w' => e = .returned (.string (kindsL[k]'(by rw [kinds_len]; exact hk))) ∧ Below w.heap.size w w' := by
  obtain ⟨W1, hW1⟩ : ∃ W, W = w.alloc (.cells #[.string ⟨#[97, 110, 121]⟩, .string ⟨#[116, 111, 107, 101, 110, 115]⟩, .string ⟨#[110, 97, 109, 101]⟩, .string ⟨#[110, 117, 109, 98, 101, 114]⟩, .string ⟨#[108, 101, 110, 103, 116, 104]⟩, .string ⟨#[108, 105, 110, 107]⟩, .string ⟨#[108, 97, 110, 103]⟩, .string ⟨#[111, 110, 101, 111, 102]⟩, .string ⟨#[102, 108, 97, 103]⟩] 9) := ⟨_, rfl⟩
  have hb2 : Below w.heap.size w W1 := hW1 ▸ (Below.refl _ _).alloc (Nat.le_refl _) _
  have hx : W1.cell? ⟨w.heap.size, k, none⟩ = some (.string (kindsL[k]'(by rw [kinds_len]; exact hk))) := by
    have h1 : W1.heap[w.heap.size]? = some (.cells #[.string ⟨#[97, 110, 121]⟩, .string ⟨#[116, 111, 107, 101, 110, 115]⟩, .string ⟨#[110, 97, 109, 101]⟩, .string ⟨#[110, 117, 109, 98, 101, 114]⟩, .string ⟨#[108, 101, 110, 103, 116, 104]⟩, .string ⟨#[108, 105, 110, 107]⟩, .string ⟨#[108, 97, 110, 103]⟩, .string ⟨#[111, 110, 101, 111, 102]⟩, .string ⟨#[102, 108, 97, 103]⟩] 9 (0, 0)) := by rw [hW1]; exact heap_alloc_new w _
    have e : (#[.string ⟨#[97, 110, 121]⟩, .string ⟨#[116, 111, 107, 101, 110, 115]⟩, .string ⟨#[110, 97, 109, 101]⟩, .string ⟨#[110, 117, 109, 98, 101, 114]⟩, .string ⟨#[108, 101, 110, 103, 116, 104]⟩, .string ⟨#[108, 105, 110, 107]⟩, .string ⟨#[108, 97, 110, 103]⟩, .string ⟨#[111, 110, 101, 111, 102]⟩, .string ⟨#[102, 108, 97, 103]⟩] : Array Value) = (kindsL.map Value.string).toArray := rfl
    rw [e] at h1
    simp [World.cell?, h1, List.getElem?_eq_getElem (show k < kindsL.length from hk)]
  obtain ⟨s, hs⟩ : ∃ s, s = kindsL[k]'(by rw [kinds_len]; exact hk) := ⟨_, rfl⟩
  rw [← hs] at hx ⊢
  have hk0 : (0 : Int) ≤ (k : Int) := by omega
  have hk1 : (k : Int) < 9 := by omega
  rw [hW1] at hx
  have HW1 := Lib.hid hW1
  have HB2 := Lib.hid hb2
  clear hW1 hs hb2
  go_enter Tryz.func135, Tryz.ntmps135
  go_wp2
  go_ret
  exact ⟨rfl, HW1.out ▸ HB2.out⟩
end Go.Proofs.YteikagdinecfoaaGreatDoor.Rz
