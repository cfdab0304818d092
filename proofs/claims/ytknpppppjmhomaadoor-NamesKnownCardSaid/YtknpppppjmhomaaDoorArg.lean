/- An argument that is a slice of texts, opened. -/
import Derived.Test.YtknpppppjmhomaaDoorLaw
import Derived.Test.YtknpppppjmhomaaDoorStr
set_option linter.unusedVariables false
set_option linter.unusedSimpArgs false
namespace Go.Proofs.YtknpppppjmhomaaDoor.Ag
open Go.ChangeShapes Go.WideShapes Go.ChangeAt Go.RowKit Lb Fl

theorem cellsStr : Tryd.prog.cellsOf 9 = 1 := by kernel_rfl
theorem bytesStr : Tryd.prog.bytesOf 9 = 16 := by kernel_rfl
set_option maxRecDepth 100000 in
theorem rd_of_arg {H : Type} {enc : TypeId × Value → H} {W : World} {r : Reach} {base : Nat} {v : Value} {d : DataW H} {p : List MemPlace}
    (hv : Value.okWide Tryd.prog W r base 25 v) (h : DataW.Trod enc Tryd.prog W 0 (fun _ => true) true 25 v d p)
    (hs : ∀ elems spare, d = .slice elems spare → (elems.length + spare.length) * Tryd.prog.bytesOf 9 ≤ reachBytes) :
    ∃ A n c l, v = .slice A n c ∧ Rd W A n l ∧ n ≤ c ∧ c ≤ 8796093021952 ∧ ∀ s ∈ l, s.size ≤ maxLen := by
  obtain ⟨A, n, c, rfl⟩ := okWide_slice Tryd.underlying25 hv
  obtain ⟨fuel, hf⟩ := h
  rcases open_strings Tryd.underlying25 Tryd.underlying9 cellsStr hf with ⟨hcs, _⟩ | ⟨a, len, cap, ss, hcs, _, hl, hm, hz, hx, hcell, hsz⟩
  · simp [Value.cells] at hcs
    obtain ⟨rfl, rfl, rfl⟩ := hcs
    exact ⟨none, 0, 0, [], rfl, ⟨rfl, fun j hj => absurd hj (Nat.not_lt_zero _)⟩, Nat.le_refl _, by omega, fun s hs => by cases hs⟩
  · simp [Value.cells] at hcs
    obtain ⟨rfl, rfl, rfl⟩ := hcs
    injection hx with hx _
    have h1 := hs _ _ hx
    rw [bytesStr] at h1
    simp only [if_true] at hz
    have h2 : (strs (H := H) (ss.take n)).length + (strs (H := H) (ss.drop n)).length = c := by
      simp only [strs, List.length_map, List.length_take, List.length_drop]; omega
    rw [h2] at h1
    unfold reachBytes at h1
    refine ⟨some a, n, c, ss.take n, rfl, ⟨by rw [List.length_take]; omega, fun j hj => ?_⟩, hl, by omega, fun s hs => hsz s (List.mem_of_mem_take hs)⟩
    rw [List.length_take] at hj
    have hc := hcell j (by omega)
    obtain ⟨b, off, spot⟩ := a
    have hspot : spot = none := by
      cases spot with
      | none => rfl
      | some k =>
        exfalso
        have h8 := hcell 0 (by omega)
        have h9 : W.cell? ((⟨b, off, some k⟩ : Addr).add 0) = none := by
          unfold World.cell? Addr.add
          split <;> simp
        rw [h9] at h8
        cases h8
    subst hspot
    have ha : (⟨b, off, none⟩ : Addr).add j = ⟨b, off + j, none⟩ := by
      unfold Addr.add
      split
      · next h => rw [h]; rfl
      · rfl
    rw [ha] at hc
    refine ⟨b, off, rfl, World.block_lt_of_cell? _ _ hc, fun w' hb => ?_⟩
    have h3 : W.cell? ⟨b, off + j, none⟩ = some (.string ((ss.take n)[j]'(by rw [List.length_take]; exact hj))) := by
      have : ss.getD j ByteArray.empty = (ss.take n)[j]'(by rw [List.length_take]; exact hj) := by
        rw [List.getElem_take, List.getD_eq_getElem?_getD, List.getElem?_eq_getElem (by omega), Option.getD_some]
      rw [← this]
      exact hc
    exact (hb.cell (p := ⟨b, off + j, none⟩) (World.block_lt_of_cell? _ _ hc)).trans h3
end Go.Proofs.YtknpppppjmhomaaDoor.Ag
