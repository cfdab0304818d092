/- Arguments of an '..Upto' law, opened: a slice of texts, a plan; no longer than their bulk. -/
import Derived.Test.YtddgpkdhakjjaaaDoorRows
import Derived.Test.YtddgpkdhakjjaaaDoorArg
import Derived.Lib.SmallJoins
set_option linter.unusedVariables false
set_option linter.unusedSimpArgs false
namespace Go.Proofs.YtddgpkdhakjjaaaDoor.Ar
open Go.Joins Go.ChangeShapes Go.WideShapes Go.ChangeAt Go.RowKit Lb Fl Ag

theorem strs_len {H : Type} : ∀ ss : List ByteArray, ss.length ≤ Rows.uptoBulkAll (strs (H := H) ss)
  | [] => Nat.zero_le _
  | s :: r => by
    have ih := strs_len (H := H) r
    show r.length + 1 ≤ Rows.uptoBulk (.lit (.string s.data.toList)) + Rows.uptoBulkAll (strs (H := H) r)
    have : Rows.uptoBulk (H := H) (.lit (.string s.data.toList)) = s.data.toList.length + 1 := rfl
    omega
set_option maxRecDepth 100000 in
theorem strs_bulk {H : Type} {enc : TypeId × Value → H} {W : World} {fuel : Nat} {cs : List Value} {x : DataW H × List MemPlace}
    (hf : DataW.trod enc Tryd.prog W 0 (fun _ => true) true fuel 25 cs = some x) :
    ∃ A n c l, cs = [.slice A n c] ∧ Rd W A n l ∧ n ≤ c ∧ c ≤ Rows.uptoBulk x.1 := by
  rcases open_strings Tryd.underlying25 Tryd.underlying9 cellsStr hf with ⟨hcs, hx⟩ | ⟨a, len, cap, ss, hcs, _, hl, hm, hz, hx, hcell, hsz⟩
  · exact ⟨none, 0, 0, [], hcs, ⟨rfl, fun j hj => absurd hj (Nat.not_lt_zero _)⟩, Nat.le_refl _, Nat.zero_le _⟩
  · simp only [if_true] at hz
    have hbk : cap ≤ Rows.uptoBulk x.1 := by
      rw [hx]
      show cap ≤ Rows.uptoBulkAll (strs (H := H) (ss.take len)) + Rows.uptoBulkAll (strs (H := H) (ss.drop len)) + 1
      have h1 := strs_len (H := H) (ss.take len)
      have h2 := strs_len (H := H) (ss.drop len)
      rw [List.length_take] at h1
      rw [List.length_drop] at h2
      omega
    refine ⟨some a, len, cap, ss.take len, hcs, ⟨by rw [List.length_take]; omega, fun j hj => ?_⟩, hl, hbk⟩
    rw [List.length_take] at hj
    have hc := hcell j (by omega)
    obtain ⟨b, off, spot⟩ := a
    have hspot : spot = none := by
      cases spot with
      | none => rfl
      | some k =>
        exfalso
        have h8 := hcell 0 (by omega)
        have h9 : W.cell? ((⟨b, off, some k⟩ : Addr).add 0) = none := by
          unfold World.cell? Addr.add
          split <;> simp
        rw [h9] at h8
        cases h8
    subst hspot
    have ha : (⟨b, off, none⟩ : Addr).add j = ⟨b, off + j, none⟩ := by
      unfold Addr.add
      split
      · next h => rw [h]; rfl
      · rfl
    rw [ha] at hc
    refine ⟨b, off, rfl, World.block_lt_of_cell? _ _ hc, fun w' hb => ?_⟩
    have h3 : W.cell? ⟨b, off + j, none⟩ = some (.string ((ss.take len)[j]'(by rw [List.length_take]; exact hj))) := by
      have : ss.getD j ByteArray.empty = (ss.take len)[j]'(by rw [List.length_take]; exact hj) := by
        rw [List.getElem_take, List.getD_eq_getElem?_getD, List.getElem?_eq_getElem (by omega), Option.getD_some]
      rw [← this]
      exact hc
    exact (hb.cell (p := ⟨b, off + j, none⟩) (World.block_lt_of_cell? _ _ hc)).trans h3
set_option maxRecDepth 100000 in
theorem strs_arg {H : Type} {enc : TypeId × Value → H} {W : World} {r : Reach} {base : Nat} {v : Value} {d : DataW H} {p : List MemPlace}
    (hv : Value.okWide Tryd.prog W r base 25 v) (h : DataW.Trod enc Tryd.prog W 0 (fun _ => true) true 25 v d p) :
    ∃ A n c l, v = .slice A n c ∧ Rd W A n l ∧ n ≤ c ∧ c ≤ Rows.uptoBulk d := by
  obtain ⟨A, n, c, rfl⟩ := okWide_slice Tryd.underlying25 hv
  obtain ⟨fuel, hf⟩ := h
  obtain ⟨A', n', c', l, hcs, h1, h2, h3⟩ := strs_bulk hf
  simp [Value.cells] at hcs
  obtain ⟨rfl, rfl, rfl⟩ := hcs
  exact ⟨A, n, c, l, rfl, h1, h2, h3⟩
theorem planCells : Tryd.prog.cellsOf 33 = 3 := by kernel_rfl
set_option maxRecDepth 100000 in
theorem plan_arg {H : Type} {enc : TypeId × Value → H} {W : World} {r : Reach} {base : Nat} {v : Value} {d : DataW H} {p : List MemPlace}
    (hv : Value.okWide Tryd.prog W r base 33 v) (h : DataW.Trod enc Tryd.prog W 0 (fun _ => true) true 33 v d p) :
    ∃ K A m c l dr, v = .agg #[.int .i64 K, .slice A m c, .bool dr] ∧ (Lit.int .i64 K).wf = true ∧ Rd W A m l ∧ m ≤ c ∧ c ≤ Rows.uptoBulk d := by
  obtain ⟨c0, c1, c2, y0, y1, y2, fu, rfl, rfl, rfl, hy0, hy1, hy2⟩ := open_agg3 Tryd.underlying33 (by kernel_rfl) planCells hv h
  obtain ⟨K, e0, rfl, wx⟩ := DataW.trod_int Tryd.underlying3 hy0
  obtain ⟨A, m, c, l, e1, h1, h2, h3⟩ := strs_bulk hy1
  obtain ⟨dr, e2, rfl⟩ := DataW.trod_bool Tryd.underlying4 hy2
  simp at e0 e1 e2
  subst e0 e1 e2
  refine ⟨K, A, m, c, l, dr, rfl, wx, h1, h2, ?_⟩
  show c ≤ Rows.uptoBulkAll [_, y1.1, _] + 1
  have : Rows.uptoBulkAll (H := H) [.lit (.int .i64 K), y1.1, .lit (.bool dr)] = 1 + (Rows.uptoBulk y1.1 + (1 + 0)) := rfl
  simp only [this]
  omega
end Go.Proofs.YtddgpkdhakjjaaaDoor.Ar
