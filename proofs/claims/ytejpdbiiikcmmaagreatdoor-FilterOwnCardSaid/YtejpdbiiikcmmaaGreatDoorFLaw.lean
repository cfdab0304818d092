/- The frame of the laws of chapter 15: a world for the witness in which the listed tables hold what their initialisers lay; what the row's list gives. -/
import Derived.Test.YtejpdbiiikcmmaaGreatDoorLaw
set_option linter.unusedVariables false
set_option linter.unusedSimpArgs false
namespace Go.Proofs.YtejpdbiiikcmmaaGreatDoor.Lf3
open Go.ChangeShapes Go.WideShapes Go.ChangeAt Go.RowKit Lb Fl Is Lf Go.Proofs.YtejpdbiiikcmmaaGreatDoor.Lk
noncomputable def laidWorld3 (os : Os) : World := World.laidAll Tryz.prog os [("unicode/utf8.acceptRanges", Rows.laid_unicode_utf8_acceptRanges), ("unicode.White_Space", Rows.laid_unicode_White_Space), ("strings.asciiSpace", Rows.laid_strings_asciiSpace), ("sieve/link.never", Rows.laid_sieve_link_never), ("unicode/utf8.first", Rows.laid_unicode_utf8_first)]
theorem laid_met3 (os : Os) (args : Array Value) : laidMet Tryz.prog [("unicode/utf8.acceptRanges", Rows.laid_unicode_utf8_acceptRanges), ("unicode.White_Space", Rows.laid_unicode_White_Space), ("strings.asciiSpace", Rows.laid_strings_asciiSpace), ("sieve/link.never", Rows.laid_sieve_link_never), ("unicode/utf8.first", Rows.laid_unicode_utf8_first)] ((laidWorld3 os).forCall (fun _ _ => 0) ⟨#[], args, []⟩).memory :=
  laidMet_laidAll args (by kernel_rfl) (by kernel_rfl)
set_option maxRecDepth 100000 in
/-- what the row's list gives -/
theorem tab_of3 {W : World} (h : laidMetH Tryz.prog [("unicode/utf8.acceptRanges", Rows.laid_unicode_utf8_acceptRanges), ("unicode.White_Space", Rows.laid_unicode_White_Space), ("strings.asciiSpace", Rows.laid_strings_asciiSpace), ("sieve/link.never", Rows.laid_sieve_link_never), ("unicode/utf8.first", Rows.laid_unicode_utf8_first)] W) : Tab W ∧ NevT W := by
  refine ⟨?_, ?_⟩
  · have h2 := h.filter (fun x => x.1 == "strings.asciiSpace")
    have h' : laidMet Tryz.prog [("strings.asciiSpace", Lib.tabData .u8 Lib.asciiSpaceTab)] W := by rw [← tabData_eq]; exact h2
    obtain ⟨ps, ⟨g', t', cs, fuel, p, q, hg', ht', hvar, hd, _, _⟩, _⟩ := h'
    obtain rfl := Option.some.inj (gTab.symm.trans hg')
    obtain rfl := Option.some.inj (gTabType.symm.trans ht')
    unfold Tab Lib.TabIs
    rw [hvar, ← Lib.cells_of_tab Tryz.underlying212 Tryz.underlying5 cellsU8 cells256 hd]
  · have h2 := h.filter (fun x => x.1 == "sieve/link.never")
    have h' : laidMet Tryz.prog [("sieve/link.never", .agg ((neverL.map fun s => s.data.toList).map fun s => .lit (.string s)))] W := by rw [← nevData_eq]; exact h2
    obtain ⟨ps, ⟨g', t', cs, fuel, p, q, hg', ht', hvar, hd, _, _⟩, _⟩ := h'
    obtain rfl := Option.some.inj (gNev.symm.trans hg')
    obtain rfl := Option.some.inj (gNevType.symm.trans ht')
    have hc := cells_strs Tryz.underlying222 Tryz.underlying9 cells1 hd
    intro j hj
    have hj' : j < (neverL.map fun s : ByteArray => s.data.toList).length := hj
    have h3 := hc j hj'
    rw [List.getElem_map, str_of] at h3
    unfold World.var? at hvar
    rw [gNev] at hvar
    simp only [Option.bind_some] at hvar
    unfold World.cell?
    split at hvar
    · next cs' ty fr hb =>
      injection hvar with hvar
      subst hvar
      simp only [hb]
      simpa using h3
    · cases hvar
set_option maxRecDepth 100000 in
theorem len8 {l : List Value} (h : l.length = 8) : ∃ c0 c1 c2 c3 c4 c5 c6 c7, l = [c0, c1, c2, c3, c4, c5, c6, c7] := by
  match l, h with
  | [c0, c1, c2, c3, c4, c5, c6, c7], _ => exact ⟨c0, c1, c2, c3, c4, c5, c6, c7, rfl⟩
theorem cellsTok : Tryz.prog.cellsOf 39 = 8 := by kernel_rfl
set_option maxRecDepth 100000 in
theorem tok_shape {W : World} {r : Reach} {base : Nat} {v : Value} (hv : Value.okWide Tryz.prog W r base 39 v) : ∃ c0 c1 c2 c3 c4 c5 c6 c7, v = .agg #[c0, c1, c2, c3, c4, c5, c6, c7] := by
  obtain ⟨cs, rfl, hsz⟩ := okWide_struct Tryz.underlying39 hv
  obtain ⟨l⟩ := cs
  obtain ⟨c0, c1, c2, c3, c4, c5, c6, c7, rfl⟩ := len8 (show l.length = 8 by rw [← cellsTok, ← hsz]; rfl)
  exact ⟨c0, c1, c2, c3, c4, c5, c6, c7, rfl⟩
end Go.Proofs.YtejpdbiiikcmmaaGreatDoor.Lf3
