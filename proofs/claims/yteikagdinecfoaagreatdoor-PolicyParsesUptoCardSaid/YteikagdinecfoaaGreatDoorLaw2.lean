/- The frame of the laws that read a policy's text: two listed tables more; what the library's Split asks of the world. -/
import Derived.Test.YteikagdinecfoaaGreatDoorLaw
import Derived.Test.YteikagdinecfoaaGreatDoorPt
import Derived.Lay
set_option linter.unusedVariables false
set_option linter.unusedSimpArgs false
namespace Go.Proofs.YteikagdinecfoaaGreatDoor.Lf2
open Go.ChangeShapes Go.WideShapes Go.ChangeAt Go.RowKit Lb Fl Is Lf Go.Proofs.YteikagdinecfoaaGreatDoor.Aw Pt
noncomputable def laidWorld2 (os : Os) : World := World.laidAll Tryz.prog os [("math/bits.deBruijn32tab", Rows.laid_math_bits_deBruijn32tab), ("math/bits.deBruijn64tab", Rows.laid_math_bits_deBruijn64tab), ("internal/strconv.uint64pow10", Rows.laid_internal_strconv_uint64pow10), ("unicode/utf8.acceptRanges", Rows.laid_unicode_utf8_acceptRanges), ("unicode.White_Space", Rows.laid_unicode_White_Space), ("strings.asciiSpace", Rows.laid_strings_asciiSpace), ("sieve/link.never", Rows.laid_sieve_link_never), ("unicode/utf8.first", Rows.laid_unicode_utf8_first)]
theorem laid_met2 (os : Os) (args : Array Value) : laidMet Tryz.prog [("math/bits.deBruijn32tab", Rows.laid_math_bits_deBruijn32tab), ("math/bits.deBruijn64tab", Rows.laid_math_bits_deBruijn64tab), ("internal/strconv.uint64pow10", Rows.laid_internal_strconv_uint64pow10), ("unicode/utf8.acceptRanges", Rows.laid_unicode_utf8_acceptRanges), ("unicode.White_Space", Rows.laid_unicode_White_Space), ("strings.asciiSpace", Rows.laid_strings_asciiSpace), ("sieve/link.never", Rows.laid_sieve_link_never), ("unicode/utf8.first", Rows.laid_unicode_utf8_first)] ((laidWorld2 os).forCall (fun _ _ => 0) ⟨#[], args, []⟩).memory :=
  laidMet_laidAll args (by kernel_rfl) (by kernel_rfl)
theorem tab_of2 {W : World} (h : laidMetH Tryz.prog [("math/bits.deBruijn32tab", Rows.laid_math_bits_deBruijn32tab), ("math/bits.deBruijn64tab", Rows.laid_math_bits_deBruijn64tab), ("internal/strconv.uint64pow10", Rows.laid_internal_strconv_uint64pow10), ("unicode/utf8.acceptRanges", Rows.laid_unicode_utf8_acceptRanges), ("unicode.White_Space", Rows.laid_unicode_White_Space), ("strings.asciiSpace", Rows.laid_strings_asciiSpace), ("sieve/link.never", Rows.laid_sieve_link_never), ("unicode/utf8.first", Rows.laid_unicode_utf8_first)] W) : Laid W := by
  refine tab_of ?_
  have h2 := h.filter (fun x => !(x.1 == "unicode/utf8.acceptRanges") && !(x.1 == "unicode/utf8.first"))
  exact h2
theorem mx_of {W : World} (h : W.ShapedOpen Tryz.prog) : Mx W := Tryz.laysM146.s1_3 W h
end Go.Proofs.YteikagdinecfoaaGreatDoor.Lf2
