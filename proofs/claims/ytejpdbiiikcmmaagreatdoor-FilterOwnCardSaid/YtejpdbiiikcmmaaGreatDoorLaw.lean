/- The frame that all laws of this seat share: from a walk that returns true and leaves what was there as it was, to what the row says; a world for the witness in which the library's two listed tables hold what their initialisers lay. -/
import Derived.Test.YtejpdbiiikcmmaaGreatDoorRows
import Derived.Test.YtejpdbiiikcmmaaGreatDoorCi
import Derived.Test.YtejpdbiiikcmmaaGreatDoorAw
import Derived.LaidSub
import Derived.WalkKit
import Derived.ProofKit
import Derived.OpenShut
import Derived.Deep.DeepHandedRow
import Derived.Deep.DeepWitnessRowRef
import Derived.Lib.LaidTab
import Derived.SliceStrings
import Derived.SizedLaws
import Derived.Test.YtejpdbiiikcmmaaGreatDoorPn
import Derived.Lay
set_option linter.unusedVariables false
set_option linter.unusedSimpArgs false
namespace Go.Proofs.YtejpdbiiikcmmaaGreatDoor.Lf
open Go.ChangeShapes Go.WideShapes Go.ChangeAt Go.RowKit Lb Fl Is Go.Proofs.YtejpdbiiikcmmaaGreatDoor.Lk Go.Proofs.YtejpdbiiikcmmaaGreatDoor.Pp Go.Proofs.YtejpdbiiikcmmaaGreatDoor.Aw

theorem own : ownKnob Tryz.prog.godebug = none := by kernel_rfl
theorem laidOut : laidOutB Tryz.prog = true := by kernel_rfl
theorem gTabType : (Tryz.prog.globals[0]?).map (·.type) = some 212 := by kernel_rfl
theorem cells256 : Tryz.prog.cellsOf 212 = 256 := by kernel_rfl
theorem cellsU8 : Tryz.prog.cellsOf 5 = 1 := by kernel_rfl

section
variable {H : Type} {enc : TypeId × Value → H} {P : Program}
theorem trodAll_below (hl : laidOutB P = true) {W W' : World} (hb : Below W.heap.size W W') : ∀ {ts : List TypeId} {vs : List Value} {ds : List (DataW H)} {ps : List MemPlace},
    (∀ t ∈ ts, P.readableRec t = true ∧ t < P.types.size) → DataW.TrodAll enc P W 0 (fun _ => true) true ts vs ds ps → (∀ x ∈ ps, x.block < W.heap.size) →
    DataW.TrodAll enc P W' 0 (fun b => decide (b < W.heap.size)) true ts vs ds ps
  | [], _, _, _, _, h, _ => by
    obtain ⟨rfl, rfl, rfl⟩ := trodAll_nil h
    exact trodAll_mk0
  | t :: ts, _, _, _, ht, h, hlt => by
    obtain ⟨v, vs1, d, ds1, a, b, rfl, rfl, rfl, h1, h2⟩ := trodAll_cons h
    have ht1 := ht t (List.mem_cons_self ..)
    exact trodAll_cons_mk (Below.trod hl ht1.1 ht1.2 h1 hb (fun x hx => hlt x (List.mem_append_left _ hx)))
      (trodAll_below hl hb (fun t' h' => ht t' (List.mem_cons_of_mem _ h')) h2 (fun x hx => hlt x (List.mem_append_right _ hx)))

/-- A LAW's LAST STEP: it returned true, and nothing that was there has turned. -/
theorem law_post {f : Func} {s : ChangeSpec} {W W' : World} {args : Array Value} {ds gs : List (DataW H)} {before : List MemPlace} {tb : TypeId} (hl : laidOutB P = true)
    (hts : ∀ t ∈ f.params.toList, P.readableRec t = true ∧ t < P.types.size) (hvs : s.vars = []) (hr : f.resultTypes = #[tb]) (htb : P.underlying tb = some .bool)
    (hW : DataW.Whole enc P f.params.toList s.vars false W args.toList ds gs before) (hfn : s.fn H (ds ++ gs) = { results := [.lit (.bool true)], args := ds, vars := [] }) (hb : Below W.heap.size W W') :
    s.post enc P f false true false false W args (.bool true) W' := by
  have hlt : ∀ p ∈ before, p.block < W.heap.size := fun p hp => hW.lt p hp
  have hW' := hW
  obtain ⟨p, q, hA, hV, rfl, _, _⟩ := hW
  rw [hvs] at hV
  obtain ⟨rfl, rfl⟩ := trodVars_none hV
  simp only [List.append_nil] at hlt hW' hfn
  have hA' := trodAll_below hl hb hts hA hlt
  refine ⟨ds, [], p, [], p, [], hW', ?_, ?_, ?_, hb.frame _, fun h => by cases h⟩
  · simp only [List.append_nil]
    rw [hfn, hr]
    exact trodAll_mk1 (shut_bool htb true)
  · simp only [List.append_nil]
    rw [hfn]; exact hA'
  · simp only [List.append_nil]
    rw [hfn, hvs]; rfl
end

/-- A WORLD FOR THE WITNESS: each listed variable holds what its datum says -/
def litVals : DataW Unit → Array Value
  | .agg l => (l.filterMap fun
    | .lit (.int k z) => some (.int k z)
    | .lit (.string s) => some (.string ⟨s.toArray⟩)
    | _ => none).toArray
  | _ => #[]
noncomputable def laidWorld (os : Os) : World :=
  let N := (World.settled Tryz.prog os).heap.size
  let w0 := World.holding Tryz.prog os ⟨#[.cells #[.int .u16 9, .int .u16 13, .int .u16 1, .int .u16 32, .int .u16 133, .int .u16 101, .int .u16 160, .int .u16 5760, .int .u16 5600, .int .u16 8192, .int .u16 8202, .int .u16 1, .int .u16 8232, .int .u16 8233, .int .u16 1, .int .u16 8239, .int .u16 8287, .int .u16 48, .int .u16 12288, .int .u16 12288, .int .u16 1] 286, .cells #[.slice (some ⟨N, 0, none⟩) 7 7, .slice none 0 0, .int .i64 2] 283], #[], []⟩
  let put (h : Array Obj) (g : Nat) (cs : Array Value) : Array Obj := h.modify g fun
    | .cells _ t frozen => .cells cs t frozen
    | o => o
  let h1 := put w0.heap 0 (litVals Rows.laid_strings_asciiSpace)
  let h2 := put h1 3 #[.pointer (some ⟨N + 1, 0, none⟩)]
  let h3 := put h2 1 (litVals Rows.laid_sieve_link_never)
  let h4 := put h3 4 (litVals Rows.laid_internal_strconv_uint64pow10)
  let h5 := put h4 5 (litVals Rows.laid_math_bits_deBruijn32tab)
  let h6 := put h5 6 (litVals Rows.laid_math_bits_deBruijn64tab)
  { w0 with heap := h6 }
theorem laid_met (os : Os) (args : Array Value) : laidMet Tryz.prog [("math/bits.deBruijn32tab", Rows.laid_math_bits_deBruijn32tab), ("math/bits.deBruijn64tab", Rows.laid_math_bits_deBruijn64tab), ("internal/strconv.uint64pow10", Rows.laid_internal_strconv_uint64pow10), ("unicode.White_Space", Rows.laid_unicode_White_Space), ("strings.asciiSpace", Rows.laid_strings_asciiSpace), ("sieve/link.never", Rows.laid_sieve_link_never)] ((laidWorld os).forCall (fun _ _ => 0) ⟨#[], args, []⟩).memory :=
  laidMet_of_run' 8 (by kernel_rfl) (by kernel_rfl)

theorem tabData_eq : (Rows.laid_strings_asciiSpace : DataW Unit) = Lib.tabData .u8 Lib.asciiSpaceTab := by kernel_rfl
theorem powData_eq : (Rows.laid_internal_strconv_uint64pow10 : DataW Unit) = Lib.tabData .u64 Lib.pow10Tab := by kernel_rfl
theorem gPowType : (Tryz.prog.globals[4]?).map (·.type) = some 309 := by kernel_rfl
theorem gNevType : (Tryz.prog.globals[1]?).map (·.type) = some 222 := by kernel_rfl
theorem gNev : Tryz.prog.globalNamed "sieve/link.never" = some 1 := by kernel_rfl
theorem cellsPow : Tryz.prog.cellsOf 309 = 20 := by kernel_rfl
theorem cellsU64 : Tryz.prog.cellsOf 241 = 1 := by kernel_rfl
theorem cells7 : Tryz.prog.cellsOf 222 = 7 := by kernel_rfl
theorem cells1 : Tryz.prog.cellsOf 9 = 1 := by kernel_rfl
/-- an array of texts that reads as these -/
theorem cells_strs {H : Type} {enc : TypeId × Value → H} {P : Program} {w : World} {base : Nat} {sp : Nat → Bool} {held : Bool} {fuel n : Nat} {t e : TypeId} {cs : List Value} {ss : List (List UInt8)} {p : List MemPlace}
    (ht : P.underlying t = some (.array n e)) (he : P.underlying e = some .string) (hce : P.cellsOf e = 1) (h : DataW.trod enc P w base sp held fuel t cs = some (.agg (ss.map fun s => .lit (.string s)), p)) : ∀ i (hi : i < ss.length), cs[i]? = some (.string (str ss[i])) := by
  obtain ⟨xs, m, hm, hx, hlen, hxl, hg⟩ := DataW.trod_array ht h
  intro i hi
  have h1 : xs.map (·.1) = ss.map fun s => (DataW.lit (.string s) : DataW H) := by
    have := congrArg Prod.fst hx
    simpa using this.symm
  have hxi : i < xs.length := by
    have := congrArg List.length h1
    simp at this
    omega
  have h2 := hg i (by omega)
  rw [hce, Nat.mul_one, List.getElem?_eq_getElem hxi] at h2
  obtain ⟨s, hs1, hs2, _⟩ := DataW.trod_string he h2
  have h3 : (xs.map (·.1))[i]? = some (DataW.lit (.string s.data.toList) : DataW H) := by
    rw [List.getElem?_map, List.getElem?_eq_getElem hxi, hs2]; rfl
  rw [h1, List.getElem?_map, List.getElem?_eq_getElem hi] at h3
  simp only [Option.map_some, Option.some.injEq, DataW.lit.injEq, Lit.string.injEq] at h3
  have h4 := congrArg (fun l : List Value => l[0]?) hs1
  simp only [List.getElem?_take, List.getElem?_drop, List.getElem?_cons_zero] at h4
  rw [h3, str_of]
  simpa using h4
theorem nevData_eq : (Rows.laid_sieve_link_never : DataW Unit) = .agg ((neverL.map fun s => s.data.toList).map fun s => .lit (.string s)) := by kernel_rfl

set_option maxRecDepth 100000 in
/-- what the row's list gives -/
theorem tab_of {W : World} (h : laidMetH Tryz.prog [("math/bits.deBruijn32tab", Rows.laid_math_bits_deBruijn32tab), ("math/bits.deBruijn64tab", Rows.laid_math_bits_deBruijn64tab), ("internal/strconv.uint64pow10", Rows.laid_internal_strconv_uint64pow10), ("unicode.White_Space", Rows.laid_unicode_White_Space), ("strings.asciiSpace", Rows.laid_strings_asciiSpace), ("sieve/link.never", Rows.laid_sieve_link_never)] W) : Laid W := by
  refine ⟨?_, ?_, ?_⟩
  · have h2 := h.filter (fun x => x.1 == "strings.asciiSpace")
    have h' : laidMet Tryz.prog [("strings.asciiSpace", Lib.tabData .u8 Lib.asciiSpaceTab)] W := by rw [← tabData_eq]; exact h2
    obtain ⟨ps, ⟨g', t', cs, fuel, p, q, hg', ht', hvar, hd, _, _⟩, _⟩ := h'
    obtain rfl := Option.some.inj (gTab.symm.trans hg')
    obtain rfl := Option.some.inj (gTabType.symm.trans ht')
    unfold Tab Lib.TabIs
    rw [hvar, ← Lib.cells_of_tab Tryz.underlying212 Tryz.underlying5 cellsU8 cells256 hd]
  · have h2 := h.filter (fun x => x.1 == "sieve/link.never")
    have h' : laidMet Tryz.prog [("sieve/link.never", .agg ((neverL.map fun s => s.data.toList).map fun s => .lit (.string s)))] W := by rw [← nevData_eq]; exact h2
    obtain ⟨ps, ⟨g', t', cs, fuel, p, q, hg', ht', hvar, hd, _, _⟩, _⟩ := h'
    obtain rfl := Option.some.inj (gNev.symm.trans hg')
    obtain rfl := Option.some.inj (gNevType.symm.trans ht')
    have hc := cells_strs Tryz.underlying222 Tryz.underlying9 cells1 hd
    intro j hj
    have hj' : j < (neverL.map fun s : ByteArray => s.data.toList).length := hj
    have h3 := hc j hj'
    rw [List.getElem_map, str_of] at h3
    unfold World.var? at hvar
    rw [gNev] at hvar
    simp only [Option.bind_some] at hvar
    unfold World.cell?
    split at hvar
    · next cs' ty fr hb =>
      injection hvar with hvar
      subst hvar
      simp only [hb]
      simpa using h3
    · cases hvar
  · have h2 := h.filter (fun x => x.1 == "internal/strconv.uint64pow10")
    have h' : laidMet Tryz.prog [("internal/strconv.uint64pow10", Lib.tabData .u64 Lib.pow10Tab)] W := by rw [← powData_eq]; exact h2
    obtain ⟨ps, ⟨g', t', cs, fuel, p, q, hg', ht', hvar, hd, _, _⟩, _⟩ := h'
    obtain rfl := Option.some.inj (gPow.symm.trans hg')
    obtain rfl := Option.some.inj (gPowType.symm.trans ht')
    unfold Go.Proofs.YtejpdbiiikcmmaaGreatDoor.Pp.Pow Lib.TabIs
    rw [hvar, ← Lib.cells_of_tab Tryz.underlying309 Tryz.underlying241 cellsU64 cellsPow hd]
end Go.Proofs.YtejpdbiiikcmmaaGreatDoor.Lf

/- The frame of the laws that read a policy's text: two listed tables more; what the library's Split asks of the world. -/
set_option linter.unusedVariables false
set_option linter.unusedSimpArgs false
namespace Go.Proofs.YtejpdbiiikcmmaaGreatDoor.Lf2
open Go.ChangeShapes Go.WideShapes Go.ChangeAt Go.RowKit Lb Fl Is Lf Go.Proofs.YtejpdbiiikcmmaaGreatDoor.Aw Pt
noncomputable def laidWorld2 (os : Os) : World := World.laidAll Tryz.prog os [("math/bits.deBruijn32tab", Rows.laid_math_bits_deBruijn32tab), ("math/bits.deBruijn64tab", Rows.laid_math_bits_deBruijn64tab), ("internal/strconv.uint64pow10", Rows.laid_internal_strconv_uint64pow10), ("unicode/utf8.acceptRanges", Rows.laid_unicode_utf8_acceptRanges), ("unicode.White_Space", Rows.laid_unicode_White_Space), ("strings.asciiSpace", Rows.laid_strings_asciiSpace), ("sieve/link.never", Rows.laid_sieve_link_never), ("unicode/utf8.first", Rows.laid_unicode_utf8_first)]
theorem laid_met2 (os : Os) (args : Array Value) : laidMet Tryz.prog [("math/bits.deBruijn32tab", Rows.laid_math_bits_deBruijn32tab), ("math/bits.deBruijn64tab", Rows.laid_math_bits_deBruijn64tab), ("internal/strconv.uint64pow10", Rows.laid_internal_strconv_uint64pow10), ("unicode/utf8.acceptRanges", Rows.laid_unicode_utf8_acceptRanges), ("unicode.White_Space", Rows.laid_unicode_White_Space), ("strings.asciiSpace", Rows.laid_strings_asciiSpace), ("sieve/link.never", Rows.laid_sieve_link_never), ("unicode/utf8.first", Rows.laid_unicode_utf8_first)] ((laidWorld2 os).forCall (fun _ _ => 0) ⟨#[], args, []⟩).memory :=
  laidMet_laidAll args (by kernel_rfl) (by kernel_rfl)
theorem tab_of2 {W : World} (h : laidMetH Tryz.prog [("math/bits.deBruijn32tab", Rows.laid_math_bits_deBruijn32tab), ("math/bits.deBruijn64tab", Rows.laid_math_bits_deBruijn64tab), ("internal/strconv.uint64pow10", Rows.laid_internal_strconv_uint64pow10), ("unicode/utf8.acceptRanges", Rows.laid_unicode_utf8_acceptRanges), ("unicode.White_Space", Rows.laid_unicode_White_Space), ("strings.asciiSpace", Rows.laid_strings_asciiSpace), ("sieve/link.never", Rows.laid_sieve_link_never), ("unicode/utf8.first", Rows.laid_unicode_utf8_first)] W) : Laid W := by
  refine tab_of ?_
  have h2 := h.filter (fun x => !(x.1 == "unicode/utf8.acceptRanges") && !(x.1 == "unicode/utf8.first"))
  exact h2
theorem mx_of {W : World} (h : W.ShapedOpen Tryz.prog) : Mx W := Tryz.laysM146.s1_3 W h
end Go.Proofs.YtejpdbiiikcmmaaGreatDoor.Lf2
