/-
  NARROWER THAN 'FOR EVERY INPUT', by the rows' own cells (each row's printed sentence says how): NestNames: laid · NestTables: laid · NestOpens: laid · NestLittle: laid · NestApplies: laid · NestEnds: laid · NestTexts: laid · NestStays: laid · NestKids: laid.
  DERIVED. THE GIVEN ROWS OF THIS SEAT. 9 by the template 'for every input the law returns true; each argument reads behind the call as it read before'; 0 by the template 'total and deterministic' (their statements: YtddgpkdhakjjaaaDoorTotals.lean).
  GIVEN WITH THE SEED: the statements are not yours to turn. If you find one false, say at which input.
  Laid BY PROGRAM, IN A SANDBOX (cutbox-rows.mjs): the forced cells as the released guide's own fill.sh prints them over the translation 6aa5cdb83e38c139… (all of the seat's roots in one cut). By AI agents, Wed Nov 11 2026. No macro, syntax, notation, axiom, sorry.
-/
import Derived.Test.YtddgpkdhakjjaaaDoorChecked
import GoSem.Claim
import GoSem.ClaimJoined
import GoSem.ClaimMapViews
import Derived.JoinedTies
import Derived.KernelRfl
namespace Go.Proofs.YtddgpkdhakjjaaaDoor
/- THE CELL 'sum', in the pinned program and in every row, IS THE sha256 OF THE DUMP (.gsa) THAT YtddgpkdhakjjaaaDoorProg.lean LOADS. Nothing in Lean hashes anything: it is a label: what it is worth is what the hold of that sum in a sandbox is worth. -/
noncomputable def Tryd.pinned : Pinned := { name := "ytddgpkdhakjjaaadoor", sum := "6aa5cdb83e38c139a65ee20249edf4f44df6ff84b1a7d542cecd39d2ec33eabb", checked := Tryd.checked }
namespace Rows
def none {H : Type} : Left H := { results := [], args := [] }

/- WHAT THE LISTED PACKAGE-LEVEL VARIABLES READ AS WHEN THE CALL BEGINS. Each datum BY PROGRAM (the guide's laid-datum.mjs) off the statement by which the dump's own 'gosem.cut.vars' lays the variable. In a bare row this is a premise. The card (YtddgpkdhakjjaaaDoorCards.lean) ties it to the program's text. -/
def laid_unicode_White_Space {H : Type} : DataW H := .ptr (.agg [.slice [.agg [.lit (.int .u16 9), .lit (.int .u16 13), .lit (.int .u16 1)], .agg [.lit (.int .u16 32), .lit (.int .u16 133), .lit (.int .u16 101)], .agg [.lit (.int .u16 160), .lit (.int .u16 5760), .lit (.int .u16 5600)], .agg [.lit (.int .u16 8192), .lit (.int .u16 8202), .lit (.int .u16 1)], .agg [.lit (.int .u16 8232), .lit (.int .u16 8233), .lit (.int .u16 1)], .agg [.lit (.int .u16 8239), .lit (.int .u16 8287), .lit (.int .u16 48)], .agg [.lit (.int .u16 12288), .lit (.int .u16 12288), .lit (.int .u16 1)]] [], .nil, .lit (.int .i64 2)])
def laid_strings_asciiSpace {H : Type} : DataW H := .agg [.lit (.int .u8 0), .lit (.int .u8 0), .lit (.int .u8 0), .lit (.int .u8 0), .lit (.int .u8 0), .lit (.int .u8 0), .lit (.int .u8 0), .lit (.int .u8 0), .lit (.int .u8 0), .lit (.int .u8 1), .lit (.int .u8 1), .lit (.int .u8 1), .lit (.int .u8 1), .lit (.int .u8 1), .lit (.int .u8 0), .lit (.int .u8 0), .lit (.int .u8 0), .lit (.int .u8 0), .lit (.int .u8 0), .lit (.int .u8 0), .lit (.int .u8 0), .lit (.int .u8 0), .lit (.int .u8 0), .lit (.int .u8 0), .lit (.int .u8 0), .lit (.int .u8 0), .lit (.int .u8 0), .lit (.int .u8 0), .lit (.int .u8 0), .lit (.int .u8 0), .lit (.int .u8 0), .lit (.int .u8 0), .lit (.int .u8 1), .lit (.int .u8 0), .lit (.int .u8 0), .lit (.int .u8 0), .lit (.int .u8 0), .lit (.int .u8 0), .lit (.int .u8 0), .lit (.int .u8 0), .lit (.int .u8 0), .lit (.int .u8 0), .lit (.int .u8 0), .lit (.int .u8 0), .lit (.int .u8 0), .lit (.int .u8 0), .lit (.int .u8 0), .lit (.int .u8 0), .lit (.int .u8 0), .lit (.int .u8 0), .lit (.int .u8 0), .lit (.int .u8 0), .lit (.int .u8 0), .lit (.int .u8 0), .lit (.int .u8 0), .lit (.int .u8 0), .lit (.int .u8 0), .lit (.int .u8 0), .lit (.int .u8 0), .lit (.int .u8 0), .lit (.int .u8 0), .lit (.int .u8 0), .lit (.int .u8 0), .lit (.int .u8 0), .lit (.int .u8 0), .lit (.int .u8 0), .lit (.int .u8 0), .lit (.int .u8 0), .lit (.int .u8 0), .lit (.int .u8 0), .lit (.int .u8 0), .lit (.int .u8 0), .lit (.int .u8 0), .lit (.int .u8 0), .lit (.int .u8 0), .lit (.int .u8 0), .lit (.int .u8 0), .lit (.int .u8 0), .lit (.int .u8 0), .lit (.int .u8 0), .lit (.int .u8 0), .lit (.int .u8 0), .lit (.int .u8 0), .lit (.int .u8 0), .lit (.int .u8 0), .lit (.int .u8 0), .lit (.int .u8 0), .lit (.int .u8 0), .lit (.int .u8 0), .lit (.int .u8 0), .lit (.int .u8 0), .lit (.int .u8 0), .lit (.int .u8 0), .lit (.int .u8 0), .lit (.int .u8 0), .lit (.int .u8 0), .lit (.int .u8 0), .lit (.int .u8 0), .lit (.int .u8 0), .lit (.int .u8 0), .lit (.int .u8 0), .lit (.int .u8 0), .lit (.int .u8 0), .lit (.int .u8 0), .lit (.int .u8 0), .lit (.int .u8 0), .lit (.int .u8 0), .lit (.int .u8 0), .lit (.int .u8 0), .lit (.int .u8 0), .lit (.int .u8 0), .lit (.int .u8 0), .lit (.int .u8 0), .lit (.int .u8 0), .lit (.int .u8 0), .lit (.int .u8 0), .lit (.int .u8 0), .lit (.int .u8 0), .lit (.int .u8 0), .lit (.int .u8 0), .lit (.int .u8 0), .lit (.int .u8 0), .lit (.int .u8 0), .lit (.int .u8 0), .lit (.int .u8 0), .lit (.int .u8 0), .lit (.int .u8 0), .lit (.int .u8 0), .lit (.int .u8 0), .lit (.int .u8 0), .lit (.int .u8 0), .lit (.int .u8 0), .lit (.int .u8 0), .lit (.int .u8 0), .lit (.int .u8 0), .lit (.int .u8 0), .lit (.int .u8 0), .lit (.int .u8 0), .lit (.int .u8 0), .lit (.int .u8 0), .lit (.int .u8 0), .lit (.int .u8 0), .lit (.int .u8 0), .lit (.int .u8 0), .lit (.int .u8 0), .lit (.int .u8 0), .lit (.int .u8 0), .lit (.int .u8 0), .lit (.int .u8 0), .lit (.int .u8 0), .lit (.int .u8 0), .lit (.int .u8 0), .lit (.int .u8 0), .lit (.int .u8 0), .lit (.int .u8 0), .lit (.int .u8 0), .lit (.int .u8 0), .lit (.int .u8 0), .lit (.int .u8 0), .lit (.int .u8 0), .lit (.int .u8 0), .lit (.int .u8 0), .lit (.int .u8 0), .lit (.int .u8 0), .lit (.int .u8 0), .lit (.int .u8 0), .lit (.int .u8 0), .lit (.int .u8 0), .lit (.int .u8 0), .lit (.int .u8 0), .lit (.int .u8 0), .lit (.int .u8 0), .lit (.int .u8 0), .lit (.int .u8 0), .lit (.int .u8 0), .lit (.int .u8 0), .lit (.int .u8 0), .lit (.int .u8 0), .lit (.int .u8 0), .lit (.int .u8 0), .lit (.int .u8 0), .lit (.int .u8 0), .lit (.int .u8 0), .lit (.int .u8 0), .lit (.int .u8 0), .lit (.int .u8 0), .lit (.int .u8 0), .lit (.int .u8 0), .lit (.int .u8 0), .lit (.int .u8 0), .lit (.int .u8 0), .lit (.int .u8 0), .lit (.int .u8 0), .lit (.int .u8 0), .lit (.int .u8 0), .lit (.int .u8 0), .lit (.int .u8 0), .lit (.int .u8 0), .lit (.int .u8 0), .lit (.int .u8 0), .lit (.int .u8 0), .lit (.int .u8 0), .lit (.int .u8 0), .lit (.int .u8 0), .lit (.int .u8 0), .lit (.int .u8 0), .lit (.int .u8 0), .lit (.int .u8 0), .lit (.int .u8 0), .lit (.int .u8 0), .lit (.int .u8 0), .lit (.int .u8 0), .lit (.int .u8 0), .lit (.int .u8 0), .lit (.int .u8 0), .lit (.int .u8 0), .lit (.int .u8 0), .lit (.int .u8 0), .lit (.int .u8 0), .lit (.int .u8 0), .lit (.int .u8 0), .lit (.int .u8 0), .lit (.int .u8 0), .lit (.int .u8 0), .lit (.int .u8 0), .lit (.int .u8 0), .lit (.int .u8 0), .lit (.int .u8 0), .lit (.int .u8 0), .lit (.int .u8 0), .lit (.int .u8 0), .lit (.int .u8 0), .lit (.int .u8 0), .lit (.int .u8 0), .lit (.int .u8 0), .lit (.int .u8 0), .lit (.int .u8 0), .lit (.int .u8 0), .lit (.int .u8 0), .lit (.int .u8 0), .lit (.int .u8 0), .lit (.int .u8 0), .lit (.int .u8 0), .lit (.int .u8 0), .lit (.int .u8 0), .lit (.int .u8 0), .lit (.int .u8 0), .lit (.int .u8 0), .lit (.int .u8 0), .lit (.int .u8 0), .lit (.int .u8 0), .lit (.int .u8 0), .lit (.int .u8 0), .lit (.int .u8 0), .lit (.int .u8 0), .lit (.int .u8 0)]

/-- 'sievelaw16.NestNames': WHATEVER THE INPUT: true; the input reads as it did. -/
def nestNamesSpec : ChangeSpec := { name := "nestNames", fn := fun _ => fun
  | [] => { results := [.lit (.bool true)], args := [] }
  | _ => none }
def nestNamesRow : OpenClaim := { program := "ytddgpkdhakjjaaadoor", sum := "6aa5cdb83e38c139a65ee20249edf4f44df6ff84b1a7d542cecd39d2ec33eabb", func := "sieve/sievelaw16.NestNames", spec := "nestNames", unfollowed := true, recurses := true, named := ["strings.asciiSpace", "unicode.White_Space"], apart := false, laid := [("unicode.White_Space", laid_unicode_White_Space), ("strings.asciiSpace", laid_strings_asciiSpace)] }
def NestNamesSaid : Prop := nestNamesRow.holds Tryd.pinned (OpenSpec.ofChange nestNamesSpec)

/-- ITS FALSE NEIGHBOUR: 'it returns false'. Refute it at one input. -/
def nestNamesWrong : ChangeSpec := { name := "nestNames", fn := fun _ => fun
  | [] => { results := [.lit (.bool false)], args := [] }
  | _ => none }
def NestNamesWrongFalsely : Prop := nestNamesRow.holds Tryd.pinned (OpenSpec.ofChange nestNamesWrong)

/-- 'sievelaw16.NestTables': WHATEVER THE INPUT: true; the input reads as it did. -/
def nestTablesSpec : ChangeSpec := { name := "nestTables", fn := fun _ => fun
  | [d] => { results := [.lit (.bool true)], args := [d] }
  | _ => none }
def nestTablesRow : OpenClaim := { program := "ytddgpkdhakjjaaadoor", sum := "6aa5cdb83e38c139a65ee20249edf4f44df6ff84b1a7d542cecd39d2ec33eabb", func := "sieve/sievelaw16.NestTables", spec := "nestTables", unfollowed := true, recurses := true, named := ["strings.asciiSpace", "unicode.White_Space"], apart := false, laid := [("unicode.White_Space", laid_unicode_White_Space), ("strings.asciiSpace", laid_strings_asciiSpace)] }
def NestTablesSaid : Prop := nestTablesRow.holds Tryd.pinned (OpenSpec.ofChange nestTablesSpec)

/-- ITS FALSE NEIGHBOUR: 'it returns false'. Refute it at one input. -/
def nestTablesWrong : ChangeSpec := { name := "nestTables", fn := fun _ => fun
  | [d] => { results := [.lit (.bool false)], args := [d] }
  | _ => none }
def NestTablesWrongFalsely : Prop := nestTablesRow.holds Tryd.pinned (OpenSpec.ofChange nestTablesWrong)

/-- 'sievelaw16.NestOpens': WHATEVER THE INPUT: true; the input reads as it did. -/
def nestOpensSpec : ChangeSpec := { name := "nestOpens", fn := fun _ => fun
  | [d1, d2] => { results := [.lit (.bool true)], args := [d1, d2] }
  | _ => none }
def nestOpensRow : OpenClaim := { program := "ytddgpkdhakjjaaadoor", sum := "6aa5cdb83e38c139a65ee20249edf4f44df6ff84b1a7d542cecd39d2ec33eabb", func := "sieve/sievelaw16.NestOpens", spec := "nestOpens", unfollowed := true, recurses := true, named := ["strings.asciiSpace", "unicode.White_Space"], apart := false, laid := [("unicode.White_Space", laid_unicode_White_Space), ("strings.asciiSpace", laid_strings_asciiSpace)] }
def NestOpensSaid : Prop := nestOpensRow.holds Tryd.pinned (OpenSpec.ofChange nestOpensSpec)

/-- ITS FALSE NEIGHBOUR: 'it returns false'. Refute it at one input. -/
def nestOpensWrong : ChangeSpec := { name := "nestOpens", fn := fun _ => fun
  | [d1, d2] => { results := [.lit (.bool false)], args := [d1, d2] }
  | _ => none }
def NestOpensWrongFalsely : Prop := nestOpensRow.holds Tryd.pinned (OpenSpec.ofChange nestOpensWrong)

/-- 'sievelaw16.NestLittle': WHATEVER THE INPUT: true; the input reads as it did. -/
def nestLittleSpec : ChangeSpec := { name := "nestLittle", fn := fun _ => fun
  | [d1, d2] => { results := [.lit (.bool true)], args := [d1, d2] }
  | _ => none }
def nestLittleRow : OpenClaim := { program := "ytddgpkdhakjjaaadoor", sum := "6aa5cdb83e38c139a65ee20249edf4f44df6ff84b1a7d542cecd39d2ec33eabb", func := "sieve/sievelaw16.NestLittle", spec := "nestLittle", unfollowed := true, recurses := true, named := ["strings.asciiSpace", "unicode.White_Space"], apart := false, laid := [("unicode.White_Space", laid_unicode_White_Space), ("strings.asciiSpace", laid_strings_asciiSpace)] }
def NestLittleSaid : Prop := nestLittleRow.holds Tryd.pinned (OpenSpec.ofChange nestLittleSpec)

/-- ITS FALSE NEIGHBOUR: 'it returns false'. Refute it at one input. -/
def nestLittleWrong : ChangeSpec := { name := "nestLittle", fn := fun _ => fun
  | [d1, d2] => { results := [.lit (.bool false)], args := [d1, d2] }
  | _ => none }
def NestLittleWrongFalsely : Prop := nestLittleRow.holds Tryd.pinned (OpenSpec.ofChange nestLittleWrong)

/-- 'sievelaw16.NestApplies': WHATEVER THE INPUT: true; the input reads as it did. -/
def nestAppliesSpec : ChangeSpec := { name := "nestApplies", fn := fun _ => fun
  | [d1, d2] => { results := [.lit (.bool true)], args := [d1, d2] }
  | _ => none }
def nestAppliesRow : OpenClaim := { program := "ytddgpkdhakjjaaadoor", sum := "6aa5cdb83e38c139a65ee20249edf4f44df6ff84b1a7d542cecd39d2ec33eabb", func := "sieve/sievelaw16.NestApplies", spec := "nestApplies", unfollowed := true, recurses := true, named := ["strings.asciiSpace", "unicode.White_Space"], apart := false, laid := [("unicode.White_Space", laid_unicode_White_Space), ("strings.asciiSpace", laid_strings_asciiSpace)] }
def NestAppliesSaid : Prop := nestAppliesRow.holds Tryd.pinned (OpenSpec.ofChange nestAppliesSpec)

/-- ITS FALSE NEIGHBOUR: 'it returns false'. Refute it at one input. -/
def nestAppliesWrong : ChangeSpec := { name := "nestApplies", fn := fun _ => fun
  | [d1, d2] => { results := [.lit (.bool false)], args := [d1, d2] }
  | _ => none }
def NestAppliesWrongFalsely : Prop := nestAppliesRow.holds Tryd.pinned (OpenSpec.ofChange nestAppliesWrong)

/-- 'sievelaw16.NestEnds': WHATEVER THE INPUT: true; the input reads as it did. -/
def nestEndsSpec : ChangeSpec := { name := "nestEnds", fn := fun _ => fun
  | [d1, d2] => { results := [.lit (.bool true)], args := [d1, d2] }
  | _ => none }
def nestEndsRow : OpenClaim := { program := "ytddgpkdhakjjaaadoor", sum := "6aa5cdb83e38c139a65ee20249edf4f44df6ff84b1a7d542cecd39d2ec33eabb", func := "sieve/sievelaw16.NestEnds", spec := "nestEnds", unfollowed := true, recurses := true, named := ["strings.asciiSpace", "unicode.White_Space"], apart := false, laid := [("unicode.White_Space", laid_unicode_White_Space), ("strings.asciiSpace", laid_strings_asciiSpace)] }
def NestEndsSaid : Prop := nestEndsRow.holds Tryd.pinned (OpenSpec.ofChange nestEndsSpec)

/-- ITS FALSE NEIGHBOUR: 'it returns false'. Refute it at one input. -/
def nestEndsWrong : ChangeSpec := { name := "nestEnds", fn := fun _ => fun
  | [d1, d2] => { results := [.lit (.bool false)], args := [d1, d2] }
  | _ => none }
def NestEndsWrongFalsely : Prop := nestEndsRow.holds Tryd.pinned (OpenSpec.ofChange nestEndsWrong)

/-- 'sievelaw16.NestTexts': WHATEVER THE INPUT: true; the input reads as it did. -/
def nestTextsSpec : ChangeSpec := { name := "nestTexts", fn := fun _ => fun
  | [d1, d2, d3] => { results := [.lit (.bool true)], args := [d1, d2, d3] }
  | _ => none }
def nestTextsRow : OpenClaim := { program := "ytddgpkdhakjjaaadoor", sum := "6aa5cdb83e38c139a65ee20249edf4f44df6ff84b1a7d542cecd39d2ec33eabb", func := "sieve/sievelaw16.NestTexts", spec := "nestTexts", unfollowed := true, recurses := true, named := ["strings.asciiSpace", "unicode.White_Space"], apart := false, laid := [("unicode.White_Space", laid_unicode_White_Space), ("strings.asciiSpace", laid_strings_asciiSpace)] }
def NestTextsSaid : Prop := nestTextsRow.holds Tryd.pinned (OpenSpec.ofChange nestTextsSpec)

/-- ITS FALSE NEIGHBOUR: 'it returns false'. Refute it at one input. -/
def nestTextsWrong : ChangeSpec := { name := "nestTexts", fn := fun _ => fun
  | [d1, d2, d3] => { results := [.lit (.bool false)], args := [d1, d2, d3] }
  | _ => none }
def NestTextsWrongFalsely : Prop := nestTextsRow.holds Tryd.pinned (OpenSpec.ofChange nestTextsWrong)

/-- 'sievelaw16.NestStays': WHATEVER THE INPUT: true; the input reads as it did. -/
def nestStaysSpec : ChangeSpec := { name := "nestStays", fn := fun _ => fun
  | [d1, d2, d3] => { results := [.lit (.bool true)], args := [d1, d2, d3] }
  | _ => none }
def nestStaysRow : OpenClaim := { program := "ytddgpkdhakjjaaadoor", sum := "6aa5cdb83e38c139a65ee20249edf4f44df6ff84b1a7d542cecd39d2ec33eabb", func := "sieve/sievelaw16.NestStays", spec := "nestStays", unfollowed := true, recurses := true, named := ["strings.asciiSpace", "unicode.White_Space"], apart := false, laid := [("unicode.White_Space", laid_unicode_White_Space), ("strings.asciiSpace", laid_strings_asciiSpace)] }
def NestStaysSaid : Prop := nestStaysRow.holds Tryd.pinned (OpenSpec.ofChange nestStaysSpec)

/-- ITS FALSE NEIGHBOUR: 'it returns false'. Refute it at one input. -/
def nestStaysWrong : ChangeSpec := { name := "nestStays", fn := fun _ => fun
  | [d1, d2, d3] => { results := [.lit (.bool false)], args := [d1, d2, d3] }
  | _ => none }
def NestStaysWrongFalsely : Prop := nestStaysRow.holds Tryd.pinned (OpenSpec.ofChange nestStaysWrong)

/-- 'sievelaw16.NestKids': WHATEVER THE INPUT: true; the input reads as it did. -/
def nestKidsSpec : ChangeSpec := { name := "nestKids", fn := fun _ => fun
  | [d1, d2] => { results := [.lit (.bool true)], args := [d1, d2] }
  | _ => none }
def nestKidsRow : OpenClaim := { program := "ytddgpkdhakjjaaadoor", sum := "6aa5cdb83e38c139a65ee20249edf4f44df6ff84b1a7d542cecd39d2ec33eabb", func := "sieve/sievelaw16.NestKids", spec := "nestKids", unfollowed := true, recurses := true, named := ["strings.asciiSpace", "unicode.White_Space"], apart := false, laid := [("unicode.White_Space", laid_unicode_White_Space), ("strings.asciiSpace", laid_strings_asciiSpace)] }
def NestKidsSaid : Prop := nestKidsRow.holds Tryd.pinned (OpenSpec.ofChange nestKidsSpec)

/-- ITS FALSE NEIGHBOUR: 'it returns false'. Refute it at one input. -/
def nestKidsWrong : ChangeSpec := { name := "nestKids", fn := fun _ => fun
  | [d1, d2] => { results := [.lit (.bool false)], args := [d1, d2] }
  | _ => none }
def NestKidsWrongFalsely : Prop := nestKidsRow.holds Tryd.pinned (OpenSpec.ofChange nestKidsWrong)

/- THE SECOND FORM. 'bulk': how many values and letters a reading holds, each counted each time it is reached (what is shared counts as often as it is met; a slice's spare places count too). A statement '..UptoSaid' is the law's where the arguments, and the package variables that the reading takes, are together of bulk at most 1048576: NARROWER than '..Said'. Prove '..Said' where nothing that the law and all that it calls make is longer than what came in: it says more and counts as full. Else prove '..UptoSaid'. A law counts once. -/
mutual
def uptoBulk {H : Type} : DataW H → Nat
  | .lit (.string bytes) => bytes.length + 1
  | .lit _ => 1
  | .nil => 1
  | .ptr d => uptoBulk d + 1
  | .slice elems spare => uptoBulkAll elems + uptoBulkAll spare + 1
  | .agg parts => uptoBulkAll parts + 1
  | .iface _ d => uptoBulk d + 1
  | .map entries => uptoBulkEntries entries + 1
  | .held _ => 1
def uptoBulkAll {H : Type} : List (DataW H) → Nat
  | [] => 0
  | d :: r => uptoBulk d + uptoBulkAll r
def uptoBulkEntries {H : Type} : List (Lit × DataW H) → Nat
  | [] => 0
  | x :: r => uptoBulkEntry x + uptoBulkEntries r
def uptoBulkEntry {H : Type} : Lit × DataW H → Nat
  | (.string bytes, d) => bytes.length + uptoBulk d + 1
  | (_, d) => uptoBulk d + 1
 end
def uptoSmall : (H : Type) → List (DataW H) → Bool := fun _ ds => decide (uptoBulkAll ds ≤ 1048576)
def OpenSpec.upto (s : _root_.Go.ChangeSpec) : _root_.Go.OpenSpec := { _root_.Go.OpenSpec.ofChange s with cond := some uptoSmall }

/-- 'sievelaw16.NestNames', WHERE WHAT IT READS IS OF BULK AT MOST 1048576: true; the input reads as it did. -/
def nestNamesUptoRow : OpenClaim := { program := "ytddgpkdhakjjaaadoor", sum := "6aa5cdb83e38c139a65ee20249edf4f44df6ff84b1a7d542cecd39d2ec33eabb", func := "sieve/sievelaw16.NestNames", spec := "nestNames", unfollowed := true, recurses := true, named := ["strings.asciiSpace", "unicode.White_Space"], apart := false, laid := [("unicode.White_Space", laid_unicode_White_Space), ("strings.asciiSpace", laid_strings_asciiSpace)], narrowed := true }
def NestNamesUptoSaid : Prop := nestNamesUptoRow.holds Tryd.pinned (OpenSpec.upto nestNamesSpec)

/-- 'sievelaw16.NestTables', WHERE WHAT IT READS IS OF BULK AT MOST 1048576: true; the input reads as it did. -/
def nestTablesUptoRow : OpenClaim := { program := "ytddgpkdhakjjaaadoor", sum := "6aa5cdb83e38c139a65ee20249edf4f44df6ff84b1a7d542cecd39d2ec33eabb", func := "sieve/sievelaw16.NestTables", spec := "nestTables", unfollowed := true, recurses := true, named := ["strings.asciiSpace", "unicode.White_Space"], apart := false, laid := [("unicode.White_Space", laid_unicode_White_Space), ("strings.asciiSpace", laid_strings_asciiSpace)], narrowed := true }
def NestTablesUptoSaid : Prop := nestTablesUptoRow.holds Tryd.pinned (OpenSpec.upto nestTablesSpec)

/-- 'sievelaw16.NestOpens', WHERE WHAT IT READS IS OF BULK AT MOST 1048576: true; the input reads as it did. -/
def nestOpensUptoRow : OpenClaim := { program := "ytddgpkdhakjjaaadoor", sum := "6aa5cdb83e38c139a65ee20249edf4f44df6ff84b1a7d542cecd39d2ec33eabb", func := "sieve/sievelaw16.NestOpens", spec := "nestOpens", unfollowed := true, recurses := true, named := ["strings.asciiSpace", "unicode.White_Space"], apart := false, laid := [("unicode.White_Space", laid_unicode_White_Space), ("strings.asciiSpace", laid_strings_asciiSpace)], narrowed := true }
def NestOpensUptoSaid : Prop := nestOpensUptoRow.holds Tryd.pinned (OpenSpec.upto nestOpensSpec)

/-- 'sievelaw16.NestLittle', WHERE WHAT IT READS IS OF BULK AT MOST 1048576: true; the input reads as it did. -/
def nestLittleUptoRow : OpenClaim := { program := "ytddgpkdhakjjaaadoor", sum := "6aa5cdb83e38c139a65ee20249edf4f44df6ff84b1a7d542cecd39d2ec33eabb", func := "sieve/sievelaw16.NestLittle", spec := "nestLittle", unfollowed := true, recurses := true, named := ["strings.asciiSpace", "unicode.White_Space"], apart := false, laid := [("unicode.White_Space", laid_unicode_White_Space), ("strings.asciiSpace", laid_strings_asciiSpace)], narrowed := true }
def NestLittleUptoSaid : Prop := nestLittleUptoRow.holds Tryd.pinned (OpenSpec.upto nestLittleSpec)

/-- 'sievelaw16.NestApplies', WHERE WHAT IT READS IS OF BULK AT MOST 1048576: true; the input reads as it did. -/
def nestAppliesUptoRow : OpenClaim := { program := "ytddgpkdhakjjaaadoor", sum := "6aa5cdb83e38c139a65ee20249edf4f44df6ff84b1a7d542cecd39d2ec33eabb", func := "sieve/sievelaw16.NestApplies", spec := "nestApplies", unfollowed := true, recurses := true, named := ["strings.asciiSpace", "unicode.White_Space"], apart := false, laid := [("unicode.White_Space", laid_unicode_White_Space), ("strings.asciiSpace", laid_strings_asciiSpace)], narrowed := true }
def NestAppliesUptoSaid : Prop := nestAppliesUptoRow.holds Tryd.pinned (OpenSpec.upto nestAppliesSpec)

/-- 'sievelaw16.NestEnds', WHERE WHAT IT READS IS OF BULK AT MOST 1048576: true; the input reads as it did. -/
def nestEndsUptoRow : OpenClaim := { program := "ytddgpkdhakjjaaadoor", sum := "6aa5cdb83e38c139a65ee20249edf4f44df6ff84b1a7d542cecd39d2ec33eabb", func := "sieve/sievelaw16.NestEnds", spec := "nestEnds", unfollowed := true, recurses := true, named := ["strings.asciiSpace", "unicode.White_Space"], apart := false, laid := [("unicode.White_Space", laid_unicode_White_Space), ("strings.asciiSpace", laid_strings_asciiSpace)], narrowed := true }
def NestEndsUptoSaid : Prop := nestEndsUptoRow.holds Tryd.pinned (OpenSpec.upto nestEndsSpec)

/-- 'sievelaw16.NestTexts', WHERE WHAT IT READS IS OF BULK AT MOST 1048576: true; the input reads as it did. -/
def nestTextsUptoRow : OpenClaim := { program := "ytddgpkdhakjjaaadoor", sum := "6aa5cdb83e38c139a65ee20249edf4f44df6ff84b1a7d542cecd39d2ec33eabb", func := "sieve/sievelaw16.NestTexts", spec := "nestTexts", unfollowed := true, recurses := true, named := ["strings.asciiSpace", "unicode.White_Space"], apart := false, laid := [("unicode.White_Space", laid_unicode_White_Space), ("strings.asciiSpace", laid_strings_asciiSpace)], narrowed := true }
def NestTextsUptoSaid : Prop := nestTextsUptoRow.holds Tryd.pinned (OpenSpec.upto nestTextsSpec)

/-- 'sievelaw16.NestStays', WHERE WHAT IT READS IS OF BULK AT MOST 1048576: true; the input reads as it did. -/
def nestStaysUptoRow : OpenClaim := { program := "ytddgpkdhakjjaaadoor", sum := "6aa5cdb83e38c139a65ee20249edf4f44df6ff84b1a7d542cecd39d2ec33eabb", func := "sieve/sievelaw16.NestStays", spec := "nestStays", unfollowed := true, recurses := true, named := ["strings.asciiSpace", "unicode.White_Space"], apart := false, laid := [("unicode.White_Space", laid_unicode_White_Space), ("strings.asciiSpace", laid_strings_asciiSpace)], narrowed := true }
def NestStaysUptoSaid : Prop := nestStaysUptoRow.holds Tryd.pinned (OpenSpec.upto nestStaysSpec)

/-- 'sievelaw16.NestKids', WHERE WHAT IT READS IS OF BULK AT MOST 1048576: true; the input reads as it did. -/
def nestKidsUptoRow : OpenClaim := { program := "ytddgpkdhakjjaaadoor", sum := "6aa5cdb83e38c139a65ee20249edf4f44df6ff84b1a7d542cecd39d2ec33eabb", func := "sieve/sievelaw16.NestKids", spec := "nestKids", unfollowed := true, recurses := true, named := ["strings.asciiSpace", "unicode.White_Space"], apart := false, laid := [("unicode.White_Space", laid_unicode_White_Space), ("strings.asciiSpace", laid_strings_asciiSpace)], narrowed := true }
def NestKidsUptoSaid : Prop := nestKidsUptoRow.holds Tryd.pinned (OpenSpec.upto nestKidsSpec)

end Rows
end Go.Proofs.YtddgpkdhakjjaaaDoor
