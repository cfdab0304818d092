/-
  DERIVED. GIVEN WITH THE SEED: THE CARDS: each row of YtddgpkdhakjjaaaDoorRows.lean that lists a variable, with what it lists TIED to the program's text (the seventh form; the later family's looks); each row that meets fmt, with fmt's text TOLD by the authors' own Lean function (tested against real Go, not proved from fmt's source: count such statements apart). THE CARD IS WHAT COUNTS. Prove the row's statement (the work); the ties are given (YtddgpkdhakjjaaaDoorTie.lean); close each card by the builder's one call (the guide's Derived/Test/ToyasCard.lean, 'card_holds'). Laid BY PROGRAM, IN A SANDBOX (cutbox-door.mjs). By AI agents, Wed Nov 11 2026. No macro, syntax, notation, axiom, sorry.
-/
import Derived.Test.YtddgpkdhakjjaaaDoorRows
import GoSem.ClaimSeven
namespace Go.Proofs.YtddgpkdhakjjaaaDoor
namespace Rows

/-- THE TIED CARD OF 'sievelaw16.NestNames'. -/
def nestNamesCard : Claim7 := { stood := { row := nestNamesRow, standIns := [], harness := (true, "d3c7f14211667de56a536e1d1f3567dfe0511990099db4ed72d0380672782a57"), looks := false }, kinds := [], alts := [], laidByText := true, laidKinds := [.listed, .data], laidTests := true, laidLooks := .later }
def NestNamesCardSaid : Prop := Claim7.holds Tryd.pinned (.plain (OpenSpec.ofChange nestNamesSpec)) nestNamesCard

/-- THE TIED CARD OF 'sievelaw16.NestTables'. -/
def nestTablesCard : Claim7 := { stood := { row := nestTablesRow, standIns := [], harness := (true, "d3c7f14211667de56a536e1d1f3567dfe0511990099db4ed72d0380672782a57"), looks := false }, kinds := [], alts := [], laidByText := true, laidKinds := [.listed, .data], laidTests := true, laidLooks := .later }
def NestTablesCardSaid : Prop := Claim7.holds Tryd.pinned (.plain (OpenSpec.ofChange nestTablesSpec)) nestTablesCard

/-- THE TIED CARD OF 'sievelaw16.NestOpens'. -/
def nestOpensCard : Claim7 := { stood := { row := nestOpensRow, standIns := [], harness := (true, "d3c7f14211667de56a536e1d1f3567dfe0511990099db4ed72d0380672782a57"), looks := false }, kinds := [], alts := [], laidByText := true, laidKinds := [.listed, .data], laidTests := true, laidLooks := .later }
def NestOpensCardSaid : Prop := Claim7.holds Tryd.pinned (.plain (OpenSpec.ofChange nestOpensSpec)) nestOpensCard

/-- THE TIED CARD OF 'sievelaw16.NestLittle'. -/
def nestLittleCard : Claim7 := { stood := { row := nestLittleRow, standIns := [], harness := (true, "d3c7f14211667de56a536e1d1f3567dfe0511990099db4ed72d0380672782a57"), looks := false }, kinds := [], alts := [], laidByText := true, laidKinds := [.listed, .data], laidTests := true, laidLooks := .later }
def NestLittleCardSaid : Prop := Claim7.holds Tryd.pinned (.plain (OpenSpec.ofChange nestLittleSpec)) nestLittleCard

/-- THE TIED CARD OF 'sievelaw16.NestApplies'. -/
def nestAppliesCard : Claim7 := { stood := { row := nestAppliesRow, standIns := [], harness := (true, "d3c7f14211667de56a536e1d1f3567dfe0511990099db4ed72d0380672782a57"), looks := false }, kinds := [], alts := [], laidByText := true, laidKinds := [.listed, .data], laidTests := true, laidLooks := .later }
def NestAppliesCardSaid : Prop := Claim7.holds Tryd.pinned (.plain (OpenSpec.ofChange nestAppliesSpec)) nestAppliesCard

/-- THE TIED CARD OF 'sievelaw16.NestEnds'. -/
def nestEndsCard : Claim7 := { stood := { row := nestEndsRow, standIns := [], harness := (true, "d3c7f14211667de56a536e1d1f3567dfe0511990099db4ed72d0380672782a57"), looks := false }, kinds := [], alts := [], laidByText := true, laidKinds := [.listed, .data], laidTests := true, laidLooks := .later }
def NestEndsCardSaid : Prop := Claim7.holds Tryd.pinned (.plain (OpenSpec.ofChange nestEndsSpec)) nestEndsCard

/-- THE TIED CARD OF 'sievelaw16.NestTexts'. -/
def nestTextsCard : Claim7 := { stood := { row := nestTextsRow, standIns := [], harness := (true, "d3c7f14211667de56a536e1d1f3567dfe0511990099db4ed72d0380672782a57"), looks := false }, kinds := [], alts := [], laidByText := true, laidKinds := [.listed, .data], laidTests := true, laidLooks := .later }
def NestTextsCardSaid : Prop := Claim7.holds Tryd.pinned (.plain (OpenSpec.ofChange nestTextsSpec)) nestTextsCard

/-- THE TIED CARD OF 'sievelaw16.NestStays'. -/
def nestStaysCard : Claim7 := { stood := { row := nestStaysRow, standIns := [], harness := (true, "d3c7f14211667de56a536e1d1f3567dfe0511990099db4ed72d0380672782a57"), looks := false }, kinds := [], alts := [], laidByText := true, laidKinds := [.listed, .data], laidTests := true, laidLooks := .later }
def NestStaysCardSaid : Prop := Claim7.holds Tryd.pinned (.plain (OpenSpec.ofChange nestStaysSpec)) nestStaysCard

/-- THE TIED CARD OF 'sievelaw16.NestKids'. -/
def nestKidsCard : Claim7 := { stood := { row := nestKidsRow, standIns := [], harness := (true, "d3c7f14211667de56a536e1d1f3567dfe0511990099db4ed72d0380672782a57"), looks := false }, kinds := [], alts := [], laidByText := true, laidKinds := [.listed, .data], laidTests := true, laidLooks := .later }
def NestKidsCardSaid : Prop := Claim7.holds Tryd.pinned (.plain (OpenSpec.ofChange nestKidsSpec)) nestKidsCard

/-- THE SECOND FORM's CARD OF 'sievelaw16.NestNames'. -/
def nestNamesUptoCard : Claim7 := { stood := { row := nestNamesUptoRow, standIns := [], harness := (true, "d3c7f14211667de56a536e1d1f3567dfe0511990099db4ed72d0380672782a57"), looks := false }, kinds := [], alts := [], laidByText := true, laidKinds := [.listed, .data], laidTests := true, laidLooks := .later }
def NestNamesUptoCardSaid : Prop := Claim7.holds Tryd.pinned (.plain (OpenSpec.upto nestNamesSpec)) nestNamesUptoCard

/-- THE SECOND FORM's CARD OF 'sievelaw16.NestTables'. -/
def nestTablesUptoCard : Claim7 := { stood := { row := nestTablesUptoRow, standIns := [], harness := (true, "d3c7f14211667de56a536e1d1f3567dfe0511990099db4ed72d0380672782a57"), looks := false }, kinds := [], alts := [], laidByText := true, laidKinds := [.listed, .data], laidTests := true, laidLooks := .later }
def NestTablesUptoCardSaid : Prop := Claim7.holds Tryd.pinned (.plain (OpenSpec.upto nestTablesSpec)) nestTablesUptoCard

/-- THE SECOND FORM's CARD OF 'sievelaw16.NestOpens'. -/
def nestOpensUptoCard : Claim7 := { stood := { row := nestOpensUptoRow, standIns := [], harness := (true, "d3c7f14211667de56a536e1d1f3567dfe0511990099db4ed72d0380672782a57"), looks := false }, kinds := [], alts := [], laidByText := true, laidKinds := [.listed, .data], laidTests := true, laidLooks := .later }
def NestOpensUptoCardSaid : Prop := Claim7.holds Tryd.pinned (.plain (OpenSpec.upto nestOpensSpec)) nestOpensUptoCard

/-- THE SECOND FORM's CARD OF 'sievelaw16.NestLittle'. -/
def nestLittleUptoCard : Claim7 := { stood := { row := nestLittleUptoRow, standIns := [], harness := (true, "d3c7f14211667de56a536e1d1f3567dfe0511990099db4ed72d0380672782a57"), looks := false }, kinds := [], alts := [], laidByText := true, laidKinds := [.listed, .data], laidTests := true, laidLooks := .later }
def NestLittleUptoCardSaid : Prop := Claim7.holds Tryd.pinned (.plain (OpenSpec.upto nestLittleSpec)) nestLittleUptoCard

/-- THE SECOND FORM's CARD OF 'sievelaw16.NestApplies'. -/
def nestAppliesUptoCard : Claim7 := { stood := { row := nestAppliesUptoRow, standIns := [], harness := (true, "d3c7f14211667de56a536e1d1f3567dfe0511990099db4ed72d0380672782a57"), looks := false }, kinds := [], alts := [], laidByText := true, laidKinds := [.listed, .data], laidTests := true, laidLooks := .later }
def NestAppliesUptoCardSaid : Prop := Claim7.holds Tryd.pinned (.plain (OpenSpec.upto nestAppliesSpec)) nestAppliesUptoCard

/-- THE SECOND FORM's CARD OF 'sievelaw16.NestEnds'. -/
def nestEndsUptoCard : Claim7 := { stood := { row := nestEndsUptoRow, standIns := [], harness := (true, "d3c7f14211667de56a536e1d1f3567dfe0511990099db4ed72d0380672782a57"), looks := false }, kinds := [], alts := [], laidByText := true, laidKinds := [.listed, .data], laidTests := true, laidLooks := .later }
def NestEndsUptoCardSaid : Prop := Claim7.holds Tryd.pinned (.plain (OpenSpec.upto nestEndsSpec)) nestEndsUptoCard

/-- THE SECOND FORM's CARD OF 'sievelaw16.NestTexts'. -/
def nestTextsUptoCard : Claim7 := { stood := { row := nestTextsUptoRow, standIns := [], harness := (true, "d3c7f14211667de56a536e1d1f3567dfe0511990099db4ed72d0380672782a57"), looks := false }, kinds := [], alts := [], laidByText := true, laidKinds := [.listed, .data], laidTests := true, laidLooks := .later }
def NestTextsUptoCardSaid : Prop := Claim7.holds Tryd.pinned (.plain (OpenSpec.upto nestTextsSpec)) nestTextsUptoCard

/-- THE SECOND FORM's CARD OF 'sievelaw16.NestStays'. -/
def nestStaysUptoCard : Claim7 := { stood := { row := nestStaysUptoRow, standIns := [], harness := (true, "d3c7f14211667de56a536e1d1f3567dfe0511990099db4ed72d0380672782a57"), looks := false }, kinds := [], alts := [], laidByText := true, laidKinds := [.listed, .data], laidTests := true, laidLooks := .later }
def NestStaysUptoCardSaid : Prop := Claim7.holds Tryd.pinned (.plain (OpenSpec.upto nestStaysSpec)) nestStaysUptoCard

/-- THE SECOND FORM's CARD OF 'sievelaw16.NestKids'. -/
def nestKidsUptoCard : Claim7 := { stood := { row := nestKidsUptoRow, standIns := [], harness := (true, "d3c7f14211667de56a536e1d1f3567dfe0511990099db4ed72d0380672782a57"), looks := false }, kinds := [], alts := [], laidByText := true, laidKinds := [.listed, .data], laidTests := true, laidLooks := .later }
def NestKidsUptoCardSaid : Prop := Claim7.holds Tryd.pinned (.plain (OpenSpec.upto nestKidsSpec)) nestKidsUptoCard
end Rows
end Go.Proofs.YtddgpkdhakjjaaaDoor
