/-
  DERIVED. GIVEN WITH THE SEED: THE CARDS: each row of YteikagdinecfoaaGreatDoorRows.lean that lists a variable, with what it lists TIED to the program's text (the seventh form; the later family's looks); each row that meets fmt, with fmt's text TOLD by the authors' own Lean function (tested against real Go, not proved from fmt's source: count such statements apart). THE CARD IS WHAT COUNTS. Prove the row's statement (the work); the ties are given (YteikagdinecfoaaGreatDoorTie.lean); close each card by the builder's one call (the guide's Derived/Test/ToyasCard.lean, 'card_holds'). Laid BY PROGRAM, IN A SANDBOX (cutbox-door.mjs). By AI agents, Wed Nov 11 2026. No macro, syntax, notation, axiom, sorry.
-/
import Derived.Test.YteikagdinecfoaaGreatDoorRows
import GoSem.ClaimSeven
namespace Go.Proofs.YteikagdinecfoaaGreatDoor
namespace Rows

/-- THE TIED CARD OF 'sievelaw14.PolicyNames'. -/
def policyNamesCard : Claim7 := { stood := { row := policyNamesRow, standIns := [], harness := (true, "b0f472c93dbf0a8da9ec475205445991921a7c0d0fcaae64ab684093bcd5adff"), looks := false }, kinds := [], alts := [], laidByText := true, laidKinds := [.data, .data, .data, .listed, .data, .data], laidTests := true, laidLooks := .later }
def PolicyNamesCardSaid : Prop := Claim7.holds Tryz.pinned (.plain (OpenSpec.ofChange policyNamesSpec)) policyNamesCard

/-- THE TIED CARD OF 'sievelaw14.PolicyChecks'. -/
def policyChecksCard : Claim7 := { stood := { row := policyChecksRow, standIns := [], harness := (true, "b0f472c93dbf0a8da9ec475205445991921a7c0d0fcaae64ab684093bcd5adff"), looks := false }, kinds := [], alts := [], laidByText := true, laidKinds := [.data, .data, .data, .listed, .data, .data], laidTests := true, laidLooks := .later }
def PolicyChecksCardSaid : Prop := Claim7.holds Tryz.pinned (.plain (OpenSpec.ofChange policyChecksSpec)) policyChecksCard

/-- THE TIED CARD OF 'sievelaw14.PolicyPresets'. -/
def policyPresetsCard : Claim7 := { stood := { row := policyPresetsRow, standIns := [], harness := (true, "b0f472c93dbf0a8da9ec475205445991921a7c0d0fcaae64ab684093bcd5adff"), looks := false }, kinds := [], alts := [], laidByText := true, laidKinds := [.data, .data, .data, .listed, .data, .data], laidTests := true, laidLooks := .later }
def PolicyPresetsCardSaid : Prop := Claim7.holds Tryz.pinned (.plain (OpenSpec.ofChange policyPresetsSpec)) policyPresetsCard

/-- THE TIED CARD OF 'sievelaw14.PolicyAsks'. -/
def policyAsksCard : Claim7 := { stood := { row := policyAsksRow, standIns := [], harness := (true, "b0f472c93dbf0a8da9ec475205445991921a7c0d0fcaae64ab684093bcd5adff"), looks := false }, kinds := [], alts := [], laidByText := true, laidKinds := [.data, .data, .data, .listed, .data, .data], laidTests := true, laidLooks := .later }
def PolicyAsksCardSaid : Prop := Claim7.holds Tryz.pinned (.plain (OpenSpec.ofChange policyAsksSpec)) policyAsksCard

/-- THE TIED CARD OF 'sievelaw14.PolicyNever'. -/
def policyNeverCard : Claim7 := { stood := { row := policyNeverRow, standIns := [], harness := (true, "b0f472c93dbf0a8da9ec475205445991921a7c0d0fcaae64ab684093bcd5adff"), looks := false }, kinds := [], alts := [], laidByText := true, laidKinds := [.data, .data, .data, .listed, .data, .data], laidTests := true, laidLooks := .later }
def PolicyNeverCardSaid : Prop := Claim7.holds Tryz.pinned (.plain (OpenSpec.ofChange policyNeverSpec)) policyNeverCard

/-- THE TIED CARD OF 'sievelaw14.PolicyCloses'. -/
def policyClosesCard : Claim7 := { stood := { row := policyClosesRow, standIns := [], harness := (true, "b0f472c93dbf0a8da9ec475205445991921a7c0d0fcaae64ab684093bcd5adff"), looks := false }, kinds := [], alts := [], laidByText := true, laidKinds := [.data, .data, .data, .listed, .data, .data], laidTests := true, laidLooks := .later }
def PolicyClosesCardSaid : Prop := Claim7.holds Tryz.pinned (.plain (OpenSpec.ofChange policyClosesSpec)) policyClosesCard

/-- THE TIED CARD OF 'sievelaw14.PolicyShut'. -/
def policyShutCard : Claim7 := { stood := { row := policyShutRow, standIns := [], harness := (true, "b0f472c93dbf0a8da9ec475205445991921a7c0d0fcaae64ab684093bcd5adff"), looks := false }, kinds := [], alts := [], laidByText := true, laidKinds := [.data, .data, .data, .listed, .data, .data], laidTests := true, laidLooks := .later }
def PolicyShutCardSaid : Prop := Claim7.holds Tryz.pinned (.plain (OpenSpec.ofChange policyShutSpec)) policyShutCard

/-- THE TIED CARD OF 'sievelaw14.PolicyPairs'. -/
def policyPairsCard : Claim7 := { stood := { row := policyPairsRow, standIns := [], harness := (true, "b0f472c93dbf0a8da9ec475205445991921a7c0d0fcaae64ab684093bcd5adff"), looks := false }, kinds := [], alts := [], laidByText := true, laidKinds := [.data, .data, .data, .listed, .data, .data], laidTests := true, laidLooks := .later }
def PolicyPairsCardSaid : Prop := Claim7.holds Tryz.pinned (.plain (OpenSpec.ofChange policyPairsSpec)) policyPairsCard

/-- THE TIED CARD OF 'sievelaw14.PolicyOrder'. -/
def policyOrderCard : Claim7 := { stood := { row := policyOrderRow, standIns := [], harness := (true, "b0f472c93dbf0a8da9ec475205445991921a7c0d0fcaae64ab684093bcd5adff"), looks := false }, kinds := [], alts := [], laidByText := true, laidKinds := [.data, .data, .data, .listed, .data, .data], laidTests := true, laidLooks := .later }
def PolicyOrderCardSaid : Prop := Claim7.holds Tryz.pinned (.plain (OpenSpec.ofChange policyOrderSpec)) policyOrderCard

/-- THE TIED CARD OF 'sievelaw14.PolicyMeets'. -/
def policyMeetsCard : Claim7 := { stood := { row := policyMeetsRow, standIns := [], harness := (true, "b0f472c93dbf0a8da9ec475205445991921a7c0d0fcaae64ab684093bcd5adff"), looks := false }, kinds := [], alts := [], laidByText := true, laidKinds := [.data, .data, .data, .listed, .data, .data], laidTests := true, laidLooks := .later }
def PolicyMeetsCardSaid : Prop := Claim7.holds Tryz.pinned (.plain (OpenSpec.ofChange policyMeetsSpec)) policyMeetsCard

/-- THE TIED CARD OF 'sievelaw14.PolicyBoth'. -/
def policyBothCard : Claim7 := { stood := { row := policyBothRow, standIns := [], harness := (true, "b0f472c93dbf0a8da9ec475205445991921a7c0d0fcaae64ab684093bcd5adff"), looks := false }, kinds := [], alts := [], laidByText := true, laidKinds := [.data, .data, .data, .listed, .data, .data], laidTests := true, laidLooks := .later }
def PolicyBothCardSaid : Prop := Claim7.holds Tryz.pinned (.plain (OpenSpec.ofChange policyBothSpec)) policyBothCard

/-- THE TIED CARD OF 'sievelaw14.PolicyParses'. -/
def policyParsesCard : Claim7 := { stood := { row := policyParsesRow, standIns := [], harness := (true, "b0f472c93dbf0a8da9ec475205445991921a7c0d0fcaae64ab684093bcd5adff"), looks := false }, kinds := [], alts := [], laidByText := true, laidKinds := [.data, .data, .data, .data, .listed, .data, .data, .pinned], laidTests := true, laidLooks := .later }
def PolicyParsesCardSaid : Prop := Claim7.holds Tryz.pinned (.plain (OpenSpec.ofChange policyParsesSpec)) policyParsesCard

/-- THE TIED CARD OF 'sievelaw14.PolicyBack'. -/
def policyBackCard : Claim7 := { stood := { row := policyBackRow, standIns := [], harness := (true, "b0f472c93dbf0a8da9ec475205445991921a7c0d0fcaae64ab684093bcd5adff"), looks := false }, kinds := [], alts := [], laidByText := true, laidKinds := [.data, .data, .data, .data, .listed, .data, .data, .pinned], laidTests := true, laidLooks := .later }
def PolicyBackCardSaid : Prop := Claim7.holds Tryz.pinned (.plain (OpenSpec.ofChange policyBackSpec)) policyBackCard

/-- THE SECOND FORM's CARD OF 'sievelaw14.PolicyNames'. -/
def policyNamesUptoCard : Claim7 := { stood := { row := policyNamesUptoRow, standIns := [], harness := (true, "b0f472c93dbf0a8da9ec475205445991921a7c0d0fcaae64ab684093bcd5adff"), looks := false }, kinds := [], alts := [], laidByText := true, laidKinds := [.data, .data, .data, .listed, .data, .data], laidTests := true, laidLooks := .later }
def PolicyNamesUptoCardSaid : Prop := Claim7.holds Tryz.pinned (.plain (OpenSpec.upto policyNamesSpec)) policyNamesUptoCard

/-- THE SECOND FORM's CARD OF 'sievelaw14.PolicyChecks'. -/
def policyChecksUptoCard : Claim7 := { stood := { row := policyChecksUptoRow, standIns := [], harness := (true, "b0f472c93dbf0a8da9ec475205445991921a7c0d0fcaae64ab684093bcd5adff"), looks := false }, kinds := [], alts := [], laidByText := true, laidKinds := [.data, .data, .data, .listed, .data, .data], laidTests := true, laidLooks := .later }
def PolicyChecksUptoCardSaid : Prop := Claim7.holds Tryz.pinned (.plain (OpenSpec.upto policyChecksSpec)) policyChecksUptoCard

/-- THE SECOND FORM's CARD OF 'sievelaw14.PolicyPresets'. -/
def policyPresetsUptoCard : Claim7 := { stood := { row := policyPresetsUptoRow, standIns := [], harness := (true, "b0f472c93dbf0a8da9ec475205445991921a7c0d0fcaae64ab684093bcd5adff"), looks := false }, kinds := [], alts := [], laidByText := true, laidKinds := [.data, .data, .data, .listed, .data, .data], laidTests := true, laidLooks := .later }
def PolicyPresetsUptoCardSaid : Prop := Claim7.holds Tryz.pinned (.plain (OpenSpec.upto policyPresetsSpec)) policyPresetsUptoCard

/-- THE SECOND FORM's CARD OF 'sievelaw14.PolicyAsks'. -/
def policyAsksUptoCard : Claim7 := { stood := { row := policyAsksUptoRow, standIns := [], harness := (true, "b0f472c93dbf0a8da9ec475205445991921a7c0d0fcaae64ab684093bcd5adff"), looks := false }, kinds := [], alts := [], laidByText := true, laidKinds := [.data, .data, .data, .listed, .data, .data], laidTests := true, laidLooks := .later }
def PolicyAsksUptoCardSaid : Prop := Claim7.holds Tryz.pinned (.plain (OpenSpec.upto policyAsksSpec)) policyAsksUptoCard

/-- THE SECOND FORM's CARD OF 'sievelaw14.PolicyNever'. -/
def policyNeverUptoCard : Claim7 := { stood := { row := policyNeverUptoRow, standIns := [], harness := (true, "b0f472c93dbf0a8da9ec475205445991921a7c0d0fcaae64ab684093bcd5adff"), looks := false }, kinds := [], alts := [], laidByText := true, laidKinds := [.data, .data, .data, .listed, .data, .data], laidTests := true, laidLooks := .later }
def PolicyNeverUptoCardSaid : Prop := Claim7.holds Tryz.pinned (.plain (OpenSpec.upto policyNeverSpec)) policyNeverUptoCard

/-- THE SECOND FORM's CARD OF 'sievelaw14.PolicyCloses'. -/
def policyClosesUptoCard : Claim7 := { stood := { row := policyClosesUptoRow, standIns := [], harness := (true, "b0f472c93dbf0a8da9ec475205445991921a7c0d0fcaae64ab684093bcd5adff"), looks := false }, kinds := [], alts := [], laidByText := true, laidKinds := [.data, .data, .data, .listed, .data, .data], laidTests := true, laidLooks := .later }
def PolicyClosesUptoCardSaid : Prop := Claim7.holds Tryz.pinned (.plain (OpenSpec.upto policyClosesSpec)) policyClosesUptoCard

/-- THE SECOND FORM's CARD OF 'sievelaw14.PolicyShut'. -/
def policyShutUptoCard : Claim7 := { stood := { row := policyShutUptoRow, standIns := [], harness := (true, "b0f472c93dbf0a8da9ec475205445991921a7c0d0fcaae64ab684093bcd5adff"), looks := false }, kinds := [], alts := [], laidByText := true, laidKinds := [.data, .data, .data, .listed, .data, .data], laidTests := true, laidLooks := .later }
def PolicyShutUptoCardSaid : Prop := Claim7.holds Tryz.pinned (.plain (OpenSpec.upto policyShutSpec)) policyShutUptoCard

/-- THE SECOND FORM's CARD OF 'sievelaw14.PolicyPairs'. -/
def policyPairsUptoCard : Claim7 := { stood := { row := policyPairsUptoRow, standIns := [], harness := (true, "b0f472c93dbf0a8da9ec475205445991921a7c0d0fcaae64ab684093bcd5adff"), looks := false }, kinds := [], alts := [], laidByText := true, laidKinds := [.data, .data, .data, .listed, .data, .data], laidTests := true, laidLooks := .later }
def PolicyPairsUptoCardSaid : Prop := Claim7.holds Tryz.pinned (.plain (OpenSpec.upto policyPairsSpec)) policyPairsUptoCard

/-- THE SECOND FORM's CARD OF 'sievelaw14.PolicyOrder'. -/
def policyOrderUptoCard : Claim7 := { stood := { row := policyOrderUptoRow, standIns := [], harness := (true, "b0f472c93dbf0a8da9ec475205445991921a7c0d0fcaae64ab684093bcd5adff"), looks := false }, kinds := [], alts := [], laidByText := true, laidKinds := [.data, .data, .data, .listed, .data, .data], laidTests := true, laidLooks := .later }
def PolicyOrderUptoCardSaid : Prop := Claim7.holds Tryz.pinned (.plain (OpenSpec.upto policyOrderSpec)) policyOrderUptoCard

/-- THE SECOND FORM's CARD OF 'sievelaw14.PolicyMeets'. -/
def policyMeetsUptoCard : Claim7 := { stood := { row := policyMeetsUptoRow, standIns := [], harness := (true, "b0f472c93dbf0a8da9ec475205445991921a7c0d0fcaae64ab684093bcd5adff"), looks := false }, kinds := [], alts := [], laidByText := true, laidKinds := [.data, .data, .data, .listed, .data, .data], laidTests := true, laidLooks := .later }
def PolicyMeetsUptoCardSaid : Prop := Claim7.holds Tryz.pinned (.plain (OpenSpec.upto policyMeetsSpec)) policyMeetsUptoCard

/-- THE SECOND FORM's CARD OF 'sievelaw14.PolicyBoth'. -/
def policyBothUptoCard : Claim7 := { stood := { row := policyBothUptoRow, standIns := [], harness := (true, "b0f472c93dbf0a8da9ec475205445991921a7c0d0fcaae64ab684093bcd5adff"), looks := false }, kinds := [], alts := [], laidByText := true, laidKinds := [.data, .data, .data, .listed, .data, .data], laidTests := true, laidLooks := .later }
def PolicyBothUptoCardSaid : Prop := Claim7.holds Tryz.pinned (.plain (OpenSpec.upto policyBothSpec)) policyBothUptoCard

/-- THE SECOND FORM's CARD OF 'sievelaw14.PolicyParses'. -/
def policyParsesUptoCard : Claim7 := { stood := { row := policyParsesUptoRow, standIns := [], harness := (true, "b0f472c93dbf0a8da9ec475205445991921a7c0d0fcaae64ab684093bcd5adff"), looks := false }, kinds := [], alts := [], laidByText := true, laidKinds := [.data, .data, .data, .data, .listed, .data, .data, .pinned], laidTests := true, laidLooks := .later }
def PolicyParsesUptoCardSaid : Prop := Claim7.holds Tryz.pinned (.plain (OpenSpec.upto policyParsesSpec)) policyParsesUptoCard

/-- THE SECOND FORM's CARD OF 'sievelaw14.PolicyBack'. -/
def policyBackUptoCard : Claim7 := { stood := { row := policyBackUptoRow, standIns := [], harness := (true, "b0f472c93dbf0a8da9ec475205445991921a7c0d0fcaae64ab684093bcd5adff"), looks := false }, kinds := [], alts := [], laidByText := true, laidKinds := [.data, .data, .data, .data, .listed, .data, .data, .pinned], laidTests := true, laidLooks := .later }
def PolicyBackUptoCardSaid : Prop := Claim7.holds Tryz.pinned (.plain (OpenSpec.upto policyBackSpec)) policyBackUptoCard
end Rows
end Go.Proofs.YteikagdinecfoaaGreatDoor
