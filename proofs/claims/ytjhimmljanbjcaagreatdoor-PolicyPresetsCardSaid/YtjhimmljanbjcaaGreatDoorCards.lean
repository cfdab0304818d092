/-
  DERIVED. GIVEN WITH THE SEED: THE CARDS: each row of YtjhimmljanbjcaaGreatDoorRows.lean that lists a variable, with what it lists TIED to the program's text (the seventh form; the later family's looks); each row that meets fmt, with fmt's text TOLD by the authors' own Lean function (tested against real Go, not proved from fmt's source: count such statements apart). THE CARD IS WHAT COUNTS. Prove the row's statement (the work); the ties are given (YtjhimmljanbjcaaGreatDoorTie.lean); close each card by the builder's one call (the guide's Derived/Test/ToyasCard.lean, 'card_holds'). Laid BY PROGRAM, IN A SANDBOX (cutbox-door.mjs). By AI agents, Wed Nov 11 2026. No macro, syntax, notation, axiom, sorry.
-/
import Derived.Test.YtjhimmljanbjcaaGreatDoorRows
import GoSem.ClaimSeven
namespace Go.Proofs.YtjhimmljanbjcaaGreatDoor
namespace Rows

/-- THE TIED CARD OF 'sievelaw14.PolicyChecks'. -/
def policyChecksCard : Claim7 := { stood := { row := policyChecksRow, standIns := [], harness := (true, "7edeb85d5eae04833c4dd4cbb32ffbe76e45ebde1ed91c9b83fe494b0057a572"), looks := false }, kinds := [], alts := [], laidByText := true, laidKinds := [.data, .data, .data, .listed, .data, .data], laidTests := true, laidLooks := .later }
def PolicyChecksCardSaid : Prop := Claim7.holds Tryz.pinned (.plain (OpenSpec.ofChange policyChecksSpec)) policyChecksCard

/-- THE TIED CARD OF 'sievelaw14.PolicyPresets'. -/
def policyPresetsCard : Claim7 := { stood := { row := policyPresetsRow, standIns := [], harness := (true, "7edeb85d5eae04833c4dd4cbb32ffbe76e45ebde1ed91c9b83fe494b0057a572"), looks := false }, kinds := [], alts := [], laidByText := true, laidKinds := [.data, .data, .data, .listed, .data, .data], laidTests := true, laidLooks := .later }
def PolicyPresetsCardSaid : Prop := Claim7.holds Tryz.pinned (.plain (OpenSpec.ofChange policyPresetsSpec)) policyPresetsCard

/-- THE TIED CARD OF 'sievelaw14.PolicyAsks'. -/
def policyAsksCard : Claim7 := { stood := { row := policyAsksRow, standIns := [], harness := (true, "7edeb85d5eae04833c4dd4cbb32ffbe76e45ebde1ed91c9b83fe494b0057a572"), looks := false }, kinds := [], alts := [], laidByText := true, laidKinds := [.data, .data, .data, .listed, .data, .data], laidTests := true, laidLooks := .later }
def PolicyAsksCardSaid : Prop := Claim7.holds Tryz.pinned (.plain (OpenSpec.ofChange policyAsksSpec)) policyAsksCard

/-- THE TIED CARD OF 'sievelaw14.PolicyShut'. -/
def policyShutCard : Claim7 := { stood := { row := policyShutRow, standIns := [], harness := (true, "7edeb85d5eae04833c4dd4cbb32ffbe76e45ebde1ed91c9b83fe494b0057a572"), looks := false }, kinds := [], alts := [], laidByText := true, laidKinds := [.data, .data, .data, .listed, .data, .data], laidTests := true, laidLooks := .later }
def PolicyShutCardSaid : Prop := Claim7.holds Tryz.pinned (.plain (OpenSpec.ofChange policyShutSpec)) policyShutCard

/-- THE TIED CARD OF 'sievelaw14.PolicyPairs'. -/
def policyPairsCard : Claim7 := { stood := { row := policyPairsRow, standIns := [], harness := (true, "7edeb85d5eae04833c4dd4cbb32ffbe76e45ebde1ed91c9b83fe494b0057a572"), looks := false }, kinds := [], alts := [], laidByText := true, laidKinds := [.data, .data, .data, .listed, .data, .data], laidTests := true, laidLooks := .later }
def PolicyPairsCardSaid : Prop := Claim7.holds Tryz.pinned (.plain (OpenSpec.ofChange policyPairsSpec)) policyPairsCard

/-- THE TIED CARD OF 'sievelaw14.PolicyOrder'. -/
def policyOrderCard : Claim7 := { stood := { row := policyOrderRow, standIns := [], harness := (true, "7edeb85d5eae04833c4dd4cbb32ffbe76e45ebde1ed91c9b83fe494b0057a572"), looks := false }, kinds := [], alts := [], laidByText := true, laidKinds := [.data, .data, .data, .listed, .data, .data], laidTests := true, laidLooks := .later }
def PolicyOrderCardSaid : Prop := Claim7.holds Tryz.pinned (.plain (OpenSpec.ofChange policyOrderSpec)) policyOrderCard

/-- THE TIED CARD OF 'sievelaw14.PolicyMeets'. -/
def policyMeetsCard : Claim7 := { stood := { row := policyMeetsRow, standIns := [], harness := (true, "7edeb85d5eae04833c4dd4cbb32ffbe76e45ebde1ed91c9b83fe494b0057a572"), looks := false }, kinds := [], alts := [], laidByText := true, laidKinds := [.data, .data, .data, .listed, .data, .data], laidTests := true, laidLooks := .later }
def PolicyMeetsCardSaid : Prop := Claim7.holds Tryz.pinned (.plain (OpenSpec.ofChange policyMeetsSpec)) policyMeetsCard

/-- THE TIED CARD OF 'sievelaw14.PolicyBoth'. -/
def policyBothCard : Claim7 := { stood := { row := policyBothRow, standIns := [], harness := (true, "7edeb85d5eae04833c4dd4cbb32ffbe76e45ebde1ed91c9b83fe494b0057a572"), looks := false }, kinds := [], alts := [], laidByText := true, laidKinds := [.data, .data, .data, .listed, .data, .data], laidTests := true, laidLooks := .later }
def PolicyBothCardSaid : Prop := Claim7.holds Tryz.pinned (.plain (OpenSpec.ofChange policyBothSpec)) policyBothCard

/-- THE TIED CARD OF 'sievelaw14.PolicyParses'. -/
def policyParsesCard : Claim7 := { stood := { row := policyParsesRow, standIns := [], harness := (true, "7edeb85d5eae04833c4dd4cbb32ffbe76e45ebde1ed91c9b83fe494b0057a572"), looks := false }, kinds := [], alts := [], laidByText := true, laidKinds := [.data, .data, .data, .data, .listed, .data, .data, .pinned], laidTests := true, laidLooks := .later }
def PolicyParsesCardSaid : Prop := Claim7.holds Tryz.pinned (.plain (OpenSpec.ofChange policyParsesSpec)) policyParsesCard

/-- THE SECOND FORM's CARD OF 'sievelaw14.PolicyChecks'. -/
def policyChecksUptoCard : Claim7 := { stood := { row := policyChecksUptoRow, standIns := [], harness := (true, "7edeb85d5eae04833c4dd4cbb32ffbe76e45ebde1ed91c9b83fe494b0057a572"), looks := false }, kinds := [], alts := [], laidByText := true, laidKinds := [.data, .data, .data, .listed, .data, .data], laidTests := true, laidLooks := .later }
def PolicyChecksUptoCardSaid : Prop := Claim7.holds Tryz.pinned (.plain (OpenSpec.upto policyChecksSpec)) policyChecksUptoCard

/-- THE SECOND FORM's CARD OF 'sievelaw14.PolicyPresets'. -/
def policyPresetsUptoCard : Claim7 := { stood := { row := policyPresetsUptoRow, standIns := [], harness := (true, "7edeb85d5eae04833c4dd4cbb32ffbe76e45ebde1ed91c9b83fe494b0057a572"), looks := false }, kinds := [], alts := [], laidByText := true, laidKinds := [.data, .data, .data, .listed, .data, .data], laidTests := true, laidLooks := .later }
def PolicyPresetsUptoCardSaid : Prop := Claim7.holds Tryz.pinned (.plain (OpenSpec.upto policyPresetsSpec)) policyPresetsUptoCard

/-- THE SECOND FORM's CARD OF 'sievelaw14.PolicyAsks'. -/
def policyAsksUptoCard : Claim7 := { stood := { row := policyAsksUptoRow, standIns := [], harness := (true, "7edeb85d5eae04833c4dd4cbb32ffbe76e45ebde1ed91c9b83fe494b0057a572"), looks := false }, kinds := [], alts := [], laidByText := true, laidKinds := [.data, .data, .data, .listed, .data, .data], laidTests := true, laidLooks := .later }
def PolicyAsksUptoCardSaid : Prop := Claim7.holds Tryz.pinned (.plain (OpenSpec.upto policyAsksSpec)) policyAsksUptoCard

/-- THE SECOND FORM's CARD OF 'sievelaw14.PolicyShut'. -/
def policyShutUptoCard : Claim7 := { stood := { row := policyShutUptoRow, standIns := [], harness := (true, "7edeb85d5eae04833c4dd4cbb32ffbe76e45ebde1ed91c9b83fe494b0057a572"), looks := false }, kinds := [], alts := [], laidByText := true, laidKinds := [.data, .data, .data, .listed, .data, .data], laidTests := true, laidLooks := .later }
def PolicyShutUptoCardSaid : Prop := Claim7.holds Tryz.pinned (.plain (OpenSpec.upto policyShutSpec)) policyShutUptoCard

/-- THE SECOND FORM's CARD OF 'sievelaw14.PolicyPairs'. -/
def policyPairsUptoCard : Claim7 := { stood := { row := policyPairsUptoRow, standIns := [], harness := (true, "7edeb85d5eae04833c4dd4cbb32ffbe76e45ebde1ed91c9b83fe494b0057a572"), looks := false }, kinds := [], alts := [], laidByText := true, laidKinds := [.data, .data, .data, .listed, .data, .data], laidTests := true, laidLooks := .later }
def PolicyPairsUptoCardSaid : Prop := Claim7.holds Tryz.pinned (.plain (OpenSpec.upto policyPairsSpec)) policyPairsUptoCard

/-- THE SECOND FORM's CARD OF 'sievelaw14.PolicyOrder'. -/
def policyOrderUptoCard : Claim7 := { stood := { row := policyOrderUptoRow, standIns := [], harness := (true, "7edeb85d5eae04833c4dd4cbb32ffbe76e45ebde1ed91c9b83fe494b0057a572"), looks := false }, kinds := [], alts := [], laidByText := true, laidKinds := [.data, .data, .data, .listed, .data, .data], laidTests := true, laidLooks := .later }
def PolicyOrderUptoCardSaid : Prop := Claim7.holds Tryz.pinned (.plain (OpenSpec.upto policyOrderSpec)) policyOrderUptoCard

/-- THE SECOND FORM's CARD OF 'sievelaw14.PolicyMeets'. -/
def policyMeetsUptoCard : Claim7 := { stood := { row := policyMeetsUptoRow, standIns := [], harness := (true, "7edeb85d5eae04833c4dd4cbb32ffbe76e45ebde1ed91c9b83fe494b0057a572"), looks := false }, kinds := [], alts := [], laidByText := true, laidKinds := [.data, .data, .data, .listed, .data, .data], laidTests := true, laidLooks := .later }
def PolicyMeetsUptoCardSaid : Prop := Claim7.holds Tryz.pinned (.plain (OpenSpec.upto policyMeetsSpec)) policyMeetsUptoCard

/-- THE SECOND FORM's CARD OF 'sievelaw14.PolicyBoth'. -/
def policyBothUptoCard : Claim7 := { stood := { row := policyBothUptoRow, standIns := [], harness := (true, "7edeb85d5eae04833c4dd4cbb32ffbe76e45ebde1ed91c9b83fe494b0057a572"), looks := false }, kinds := [], alts := [], laidByText := true, laidKinds := [.data, .data, .data, .listed, .data, .data], laidTests := true, laidLooks := .later }
def PolicyBothUptoCardSaid : Prop := Claim7.holds Tryz.pinned (.plain (OpenSpec.upto policyBothSpec)) policyBothUptoCard

/-- THE SECOND FORM's CARD OF 'sievelaw14.PolicyParses'. -/
def policyParsesUptoCard : Claim7 := { stood := { row := policyParsesUptoRow, standIns := [], harness := (true, "7edeb85d5eae04833c4dd4cbb32ffbe76e45ebde1ed91c9b83fe494b0057a572"), looks := false }, kinds := [], alts := [], laidByText := true, laidKinds := [.data, .data, .data, .data, .listed, .data, .data, .pinned], laidTests := true, laidLooks := .later }
def PolicyParsesUptoCardSaid : Prop := Claim7.holds Tryz.pinned (.plain (OpenSpec.upto policyParsesSpec)) policyParsesUptoCard
end Rows
end Go.Proofs.YtjhimmljanbjcaaGreatDoor
