/-
  DERIVED. GIVEN WITH THE SEED: THE CARDS: each row of YtejpdbiiikcmmaaGreatDoorRows.lean that lists a variable, with what it lists TIED to the program's text (the seventh form; the later family's looks); each row that meets fmt, with fmt's text TOLD by the authors' own Lean function (tested against real Go, not proved from fmt's source: count such statements apart). THE CARD IS WHAT COUNTS. Prove the row's statement (the work); the ties are given (YtejpdbiiikcmmaaGreatDoorTie.lean); close each card by the builder's one call (the guide's Derived/Test/ToyasCard.lean, 'card_holds'). Laid BY PROGRAM, IN A SANDBOX (cutbox-door.mjs). By AI agents, Wed Nov 11 2026. No macro, syntax, notation, axiom, sorry.
-/
import Derived.Test.YtejpdbiiikcmmaaGreatDoorRows
import GoSem.ClaimSeven
namespace Go.Proofs.YtejpdbiiikcmmaaGreatDoor
namespace Rows

/-- THE TIED CARD OF 'sievelaw15.FilterNames'. -/
def filterNamesCard : Claim7 := { stood := { row := filterNamesRow, standIns := [], harness := (true, "8cc09c8000075d2989954dcc4a5bc7d37b2f0892abfb099b3bd78cfc214b73ad"), looks := false }, kinds := [], alts := [], laidByText := true, laidKinds := [.data, .listed, .data, .data, .pinned], laidTests := true, laidLooks := .later }
def FilterNamesCardSaid : Prop := Claim7.holds Tryz.pinned (.plain (OpenSpec.ofChange filterNamesSpec)) filterNamesCard

/-- THE TIED CARD OF 'sievelaw15.FilterAll'. -/
def filterAllCard : Claim7 := { stood := { row := filterAllRow, standIns := [], harness := (true, "8cc09c8000075d2989954dcc4a5bc7d37b2f0892abfb099b3bd78cfc214b73ad"), looks := false }, kinds := [], alts := [], laidByText := true, laidKinds := [.data, .listed, .data, .data, .pinned], laidTests := true, laidLooks := .later }
def FilterAllCardSaid : Prop := Claim7.holds Tryz.pinned (.plain (OpenSpec.ofChange filterAllSpec)) filterAllCard

/-- THE TIED CARD OF 'sievelaw15.FilterStays'. -/
def filterStaysCard : Claim7 := { stood := { row := filterStaysRow, standIns := [], harness := (true, "8cc09c8000075d2989954dcc4a5bc7d37b2f0892abfb099b3bd78cfc214b73ad"), looks := false }, kinds := [], alts := [], laidByText := true, laidKinds := [.data, .listed, .data, .data, .pinned], laidTests := true, laidLooks := .later }
def FilterStaysCardSaid : Prop := Claim7.holds Tryz.pinned (.plain (OpenSpec.ofChange filterStaysSpec)) filterStaysCard

/-- THE TIED CARD OF 'sievelaw15.FilterOwn'. -/
def filterOwnCard : Claim7 := { stood := { row := filterOwnRow, standIns := [], harness := (true, "8cc09c8000075d2989954dcc4a5bc7d37b2f0892abfb099b3bd78cfc214b73ad"), looks := false }, kinds := [], alts := [], laidByText := true, laidKinds := [.data, .listed, .data, .data, .pinned], laidTests := true, laidLooks := .later }
def FilterOwnCardSaid : Prop := Claim7.holds Tryz.pinned (.plain (OpenSpec.ofChange filterOwnSpec)) filterOwnCard

/-- THE TIED CARD OF 'sievelaw15.FilterTakes'. -/
def filterTakesCard : Claim7 := { stood := { row := filterTakesRow, standIns := [], harness := (true, "8cc09c8000075d2989954dcc4a5bc7d37b2f0892abfb099b3bd78cfc214b73ad"), looks := false }, kinds := [], alts := [], laidByText := true, laidKinds := [.data, .listed, .data, .data, .pinned], laidTests := true, laidLooks := .later }
def FilterTakesCardSaid : Prop := Claim7.holds Tryz.pinned (.plain (OpenSpec.ofChange filterTakesSpec)) filterTakesCard

/-- THE TIED CARD OF 'sievelaw15.FilterNone'. -/
def filterNoneCard : Claim7 := { stood := { row := filterNoneRow, standIns := [], harness := (true, "8cc09c8000075d2989954dcc4a5bc7d37b2f0892abfb099b3bd78cfc214b73ad"), looks := false }, kinds := [], alts := [], laidByText := true, laidKinds := [.data, .listed, .data, .data, .pinned], laidTests := true, laidLooks := .later }
def FilterNoneCardSaid : Prop := Claim7.holds Tryz.pinned (.plain (OpenSpec.ofChange filterNoneSpec)) filterNoneCard

/-- THE TIED CARD OF 'sievelaw14.PolicyPairs'. -/
def policyPairsCard : Claim7 := { stood := { row := policyPairsRow, standIns := [], harness := (true, "8cc09c8000075d2989954dcc4a5bc7d37b2f0892abfb099b3bd78cfc214b73ad"), looks := false }, kinds := [], alts := [], laidByText := true, laidKinds := [.data, .data, .data, .listed, .data, .data], laidTests := true, laidLooks := .later }
def PolicyPairsCardSaid : Prop := Claim7.holds Tryz.pinned (.plain (OpenSpec.ofChange policyPairsSpec)) policyPairsCard

/-- THE TIED CARD OF 'sievelaw14.PolicyOrder'. -/
def policyOrderCard : Claim7 := { stood := { row := policyOrderRow, standIns := [], harness := (true, "8cc09c8000075d2989954dcc4a5bc7d37b2f0892abfb099b3bd78cfc214b73ad"), looks := false }, kinds := [], alts := [], laidByText := true, laidKinds := [.data, .data, .data, .listed, .data, .data], laidTests := true, laidLooks := .later }
def PolicyOrderCardSaid : Prop := Claim7.holds Tryz.pinned (.plain (OpenSpec.ofChange policyOrderSpec)) policyOrderCard

/-- THE TIED CARD OF 'sievelaw14.PolicyMeets'. -/
def policyMeetsCard : Claim7 := { stood := { row := policyMeetsRow, standIns := [], harness := (true, "8cc09c8000075d2989954dcc4a5bc7d37b2f0892abfb099b3bd78cfc214b73ad"), looks := false }, kinds := [], alts := [], laidByText := true, laidKinds := [.data, .data, .data, .listed, .data, .data], laidTests := true, laidLooks := .later }
def PolicyMeetsCardSaid : Prop := Claim7.holds Tryz.pinned (.plain (OpenSpec.ofChange policyMeetsSpec)) policyMeetsCard

/-- THE TIED CARD OF 'sievelaw14.PolicyBoth'. -/
def policyBothCard : Claim7 := { stood := { row := policyBothRow, standIns := [], harness := (true, "8cc09c8000075d2989954dcc4a5bc7d37b2f0892abfb099b3bd78cfc214b73ad"), looks := false }, kinds := [], alts := [], laidByText := true, laidKinds := [.data, .data, .data, .listed, .data, .data], laidTests := true, laidLooks := .later }
def PolicyBothCardSaid : Prop := Claim7.holds Tryz.pinned (.plain (OpenSpec.ofChange policyBothSpec)) policyBothCard

/-- THE SECOND FORM's CARD OF 'sievelaw15.FilterNames'. -/
def filterNamesUptoCard : Claim7 := { stood := { row := filterNamesUptoRow, standIns := [], harness := (true, "8cc09c8000075d2989954dcc4a5bc7d37b2f0892abfb099b3bd78cfc214b73ad"), looks := false }, kinds := [], alts := [], laidByText := true, laidKinds := [.data, .listed, .data, .data, .pinned], laidTests := true, laidLooks := .later }
def FilterNamesUptoCardSaid : Prop := Claim7.holds Tryz.pinned (.plain (OpenSpec.upto filterNamesSpec)) filterNamesUptoCard

/-- THE SECOND FORM's CARD OF 'sievelaw15.FilterAll'. -/
def filterAllUptoCard : Claim7 := { stood := { row := filterAllUptoRow, standIns := [], harness := (true, "8cc09c8000075d2989954dcc4a5bc7d37b2f0892abfb099b3bd78cfc214b73ad"), looks := false }, kinds := [], alts := [], laidByText := true, laidKinds := [.data, .listed, .data, .data, .pinned], laidTests := true, laidLooks := .later }
def FilterAllUptoCardSaid : Prop := Claim7.holds Tryz.pinned (.plain (OpenSpec.upto filterAllSpec)) filterAllUptoCard

/-- THE SECOND FORM's CARD OF 'sievelaw15.FilterStays'. -/
def filterStaysUptoCard : Claim7 := { stood := { row := filterStaysUptoRow, standIns := [], harness := (true, "8cc09c8000075d2989954dcc4a5bc7d37b2f0892abfb099b3bd78cfc214b73ad"), looks := false }, kinds := [], alts := [], laidByText := true, laidKinds := [.data, .listed, .data, .data, .pinned], laidTests := true, laidLooks := .later }
def FilterStaysUptoCardSaid : Prop := Claim7.holds Tryz.pinned (.plain (OpenSpec.upto filterStaysSpec)) filterStaysUptoCard

/-- THE SECOND FORM's CARD OF 'sievelaw15.FilterOwn'. -/
def filterOwnUptoCard : Claim7 := { stood := { row := filterOwnUptoRow, standIns := [], harness := (true, "8cc09c8000075d2989954dcc4a5bc7d37b2f0892abfb099b3bd78cfc214b73ad"), looks := false }, kinds := [], alts := [], laidByText := true, laidKinds := [.data, .listed, .data, .data, .pinned], laidTests := true, laidLooks := .later }
def FilterOwnUptoCardSaid : Prop := Claim7.holds Tryz.pinned (.plain (OpenSpec.upto filterOwnSpec)) filterOwnUptoCard

/-- THE SECOND FORM's CARD OF 'sievelaw15.FilterTakes'. -/
def filterTakesUptoCard : Claim7 := { stood := { row := filterTakesUptoRow, standIns := [], harness := (true, "8cc09c8000075d2989954dcc4a5bc7d37b2f0892abfb099b3bd78cfc214b73ad"), looks := false }, kinds := [], alts := [], laidByText := true, laidKinds := [.data, .listed, .data, .data, .pinned], laidTests := true, laidLooks := .later }
def FilterTakesUptoCardSaid : Prop := Claim7.holds Tryz.pinned (.plain (OpenSpec.upto filterTakesSpec)) filterTakesUptoCard

/-- THE SECOND FORM's CARD OF 'sievelaw15.FilterNone'. -/
def filterNoneUptoCard : Claim7 := { stood := { row := filterNoneUptoRow, standIns := [], harness := (true, "8cc09c8000075d2989954dcc4a5bc7d37b2f0892abfb099b3bd78cfc214b73ad"), looks := false }, kinds := [], alts := [], laidByText := true, laidKinds := [.data, .listed, .data, .data, .pinned], laidTests := true, laidLooks := .later }
def FilterNoneUptoCardSaid : Prop := Claim7.holds Tryz.pinned (.plain (OpenSpec.upto filterNoneSpec)) filterNoneUptoCard

/-- THE SECOND FORM's CARD OF 'sievelaw14.PolicyPairs'. -/
def policyPairsUptoCard : Claim7 := { stood := { row := policyPairsUptoRow, standIns := [], harness := (true, "8cc09c8000075d2989954dcc4a5bc7d37b2f0892abfb099b3bd78cfc214b73ad"), looks := false }, kinds := [], alts := [], laidByText := true, laidKinds := [.data, .data, .data, .listed, .data, .data], laidTests := true, laidLooks := .later }
def PolicyPairsUptoCardSaid : Prop := Claim7.holds Tryz.pinned (.plain (OpenSpec.upto policyPairsSpec)) policyPairsUptoCard

/-- THE SECOND FORM's CARD OF 'sievelaw14.PolicyOrder'. -/
def policyOrderUptoCard : Claim7 := { stood := { row := policyOrderUptoRow, standIns := [], harness := (true, "8cc09c8000075d2989954dcc4a5bc7d37b2f0892abfb099b3bd78cfc214b73ad"), looks := false }, kinds := [], alts := [], laidByText := true, laidKinds := [.data, .data, .data, .listed, .data, .data], laidTests := true, laidLooks := .later }
def PolicyOrderUptoCardSaid : Prop := Claim7.holds Tryz.pinned (.plain (OpenSpec.upto policyOrderSpec)) policyOrderUptoCard

/-- THE SECOND FORM's CARD OF 'sievelaw14.PolicyMeets'. -/
def policyMeetsUptoCard : Claim7 := { stood := { row := policyMeetsUptoRow, standIns := [], harness := (true, "8cc09c8000075d2989954dcc4a5bc7d37b2f0892abfb099b3bd78cfc214b73ad"), looks := false }, kinds := [], alts := [], laidByText := true, laidKinds := [.data, .data, .data, .listed, .data, .data], laidTests := true, laidLooks := .later }
def PolicyMeetsUptoCardSaid : Prop := Claim7.holds Tryz.pinned (.plain (OpenSpec.upto policyMeetsSpec)) policyMeetsUptoCard

/-- THE SECOND FORM's CARD OF 'sievelaw14.PolicyBoth'. -/
def policyBothUptoCard : Claim7 := { stood := { row := policyBothUptoRow, standIns := [], harness := (true, "8cc09c8000075d2989954dcc4a5bc7d37b2f0892abfb099b3bd78cfc214b73ad"), looks := false }, kinds := [], alts := [], laidByText := true, laidKinds := [.data, .data, .data, .listed, .data, .data], laidTests := true, laidLooks := .later }
def PolicyBothUptoCardSaid : Prop := Claim7.holds Tryz.pinned (.plain (OpenSpec.upto policyBothSpec)) policyBothUptoCard
end Rows
end Go.Proofs.YtejpdbiiikcmmaaGreatDoor
