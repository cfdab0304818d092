/-
  DERIVED. GIVEN WITH THE SEED: THE CARDS: each row of YtknpppppjmhomaaDoorRows.lean that lists a variable, with what it lists TIED to the program's text (the seventh form; the later family's looks); each row that meets fmt, with fmt's text TOLD by the authors' own Lean function (tested against real Go, not proved from fmt's source: count such statements apart). THE CARD IS WHAT COUNTS. Prove the row's statement (the work); the ties are given (YtknpppppjmhomaaDoorTie.lean); close each card by the builder's one call (the guide's Derived/Test/ToyasCard.lean, 'card_holds'). Laid BY PROGRAM, IN A SANDBOX (cutbox-door.mjs). By AI agents, Wed Nov 11 2026. No macro, syntax, notation, axiom, sorry.
-/
import Derived.Test.YtknpppppjmhomaaDoorRows
import GoSem.ClaimSeven
namespace Go.Proofs.YtknpppppjmhomaaDoor
namespace Rows

/-- THE TIED CARD OF 'sievelaw04.NamesNames'. -/
def namesNamesCard : Claim7 := { stood := { row := namesNamesRow, standIns := [], harness := (true, "a1b24b7c8d47f962f13b57085556d855f87a791e3e48bee8e2833d7893d675e2"), looks := false }, kinds := [], alts := [], laidByText := true, laidKinds := [.listed, .data], laidTests := true, laidLooks := .later }
def NamesNamesCardSaid : Prop := Claim7.holds Tryd.pinned (.plain (OpenSpec.ofChange namesNamesSpec)) namesNamesCard

/-- THE TIED CARD OF 'sievelaw04.NamesFields'. -/
def namesFieldsCard : Claim7 := { stood := { row := namesFieldsRow, standIns := [], harness := (true, "a1b24b7c8d47f962f13b57085556d855f87a791e3e48bee8e2833d7893d675e2"), looks := false }, kinds := [], alts := [], laidByText := true, laidKinds := [.listed, .data], laidTests := true, laidLooks := .later }
def NamesFieldsCardSaid : Prop := Claim7.holds Tryd.pinned (.plain (OpenSpec.ofChange namesFieldsSpec)) namesFieldsCard

/-- THE TIED CARD OF 'sievelaw04.NamesTexts'. -/
def namesTextsCard : Claim7 := { stood := { row := namesTextsRow, standIns := [], harness := (true, "a1b24b7c8d47f962f13b57085556d855f87a791e3e48bee8e2833d7893d675e2"), looks := false }, kinds := [], alts := [], laidByText := true, laidKinds := [.listed, .data], laidTests := true, laidLooks := .later }
def NamesTextsCardSaid : Prop := Claim7.holds Tryd.pinned (.plain (OpenSpec.ofChange namesTextsSpec)) namesTextsCard

/-- THE TIED CARD OF 'sievelaw04.NamesClasses'. -/
def namesClassesCard : Claim7 := { stood := { row := namesClassesRow, standIns := [], harness := (true, "a1b24b7c8d47f962f13b57085556d855f87a791e3e48bee8e2833d7893d675e2"), looks := false }, kinds := [], alts := [], laidByText := true, laidKinds := [.listed, .data], laidTests := true, laidLooks := .later }
def NamesClassesCardSaid : Prop := Claim7.holds Tryd.pinned (.plain (OpenSpec.ofChange namesClassesSpec)) namesClassesCard

/-- THE TIED CARD OF 'sievelaw04.NamesLower'. -/
def namesLowerCard : Claim7 := { stood := { row := namesLowerRow, standIns := [], harness := (true, "a1b24b7c8d47f962f13b57085556d855f87a791e3e48bee8e2833d7893d675e2"), looks := false }, kinds := [], alts := [], laidByText := true, laidKinds := [.listed, .data], laidTests := true, laidLooks := .later }
def NamesLowerCardSaid : Prop := Claim7.holds Tryd.pinned (.plain (OpenSpec.ofChange namesLowerSpec)) namesLowerCard

/-- THE TIED CARD OF 'sievelaw04.NamesForms'. -/
def namesFormsCard : Claim7 := { stood := { row := namesFormsRow, standIns := [], harness := (true, "a1b24b7c8d47f962f13b57085556d855f87a791e3e48bee8e2833d7893d675e2"), looks := false }, kinds := [], alts := [], laidByText := true, laidKinds := [.listed, .data], laidTests := true, laidLooks := .later }
def NamesFormsCardSaid : Prop := Claim7.holds Tryd.pinned (.plain (OpenSpec.ofChange namesFormsSpec)) namesFormsCard

/-- THE TIED CARD OF 'sievelaw04.NamesSets'. -/
def namesSetsCard : Claim7 := { stood := { row := namesSetsRow, standIns := [], harness := (true, "a1b24b7c8d47f962f13b57085556d855f87a791e3e48bee8e2833d7893d675e2"), looks := false }, kinds := [], alts := [], laidByText := true, laidKinds := [.listed, .data], laidTests := true, laidLooks := .later }
def NamesSetsCardSaid : Prop := Claim7.holds Tryd.pinned (.plain (OpenSpec.ofChange namesSetsSpec)) namesSetsCard

/-- THE TIED CARD OF 'sievelaw04.NamesKnown'. -/
def namesKnownCard : Claim7 := { stood := { row := namesKnownRow, standIns := [], harness := (true, "a1b24b7c8d47f962f13b57085556d855f87a791e3e48bee8e2833d7893d675e2"), looks := false }, kinds := [], alts := [], laidByText := true, laidKinds := [.listed, .data], laidTests := true, laidLooks := .later }
def NamesKnownCardSaid : Prop := Claim7.holds Tryd.pinned (.plain (OpenSpec.ofChange namesKnownSpec)) namesKnownCard

/-- THE TIED CARD OF 'sievelaw04.NamesNear'. -/
def namesNearCard : Claim7 := { stood := { row := namesNearRow, standIns := [], harness := (true, "a1b24b7c8d47f962f13b57085556d855f87a791e3e48bee8e2833d7893d675e2"), looks := false }, kinds := [], alts := [], laidByText := true, laidKinds := [.listed, .data], laidTests := true, laidLooks := .later }
def NamesNearCardSaid : Prop := Claim7.holds Tryd.pinned (.plain (OpenSpec.ofChange namesNearSpec)) namesNearCard

/-- THE TIED CARD OF 'sievelaw04.NamesWithin'. -/
def namesWithinCard : Claim7 := { stood := { row := namesWithinRow, standIns := [], harness := (true, "a1b24b7c8d47f962f13b57085556d855f87a791e3e48bee8e2833d7893d675e2"), looks := false }, kinds := [], alts := [], laidByText := true, laidKinds := [.listed, .data], laidTests := true, laidLooks := .later }
def NamesWithinCardSaid : Prop := Claim7.holds Tryd.pinned (.plain (OpenSpec.ofChange namesWithinSpec)) namesWithinCard

/-- THE TIED CARD OF 'sievelaw04.NamesApart'. -/
def namesApartCard : Claim7 := { stood := { row := namesApartRow, standIns := [], harness := (true, "a1b24b7c8d47f962f13b57085556d855f87a791e3e48bee8e2833d7893d675e2"), looks := false }, kinds := [], alts := [], laidByText := true, laidKinds := [.listed, .data], laidTests := true, laidLooks := .later }
def NamesApartCardSaid : Prop := Claim7.holds Tryd.pinned (.plain (OpenSpec.ofChange namesApartSpec)) namesApartCard

/-- THE SECOND FORM's CARD OF 'sievelaw04.NamesNames'. -/
def namesNamesUptoCard : Claim7 := { stood := { row := namesNamesUptoRow, standIns := [], harness := (true, "a1b24b7c8d47f962f13b57085556d855f87a791e3e48bee8e2833d7893d675e2"), looks := false }, kinds := [], alts := [], laidByText := true, laidKinds := [.listed, .data], laidTests := true, laidLooks := .later }
def NamesNamesUptoCardSaid : Prop := Claim7.holds Tryd.pinned (.plain (OpenSpec.upto namesNamesSpec)) namesNamesUptoCard

/-- THE SECOND FORM's CARD OF 'sievelaw04.NamesFields'. -/
def namesFieldsUptoCard : Claim7 := { stood := { row := namesFieldsUptoRow, standIns := [], harness := (true, "a1b24b7c8d47f962f13b57085556d855f87a791e3e48bee8e2833d7893d675e2"), looks := false }, kinds := [], alts := [], laidByText := true, laidKinds := [.listed, .data], laidTests := true, laidLooks := .later }
def NamesFieldsUptoCardSaid : Prop := Claim7.holds Tryd.pinned (.plain (OpenSpec.upto namesFieldsSpec)) namesFieldsUptoCard

/-- THE SECOND FORM's CARD OF 'sievelaw04.NamesTexts'. -/
def namesTextsUptoCard : Claim7 := { stood := { row := namesTextsUptoRow, standIns := [], harness := (true, "a1b24b7c8d47f962f13b57085556d855f87a791e3e48bee8e2833d7893d675e2"), looks := false }, kinds := [], alts := [], laidByText := true, laidKinds := [.listed, .data], laidTests := true, laidLooks := .later }
def NamesTextsUptoCardSaid : Prop := Claim7.holds Tryd.pinned (.plain (OpenSpec.upto namesTextsSpec)) namesTextsUptoCard

/-- THE SECOND FORM's CARD OF 'sievelaw04.NamesClasses'. -/
def namesClassesUptoCard : Claim7 := { stood := { row := namesClassesUptoRow, standIns := [], harness := (true, "a1b24b7c8d47f962f13b57085556d855f87a791e3e48bee8e2833d7893d675e2"), looks := false }, kinds := [], alts := [], laidByText := true, laidKinds := [.listed, .data], laidTests := true, laidLooks := .later }
def NamesClassesUptoCardSaid : Prop := Claim7.holds Tryd.pinned (.plain (OpenSpec.upto namesClassesSpec)) namesClassesUptoCard

/-- THE SECOND FORM's CARD OF 'sievelaw04.NamesLower'. -/
def namesLowerUptoCard : Claim7 := { stood := { row := namesLowerUptoRow, standIns := [], harness := (true, "a1b24b7c8d47f962f13b57085556d855f87a791e3e48bee8e2833d7893d675e2"), looks := false }, kinds := [], alts := [], laidByText := true, laidKinds := [.listed, .data], laidTests := true, laidLooks := .later }
def NamesLowerUptoCardSaid : Prop := Claim7.holds Tryd.pinned (.plain (OpenSpec.upto namesLowerSpec)) namesLowerUptoCard

/-- THE SECOND FORM's CARD OF 'sievelaw04.NamesForms'. -/
def namesFormsUptoCard : Claim7 := { stood := { row := namesFormsUptoRow, standIns := [], harness := (true, "a1b24b7c8d47f962f13b57085556d855f87a791e3e48bee8e2833d7893d675e2"), looks := false }, kinds := [], alts := [], laidByText := true, laidKinds := [.listed, .data], laidTests := true, laidLooks := .later }
def NamesFormsUptoCardSaid : Prop := Claim7.holds Tryd.pinned (.plain (OpenSpec.upto namesFormsSpec)) namesFormsUptoCard

/-- THE SECOND FORM's CARD OF 'sievelaw04.NamesSets'. -/
def namesSetsUptoCard : Claim7 := { stood := { row := namesSetsUptoRow, standIns := [], harness := (true, "a1b24b7c8d47f962f13b57085556d855f87a791e3e48bee8e2833d7893d675e2"), looks := false }, kinds := [], alts := [], laidByText := true, laidKinds := [.listed, .data], laidTests := true, laidLooks := .later }
def NamesSetsUptoCardSaid : Prop := Claim7.holds Tryd.pinned (.plain (OpenSpec.upto namesSetsSpec)) namesSetsUptoCard

/-- THE SECOND FORM's CARD OF 'sievelaw04.NamesKnown'. -/
def namesKnownUptoCard : Claim7 := { stood := { row := namesKnownUptoRow, standIns := [], harness := (true, "a1b24b7c8d47f962f13b57085556d855f87a791e3e48bee8e2833d7893d675e2"), looks := false }, kinds := [], alts := [], laidByText := true, laidKinds := [.listed, .data], laidTests := true, laidLooks := .later }
def NamesKnownUptoCardSaid : Prop := Claim7.holds Tryd.pinned (.plain (OpenSpec.upto namesKnownSpec)) namesKnownUptoCard

/-- THE SECOND FORM's CARD OF 'sievelaw04.NamesNear'. -/
def namesNearUptoCard : Claim7 := { stood := { row := namesNearUptoRow, standIns := [], harness := (true, "a1b24b7c8d47f962f13b57085556d855f87a791e3e48bee8e2833d7893d675e2"), looks := false }, kinds := [], alts := [], laidByText := true, laidKinds := [.listed, .data], laidTests := true, laidLooks := .later }
def NamesNearUptoCardSaid : Prop := Claim7.holds Tryd.pinned (.plain (OpenSpec.upto namesNearSpec)) namesNearUptoCard

/-- THE SECOND FORM's CARD OF 'sievelaw04.NamesWithin'. -/
def namesWithinUptoCard : Claim7 := { stood := { row := namesWithinUptoRow, standIns := [], harness := (true, "a1b24b7c8d47f962f13b57085556d855f87a791e3e48bee8e2833d7893d675e2"), looks := false }, kinds := [], alts := [], laidByText := true, laidKinds := [.listed, .data], laidTests := true, laidLooks := .later }
def NamesWithinUptoCardSaid : Prop := Claim7.holds Tryd.pinned (.plain (OpenSpec.upto namesWithinSpec)) namesWithinUptoCard

/-- THE SECOND FORM's CARD OF 'sievelaw04.NamesApart'. -/
def namesApartUptoCard : Claim7 := { stood := { row := namesApartUptoRow, standIns := [], harness := (true, "a1b24b7c8d47f962f13b57085556d855f87a791e3e48bee8e2833d7893d675e2"), looks := false }, kinds := [], alts := [], laidByText := true, laidKinds := [.listed, .data], laidTests := true, laidLooks := .later }
def NamesApartUptoCardSaid : Prop := Claim7.holds Tryd.pinned (.plain (OpenSpec.upto namesApartSpec)) namesApartUptoCard
end Rows
end Go.Proofs.YtknpppppjmhomaaDoor
