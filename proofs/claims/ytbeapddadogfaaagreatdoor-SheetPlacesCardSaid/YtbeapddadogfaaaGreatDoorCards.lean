/-
  DERIVED. GIVEN WITH THE SEED: THE CARDS: each row of YtbeapddadogfaaaGreatDoorRows.lean that lists a variable, with what it lists TIED to the program's text (the seventh form; the later family's looks); each row that meets fmt, with fmt's text TOLD by the authors' own Lean function (tested against real Go, not proved from fmt's source: count such statements apart). THE CARD IS WHAT COUNTS. Prove the row's statement (the work); the ties are given (YtbeapddadogfaaaGreatDoorTie.lean); close each card by the builder's one call (the guide's Derived/Test/ToyasCard.lean, 'card_holds'). Laid BY PROGRAM, IN A SANDBOX (cutbox-door.mjs). By AI agents, Wed Nov 11 2026. No macro, syntax, notation, axiom, sorry.
-/
import Derived.Test.YtbeapddadogfaaaGreatDoorRows
import GoSem.ClaimSeven
namespace Go.Proofs.YtbeapddadogfaaaGreatDoor
namespace Rows

/-- THE TIED CARD OF 'besomlaw02.SheetContacts'. -/
def sheetContactsCard : Claim7 := { stood := { row := sheetContactsRow, standIns := [], harness := (true, "b91b50dd9354176b5ae0be1a0f8c7efc4524d24e58637cb4280f11d648961253"), looks := true }, kinds := [], alts := [], laidByText := true, laidKinds := [.data, .data, .data, .data, .sentinel, .sentinel, .pinned], laidTests := true, laidLooks := .later }
def SheetContactsCardSaid : Prop := Claim7.holds Tryz.pinned (.plain (OpenSpec.ofChange sheetContactsSpec)) sheetContactsCard

/-- THE TIED CARD OF 'besomlaw02.SheetTexts'. -/
def sheetTextsCard : Claim7 := { stood := { row := sheetTextsRow, standIns := [], harness := (true, "b91b50dd9354176b5ae0be1a0f8c7efc4524d24e58637cb4280f11d648961253"), looks := true }, kinds := [], alts := [], laidByText := true, laidKinds := [.data, .data, .data, .data, .sentinel, .sentinel, .pinned], laidTests := true, laidLooks := .later }
def SheetTextsCardSaid : Prop := Claim7.holds Tryz.pinned (.plain (OpenSpec.ofChange sheetTextsSpec)) sheetTextsCard

/-- THE TIED CARD OF 'besomlaw02.SheetPlaces'. -/
def sheetPlacesCard : Claim7 := { stood := { row := sheetPlacesRow, standIns := [], harness := (true, "b91b50dd9354176b5ae0be1a0f8c7efc4524d24e58637cb4280f11d648961253"), looks := true }, kinds := [], alts := [], laidByText := true, laidKinds := [.data, .data, .data, .data, .sentinel, .sentinel, .pinned], laidTests := true, laidLooks := .later }
def SheetPlacesCardSaid : Prop := Claim7.holds Tryz.pinned (.plain (OpenSpec.ofChange sheetPlacesSpec)) sheetPlacesCard

/-- THE TIED CARD OF 'besomlaw02.SheetChecks'. -/
def sheetChecksCard : Claim7 := { stood := { row := sheetChecksRow, standIns := [], harness := (true, "b91b50dd9354176b5ae0be1a0f8c7efc4524d24e58637cb4280f11d648961253"), looks := true }, kinds := [], alts := [], laidByText := true, laidKinds := [.data, .data, .data, .data, .sentinel, .sentinel, .pinned], laidTests := true, laidLooks := .later }
def SheetChecksCardSaid : Prop := Claim7.holds Tryz.pinned (.plain (OpenSpec.ofChange sheetChecksSpec)) sheetChecksCard

/-- THE TIED CARD OF 'besomlaw02.SheetPoints'. -/
def sheetPointsCard : Claim7 := { stood := { row := sheetPointsRow, standIns := [], harness := (true, "b91b50dd9354176b5ae0be1a0f8c7efc4524d24e58637cb4280f11d648961253"), looks := true }, kinds := [], alts := [], laidByText := true, laidKinds := [.data, .data, .data, .data, .sentinel, .sentinel, .pinned], laidTests := true, laidLooks := .later }
def SheetPointsCardSaid : Prop := Claim7.holds Tryz.pinned (.plain (OpenSpec.ofChange sheetPointsSpec)) sheetPointsCard

/-- THE TIED CARD OF 'besomlaw02.SheetCounts'. -/
def sheetCountsCard : Claim7 := { stood := { row := sheetCountsRow, standIns := [], harness := (true, "b91b50dd9354176b5ae0be1a0f8c7efc4524d24e58637cb4280f11d648961253"), looks := true }, kinds := [], alts := [], laidByText := true, laidKinds := [.data, .data, .data, .data, .sentinel, .sentinel, .pinned], laidTests := true, laidLooks := .later }
def SheetCountsCardSaid : Prop := Claim7.holds Tryz.pinned (.plain (OpenSpec.ofChange sheetCountsSpec)) sheetCountsCard

/-- THE TIED CARD OF 'besomlaw02.SheetOwns'. -/
def sheetOwnsCard : Claim7 := { stood := { row := sheetOwnsRow, standIns := [], harness := (true, "b91b50dd9354176b5ae0be1a0f8c7efc4524d24e58637cb4280f11d648961253"), looks := true }, kinds := [], alts := [], laidByText := true, laidKinds := [.data, .data, .data, .data, .sentinel, .sentinel, .pinned], laidTests := true, laidLooks := .later }
def SheetOwnsCardSaid : Prop := Claim7.holds Tryz.pinned (.plain (OpenSpec.ofChange sheetOwnsSpec)) sheetOwnsCard

/-- THE SECOND FORM's CARD OF 'besomlaw02.SheetContacts'. -/
def sheetContactsUptoCard : Claim7 := { stood := { row := sheetContactsUptoRow, standIns := [], harness := (true, "b91b50dd9354176b5ae0be1a0f8c7efc4524d24e58637cb4280f11d648961253"), looks := true }, kinds := [], alts := [], laidByText := true, laidKinds := [.data, .data, .data, .data, .sentinel, .sentinel, .pinned], laidTests := true, laidLooks := .later }
def SheetContactsUptoCardSaid : Prop := Claim7.holds Tryz.pinned (.plain (OpenSpec.upto sheetContactsSpec)) sheetContactsUptoCard

/-- THE SECOND FORM's CARD OF 'besomlaw02.SheetTexts'. -/
def sheetTextsUptoCard : Claim7 := { stood := { row := sheetTextsUptoRow, standIns := [], harness := (true, "b91b50dd9354176b5ae0be1a0f8c7efc4524d24e58637cb4280f11d648961253"), looks := true }, kinds := [], alts := [], laidByText := true, laidKinds := [.data, .data, .data, .data, .sentinel, .sentinel, .pinned], laidTests := true, laidLooks := .later }
def SheetTextsUptoCardSaid : Prop := Claim7.holds Tryz.pinned (.plain (OpenSpec.upto sheetTextsSpec)) sheetTextsUptoCard

/-- THE SECOND FORM's CARD OF 'besomlaw02.SheetPlaces'. -/
def sheetPlacesUptoCard : Claim7 := { stood := { row := sheetPlacesUptoRow, standIns := [], harness := (true, "b91b50dd9354176b5ae0be1a0f8c7efc4524d24e58637cb4280f11d648961253"), looks := true }, kinds := [], alts := [], laidByText := true, laidKinds := [.data, .data, .data, .data, .sentinel, .sentinel, .pinned], laidTests := true, laidLooks := .later }
def SheetPlacesUptoCardSaid : Prop := Claim7.holds Tryz.pinned (.plain (OpenSpec.upto sheetPlacesSpec)) sheetPlacesUptoCard

/-- THE SECOND FORM's CARD OF 'besomlaw02.SheetChecks'. -/
def sheetChecksUptoCard : Claim7 := { stood := { row := sheetChecksUptoRow, standIns := [], harness := (true, "b91b50dd9354176b5ae0be1a0f8c7efc4524d24e58637cb4280f11d648961253"), looks := true }, kinds := [], alts := [], laidByText := true, laidKinds := [.data, .data, .data, .data, .sentinel, .sentinel, .pinned], laidTests := true, laidLooks := .later }
def SheetChecksUptoCardSaid : Prop := Claim7.holds Tryz.pinned (.plain (OpenSpec.upto sheetChecksSpec)) sheetChecksUptoCard

/-- THE SECOND FORM's CARD OF 'besomlaw02.SheetPoints'. -/
def sheetPointsUptoCard : Claim7 := { stood := { row := sheetPointsUptoRow, standIns := [], harness := (true, "b91b50dd9354176b5ae0be1a0f8c7efc4524d24e58637cb4280f11d648961253"), looks := true }, kinds := [], alts := [], laidByText := true, laidKinds := [.data, .data, .data, .data, .sentinel, .sentinel, .pinned], laidTests := true, laidLooks := .later }
def SheetPointsUptoCardSaid : Prop := Claim7.holds Tryz.pinned (.plain (OpenSpec.upto sheetPointsSpec)) sheetPointsUptoCard

/-- THE SECOND FORM's CARD OF 'besomlaw02.SheetCounts'. -/
def sheetCountsUptoCard : Claim7 := { stood := { row := sheetCountsUptoRow, standIns := [], harness := (true, "b91b50dd9354176b5ae0be1a0f8c7efc4524d24e58637cb4280f11d648961253"), looks := true }, kinds := [], alts := [], laidByText := true, laidKinds := [.data, .data, .data, .data, .sentinel, .sentinel, .pinned], laidTests := true, laidLooks := .later }
def SheetCountsUptoCardSaid : Prop := Claim7.holds Tryz.pinned (.plain (OpenSpec.upto sheetCountsSpec)) sheetCountsUptoCard

/-- THE SECOND FORM's CARD OF 'besomlaw02.SheetOwns'. -/
def sheetOwnsUptoCard : Claim7 := { stood := { row := sheetOwnsUptoRow, standIns := [], harness := (true, "b91b50dd9354176b5ae0be1a0f8c7efc4524d24e58637cb4280f11d648961253"), looks := true }, kinds := [], alts := [], laidByText := true, laidKinds := [.data, .data, .data, .data, .sentinel, .sentinel, .pinned], laidTests := true, laidLooks := .later }
def SheetOwnsUptoCardSaid : Prop := Claim7.holds Tryz.pinned (.plain (OpenSpec.upto sheetOwnsSpec)) sheetOwnsUptoCard
end Rows
end Go.Proofs.YtbeapddadogfaaaGreatDoor
