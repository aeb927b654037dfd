/-
  DERIVED. GIVEN WITH THE SEED: THE CARDS: each row of YtenofigclkbbiaaDoorRows.lean that lists a variable, with what it lists TIED to the program's text (the seventh form; the later family's looks); each row that meets fmt, with fmt's text TOLD by the authors' own Lean function (tested against real Go, not proved from fmt's source: count such statements apart). THE CARD IS WHAT COUNTS. Prove the row's statement (the work); the ties are given (YtenofigclkbbiaaDoorTie.lean); close each card by the builder's one call (the guide's Derived/Test/ToyasCard.lean, 'card_holds'). Laid BY PROGRAM, IN A SANDBOX (cutbox-door.mjs). By AI agents, Wed Nov 11 2026. No macro, syntax, notation, axiom, sorry.
-/
import Derived.Test.YtenofigclkbbiaaDoorRows
import GoSem.ClaimSeven
namespace Go.Proofs.YtenofigclkbbiaaDoor
namespace Rows

/-- THE TIED CARD OF 'besomlaw08.GameCards'. -/
def gameCardsCard : Claim7 := { stood := { row := gameCardsRow, standIns := [], harness := (true, "aba6c1380b7f4ba37e446a1595bf6b3935e5eea148d043c614f22a841c8743de"), looks := false }, kinds := [], alts := [], laidByText := true, laidKinds := [.data, .data, .data], laidTests := true, laidLooks := .later }
def GameCardsCardSaid : Prop := Claim7.holds Tryd.pinned (.plain (OpenSpec.ofChange gameCardsSpec)) gameCardsCard

/-- THE TIED CARD OF 'besomlaw08.GameAlone'. -/
def gameAloneCard : Claim7 := { stood := { row := gameAloneRow, standIns := [], harness := (true, "aba6c1380b7f4ba37e446a1595bf6b3935e5eea148d043c614f22a841c8743de"), looks := false }, kinds := [], alts := [], laidByText := true, laidKinds := [.data, .data, .data], laidTests := true, laidLooks := .later }
def GameAloneCardSaid : Prop := Claim7.holds Tryd.pinned (.plain (OpenSpec.ofChange gameAloneSpec)) gameAloneCard

/-- THE TIED CARD OF 'besomlaw08.GameSides'. -/
def gameSidesCard : Claim7 := { stood := { row := gameSidesRow, standIns := [], harness := (true, "aba6c1380b7f4ba37e446a1595bf6b3935e5eea148d043c614f22a841c8743de"), looks := false }, kinds := [], alts := [], laidByText := true, laidKinds := [.data, .data, .data], laidTests := true, laidLooks := .later }
def GameSidesCardSaid : Prop := Claim7.holds Tryd.pinned (.plain (OpenSpec.ofChange gameSidesSpec)) gameSidesCard

/-- THE TIED CARD OF 'besomlaw08.GameHammers'. -/
def gameHammersCard : Claim7 := { stood := { row := gameHammersRow, standIns := [], harness := (true, "aba6c1380b7f4ba37e446a1595bf6b3935e5eea148d043c614f22a841c8743de"), looks := false }, kinds := [], alts := [], laidByText := true, laidKinds := [.data, .data, .data], laidTests := true, laidLooks := .later }
def GameHammersCardSaid : Prop := Claim7.holds Tryd.pinned (.plain (OpenSpec.ofChange gameHammersSpec)) gameHammersCard

/-- THE TIED CARD OF 'besomlaw08.GameSeconds'. -/
def gameSecondsCard : Claim7 := { stood := { row := gameSecondsRow, standIns := [], harness := (true, "aba6c1380b7f4ba37e446a1595bf6b3935e5eea148d043c614f22a841c8743de"), looks := false }, kinds := [], alts := [], laidByText := true, laidKinds := [.data, .data, .data], laidTests := true, laidLooks := .later }
def GameSecondsCardSaid : Prop := Claim7.holds Tryd.pinned (.plain (OpenSpec.ofChange gameSecondsSpec)) gameSecondsCard

/-- THE TIED CARD OF 'besomlaw08.GameClocks'. -/
def gameClocksCard : Claim7 := { stood := { row := gameClocksRow, standIns := [], harness := (true, "aba6c1380b7f4ba37e446a1595bf6b3935e5eea148d043c614f22a841c8743de"), looks := false }, kinds := [], alts := [], laidByText := true, laidKinds := [.data, .data, .data], laidTests := true, laidLooks := .later }
def GameClocksCardSaid : Prop := Claim7.holds Tryd.pinned (.plain (OpenSpec.ofChange gameClocksSpec)) gameClocksCard

/-- THE TIED CARD OF 'besomlaw08.GameNone'. -/
def gameNoneCard : Claim7 := { stood := { row := gameNoneRow, standIns := [], harness := (true, "aba6c1380b7f4ba37e446a1595bf6b3935e5eea148d043c614f22a841c8743de"), looks := false }, kinds := [], alts := [], laidByText := true, laidKinds := [.data, .data, .data], laidTests := true, laidLooks := .later }
def GameNoneCardSaid : Prop := Claim7.holds Tryd.pinned (.plain (OpenSpec.ofChange gameNoneSpec)) gameNoneCard

/-- THE SECOND FORM's CARD OF 'besomlaw08.GameCards'. -/
def gameCardsUptoCard : Claim7 := { stood := { row := gameCardsUptoRow, standIns := [], harness := (true, "aba6c1380b7f4ba37e446a1595bf6b3935e5eea148d043c614f22a841c8743de"), looks := false }, kinds := [], alts := [], laidByText := true, laidKinds := [.data, .data, .data], laidTests := true, laidLooks := .later }
def GameCardsUptoCardSaid : Prop := Claim7.holds Tryd.pinned (.plain (OpenSpec.upto gameCardsSpec)) gameCardsUptoCard

/-- THE SECOND FORM's CARD OF 'besomlaw08.GameAlone'. -/
def gameAloneUptoCard : Claim7 := { stood := { row := gameAloneUptoRow, standIns := [], harness := (true, "aba6c1380b7f4ba37e446a1595bf6b3935e5eea148d043c614f22a841c8743de"), looks := false }, kinds := [], alts := [], laidByText := true, laidKinds := [.data, .data, .data], laidTests := true, laidLooks := .later }
def GameAloneUptoCardSaid : Prop := Claim7.holds Tryd.pinned (.plain (OpenSpec.upto gameAloneSpec)) gameAloneUptoCard

/-- THE SECOND FORM's CARD OF 'besomlaw08.GameSides'. -/
def gameSidesUptoCard : Claim7 := { stood := { row := gameSidesUptoRow, standIns := [], harness := (true, "aba6c1380b7f4ba37e446a1595bf6b3935e5eea148d043c614f22a841c8743de"), looks := false }, kinds := [], alts := [], laidByText := true, laidKinds := [.data, .data, .data], laidTests := true, laidLooks := .later }
def GameSidesUptoCardSaid : Prop := Claim7.holds Tryd.pinned (.plain (OpenSpec.upto gameSidesSpec)) gameSidesUptoCard

/-- THE SECOND FORM's CARD OF 'besomlaw08.GameHammers'. -/
def gameHammersUptoCard : Claim7 := { stood := { row := gameHammersUptoRow, standIns := [], harness := (true, "aba6c1380b7f4ba37e446a1595bf6b3935e5eea148d043c614f22a841c8743de"), looks := false }, kinds := [], alts := [], laidByText := true, laidKinds := [.data, .data, .data], laidTests := true, laidLooks := .later }
def GameHammersUptoCardSaid : Prop := Claim7.holds Tryd.pinned (.plain (OpenSpec.upto gameHammersSpec)) gameHammersUptoCard

/-- THE SECOND FORM's CARD OF 'besomlaw08.GameSeconds'. -/
def gameSecondsUptoCard : Claim7 := { stood := { row := gameSecondsUptoRow, standIns := [], harness := (true, "aba6c1380b7f4ba37e446a1595bf6b3935e5eea148d043c614f22a841c8743de"), looks := false }, kinds := [], alts := [], laidByText := true, laidKinds := [.data, .data, .data], laidTests := true, laidLooks := .later }
def GameSecondsUptoCardSaid : Prop := Claim7.holds Tryd.pinned (.plain (OpenSpec.upto gameSecondsSpec)) gameSecondsUptoCard

/-- THE SECOND FORM's CARD OF 'besomlaw08.GameClocks'. -/
def gameClocksUptoCard : Claim7 := { stood := { row := gameClocksUptoRow, standIns := [], harness := (true, "aba6c1380b7f4ba37e446a1595bf6b3935e5eea148d043c614f22a841c8743de"), looks := false }, kinds := [], alts := [], laidByText := true, laidKinds := [.data, .data, .data], laidTests := true, laidLooks := .later }
def GameClocksUptoCardSaid : Prop := Claim7.holds Tryd.pinned (.plain (OpenSpec.upto gameClocksSpec)) gameClocksUptoCard

/-- THE SECOND FORM's CARD OF 'besomlaw08.GameNone'. -/
def gameNoneUptoCard : Claim7 := { stood := { row := gameNoneUptoRow, standIns := [], harness := (true, "aba6c1380b7f4ba37e446a1595bf6b3935e5eea148d043c614f22a841c8743de"), looks := false }, kinds := [], alts := [], laidByText := true, laidKinds := [.data, .data, .data], laidTests := true, laidLooks := .later }
def GameNoneUptoCardSaid : Prop := Claim7.holds Tryd.pinned (.plain (OpenSpec.upto gameNoneSpec)) gameNoneUptoCard
end Rows
end Go.Proofs.YtenofigclkbbiaaDoor
