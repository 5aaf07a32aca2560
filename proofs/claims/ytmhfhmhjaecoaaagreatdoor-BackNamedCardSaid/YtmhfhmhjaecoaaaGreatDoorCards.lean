/-
  DERIVED. GIVEN WITH THE SEED: THE CARDS: each row of YtmhfhmhjaecoaaaGreatDoorRows.lean that lists a variable, with what it lists TIED to the program's text (the seventh form; the later family's looks); each row that meets fmt, with fmt's text TOLD by the authors' own Lean function (tested against real Go, not proved from fmt's source: count such statements apart). THE CARD IS WHAT COUNTS. Prove the row's statement (the work); the ties are given (YtmhfhmhjaecoaaaGreatDoorTie.lean); close each card by the builder's one call (the guide's Derived/Test/ToyasCard.lean, 'card_holds'). Laid BY PROGRAM, IN A SANDBOX (cutbox-door.mjs). By AI agents, Wed Nov 11 2026. No macro, syntax, notation, axiom, sorry.
-/
import Derived.Test.YtmhfhmhjaecoaaaGreatDoorRows
import GoSem.ClaimSeven
namespace Go.Proofs.YtmhfhmhjaecoaaaGreatDoor
namespace Rows

/-- THE TIED CARD OF 'timeballkeep.BackNamed'. -/
def backNamedCard : Claim7 := { stood := { row := backNamedRow, standIns := [], harness := (true, "3091830cb54e3cd7d0f05661e0c6247af6eb8751997c7941c66bc06e23660e77"), looks := true }, kinds := [], alts := [], laidByText := true, laidKinds := [.data, .data, .data], laidTests := true, laidLooks := .later }
def BackNamedCardSaid : Prop := Claim7.holds Tryz.pinned (.plain (OpenSpec.ofChange backNamedSpec)) backNamedCard

/-- THE TIED CARD OF 'timeballkeep.BookAbbr'. -/
def bookAbbrCard : Claim7 := { stood := { row := bookAbbrRow, standIns := [], harness := (true, "3091830cb54e3cd7d0f05661e0c6247af6eb8751997c7941c66bc06e23660e77"), looks := true }, kinds := [], alts := [], laidByText := true, laidKinds := [.data, .data, .data, .data, .sentinel, .sentinel, .listed, .data, .pinned], laidTests := true, laidLooks := .later }
def BookAbbrCardSaid : Prop := Claim7.holds Tryz.pinned (.plain (OpenSpec.ofChange bookAbbrSpec)) bookAbbrCard

/-- THE TIED CARD OF 'timeballkeep.BookMore'. -/
def bookMoreCard : Claim7 := { stood := { row := bookMoreRow, standIns := [], harness := (true, "3091830cb54e3cd7d0f05661e0c6247af6eb8751997c7941c66bc06e23660e77"), looks := true }, kinds := [], alts := [], laidByText := true, laidKinds := [.data, .data, .data, .data, .sentinel, .sentinel, .listed, .data, .pinned], laidTests := true, laidLooks := .later }
def BookMoreCardSaid : Prop := Claim7.holds Tryz.pinned (.plain (OpenSpec.ofChange bookMoreSpec)) bookMoreCard

/-- THE TIED CARD OF 'timeballkeep.BookTwice'. -/
def bookTwiceCard : Claim7 := { stood := { row := bookTwiceRow, standIns := [], harness := (true, "3091830cb54e3cd7d0f05661e0c6247af6eb8751997c7941c66bc06e23660e77"), looks := true }, kinds := [], alts := [], laidByText := true, laidKinds := [.data, .data, .data, .data, .sentinel, .sentinel, .listed, .data, .pinned], laidTests := true, laidLooks := .later }
def BookTwiceCardSaid : Prop := Claim7.holds Tryz.pinned (.plain (OpenSpec.ofChange bookTwiceSpec)) bookTwiceCard

/-- THE TIED CARD OF 'timeballkeep.BookLines'. -/
def bookLinesCard : Claim7 := { stood := { row := bookLinesRow, standIns := [], harness := (true, "3091830cb54e3cd7d0f05661e0c6247af6eb8751997c7941c66bc06e23660e77"), looks := true }, kinds := [], alts := [], laidByText := true, laidKinds := [.data, .data, .data, .data, .sentinel, .sentinel, .listed, .data, .pinned], laidTests := true, laidLooks := .later }
def BookLinesCardSaid : Prop := Claim7.holds Tryz.pinned (.plain (OpenSpec.ofChange bookLinesSpec)) bookLinesCard

/-- THE TIED CARD OF 'timeballkeep.BookBack'. -/
def bookBackCard : Claim7 := { stood := { row := bookBackRow, standIns := [], harness := (true, "3091830cb54e3cd7d0f05661e0c6247af6eb8751997c7941c66bc06e23660e77"), looks := true }, kinds := [], alts := [], laidByText := true, laidKinds := [.data, .data, .data, .data, .sentinel, .sentinel, .listed, .data, .pinned], laidTests := true, laidLooks := .later }
def BookBackCardSaid : Prop := Claim7.holds Tryz.pinned (.plain (OpenSpec.ofChange bookBackSpec)) bookBackCard

/-- THE TIED CARD OF 'timeballkeep.RiteSame'. -/
def riteSameCard : Claim7 := { stood := { row := riteSameRow, standIns := [], harness := (true, "3091830cb54e3cd7d0f05661e0c6247af6eb8751997c7941c66bc06e23660e77"), looks := true }, kinds := [], alts := [], laidByText := true, laidKinds := [.data, .data, .data], laidTests := true, laidLooks := .later }
def RiteSameCardSaid : Prop := Claim7.holds Tryz.pinned (.plain (OpenSpec.ofChange riteSameSpec)) riteSameCard

/-- THE SECOND FORM's CARD OF 'timeballkeep.BackNamed'. -/
def backNamedUptoCard : Claim7 := { stood := { row := backNamedUptoRow, standIns := [], harness := (true, "3091830cb54e3cd7d0f05661e0c6247af6eb8751997c7941c66bc06e23660e77"), looks := true }, kinds := [], alts := [], laidByText := true, laidKinds := [.data, .data, .data], laidTests := true, laidLooks := .later }
def BackNamedUptoCardSaid : Prop := Claim7.holds Tryz.pinned (.plain (OpenSpec.upto backNamedSpec)) backNamedUptoCard

/-- THE SECOND FORM's CARD OF 'timeballkeep.BookAbbr'. -/
def bookAbbrUptoCard : Claim7 := { stood := { row := bookAbbrUptoRow, standIns := [], harness := (true, "3091830cb54e3cd7d0f05661e0c6247af6eb8751997c7941c66bc06e23660e77"), looks := true }, kinds := [], alts := [], laidByText := true, laidKinds := [.data, .data, .data, .data, .sentinel, .sentinel, .listed, .data, .pinned], laidTests := true, laidLooks := .later }
def BookAbbrUptoCardSaid : Prop := Claim7.holds Tryz.pinned (.plain (OpenSpec.upto bookAbbrSpec)) bookAbbrUptoCard

/-- THE SECOND FORM's CARD OF 'timeballkeep.BookMore'. -/
def bookMoreUptoCard : Claim7 := { stood := { row := bookMoreUptoRow, standIns := [], harness := (true, "3091830cb54e3cd7d0f05661e0c6247af6eb8751997c7941c66bc06e23660e77"), looks := true }, kinds := [], alts := [], laidByText := true, laidKinds := [.data, .data, .data, .data, .sentinel, .sentinel, .listed, .data, .pinned], laidTests := true, laidLooks := .later }
def BookMoreUptoCardSaid : Prop := Claim7.holds Tryz.pinned (.plain (OpenSpec.upto bookMoreSpec)) bookMoreUptoCard

/-- THE SECOND FORM's CARD OF 'timeballkeep.BookTwice'. -/
def bookTwiceUptoCard : Claim7 := { stood := { row := bookTwiceUptoRow, standIns := [], harness := (true, "3091830cb54e3cd7d0f05661e0c6247af6eb8751997c7941c66bc06e23660e77"), looks := true }, kinds := [], alts := [], laidByText := true, laidKinds := [.data, .data, .data, .data, .sentinel, .sentinel, .listed, .data, .pinned], laidTests := true, laidLooks := .later }
def BookTwiceUptoCardSaid : Prop := Claim7.holds Tryz.pinned (.plain (OpenSpec.upto bookTwiceSpec)) bookTwiceUptoCard

/-- THE SECOND FORM's CARD OF 'timeballkeep.BookLines'. -/
def bookLinesUptoCard : Claim7 := { stood := { row := bookLinesUptoRow, standIns := [], harness := (true, "3091830cb54e3cd7d0f05661e0c6247af6eb8751997c7941c66bc06e23660e77"), looks := true }, kinds := [], alts := [], laidByText := true, laidKinds := [.data, .data, .data, .data, .sentinel, .sentinel, .listed, .data, .pinned], laidTests := true, laidLooks := .later }
def BookLinesUptoCardSaid : Prop := Claim7.holds Tryz.pinned (.plain (OpenSpec.upto bookLinesSpec)) bookLinesUptoCard

/-- THE SECOND FORM's CARD OF 'timeballkeep.BookBack'. -/
def bookBackUptoCard : Claim7 := { stood := { row := bookBackUptoRow, standIns := [], harness := (true, "3091830cb54e3cd7d0f05661e0c6247af6eb8751997c7941c66bc06e23660e77"), looks := true }, kinds := [], alts := [], laidByText := true, laidKinds := [.data, .data, .data, .data, .sentinel, .sentinel, .listed, .data, .pinned], laidTests := true, laidLooks := .later }
def BookBackUptoCardSaid : Prop := Claim7.holds Tryz.pinned (.plain (OpenSpec.upto bookBackSpec)) bookBackUptoCard

/-- THE SECOND FORM's CARD OF 'timeballkeep.RiteSame'. -/
def riteSameUptoCard : Claim7 := { stood := { row := riteSameUptoRow, standIns := [], harness := (true, "3091830cb54e3cd7d0f05661e0c6247af6eb8751997c7941c66bc06e23660e77"), looks := true }, kinds := [], alts := [], laidByText := true, laidKinds := [.data, .data, .data], laidTests := true, laidLooks := .later }
def RiteSameUptoCardSaid : Prop := Claim7.holds Tryz.pinned (.plain (OpenSpec.upto riteSameSpec)) riteSameUptoCard
end Rows
end Go.Proofs.YtmhfhmhjaecoaaaGreatDoor
