/-
  DERIVED. GIVEN WITH THE SEED: THE CARDS: each row of YtlgdilpmdoofiaaDoorRows.lean that lists a variable, with what it lists TIED to the program's text (the seventh form; the later family's looks); each row that meets fmt, with fmt's text TOLD by the authors' own Lean function (tested against real Go, not proved from fmt's source: count such statements apart). THE CARD IS WHAT COUNTS. Prove the row's statement (the work); the ties are given (YtlgdilpmdoofiaaDoorTie.lean); close each card by the builder's one call (the guide's Derived/Test/ToyasCard.lean, 'card_holds'). Laid BY PROGRAM, IN A SANDBOX (cutbox-door.mjs). By AI agents, Wed Nov 11 2026. No macro, syntax, notation, axiom, sorry.
-/
import Derived.Test.YtlgdilpmdoofiaaDoorRows
import GoSem.ClaimSeven
namespace Go.Proofs.YtlgdilpmdoofiaaDoor
namespace Rows

/-- THE TIED CARD OF 'timeballkeep.TurnsRise'. -/
def turnsRiseCard : Claim7 := { stood := { row := turnsRiseRow, standIns := [], harness := (true, "19defa244bfb0d84268d84b11e53036320e1e92a932a5fd1d5ad019b4b74a2f7"), looks := false }, kinds := [], alts := [], laidByText := true, laidKinds := [.data, .data, .data], laidTests := true, laidLooks := .later }
def TurnsRiseCardSaid : Prop := Claim7.holds Tryd.pinned (.plain (OpenSpec.ofChange turnsRiseSpec)) turnsRiseCard

/-- THE TIED CARD OF 'timeballkeep.TurnsOthers'. -/
def turnsOthersCard : Claim7 := { stood := { row := turnsOthersRow, standIns := [], harness := (true, "19defa244bfb0d84268d84b11e53036320e1e92a932a5fd1d5ad019b4b74a2f7"), looks := false }, kinds := [], alts := [], laidByText := true, laidKinds := [.data, .data, .data], laidTests := true, laidLooks := .later }
def TurnsOthersCardSaid : Prop := Claim7.holds Tryd.pinned (.plain (OpenSpec.ofChange turnsOthersSpec)) turnsOthersCard

/-- THE TIED CARD OF 'timeballkeep.TurnsEast'. -/
def turnsEastCard : Claim7 := { stood := { row := turnsEastRow, standIns := [], harness := (true, "19defa244bfb0d84268d84b11e53036320e1e92a932a5fd1d5ad019b4b74a2f7"), looks := false }, kinds := [], alts := [], laidByText := true, laidKinds := [.data, .data, .data], laidTests := true, laidLooks := .later }
def TurnsEastCardSaid : Prop := Claim7.holds Tryd.pinned (.plain (OpenSpec.ofChange turnsEastSpec)) turnsEastCard

/-- THE TIED CARD OF 'timeballkeep.TurnsOne'. -/
def turnsOneCard : Claim7 := { stood := { row := turnsOneRow, standIns := [], harness := (true, "19defa244bfb0d84268d84b11e53036320e1e92a932a5fd1d5ad019b4b74a2f7"), looks := false }, kinds := [], alts := [], laidByText := true, laidKinds := [.data, .data, .data], laidTests := true, laidLooks := .later }
def TurnsOneCardSaid : Prop := Claim7.holds Tryd.pinned (.plain (OpenSpec.ofChange turnsOneSpec)) turnsOneCard

/-- THE TIED CARD OF 'timeballkeep.TurnsSplit'. -/
def turnsSplitCard : Claim7 := { stood := { row := turnsSplitRow, standIns := [], harness := (true, "19defa244bfb0d84268d84b11e53036320e1e92a932a5fd1d5ad019b4b74a2f7"), looks := false }, kinds := [], alts := [], laidByText := true, laidKinds := [.data, .data, .data], laidTests := true, laidLooks := .later }
def TurnsSplitCardSaid : Prop := Claim7.holds Tryd.pinned (.plain (OpenSpec.ofChange turnsSplitSpec)) turnsSplitCard

/-- THE TIED CARD OF 'timeballkeep.BackTurns'. -/
def backTurnsCard : Claim7 := { stood := { row := backTurnsRow, standIns := [], harness := (true, "19defa244bfb0d84268d84b11e53036320e1e92a932a5fd1d5ad019b4b74a2f7"), looks := false }, kinds := [], alts := [], laidByText := true, laidKinds := [.data, .data, .data], laidTests := true, laidLooks := .later }
def BackTurnsCardSaid : Prop := Claim7.holds Tryd.pinned (.plain (OpenSpec.ofChange backTurnsSpec)) backTurnsCard

/-- THE TIED CARD OF 'timeballkeep.NamesZones'. -/
def namesZonesCard : Claim7 := { stood := { row := namesZonesRow, standIns := [], harness := (true, "19defa244bfb0d84268d84b11e53036320e1e92a932a5fd1d5ad019b4b74a2f7"), looks := false }, kinds := [], alts := [], laidByText := true, laidKinds := [.data, .data, .data], laidTests := true, laidLooks := .later }
def NamesZonesCardSaid : Prop := Claim7.holds Tryd.pinned (.plain (OpenSpec.ofChange namesZonesSpec)) namesZonesCard

/-- THE TIED CARD OF 'timeballkeep.NamesSorted'. -/
def namesSortedCard : Claim7 := { stood := { row := namesSortedRow, standIns := [], harness := (true, "19defa244bfb0d84268d84b11e53036320e1e92a932a5fd1d5ad019b4b74a2f7"), looks := false }, kinds := [], alts := [], laidByText := true, laidKinds := [.data, .data, .data], laidTests := true, laidLooks := .later }
def NamesSortedCardSaid : Prop := Claim7.holds Tryd.pinned (.plain (OpenSpec.ofChange namesSortedSpec)) namesSortedCard

/-- THE TIED CARD OF 'timeballkeep.NamesLoops'. -/
def namesLoopsCard : Claim7 := { stood := { row := namesLoopsRow, standIns := [], harness := (true, "19defa244bfb0d84268d84b11e53036320e1e92a932a5fd1d5ad019b4b74a2f7"), looks := false }, kinds := [], alts := [], laidByText := true, laidKinds := [.data, .data, .data], laidTests := true, laidLooks := .later }
def NamesLoopsCardSaid : Prop := Claim7.holds Tryd.pinned (.plain (OpenSpec.ofChange namesLoopsSpec)) namesLoopsCard

/-- THE TIED CARD OF 'timeballkeep.OwnMemory'. -/
def ownMemoryCard : Claim7 := { stood := { row := ownMemoryRow, standIns := [], harness := (true, "19defa244bfb0d84268d84b11e53036320e1e92a932a5fd1d5ad019b4b74a2f7"), looks := false }, kinds := [], alts := [], laidByText := true, laidKinds := [.data, .data, .data], laidTests := true, laidLooks := .later }
def OwnMemoryCardSaid : Prop := Claim7.holds Tryd.pinned (.plain (OpenSpec.ofChange ownMemorySpec)) ownMemoryCard

/-- THE SECOND FORM's CARD OF 'timeballkeep.TurnsRise'. -/
def turnsRiseUptoCard : Claim7 := { stood := { row := turnsRiseUptoRow, standIns := [], harness := (true, "19defa244bfb0d84268d84b11e53036320e1e92a932a5fd1d5ad019b4b74a2f7"), looks := false }, kinds := [], alts := [], laidByText := true, laidKinds := [.data, .data, .data], laidTests := true, laidLooks := .later }
def TurnsRiseUptoCardSaid : Prop := Claim7.holds Tryd.pinned (.plain (OpenSpec.upto turnsRiseSpec)) turnsRiseUptoCard

/-- THE SECOND FORM's CARD OF 'timeballkeep.TurnsOthers'. -/
def turnsOthersUptoCard : Claim7 := { stood := { row := turnsOthersUptoRow, standIns := [], harness := (true, "19defa244bfb0d84268d84b11e53036320e1e92a932a5fd1d5ad019b4b74a2f7"), looks := false }, kinds := [], alts := [], laidByText := true, laidKinds := [.data, .data, .data], laidTests := true, laidLooks := .later }
def TurnsOthersUptoCardSaid : Prop := Claim7.holds Tryd.pinned (.plain (OpenSpec.upto turnsOthersSpec)) turnsOthersUptoCard

/-- THE SECOND FORM's CARD OF 'timeballkeep.TurnsEast'. -/
def turnsEastUptoCard : Claim7 := { stood := { row := turnsEastUptoRow, standIns := [], harness := (true, "19defa244bfb0d84268d84b11e53036320e1e92a932a5fd1d5ad019b4b74a2f7"), looks := false }, kinds := [], alts := [], laidByText := true, laidKinds := [.data, .data, .data], laidTests := true, laidLooks := .later }
def TurnsEastUptoCardSaid : Prop := Claim7.holds Tryd.pinned (.plain (OpenSpec.upto turnsEastSpec)) turnsEastUptoCard

/-- THE SECOND FORM's CARD OF 'timeballkeep.TurnsOne'. -/
def turnsOneUptoCard : Claim7 := { stood := { row := turnsOneUptoRow, standIns := [], harness := (true, "19defa244bfb0d84268d84b11e53036320e1e92a932a5fd1d5ad019b4b74a2f7"), looks := false }, kinds := [], alts := [], laidByText := true, laidKinds := [.data, .data, .data], laidTests := true, laidLooks := .later }
def TurnsOneUptoCardSaid : Prop := Claim7.holds Tryd.pinned (.plain (OpenSpec.upto turnsOneSpec)) turnsOneUptoCard

/-- THE SECOND FORM's CARD OF 'timeballkeep.TurnsSplit'. -/
def turnsSplitUptoCard : Claim7 := { stood := { row := turnsSplitUptoRow, standIns := [], harness := (true, "19defa244bfb0d84268d84b11e53036320e1e92a932a5fd1d5ad019b4b74a2f7"), looks := false }, kinds := [], alts := [], laidByText := true, laidKinds := [.data, .data, .data], laidTests := true, laidLooks := .later }
def TurnsSplitUptoCardSaid : Prop := Claim7.holds Tryd.pinned (.plain (OpenSpec.upto turnsSplitSpec)) turnsSplitUptoCard

/-- THE SECOND FORM's CARD OF 'timeballkeep.BackTurns'. -/
def backTurnsUptoCard : Claim7 := { stood := { row := backTurnsUptoRow, standIns := [], harness := (true, "19defa244bfb0d84268d84b11e53036320e1e92a932a5fd1d5ad019b4b74a2f7"), looks := false }, kinds := [], alts := [], laidByText := true, laidKinds := [.data, .data, .data], laidTests := true, laidLooks := .later }
def BackTurnsUptoCardSaid : Prop := Claim7.holds Tryd.pinned (.plain (OpenSpec.upto backTurnsSpec)) backTurnsUptoCard

/-- THE SECOND FORM's CARD OF 'timeballkeep.NamesZones'. -/
def namesZonesUptoCard : Claim7 := { stood := { row := namesZonesUptoRow, standIns := [], harness := (true, "19defa244bfb0d84268d84b11e53036320e1e92a932a5fd1d5ad019b4b74a2f7"), looks := false }, kinds := [], alts := [], laidByText := true, laidKinds := [.data, .data, .data], laidTests := true, laidLooks := .later }
def NamesZonesUptoCardSaid : Prop := Claim7.holds Tryd.pinned (.plain (OpenSpec.upto namesZonesSpec)) namesZonesUptoCard

/-- THE SECOND FORM's CARD OF 'timeballkeep.NamesSorted'. -/
def namesSortedUptoCard : Claim7 := { stood := { row := namesSortedUptoRow, standIns := [], harness := (true, "19defa244bfb0d84268d84b11e53036320e1e92a932a5fd1d5ad019b4b74a2f7"), looks := false }, kinds := [], alts := [], laidByText := true, laidKinds := [.data, .data, .data], laidTests := true, laidLooks := .later }
def NamesSortedUptoCardSaid : Prop := Claim7.holds Tryd.pinned (.plain (OpenSpec.upto namesSortedSpec)) namesSortedUptoCard

/-- THE SECOND FORM's CARD OF 'timeballkeep.NamesLoops'. -/
def namesLoopsUptoCard : Claim7 := { stood := { row := namesLoopsUptoRow, standIns := [], harness := (true, "19defa244bfb0d84268d84b11e53036320e1e92a932a5fd1d5ad019b4b74a2f7"), looks := false }, kinds := [], alts := [], laidByText := true, laidKinds := [.data, .data, .data], laidTests := true, laidLooks := .later }
def NamesLoopsUptoCardSaid : Prop := Claim7.holds Tryd.pinned (.plain (OpenSpec.upto namesLoopsSpec)) namesLoopsUptoCard

/-- THE SECOND FORM's CARD OF 'timeballkeep.OwnMemory'. -/
def ownMemoryUptoCard : Claim7 := { stood := { row := ownMemoryUptoRow, standIns := [], harness := (true, "19defa244bfb0d84268d84b11e53036320e1e92a932a5fd1d5ad019b4b74a2f7"), looks := false }, kinds := [], alts := [], laidByText := true, laidKinds := [.data, .data, .data], laidTests := true, laidLooks := .later }
def OwnMemoryUptoCardSaid : Prop := Claim7.holds Tryd.pinned (.plain (OpenSpec.upto ownMemorySpec)) ownMemoryUptoCard
end Rows
end Go.Proofs.YtlgdilpmdoofiaaDoor
