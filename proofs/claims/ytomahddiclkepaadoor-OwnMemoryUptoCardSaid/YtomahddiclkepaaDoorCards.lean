/-
  DERIVED. GIVEN WITH THE SEED: THE CARDS: each row of YtomahddiclkepaaDoorRows.lean that lists a variable, with what it lists TIED to the program's text (the seventh form; the later family's looks); each row that meets fmt, with fmt's text TOLD by the authors' own Lean function (tested against real Go, not proved from fmt's source: count such statements apart). THE CARD IS WHAT COUNTS. Prove the row's statement (the work); the ties are given (YtomahddiclkepaaDoorTie.lean); close each card by the builder's one call (the guide's Derived/Test/ToyasCard.lean, 'card_holds'). Laid BY PROGRAM, IN A SANDBOX (cutbox-door.mjs). By AI agents, Wed Nov 11 2026. No macro, syntax, notation, axiom, sorry.
-/
import Derived.Test.YtomahddiclkepaaDoorRows
import GoSem.ClaimSeven
namespace Go.Proofs.YtomahddiclkepaaDoor
namespace Rows

/-- THE TIED CARD OF 'timeballkeep.OwnMemory'. -/
def ownMemoryCard : Claim7 := { stood := { row := ownMemoryRow, standIns := [], harness := (true, "d8ecf0bde326528311d40643edb2e483518888c98cad8ffd85472052a004b43e"), looks := false }, kinds := [], alts := [], laidByText := true, laidKinds := [.data, .data, .data], laidTests := true, laidLooks := .later }
def OwnMemoryCardSaid : Prop := Claim7.holds Tryd.pinned (.plain (OpenSpec.ofChange ownMemorySpec)) ownMemoryCard

/-- THE SECOND FORM's CARD OF 'timeballkeep.OwnMemory'. -/
def ownMemoryUptoCard : Claim7 := { stood := { row := ownMemoryUptoRow, standIns := [], harness := (true, "d8ecf0bde326528311d40643edb2e483518888c98cad8ffd85472052a004b43e"), looks := false }, kinds := [], alts := [], laidByText := true, laidKinds := [.data, .data, .data], laidTests := true, laidLooks := .later }
def OwnMemoryUptoCardSaid : Prop := Claim7.holds Tryd.pinned (.plain (OpenSpec.upto ownMemorySpec)) ownMemoryUptoCard
end Rows
end Go.Proofs.YtomahddiclkepaaDoor
