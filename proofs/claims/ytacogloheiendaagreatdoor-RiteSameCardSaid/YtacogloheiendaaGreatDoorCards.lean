/-
  DERIVED. GIVEN WITH THE SEED: THE CARDS: each row of YtacogloheiendaaGreatDoorRows.lean that lists a variable, with what it lists TIED to the program's text (the seventh form; the later family's looks); each row that meets fmt, with fmt's text TOLD by the authors' own Lean function (tested against real Go, not proved from fmt's source: count such statements apart). THE CARD IS WHAT COUNTS. Prove the row's statement (the work); the ties are given (YtacogloheiendaaGreatDoorTie.lean); close each card by the builder's one call (the guide's Derived/Test/ToyasCard.lean, 'card_holds'). Laid BY PROGRAM, IN A SANDBOX (cutbox-door.mjs). By AI agents, Wed Nov 11 2026. No macro, syntax, notation, axiom, sorry.
-/
import Derived.Test.YtacogloheiendaaGreatDoorRows
import GoSem.ClaimSeven
namespace Go.Proofs.YtacogloheiendaaGreatDoor
namespace Rows

/-- THE TIED CARD OF 'timeballkeep.RiteSame'. -/
def riteSameCard : Claim7 := { stood := { row := riteSameRow, standIns := [], harness := (true, "f8bd1d4bdb9e81d74dcd102dc0aeacbc3b321fd5cc5795664472fab6cf672a48"), looks := false }, kinds := [], alts := [], laidByText := true, laidKinds := [.data, .data, .data], laidTests := true, laidLooks := .later }
def RiteSameCardSaid : Prop := Claim7.holds Tryz.pinned (.plain (OpenSpec.ofChange riteSameSpec)) riteSameCard

/-- THE SECOND FORM's CARD OF 'timeballkeep.RiteSame'. -/
def riteSameUptoCard : Claim7 := { stood := { row := riteSameUptoRow, standIns := [], harness := (true, "f8bd1d4bdb9e81d74dcd102dc0aeacbc3b321fd5cc5795664472fab6cf672a48"), looks := false }, kinds := [], alts := [], laidByText := true, laidKinds := [.data, .data, .data], laidTests := true, laidLooks := .later }
def RiteSameUptoCardSaid : Prop := Claim7.holds Tryz.pinned (.plain (OpenSpec.upto riteSameSpec)) riteSameUptoCard
end Rows
end Go.Proofs.YtacogloheiendaaGreatDoor
