/-
  DERIVED. GIVEN WITH THE SEED: THE CARDS: each row of YthggojpdcgcmaaaDoorRows.lean that lists a variable, with what it lists TIED to the program's text (the seventh form; the later family's looks); each row that meets fmt, with fmt's text TOLD by the authors' own Lean function (tested against real Go, not proved from fmt's source: count such statements apart). THE CARD IS WHAT COUNTS. Prove the row's statement (the work); the ties are given (YthggojpdcgcmaaaDoorTie.lean); close each card by the builder's one call (the guide's Derived/Test/ToyasCard.lean, 'card_holds'). Laid BY PROGRAM, IN A SANDBOX (cutbox-door.mjs). By AI agents, Wed Nov 11 2026. No macro, syntax, notation, axiom, sorry.
-/
import Derived.Test.YthggojpdcgcmaaaDoorRows
import GoSem.ClaimSeven
namespace Go.Proofs.YthggojpdcgcmaaaDoor
namespace Rows

/-- THE TIED CARD OF 'timeballkeep.StateBounds'. -/
def stateBoundsCard : Claim7 := { stood := { row := stateBoundsRow, standIns := [], harness := (true, "4135df878303daf5db1df04e7fbf7241be1489f7e13e492c287a6093c4cba477"), looks := false }, kinds := [], alts := [], laidByText := true, laidKinds := [.data, .data, .data], laidTests := true, laidLooks := .later }
def StateBoundsCardSaid : Prop := Claim7.holds Tryd.pinned (.plain (OpenSpec.ofChange stateBoundsSpec)) stateBoundsCard

/-- THE TIED CARD OF 'timeballkeep.StateLinks'. -/
def stateLinksCard : Claim7 := { stood := { row := stateLinksRow, standIns := [], harness := (true, "4135df878303daf5db1df04e7fbf7241be1489f7e13e492c287a6093c4cba477"), looks := false }, kinds := [], alts := [], laidByText := true, laidKinds := [.data, .data, .data], laidTests := true, laidLooks := .later }
def StateLinksCardSaid : Prop := Claim7.holds Tryd.pinned (.plain (OpenSpec.ofChange stateLinksSpec)) stateLinksCard

/-- THE TIED CARD OF 'timeballkeep.StateUntil'. -/
def stateUntilCard : Claim7 := { stood := { row := stateUntilRow, standIns := [], harness := (true, "4135df878303daf5db1df04e7fbf7241be1489f7e13e492c287a6093c4cba477"), looks := false }, kinds := [], alts := [], laidByText := true, laidKinds := [.data, .data, .data], laidTests := true, laidLooks := .later }
def StateUntilCardSaid : Prop := Claim7.holds Tryd.pinned (.plain (OpenSpec.ofChange stateUntilSpec)) stateUntilCard

/-- THE SECOND FORM's CARD OF 'timeballkeep.StateBounds'. -/
def stateBoundsUptoCard : Claim7 := { stood := { row := stateBoundsUptoRow, standIns := [], harness := (true, "4135df878303daf5db1df04e7fbf7241be1489f7e13e492c287a6093c4cba477"), looks := false }, kinds := [], alts := [], laidByText := true, laidKinds := [.data, .data, .data], laidTests := true, laidLooks := .later }
def StateBoundsUptoCardSaid : Prop := Claim7.holds Tryd.pinned (.plain (OpenSpec.upto stateBoundsSpec)) stateBoundsUptoCard

/-- THE SECOND FORM's CARD OF 'timeballkeep.StateLinks'. -/
def stateLinksUptoCard : Claim7 := { stood := { row := stateLinksUptoRow, standIns := [], harness := (true, "4135df878303daf5db1df04e7fbf7241be1489f7e13e492c287a6093c4cba477"), looks := false }, kinds := [], alts := [], laidByText := true, laidKinds := [.data, .data, .data], laidTests := true, laidLooks := .later }
def StateLinksUptoCardSaid : Prop := Claim7.holds Tryd.pinned (.plain (OpenSpec.upto stateLinksSpec)) stateLinksUptoCard

/-- THE SECOND FORM's CARD OF 'timeballkeep.StateUntil'. -/
def stateUntilUptoCard : Claim7 := { stood := { row := stateUntilUptoRow, standIns := [], harness := (true, "4135df878303daf5db1df04e7fbf7241be1489f7e13e492c287a6093c4cba477"), looks := false }, kinds := [], alts := [], laidByText := true, laidKinds := [.data, .data, .data], laidTests := true, laidLooks := .later }
def StateUntilUptoCardSaid : Prop := Claim7.holds Tryd.pinned (.plain (OpenSpec.upto stateUntilSpec)) stateUntilUptoCard
end Rows
end Go.Proofs.YthggojpdcgcmaaaDoor
