/-
  DERIVED. GIVEN WITH THE SEED: THE CARDS: each row of YthggojpdcgcmaaaGreatDoorRows.lean that lists a variable, with what it lists TIED to the program's text (the seventh form; the later family's looks); each row that meets fmt, with fmt's text TOLD by the authors' own Lean function (tested against real Go, not proved from fmt's source: count such statements apart). THE CARD IS WHAT COUNTS. Prove the row's statement (the work); the ties are given (YthggojpdcgcmaaaGreatDoorTie.lean); close each card by the builder's one call (the guide's Derived/Test/ToyasCard.lean, 'card_holds'). Laid BY PROGRAM, IN A SANDBOX (cutbox-door.mjs). By AI agents, Wed Nov 11 2026. No macro, syntax, notation, axiom, sorry.
-/
import Derived.Test.YthggojpdcgcmaaaGreatDoorRows
import GoSem.ClaimSeven
namespace Go.Proofs.YthggojpdcgcmaaaGreatDoor
namespace Rows

/-- THE TIED CARD OF 'timeballkeep.StateRules'. -/
def stateRulesCard : Claim7 := { stood := { row := stateRulesRow, standIns := [], harness := (true, "f67433100f814939c95b71671593e3cdd399329ad42ca1f1d95e2b6045f65321"), looks := false }, kinds := [], alts := [], laidByText := true, laidKinds := [.data, .data, .data], laidTests := true, laidLooks := .later }
def StateRulesCardSaid : Prop := Claim7.holds Tryz.pinned (.plain (OpenSpec.ofChange stateRulesSpec)) stateRulesCard

/-- THE TIED CARD OF 'timeballkeep.StateSteady'. -/
def stateSteadyCard : Claim7 := { stood := { row := stateSteadyRow, standIns := [], harness := (true, "f67433100f814939c95b71671593e3cdd399329ad42ca1f1d95e2b6045f65321"), looks := false }, kinds := [], alts := [], laidByText := true, laidKinds := [.data, .data, .data], laidTests := true, laidLooks := .later }
def StateSteadyCardSaid : Prop := Claim7.holds Tryz.pinned (.plain (OpenSpec.ofChange stateSteadySpec)) stateSteadyCard

/-- THE TIED CARD OF 'timeballkeep.TableLinks'. -/
def tableLinksCard : Claim7 := { stood := { row := tableLinksRow, standIns := [], harness := (true, "f67433100f814939c95b71671593e3cdd399329ad42ca1f1d95e2b6045f65321"), looks := false }, kinds := [], alts := [], laidByText := true, laidKinds := [.data, .data, .data], laidTests := true, laidLooks := .later }
def TableLinksCardSaid : Prop := Claim7.holds Tryz.pinned (.plain (OpenSpec.ofChange tableLinksSpec)) tableLinksCard

/-- THE TIED CARD OF 'timeballkeep.TableFixed'. -/
def tableFixedCard : Claim7 := { stood := { row := tableFixedRow, standIns := [], harness := (true, "f67433100f814939c95b71671593e3cdd399329ad42ca1f1d95e2b6045f65321"), looks := false }, kinds := [], alts := [], laidByText := true, laidKinds := [.data, .data, .data], laidTests := true, laidLooks := .later }
def TableFixedCardSaid : Prop := Claim7.holds Tryz.pinned (.plain (OpenSpec.ofChange tableFixedSpec)) tableFixedCard

/-- THE TIED CARD OF 'timeballkeep.TableJoin'. -/
def tableJoinCard : Claim7 := { stood := { row := tableJoinRow, standIns := [], harness := (true, "f67433100f814939c95b71671593e3cdd399329ad42ca1f1d95e2b6045f65321"), looks := false }, kinds := [], alts := [], laidByText := true, laidKinds := [.data, .data, .data], laidTests := true, laidLooks := .later }
def TableJoinCardSaid : Prop := Claim7.holds Tryz.pinned (.plain (OpenSpec.ofChange tableJoinSpec)) tableJoinCard

/-- THE TIED CARD OF 'timeballkeep.TableChanges'. -/
def tableChangesCard : Claim7 := { stood := { row := tableChangesRow, standIns := [], harness := (true, "f67433100f814939c95b71671593e3cdd399329ad42ca1f1d95e2b6045f65321"), looks := false }, kinds := [], alts := [], laidByText := true, laidKinds := [.data, .data, .data], laidTests := true, laidLooks := .later }
def TableChangesCardSaid : Prop := Claim7.holds Tryz.pinned (.plain (OpenSpec.ofChange tableChangesSpec)) tableChangesCard

/-- THE TIED CARD OF 'timeballkeep.TableSays'. -/
def tableSaysCard : Claim7 := { stood := { row := tableSaysRow, standIns := [], harness := (true, "f67433100f814939c95b71671593e3cdd399329ad42ca1f1d95e2b6045f65321"), looks := false }, kinds := [], alts := [], laidByText := true, laidKinds := [.data, .data, .data], laidTests := true, laidLooks := .later }
def TableSaysCardSaid : Prop := Claim7.holds Tryz.pinned (.plain (OpenSpec.ofChange tableSaysSpec)) tableSaysCard

/-- THE TIED CARD OF 'timeballkeep.TableParts'. -/
def tablePartsCard : Claim7 := { stood := { row := tablePartsRow, standIns := [], harness := (true, "f67433100f814939c95b71671593e3cdd399329ad42ca1f1d95e2b6045f65321"), looks := false }, kinds := [], alts := [], laidByText := true, laidKinds := [.data, .data, .data], laidTests := true, laidLooks := .later }
def TablePartsCardSaid : Prop := Claim7.holds Tryz.pinned (.plain (OpenSpec.ofChange tablePartsSpec)) tablePartsCard

/-- THE TIED CARD OF 'timeballkeep.BackSame'. -/
def backSameCard : Claim7 := { stood := { row := backSameRow, standIns := [], harness := (true, "f67433100f814939c95b71671593e3cdd399329ad42ca1f1d95e2b6045f65321"), looks := false }, kinds := [], alts := [], laidByText := true, laidKinds := [.data, .data, .data], laidTests := true, laidLooks := .later }
def BackSameCardSaid : Prop := Claim7.holds Tryz.pinned (.plain (OpenSpec.ofChange backSameSpec)) backSameCard

/-- THE SECOND FORM's CARD OF 'timeballkeep.StateRules'. -/
def stateRulesUptoCard : Claim7 := { stood := { row := stateRulesUptoRow, standIns := [], harness := (true, "f67433100f814939c95b71671593e3cdd399329ad42ca1f1d95e2b6045f65321"), looks := false }, kinds := [], alts := [], laidByText := true, laidKinds := [.data, .data, .data], laidTests := true, laidLooks := .later }
def StateRulesUptoCardSaid : Prop := Claim7.holds Tryz.pinned (.plain (OpenSpec.upto stateRulesSpec)) stateRulesUptoCard

/-- THE SECOND FORM's CARD OF 'timeballkeep.StateSteady'. -/
def stateSteadyUptoCard : Claim7 := { stood := { row := stateSteadyUptoRow, standIns := [], harness := (true, "f67433100f814939c95b71671593e3cdd399329ad42ca1f1d95e2b6045f65321"), looks := false }, kinds := [], alts := [], laidByText := true, laidKinds := [.data, .data, .data], laidTests := true, laidLooks := .later }
def StateSteadyUptoCardSaid : Prop := Claim7.holds Tryz.pinned (.plain (OpenSpec.upto stateSteadySpec)) stateSteadyUptoCard

/-- THE SECOND FORM's CARD OF 'timeballkeep.TableLinks'. -/
def tableLinksUptoCard : Claim7 := { stood := { row := tableLinksUptoRow, standIns := [], harness := (true, "f67433100f814939c95b71671593e3cdd399329ad42ca1f1d95e2b6045f65321"), looks := false }, kinds := [], alts := [], laidByText := true, laidKinds := [.data, .data, .data], laidTests := true, laidLooks := .later }
def TableLinksUptoCardSaid : Prop := Claim7.holds Tryz.pinned (.plain (OpenSpec.upto tableLinksSpec)) tableLinksUptoCard

/-- THE SECOND FORM's CARD OF 'timeballkeep.TableFixed'. -/
def tableFixedUptoCard : Claim7 := { stood := { row := tableFixedUptoRow, standIns := [], harness := (true, "f67433100f814939c95b71671593e3cdd399329ad42ca1f1d95e2b6045f65321"), looks := false }, kinds := [], alts := [], laidByText := true, laidKinds := [.data, .data, .data], laidTests := true, laidLooks := .later }
def TableFixedUptoCardSaid : Prop := Claim7.holds Tryz.pinned (.plain (OpenSpec.upto tableFixedSpec)) tableFixedUptoCard

/-- THE SECOND FORM's CARD OF 'timeballkeep.TableJoin'. -/
def tableJoinUptoCard : Claim7 := { stood := { row := tableJoinUptoRow, standIns := [], harness := (true, "f67433100f814939c95b71671593e3cdd399329ad42ca1f1d95e2b6045f65321"), looks := false }, kinds := [], alts := [], laidByText := true, laidKinds := [.data, .data, .data], laidTests := true, laidLooks := .later }
def TableJoinUptoCardSaid : Prop := Claim7.holds Tryz.pinned (.plain (OpenSpec.upto tableJoinSpec)) tableJoinUptoCard

/-- THE SECOND FORM's CARD OF 'timeballkeep.TableChanges'. -/
def tableChangesUptoCard : Claim7 := { stood := { row := tableChangesUptoRow, standIns := [], harness := (true, "f67433100f814939c95b71671593e3cdd399329ad42ca1f1d95e2b6045f65321"), looks := false }, kinds := [], alts := [], laidByText := true, laidKinds := [.data, .data, .data], laidTests := true, laidLooks := .later }
def TableChangesUptoCardSaid : Prop := Claim7.holds Tryz.pinned (.plain (OpenSpec.upto tableChangesSpec)) tableChangesUptoCard

/-- THE SECOND FORM's CARD OF 'timeballkeep.TableSays'. -/
def tableSaysUptoCard : Claim7 := { stood := { row := tableSaysUptoRow, standIns := [], harness := (true, "f67433100f814939c95b71671593e3cdd399329ad42ca1f1d95e2b6045f65321"), looks := false }, kinds := [], alts := [], laidByText := true, laidKinds := [.data, .data, .data], laidTests := true, laidLooks := .later }
def TableSaysUptoCardSaid : Prop := Claim7.holds Tryz.pinned (.plain (OpenSpec.upto tableSaysSpec)) tableSaysUptoCard

/-- THE SECOND FORM's CARD OF 'timeballkeep.TableParts'. -/
def tablePartsUptoCard : Claim7 := { stood := { row := tablePartsUptoRow, standIns := [], harness := (true, "f67433100f814939c95b71671593e3cdd399329ad42ca1f1d95e2b6045f65321"), looks := false }, kinds := [], alts := [], laidByText := true, laidKinds := [.data, .data, .data], laidTests := true, laidLooks := .later }
def TablePartsUptoCardSaid : Prop := Claim7.holds Tryz.pinned (.plain (OpenSpec.upto tablePartsSpec)) tablePartsUptoCard

/-- THE SECOND FORM's CARD OF 'timeballkeep.BackSame'. -/
def backSameUptoCard : Claim7 := { stood := { row := backSameUptoRow, standIns := [], harness := (true, "f67433100f814939c95b71671593e3cdd399329ad42ca1f1d95e2b6045f65321"), looks := false }, kinds := [], alts := [], laidByText := true, laidKinds := [.data, .data, .data], laidTests := true, laidLooks := .later }
def BackSameUptoCardSaid : Prop := Claim7.holds Tryz.pinned (.plain (OpenSpec.upto backSameSpec)) backSameUptoCard
end Rows
end Go.Proofs.YthggojpdcgcmaaaGreatDoor
