/-
  DERIVED. GIVEN WITH THE SEED: THE CARDS: each row of YtmpeplimiaaehaaDoorRows.lean that lists a variable, with what it lists TIED to the program's text (the seventh form; the later family's looks); each row that meets fmt, with fmt's text TOLD by the authors' own Lean function (tested against real Go, not proved from fmt's source: count such statements apart). THE CARD IS WHAT COUNTS. Prove the row's statement (the work); the ties are given (YtmpeplimiaaehaaDoorTie.lean); close each card by the builder's one call (the guide's Derived/Test/ToyasCard.lean, 'card_holds'). Laid BY PROGRAM, IN A SANDBOX (cutbox-door.mjs). By AI agents, Wed Nov 11 2026. No macro, syntax, notation, axiom, sorry.
-/
import Derived.Test.YtmpeplimiaaehaaDoorRows
import GoSem.ClaimSeven
namespace Go.Proofs.YtmpeplimiaaehaaDoor
namespace Rows

/-- THE TIED CARD OF 'timeballkeep.TurnsSplit'. -/
def turnsSplitCard : Claim7 := { stood := { row := turnsSplitRow, standIns := [], harness := (true, "c231a5e93f3f0165469d24809c292ee3861cba5cdfcb34465499fac70ef1217a"), looks := false }, kinds := [], alts := [], laidByText := true, laidKinds := [.data, .data, .data], laidTests := true, laidLooks := .later }
def TurnsSplitCardSaid : Prop := Claim7.holds Tryd.pinned (.plain (OpenSpec.ofChange turnsSplitSpec)) turnsSplitCard

/-- THE TIED CARD OF 'timeballkeep.BackTurns'. -/
def backTurnsCard : Claim7 := { stood := { row := backTurnsRow, standIns := [], harness := (true, "c231a5e93f3f0165469d24809c292ee3861cba5cdfcb34465499fac70ef1217a"), looks := false }, kinds := [], alts := [], laidByText := true, laidKinds := [.data, .data, .data], laidTests := true, laidLooks := .later }
def BackTurnsCardSaid : Prop := Claim7.holds Tryd.pinned (.plain (OpenSpec.ofChange backTurnsSpec)) backTurnsCard

/-- THE TIED CARD OF 'timeballkeep.OwnMemory'. -/
def ownMemoryCard : Claim7 := { stood := { row := ownMemoryRow, standIns := [], harness := (true, "c231a5e93f3f0165469d24809c292ee3861cba5cdfcb34465499fac70ef1217a"), looks := false }, kinds := [], alts := [], laidByText := true, laidKinds := [.data, .data, .data], laidTests := true, laidLooks := .later }
def OwnMemoryCardSaid : Prop := Claim7.holds Tryd.pinned (.plain (OpenSpec.ofChange ownMemorySpec)) ownMemoryCard

/-- THE SECOND FORM's CARD OF 'timeballkeep.TurnsSplit'. -/
def turnsSplitUptoCard : Claim7 := { stood := { row := turnsSplitUptoRow, standIns := [], harness := (true, "c231a5e93f3f0165469d24809c292ee3861cba5cdfcb34465499fac70ef1217a"), looks := false }, kinds := [], alts := [], laidByText := true, laidKinds := [.data, .data, .data], laidTests := true, laidLooks := .later }
def TurnsSplitUptoCardSaid : Prop := Claim7.holds Tryd.pinned (.plain (OpenSpec.upto turnsSplitSpec)) turnsSplitUptoCard

/-- THE SECOND FORM's CARD OF 'timeballkeep.BackTurns'. -/
def backTurnsUptoCard : Claim7 := { stood := { row := backTurnsUptoRow, standIns := [], harness := (true, "c231a5e93f3f0165469d24809c292ee3861cba5cdfcb34465499fac70ef1217a"), looks := false }, kinds := [], alts := [], laidByText := true, laidKinds := [.data, .data, .data], laidTests := true, laidLooks := .later }
def BackTurnsUptoCardSaid : Prop := Claim7.holds Tryd.pinned (.plain (OpenSpec.upto backTurnsSpec)) backTurnsUptoCard

/-- THE SECOND FORM's CARD OF 'timeballkeep.OwnMemory'. -/
def ownMemoryUptoCard : Claim7 := { stood := { row := ownMemoryUptoRow, standIns := [], harness := (true, "c231a5e93f3f0165469d24809c292ee3861cba5cdfcb34465499fac70ef1217a"), looks := false }, kinds := [], alts := [], laidByText := true, laidKinds := [.data, .data, .data], laidTests := true, laidLooks := .later }
def OwnMemoryUptoCardSaid : Prop := Claim7.holds Tryd.pinned (.plain (OpenSpec.upto ownMemorySpec)) ownMemoryUptoCard
end Rows
end Go.Proofs.YtmpeplimiaaehaaDoor
