/-
  DERIVED. GIVEN WITH THE SEED: THE CARDS: each row of YtfocdcdggidboaaGreatDoorRows.lean that lists a variable, with what it lists TIED to the program's text (the seventh form; the later family's looks); each row that meets fmt, with fmt's text TOLD by the authors' own Lean function (tested against real Go, not proved from fmt's source: count such statements apart). THE CARD IS WHAT COUNTS. Prove the row's statement (the work); the ties are given (YtfocdcdggidboaaGreatDoorTie.lean); close each card by the builder's one call (the guide's Derived/Test/ToyasCard.lean, 'card_holds'). Laid BY PROGRAM, IN A SANDBOX (cutbox-door.mjs). By AI agents, Wed Nov 11 2026. No macro, syntax, notation, axiom, sorry.
-/
import Derived.Test.YtfocdcdggidboaaGreatDoorRows
import GoSem.ClaimSeven
namespace Go.Proofs.YtfocdcdggidboaaGreatDoor
namespace Rows

/-- THE TIED CARD OF 'timeballkeep.RuleWords'. -/
def ruleWordsCard : Claim7 := { stood := { row := ruleWordsRow, standIns := [], harness := (true, "707ac0d9d9da50cb719bcc432c77aa5616281ce6b339a3278c3cd5eed2491bcf"), looks := true }, kinds := [], alts := [], laidByText := true, laidKinds := [.data, .data, .data, .data, .sentinel, .sentinel, .listed, .data, .pinned], laidTests := true, laidLooks := .later }
def RuleWordsCardSaid : Prop := Claim7.holds Tryz.pinned (.plain (OpenSpec.ofChange ruleWordsSpec)) ruleWordsCard

/-- THE SECOND FORM's CARD OF 'timeballkeep.RuleWords'. -/
def ruleWordsUptoCard : Claim7 := { stood := { row := ruleWordsUptoRow, standIns := [], harness := (true, "707ac0d9d9da50cb719bcc432c77aa5616281ce6b339a3278c3cd5eed2491bcf"), looks := true }, kinds := [], alts := [], laidByText := true, laidKinds := [.data, .data, .data, .data, .sentinel, .sentinel, .listed, .data, .pinned], laidTests := true, laidLooks := .later }
def RuleWordsUptoCardSaid : Prop := Claim7.holds Tryz.pinned (.plain (OpenSpec.upto ruleWordsSpec)) ruleWordsUptoCard
end Rows
end Go.Proofs.YtfocdcdggidboaaGreatDoor
