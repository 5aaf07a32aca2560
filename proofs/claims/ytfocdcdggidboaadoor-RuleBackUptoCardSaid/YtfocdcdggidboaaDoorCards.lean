/-
  DERIVED. GIVEN WITH THE SEED: THE CARDS: each row of YtfocdcdggidboaaDoorRows.lean that lists a variable, with what it lists TIED to the program's text (the seventh form; the later family's looks); each row that meets fmt, with fmt's text TOLD by the authors' own Lean function (tested against real Go, not proved from fmt's source: count such statements apart). THE CARD IS WHAT COUNTS. Prove the row's statement (the work); the ties are given (YtfocdcdggidboaaDoorTie.lean); close each card by the builder's one call (the guide's Derived/Test/ToyasCard.lean, 'card_holds'). Laid BY PROGRAM, IN A SANDBOX (cutbox-door.mjs). By AI agents, Wed Nov 11 2026. No macro, syntax, notation, axiom, sorry.
-/
import Derived.Test.YtfocdcdggidboaaDoorRows
import GoSem.ClaimSeven
namespace Go.Proofs.YtfocdcdggidboaaDoor
namespace Rows

/-- THE TIED CARD OF 'timeballkeep.RuleBack'. -/
def ruleBackCard : Claim7 := { stood := { row := ruleBackRow, standIns := [], harness := (true, "22b3c21fa780af005671a1cebf2365aabf25120c34fe50988a47e2110242a2cf"), looks := true }, kinds := [], alts := [], laidByText := true, laidKinds := [.data, .data, .data, .data, .sentinel, .sentinel, .listed, .data, .pinned], laidTests := true, laidLooks := .later }
def RuleBackCardSaid : Prop := Claim7.holds Tryd.pinned (.plain (OpenSpec.ofChange ruleBackSpec)) ruleBackCard

/-- THE TIED CARD OF 'timeballkeep.RuleYears'. -/
def ruleYearsCard : Claim7 := { stood := { row := ruleYearsRow, standIns := [], harness := (true, "22b3c21fa780af005671a1cebf2365aabf25120c34fe50988a47e2110242a2cf"), looks := true }, kinds := [], alts := [], laidByText := true, laidKinds := [.data, .data, .data, .data, .sentinel, .sentinel, .listed, .data, .pinned], laidTests := true, laidLooks := .later }
def RuleYearsCardSaid : Prop := Claim7.holds Tryd.pinned (.plain (OpenSpec.ofChange ruleYearsSpec)) ruleYearsCard

/-- THE SECOND FORM's CARD OF 'timeballkeep.RuleBack'. -/
def ruleBackUptoCard : Claim7 := { stood := { row := ruleBackUptoRow, standIns := [], harness := (true, "22b3c21fa780af005671a1cebf2365aabf25120c34fe50988a47e2110242a2cf"), looks := true }, kinds := [], alts := [], laidByText := true, laidKinds := [.data, .data, .data, .data, .sentinel, .sentinel, .listed, .data, .pinned], laidTests := true, laidLooks := .later }
def RuleBackUptoCardSaid : Prop := Claim7.holds Tryd.pinned (.plain (OpenSpec.upto ruleBackSpec)) ruleBackUptoCard

/-- THE SECOND FORM's CARD OF 'timeballkeep.RuleYears'. -/
def ruleYearsUptoCard : Claim7 := { stood := { row := ruleYearsUptoRow, standIns := [], harness := (true, "22b3c21fa780af005671a1cebf2365aabf25120c34fe50988a47e2110242a2cf"), looks := true }, kinds := [], alts := [], laidByText := true, laidKinds := [.data, .data, .data, .data, .sentinel, .sentinel, .listed, .data, .pinned], laidTests := true, laidLooks := .later }
def RuleYearsUptoCardSaid : Prop := Claim7.holds Tryd.pinned (.plain (OpenSpec.upto ruleYearsSpec)) ruleYearsUptoCard
end Rows
end Go.Proofs.YtfocdcdggidboaaDoor
