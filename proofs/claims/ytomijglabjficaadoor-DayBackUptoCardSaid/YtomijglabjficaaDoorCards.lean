/-
  DERIVED. GIVEN WITH THE SEED: THE CARDS: each row of YtomijglabjficaaDoorRows.lean that lists a variable, with what it lists TIED to the program's text (the seventh form; the later family's looks); each row that meets fmt, with fmt's text TOLD by the authors' own Lean function (tested against real Go, not proved from fmt's source: count such statements apart). THE CARD IS WHAT COUNTS. Prove the row's statement (the work); the ties are given (YtomijglabjficaaDoorTie.lean); close each card by the builder's one call (the guide's Derived/Test/ToyasCard.lean, 'card_holds'). Laid BY PROGRAM, IN A SANDBOX (cutbox-door.mjs). By AI agents, Wed Nov 11 2026. No macro, syntax, notation, axiom, sorry.
-/
import Derived.Test.YtomijglabjficaaDoorRows
import GoSem.ClaimSeven
namespace Go.Proofs.YtomijglabjficaaDoor
namespace Rows

/-- THE TIED CARD OF 'timeballkeep.StampOrder'. -/
def stampOrderCard : Claim7 := { stood := { row := stampOrderRow, standIns := [], harness := (true, "24ae4fd542fb74802693e77e465911c4138389e862e62971727f6f930ccd7693"), looks := true }, kinds := [], alts := [], laidByText := true, laidKinds := [.data, .data, .data], laidTests := true, laidLooks := .later }
def StampOrderCardSaid : Prop := Claim7.holds Tryd.pinned (.plain (OpenSpec.ofChange stampOrderSpec)) stampOrderCard

/-- THE TIED CARD OF 'timeballkeep.StampNext'. -/
def stampNextCard : Claim7 := { stood := { row := stampNextRow, standIns := [], harness := (true, "24ae4fd542fb74802693e77e465911c4138389e862e62971727f6f930ccd7693"), looks := true }, kinds := [], alts := [], laidByText := true, laidKinds := [.data, .data, .data], laidTests := true, laidLooks := .later }
def StampNextCardSaid : Prop := Claim7.holds Tryd.pinned (.plain (OpenSpec.ofChange stampNextSpec)) stampNextCard

/-- THE TIED CARD OF 'timeballkeep.SpanOdd'. -/
def spanOddCard : Claim7 := { stood := { row := spanOddRow, standIns := [], harness := (true, "24ae4fd542fb74802693e77e465911c4138389e862e62971727f6f930ccd7693"), looks := true }, kinds := [], alts := [], laidByText := true, laidKinds := [.data, .data, .data], laidTests := true, laidLooks := .later }
def SpanOddCardSaid : Prop := Claim7.holds Tryd.pinned (.plain (OpenSpec.ofChange spanOddSpec)) spanOddCard

/-- THE TIED CARD OF 'timeballkeep.StampDates'. -/
def stampDatesCard : Claim7 := { stood := { row := stampDatesRow, standIns := [], harness := (true, "24ae4fd542fb74802693e77e465911c4138389e862e62971727f6f930ccd7693"), looks := true }, kinds := [], alts := [], laidByText := true, laidKinds := [.data, .data, .data], laidTests := true, laidLooks := .later }
def StampDatesCardSaid : Prop := Claim7.holds Tryd.pinned (.plain (OpenSpec.ofChange stampDatesSpec)) stampDatesCard

/-- THE TIED CARD OF 'timeballkeep.SpanHours'. -/
def spanHoursCard : Claim7 := { stood := { row := spanHoursRow, standIns := [], harness := (true, "24ae4fd542fb74802693e77e465911c4138389e862e62971727f6f930ccd7693"), looks := true }, kinds := [], alts := [], laidByText := true, laidKinds := [.data, .data, .data], laidTests := true, laidLooks := .later }
def SpanHoursCardSaid : Prop := Claim7.holds Tryd.pinned (.plain (OpenSpec.ofChange spanHoursSpec)) spanHoursCard

/-- THE TIED CARD OF 'timeballkeep.StampBack'. -/
def stampBackCard : Claim7 := { stood := { row := stampBackRow, standIns := [], harness := (true, "24ae4fd542fb74802693e77e465911c4138389e862e62971727f6f930ccd7693"), looks := true }, kinds := [], alts := [], laidByText := true, laidKinds := [.data, .data, .data, .sentinel, .sentinel], laidTests := true, laidLooks := .later }
def StampBackCardSaid : Prop := Claim7.holds Tryd.pinned (.plain (OpenSpec.ofChange stampBackSpec)) stampBackCard

/-- THE TIED CARD OF 'timeballkeep.DayBack'. -/
def dayBackCard : Claim7 := { stood := { row := dayBackRow, standIns := [], harness := (true, "24ae4fd542fb74802693e77e465911c4138389e862e62971727f6f930ccd7693"), looks := true }, kinds := [], alts := [], laidByText := true, laidKinds := [.data, .data, .data, .sentinel, .sentinel], laidTests := true, laidLooks := .later }
def DayBackCardSaid : Prop := Claim7.holds Tryd.pinned (.plain (OpenSpec.ofChange dayBackSpec)) dayBackCard

/-- THE TIED CARD OF 'timeballkeep.SpanBack'. -/
def spanBackCard : Claim7 := { stood := { row := spanBackRow, standIns := [], harness := (true, "24ae4fd542fb74802693e77e465911c4138389e862e62971727f6f930ccd7693"), looks := true }, kinds := [], alts := [], laidByText := true, laidKinds := [.data, .data, .data, .data, .sentinel, .sentinel, .pinned], laidTests := true, laidLooks := .later }
def SpanBackCardSaid : Prop := Claim7.holds Tryd.pinned (.plain (OpenSpec.ofChange spanBackSpec)) spanBackCard

/-- THE SECOND FORM's CARD OF 'timeballkeep.StampOrder'. -/
def stampOrderUptoCard : Claim7 := { stood := { row := stampOrderUptoRow, standIns := [], harness := (true, "24ae4fd542fb74802693e77e465911c4138389e862e62971727f6f930ccd7693"), looks := true }, kinds := [], alts := [], laidByText := true, laidKinds := [.data, .data, .data], laidTests := true, laidLooks := .later }
def StampOrderUptoCardSaid : Prop := Claim7.holds Tryd.pinned (.plain (OpenSpec.upto stampOrderSpec)) stampOrderUptoCard

/-- THE SECOND FORM's CARD OF 'timeballkeep.StampNext'. -/
def stampNextUptoCard : Claim7 := { stood := { row := stampNextUptoRow, standIns := [], harness := (true, "24ae4fd542fb74802693e77e465911c4138389e862e62971727f6f930ccd7693"), looks := true }, kinds := [], alts := [], laidByText := true, laidKinds := [.data, .data, .data], laidTests := true, laidLooks := .later }
def StampNextUptoCardSaid : Prop := Claim7.holds Tryd.pinned (.plain (OpenSpec.upto stampNextSpec)) stampNextUptoCard

/-- THE SECOND FORM's CARD OF 'timeballkeep.SpanOdd'. -/
def spanOddUptoCard : Claim7 := { stood := { row := spanOddUptoRow, standIns := [], harness := (true, "24ae4fd542fb74802693e77e465911c4138389e862e62971727f6f930ccd7693"), looks := true }, kinds := [], alts := [], laidByText := true, laidKinds := [.data, .data, .data], laidTests := true, laidLooks := .later }
def SpanOddUptoCardSaid : Prop := Claim7.holds Tryd.pinned (.plain (OpenSpec.upto spanOddSpec)) spanOddUptoCard

/-- THE SECOND FORM's CARD OF 'timeballkeep.StampDates'. -/
def stampDatesUptoCard : Claim7 := { stood := { row := stampDatesUptoRow, standIns := [], harness := (true, "24ae4fd542fb74802693e77e465911c4138389e862e62971727f6f930ccd7693"), looks := true }, kinds := [], alts := [], laidByText := true, laidKinds := [.data, .data, .data], laidTests := true, laidLooks := .later }
def StampDatesUptoCardSaid : Prop := Claim7.holds Tryd.pinned (.plain (OpenSpec.upto stampDatesSpec)) stampDatesUptoCard

/-- THE SECOND FORM's CARD OF 'timeballkeep.SpanHours'. -/
def spanHoursUptoCard : Claim7 := { stood := { row := spanHoursUptoRow, standIns := [], harness := (true, "24ae4fd542fb74802693e77e465911c4138389e862e62971727f6f930ccd7693"), looks := true }, kinds := [], alts := [], laidByText := true, laidKinds := [.data, .data, .data], laidTests := true, laidLooks := .later }
def SpanHoursUptoCardSaid : Prop := Claim7.holds Tryd.pinned (.plain (OpenSpec.upto spanHoursSpec)) spanHoursUptoCard

/-- THE SECOND FORM's CARD OF 'timeballkeep.StampBack'. -/
def stampBackUptoCard : Claim7 := { stood := { row := stampBackUptoRow, standIns := [], harness := (true, "24ae4fd542fb74802693e77e465911c4138389e862e62971727f6f930ccd7693"), looks := true }, kinds := [], alts := [], laidByText := true, laidKinds := [.data, .data, .data, .sentinel, .sentinel], laidTests := true, laidLooks := .later }
def StampBackUptoCardSaid : Prop := Claim7.holds Tryd.pinned (.plain (OpenSpec.upto stampBackSpec)) stampBackUptoCard

/-- THE SECOND FORM's CARD OF 'timeballkeep.DayBack'. -/
def dayBackUptoCard : Claim7 := { stood := { row := dayBackUptoRow, standIns := [], harness := (true, "24ae4fd542fb74802693e77e465911c4138389e862e62971727f6f930ccd7693"), looks := true }, kinds := [], alts := [], laidByText := true, laidKinds := [.data, .data, .data, .sentinel, .sentinel], laidTests := true, laidLooks := .later }
def DayBackUptoCardSaid : Prop := Claim7.holds Tryd.pinned (.plain (OpenSpec.upto dayBackSpec)) dayBackUptoCard

/-- THE SECOND FORM's CARD OF 'timeballkeep.SpanBack'. -/
def spanBackUptoCard : Claim7 := { stood := { row := spanBackUptoRow, standIns := [], harness := (true, "24ae4fd542fb74802693e77e465911c4138389e862e62971727f6f930ccd7693"), looks := true }, kinds := [], alts := [], laidByText := true, laidKinds := [.data, .data, .data, .data, .sentinel, .sentinel, .pinned], laidTests := true, laidLooks := .later }
def SpanBackUptoCardSaid : Prop := Claim7.holds Tryd.pinned (.plain (OpenSpec.upto spanBackSpec)) spanBackUptoCard
end Rows
end Go.Proofs.YtomijglabjficaaDoor
