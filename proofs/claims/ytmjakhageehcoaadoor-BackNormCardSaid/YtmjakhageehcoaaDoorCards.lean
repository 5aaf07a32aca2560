/-
  DERIVED. GIVEN WITH THE SEED: THE CARDS: each row of YtmjakhageehcoaaDoorRows.lean that lists a variable, with what it lists TIED to the program's text (the seventh form; the later family's looks); each row that meets fmt, with fmt's text TOLD by the authors' own Lean function (tested against real Go, not proved from fmt's source: count such statements apart). THE CARD IS WHAT COUNTS. Prove the row's statement (the work); the ties are given (YtmjakhageehcoaaDoorTie.lean); close each card by the builder's one call (the guide's Derived/Test/ToyasCard.lean, 'card_holds'). Laid BY PROGRAM, IN A SANDBOX (cutbox-door.mjs). By AI agents, Wed Nov 11 2026. No macro, syntax, notation, axiom, sorry.
-/
import Derived.Test.YtmjakhageehcoaaDoorRows
import GoSem.ClaimSeven
namespace Go.Proofs.YtmjakhageehcoaaDoor
namespace Rows

/-- THE TIED CARD OF 'timeballkeep.BackEras'. -/
def backErasCard : Claim7 := { stood := { row := backErasRow, standIns := [], harness := (true, "17a1251947c5c84dc662f20a6d696d14d486d4ba6fc4c2a60fec93d394117a49"), looks := false }, kinds := [], alts := [], laidByText := true, laidKinds := [.data, .data, .data], laidTests := true, laidLooks := .later }
def BackErasCardSaid : Prop := Claim7.holds Tryd.pinned (.plain (OpenSpec.ofChange backErasSpec)) backErasCard

/-- THE TIED CARD OF 'timeballkeep.BackNorm'. -/
def backNormCard : Claim7 := { stood := { row := backNormRow, standIns := [], harness := (true, "17a1251947c5c84dc662f20a6d696d14d486d4ba6fc4c2a60fec93d394117a49"), looks := false }, kinds := [], alts := [], laidByText := true, laidKinds := [.data, .data, .data], laidTests := true, laidLooks := .later }
def BackNormCardSaid : Prop := Claim7.holds Tryd.pinned (.plain (OpenSpec.ofChange backNormSpec)) backNormCard

/-- THE TIED CARD OF 'timeballkeep.RiteAges'. -/
def riteAgesCard : Claim7 := { stood := { row := riteAgesRow, standIns := [], harness := (true, "17a1251947c5c84dc662f20a6d696d14d486d4ba6fc4c2a60fec93d394117a49"), looks := false }, kinds := [], alts := [], laidByText := true, laidKinds := [.data, .data, .data], laidTests := true, laidLooks := .later }
def RiteAgesCardSaid : Prop := Claim7.holds Tryd.pinned (.plain (OpenSpec.ofChange riteAgesSpec)) riteAgesCard

/-- THE TIED CARD OF 'timeballkeep.RiteTwo'. -/
def riteTwoCard : Claim7 := { stood := { row := riteTwoRow, standIns := [], harness := (true, "17a1251947c5c84dc662f20a6d696d14d486d4ba6fc4c2a60fec93d394117a49"), looks := false }, kinds := [], alts := [], laidByText := true, laidKinds := [.data, .data, .data], laidTests := true, laidLooks := .later }
def RiteTwoCardSaid : Prop := Claim7.holds Tryd.pinned (.plain (OpenSpec.ofChange riteTwoSpec)) riteTwoCard

/-- THE TIED CARD OF 'timeballkeep.RiteTurned'. -/
def riteTurnedCard : Claim7 := { stood := { row := riteTurnedRow, standIns := [], harness := (true, "17a1251947c5c84dc662f20a6d696d14d486d4ba6fc4c2a60fec93d394117a49"), looks := false }, kinds := [], alts := [], laidByText := true, laidKinds := [.data, .data, .data], laidTests := true, laidLooks := .later }
def RiteTurnedCardSaid : Prop := Claim7.holds Tryd.pinned (.plain (OpenSpec.ofChange riteTurnedSpec)) riteTurnedCard

/-- THE TIED CARD OF 'timeballkeep.RiteSwapped'. -/
def riteSwappedCard : Claim7 := { stood := { row := riteSwappedRow, standIns := [], harness := (true, "17a1251947c5c84dc662f20a6d696d14d486d4ba6fc4c2a60fec93d394117a49"), looks := false }, kinds := [], alts := [], laidByText := true, laidKinds := [.data, .data, .data], laidTests := true, laidLooks := .later }
def RiteSwappedCardSaid : Prop := Claim7.holds Tryd.pinned (.plain (OpenSpec.ofChange riteSwappedSpec)) riteSwappedCard

/-- THE TIED CARD OF 'timeballkeep.RiteWeeks'. -/
def riteWeeksCard : Claim7 := { stood := { row := riteWeeksRow, standIns := [], harness := (true, "17a1251947c5c84dc662f20a6d696d14d486d4ba6fc4c2a60fec93d394117a49"), looks := false }, kinds := [], alts := [], laidByText := true, laidKinds := [.data, .data, .data], laidTests := true, laidLooks := .later }
def RiteWeeksCardSaid : Prop := Claim7.holds Tryd.pinned (.plain (OpenSpec.ofChange riteWeeksSpec)) riteWeeksCard

/-- THE SECOND FORM's CARD OF 'timeballkeep.BackEras'. -/
def backErasUptoCard : Claim7 := { stood := { row := backErasUptoRow, standIns := [], harness := (true, "17a1251947c5c84dc662f20a6d696d14d486d4ba6fc4c2a60fec93d394117a49"), looks := false }, kinds := [], alts := [], laidByText := true, laidKinds := [.data, .data, .data], laidTests := true, laidLooks := .later }
def BackErasUptoCardSaid : Prop := Claim7.holds Tryd.pinned (.plain (OpenSpec.upto backErasSpec)) backErasUptoCard

/-- THE SECOND FORM's CARD OF 'timeballkeep.BackNorm'. -/
def backNormUptoCard : Claim7 := { stood := { row := backNormUptoRow, standIns := [], harness := (true, "17a1251947c5c84dc662f20a6d696d14d486d4ba6fc4c2a60fec93d394117a49"), looks := false }, kinds := [], alts := [], laidByText := true, laidKinds := [.data, .data, .data], laidTests := true, laidLooks := .later }
def BackNormUptoCardSaid : Prop := Claim7.holds Tryd.pinned (.plain (OpenSpec.upto backNormSpec)) backNormUptoCard

/-- THE SECOND FORM's CARD OF 'timeballkeep.RiteAges'. -/
def riteAgesUptoCard : Claim7 := { stood := { row := riteAgesUptoRow, standIns := [], harness := (true, "17a1251947c5c84dc662f20a6d696d14d486d4ba6fc4c2a60fec93d394117a49"), looks := false }, kinds := [], alts := [], laidByText := true, laidKinds := [.data, .data, .data], laidTests := true, laidLooks := .later }
def RiteAgesUptoCardSaid : Prop := Claim7.holds Tryd.pinned (.plain (OpenSpec.upto riteAgesSpec)) riteAgesUptoCard

/-- THE SECOND FORM's CARD OF 'timeballkeep.RiteTwo'. -/
def riteTwoUptoCard : Claim7 := { stood := { row := riteTwoUptoRow, standIns := [], harness := (true, "17a1251947c5c84dc662f20a6d696d14d486d4ba6fc4c2a60fec93d394117a49"), looks := false }, kinds := [], alts := [], laidByText := true, laidKinds := [.data, .data, .data], laidTests := true, laidLooks := .later }
def RiteTwoUptoCardSaid : Prop := Claim7.holds Tryd.pinned (.plain (OpenSpec.upto riteTwoSpec)) riteTwoUptoCard

/-- THE SECOND FORM's CARD OF 'timeballkeep.RiteTurned'. -/
def riteTurnedUptoCard : Claim7 := { stood := { row := riteTurnedUptoRow, standIns := [], harness := (true, "17a1251947c5c84dc662f20a6d696d14d486d4ba6fc4c2a60fec93d394117a49"), looks := false }, kinds := [], alts := [], laidByText := true, laidKinds := [.data, .data, .data], laidTests := true, laidLooks := .later }
def RiteTurnedUptoCardSaid : Prop := Claim7.holds Tryd.pinned (.plain (OpenSpec.upto riteTurnedSpec)) riteTurnedUptoCard

/-- THE SECOND FORM's CARD OF 'timeballkeep.RiteSwapped'. -/
def riteSwappedUptoCard : Claim7 := { stood := { row := riteSwappedUptoRow, standIns := [], harness := (true, "17a1251947c5c84dc662f20a6d696d14d486d4ba6fc4c2a60fec93d394117a49"), looks := false }, kinds := [], alts := [], laidByText := true, laidKinds := [.data, .data, .data], laidTests := true, laidLooks := .later }
def RiteSwappedUptoCardSaid : Prop := Claim7.holds Tryd.pinned (.plain (OpenSpec.upto riteSwappedSpec)) riteSwappedUptoCard

/-- THE SECOND FORM's CARD OF 'timeballkeep.RiteWeeks'. -/
def riteWeeksUptoCard : Claim7 := { stood := { row := riteWeeksUptoRow, standIns := [], harness := (true, "17a1251947c5c84dc662f20a6d696d14d486d4ba6fc4c2a60fec93d394117a49"), looks := false }, kinds := [], alts := [], laidByText := true, laidKinds := [.data, .data, .data], laidTests := true, laidLooks := .later }
def RiteWeeksUptoCardSaid : Prop := Claim7.holds Tryd.pinned (.plain (OpenSpec.upto riteWeeksSpec)) riteWeeksUptoCard
end Rows
end Go.Proofs.YtmjakhageehcoaaDoor
