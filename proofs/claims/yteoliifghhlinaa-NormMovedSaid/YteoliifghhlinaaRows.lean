/-
  No cell of these rows narrows 'for every input' (looked for: loops, veiled, ifaces, maps, wideKeys, modest, calm, conditions, laid).
  DERIVED. THE GIVEN ROWS OF THIS SEAT. 8 by the template 'for every input the law returns true; each argument reads behind the call as it read before'; 0 by the template 'total and deterministic' (their statements: YteoliifghhlinaaTotals.lean).
  GIVEN WITH THE SEED: the statements are not yours to turn. If you find one false, say at which input.
  Laid BY PROGRAM, IN A SANDBOX (cutbox-rows.mjs): the forced cells as the released guide's own fill.sh prints them over the translation a8d1090f0abcc762… (all of the seat's roots in one cut). By AI agents, Wed Nov 11 2026. No macro, syntax, notation, axiom, sorry.
-/
import Derived.Test.YteoliifghhlinaaChecked
import GoSem.Claim
import GoSem.ClaimJoined
import GoSem.ClaimMapViews
import Derived.JoinedTies
import Derived.KernelRfl
namespace Go.Proofs.Yteoliifghhlinaa
/- THE CELL 'sum', in the pinned program and in every row, IS THE sha256 OF THE DUMP (.gsa) THAT YteoliifghhlinaaProg.lean LOADS. Nothing in Lean hashes anything: it is a label: what it is worth is what the hold of that sum in a sandbox is worth. -/
noncomputable def Try.pinned : Pinned := { name := "yteoliifghhlinaa", sum := "a8d1090f0abcc762fd60368e78f03408ca42ea89fb10e5f4e64178224caaf5cd", checked := Try.checked }
namespace Rows
def none {H : Type} : Left H := { results := [], args := [] }

/-- 'timeballkeep.BetweenThree': WHATEVER THE INPUT: true; the input reads as it did. -/
def betweenThreeSpec : ChangeSpec := { name := "betweenThree", fn := fun _ => fun
  | [d1, d2, d3, d4, d5, d6] => { results := [.lit (.bool true)], args := [d1, d2, d3, d4, d5, d6] }
  | _ => none }
def betweenThreeRow : OpenClaim := { program := "yteoliifghhlinaa", sum := "a8d1090f0abcc762fd60368e78f03408ca42ea89fb10e5f4e64178224caaf5cd", func := "timeball/timeballkeep.BetweenThree", spec := "betweenThree", inPlace := ["internal/bytealg.IndexByteString", "internal/bytealg.IndexString"], unfollowed := true, recurses := true, named := ["internal/bytealg.MaxLen"], apart := false }
def BetweenThreeSaid : Prop := betweenThreeRow.holds Try.pinned (OpenSpec.ofChange betweenThreeSpec)

/-- ITS FALSE NEIGHBOUR: 'it returns false'. Refute it at one input. -/
def betweenThreeWrong : ChangeSpec := { name := "betweenThree", fn := fun _ => fun
  | [d1, d2, d3, d4, d5, d6] => { results := [.lit (.bool false)], args := [d1, d2, d3, d4, d5, d6] }
  | _ => none }
def BetweenThreeWrongFalsely : Prop := betweenThreeRow.holds Try.pinned (OpenSpec.ofChange betweenThreeWrong)

/-- 'timeballkeep.NormOne': WHATEVER THE INPUT: true; the input reads as it did. -/
def normOneSpec : ChangeSpec := { name := "normOne", fn := fun _ => fun
  | [d1, d2] => { results := [.lit (.bool true)], args := [d1, d2] }
  | _ => none }
def normOneRow : OpenClaim := { program := "yteoliifghhlinaa", sum := "a8d1090f0abcc762fd60368e78f03408ca42ea89fb10e5f4e64178224caaf5cd", func := "timeball/timeballkeep.NormOne", spec := "normOne", inPlace := ["internal/bytealg.IndexByteString", "internal/bytealg.IndexString"], unfollowed := true, recurses := true, named := ["internal/bytealg.MaxLen"], apart := false }
def NormOneSaid : Prop := normOneRow.holds Try.pinned (OpenSpec.ofChange normOneSpec)

/-- ITS FALSE NEIGHBOUR: 'it returns false'. Refute it at one input. -/
def normOneWrong : ChangeSpec := { name := "normOne", fn := fun _ => fun
  | [d1, d2] => { results := [.lit (.bool false)], args := [d1, d2] }
  | _ => none }
def NormOneWrongFalsely : Prop := normOneRow.holds Try.pinned (OpenSpec.ofChange normOneWrong)

/-- 'timeballkeep.NormOrder': WHATEVER THE INPUT: true; the input reads as it did. -/
def normOrderSpec : ChangeSpec := { name := "normOrder", fn := fun _ => fun
  | [d] => { results := [.lit (.bool true)], args := [d] }
  | _ => none }
def normOrderRow : OpenClaim := { program := "yteoliifghhlinaa", sum := "a8d1090f0abcc762fd60368e78f03408ca42ea89fb10e5f4e64178224caaf5cd", func := "timeball/timeballkeep.NormOrder", spec := "normOrder", inPlace := ["internal/bytealg.IndexByteString", "internal/bytealg.IndexString"], unfollowed := true, recurses := true, named := ["internal/bytealg.MaxLen"], apart := false }
def NormOrderSaid : Prop := normOrderRow.holds Try.pinned (OpenSpec.ofChange normOrderSpec)

/-- ITS FALSE NEIGHBOUR: 'it returns false'. Refute it at one input. -/
def normOrderWrong : ChangeSpec := { name := "normOrder", fn := fun _ => fun
  | [d] => { results := [.lit (.bool false)], args := [d] }
  | _ => none }
def NormOrderWrongFalsely : Prop := normOrderRow.holds Try.pinned (OpenSpec.ofChange normOrderWrong)

/-- 'timeballkeep.NormSpans': WHATEVER THE INPUT: true; the input reads as it did. -/
def normSpansSpec : ChangeSpec := { name := "normSpans", fn := fun _ => fun
  | [d1, d2, d3, d4, d5] => { results := [.lit (.bool true)], args := [d1, d2, d3, d4, d5] }
  | _ => none }
def normSpansRow : OpenClaim := { program := "yteoliifghhlinaa", sum := "a8d1090f0abcc762fd60368e78f03408ca42ea89fb10e5f4e64178224caaf5cd", func := "timeball/timeballkeep.NormSpans", spec := "normSpans", inPlace := ["internal/bytealg.IndexByteString", "internal/bytealg.IndexString"], unfollowed := true, recurses := true, named := ["internal/bytealg.MaxLen"], apart := false }
def NormSpansSaid : Prop := normSpansRow.holds Try.pinned (OpenSpec.ofChange normSpansSpec)

/-- ITS FALSE NEIGHBOUR: 'it returns false'. Refute it at one input. -/
def normSpansWrong : ChangeSpec := { name := "normSpans", fn := fun _ => fun
  | [d1, d2, d3, d4, d5] => { results := [.lit (.bool false)], args := [d1, d2, d3, d4, d5] }
  | _ => none }
def NormSpansWrongFalsely : Prop := normSpansRow.holds Try.pinned (OpenSpec.ofChange normSpansWrong)

/-- 'timeballkeep.NormTypes': WHATEVER THE INPUT: true; the input reads as it did. -/
def normTypesSpec : ChangeSpec := { name := "normTypes", fn := fun _ => fun
  | [d1, d2] => { results := [.lit (.bool true)], args := [d1, d2] }
  | _ => none }
def normTypesRow : OpenClaim := { program := "yteoliifghhlinaa", sum := "a8d1090f0abcc762fd60368e78f03408ca42ea89fb10e5f4e64178224caaf5cd", func := "timeball/timeballkeep.NormTypes", spec := "normTypes", inPlace := ["internal/bytealg.IndexByteString", "internal/bytealg.IndexString"], unfollowed := true, recurses := true, named := ["internal/bytealg.MaxLen"], apart := false }
def NormTypesSaid : Prop := normTypesRow.holds Try.pinned (OpenSpec.ofChange normTypesSpec)

/-- ITS FALSE NEIGHBOUR: 'it returns false'. Refute it at one input. -/
def normTypesWrong : ChangeSpec := { name := "normTypes", fn := fun _ => fun
  | [d1, d2] => { results := [.lit (.bool false)], args := [d1, d2] }
  | _ => none }
def NormTypesWrongFalsely : Prop := normTypesRow.holds Try.pinned (OpenSpec.ofChange normTypesWrong)

/-- 'timeballkeep.BetweenNone': WHATEVER THE INPUT: true; the input reads as it did. -/
def betweenNoneSpec : ChangeSpec := { name := "betweenNone", fn := fun _ => fun
  | [d1, d2, d3] => { results := [.lit (.bool true)], args := [d1, d2, d3] }
  | _ => none }
def betweenNoneRow : OpenClaim := { program := "yteoliifghhlinaa", sum := "a8d1090f0abcc762fd60368e78f03408ca42ea89fb10e5f4e64178224caaf5cd", func := "timeball/timeballkeep.BetweenNone", spec := "betweenNone", inPlace := ["internal/bytealg.IndexByteString", "internal/bytealg.IndexString"], unfollowed := true, recurses := true, named := ["internal/bytealg.MaxLen"], apart := false }
def BetweenNoneSaid : Prop := betweenNoneRow.holds Try.pinned (OpenSpec.ofChange betweenNoneSpec)

/-- ITS FALSE NEIGHBOUR: 'it returns false'. Refute it at one input. -/
def betweenNoneWrong : ChangeSpec := { name := "betweenNone", fn := fun _ => fun
  | [d1, d2, d3] => { results := [.lit (.bool false)], args := [d1, d2, d3] }
  | _ => none }
def BetweenNoneWrongFalsely : Prop := betweenNoneRow.holds Try.pinned (OpenSpec.ofChange betweenNoneWrong)

/-- 'timeballkeep.NormBack': WHATEVER THE INPUT: true; the input reads as it did. -/
def normBackSpec : ChangeSpec := { name := "normBack", fn := fun _ => fun
  | [d1, d2] => { results := [.lit (.bool true)], args := [d1, d2] }
  | _ => none }
def normBackRow : OpenClaim := { program := "yteoliifghhlinaa", sum := "a8d1090f0abcc762fd60368e78f03408ca42ea89fb10e5f4e64178224caaf5cd", func := "timeball/timeballkeep.NormBack", spec := "normBack", inPlace := ["internal/bytealg.IndexByteString", "internal/bytealg.IndexString"], unfollowed := true, recurses := true, named := ["internal/bytealg.MaxLen"], apart := false }
def NormBackSaid : Prop := normBackRow.holds Try.pinned (OpenSpec.ofChange normBackSpec)

/-- ITS FALSE NEIGHBOUR: 'it returns false'. Refute it at one input. -/
def normBackWrong : ChangeSpec := { name := "normBack", fn := fun _ => fun
  | [d1, d2] => { results := [.lit (.bool false)], args := [d1, d2] }
  | _ => none }
def NormBackWrongFalsely : Prop := normBackRow.holds Try.pinned (OpenSpec.ofChange normBackWrong)

/-- 'timeballkeep.NormMoved': WHATEVER THE INPUT: true; the input reads as it did. -/
def normMovedSpec : ChangeSpec := { name := "normMoved", fn := fun _ => fun
  | [d1, d2, d3] => { results := [.lit (.bool true)], args := [d1, d2, d3] }
  | _ => none }
def normMovedRow : OpenClaim := { program := "yteoliifghhlinaa", sum := "a8d1090f0abcc762fd60368e78f03408ca42ea89fb10e5f4e64178224caaf5cd", func := "timeball/timeballkeep.NormMoved", spec := "normMoved", inPlace := ["internal/bytealg.IndexByteString", "internal/bytealg.IndexString"], unfollowed := true, recurses := true, named := ["internal/bytealg.MaxLen"], apart := false }
def NormMovedSaid : Prop := normMovedRow.holds Try.pinned (OpenSpec.ofChange normMovedSpec)

/-- ITS FALSE NEIGHBOUR: 'it returns false'. Refute it at one input. -/
def normMovedWrong : ChangeSpec := { name := "normMoved", fn := fun _ => fun
  | [d1, d2, d3] => { results := [.lit (.bool false)], args := [d1, d2, d3] }
  | _ => none }
def NormMovedWrongFalsely : Prop := normMovedRow.holds Try.pinned (OpenSpec.ofChange normMovedWrong)

/- THE SECOND FORM. 'bulk': how many values and letters a reading holds, each counted each time it is reached (what is shared counts as often as it is met; a slice's spare places count too). A statement '..UptoSaid' is the law's where the arguments, and the package variables that the reading takes, are together of bulk at most 1048576: NARROWER than '..Said'. Prove '..Said' where nothing that the law and all that it calls make is longer than what came in: it says more and counts as full. Else prove '..UptoSaid'. A law counts once. -/
mutual
def uptoBulk {H : Type} : DataW H → Nat
  | .lit (.string bytes) => bytes.length + 1
  | .lit _ => 1
  | .nil => 1
  | .ptr d => uptoBulk d + 1
  | .slice elems spare => uptoBulkAll elems + uptoBulkAll spare + 1
  | .agg parts => uptoBulkAll parts + 1
  | .iface _ d => uptoBulk d + 1
  | .map entries => uptoBulkEntries entries + 1
  | .held _ => 1
def uptoBulkAll {H : Type} : List (DataW H) → Nat
  | [] => 0
  | d :: r => uptoBulk d + uptoBulkAll r
def uptoBulkEntries {H : Type} : List (Lit × DataW H) → Nat
  | [] => 0
  | x :: r => uptoBulkEntry x + uptoBulkEntries r
def uptoBulkEntry {H : Type} : Lit × DataW H → Nat
  | (.string bytes, d) => bytes.length + uptoBulk d + 1
  | (_, d) => uptoBulk d + 1
 end
def uptoSmall : (H : Type) → List (DataW H) → Bool := fun _ ds => decide (uptoBulkAll ds ≤ 1048576)
def OpenSpec.upto (s : _root_.Go.ChangeSpec) : _root_.Go.OpenSpec := { _root_.Go.OpenSpec.ofChange s with cond := some uptoSmall }

/-- 'timeballkeep.BetweenThree', WHERE WHAT IT READS IS OF BULK AT MOST 1048576: true; the input reads as it did. -/
def betweenThreeUptoRow : OpenClaim := { program := "yteoliifghhlinaa", sum := "a8d1090f0abcc762fd60368e78f03408ca42ea89fb10e5f4e64178224caaf5cd", func := "timeball/timeballkeep.BetweenThree", spec := "betweenThree", inPlace := ["internal/bytealg.IndexByteString", "internal/bytealg.IndexString"], unfollowed := true, recurses := true, named := ["internal/bytealg.MaxLen"], apart := false, narrowed := true }
def BetweenThreeUptoSaid : Prop := betweenThreeUptoRow.holds Try.pinned (OpenSpec.upto betweenThreeSpec)

/-- 'timeballkeep.NormOne', WHERE WHAT IT READS IS OF BULK AT MOST 1048576: true; the input reads as it did. -/
def normOneUptoRow : OpenClaim := { program := "yteoliifghhlinaa", sum := "a8d1090f0abcc762fd60368e78f03408ca42ea89fb10e5f4e64178224caaf5cd", func := "timeball/timeballkeep.NormOne", spec := "normOne", inPlace := ["internal/bytealg.IndexByteString", "internal/bytealg.IndexString"], unfollowed := true, recurses := true, named := ["internal/bytealg.MaxLen"], apart := false, narrowed := true }
def NormOneUptoSaid : Prop := normOneUptoRow.holds Try.pinned (OpenSpec.upto normOneSpec)

/-- 'timeballkeep.NormOrder', WHERE WHAT IT READS IS OF BULK AT MOST 1048576: true; the input reads as it did. -/
def normOrderUptoRow : OpenClaim := { program := "yteoliifghhlinaa", sum := "a8d1090f0abcc762fd60368e78f03408ca42ea89fb10e5f4e64178224caaf5cd", func := "timeball/timeballkeep.NormOrder", spec := "normOrder", inPlace := ["internal/bytealg.IndexByteString", "internal/bytealg.IndexString"], unfollowed := true, recurses := true, named := ["internal/bytealg.MaxLen"], apart := false, narrowed := true }
def NormOrderUptoSaid : Prop := normOrderUptoRow.holds Try.pinned (OpenSpec.upto normOrderSpec)

/-- 'timeballkeep.NormSpans', WHERE WHAT IT READS IS OF BULK AT MOST 1048576: true; the input reads as it did. -/
def normSpansUptoRow : OpenClaim := { program := "yteoliifghhlinaa", sum := "a8d1090f0abcc762fd60368e78f03408ca42ea89fb10e5f4e64178224caaf5cd", func := "timeball/timeballkeep.NormSpans", spec := "normSpans", inPlace := ["internal/bytealg.IndexByteString", "internal/bytealg.IndexString"], unfollowed := true, recurses := true, named := ["internal/bytealg.MaxLen"], apart := false, narrowed := true }
def NormSpansUptoSaid : Prop := normSpansUptoRow.holds Try.pinned (OpenSpec.upto normSpansSpec)

/-- 'timeballkeep.NormTypes', WHERE WHAT IT READS IS OF BULK AT MOST 1048576: true; the input reads as it did. -/
def normTypesUptoRow : OpenClaim := { program := "yteoliifghhlinaa", sum := "a8d1090f0abcc762fd60368e78f03408ca42ea89fb10e5f4e64178224caaf5cd", func := "timeball/timeballkeep.NormTypes", spec := "normTypes", inPlace := ["internal/bytealg.IndexByteString", "internal/bytealg.IndexString"], unfollowed := true, recurses := true, named := ["internal/bytealg.MaxLen"], apart := false, narrowed := true }
def NormTypesUptoSaid : Prop := normTypesUptoRow.holds Try.pinned (OpenSpec.upto normTypesSpec)

/-- 'timeballkeep.BetweenNone', WHERE WHAT IT READS IS OF BULK AT MOST 1048576: true; the input reads as it did. -/
def betweenNoneUptoRow : OpenClaim := { program := "yteoliifghhlinaa", sum := "a8d1090f0abcc762fd60368e78f03408ca42ea89fb10e5f4e64178224caaf5cd", func := "timeball/timeballkeep.BetweenNone", spec := "betweenNone", inPlace := ["internal/bytealg.IndexByteString", "internal/bytealg.IndexString"], unfollowed := true, recurses := true, named := ["internal/bytealg.MaxLen"], apart := false, narrowed := true }
def BetweenNoneUptoSaid : Prop := betweenNoneUptoRow.holds Try.pinned (OpenSpec.upto betweenNoneSpec)

/-- 'timeballkeep.NormBack', WHERE WHAT IT READS IS OF BULK AT MOST 1048576: true; the input reads as it did. -/
def normBackUptoRow : OpenClaim := { program := "yteoliifghhlinaa", sum := "a8d1090f0abcc762fd60368e78f03408ca42ea89fb10e5f4e64178224caaf5cd", func := "timeball/timeballkeep.NormBack", spec := "normBack", inPlace := ["internal/bytealg.IndexByteString", "internal/bytealg.IndexString"], unfollowed := true, recurses := true, named := ["internal/bytealg.MaxLen"], apart := false, narrowed := true }
def NormBackUptoSaid : Prop := normBackUptoRow.holds Try.pinned (OpenSpec.upto normBackSpec)

/-- 'timeballkeep.NormMoved', WHERE WHAT IT READS IS OF BULK AT MOST 1048576: true; the input reads as it did. -/
def normMovedUptoRow : OpenClaim := { program := "yteoliifghhlinaa", sum := "a8d1090f0abcc762fd60368e78f03408ca42ea89fb10e5f4e64178224caaf5cd", func := "timeball/timeballkeep.NormMoved", spec := "normMoved", inPlace := ["internal/bytealg.IndexByteString", "internal/bytealg.IndexString"], unfollowed := true, recurses := true, named := ["internal/bytealg.MaxLen"], apart := false, narrowed := true }
def NormMovedUptoSaid : Prop := normMovedUptoRow.holds Try.pinned (OpenSpec.upto normMovedSpec)

end Rows
end Go.Proofs.Yteoliifghhlinaa
