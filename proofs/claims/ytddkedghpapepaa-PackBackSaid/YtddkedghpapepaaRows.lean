/-
  No cell of these rows narrows 'for every input' (looked for: loops, veiled, ifaces, maps, wideKeys, modest, calm, conditions, laid).
  DERIVED. THE GIVEN ROWS OF THIS SEAT. 9 by the template 'for every input the law returns true; each argument reads behind the call as it read before'; 0 by the template 'total and deterministic' (their statements: YtddkedghpapepaaTotals.lean).
  GIVEN WITH THE SEED: the statements are not yours to turn. If you find one false, say at which input.
  Laid BY PROGRAM, IN A SANDBOX (cutbox-rows.mjs): the forced cells as the released guide's own fill.sh prints them over the translation 0d3041356fdc160f… (all of the seat's roots in one cut). By AI agents, Wed Nov 11 2026. No macro, syntax, notation, axiom, sorry.
-/
import Derived.Test.YtddkedghpapepaaChecked
import GoSem.Claim
import GoSem.ClaimJoined
import GoSem.ClaimMapViews
import Derived.JoinedTies
import Derived.KernelRfl
namespace Go.Proofs.Ytddkedghpapepaa
/- THE CELL 'sum', in the pinned program and in every row, IS THE sha256 OF THE DUMP (.gsa) THAT YtddkedghpapepaaProg.lean LOADS. Nothing in Lean hashes anything: it is a label: what it is worth is what the hold of that sum in a sandbox is worth. -/
noncomputable def Try.pinned : Pinned := { name := "ytddkedghpapepaa", sum := "0d3041356fdc160fe0e6b7e19fabadfcdd904947ada1b4a743e22a2f3c2d2e1d", checked := Try.checked }
namespace Rows
def none {H : Type} : Left H := { results := [], args := [] }

/-- 'timeballkeep.PackSize': WHATEVER THE INPUT: true; the input reads as it did. -/
def packSizeSpec : ChangeSpec := { name := "packSize", fn := fun _ => fun
  | [d] => { results := [.lit (.bool true)], args := [d] }
  | _ => none }
def packSizeRow : OpenClaim := { program := "ytddkedghpapepaa", sum := "0d3041356fdc160fe0e6b7e19fabadfcdd904947ada1b4a743e22a2f3c2d2e1d", func := "timeball/timeballkeep.PackSize", spec := "packSize", inPlace := ["internal/bytealg.IndexByteString", "internal/bytealg.IndexString"], named := ["internal/bytealg.MaxLen"], apart := false }
def PackSizeSaid : Prop := packSizeRow.holds Try.pinned (OpenSpec.ofChange packSizeSpec)

/-- ITS FALSE NEIGHBOUR: 'it returns false'. Refute it at one input. -/
def packSizeWrong : ChangeSpec := { name := "packSize", fn := fun _ => fun
  | [d] => { results := [.lit (.bool false)], args := [d] }
  | _ => none }
def PackSizeWrongFalsely : Prop := packSizeRow.holds Try.pinned (OpenSpec.ofChange packSizeWrong)

/-- 'timeballkeep.WallForward': WHATEVER THE INPUT: true; the input reads as it did. -/
def wallForwardSpec : ChangeSpec := { name := "wallForward", fn := fun _ => fun
  | [d1, d2, d3] => { results := [.lit (.bool true)], args := [d1, d2, d3] }
  | _ => none }
def wallForwardRow : OpenClaim := { program := "ytddkedghpapepaa", sum := "0d3041356fdc160fe0e6b7e19fabadfcdd904947ada1b4a743e22a2f3c2d2e1d", func := "timeball/timeballkeep.WallForward", spec := "wallForward", inPlace := ["internal/bytealg.IndexByteString", "internal/bytealg.IndexString"], unfollowed := true, recurses := true, named := ["internal/bytealg.MaxLen"], apart := false }
def WallForwardSaid : Prop := wallForwardRow.holds Try.pinned (OpenSpec.ofChange wallForwardSpec)

/-- ITS FALSE NEIGHBOUR: 'it returns false'. Refute it at one input. -/
def wallForwardWrong : ChangeSpec := { name := "wallForward", fn := fun _ => fun
  | [d1, d2, d3] => { results := [.lit (.bool false)], args := [d1, d2, d3] }
  | _ => none }
def WallForwardWrongFalsely : Prop := wallForwardRow.holds Try.pinned (OpenSpec.ofChange wallForwardWrong)

/-- 'timeballkeep.WallBack': WHATEVER THE INPUT: true; the input reads as it did. -/
def wallBackSpec : ChangeSpec := { name := "wallBack", fn := fun _ => fun
  | [d1, d2, d3] => { results := [.lit (.bool true)], args := [d1, d2, d3] }
  | _ => none }
def wallBackRow : OpenClaim := { program := "ytddkedghpapepaa", sum := "0d3041356fdc160fe0e6b7e19fabadfcdd904947ada1b4a743e22a2f3c2d2e1d", func := "timeball/timeballkeep.WallBack", spec := "wallBack", inPlace := ["internal/bytealg.IndexByteString", "internal/bytealg.IndexString"], unfollowed := true, recurses := true, named := ["internal/bytealg.MaxLen"], apart := false }
def WallBackSaid : Prop := wallBackRow.holds Try.pinned (OpenSpec.ofChange wallBackSpec)

/-- ITS FALSE NEIGHBOUR: 'it returns false'. Refute it at one input. -/
def wallBackWrong : ChangeSpec := { name := "wallBack", fn := fun _ => fun
  | [d1, d2, d3] => { results := [.lit (.bool false)], args := [d1, d2, d3] }
  | _ => none }
def WallBackWrongFalsely : Prop := wallBackRow.holds Try.pinned (OpenSpec.ofChange wallBackWrong)

/-- 'timeballkeep.WallRises': WHATEVER THE INPUT: true; the input reads as it did. -/
def wallRisesSpec : ChangeSpec := { name := "wallRises", fn := fun _ => fun
  | [d1, d2] => { results := [.lit (.bool true)], args := [d1, d2] }
  | _ => none }
def wallRisesRow : OpenClaim := { program := "ytddkedghpapepaa", sum := "0d3041356fdc160fe0e6b7e19fabadfcdd904947ada1b4a743e22a2f3c2d2e1d", func := "timeball/timeballkeep.WallRises", spec := "wallRises", inPlace := ["internal/bytealg.IndexByteString", "internal/bytealg.IndexString"], unfollowed := true, recurses := true, named := ["internal/bytealg.MaxLen"], apart := false }
def WallRisesSaid : Prop := wallRisesRow.holds Try.pinned (OpenSpec.ofChange wallRisesSpec)

/-- ITS FALSE NEIGHBOUR: 'it returns false'. Refute it at one input. -/
def wallRisesWrong : ChangeSpec := { name := "wallRises", fn := fun _ => fun
  | [d1, d2] => { results := [.lit (.bool false)], args := [d1, d2] }
  | _ => none }
def WallRisesWrongFalsely : Prop := wallRisesRow.holds Try.pinned (OpenSpec.ofChange wallRisesWrong)

/-- 'timeballkeep.WallDaily': WHATEVER THE INPUT: true; the input reads as it did. -/
def wallDailySpec : ChangeSpec := { name := "wallDaily", fn := fun _ => fun
  | [d1, d2, d3] => { results := [.lit (.bool true)], args := [d1, d2, d3] }
  | _ => none }
def wallDailyRow : OpenClaim := { program := "ytddkedghpapepaa", sum := "0d3041356fdc160fe0e6b7e19fabadfcdd904947ada1b4a743e22a2f3c2d2e1d", func := "timeball/timeballkeep.WallDaily", spec := "wallDaily", inPlace := ["internal/bytealg.IndexByteString", "internal/bytealg.IndexString"], unfollowed := true, recurses := true, named := ["internal/bytealg.MaxLen"], apart := false }
def WallDailySaid : Prop := wallDailyRow.holds Try.pinned (OpenSpec.ofChange wallDailySpec)

/-- ITS FALSE NEIGHBOUR: 'it returns false'. Refute it at one input. -/
def wallDailyWrong : ChangeSpec := { name := "wallDaily", fn := fun _ => fun
  | [d1, d2, d3] => { results := [.lit (.bool false)], args := [d1, d2, d3] }
  | _ => none }
def WallDailyWrongFalsely : Prop := wallDailyRow.holds Try.pinned (OpenSpec.ofChange wallDailyWrong)

/-- 'timeballkeep.WallLongDays': WHATEVER THE INPUT: true; the input reads as it did. -/
def wallLongDaysSpec : ChangeSpec := { name := "wallLongDays", fn := fun _ => fun
  | [d1, d2, d3] => { results := [.lit (.bool true)], args := [d1, d2, d3] }
  | _ => none }
def wallLongDaysRow : OpenClaim := { program := "ytddkedghpapepaa", sum := "0d3041356fdc160fe0e6b7e19fabadfcdd904947ada1b4a743e22a2f3c2d2e1d", func := "timeball/timeballkeep.WallLongDays", spec := "wallLongDays", inPlace := ["internal/bytealg.IndexByteString", "internal/bytealg.IndexString"], unfollowed := true, recurses := true, named := ["internal/bytealg.MaxLen"], apart := false }
def WallLongDaysSaid : Prop := wallLongDaysRow.holds Try.pinned (OpenSpec.ofChange wallLongDaysSpec)

/-- ITS FALSE NEIGHBOUR: 'it returns false'. Refute it at one input. -/
def wallLongDaysWrong : ChangeSpec := { name := "wallLongDays", fn := fun _ => fun
  | [d1, d2, d3] => { results := [.lit (.bool false)], args := [d1, d2, d3] }
  | _ => none }
def WallLongDaysWrongFalsely : Prop := wallLongDaysRow.holds Try.pinned (OpenSpec.ofChange wallLongDaysWrong)

/-- 'timeballkeep.PackBack': WHATEVER THE INPUT: true; the input reads as it did. -/
def packBackSpec : ChangeSpec := { name := "packBack", fn := fun _ => fun
  | [d1, d2] => { results := [.lit (.bool true)], args := [d1, d2] }
  | _ => none }
def packBackRow : OpenClaim := { program := "ytddkedghpapepaa", sum := "0d3041356fdc160fe0e6b7e19fabadfcdd904947ada1b4a743e22a2f3c2d2e1d", func := "timeball/timeballkeep.PackBack", spec := "packBack", inPlace := ["internal/bytealg.IndexByteString", "internal/bytealg.IndexString"], named := ["internal/bytealg.MaxLen"], apart := false }
def PackBackSaid : Prop := packBackRow.holds Try.pinned (OpenSpec.ofChange packBackSpec)

/-- ITS FALSE NEIGHBOUR: 'it returns false'. Refute it at one input. -/
def packBackWrong : ChangeSpec := { name := "packBack", fn := fun _ => fun
  | [d1, d2] => { results := [.lit (.bool false)], args := [d1, d2] }
  | _ => none }
def PackBackWrongFalsely : Prop := packBackRow.holds Try.pinned (OpenSpec.ofChange packBackWrong)

/-- 'timeballkeep.PackCut': WHATEVER THE INPUT: true; the input reads as it did. -/
def packCutSpec : ChangeSpec := { name := "packCut", fn := fun _ => fun
  | [d1, d2, d3] => { results := [.lit (.bool true)], args := [d1, d2, d3] }
  | _ => none }
def packCutRow : OpenClaim := { program := "ytddkedghpapepaa", sum := "0d3041356fdc160fe0e6b7e19fabadfcdd904947ada1b4a743e22a2f3c2d2e1d", func := "timeball/timeballkeep.PackCut", spec := "packCut", inPlace := ["internal/bytealg.IndexByteString", "internal/bytealg.IndexString"], named := ["internal/bytealg.MaxLen"], apart := false }
def PackCutSaid : Prop := packCutRow.holds Try.pinned (OpenSpec.ofChange packCutSpec)

/-- ITS FALSE NEIGHBOUR: 'it returns false'. Refute it at one input. -/
def packCutWrong : ChangeSpec := { name := "packCut", fn := fun _ => fun
  | [d1, d2, d3] => { results := [.lit (.bool false)], args := [d1, d2, d3] }
  | _ => none }
def PackCutWrongFalsely : Prop := packCutRow.holds Try.pinned (OpenSpec.ofChange packCutWrong)

/-- 'timeballkeep.WallNext': WHATEVER THE INPUT: true; the input reads as it did. -/
def wallNextSpec : ChangeSpec := { name := "wallNext", fn := fun _ => fun
  | [d1, d2, d3, d4] => { results := [.lit (.bool true)], args := [d1, d2, d3, d4] }
  | _ => none }
def wallNextRow : OpenClaim := { program := "ytddkedghpapepaa", sum := "0d3041356fdc160fe0e6b7e19fabadfcdd904947ada1b4a743e22a2f3c2d2e1d", func := "timeball/timeballkeep.WallNext", spec := "wallNext", inPlace := ["internal/bytealg.IndexByteString", "internal/bytealg.IndexString"], unfollowed := true, recurses := true, named := ["internal/bytealg.MaxLen"], apart := false }
def WallNextSaid : Prop := wallNextRow.holds Try.pinned (OpenSpec.ofChange wallNextSpec)

/-- ITS FALSE NEIGHBOUR: 'it returns false'. Refute it at one input. -/
def wallNextWrong : ChangeSpec := { name := "wallNext", fn := fun _ => fun
  | [d1, d2, d3, d4] => { results := [.lit (.bool false)], args := [d1, d2, d3, d4] }
  | _ => none }
def WallNextWrongFalsely : Prop := wallNextRow.holds Try.pinned (OpenSpec.ofChange wallNextWrong)

/- THE SECOND FORM. 'bulk': how many values and letters a reading holds, each counted each time it is reached (what is shared counts as often as it is met; a slice's spare places count too). A statement '..UptoSaid' is the law's where the arguments, and the package variables that the reading takes, are together of bulk at most 1048576: NARROWER than '..Said'. Prove '..Said' where nothing that the law and all that it calls make is longer than what came in: it says more and counts as full. Else prove '..UptoSaid'. A law counts once. -/
mutual
def uptoBulk {H : Type} : DataW H → Nat
  | .lit (.string bytes) => bytes.length + 1
  | .lit _ => 1
  | .nil => 1
  | .ptr d => uptoBulk d + 1
  | .slice elems spare => uptoBulkAll elems + uptoBulkAll spare + 1
  | .agg parts => uptoBulkAll parts + 1
  | .iface _ d => uptoBulk d + 1
  | .map entries => uptoBulkEntries entries + 1
  | .held _ => 1
def uptoBulkAll {H : Type} : List (DataW H) → Nat
  | [] => 0
  | d :: r => uptoBulk d + uptoBulkAll r
def uptoBulkEntries {H : Type} : List (Lit × DataW H) → Nat
  | [] => 0
  | x :: r => uptoBulkEntry x + uptoBulkEntries r
def uptoBulkEntry {H : Type} : Lit × DataW H → Nat
  | (.string bytes, d) => bytes.length + uptoBulk d + 1
  | (_, d) => uptoBulk d + 1
 end
def uptoSmall : (H : Type) → List (DataW H) → Bool := fun _ ds => decide (uptoBulkAll ds ≤ 1048576)
def OpenSpec.upto (s : _root_.Go.ChangeSpec) : _root_.Go.OpenSpec := { _root_.Go.OpenSpec.ofChange s with cond := some uptoSmall }

/-- 'timeballkeep.PackSize', WHERE WHAT IT READS IS OF BULK AT MOST 1048576: true; the input reads as it did. -/
def packSizeUptoRow : OpenClaim := { program := "ytddkedghpapepaa", sum := "0d3041356fdc160fe0e6b7e19fabadfcdd904947ada1b4a743e22a2f3c2d2e1d", func := "timeball/timeballkeep.PackSize", spec := "packSize", inPlace := ["internal/bytealg.IndexByteString", "internal/bytealg.IndexString"], named := ["internal/bytealg.MaxLen"], apart := false, narrowed := true }
def PackSizeUptoSaid : Prop := packSizeUptoRow.holds Try.pinned (OpenSpec.upto packSizeSpec)

/-- 'timeballkeep.WallForward', WHERE WHAT IT READS IS OF BULK AT MOST 1048576: true; the input reads as it did. -/
def wallForwardUptoRow : OpenClaim := { program := "ytddkedghpapepaa", sum := "0d3041356fdc160fe0e6b7e19fabadfcdd904947ada1b4a743e22a2f3c2d2e1d", func := "timeball/timeballkeep.WallForward", spec := "wallForward", inPlace := ["internal/bytealg.IndexByteString", "internal/bytealg.IndexString"], unfollowed := true, recurses := true, named := ["internal/bytealg.MaxLen"], apart := false, narrowed := true }
def WallForwardUptoSaid : Prop := wallForwardUptoRow.holds Try.pinned (OpenSpec.upto wallForwardSpec)

/-- 'timeballkeep.WallBack', WHERE WHAT IT READS IS OF BULK AT MOST 1048576: true; the input reads as it did. -/
def wallBackUptoRow : OpenClaim := { program := "ytddkedghpapepaa", sum := "0d3041356fdc160fe0e6b7e19fabadfcdd904947ada1b4a743e22a2f3c2d2e1d", func := "timeball/timeballkeep.WallBack", spec := "wallBack", inPlace := ["internal/bytealg.IndexByteString", "internal/bytealg.IndexString"], unfollowed := true, recurses := true, named := ["internal/bytealg.MaxLen"], apart := false, narrowed := true }
def WallBackUptoSaid : Prop := wallBackUptoRow.holds Try.pinned (OpenSpec.upto wallBackSpec)

/-- 'timeballkeep.WallRises', WHERE WHAT IT READS IS OF BULK AT MOST 1048576: true; the input reads as it did. -/
def wallRisesUptoRow : OpenClaim := { program := "ytddkedghpapepaa", sum := "0d3041356fdc160fe0e6b7e19fabadfcdd904947ada1b4a743e22a2f3c2d2e1d", func := "timeball/timeballkeep.WallRises", spec := "wallRises", inPlace := ["internal/bytealg.IndexByteString", "internal/bytealg.IndexString"], unfollowed := true, recurses := true, named := ["internal/bytealg.MaxLen"], apart := false, narrowed := true }
def WallRisesUptoSaid : Prop := wallRisesUptoRow.holds Try.pinned (OpenSpec.upto wallRisesSpec)

/-- 'timeballkeep.WallDaily', WHERE WHAT IT READS IS OF BULK AT MOST 1048576: true; the input reads as it did. -/
def wallDailyUptoRow : OpenClaim := { program := "ytddkedghpapepaa", sum := "0d3041356fdc160fe0e6b7e19fabadfcdd904947ada1b4a743e22a2f3c2d2e1d", func := "timeball/timeballkeep.WallDaily", spec := "wallDaily", inPlace := ["internal/bytealg.IndexByteString", "internal/bytealg.IndexString"], unfollowed := true, recurses := true, named := ["internal/bytealg.MaxLen"], apart := false, narrowed := true }
def WallDailyUptoSaid : Prop := wallDailyUptoRow.holds Try.pinned (OpenSpec.upto wallDailySpec)

/-- 'timeballkeep.WallLongDays', WHERE WHAT IT READS IS OF BULK AT MOST 1048576: true; the input reads as it did. -/
def wallLongDaysUptoRow : OpenClaim := { program := "ytddkedghpapepaa", sum := "0d3041356fdc160fe0e6b7e19fabadfcdd904947ada1b4a743e22a2f3c2d2e1d", func := "timeball/timeballkeep.WallLongDays", spec := "wallLongDays", inPlace := ["internal/bytealg.IndexByteString", "internal/bytealg.IndexString"], unfollowed := true, recurses := true, named := ["internal/bytealg.MaxLen"], apart := false, narrowed := true }
def WallLongDaysUptoSaid : Prop := wallLongDaysUptoRow.holds Try.pinned (OpenSpec.upto wallLongDaysSpec)

/-- 'timeballkeep.PackBack', WHERE WHAT IT READS IS OF BULK AT MOST 1048576: true; the input reads as it did. -/
def packBackUptoRow : OpenClaim := { program := "ytddkedghpapepaa", sum := "0d3041356fdc160fe0e6b7e19fabadfcdd904947ada1b4a743e22a2f3c2d2e1d", func := "timeball/timeballkeep.PackBack", spec := "packBack", inPlace := ["internal/bytealg.IndexByteString", "internal/bytealg.IndexString"], named := ["internal/bytealg.MaxLen"], apart := false, narrowed := true }
def PackBackUptoSaid : Prop := packBackUptoRow.holds Try.pinned (OpenSpec.upto packBackSpec)

/-- 'timeballkeep.PackCut', WHERE WHAT IT READS IS OF BULK AT MOST 1048576: true; the input reads as it did. -/
def packCutUptoRow : OpenClaim := { program := "ytddkedghpapepaa", sum := "0d3041356fdc160fe0e6b7e19fabadfcdd904947ada1b4a743e22a2f3c2d2e1d", func := "timeball/timeballkeep.PackCut", spec := "packCut", inPlace := ["internal/bytealg.IndexByteString", "internal/bytealg.IndexString"], named := ["internal/bytealg.MaxLen"], apart := false, narrowed := true }
def PackCutUptoSaid : Prop := packCutUptoRow.holds Try.pinned (OpenSpec.upto packCutSpec)

/-- 'timeballkeep.WallNext', WHERE WHAT IT READS IS OF BULK AT MOST 1048576: true; the input reads as it did. -/
def wallNextUptoRow : OpenClaim := { program := "ytddkedghpapepaa", sum := "0d3041356fdc160fe0e6b7e19fabadfcdd904947ada1b4a743e22a2f3c2d2e1d", func := "timeball/timeballkeep.WallNext", spec := "wallNext", inPlace := ["internal/bytealg.IndexByteString", "internal/bytealg.IndexString"], unfollowed := true, recurses := true, named := ["internal/bytealg.MaxLen"], apart := false, narrowed := true }
def WallNextUptoSaid : Prop := wallNextUptoRow.holds Try.pinned (OpenSpec.upto wallNextSpec)

end Rows
end Go.Proofs.Ytddkedghpapepaa
