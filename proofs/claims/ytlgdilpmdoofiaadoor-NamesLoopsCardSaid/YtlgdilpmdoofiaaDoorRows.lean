/-
  NARROWER THAN 'FOR EVERY INPUT', by the rows' own cells (each row's printed sentence says how): TurnsRise: laid · TurnsOthers: laid · TurnsEast: laid · TurnsOne: laid · TurnsSplit: laid · BackTurns: laid · NamesZones: laid · NamesSorted: laid · NamesLoops: laid · OwnMemory: laid.
  DERIVED. THE GIVEN ROWS OF THIS SEAT. 10 by the template 'for every input the law returns true; each argument reads behind the call as it read before'; 0 by the template 'total and deterministic' (their statements: YtlgdilpmdoofiaaDoorTotals.lean).
  GIVEN WITH THE SEED: the statements are not yours to turn. If you find one false, say at which input.
  Laid BY PROGRAM, IN A SANDBOX (cutbox-rows.mjs): the forced cells as the released guide's own fill.sh prints them over the translation dd0eb80e3033d946… (all of the seat's roots in one cut). By AI agents, Wed Nov 11 2026. No macro, syntax, notation, axiom, sorry.
-/
import Derived.Test.YtlgdilpmdoofiaaDoorChecked
import GoSem.Claim
import GoSem.ClaimJoined
import GoSem.ClaimMapViews
import Derived.JoinedTies
import Derived.KernelRfl
namespace Go.Proofs.YtlgdilpmdoofiaaDoor
/- THE CELL 'sum', in the pinned program and in every row, IS THE sha256 OF THE DUMP (.gsa) THAT YtlgdilpmdoofiaaDoorProg.lean LOADS. Nothing in Lean hashes anything: it is a label: what it is worth is what the hold of that sum in a sandbox is worth. -/
noncomputable def Tryd.pinned : Pinned := { name := "ytlgdilpmdoofiaadoor", sum := "dd0eb80e3033d9460f0e2b54aae546a74fefa69047bd40a6599358edb2358b4b", checked := Tryd.checked }
namespace Rows
def none {H : Type} : Left H := { results := [], args := [] }

/- WHAT THE LISTED PACKAGE-LEVEL VARIABLES READ AS WHEN THE CALL BEGINS. Each datum BY PROGRAM (the guide's laid-datum.mjs) off the statement by which the dump's own 'gosem.cut.vars' lays the variable. In a bare row this is a premise. The card (YtlgdilpmdoofiaaDoorCards.lean) ties it to the program's text. -/
def laid_math_bits_deBruijn32tab {H : Type} : DataW H := .agg [.lit (.int .u8 0), .lit (.int .u8 1), .lit (.int .u8 28), .lit (.int .u8 2), .lit (.int .u8 29), .lit (.int .u8 14), .lit (.int .u8 24), .lit (.int .u8 3), .lit (.int .u8 30), .lit (.int .u8 22), .lit (.int .u8 20), .lit (.int .u8 15), .lit (.int .u8 25), .lit (.int .u8 17), .lit (.int .u8 4), .lit (.int .u8 8), .lit (.int .u8 31), .lit (.int .u8 27), .lit (.int .u8 13), .lit (.int .u8 23), .lit (.int .u8 21), .lit (.int .u8 19), .lit (.int .u8 16), .lit (.int .u8 7), .lit (.int .u8 26), .lit (.int .u8 12), .lit (.int .u8 18), .lit (.int .u8 6), .lit (.int .u8 11), .lit (.int .u8 5), .lit (.int .u8 10), .lit (.int .u8 9)]
def laid_math_bits_deBruijn64tab {H : Type} : DataW H := .agg [.lit (.int .u8 0), .lit (.int .u8 1), .lit (.int .u8 56), .lit (.int .u8 2), .lit (.int .u8 57), .lit (.int .u8 49), .lit (.int .u8 28), .lit (.int .u8 3), .lit (.int .u8 61), .lit (.int .u8 58), .lit (.int .u8 42), .lit (.int .u8 50), .lit (.int .u8 38), .lit (.int .u8 29), .lit (.int .u8 17), .lit (.int .u8 4), .lit (.int .u8 62), .lit (.int .u8 47), .lit (.int .u8 59), .lit (.int .u8 36), .lit (.int .u8 45), .lit (.int .u8 43), .lit (.int .u8 51), .lit (.int .u8 22), .lit (.int .u8 53), .lit (.int .u8 39), .lit (.int .u8 33), .lit (.int .u8 30), .lit (.int .u8 24), .lit (.int .u8 18), .lit (.int .u8 12), .lit (.int .u8 5), .lit (.int .u8 63), .lit (.int .u8 55), .lit (.int .u8 48), .lit (.int .u8 27), .lit (.int .u8 60), .lit (.int .u8 41), .lit (.int .u8 37), .lit (.int .u8 16), .lit (.int .u8 46), .lit (.int .u8 35), .lit (.int .u8 44), .lit (.int .u8 21), .lit (.int .u8 52), .lit (.int .u8 32), .lit (.int .u8 23), .lit (.int .u8 11), .lit (.int .u8 54), .lit (.int .u8 26), .lit (.int .u8 40), .lit (.int .u8 15), .lit (.int .u8 34), .lit (.int .u8 20), .lit (.int .u8 31), .lit (.int .u8 10), .lit (.int .u8 25), .lit (.int .u8 14), .lit (.int .u8 19), .lit (.int .u8 9), .lit (.int .u8 13), .lit (.int .u8 8), .lit (.int .u8 7), .lit (.int .u8 6)]
def laid_internal_strconv_uint64pow10 {H : Type} : DataW H := .agg [.lit (.int .u64 1), .lit (.int .u64 10), .lit (.int .u64 100), .lit (.int .u64 1000), .lit (.int .u64 10000), .lit (.int .u64 100000), .lit (.int .u64 1000000), .lit (.int .u64 10000000), .lit (.int .u64 100000000), .lit (.int .u64 1000000000), .lit (.int .u64 10000000000), .lit (.int .u64 100000000000), .lit (.int .u64 1000000000000), .lit (.int .u64 10000000000000), .lit (.int .u64 100000000000000), .lit (.int .u64 1000000000000000), .lit (.int .u64 10000000000000000), .lit (.int .u64 100000000000000000), .lit (.int .u64 1000000000000000000), .lit (.int .u64 10000000000000000000)]

/-- 'timeballkeep.TurnsRise': WHATEVER THE INPUT: true; the input reads as it did. -/
def turnsRiseSpec : ChangeSpec := { name := "turnsRise", fn := fun _ => fun
  | [d1, d2, d3] => { results := [.lit (.bool true)], args := [d1, d2, d3] }
  | _ => none }
def turnsRiseRow : OpenClaim := { program := "ytlgdilpmdoofiaadoor", sum := "dd0eb80e3033d9460f0e2b54aae546a74fefa69047bd40a6599358edb2358b4b", func := "timeball/timeballkeep.TurnsRise", spec := "turnsRise", inPlace := ["internal/bytealg.IndexByteString", "internal/bytealg.IndexString"], unfollowed := true, recurses := true, named := ["internal/bytealg.MaxLen", "internal/strconv.uint64pow10", "math/bits.deBruijn32tab", "math/bits.deBruijn64tab"], apart := false, laid := [("math/bits.deBruijn32tab", laid_math_bits_deBruijn32tab), ("math/bits.deBruijn64tab", laid_math_bits_deBruijn64tab), ("internal/strconv.uint64pow10", laid_internal_strconv_uint64pow10)] }
def TurnsRiseSaid : Prop := turnsRiseRow.holds Tryd.pinned (OpenSpec.ofChange turnsRiseSpec)

/-- ITS FALSE NEIGHBOUR: 'it returns false'. Refute it at one input. -/
def turnsRiseWrong : ChangeSpec := { name := "turnsRise", fn := fun _ => fun
  | [d1, d2, d3] => { results := [.lit (.bool false)], args := [d1, d2, d3] }
  | _ => none }
def TurnsRiseWrongFalsely : Prop := turnsRiseRow.holds Tryd.pinned (OpenSpec.ofChange turnsRiseWrong)

/-- 'timeballkeep.TurnsOthers': WHATEVER THE INPUT: true; the input reads as it did. -/
def turnsOthersSpec : ChangeSpec := { name := "turnsOthers", fn := fun _ => fun
  | [d1, d2, d3] => { results := [.lit (.bool true)], args := [d1, d2, d3] }
  | _ => none }
def turnsOthersRow : OpenClaim := { program := "ytlgdilpmdoofiaadoor", sum := "dd0eb80e3033d9460f0e2b54aae546a74fefa69047bd40a6599358edb2358b4b", func := "timeball/timeballkeep.TurnsOthers", spec := "turnsOthers", inPlace := ["internal/bytealg.IndexByteString", "internal/bytealg.IndexString"], unfollowed := true, recurses := true, named := ["internal/bytealg.MaxLen", "internal/strconv.uint64pow10", "math/bits.deBruijn32tab", "math/bits.deBruijn64tab"], apart := false, laid := [("math/bits.deBruijn32tab", laid_math_bits_deBruijn32tab), ("math/bits.deBruijn64tab", laid_math_bits_deBruijn64tab), ("internal/strconv.uint64pow10", laid_internal_strconv_uint64pow10)] }
def TurnsOthersSaid : Prop := turnsOthersRow.holds Tryd.pinned (OpenSpec.ofChange turnsOthersSpec)

/-- ITS FALSE NEIGHBOUR: 'it returns false'. Refute it at one input. -/
def turnsOthersWrong : ChangeSpec := { name := "turnsOthers", fn := fun _ => fun
  | [d1, d2, d3] => { results := [.lit (.bool false)], args := [d1, d2, d3] }
  | _ => none }
def TurnsOthersWrongFalsely : Prop := turnsOthersRow.holds Tryd.pinned (OpenSpec.ofChange turnsOthersWrong)

/-- 'timeballkeep.TurnsEast': WHATEVER THE INPUT: true; the input reads as it did. -/
def turnsEastSpec : ChangeSpec := { name := "turnsEast", fn := fun _ => fun
  | [d1, d2, d3, d4] => { results := [.lit (.bool true)], args := [d1, d2, d3, d4] }
  | _ => none }
def turnsEastRow : OpenClaim := { program := "ytlgdilpmdoofiaadoor", sum := "dd0eb80e3033d9460f0e2b54aae546a74fefa69047bd40a6599358edb2358b4b", func := "timeball/timeballkeep.TurnsEast", spec := "turnsEast", inPlace := ["internal/bytealg.IndexByteString", "internal/bytealg.IndexString"], unfollowed := true, recurses := true, named := ["internal/bytealg.MaxLen", "internal/strconv.uint64pow10", "math/bits.deBruijn32tab", "math/bits.deBruijn64tab"], apart := false, laid := [("math/bits.deBruijn32tab", laid_math_bits_deBruijn32tab), ("math/bits.deBruijn64tab", laid_math_bits_deBruijn64tab), ("internal/strconv.uint64pow10", laid_internal_strconv_uint64pow10)] }
def TurnsEastSaid : Prop := turnsEastRow.holds Tryd.pinned (OpenSpec.ofChange turnsEastSpec)

/-- ITS FALSE NEIGHBOUR: 'it returns false'. Refute it at one input. -/
def turnsEastWrong : ChangeSpec := { name := "turnsEast", fn := fun _ => fun
  | [d1, d2, d3, d4] => { results := [.lit (.bool false)], args := [d1, d2, d3, d4] }
  | _ => none }
def TurnsEastWrongFalsely : Prop := turnsEastRow.holds Tryd.pinned (OpenSpec.ofChange turnsEastWrong)

/-- 'timeballkeep.TurnsOne': WHATEVER THE INPUT: true; the input reads as it did. -/
def turnsOneSpec : ChangeSpec := { name := "turnsOne", fn := fun _ => fun
  | [d1, d2] => { results := [.lit (.bool true)], args := [d1, d2] }
  | _ => none }
def turnsOneRow : OpenClaim := { program := "ytlgdilpmdoofiaadoor", sum := "dd0eb80e3033d9460f0e2b54aae546a74fefa69047bd40a6599358edb2358b4b", func := "timeball/timeballkeep.TurnsOne", spec := "turnsOne", inPlace := ["internal/bytealg.IndexByteString", "internal/bytealg.IndexString"], unfollowed := true, recurses := true, named := ["internal/bytealg.MaxLen", "internal/strconv.uint64pow10", "math/bits.deBruijn32tab", "math/bits.deBruijn64tab"], apart := false, laid := [("math/bits.deBruijn32tab", laid_math_bits_deBruijn32tab), ("math/bits.deBruijn64tab", laid_math_bits_deBruijn64tab), ("internal/strconv.uint64pow10", laid_internal_strconv_uint64pow10)] }
def TurnsOneSaid : Prop := turnsOneRow.holds Tryd.pinned (OpenSpec.ofChange turnsOneSpec)

/-- ITS FALSE NEIGHBOUR: 'it returns false'. Refute it at one input. -/
def turnsOneWrong : ChangeSpec := { name := "turnsOne", fn := fun _ => fun
  | [d1, d2] => { results := [.lit (.bool false)], args := [d1, d2] }
  | _ => none }
def TurnsOneWrongFalsely : Prop := turnsOneRow.holds Tryd.pinned (OpenSpec.ofChange turnsOneWrong)

/-- 'timeballkeep.TurnsSplit': WHATEVER THE INPUT: true; the input reads as it did. -/
def turnsSplitSpec : ChangeSpec := { name := "turnsSplit", fn := fun _ => fun
  | [d1, d2, d3, d4] => { results := [.lit (.bool true)], args := [d1, d2, d3, d4] }
  | _ => none }
def turnsSplitRow : OpenClaim := { program := "ytlgdilpmdoofiaadoor", sum := "dd0eb80e3033d9460f0e2b54aae546a74fefa69047bd40a6599358edb2358b4b", func := "timeball/timeballkeep.TurnsSplit", spec := "turnsSplit", inPlace := ["internal/bytealg.IndexByteString", "internal/bytealg.IndexString"], unfollowed := true, recurses := true, named := ["internal/bytealg.MaxLen", "internal/strconv.uint64pow10", "math/bits.deBruijn32tab", "math/bits.deBruijn64tab"], apart := false, laid := [("math/bits.deBruijn32tab", laid_math_bits_deBruijn32tab), ("math/bits.deBruijn64tab", laid_math_bits_deBruijn64tab), ("internal/strconv.uint64pow10", laid_internal_strconv_uint64pow10)] }
def TurnsSplitSaid : Prop := turnsSplitRow.holds Tryd.pinned (OpenSpec.ofChange turnsSplitSpec)

/-- ITS FALSE NEIGHBOUR: 'it returns false'. Refute it at one input. -/
def turnsSplitWrong : ChangeSpec := { name := "turnsSplit", fn := fun _ => fun
  | [d1, d2, d3, d4] => { results := [.lit (.bool false)], args := [d1, d2, d3, d4] }
  | _ => none }
def TurnsSplitWrongFalsely : Prop := turnsSplitRow.holds Tryd.pinned (OpenSpec.ofChange turnsSplitWrong)

/-- 'timeballkeep.BackTurns': WHATEVER THE INPUT: true; the input reads as it did. -/
def backTurnsSpec : ChangeSpec := { name := "backTurns", fn := fun _ => fun
  | [d1, d2] => { results := [.lit (.bool true)], args := [d1, d2] }
  | _ => none }
def backTurnsRow : OpenClaim := { program := "ytlgdilpmdoofiaadoor", sum := "dd0eb80e3033d9460f0e2b54aae546a74fefa69047bd40a6599358edb2358b4b", func := "timeball/timeballkeep.BackTurns", spec := "backTurns", inPlace := ["internal/bytealg.IndexByteString", "internal/bytealg.IndexString"], unfollowed := true, recurses := true, named := ["internal/bytealg.MaxLen", "internal/strconv.uint64pow10", "math/bits.deBruijn32tab", "math/bits.deBruijn64tab"], apart := false, laid := [("math/bits.deBruijn32tab", laid_math_bits_deBruijn32tab), ("math/bits.deBruijn64tab", laid_math_bits_deBruijn64tab), ("internal/strconv.uint64pow10", laid_internal_strconv_uint64pow10)] }
def BackTurnsSaid : Prop := backTurnsRow.holds Tryd.pinned (OpenSpec.ofChange backTurnsSpec)

/-- ITS FALSE NEIGHBOUR: 'it returns false'. Refute it at one input. -/
def backTurnsWrong : ChangeSpec := { name := "backTurns", fn := fun _ => fun
  | [d1, d2] => { results := [.lit (.bool false)], args := [d1, d2] }
  | _ => none }
def BackTurnsWrongFalsely : Prop := backTurnsRow.holds Tryd.pinned (OpenSpec.ofChange backTurnsWrong)

/-- 'timeballkeep.NamesZones': WHATEVER THE INPUT: true; the input reads as it did. -/
def namesZonesSpec : ChangeSpec := { name := "namesZones", fn := fun _ => fun
  | [d] => { results := [.lit (.bool true)], args := [d] }
  | _ => none }
def namesZonesRow : OpenClaim := { program := "ytlgdilpmdoofiaadoor", sum := "dd0eb80e3033d9460f0e2b54aae546a74fefa69047bd40a6599358edb2358b4b", func := "timeball/timeballkeep.NamesZones", spec := "namesZones", inPlace := ["internal/bytealg.IndexByteString", "internal/bytealg.IndexString"], unfollowed := true, recurses := true, named := ["internal/bytealg.MaxLen", "internal/strconv.uint64pow10", "math/bits.deBruijn32tab", "math/bits.deBruijn64tab"], apart := false, laid := [("math/bits.deBruijn32tab", laid_math_bits_deBruijn32tab), ("math/bits.deBruijn64tab", laid_math_bits_deBruijn64tab), ("internal/strconv.uint64pow10", laid_internal_strconv_uint64pow10)] }
def NamesZonesSaid : Prop := namesZonesRow.holds Tryd.pinned (OpenSpec.ofChange namesZonesSpec)

/-- ITS FALSE NEIGHBOUR: 'it returns false'. Refute it at one input. -/
def namesZonesWrong : ChangeSpec := { name := "namesZones", fn := fun _ => fun
  | [d] => { results := [.lit (.bool false)], args := [d] }
  | _ => none }
def NamesZonesWrongFalsely : Prop := namesZonesRow.holds Tryd.pinned (OpenSpec.ofChange namesZonesWrong)

/-- 'timeballkeep.NamesSorted': WHATEVER THE INPUT: true; the input reads as it did. -/
def namesSortedSpec : ChangeSpec := { name := "namesSorted", fn := fun _ => fun
  | [d] => { results := [.lit (.bool true)], args := [d] }
  | _ => none }
def namesSortedRow : OpenClaim := { program := "ytlgdilpmdoofiaadoor", sum := "dd0eb80e3033d9460f0e2b54aae546a74fefa69047bd40a6599358edb2358b4b", func := "timeball/timeballkeep.NamesSorted", spec := "namesSorted", inPlace := ["internal/bytealg.IndexByteString", "internal/bytealg.IndexString"], unfollowed := true, recurses := true, named := ["internal/bytealg.MaxLen", "internal/strconv.uint64pow10", "math/bits.deBruijn32tab", "math/bits.deBruijn64tab"], apart := false, laid := [("math/bits.deBruijn32tab", laid_math_bits_deBruijn32tab), ("math/bits.deBruijn64tab", laid_math_bits_deBruijn64tab), ("internal/strconv.uint64pow10", laid_internal_strconv_uint64pow10)] }
def NamesSortedSaid : Prop := namesSortedRow.holds Tryd.pinned (OpenSpec.ofChange namesSortedSpec)

/-- ITS FALSE NEIGHBOUR: 'it returns false'. Refute it at one input. -/
def namesSortedWrong : ChangeSpec := { name := "namesSorted", fn := fun _ => fun
  | [d] => { results := [.lit (.bool false)], args := [d] }
  | _ => none }
def NamesSortedWrongFalsely : Prop := namesSortedRow.holds Tryd.pinned (OpenSpec.ofChange namesSortedWrong)

/-- 'timeballkeep.NamesLoops': WHATEVER THE INPUT: true; the input reads as it did. -/
def namesLoopsSpec : ChangeSpec := { name := "namesLoops", fn := fun _ => fun
  | [d] => { results := [.lit (.bool true)], args := [d] }
  | _ => none }
def namesLoopsRow : OpenClaim := { program := "ytlgdilpmdoofiaadoor", sum := "dd0eb80e3033d9460f0e2b54aae546a74fefa69047bd40a6599358edb2358b4b", func := "timeball/timeballkeep.NamesLoops", spec := "namesLoops", inPlace := ["internal/bytealg.IndexByteString", "internal/bytealg.IndexString"], unfollowed := true, recurses := true, named := ["internal/bytealg.MaxLen", "internal/strconv.uint64pow10", "math/bits.deBruijn32tab", "math/bits.deBruijn64tab"], apart := false, laid := [("math/bits.deBruijn32tab", laid_math_bits_deBruijn32tab), ("math/bits.deBruijn64tab", laid_math_bits_deBruijn64tab), ("internal/strconv.uint64pow10", laid_internal_strconv_uint64pow10)] }
def NamesLoopsSaid : Prop := namesLoopsRow.holds Tryd.pinned (OpenSpec.ofChange namesLoopsSpec)

/-- ITS FALSE NEIGHBOUR: 'it returns false'. Refute it at one input. -/
def namesLoopsWrong : ChangeSpec := { name := "namesLoops", fn := fun _ => fun
  | [d] => { results := [.lit (.bool false)], args := [d] }
  | _ => none }
def NamesLoopsWrongFalsely : Prop := namesLoopsRow.holds Tryd.pinned (OpenSpec.ofChange namesLoopsWrong)

/-- 'timeballkeep.OwnMemory': WHATEVER THE INPUT: true; the input reads as it did. -/
def ownMemorySpec : ChangeSpec := { name := "ownMemory", fn := fun _ => fun
  | [d1, d2, d3] => { results := [.lit (.bool true)], args := [d1, d2, d3] }
  | _ => none }
def ownMemoryRow : OpenClaim := { program := "ytlgdilpmdoofiaadoor", sum := "dd0eb80e3033d9460f0e2b54aae546a74fefa69047bd40a6599358edb2358b4b", func := "timeball/timeballkeep.OwnMemory", spec := "ownMemory", inPlace := ["internal/bytealg.IndexByteString", "internal/bytealg.IndexString"], unfollowed := true, recurses := true, named := ["internal/bytealg.MaxLen", "internal/strconv.uint64pow10", "math/bits.deBruijn32tab", "math/bits.deBruijn64tab"], apart := false, laid := [("math/bits.deBruijn32tab", laid_math_bits_deBruijn32tab), ("math/bits.deBruijn64tab", laid_math_bits_deBruijn64tab), ("internal/strconv.uint64pow10", laid_internal_strconv_uint64pow10)] }
def OwnMemorySaid : Prop := ownMemoryRow.holds Tryd.pinned (OpenSpec.ofChange ownMemorySpec)

/-- ITS FALSE NEIGHBOUR: 'it returns false'. Refute it at one input. -/
def ownMemoryWrong : ChangeSpec := { name := "ownMemory", fn := fun _ => fun
  | [d1, d2, d3] => { results := [.lit (.bool false)], args := [d1, d2, d3] }
  | _ => none }
def OwnMemoryWrongFalsely : Prop := ownMemoryRow.holds Tryd.pinned (OpenSpec.ofChange ownMemoryWrong)

/- THE SECOND FORM. 'bulk': how many values and letters a reading holds, each counted each time it is reached (what is shared counts as often as it is met; a slice's spare places count too). A statement '..UptoSaid' is the law's where the arguments, and the package variables that the reading takes, are together of bulk at most 1048576: NARROWER than '..Said'. Prove '..Said' where nothing that the law and all that it calls make is longer than what came in: it says more and counts as full. Else prove '..UptoSaid'. A law counts once. -/
mutual
def uptoBulk {H : Type} : DataW H → Nat
  | .lit (.string bytes) => bytes.length + 1
  | .lit _ => 1
  | .nil => 1
  | .ptr d => uptoBulk d + 1
  | .slice elems spare => uptoBulkAll elems + uptoBulkAll spare + 1
  | .agg parts => uptoBulkAll parts + 1
  | .iface _ d => uptoBulk d + 1
  | .map entries => uptoBulkEntries entries + 1
  | .held _ => 1
def uptoBulkAll {H : Type} : List (DataW H) → Nat
  | [] => 0
  | d :: r => uptoBulk d + uptoBulkAll r
def uptoBulkEntries {H : Type} : List (Lit × DataW H) → Nat
  | [] => 0
  | x :: r => uptoBulkEntry x + uptoBulkEntries r
def uptoBulkEntry {H : Type} : Lit × DataW H → Nat
  | (.string bytes, d) => bytes.length + uptoBulk d + 1
  | (_, d) => uptoBulk d + 1
 end
def uptoSmall : (H : Type) → List (DataW H) → Bool := fun _ ds => decide (uptoBulkAll ds ≤ 1048576)
def OpenSpec.upto (s : _root_.Go.ChangeSpec) : _root_.Go.OpenSpec := { _root_.Go.OpenSpec.ofChange s with cond := some uptoSmall }

/-- 'timeballkeep.TurnsRise', WHERE WHAT IT READS IS OF BULK AT MOST 1048576: true; the input reads as it did. -/
def turnsRiseUptoRow : OpenClaim := { program := "ytlgdilpmdoofiaadoor", sum := "dd0eb80e3033d9460f0e2b54aae546a74fefa69047bd40a6599358edb2358b4b", func := "timeball/timeballkeep.TurnsRise", spec := "turnsRise", inPlace := ["internal/bytealg.IndexByteString", "internal/bytealg.IndexString"], unfollowed := true, recurses := true, named := ["internal/bytealg.MaxLen", "internal/strconv.uint64pow10", "math/bits.deBruijn32tab", "math/bits.deBruijn64tab"], apart := false, laid := [("math/bits.deBruijn32tab", laid_math_bits_deBruijn32tab), ("math/bits.deBruijn64tab", laid_math_bits_deBruijn64tab), ("internal/strconv.uint64pow10", laid_internal_strconv_uint64pow10)], narrowed := true }
def TurnsRiseUptoSaid : Prop := turnsRiseUptoRow.holds Tryd.pinned (OpenSpec.upto turnsRiseSpec)

/-- 'timeballkeep.TurnsOthers', WHERE WHAT IT READS IS OF BULK AT MOST 1048576: true; the input reads as it did. -/
def turnsOthersUptoRow : OpenClaim := { program := "ytlgdilpmdoofiaadoor", sum := "dd0eb80e3033d9460f0e2b54aae546a74fefa69047bd40a6599358edb2358b4b", func := "timeball/timeballkeep.TurnsOthers", spec := "turnsOthers", inPlace := ["internal/bytealg.IndexByteString", "internal/bytealg.IndexString"], unfollowed := true, recurses := true, named := ["internal/bytealg.MaxLen", "internal/strconv.uint64pow10", "math/bits.deBruijn32tab", "math/bits.deBruijn64tab"], apart := false, laid := [("math/bits.deBruijn32tab", laid_math_bits_deBruijn32tab), ("math/bits.deBruijn64tab", laid_math_bits_deBruijn64tab), ("internal/strconv.uint64pow10", laid_internal_strconv_uint64pow10)], narrowed := true }
def TurnsOthersUptoSaid : Prop := turnsOthersUptoRow.holds Tryd.pinned (OpenSpec.upto turnsOthersSpec)

/-- 'timeballkeep.TurnsEast', WHERE WHAT IT READS IS OF BULK AT MOST 1048576: true; the input reads as it did. -/
def turnsEastUptoRow : OpenClaim := { program := "ytlgdilpmdoofiaadoor", sum := "dd0eb80e3033d9460f0e2b54aae546a74fefa69047bd40a6599358edb2358b4b", func := "timeball/timeballkeep.TurnsEast", spec := "turnsEast", inPlace := ["internal/bytealg.IndexByteString", "internal/bytealg.IndexString"], unfollowed := true, recurses := true, named := ["internal/bytealg.MaxLen", "internal/strconv.uint64pow10", "math/bits.deBruijn32tab", "math/bits.deBruijn64tab"], apart := false, laid := [("math/bits.deBruijn32tab", laid_math_bits_deBruijn32tab), ("math/bits.deBruijn64tab", laid_math_bits_deBruijn64tab), ("internal/strconv.uint64pow10", laid_internal_strconv_uint64pow10)], narrowed := true }
def TurnsEastUptoSaid : Prop := turnsEastUptoRow.holds Tryd.pinned (OpenSpec.upto turnsEastSpec)

/-- 'timeballkeep.TurnsOne', WHERE WHAT IT READS IS OF BULK AT MOST 1048576: true; the input reads as it did. -/
def turnsOneUptoRow : OpenClaim := { program := "ytlgdilpmdoofiaadoor", sum := "dd0eb80e3033d9460f0e2b54aae546a74fefa69047bd40a6599358edb2358b4b", func := "timeball/timeballkeep.TurnsOne", spec := "turnsOne", inPlace := ["internal/bytealg.IndexByteString", "internal/bytealg.IndexString"], unfollowed := true, recurses := true, named := ["internal/bytealg.MaxLen", "internal/strconv.uint64pow10", "math/bits.deBruijn32tab", "math/bits.deBruijn64tab"], apart := false, laid := [("math/bits.deBruijn32tab", laid_math_bits_deBruijn32tab), ("math/bits.deBruijn64tab", laid_math_bits_deBruijn64tab), ("internal/strconv.uint64pow10", laid_internal_strconv_uint64pow10)], narrowed := true }
def TurnsOneUptoSaid : Prop := turnsOneUptoRow.holds Tryd.pinned (OpenSpec.upto turnsOneSpec)

/-- 'timeballkeep.TurnsSplit', WHERE WHAT IT READS IS OF BULK AT MOST 1048576: true; the input reads as it did. -/
def turnsSplitUptoRow : OpenClaim := { program := "ytlgdilpmdoofiaadoor", sum := "dd0eb80e3033d9460f0e2b54aae546a74fefa69047bd40a6599358edb2358b4b", func := "timeball/timeballkeep.TurnsSplit", spec := "turnsSplit", inPlace := ["internal/bytealg.IndexByteString", "internal/bytealg.IndexString"], unfollowed := true, recurses := true, named := ["internal/bytealg.MaxLen", "internal/strconv.uint64pow10", "math/bits.deBruijn32tab", "math/bits.deBruijn64tab"], apart := false, laid := [("math/bits.deBruijn32tab", laid_math_bits_deBruijn32tab), ("math/bits.deBruijn64tab", laid_math_bits_deBruijn64tab), ("internal/strconv.uint64pow10", laid_internal_strconv_uint64pow10)], narrowed := true }
def TurnsSplitUptoSaid : Prop := turnsSplitUptoRow.holds Tryd.pinned (OpenSpec.upto turnsSplitSpec)

/-- 'timeballkeep.BackTurns', WHERE WHAT IT READS IS OF BULK AT MOST 1048576: true; the input reads as it did. -/
def backTurnsUptoRow : OpenClaim := { program := "ytlgdilpmdoofiaadoor", sum := "dd0eb80e3033d9460f0e2b54aae546a74fefa69047bd40a6599358edb2358b4b", func := "timeball/timeballkeep.BackTurns", spec := "backTurns", inPlace := ["internal/bytealg.IndexByteString", "internal/bytealg.IndexString"], unfollowed := true, recurses := true, named := ["internal/bytealg.MaxLen", "internal/strconv.uint64pow10", "math/bits.deBruijn32tab", "math/bits.deBruijn64tab"], apart := false, laid := [("math/bits.deBruijn32tab", laid_math_bits_deBruijn32tab), ("math/bits.deBruijn64tab", laid_math_bits_deBruijn64tab), ("internal/strconv.uint64pow10", laid_internal_strconv_uint64pow10)], narrowed := true }
def BackTurnsUptoSaid : Prop := backTurnsUptoRow.holds Tryd.pinned (OpenSpec.upto backTurnsSpec)

/-- 'timeballkeep.NamesZones', WHERE WHAT IT READS IS OF BULK AT MOST 1048576: true; the input reads as it did. -/
def namesZonesUptoRow : OpenClaim := { program := "ytlgdilpmdoofiaadoor", sum := "dd0eb80e3033d9460f0e2b54aae546a74fefa69047bd40a6599358edb2358b4b", func := "timeball/timeballkeep.NamesZones", spec := "namesZones", inPlace := ["internal/bytealg.IndexByteString", "internal/bytealg.IndexString"], unfollowed := true, recurses := true, named := ["internal/bytealg.MaxLen", "internal/strconv.uint64pow10", "math/bits.deBruijn32tab", "math/bits.deBruijn64tab"], apart := false, laid := [("math/bits.deBruijn32tab", laid_math_bits_deBruijn32tab), ("math/bits.deBruijn64tab", laid_math_bits_deBruijn64tab), ("internal/strconv.uint64pow10", laid_internal_strconv_uint64pow10)], narrowed := true }
def NamesZonesUptoSaid : Prop := namesZonesUptoRow.holds Tryd.pinned (OpenSpec.upto namesZonesSpec)

/-- 'timeballkeep.NamesSorted', WHERE WHAT IT READS IS OF BULK AT MOST 1048576: true; the input reads as it did. -/
def namesSortedUptoRow : OpenClaim := { program := "ytlgdilpmdoofiaadoor", sum := "dd0eb80e3033d9460f0e2b54aae546a74fefa69047bd40a6599358edb2358b4b", func := "timeball/timeballkeep.NamesSorted", spec := "namesSorted", inPlace := ["internal/bytealg.IndexByteString", "internal/bytealg.IndexString"], unfollowed := true, recurses := true, named := ["internal/bytealg.MaxLen", "internal/strconv.uint64pow10", "math/bits.deBruijn32tab", "math/bits.deBruijn64tab"], apart := false, laid := [("math/bits.deBruijn32tab", laid_math_bits_deBruijn32tab), ("math/bits.deBruijn64tab", laid_math_bits_deBruijn64tab), ("internal/strconv.uint64pow10", laid_internal_strconv_uint64pow10)], narrowed := true }
def NamesSortedUptoSaid : Prop := namesSortedUptoRow.holds Tryd.pinned (OpenSpec.upto namesSortedSpec)

/-- 'timeballkeep.NamesLoops', WHERE WHAT IT READS IS OF BULK AT MOST 1048576: true; the input reads as it did. -/
def namesLoopsUptoRow : OpenClaim := { program := "ytlgdilpmdoofiaadoor", sum := "dd0eb80e3033d9460f0e2b54aae546a74fefa69047bd40a6599358edb2358b4b", func := "timeball/timeballkeep.NamesLoops", spec := "namesLoops", inPlace := ["internal/bytealg.IndexByteString", "internal/bytealg.IndexString"], unfollowed := true, recurses := true, named := ["internal/bytealg.MaxLen", "internal/strconv.uint64pow10", "math/bits.deBruijn32tab", "math/bits.deBruijn64tab"], apart := false, laid := [("math/bits.deBruijn32tab", laid_math_bits_deBruijn32tab), ("math/bits.deBruijn64tab", laid_math_bits_deBruijn64tab), ("internal/strconv.uint64pow10", laid_internal_strconv_uint64pow10)], narrowed := true }
def NamesLoopsUptoSaid : Prop := namesLoopsUptoRow.holds Tryd.pinned (OpenSpec.upto namesLoopsSpec)

/-- 'timeballkeep.OwnMemory', WHERE WHAT IT READS IS OF BULK AT MOST 1048576: true; the input reads as it did. -/
def ownMemoryUptoRow : OpenClaim := { program := "ytlgdilpmdoofiaadoor", sum := "dd0eb80e3033d9460f0e2b54aae546a74fefa69047bd40a6599358edb2358b4b", func := "timeball/timeballkeep.OwnMemory", spec := "ownMemory", inPlace := ["internal/bytealg.IndexByteString", "internal/bytealg.IndexString"], unfollowed := true, recurses := true, named := ["internal/bytealg.MaxLen", "internal/strconv.uint64pow10", "math/bits.deBruijn32tab", "math/bits.deBruijn64tab"], apart := false, laid := [("math/bits.deBruijn32tab", laid_math_bits_deBruijn32tab), ("math/bits.deBruijn64tab", laid_math_bits_deBruijn64tab), ("internal/strconv.uint64pow10", laid_internal_strconv_uint64pow10)], narrowed := true }
def OwnMemoryUptoSaid : Prop := ownMemoryUptoRow.holds Tryd.pinned (OpenSpec.upto ownMemorySpec)

end Rows
end Go.Proofs.YtlgdilpmdoofiaaDoor
