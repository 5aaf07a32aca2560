/-
  No cell of these rows narrows 'for every input' (looked for: loops, veiled, ifaces, maps, wideKeys, modest, calm, conditions, laid).
  DERIVED. THE GIVEN ROWS OF THIS SEAT. 14 by the template 'for every input the law returns true; each argument reads behind the call as it read before'; 0 by the template 'total and deterministic' (their statements: YtdkjjaahmcjnmaaTotals.lean).
  GIVEN WITH THE SEED: the statements are not yours to turn. If you find one false, say at which input.
  Laid BY PROGRAM, IN A SANDBOX (cutbox-rows.mjs): the forced cells as the released guide's own fill.sh prints them over the translation 40cdab5517dc7f25… (all of the seat's roots in one cut). By AI agents, Wed Nov 11 2026. No macro, syntax, notation, axiom, sorry.
-/
import Derived.Test.YtdkjjaahmcjnmaaChecked
import GoSem.Claim
import GoSem.ClaimJoined
import GoSem.ClaimMapViews
import Derived.JoinedTies
import Derived.KernelRfl
namespace Go.Proofs.Ytdkjjaahmcjnmaa
/- THE CELL 'sum', in the pinned program and in every row, IS THE sha256 OF THE DUMP (.gsa) THAT YtdkjjaahmcjnmaaProg.lean LOADS. Nothing in Lean hashes anything: it is a label: what it is worth is what the hold of that sum in a sandbox is worth. -/
noncomputable def Try.pinned : Pinned := { name := "ytdkjjaahmcjnmaa", sum := "40cdab5517dc7f2518961dd8b531248c9fab1f909a0f7812a110bf32c3d2c781", checked := Try.checked }
namespace Rows
def none {H : Type} : Left H := { results := [], args := [] }

/-- 'timeballkeep.CivilBack': WHATEVER THE INPUT: true; the input reads as it did. -/
def civilBackSpec : ChangeSpec := { name := "civilBack", fn := fun _ => fun
  | [d1, d2, d3, d4] => { results := [.lit (.bool true)], args := [d1, d2, d3, d4] }
  | _ => none }
def civilBackRow : OpenClaim := { program := "ytdkjjaahmcjnmaa", sum := "40cdab5517dc7f2518961dd8b531248c9fab1f909a0f7812a110bf32c3d2c781", func := "timeball/timeballkeep.CivilBack", spec := "civilBack", apart := false }
def CivilBackSaid : Prop := civilBackRow.holds Try.pinned (OpenSpec.ofChange civilBackSpec)

/-- ITS FALSE NEIGHBOUR: 'it returns false'. Refute it at one input. -/
def civilBackWrong : ChangeSpec := { name := "civilBack", fn := fun _ => fun
  | [d1, d2, d3, d4] => { results := [.lit (.bool false)], args := [d1, d2, d3, d4] }
  | _ => none }
def CivilBackWrongFalsely : Prop := civilBackRow.holds Try.pinned (OpenSpec.ofChange civilBackWrong)

/-- 'timeballkeep.CivilNext': WHATEVER THE INPUT: true; the input reads as it did. -/
def civilNextSpec : ChangeSpec := { name := "civilNext", fn := fun _ => fun
  | [d] => { results := [.lit (.bool true)], args := [d] }
  | _ => none }
def civilNextRow : OpenClaim := { program := "ytdkjjaahmcjnmaa", sum := "40cdab5517dc7f2518961dd8b531248c9fab1f909a0f7812a110bf32c3d2c781", func := "timeball/timeballkeep.CivilNext", spec := "civilNext", apart := false }
def CivilNextSaid : Prop := civilNextRow.holds Try.pinned (OpenSpec.ofChange civilNextSpec)

/-- ITS FALSE NEIGHBOUR: 'it returns false'. Refute it at one input. -/
def civilNextWrong : ChangeSpec := { name := "civilNext", fn := fun _ => fun
  | [d] => { results := [.lit (.bool false)], args := [d] }
  | _ => none }
def CivilNextWrongFalsely : Prop := civilNextRow.holds Try.pinned (OpenSpec.ofChange civilNextWrong)

/-- 'timeballkeep.CivilYears': WHATEVER THE INPUT: true; the input reads as it did. -/
def civilYearsSpec : ChangeSpec := { name := "civilYears", fn := fun _ => fun
  | [d] => { results := [.lit (.bool true)], args := [d] }
  | _ => none }
def civilYearsRow : OpenClaim := { program := "ytdkjjaahmcjnmaa", sum := "40cdab5517dc7f2518961dd8b531248c9fab1f909a0f7812a110bf32c3d2c781", func := "timeball/timeballkeep.CivilYears", spec := "civilYears", apart := false }
def CivilYearsSaid : Prop := civilYearsRow.holds Try.pinned (OpenSpec.ofChange civilYearsSpec)

/-- ITS FALSE NEIGHBOUR: 'it returns false'. Refute it at one input. -/
def civilYearsWrong : ChangeSpec := { name := "civilYears", fn := fun _ => fun
  | [d] => { results := [.lit (.bool false)], args := [d] }
  | _ => none }
def CivilYearsWrongFalsely : Prop := civilYearsRow.holds Try.pinned (OpenSpec.ofChange civilYearsWrong)

/-- 'timeballkeep.CivilDoomsday': WHATEVER THE INPUT: true; the input reads as it did. -/
def civilDoomsdaySpec : ChangeSpec := { name := "civilDoomsday", fn := fun _ => fun
  | [d] => { results := [.lit (.bool true)], args := [d] }
  | _ => none }
def civilDoomsdayRow : OpenClaim := { program := "ytdkjjaahmcjnmaa", sum := "40cdab5517dc7f2518961dd8b531248c9fab1f909a0f7812a110bf32c3d2c781", func := "timeball/timeballkeep.CivilDoomsday", spec := "civilDoomsday", apart := false }
def CivilDoomsdaySaid : Prop := civilDoomsdayRow.holds Try.pinned (OpenSpec.ofChange civilDoomsdaySpec)

/-- ITS FALSE NEIGHBOUR: 'it returns false'. Refute it at one input. -/
def civilDoomsdayWrong : ChangeSpec := { name := "civilDoomsday", fn := fun _ => fun
  | [d] => { results := [.lit (.bool false)], args := [d] }
  | _ => none }
def CivilDoomsdayWrongFalsely : Prop := civilDoomsdayRow.holds Try.pinned (OpenSpec.ofChange civilDoomsdayWrong)

/-- 'timeballkeep.CivilFriday': WHATEVER THE INPUT: true; the input reads as it did. -/
def civilFridaySpec : ChangeSpec := { name := "civilFriday", fn := fun _ => fun
  | [d] => { results := [.lit (.bool true)], args := [d] }
  | _ => none }
def civilFridayRow : OpenClaim := { program := "ytdkjjaahmcjnmaa", sum := "40cdab5517dc7f2518961dd8b531248c9fab1f909a0f7812a110bf32c3d2c781", func := "timeball/timeballkeep.CivilFriday", spec := "civilFriday", apart := false }
def CivilFridaySaid : Prop := civilFridayRow.holds Try.pinned (OpenSpec.ofChange civilFridaySpec)

/-- ITS FALSE NEIGHBOUR: 'it returns false'. Refute it at one input. -/
def civilFridayWrong : ChangeSpec := { name := "civilFriday", fn := fun _ => fun
  | [d] => { results := [.lit (.bool false)], args := [d] }
  | _ => none }
def CivilFridayWrongFalsely : Prop := civilFridayRow.holds Try.pinned (OpenSpec.ofChange civilFridayWrong)

/-- 'timeballkeep.CivilSum': WHATEVER THE INPUT: true; the input reads as it did. -/
def civilSumSpec : ChangeSpec := { name := "civilSum", fn := fun _ => fun
  | [d] => { results := [.lit (.bool true)], args := [d] }
  | _ => none }
def civilSumRow : OpenClaim := { program := "ytdkjjaahmcjnmaa", sum := "40cdab5517dc7f2518961dd8b531248c9fab1f909a0f7812a110bf32c3d2c781", func := "timeball/timeballkeep.CivilSum", spec := "civilSum", apart := false }
def CivilSumSaid : Prop := civilSumRow.holds Try.pinned (OpenSpec.ofChange civilSumSpec)

/-- ITS FALSE NEIGHBOUR: 'it returns false'. Refute it at one input. -/
def civilSumWrong : ChangeSpec := { name := "civilSum", fn := fun _ => fun
  | [d] => { results := [.lit (.bool false)], args := [d] }
  | _ => none }
def CivilSumWrongFalsely : Prop := civilSumRow.holds Try.pinned (OpenSpec.ofChange civilSumWrong)

/-- 'timeballkeep.CivilWeek': WHATEVER THE INPUT: true; the input reads as it did. -/
def civilWeekSpec : ChangeSpec := { name := "civilWeek", fn := fun _ => fun
  | [d] => { results := [.lit (.bool true)], args := [d] }
  | _ => none }
def civilWeekRow : OpenClaim := { program := "ytdkjjaahmcjnmaa", sum := "40cdab5517dc7f2518961dd8b531248c9fab1f909a0f7812a110bf32c3d2c781", func := "timeball/timeballkeep.CivilWeek", spec := "civilWeek", apart := false }
def CivilWeekSaid : Prop := civilWeekRow.holds Try.pinned (OpenSpec.ofChange civilWeekSpec)

/-- ITS FALSE NEIGHBOUR: 'it returns false'. Refute it at one input. -/
def civilWeekWrong : ChangeSpec := { name := "civilWeek", fn := fun _ => fun
  | [d] => { results := [.lit (.bool false)], args := [d] }
  | _ => none }
def CivilWeekWrongFalsely : Prop := civilWeekRow.holds Try.pinned (OpenSpec.ofChange civilWeekWrong)

/-- 'timeballkeep.CivilOrder': WHATEVER THE INPUT: true; the input reads as it did. -/
def civilOrderSpec : ChangeSpec := { name := "civilOrder", fn := fun _ => fun
  | [d1, d2, d3, d4, d5, d6] => { results := [.lit (.bool true)], args := [d1, d2, d3, d4, d5, d6] }
  | _ => none }
def civilOrderRow : OpenClaim := { program := "ytdkjjaahmcjnmaa", sum := "40cdab5517dc7f2518961dd8b531248c9fab1f909a0f7812a110bf32c3d2c781", func := "timeball/timeballkeep.CivilOrder", spec := "civilOrder", apart := false }
def CivilOrderSaid : Prop := civilOrderRow.holds Try.pinned (OpenSpec.ofChange civilOrderSpec)

/-- ITS FALSE NEIGHBOUR: 'it returns false'. Refute it at one input. -/
def civilOrderWrong : ChangeSpec := { name := "civilOrder", fn := fun _ => fun
  | [d1, d2, d3, d4, d5, d6] => { results := [.lit (.bool false)], args := [d1, d2, d3, d4, d5, d6] }
  | _ => none }
def CivilOrderWrongFalsely : Prop := civilOrderRow.holds Try.pinned (OpenSpec.ofChange civilOrderWrong)

/-- 'timeballkeep.CivilAges': WHATEVER THE INPUT: true; the input reads as it did. -/
def civilAgesSpec : ChangeSpec := { name := "civilAges", fn := fun _ => fun
  | [d] => { results := [.lit (.bool true)], args := [d] }
  | _ => none }
def civilAgesRow : OpenClaim := { program := "ytdkjjaahmcjnmaa", sum := "40cdab5517dc7f2518961dd8b531248c9fab1f909a0f7812a110bf32c3d2c781", func := "timeball/timeballkeep.CivilAges", spec := "civilAges", apart := false }
def CivilAgesSaid : Prop := civilAgesRow.holds Try.pinned (OpenSpec.ofChange civilAgesSpec)

/-- ITS FALSE NEIGHBOUR: 'it returns false'. Refute it at one input. -/
def civilAgesWrong : ChangeSpec := { name := "civilAges", fn := fun _ => fun
  | [d] => { results := [.lit (.bool false)], args := [d] }
  | _ => none }
def CivilAgesWrongFalsely : Prop := civilAgesRow.holds Try.pinned (OpenSpec.ofChange civilAgesWrong)

/-- 'timeballkeep.DayKinds': WHATEVER THE INPUT: true; the input reads as it did. -/
def dayKindsSpec : ChangeSpec := { name := "dayKinds", fn := fun _ => fun
  | [d1, d2, d3] => { results := [.lit (.bool true)], args := [d1, d2, d3] }
  | _ => none }
def dayKindsRow : OpenClaim := { program := "ytdkjjaahmcjnmaa", sum := "40cdab5517dc7f2518961dd8b531248c9fab1f909a0f7812a110bf32c3d2c781", func := "timeball/timeballkeep.DayKinds", spec := "dayKinds", apart := false }
def DayKindsSaid : Prop := dayKindsRow.holds Try.pinned (OpenSpec.ofChange dayKindsSpec)

/-- ITS FALSE NEIGHBOUR: 'it returns false'. Refute it at one input. -/
def dayKindsWrong : ChangeSpec := { name := "dayKinds", fn := fun _ => fun
  | [d1, d2, d3] => { results := [.lit (.bool false)], args := [d1, d2, d3] }
  | _ => none }
def DayKindsWrongFalsely : Prop := dayKindsRow.holds Try.pinned (OpenSpec.ofChange dayKindsWrong)

/-- 'timeballkeep.DaySides': WHATEVER THE INPUT: true; the input reads as it did. -/
def daySidesSpec : ChangeSpec := { name := "daySides", fn := fun _ => fun
  | [d1, d2, d3, d4] => { results := [.lit (.bool true)], args := [d1, d2, d3, d4] }
  | _ => none }
def daySidesRow : OpenClaim := { program := "ytdkjjaahmcjnmaa", sum := "40cdab5517dc7f2518961dd8b531248c9fab1f909a0f7812a110bf32c3d2c781", func := "timeball/timeballkeep.DaySides", spec := "daySides", apart := false }
def DaySidesSaid : Prop := daySidesRow.holds Try.pinned (OpenSpec.ofChange daySidesSpec)

/-- ITS FALSE NEIGHBOUR: 'it returns false'. Refute it at one input. -/
def daySidesWrong : ChangeSpec := { name := "daySides", fn := fun _ => fun
  | [d1, d2, d3, d4] => { results := [.lit (.bool false)], args := [d1, d2, d3, d4] }
  | _ => none }
def DaySidesWrongFalsely : Prop := daySidesRow.holds Try.pinned (OpenSpec.ofChange daySidesWrong)

/-- 'timeballkeep.DayUnique': WHATEVER THE INPUT: true; the input reads as it did. -/
def dayUniqueSpec : ChangeSpec := { name := "dayUnique", fn := fun _ => fun
  | [d1, d2, d3] => { results := [.lit (.bool true)], args := [d1, d2, d3] }
  | _ => none }
def dayUniqueRow : OpenClaim := { program := "ytdkjjaahmcjnmaa", sum := "40cdab5517dc7f2518961dd8b531248c9fab1f909a0f7812a110bf32c3d2c781", func := "timeball/timeballkeep.DayUnique", spec := "dayUnique", apart := false }
def DayUniqueSaid : Prop := dayUniqueRow.holds Try.pinned (OpenSpec.ofChange dayUniqueSpec)

/-- ITS FALSE NEIGHBOUR: 'it returns false'. Refute it at one input. -/
def dayUniqueWrong : ChangeSpec := { name := "dayUnique", fn := fun _ => fun
  | [d1, d2, d3] => { results := [.lit (.bool false)], args := [d1, d2, d3] }
  | _ => none }
def DayUniqueWrongFalsely : Prop := dayUniqueRow.holds Try.pinned (OpenSpec.ofChange dayUniqueWrong)

/-- 'timeballkeep.DayWeeks': WHATEVER THE INPUT: true; the input reads as it did. -/
def dayWeeksSpec : ChangeSpec := { name := "dayWeeks", fn := fun _ => fun
  | [d1, d2, d3, d4] => { results := [.lit (.bool true)], args := [d1, d2, d3, d4] }
  | _ => none }
def dayWeeksRow : OpenClaim := { program := "ytdkjjaahmcjnmaa", sum := "40cdab5517dc7f2518961dd8b531248c9fab1f909a0f7812a110bf32c3d2c781", func := "timeball/timeballkeep.DayWeeks", spec := "dayWeeks", apart := false }
def DayWeeksSaid : Prop := dayWeeksRow.holds Try.pinned (OpenSpec.ofChange dayWeeksSpec)

/-- ITS FALSE NEIGHBOUR: 'it returns false'. Refute it at one input. -/
def dayWeeksWrong : ChangeSpec := { name := "dayWeeks", fn := fun _ => fun
  | [d1, d2, d3, d4] => { results := [.lit (.bool false)], args := [d1, d2, d3, d4] }
  | _ => none }
def DayWeeksWrongFalsely : Prop := dayWeeksRow.holds Try.pinned (OpenSpec.ofChange dayWeeksWrong)

/-- 'timeballkeep.DayMonths': WHATEVER THE INPUT: true; the input reads as it did. -/
def dayMonthsSpec : ChangeSpec := { name := "dayMonths", fn := fun _ => fun
  | [d1, d2, d3] => { results := [.lit (.bool true)], args := [d1, d2, d3] }
  | _ => none }
def dayMonthsRow : OpenClaim := { program := "ytdkjjaahmcjnmaa", sum := "40cdab5517dc7f2518961dd8b531248c9fab1f909a0f7812a110bf32c3d2c781", func := "timeball/timeballkeep.DayMonths", spec := "dayMonths", apart := false }
def DayMonthsSaid : Prop := dayMonthsRow.holds Try.pinned (OpenSpec.ofChange dayMonthsSpec)

/-- ITS FALSE NEIGHBOUR: 'it returns false'. Refute it at one input. -/
def dayMonthsWrong : ChangeSpec := { name := "dayMonths", fn := fun _ => fun
  | [d1, d2, d3] => { results := [.lit (.bool false)], args := [d1, d2, d3] }
  | _ => none }
def DayMonthsWrongFalsely : Prop := dayMonthsRow.holds Try.pinned (OpenSpec.ofChange dayMonthsWrong)

/- THE SECOND FORM. 'bulk': how many values and letters a reading holds, each counted each time it is reached (what is shared counts as often as it is met; a slice's spare places count too). A statement '..UptoSaid' is the law's where the arguments, and the package variables that the reading takes, are together of bulk at most 1048576: NARROWER than '..Said'. Prove '..Said' where nothing that the law and all that it calls make is longer than what came in: it says more and counts as full. Else prove '..UptoSaid'. A law counts once. -/
mutual
def uptoBulk {H : Type} : DataW H → Nat
  | .lit (.string bytes) => bytes.length + 1
  | .lit _ => 1
  | .nil => 1
  | .ptr d => uptoBulk d + 1
  | .slice elems spare => uptoBulkAll elems + uptoBulkAll spare + 1
  | .agg parts => uptoBulkAll parts + 1
  | .iface _ d => uptoBulk d + 1
  | .map entries => uptoBulkEntries entries + 1
  | .held _ => 1
def uptoBulkAll {H : Type} : List (DataW H) → Nat
  | [] => 0
  | d :: r => uptoBulk d + uptoBulkAll r
def uptoBulkEntries {H : Type} : List (Lit × DataW H) → Nat
  | [] => 0
  | x :: r => uptoBulkEntry x + uptoBulkEntries r
def uptoBulkEntry {H : Type} : Lit × DataW H → Nat
  | (.string bytes, d) => bytes.length + uptoBulk d + 1
  | (_, d) => uptoBulk d + 1
 end
def uptoSmall : (H : Type) → List (DataW H) → Bool := fun _ ds => decide (uptoBulkAll ds ≤ 1048576)
def OpenSpec.upto (s : _root_.Go.ChangeSpec) : _root_.Go.OpenSpec := { _root_.Go.OpenSpec.ofChange s with cond := some uptoSmall }

/-- 'timeballkeep.CivilBack', WHERE WHAT IT READS IS OF BULK AT MOST 1048576: true; the input reads as it did. -/
def civilBackUptoRow : OpenClaim := { program := "ytdkjjaahmcjnmaa", sum := "40cdab5517dc7f2518961dd8b531248c9fab1f909a0f7812a110bf32c3d2c781", func := "timeball/timeballkeep.CivilBack", spec := "civilBack", apart := false, narrowed := true }
def CivilBackUptoSaid : Prop := civilBackUptoRow.holds Try.pinned (OpenSpec.upto civilBackSpec)

/-- 'timeballkeep.CivilNext', WHERE WHAT IT READS IS OF BULK AT MOST 1048576: true; the input reads as it did. -/
def civilNextUptoRow : OpenClaim := { program := "ytdkjjaahmcjnmaa", sum := "40cdab5517dc7f2518961dd8b531248c9fab1f909a0f7812a110bf32c3d2c781", func := "timeball/timeballkeep.CivilNext", spec := "civilNext", apart := false, narrowed := true }
def CivilNextUptoSaid : Prop := civilNextUptoRow.holds Try.pinned (OpenSpec.upto civilNextSpec)

/-- 'timeballkeep.CivilYears', WHERE WHAT IT READS IS OF BULK AT MOST 1048576: true; the input reads as it did. -/
def civilYearsUptoRow : OpenClaim := { program := "ytdkjjaahmcjnmaa", sum := "40cdab5517dc7f2518961dd8b531248c9fab1f909a0f7812a110bf32c3d2c781", func := "timeball/timeballkeep.CivilYears", spec := "civilYears", apart := false, narrowed := true }
def CivilYearsUptoSaid : Prop := civilYearsUptoRow.holds Try.pinned (OpenSpec.upto civilYearsSpec)

/-- 'timeballkeep.CivilDoomsday', WHERE WHAT IT READS IS OF BULK AT MOST 1048576: true; the input reads as it did. -/
def civilDoomsdayUptoRow : OpenClaim := { program := "ytdkjjaahmcjnmaa", sum := "40cdab5517dc7f2518961dd8b531248c9fab1f909a0f7812a110bf32c3d2c781", func := "timeball/timeballkeep.CivilDoomsday", spec := "civilDoomsday", apart := false, narrowed := true }
def CivilDoomsdayUptoSaid : Prop := civilDoomsdayUptoRow.holds Try.pinned (OpenSpec.upto civilDoomsdaySpec)

/-- 'timeballkeep.CivilFriday', WHERE WHAT IT READS IS OF BULK AT MOST 1048576: true; the input reads as it did. -/
def civilFridayUptoRow : OpenClaim := { program := "ytdkjjaahmcjnmaa", sum := "40cdab5517dc7f2518961dd8b531248c9fab1f909a0f7812a110bf32c3d2c781", func := "timeball/timeballkeep.CivilFriday", spec := "civilFriday", apart := false, narrowed := true }
def CivilFridayUptoSaid : Prop := civilFridayUptoRow.holds Try.pinned (OpenSpec.upto civilFridaySpec)

/-- 'timeballkeep.CivilSum', WHERE WHAT IT READS IS OF BULK AT MOST 1048576: true; the input reads as it did. -/
def civilSumUptoRow : OpenClaim := { program := "ytdkjjaahmcjnmaa", sum := "40cdab5517dc7f2518961dd8b531248c9fab1f909a0f7812a110bf32c3d2c781", func := "timeball/timeballkeep.CivilSum", spec := "civilSum", apart := false, narrowed := true }
def CivilSumUptoSaid : Prop := civilSumUptoRow.holds Try.pinned (OpenSpec.upto civilSumSpec)

/-- 'timeballkeep.CivilWeek', WHERE WHAT IT READS IS OF BULK AT MOST 1048576: true; the input reads as it did. -/
def civilWeekUptoRow : OpenClaim := { program := "ytdkjjaahmcjnmaa", sum := "40cdab5517dc7f2518961dd8b531248c9fab1f909a0f7812a110bf32c3d2c781", func := "timeball/timeballkeep.CivilWeek", spec := "civilWeek", apart := false, narrowed := true }
def CivilWeekUptoSaid : Prop := civilWeekUptoRow.holds Try.pinned (OpenSpec.upto civilWeekSpec)

/-- 'timeballkeep.CivilOrder', WHERE WHAT IT READS IS OF BULK AT MOST 1048576: true; the input reads as it did. -/
def civilOrderUptoRow : OpenClaim := { program := "ytdkjjaahmcjnmaa", sum := "40cdab5517dc7f2518961dd8b531248c9fab1f909a0f7812a110bf32c3d2c781", func := "timeball/timeballkeep.CivilOrder", spec := "civilOrder", apart := false, narrowed := true }
def CivilOrderUptoSaid : Prop := civilOrderUptoRow.holds Try.pinned (OpenSpec.upto civilOrderSpec)

/-- 'timeballkeep.CivilAges', WHERE WHAT IT READS IS OF BULK AT MOST 1048576: true; the input reads as it did. -/
def civilAgesUptoRow : OpenClaim := { program := "ytdkjjaahmcjnmaa", sum := "40cdab5517dc7f2518961dd8b531248c9fab1f909a0f7812a110bf32c3d2c781", func := "timeball/timeballkeep.CivilAges", spec := "civilAges", apart := false, narrowed := true }
def CivilAgesUptoSaid : Prop := civilAgesUptoRow.holds Try.pinned (OpenSpec.upto civilAgesSpec)

/-- 'timeballkeep.DayKinds', WHERE WHAT IT READS IS OF BULK AT MOST 1048576: true; the input reads as it did. -/
def dayKindsUptoRow : OpenClaim := { program := "ytdkjjaahmcjnmaa", sum := "40cdab5517dc7f2518961dd8b531248c9fab1f909a0f7812a110bf32c3d2c781", func := "timeball/timeballkeep.DayKinds", spec := "dayKinds", apart := false, narrowed := true }
def DayKindsUptoSaid : Prop := dayKindsUptoRow.holds Try.pinned (OpenSpec.upto dayKindsSpec)

/-- 'timeballkeep.DaySides', WHERE WHAT IT READS IS OF BULK AT MOST 1048576: true; the input reads as it did. -/
def daySidesUptoRow : OpenClaim := { program := "ytdkjjaahmcjnmaa", sum := "40cdab5517dc7f2518961dd8b531248c9fab1f909a0f7812a110bf32c3d2c781", func := "timeball/timeballkeep.DaySides", spec := "daySides", apart := false, narrowed := true }
def DaySidesUptoSaid : Prop := daySidesUptoRow.holds Try.pinned (OpenSpec.upto daySidesSpec)

/-- 'timeballkeep.DayUnique', WHERE WHAT IT READS IS OF BULK AT MOST 1048576: true; the input reads as it did. -/
def dayUniqueUptoRow : OpenClaim := { program := "ytdkjjaahmcjnmaa", sum := "40cdab5517dc7f2518961dd8b531248c9fab1f909a0f7812a110bf32c3d2c781", func := "timeball/timeballkeep.DayUnique", spec := "dayUnique", apart := false, narrowed := true }
def DayUniqueUptoSaid : Prop := dayUniqueUptoRow.holds Try.pinned (OpenSpec.upto dayUniqueSpec)

/-- 'timeballkeep.DayWeeks', WHERE WHAT IT READS IS OF BULK AT MOST 1048576: true; the input reads as it did. -/
def dayWeeksUptoRow : OpenClaim := { program := "ytdkjjaahmcjnmaa", sum := "40cdab5517dc7f2518961dd8b531248c9fab1f909a0f7812a110bf32c3d2c781", func := "timeball/timeballkeep.DayWeeks", spec := "dayWeeks", apart := false, narrowed := true }
def DayWeeksUptoSaid : Prop := dayWeeksUptoRow.holds Try.pinned (OpenSpec.upto dayWeeksSpec)

/-- 'timeballkeep.DayMonths', WHERE WHAT IT READS IS OF BULK AT MOST 1048576: true; the input reads as it did. -/
def dayMonthsUptoRow : OpenClaim := { program := "ytdkjjaahmcjnmaa", sum := "40cdab5517dc7f2518961dd8b531248c9fab1f909a0f7812a110bf32c3d2c781", func := "timeball/timeballkeep.DayMonths", spec := "dayMonths", apart := false, narrowed := true }
def DayMonthsUptoSaid : Prop := dayMonthsUptoRow.holds Try.pinned (OpenSpec.upto dayMonthsSpec)

end Rows
end Go.Proofs.Ytdkjjaahmcjnmaa
