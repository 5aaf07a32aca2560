/- What a row's list of package-level variables gives: strconv's table of powers of ten. -/
import Derived.Test.YtfocdcdggidboaaGreatDoorCards
import Derived.Test.YtfocdcdggidboaaGreatDoorTie
import Derived.Test.YtfocdcdggidboaaGreatDoorClk0
import Derived.LaidMore
import Derived.Deep.DeepHandedRow
import Derived.Deep.DeepWitnessRowRef
import Derived.Lib.LaidTab
import Derived.Stop.LaidErr
namespace Go.Proofs.YtfocdcdggidboaaGreatDoor
open Go.ChangeShapes Go.WideShapes Go.ChangeAt Go.RowKit
set_option linter.unusedVariables false

theorem gPow : Tryz.prog.globalNamed "internal/strconv.uint64pow10" = some 7 := by kernel_rfl
theorem gPowType : (Tryz.prog.globals[7]?).map (·.type) = some 138 := by kernel_rfl
theorem tab10_of {W : World} {a b : String × DataW Unit} {rest : List (String × DataW Unit)} (h : laidMet Tryz.prog (a :: b :: ("internal/strconv.uint64pow10", Rows.laid_internal_strconv_uint64pow10) :: rest) W) : Tab10 W :=
  Lib.tabIs_of_head (rest := rest) gPow gPowType Tryz.underlying138 Tryz.underlying96 (by kernel_rfl) (by kernel_rfl) h.tail.tail
end Go.Proofs.YtfocdcdggidboaaGreatDoor
