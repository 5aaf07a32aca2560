/- What a row's list of package-level variables gives: strconv's table of powers of ten. -/
import Derived.Test.YtlgdilpmdoofiaaDoorCards
import Derived.Test.YtlgdilpmdoofiaaDoorTie
import Derived.Test.YtlgdilpmdoofiaaDoorClk00
import Derived.LaidMore
import Derived.Deep.DeepHandedRow
import Derived.Deep.DeepWitnessRowRef
import Derived.Lib.LaidTab
import Derived.Stop.LaidErr
namespace Go.Proofs.YtlgdilpmdoofiaaDoor
open Go.ChangeShapes Go.WideShapes Go.ChangeAt Go.RowKit
set_option linter.unusedVariables false

theorem gPow : Tryd.prog.globalNamed "internal/strconv.uint64pow10" = some 1 := by kernel_rfl
theorem gPowType : (Tryd.prog.globals[1]?).map (·.type) = some 203 := by kernel_rfl
theorem tab10_of {W : World} {a b : String × DataW Unit} {rest : List (String × DataW Unit)} (h : laidMet Tryd.prog (a :: b :: ("internal/strconv.uint64pow10", Rows.laid_internal_strconv_uint64pow10) :: rest) W) : Tab10 W :=
  Lib.tabIs_of_head (rest := rest) gPow gPowType Tryd.underlying203 Tryd.underlying149 (by kernel_rfl) (by kernel_rfl) h.tail.tail
end Go.Proofs.YtlgdilpmdoofiaaDoor
