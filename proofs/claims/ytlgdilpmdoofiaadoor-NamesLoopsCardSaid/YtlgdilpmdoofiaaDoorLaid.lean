/- What a row's list of package-level variables gives, and bytealg's MaxLen. -/
import Derived.Test.YtlgdilpmdoofiaaDoorCards
import Derived.Test.YtlgdilpmdoofiaaDoorTie
import Derived.Test.YtlgdilpmdoofiaaDoorClk5a
import Derived.Test.YtlgdilpmdoofiaaDoorLaid0
import Derived.LaidMore
import Derived.Deep.DeepHandedRow
import Derived.Deep.DeepWitnessRowRef
import Derived.Lib.LaidTab
import Derived.Stop.LaidErr
namespace Go.Proofs.YtlgdilpmdoofiaaDoor
open Go.ChangeShapes Go.WideShapes Go.ChangeAt Go.RowKit
set_option linter.unusedVariables false

theorem maxLen_of {W : World} (h : W.ShapedOpen Tryd.prog) : MaxLen W :=
  Go.Proofs.cell_of_shapedOpen_int (zero := #[.int .i64 0]) (t := 3) h (of_decide_eq_true (by kernel_rfl)) (by kernel_rfl) rfl (by kernel_rfl) (by kernel_rfl) Tryd.underlying3
end Go.Proofs.YtlgdilpmdoofiaaDoor
