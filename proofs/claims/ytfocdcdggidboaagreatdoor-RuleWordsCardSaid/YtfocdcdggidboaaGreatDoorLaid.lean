/- What a row's list of package-level variables gives, and bytealg's MaxLen. -/
import Derived.Test.YtfocdcdggidboaaGreatDoorCards
import Derived.Test.YtfocdcdggidboaaGreatDoorTie
import Derived.Test.YtfocdcdggidboaaGreatDoorClk5a
import Derived.Test.YtfocdcdggidboaaGreatDoorLaid0
import Derived.LaidMore
import Derived.Deep.DeepHandedRow
import Derived.Deep.DeepWitnessRowRef
import Derived.Lib.LaidTab
import Derived.Stop.LaidErr
namespace Go.Proofs.YtfocdcdggidboaaGreatDoor
open Go.ChangeShapes Go.WideShapes Go.ChangeAt Go.RowKit
set_option linter.unusedVariables false

theorem maxLen_of {W : World} (h : W.ShapedOpen Tryz.prog) : MaxLen W :=
  Go.Proofs.cell_of_shapedOpen_int (zero := #[.int .i64 0]) (t := 3) h (of_decide_eq_true (by kernel_rfl)) (by kernel_rfl) rfl (by kernel_rfl) (by kernel_rfl) Tryz.underlying3
end Go.Proofs.YtfocdcdggidboaaGreatDoor
