/- What a row's list of package-level variables gives: strings' table of white space. -/
import Derived.Test.YtfocdcdggidboaaGreatDoorLaid2
import Derived.Test.YtfocdcdggidboaaGreatDoorRu2
namespace Go.Proofs.YtfocdcdggidboaaGreatDoor
open Go.ChangeShapes Go.WideShapes Go.ChangeAt Go.RowKit
set_option linter.unusedVariables false

theorem gAsc : Tryz.prog.globalNamed "strings.asciiSpace" = some 0 := by kernel_rfl
theorem gAscType : (Tryz.prog.globals[0]?).map (·.type) = some 93 := by kernel_rfl
theorem laidAsc : (Rows.laid_strings_asciiSpace : DataW Unit) = Lib.tabData .u8 Lib.asciiSpaceTab := by kernel_rfl
theorem ascTab_of {W : World} {rest : List (String × DataW Unit)} (h : laidMet Tryz.prog (("strings.asciiSpace", Rows.laid_strings_asciiSpace) :: rest) W) : AscTab W := by
  rw [laidAsc] at h
  exact Lib.tabIs_of_head (rest := rest) gAsc gAscType Tryz.underlying93 Tryz.underlying5 (by kernel_rfl) (by kernel_rfl) h
end Go.Proofs.YtfocdcdggidboaaGreatDoor
