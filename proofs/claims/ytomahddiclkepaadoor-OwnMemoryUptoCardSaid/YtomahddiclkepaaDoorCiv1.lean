/- The calendar's functions: what each returns. Conditions: years and days within their ranges. -/
import Derived.Test.YtomahddiclkepaaDoorCiv0
namespace Go.Proofs.YtomahddiclkepaaDoor
open Go.RowKit
set_option linter.unusedVariables false

set_option maxHeartbeats 400000 in
theorem days_any (y m d : Int) (w : World) (h0 : 1 ≤ y) (h1 : y ≤ 100000) (h2 : 1 ≤ m) (h3 : m ≤ 12) (h4 : -100000 ≤ d) (h5 : d ≤ 100000) :
    Calls Tryd.prog 68 #[.int .i64 y, .int .i64 m, .int .i64 d] w fun e w' => e = .returned (.int .i64 (Civ.days y m d)) ∧ w = w' := by
  by_cases hm : m < 3
  · go_enter Tryd.func68, Tryd.ntmps68
    go_wp2
    go_ret
    refine ⟨ret_int ?_, rfl⟩
    unfold Civ.days Civ.ady Civ.adm
    rw [if_pos (by omega), if_pos (by omega)]
  · go_enter Tryd.func68, Tryd.ntmps68
    go_wp2
    go_ret
    refine ⟨ret_int ?_, rfl⟩
    unfold Civ.days Civ.ady Civ.adm
    rw [if_neg (by omega), if_neg (by omega)]


def validB (y m d : Int) : Bool := decide (1600 ≤ y ∧ y ≤ 2399 ∧ 1 ≤ m ∧ m ≤ 12 ∧ 1 ≤ d ∧ d ≤ Civ.mlen y m)
theorem validB_iff {y m d : Int} : validB y m d = true ↔ Civ.valid y m d := by simp [validB, Civ.valid]

end Go.Proofs.YtomahddiclkepaaDoor
