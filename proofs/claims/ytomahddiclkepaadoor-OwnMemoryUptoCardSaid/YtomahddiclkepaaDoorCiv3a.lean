/- Date and Weekday elsewhere, and the reference's small functions: what each returns. -/
import Derived.Test.YtomahddiclkepaaDoorCiv2
namespace Go.Proofs.YtomahddiclkepaaDoor
open Go.RowKit
set_option linter.unusedVariables false
set_option linter.unusedSimpArgs false

theorem Date_no (n : Int) (w : World) (h : n < -135140 ∨ 157053 < n) :
    Calls Tryd.prog 62 #[.int .i64 n] w fun e w' => e = .returned (.tuple #[.int .i64 0, .int .i64 0, .int .i64 0, .int .i64 1]) ∧ w = w' := by
  have e1 := Lib.hid Civ.first_eq
  have e2 := Lib.hid Civ.last_eq
  rcases h with h | h
  · go_enter Tryd.func62, Tryd.ntmps62
    go_wp2_with fail
    refine (days_any _ _ _ _ (by omega) (by omega) (by omega) (by omega) (by omega) (by omega)).mono ?_
    rintro e w' ⟨rfl, rfl⟩
    rw [e1.out]
    go_wp2
    refine bodyPost_ret (results_tmp4 rfl _ _ _) rfl ?_
    exact ⟨rfl, rfl⟩
  · have h' : ¬ n < -135140 := by omega
    go_enter Tryd.func62, Tryd.ntmps62
    go_wp2_with fail
    refine (days_any _ _ _ _ (by omega) (by omega) (by omega) (by omega) (by omega) (by omega)).mono ?_
    rintro e w' ⟨rfl, rfl⟩
    rw [e1.out]
    go_wp2_with fail
    refine (days_any _ _ _ _ (by omega) (by omega) (by omega) (by omega) (by omega) (by omega)).mono ?_
    rintro e w' ⟨rfl, rfl⟩
    rw [e2.out]
    go_wp2
    refine bodyPost_ret (results_tmp4 rfl _ _ _) rfl ?_
    exact ⟨rfl, rfl⟩


theorem tmod_week (n : Int) (h0 : -1000000 ≤ n) (h1 : n ≤ 1000000) : (wrap64 (n.tmod 7 + 7)).tmod 7 = n % 7 := by
  have h := Int.tmod_eq_emod (a := n) (b := 7)
  rw [IntWalk.wrap64_in _ (by split at h <;> omega)]
  rw [Int.tmod_eq_emod_of_nonneg (by split at h <;> omega)]
  split at h <;> omega

theorem rest_neg (n m : Int) (h0 : 0 < m) (h1 : m ≤ 4611686018427387904) (h : n.tmod m < 0) : wrap64 (n.tmod m + m) = n % m := by
  have q := Int.tmod_eq_emod (a := n) (b := m)
  have := Int.emod_nonneg n (show m ≠ 0 by omega)
  have := Int.emod_lt_of_pos n h0
  have e : n.tmod m + m = n % m := by
    split at q
    · omega
    · have : (m.natAbs : Int) = m := by omega
      omega
  rw [e]
  exact IntWalk.wrap64_in _ ⟨by omega, by omega⟩

theorem rest_pos (n m : Int) (h0 : 0 < m) (h : 0 ≤ n.tmod m) : n.tmod m = n % m := by
  have q := Int.tmod_eq_emod (a := n) (b := m)
  have := Int.emod_lt_of_pos n h0
  split at q
  · omega
  · have : (m.natAbs : Int) = m := by omega
    omega

end Go.Proofs.YtomahddiclkepaaDoor
