/- Date and Weekday elsewhere, and the reference's small functions: what each returns. -/
import Derived.Test.YtacogloheiendaaGreatDoorCiv2
namespace Go.Proofs.YtacogloheiendaaGreatDoor
open Go.RowKit
set_option linter.unusedVariables false
set_option linter.unusedSimpArgs false

theorem Date_no (n : Int) (w : World) (h : n < -135140 ∨ 157053 < n) :
    Calls Tryz.prog 26 #[.int .i64 n] w fun e w' => e = .returned (.tuple #[.int .i64 0, .int .i64 0, .int .i64 0, .int .i64 1]) ∧ w = w' := by
  have e1 := Lib.hid Civ.first_eq
  have e2 := Lib.hid Civ.last_eq
  rcases h with h | h
  · go_enter Tryz.func26, Tryz.ntmps26
    go_wp2_with fail
    refine (days_any _ _ _ _ (by omega) (by omega) (by omega) (by omega) (by omega) (by omega)).mono ?_
    rintro e w' ⟨rfl, rfl⟩
    rw [e1.out]
    go_wp2
    refine bodyPost_ret (results_tmp4 rfl _ _ _) rfl ?_
    exact ⟨rfl, rfl⟩
  · have h' : ¬ n < -135140 := by omega
    go_enter Tryz.func26, Tryz.ntmps26
    go_wp2_with fail
    refine (days_any _ _ _ _ (by omega) (by omega) (by omega) (by omega) (by omega) (by omega)).mono ?_
    rintro e w' ⟨rfl, rfl⟩
    rw [e1.out]
    go_wp2_with fail
    refine (days_any _ _ _ _ (by omega) (by omega) (by omega) (by omega) (by omega) (by omega)).mono ?_
    rintro e w' ⟨rfl, rfl⟩
    rw [e2.out]
    go_wp2
    refine bodyPost_ret (results_tmp4 rfl _ _ _) rfl ?_
    exact ⟨rfl, rfl⟩


theorem tmod_week (n : Int) (h0 : -1000000 ≤ n) (h1 : n ≤ 1000000) : (wrap64 (n.tmod 7 + 7)).tmod 7 = n % 7 := by
  have h := Int.tmod_eq_emod (a := n) (b := 7)
  rw [IntWalk.wrap64_in _ (by split at h <;> omega)]
  rw [Int.tmod_eq_emod_of_nonneg (by split at h <;> omega)]
  split at h <;> omega

theorem Weekday_ok (n : Int) (w : World) (h0 : -135140 ≤ n) (h1 : n ≤ 157053) :
    Calls Tryz.prog 75 #[.int .i64 n] w fun e w' => e = .returned (.tuple #[.int .i64 ((n + 4) % 7), .int .i64 0]) ∧ w = w' := by
  have hw := Lib.hid (tmod_week (n + 4) (by omega) (by omega))
  go_enter Tryz.func75, Tryz.ntmps75
  go_wp2_with (go_at_call 26; refine (Date_ok _ _ (by omega) (by omega)).mono ?_; rintro e w' ⟨rfl, rfl⟩)
  go_ret2
  rw [← hw.out]
  exact ⟨rfl, rfl⟩

theorem Weekday_no (n : Int) (w : World) (h : n < -135140 ∨ 157053 < n) :
    Calls Tryz.prog 75 #[.int .i64 n] w fun e w' => e = .returned (.tuple #[.int .i64 0, .int .i64 1]) ∧ w = w' := by
  go_enter Tryz.func75, Tryz.ntmps75
  go_wp2_with (go_at_call 26; refine (Date_no _ _ h).mono ?_; rintro e w' ⟨rfl, rfl⟩)
  go_ret2
  exact ⟨rfl, rfl⟩

theorem rest_neg (n m : Int) (h0 : 0 < m) (h1 : m ≤ 4611686018427387904) (h : n.tmod m < 0) : wrap64 (n.tmod m + m) = n % m := by
  have q := Int.tmod_eq_emod (a := n) (b := m)
  have := Int.emod_nonneg n (show m ≠ 0 by omega)
  have := Int.emod_lt_of_pos n h0
  have e : n.tmod m + m = n % m := by
    split at q
    · omega
    · have : (m.natAbs : Int) = m := by omega
      omega
  rw [e]
  exact IntWalk.wrap64_in _ ⟨by omega, by omega⟩

theorem rest_pos (n m : Int) (h0 : 0 < m) (h : 0 ≤ n.tmod m) : n.tmod m = n % m := by
  have q := Int.tmod_eq_emod (a := n) (b := m)
  have := Int.emod_lt_of_pos n h0
  split at q
  · omega
  · have : (m.natAbs : Int) = m := by omega
    omega

end Go.Proofs.YtacogloheiendaaGreatDoor
