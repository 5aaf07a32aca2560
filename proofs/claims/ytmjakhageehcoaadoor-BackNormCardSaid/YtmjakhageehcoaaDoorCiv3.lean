/- Date and Weekday elsewhere, and the reference's small functions: what each returns. -/
import Derived.Test.YtmjakhageehcoaaDoorCiv2
namespace Go.Proofs.YtmjakhageehcoaaDoor
open Go.RowKit
set_option linter.unusedVariables false
set_option linter.unusedSimpArgs false

theorem Date_no (n : Int) (w : World) (h : n < -135140 ∨ 157053 < n) :
    Calls Tryd.prog 19 #[.int .i64 n] w fun e w' => e = .returned (.tuple #[.int .i64 0, .int .i64 0, .int .i64 0, .int .i64 1]) ∧ w = w' := by
  have e1 := Lib.hid Civ.first_eq
  have e2 := Lib.hid Civ.last_eq
  rcases h with h | h
  · go_enter Tryd.func19, Tryd.ntmps19
    go_wp2_with fail
    refine (days_any _ _ _ _ (by omega) (by omega) (by omega) (by omega) (by omega) (by omega)).mono ?_
    rintro e w' ⟨rfl, rfl⟩
    rw [e1.out]
    go_wp2
    refine bodyPost_ret (results_tmp4 rfl _ _ _) rfl ?_
    exact ⟨rfl, rfl⟩
  · have h' : ¬ n < -135140 := by omega
    go_enter Tryd.func19, Tryd.ntmps19
    go_wp2_with fail
    refine (days_any _ _ _ _ (by omega) (by omega) (by omega) (by omega) (by omega) (by omega)).mono ?_
    rintro e w' ⟨rfl, rfl⟩
    rw [e1.out]
    go_wp2_with fail
    refine (days_any _ _ _ _ (by omega) (by omega) (by omega) (by omega) (by omega) (by omega)).mono ?_
    rintro e w' ⟨rfl, rfl⟩
    rw [e2.out]
    go_wp2
    refine bodyPost_ret (results_tmp4 rfl _ _ _) rfl ?_
    exact ⟨rfl, rfl⟩


theorem tmod_week (n : Int) (h0 : -1000000 ≤ n) (h1 : n ≤ 1000000) : (wrap64 (n.tmod 7 + 7)).tmod 7 = n % 7 := by
  have h := Int.tmod_eq_emod (a := n) (b := 7)
  rw [IntWalk.wrap64_in _ (by split at h <;> omega)]
  rw [Int.tmod_eq_emod_of_nonneg (by split at h <;> omega)]
  split at h <;> omega

theorem Weekday_ok (n : Int) (w : World) (h0 : -135140 ≤ n) (h1 : n ≤ 157053) :
    Calls Tryd.prog 20 #[.int .i64 n] w fun e w' => e = .returned (.tuple #[.int .i64 ((n + 4) % 7), .int .i64 0]) ∧ w = w' := by
  have hw := Lib.hid (tmod_week (n + 4) (by omega) (by omega))
  go_enter Tryd.func20, Tryd.ntmps20
  go_wp2_with (go_at_call 19; refine (Date_ok _ _ (by omega) (by omega)).mono ?_; rintro e w' ⟨rfl, rfl⟩)
  go_ret2
  rw [← hw.out]
  exact ⟨rfl, rfl⟩

theorem Weekday_no (n : Int) (w : World) (h : n < -135140 ∨ 157053 < n) :
    Calls Tryd.prog 20 #[.int .i64 n] w fun e w' => e = .returned (.tuple #[.int .i64 0, .int .i64 1]) ∧ w = w' := by
  go_enter Tryd.func20, Tryd.ntmps20
  go_wp2_with (go_at_call 19; refine (Date_no _ _ h).mono ?_; rintro e w' ⟨rfl, rfl⟩)
  go_ret2
  exact ⟨rfl, rfl⟩

theorem rest_neg (n m : Int) (h0 : 0 < m) (h1 : m ≤ 4611686018427387904) (h : n.tmod m < 0) : wrap64 (n.tmod m + m) = n % m := by
  have q := Int.tmod_eq_emod (a := n) (b := m)
  have := Int.emod_nonneg n (show m ≠ 0 by omega)
  have := Int.emod_lt_of_pos n h0
  have e : n.tmod m + m = n % m := by
    split at q
    · omega
    · have : (m.natAbs : Int) = m := by omega
      omega
  rw [e]
  exact IntWalk.wrap64_in _ ⟨by omega, by omega⟩

theorem rest_pos (n m : Int) (h0 : 0 < m) (h : 0 ≤ n.tmod m) : n.tmod m = n % m := by
  have q := Int.tmod_eq_emod (a := n) (b := m)
  have := Int.emod_lt_of_pos n h0
  split at q
  · omega
  · have : (m.natAbs : Int) = m := by omega
    omega

theorem Rest_any (n m : Int) (w : World) (h0 : 0 < m) (h1 : m ≤ 1099511627776) :
    Calls Tryd.prog 16 #[.int .i64 n, .int .i64 m] w fun e w' => e = .returned (.int .i64 (n % m)) ∧ w = w' := by
  have hh : m ≤ 4611686018427387904 := by omega
  go_enter Tryd.func16, Tryd.ntmps16
  go_wp2
  · go_ret
    exact ⟨ret_int (rest_neg n m h0 hh (by assumption)), rfl⟩
  · go_ret
    exact ⟨ret_int (rest_pos n m h0 (by assumption)), rfl⟩

theorem outside_any (n a b : Int) (w : World) :
    Calls Tryd.prog 34 #[.int .i64 n, .int .i64 a, .int .i64 b] w fun e w' => e = .returned (.bool (decide (n < a ∨ b < n))) ∧ w = w' := by
  by_cases h1 : n < a <;> by_cases h2 : b < n <;>
  · go_enter Tryd.func34, Tryd.ntmps34
    go_wp2
    go_ret
    exact ⟨ret_bool (by simp [h1, h2]), rfl⟩

theorem rLong_any (y : Int) (w : World) (h0 : 0 ≤ y) (h1 : y ≤ 100000) :
    Calls Tryd.prog 53 #[.int .i64 y] w fun e w' => e = .returned (.bool (longB y)) ∧ w = w' := by
  go_enter Tryd.func53, Tryd.ntmps53
  go_wp2
  all_goals
    go_ret
    refine ⟨ret_bool ?_, rfl⟩
    unfold longB Civ.lp
    first
      | (rw [if_pos (by omega)]; rfl)
      | (rw [if_neg (by omega)]; rfl)
      | (by_cases hc : y % 400 = 0
         · rw [if_pos (by omega)]; simp [hc]
         · rw [if_neg (by omega)]; simp [hc])

set_option maxHeartbeats 1000000 in
theorem rLength_ok (y m : Int) (w : World) (h0 : 1600 ≤ y) (h1 : y ≤ 2399) (h2 : 1 ≤ m) (h3 : m ≤ 12) :
    Calls Tryd.prog 33 #[.int .i64 y, .int .i64 m] w fun e w' => e = .returned (.tuple #[.int .i64 (Civ.mlen y m), .int .i64 0]) ∧ Below w.heap.size w w' := by
  have hy : decide (y < 1600 ∨ 2399 < y) = false := by simp; omega
  have hl : ∀ m, Civ.mlen y m = if m = 2 then 28 + (if longB y = true then 1 else 0) else 30 + (m + m / 8) % 2 := fun m => by rw [← lp_of]; rfl
  have HL := Lib.hid hl
  clear hl
  rcases Civ.m_cases h2 h3 with rfl | rfl | rfl | rfl | rfl | rfl | rfl | rfl | rfl | rfl | rfl | rfl <;>
  · cases hlong : longB y <;>
    · go_enter Tryd.func33, Tryd.ntmps33
      go_wp2_with (first | (go_at_call 34; refine (outside_any _ _ _ _).mono ?_; rintro e w' ⟨rfl, rfl⟩) | (go_at_call 53; refine (rLong_any _ _ (by omega) (by omega)).mono ?_; rintro e w' ⟨rfl, rfl⟩))
      go_ret2
      refine ⟨?_, ?_⟩
      · rw [HL.out, hlong]; rfl
      · first | exact (Below.refl _ _).alloc (Nat.le_refl _) _ | exact ((Below.refl _ _).alloc (Nat.le_refl _) _).setCell (by simp) _

end Go.Proofs.YtmjakhageehcoaaDoor
