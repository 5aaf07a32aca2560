/- timeballref: Rest, outside, Long, Length. -/
import Derived.Test.YtacogloheiendaaGreatDoorCiv3a
namespace Go.Proofs.YtacogloheiendaaGreatDoor
open Go.RowKit
set_option linter.unusedVariables false
set_option linter.unusedSimpArgs false

theorem Rest_any (n m : Int) (w : World) (h0 : 0 < m) (h1 : m ≤ 1099511627776) :
    Calls Tryz.prog 5 #[.int .i64 n, .int .i64 m] w fun e w' => e = .returned (.int .i64 (n % m)) ∧ w = w' := by
  have hh : m ≤ 4611686018427387904 := by omega
  go_enter Tryz.func5, Tryz.ntmps5
  go_wp2
  · go_ret
    exact ⟨ret_int (rest_neg n m h0 hh (by assumption)), rfl⟩
  · go_ret
    exact ⟨ret_int (rest_pos n m h0 (by assumption)), rfl⟩

theorem outside_any (n a b : Int) (w : World) :
    Calls Tryz.prog 22 #[.int .i64 n, .int .i64 a, .int .i64 b] w fun e w' => e = .returned (.bool (decide (n < a ∨ b < n))) ∧ w = w' := by
  by_cases h1 : n < a <;> by_cases h2 : b < n <;>
  · go_enter Tryz.func22, Tryz.ntmps22
    go_wp2
    go_ret
    exact ⟨ret_bool (by simp [h1, h2]), rfl⟩

theorem rLong_any (y : Int) (w : World) (h0 : 0 ≤ y) (h1 : y ≤ 100000) :
    Calls Tryz.prog 42 #[.int .i64 y] w fun e w' => e = .returned (.bool (longB y)) ∧ w = w' := by
  go_enter Tryz.func42, Tryz.ntmps42
  go_wp2
  all_goals
    go_ret
    refine ⟨ret_bool ?_, rfl⟩
    unfold longB Civ.lp
    first
      | (rw [if_pos (by omega)]; rfl)
      | (rw [if_neg (by omega)]; rfl)
      | (by_cases hc : y % 400 = 0
         · rw [if_pos (by omega)]; simp [hc]
         · rw [if_neg (by omega)]; simp [hc])

set_option maxHeartbeats 1000000 in
theorem rLength_ok (y m : Int) (w : World) (h0 : 1600 ≤ y) (h1 : y ≤ 2399) (h2 : 1 ≤ m) (h3 : m ≤ 12) :
    Calls Tryz.prog 21 #[.int .i64 y, .int .i64 m] w fun e w' => e = .returned (.tuple #[.int .i64 (Civ.mlen y m), .int .i64 0]) ∧ Below w.heap.size w w' := by
  have hy : decide (y < 1600 ∨ 2399 < y) = false := by simp; omega
  have hl : ∀ m, Civ.mlen y m = if m = 2 then 28 + (if longB y = true then 1 else 0) else 30 + (m + m / 8) % 2 := fun m => by rw [← lp_of]; rfl
  have HL := Lib.hid hl
  clear hl
  rcases Civ.m_cases h2 h3 with rfl | rfl | rfl | rfl | rfl | rfl | rfl | rfl | rfl | rfl | rfl | rfl <;>
  · cases hlong : longB y <;>
    · go_enter Tryz.func21, Tryz.ntmps21
      go_wp2_with (first | (go_at_call 22; refine (outside_any _ _ _ _).mono ?_; rintro e w' ⟨rfl, rfl⟩) | (go_at_call 42; refine (rLong_any _ _ (by omega) (by omega)).mono ?_; rintro e w' ⟨rfl, rfl⟩))
      go_ret2
      refine ⟨?_, ?_⟩
      · rw [HL.out, hlong]; rfl
      · first | exact (Below.refl _ _).alloc (Nat.le_refl _) _ | exact ((Below.refl _ _).alloc (Nat.le_refl _) _).setCell (by simp) _

end Go.Proofs.YtacogloheiendaaGreatDoor
