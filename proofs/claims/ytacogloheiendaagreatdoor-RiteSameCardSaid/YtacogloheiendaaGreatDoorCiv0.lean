/- The calendar's functions: what each returns. Conditions: years and days within their ranges. -/
import Derived.Test.YtacogloheiendaaGreatDoorRows
import Derived.WalkKit
import Derived.WalkSpells
import Derived.WalkLawsBesides
import Derived.Lib.Hide
import Derived.Deep.QuietTactic
import Derived.BigQuiet
import Derived.Test.YtacogloheiendaaGreatDoorCivMath
namespace Go.Proofs.YtacogloheiendaaGreatDoor
open Go.RowKit
set_option linter.unusedVariables false

theorem ret_int {k : IntKind} {a b : Int} (h : a = b) : Ending.returned (.int k a) = .returned (.int k b) := by rw [h]

theorem ret_bool {a b : Bool} (h : a = b) : Ending.returned (.bool a) = .returned (.bool b) := by rw [h]

def longB (y : Int) : Bool := decide (Civ.lp y = 1)
theorem lp_of (y : Int) : Civ.lp y = if longB y = true then 1 else 0 := by
  have := Civ.lp01 y
  unfold longB
  split <;> simp_all <;> omega

set_option maxHeartbeats 400000 in
theorem isLong_any (y : Int) (w : World) (h0 : 0 ≤ y) (h1 : y ≤ 100000) :
    Calls Tryz.prog 96 #[.int .i64 y] w fun e w' => e = .returned (.bool (longB y)) ∧ w = w' := by
  go_enter Tryz.func96, Tryz.ntmps96
  go_wp2
  all_goals
    go_ret
    refine ⟨ret_bool ?_, rfl⟩
    unfold longB Civ.lp
    first
      | (rw [if_pos (by omega)]; rfl)
      | (by_cases hc : y % 400 = 0
         · rw [if_pos (by omega)]; simp [hc]
         · rw [if_neg (by omega)]; simp [hc])

set_option maxHeartbeats 400000 in
theorem isYear_any (y : Int) (w : World) :
    Calls Tryz.prog 83 #[.int .i64 y] w fun e w' => e = .returned (.bool (decide (1600 ≤ y ∧ y ≤ 2399))) ∧ w = w' := by
  by_cases h1 : 1600 ≤ y <;> by_cases h2 : y ≤ 2399 <;>
  · go_enter Tryz.func83, Tryz.ntmps83
    go_wp2
    go_ret
    exact ⟨ret_bool (by simp [h1, h2]), rfl⟩

set_option maxHeartbeats 400000 in
theorem length_any (y m : Int) (w : World) (h0 : 0 ≤ y) (h1 : y ≤ 100000) (h2 : 1 ≤ m) (h3 : m ≤ 12) :
    Calls Tryz.prog 84 #[.int .i64 y, .int .i64 m] w fun e w' => e = .returned (.int .i64 (Civ.mlen y m)) ∧ w = w' := by
  by_cases hm : m = 2
  · subst hm
    go_enter Tryz.func84, Tryz.ntmps84
    go_wp2_with (go_at_call 96; refine (isLong_any _ _ (by omega) (by omega)).mono ?_; rintro e w' ⟨rfl, rfl⟩)
    all_goals
      go_ret
      refine ⟨ret_int ?_, rfl⟩
      simp [Civ.mlen, lp_of, *]
  · go_enter Tryz.func84, Tryz.ntmps84
    go_wp2
    go_ret
    exact ⟨ret_int (by simp [Civ.mlen, hm]), rfl⟩

/-- Length: of a month that there is. -/
theorem Length_ok (y m : Int) (w : World) (h0 : 1600 ≤ y) (h1 : y ≤ 2399) (h2 : 1 ≤ m) (h3 : m ≤ 12) :
    Calls Tryz.prog 60 #[.int .i64 y, .int .i64 m] w fun e w' => e = .returned (.tuple #[.int .i64 (Civ.mlen y m), .int .i64 0]) ∧ w = w' := by
  have hy : decide (1600 ≤ y ∧ y ≤ 2399) = true := by simp [h0, h1]
  go_enter Tryz.func60, Tryz.ntmps60
  go_wp2_with (first | (go_at_call 83; refine (isYear_any _ _).mono ?_; rintro e w' ⟨rfl, rfl⟩) | (go_at_call 84; refine (length_any _ _ _ (by omega) (by omega) (by omega) (by omega)).mono ?_; rintro e w' ⟨rfl, rfl⟩))
  go_ret2
  exact ⟨rfl, rfl⟩

def okYM (y m : Int) : Bool := decide (1600 ≤ y ∧ y ≤ 2399 ∧ 1 ≤ m ∧ m ≤ 12)

theorem Length_no (y m : Int) (w : World) (h : okYM y m = false) :
    Calls Tryz.prog 60 #[.int .i64 y, .int .i64 m] w fun e w' => e = .returned (.tuple #[.int .i64 0, .int .i64 1]) ∧ w = w' := by
  by_cases hy : 1600 ≤ y ∧ y ≤ 2399
  · have hy' : decide (1600 ≤ y ∧ y ≤ 2399) = true := by simp [hy]
    have hm : m < 1 ∨ 12 < m := by simp [okYM] at h; omega
    clear h
    rcases hm with hm | hm
    · go_enter Tryz.func60, Tryz.ntmps60
      go_wp2_with (first | (go_at_call 83; refine (isYear_any _ _).mono ?_; rintro e w' ⟨rfl, rfl⟩))
      go_ret2
      exact ⟨rfl, rfl⟩
    · have hm2 : ¬ m < 1 := by omega
      go_enter Tryz.func60, Tryz.ntmps60
      go_wp2_with (first | (go_at_call 83; refine (isYear_any _ _).mono ?_; rintro e w' ⟨rfl, rfl⟩))
      go_ret2
      exact ⟨rfl, rfl⟩
  · have hy' : decide (1600 ≤ y ∧ y ≤ 2399) = false := by simpa using hy
    clear h hy
    go_enter Tryz.func60, Tryz.ntmps60
    go_wp2_with (first | (go_at_call 83; refine (isYear_any _ _).mono ?_; rintro e w' ⟨rfl, rfl⟩))
    go_ret2
    exact ⟨rfl, rfl⟩


end Go.Proofs.YtacogloheiendaaGreatDoor
