/- The calendar's functions: what each returns. Conditions: years and days within their ranges. -/
import Derived.Test.YtmjakhageehcoaaDoorRows
import Derived.WalkKit
import Derived.WalkSpells
import Derived.WalkLawsBesides
import Derived.Lib.Hide
import Derived.Deep.QuietTactic
import Derived.BigQuiet
import Derived.Test.YtmjakhageehcoaaDoorCivMath
namespace Go.Proofs.YtmjakhageehcoaaDoor
open Go.RowKit
set_option linter.unusedVariables false

theorem ret_int {k : IntKind} {a b : Int} (h : a = b) : Ending.returned (.int k a) = .returned (.int k b) := by rw [h]

theorem ret_bool {a b : Bool} (h : a = b) : Ending.returned (.bool a) = .returned (.bool b) := by rw [h]

def longB (y : Int) : Bool := decide (Civ.lp y = 1)
theorem lp_of (y : Int) : Civ.lp y = if longB y = true then 1 else 0 := by
  have := Civ.lp01 y
  unfold longB
  split <;> simp_all <;> omega

set_option maxHeartbeats 400000 in
theorem isLong_any (y : Int) (w : World) (h0 : 0 ≤ y) (h1 : y ≤ 100000) :
    Calls Tryd.prog 59 #[.int .i64 y] w fun e w' => e = .returned (.bool (longB y)) ∧ w = w' := by
  go_enter Tryd.func59, Tryd.ntmps59
  go_wp2
  all_goals
    go_ret
    refine ⟨ret_bool ?_, rfl⟩
    unfold longB Civ.lp
    first
      | (rw [if_pos (by omega)]; rfl)
      | (by_cases hc : y % 400 = 0
         · rw [if_pos (by omega)]; simp [hc]
         · rw [if_neg (by omega)]; simp [hc])

set_option maxHeartbeats 400000 in
theorem isYear_any (y : Int) (w : World) :
    Calls Tryd.prog 40 #[.int .i64 y] w fun e w' => e = .returned (.bool (decide (1600 ≤ y ∧ y ≤ 2399))) ∧ w = w' := by
  by_cases h1 : 1600 ≤ y <;> by_cases h2 : y ≤ 2399 <;>
  · go_enter Tryd.func40, Tryd.ntmps40
    go_wp2
    go_ret
    exact ⟨ret_bool (by simp [h1, h2]), rfl⟩

set_option maxHeartbeats 400000 in
theorem length_any (y m : Int) (w : World) (h0 : 0 ≤ y) (h1 : y ≤ 100000) (h2 : 1 ≤ m) (h3 : m ≤ 12) :
    Calls Tryd.prog 41 #[.int .i64 y, .int .i64 m] w fun e w' => e = .returned (.int .i64 (Civ.mlen y m)) ∧ w = w' := by
  by_cases hm : m = 2
  · subst hm
    go_enter Tryd.func41, Tryd.ntmps41
    go_wp2_with (go_at_call 59; refine (isLong_any _ _ (by omega) (by omega)).mono ?_; rintro e w' ⟨rfl, rfl⟩)
    all_goals
      go_ret
      refine ⟨ret_int ?_, rfl⟩
      simp [Civ.mlen, lp_of, *]
  · go_enter Tryd.func41, Tryd.ntmps41
    go_wp2
    go_ret
    exact ⟨ret_int (by simp [Civ.mlen, hm]), rfl⟩

set_option maxHeartbeats 400000 in
theorem days_any (y m d : Int) (w : World) (h0 : 1 ≤ y) (h1 : y ≤ 100000) (h2 : 1 ≤ m) (h3 : m ≤ 12) (h4 : -100000 ≤ d) (h5 : d ≤ 100000) :
    Calls Tryd.prog 39 #[.int .i64 y, .int .i64 m, .int .i64 d] w fun e w' => e = .returned (.int .i64 (Civ.days y m d)) ∧ w = w' := by
  by_cases hm : m < 3
  · go_enter Tryd.func39, Tryd.ntmps39
    go_wp2
    go_ret
    refine ⟨ret_int ?_, rfl⟩
    unfold Civ.days Civ.ady Civ.adm
    rw [if_pos (by omega), if_pos (by omega)]
  · go_enter Tryd.func39, Tryd.ntmps39
    go_wp2
    go_ret
    refine ⟨ret_int ?_, rfl⟩
    unfold Civ.days Civ.ady Civ.adm
    rw [if_neg (by omega), if_neg (by omega)]


/-- Length: of a month that there is. -/
theorem Length_ok (y m : Int) (w : World) (h0 : 1600 ≤ y) (h1 : y ≤ 2399) (h2 : 1 ≤ m) (h3 : m ≤ 12) :
    Calls Tryd.prog 21 #[.int .i64 y, .int .i64 m] w fun e w' => e = .returned (.tuple #[.int .i64 (Civ.mlen y m), .int .i64 0]) ∧ w = w' := by
  have hy : decide (1600 ≤ y ∧ y ≤ 2399) = true := by simp [h0, h1]
  go_enter Tryd.func21, Tryd.ntmps21
  go_wp2_with (first | (go_at_call 40; refine (isYear_any _ _).mono ?_; rintro e w' ⟨rfl, rfl⟩) | (go_at_call 41; refine (length_any _ _ _ (by omega) (by omega) (by omega) (by omega)).mono ?_; rintro e w' ⟨rfl, rfl⟩))
  go_ret2
  exact ⟨rfl, rfl⟩

def okYM (y m : Int) : Bool := decide (1600 ≤ y ∧ y ≤ 2399 ∧ 1 ≤ m ∧ m ≤ 12)

theorem Length_no (y m : Int) (w : World) (h : okYM y m = false) :
    Calls Tryd.prog 21 #[.int .i64 y, .int .i64 m] w fun e w' => e = .returned (.tuple #[.int .i64 0, .int .i64 1]) ∧ w = w' := by
  by_cases hy : 1600 ≤ y ∧ y ≤ 2399
  · have hy' : decide (1600 ≤ y ∧ y ≤ 2399) = true := by simp [hy]
    have hm : m < 1 ∨ 12 < m := by simp [okYM] at h; omega
    clear h
    rcases hm with hm | hm
    · go_enter Tryd.func21, Tryd.ntmps21
      go_wp2_with (first | (go_at_call 40; refine (isYear_any _ _).mono ?_; rintro e w' ⟨rfl, rfl⟩))
      go_ret2
      exact ⟨rfl, rfl⟩
    · have hm2 : ¬ m < 1 := by omega
      go_enter Tryd.func21, Tryd.ntmps21
      go_wp2_with (first | (go_at_call 40; refine (isYear_any _ _).mono ?_; rintro e w' ⟨rfl, rfl⟩))
      go_ret2
      exact ⟨rfl, rfl⟩
  · have hy' : decide (1600 ≤ y ∧ y ≤ 2399) = false := by simpa using hy
    clear h hy
    go_enter Tryd.func21, Tryd.ntmps21
    go_wp2_with (first | (go_at_call 40; refine (isYear_any _ _).mono ?_; rintro e w' ⟨rfl, rfl⟩))
    go_ret2
    exact ⟨rfl, rfl⟩


/-- Days: of a day that there is. -/
theorem Days_ok (y m d : Int) (w : World) (hv : Civ.valid y m d) :
    Calls Tryd.prog 67 #[.int .i64 y, .int .i64 m, .int .i64 d] w fun e w' => e = .returned (.tuple #[.int .i64 (Civ.days y m d), .int .i64 0]) ∧ w = w' := by
  obtain ⟨h0, h1, h2, h3, h4, h5⟩ := hv
  have hb := Civ.mlen_bd y m h2 h3
  go_enter Tryd.func67, Tryd.ntmps67
  go_wp2_with (first | (go_at_call 21; refine (Length_ok _ _ _ (by omega) (by omega) (by omega) (by omega)).mono ?_; rintro e w' ⟨rfl, rfl⟩) | (go_at_call 39; refine (days_any _ _ _ _ (by omega) (by omega) (by omega) (by omega) (by omega) (by omega)).mono ?_; rintro e w' ⟨rfl, rfl⟩))
  go_ret2
  exact ⟨rfl, rfl⟩

def validB (y m d : Int) : Bool := decide (1600 ≤ y ∧ y ≤ 2399 ∧ 1 ≤ m ∧ m ≤ 12 ∧ 1 ≤ d ∧ d ≤ Civ.mlen y m)
theorem validB_iff {y m d : Int} : validB y m d = true ↔ Civ.valid y m d := by simp [validB, Civ.valid]

theorem Days_no (y m d : Int) (w : World) (h : validB y m d = false) :
    Calls Tryd.prog 67 #[.int .i64 y, .int .i64 m, .int .i64 d] w fun e w' => e = .returned (.tuple #[.int .i64 0, .int .i64 1]) ∧ w = w' := by
  cases hy : okYM y m
  · clear h
    go_enter Tryd.func67, Tryd.ntmps67
    go_wp2_with (first | (go_at_call 21; refine (Length_no _ _ _ hy).mono ?_; rintro e w' ⟨rfl, rfl⟩))
    go_ret2
    exact ⟨rfl, rfl⟩
  · simp [okYM] at hy
    obtain ⟨h0, h1, h2, h3⟩ := hy
    have hd : d < 1 ∨ 1 ≤ d ∧ Civ.mlen y m < d := by simp [validB] at h; omega
    clear h
    rcases hd with hd | ⟨hd, hd2⟩
    · go_enter Tryd.func67, Tryd.ntmps67
      go_wp2_with (first | (go_at_call 21; refine (Length_ok _ _ _ (by omega) (by omega) (by omega) (by omega)).mono ?_; rintro e w' ⟨rfl, rfl⟩))
      go_ret2
      exact ⟨rfl, rfl⟩
    · go_enter Tryd.func67, Tryd.ntmps67
      go_wp2_with (first | (go_at_call 21; refine (Length_ok _ _ _ (by omega) (by omega) (by omega) (by omega)).mono ?_; rintro e w' ⟨rfl, rfl⟩))
      go_ret2
      exact ⟨rfl, rfl⟩

end Go.Proofs.YtmjakhageehcoaaDoor
