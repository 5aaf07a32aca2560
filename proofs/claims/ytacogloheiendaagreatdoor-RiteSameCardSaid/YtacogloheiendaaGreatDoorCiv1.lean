/- The calendar's functions: what each returns. Conditions: years and days within their ranges. -/
import Derived.Test.YtacogloheiendaaGreatDoorCiv0
namespace Go.Proofs.YtacogloheiendaaGreatDoor
open Go.RowKit
set_option linter.unusedVariables false

set_option maxHeartbeats 400000 in
theorem days_any (y m d : Int) (w : World) (h0 : 1 ≤ y) (h1 : y ≤ 100000) (h2 : 1 ≤ m) (h3 : m ≤ 12) (h4 : -100000 ≤ d) (h5 : d ≤ 100000) :
    Calls Tryz.prog 45 #[.int .i64 y, .int .i64 m, .int .i64 d] w fun e w' => e = .returned (.int .i64 (Civ.days y m d)) ∧ w = w' := by
  by_cases hm : m < 3
  · go_enter Tryz.func45, Tryz.ntmps45
    go_wp2
    go_ret
    refine ⟨ret_int ?_, rfl⟩
    unfold Civ.days Civ.ady Civ.adm
    rw [if_pos (by omega), if_pos (by omega)]
  · go_enter Tryz.func45, Tryz.ntmps45
    go_wp2
    go_ret
    refine ⟨ret_int ?_, rfl⟩
    unfold Civ.days Civ.ady Civ.adm
    rw [if_neg (by omega), if_neg (by omega)]


/-- Days: of a day that there is. -/
theorem Days_ok (y m d : Int) (w : World) (hv : Civ.valid y m d) :
    Calls Tryz.prog 74 #[.int .i64 y, .int .i64 m, .int .i64 d] w fun e w' => e = .returned (.tuple #[.int .i64 (Civ.days y m d), .int .i64 0]) ∧ w = w' := by
  obtain ⟨h0, h1, h2, h3, h4, h5⟩ := hv
  have hb := Civ.mlen_bd y m h2 h3
  go_enter Tryz.func74, Tryz.ntmps74
  go_wp2_with (first | (go_at_call 60; refine (Length_ok _ _ _ (by omega) (by omega) (by omega) (by omega)).mono ?_; rintro e w' ⟨rfl, rfl⟩) | (go_at_call 45; refine (days_any _ _ _ _ (by omega) (by omega) (by omega) (by omega) (by omega) (by omega)).mono ?_; rintro e w' ⟨rfl, rfl⟩))
  go_ret2
  exact ⟨rfl, rfl⟩

def validB (y m d : Int) : Bool := decide (1600 ≤ y ∧ y ≤ 2399 ∧ 1 ≤ m ∧ m ≤ 12 ∧ 1 ≤ d ∧ d ≤ Civ.mlen y m)
theorem validB_iff {y m d : Int} : validB y m d = true ↔ Civ.valid y m d := by simp [validB, Civ.valid]

theorem Days_no (y m d : Int) (w : World) (h : validB y m d = false) :
    Calls Tryz.prog 74 #[.int .i64 y, .int .i64 m, .int .i64 d] w fun e w' => e = .returned (.tuple #[.int .i64 0, .int .i64 1]) ∧ w = w' := by
  cases hy : okYM y m
  · clear h
    go_enter Tryz.func74, Tryz.ntmps74
    go_wp2_with (first | (go_at_call 60; refine (Length_no _ _ _ hy).mono ?_; rintro e w' ⟨rfl, rfl⟩))
    go_ret2
    exact ⟨rfl, rfl⟩
  · simp [okYM] at hy
    obtain ⟨h0, h1, h2, h3⟩ := hy
    have hd : d < 1 ∨ 1 ≤ d ∧ Civ.mlen y m < d := by simp [validB] at h; omega
    clear h
    rcases hd with hd | ⟨hd, hd2⟩
    · go_enter Tryz.func74, Tryz.ntmps74
      go_wp2_with (first | (go_at_call 60; refine (Length_ok _ _ _ (by omega) (by omega) (by omega) (by omega)).mono ?_; rintro e w' ⟨rfl, rfl⟩))
      go_ret2
      exact ⟨rfl, rfl⟩
    · go_enter Tryz.func74, Tryz.ntmps74
      go_wp2_with (first | (go_at_call 60; refine (Length_ok _ _ _ (by omega) (by omega) (by omega) (by omega)).mono ?_; rintro e w' ⟨rfl, rfl⟩))
      go_ret2
      exact ⟨rfl, rfl⟩

end Go.Proofs.YtacogloheiendaaGreatDoor
