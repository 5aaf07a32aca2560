/- The reference's days, and dates that a law draws: what each returns. -/
import Derived.Test.YtmjakhageehcoaaDoorCiv3
namespace Go.Proofs.YtmjakhageehcoaaDoor
open Go.RowKit
set_option linter.unusedVariables false
set_option linter.unusedSimpArgs false

theorem dby_step_up (k : Int) : Civ.jan1 (k + 1) = Civ.jan1 k + 365 + (if longB k = true then 1 else 0) := by
  rw [← lp_of]; exact Civ.jan1_succ k

theorem jan1_bd (k : Int) (h0 : 0 ≤ k) (h1 : k ≤ 10000) : -1000000 ≤ Civ.jan1 k ∧ Civ.jan1 k ≤ 4000000 := by unfold Civ.jan1; omega


theorem jan1_1970 : Civ.jan1 1970 = 0 := by decide

set_option maxHeartbeats 1000000 in
theorem yearDay_any (y : Int) (w : World) (h0 : 1600 ≤ y) (h1 : y ≤ 2400) :
    Calls Tryd.prog 35 #[.int .i64 y] w fun e w' => e = .returned (.int .i64 (Civ.jan1 y)) ∧ w = w' := by
  have h70 := Lib.hid jan1_1970
  by_cases hy : 1970 ≤ y
  · go_enter Tryd.func35, Tryd.ntmps35
    go_wp2
    go_loop [3, 4] (fun n k => ∃ i : Int, 1970 ≤ i ∧ i ≤ y ∧ k = .int .i64 i ∧ n = .int .i64 (Civ.jan1 i)) (fun _ k => (y - intOf k).toNat)
    case atStart => exact ⟨1970, by omega, by omega, rfl, by rw [h70.out]⟩
    case round =>
      obtain ⟨i, hi1, hi2, rfl, rfl⟩ := hrel
      have hb := jan1_bd i (by omega) (by omega)
      by_cases hlt : i < y
      · have HS := Lib.hid (dby_step_up i)
        go_wp2_with (go_at_call 53; refine (rLong_any _ _ (by omega) (by omega)).mono ?_; rintro e w' ⟨rfl, rfl⟩)
        all_goals
          go_round
          case rel => exact ⟨i + 1, by omega, by omega, rfl, by rw [HS.out]; simp [*]⟩
          case measure => simp [intOf]; omega
      · have e : i = y := by omega
        subst e
        go_wp2
        go_loop [3, 5] (fun n k => k = .int .i64 i ∧ n = .int .i64 (Civ.jan1 i)) (fun _ k => 0)
        case atStart => exact ⟨rfl, rfl⟩
        case round =>
          obtain ⟨rfl, rfl⟩ := hrel
          go_wp2
          go_ret
          exact ⟨rfl, rfl⟩
  · go_enter Tryd.func35, Tryd.ntmps35
    go_wp2
    go_loop [3, 4] (fun n k => k = .int .i64 1970 ∧ n = .int .i64 0) (fun _ k => 0)
    case atStart => exact ⟨rfl, rfl⟩
    case round =>
      obtain ⟨rfl, rfl⟩ := hrel
      go_wp2
      go_loop [3, 5] (fun n k => ∃ i : Int, y ≤ i ∧ i ≤ 1970 ∧ k = .int .i64 i ∧ n = .int .i64 (Civ.jan1 y - Civ.jan1 i)) (fun _ k => (1970 - intOf k).toNat)
      case atStart => exact ⟨y, by omega, by omega, rfl, by simp⟩
      case round =>
        obtain ⟨i, hi1, hi2, rfl, rfl⟩ := hrel
        have hb := jan1_bd i (by omega) (by omega)
        have hc := jan1_bd y (by omega) (by omega)
        by_cases hlt : i < 1970
        · have HS := Lib.hid (dby_step_up i)
          go_wp2_with (go_at_call 53; refine (rLong_any _ _ (by omega) (by omega)).mono ?_; rintro e w' ⟨rfl, rfl⟩)
          all_goals
            go_round
            case rel => exact ⟨i + 1, by omega, by omega, rfl, by rw [HS.out]; simp [*]; omega⟩
            case measure => simp [intOf]; omega
        · have e : i = 1970 := by omega
          subst e
          go_wp2
          go_ret
          exact ⟨ret_int (by rw [h70.out]; omega), rfl⟩

end Go.Proofs.YtmjakhageehcoaaDoor
