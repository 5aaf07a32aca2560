/- Date and Weekday, and the reference's small functions: what each returns. -/
import Derived.Test.YtacogloheiendaaGreatDoorCiv1
namespace Go.Proofs.YtacogloheiendaaGreatDoor
open Go.RowKit
set_option linter.unusedVariables false
set_option linter.unusedSimpArgs false

theorem results_tmp4 {fn : Func} {t u v x : Tmp} (h : fn.results = #[.tmp t, .tmp u, .tmp v, .tmp x]) (tmps : Array Value) (P : Program) (w : World) :
    (results fn tmps).run P w = .ok (.tuple #[tmps.getD t undef, tmps.getD u undef, tmps.getD v undef, tmps.getD x undef]) w := by simp [results, h]

theorem tup4 {a b c d a' b' c' d' : Int} (h1 : a = a') (h2 : b = b') (h3 : c = c') (h4 : d = d') :
    Ending.returned (.tuple #[.int .i64 a, .int .i64 b, .int .i64 c, .int .i64 d]) = .returned (.tuple #[.int .i64 a', .int .i64 b', .int .i64 c', .int .i64 d']) := by rw [h1, h2, h3, h4]

theorem date_end (n k k' : Int) (y m d : Int) (h1 : Civ.k1 n = k) (h3 : Civ.k3 n = k')
    (h : (12 < (5 * (Civ.r1 n - 36524 * k - 1461 * ((Civ.r1 n - 36524 * k) / 1461) - 365 * k') + 2) / 153 + 3 ∧
          y = Civ.era n * 400 + 100 * k + 4 * ((Civ.r1 n - 36524 * k) / 1461) + k' + 1 ∧
          m = (5 * (Civ.r1 n - 36524 * k - 1461 * ((Civ.r1 n - 36524 * k) / 1461) - 365 * k') + 2) / 153 + 3 - 12 ∧
          d = Civ.r1 n - 36524 * k - 1461 * ((Civ.r1 n - 36524 * k) / 1461) - 365 * k' - (153 * ((5 * (Civ.r1 n - 36524 * k - 1461 * ((Civ.r1 n - 36524 * k) / 1461) - 365 * k') + 2) / 153) + 2) / 5 + 1) ∨
         (¬ 12 < (5 * (Civ.r1 n - 36524 * k - 1461 * ((Civ.r1 n - 36524 * k) / 1461) - 365 * k') + 2) / 153 + 3 ∧
          y = Civ.era n * 400 + 100 * k + 4 * ((Civ.r1 n - 36524 * k) / 1461) + k' ∧
          m = (5 * (Civ.r1 n - 36524 * k - 1461 * ((Civ.r1 n - 36524 * k) / 1461) - 365 * k') + 2) / 153 + 3 ∧
          d = Civ.r1 n - 36524 * k - 1461 * ((Civ.r1 n - 36524 * k) / 1461) - 365 * k' - (153 * ((5 * (Civ.r1 n - 36524 * k - 1461 * ((Civ.r1 n - 36524 * k) / 1461) - 365 * k') + 2) / 153) + 2) / 5 + 1)) :
    Ending.returned (.tuple #[.int .i64 (Civ.yy n), .int .i64 (Civ.mm n), .int .i64 (Civ.dd n), .int .i64 0]) = .returned (.tuple #[.int .i64 y, .int .i64 m, .int .i64 d, .int .i64 0]) := by
  have q4 : Civ.r4 n = Civ.r1 n - 36524 * k - 1461 * ((Civ.r1 n - 36524 * k) / 1461) - 365 * k' := by simp only [Civ.r4, Civ.r3, Civ.k2, Civ.r2, h1, h3]
  have qy : Civ.yr0 n = Civ.era n * 400 + 100 * k + 4 * ((Civ.r1 n - 36524 * k) / 1461) + k' := by simp only [Civ.yr0, Civ.k2, Civ.r2, h1, h3]
  have qm : Civ.mon0 n = (5 * Civ.r4 n + 2) / 153 := rfl
  have qd : Civ.dd n = Civ.r4 n - (153 * Civ.mon0 n + 2) / 5 + 1 := rfl
  rw [← q4, ← qm] at h
  rcases h with ⟨h, rfl, rfl, rfl⟩ | ⟨h, rfl, rfl, rfl⟩
  · refine tup4 ?_ ?_ ?_ rfl
    · unfold Civ.yy; rw [if_pos h, qy]
    · unfold Civ.mm; rw [if_pos h]
    · rw [qd]
  · refine tup4 ?_ ?_ ?_ rfl
    · unfold Civ.yy; rw [if_neg h, qy]
    · unfold Civ.mm; rw [if_neg h]
    · rw [qd]

set_option maxHeartbeats 800000 in
theorem Date_ok (n : Int) (w : World) (h0 : -135140 ≤ n) (h1 : n ≤ 157053) :
    Calls Tryz.prog 26 #[.int .i64 n] w fun e w' => e = .returned (.tuple #[.int .i64 (Civ.yy n), .int .i64 (Civ.mm n), .int .i64 (Civ.dd n), .int .i64 0]) ∧ w = w' := by
  have e1 := Lib.hid Civ.first_eq
  have e2 := Lib.hid Civ.last_eq
  by_cases a : 3 < (n + 719468) % 146097 / 36524
  · have hk1 : Hid (Civ.k1 n = 3) := by show Civ.k1 n = 3; unfold Civ.k1 Civ.r1; omega
    by_cases b : 3 < (((n + 719468) % 146097 - 109572) - 1461 * (((n + 719468) % 146097 - 109572) / 1461)) / 365
    · have hk3 : Hid (Civ.k3 n = 3) := by have := hk1.out; show Civ.k3 n = 3; unfold Civ.k3 Civ.r3 Civ.k2 Civ.r2 Civ.r1; omega
      go_enter Tryz.func26, Tryz.ntmps26
      go_wp2_with fail
      refine (days_any _ _ _ _ (by omega) (by omega) (by omega) (by omega) (by omega) (by omega)).mono ?_
      rintro e w' ⟨rfl, rfl⟩
      rw [e1.out]
      go_wp2_with fail
      refine (days_any _ _ _ _ (by omega) (by omega) (by omega) (by omega) (by omega) (by omega)).mono ?_
      rintro e w' ⟨rfl, rfl⟩
      rw [e2.out]
      go_wp2
      all_goals
        refine bodyPost_ret (results_tmp4 rfl _ _ _) rfl ?_
        refine ⟨?_, rfl⟩
        simp only [Array.getD, List.size_toArray, List.length_cons, List.length_nil, Nat.reduceAdd, Nat.reduceLT, dif_pos, List.getElem_toArray, List.getElem_cons_succ, List.getElem_cons_zero]
        refine (date_end n _ _ _ _ _ hk1.out hk3.out ?_).symm
        unfold Civ.r1 Civ.era
        first | exact .inl ⟨by omega, by omega, by omega, by omega⟩ | exact .inr ⟨by omega, by omega, by omega, by omega⟩
    · have hk3 : Hid (Civ.k3 n = ((((n + 719468) % 146097 - 109572) - 1461 * (((n + 719468) % 146097 - 109572) / 1461)) / 365)) := by have := hk1.out; show Civ.k3 n = ((((n + 719468) % 146097 - 109572) - 1461 * (((n + 719468) % 146097 - 109572) / 1461)) / 365); unfold Civ.k3 Civ.r3 Civ.k2 Civ.r2 Civ.r1; omega
      go_enter Tryz.func26, Tryz.ntmps26
      go_wp2_with fail
      refine (days_any _ _ _ _ (by omega) (by omega) (by omega) (by omega) (by omega) (by omega)).mono ?_
      rintro e w' ⟨rfl, rfl⟩
      rw [e1.out]
      go_wp2_with fail
      refine (days_any _ _ _ _ (by omega) (by omega) (by omega) (by omega) (by omega) (by omega)).mono ?_
      rintro e w' ⟨rfl, rfl⟩
      rw [e2.out]
      go_wp2
      all_goals
        refine bodyPost_ret (results_tmp4 rfl _ _ _) rfl ?_
        refine ⟨?_, rfl⟩
        simp only [Array.getD, List.size_toArray, List.length_cons, List.length_nil, Nat.reduceAdd, Nat.reduceLT, dif_pos, List.getElem_toArray, List.getElem_cons_succ, List.getElem_cons_zero]
        refine (date_end n _ _ _ _ _ hk1.out hk3.out ?_).symm
        unfold Civ.r1 Civ.era
        first | exact .inl ⟨by omega, by omega, by omega, by omega⟩ | exact .inr ⟨by omega, by omega, by omega, by omega⟩
  · have hk1 : Hid (Civ.k1 n = ((n + 719468) % 146097 / 36524)) := by show Civ.k1 n = ((n + 719468) % 146097 / 36524); unfold Civ.k1 Civ.r1; omega
    by_cases b : 3 < (((n + 719468) % 146097 - 36524 * ((n + 719468) % 146097 / 36524)) - 1461 * (((n + 719468) % 146097 - 36524 * ((n + 719468) % 146097 / 36524)) / 1461)) / 365
    · have hk3 : Hid (Civ.k3 n = 3) := by have := hk1.out; show Civ.k3 n = 3; unfold Civ.k3 Civ.r3 Civ.k2 Civ.r2 Civ.r1; omega
      go_enter Tryz.func26, Tryz.ntmps26
      go_wp2_with fail
      refine (days_any _ _ _ _ (by omega) (by omega) (by omega) (by omega) (by omega) (by omega)).mono ?_
      rintro e w' ⟨rfl, rfl⟩
      rw [e1.out]
      go_wp2_with fail
      refine (days_any _ _ _ _ (by omega) (by omega) (by omega) (by omega) (by omega) (by omega)).mono ?_
      rintro e w' ⟨rfl, rfl⟩
      rw [e2.out]
      go_wp2
      all_goals
        refine bodyPost_ret (results_tmp4 rfl _ _ _) rfl ?_
        refine ⟨?_, rfl⟩
        simp only [Array.getD, List.size_toArray, List.length_cons, List.length_nil, Nat.reduceAdd, Nat.reduceLT, dif_pos, List.getElem_toArray, List.getElem_cons_succ, List.getElem_cons_zero]
        refine (date_end n _ _ _ _ _ hk1.out hk3.out ?_).symm
        unfold Civ.r1 Civ.era
        first | exact .inl ⟨by omega, by omega, by omega, by omega⟩ | exact .inr ⟨by omega, by omega, by omega, by omega⟩
    · have hk3 : Hid (Civ.k3 n = ((((n + 719468) % 146097 - 36524 * ((n + 719468) % 146097 / 36524)) - 1461 * (((n + 719468) % 146097 - 36524 * ((n + 719468) % 146097 / 36524)) / 1461)) / 365)) := by have := hk1.out; show Civ.k3 n = ((((n + 719468) % 146097 - 36524 * ((n + 719468) % 146097 / 36524)) - 1461 * (((n + 719468) % 146097 - 36524 * ((n + 719468) % 146097 / 36524)) / 1461)) / 365); unfold Civ.k3 Civ.r3 Civ.k2 Civ.r2 Civ.r1; omega
      go_enter Tryz.func26, Tryz.ntmps26
      go_wp2_with fail
      refine (days_any _ _ _ _ (by omega) (by omega) (by omega) (by omega) (by omega) (by omega)).mono ?_
      rintro e w' ⟨rfl, rfl⟩
      rw [e1.out]
      go_wp2_with fail
      refine (days_any _ _ _ _ (by omega) (by omega) (by omega) (by omega) (by omega) (by omega)).mono ?_
      rintro e w' ⟨rfl, rfl⟩
      rw [e2.out]
      go_wp2
      all_goals
        refine bodyPost_ret (results_tmp4 rfl _ _ _) rfl ?_
        refine ⟨?_, rfl⟩
        simp only [Array.getD, List.size_toArray, List.length_cons, List.length_nil, Nat.reduceAdd, Nat.reduceLT, dif_pos, List.getElem_toArray, List.getElem_cons_succ, List.getElem_cons_zero]
        refine (date_end n _ _ _ _ _ hk1.out hk3.out ?_).symm
        unfold Civ.r1 Civ.era
        first | exact .inl ⟨by omega, by omega, by omega, by omega⟩ | exact .inr ⟨by omega, by omega, by omega, by omega⟩

end Go.Proofs.YtacogloheiendaaGreatDoor
