/- The laws of the calendar: each walk returns true. -/
import Derived.Test.YtdkjjaahmcjnmaaCiv5
import Derived.Test.YtdkjjaahmcjnmaaCivMath2
namespace Go.Proofs.Ytdkjjaahmcjnmaa
open Go.RowKit
set_option linter.unusedVariables false
set_option linter.unusedSimpArgs false

theorem CivilBack_walk (y m d n : Int) (w : World) :
    Calls Try.prog 3 #[.int .i64 y, .int .i64 m, .int .i64 d, .int .i64 n] w fun e w' => e = .returned (.bool true) ∧ Below w.heap.size w w' := by
  have hv := Lib.hid (dateD_valid y m d)
  have hb := Civ.days_bd hv.out
  have hq := Lib.hid (Civ.date_days hv.out hb)
  have hn := nD_bd n
  have hv2 := Lib.hid (Civ.date_valid (nD n) hn.1 hn.2)
  go_enter Try.func3, Try.ntmps3
  go_wp2_with fail
  refine (dated_any _).mono ?_
  rintro e w' ⟨rfl, rfl⟩
  go_wp2_with fail
  refine (date_any _ _ _ _).mono ?_
  rintro e w1 ⟨rfl, hb1⟩
  go_wp2_with fail
  refine (Days_ok _ _ _ _ hv.out).mono ?_
  rintro e w' ⟨rfl, rfl⟩
  go_wp2_with fail
  refine (Date_ok _ _ hb.1 hb.2).mono ?_
  rintro e w' ⟨rfl, rfl⟩
  rw [hq.out.1, hq.out.2.1, hq.out.2.2]
  go_wp2_with fail
  refine (some_any _ _).mono ?_
  rintro e w2 ⟨rfl, hb2⟩
  go_wp2_with fail
  refine (Date_ok _ _ hn.1 hn.2).mono ?_
  rintro e w' ⟨rfl, rfl⟩
  go_wp2_with fail
  refine (Days_ok _ _ _ _ hv2.out.1).mono ?_
  rintro e w' ⟨rfl, rfl⟩
  rw [hv2.out.2]
  go_wp2
  go_ret
  exact ⟨rfl, hb1.trans (hb2.mono hb1.size)⟩

set_option maxHeartbeats 2000000 in
theorem CivilNext_walk (n : Int) (w : World) :
    Calls Try.prog 4 #[.int .i64 n] w fun e w' => e = .returned (.bool true) ∧ Below w.heap.size w w' := by
  have hn := nD_bd n
  by_cases hl : nD n = 157053
  · have hL := Lib.hid Civ.date_last
    have hN := Lib.hid hl
    clear hl
    go_enter Try.func4, Try.ntmps4
    go_wp2_with fail
    refine (dated_any _).mono ?_
    rintro e w' ⟨rfl, rfl⟩
    go_wp2_with fail
    refine (some_any _ _).mono ?_
    rintro e w1 ⟨rfl, hw1⟩
    rw [hN.out]
    go_wp2_with fail
    refine (Date_ok _ _ (by omega) (by omega)).mono ?_
    rintro e w' ⟨rfl, rfl⟩
    rw [hL.out.1, hL.out.2.1, hL.out.2.2]
    go_wp2_with fail
    refine (Date_no _ _ (by omega)).mono ?_
    rintro e w' ⟨rfl, rfl⟩
    go_wp2
    go_ret
    exact ⟨rfl, hw1⟩
  · have hn2 : nD n < 157053 := by omega
    obtain ⟨y, m, d, L, a, b, c, e1, e2, e3, e4, e5, e6, e7, b1, b2, b3, b4, b5, b6, b7, h, t⟩ := Civ.next_ex _ hn.1 hn2
    have E1 := Lib.hid e1
    have E2 := Lib.hid e2
    have E3 := Lib.hid e3
    have E4 := Lib.hid e4
    have E5 := Lib.hid e5
    have E6 := Lib.hid e6
    have E7 := Lib.hid e7
    clear e1 e2 e3 e4 e5 e6 e7 hl
    rcases h with ⟨h1, rfl, rfl, rfl⟩ | ⟨h1, h2, rfl, rfl, rfl⟩ | ⟨h1, rfl, rfl, rfl, rfl, h2⟩ <;> rcases t with t | ⟨rfl, t⟩ | ⟨t1, t2, t⟩ <;> try omega
    · have tb : (y == 2399) = false := by simpa using t
      clear t
      go_enter Try.func4, Try.ntmps4
      go_wp2_with fail
      refine (dated_any _).mono ?_
      rintro e w' ⟨rfl, rfl⟩
      go_wp2_with fail
      refine (some_any _ _).mono ?_
      rintro e w1 ⟨rfl, hw1⟩
      go_wp2_with fail
      refine (Date_ok _ _ (by omega) (by omega)).mono ?_
      rintro e w' ⟨rfl, rfl⟩
      rw [E1.out, E2.out, E3.out]
      go_wp2_with fail
      refine (Date_ok _ _ (by omega) (by omega)).mono ?_
      rintro e w' ⟨rfl, rfl⟩
      rw [E5.out, E6.out, E7.out]
      go_wp2_with fail
      refine (Length_ok _ _ _ (by omega) (by omega) (by omega) (by omega)).mono ?_
      rintro e w' ⟨rfl, rfl⟩
      rw [E4.out]
      go_wp2
      go_ret
      exact ⟨rfl, hw1⟩
    · have tb : (m == 12) = false := by simpa using t
      clear t
      go_enter Try.func4, Try.ntmps4
      go_wp2_with fail
      refine (dated_any _).mono ?_
      rintro e w' ⟨rfl, rfl⟩
      go_wp2_with fail
      refine (some_any _ _).mono ?_
      rintro e w1 ⟨rfl, hw1⟩
      go_wp2_with fail
      refine (Date_ok _ _ (by omega) (by omega)).mono ?_
      rintro e w' ⟨rfl, rfl⟩
      rw [E1.out, E2.out, E3.out]
      go_wp2_with fail
      refine (Date_ok _ _ (by omega) (by omega)).mono ?_
      rintro e w' ⟨rfl, rfl⟩
      rw [E5.out, E6.out, E7.out]
      go_wp2_with fail
      refine (Length_ok _ _ _ (by omega) (by omega) (by omega) (by omega)).mono ?_
      rintro e w' ⟨rfl, rfl⟩
      rw [E4.out]
      go_wp2
      go_ret
      exact ⟨rfl, hw1⟩
    · obtain rfl := t1
      obtain rfl := t2
      have tb : (d == 31) = false := by simpa using t
      clear t
      go_enter Try.func4, Try.ntmps4
      go_wp2_with fail
      refine (dated_any _).mono ?_
      rintro e w' ⟨rfl, rfl⟩
      go_wp2_with fail
      refine (some_any _ _).mono ?_
      rintro e w1 ⟨rfl, hw1⟩
      go_wp2_with fail
      refine (Date_ok _ _ (by omega) (by omega)).mono ?_
      rintro e w' ⟨rfl, rfl⟩
      rw [E1.out, E2.out, E3.out]
      go_wp2_with fail
      refine (Date_ok _ _ (by omega) (by omega)).mono ?_
      rintro e w' ⟨rfl, rfl⟩
      rw [E5.out, E6.out, E7.out]
      go_wp2_with fail
      refine (Length_ok _ _ _ (by omega) (by omega) (by omega) (by omega)).mono ?_
      rintro e w' ⟨rfl, rfl⟩
      rw [E4.out]
      go_wp2
      go_ret
      exact ⟨rfl, hw1⟩
    · have tb : (y == 2399) = false := by simpa using t
      clear t
      go_enter Try.func4, Try.ntmps4
      go_wp2_with fail
      refine (dated_any _).mono ?_
      rintro e w' ⟨rfl, rfl⟩
      go_wp2_with fail
      refine (some_any _ _).mono ?_
      rintro e w1 ⟨rfl, hw1⟩
      go_wp2_with fail
      refine (Date_ok _ _ (by omega) (by omega)).mono ?_
      rintro e w' ⟨rfl, rfl⟩
      rw [E1.out, E2.out, E3.out]
      go_wp2_with fail
      refine (Date_ok _ _ (by omega) (by omega)).mono ?_
      rintro e w' ⟨rfl, rfl⟩
      rw [E5.out, E6.out, E7.out]
      go_wp2_with fail
      refine (Length_ok _ _ _ (by omega) (by omega) (by omega) (by omega)).mono ?_
      rintro e w' ⟨rfl, rfl⟩
      rw [E4.out]
      go_wp2
      go_ret
      exact ⟨rfl, hw1⟩
    · have tb : (m == 12) = false := by simpa using t
      clear t
      go_enter Try.func4, Try.ntmps4
      go_wp2_with fail
      refine (dated_any _).mono ?_
      rintro e w' ⟨rfl, rfl⟩
      go_wp2_with fail
      refine (some_any _ _).mono ?_
      rintro e w1 ⟨rfl, hw1⟩
      go_wp2_with fail
      refine (Date_ok _ _ (by omega) (by omega)).mono ?_
      rintro e w' ⟨rfl, rfl⟩
      rw [E1.out, E2.out, E3.out]
      go_wp2_with fail
      refine (Date_ok _ _ (by omega) (by omega)).mono ?_
      rintro e w' ⟨rfl, rfl⟩
      rw [E5.out, E6.out, E7.out]
      go_wp2_with fail
      refine (Length_ok _ _ _ (by omega) (by omega) (by omega) (by omega)).mono ?_
      rintro e w' ⟨rfl, rfl⟩
      rw [E4.out]
      go_wp2
      go_ret
      exact ⟨rfl, hw1⟩
    · have tb : (y == 2399) = false := by simpa using t
      clear t
      go_enter Try.func4, Try.ntmps4
      go_wp2_with fail
      refine (dated_any _).mono ?_
      rintro e w' ⟨rfl, rfl⟩
      go_wp2_with fail
      refine (some_any _ _).mono ?_
      rintro e w1 ⟨rfl, hw1⟩
      go_wp2_with fail
      refine (Date_ok _ _ (by omega) (by omega)).mono ?_
      rintro e w' ⟨rfl, rfl⟩
      rw [E1.out, E2.out, E3.out]
      go_wp2_with fail
      refine (Date_ok _ _ (by omega) (by omega)).mono ?_
      rintro e w' ⟨rfl, rfl⟩
      rw [E5.out, E6.out, E7.out]
      go_wp2_with fail
      refine (Length_ok _ _ _ (by omega) (by omega) (by omega) (by omega)).mono ?_
      rintro e w' ⟨rfl, rfl⟩
      rw [E4.out]
      go_wp2
      go_ret
      exact ⟨rfl, hw1⟩

set_option maxHeartbeats 2000000 in
theorem CivilYears_walk (y : Int) (w : World) :
    Calls Try.prog 5 #[.int .i64 y] w fun e w' => e = .returned (.bool true) ∧ Below w.heap.size w w' := by
  have hY : ∃ Y : Int, y % 399 + 1600 = Y := ⟨_, rfl⟩
  obtain ⟨Y, hY⟩ := hY
  have hy1 : 1600 ≤ Y := by omega
  have hy2 : Y ≤ 1998 := by omega
  have HY := Lib.hid hY
  clear hY
  have va := Lib.hid (show Civ.valid Y 1 1 from ⟨by omega, by omega, by omega, by omega, by omega, by simp [Civ.mlen]⟩)
  have vb := Lib.hid (show Civ.valid (Y + 1) 1 1 from ⟨by omega, by omega, by omega, by omega, by omega, by simp [Civ.mlen]⟩)
  have vc := Lib.hid (show Civ.valid (Y + 400) 1 1 from ⟨by omega, by omega, by omega, by omega, by omega, by simp [Civ.mlen]⟩)
  obtain ⟨L, hL⟩ : ∃ L : Int, Civ.mlen Y 2 = L := ⟨_, rfl⟩
  obtain ⟨A, hA⟩ : ∃ A : Int, Civ.days Y 1 1 = A := ⟨_, rfl⟩
  obtain ⟨B, hB⟩ : ∃ B : Int, Civ.days (Y + 1) 1 1 = B := ⟨_, rfl⟩
  obtain ⟨C, hC⟩ : ∃ C : Int, Civ.days (Y + 400) 1 1 = C := ⟨_, rfl⟩
  have f1 : B ≤ A + 337 + L ∧ A + 337 + L ≤ B := by
    have h1 := Civ.jan1_succ Y; have h2 := Civ.mlen2 Y
    rw [← Civ.days_jan1, ← Civ.days_jan1] at h1; omega
  have f2 : C ≤ A + 146097 ∧ A + 146097 ≤ C := by
    have h1 := Civ.jan1_400 Y
    rw [← Civ.days_jan1, ← Civ.days_jan1] at h1; omega
  have f3 : 28 ≤ L ∧ L ≤ 29 := by have h1 := Civ.lp01 Y; have h2 := Civ.mlen2 Y; omega
  have f4 := Civ.days_bd va.out
  have f5 := Civ.days_bd vc.out
  rw [hA] at f4
  rw [hC] at f5
  have HL := Lib.hid hL
  have HA := Lib.hid hA
  have HB := Lib.hid hB
  have HC := Lib.hid hC
  clear hL hA hB hC
  have f6 : ((A + 4) % 7 == (C + 4) % 7) = true := by simp; omega
  have f9 : (B - A == 337 + L) = true := by simp; omega
  have f10 : (C - A == 146097) = true := by simp; omega
  by_cases f7 : L = 28
  · obtain rfl := f7
    simp only [Int.reduceAdd] at f9
    go_enter Try.func5, Try.ntmps5
    go_wp2_with fail
    refine (dated_any _).mono ?_
    rintro e w' ⟨rfl, rfl⟩
    go_wp2_with fail
    refine (Rest_any _ _ _ (by omega) (by omega)).mono ?_
    rintro e w' ⟨rfl, rfl⟩
    go_wp2_with fail
    rw [HY.out]
    refine (Days_ok _ _ _ _ va.out).mono ?_
    rintro e w' ⟨rfl, rfl⟩
    rw [HA.out]
    go_wp2_with fail
    refine (Days_ok _ _ _ _ vb.out).mono ?_
    rintro e w' ⟨rfl, rfl⟩
    rw [HB.out]
    go_wp2_with fail
    refine (Days_ok _ _ _ _ vc.out).mono ?_
    rintro e w' ⟨rfl, rfl⟩
    rw [HC.out]
    go_wp2_with fail
    refine (Weekday_ok _ _ (by omega) (by omega)).mono ?_
    rintro e w' ⟨rfl, rfl⟩
    go_wp2_with fail
    refine (Weekday_ok _ _ (by omega) (by omega)).mono ?_
    rintro e w' ⟨rfl, rfl⟩
    go_wp2_with fail
    refine (Length_ok _ _ _ (by omega) (by omega) (by omega) (by omega)).mono ?_
    rintro e w' ⟨rfl, rfl⟩
    rw [HL.out]
    go_wp2
    go_ret
    exact ⟨rfl, Below.refl _ _⟩
  · have f8 : L = 29 := by omega
    clear f7
    obtain rfl := f8
    simp only [Int.reduceAdd] at f9
    go_enter Try.func5, Try.ntmps5
    go_wp2_with fail
    refine (dated_any _).mono ?_
    rintro e w' ⟨rfl, rfl⟩
    go_wp2_with fail
    refine (Rest_any _ _ _ (by omega) (by omega)).mono ?_
    rintro e w' ⟨rfl, rfl⟩
    go_wp2_with fail
    rw [HY.out]
    refine (Days_ok _ _ _ _ va.out).mono ?_
    rintro e w' ⟨rfl, rfl⟩
    rw [HA.out]
    go_wp2_with fail
    refine (Days_ok _ _ _ _ vb.out).mono ?_
    rintro e w' ⟨rfl, rfl⟩
    rw [HB.out]
    go_wp2_with fail
    refine (Days_ok _ _ _ _ vc.out).mono ?_
    rintro e w' ⟨rfl, rfl⟩
    rw [HC.out]
    go_wp2_with fail
    refine (Weekday_ok _ _ (by omega) (by omega)).mono ?_
    rintro e w' ⟨rfl, rfl⟩
    go_wp2_with fail
    refine (Weekday_ok _ _ (by omega) (by omega)).mono ?_
    rintro e w' ⟨rfl, rfl⟩
    go_wp2_with fail
    refine (Length_ok _ _ _ (by omega) (by omega) (by omega) (by omega)).mono ?_
    rintro e w' ⟨rfl, rfl⟩
    rw [HL.out]
    go_wp2
    go_ret
    exact ⟨rfl, Below.refl _ _⟩

end Go.Proofs.Ytdkjjaahmcjnmaa
