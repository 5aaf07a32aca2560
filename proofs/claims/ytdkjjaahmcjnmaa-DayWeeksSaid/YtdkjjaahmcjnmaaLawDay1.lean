/- The laws of days of months: each walk returns true. -/
import Derived.Test.YtdkjjaahmcjnmaaDay2
import Derived.Test.YtdkjjaahmcjnmaaCiv5
import Derived.Test.YtdkjjaahmcjnmaaCivMath2
namespace Go.Proofs.Ytdkjjaahmcjnmaa
open Go.RowKit
set_option linter.unusedVariables false
set_option linter.unusedSimpArgs false

theorem lastSun2026 : downTo (Civ.days 2026 11 (Civ.mlen 2026 11)) 0 = 20786 := by decide

theorem mondays_any (w : World) :
    Calls Try.prog 26 #[] w fun e w' => e = .returned (.bool true) ∧ Below w.heap.size w w' := by
  have hL := Lib.hid lastSun2026
  go_enter Try.func26, Try.ntmps26
  go_wp2_with fail
  refine (Of_last _ _ _ _ _ (by decide) (by omega) (by omega) (by omega) (by omega)).mono ?_
  rintro e w1 ⟨rfl, hb1⟩
  rw [hL.out]
  go_wp2_with fail
  refine (Check_no _ _ _ _ (by decide)).mono ?_
  rintro e w2 ⟨rfl, hb2⟩
  go_wp2
  go_ret
  exact ⟨rfl, hb1.trans (hb2.mono hb1.size)⟩

set_option maxHeartbeats 1000000 in
theorem DayKinds_bad1 (y m k wd n : Int) (w : World) (hd : dayB k wd n = false) :
    Calls Try.prog 12 #[.int .i64 y, .int .i64 m, dayV k wd n] w fun e w' => e = .returned (.bool true) ∧ Below w.heap.size w w' := by
  have HD := Lib.hid hd
  clear hd
  go_enter Try.func12, Try.ntmps12
  go_wp2_with fail
  refine (mondays_any _).mono ?_
  rintro e w1 ⟨rfl, hb1⟩
  obtain ⟨hc1, hf1⟩ := bcell hb1
  have hz1 : w.heap.size < w1.heap.size := by have := hb1.size; simp at this; omega
  go_wp2_with fail
  refine (Of_bad1 _ _ _ _ _ _ HD.out).mono ?_
  rintro e w2 ⟨rfl, hb2⟩
  go_wp2
  go_ret
  exact ⟨rfl, (((Below.refl _ _).alloc (Nat.le_refl _) _).trans (hb1.mono (by simp))).trans (hb2.mono (by omega))⟩

set_option maxHeartbeats 1000000 in
theorem DayKinds_bad2 (y m k wd n : Int) (w : World) (hd : dayB k wd n = true) (hy : okYM y m = false) :
    Calls Try.prog 12 #[.int .i64 y, .int .i64 m, dayV k wd n] w fun e w' => e = .returned (.bool true) ∧ Below w.heap.size w w' := by
  have HD := Lib.hid hd
  clear hd
  have HY := Lib.hid hy
  clear hy
  go_enter Try.func12, Try.ntmps12
  go_wp2_with fail
  refine (mondays_any _).mono ?_
  rintro e w1 ⟨rfl, hb1⟩
  obtain ⟨hc1, hf1⟩ := bcell hb1
  have hz1 : w.heap.size < w1.heap.size := by have := hb1.size; simp at this; omega
  go_wp2_with fail
  refine (Of_bad2 _ _ _ _ _ _ HD.out HY.out).mono ?_
  rintro e w2 ⟨rfl, hb2⟩
  go_wp2
  go_ret
  exact ⟨rfl, (((Below.refl _ _).alloc (Nat.le_refl _) _).trans (hb1.mono (by simp))).trans (hb2.mono (by omega))⟩

set_option maxHeartbeats 1000000 in
theorem DayKinds_bad3 (y m k wd n : Int) (w : World) (hd : dayB k wd n = true) (h1 : 1600 ≤ y) (h2 : y ≤ 2399) (h3 : 1 ≤ m) (h4 : m ≤ 12) (h5 : Civ.mlen y m < n) :
    Calls Try.prog 12 #[.int .i64 y, .int .i64 m, dayV k wd n] w fun e w' => e = .returned (.bool true) ∧ Below w.heap.size w w' := by
  have HD := Lib.hid hd
  clear hd
  have H5 := Lib.hid h5
  clear h5
  go_enter Try.func12, Try.ntmps12
  go_wp2_with fail
  refine (mondays_any _).mono ?_
  rintro e w1 ⟨rfl, hb1⟩
  obtain ⟨hc1, hf1⟩ := bcell hb1
  have hz1 : w.heap.size < w1.heap.size := by have := hb1.size; simp at this; omega
  go_wp2_with fail
  refine (Of_bad3 _ _ _ _ _ _ HD.out h1 h2 h3 h4 H5.out).mono ?_
  rintro e w2 ⟨rfl, hb2⟩
  go_wp2
  go_ret
  exact ⟨rfl, (((Below.refl _ _).alloc (Nat.le_refl _) _).trans (hb1.mono (by simp))).trans (hb2.mono (by omega))⟩

set_option maxHeartbeats 1000000 in
theorem DayKinds_up_no (y m wd n : Int) (w : World) (hd : dayB 3 wd n = true) (h1 : 1600 ≤ y) (h2 : y ≤ 2399) (h3 : 1 ≤ m) (h4 : m ≤ 12) (h5 : n ≤ Civ.mlen y m) (h6 : 157053 < upTo (Civ.days y m n) wd) :
    Calls Try.prog 12 #[.int .i64 y, .int .i64 m, dayV 3 wd n] w fun e w' => e = .returned (.bool true) ∧ Below w.heap.size w w' := by
  have HD := Lib.hid hd
  have H5 := Lib.hid h5
  have H6 := Lib.hid h6
  clear hd h5 h6
  go_enter Try.func12, Try.ntmps12
  go_wp2_with fail
  refine (mondays_any _).mono ?_
  rintro e w1 ⟨rfl, hb1⟩
  obtain ⟨hc1, hf1⟩ := bcell hb1
  have hz1 : w.heap.size < w1.heap.size := by have := hb1.size; simp at this; omega
  go_wp2_with fail
  refine (Of_up_no _ _ _ _ _ HD.out h1 h2 h3 h4 H5.out H6.out).mono ?_
  rintro e w2 ⟨rfl, hb2⟩
  go_wp2
  go_ret
  exact ⟨rfl, (((Below.refl _ _).alloc (Nat.le_refl _) _).trans (hb1.mono (by simp))).trans (hb2.mono (by omega))⟩

set_option maxHeartbeats 1000000 in
theorem DayKinds_down_no (y m wd n : Int) (w : World) (hd : dayB 4 wd n = true) (h1 : 1600 ≤ y) (h2 : y ≤ 2399) (h3 : 1 ≤ m) (h4 : m ≤ 12) (h5 : n ≤ Civ.mlen y m) (h6 : downTo (Civ.days y m n) wd < -135140) :
    Calls Try.prog 12 #[.int .i64 y, .int .i64 m, dayV 4 wd n] w fun e w' => e = .returned (.bool true) ∧ Below w.heap.size w w' := by
  have HD := Lib.hid hd
  have H5 := Lib.hid h5
  have H6 := Lib.hid h6
  clear hd h5 h6
  go_enter Try.func12, Try.ntmps12
  go_wp2_with fail
  refine (mondays_any _).mono ?_
  rintro e w1 ⟨rfl, hb1⟩
  obtain ⟨hc1, hf1⟩ := bcell hb1
  have hz1 : w.heap.size < w1.heap.size := by have := hb1.size; simp at this; omega
  go_wp2_with fail
  refine (Of_down_no _ _ _ _ _ HD.out h1 h2 h3 h4 H5.out H6.out).mono ?_
  rintro e w2 ⟨rfl, hb2⟩
  go_wp2
  go_ret
  exact ⟨rfl, (((Below.refl _ _).alloc (Nat.le_refl _) _).trans (hb1.mono (by simp))).trans (hb2.mono (by omega))⟩

set_option maxHeartbeats 1000000 in
theorem DayKinds_up (y m wd n : Int) (w : World) (hd : dayB 3 wd n = true) (h1 : 1600 ≤ y) (h2 : y ≤ 2399) (h3 : 1 ≤ m) (h4 : m ≤ 12) (h5 : n ≤ Civ.mlen y m) (h6 : upTo (Civ.days y m n) wd ≤ 157053) :
    Calls Try.prog 12 #[.int .i64 y, .int .i64 m, dayV 3 wd n] w fun e w' => e = .returned (.bool true) ∧ Below w.heap.size w w' := by
  have hd' := hd
  simp only [dayB, decide_eq_true_eq] at hd'
  have HD := Lib.hid hd
  clear hd
  have hml := Civ.mlen_bd y m h3 h4
  have v1 := Lib.hid (show Civ.valid y m 1 from ⟨h1, h2, h3, h4, by omega, by omega⟩)
  have bd1 := Civ.days_bd v1.out
  have bd2 := Civ.days_bd (show Civ.valid y m n from ⟨h1, h2, h3, h4, by omega, by omega⟩)
  have e1 : Civ.days y m n = Civ.days y m 1 + n - 1 := by unfold Civ.days; omega
  have hub := upTo_bd (Civ.days y m n) wd (by omega) (by omega)
  have hc0 := Lib.hid (fun w : World => Of_up y m wd n w HD.out h1 h2 h3 h4 h5 h6)
  obtain ⟨R, eR⟩ : ∃ R : Int, upTo (Civ.days y m n) wd = R := ⟨_, rfl⟩
  obtain ⟨L, eL⟩ : ∃ L : Int, Civ.mlen y m = L := ⟨_, rfl⟩
  obtain ⟨A, eA⟩ : ∃ A : Int, Civ.days y m 1 = A := ⟨_, rfl⟩
  have g1 : -135140 ≤ R ∧ R ≤ 157053 := by omega
  have g2 : ((R + 4) % 7 == wd) = true := by simp; omega
  have g3 : n ≤ R - A + 1 ∧ R - A + 1 < n + 7 := by omega
  have g5 : 1 ≤ n ∧ n ≤ 31 := by omega
  have g4 : -135140 ≤ A ∧ A ≤ 157053 := by omega
  have ER := Lib.hid eR
  have EL := Lib.hid eL
  have EA := Lib.hid eA
  clear eR eL eA e1 hd' bd1 bd2 hub h5 h6
  go_enter Try.func12, Try.ntmps12
  go_wp2_with fail
  refine (mondays_any _).mono ?_
  rintro e w1 ⟨rfl, hb1⟩
  obtain ⟨hc1, hf1⟩ := bcell hb1
  have hz1 : w.heap.size < w1.heap.size := by have := hb1.size; simp at this; omega
  go_wp2_with fail
  refine (hc0.out _).mono ?_
  rintro e w2 ⟨rfl, hb2⟩
  rw [ER.out]
  obtain ⟨hc2, hf2⟩ := bcell hb2
  go_wp2_with fail
  refine (Length_ok _ _ _ h1 h2 h3 h4).mono ?_
  rintro e w' ⟨rfl, rfl⟩
  rw [EL.out]
  go_wp2_with fail
  refine (Days_ok _ _ _ _ v1.out).mono ?_
  rintro e w' ⟨rfl, rfl⟩
  rw [EA.out]
  go_wp2_with fail
  refine (Weekday_ok _ _ (by omega) (by omega)).mono ?_
  rintro e w' ⟨rfl, rfl⟩
  go_wp2
  go_ret
  exact ⟨rfl, (((Below.refl _ _).alloc (Nat.le_refl _) _).trans (hb1.mono (by simp))).trans (hb2.mono (by omega))⟩

set_option maxHeartbeats 1000000 in
theorem DayKinds_down (y m wd n : Int) (w : World) (hd : dayB 4 wd n = true) (h1 : 1600 ≤ y) (h2 : y ≤ 2399) (h3 : 1 ≤ m) (h4 : m ≤ 12) (h5 : n ≤ Civ.mlen y m) (h6 : -135140 ≤ downTo (Civ.days y m n) wd) :
    Calls Try.prog 12 #[.int .i64 y, .int .i64 m, dayV 4 wd n] w fun e w' => e = .returned (.bool true) ∧ Below w.heap.size w w' := by
  have hd' := hd
  simp only [dayB, decide_eq_true_eq] at hd'
  have HD := Lib.hid hd
  clear hd
  have hml := Civ.mlen_bd y m h3 h4
  have v1 := Lib.hid (show Civ.valid y m 1 from ⟨h1, h2, h3, h4, by omega, by omega⟩)
  have bd1 := Civ.days_bd v1.out
  have bd2 := Civ.days_bd (show Civ.valid y m n from ⟨h1, h2, h3, h4, by omega, by omega⟩)
  have e1 : Civ.days y m n = Civ.days y m 1 + n - 1 := by unfold Civ.days; omega
  have hub := downTo_bd (Civ.days y m n) wd (by omega) (by omega)
  have hc0 := Lib.hid (fun w : World => Of_down y m wd n w HD.out h1 h2 h3 h4 h5 h6)
  obtain ⟨R, eR⟩ : ∃ R : Int, downTo (Civ.days y m n) wd = R := ⟨_, rfl⟩
  obtain ⟨L, eL⟩ : ∃ L : Int, Civ.mlen y m = L := ⟨_, rfl⟩
  obtain ⟨A, eA⟩ : ∃ A : Int, Civ.days y m 1 = A := ⟨_, rfl⟩
  have g1 : -135140 ≤ R ∧ R ≤ 157053 := by omega
  have g2 : ((R + 4) % 7 == wd) = true := by simp; omega
  have g3 : R - A + 1 ≤ n ∧ n - 7 < R - A + 1 := by omega
  have g5 : 1 ≤ n ∧ n ≤ 31 := by omega
  have g4 : -135140 ≤ A ∧ A ≤ 157053 := by omega
  have ER := Lib.hid eR
  have EL := Lib.hid eL
  have EA := Lib.hid eA
  clear eR eL eA e1 hd' bd1 bd2 hub h5 h6
  go_enter Try.func12, Try.ntmps12
  go_wp2_with fail
  refine (mondays_any _).mono ?_
  rintro e w1 ⟨rfl, hb1⟩
  obtain ⟨hc1, hf1⟩ := bcell hb1
  have hz1 : w.heap.size < w1.heap.size := by have := hb1.size; simp at this; omega
  go_wp2_with fail
  refine (hc0.out _).mono ?_
  rintro e w2 ⟨rfl, hb2⟩
  rw [ER.out]
  obtain ⟨hc2, hf2⟩ := bcell hb2
  go_wp2_with fail
  refine (Length_ok _ _ _ h1 h2 h3 h4).mono ?_
  rintro e w' ⟨rfl, rfl⟩
  rw [EL.out]
  go_wp2_with fail
  refine (Days_ok _ _ _ _ v1.out).mono ?_
  rintro e w' ⟨rfl, rfl⟩
  rw [EA.out]
  go_wp2_with fail
  refine (Weekday_ok _ _ (by omega) (by omega)).mono ?_
  rintro e w' ⟨rfl, rfl⟩
  go_wp2
  go_ret
  exact ⟨rfl, (((Below.refl _ _).alloc (Nat.le_refl _) _).trans (hb1.mono (by simp))).trans (hb2.mono (by omega))⟩

set_option maxHeartbeats 1000000 in
theorem DayKinds_last (y m wd n : Int) (w : World) (hd : dayB 2 wd n = true) (h1 : 1600 ≤ y) (h2 : y ≤ 2399) (h3 : 1 ≤ m) (h4 : m ≤ 12) :
    Calls Try.prog 12 #[.int .i64 y, .int .i64 m, dayV 2 wd n] w fun e w' => e = .returned (.bool true) ∧ Below w.heap.size w w' := by
  have hd' := hd
  simp only [dayB, decide_eq_true_eq] at hd'
  have HD := Lib.hid hd
  clear hd
  have hml := Civ.mlen_bd y m h3 h4
  have v1 := Lib.hid (show Civ.valid y m 1 from ⟨h1, h2, h3, h4, by omega, by omega⟩)
  have bd1 := Civ.days_bd v1.out
  have bd2 := Civ.days_bd (show Civ.valid y m (Civ.mlen y m) from ⟨h1, h2, h3, h4, by omega, by omega⟩)
  have e1 : Civ.days y m (Civ.mlen y m) = Civ.days y m 1 + (Civ.mlen y m) - 1 := by unfold Civ.days; omega
  have hub := downTo_bd (Civ.days y m (Civ.mlen y m)) wd (by omega) (by omega)
  have hc0 := Lib.hid (fun w : World => Of_last y m wd n w HD.out h1 h2 h3 h4)
  obtain ⟨R, eR⟩ : ∃ R : Int, downTo (Civ.days y m (Civ.mlen y m)) wd = R := ⟨_, rfl⟩
  obtain ⟨L, eL⟩ : ∃ L : Int, Civ.mlen y m = L := ⟨_, rfl⟩
  obtain ⟨A, eA⟩ : ∃ A : Int, Civ.days y m 1 = A := ⟨_, rfl⟩
  have g1 : -135140 ≤ R ∧ R ≤ 157053 := by omega
  have g2 : ((R + 4) % 7 == wd) = true := by simp; omega
  have g3 : R - A + 1 ≤ L ∧ L - 7 < R - A + 1 := by omega
  have g5 : 28 ≤ L ∧ L ≤ 31 := by omega
  have g4 : -135140 ≤ A ∧ A ≤ 157053 := by omega
  have ER := Lib.hid eR
  have EL := Lib.hid eL
  have EA := Lib.hid eA
  clear eR eL eA e1 hd' bd1 bd2 hub hml
  go_enter Try.func12, Try.ntmps12
  go_wp2_with fail
  refine (mondays_any _).mono ?_
  rintro e w1 ⟨rfl, hb1⟩
  obtain ⟨hc1, hf1⟩ := bcell hb1
  have hz1 : w.heap.size < w1.heap.size := by have := hb1.size; simp at this; omega
  go_wp2_with fail
  refine (hc0.out _).mono ?_
  rintro e w2 ⟨rfl, hb2⟩
  rw [ER.out]
  obtain ⟨hc2, hf2⟩ := bcell hb2
  go_wp2_with fail
  refine (Length_ok _ _ _ h1 h2 h3 h4).mono ?_
  rintro e w' ⟨rfl, rfl⟩
  rw [EL.out]
  go_wp2_with fail
  refine (Days_ok _ _ _ _ v1.out).mono ?_
  rintro e w' ⟨rfl, rfl⟩
  rw [EA.out]
  go_wp2_with fail
  refine (Weekday_ok _ _ (by omega) (by omega)).mono ?_
  rintro e w' ⟨rfl, rfl⟩
  go_wp2
  go_ret
  exact ⟨rfl, (((Below.refl _ _).alloc (Nat.le_refl _) _).trans (hb1.mono (by simp))).trans (hb2.mono (by omega))⟩

set_option maxHeartbeats 1000000 in
theorem DayKinds_num (y m wd n : Int) (w : World) (hd : dayB 1 wd n = true) (h1 : 1600 ≤ y) (h2 : y ≤ 2399) (h3 : 1 ≤ m) (h4 : m ≤ 12) (h5 : n ≤ Civ.mlen y m) :
    Calls Try.prog 12 #[.int .i64 y, .int .i64 m, dayV 1 wd n] w fun e w' => e = .returned (.bool true) ∧ Below w.heap.size w w' := by
  have hd' := hd
  simp only [dayB, decide_eq_true_eq] at hd'
  have HD := Lib.hid hd
  clear hd
  have hml := Civ.mlen_bd y m h3 h4
  have v1 := Lib.hid (show Civ.valid y m 1 from ⟨h1, h2, h3, h4, by omega, by omega⟩)
  have bd1 := Civ.days_bd v1.out
  have bd2 := Civ.days_bd (show Civ.valid y m n from ⟨h1, h2, h3, h4, by omega, by omega⟩)
  have e1 : Civ.days y m n = Civ.days y m 1 + n - 1 := by unfold Civ.days; omega
  have hc0 := Lib.hid (fun w : World => Of_num y m wd n w HD.out h1 h2 h3 h4 h5)
  obtain ⟨R, eR⟩ : ∃ R : Int, Civ.days y m n = R := ⟨_, rfl⟩
  obtain ⟨L, eL⟩ : ∃ L : Int, Civ.mlen y m = L := ⟨_, rfl⟩
  obtain ⟨A, eA⟩ : ∃ A : Int, Civ.days y m 1 = A := ⟨_, rfl⟩
  have g1 : -135140 ≤ R ∧ R ≤ 157053 := by omega
  have g3 : (R - A + 1 == n) = true := by simp; omega
  have g4 : -135140 ≤ A ∧ A ≤ 157053 := by omega
  have ER := Lib.hid eR
  have EL := Lib.hid eL
  have EA := Lib.hid eA
  clear eR eL eA e1 hd' bd1 bd2 h5
  go_enter Try.func12, Try.ntmps12
  go_wp2_with fail
  refine (mondays_any _).mono ?_
  rintro e w1 ⟨rfl, hb1⟩
  obtain ⟨hc1, hf1⟩ := bcell hb1
  have hz1 : w.heap.size < w1.heap.size := by have := hb1.size; simp at this; omega
  go_wp2_with fail
  refine (hc0.out _).mono ?_
  rintro e w2 ⟨rfl, hb2⟩
  rw [ER.out]
  obtain ⟨hc2, hf2⟩ := bcell hb2
  go_wp2_with fail
  refine (Length_ok _ _ _ h1 h2 h3 h4).mono ?_
  rintro e w' ⟨rfl, rfl⟩
  rw [EL.out]
  go_wp2_with fail
  refine (Days_ok _ _ _ _ v1.out).mono ?_
  rintro e w' ⟨rfl, rfl⟩
  rw [EA.out]
  go_wp2_with fail
  refine (Weekday_ok _ _ (by omega) (by omega)).mono ?_
  rintro e w' ⟨rfl, rfl⟩
  go_wp2
  go_ret
  exact ⟨rfl, (((Below.refl _ _).alloc (Nat.le_refl _) _).trans (hb1.mono (by simp))).trans (hb2.mono (by omega))⟩

theorem DayKinds_walk (y m k wd n : Int) (w : World) :
    Calls Try.prog 12 #[.int .i64 y, .int .i64 m, dayV k wd n] w fun e w' => e = .returned (.bool true) ∧ Below w.heap.size w w' := by
  cases hd : dayB k wd n
  · exact DayKinds_bad1 y m k wd n w hd
  cases hy : okYM y m
  · exact DayKinds_bad2 y m k wd n w hd hy
  simp only [okYM, decide_eq_true_eq] at hy
  obtain ⟨h1, h2, h3, h4⟩ := hy
  by_cases h5 : n ≤ Civ.mlen y m
  · have hd' := hd
    simp only [dayB, decide_eq_true_eq] at hd'
    rcases hd' with ⟨rfl, _⟩ | ⟨rfl, _⟩ | ⟨rfl | rfl, _⟩
    · exact DayKinds_num y m wd n w hd h1 h2 h3 h4 h5
    · exact DayKinds_last y m wd n w hd h1 h2 h3 h4
    · by_cases h6 : upTo (Civ.days y m n) wd ≤ 157053
      · exact DayKinds_up y m wd n w hd h1 h2 h3 h4 h5 h6
      · exact DayKinds_up_no y m wd n w hd h1 h2 h3 h4 h5 (by omega)
    · by_cases h6 : -135140 ≤ downTo (Civ.days y m n) wd
      · exact DayKinds_down y m wd n w hd h1 h2 h3 h4 h5 h6
      · exact DayKinds_down_no y m wd n w hd h1 h2 h3 h4 h5 (by omega)
  · exact DayKinds_bad3 y m k wd n w hd h1 h2 h3 h4 (by omega)

end Go.Proofs.Ytdkjjaahmcjnmaa
