/- The reference's days of a date. -/
import Derived.Test.YtmjakhageehcoaaDoorCiv4
namespace Go.Proofs.YtmjakhageehcoaaDoor
open Go.RowKit
set_option linter.unusedVariables false
set_option linter.unusedSimpArgs false

theorem tup3 {a b c a' b' c' : Int} (h1 : a = a') (h2 : b = b') (h3 : c = c') :
    Ending.returned (.tuple #[.int .i64 a, .int .i64 b, .int .i64 c]) = .returned (.tuple #[.int .i64 a', .int .i64 b', .int .i64 c']) := by rw [h1, h2, h3]

theorem ret_v2 {a b c : Int} (h : a = b) : Ending.returned (.tuple #[.int .i64 a, .int .i64 c]) = .returned (.tuple #[.int .i64 b, .int .i64 c]) := by rw [h]
theorem RDays_jan1 (y : Int) (w : World) (h0 : 1600 ≤ y) (h1 : y ≤ 2399) :
    Calls Tryd.prog 15 #[.int .i64 y, .int .i64 1, .int .i64 1] w fun e w' => e = .returned (.tuple #[.int .i64 (Civ.jan1 y), .int .i64 0]) ∧ Below w.heap.size w w' := by
  have hb := jan1_bd y (by omega) (by omega)
  have hm : Hid (Civ.mlen y 1 = 31) := by show Civ.mlen y 1 = 31; simp [Civ.mlen]
  go_enter Tryd.func15, Tryd.ntmps15
  go_wp2_with fail
  refine (rLength_ok _ _ _ (by omega) (by omega) (by omega) (by omega)).mono ?_
  rintro e w1 ⟨rfl, hb1⟩
  rw [hm.out]
  go_wp2_with (first | (go_at_call 34; refine (outside_any _ _ _ _).mono ?_; rintro e w' ⟨rfl, rfl⟩) | (go_at_call 35; refine (yearDay_any _ _ (by omega) (by omega)).mono ?_; rintro e w' ⟨rfl, rfl⟩))
  go_loop [10, 11] (fun n k => k = .int .i64 1 ∧ n = .int .i64 (Civ.jan1 y)) (fun _ k => 0)
  case atStart => exact ⟨rfl, by go_num⟩
  case round =>
    obtain ⟨rfl, rfl⟩ := hrel
    go_wp2
    go_ret2
    exact ⟨rfl, hb1⟩

theorem cum_bd13 (y m : Int) (h1 : 1 ≤ m) (h2 : m ≤ 13) : 0 ≤ Civ.cum y m ∧ Civ.cum y m ≤ 400 := by
  have := Civ.lp01 y
  unfold Civ.cum
  repeat' split
  all_goals omega
set_option maxHeartbeats 1000000 in
theorem RDays_any (y m d : Int) (w : World) (hv : Civ.valid y m d) :
    Calls Tryd.prog 15 #[.int .i64 y, .int .i64 m, .int .i64 d] w fun e w' => e = .returned (.tuple #[.int .i64 (Civ.days y m d), .int .i64 0]) ∧ Below w.heap.size w w' := by
  obtain ⟨h0, h1, h2, h3, h4, h5⟩ := hv
  have hb := jan1_bd y (by omega) (by omega)
  have hml := Civ.mlen_bd y m h2 h3
  have HE := Lib.hid (Civ.days_eq y m d h2 h3)
  have h1c : Civ.cum y 1 = 0 := by simp [Civ.cum]
  have H1C := Lib.hid h1c
  have HCS := Lib.hid (Civ.cum_succ y)
  have HCB := Lib.hid (cum_bd13 y)
  have HMB := Lib.hid (Civ.mlen_bd y)
  obtain ⟨L, eL⟩ : ∃ L, Civ.mlen y m = L := ⟨_, rfl⟩
  rw [eL] at h5 hml
  have HL := Lib.hid eL
  obtain ⟨J, eJ⟩ : ∃ J, Civ.jan1 y = J := ⟨_, rfl⟩
  rw [eJ] at hb HE
  have HJ := Lib.hid eJ
  clear eL h1c eJ
  go_enter Tryd.func15, Tryd.ntmps15
  go_wp2_with fail
  refine (rLength_ok _ _ _ (by omega) (by omega) (by omega) (by omega)).mono ?_
  rintro e w1 ⟨rfl, hb1⟩
  rw [HL.out]
  have HB1 := Lib.hid hb1
  clear hb1
  go_wp2_with fail
  refine (outside_any _ _ _ _).mono ?_
  rw [decide_eq_false (show ¬ (d < 1 ∨ L < d) by omega)]
  rintro e w' ⟨rfl, rfl⟩
  go_wp2_with fail
  refine (yearDay_any _ _ (by omega) (by omega)).mono ?_
  rw [HJ.out]
  rintro e w' ⟨rfl, rfl⟩
  go_wp2_with fail
  go_loopw [10, 11] (fun n k wr => ∃ i : Int, 1 ≤ i ∧ i ≤ m ∧ k = .int .i64 i ∧ n = .int .i64 (J + d - 1 + Civ.cum y i) ∧ Below w.heap.size w wr) (fun _ k _ => (m - intOf k).toNat)
  case atStart => exact ⟨1, by omega, h2, rfl, by rw [H1C.out]; go_num, HB1.out⟩
  case round =>
    obtain ⟨i, hi1, hi2, rfl, rfl, hbr⟩ := hrel
    have HBR := Lib.hid hbr
    have hc := HCB.out i hi1 (by omega)
    have HC := Lib.hid (HCS.out i hi1 (by omega))
    have hm := HMB.out i hi1 (by omega)
    clear hbr
    by_cases hlt : i < m
    · obtain ⟨K, eK⟩ : ∃ K, Civ.mlen y i = K := ⟨_, rfl⟩
      rw [eK] at HC hm
      have HK := Lib.hid eK
      clear eK
      go_wp2_with fail
      refine (rLength_ok _ _ _ (by omega) (by omega) (by omega) (by omega)).mono ?_
      rintro e w1 ⟨rfl, hb1⟩
      rw [HK.out]
      have HZ := Lib.hid (HBR.out.trans (hb1.mono HBR.out.size))
      clear hb1
      go_wp2
      go_roundw
      case rel => exact ⟨i + 1, by omega, by omega, rfl, by rw [HC.out]; go_num, HZ.out⟩
      case measure => simp [intOf]; omega
    · obtain rfl : i = m := by omega
      go_wp2
      go_ret2
      exact ⟨ret_v2 (by rw [HE.out]; omega), HBR.out⟩
end Go.Proofs.YtmjakhageehcoaaDoor
