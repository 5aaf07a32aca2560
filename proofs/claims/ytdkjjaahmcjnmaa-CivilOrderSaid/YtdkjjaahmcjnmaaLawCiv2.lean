/- The laws of the calendar, more: each walk returns true. -/
import Derived.Test.YtdkjjaahmcjnmaaCiv5
import Derived.Test.YtdkjjaahmcjnmaaCivMath2
namespace Go.Proofs.Ytdkjjaahmcjnmaa
open Go.RowKit
set_option linter.unusedVariables false
set_option linter.unusedSimpArgs false

set_option maxHeartbeats 2000000 in
theorem CivilAges_walk (n : Int) (w : World) :
    Calls Try.prog 11 #[.int .i64 n] w fun e w' => e = .returned (.bool true) ∧ Below w.heap.size w w' := by
  have hj := Lib.hid Civ.jan1_1600
  obtain ⟨N, hN⟩ : ∃ N : Int, -135140 + n % 146097 = N := ⟨_, rfl⟩
  have b1 : -135140 ≤ N ∧ N ≤ 10956 := by omega
  have HN := Lib.hid hN
  clear hN
  have hv := (Civ.date_valid N b1.1 (by omega)).1
  have ha := Lib.hid (Civ.ages N)
  have b2 := hv.1
  have b3 := hv.2.1
  clear hv
  go_enter Try.func11, Try.ntmps11
  go_wp2_with fail
  refine (dated_any _).mono ?_
  rintro e w' ⟨rfl, rfl⟩
  go_wp2_with fail
  refine (RDays_jan1 _ _ (by omega) (by omega)).mono ?_
  rintro e w1 ⟨rfl, hw1⟩
  rw [hj.out]
  go_wp2_with fail
  refine (Rest_any _ _ _ (by omega) (by omega)).mono ?_
  rintro e w' ⟨rfl, rfl⟩
  go_wp2_with fail
  rw [HN.out]
  refine (Date_ok _ _ (by omega) (by omega)).mono ?_
  rintro e w' ⟨rfl, rfl⟩
  go_wp2_with fail
  refine (Date_ok _ _ (by omega) (by omega)).mono ?_
  rintro e w' ⟨rfl, rfl⟩
  rw [ha.out.1, ha.out.2.1, ha.out.2.2]
  go_wp2
  go_ret
  exact ⟨rfl, hw1⟩

set_option maxHeartbeats 2000000 in
theorem CivilWeek_walk (n : Int) (w : World) :
    Calls Try.prog 9 #[.int .i64 n] w fun e w' => e = .returned (.bool true) ∧ Below w.heap.size w w' := by
  have hn := nD_bd n
  obtain ⟨N, hN⟩ : ∃ N : Int, nD n = N := ⟨_, rfl⟩
  have HN := Lib.hid hN
  rw [hN] at hn
  clear hN
  have f1 : ((N + 1 + 4) % 7 == ((N + 4) % 7 + 1) % 7) = true := by simp; omega
  have f2 : ((N - 7 + 4) % 7 == (N + 4) % 7) = true := by simp; omega
  by_cases c1 : N + 1 ≤ 157053
  · by_cases c2 : -135140 ≤ N - 7
    · go_enter Try.func9, Try.ntmps9
      go_wp2_with fail
      refine (dated_any _).mono ?_
      rintro e w' ⟨rfl, rfl⟩
      go_wp2_with fail
      refine (some_any _ _).mono ?_
      rintro e w1 ⟨rfl, hw1⟩
      rw [HN.out]
      go_wp2_with fail
      refine (Weekday_ok _ _ (by omega) (by omega)).mono ?_
      rintro e w' ⟨rfl, rfl⟩
      go_wp2_with fail
      refine (Weekday_ok _ _ (by omega) (by omega)).mono ?_
      rintro e w' ⟨rfl, rfl⟩
      go_wp2_with fail
      refine (Weekday_ok _ _ (by omega) (by omega)).mono ?_
      rintro e w' ⟨rfl, rfl⟩
      go_wp2
      go_ret
      exact ⟨rfl, hw1⟩
    · go_enter Try.func9, Try.ntmps9
      go_wp2_with fail
      refine (dated_any _).mono ?_
      rintro e w' ⟨rfl, rfl⟩
      go_wp2_with fail
      refine (some_any _ _).mono ?_
      rintro e w1 ⟨rfl, hw1⟩
      rw [HN.out]
      go_wp2_with fail
      refine (Weekday_ok _ _ (by omega) (by omega)).mono ?_
      rintro e w' ⟨rfl, rfl⟩
      go_wp2_with fail
      refine (Weekday_ok _ _ (by omega) (by omega)).mono ?_
      rintro e w' ⟨rfl, rfl⟩
      go_wp2_with fail
      refine (Weekday_no _ _ (by omega)).mono ?_
      rintro e w' ⟨rfl, rfl⟩
      go_wp2
      go_ret
      exact ⟨rfl, hw1⟩
  · by_cases c2 : -135140 ≤ N - 7
    · go_enter Try.func9, Try.ntmps9
      go_wp2_with fail
      refine (dated_any _).mono ?_
      rintro e w' ⟨rfl, rfl⟩
      go_wp2_with fail
      refine (some_any _ _).mono ?_
      rintro e w1 ⟨rfl, hw1⟩
      rw [HN.out]
      go_wp2_with fail
      refine (Weekday_ok _ _ (by omega) (by omega)).mono ?_
      rintro e w' ⟨rfl, rfl⟩
      go_wp2_with fail
      refine (Weekday_no _ _ (by omega)).mono ?_
      rintro e w' ⟨rfl, rfl⟩
      go_wp2_with fail
      refine (Weekday_ok _ _ (by omega) (by omega)).mono ?_
      rintro e w' ⟨rfl, rfl⟩
      go_wp2
      go_ret
      exact ⟨rfl, hw1⟩
    · omega

set_option maxHeartbeats 2000000 in
theorem CivilSum_walk (y : Int) (w : World) :
    Calls Try.prog 8 #[.int .i64 y] w fun e w' => e = .returned (.bool true) ∧ Below w.heap.size w w' := by
  have hY := yD_bd y
  obtain ⟨Y, e⟩ : ∃ Y : Int, yD y = Y := ⟨_, rfl⟩
  rw [e] at hY
  have HY := Lib.hid e
  clear e
  go_enter Try.func8, Try.ntmps8
  go_wp2_with fail
  refine (dated_any _).mono ?_
  rintro e w' ⟨rfl, rfl⟩
  go_wp2_with fail
  refine (date_any _ _ _ _).mono ?_
  rintro e w1 ⟨rfl, hw1⟩
  rw [HY.out]
  go_wp2_with fail
  go_loop [3, 4] (fun sum m => ∃ i : Int, 1 ≤ i ∧ i ≤ 13 ∧ m = .int .i64 i ∧ sum = .int .i64 (Civ.cum Y i)) (fun _ m => (13 - intOf m).toNat)
  case atStart => exact ⟨1, by omega, by omega, rfl, by simp [Civ.cum]⟩
  case round =>
    obtain ⟨i, hi1, hi2, rfl, rfl⟩ := hrel
    have hcb := Civ.cum_range Y i hi1 hi2
    by_cases hlt : i ≤ 12
    · have hcs := Civ.cum_succ Y i hi1 hlt
      have hml := Civ.mlen_bd Y i hi1 hlt
      have hdf := Civ.days_first Y i hi1 hlt
      have v1 := Lib.hid (show Civ.valid Y i 1 from ⟨hY.1, hY.2, hi1, hlt, by omega, by omega⟩)
      have v2 := Lib.hid (show Civ.valid Y 1 1 from ⟨hY.1, hY.2, by omega, by omega, by omega, by simp [Civ.mlen]⟩)
      have bd1 := Civ.days_bd v1.out
      have bd2 := Civ.days_bd v2.out
      obtain ⟨S, eS⟩ : ∃ S : Int, Civ.cum Y i = S := ⟨_, rfl⟩
      obtain ⟨L, eL⟩ : ∃ L : Int, Civ.mlen Y i = L := ⟨_, rfl⟩
      obtain ⟨A, eA⟩ : ∃ A : Int, Civ.days Y i 1 = A := ⟨_, rfl⟩
      obtain ⟨B, eB⟩ : ∃ B : Int, Civ.days Y 1 1 = B := ⟨_, rfl⟩
      rw [eS] at hcb
      rw [eS, eL] at hcs
      rw [eL] at hml
      rw [eA, eB, eS] at hdf
      rw [eA] at bd1
      rw [eB] at bd2
      rw [eS]
      have fs : (A - B != S) = false := by simp; omega
      have HL := Lib.hid eL
      have HA := Lib.hid eA
      have HB := Lib.hid eB
      have HC := Lib.hid hcs
      clear eS eL eA eB hcs hdf
      go_wp2_with fail
      refine (Length_ok _ _ _ hY.1 hY.2 hi1 hlt).mono ?_
      rintro e w' ⟨rfl, rfl⟩
      rw [HL.out]
      go_wp2_with fail
      refine (Days_ok _ _ _ _ v1.out).mono ?_
      rintro e w' ⟨rfl, rfl⟩
      rw [HA.out]
      go_wp2_with fail
      refine (Days_ok _ _ _ _ v2.out).mono ?_
      rintro e w' ⟨rfl, rfl⟩
      rw [HB.out]
      go_wp2
      go_round
      case rel => exact ⟨i + 1, by omega, by omega, rfl, by rw [HC.out]⟩
      case measure => simp [intOf]; omega
    · obtain rfl : i = 13 := by omega
      have e13 := Civ.cum13 Y
      have hml := Civ.mlen_bd Y 2 (by omega) (by omega)
      obtain ⟨L, eL⟩ : ∃ L : Int, Civ.mlen Y 2 = L := ⟨_, rfl⟩
      rw [eL] at e13 hml
      rw [e13]
      have HL := Lib.hid eL
      clear e13 eL hcb
      go_wp2_with fail
      refine (Length_ok _ _ _ hY.1 hY.2 (by omega) (by omega)).mono ?_
      rintro e w' ⟨rfl, rfl⟩
      rw [HL.out]
      go_wp2
      go_ret
      exact ⟨rfl, hw1⟩

set_option maxHeartbeats 2000000 in
theorem CivilFriday_walk (y : Int) (w : World) :
    Calls Try.prog 7 #[.int .i64 y] w fun e w' => e = .returned (.bool true) ∧ Below w.heap.size w w' := by
  have hY := yD_bd y
  obtain ⟨Y, e⟩ : ∃ Y : Int, yD y = Y := ⟨_, rfl⟩
  rw [e] at hY
  have HY := Lib.hid e
  clear e
  go_enter Try.func7, Try.ntmps7
  go_wp2_with fail
  refine (dated_any _).mono ?_
  rintro e w' ⟨rfl, rfl⟩
  go_wp2_with fail
  refine (date_any _ _ _ _).mono ?_
  rintro e w1 ⟨rfl, hw1⟩
  rw [HY.out]
  go_wp2_with fail
  go_loop [3, 4] (fun many m => ∃ k : Nat, k ≤ 12 ∧ m = .int .i64 ((k : Int) + 1) ∧ many = .int .i64 (Civ.fri Y k)) (fun _ m => (13 - intOf m).toNat)
  case atStart => exact ⟨0, by omega, rfl, by simp [Civ.fri]⟩
  case round =>
    obtain ⟨k, hk, rfl, rfl⟩ := hrel
    have hfb := Civ.fri_bd Y k
    by_cases hlt : k < 12
    · have hml := Civ.mlen_bd Y ((k : Int) + 1) (by omega) (by omega)
      have v1 := Lib.hid (show Civ.valid Y ((k : Int) + 1) 13 from ⟨hY.1, hY.2, by omega, by omega, by omega, by omega⟩)
      have bd1 := Civ.days_bd v1.out
      have hfs : Civ.fri Y (k + 1) = Civ.fri Y k + if (Civ.days Y ((k : Int) + 1) 13 + 4) % 7 = 5 then 1 else 0 := rfl
      obtain ⟨S, eS⟩ : ∃ S : Int, Civ.fri Y k = S := ⟨_, rfl⟩
      obtain ⟨A, eA⟩ : ∃ A : Int, Civ.days Y ((k : Int) + 1) 13 = A := ⟨_, rfl⟩
      rw [eS] at hfb
      rw [eS, eA] at hfs
      rw [eA] at bd1
      rw [eS]
      have HA := Lib.hid eA
      have HS := Lib.hid hfs
      clear eS eA hfs
      by_cases h5 : (A + 4) % 7 = 5
      · have h5b : ((A + 4) % 7 == 5) = true := by simpa using h5
        have H5 := Lib.hid h5
        clear h5
        go_wp2_with fail
        refine (Days_ok _ _ _ _ v1.out).mono ?_
        rintro e w' ⟨rfl, rfl⟩
        rw [HA.out]
        go_wp2_with fail
        refine (Weekday_ok _ _ bd1.1 bd1.2).mono ?_
        rintro e w' ⟨rfl, rfl⟩
        go_wp2
        go_round
        case rel => exact ⟨k + 1, by omega, by go_num, by rw [HS.out, if_pos H5.out]⟩
        case measure => simp [intOf]; omega
      · have h5b : ((A + 4) % 7 == 5) = false := by simpa using h5
        have H5 := Lib.hid h5
        clear h5
        go_wp2_with fail
        refine (Days_ok _ _ _ _ v1.out).mono ?_
        rintro e w' ⟨rfl, rfl⟩
        rw [HA.out]
        go_wp2_with fail
        refine (Weekday_ok _ _ bd1.1 bd1.2).mono ?_
        rintro e w' ⟨rfl, rfl⟩
        go_wp2
        go_round
        case rel => exact ⟨k + 1, by omega, by go_num, by rw [HS.out, if_neg H5.out]; go_num⟩
        case measure => simp [intOf]; omega
    · obtain rfl : k = 12 := by omega
      have hf := Civ.fri_year Y
      go_wp2
      go_ret
      exact ⟨rfl, hw1⟩

set_option maxHeartbeats 2000000 in
theorem CivilDoomsday_walk (y : Int) (w : World) :
    Calls Try.prog 6 #[.int .i64 y] w fun e w' => e = .returned (.bool true) ∧ Below w.heap.size w w' := by
  have hY := yD_bd y
  obtain ⟨Y, e⟩ : ∃ Y : Int, yD y = Y := ⟨_, rfl⟩
  rw [e] at hY
  have HY := Lib.hid e
  clear e
  have hml := Civ.mlen_bd Y 2 (by omega) (by omega)
  have hdd := Lib.hid (Civ.doomsday Y)
  obtain ⟨L, eL⟩ : ∃ L : Int, Civ.mlen Y 2 = L := ⟨_, rfl⟩
  obtain ⟨A, eA⟩ : ∃ A : Int, Civ.days Y 2 L = A := ⟨_, rfl⟩
  have v1 := Lib.hid (show Civ.valid Y 2 L from ⟨hY.1, hY.2, by omega, by omega, by omega, by omega⟩)
  rw [eL] at hml
  have bd1 := Civ.days_bd v1.out
  rw [eA] at bd1
  have HD : Hid (∀ k : Nat, k < 5 → Civ.days Y (4 + 2 * k) (4 + 2 * k) = A + 35 + 63 * k) := by
    intro k hk
    have h := hdd.out k hk
    rw [eL, eA] at h
    exact h
  have HL := Lib.hid eL
  have HA := Lib.hid eA
  clear eL eA
  go_enter Try.func6, Try.ntmps6
  go_wp2_with fail
  refine (dated_any _).mono ?_
  rintro e w' ⟨rfl, rfl⟩
  go_wp2_with fail
  refine (date_any _ _ _ _).mono ?_
  rintro e w1 ⟨rfl, hw1⟩
  rw [HY.out]
  go_wp2_with fail
  refine (Length_ok _ _ _ hY.1 hY.2 (by omega) (by omega)).mono ?_
  rintro e w' ⟨rfl, rfl⟩
  rw [HL.out]
  go_wp2_with fail
  refine (Days_ok _ _ _ _ v1.out).mono ?_
  rintro e w' ⟨rfl, rfl⟩
  rw [HA.out]
  go_wp2_with fail
  refine (Weekday_ok _ _ bd1.1 bd1.2).mono ?_
  rintro e w' ⟨rfl, rfl⟩
  go_wp2_with fail
  go_loop [9] (fun m => ∃ k : Nat, k ≤ 5 ∧ m = .int .i64 (4 + 2 * (k : Int))) (fun m => (14 - intOf m).toNat)
  case atStart => exact ⟨0, by omega, by rfl⟩
  case round =>
    obtain ⟨k, hk, rfl⟩ := hrel
    by_cases hlt : k < 5
    · have hml2 := Civ.mlen_bd Y (4 + 2 * (k : Int)) (by omega) (by omega)
      have v2 := Lib.hid (show Civ.valid Y (4 + 2 * (k : Int)) (4 + 2 * (k : Int)) from ⟨hY.1, hY.2, by omega, by omega, by omega, by omega⟩)
      have bd2 := Civ.days_bd v2.out
      have e := HD.out k hlt
      obtain ⟨B, eB⟩ : ∃ B : Int, Civ.days Y (4 + 2 * (k : Int)) (4 + 2 * (k : Int)) = B := ⟨_, rfl⟩
      rw [eB] at bd2 e
      have HB := Lib.hid eB
      have fw : ((B + 4) % 7 != (A + 4) % 7) = false := by simp; omega
      clear e eB
      go_wp2_with fail
      refine (Days_ok _ _ _ _ v2.out).mono ?_
      rintro e w' ⟨rfl, rfl⟩
      rw [HB.out]
      go_wp2_with fail
      refine (Weekday_ok _ _ bd2.1 bd2.2).mono ?_
      rintro e w' ⟨rfl, rfl⟩
      go_wp2
      go_round
      case rel => exact ⟨k + 1, by omega, by go_num⟩
      case measure => simp [intOf]; omega
    · obtain rfl : k = 5 := by omega
      go_wp2
      go_ret
      exact ⟨rfl, hw1⟩

set_option maxHeartbeats 2000000 in
theorem CivilOrder_walk (y m d a b c : Int) (w : World) :
    Calls Try.prog 10 #[.int .i64 y, .int .i64 m, .int .i64 d, .int .i64 a, .int .i64 b, .int .i64 c] w fun e w' => e = .returned (.bool true) ∧ Below w.heap.size w w' := by
  have hv := dateD_valid y m d
  have hw := dateD_valid a b c
  have hlt := Civ.days_lt_iff hv hw
  have bd1 := Civ.days_bd hv
  have bd2 := Civ.days_bd hw
  obtain ⟨Y, e1⟩ : ∃ Y : Int, yD y = Y := ⟨_, rfl⟩
  obtain ⟨M, e2⟩ : ∃ M : Int, mD m = M := ⟨_, rfl⟩
  obtain ⟨D, e3⟩ : ∃ D : Int, dD y m d = D := ⟨_, rfl⟩
  obtain ⟨A, e4⟩ : ∃ A : Int, yD a = A := ⟨_, rfl⟩
  obtain ⟨B, e5⟩ : ∃ B : Int, mD b = B := ⟨_, rfl⟩
  obtain ⟨C, e6⟩ : ∃ C : Int, dD a b c = C := ⟨_, rfl⟩
  rw [e1, e2, e3] at hv hlt bd1
  rw [e4, e5, e6] at hw hlt bd2
  have HV := Lib.hid hv
  have HW := Lib.hid hw
  obtain ⟨P, eP⟩ : ∃ P : Int, Civ.days Y M D = P := ⟨_, rfl⟩
  obtain ⟨Q, eQ⟩ : ∃ Q : Int, Civ.days A B C = Q := ⟨_, rfl⟩
  rw [eP, eQ] at hlt
  rw [eP] at bd1
  rw [eQ] at bd2
  have H1 := Lib.hid e1
  have H2 := Lib.hid e2
  have H3 := Lib.hid e3
  have H4 := Lib.hid e4
  have H5 := Lib.hid e5
  have H6 := Lib.hid e6
  have HP := Lib.hid eP
  have HQ := Lib.hid eQ
  have HLT := Lib.hid hlt
  clear e1 e2 e3 e4 e5 e6 eP eQ hv hw hlt
  unfold Civ.less at HLT
  by_cases c1 : Y < A
  · have hpq : P < Q := by have := HLT.out; omega
    clear HLT
    go_enter Try.func10, Try.ntmps10
    go_wp2_with fail
    refine (dated_any _).mono ?_
    rintro e w' ⟨rfl, rfl⟩
    go_wp2_with fail
    refine (date_any _ _ _ _).mono ?_
    rintro e w1 ⟨rfl, hw1⟩
    rw [H1.out, H2.out, H3.out]
    go_wp2_with fail
    refine (date_any _ _ _ _).mono ?_
    rintro e w2 ⟨rfl, hw2⟩
    rw [H4.out, H5.out, H6.out]
    go_wp2_with fail
    refine (Days_ok _ _ _ _ HV.out).mono ?_
    rintro e w' ⟨rfl, rfl⟩
    rw [HP.out]
    go_wp2_with fail
    refine (Days_ok _ _ _ _ HW.out).mono ?_
    rintro e w' ⟨rfl, rfl⟩
    rw [HQ.out]
    go_wp2
    go_ret
    exact ⟨ret_bool (by first | rfl | (simp only [beq_iff_eq, decide_eq_decide]; omega)), hw1.trans (hw2.mono hw1.size)⟩
  · by_cases c2 : Y = A
    · obtain rfl := c2
      by_cases c3 : M < B
      · have hpq : P < Q := by have := HLT.out; omega
        clear HLT
        go_enter Try.func10, Try.ntmps10
        go_wp2_with fail
        refine (dated_any _).mono ?_
        rintro e w' ⟨rfl, rfl⟩
        go_wp2_with fail
        refine (date_any _ _ _ _).mono ?_
        rintro e w1 ⟨rfl, hw1⟩
        rw [H1.out, H2.out, H3.out]
        go_wp2_with fail
        refine (date_any _ _ _ _).mono ?_
        rintro e w2 ⟨rfl, hw2⟩
        rw [H4.out, H5.out, H6.out]
        go_wp2_with fail
        refine (Days_ok _ _ _ _ HV.out).mono ?_
        rintro e w' ⟨rfl, rfl⟩
        rw [HP.out]
        go_wp2_with fail
        refine (Days_ok _ _ _ _ HW.out).mono ?_
        rintro e w' ⟨rfl, rfl⟩
        rw [HQ.out]
        go_wp2
        go_ret
        exact ⟨ret_bool (by first | rfl | (simp only [beq_iff_eq, decide_eq_decide]; omega)), hw1.trans (hw2.mono hw1.size)⟩
      · by_cases c4 : M = B
        · obtain rfl := c4
          by_cases c5 : D < C
          · have hpq : P < Q := by have := HLT.out; omega
            clear HLT
            go_enter Try.func10, Try.ntmps10
            go_wp2_with fail
            refine (dated_any _).mono ?_
            rintro e w' ⟨rfl, rfl⟩
            go_wp2_with fail
            refine (date_any _ _ _ _).mono ?_
            rintro e w1 ⟨rfl, hw1⟩
            rw [H1.out, H2.out, H3.out]
            go_wp2_with fail
            refine (date_any _ _ _ _).mono ?_
            rintro e w2 ⟨rfl, hw2⟩
            rw [H4.out, H5.out, H6.out]
            go_wp2_with fail
            refine (Days_ok _ _ _ _ HV.out).mono ?_
            rintro e w' ⟨rfl, rfl⟩
            rw [HP.out]
            go_wp2_with fail
            refine (Days_ok _ _ _ _ HW.out).mono ?_
            rintro e w' ⟨rfl, rfl⟩
            rw [HQ.out]
            go_wp2
            go_ret
            exact ⟨ret_bool (by first | rfl | (simp only [beq_iff_eq, decide_eq_decide]; omega)), hw1.trans (hw2.mono hw1.size)⟩
          · have hpq : ¬ P < Q := by have := HLT.out; omega
            clear HLT
            go_enter Try.func10, Try.ntmps10
            go_wp2_with fail
            refine (dated_any _).mono ?_
            rintro e w' ⟨rfl, rfl⟩
            go_wp2_with fail
            refine (date_any _ _ _ _).mono ?_
            rintro e w1 ⟨rfl, hw1⟩
            rw [H1.out, H2.out, H3.out]
            go_wp2_with fail
            refine (date_any _ _ _ _).mono ?_
            rintro e w2 ⟨rfl, hw2⟩
            rw [H4.out, H5.out, H6.out]
            go_wp2_with fail
            refine (Days_ok _ _ _ _ HV.out).mono ?_
            rintro e w' ⟨rfl, rfl⟩
            rw [HP.out]
            go_wp2_with fail
            refine (Days_ok _ _ _ _ HW.out).mono ?_
            rintro e w' ⟨rfl, rfl⟩
            rw [HQ.out]
            go_wp2
            go_ret
            exact ⟨ret_bool (by first | rfl | (simp only [beq_iff_eq, decide_eq_decide]; omega)), hw1.trans (hw2.mono hw1.size)⟩
        · have hpq : ¬ P < Q := by have := HLT.out; omega
          have tMB : (M == B) = false := by simp; omega
          clear HLT
          go_enter Try.func10, Try.ntmps10
          go_wp2_with fail
          refine (dated_any _).mono ?_
          rintro e w' ⟨rfl, rfl⟩
          go_wp2_with fail
          refine (date_any _ _ _ _).mono ?_
          rintro e w1 ⟨rfl, hw1⟩
          rw [H1.out, H2.out, H3.out]
          go_wp2_with fail
          refine (date_any _ _ _ _).mono ?_
          rintro e w2 ⟨rfl, hw2⟩
          rw [H4.out, H5.out, H6.out]
          go_wp2_with fail
          refine (Days_ok _ _ _ _ HV.out).mono ?_
          rintro e w' ⟨rfl, rfl⟩
          rw [HP.out]
          go_wp2_with fail
          refine (Days_ok _ _ _ _ HW.out).mono ?_
          rintro e w' ⟨rfl, rfl⟩
          rw [HQ.out]
          go_wp2
          go_ret
          exact ⟨ret_bool (by first | rfl | (simp only [beq_iff_eq, decide_eq_decide]; omega)), hw1.trans (hw2.mono hw1.size)⟩
    · have hpq : ¬ P < Q := by have := HLT.out; omega
      have tYA : (Y == A) = false := by simp; omega
      clear HLT
      go_enter Try.func10, Try.ntmps10
      go_wp2_with fail
      refine (dated_any _).mono ?_
      rintro e w' ⟨rfl, rfl⟩
      go_wp2_with fail
      refine (date_any _ _ _ _).mono ?_
      rintro e w1 ⟨rfl, hw1⟩
      rw [H1.out, H2.out, H3.out]
      go_wp2_with fail
      refine (date_any _ _ _ _).mono ?_
      rintro e w2 ⟨rfl, hw2⟩
      rw [H4.out, H5.out, H6.out]
      go_wp2_with fail
      refine (Days_ok _ _ _ _ HV.out).mono ?_
      rintro e w' ⟨rfl, rfl⟩
      rw [HP.out]
      go_wp2_with fail
      refine (Days_ok _ _ _ _ HW.out).mono ?_
      rintro e w' ⟨rfl, rfl⟩
      rw [HQ.out]
      go_wp2
      go_ret
      exact ⟨ret_bool (by first | rfl | (simp only [beq_iff_eq, decide_eq_decide]; omega)), hw1.trans (hw2.mono hw1.size)⟩

end Go.Proofs.Ytdkjjaahmcjnmaa
