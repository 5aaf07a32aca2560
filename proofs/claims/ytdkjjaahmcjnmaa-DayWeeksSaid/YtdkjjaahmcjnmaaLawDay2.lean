/- The laws of days of months, more: each walk returns true. -/
import Derived.Test.YtdkjjaahmcjnmaaLawDay1
import Derived.Maps.Own
import Derived.Maps.OwnOps
import Derived.Maps.OwnSet
namespace Go.Proofs.Ytdkjjaahmcjnmaa
open Go.RowKit Go.Maps
set_option linter.unusedVariables false
set_option linter.unusedSimpArgs false

theorem days_plus (y m n : Int) : Civ.days y m n = Civ.days y m 1 + n - 1 := by unfold Civ.days; omega

/-- behind a month there is another one, but for the last of all -/
theorem month_after (y m : Int) (h1 : 1600 ≤ y) (h2 : y ≤ 2399) (h3 : 1 ≤ m) (h4 : m ≤ 12) (h : ¬ (y = 2399 ∧ m = 12)) :
    Civ.days y m 1 + Civ.mlen y m = Civ.days (if m < 12 then y else y + 1) (if m < 12 then m + 1 else 1) 1 := by
  by_cases hm : m < 12
  · rw [if_pos hm, if_pos hm, Civ.days_eq y m 1 h3 h4, Civ.days_eq y (m + 1) 1 (by omega) (by omega), Civ.cum_succ y m h3 h4]; omega
  · have e : m = 12 := by omega
    subst e
    rw [if_neg hm, if_neg hm, Civ.days_eq y 12 1 (by omega) (by omega), Civ.days_eq (y + 1) 1 1 (by omega) (by omega), Civ.jan1_succ]
    simp [Civ.cum, Civ.mlen]; omega

theorem month_room (y m : Int) (h1 : 1600 ≤ y) (h2 : y ≤ 2399) (h3 : 1 ≤ m) (h4 : m ≤ 12) (h : ¬ (y = 2399 ∧ m = 12)) :
    Civ.days y m 1 + Civ.mlen y m + 27 ≤ 157053 := by
  rw [month_after y m h1 h2 h3 h4 h]
  have hb := Civ.mlen_bd (if m < 12 then y else y + 1) (if m < 12 then m + 1 else 1) (by split <;> omega) (by split <;> omega)
  have := Civ.days_bd (y := if m < 12 then y else y + 1) (m := if m < 12 then m + 1 else 1) (d := 28) ⟨by split <;> omega, by split <;> omega, by split <;> omega, by split <;> omega, by omega, by omega⟩
  rw [days_plus] at this
  omega

theorem up_down (x wd : Int) : upTo x wd = downTo (x + 6) wd := by unfold upTo downTo; omega
theorem down_up (x wd : Int) : downTo (x - 1) wd + 7 = upTo x wd := by unfold upTo downTo; omega

theorem dayB_mk (k wd n : Int) (h : (k = 1 ∧ wd = 0 ∧ 1 ≤ n ∧ n ≤ 31) ∨ (k = 2 ∧ 0 ≤ wd ∧ wd ≤ 6 ∧ n = 0) ∨ ((k = 3 ∨ k = 4) ∧ 0 ≤ wd ∧ wd ≤ 6 ∧ 1 ≤ n ∧ n ≤ 31)) : dayB k wd n = true := by simpa [dayB] using h


set_option maxHeartbeats 2000000 in
theorem DaySides_walk (y m w0 n : Int) (w : World) :
    Calls Try.prog 13 #[.int .i64 y, .int .i64 m, .int .i64 w0, .int .i64 n] w fun e w' => e = .returned (.bool true) ∧ Below w.heap.size w w' := by
  have hY := yD_bd y
  have hM := mD_bd m
  obtain ⟨Y, e1⟩ : ∃ Y : Int, yD y = Y := ⟨_, rfl⟩
  obtain ⟨M, e2⟩ : ∃ M : Int, mD m = M := ⟨_, rfl⟩
  rw [e1] at hY
  rw [e2] at hM
  have hml := Civ.mlen_bd Y M hM.1 hM.2
  obtain ⟨A, eA⟩ : ∃ A : Int, Civ.days Y M 1 = A := ⟨_, rfl⟩
  obtain ⟨L, eL⟩ : ∃ L : Int, Civ.mlen Y M = L := ⟨_, rfl⟩
  have bA := Civ.days_bd (show Civ.valid Y M 1 from ⟨hY.1, hY.2, hM.1, hM.2, by omega, by omega⟩)
  have bL := Civ.days_bd (show Civ.valid Y M (Civ.mlen Y M) from ⟨hY.1, hY.2, hM.1, hM.2, by omega, by omega⟩)
  rw [eA] at bA
  rw [days_plus, eA, eL] at bL
  rw [eL] at hml
  have dp : ∀ n, Civ.days Y M n = A + n - 1 := fun n => by rw [days_plus, eA]
  have DP := Lib.hid dp
  have E1 := Lib.hid e1
  have E2 := Lib.hid e2
  have EL := Lib.hid eL
  have EA := Lib.hid eA
  clear e1 e2 eL eA dp
  obtain ⟨V, eV⟩ : ∃ V : Int, w0 % 7 = V := ⟨_, rfl⟩
  have hV : 0 ≤ V ∧ V ≤ 6 := by omega
  have EV := Lib.hid eV
  clear eV
  obtain ⟨N, eN⟩ : ∃ N : Int, n % (L - 6) + 1 = N := ⟨_, rfl⟩
  have hN1 := Int.emod_nonneg n (show L - 6 ≠ 0 by omega)
  have hN2 := Int.emod_lt_of_pos n (show 0 < L - 6 by omega)
  have hN : 1 ≤ N ∧ N ≤ L - 6 := by omega
  have EN := Lib.hid eN
  clear eN
  have u1 := upTo_bd (A + N - 1) V hV.1 hV.2
  have u2 := downTo_bd (A + L - 1) V hV.1 hV.2
  have r1 : upTo (Civ.days Y M N) V = upTo (A + N - 1) V := by rw [DP.out]
  have r2 : downTo (Civ.days Y M (N + 6)) V = upTo (A + N - 1) V := by rw [DP.out, up_down]; congr 1; omega
  have r3 : downTo (Civ.days Y M (Civ.mlen Y M)) V = downTo (A + L - 1) V := by rw [EL.out, DP.out]
  have r4 : downTo (Civ.days Y M L) V = downTo (A + L - 1) V := by rw [DP.out]
  have R1 := Lib.hid r1
  have R2 := Lib.hid r2
  have R3 := Lib.hid r3
  have R4 := Lib.hid r4
  have c1 := Lib.hid (fun w => Of_up Y M V N w (dayB_mk _ _ _ (by omega)) hY.1 hY.2 hM.1 hM.2 (by rw [EL.out]; omega) (by rw [r1]; omega))
  have c2 := Lib.hid (fun w => Of_down Y M V (N + 6) w (dayB_mk _ _ _ (by omega)) hY.1 hY.2 hM.1 hM.2 (by rw [EL.out]; omega) (by rw [r2]; omega))
  have c3 := Lib.hid (fun w => Of_last Y M V 0 w (dayB_mk _ _ _ (by omega)) hY.1 hY.2 hM.1 hM.2)
  have c4 := Lib.hid (fun w => Of_down Y M V L w (dayB_mk _ _ _ (by omega)) hY.1 hY.2 hM.1 hM.2 (by rw [EL.out]; omega) (by rw [r4]; omega))
  clear r1 r2 r3 r4 u1 u2
  go_enter Try.func13, Try.ntmps13
  go_wp2_with fail
  refine (mondays_any _).mono ?_
  rintro e w1 ⟨rfl, h1⟩
  have b1 : Below w.heap.size w w1 := h1
  go_wp2_with fail
  refine (date_any _ _ _ _).mono ?_
  rintro e w2 ⟨rfl, h2⟩
  have b2 := b1.trans (h2.mono b1.size)
  rw [E1.out, E2.out]
  go_wp2_with fail
  refine (Rest_any _ _ _ (by omega) (by omega)).mono ?_
  rintro e w' ⟨rfl, rfl⟩
  rw [EV.out]
  go_wp2_with fail
  refine (Length_ok _ _ _ hY.1 hY.2 hM.1 hM.2).mono ?_
  rintro e w' ⟨rfl, rfl⟩
  rw [EL.out]
  go_wp2_with fail
  refine (Rest_any _ _ _ (by omega) (by omega)).mono ?_
  rintro e w' ⟨rfl, rfl⟩
  go_wp2_with fail
  rw [EN.out]
  refine (c1.out _).mono ?_
  rintro e w3 ⟨rfl, h3⟩
  have b3 := b2.trans (h3.mono b2.size)
  rw [R1.out]
  go_wp2_with fail
  refine (c2.out _).mono ?_
  rintro e w4 ⟨rfl, h4⟩
  have b4 := b3.trans (h4.mono b3.size)
  rw [R2.out]
  go_wp2_with fail
  refine (c3.out _).mono ?_
  rintro e w5 ⟨rfl, h5⟩
  have b5 := b4.trans (h5.mono b4.size)
  rw [R3.out]
  go_wp2_with fail
  refine (c4.out _).mono ?_
  rintro e w6 ⟨rfl, h6⟩
  have b6 := b5.trans (h6.mono b5.size)
  rw [R4.out]
  go_wp2
  go_ret
  exact ⟨rfl, b6⟩

set_option maxHeartbeats 2000000 in
theorem DayWeeks_walk (y m w0 n : Int) (w : World) :
    Calls Try.prog 15 #[.int .i64 y, .int .i64 m, .int .i64 w0, .int .i64 n] w fun e w' => e = .returned (.bool true) ∧ Below w.heap.size w w' := by
  have hY := yD_bd y
  have hM := mD_bd m
  obtain ⟨Y, e1⟩ : ∃ Y : Int, yD y = Y := ⟨_, rfl⟩
  obtain ⟨M, e2⟩ : ∃ M : Int, mD m = M := ⟨_, rfl⟩
  rw [e1] at hY
  rw [e2] at hM
  have hml := Civ.mlen_bd Y M hM.1 hM.2
  obtain ⟨A, eA⟩ : ∃ A : Int, Civ.days Y M 1 = A := ⟨_, rfl⟩
  obtain ⟨L, eL⟩ : ∃ L : Int, Civ.mlen Y M = L := ⟨_, rfl⟩
  have bA := Civ.days_bd (show Civ.valid Y M 1 from ⟨hY.1, hY.2, hM.1, hM.2, by omega, by omega⟩)
  have bL := Civ.days_bd (show Civ.valid Y M (Civ.mlen Y M) from ⟨hY.1, hY.2, hM.1, hM.2, by omega, by omega⟩)
  rw [eA] at bA
  rw [days_plus, eA, eL] at bL
  rw [eL] at hml
  have dp : ∀ n, Civ.days Y M n = A + n - 1 := fun n => by rw [days_plus, eA]
  have DP := Lib.hid dp
  have E1 := Lib.hid e1
  have E2 := Lib.hid e2
  have EL := Lib.hid eL
  have EA := Lib.hid eA
  clear e1 e2 eL eA dp
  obtain ⟨V, eV⟩ : ∃ V : Int, w0 % 7 = V := ⟨_, rfl⟩
  have hV : 0 ≤ V ∧ V ≤ 6 := by omega
  have EV := Lib.hid eV
  clear eV
  obtain ⟨N, eN⟩ : ∃ N : Int, n % 21 + 1 = N := ⟨_, rfl⟩
  have hN : 1 ≤ N ∧ N ≤ 21 := by omega
  have EN := Lib.hid eN
  clear eN
  have u1 := upTo_bd (A + N - 1) V hV.1 hV.2
  have u2 : upTo (A + (N + 7) - 1) V = upTo (A + N - 1) V + 7 := by unfold upTo; omega
  obtain ⟨R, eR⟩ : ∃ R : Int, upTo (A + N - 1) V = R := ⟨_, rfl⟩
  rw [eR] at u1 u2
  have r1 : upTo (Civ.days Y M N) V = R := by rw [DP.out, eR]
  have r2 : upTo (Civ.days Y M (N + 7)) V = R + 7 := by rw [DP.out, u2]
  have hroom : ¬ (Y = 2399 ∧ M = 12) → A + L + 27 ≤ 157053 := fun h => by
    have := month_room Y M hY.1 hY.2 hM.1 hM.2 h
    rw [EL.out, EA.out] at this
    exact this
  have hlast : Y = 2399 ∧ M = 12 → A = 157023 := fun h => by
    have h1 := EA.out
    rw [h.1, h.2] at h1
    rw [← h1]; decide
  have R1 := Lib.hid r1
  have R2 := Lib.hid r2
  have hR0 : R ≤ 157053 := by
    by_cases h : Y = 2399 ∧ M = 12
    · have := hlast h; omega
    · have := hroom h; omega
  have hR1 : -135140 ≤ R := by omega
  have hR3 : R ≤ A + N + 5 := by omega
  have c1 := Lib.hid (fun w => Of_up Y M V N w (dayB_mk _ _ _ (by omega)) hY.1 hY.2 hM.1 hM.2 (by rw [EL.out]; omega) (by rw [r1]; omega))
  clear r1 u1 u2 eR
  have HR := Lib.hid hroom
  clear hroom hlast
  by_cases hr2 : R + 7 ≤ 157053
  · have c2 := Lib.hid (fun w => Of_up Y M V (N + 7) w (dayB_mk _ _ _ (by omega)) hY.1 hY.2 hM.1 hM.2 (by rw [EL.out]; omega) (by rw [r2]; omega))
    clear r2
    have ff : (R + 7 == R + 7) = true := by simp
    by_cases hy : Y = 2399
    · obtain rfl := hy
      by_cases hm : M = 12
      · obtain rfl := hm
        go_enter Try.func15, Try.ntmps15
        go_wp2_with fail
        refine (mondays_any _).mono ?_
        rintro e w1 ⟨rfl, h1⟩
        have b1 : Below w.heap.size w w1 := h1
        go_wp2_with fail
        refine (date_any _ _ _ _).mono ?_
        rintro e w2 ⟨rfl, h2⟩
        have b2 := b1.trans (h2.mono b1.size)
        rw [E1.out, E2.out]
        go_wp2_with fail
        refine (Rest_any _ _ _ (by omega) (by omega)).mono ?_
        rintro e w' ⟨rfl, rfl⟩
        rw [EV.out]
        go_wp2_with fail
        refine (Rest_any _ _ _ (by omega) (by omega)).mono ?_
        rintro e w' ⟨rfl, rfl⟩
        go_wp2_with fail
        rw [EN.out]
        refine (c1.out _).mono ?_
        rintro e w3 ⟨rfl, h3⟩
        have b3 := b2.trans (h3.mono b2.size)
        rw [R1.out]
        go_wp2_with fail
        refine (c2.out _).mono ?_
        rintro e w4 ⟨rfl, h4⟩
        have b4 := b3.trans (h4.mono b3.size)
        rw [R2.out]
        go_wp2
        go_ret
        exact ⟨rfl, b4⟩
      · have fm : (M == 12) = false := by simpa using hm
        clear hm
        go_enter Try.func15, Try.ntmps15
        go_wp2_with fail
        refine (mondays_any _).mono ?_
        rintro e w1 ⟨rfl, h1⟩
        have b1 : Below w.heap.size w w1 := h1
        go_wp2_with fail
        refine (date_any _ _ _ _).mono ?_
        rintro e w2 ⟨rfl, h2⟩
        have b2 := b1.trans (h2.mono b1.size)
        rw [E1.out, E2.out]
        go_wp2_with fail
        refine (Rest_any _ _ _ (by omega) (by omega)).mono ?_
        rintro e w' ⟨rfl, rfl⟩
        rw [EV.out]
        go_wp2_with fail
        refine (Rest_any _ _ _ (by omega) (by omega)).mono ?_
        rintro e w' ⟨rfl, rfl⟩
        go_wp2_with fail
        rw [EN.out]
        refine (c1.out _).mono ?_
        rintro e w3 ⟨rfl, h3⟩
        have b3 := b2.trans (h3.mono b2.size)
        rw [R1.out]
        go_wp2_with fail
        refine (c2.out _).mono ?_
        rintro e w4 ⟨rfl, h4⟩
        have b4 := b3.trans (h4.mono b3.size)
        rw [R2.out]
        go_wp2
        go_ret
        exact ⟨rfl, b4⟩
    · have fy : (Y == 2399) = false := by simpa using hy
      clear hy
      go_enter Try.func15, Try.ntmps15
      go_wp2_with fail
      refine (mondays_any _).mono ?_
      rintro e w1 ⟨rfl, h1⟩
      have b1 : Below w.heap.size w w1 := h1
      go_wp2_with fail
      refine (date_any _ _ _ _).mono ?_
      rintro e w2 ⟨rfl, h2⟩
      have b2 := b1.trans (h2.mono b1.size)
      rw [E1.out, E2.out]
      go_wp2_with fail
      refine (Rest_any _ _ _ (by omega) (by omega)).mono ?_
      rintro e w' ⟨rfl, rfl⟩
      rw [EV.out]
      go_wp2_with fail
      refine (Rest_any _ _ _ (by omega) (by omega)).mono ?_
      rintro e w' ⟨rfl, rfl⟩
      go_wp2_with fail
      rw [EN.out]
      refine (c1.out _).mono ?_
      rintro e w3 ⟨rfl, h3⟩
      have b3 := b2.trans (h3.mono b2.size)
      rw [R1.out]
      go_wp2_with fail
      refine (c2.out _).mono ?_
      rintro e w4 ⟨rfl, h4⟩
      have b4 := b3.trans (h4.mono b3.size)
      rw [R2.out]
      go_wp2
      go_ret
      exact ⟨rfl, b4⟩
  · have hlast : Y = 2399 ∧ M = 12 := by
      by_cases h : Y = 2399 ∧ M = 12
      · exact h
      · have := HR.out h; omega
    have c2 := Lib.hid (fun w => Of_up_no Y M V (N + 7) w (dayB_mk _ _ _ (by omega)) hY.1 hY.2 hM.1 hM.2 (by rw [EL.out]; omega) (by rw [r2]; omega))
    clear r2
    obtain ⟨rfl, rfl⟩ := hlast
    go_enter Try.func15, Try.ntmps15
    go_wp2_with fail
    refine (mondays_any _).mono ?_
    rintro e w1 ⟨rfl, h1⟩
    have b1 : Below w.heap.size w w1 := h1
    go_wp2_with fail
    refine (date_any _ _ _ _).mono ?_
    rintro e w2 ⟨rfl, h2⟩
    have b2 := b1.trans (h2.mono b1.size)
    rw [E1.out, E2.out]
    go_wp2_with fail
    refine (Rest_any _ _ _ (by omega) (by omega)).mono ?_
    rintro e w' ⟨rfl, rfl⟩
    rw [EV.out]
    go_wp2_with fail
    refine (Rest_any _ _ _ (by omega) (by omega)).mono ?_
    rintro e w' ⟨rfl, rfl⟩
    go_wp2_with fail
    rw [EN.out]
    refine (c1.out _).mono ?_
    rintro e w3 ⟨rfl, h3⟩
    have b3 := b2.trans (h3.mono b2.size)
    rw [R1.out]
    go_wp2_with fail
    refine (c2.out _).mono ?_
    rintro e w4 ⟨rfl, h4⟩
    have b4 := b3.trans (h4.mono b3.size)
    go_wp2
    go_ret
    exact ⟨rfl, b4⟩

set_option maxHeartbeats 2000000 in
theorem DayMonths_walk (y m w0 : Int) (w : World) :
    Calls Try.prog 16 #[.int .i64 y, .int .i64 m, .int .i64 w0] w fun e w' => e = .returned (.bool true) ∧ Below w.heap.size w w' := by
  have hY := yD_bd y
  have hM := mD_bd m
  obtain ⟨Y, e1⟩ : ∃ Y : Int, yD y = Y := ⟨_, rfl⟩
  obtain ⟨M, e2⟩ : ∃ M : Int, mD m = M := ⟨_, rfl⟩
  rw [e1] at hY
  rw [e2] at hM
  have hml := Civ.mlen_bd Y M hM.1 hM.2
  obtain ⟨A, eA⟩ : ∃ A : Int, Civ.days Y M 1 = A := ⟨_, rfl⟩
  obtain ⟨L, eL⟩ : ∃ L : Int, Civ.mlen Y M = L := ⟨_, rfl⟩
  have bA := Civ.days_bd (show Civ.valid Y M 1 from ⟨hY.1, hY.2, hM.1, hM.2, by omega, by omega⟩)
  have bL := Civ.days_bd (show Civ.valid Y M (Civ.mlen Y M) from ⟨hY.1, hY.2, hM.1, hM.2, by omega, by omega⟩)
  rw [eA] at bA
  rw [days_plus, eA, eL] at bL
  rw [eL] at hml
  have dp : ∀ n, Civ.days Y M n = A + n - 1 := fun n => by rw [days_plus, eA]
  have DP := Lib.hid dp
  have E1 := Lib.hid e1
  have E2 := Lib.hid e2
  have EL := Lib.hid eL
  have EA := Lib.hid eA
  clear e1 e2 eL eA dp
  obtain ⟨V, eV⟩ : ∃ V : Int, w0 % 7 = V := ⟨_, rfl⟩
  have hV : 0 ≤ V ∧ V ≤ 6 := by omega
  have EV := Lib.hid eV
  clear eV
  have u1 := downTo_bd (A + L - 1) V hV.1 hV.2
  have u2 : downTo (A + L - 1) V + 7 = upTo (A + L) V := down_up _ _
  obtain ⟨R, eR⟩ : ∃ R : Int, downTo (A + L - 1) V = R := ⟨_, rfl⟩
  rw [eR] at u1 u2
  have r1 : downTo (Civ.days Y M (Civ.mlen Y M)) V = R := by rw [EL.out, DP.out, eR]
  have R1 := Lib.hid r1
  have c1 := Lib.hid (fun w => Of_last Y M V 0 w (dayB_mk _ _ _ (by omega)) hY.1 hY.2 hM.1 hM.2)
  have hroom : ¬ (Y = 2399 ∧ M = 12) → A + L + 27 ≤ 157053 := fun h => by
    have := month_room Y M hY.1 hY.2 hM.1 hM.2 h
    rw [EL.out, EA.out] at this
    exact this
  have haft : ¬ (Y = 2399 ∧ M = 12) → A + L = Civ.days (if M < 12 then Y else Y + 1) (if M < 12 then M + 1 else 1) 1 := fun h => by
    have := month_after Y M hY.1 hY.2 hM.1 hM.2 h
    rw [EL.out, EA.out] at this
    exact this
  have ff : (R + 7 == R + 7) = true := by simp
  have hR1 : -135140 ≤ R ∧ R ≤ 157053 := by omega
  have hR3 : R ≤ A + L - 1 := by omega
  clear r1 u1 eR
  have HR := Lib.hid hroom
  have HA := Lib.hid haft
  have U2 := Lib.hid u2
  clear hroom haft u2
  by_cases hm : M < 12
  · have hne : ¬ (Y = 2399 ∧ M = 12) := by omega
    have h1 := HR.out hne
    have h2 := HA.out hne
    rw [if_pos hm, if_pos hm] at h2
    have r2 : upTo (Civ.days Y (M + 1) 1) V = R + 7 := by rw [← h2, U2.out]
    have hb := Civ.mlen_bd Y (M + 1) (by omega) (by omega)
    have c2 := Lib.hid (fun w => Of_up Y (M + 1) V 1 w (dayB_mk _ _ _ (by omega)) hY.1 hY.2 (by omega) (by omega) (by omega) (by rw [r2]; omega))
    have R2 := Lib.hid r2
    have fm : (M == 12) = false := by simp; omega
    clear r2 h1 h2 hne
    by_cases hy : Y = 2399
    · obtain rfl := hy
      go_enter Try.func16, Try.ntmps16
      go_wp2_with fail
      refine (mondays_any _).mono ?_
      rintro e w1 ⟨rfl, h1⟩
      have b1 : Below w.heap.size w w1 := h1
      go_wp2_with fail
      refine (date_any _ _ _ _).mono ?_
      rintro e w2 ⟨rfl, h2⟩
      have b2 := b1.trans (h2.mono b1.size)
      rw [E1.out, E2.out]
      go_wp2_with fail
      refine (Rest_any _ _ _ (by omega) (by omega)).mono ?_
      rintro e w' ⟨rfl, rfl⟩
      rw [EV.out]
      go_wp2_with fail
      refine (c1.out _).mono ?_
      rintro e w3 ⟨rfl, h3⟩
      have b3 := b2.trans (h3.mono b2.size)
      rw [R1.out]
      go_wp2_with fail
      refine (c2.out _).mono ?_
      rintro e w4 ⟨rfl, h4⟩
      have b4 := b3.trans (h4.mono b3.size)
      rw [R2.out]
      go_wp2
      go_ret
      exact ⟨rfl, b4⟩
    · have fy : (Y == 2399) = false := by simpa using hy
      clear hy
      go_enter Try.func16, Try.ntmps16
      go_wp2_with fail
      refine (mondays_any _).mono ?_
      rintro e w1 ⟨rfl, h1⟩
      have b1 : Below w.heap.size w w1 := h1
      go_wp2_with fail
      refine (date_any _ _ _ _).mono ?_
      rintro e w2 ⟨rfl, h2⟩
      have b2 := b1.trans (h2.mono b1.size)
      rw [E1.out, E2.out]
      go_wp2_with fail
      refine (Rest_any _ _ _ (by omega) (by omega)).mono ?_
      rintro e w' ⟨rfl, rfl⟩
      rw [EV.out]
      go_wp2_with fail
      refine (c1.out _).mono ?_
      rintro e w3 ⟨rfl, h3⟩
      have b3 := b2.trans (h3.mono b2.size)
      rw [R1.out]
      go_wp2_with fail
      refine (c2.out _).mono ?_
      rintro e w4 ⟨rfl, h4⟩
      have b4 := b3.trans (h4.mono b3.size)
      rw [R2.out]
      go_wp2
      go_ret
      exact ⟨rfl, b4⟩
  · obtain rfl : M = 12 := by omega
    by_cases hy : Y = 2399
    · obtain rfl := hy
      go_enter Try.func16, Try.ntmps16
      go_wp2_with fail
      refine (mondays_any _).mono ?_
      rintro e w1 ⟨rfl, h1⟩
      have b1 : Below w.heap.size w w1 := h1
      go_wp2_with fail
      refine (date_any _ _ _ _).mono ?_
      rintro e w2 ⟨rfl, h2⟩
      have b2 := b1.trans (h2.mono b1.size)
      rw [E1.out, E2.out]
      go_wp2_with fail
      refine (Rest_any _ _ _ (by omega) (by omega)).mono ?_
      rintro e w' ⟨rfl, rfl⟩
      rw [EV.out]
      go_wp2
      go_ret
      exact ⟨rfl, b2⟩
    · have fy : (Y == 2399) = false := by simpa using hy
      have hne : ¬ (Y = 2399 ∧ (12 : Int) = 12) := by omega
      have h1 := HR.out hne
      have h2 := HA.out hne
      rw [if_neg hm, if_neg hm] at h2
      have r2 : upTo (Civ.days (Y + 1) 1 1) V = R + 7 := by rw [← h2, U2.out]
      have hb := Civ.mlen_bd (Y + 1) 1 (by omega) (by omega)
      have c2 := Lib.hid (fun w => Of_up (Y + 1) 1 V 1 w (dayB_mk _ _ _ (by omega)) (by omega) (by omega) (by omega) (by omega) (by omega) (by rw [r2]; omega))
      have R2 := Lib.hid r2
      clear r2 h1 h2 hne hy
      go_enter Try.func16, Try.ntmps16
      go_wp2_with fail
      refine (mondays_any _).mono ?_
      rintro e w1 ⟨rfl, h1⟩
      have b1 : Below w.heap.size w w1 := h1
      go_wp2_with fail
      refine (date_any _ _ _ _).mono ?_
      rintro e w2 ⟨rfl, h2⟩
      have b2 := b1.trans (h2.mono b1.size)
      rw [E1.out, E2.out]
      go_wp2_with fail
      refine (Rest_any _ _ _ (by omega) (by omega)).mono ?_
      rintro e w' ⟨rfl, rfl⟩
      rw [EV.out]
      go_wp2_with fail
      refine (c1.out _).mono ?_
      rintro e w3 ⟨rfl, h3⟩
      have b3 := b2.trans (h3.mono b2.size)
      rw [R1.out]
      go_wp2_with fail
      refine (c2.out _).mono ?_
      rintro e w4 ⟨rfl, h4⟩
      have b4 := b3.trans (h4.mono b3.size)
      rw [R2.out]
      go_wp2
      go_ret
      exact ⟨rfl, b4⟩

theorem keyInt : Keyed Try.prog 3 := int_keyed Try.underlying3

theorem ownsMap_below {H : Type} {P : Program} {k : TypeId} {R : Value → Option (DataW H × List MemPlace)} {b n : Nat} {D : DataW H} {w w' : World} (h : w.ownsMap P k R b n D) (hb : Below w.heap.size w w') : w'.ownsMap P k R b n D := by
  obtain ⟨es, clock, h1, r⟩ := h
  exact ⟨es, clock, (hb.block b (Array.getElem?_eq_some_iff.1 h1).1).trans h1, r⟩

theorem upTo_inj (F : Int) (i j : Nat) (hi : i < 7) (hj : j < 7) (h : upTo F i = upTo F j) : i = j := by unfold upTo at h; omega


set_option maxHeartbeats 2000000 in
theorem DayUnique_walk (y m n : Int) (w : World) :
    Calls Try.prog 14 #[.int .i64 y, .int .i64 m, .int .i64 n] w fun e w' => e = .returned (.bool true) ∧ Below w.heap.size w w' := by
  have hY := yD_bd y
  have hM := mD_bd m
  obtain ⟨Y, e1⟩ : ∃ Y : Int, yD y = Y := ⟨_, rfl⟩
  obtain ⟨M, e2⟩ : ∃ M : Int, mD m = M := ⟨_, rfl⟩
  rw [e1] at hY
  rw [e2] at hM
  have hml := Civ.mlen_bd Y M hM.1 hM.2
  obtain ⟨A, eA⟩ : ∃ A : Int, Civ.days Y M 1 = A := ⟨_, rfl⟩
  obtain ⟨L, eL⟩ : ∃ L : Int, Civ.mlen Y M = L := ⟨_, rfl⟩
  have bA := Civ.days_bd (show Civ.valid Y M 1 from ⟨hY.1, hY.2, hM.1, hM.2, by omega, by omega⟩)
  have bL := Civ.days_bd (show Civ.valid Y M (Civ.mlen Y M) from ⟨hY.1, hY.2, hM.1, hM.2, by omega, by omega⟩)
  rw [eA] at bA
  rw [days_plus, eA, eL] at bL
  rw [eL] at hml
  have dp : ∀ n, Civ.days Y M n = A + n - 1 := fun n => by rw [days_plus, eA]
  have DP := Lib.hid dp
  have E1 := Lib.hid e1
  have E2 := Lib.hid e2
  have EL := Lib.hid eL
  have EA := Lib.hid eA
  clear e1 e2 eL eA dp
  have hv := dateD_valid y m n
  obtain ⟨N, eN⟩ : ∃ N : Int, dD y m n = N := ⟨_, rfl⟩
  rw [E1.out, E2.out, eN] at hv
  have hN : 1 ≤ N ∧ N ≤ L := by have h1 := hv.2.2.2.2.1; have h2 := hv.2.2.2.2.2; rw [EL.out] at h2; omega
  have HV := Lib.hid hv
  have EN := Lib.hid eN
  clear eN hv
  have hroom : ¬ (Y = 2399 ∧ M = 12) → A + L + 27 ≤ 157053 := fun h => by
    have := month_room Y M hY.1 hY.2 hM.1 hM.2 h
    rw [EL.out, EA.out] at this
    exact this
  have HR := Lib.hid hroom
  clear hroom
  by_cases hlast : Y = 2399 ∧ M = 12
  · obtain ⟨rfl, rfl⟩ := hlast
    go_enter Try.func14, Try.ntmps14
    go_wp2_with fail
    refine (mondays_any _).mono ?_
    rintro e w1 ⟨rfl, h1⟩
    have b1 : Below w.heap.size w w1 := h1
    go_wp2_with fail
    refine (date_any _ _ _ _).mono ?_
    rintro e w2 ⟨rfl, h2⟩
    have b2 := b1.trans (h2.mono b1.size)
    rw [E1.out, E2.out, EN.out]
    go_wp2
    go_ret
    exact ⟨rfl, b2⟩
  · have hr := HR.out hlast
    have hF : Civ.days Y M N = A + N - 1 := DP.out N
    obtain ⟨F, eF⟩ : ∃ F : Int, A + N - 1 = F := ⟨_, rfl⟩
    rw [eF] at hF
    have bF : -135140 ≤ F ∧ F + 7 ≤ 157053 := by omega
    have HF := Lib.hid hF
    have c1 : Hid (∀ (k : Nat) (w : World), k < 7 → Calls Try.prog 27 #[.int .i64 Y, .int .i64 M, dayV 3 (k : Int) N] w fun e w' => e = .returned (.tuple #[.int .i64 (upTo F k), .int .i64 0]) ∧ Below w.heap.size w w') := fun k w hk => by
      have u1 := upTo_bd F (k : Int) (by omega) (by omega)
      have h := Of_up Y M (k : Int) N w (dayB_mk _ _ _ (by omega)) hY.1 hY.2 hM.1 hM.2 (by rw [EL.out]; omega) (by rw [HF.out]; omega)
      rw [HF.out] at h
      exact h
    have HL := Lib.hid hlast
    clear hF eF hr hlast
    have hmm := @run_makeMap Try.prog
    by_cases hy : Y = 2399
    · obtain rfl := hy
      have fm : (M == 12) = false := by have := HL.out; simp; omega
      go_enter Try.func14, Try.ntmps14
      go_wp2_with fail
      refine (mondays_any _).mono ?_
      rintro e w1 ⟨rfl, h1⟩
      have b1 : Below w.heap.size w w1 := h1
      go_wp2_with fail
      refine (date_any _ _ _ _).mono ?_
      rintro e w2 ⟨rfl, h2⟩
      have b2 := b1.trans (h2.mono b1.size)
      rw [E1.out, E2.out, EN.out]
      go_wp2_with fail
      refine (Days_ok _ _ _ _ HV.out).mono ?_
      rintro e w' ⟨rfl, rfl⟩
      rw [HF.out]
      go_wp2_with fail
      obtain ⟨B, hB⟩ : ∃ B : Nat, w2.heap.size = B := ⟨_, rfl⟩
      have hBw : w.heap.size ≤ B := by have := b2.size; omega
      have HB := Lib.hid hB
      rw [HB.out]
      go_loopw [39] (fun t wr => ∃ (k : Nat) (D : DataW Unit), k ≤ 7 ∧ t = .int .i64 k ∧ wr.ownsMap Try.prog 3 (plainElem Try.prog 4) B k D ∧ Maps.size D = k ∧ (∀ x : Int, (∀ j : Nat, j < k → x ≠ upTo F j) → Maps.has D (.int .i64 x) = false) ∧ Below w.heap.size w wr) (fun t _ => 7 - (intOf t).toNat)
      case atStart => exact ⟨0, .map [], by omega, rfl, by rw [← HB.out]; exact World.ownsMap_made _ _ _ _, rfl, fun _ _ => rfl, b2.alloc (by have := b2.size; omega) _⟩
      case round =>
        obtain ⟨k, D, hk, rfl, hown, hsz, hnew, hbel⟩ := hrel
        have HSZ := Lib.hid hsz
        have HN := Lib.hid hnew
        clear hsz hnew
        by_cases hlt : k < 7
        · have u1 := upTo_bd F (k : Int) (by omega) (by omega)
          have HU := Lib.hid u1.2.2
          have u2 := u1.1
          have u3 := u1.2.1
          clear u1
          go_wp2_with fail
          refine (c1.out k _ hlt).mono ?_
          rintro e w3 ⟨rfl, h3⟩
          have b3 := hbel.trans (h3.mono hbel.size)
          have hown3 := ownsMap_below hown h3
          obtain ⟨X, eX⟩ : ∃ X : Int, upTo F (k : Int) = X := ⟨_, rfl⟩
          rw [eX] at u2 u3 ⊢
          have EX := Lib.hid eX
          clear eX
          go_wp2_with (at_mapUpdate; refine wpList_mapUpdate_own _ rfl _ _ _ 41 rfl 3 4 keyInt Try.underlying41 _ B k _ rfl hown3 (by unfold maxLen; omega) _ _ _ rfl rfl (keyOf_int_mk Try.underlying3 (WalkArith.wf_i64 (by omega))) _ [] (plainElem_bool Try.underlying4 true) ?_; intro w4 hown4 hgrow4)
          have hnot : Maps.has D (.int .i64 X) = false := HN.out X (fun j hj h => by
            rw [← EX.out] at h
            exact absurd (upTo_inj F k j hlt (by omega) h) (by omega))
          go_roundw
          case rel =>
            refine ⟨k + 1, _, by omega, by go_num, hown4, ?_, ?_, b3.grown hgrow4 b3.size (fun j hj => by cases hj; exact hBw)⟩
            · rw [size_put (hown3.tidy keyInt), hnot, HSZ.out]; rfl
            · intro x hx
              rw [has_put_other (fun h => hx k (by omega) (by rw [EX.out]; injection h))]
              exact HN.out x (fun j hj => hx j (by omega))
          case measure => simp [intOf]; omega
        · obtain rfl : k = 7 := by omega
          go_wp2_with (at_len; refine wpList_len_own _ rfl _ 41 rfl 3 4 Try.underlying41 _ B 7 _ rfl hown ?_; rw [HSZ.out])
          go_ret
          exact ⟨rfl, hbel⟩
    · have fy : (Y == 2399) = false := by simpa using hy
      clear hy
      go_enter Try.func14, Try.ntmps14
      go_wp2_with fail
      refine (mondays_any _).mono ?_
      rintro e w1 ⟨rfl, h1⟩
      have b1 : Below w.heap.size w w1 := h1
      go_wp2_with fail
      refine (date_any _ _ _ _).mono ?_
      rintro e w2 ⟨rfl, h2⟩
      have b2 := b1.trans (h2.mono b1.size)
      rw [E1.out, E2.out, EN.out]
      go_wp2_with fail
      refine (Days_ok _ _ _ _ HV.out).mono ?_
      rintro e w' ⟨rfl, rfl⟩
      rw [HF.out]
      go_wp2_with fail
      obtain ⟨B, hB⟩ : ∃ B : Nat, w2.heap.size = B := ⟨_, rfl⟩
      have hBw : w.heap.size ≤ B := by have := b2.size; omega
      have HB := Lib.hid hB
      rw [HB.out]
      go_loopw [39] (fun t wr => ∃ (k : Nat) (D : DataW Unit), k ≤ 7 ∧ t = .int .i64 k ∧ wr.ownsMap Try.prog 3 (plainElem Try.prog 4) B k D ∧ Maps.size D = k ∧ (∀ x : Int, (∀ j : Nat, j < k → x ≠ upTo F j) → Maps.has D (.int .i64 x) = false) ∧ Below w.heap.size w wr) (fun t _ => 7 - (intOf t).toNat)
      case atStart => exact ⟨0, .map [], by omega, rfl, by rw [← HB.out]; exact World.ownsMap_made _ _ _ _, rfl, fun _ _ => rfl, b2.alloc (by have := b2.size; omega) _⟩
      case round =>
        obtain ⟨k, D, hk, rfl, hown, hsz, hnew, hbel⟩ := hrel
        have HSZ := Lib.hid hsz
        have HN := Lib.hid hnew
        clear hsz hnew
        by_cases hlt : k < 7
        · have u1 := upTo_bd F (k : Int) (by omega) (by omega)
          have HU := Lib.hid u1.2.2
          have u2 := u1.1
          have u3 := u1.2.1
          clear u1
          go_wp2_with fail
          refine (c1.out k _ hlt).mono ?_
          rintro e w3 ⟨rfl, h3⟩
          have b3 := hbel.trans (h3.mono hbel.size)
          have hown3 := ownsMap_below hown h3
          obtain ⟨X, eX⟩ : ∃ X : Int, upTo F (k : Int) = X := ⟨_, rfl⟩
          rw [eX] at u2 u3 ⊢
          have EX := Lib.hid eX
          clear eX
          go_wp2_with (at_mapUpdate; refine wpList_mapUpdate_own _ rfl _ _ _ 41 rfl 3 4 keyInt Try.underlying41 _ B k _ rfl hown3 (by unfold maxLen; omega) _ _ _ rfl rfl (keyOf_int_mk Try.underlying3 (WalkArith.wf_i64 (by omega))) _ [] (plainElem_bool Try.underlying4 true) ?_; intro w4 hown4 hgrow4)
          have hnot : Maps.has D (.int .i64 X) = false := HN.out X (fun j hj h => by
            rw [← EX.out] at h
            exact absurd (upTo_inj F k j hlt (by omega) h) (by omega))
          go_roundw
          case rel =>
            refine ⟨k + 1, _, by omega, by go_num, hown4, ?_, ?_, b3.grown hgrow4 b3.size (fun j hj => by cases hj; exact hBw)⟩
            · rw [size_put (hown3.tidy keyInt), hnot, HSZ.out]; rfl
            · intro x hx
              rw [has_put_other (fun h => hx k (by omega) (by rw [EX.out]; injection h))]
              exact HN.out x (fun j hj => hx j (by omega))
          case measure => simp [intOf]; omega
        · obtain rfl : k = 7 := by omega
          go_wp2_with (at_len; refine wpList_len_own _ rfl _ 41 rfl 3 4 Try.underlying41 _ B 7 _ rfl hown ?_; rw [HSZ.out])
          go_ret
          exact ⟨rfl, hbel⟩

end Go.Proofs.Ytdkjjaahmcjnmaa
