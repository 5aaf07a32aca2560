/- day.Of: what it returns. -/
import Derived.Test.YtlgdilpmdoofiaaDoorDay1
import Derived.Test.YtlgdilpmdoofiaaDoorCiv3a
namespace Go.Proofs.YtlgdilpmdoofiaaDoor
open Go.RowKit
set_option linter.unusedVariables false
set_option linter.unusedSimpArgs false

theorem bcell {W w1 : World} (hb : Below W.heap.size W w1) : (∀ b o, b < W.heap.size → w1.cell? ⟨b, o, none⟩ = W.cell? ⟨b, o, none⟩) ∧ (∀ b o, b < W.heap.size → w1.frozen? ⟨b, o, none⟩ = W.frozen? ⟨b, o, none⟩) :=
  ⟨fun b o h => hb.cell (p := ⟨b, o, none⟩) h, fun b o h => hb.frozen (p := ⟨b, o, none⟩) h⟩

/-- where the search begins, and where it ends -/
def upTo (a wd : Int) : Int := a + (wd - (a + 4)) % 7
def downTo (a wd : Int) : Int := a - ((a + 4) - wd) % 7

theorem upTo_bd (a wd : Int) (h0 : 0 ≤ wd) (h6 : wd ≤ 6) : a ≤ upTo a wd ∧ upTo a wd ≤ a + 6 ∧ (upTo a wd + 4) % 7 = wd := by unfold upTo; omega
theorem downTo_bd (a wd : Int) (h0 : 0 ≤ wd) (h6 : wd ≤ 6) : downTo a wd ≤ a ∧ a - 6 ≤ downTo a wd ∧ (downTo a wd + 4) % 7 = wd := by unfold downTo; omega

set_option maxHeartbeats 1000000 in
theorem Of_up (y m wd n : Int) (w : World) (hd : dayB 3 wd n = true) (h1 : 1600 ≤ y) (h2 : y ≤ 2399) (h3 : 1 ≤ m) (h4 : m ≤ 12) (h5 : n ≤ Civ.mlen y m) (h6 : upTo (Civ.days y m n) wd ≤ 157053) :
    Calls Tryd.prog 19 #[.int .i64 y, .int .i64 m, dayV 3 wd n] w fun e w' => e = .returned (.tuple #[.int .i64 (upTo (Civ.days y m n) wd), .int .i64 0]) ∧ Below w.heap.size w w' := by
  have hd' := hd
  simp only [dayB, decide_eq_true_eq] at hd'
  have hw : 0 ≤ wd ∧ wd ≤ 6 ∧ 1 ≤ n := by omega
  clear hd'
  obtain ⟨hw0, hw6, hn1⟩ := hw
  have HD := Lib.hid hd
  clear hd
  have hml := Civ.mlen_bd y m h3 h4
  obtain ⟨L, eL⟩ : ∃ L : Int, Civ.mlen y m = L := ⟨_, rfl⟩
  have v1 := Lib.hid (show Civ.valid y m 1 from ⟨h1, h2, h3, h4, by omega, by omega⟩)
  have bd1 := Civ.days_bd v1.out
  have v2 := Lib.hid (show Civ.valid y m n from ⟨h1, h2, h3, h4, by omega, by omega⟩)
  have bd2 := Civ.days_bd v2.out
  have e1 : Civ.days y m n = Civ.days y m 1 + n - 1 := by unfold Civ.days; omega
  have hub := upTo_bd (Civ.days y m n) wd hw0 hw6
  obtain ⟨R, eR⟩ : ∃ R : Int, upTo (Civ.days y m n) wd = R := ⟨_, rfl⟩
  rw [eR] at h6 hub ⊢
  rw [e1] at bd2 hub
  obtain ⟨A, eA⟩ : ∃ A : Int, Civ.days y m 1 = A := ⟨_, rfl⟩
  rw [eA] at bd1 bd2 hub
  rw [eL] at h5 hml 
  have HL := Lib.hid eL
  have HA := Lib.hid eA
  have hR1 := hub.1
  have hR2 := hub.2.1
  have HR7 := Lib.hid hub.2.2
  clear eL eA eR e1 hub
  go_enter Tryd.func19, Tryd.ntmps19
  go_wp2_with fail
  refine (Check_ok _ _ _ _ HD.out).mono ?_
  rintro e w1 ⟨rfl, hb1⟩
  obtain ⟨hc, hf⟩ := bcell hb1
  go_wp2_with fail
  refine (Length_ok _ _ _ h1 h2 h3 h4).mono ?_
  rintro e w' ⟨rfl, rfl⟩
  rw [HL.out]
  go_wp2_with fail
  refine (Days_ok _ _ _ _ v1.out).mono ?_
  rintro e w' ⟨rfl, rfl⟩
  rw [HA.out]
  go_wp2_with fail
  go_loop [13] (fun t => ∃ a : Int, A + n - 1 ≤ a ∧ a ≤ R ∧ t = .int .i64 a) (fun t => (R - intOf t).toNat)
  case atStart => exact ⟨A + n - 1, by omega, by omega, rfl⟩
  case round =>
    obtain ⟨a, ha1, ha2, rfl⟩ := hrel
    by_cases hq : a = R
    · obtain rfl := hq
      have fw : ((a + 4) % 7 == wd) = true := by have := HR7.out; simpa using this
      go_wp2_with fail
      refine (Weekday_ok _ _ (by omega) (by omega)).mono ?_
      rintro e w' ⟨rfl, rfl⟩
      go_wp2
      go_ret2
      exact ⟨rfl, ((Below.refl _ _).alloc (Nat.le_refl _) _).trans (hb1.mono (by simp))⟩
    · have fw : ((a + 4) % 7 == wd) = false := by have := HR7.out; simp; omega
      go_wp2_with fail
      refine (Weekday_ok _ _ (by omega) (by omega)).mono ?_
      rintro e w' ⟨rfl, rfl⟩
      go_wp2
      go_round
      case rel => exact ⟨a + 1, by omega, by omega, rfl⟩
      case measure => simp [intOf]; omega

set_option maxHeartbeats 1000000 in
theorem Of_up_no (y m wd n : Int) (w : World) (hd : dayB 3 wd n = true) (h1 : 1600 ≤ y) (h2 : y ≤ 2399) (h3 : 1 ≤ m) (h4 : m ≤ 12) (h5 : n ≤ Civ.mlen y m) (h6 : 157053 < upTo (Civ.days y m n) wd) :
    Calls Tryd.prog 19 #[.int .i64 y, .int .i64 m, dayV 3 wd n] w fun e w' => e = .returned (.tuple #[.int .i64 (0), .int .i64 1]) ∧ Below w.heap.size w w' := by
  have hd' := hd
  simp only [dayB, decide_eq_true_eq] at hd'
  have hw : 0 ≤ wd ∧ wd ≤ 6 ∧ 1 ≤ n := by omega
  clear hd'
  obtain ⟨hw0, hw6, hn1⟩ := hw
  have HD := Lib.hid hd
  clear hd
  have hml := Civ.mlen_bd y m h3 h4
  obtain ⟨L, eL⟩ : ∃ L : Int, Civ.mlen y m = L := ⟨_, rfl⟩
  have v1 := Lib.hid (show Civ.valid y m 1 from ⟨h1, h2, h3, h4, by omega, by omega⟩)
  have bd1 := Civ.days_bd v1.out
  have v2 := Lib.hid (show Civ.valid y m n from ⟨h1, h2, h3, h4, by omega, by omega⟩)
  have bd2 := Civ.days_bd v2.out
  have e1 : Civ.days y m n = Civ.days y m 1 + n - 1 := by unfold Civ.days; omega
  have hub := upTo_bd (Civ.days y m n) wd hw0 hw6
  obtain ⟨R, eR⟩ : ∃ R : Int, upTo (Civ.days y m n) wd = R := ⟨_, rfl⟩
  rw [eR] at h6 hub
  rw [e1] at bd2 hub
  obtain ⟨A, eA⟩ : ∃ A : Int, Civ.days y m 1 = A := ⟨_, rfl⟩
  rw [eA] at bd1 bd2 hub
  rw [eL] at h5 hml 
  have HL := Lib.hid eL
  have HA := Lib.hid eA
  have hR1 := hub.1
  have hR2 := hub.2.1
  have HR7 := Lib.hid hub.2.2
  clear eL eA eR e1 hub
  go_enter Tryd.func19, Tryd.ntmps19
  go_wp2_with fail
  refine (Check_ok _ _ _ _ HD.out).mono ?_
  rintro e w1 ⟨rfl, hb1⟩
  obtain ⟨hc, hf⟩ := bcell hb1
  go_wp2_with fail
  refine (Length_ok _ _ _ h1 h2 h3 h4).mono ?_
  rintro e w' ⟨rfl, rfl⟩
  rw [HL.out]
  go_wp2_with fail
  refine (Days_ok _ _ _ _ v1.out).mono ?_
  rintro e w' ⟨rfl, rfl⟩
  rw [HA.out]
  go_wp2_with fail
  go_loop [13] (fun t => ∃ a : Int, A + n - 1 ≤ a ∧ a ≤ 157054 ∧ t = .int .i64 a) (fun t => (157054 - intOf t).toNat)
  case atStart => exact ⟨A + n - 1, by omega, by omega, rfl⟩
  case round =>
    obtain ⟨a, ha1, ha2, rfl⟩ := hrel
    by_cases hq : -135140 ≤ a ∧ a ≤ 157053
    · have fw : ((a + 4) % 7 == wd) = false := by have := HR7.out; simp; omega
      go_wp2_with fail
      refine (Weekday_ok _ _ (by omega) (by omega)).mono ?_
      rintro e w' ⟨rfl, rfl⟩
      go_wp2
      go_round
      case rel => exact ⟨a + 1, by omega, by omega, rfl⟩
      case measure => simp [intOf]; omega
    · go_wp2_with fail
      refine (Weekday_no _ _ (by omega)).mono ?_
      rintro e w' ⟨rfl, rfl⟩
      go_wp2
      go_ret2
      exact ⟨rfl, ((Below.refl _ _).alloc (Nat.le_refl _) _).trans (hb1.mono (by simp))⟩

set_option maxHeartbeats 1000000 in
theorem Of_down (y m wd n : Int) (w : World) (hd : dayB 4 wd n = true) (h1 : 1600 ≤ y) (h2 : y ≤ 2399) (h3 : 1 ≤ m) (h4 : m ≤ 12) (h5 : n ≤ Civ.mlen y m) (h6 : -135140 ≤ downTo (Civ.days y m n) wd) :
    Calls Tryd.prog 19 #[.int .i64 y, .int .i64 m, dayV 4 wd n] w fun e w' => e = .returned (.tuple #[.int .i64 (downTo (Civ.days y m n) wd), .int .i64 0]) ∧ Below w.heap.size w w' := by
  have hd' := hd
  simp only [dayB, decide_eq_true_eq] at hd'
  have hw : 0 ≤ wd ∧ wd ≤ 6 ∧ 1 ≤ n := by omega
  clear hd'
  obtain ⟨hw0, hw6, hn1⟩ := hw
  have HD := Lib.hid hd
  clear hd
  have hml := Civ.mlen_bd y m h3 h4
  obtain ⟨L, eL⟩ : ∃ L : Int, Civ.mlen y m = L := ⟨_, rfl⟩
  have v1 := Lib.hid (show Civ.valid y m 1 from ⟨h1, h2, h3, h4, by omega, by omega⟩)
  have bd1 := Civ.days_bd v1.out
  have v2 := Lib.hid (show Civ.valid y m n from ⟨h1, h2, h3, h4, by omega, by omega⟩)
  have bd2 := Civ.days_bd v2.out
  have e1 : Civ.days y m n = Civ.days y m 1 + n - 1 := by unfold Civ.days; omega
  have hub := downTo_bd (Civ.days y m n) wd hw0 hw6
  obtain ⟨R, eR⟩ : ∃ R : Int, downTo (Civ.days y m n) wd = R := ⟨_, rfl⟩
  rw [eR] at h6 hub ⊢
  rw [e1] at bd2 hub
  obtain ⟨A, eA⟩ : ∃ A : Int, Civ.days y m 1 = A := ⟨_, rfl⟩
  rw [eA] at bd1 bd2 hub
  rw [eL] at h5 hml 
  have HL := Lib.hid eL
  have HA := Lib.hid eA
  have hR1 := hub.1
  have hR2 := hub.2.1
  have HR7 := Lib.hid hub.2.2
  clear eL eA eR e1 hub
  go_enter Tryd.func19, Tryd.ntmps19
  go_wp2_with fail
  refine (Check_ok _ _ _ _ HD.out).mono ?_
  rintro e w1 ⟨rfl, hb1⟩
  obtain ⟨hc, hf⟩ := bcell hb1
  go_wp2_with fail
  refine (Length_ok _ _ _ h1 h2 h3 h4).mono ?_
  rintro e w' ⟨rfl, rfl⟩
  rw [HL.out]
  go_wp2_with fail
  refine (Days_ok _ _ _ _ v1.out).mono ?_
  rintro e w' ⟨rfl, rfl⟩
  rw [HA.out]
  go_wp2_with fail
  go_loop [13] (fun t => ∃ a : Int, R ≤ a ∧ a ≤ A + n - 1 ∧ t = .int .i64 a) (fun t => (intOf t - R).toNat)
  case atStart => exact ⟨A + n - 1, by omega, by omega, rfl⟩
  case round =>
    obtain ⟨a, ha1, ha2, rfl⟩ := hrel
    by_cases hq : a = R
    · obtain rfl := hq
      have fw : ((a + 4) % 7 == wd) = true := by have := HR7.out; simpa using this
      go_wp2_with fail
      refine (Weekday_ok _ _ (by omega) (by omega)).mono ?_
      rintro e w' ⟨rfl, rfl⟩
      go_wp2
      go_ret2
      exact ⟨rfl, ((Below.refl _ _).alloc (Nat.le_refl _) _).trans (hb1.mono (by simp))⟩
    · have fw : ((a + 4) % 7 == wd) = false := by have := HR7.out; simp; omega
      go_wp2_with fail
      refine (Weekday_ok _ _ (by omega) (by omega)).mono ?_
      rintro e w' ⟨rfl, rfl⟩
      go_wp2
      go_round
      case rel => exact ⟨a - 1, by omega, by omega, by go_num⟩
      case measure => simp [intOf]; omega

set_option maxHeartbeats 1000000 in
theorem Of_down_no (y m wd n : Int) (w : World) (hd : dayB 4 wd n = true) (h1 : 1600 ≤ y) (h2 : y ≤ 2399) (h3 : 1 ≤ m) (h4 : m ≤ 12) (h5 : n ≤ Civ.mlen y m) (h6 : downTo (Civ.days y m n) wd < -135140) :
    Calls Tryd.prog 19 #[.int .i64 y, .int .i64 m, dayV 4 wd n] w fun e w' => e = .returned (.tuple #[.int .i64 (0), .int .i64 1]) ∧ Below w.heap.size w w' := by
  have hd' := hd
  simp only [dayB, decide_eq_true_eq] at hd'
  have hw : 0 ≤ wd ∧ wd ≤ 6 ∧ 1 ≤ n := by omega
  clear hd'
  obtain ⟨hw0, hw6, hn1⟩ := hw
  have HD := Lib.hid hd
  clear hd
  have hml := Civ.mlen_bd y m h3 h4
  obtain ⟨L, eL⟩ : ∃ L : Int, Civ.mlen y m = L := ⟨_, rfl⟩
  have v1 := Lib.hid (show Civ.valid y m 1 from ⟨h1, h2, h3, h4, by omega, by omega⟩)
  have bd1 := Civ.days_bd v1.out
  have v2 := Lib.hid (show Civ.valid y m n from ⟨h1, h2, h3, h4, by omega, by omega⟩)
  have bd2 := Civ.days_bd v2.out
  have e1 : Civ.days y m n = Civ.days y m 1 + n - 1 := by unfold Civ.days; omega
  have hub := downTo_bd (Civ.days y m n) wd hw0 hw6
  obtain ⟨R, eR⟩ : ∃ R : Int, downTo (Civ.days y m n) wd = R := ⟨_, rfl⟩
  rw [eR] at h6 hub
  rw [e1] at bd2 hub
  obtain ⟨A, eA⟩ : ∃ A : Int, Civ.days y m 1 = A := ⟨_, rfl⟩
  rw [eA] at bd1 bd2 hub
  rw [eL] at h5 hml 
  have HL := Lib.hid eL
  have HA := Lib.hid eA
  have hR1 := hub.1
  have hR2 := hub.2.1
  have HR7 := Lib.hid hub.2.2
  clear eL eA eR e1 hub
  go_enter Tryd.func19, Tryd.ntmps19
  go_wp2_with fail
  refine (Check_ok _ _ _ _ HD.out).mono ?_
  rintro e w1 ⟨rfl, hb1⟩
  obtain ⟨hc, hf⟩ := bcell hb1
  go_wp2_with fail
  refine (Length_ok _ _ _ h1 h2 h3 h4).mono ?_
  rintro e w' ⟨rfl, rfl⟩
  rw [HL.out]
  go_wp2_with fail
  refine (Days_ok _ _ _ _ v1.out).mono ?_
  rintro e w' ⟨rfl, rfl⟩
  rw [HA.out]
  go_wp2_with fail
  go_loop [13] (fun t => ∃ a : Int, -135141 ≤ a ∧ a ≤ A + n - 1 ∧ t = .int .i64 a) (fun t => (intOf t + 135141).toNat)
  case atStart => exact ⟨A + n - 1, by omega, by omega, rfl⟩
  case round =>
    obtain ⟨a, ha1, ha2, rfl⟩ := hrel
    by_cases hq : -135140 ≤ a ∧ a ≤ 157053
    · have fw : ((a + 4) % 7 == wd) = false := by have := HR7.out; simp; omega
      go_wp2_with fail
      refine (Weekday_ok _ _ (by omega) (by omega)).mono ?_
      rintro e w' ⟨rfl, rfl⟩
      go_wp2
      go_round
      case rel => exact ⟨a - 1, by omega, by omega, by go_num⟩
      case measure => simp [intOf]; omega
    · go_wp2_with fail
      refine (Weekday_no _ _ (by omega)).mono ?_
      rintro e w' ⟨rfl, rfl⟩
      go_wp2
      go_ret2
      exact ⟨rfl, ((Below.refl _ _).alloc (Nat.le_refl _) _).trans (hb1.mono (by simp))⟩

set_option maxHeartbeats 1000000 in
theorem Of_last (y m wd n : Int) (w : World) (hd : dayB 2 wd n = true) (h1 : 1600 ≤ y) (h2 : y ≤ 2399) (h3 : 1 ≤ m) (h4 : m ≤ 12)  :
    Calls Tryd.prog 19 #[.int .i64 y, .int .i64 m, dayV 2 wd n] w fun e w' => e = .returned (.tuple #[.int .i64 (downTo (Civ.days y m (Civ.mlen y m)) wd), .int .i64 0]) ∧ Below w.heap.size w w' := by
  have hd' := hd
  simp only [dayB, decide_eq_true_eq] at hd'
  have hw : 0 ≤ wd ∧ wd ≤ 6 ∧ n = 0 := by omega
  clear hd'
  obtain ⟨hw0, hw6, rfl⟩ := hw
  have HD := Lib.hid hd
  clear hd
  have hml := Civ.mlen_bd y m h3 h4
  obtain ⟨L, eL⟩ : ∃ L : Int, Civ.mlen y m = L := ⟨_, rfl⟩
  have v1 := Lib.hid (show Civ.valid y m 1 from ⟨h1, h2, h3, h4, by omega, by omega⟩)
  have bd1 := Civ.days_bd v1.out
  have v2 := Lib.hid (show Civ.valid y m (Civ.mlen y m) from ⟨h1, h2, h3, h4, by omega, by omega⟩)
  have bd2 := Civ.days_bd v2.out
  have e1 : Civ.days y m (Civ.mlen y m) = Civ.days y m 1 + (Civ.mlen y m) - 1 := by unfold Civ.days; omega
  have hub := downTo_bd (Civ.days y m (Civ.mlen y m)) wd hw0 hw6
  obtain ⟨R, eR⟩ : ∃ R : Int, downTo (Civ.days y m (Civ.mlen y m)) wd = R := ⟨_, rfl⟩
  rw [eR] at hub ⊢
  rw [e1] at bd2 hub
  obtain ⟨A, eA⟩ : ∃ A : Int, Civ.days y m 1 = A := ⟨_, rfl⟩
  rw [eA] at bd1 bd2 hub
  rw [eL] at hml bd2 hub
  have HL := Lib.hid eL
  have HA := Lib.hid eA
  have hR1 := hub.1
  have hR2 := hub.2.1
  have HR7 := Lib.hid hub.2.2
  clear eL eA eR e1 hub
  go_enter Tryd.func19, Tryd.ntmps19
  go_wp2_with fail
  refine (Check_ok _ _ _ _ HD.out).mono ?_
  rintro e w1 ⟨rfl, hb1⟩
  obtain ⟨hc, hf⟩ := bcell hb1
  go_wp2_with fail
  refine (Length_ok _ _ _ h1 h2 h3 h4).mono ?_
  rintro e w' ⟨rfl, rfl⟩
  rw [HL.out]
  go_wp2_with fail
  refine (Days_ok _ _ _ _ v1.out).mono ?_
  rintro e w' ⟨rfl, rfl⟩
  rw [HA.out]
  go_wp2_with fail
  go_loop [13] (fun t => ∃ a : Int, R ≤ a ∧ a ≤ A + L - 1 ∧ t = .int .i64 a) (fun t => (intOf t - R).toNat)
  case atStart => exact ⟨A + L - 1, by omega, by omega, rfl⟩
  case round =>
    obtain ⟨a, ha1, ha2, rfl⟩ := hrel
    by_cases hq : a = R
    · obtain rfl := hq
      have fw : ((a + 4) % 7 == wd) = true := by have := HR7.out; simpa using this
      go_wp2_with fail
      refine (Weekday_ok _ _ (by omega) (by omega)).mono ?_
      rintro e w' ⟨rfl, rfl⟩
      go_wp2
      go_ret2
      exact ⟨rfl, ((Below.refl _ _).alloc (Nat.le_refl _) _).trans (hb1.mono (by simp))⟩
    · have fw : ((a + 4) % 7 == wd) = false := by have := HR7.out; simp; omega
      go_wp2_with fail
      refine (Weekday_ok _ _ (by omega) (by omega)).mono ?_
      rintro e w' ⟨rfl, rfl⟩
      go_wp2
      go_round
      case rel => exact ⟨a - 1, by omega, by omega, by go_num⟩
      case measure => simp [intOf]; omega

set_option maxHeartbeats 1000000 in
theorem Of_num (y m wd n : Int) (w : World) (hd : dayB 1 wd n = true) (h1 : 1600 ≤ y) (h2 : y ≤ 2399) (h3 : 1 ≤ m) (h4 : m ≤ 12) (h5 : n ≤ Civ.mlen y m) :
    Calls Tryd.prog 19 #[.int .i64 y, .int .i64 m, dayV 1 wd n] w fun e w' => e = .returned (.tuple #[.int .i64 (Civ.days y m n), .int .i64 0]) ∧ Below w.heap.size w w' := by
  have hd' := hd
  simp only [dayB, decide_eq_true_eq] at hd'
  have hw : wd = 0 ∧ 1 ≤ n := by omega
  clear hd'
  obtain ⟨rfl, hn1⟩ := hw
  have HD := Lib.hid hd
  clear hd
  have hml := Civ.mlen_bd y m h3 h4
  obtain ⟨L, eL⟩ : ∃ L : Int, Civ.mlen y m = L := ⟨_, rfl⟩
  have v1 := Lib.hid (show Civ.valid y m 1 from ⟨h1, h2, h3, h4, by omega, by omega⟩)
  have bd1 := Civ.days_bd v1.out
  have v2 := Lib.hid (show Civ.valid y m n from ⟨h1, h2, h3, h4, by omega, by omega⟩)
  have bd2 := Civ.days_bd v2.out
  have e1 : Civ.days y m n = Civ.days y m 1 + n - 1 := by unfold Civ.days; omega
  obtain ⟨A, eA⟩ : ∃ A : Int, Civ.days y m 1 = A := ⟨_, rfl⟩
  rw [e1] at bd2
  rw [e1, eA]
  rw [eA] at bd1 bd2
  rw [eL] at h5 hml
  have HL := Lib.hid eL
  have HA := Lib.hid eA
  clear eL eA e1
  go_enter Tryd.func19, Tryd.ntmps19
  go_wp2_with fail
  refine (Check_ok _ _ _ _ HD.out).mono ?_
  rintro e w1 ⟨rfl, hb1⟩
  obtain ⟨hc, hf⟩ := bcell hb1
  go_wp2_with fail
  refine (Length_ok _ _ _ h1 h2 h3 h4).mono ?_
  rintro e w' ⟨rfl, rfl⟩
  rw [HL.out]
  go_wp2_with fail
  refine (Days_ok _ _ _ _ v1.out).mono ?_
  rintro e w' ⟨rfl, rfl⟩
  rw [HA.out]
  go_wp2_with fail
  go_loop [13] (fun t => t = .int .i64 (A + n - 1)) (fun t => 0)
  case atStart => rfl
  case round =>
    obtain rfl := hrel
    go_wp2
    go_ret2
    exact ⟨rfl, ((Below.refl _ _).alloc (Nat.le_refl _) _).trans (hb1.mono (by simp))⟩

theorem Of_bad1 (y m k wd n : Int) (w : World) (hd : dayB k wd n = false) :
    Calls Tryd.prog 19 #[.int .i64 y, .int .i64 m, dayV k wd n] w fun e w' => e = .returned (.tuple #[.int .i64 0, .int .i64 1]) ∧ Below w.heap.size w w' := by
  have HD := Lib.hid hd
  clear hd
  go_enter Tryd.func19, Tryd.ntmps19
  go_wp2_with fail
  refine (Check_no _ _ _ _ HD.out).mono ?_
  rintro e w1 ⟨rfl, hb1⟩
  obtain ⟨hc, hf⟩ := bcell hb1
  go_wp2
  go_ret2
  exact ⟨rfl, ((Below.refl _ _).alloc (Nat.le_refl _) _).trans (hb1.mono (by simp))⟩

theorem Of_bad2 (y m k wd n : Int) (w : World) (hd : dayB k wd n = true) (hy : okYM y m = false) :
    Calls Tryd.prog 19 #[.int .i64 y, .int .i64 m, dayV k wd n] w fun e w' => e = .returned (.tuple #[.int .i64 0, .int .i64 1]) ∧ Below w.heap.size w w' := by
  have HD := Lib.hid hd
  clear hd
  have HY := Lib.hid hy
  clear hy
  go_enter Tryd.func19, Tryd.ntmps19
  go_wp2_with fail
  refine (Check_ok _ _ _ _ HD.out).mono ?_
  rintro e w1 ⟨rfl, hb1⟩
  obtain ⟨hc, hf⟩ := bcell hb1
  go_wp2_with fail
  refine (Length_no _ _ _ HY.out).mono ?_
  rintro e w' ⟨rfl, rfl⟩
  go_wp2
  go_ret2
  exact ⟨rfl, ((Below.refl _ _).alloc (Nat.le_refl _) _).trans (hb1.mono (by simp))⟩

theorem Of_bad3 (y m k wd n : Int) (w : World) (hd : dayB k wd n = true) (h1 : 1600 ≤ y) (h2 : y ≤ 2399) (h3 : 1 ≤ m) (h4 : m ≤ 12) (h5 : Civ.mlen y m < n) :
    Calls Tryd.prog 19 #[.int .i64 y, .int .i64 m, dayV k wd n] w fun e w' => e = .returned (.tuple #[.int .i64 0, .int .i64 6]) ∧ Below w.heap.size w w' := by
  have HD := Lib.hid hd
  clear hd
  obtain ⟨L, eL⟩ : ∃ L : Int, Civ.mlen y m = L := ⟨_, rfl⟩
  rw [eL] at h5
  have HL := Lib.hid eL
  clear eL
  go_enter Tryd.func19, Tryd.ntmps19
  go_wp2_with fail
  refine (Check_ok _ _ _ _ HD.out).mono ?_
  rintro e w1 ⟨rfl, hb1⟩
  obtain ⟨hc, hf⟩ := bcell hb1
  go_wp2_with fail
  refine (Length_ok _ _ _ h1 h2 h3 h4).mono ?_
  rintro e w' ⟨rfl, rfl⟩
  rw [HL.out]
  go_wp2
  go_ret2
  exact ⟨rfl, ((Below.refl _ _).alloc (Nat.le_refl _) _).trans (hb1.mono (by simp))⟩

end Go.Proofs.YtlgdilpmdoofiaaDoor
