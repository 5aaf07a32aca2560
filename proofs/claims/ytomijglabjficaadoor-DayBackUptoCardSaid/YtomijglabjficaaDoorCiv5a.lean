/- Dates and days that a law draws, and the closed fact 'dated': what each returns. -/
import Derived.Test.YtomijglabjficaaDoorCiv4
namespace Go.Proofs.YtomijglabjficaaDoor
open Go.RowKit
set_option linter.unusedVariables false
set_option linter.unusedSimpArgs false

def yD (y : Int) : Int := y % 800 + 1600
def mD (m : Int) : Int := m % 12 + 1
def dD (y m d : Int) : Int := d % Civ.mlen (yD y) (mD m) + 1

theorem yD_bd (y : Int) : 1600 ≤ yD y ∧ yD y ≤ 2399 := by unfold yD; omega
theorem mD_bd (m : Int) : 1 ≤ mD m ∧ mD m ≤ 12 := by unfold mD; omega
theorem dateD_valid (y m d : Int) : Civ.valid (yD y) (mD m) (dD y m d) := by
  have h1 := yD_bd y
  have h2 := mD_bd m
  have h3 := Civ.mlen_bd (yD y) (mD m) h2.1 h2.2
  have h4 := Int.emod_nonneg d (show Civ.mlen (yD y) (mD m) ≠ 0 by omega)
  have h5 := Int.emod_lt_of_pos d (show 0 < Civ.mlen (yD y) (mD m) by omega)
  exact ⟨h1.1, h1.2, h2.1, h2.2, by unfold dD; omega, by unfold dD; omega⟩

theorem tup3 {a b c a' b' c' : Int} (h1 : a = a') (h2 : b = b') (h3 : c = c') :
    Ending.returned (.tuple #[.int .i64 a, .int .i64 b, .int .i64 c]) = .returned (.tuple #[.int .i64 a', .int .i64 b', .int .i64 c']) := by rw [h1, h2, h3]

theorem date_any (y m d : Int) (w : World) :
    Calls Tryd.prog 17 #[.int .i64 y, .int .i64 m, .int .i64 d] w fun e w' => e = .returned (.tuple #[.int .i64 (yD y), .int .i64 (mD m), .int .i64 (dD y m d)]) ∧ Below w.heap.size w w' := by
  have h1 := yD_bd y
  have h2 := mD_bd m
  have h3 := Civ.mlen_bd (yD y) (mD m) h2.1 h2.2
  have hy : Hid (y % 800 + 1600 = yD y) := rfl
  have hm : Hid (m % 12 + 1 = mD m) := rfl
  have hd1 := Int.emod_nonneg d (show Civ.mlen (yD y) (mD m) ≠ 0 by omega)
  have hd2 := Int.emod_lt_of_pos d (show 0 < Civ.mlen (yD y) (mD m) by omega)
  go_enter Tryd.func17, Tryd.ntmps17
  go_wp2_with fail
  refine (Rest_any _ _ _ (by omega) (by omega)).mono ?_
  rintro e w' ⟨rfl, rfl⟩
  go_wp2_with fail
  refine (Rest_any _ _ _ (by omega) (by omega)).mono ?_
  rintro e w' ⟨rfl, rfl⟩
  go_wp2_with fail
  rw [hy.out, hm.out]
  refine (rLength_ok _ _ _ h1.1 h1.2 h2.1 h2.2).mono ?_
  rintro e w1 ⟨rfl, hb1⟩
  go_wp2_with fail
  refine (Rest_any _ _ _ (by omega) (by omega)).mono ?_
  rintro e w' ⟨rfl, rfl⟩
  go_wp2
  go_ret3
  exact ⟨tup3 rfl rfl rfl, hb1⟩

theorem RDays_jan1 (y : Int) (w : World) (h0 : 1600 ≤ y) (h1 : y ≤ 2399) :
    Calls Tryd.prog 27 #[.int .i64 y, .int .i64 1, .int .i64 1] w fun e w' => e = .returned (.tuple #[.int .i64 (Civ.jan1 y), .int .i64 0]) ∧ Below w.heap.size w w' := by
  have hb := jan1_bd y (by omega) (by omega)
  have hm : Hid (Civ.mlen y 1 = 31) := by show Civ.mlen y 1 = 31; simp [Civ.mlen]
  go_enter Tryd.func27, Tryd.ntmps27
  go_wp2_with fail
  refine (rLength_ok _ _ _ (by omega) (by omega) (by omega) (by omega)).mono ?_
  rintro e w1 ⟨rfl, hb1⟩
  rw [hm.out]
  go_wp2_with (first | (go_at_call 46; refine (outside_any _ _ _ _).mono ?_; rintro e w' ⟨rfl, rfl⟩) | (go_at_call 47; refine (yearDay_any _ _ (by omega) (by omega)).mono ?_; rintro e w' ⟨rfl, rfl⟩))
  go_loop [10, 11] (fun n k => k = .int .i64 1 ∧ n = .int .i64 (Civ.jan1 y)) (fun _ k => 0)
  case atStart => exact ⟨rfl, by go_num⟩
  case round =>
    obtain ⟨rfl, rfl⟩ := hrel
    go_wp2
    go_ret2
    exact ⟨rfl, hb1⟩
end Go.Proofs.YtomijglabjficaaDoor
