/- clock.Floor: what it returns. -/
import Derived.Test.YtlgdilpmdoofiaaDoorClk00
import Derived.Test.YtlgdilpmdoofiaaDoorCiv3a
namespace Go.Proofs.YtlgdilpmdoofiaaDoor
open Go.RowKit Go.Joins
set_option linter.unusedVariables false
set_option linter.unusedSimpArgs false

theorem floor_div (n m : Int) (h0 : 0 < m) (h : n.tmod m < 0) : n.tdiv m - 1 = n / m := by
  have q := Int.tmod_eq_emod (a := n) (b := m)
  have e1 := Int.tdiv_mul_add_tmod n m
  have e2 := Int.ediv_mul_add_emod n m
  have h3 : (m.natAbs : Int) = m := by omega
  split at q
  · have := Int.emod_nonneg n (show m ≠ 0 by omega); omega
  · have e3 : (n.tdiv m - 1 - n / m) * m = 0 := by
      rw [Int.sub_mul, Int.sub_mul, Int.one_mul]; omega
    rcases Int.mul_eq_zero.1 e3 with h | h <;> omega
theorem floor_div' (n m : Int) (h0 : 0 < m) (h : 0 ≤ n.tmod m) : n.tdiv m = n / m := by
  have q := rest_pos n m h0 h
  have e1 := Int.tdiv_mul_add_tmod n m
  have e2 := Int.ediv_mul_add_emod n m
  have e3 : (n.tdiv m - n / m) * m = 0 := by
    rw [Int.sub_mul]; omega
  rcases Int.mul_eq_zero.1 e3 with h | h <;> omega

theorem tdiv_small (n m : Int) (h0 : 1 < m) (h1 : -9223372036854775808 ≤ n) (h2 : n ≤ 9223372036854775807) : -4611686018427387904 ≤ n.tdiv m ∧ n.tdiv m ≤ 4611686018427387904 := by
  have e1 := Int.natAbs_tdiv_le_natAbs n m
  have e2 := Int.tdiv_mul_add_tmod n m
  have e3 : n.natAbs / m.natAbs = (n.tdiv m).natAbs := (Int.natAbs_tdiv n m).symm
  have e4 : n.natAbs / m.natAbs ≤ n.natAbs / 2 := Nat.div_le_div_left (by omega) (by omega)
  omega

/-- clock.Floor -/
theorem Floor_any (n m : Int) (w : World) (h0 : 1 < m) (h1 : m ≤ 1099511627776) (hn1 : -9223372036854775808 ≤ n) (hn2 : n ≤ 9223372036854775807) :
    Calls Tryd.prog 47 #[.int .i64 n, .int .i64 m] w fun e w' => e = .returned (.tuple #[.int .i64 (n / m), .int .i64 (n % m)]) ∧ Below w.heap.size w w' := by
  have hh : m ≤ 4611686018427387904 := by omega
  have hz : (m == 0) = false := by simp; omega
  have hz2 : m ≠ 0 := by omega
  have hz3 : m ≠ -1 := by omega
  have ht := tdiv_small n m h0 hn1 hn2
  have e0 : wrap64 (n.tdiv m) = n.tdiv m := IntWalk.wrap64_in _ ⟨by omega, by omega⟩
  have e1 : wrap64 (n.tdiv m - 1) = n.tdiv m - 1 := IntWalk.wrap64_in _ ⟨by omega, by omega⟩
  go_enter Tryd.func47, Tryd.ntmps47
  go_wp2
  go_quiet (fail)
  go_wp2
  · go_ret2
    exact ⟨ret_2 (floor_div n m (by omega) (by assumption)) (rest_neg n m (by omega) hh (by assumption)), below_drewN' (Below.refl _ _) _⟩
  · go_ret2
    exact ⟨ret_2 (floor_div' n m (by omega) (by assumption)) (rest_pos n m (by omega) (by assumption)), below_drewN' (Below.refl _ _) _⟩

end Go.Proofs.YtlgdilpmdoofiaaDoor
