/- timeballref.Rest. -/
import Derived.Test.YthggojpdcgcmaaaDoorQ01
namespace Go.Proofs.YthggojpdcgcmaaaDoor
open Go.RowKit
set_option linter.unusedVariables false
set_option linter.unusedSimpArgs false

theorem rest0_neg (n m : Int) (h0 : 0 < m) (h1 : m ≤ 4611686018427387904) (h : n.tmod m < 0) : wrap64 (n.tmod m + m) = n % m := by
  have q := Int.tmod_eq_emod (a := n) (b := m)
  have := Int.emod_nonneg n (show m ≠ 0 by omega)
  have := Int.emod_lt_of_pos n h0
  have e : n.tmod m + m = n % m := by
    split at q
    · omega
    · have : (m.natAbs : Int) = m := by omega
      omega
  rw [e]
  exact IntWalk.wrap64_in _ ⟨by omega, by omega⟩

theorem rest0_pos (n m : Int) (h0 : 0 < m) (h : 0 ≤ n.tmod m) : n.tmod m = n % m := by
  have q := Int.tmod_eq_emod (a := n) (b := m)
  have := Int.emod_lt_of_pos n h0
  split at q
  · omega
  · have : (m.natAbs : Int) = m := by omega
    omega
theorem ret_int0 {k : IntKind} {a b : Int} (h : a = b) : Ending.returned (.int k a) = .returned (.int k b) := by rw [h]
theorem Rest0_any (n m : Int) (w : World) (h0 : 0 < m) (h1 : m ≤ 1099511627776) :
    Calls Tryd.prog 9 #[.int .i64 n, .int .i64 m] w fun e w' => e = .returned (.int .i64 (n % m)) ∧ w = w' := by
  have hh : m ≤ 4611686018427387904 := by omega
  go_enter Tryd.func9, Tryd.ntmps9
  go_wp2
  · go_ret
    exact ⟨ret_int0 (rest0_neg n m h0 hh (by assumption)), rfl⟩
  · go_ret
    exact ⟨ret_int0 (rest0_pos n m h0 (by assumption)), rfl⟩
end Go.Proofs.YthggojpdcgcmaaaDoor
