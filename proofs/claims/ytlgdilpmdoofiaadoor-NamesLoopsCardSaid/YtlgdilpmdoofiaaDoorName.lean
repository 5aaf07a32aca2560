/- rule.IsName: what it returns. -/
import Derived.Test.YtlgdilpmdoofiaaDoorRule1
import Derived.Lib.Hide
import Derived.Lib.SmallJoins
namespace Go.Proofs.YtlgdilpmdoofiaaDoor
open Go.RowKit Go.Joins
open Classical
set_option linter.unusedVariables false
set_option linter.unusedSimpArgs false

def nameB (s : ByteArray) : Bool := allB s 20 ⟨#[95, 47, 45]⟩ && decide (∃ c, s.data.toList[0]? = some c ∧ letterB c.toNat = true)
theorem isName_any (s : ByteArray) (w : World) (hs : s.size ≤ maxLen) :
    Calls Tryd.prog 27 #[.string s] w fun e w' => e = .returned (.bool (nameB s)) ∧ w = w' := by
  obtain ⟨A, eA⟩ : ∃ A, allB s 20 ⟨#[95, 47, 45]⟩ = A := ⟨_, rfl⟩
  have HA := Lib.hid eA
  cases A with
  | false =>
    have HN : Hid (nameB s = false) := by show _ = _; unfold nameB; rw [eA]; simp
    clear eA
    go_enter Tryd.func27, Tryd.ntmps27
    go_wp2_with fail
    refine (all_any _ _ _ _ hs).mono ?_
    rw [HA.out]
    rintro e w' ⟨rfl, rfl⟩
    go_wp2
    go_ret
    exact ⟨ret_bool' HN.out.symm, rfl⟩
  | true =>
    have h0 : 0 < s.size := by
      unfold allB at eA
      simp only [Bool.and_eq_true, Bool.not_eq_true', decide_eq_true_eq] at eA
      have h2 := eA.1.2
      rcases Nat.eq_zero_or_pos s.size with h | h
      · have : s.data.toList = [] := List.eq_nil_of_length_eq_zero (by simpa using h)
        rw [this] at h2; simp at h2
      · exact h
    obtain ⟨c, ec⟩ : ∃ c, s[0] = c := ⟨_, rfl⟩
    have HN : Hid (nameB s = letterB c.toNat) := by
      show _ = _
      unfold nameB
      rw [eA, Bool.true_and]
      have hc : s.data.toList[0]? = some c := by
        rw [List.getElem?_eq_getElem (by simpa using h0)]
        exact congrArg some ec
      rw [hc]
      cases hl : letterB c.toNat
      · exact decide_eq_false (by rintro ⟨d, hd, h⟩; injection hd with hd; subst hd; rw [hl] at h; cases h)
      · exact decide_eq_true ⟨c, rfl, hl⟩
    clear eA
    go_enter Tryd.func27, Tryd.ntmps27
    go_wp2_with fail
    refine (all_any _ _ _ _ hs).mono ?_
    rw [HA.out]
    rintro e w' ⟨rfl, rfl⟩
    go_wp2_with fail
    refine (isLetter_any _ _).mono ?_
    rintro e w' ⟨rfl, rfl⟩
    go_wp2
    go_ret
    exact ⟨ret_bool' (by rw [HN.out, ← ec]), rfl⟩

end Go.Proofs.YtlgdilpmdoofiaaDoor
