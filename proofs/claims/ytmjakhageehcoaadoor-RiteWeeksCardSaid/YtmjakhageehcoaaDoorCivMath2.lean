/- Plain mathematics of the calendar, more: no Go in sight. -/
import Derived.Test.YtmjakhageehcoaaDoorCivMath
set_option linter.unusedVariables false
namespace Civ

theorem next (n : Int) (h1 : -135140 ≤ n) (h2 : n < 157053) :
    (dd n < mlen (yy n) (mm n) → yy (n + 1) = yy n ∧ mm (n + 1) = mm n ∧ dd (n + 1) = dd n + 1) ∧
    (mlen (yy n) (mm n) ≤ dd n → mm n < 12 → yy (n + 1) = yy n ∧ mm (n + 1) = mm n + 1 ∧ dd (n + 1) = 1) ∧
    (mlen (yy n) (mm n) ≤ dd n → 12 ≤ mm n → yy n < 2399 ∧ yy (n + 1) = yy n + 1 ∧ mm (n + 1) = 1 ∧ dd (n + 1) = 1) := by
  obtain ⟨hv, hd⟩ := date_valid n h1 (by omega)
  obtain ⟨hv', hd'⟩ := date_valid (n + 1) (by omega) (by omega)
  obtain ⟨a1, a2, a3, a4, a5, a6⟩ := hv
  rw [days_eq _ _ _ a3 a4] at hd
  have key : ∀ Y M D, valid Y M D → jan1 Y + cum Y M + D - 1 = n + 1 → yy (n + 1) = Y ∧ mm (n + 1) = M ∧ dd (n + 1) = D := by
    intro Y M D hV hE
    have hV' := hV
    obtain ⟨b1, b2, b3, b4, b5, b6⟩ := hV
    refine days_inj hv' hV' ?_
    rw [hd', days_eq Y M D b3 b4, hE]
  refine ⟨fun h => ?_, fun h hm => ?_, fun h hm => ?_⟩
  · exact key _ _ _ ⟨a1, a2, a3, a4, by omega, by omega⟩ (by omega)
  · have hb := mlen_bd (yy n) (mm n + 1) (by omega) (by omega)
    refine key _ _ _ ⟨a1, a2, by omega, by omega, by omega, by omega⟩ ?_
    rw [cum_succ _ _ a3 a4]; omega
  · have e : mm n = 12 := by omega
    have h31 : mlen (yy n) 12 = 31 := by simp [mlen]
    have c12 : cum (yy n) 12 = lp (yy n) + 334 := by simp [cum]; omega
    rw [e] at h hd a6
    rw [h31] at h a6
    rw [c12] at hd
    have hlt : yy n < 2399 := by
      by_cases hq : yy n = 2399
      · rw [hq] at hd
        have : jan1 2399 = 156689 := by decide
        have : lp 2399 = 0 := by decide
        omega
      · omega
    refine ⟨hlt, key _ _ _ ⟨by omega, by omega, by omega, by omega, by omega, ?_⟩ ?_⟩
    · simp [mlen]
    · rw [jan1_succ]
      have : cum (yy n + 1) 1 = 0 := by simp [cum]
      omega

theorem date_last : yy 157053 = 2399 ∧ mm 157053 = 12 ∧ dd 157053 = 31 := by decide

theorem not_last (n : Int) (h1 : -135140 ≤ n) (h2 : n < 157053) : ¬ (yy n = 2399 ∧ mm n = 12 ∧ dd n = 31) := by
  intro h
  obtain ⟨hv, hd⟩ := date_valid n h1 (by omega)
  rw [h.1, h.2.1, h.2.2, last_eq] at hd
  omega

theorem days_jan1 (y : Int) : days y 1 1 = jan1 y := by
  rw [days_eq y 1 1 (by omega) (by omega)]; simp [cum]

theorem jan1_400 (y : Int) : jan1 (y + 400) = jan1 y + 146097 := by unfold jan1; omega

theorem mlen2 (y : Int) : mlen y 2 = 28 + lp y := rfl

theorem doomsday (y : Int) (k : Nat) (hk : k < 5) : days y (4 + 2 * k) (4 + 2 * k) = days y 2 (mlen y 2) + 35 + 63 * k := by
  have hl := lp01 y
  rw [days_eq y 2 _ (by omega) (by omega), days_eq y _ _ (by omega) (by omega)]
  have : k = 0 ∨ k = 1 ∨ k = 2 ∨ k = 3 ∨ k = 4 := by omega
  rcases this with rfl | rfl | rfl | rfl | rfl <;> simp [cum, mlen] <;> omega

/-- how many of the first k months of a year have a thirteenth that is a Friday -/
def fri (y : Int) : Nat → Int
  | 0 => 0
  | k + 1 => fri y k + if (days y ((k : Int) + 1) 13 + 4) % 7 = 5 then 1 else 0

theorem fri_bd (y : Int) (k : Nat) : 0 ≤ fri y k ∧ fri y k ≤ k := by
  induction k with
  | zero => simp [fri]
  | succ k ih => unfold fri; split <;> omega

theorem fri_year (y : Int) : 1 ≤ fri y 12 ∧ fri y 12 ≤ 3 := by
  have hl := lp01 y
  have e : ∀ k : Nat, k < 12 → days y ((k : Int) + 1) 13 = jan1 y + cum y ((k : Int) + 1) + 12 := by
    intro k hk; rw [days_eq y _ 13 (by omega) (by omega)]; omega
  have hj : ∃ j q : Int, jan1 y = 7 * q + j ∧ 0 ≤ j ∧ j ≤ 6 := ⟨jan1 y % 7, jan1 y / 7, by omega, by omega, by omega⟩
  obtain ⟨j, q, hj, h0, h6⟩ := hj
  simp only [fri, e 0 (by omega), e 1 (by omega), e 2 (by omega), e 3 (by omega), e 4 (by omega), e 5 (by omega), e 6 (by omega), e 7 (by omega), e 8 (by omega), e 9 (by omega), e 10 (by omega), e 11 (by omega), hj]
  have hl' : lp y = 0 ∨ lp y = 1 := by omega
  have hj' : j = 0 ∨ j = 1 ∨ j = 2 ∨ j = 3 ∨ j = 4 ∨ j = 5 ∨ j = 6 := by omega
  have hm : ∀ a : Int, (7 * q + a) % 7 = a % 7 := by intro a; omega
  rcases hl' with hl' | hl' <;> rcases hj' with rfl | rfl | rfl | rfl | rfl | rfl | rfl <;> simp [cum, hl', Int.add_assoc, hm]

theorem cum13 (y : Int) : cum y 13 = 337 + mlen y 2 := by simp [cum, mlen]; omega
theorem cum_range (y m : Int) (h1 : 1 ≤ m) (h2 : m ≤ 13) : 0 ≤ cum y m ∧ cum y m ≤ 366 := by
  have := lp01 y
  unfold cum; split
  · omega
  · split <;> omega
theorem days_first (y m : Int) (h1 : 1 ≤ m) (h2 : m ≤ 12) : days y m 1 = days y 1 1 + cum y m := by
  rw [days_jan1, days_eq y m 1 h1 h2]; omega

theorem ages (n : Int) : yy (n + 146097) = yy n + 400 ∧ mm (n + 146097) = mm n ∧ dd (n + 146097) = dd n := by
  have e1 : r1 (n + 146097) = r1 n := by unfold r1; omega
  have e0 : era (n + 146097) = era n + 1 := by unfold era; omega
  have e2 : k1 (n + 146097) = k1 n := by unfold k1; rw [e1]
  have e3 : r2 (n + 146097) = r2 n := by unfold r2; rw [e1, e2]
  have e4 : k2 (n + 146097) = k2 n := by unfold k2; rw [e3]
  have e5 : r3 (n + 146097) = r3 n := by unfold r3; rw [e3, e4]
  have e6 : k3 (n + 146097) = k3 n := by unfold k3; rw [e5]
  have e7 : r4 (n + 146097) = r4 n := by unfold r4; rw [e5, e6]
  have e8 : mon0 (n + 146097) = mon0 n := by unfold mon0; rw [e7]
  have e9 : yr0 (n + 146097) = yr0 n + 400 := by unfold yr0; rw [e0, e2, e4, e6]; omega
  refine ⟨?_, ?_, ?_⟩
  · unfold yy; rw [e8, e9]; split <;> omega
  · unfold mm; rw [e8]
  · unfold dd; rw [e7, e8]

end Civ
namespace Civ
theorem next_ex (n : Int) (h1 : -135140 ≤ n) (h2 : n < 157053) :
    ∃ y m d L a b c : Int, yy n = y ∧ mm n = m ∧ dd n = d ∧ mlen y m = L ∧ yy (n + 1) = a ∧ mm (n + 1) = b ∧ dd (n + 1) = c ∧
      1600 ≤ y ∧ y ≤ 2399 ∧ 1 ≤ m ∧ m ≤ 12 ∧ 1 ≤ d ∧ d ≤ 31 ∧ L ≤ 31 ∧
      (d < L ∧ y = a ∧ m = b ∧ d + 1 = c ∨ L ≤ d ∧ m < 12 ∧ y = a ∧ m + 1 = b ∧ 1 = c ∨ L ≤ d ∧ m = 12 ∧ y + 1 = a ∧ 1 = b ∧ 1 = c ∧ y < 2399) ∧
      (y ≠ 2399 ∨ y = 2399 ∧ m ≠ 12 ∨ y = 2399 ∧ m = 12 ∧ d ≠ 31) := by
  obtain ⟨n1, n2, n3⟩ := next n h1 h2
  have hl := not_last n h1 h2
  obtain ⟨a1, a2, a3, a4, a5, a6⟩ := (date_valid n h1 (by omega)).1
  have hb := mlen_bd (yy n) (mm n) a3 a4
  refine ⟨_, _, _, _, _, _, _, rfl, rfl, rfl, rfl, rfl, rfl, rfl, a1, a2, a3, a4, a5, by omega, hb.2, ?_, by omega⟩
  by_cases c1 : dd n < mlen (yy n) (mm n)
  · exact .inl ⟨c1, by have := n1 c1; omega⟩
  · by_cases c2 : mm n < 12
    · exact .inr (.inl ⟨by omega, c2, by have := n2 (by omega) c2; omega⟩)
    · obtain ⟨q1, q2, q3, q4⟩ := n3 (by omega) (by omega)
      exact .inr (.inr ⟨by omega, by omega, by omega, by omega, by omega, q1⟩)
end Civ
