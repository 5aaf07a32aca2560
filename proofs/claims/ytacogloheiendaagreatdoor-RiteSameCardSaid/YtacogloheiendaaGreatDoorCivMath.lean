/- Plain mathematics of the calendar: no Go in sight. -/
set_option linter.unusedVariables false
namespace Civ

def lp (y : Int) : Int := if (y % 4 = 0 ∧ y % 100 ≠ 0) ∨ y % 400 = 0 then 1 else 0

def mlen (y m : Int) : Int := if m = 2 then 28 + lp y else 30 + (m + m / 8) % 2

def ady (y m : Int) : Int := if m - 3 < 0 then y - 1 else y
def adm (m : Int) : Int := if m - 3 < 0 then m - 3 + 12 else m - 3

def days (y m d : Int) : Int :=
  365 * ady y m + ady y m / 4 - ady y m / 100 + ady y m / 400 + (153 * adm m + 2) / 5 + d - 719469

theorem lp01 (y : Int) : 0 ≤ lp y ∧ lp y ≤ 1 := by unfold lp; split <;> omega
theorem mlen_bd (y m : Int) (h1 : 1 ≤ m) (h2 : m ≤ 12) : 28 ≤ mlen y m ∧ mlen y m ≤ 31 := by
  have := lp01 y
  unfold mlen; split <;> omega

def valid (y m d : Int) : Prop := 1600 ≤ y ∧ y ≤ 2399 ∧ 1 ≤ m ∧ m ≤ 12 ∧ 1 ≤ d ∧ d ≤ mlen y m

theorem m_cases {m : Int} (h1 : 1 ≤ m) (h2 : m ≤ 12) : m = 1 ∨ m = 2 ∨ m = 3 ∨ m = 4 ∨ m = 5 ∨ m = 6 ∨ m = 7 ∨ m = 8 ∨ m = 9 ∨ m = 10 ∨ m = 11 ∨ m = 12 := by omega

/-- the first day of a year, by itself -/
def jan1 (y : Int) : Int := 365 * (y - 1) + (y - 1) / 4 - (y - 1) / 100 + (y - 1) / 400 + 306 + 1 - 719469

/-- days of the months ahead -/
def cum (y m : Int) : Int :=
  if m ≤ 1 then 0 else if m ≤ 2 then 31 else lp y + (153 * (m - 3) + 2) / 5 + 59

theorem days_eq (y m d : Int) (h1 : 1 ≤ m) (h2 : m ≤ 12) : days y m d = jan1 y + cum y m + d - 1 := by
  rcases m_cases h1 h2 with rfl | rfl | rfl | rfl | rfl | rfl | rfl | rfl | rfl | rfl | rfl | rfl <;>
    simp [days, jan1, cum, ady, adm, lp] <;> (try split) <;> omega

theorem jan1_succ (y : Int) : jan1 (y + 1) = jan1 y + 365 + lp y := by
  unfold jan1 lp; split <;> omega

theorem cum_succ (y m : Int) (h1 : 1 ≤ m) (h2 : m ≤ 12) : cum y (m + 1) = cum y m + mlen y m := by
  rcases m_cases h1 h2 with rfl | rfl | rfl | rfl | rfl | rfl | rfl | rfl | rfl | rfl | rfl | rfl <;>
    simp [cum, mlen, lp] <;> (try split) <;> omega

theorem cum_bd (y m d : Int) (h1 : 1 ≤ m) (h2 : m ≤ 12) (hd1 : 1 ≤ d) (hd2 : d ≤ mlen y m) :
    0 ≤ cum y m + d - 1 ∧ cum y m + d - 1 < 365 + lp y := by
  have := lp01 y
  rcases m_cases h1 h2 with rfl | rfl | rfl | rfl | rfl | rfl | rfl | rfl | rfl | rfl | rfl | rfl <;>
    simp [cum, mlen] at * <;> omega

theorem jan1_mono {a b : Int} (h : a ≤ b) : jan1 a ≤ jan1 b := by unfold jan1; omega

theorem jan1_lt {a b : Int} (h : a < b) : jan1 a + 365 + lp a ≤ jan1 b := by
  rw [← jan1_succ]; exact jan1_mono (by omega)

/-- the order of dates -/
def less (y m d a b c : Int) : Prop := y < a ∨ y = a ∧ (m < b ∨ m = b ∧ d < c)

theorem cum_mono (y m b : Int) (h1 : 1 ≤ m) (hb : b ≤ 12) (h : m < b) : cum y m + mlen y m ≤ cum y b := by
  have hh := lp01 y
  rw [← cum_succ y m h1 (by omega)]
  unfold cum
  split <;> split <;> (try split) <;> (try split) <;> omega

theorem days_lt {y m d a b c : Int} (hv : valid y m d) (hw : valid a b c) (h : less y m d a b c) : days y m d < days a b c := by
  obtain ⟨v1, v2, v3, v4, v5, v6⟩ := hv
  obtain ⟨w1, w2, w3, w4, w5, w6⟩ := hw
  rw [days_eq y m d v3 v4, days_eq a b c w3 w4]
  rcases h with h | ⟨rfl, h | ⟨rfl, h⟩⟩
  · have := cum_bd y m d v3 v4 v5 v6
    have := cum_bd a b c w3 w4 w5 w6
    have := jan1_lt h
    omega
  · have := cum_mono y m b v3 w4 h
    omega
  · omega

theorem less_tri (y m d a b c : Int) : less y m d a b c ∨ less a b c y m d ∨ (y = a ∧ m = b ∧ d = c) := by
  unfold less; omega

theorem days_lt_iff {y m d a b c : Int} (hv : valid y m d) (hw : valid a b c) : days y m d < days a b c ↔ less y m d a b c := by
  constructor
  · intro h
    rcases less_tri y m d a b c with h1 | h1 | ⟨rfl, rfl, rfl⟩
    · exact h1
    · have := days_lt hw hv h1; omega
    · omega
  · exact days_lt hv hw

theorem days_inj {y m d a b c : Int} (hv : valid y m d) (hw : valid a b c) (h : days y m d = days a b c) : y = a ∧ m = b ∧ d = c := by
  rcases less_tri y m d a b c with h1 | h1 | h1
  · have := days_lt hv hw h1; omega
  · have := days_lt hw hv h1; omega
  · exact h1

/-- the code's way from a day to its date, step by step -/
def era (n : Int) : Int := (n + 719468) / 146097
def r1 (n : Int) : Int := (n + 719468) % 146097
def k1 (n : Int) : Int := min (r1 n / 36524) 3
def r2 (n : Int) : Int := r1 n - 36524 * k1 n
def k2 (n : Int) : Int := r2 n / 1461
def r3 (n : Int) : Int := r2 n - 1461 * k2 n
def k3 (n : Int) : Int := min (r3 n / 365) 3
def r4 (n : Int) : Int := r3 n - 365 * k3 n
def yr0 (n : Int) : Int := era n * 400 + 100 * k1 n + 4 * k2 n + k3 n
def mon0 (n : Int) : Int := (5 * r4 n + 2) / 153
def dd (n : Int) : Int := r4 n - (153 * mon0 n + 2) / 5 + 1
def mm (n : Int) : Int := if 12 < mon0 n + 3 then mon0 n + 3 - 12 else mon0 n + 3
def yy (n : Int) : Int := if 12 < mon0 n + 3 then yr0 n + 1 else yr0 n

def first : Int := -135140
def last : Int := 157053

theorem first_eq : days 1600 1 1 = -135140 := by decide
theorem last_eq : days 2399 12 31 = 157053 := by decide

theorem steps (n : Int) (h1 : -135140 ≤ n) (h2 : n ≤ 157053) :
    1 ≤ era n ∧ era n ≤ 5 ∧ 0 ≤ k1 n ∧ k1 n ≤ 3 ∧ 0 ≤ k2 n ∧ k2 n ≤ 24 ∧ 0 ≤ k3 n ∧ k3 n ≤ 3 ∧ 0 ≤ r4 n ∧ r4 n ≤ 365 ∧
    n + 719468 = 146097 * era n + 36524 * k1 n + 1461 * k2 n + 365 * k3 n + r4 n ∧
    (r4 n = 365 → k3 n = 3 ∧ (k2 n = 24 → k1 n = 3)) := by
  have a1 : 0 ≤ r1 n ∧ r1 n < 146097 ∧ n + 719468 = 146097 * era n + r1 n := by unfold r1 era; omega
  have a2 : 0 ≤ k1 n ∧ k1 n ≤ 3 ∧ 0 ≤ r2 n ∧ r2 n ≤ 36524 ∧ r1 n = 36524 * k1 n + r2 n ∧ (r2 n = 36524 → k1 n = 3) := by
    unfold r2 k1; omega
  have a3 : 0 ≤ k2 n ∧ k2 n ≤ 24 ∧ 0 ≤ r3 n ∧ r3 n < 1461 ∧ r2 n = 1461 * k2 n + r3 n := by
    unfold r3 k2; omega
  have a4 : 0 ≤ k3 n ∧ k3 n ≤ 3 ∧ 0 ≤ r4 n ∧ r4 n ≤ 365 ∧ r3 n = 365 * k3 n + r4 n ∧ (r4 n = 365 → k3 n = 3) := by
    unfold r4 k3; omega
  omega

theorem date_valid (n : Int) (h1 : -135140 ≤ n) (h2 : n ≤ 157053) :
    valid (yy n) (mm n) (dd n) ∧ days (yy n) (mm n) (dd n) = n := by
  obtain ⟨e1, e2, a1, a2, b1, b2, c1, c2, d1, d2, hn, h365⟩ := steps n h1 h2
  have y4 : yr0 n / 4 = 100 * era n + 25 * k1 n + k2 n := by unfold yr0; omega
  have y100 : yr0 n / 100 = 4 * era n + k1 n := by unfold yr0; omega
  have y400 : yr0 n / 400 = era n := by unfold yr0; omega
  have hy : yr0 n = era n * 400 + 100 * k1 n + 4 * k2 n + k3 n := rfl
  have hm : mon0 n = (5 * r4 n + 2) / 153 := rfl
  have hd : dd n = r4 n - (153 * mon0 n + 2) / 5 + 1 := rfl
  have hm1 : 0 ≤ mon0 n ∧ mon0 n ≤ 11 := by omega
  have hlp : r4 n = 365 → lp (yr0 n + 1) = 1 := by
    intro h
    obtain ⟨hk3, hk⟩ := h365 h
    unfold lp
    rw [if_pos]
    by_cases hk2 : k2 n = 24
    · right; have := hk hk2; omega
    · left; omega
  have hl01 := lp01 (yr0 n + 1)
  have hdays : ∀ Y M D, ady Y M = yr0 n → adm M = mon0 n → D = dd n → days Y M D = n := by
    intro Y M D q1 q2 q3
    unfold days
    rw [q1, q2, y4, y100, y400, q3, hd]
    omega
  by_cases hc : 12 < mon0 n + 3
  · have e1 : mm n = mon0 n + 3 - 12 := if_pos hc
    have e2 : yy n = yr0 n + 1 := if_pos hc
    refine ⟨⟨?_, ?_, ?_, ?_, ?_, ?_⟩, ?_⟩
    · rw [e2]; omega
    · rw [e2]; omega
    · rw [e1]; omega
    · rw [e1]; omega
    · omega
    · rw [e1, e2]
      have : mon0 n = 10 ∨ mon0 n = 11 := by omega
      rcases this with q | q
      · rw [q] at hd hm ⊢
        simp [mlen]; omega
      · rw [q] at hd hm ⊢
        simp [mlen]; omega
    · refine hdays _ _ _ ?_ ?_ rfl
      · unfold ady; rw [if_pos (by omega)]; omega
      · unfold adm; rw [if_pos (by omega)]; omega
  · have e1 : mm n = mon0 n + 3 := if_neg hc
    have e2 : yy n = yr0 n := if_neg hc
    refine ⟨⟨?_, ?_, ?_, ?_, ?_, ?_⟩, ?_⟩
    · rw [e2]; omega
    · rw [e2]; omega
    · rw [e1]; omega
    · rw [e1]; omega
    · omega
    · rw [e1, e2]
      have : mon0 n = 0 ∨ mon0 n = 1 ∨ mon0 n = 2 ∨ mon0 n = 3 ∨ mon0 n = 4 ∨ mon0 n = 5 ∨ mon0 n = 6 ∨ mon0 n = 7 ∨ mon0 n = 8 ∨ mon0 n = 9 := by omega
      rcases this with q | q | q | q | q | q | q | q | q | q <;>
        (rw [q] at hd hm ⊢; simp [mlen]; omega)
    · refine hdays _ _ _ ?_ ?_ rfl
      · unfold ady; rw [if_neg (by omega)]; omega
      · unfold adm; rw [if_neg (by omega)]; omega

theorem date_days {y m d : Int} (hv : valid y m d) (hb : -135140 ≤ days y m d ∧ days y m d ≤ 157053) :
    yy (days y m d) = y ∧ mm (days y m d) = m ∧ dd (days y m d) = d := by
  obtain ⟨h1, h2⟩ := date_valid (days y m d) hb.1 hb.2
  exact days_inj h1 hv h2

theorem jan1_1600 : jan1 1600 = -135140 := by decide
theorem jan1_2400 : jan1 2400 = 157054 := by decide

theorem days_bd {y m d : Int} (hv : valid y m d) : -135140 ≤ days y m d ∧ days y m d ≤ 157053 := by
  obtain ⟨v1, v2, v3, v4, v5, v6⟩ := hv
  rw [days_eq y m d v3 v4]
  have := cum_bd y m d v3 v4 v5 v6
  have h1 := jan1_mono v1
  have h2 := jan1_mono (show y + 1 ≤ 2400 by omega)
  have := jan1_succ y
  rw [jan1_1600] at h1
  rw [jan1_2400] at h2
  omega

end Civ
