/- rite: the plain mathematics of a summer of each year. -/
import Derived.Test.YtmjakhageehcoaaDoorDay2
import Derived.Test.YtmjakhageehcoaaDoorCivMath2
namespace Go.Proofs.YtmjakhageehcoaaDoor
set_option linter.unusedVariables false
set_option linter.unusedSimpArgs false

structure Rt where
  (m w d t : Int)
structure Px where
  (name : ByteArray)
  (off : Int)
  (also : ByteArray)
  (aoff : Int)
  (s e : Rt)

def okRt (r : Rt) : Bool := decide (1 ≤ r.m ∧ r.m ≤ 12 ∧ 1 ≤ r.w ∧ r.w ≤ 5 ∧ 0 ≤ r.d ∧ r.d ≤ 6 ∧ 0 ≤ r.t ∧ r.t ≤ 86400)
theorem okRt_iff {r : Rt} : okRt r = true ↔ 1 ≤ r.m ∧ r.m ≤ 12 ∧ 1 ≤ r.w ∧ r.w ≤ 5 ∧ 0 ≤ r.d ∧ r.d ≤ 6 ∧ 0 ≤ r.t ∧ r.t ≤ 86400 := by simp [okRt]
/-- a rite's day of a year -/
def rDay (y : Int) (r : Rt) : Int := if r.w = 5 then downTo (Civ.days y r.m (Civ.mlen y r.m)) r.d else upTo (Civ.days y r.m (7 * r.w - 6)) r.d

theorem days_lin (y m d : Int) : Civ.days y m d = Civ.days y m 1 + d - 1 := by unfold Civ.days; omega
theorem rDay_in (y : Int) (r : Rt) (h1 : 1600 ≤ y) (h2 : y ≤ 2399) (hr : okRt r = true) :
    ∃ d, Civ.valid y r.m d ∧ rDay y r = Civ.days y r.m d ∧ (rDay y r + 4) % 7 = r.d ∧ (r.w < 5 → (d + 6) / 7 = r.w) ∧ (r.w = 5 → Civ.mlen y r.m - 7 < d) := by
  obtain ⟨a1, a2, a3, a4, a5, a6, a7, a8⟩ := okRt_iff.1 hr
  have hml := Civ.mlen_bd y r.m a1 a2
  unfold rDay
  split
  · rename_i hw
    have hb := downTo_bd (Civ.days y r.m (Civ.mlen y r.m)) r.d a5 a6
    refine ⟨Civ.mlen y r.m - (Civ.days y r.m (Civ.mlen y r.m) - downTo (Civ.days y r.m (Civ.mlen y r.m)) r.d), ⟨h1, h2, a1, a2, by omega, by omega⟩, ?_, hb.2.2, fun h => by omega, fun _ => by omega⟩
    rw [days_lin y r.m (Civ.mlen y r.m - _)]
    have := days_lin y r.m (Civ.mlen y r.m)
    omega
  · rename_i hw
    have hb := upTo_bd (Civ.days y r.m (7 * r.w - 6)) r.d a5 a6
    refine ⟨7 * r.w - 6 + (upTo (Civ.days y r.m (7 * r.w - 6)) r.d - Civ.days y r.m (7 * r.w - 6)), ⟨h1, h2, a1, a2, by omega, by omega⟩, ?_, hb.2.2, fun _ => by omega, fun h => by omega⟩
    rw [days_lin y r.m (7 * r.w - 6 + _)]
    have := days_lin y r.m (7 * r.w - 6)
    omega

theorem lp_400 (y : Int) : Civ.lp (y + 400) = Civ.lp y := by
  unfold Civ.lp
  rw [show (y + 400) % 4 = y % 4 by omega, show (y + 400) % 100 = y % 100 by omega, show (y + 400) % 400 = y % 400 by omega]
theorem mlen_400 (y m : Int) : Civ.mlen (y + 400) m = Civ.mlen y m := by unfold Civ.mlen; rw [lp_400]
theorem days_400 (y m d : Int) : Civ.days (y + 400) m d = Civ.days y m d + 146097 := by
  unfold Civ.days Civ.ady
  split <;> omega
theorem rDay_400 (y : Int) (r : Rt) : rDay (y + 400) r = rDay y r + 146097 := by
  unfold rDay
  rw [mlen_400, days_400, days_400]
  unfold downTo upTo
  split <;> omega

/-- the year of a day -/
theorem yy_of (y n : Int) (h1 : 1600 ≤ y) (h2 : y ≤ 2399) (ha : Civ.jan1 y ≤ n) (hb : n < Civ.jan1 (y + 1)) : Civ.yy n = y := by
  have j1 := Civ.jan1_mono h1
  have j2 := Civ.jan1_mono (show y + 1 ≤ 2400 by omega)
  rw [Civ.jan1_1600] at j1
  rw [Civ.jan1_2400] at j2
  obtain ⟨hv, hd⟩ := Civ.date_valid n (by omega) (by omega)
  obtain ⟨v1, v2, v3, v4, v5, v6⟩ := hv
  have hcb := Civ.cum_bd (Civ.yy n) (Civ.mm n) (Civ.dd n) v3 v4 v5 v6
  have he := Civ.days_eq (Civ.yy n) (Civ.mm n) (Civ.dd n) v3 v4
  rw [hd] at he
  have hl := Civ.lp01 (Civ.yy n)
  rcases Int.lt_trichotomy (Civ.yy n) y with h | h | h
  · have := Civ.jan1_lt h
    omega
  · exact h
  · have := Civ.jan1_mono (show y + 1 ≤ Civ.yy n by omega)
    omega

theorem day_in_year (y m d : Int) (hv : Civ.valid y m d) (h1 : 2 ≤ m) (h2 : m ≤ 11) : Civ.jan1 y + 31 ≤ Civ.days y m d ∧ Civ.days y m d + 31 < Civ.jan1 (y + 1) + 1 := by
  obtain ⟨v1, v2, v3, v4, v5, v6⟩ := hv
  have he := Civ.days_eq y m d v3 v4
  have c1 := Civ.cum_mono y 1 m (by omega) (by omega) (by omega)
  have c2 := Civ.cum_mono y m 12 (by omega) (by omega) (by omega)
  have hs := Civ.jan1_succ y
  have hl := Civ.lp01 y
  have e1 : Civ.cum y 1 = 0 := by simp [Civ.cum]
  have e2 : Civ.mlen y 1 = 31 := by simp [Civ.mlen]
  have e3 := Civ.cum_succ y 12 (by omega) (by omega)
  have e4 : Civ.mlen y 12 = 31 := by simp [Civ.mlen]
  have e5 := Civ.cum13 y
  have e6 := Civ.mlen2 y
  rw [show (12 : Int) + 1 = 13 from rfl] at e3
  omega

/-- where the summer begins and ends, of a year -/
def tS (p : Px) (y : Int) : Int := 86400 * rDay y p.s + p.s.t - p.off
def tE (p : Px) (y : Int) : Int := 86400 * rDay y p.e + p.e.t - p.aoff
def isS (a b t : Int) : Bool := decide ((a < b ∧ a ≤ t ∧ t < b) ∨ (b ≤ a ∧ (a ≤ t ∨ t < b)))
/-- a summer that may be -/
structure OkPx (p : Px) : Prop where
  o1 : -64800 ≤ p.off
  o2 : p.off ≤ 64800
  a1 : p.off + 1 ≤ p.aoff
  a2 : p.aoff ≤ p.off + 10800
  s : okRt p.s = true
  e : okRt p.e = true
  ne : p.s.m ≠ p.e.m
def yOf (p : Px) (t : Int) : Int := Civ.yy ((t + p.off) / 86400)
def sumB (p : Px) (t : Int) : Bool := isS (tS p (yOf p t)) (tE p (yOf p t)) t
def okSt (t : Int) : Bool := decide (-135140 ≤ t / 86400 ∧ t / 86400 ≤ 157053)
theorem okSt_iff {t : Int} : okSt t = true ↔ -135140 ≤ t / 86400 ∧ t / 86400 ≤ 157053 := by simp [okSt]

theorem rDay_bd (y : Int) (r : Rt) (h1 : 1600 ≤ y) (h2 : y ≤ 2399) (hr : okRt r = true) : -135140 ≤ rDay y r ∧ rDay y r ≤ 157053 := by
  obtain ⟨d, hv, e, -⟩ := rDay_in y r h1 h2 hr
  rw [e]; exact Civ.days_bd hv

theorem near (p : Px) (ok : OkPx p) (y x : Int) (h1 : 1600 ≤ y) (h2 : y ≤ 2399) (ha : 86400 * (Civ.jan1 y + 1) ≤ x + p.off) (hb : x + p.off < 86400 * (Civ.jan1 (y + 1) - 1)) :
    yOf p x = y ∧ okSt x = true ∧ okSt (x + p.off) = true := by
  have j1 := Civ.jan1_mono h1
  have j2 := Civ.jan1_mono (show y + 1 ≤ 2400 by omega)
  rw [Civ.jan1_1600] at j1
  rw [Civ.jan1_2400] at j2
  have := ok.o1; have := ok.o2
  exact ⟨yy_of y _ h1 h2 (by omega) (by omega), okSt_iff.2 (by omega), okSt_iff.2 (by omega)⟩

/-- RiteTurned -/
theorem turned_law (p : Px) (ok : OkPx p) (y : Int) (h1 : 1601 ≤ y) (h2 : y ≤ 2397) (m1 : 2 ≤ p.s.m) (m2 : p.s.m ≤ 11) (m3 : 2 ≤ p.e.m) (m4 : p.e.m ≤ 11)
    (hd : ¬ (tE p y - tS p y < p.aoff - p.off ∧ -(p.aoff - p.off) < tE p y - tS p y)) :
    ∀ x, x = tS p y - 1 ∨ x = tS p y ∨ x = tE p y - 1 ∨ x = tE p y →
      okSt x = true ∧ okSt (x + p.off) = true ∧ sumB p x = decide (x = tS p y ∨ x = tE p y - 1) := by
  intro x hx
  obtain ⟨d, hv, e, -⟩ := rDay_in y p.s (by omega) (by omega) ok.s
  obtain ⟨d', hv', e', -⟩ := rDay_in y p.e (by omega) (by omega) ok.e
  have k1 := day_in_year y _ d hv m1 m2
  have k2 := day_in_year y _ d' hv' m3 m4
  rw [← e] at k1
  rw [← e'] at k2
  have q1 := okRt_iff.1 ok.s
  have q2 := okRt_iff.1 ok.e
  have := ok.a1; have := ok.a2
  have eS : tS p y = 86400 * rDay y p.s + p.s.t - p.off := rfl
  have eE : tE p y = 86400 * rDay y p.e + p.e.t - p.aoff := rfl
  obtain ⟨hy, g1, g2⟩ := near p ok y x (by omega) (by omega) (by omega) (by omega)
  refine ⟨g1, g2, ?_⟩
  unfold sumB
  rw [hy]
  unfold isS
  rw [decide_eq_decide]
  omega

/-- RiteSwapped -/
theorem swapped_law (p q : Px) (ok : OkPx p) (hq : q = ⟨p.name, p.off, p.also, p.aoff, p.e, p.s⟩) (y t : Int) (h1 : 1605 ≤ y) (h2 : y ≤ 2394)
    (ht1 : 86400 * Civ.days y 1 10 ≤ t) (ht2 : t < 86400 * Civ.days y 12 20)
    (n1 : ¬ (tS p y - 90000 < t ∧ t < tS p y + 90000)) (n2 : ¬ (tE p y - 90000 < t ∧ t < tE p y + 90000))
    (n3 : ¬ (tS p y - tE p y < 90000 ∧ -90000 < tS p y - tE p y)) :
    okSt t = true ∧ okSt (t + p.off) = true ∧ okSt (t + q.off) = true ∧ sumB p t = !sumB q t := by
  have e1 := Civ.days_eq y 1 10 (by omega) (by omega)
  have e2 := Civ.days_eq y 12 20 (by omega) (by omega)
  have c1 : Civ.cum y 1 = 0 := by simp [Civ.cum]
  have c2 := Civ.cum_succ y 12 (by omega) (by omega)
  have e4 : Civ.mlen y 12 = 31 := by simp [Civ.mlen]
  have e5 := Civ.cum13 y
  have e6 := Civ.mlen2 y
  have hs := Civ.jan1_succ y
  rw [show (12 : Int) + 1 = 13 from rfl] at c2
  have := ok.o1; have := ok.o2; have := ok.a1; have := ok.a2
  obtain ⟨hy, g1, g2⟩ := near p ok y t (by omega) (by omega) (by omega) (by omega)
  have hyq : yOf q t = y := by subst hq; exact hy
  have hoq : q.off = p.off := by subst hq; rfl
  refine ⟨g1, g2, by rw [hoq]; exact g2, ?_⟩
  unfold sumB
  rw [hy, hyq]
  have eS : tS p y = 86400 * rDay y p.s + p.s.t - p.off := rfl
  have eE : tE p y = 86400 * rDay y p.e + p.e.t - p.aoff := rfl
  have fS : tS q y = 86400 * rDay y p.e + p.e.t - p.off := by subst hq; rfl
  have fE : tE q y = 86400 * rDay y p.s + p.s.t - p.aoff := by subst hq; rfl
  unfold isS
  rw [← decide_not, decide_eq_decide]
  omega

/-- RiteAges -/
theorem ages_law (p : Px) (t : Int) : sumB p (t + 86400 * 146097) = sumB p t := by
  unfold sumB
  have hy : yOf p (t + 86400 * 146097) = yOf p t + 400 := by
    unfold yOf
    rw [show (t + 86400 * 146097 + p.off) / 86400 = (t + p.off) / 86400 + 146097 by omega, (Civ.ages _).1]
  rw [hy]
  have e1 : tS p (yOf p t + 400) = tS p (yOf p t) + 86400 * 146097 := by unfold tS; rw [rDay_400]; omega
  have e2 : tE p (yOf p t + 400) = tE p (yOf p t) + 86400 * 146097 := by unfold tE; rw [rDay_400]; omega
  rw [e1, e2]
  unfold isS
  rw [decide_eq_decide]
  omega
end Go.Proofs.YtmjakhageehcoaaDoor
