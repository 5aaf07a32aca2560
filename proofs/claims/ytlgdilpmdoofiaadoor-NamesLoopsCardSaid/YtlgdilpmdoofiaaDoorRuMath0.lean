/- rule: what Check returns: the plain mathematics. -/
import Derived.Test.YtlgdilpmdoofiaaDoorName
import Derived.Test.YtlgdilpmdoofiaaDoorDay1
namespace Go.Proofs.YtlgdilpmdoofiaaDoor
open Go.RowKit Go.Joins
open Classical
set_option linter.unusedVariables false
set_option linter.unusedSimpArgs false

structure Ru where
  (nm : ByteArray)
  (yf yt mo dk dw dn tm ck sv : Int)
  (lt : ByteArray)

def ruChk (r : Ru) : Int :=
  if nameB r.nm = false then 3 else
  if r.lt.toList ≠ [45] ∧ abbrB r.lt = false then 3 else
  if ¬ (1900 ≤ r.yf ∧ r.yf ≤ 2100) then 1 else
  if ¬ (r.yf ≤ r.yt ∧ r.yt ≤ 2100) then 1 else
  if ¬ (1 ≤ r.mo ∧ r.mo ≤ 12) then 1 else
  if dayB r.dk r.dw r.dn = false then 1 else
  if Civ.mlen 1901 r.mo < r.dn then 1 else
  if ¬ (-604800 ≤ r.tm ∧ r.tm ≤ 604800) then 1 else
  if ¬ (0 ≤ r.ck ∧ r.ck ≤ 2) then 1 else
  if ¬ (0 ≤ r.sv ∧ r.sv ≤ 10800) then 1 else 0

structure OkRu (r : Ru) : Prop where
  nm : nameB r.nm = true
  lt : r.lt.toList = [45] ∨ abbrB r.lt = true
  f1 : 1900 ≤ r.yf
  f2 : r.yf ≤ 2100
  t1 : r.yf ≤ r.yt
  t2 : r.yt ≤ 2100
  m1 : 1 ≤ r.mo
  m2 : r.mo ≤ 12
  d : dayB r.dk r.dw r.dn = true
  n : r.dn ≤ Civ.mlen 1901 r.mo
  a1 : -604800 ≤ r.tm
  a2 : r.tm ≤ 604800
  c1 : 0 ≤ r.ck
  c2 : r.ck ≤ 2
  s1 : 0 ≤ r.sv
  s2 : r.sv ≤ 10800
theorem ru_ok {r : Ru} (h : ruChk r = 0) : OkRu r := by
  unfold ruChk at h
  split at h
  · omega
  rename_i h1
  split at h
  · omega
  rename_i h2
  split at h
  · omega
  rename_i h3
  split at h
  · omega
  rename_i h4
  split at h
  · omega
  rename_i h5
  split at h
  · omega
  rename_i h6
  split at h
  · omega
  rename_i h7
  split at h
  · omega
  rename_i h8
  split at h
  · omega
  rename_i h9
  split at h
  · omega
  rename_i h10
  refine ⟨by simpa using h1, ?_, by omega, by omega, by omega, by omega, by omega, by omega, by simpa using h6, by omega, by omega, by omega, by omega, by omega, by omega, by omega⟩
  by_cases hl : r.lt.toList = [45]
  · exact Or.inl hl
  · right
    cases ha : abbrB r.lt
    · exact absurd ⟨hl, ha⟩ h2
    · rfl
theorem ok_ru {r : Ru} (o : OkRu r) : ruChk r = 0 := by
  unfold ruChk
  rw [if_neg (by rw [o.nm]; simp), if_neg (fun h => by
    rcases o.lt with h1 | h1
    · exact h.1 h1
    · rw [h1] at h; exact absurd h.2 (by simp)), if_neg (fun h => h ⟨o.f1, o.f2⟩), if_neg (fun h => h ⟨o.t1, o.t2⟩), if_neg (fun h => h ⟨o.m1, o.m2⟩), if_neg (by rw [o.d]; simp), if_neg (by have := o.n; omega), if_neg (fun h => h ⟨o.a1, o.a2⟩), if_neg (fun h => h ⟨o.c1, o.c2⟩), if_neg (fun h => h ⟨o.s1, o.s2⟩)]

/-- RuleYears -/
theorem years_law (r : Ru) (o : OkRu r) (a b : Int) (ha : r.yf ≤ a ∧ a ≤ r.yt) (hb : r.yf ≤ b ∧ b ≤ r.yt) : ruChk { r with yf := min a b, yt := max a b } = 0 := by
  have h1 := o.f1; have h2 := o.f2; have h3 := o.t1; have h4 := o.t2
  refine ok_ru ⟨o.nm, o.lt, ?_, ?_, ?_, ?_, o.m1, o.m2, o.d, o.n, o.a1, o.a2, o.c1, o.c2, o.s1, o.s2⟩ <;> simp only <;> omega

end Go.Proofs.YtlgdilpmdoofiaaDoor
