/- Numbers as digits, cuts and beginnings of texts: plain Lean. -/
import Derived.Test.YtlgdilpmdoofiaaDoorClkMath
import Derived.Lib.IndexMore
import Derived.Lib.Strings
namespace Go.Proofs.YtlgdilpmdoofiaaDoor
open Go
set_option linter.unusedVariables false

def isDg (c : UInt8) : Prop := 48 ≤ c.toNat ∧ c.toNat ≤ 57
theorem dg_of {k : Nat} (h : k < 10) : isDg (UInt8.ofNat (48 + k)) := by
  unfold isDg
  simp only [UInt8.toNat_ofNat']
  omega
theorem dec_dg (u : Nat) : ∀ c ∈ Lib.decDigits u, isDg c := by
  induction u using Nat.strongRecOn with
  | _ u ih =>
    intro c hc
    rw [Lib.decDigits] at hc
    split at hc
    · next h =>
      simp only [List.mem_singleton] at hc
      subst hc
      exact dg_of h
    · next h =>
      rcases List.mem_append.1 hc with hc | hc
      · exact ih (u / 10) (by omega) c hc
      · simp only [List.mem_singleton] at hc
        subst hc
        exact dg_of (by omega)
theorem dec_ne (u : Nat) : Lib.decDigits u ≠ [] := by
  intro h
  have := Lib.decDigits_length u
  rw [h] at this
  have := Lib.nDigits_pos u
  simp at *
  omega
/-- what digits say -/
def numV (l : List UInt8) : Nat := l.foldl (fun a c => 10 * a + (c.toNat - 48)) 0
theorem numV_snoc (l : List UInt8) (c : UInt8) : numV (l ++ [c]) = 10 * numV l + (c.toNat - 48) := by simp [numV]
theorem numV_dec (u : Nat) : numV (Lib.decDigits u) = u := by
  induction u using Nat.strongRecOn with
  | _ u ih =>
    rw [Lib.decDigits]
    split
    · next h =>
      simp only [numV, List.foldl_cons, List.foldl_nil, UInt8.toNat_ofNat']
      omega
    · next h =>
      rw [numV_snoc, ih (u / 10) (by omega)]
      simp only [UInt8.toNat_ofNat']
      omega
theorem dec_inj {u v : Nat} (h : Lib.decDigits u = Lib.decDigits v) : u = v := by rw [← numV_dec u, ← numV_dec v, h]
theorem itoa_nn {n : Int} (h : 0 ≤ n) : Lib.itoa n = Lib.decDigits n.toNat := by unfold Lib.itoa; rw [if_neg (by omega)]
theorem itoa_inj {a b : Int} (h0 : 0 ≤ a) (h1 : 0 ≤ b) (h : Lib.itoa a = Lib.itoa b) : a = b := by
  rw [itoa_nn h0, itoa_nn h1] at h
  have := dec_inj h
  omega
theorem itoa_dg {n : Int} (h : 0 ≤ n) : ∀ c ∈ Lib.itoa n, isDg c := by rw [itoa_nn h]; exact dec_dg _
theorem itoa_ne {n : Int} (h : 0 ≤ n) : Lib.itoa n ≠ [] := by rw [itoa_nn h]; exact dec_ne _
theorem T2_dg {n : Int} (h0 : 0 ≤ n) (h1 : n < 100) : ∀ c ∈ T2 n, isDg c := by
  intro c hc
  simp only [T2, List.mem_cons, List.not_mem_nil, or_false] at hc
  rcases hc with rfl | rfl
  · exact dg_of (by omega)
  · exact dg_of (by omega)

/-- the first place of a letter that stands behind a text without it -/
theorem index_sep (l r : List UInt8) (s : UInt8) (h : ∀ c ∈ l, c ≠ s) : Lib.index (l ++ s :: r) [s] = l.length := by
  refine Lib.index_first (by simp) ?_ ?_
  · unfold Lib.occAt
    rw [List.drop_append_of_le_length (Nat.le_refl _), List.drop_length]
    simp
  · intro j hj
    unfold Lib.occAt
    have hj' : j < (l ++ s :: r).length := by simp; omega
    rw [List.drop_eq_getElem_cons hj']
    have hne : (l ++ s :: r)[j] ≠ s := by
      rw [List.getElem_append_left hj]
      exact h _ (List.getElem_mem _)
    simp only [List.isPrefixOf_cons_cons, Bool.and_eq_false_iff]
    left
    simpa using fun e => hne e.symm
theorem cut_sep (l r : List UInt8) (s : UInt8) (h : ∀ c ∈ l, c ≠ s) : Lib.cut (l ++ s :: r) [s] = (l, r, true) := by
  unfold Lib.cut
  rw [index_sep l r s h, if_pos (by omega)]
  simp
theorem dg_ne {c : UInt8} (h : isDg c) (s : UInt8) (hs : s.toNat < 48 ∨ 57 < s.toNat) : c ≠ s := by
  rintro rfl
  unfold isDg at h
  omega

/-! ### spans -/
/-- behind the hours -/
def spanR (n : Int) : List UInt8 := T2 (n / 60 % 60) ++ (if n % 60 = 0 then [] else [58] ++ T2 (n % 60))
theorem spanP_eq (n : Int) : spanP n = Lib.itoa (n / 3600) ++ 58 :: spanR n := rfl
theorem spanR_hour (n : Int) : spanR (n + 3600) = spanR n := by
  unfold spanR
  rw [show (n + 3600) / 60 % 60 = n / 60 % 60 by omega, show (n + 3600) % 60 = n % 60 by omega]
theorem cut_span {n : Int} (h : 0 ≤ n) : Lib.cut (spanP n) [58] = (Lib.itoa (n / 3600), spanR n, true) := by
  rw [spanP_eq]
  exact cut_sep _ _ _ fun c hc => dg_ne (itoa_dg (by omega) c hc) 58 (by decide)
theorem span_hour_ne {n : Int} (h : 0 ≤ n) : spanP n ≠ spanP (n + 3600) := by
  intro e
  have := congrArg (fun l => (Lib.cut l [58]).1) e
  simp only [cut_span h, cut_span (show 0 ≤ n + 3600 by omega)] at this
  have := itoa_inj (by omega) (by omega) this
  omega
theorem span_plus {n : Int} (h : 0 ≤ n) : Lib.hasPrefix (spanP n) [45] = false := by
  rw [spanP_eq]
  obtain ⟨c, r, e⟩ : ∃ c r, Lib.itoa (n / 3600) = c :: r := List.exists_cons_of_ne_nil (itoa_ne (by omega))
  have hc := dg_ne (itoa_dg (show 0 ≤ n / 3600 by omega) c (by rw [e]; simp)) 45 (by decide)
  rw [e]
  simp only [Lib.hasPrefix, List.cons_append, List.isPrefixOf_cons_cons, Bool.and_eq_false_iff]
  left
  simpa using fun e => hc e.symm
end Go.Proofs.YtlgdilpmdoofiaaDoor
