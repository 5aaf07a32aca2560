/- rule: its text, split at spaces. -/
import Derived.Test.YtfocdcdggidboaaGreatDoorRuMath
import Derived.Test.YtfocdcdggidboaaGreatDoorDayRR
namespace Go.Proofs.YtfocdcdggidboaaGreatDoor
open Go.RowKit Go.Joins
open Classical
set_option linter.unusedVariables false
set_option linter.unusedSimpArgs false

theorem spanP_mem {n : Int} (h0 : 0 ≤ n) (h1 : n ≤ 604800) : ∀ c ∈ spanP n, isDg c ∨ c = 58 := by
  intro c hc
  unfold spanP at hc
  simp only [List.mem_append, List.mem_cons, List.not_mem_nil, or_false] at hc
  rcases hc with h | h | h | h
  · exact Or.inl (itoa_dg (by omega) c h)
  · exact Or.inr h
  · exact Or.inl (T2_dg (by omega) (by omega) c h)
  · split at h
    · cases h
    · simp only [List.mem_append, List.mem_cons, List.not_mem_nil, or_false] at h
      rcases h with h | h
      · exact Or.inr h
      · exact Or.inl (T2_dg (by omega) (by omega) c h)
theorem spanT_mem {n : Int} (h : inS n) : ∀ c ∈ spanT n, isDg c ∨ c = 58 ∨ c = 45 := by
  obtain ⟨h0, h1⟩ := h
  intro c hc
  unfold spanT at hc
  split at hc
  · simp only [List.mem_cons] at hc
    rcases hc with h | h
    · exact Or.inr (Or.inr h)
    · rcases spanP_mem (n := -n) (by omega) (by omega) c h with h | h
      · exact Or.inl h
      · exact Or.inr (Or.inl h)
  · rcases spanP_mem (n := n) (by omega) (by omega) c hc with h | h
    · exact Or.inl h
    · exact Or.inr (Or.inl h)
theorem spanT_ne32 {n : Int} (h : inS n) : ∀ c ∈ spanT n, c ≠ 32 := by
  intro c hc
  rcases spanT_mem h c hc with h | rfl | rfl
  · exact dg_ne h 32 (Or.inl (by decide))
  · decide
  · decide
theorem dayT_ne32 {k wd n : Int} (h : dayB k wd n = true) : ∀ c ∈ dayT k wd n, c ≠ 32 := by
  simp only [dayB, decide_eq_true_eq] at h
  have hl : ∀ c, isLt c → c ≠ 32 := fun c h => lt_ne h 32 (by decide)
  have hd : ∀ c, isDg c → c ≠ 32 := fun c h => dg_ne h 32 (Or.inl (by decide))
  intro c hc
  unfold dayT at hc
  rcases h with ⟨rfl, rfl, h1, h2⟩ | ⟨rfl, h1, h2, rfl⟩ | ⟨rfl | rfl, h1, h2, h3, h4⟩
  · rw [if_neg (by decide), if_neg (by decide), if_neg (by decide)] at hc
    exact hd c (itoa_dg (by omega) c hc)
  · rw [if_pos rfl] at hc
    rcases List.mem_append.1 hc with h | h
    · exact hl c (last_letters c h)
    · exact hl c (word_letters h1 h2 c h)
  · rw [if_neg (by decide), if_pos rfl] at hc
    rcases List.mem_append.1 hc with h | h
    · exact hl c (word_letters h1 h2 c h)
    · rcases List.mem_append.1 h with h | h
      · simp only [List.mem_cons, List.not_mem_nil, or_false] at h
        rcases h with rfl | rfl <;> decide
      · exact hd c (itoa_dg (by omega) c h)
  · rw [if_neg (by decide), if_neg (by decide), if_pos rfl] at hc
    rcases List.mem_append.1 hc with h | h
    · exact hl c (word_letters h1 h2 c h)
    · rcases List.mem_append.1 h with h | h
      · simp only [List.mem_cons, List.not_mem_nil, or_false] at h
        rcases h with rfl | rfl <;> decide
      · exact hd c (itoa_dg (by omega) c h)

/-- which clock, and the time without its sign -/
def ckOf (l : List UInt8) : Int := if l.getLast? = some 115 then 1 else if l.getLast? = some 117 then 2 else 0
def tmOf (l : List UInt8) : List UInt8 := if ckOf l = 0 then l else l.dropLast
theorem spanP_last {n : Int} (h0 : 0 ≤ n) : ∃ p c, spanP n = p ++ [c] ∧ isDg c := by
  by_cases hz : n % 60 = 0
  · refine ⟨Lib.itoa (n / 3600) ++ ([58] ++ [UInt8.ofNat (48 + (n / 60 % 60 / 10).toNat)]), UInt8.ofNat (48 + (n / 60 % 60 % 10).toNat), ?_, T2_dg (n := n / 60 % 60) (by omega) (by omega) _ (by simp [T2])⟩
    unfold spanP
    rw [if_pos hz]
    simp [T2]
  · refine ⟨Lib.itoa (n / 3600) ++ ([58] ++ (T2 (n / 60 % 60) ++ ([58] ++ [UInt8.ofNat (48 + (n % 60 / 10).toNat)]))), UInt8.ofNat (48 + (n % 60 % 10).toNat), ?_, T2_dg (n := n % 60) (by omega) (by omega) _ (by simp [T2])⟩
    unfold spanP
    rw [if_neg hz]
    simp [T2]
theorem spanT_last {n : Int} (h : inS n) : ∃ p c, spanT n = p ++ [c] ∧ isDg c := by
  obtain ⟨h0, h1⟩ := h
  unfold spanT
  split
  · obtain ⟨p, c, e, hc⟩ := spanP_last (n := -n) (by omega)
    exact ⟨45 :: p, c, by rw [e]; rfl, hc⟩
  · exact spanP_last (by omega)
theorem ck_of {n b : Int} (h : inS n) (h0 : 0 ≤ b) (h2 : b ≤ 2) : ckOf (spanT n ++ ckT b) = b ∧ tmOf (spanT n ++ ckT b) = spanT n ∧ spanT n ++ ckT b ≠ [] := by
  obtain ⟨p, c, e, hc⟩ := spanT_last h
  have hb : b = 0 ∨ b = 1 ∨ b = 2 := by omega
  rcases hb with rfl | rfl | rfl
  · have e0 : ckT 0 = [] := by decide
    have hk : ckOf (spanT n) = 0 := by
      unfold ckOf
      rw [e]
      simp only [List.getLast?_append, List.getLast?_singleton, Option.some_or]
      rw [if_neg (by intro h; injection h with h; subst h; unfold isDg at hc; exact absurd hc (by decide)), if_neg (by intro h; injection h with h; subst h; unfold isDg at hc; exact absurd hc (by decide))]
    rw [e0, List.append_nil]
    refine ⟨hk, by unfold tmOf; rw [if_pos hk], by rw [e]; simp⟩
  · have e1 : ckT 1 = [115] := by decide
    have hk : ckOf (spanT n ++ [115]) = 1 := by unfold ckOf; simp
    rw [e1]
    refine ⟨hk, by unfold tmOf; rw [hk, if_neg (by decide)]; simp, by simp⟩
  · have e2 : ckT 2 = [117] := by decide
    have hk : ckOf (spanT n ++ [117]) = 2 := by unfold ckOf; simp
    rw [e2]
    refine ⟨hk, by unfold tmOf; rw [hk, if_neg (by decide)]; simp, by simp⟩

theorem ruW_ne {r : Ru} (o : OkRu r) : ∀ x ∈ ruW r, ∀ c ∈ x, c ≠ 32 := by
  have hd : ∀ n : Int, 0 ≤ n → ∀ c ∈ Lib.itoa n, c ≠ 32 := fun n h c hc => dg_ne (itoa_dg h c hc) 32 (Or.inl (by decide))
  have f1 := o.f1; have t1 := o.t1; have m1 := o.m1; have s1 := o.s1; have s2 := o.s2
  intro x hx c hc
  simp only [ruW, List.mem_cons, List.not_mem_nil, or_false] at hx
  rcases hx with rfl | rfl | rfl | rfl | rfl | rfl | rfl | rfl | rfl
  · simp only [List.mem_cons, List.not_mem_nil, or_false] at hc
    rcases hc with rfl | rfl | rfl | rfl <;> decide
  · have := o.nm
    unfold nameB at this
    simp only [Bool.and_eq_true] at this
    exact sign_ne this.1 (by decide) c hc
  · exact hd _ (by omega) c hc
  · exact hd _ (by omega) c hc
  · exact hd _ (by omega) c hc
  · exact dayT_ne32 o.d c hc
  · rcases List.mem_append.1 hc with h | h
    · exact spanT_ne32 ⟨o.a1, o.a2⟩ c h
    · unfold ckT at h
      split at h
      · simp only [List.mem_singleton] at h; subst h; decide
      · split at h
        · simp only [List.mem_singleton] at h; subst h; decide
        · cases h
  · exact spanT_ne32 ⟨by omega, by omega⟩ c hc
  · rcases o.lt with h | h
    · rw [← ByteArray.toList_eq, h] at hc
      simp only [List.mem_singleton] at hc; subst hc; decide
    · exact sign_ne h (by decide) c hc
theorem ru_split {r : Ru} (o : OkRu r) : splitC 32 (ruText r) = ruW r := split_glue _ (by simp [ruW]) (ruW_ne o)
end Go.Proofs.YtfocdcdggidboaaGreatDoor
