/- A text cut at each instance of a letter: plain Lean. -/
import Derived.Test.YtfocdcdggidboaaGreatDoorTxtMath
import Derived.Lib.Split
import Derived.Lib.SplitLaws
namespace Go.Proofs.YtfocdcdggidboaaGreatDoor
open Go
set_option linter.unusedVariables false

def consHd (x : UInt8) : List (List UInt8) → List (List UInt8)
  | [] => [[x]]
  | h :: t => (x :: h) :: t
def splitC (c : UInt8) : List UInt8 → List (List UInt8)
  | [] => [[]]
  | x :: r => if x = c then [] :: splitC c r else consHd x (splitC c r)
theorem splitC_ne (c : UInt8) (l : List UInt8) : splitC c l ≠ [] := by
  cases l with
  | nil => simp [splitC]
  | cons x r =>
    simp only [splitC]
    split
    · simp
    · cases splitC c r <;> simp [consHd]
theorem consHd_length (x : UInt8) {l : List (List UInt8)} (h : l ≠ []) : (consHd x l).length = l.length := by
  cases l with
  | nil => exact absurd rfl h
  | cons a t => rfl
theorem splitC_length (c : UInt8) (l : List UInt8) : (splitC c l).length = l.count c + 1 := by
  induction l with
  | nil => rfl
  | cons x r ih =>
    simp only [splitC]
    split
    · next h => subst h; simp [ih]
    · next h => rw [consHd_length x (splitC_ne c r), ih, List.count_cons_of_ne (by simpa using h)]

theorem split_one (c : UInt8) (l : List UInt8) : Lib.split l [c] = splitC c l := by
  induction l with
  | nil => rfl
  | cons x r ih =>
    unfold Lib.split at ih ⊢
    by_cases h : x = c
    · subst h
      rw [Lib.count_cons_eq, show 1 + Lib.count r [x] = Lib.count r [x] + 1 by omega]
      have hi : Lib.index (x :: r) [x] = 0 := by simp [Lib.index]
      simp only [Lib.splitK, hi, splitC, if_true]
      rw [← ih]
      simp
    · rw [Lib.count_cons_ne x c r h]
      simp only [splitC, if_neg h]
      rw [← ih]
      cases hk : Lib.count r [c] with
      | zero => rfl
      | succ k =>
        have hp : [c].isPrefixOf (x :: r) = false := by
          simp only [List.isPrefixOf_cons_cons, Bool.and_eq_false_iff]
          left
          simpa using fun e => h e.symm
        have hir : Lib.index r [c] ≠ -1 := fun e => by rw [Lib.count_miss e] at hk; omega
        have hge := Lib.index_ge r [c]
        have hi : Lib.index (x :: r) [c] = Lib.index r [c] + 1 := by
          rw [Lib.index, hp, if_neg (by simp), if_neg (by simpa using hir)]
        have e1 : (Lib.index r [c] == -1) = false := by simpa using hir
        have e2 : (Lib.index r [c] + 1 == -1) = false := by simp; omega
        simp only [Lib.splitK, hi, e1, e2, consHd]
        rw [show (Lib.index r [c] + 1).toNat = (Lib.index r [c]).toNat + 1 by omega]
        simp
theorem splitB_one (c : UInt8) (l : List UInt8) : Lib.splitB (txt [c]) 0 (Lib.countB (txt l) (txt [c])) (txt l) = (splitC c l).map txt := by
  have h := Lib.splitB_data (txt [c]) 0 (Lib.countB (txt l) (txt [c])) (txt l)
  have hc : Lib.countB (txt l) (txt [c]) = Lib.count l [c] := by unfold Lib.countB; rw [txt_data, txt_data]
  rw [txt_data, txt_data, hc] at h
  have hs : Lib.splitK [c] 0 (Lib.count l [c]) l = splitC c l := split_one c l
  rw [hs] at h
  rw [hc, ← h, List.map_map]
  have : (txt ∘ fun x : ByteArray => x.data.toList) = id := by funext x; rfl
  rw [this, List.map_id]
/-- a piece without the letter, then the letter -/
theorem splitC_head (c : UInt8) (g r : List UInt8) (h : ∀ x ∈ g, x ≠ c) : splitC c (g ++ c :: r) = g :: splitC c r := by
  induction g with
  | nil => simp [splitC]
  | cons x g ih =>
    have hx := h x (by simp)
    simp only [List.cons_append, splitC, if_neg hx]
    rw [ih (fun y hy => h y (by simp [hy]))]
    rfl
theorem splitC_last (c : UInt8) (g : List UInt8) (h : ∀ x ∈ g, x ≠ c) : splitC c g = [g] := by
  induction g with
  | nil => rfl
  | cons x g ih =>
    have hx := h x (by simp)
    simp only [splitC, if_neg hx]
    rw [ih (fun y hy => h y (by simp [hy]))]
    rfl
theorem splitC_small (c : UInt8) (l : List UInt8) : ∀ x ∈ splitC c l, x.length ≤ l.length := by
  induction l with
  | nil => intro x hx; simp [splitC] at hx; subst hx; simp
  | cons y r ih =>
    intro x hx
    simp only [splitC] at hx
    split at hx
    · rcases List.mem_cons.1 hx with rfl | hx
      · simp
      · have := ih x hx; simp; omega
    · cases hs : splitC c r with
      | nil => exact absurd hs (splitC_ne c r)
      | cons a t =>
        rw [hs] at hx ih
        rcases List.mem_cons.1 hx with rfl | hx
        · have := ih a (by simp); simp; omega
        · have := ih x (by simp [hx]); simp; omega
end Go.Proofs.YtfocdcdggidboaaGreatDoor
