/- Rows of literals. -/
import Derived.Test.YtmhfhmhjaecoaaaGreatDoorQ06
namespace Go.Proofs.YtmhfhmhjaecoaaaGreatDoor
open Go.RowKit Go.Joins
open Classical
set_option linter.unusedVariables false
set_option linter.unusedSimpArgs false

theorem flat_getN {α : Type} {cells : α → List Value} {k : Nat} (hk : ∀ x, (cells x).length = k) : ∀ (l : List α) (i : Nat) (h : i < l.length) (j : Nat), j < k → (l.flatMap cells)[i * k + j]? = (cells l[i])[j]?
  | [], i, h, _, _ => absurd h (by simp)
  | x :: r, 0, _, j, hj => by
    rw [List.flatMap_cons, Nat.zero_mul, Nat.zero_add, List.getElem?_append_left (by rw [hk]; exact hj)]
    rfl
  | x :: r, i + 1, h, j, hj => by
    have := flat_getN hk r i (by simpa using h) j hj
    rw [List.flatMap_cons, List.getElem?_append_right (by rw [hk, Nat.add_mul]; omega), hk, show (i + 1) * k + j - k = i * k + j by rw [Nat.add_mul]; omega, this]
    rfl
/-- a literal's row -/
theorem rows_lit {α : Type} {cells : α → List Value} {k : Nat} (hk : ∀ x, (cells x).length = k) {B g n : Nat} {W : World} {l : List α} {T : TypeId} {cs : Array Value} (h : W.heap[g]? = some (.cells cs T (0, 0))) (hcs : cs.toList = l.flatMap cells) (hn : l.length = n) (hl : n ≤ 100000) (hB : g < B) : RowsAt cells k B W (.slice (some ⟨g, 0, none⟩) n n) l := by
  subst hn
  refine ⟨_, _, rfl, ⟨by omega, Nat.le_refl _⟩, fun _ => ⟨g, 0, rfl, hB, fun i hi j u hu => ?_⟩⟩
  rw [Nat.zero_add, cell_of_row W g (i * k + j) _ _ (0, 0) h]
  have hj : j < k := by rw [← hk l[i]]; exact (List.getElem?_eq_some_iff.1 hu).1
  have := (flat_getN hk l i hi j hj).trans hu
  rw [← hcs] at this
  simpa using this
theorem rows_nilN {α : Type} {cells : α → List Value} {k B : Nat} {W : World} : RowsAt cells k B W (.slice none 0 0) [] := ⟨none, 0, rfl, ⟨by simp, by simp⟩, fun h => absurd rfl h⟩
end Go.Proofs.YtmhfhmhjaecoaaaGreatDoor
