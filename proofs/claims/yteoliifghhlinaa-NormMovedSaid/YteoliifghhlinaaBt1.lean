/- norm.Between: parts. -/
import Derived.Test.YteoliifghhlinaaBt0
import Derived.Test.YteoliifghhlinaaBtMath
import Derived.Sort.OwnSortedInts
import Derived.Test.YteoliifghhlinaaCut
namespace Go.Proofs.Yteoliifghhlinaa
open Go.RowKit Go.Joins
open Classical
set_option linter.unusedVariables false
set_option linter.unusedSimpArgs false

theorem infoIntB : (Try.prog.info? 3).map (fun i => (i.zero, i.size, i.bytes)) = some (some (.int .i64 0), 1, 8) := by kernel_rfl
theorem infoSpB : (Try.prog.info? 29).map (fun i => (i.zero, i.size, i.bytes)) = some (some (.agg #[.int .i64 0, .int .i64 0]), 2, 16) := by kernel_rfl
theorem undSpsB : Try.prog.underlying 30 = some (.slice 29) := by kernel_rfl
theorem undIntsB : Try.prog.underlying 55 = some (.slice 3) := by kernel_rfl
def spV (p : Int × Int) : Value := .agg #[.int .i64 p.1, .int .i64 p.2]
def spC (p : Int × Int) : List Value := [.int .i64 p.1, .int .i64 p.2]
def spCells (l : List (Int × Int)) : List Value := l.flatMap spC
theorem ptsB_hit {l : List Ch} {c : Ch} {f t : Int} (h : inS f t c = true) : ptsB (l ++ [c]) f t = ptsB l f t ++ [c.t] := by simp [ptsB, h]
theorem ptsB_miss {l : List Ch} {c : Ch} {f t : Int} (h : inS f t c = false) : ptsB (l ++ [c]) f t = ptsB l f t := by simp [ptsB, h]
/-- a row of changes is kept where a row of ints grows -/
theorem chs_kept {W W' : World} {B B' : Nat} {v v' : Value} {n m : Nat} {xs ys : List Value} (h : W.ownsRow B 42 2 v n xs) (h' : W.ownsRow B' 3 1 v' m ys) (hg : W.grownBy W' v'.ownBlock) : W'.ownsRow B 42 2 v n xs :=
  own_keep h fun g e => hg.block g (World.ownsRow.lt h g e).2 fun e2 => by
    rcases own_apart h h' (by decide) with h3 | h3
    · rw [e] at h3; cases h3
    · exact h3 (e.trans e2)
theorem wrapN (k : Nat) (h : k ≤ 100000) : wrap64 (k : Int) = (k : Int) := by unfold wrap64; omega
theorem wrapN2 (k : Nat) (h : k ≤ 100000) : IntKind.i64.wrap (k : Int) = (k : Int) := by rw [IntKind.wrap_i64]; omega
theorem natlt1 {k M : Nat} (h : k + 1 < M) : (k : Int) + 1 < M ∧ (k : Int) < M := by omega
theorem nfacts {n k M : Nat} (h1 : n + 1 ≤ k) (h2 : k + 1 < M) (h3 : M ≤ 2002) : ((n : Int) + 1 - 1 = (n : Int)) ∧ wrap64 ((n : Int) + 1 - 1) = (n : Int) ∧ wrap64 (n : Int) = (n : Int) ∧ (n : Int) < (n : Int) + 1 ∧ n < n + 1 ∧ (0 : Int) ≤ (n : Int) := by
  have e : (n : Int) + 1 - 1 = (n : Int) := by omega
  exact ⟨e, by rw [e]; exact wrapN n (by omega), wrapN n (by omega), by omega, by omega, by omega⟩
theorem nlast (n : Nat) : n * 2 + 1 < (n + 1) * 2 := by omega
theorem nmax0 {n k M : Nat} (h1 : n + 1 ≤ k) (h2 : k + 1 < M) (h3 : M ≤ 2002) : n + 1 ≤ 100000 := by omega
theorem nmax1 {n : Nat} (h1 : n ≤ 100000) : n + 1 ≤ maxLen := by simp only [maxLen]; omega
theorem nmax2 {n : Nat} (h1 : n ≤ 100000) : (n + 1) * 16 ≤ 140737488355328 := by omega
theorem own_kept2 {W W' : World} {B B' : Nat} {e e' : TypeId} {sz sz' : Nat} {v v' : Value} {n m : Nat} {xs ys : List Value} (h : W.ownsRow B e sz v n xs) (h' : W.ownsRow B' e' sz' v' m ys) (hne : e ≠ e') (hg : W.grownBy W' v'.ownBlock) : W'.ownsRow B e sz v n xs :=
  own_keep h fun g e => hg.block g (World.ownsRow.lt h g e).2 fun e2 => by
    rcases own_apart h h' hne with h3 | h3
    · rw [e] at h3; cases h3
    · exact h3 (e.trans e2)
theorem spCells_len (l : List (Int × Int)) : (spCells l).length = l.length * 2 := by
  induction l with
  | nil => rfl
  | cons x r ih =>
    have e : spCells (x :: r) = spC x ++ spCells r := by simp [spCells]
    rw [e, List.length_append, ih]
    simp [spC]
    omega
theorem spCells_snoc (l : List (Int × Int)) (p : Int × Int) : spCells (l ++ [p]) = spCells l ++ [.int .i64 p.1, .int .i64 p.2] := by simp [spCells, spC]
theorem spCells_last (l : List (Int × Int)) (p : Int × Int) : (spCells (l ++ [p]))[l.length * 2 + 1]? = some (.int .i64 p.2) := by
  rw [spCells_snoc, List.getElem?_append_right (by rw [spCells_len]; omega), spCells_len]
  simp
theorem spCells_set (l : List (Int × Int)) (p : Int × Int) (y : Int) : (spCells (l ++ [p])).set (l.length * 2 + 1) (.int .i64 y) = spCells (l ++ [(p.1, y)]) := by
  rw [spCells_snoc, spCells_snoc, List.set_append_right _ _ (by rw [spCells_len]; omega), spCells_len]
  simp
theorem own_setAt {W : World} {B : Nat} {e : TypeId} {s n g cap : Nat} {xs : List Value} (h : W.ownsRow B e s (.slice (some ⟨g, 0, none⟩) n cap) n xs) (j : Nat) (hj : j < n * s) (u : Value) :
    (W.setCell ⟨g, j, none⟩ u).ownsRow B e s (.slice (some ⟨g, 0, none⟩) n cap) n (xs.set j u) := by
  obtain ⟨h1, h2⟩ := h
  rcases h2 with ⟨h2, _⟩ | ⟨g', cap', cur, e2, hb, hg, hnc, hcm, hcs, htake⟩
  · cases h2
  · simp only [Value.slice.injEq, Option.some.injEq, Addr.mk.injEq, and_true, true_and] at e2
    obtain ⟨rfl, rfl⟩ := e2
    refine ⟨by rw [List.length_set]; exact h1, .inr ⟨g, cap, cur.setIfInBounds j u, rfl, hb, heap_setCm hg u, hnc, hcm, by simpa using hcs, ?_⟩⟩
    rw [Array.toList_setIfInBounds, ← htake, List.take_set]
theorem stepB_none {eq : Int → Bool} {x y : Int} (h1 : x ≠ y) (h2 : eq x = false) : stepB eq [] x y = [(x, y)] := by
  unfold stepB
  rw [if_neg (by simp [h1, h2])]
  rfl
theorem stepB_join {eq : Int → Bool} {init : List (Int × Int)} {p : Int × Int} {x y : Int} (h1 : x ≠ y) (h2 : eq x = false) (h3 : p.2 = x) : stepB eq (init ++ [p]) x y = init ++ [(p.1, y)] := by
  unfold stepB
  rw [if_neg (by simp [h1, h2])]
  simp [h3]
theorem stepB_more {eq : Int → Bool} {init : List (Int × Int)} {p : Int × Int} {x y : Int} (h1 : x ≠ y) (h2 : eq x = false) (h3 : p.2 ≠ x) : stepB eq (init ++ [p]) x y = init ++ [p] ++ [(x, y)] := by
  unfold stepB
  rw [if_neg (by simp [h1, h2])]
  simp [h3]
def okSpan (f t : Int) : Bool := okTime f && okTime t && decide (f ≤ t)

end Go.Proofs.Yteoliifghhlinaa
