/- The plain law of long days: they add up; how long one may be. -/
import Derived.Test.YtddkedghpapepaaLong
namespace Go.Proofs.Ytddkedghpapepaa
open Go.RowKit Go.Shelf
set_option linter.unusedVariables false
set_option linter.unusedSimpArgs false

/-- how much of [l, h) lies in [a, b) -/
def seg (a b l h : Int) : Int := max 0 (min b h - max a l)
theorem seg_nonneg (a b l h : Int) : 0 ≤ seg a b l h := by unfold seg; omega
theorem seg_join (a b l m h : Int) (h1 : l ≤ m) (h2 : m ≤ h) : seg a b l m + seg a b m h = seg a b l h := by unfold seg; omega
theorem seg_le (a b l h : Int) (h1 : l ≤ h) : seg a b l h ≤ h - l := by unfold seg; omega

/-- what a piece gives to the days from 'l' on, to 'h' -/
def give (l h : Int) (x : Pc) : Int := seg x.a x.b (l - x.off) (h - x.off)
def giveAll (l h : Int) (ps : List Pc) : Int := (ps.map (give l h)).sum

/-- a piece of a table is not far off -/
structure PcOk (x : Pc) : Prop where
  o1 : -75600 ≤ x.off
  o2 : x.off ≤ 75600
  a1 : -4611686018427387904 ≤ x.a
  a2 : x.a ≤ 1099511627776
  b1 : -1099511627776 ≤ x.b
  b2 : x.b ≤ 4611686018427387903

theorem pcAt_ok (t : Tab) (ok : OkTab t) (j : Nat) (hj : j ≤ t.chs.length) : PcOk (pcAt t j) := by
  have hch : ∀ i, i < t.chs.length → -1099511627776 ≤ tAt t.chs i ∧ tAt t.chs i ≤ 1099511627776 := fun i hi => by
    rw [tAt_in _ _ hi]
    have := ok.ch _ (List.getElem_mem hi)
    omega
  have ho := pc_off t ok j
  refine ⟨ho.1, ho.2, ?_, ?_, ?_, ?_⟩
  · cases j with
    | zero => simp [pcAt, frAt]
    | succ j => have := hch j (by omega); simp only [pcAt, frAt]; omega
  · cases j with
    | zero => simp [pcAt, frAt]
    | succ j => have := hch j (by omega); simp only [pcAt, frAt]; omega
  · simp only [pcAt, toAt]; split
    · have := hch j (by omega); omega
    · omega
  · simp only [pcAt, toAt]; split
    · have := hch j (by omega); omega
    · omega

theorem uptoP_ok (t : Tab) (ok : OkTab t) : ∀ x ∈ uptoP t (t.chs.length + 1), PcOk x := by
  intro x hx
  obtain ⟨j, hj, rfl⟩ := (mem_uptoP _ _ _).1 hx
  exact pcAt_ok t ok j (by omega)

theorem give_le (l h : Int) (x : Pc) (hl : l ≤ h) : give l h x ≤ h - l := by
  unfold give
  have := seg_le x.a x.b (l - x.off) (h - x.off) (by omega)
  omega

theorem giveAll_bound (l h : Int) (hl : l ≤ h) : ∀ (ps : List Pc), 0 ≤ giveAll l h ps ∧ giveAll l h ps ≤ (h - l) * ps.length
  | [] => by simp [giveAll]
  | x :: ps => by
    have ih := giveAll_bound l h hl ps
    have h1 := give_le l h x hl
    have h2 : 0 ≤ give l h x := seg_nonneg _ _ _ _
    have e : giveAll l h (x :: ps) = give l h x + giveAll l h ps := by simp [giveAll]
    have e2 : (h - l) * ((x :: ps).length : Int) = (h - l) * (ps.length : Int) + (h - l) := by
      rw [List.length_cons, Int.natCast_add, Int.mul_add]; simp
    rw [e, e2]
    omega

theorem lngStep_in (d m : Int) (x : Pc) (hx : PcOk x) (h1 : -10000000 ≤ d) (h2 : d ≤ 10000000) (h3 : 0 ≤ m) (h4 : m ≤ 1000000000000) : lngStep d m x = m + give (86400 * d) (86400 * (d + 1)) x := by
  obtain ⟨o1, o2, a1, a2, b1, b2⟩ := hx
  have e1 : wrap64 (86400 * (d + 1) - x.off) = 86400 * (d + 1) - x.off := IntWalk.wrap64_in _ ⟨by omega, by omega⟩
  have e2 : wrap64 (86400 * d - x.off) = 86400 * d - x.off := IntWalk.wrap64_in _ ⟨by omega, by omega⟩
  unfold lngStep
  rw [e1, e2]
  have e3 : wrap64 (min x.b (86400 * (d + 1) - x.off) - max x.a (86400 * d - x.off)) = min x.b (86400 * (d + 1) - x.off) - max x.a (86400 * d - x.off) := IntWalk.wrap64_in _ ⟨by omega, by omega⟩
  rw [e3]
  have e4 : max 0 (min x.b (86400 * (d + 1) - x.off) - max x.a (86400 * d - x.off)) = give (86400 * d) (86400 * (d + 1)) x := rfl
  have e5 := give_le (86400 * d) (86400 * (d + 1)) x (by omega)
  have e6 : 0 ≤ give (86400 * d) (86400 * (d + 1)) x := seg_nonneg _ _ _ _
  rw [e4]
  exact IntWalk.wrap64_in _ ⟨by omega, by omega⟩

theorem foldl_lng (d : Int) (h1 : -10000000 ≤ d) (h2 : d ≤ 10000000) : ∀ (ps : List Pc) (m : Int), (∀ x ∈ ps, PcOk x) → 0 ≤ m → m + 86400 * ps.length ≤ 1000000000000 → ps.foldl (lngStep d) m = m + giveAll (86400 * d) (86400 * (d + 1)) ps
  | [], m, _, _, _ => by simp [giveAll]
  | x :: ps, m, hx, hm, hb => by
    have e5 := give_le (86400 * d) (86400 * (d + 1)) x (by omega)
    have e6 : 0 ≤ give (86400 * d) (86400 * (d + 1)) x := seg_nonneg _ _ _ _
    rw [List.length_cons] at hb
    rw [List.foldl_cons, lngStep_in d m x (hx x (by simp)) h1 h2 hm (by omega), foldl_lng d h1 h2 ps _ (fun y hy => hx y (by simp [hy])) (by omega) (by omega)]
    simp [giveAll]; omega

abbrev lngT (t : Tab) (d : Int) : Int := lng d (uptoP t (t.chs.length + 1))

theorem lngT_eq (t : Tab) (ok : OkTab t) (d : Int) (h1 : -10000000 ≤ d) (h2 : d ≤ 10000000) : lngT t d = giveAll (86400 * d) (86400 * (d + 1)) (uptoP t (t.chs.length + 1)) := by
  have := ok.chs
  have e := foldl_lng d h1 h2 (uptoP t (t.chs.length + 1)) 0 (uptoP_ok t ok) (Int.le_refl _) (by rw [uptoP_length]; omega)
  show lng d _ = _
  unfold lng
  rw [e]; omega

theorem giveAll_join (l m h : Int) (h1 : l ≤ m) (h2 : m ≤ h) : ∀ (ps : List Pc), giveAll l m ps + giveAll m h ps = giveAll l h ps
  | [] => by simp [giveAll]
  | x :: ps => by
    have ih := giveAll_join l m h h1 h2 ps
    have e : give l m x + give m h x = give l h x := seg_join _ _ _ _ _ (by omega) (by omega)
    simp only [giveAll, List.map_cons, List.sum_cons] at ih ⊢
    omega

/-! ### how long a day may be: count the times second by second -/

def inB (a b l : Int) (i : Nat) : Bool := decide (a ≤ l + i ∧ l + i < b)
theorem seg_count (a b l : Int) : ∀ n : Nat, ((List.range n).countP (inB a b l) : Int) = seg a b l (l + n)
  | 0 => by simp [seg]; omega
  | n + 1 => by
    rw [List.range_succ, List.countP_append, List.countP_singleton]
    have ih := seg_count a b l n
    have e := seg_join a b l (l + n) (l + (n + 1 : Nat)) (by omega) (by omega)
    cases c : inB a b l n
    · have c2 : ¬ (a ≤ l + (n : Nat) ∧ l + (n : Nat) < b) := by simpa [inB] using c
      have : seg a b (l + n) (l + (n + 1 : Nat)) = 0 := by unfold seg; omega
      simp only [Bool.false_eq_true, if_false]
      omega
    · have c2 : a ≤ l + (n : Nat) ∧ l + (n : Nat) < b := by simpa [inB] using c
      have : seg a b (l + n) (l + (n + 1 : Nat)) = 1 := by unfold seg; omega
      simp only [if_true]
      omega

theorem count_swap {α β : Type} (P : α → β → Bool) : ∀ (xs : List α) (ys : List β), (xs.map fun x => ((ys.countP (P x) : Nat) : Int)).sum = (ys.map fun y => ((xs.countP (fun x => P x y) : Nat) : Int)).sum
  | [], ys => by
    have : (ys.map fun _ => (0 : Int)).sum = 0 := by
      induction ys with
      | nil => rfl
      | cons y ys ih => simp [ih]
    simpa using this.symm
  | x :: xs, ys => by
    have ih := count_swap P xs ys
    rw [List.map_cons, List.sum_cons, ih]
    clear ih
    induction ys with
    | nil => simp
    | cons y ys ih =>
      simp only [List.map_cons, List.sum_cons, List.countP_cons] at ih ⊢
      generalize (List.map (fun y => ((List.countP (fun x => P x y) xs : Nat) : Int)) ys).sum = A at ih ⊢
      generalize (List.map (fun y => ((List.countP (fun x => P x y) xs + if P x y = true then 1 else 0 : Nat) : Int)) ys).sum = B at ih ⊢
      split <;> omega

/-- a day is not longer than as many days as there are types -/
theorem lngT_le (t : Tab) (ok : OkTab t) (d : Int) (h1 : -10000000 ≤ d) (h2 : d ≤ 10000000) : 0 ≤ lngT t d ∧ lngT t d ≤ 86400 * t.types.length := by
  rw [lngT_eq t ok d h1 h2]
  refine ⟨(giveAll_bound _ _ (by omega) _).1, ?_⟩
  have e1 : giveAll (86400 * d) (86400 * (d + 1)) (uptoP t (t.chs.length + 1)) = ((uptoP t (t.chs.length + 1)).map fun x => (((List.range 86400).countP (fun i : Nat => hit (86400 * d + i) x) : Nat) : Int)).sum := by
    unfold giveAll
    congr 1
    refine List.map_congr_left fun x hx => ?_
    obtain ⟨o1, o2, _⟩ := uptoP_ok t ok x hx
    have hc : (List.range 86400).countP (fun i : Nat => hit (86400 * d + i) x) = (List.range 86400).countP (inB x.a x.b (86400 * d - x.off)) := by
      refine List.countP_congr fun i hi => ?_
      have hi' := List.mem_range.1 hi
      simp only [hit, inB]
      rw [wrap_small _ _ (by omega) (by omega) o1 o2]
      rw [show 86400 * d + (i : Int) - x.off = 86400 * d - x.off + i by omega]
    rw [hc, seg_count]
    unfold give
    rw [show (86400 * (d + 1) - x.off : Int) = 86400 * d - x.off + (86400 : Nat) by omega]
  rw [e1, count_swap (fun (x : Pc) (i : Nat) => hit (86400 * d + i) x)]
  have e2 : ∀ i ∈ List.range 86400, (((uptoP t (t.chs.length + 1)).countP (fun x => hit (86400 * d + (i : Nat)) x) : Nat) : Int) ≤ t.types.length := by
    intro i hi
    have hi' := List.mem_range.1 hi
    have := fndT_many t ok (86400 * d + i) (by omega) (by omega)
    have e : (fndT t (86400 * d + i)).length = (uptoP t (t.chs.length + 1)).countP (fun x => hit (86400 * d + (i : Nat)) x) := by
      simp only [fndT, fnd, List.length_map]
      rw [← List.countP_eq_length_filter]
    omega
  have e3 : ∀ (l : List Nat) (f : Nat → Int) (c : Int), (∀ i ∈ l, f i ≤ c) → (l.map f).sum ≤ l.length * c := by
    intro l f c
    induction l with
    | nil => intro _; simp
    | cons i l ih =>
      intro h
      have := ih fun j hj => h j (by simp [hj])
      have := h i (by simp)
      have : ((i :: l).length : Int) * c = l.length * c + c := by
        rw [List.length_cons, Int.natCast_add, Int.add_mul]; simp
      rw [List.map_cons, List.sum_cons]; omega
  have := e3 (List.range 86400) _ _ e2
  rw [List.length_range] at this
  exact this

end Go.Proofs.Ytddkedghpapepaa
