/- NormMoved: plain Lean. A table whose changes are all so much later. -/
import Derived.Test.YteoliifghhlinaaNormMath
namespace Go.Proofs.Yteoliifghhlinaa
open Go.RowKit Go.IntWalk
open Classical
set_option linter.unusedVariables false
set_option linter.unusedSimpArgs false

def shC (b : Int) (c : Ch) : Ch := ⟨c.t + b, c.k⟩
def shT (b : Int) (t : Tab) : Tab := ⟨t.types, t.first, t.chs.map (shC b)⟩
/-- as Go adds it -/
def shCW (b : Int) (c : Ch) : Ch := ⟨wrap64 (c.t + b), c.k⟩
def shW (b : Int) (t : Tab) : Tab := ⟨t.types, t.first, t.chs.map (shCW b)⟩
theorem shW_eq (b : Int) (t : Tab) (ok : OkTab t) (h0 : 0 ≤ b) (h1 : b < 1000000) : shW b t = shT b t := by
  unfold shW shT
  congr 1
  apply List.map_congr_left
  intro c hc
  have h := ok.ch c hc
  unfold shCW shC
  rw [IntWalk.wrap64_in _ ⟨by omega, by omega⟩]

/-! ### normal forms -/
def shP (b : Int) (p : Int × Ty) : Int × Ty := (p.1 + b, p.2)
def shS (b : Int) (s : NS) : NS := ⟨s.types, s.chs.map (shC b), s.last⟩
theorem sh_resL (b : Int) (t : Tab) : resL (shT b t) = (resL t).map (shP b) := by
  unfold resL shT
  rw [List.map_map, List.map_map]
  rfl
theorem sh_step (b : Int) (s : NS) (c : Int × Ty) : stepN (shS b s) (shP b c) = shS b (stepN s c) := by
  unfold stepN
  by_cases h : c.2 = s.last
  · rw [if_pos h, if_pos (show (shP b c).2 = (shS b s).last from h)]
  · rw [if_neg h, if_neg (show ¬ (shP b c).2 = (shS b s).last from h)]
    simp [shS, shP, shC]
theorem sh_fold (b : Int) (l : List (Int × Ty)) : ∀ s, (l.map (shP b)).foldl stepN (shS b s) = shS b (l.foldl stepN s) := by
  induction l with
  | nil => intro s; rfl
  | cons c r ih => intro s; rw [List.map_cons, List.foldl_cons, List.foldl_cons, sh_step, ih]
theorem sh_norm (b : Int) (t : Tab) : normT (shT b t) = shT b (normT t) := by
  have h : makeN (resH t) ((resL t).map (shP b)) = shS b (makeN (resH t) (resL t)) := sh_fold b (resL t) (begN (resH t))
  show normR (resH t) (resL (shT b t)) = _
  rw [sh_resL]
  unfold normR
  rw [h]
  rfl

/-! ### what it says -/
theorem sh_val (b : Int) (l : List (Int × Ty)) (y : Int) : ∀ x, valL x (l.map (shP b)) (y + b) = valL x l y := by
  induction l with
  | nil => intro x; rfl
  | cons c r ih =>
    intro x
    unfold valL at ih ⊢
    rw [List.map_cons, List.foldl_cons, List.foldl_cons, ih]
    have : (if (shP b c).1 ≤ y + b then (shP b c).2 else x) = (if c.1 ≤ y then c.2 else x) := by
      show (if c.1 + b ≤ y + b then c.2 else x) = _
      by_cases h : c.1 ≤ y
      · rw [if_pos h, if_pos (by omega)]
      · rw [if_neg h, if_neg (by omega)]
    rw [this]
theorem sh_says (b : Int) (t : Tab) (ok : OkTab t) (ok2 : OkTab (shT b t)) (y : Int) : tyOf (shT b t) (y + b) = tyOf t y := by
  rw [tyOf_val _ ok2, tyOf_val t ok, sh_resL]
  exact sh_val b (resL t) y (resH t)

theorem rise_ext : ∀ (l m : List Int), l.Pairwise (fun a b => a < b) → m.Pairwise (fun a b => a < b) → (∀ x, x ∈ l ↔ x ∈ m) → l = m
  | [], [], _, _, _ => rfl
  | [], b :: m, _, _, h => absurd ((h b).2 (by simp)) (by simp)
  | a :: l, [], _, _, h => absurd ((h a).1 (by simp)) (by simp)
  | a :: l, b :: m, h1, h2, h => by
    have p1 := List.pairwise_cons.1 h1
    have p2 := List.pairwise_cons.1 h2
    have e : a = b := by
      have ha := (h a).1 (by simp)
      have hb := (h b).2 (by simp)
      simp only [List.mem_cons] at ha hb
      rcases ha with ha | ha
      · exact ha
      · rcases hb with hb | hb
        · exact hb.symm
        · have := p2.1 a ha; have := p1.1 b hb; omega
    subst e
    rw [rise_ext l m p1.2 p2.2 fun x => ?_]
    constructor
    · intro hx
      have := (h x).1 (by simp [hx])
      simp only [List.mem_cons] at this
      rcases this with rfl | this
      · have := p1.1 x hx; omega
      · exact this
    · intro hx
      have := (h x).2 (by simp [hx])
      simp only [List.mem_cons] at this
      rcases this with rfl | this
      · have := p2.1 x hx; omega
      · exact this
theorem sh_fnd (b : Int) (t : Tab) (ok : OkTab t) (ok2 : OkTab (shT b t)) (l : Int) (h0 : 0 ≤ b) (h1 : b < 1000000) (h2 : -200000 ≤ l) (h3 : l < 200000) :
    fndT (shT b t) (l + b) = (fndT t l).map (fun y => y + b) := by
  refine rise_ext _ _ (fndT_rise _ ok2 _) ?_ fun z => ?_
  · rw [List.pairwise_map]
    exact (fndT_rise t ok l).imp fun h => by omega
  · rw [mem_fndT _ ok2 _ (by omega) (by omega), List.mem_map]
    have e := sh_says b t ok ok2 (z - b)
    rw [show z - b + b = z by omega] at e
    rw [e]
    constructor
    · intro h
      exact ⟨z - b, (mem_fndT t ok l (by omega) (by omega) _).2 (by omega), by omega⟩
    · rintro ⟨y, hy, rfl⟩
      have := (mem_fndT t ok l (by omega) (by omega) _).1 hy
      rw [show y + b - b = y by omega]
      omega
theorem sh_back (b : Int) (t : Tab) (ok : OkTab t) (h0 : 0 ≤ b) (h1 : b < 1000000) : shW b (normT t) = shT b (normT t) := shW_eq b _ (norm_ok t ok) h0 h1
end Go.Proofs.Yteoliifghhlinaa
