/- The spans in which two tables differ: plain Lean. -/
import Derived.Test.YteoliifghhlinaaNormMath
namespace Go.Proofs.Yteoliifghhlinaa
open Classical
set_option linter.unusedVariables false

def stepB (eq : Int → Bool) (out : List (Int × Int)) (f t : Int) : List (Int × Int) :=
  if f = t ∨ eq f = true then out else
  match out.getLast? with
  | some p => if p.2 = f then out.dropLast ++ [(p.1, t)] else out ++ [(f, t)]
  | none => out ++ [(f, t)]
def outN (eq : Int → Bool) (L : List Int) : Nat → List (Int × Int)
  | 0 => []
  | k + 1 => stepB eq (outN eq L k) (L.getD k 0) (L.getD (k + 1) 0)
def inS (f t : Int) (c : Ch) : Bool := decide (f < c.t ∧ c.t < t)
def ptsB (l : List Ch) (f t : Int) : List Int := f :: t :: ((l.filter (inS f t)).map (·.t))
def srtB (l : List Ch) (f t : Int) : List Int := (ptsB l f t).mergeSort (fun x y => decide (x ≤ y))
noncomputable def eqB (a b : Tab) (x : Int) : Bool := decide (tyOf a x = tyOf b x)
noncomputable def outB (a b : Tab) (f t : Int) : List (Int × Int) := outN (eqB a b) (srtB (a.chs ++ b.chs) f t) ((srtB (a.chs ++ b.chs) f t).length - 1)

structure BInv (eq : Int → Bool) (f cur : Int) (out : List (Int × Int)) : Prop where
  proper : ∀ p ∈ out, f ≤ p.1 ∧ p.1 < p.2 ∧ p.2 ≤ cur
  apart : out.Pairwise (fun p q => p.2 < q.1)
  cover : ∀ y, f ≤ y → y < cur → ((∃ p ∈ out, p.1 ≤ y ∧ y < p.2) ↔ eq y = false)

theorem BInv.more {eq : Int → Bool} {f cur nxt : Int} {out : List (Int × Int)} (h : BInv eq f cur out) (h1 : cur < nxt) (hf : f ≤ cur) (he : eq cur = false) (hc : ∀ y, cur ≤ y → y < nxt → eq y = eq cur) (hl : ∀ p ∈ out, p.2 < cur) :
    BInv eq f nxt (out ++ [(cur, nxt)]) := by
  refine ⟨fun p hp => ?_, ?_, fun y hy1 hy2 => ?_⟩
  · rcases List.mem_append.1 hp with hp | hp
    · have := h.proper p hp; omega
    · simp only [List.mem_singleton] at hp; subst hp; exact ⟨hf, h1, Int.le_refl _⟩
  · rw [List.pairwise_append]
    refine ⟨h.apart, by simp, fun p hp q hq => ?_⟩
    simp only [List.mem_singleton] at hq; subst hq
    exact hl p hp
  · by_cases hyc : y < cur
    · rw [← h.cover y hy1 hyc]
      constructor
      · rintro ⟨p, hp, hp2⟩
        rcases List.mem_append.1 hp with hp | hp
        · exact ⟨p, hp, hp2⟩
        · simp only [List.mem_singleton] at hp; subst hp; exact absurd hp2.1 (by show ¬ cur ≤ y; omega)
      · rintro ⟨p, hp, hp2⟩
        exact ⟨p, by simp [hp], hp2⟩
    · rw [hc y (by omega) hy2, he]
      simp only [iff_true]
      exact ⟨(cur, nxt), by simp, by show cur ≤ y; omega, hy2⟩
theorem BInv.step {eq : Int → Bool} {f cur nxt : Int} {out : List (Int × Int)} (h : BInv eq f cur out) (h1 : cur ≤ nxt) (hf : f ≤ cur) (hc : ∀ y, cur ≤ y → y < nxt → eq y = eq cur) : BInv eq f nxt (stepB eq out cur nxt) := by
  unfold stepB
  split
  · next hs =>
    refine ⟨fun p hp => by have := h.proper p hp; omega, h.apart, fun y hy1 hy2 => ?_⟩
    by_cases hyc : y < cur
    · exact h.cover y hy1 hyc
    · have he : eq cur = true := hs.resolve_left (by omega)
      rw [hc y (by omega) hy2, he]
      simp only [Bool.true_eq_false, iff_false]
      rintro ⟨p, hp, hp2⟩
      have := h.proper p hp
      omega
  · next hs =>
    have hlt : cur < nxt := by
      have : cur ≠ nxt := fun e => hs (.inl e)
      omega
    have he : eq cur = false := by
      cases e : eq cur
      · rfl
      · exact absurd (.inr e) hs
    split
    · next p hp =>
      obtain ⟨init, rfl⟩ := List.getLast?_eq_some_iff.1 hp
      have hpp := h.proper p (by simp)
      have hap := List.pairwise_append.1 h.apart
      split
      · next e =>
        rw [List.dropLast_concat]
        refine ⟨fun q hq => ?_, ?_, fun y hy1 hy2 => ?_⟩
        · rcases List.mem_append.1 hq with hq | hq
          · have := h.proper q (by simp [hq]); omega
          · simp only [List.mem_singleton] at hq; subst hq; exact ⟨hpp.1, by show p.1 < nxt; omega, Int.le_refl _⟩
        · rw [List.pairwise_append]
          refine ⟨hap.1, by simp, fun a ha q hq => ?_⟩
          simp only [List.mem_singleton] at hq; subst hq
          exact hap.2.2 a ha p (by simp)
        · by_cases hyc : y < cur
          · rw [← h.cover y hy1 hyc]
            constructor
            · rintro ⟨q, hq, hq2⟩
              rcases List.mem_append.1 hq with hq | hq
              · exact ⟨q, by simp [hq], hq2⟩
              · simp only [List.mem_singleton] at hq; subst hq
                exact ⟨p, by simp, hq2.1, by omega⟩
            · rintro ⟨q, hq, hq2⟩
              rcases List.mem_append.1 hq with hq | hq
              · exact ⟨q, by simp [hq], hq2⟩
              · simp only [List.mem_singleton] at hq; subst hq
                exact ⟨(q.1, nxt), by simp, hq2.1, by show y < nxt; omega⟩
          · rw [hc y (by omega) hy2, he]
            simp only [iff_true]
            exact ⟨(p.1, nxt), by simp, by show p.1 ≤ y; omega, hy2⟩
      · next e =>
        refine h.more hlt hf he hc fun q hq => ?_
        rcases List.mem_append.1 hq with hq | hq
        · have := hap.2.2 q hq p (by simp)
          omega
        · simp only [List.mem_singleton] at hq; subst hq; omega
    · next hn =>
      rw [List.getLast?_eq_none_iff] at hn
      subst hn
      exact h.more hlt hf he hc (by simp)

theorem outN_inv (eq : Int → Bool) (L : List Int) (f : Int) (h0 : L.getD 0 0 = f) (hf : ∀ x ∈ L, f ≤ x) (hs : L.Pairwise (· ≤ ·)) (hc : ∀ k, k + 1 < L.length → ∀ y, L.getD k 0 ≤ y → y < L.getD (k + 1) 0 → eq y = eq (L.getD k 0)) :
    ∀ k, k < L.length → BInv eq f (L.getD k 0) (outN eq L k) := by
  intro k
  induction k with
  | zero => intro _; rw [h0]; exact ⟨by simp [outN], by simp [outN], fun y h1 h2 => by omega⟩
  | succ k ih =>
    intro hk
    have g0 : L.getD k 0 = L[k]'(by omega) := by simp [List.getD, List.getElem?_eq_getElem (show k < L.length by omega)]
    have g1 : L.getD (k + 1) 0 = L[k + 1] := by simp [List.getD, List.getElem?_eq_getElem hk]
    refine (ih (by omega)).step ?_ ?_ (hc k hk)
    · rw [g0, g1]
      exact List.pairwise_iff_getElem.1 hs k (k + 1) (by omega) hk (by omega)
    · rw [g0]
      exact hf _ (List.getElem_mem _)

theorem srtB_perm (l : List Ch) (f t : Int) : (srtB l f t).Perm (ptsB l f t) := List.mergeSort_perm _ _
theorem srtB_sorted (l : List Ch) (f t : Int) : (srtB l f t).Pairwise (· ≤ ·) := by
  have := List.pairwise_mergeSort (le := fun x y : Int => decide (x ≤ y)) (fun a b c h1 h2 => by simp at *; omega) (fun a b => by simp; omega) (ptsB l f t)
  exact this.imp (by intro a b h; simpa using h)
theorem ptsB_in {l : List Ch} {f t x : Int} (hft : f ≤ t) (h : x ∈ ptsB l f t) : f ≤ x ∧ x ≤ t := by
  unfold ptsB at h
  simp only [List.mem_cons, List.mem_map, List.mem_filter, inS, decide_eq_true_eq] at h
  rcases h with rfl | rfl | ⟨c, ⟨_, h⟩, rfl⟩ <;> omega
theorem srtB_len (l : List Ch) (f t : Int) : (srtB l f t).length = (l.filter (inS f t)).length + 2 := by
  have := (srtB_perm l f t).length_eq
  rw [this]
  simp [ptsB]
theorem srtB_in {l : List Ch} {f t x : Int} (hft : f ≤ t) (h : x ∈ srtB l f t) : f ≤ x ∧ x ≤ t := ptsB_in hft ((srtB_perm l f t).subset h)
theorem srtB_first (l : List Ch) (f t : Int) (hft : f ≤ t) : (srtB l f t).getD 0 0 = f := by
  have hl := srtB_len l f t
  have h0 : 0 < (srtB l f t).length := by omega
  have g : (srtB l f t).getD 0 0 = (srtB l f t)[0] := by simp [List.getD, List.getElem?_eq_getElem h0]
  rw [g]
  have h1 := srtB_in hft (List.getElem_mem h0)
  have hm : f ∈ srtB l f t := (srtB_perm l f t).symm.subset (by simp [ptsB])
  obtain ⟨j, hj, e⟩ := List.getElem_of_mem hm
  by_cases hj0 : j = 0
  · subst hj0; exact e
  · have := List.pairwise_iff_getElem.1 (srtB_sorted l f t) 0 j h0 hj (by omega)
    omega
theorem srtB_last (l : List Ch) (f t : Int) (hft : f ≤ t) : (srtB l f t).getD ((srtB l f t).length - 1) 0 = t := by
  have hl := srtB_len l f t
  have h0 : (srtB l f t).length - 1 < (srtB l f t).length := by omega
  have g : (srtB l f t).getD ((srtB l f t).length - 1) 0 = (srtB l f t)[(srtB l f t).length - 1] := by simp [List.getD, List.getElem?_eq_getElem h0]
  rw [g]
  have h1 := srtB_in hft (List.getElem_mem h0)
  have hm : t ∈ srtB l f t := (srtB_perm l f t).symm.subset (by simp [ptsB])
  obtain ⟨j, hj, e⟩ := List.getElem_of_mem hm
  by_cases hj0 : j = (srtB l f t).length - 1
  · subst hj0; exact e
  · have := List.pairwise_iff_getElem.1 (srtB_sorted l f t) j ((srtB l f t).length - 1) hj h0 (by omega)
    omega
theorem srtB_gap (l : List Ch) (f t : Int) (hft : f ≤ t) (k : Nat) (hk : k + 1 < (srtB l f t).length) (c : Ch) (hc : c ∈ l) (h1 : (srtB l f t).getD k 0 < c.t) (h2 : c.t < (srtB l f t).getD (k + 1) 0) : False := by
  have g0 : (srtB l f t).getD k 0 = (srtB l f t)[k]'(by omega) := by simp [List.getD, List.getElem?_eq_getElem (show k < (srtB l f t).length by omega)]
  have g1 : (srtB l f t).getD (k + 1) 0 = (srtB l f t)[k + 1] := by simp [List.getD, List.getElem?_eq_getElem hk]
  rw [g0] at h1
  rw [g1] at h2
  have i0 := srtB_in hft (List.getElem_mem (show k < (srtB l f t).length by omega))
  have i1 := srtB_in hft (List.getElem_mem hk)
  have hm : c.t ∈ srtB l f t := by
    refine (srtB_perm l f t).symm.subset ?_
    unfold ptsB
    simp only [List.mem_cons, List.mem_map, List.mem_filter, inS, decide_eq_true_eq]
    exact .inr (.inr ⟨c, ⟨hc, by omega⟩, rfl⟩)
  obtain ⟨j, hj, e⟩ := List.getElem_of_mem hm
  have hs := List.pairwise_iff_getElem.1 (srtB_sorted l f t)
  rcases Nat.lt_or_ge k j with h | h
  · rcases Nat.lt_or_ge (k + 1) j with h' | h'
    · have := hs (k + 1) j hk hj h'; omega
    · obtain rfl : j = k + 1 := by omega
      omega
  · rcases Nat.lt_or_ge j k with h' | h'
    · have := hs j k hj (by omega) h'; omega
    · obtain rfl : j = k := by omega
      omega

theorem valL_const (l : List (Int × Ty)) (x y : Int) (hxy : x ≤ y) : ∀ acc, (∀ c ∈ l, ¬ (x < c.1 ∧ c.1 ≤ y)) → valL acc l x = valL acc l y := by
  induction l with
  | nil => intro acc _; rfl
  | cons c r ih =>
    intro acc h
    have hc := h c (by simp)
    have e : (if c.1 ≤ x then c.2 else acc) = (if c.1 ≤ y then c.2 else acc) := by
      by_cases h1 : c.1 ≤ x
      · rw [if_pos h1, if_pos (by omega)]
      · rw [if_neg h1, if_neg (by omega)]
    show valL (if c.1 ≤ x then c.2 else acc) r x = valL (if c.1 ≤ y then c.2 else acc) r y
    rw [e]
    exact ih _ (fun d hd => h d (by simp [hd]))
theorem tyOf_const (t : Tab) (ok : OkTab t) (x y : Int) (hxy : x ≤ y) (h : ∀ c ∈ t.chs, ¬ (x < c.t ∧ c.t ≤ y)) : tyOf t x = tyOf t y := by
  rw [tyOf_val t ok, tyOf_val t ok]
  refine valL_const _ _ _ hxy _ fun c hc => ?_
  obtain ⟨d, hd, rfl⟩ := List.mem_map.1 hc
  exact h d hd

theorem outB_inv (a b : Tab) (f t : Int) (hft : f ≤ t) (oka : OkTab a) (okb : OkTab b) : BInv (eqB a b) f t (outB a b f t) := by
  have hl := srtB_len (a.chs ++ b.chs) f t
  have h := outN_inv (eqB a b) (srtB (a.chs ++ b.chs) f t) f (srtB_first _ _ _ hft) (fun x hx => (srtB_in hft hx).1) (srtB_sorted _ _ _) (fun k hk y h1 h2 => ?_) ((srtB (a.chs ++ b.chs) f t).length - 1) (by omega)
  · rw [srtB_last _ _ _ hft] at h
    exact h
  · have gap := srtB_gap (a.chs ++ b.chs) f t hft k hk
    unfold eqB
    rw [tyOf_const a oka _ y h1 (fun c hc h3 => gap c (by simp [hc]) h3.1 (by omega)), tyOf_const b okb _ y h1 (fun c hc h3 => gap c (by simp [hc]) h3.1 (by omega))]

theorem stepB_eq {eq : Int → Bool} {out : List (Int × Int)} {f t : Int} (h : eq f = true) : stepB eq out f t = out := by unfold stepB; rw [if_pos (.inr h)]
theorem outN_eq (eq : Int → Bool) (h : ∀ x, eq x = true) (L : List Int) : ∀ k, outN eq L k = []
  | 0 => rfl
  | k + 1 => by show stepB _ _ _ _ = _; rw [stepB_eq (h _)]; exact outN_eq eq h L k
theorem outB_same (a b : Tab) (f t : Int) (h : ∀ x, tyOf a x = tyOf b x) : outB a b f t = [] := outN_eq _ (fun x => by unfold eqB; simp [h x]) _ _
theorem stepB_len (eq : Int → Bool) (out : List (Int × Int)) (f t : Int) : (stepB eq out f t).length ≤ out.length + 1 := by
  unfold stepB
  split
  · omega
  · split
    · next p hp =>
      obtain ⟨init, rfl⟩ := List.getLast?_eq_some_iff.1 hp
      split
      · rw [List.dropLast_concat]; simp
      · simp
    · simp
theorem outN_len (eq : Int → Bool) (L : List Int) : ∀ k, (outN eq L k).length ≤ k
  | 0 => by simp [outN]
  | k + 1 => by
    have := stepB_len eq (outN eq L k) (L.getD k 0) (L.getD (k + 1) 0)
    have := outN_len eq L k
    show (stepB _ _ _ _).length ≤ _
    omega
theorem srtB_comm (l m : List Ch) (f t : Int) : srtB (l ++ m) f t = srtB (m ++ l) f t := by
  refine List.Perm.eq_of_pairwise (le := (· ≤ ·)) (fun a b _ _ h1 h2 => Int.le_antisymm h1 h2) (srtB_sorted _ _ _) (srtB_sorted _ _ _) ?_
  refine (srtB_perm _ _ _).trans (List.Perm.trans ?_ (srtB_perm _ _ _).symm)
  unfold ptsB
  rw [List.filter_append, List.filter_append, List.map_append, List.map_append]
  exact (List.perm_append_comm.cons _).cons _
theorem outB_comm (a b : Tab) (f t : Int) : outB a b f t = outB b a f t := by
  unfold outB
  rw [srtB_comm]
  have : eqB a b = eqB b a := by
    funext x
    unfold eqB
    rw [decide_eq_decide]
    exact eq_comm
  rw [this]
end Go.Proofs.Yteoliifghhlinaa
