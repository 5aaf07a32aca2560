/- Normal tables: plain Lean, but for what they say at a time. -/
import Derived.Test.YtmjakhageehcoaaDoorTabD
namespace Go.Proofs.YtmjakhageehcoaaDoor
open Classical
set_option linter.unusedVariables false

/-- what the maker has -/
structure NS where
  types : List Ty
  chs : List Ch
  last : Ty
noncomputable def idxTy (l : List Ty) (x : Ty) : Nat := l.findIdx (fun y => decide (y = x))
noncomputable def addTy (l : List Ty) (x : Ty) : List Ty := if x ∈ l then l else l ++ [x]
noncomputable def stepN (s : NS) (c : Int × Ty) : NS := if c.2 = s.last then s else ⟨addTy s.types c.2, s.chs ++ [⟨c.1, idxTy s.types c.2⟩], c.2⟩
def begN (x : Ty) : NS := ⟨[x], [], x⟩
noncomputable def makeN (x : Ty) (l : List (Int × Ty)) : NS := l.foldl stepN (begN x)
noncomputable def normR (x : Ty) (l : List (Int × Ty)) : Tab := ⟨(makeN x l).types, 0, (makeN x l).chs⟩
def resH (t : Tab) : Ty := tyD t.types t.first
def resL (t : Tab) : List (Int × Ty) := t.chs.map fun c => (c.t, tyD t.types c.k)
noncomputable def normT (t : Tab) : Tab := normR (resH t) (resL t)

/-- changes to another type alone -/
noncomputable def squ : Ty → List (Int × Ty) → List (Int × Ty)
  | _, [] => []
  | last, c :: r => if c.2 = last then squ last r else c :: squ c.2 r

theorem idx_in {l : List Ty} {x : Ty} (h : x ∈ l) : idxTy l x < l.length ∧ tyD l (idxTy l x : Nat) = x := by
  have hlt : idxTy l x < l.length := List.findIdx_lt_length_of_exists ⟨x, h, by simp⟩
  refine ⟨hlt, ?_⟩
  have h2 := List.findIdx_getElem (p := fun y => decide (y = x)) (xs := l) (w := hlt)
  have h3 : l[l.findIdx fun y => decide (y = x)] = x := by simpa using h2
  unfold tyD idxTy
  rw [show ((l.findIdx (fun y => decide (y = x)) : Nat) : Int).toNat = l.findIdx (fun y => decide (y = x)) by omega, List.getElem?_eq_getElem (show l.findIdx (fun y => decide (y = x)) < l.length from hlt)]
  exact h3
theorem idx_out {l : List Ty} {x : Ty} (h : x ∉ l) : idxTy l x = l.length := by
  unfold idxTy
  exact List.findIdx_eq_length_of_false (fun y hy => by simp; rintro rfl; exact h hy)
theorem idx_le (l : List Ty) (x : Ty) : idxTy l x ≤ l.length := List.findIdx_le_length
theorem tyD_app (l m : List Ty) (k : Int) (h0 : 0 ≤ k) (h : k < l.length) : tyD (l ++ m) k = tyD l k := by
  unfold tyD
  rw [List.getElem?_append_left (by omega)]
theorem tyD_add (l : List Ty) (x : Ty) (k : Int) (h0 : 0 ≤ k) (h : k < l.length) : tyD (addTy l x) k = tyD l k := by
  unfold addTy
  split
  · rfl
  · exact tyD_app _ _ _ h0 h
theorem tyD_idx (l : List Ty) (x : Ty) : tyD (addTy l x) (idxTy l x : Nat) = x ∧ idxTy l x < (addTy l x).length := by
  unfold addTy
  split
  · next h => exact ⟨(idx_in h).2, (idx_in h).1⟩
  · next h =>
    rw [idx_out h]
    refine ⟨?_, by simp⟩
    unfold tyD
    simp
theorem add_length (l : List Ty) (x : Ty) : l.length ≤ (addTy l x).length := by
  unfold addTy; split <;> simp
theorem add_nodup {l : List Ty} {x : Ty} (h : l.Nodup) : (addTy l x).Nodup := by
  unfold addTy
  split
  · exact h
  · next hx =>
    rw [List.nodup_append]
    refine ⟨h, by simp, ?_⟩
    intro a ha b hb
    simp only [List.mem_singleton] at hb
    subst hb
    rintro rfl
    exact hx ha
theorem mem_add {l : List Ty} {x y : Ty} : y ∈ addTy l x ↔ y ∈ l ∨ y = x := by
  unfold addTy
  split
  · next h => exact ⟨.inl, fun h2 => h2.elim id (fun e => e ▸ h)⟩
  · simp

/-- what holds of the maker all along -/
structure NInv (x : Ty) (s : NS) : Prop where
  nodup : s.types.Nodup
  head : tyD s.types 0 = x
  pos : 0 < s.types.length
  lastIn : s.last ∈ s.types
  ks : ∀ c ∈ s.chs, 0 ≤ c.k ∧ c.k < s.types.length

theorem begN_inv (x : Ty) : NInv x (begN x) := ⟨by simp [begN], by simp [begN, tyD], by simp [begN], by simp [begN], by simp [begN]⟩
theorem stepN_inv {x : Ty} {s : NS} (h : NInv x s) (c : Int × Ty) : NInv x (stepN s c) := by
  unfold stepN
  split
  · exact h
  · have hl := add_length s.types c.2
    refine ⟨add_nodup h.nodup, (tyD_add _ _ 0 (by omega) (by have := h.pos; omega)).trans h.head, by have := h.pos; show 0 < (addTy s.types c.2).length; omega, mem_add.2 (.inr rfl), ?_⟩
    intro d hd
    simp only [List.mem_append, List.mem_singleton] at hd
    show 0 ≤ d.k ∧ d.k < ((addTy s.types c.2).length : Int)
    rcases hd with hd | rfl
    · have := h.ks d hd; omega
    · have := (tyD_idx s.types c.2).2
      show 0 ≤ ((idxTy s.types c.2 : Nat) : Int) ∧ ((idxTy s.types c.2 : Nat) : Int) < _
      omega
theorem makeN_inv {x : Ty} (l : List (Int × Ty)) : ∀ s, NInv x s → NInv x (l.foldl stepN s) := by
  induction l with
  | nil => intro s h; exact h
  | cons c r ih => intro s h; exact ih _ (stepN_inv h c)

/-- what the maker's changes say -/
def resS (s : NS) : List (Int × Ty) := s.chs.map fun c => (c.t, tyD s.types c.k)
theorem stepN_res {x : Ty} {s : NS} (h : NInv x s) (c : Int × Ty) : resS (stepN s c) = resS s ++ (if c.2 = s.last then [] else [c]) := by
  unfold stepN
  split
  · simp
  · unfold resS
    simp only [List.map_append, List.map_cons, List.map_nil]
    congr 1
    · apply List.map_congr_left
      intro d hd
      have := h.ks d hd
      rw [tyD_add _ _ _ this.1 this.2]
    · rw [(tyD_idx s.types c.2).1]
theorem makeN_res {x : Ty} (l : List (Int × Ty)) : ∀ s, NInv x s → resS (l.foldl stepN s) = resS s ++ squ s.last l := by
  induction l with
  | nil => intro s _; simp [squ]
  | cons c r ih =>
    intro s h
    rw [List.foldl_cons, ih _ (stepN_inv h c), stepN_res h c]
    simp only [squ]
    by_cases e : c.2 = s.last
    · have : stepN s c = s := if_pos e
      rw [if_pos e, if_pos e, this]
      simp
    · have : (stepN s c).last = c.2 := by unfold stepN; rw [if_neg e]
      rw [if_neg e, if_neg e, this]
      simp
theorem resL_norm (x : Ty) (l : List (Int × Ty)) : resL (normR x l) = squ x l := by
  have := makeN_res l (begN x) (begN_inv x)
  exact this
theorem resH_norm (x : Ty) (l : List (Int × Ty)) : resH (normR x l) = x := (makeN_inv l (begN x) (begN_inv x)).head

theorem fold_squ (l : List (Int × Ty)) : ∀ s : NS, l.foldl stepN s = (squ s.last l).foldl stepN s := by
  induction l with
  | nil => intro s; rfl
  | cons c r ih =>
    intro s
    simp only [squ]
    by_cases e : c.2 = s.last
    · have : stepN s c = s := if_pos e
      rw [if_pos e, List.foldl_cons, this]
      exact ih s
    · have : (stepN s c).last = c.2 := by unfold stepN; rw [if_neg e]
      rw [if_neg e, List.foldl_cons, List.foldl_cons, ih, this]
theorem normR_squ (x : Ty) (l : List (Int × Ty)) : normR x (squ x l) = normR x l := by
  unfold normR makeN
  have := fold_squ l (begN x)
  rw [show (begN x).last = x from rfl] at this
  rw [this]
/-- a normal form is its own -/
theorem normT_norm (t : Tab) : normT (normT t) = normT t := by
  unfold normT
  rw [resL_norm, resH_norm, normR_squ]
theorem normT_res {t u : Tab} (h1 : resH t = resH u) (h2 : resL t = resL u) : normT t = normT u := by unfold normT; rw [h1, h2]

/-! ### what a table says -/
def valL (x : Ty) (l : List (Int × Ty)) (y : Int) : Ty := l.foldl (fun a c => if c.1 ≤ y then c.2 else a) x
def RiseL (l : List (Int × Ty)) : Prop := l.Pairwise (fun a b => a.1 < b.1)
theorem valL_late (l : List (Int × Ty)) (y : Int) : ∀ x, (∀ c ∈ l, y < c.1) → valL x l y = x := by
  induction l with
  | nil => intro x _; rfl
  | cons c r ih =>
    intro x h
    have hc := h c (by simp)
    unfold valL
    rw [List.foldl_cons, if_neg (by omega)]
    exact ih x (fun d hd => h d (by simp [hd]))
theorem valL_squ (l : List (Int × Ty)) (y : Int) : ∀ (acc last : Ty), RiseL l → (acc = last ∨ ∀ c ∈ l, y < c.1) → valL acc (squ last l) y = valL acc l y := by
  induction l with
  | nil => intro acc last _ _; rfl
  | cons c r ih =>
    intro acc last hr h
    have hr2 := List.pairwise_cons.1 hr
    simp only [squ]
    by_cases e : c.2 = last
    · rw [if_pos e]
      have e2 : valL acc (c :: r) y = valL (if c.1 ≤ y then c.2 else acc) r y := rfl
      rw [e2]
      rcases h with h | h
      · have : (if c.1 ≤ y then c.2 else acc) = acc := by split; rw [e, h]; rfl
        rw [this]
        exact ih acc last hr2.2 (.inl h)
      · have hc := h c (by simp)
        rw [if_neg (by omega)]
        exact ih acc last hr2.2 (.inr fun d hd => h d (by simp [hd]))
    · rw [if_neg e]
      show valL (if c.1 ≤ y then c.2 else acc) (squ c.2 r) y = valL (if c.1 ≤ y then c.2 else acc) r y
      by_cases hc : c.1 ≤ y
      · rw [if_pos hc]
        exact ih _ _ hr2.2 (.inl rfl)
      · rw [if_neg hc]
        exact ih _ _ hr2.2 (.inr fun d hd => by have := hr2.1 d hd; omega)
theorem resL_rise (t : Tab) (ok : OkTab t) : RiseL (resL t) := by
  unfold RiseL resL
  rw [List.pairwise_map]
  exact ok.rise

/-! ### a normal form may be -/
theorem squ_sub (l : List (Int × Ty)) : ∀ last, (squ last l).Sublist l := by
  induction l with
  | nil => intro last; exact List.Sublist.refl _
  | cons c r ih =>
    intro last
    simp only [squ]
    split
    · exact (ih last).cons c
    · exact (ih c.2).cons_cons c
theorem makeN_types {x : Ty} (l : List (Int × Ty)) : ∀ s : NS, ∀ y ∈ (l.foldl stepN s).types, y ∈ s.types ∨ ∃ c ∈ l, c.2 = y := by
  induction l with
  | nil => intro s y hy; exact .inl hy
  | cons c r ih =>
    intro s y hy
    rw [List.foldl_cons] at hy
    rcases ih _ y hy with h | ⟨d, hd, rfl⟩
    · unfold stepN at h
      split at h
      · exact .inl h
      · rcases mem_add.1 h with h | h
        · exact .inl h
        · exact .inr ⟨c, by simp, h.symm⟩
    · exact .inr ⟨d, by simp [hd], rfl⟩
theorem tyD_mem (l : List Ty) (k : Int) (h0 : 0 ≤ k) (h : k < l.length) : tyD l k ∈ l := by
  unfold tyD
  rw [List.getElem?_eq_getElem (by omega)]
  exact List.getElem_mem _
theorem norm_types (t : Tab) (ok : OkTab t) : ∀ y ∈ (normT t).types, y ∈ t.types := by
  intro y hy
  rcases makeN_types (x := resH t) (resL t) (begN (resH t)) y hy with h | ⟨c, hc, rfl⟩
  · simp only [begN, List.mem_singleton] at h
    subst h
    exact tyD_mem _ _ ok.first.1 ok.first.2
  · obtain ⟨d, hd, rfl⟩ := List.mem_map.1 hc
    have := ok.ch d hd
    exact tyD_mem _ _ this.2.2.1 this.2.2.2
theorem resL_times (u : Tab) : (resL u).map (·.1) = u.chs.map (·.t) := by simp [resL]
theorem norm_times (t : Tab) : ((normT t).chs.map (·.t)).Sublist (t.chs.map (·.t)) := by
  rw [← resL_times, ← resL_times]
  have : resL (normT t) = squ (resH t) (resL t) := resL_norm _ _
  rw [this]
  exact (squ_sub _ _).map _
theorem norm_ok (t : Tab) (ok : OkTab t) : OkTab (normT t) := by
  have inv := makeN_inv (resL t) (begN (resH t)) (begN_inv (resH t))
  have hsub := norm_types t ok
  have htm := norm_times t
  have hlen := htm.length_le
  simp only [List.length_map] at hlen
  have hmany : (normT t).types.length ≤ t.types.length := length_sub _ _ inv.nodup hsub
  refine ⟨fun e => ?_, by have := ok.many; omega, by have := ok.chs; omega, fun x hx => ok.type x (hsub x hx), ⟨Int.le_refl _, ?_⟩, fun c hc => ?_, ?_⟩
  · have := inv.pos
    have e' : (makeN (resH t) (resL t)).types = [] := e
    unfold makeN at e'
    rw [e'] at this
    simp at this
  · have := inv.pos
    show (0 : Int) < ((List.foldl stepN (begN (resH t)) (resL t)).types.length : Int)
    omega
  · have hk := inv.ks c hc
    have hm : c.t ∈ t.chs.map (·.t) := htm.subset (List.mem_map.2 ⟨c, hc, rfl⟩)
    obtain ⟨d, hd, e⟩ := List.mem_map.1 hm
    have := ok.ch d hd
    rw [e] at this
    exact ⟨this.1, this.2.1, hk.1, hk.2⟩
  · have h1 : (t.chs.map (·.t)).Pairwise (· < ·) := List.pairwise_map.2 ok.rise
    exact List.pairwise_map.1 (h1.sublist htm)
theorem norm_len (t : Tab) (ok : OkTab t) : (normT t).types.length ≤ t.types.length ∧ (normT t).chs.length ≤ t.chs.length := by
  have inv := makeN_inv (resL t) (begN (resH t)) (begN_inv (resH t))
  have hlen := (norm_times t).length_le
  simp only [List.length_map] at hlen
  exact ⟨length_sub _ _ inv.nodup (norm_types t ok), hlen⟩
/-- a normal form says the same -/
theorem chkTypes_of : ∀ (l : List Ty), (∀ x ∈ l, -75600 ≤ x.off ∧ x.off ≤ 75600 ∧ abbrB x.name = true) → chkTypes l = 0
  | [], _ => rfl
  | x :: r, h => by
    obtain ⟨a, b, c⟩ := h x (by simp)
    unfold chkTypes
    rw [if_pos (by simp [okOff, a, b]), if_pos c]
    exact chkTypes_of r (fun y hy => h y (by simp [hy]))
theorem chkChs_of (last : Int) : ∀ (m : List Ch) (prev : Option Int), (∀ x ∈ m, okTime x.t = true ∧ okIdx last x.k = true) → (∀ p, prev = some p → ∀ x ∈ m, p < x.t) → m.Pairwise (fun a b => a.t < b.t) → chkChs last prev m = 0
  | [], _, _, _, _ => rfl
  | c :: r, prev, h1, h2, h3 => by
    have hc := h1 c (by simp)
    have hp := List.pairwise_cons.1 h3
    unfold chkChs
    rw [if_pos (by simp [hc.1, hc.2])]
    have hb : before prev c.t = false := by
      unfold before
      cases prev with
      | none => rfl
      | some p => have := h2 p rfl c (by simp); simp; omega
    rw [if_neg (by simp [hb])]
    exact chkChs_of last r (some c.t) (fun x hx => h1 x (by simp [hx])) (fun p hp' x hx => by cases hp'; exact hp.1 x hx) hp.2
theorem ok_chk (t : Tab) (ok : OkTab t) : chk t = 0 := by
  unfold chk
  rw [if_neg (by have h1 := ok.many; have h2 := ok.chs; simp [big]; omega), if_neg ok.ne, if_pos (chkTypes_of _ ok.type), if_pos (by have := ok.first; simp [okIdx]; omega)]
  exact chkChs_of _ _ none (fun x hx => by have := ok.ch x hx; simp [okTime, okIdx]; omega) (by simp) ok.rise
theorem norm_chk (t : Tab) (h : chk t = 0) : chk (normT t) = 0 := ok_chk _ (norm_ok t (chk_ok t h))

/-! ### the order of a normal form's types -/
/-- the law's run over the changes -/
def runO : Int → Int → List Ch → Option (Int × Int)
  | next, last, [] => some (next, last)
  | next, last, c :: r => if c.k > next ∨ c.k = last then none else runO (if c.k = next then next + 1 else next) c.k r
theorem runO_snoc (m : List Ch) (c : Ch) : ∀ next last n' l', runO next last m = some (n', l') → runO next last (m ++ [c]) = if c.k > n' ∨ c.k = l' then none else some (if c.k = n' then n' + 1 else n', c.k) := by
  induction m with
  | nil => intro next last n' l' h; simp only [runO, Option.some.injEq, Prod.mk.injEq] at h; obtain ⟨rfl, rfl⟩ := h; simp [runO]
  | cons d r ih =>
    intro next last n' l' h
    simp only [runO, List.cons_append] at h ⊢
    split at h
    · cases h
    · next hd => rw [if_neg hd]; exact ih _ _ _ _ h
theorem idx_inj {l : List Ty} {x y : Ty} (hx : x ∈ l) (h : idxTy l x = idxTy l y) (hn : x ≠ y) : False := by
  have h1 := idx_in hx
  by_cases hy : y ∈ l
  · have h2 := idx_in hy
    rw [← h, h1.2] at h2
    exact hn h2.2
  · have := idx_out hy
    omega
theorem idx_add {l : List Ty} {x y : Ty} (h : y ∈ l) : idxTy (addTy l x) y = idxTy l y := by
  unfold addTy
  split
  · rfl
  · unfold idxTy
    rw [List.findIdx_append, if_pos (show l.findIdx (fun z => decide (z = y)) < l.length from (idx_in h).1)]
theorem idx_new (l : List Ty) (x : Ty) : idxTy (addTy l x) x = idxTy l x := by
  unfold addTy
  split
  · rfl
  · next h =>
    rw [idx_out h]
    unfold idxTy
    have : ¬ l.findIdx (fun y => decide (y = x)) < l.length := by
      have := idx_out h
      unfold idxTy at this
      omega
    rw [List.findIdx_append, if_neg this]
    simp
theorem add_len (l : List Ty) (x : Ty) : ((addTy l x).length : Int) = if (idxTy l x : Int) = l.length then (l.length : Int) + 1 else l.length := by
  unfold addTy
  by_cases h : x ∈ l
  · have := (idx_in h).1
    rw [if_pos h, if_neg (by omega)]
  · rw [if_neg h, if_pos (by rw [idx_out h])]
    simp
theorem makeN_order {x : Ty} (l : List (Int × Ty)) : ∀ s, NInv x s → runO 1 0 s.chs = some ((s.types.length : Int), (idxTy s.types s.last : Int)) →
    runO 1 0 (l.foldl stepN s).chs = some (((l.foldl stepN s).types.length : Int), (idxTy (l.foldl stepN s).types (l.foldl stepN s).last : Int)) := by
  induction l with
  | nil => intro s _ h; exact h
  | cons c r ih =>
    intro s hs h
    rw [List.foldl_cons]
    refine ih _ (stepN_inv hs c) ?_
    unfold stepN
    split
    · exact h
    · next hne =>
      show runO 1 0 (s.chs ++ [⟨c.1, idxTy s.types c.2⟩]) = some (((addTy s.types c.2).length : Int), (idxTy (addTy s.types c.2) c.2 : Int))
      rw [runO_snoc _ _ _ _ _ _ h, if_neg ?_, add_len, idx_new]
      have h1 := idx_le s.types c.2
      have h2 : ¬ ((idxTy s.types c.2 : Nat) : Int) = (idxTy s.types s.last : Nat) := by
        intro e
        exact idx_inj hs.lastIn (by omega) (fun e2 => hne e2.symm)
      show ¬ (((idxTy s.types c.2 : Nat) : Int) > (s.types.length : Int) ∨ ((idxTy s.types c.2 : Nat) : Int) = (idxTy s.types s.last : Nat))
      omega
theorem norm_order (t : Tab) : ∃ l : Int, runO 1 0 (normT t).chs = some (((normT t).types.length : Int), l) := by
  refine ⟨_, makeN_order (resL t) (begN (resH t)) (begN_inv _) ?_⟩
  simp [begN, runO, idxTy]
end Go.Proofs.YtmjakhageehcoaaDoor
