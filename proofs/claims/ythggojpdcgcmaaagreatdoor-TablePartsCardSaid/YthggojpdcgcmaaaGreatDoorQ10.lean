/- Normal tables: plain Lean, but for what they say at a time. What a list of changes says, by steps of one second; lists that rise are told by their members: plain. table.Make: what it answers; when a table changes: plain. (Turned).Within: the turns of an era within a span. names.Resolve: the walk. -/
import Derived.Test.YthggojpdcgcmaaaGreatDoorQ09
import Derived.Test.YthggojpdcgcmaaaGreatDoorQ08
import Derived.Test.YthggojpdcgcmaaaGreatDoorQ07
namespace Go.Proofs.YthggojpdcgcmaaaGreatDoor
open Classical
set_option linter.unusedVariables false

/-- what the maker has -/
structure NS where
  types : List Ty
  chs : List Ch
  last : Ty
noncomputable def idxTy (l : List Ty) (x : Ty) : Nat := l.findIdx (fun y => decide (y = x))
noncomputable def addTy (l : List Ty) (x : Ty) : List Ty := if x ∈ l then l else l ++ [x]
noncomputable def stepN (s : NS) (c : Int × Ty) : NS := if c.2 = s.last then s else ⟨addTy s.types c.2, s.chs ++ [⟨c.1, idxTy s.types c.2⟩], c.2⟩
def begN (x : Ty) : NS := ⟨[x], [], x⟩
noncomputable def makeN (x : Ty) (l : List (Int × Ty)) : NS := l.foldl stepN (begN x)
noncomputable def normR (x : Ty) (l : List (Int × Ty)) : Tab := ⟨(makeN x l).types, 0, (makeN x l).chs⟩
def resH (t : Tab) : Ty := tyD t.types t.first
def resL (t : Tab) : List (Int × Ty) := t.chs.map fun c => (c.t, tyD t.types c.k)
noncomputable def normT (t : Tab) : Tab := normR (resH t) (resL t)

/-- changes to another type alone -/
noncomputable def squ : Ty → List (Int × Ty) → List (Int × Ty)
  | _, [] => []
  | last, c :: r => if c.2 = last then squ last r else c :: squ c.2 r

theorem idx_in {l : List Ty} {x : Ty} (h : x ∈ l) : idxTy l x < l.length ∧ tyD l (idxTy l x : Nat) = x := by
  have hlt : idxTy l x < l.length := List.findIdx_lt_length_of_exists ⟨x, h, by simp⟩
  refine ⟨hlt, ?_⟩
  have h2 := List.findIdx_getElem (p := fun y => decide (y = x)) (xs := l) (w := hlt)
  have h3 : l[l.findIdx fun y => decide (y = x)] = x := by simpa using h2
  unfold tyD idxTy
  rw [show ((l.findIdx (fun y => decide (y = x)) : Nat) : Int).toNat = l.findIdx (fun y => decide (y = x)) by omega, List.getElem?_eq_getElem (show l.findIdx (fun y => decide (y = x)) < l.length from hlt)]
  exact h3
theorem idx_out {l : List Ty} {x : Ty} (h : x ∉ l) : idxTy l x = l.length := by
  unfold idxTy
  exact List.findIdx_eq_length_of_false (fun y hy => by simp; rintro rfl; exact h hy)
theorem idx_le (l : List Ty) (x : Ty) : idxTy l x ≤ l.length := List.findIdx_le_length
theorem tyD_app (l m : List Ty) (k : Int) (h0 : 0 ≤ k) (h : k < l.length) : tyD (l ++ m) k = tyD l k := by
  unfold tyD
  rw [List.getElem?_append_left (by omega)]
theorem tyD_add (l : List Ty) (x : Ty) (k : Int) (h0 : 0 ≤ k) (h : k < l.length) : tyD (addTy l x) k = tyD l k := by
  unfold addTy
  split
  · rfl
  · exact tyD_app _ _ _ h0 h
theorem tyD_idx (l : List Ty) (x : Ty) : tyD (addTy l x) (idxTy l x : Nat) = x ∧ idxTy l x < (addTy l x).length := by
  unfold addTy
  split
  · next h => exact ⟨(idx_in h).2, (idx_in h).1⟩
  · next h =>
    rw [idx_out h]
    refine ⟨?_, by simp⟩
    unfold tyD
    simp
theorem add_length (l : List Ty) (x : Ty) : l.length ≤ (addTy l x).length := by
  unfold addTy; split <;> simp
theorem add_nodup {l : List Ty} {x : Ty} (h : l.Nodup) : (addTy l x).Nodup := by
  unfold addTy
  split
  · exact h
  · next hx =>
    rw [List.nodup_append]
    refine ⟨h, by simp, ?_⟩
    intro a ha b hb
    simp only [List.mem_singleton] at hb
    subst hb
    rintro rfl
    exact hx ha
theorem mem_add {l : List Ty} {x y : Ty} : y ∈ addTy l x ↔ y ∈ l ∨ y = x := by
  unfold addTy
  split
  · next h => exact ⟨.inl, fun h2 => h2.elim id (fun e => e ▸ h)⟩
  · simp

/-- what holds of the maker all along -/
structure NInv (x : Ty) (s : NS) : Prop where
  nodup : s.types.Nodup
  head : tyD s.types 0 = x
  pos : 0 < s.types.length
  lastIn : s.last ∈ s.types
  ks : ∀ c ∈ s.chs, 0 ≤ c.k ∧ c.k < s.types.length

theorem begN_inv (x : Ty) : NInv x (begN x) := ⟨by simp [begN], by simp [begN, tyD], by simp [begN], by simp [begN], by simp [begN]⟩
theorem stepN_inv {x : Ty} {s : NS} (h : NInv x s) (c : Int × Ty) : NInv x (stepN s c) := by
  unfold stepN
  split
  · exact h
  · have hl := add_length s.types c.2
    refine ⟨add_nodup h.nodup, (tyD_add _ _ 0 (by omega) (by have := h.pos; omega)).trans h.head, by have := h.pos; show 0 < (addTy s.types c.2).length; omega, mem_add.2 (.inr rfl), ?_⟩
    intro d hd
    simp only [List.mem_append, List.mem_singleton] at hd
    show 0 ≤ d.k ∧ d.k < ((addTy s.types c.2).length : Int)
    rcases hd with hd | rfl
    · have := h.ks d hd; omega
    · have := (tyD_idx s.types c.2).2
      show 0 ≤ ((idxTy s.types c.2 : Nat) : Int) ∧ ((idxTy s.types c.2 : Nat) : Int) < _
      omega
theorem makeN_inv {x : Ty} (l : List (Int × Ty)) : ∀ s, NInv x s → NInv x (l.foldl stepN s) := by
  induction l with
  | nil => intro s h; exact h
  | cons c r ih => intro s h; exact ih _ (stepN_inv h c)

/-- what the maker's changes say -/
def resS (s : NS) : List (Int × Ty) := s.chs.map fun c => (c.t, tyD s.types c.k)
theorem stepN_res {x : Ty} {s : NS} (h : NInv x s) (c : Int × Ty) : resS (stepN s c) = resS s ++ (if c.2 = s.last then [] else [c]) := by
  unfold stepN
  split
  · simp
  · unfold resS
    simp only [List.map_append, List.map_cons, List.map_nil]
    congr 1
    · apply List.map_congr_left
      intro d hd
      have := h.ks d hd
      rw [tyD_add _ _ _ this.1 this.2]
    · rw [(tyD_idx s.types c.2).1]
theorem makeN_res {x : Ty} (l : List (Int × Ty)) : ∀ s, NInv x s → resS (l.foldl stepN s) = resS s ++ squ s.last l := by
  induction l with
  | nil => intro s _; simp [squ]
  | cons c r ih =>
    intro s h
    rw [List.foldl_cons, ih _ (stepN_inv h c), stepN_res h c]
    simp only [squ]
    by_cases e : c.2 = s.last
    · have : stepN s c = s := if_pos e
      rw [if_pos e, if_pos e, this]
      simp
    · have : (stepN s c).last = c.2 := by unfold stepN; rw [if_neg e]
      rw [if_neg e, if_neg e, this]
      simp
theorem resL_norm (x : Ty) (l : List (Int × Ty)) : resL (normR x l) = squ x l := by
  have := makeN_res l (begN x) (begN_inv x)
  exact this
theorem resH_norm (x : Ty) (l : List (Int × Ty)) : resH (normR x l) = x := (makeN_inv l (begN x) (begN_inv x)).head

theorem fold_squ (l : List (Int × Ty)) : ∀ s : NS, l.foldl stepN s = (squ s.last l).foldl stepN s := by
  induction l with
  | nil => intro s; rfl
  | cons c r ih =>
    intro s
    simp only [squ]
    by_cases e : c.2 = s.last
    · have : stepN s c = s := if_pos e
      rw [if_pos e, List.foldl_cons, this]
      exact ih s
    · have : (stepN s c).last = c.2 := by unfold stepN; rw [if_neg e]
      rw [if_neg e, List.foldl_cons, List.foldl_cons, ih, this]
theorem normR_squ (x : Ty) (l : List (Int × Ty)) : normR x (squ x l) = normR x l := by
  unfold normR makeN
  have := fold_squ l (begN x)
  rw [show (begN x).last = x from rfl] at this
  rw [this]
/-- a normal form is its own -/
theorem normT_norm (t : Tab) : normT (normT t) = normT t := by
  unfold normT
  rw [resL_norm, resH_norm, normR_squ]
theorem normT_res {t u : Tab} (h1 : resH t = resH u) (h2 : resL t = resL u) : normT t = normT u := by unfold normT; rw [h1, h2]

/-! ### what a table says -/
def valL (x : Ty) (l : List (Int × Ty)) (y : Int) : Ty := l.foldl (fun a c => if c.1 ≤ y then c.2 else a) x
def RiseL (l : List (Int × Ty)) : Prop := l.Pairwise (fun a b => a.1 < b.1)
theorem valL_late (l : List (Int × Ty)) (y : Int) : ∀ x, (∀ c ∈ l, y < c.1) → valL x l y = x := by
  induction l with
  | nil => intro x _; rfl
  | cons c r ih =>
    intro x h
    have hc := h c (by simp)
    unfold valL
    rw [List.foldl_cons, if_neg (by omega)]
    exact ih x (fun d hd => h d (by simp [hd]))
theorem valL_squ (l : List (Int × Ty)) (y : Int) : ∀ (acc last : Ty), RiseL l → (acc = last ∨ ∀ c ∈ l, y < c.1) → valL acc (squ last l) y = valL acc l y := by
  induction l with
  | nil => intro acc last _ _; rfl
  | cons c r ih =>
    intro acc last hr h
    have hr2 := List.pairwise_cons.1 hr
    simp only [squ]
    by_cases e : c.2 = last
    · rw [if_pos e]
      have e2 : valL acc (c :: r) y = valL (if c.1 ≤ y then c.2 else acc) r y := rfl
      rw [e2]
      rcases h with h | h
      · have : (if c.1 ≤ y then c.2 else acc) = acc := by split; rw [e, h]; rfl
        rw [this]
        exact ih acc last hr2.2 (.inl h)
      · have hc := h c (by simp)
        rw [if_neg (by omega)]
        exact ih acc last hr2.2 (.inr fun d hd => h d (by simp [hd]))
    · rw [if_neg e]
      show valL (if c.1 ≤ y then c.2 else acc) (squ c.2 r) y = valL (if c.1 ≤ y then c.2 else acc) r y
      by_cases hc : c.1 ≤ y
      · rw [if_pos hc]
        exact ih _ _ hr2.2 (.inl rfl)
      · rw [if_neg hc]
        exact ih _ _ hr2.2 (.inr fun d hd => by have := hr2.1 d hd; omega)
theorem resL_rise (t : Tab) (ok : OkTab t) : RiseL (resL t) := by
  unfold RiseL resL
  rw [List.pairwise_map]
  exact ok.rise

/-! ### a normal form may be -/
theorem squ_sub (l : List (Int × Ty)) : ∀ last, (squ last l).Sublist l := by
  induction l with
  | nil => intro last; exact List.Sublist.refl _
  | cons c r ih =>
    intro last
    simp only [squ]
    split
    · exact (ih last).cons c
    · exact (ih c.2).cons_cons c
theorem makeN_types {x : Ty} (l : List (Int × Ty)) : ∀ s : NS, ∀ y ∈ (l.foldl stepN s).types, y ∈ s.types ∨ ∃ c ∈ l, c.2 = y := by
  induction l with
  | nil => intro s y hy; exact .inl hy
  | cons c r ih =>
    intro s y hy
    rw [List.foldl_cons] at hy
    rcases ih _ y hy with h | ⟨d, hd, rfl⟩
    · unfold stepN at h
      split at h
      · exact .inl h
      · rcases mem_add.1 h with h | h
        · exact .inl h
        · exact .inr ⟨c, by simp, h.symm⟩
    · exact .inr ⟨d, by simp [hd], rfl⟩
theorem tyD_mem (l : List Ty) (k : Int) (h0 : 0 ≤ k) (h : k < l.length) : tyD l k ∈ l := by
  unfold tyD
  rw [List.getElem?_eq_getElem (by omega)]
  exact List.getElem_mem _
theorem norm_types (t : Tab) (ok : OkTab t) : ∀ y ∈ (normT t).types, y ∈ t.types := by
  intro y hy
  rcases makeN_types (x := resH t) (resL t) (begN (resH t)) y hy with h | ⟨c, hc, rfl⟩
  · simp only [begN, List.mem_singleton] at h
    subst h
    exact tyD_mem _ _ ok.first.1 ok.first.2
  · obtain ⟨d, hd, rfl⟩ := List.mem_map.1 hc
    have := ok.ch d hd
    exact tyD_mem _ _ this.2.2.1 this.2.2.2
theorem resL_times (u : Tab) : (resL u).map (·.1) = u.chs.map (·.t) := by simp [resL]
theorem norm_times (t : Tab) : ((normT t).chs.map (·.t)).Sublist (t.chs.map (·.t)) := by
  rw [← resL_times, ← resL_times]
  have : resL (normT t) = squ (resH t) (resL t) := resL_norm _ _
  rw [this]
  exact (squ_sub _ _).map _
theorem norm_ok (t : Tab) (ok : OkTab t) : OkTab (normT t) := by
  have inv := makeN_inv (resL t) (begN (resH t)) (begN_inv (resH t))
  have hsub := norm_types t ok
  have htm := norm_times t
  have hlen := htm.length_le
  simp only [List.length_map] at hlen
  have hmany : (normT t).types.length ≤ t.types.length := length_sub _ _ inv.nodup hsub
  refine ⟨fun e => ?_, by have := ok.many; omega, by have := ok.chs; omega, fun x hx => ok.type x (hsub x hx), ⟨Int.le_refl _, ?_⟩, fun c hc => ?_, ?_⟩
  · have := inv.pos
    have e' : (makeN (resH t) (resL t)).types = [] := e
    unfold makeN at e'
    rw [e'] at this
    simp at this
  · have := inv.pos
    show (0 : Int) < ((List.foldl stepN (begN (resH t)) (resL t)).types.length : Int)
    omega
  · have hk := inv.ks c hc
    have hm : c.t ∈ t.chs.map (·.t) := htm.subset (List.mem_map.2 ⟨c, hc, rfl⟩)
    obtain ⟨d, hd, e⟩ := List.mem_map.1 hm
    have := ok.ch d hd
    rw [e] at this
    exact ⟨this.1, this.2.1, hk.1, hk.2⟩
  · have h1 : (t.chs.map (·.t)).Pairwise (· < ·) := List.pairwise_map.2 ok.rise
    exact List.pairwise_map.1 (h1.sublist htm)
theorem norm_len (t : Tab) (ok : OkTab t) : (normT t).types.length ≤ t.types.length ∧ (normT t).chs.length ≤ t.chs.length := by
  have inv := makeN_inv (resL t) (begN (resH t)) (begN_inv (resH t))
  have hlen := (norm_times t).length_le
  simp only [List.length_map] at hlen
  exact ⟨length_sub _ _ inv.nodup (norm_types t ok), hlen⟩
/-- a normal form says the same -/
theorem chkTypes_of : ∀ (l : List Ty), (∀ x ∈ l, -75600 ≤ x.off ∧ x.off ≤ 75600 ∧ abbrB x.name = true) → chkTypes l = 0
  | [], _ => rfl
  | x :: r, h => by
    obtain ⟨a, b, c⟩ := h x (by simp)
    unfold chkTypes
    rw [if_pos (by simp [okOff, a, b]), if_pos c]
    exact chkTypes_of r (fun y hy => h y (by simp [hy]))
theorem chkChs_of (last : Int) : ∀ (m : List Ch) (prev : Option Int), (∀ x ∈ m, okTime x.t = true ∧ okIdx last x.k = true) → (∀ p, prev = some p → ∀ x ∈ m, p < x.t) → m.Pairwise (fun a b => a.t < b.t) → chkChs last prev m = 0
  | [], _, _, _, _ => rfl
  | c :: r, prev, h1, h2, h3 => by
    have hc := h1 c (by simp)
    have hp := List.pairwise_cons.1 h3
    unfold chkChs
    rw [if_pos (by simp [hc.1, hc.2])]
    have hb : before prev c.t = false := by
      unfold before
      cases prev with
      | none => rfl
      | some p => have := h2 p rfl c (by simp); simp; omega
    rw [if_neg (by simp [hb])]
    exact chkChs_of last r (some c.t) (fun x hx => h1 x (by simp [hx])) (fun p hp' x hx => by cases hp'; exact hp.1 x hx) hp.2
theorem ok_chk (t : Tab) (ok : OkTab t) : chk t = 0 := by
  unfold chk
  rw [if_neg (by have h1 := ok.many; have h2 := ok.chs; simp [big]; omega), if_neg ok.ne, if_pos (chkTypes_of _ ok.type), if_pos (by have := ok.first; simp [okIdx]; omega)]
  exact chkChs_of _ _ none (fun x hx => by have := ok.ch x hx; simp [okTime, okIdx]; omega) (by simp) ok.rise
theorem norm_chk (t : Tab) (h : chk t = 0) : chk (normT t) = 0 := ok_chk _ (norm_ok t (chk_ok t h))

/-! ### the order of a normal form's types -/
/-- the law's run over the changes -/
def runO : Int → Int → List Ch → Option (Int × Int)
  | next, last, [] => some (next, last)
  | next, last, c :: r => if c.k > next ∨ c.k = last then none else runO (if c.k = next then next + 1 else next) c.k r
theorem runO_snoc (m : List Ch) (c : Ch) : ∀ next last n' l', runO next last m = some (n', l') → runO next last (m ++ [c]) = if c.k > n' ∨ c.k = l' then none else some (if c.k = n' then n' + 1 else n', c.k) := by
  induction m with
  | nil => intro next last n' l' h; simp only [runO, Option.some.injEq, Prod.mk.injEq] at h; obtain ⟨rfl, rfl⟩ := h; simp [runO]
  | cons d r ih =>
    intro next last n' l' h
    simp only [runO, List.cons_append] at h ⊢
    split at h
    · cases h
    · next hd => rw [if_neg hd]; exact ih _ _ _ _ h
theorem idx_inj {l : List Ty} {x y : Ty} (hx : x ∈ l) (h : idxTy l x = idxTy l y) (hn : x ≠ y) : False := by
  have h1 := idx_in hx
  by_cases hy : y ∈ l
  · have h2 := idx_in hy
    rw [← h, h1.2] at h2
    exact hn h2.2
  · have := idx_out hy
    omega
theorem idx_add {l : List Ty} {x y : Ty} (h : y ∈ l) : idxTy (addTy l x) y = idxTy l y := by
  unfold addTy
  split
  · rfl
  · unfold idxTy
    rw [List.findIdx_append, if_pos (show l.findIdx (fun z => decide (z = y)) < l.length from (idx_in h).1)]
theorem idx_new (l : List Ty) (x : Ty) : idxTy (addTy l x) x = idxTy l x := by
  unfold addTy
  split
  · rfl
  · next h =>
    rw [idx_out h]
    unfold idxTy
    have : ¬ l.findIdx (fun y => decide (y = x)) < l.length := by
      have := idx_out h
      unfold idxTy at this
      omega
    rw [List.findIdx_append, if_neg this]
    simp
theorem add_len (l : List Ty) (x : Ty) : ((addTy l x).length : Int) = if (idxTy l x : Int) = l.length then (l.length : Int) + 1 else l.length := by
  unfold addTy
  by_cases h : x ∈ l
  · have := (idx_in h).1
    rw [if_pos h, if_neg (by omega)]
  · rw [if_neg h, if_pos (by rw [idx_out h])]
    simp
theorem makeN_order {x : Ty} (l : List (Int × Ty)) : ∀ s, NInv x s → runO 1 0 s.chs = some ((s.types.length : Int), (idxTy s.types s.last : Int)) →
    runO 1 0 (l.foldl stepN s).chs = some (((l.foldl stepN s).types.length : Int), (idxTy (l.foldl stepN s).types (l.foldl stepN s).last : Int)) := by
  induction l with
  | nil => intro s _ h; exact h
  | cons c r ih =>
    intro s hs h
    rw [List.foldl_cons]
    refine ih _ (stepN_inv hs c) ?_
    unfold stepN
    split
    · exact h
    · next hne =>
      show runO 1 0 (s.chs ++ [⟨c.1, idxTy s.types c.2⟩]) = some (((addTy s.types c.2).length : Int), (idxTy (addTy s.types c.2) c.2 : Int))
      rw [runO_snoc _ _ _ _ _ _ h, if_neg ?_, add_len, idx_new]
      have h1 := idx_le s.types c.2
      have h2 : ¬ ((idxTy s.types c.2 : Nat) : Int) = (idxTy s.types s.last : Nat) := by
        intro e
        exact idx_inj hs.lastIn (by omega) (fun e2 => hne e2.symm)
      show ¬ (((idxTy s.types c.2 : Nat) : Int) > (s.types.length : Int) ∨ ((idxTy s.types c.2 : Nat) : Int) = (idxTy s.types s.last : Nat))
      omega
theorem norm_order (t : Tab) : ∃ l : Int, runO 1 0 (normT t).chs = some (((normT t).types.length : Int), l) := by
  refine ⟨_, makeN_order (resL t) (begN (resH t)) (begN_inv _) ?_⟩
  simp [begN, runO, idxTy]
end Go.Proofs.YthggojpdcgcmaaaGreatDoor
namespace Go.Proofs.YthggojpdcgcmaaaGreatDoor
open Classical
set_option linter.unusedVariables false
set_option linter.unusedSimpArgs false

theorem valL_cons (x : Ty) (c : Int × Ty) (r : List (Int × Ty)) (y : Int) : valL x (c :: r) y = valL (if c.1 ≤ y then c.2 else x) r y := rfl
theorem valL_none {l : List (Int × Ty)} {y : Int} (h : ∀ c ∈ l, c.1 ≠ y) : ∀ x, valL x l y = valL x l (y - 1) := by
  induction l with
  | nil => intro x; rfl
  | cons c r ih =>
    intro x
    have hc := h c (List.mem_cons_self ..)
    rw [valL_cons, valL_cons, ih fun d hd => h d (List.mem_cons_of_mem _ hd)]
    by_cases e : c.1 ≤ y
    · rw [if_pos e, if_pos (by omega)]
    · rw [if_neg e, if_neg (by omega)]
theorem valL_at {l : List (Int × Ty)} (hr : RiseL l) {c : Int × Ty} (hc : c ∈ l) : ∀ x, valL x l c.1 = c.2 := by
  induction l with
  | nil => cases hc
  | cons d r ih =>
    intro x
    have hp := List.pairwise_cons.1 hr
    rw [valL_cons]
    rcases List.mem_cons.1 hc with rfl | hc
    · rw [if_pos (Int.le_refl _)]
      exact valL_late _ _ _ fun d hd => hp.1 d hd
    · exact ih hp.2 hc _
theorem valL_mem (l : List (Int × Ty)) (y : Int) : ∀ x, valL x l y = x ∨ ∃ c ∈ l, c.1 ≤ y ∧ valL x l y = c.2 := by
  induction l with
  | nil => intro x; exact .inl rfl
  | cons d r ih =>
    intro x
    rw [valL_cons]
    rcases ih (if d.1 ≤ y then d.2 else x) with h | ⟨c, hc, h1, h2⟩
    · by_cases e : d.1 ≤ y
      · rw [if_pos e] at h ⊢
        exact .inr ⟨d, List.mem_cons_self .., e, h⟩
      · rw [if_neg e] at h ⊢
        exact .inl h
    · exact .inr ⟨c, List.mem_cons_of_mem _ hc, h1, h2⟩
/-- a function that turns at the list's times alone is what the list says -/
theorem valL_fun {l : List (Int × Ty)} (hr : RiseL l) (f : Int → Ty) (lo : Int) (hlo : ∀ c ∈ l, lo < c.1) (hf : ∀ c ∈ l, c.2 = f c.1) : ∀ (n : Nat), (∀ z, lo < z → z ≤ lo + n → (∀ c ∈ l, c.1 ≠ z) → f z = f (z - 1)) → valL (f lo) l (lo + n) = f (lo + n)
  | 0, _ => by
    rw [show lo + ((0 : Nat) : Int) = lo by omega]
    exact valL_late _ _ _ hlo
  | n + 1, hs => by
    have ih := valL_fun hr f lo hlo hf n fun z h1 h2 => hs z h1 (by omega)
    by_cases h : ∃ c ∈ l, c.1 = lo + ((n + 1 : Nat) : Int)
    · obtain ⟨c, hc, e⟩ := h
      rw [← e, valL_at hr hc, hf c hc]
    · have hn : ∀ c ∈ l, c.1 ≠ lo + ((n + 1 : Nat) : Int) := fun c hc e => h ⟨c, hc, e⟩
      rw [valL_none hn, hs _ (by omega) (Int.le_refl _) hn, show lo + ((n + 1 : Nat) : Int) - 1 = lo + (n : Int) by omega]
      exact ih
/-- a list of changes to other types: where it changes is where what it says is another one -/
theorem squ_mem {l : List (Int × Ty)} : ∀ {x : Ty}, RiseL l → ∀ c : Int × Ty, c ∈ squ x l ↔ (valL x l c.1 ≠ valL x l (c.1 - 1) ∧ c.2 = valL x l c.1) := by
  induction l with
  | nil => intro x _ c; simp [squ, valL]
  | cons d r ih =>
    intro x hr c
    have hp := List.pairwise_cons.1 hr
    simp only [squ]
    by_cases e : d.2 = x
    · rw [if_pos e, ih hp.2]
      have : ∀ y, valL x (d :: r) y = valL x r y := fun y => by
        rw [valL_cons]
        have : (if d.1 ≤ y then d.2 else x) = x := by split; exact e; rfl
        rw [this]
      rw [this, this]
    · rw [if_neg e, List.mem_cons, ih hp.2]
      rw [valL_cons, valL_cons]
      have late : ∀ y, y ≤ d.1 → ∀ z, valL z r y = z := fun y hy z => valL_late _ _ _ fun q hq => by have := hp.1 q hq; omega
      rcases Int.lt_trichotomy c.1 d.1 with h | h | h
      · rw [if_neg (by omega), if_neg (by omega), late _ (by omega), late _ (by omega), late _ (by omega), late _ (by omega)]
        constructor
        · rintro (rfl | ⟨h1, -⟩)
          · omega
          · exact absurd rfl h1
        · rintro ⟨h1, -⟩
          exact absurd rfl h1
      · rw [if_pos (by omega), if_neg (by omega), late _ (by omega), late _ (by omega), late _ (by omega)]
        constructor
        · rintro (rfl | ⟨h1, -⟩)
          · exact ⟨e, rfl⟩
          · exact absurd rfl h1
        · rintro ⟨h1, h2⟩
          exact .inl (Prod.ext h h2)
      · rw [if_pos (by omega), if_pos (by omega)]
        constructor
        · rintro (rfl | h1)
          · omega
          · exact h1
        · intro h1
          exact .inr h1
theorem squ_rise {l : List (Int × Ty)} (h : RiseL l) (x : Ty) : RiseL (squ x l) := h.sublist (squ_sub l x)
/-- lists that rise are told by their members -/
theorem rise_ext : ∀ {l m : List (Int × Ty)}, RiseL l → RiseL m → (∀ c, c ∈ l ↔ c ∈ m) → l = m
  | [], [], _, _, _ => rfl
  | [], d :: m, _, _, h => absurd ((h d).2 (List.mem_cons_self ..)) (List.not_mem_nil)
  | c :: l, [], _, _, h => absurd ((h c).1 (List.mem_cons_self ..)) (List.not_mem_nil)
  | c :: l, d :: m, hl, hm, h => by
    have hp := List.pairwise_cons.1 hl
    have hq := List.pairwise_cons.1 hm
    have e : c = d := by
      rcases List.mem_cons.1 ((h c).1 (List.mem_cons_self ..)) with e | h1
      · exact e
      · rcases List.mem_cons.1 ((h d).2 (List.mem_cons_self ..)) with e | h2
        · exact e.symm
        · have := hq.1 c h1; have := hp.1 d h2; omega
    subst e
    rw [rise_ext hp.2 hq.2 fun x => ?_]
    constructor
    · intro hx
      rcases List.mem_cons.1 ((h x).1 (List.mem_cons_of_mem _ hx)) with rfl | h1
      · have := hp.1 x hx; omega
      · exact h1
    · intro hx
      rcases List.mem_cons.1 ((h x).2 (List.mem_cons_of_mem _ hx)) with rfl | h1
      · have := hq.1 x hx; omega
      · exact h1
/-- the types of a normal table -/
theorem norm_tyMem (x : Ty) (l : List (Int × Ty)) (y : Ty) : y ∈ (normR x l).types ↔ y = x ∨ ∃ c ∈ squ x l, c.2 = y := by
  have inv := makeN_inv l (begN x) (begN_inv x)
  have hres : resL (normR x l) = squ x l := resL_norm x l
  have hH : tyD (normR x l).types 0 = x := inv.head
  constructor
  · intro hy
    have hy2 : y ∈ (normR x (squ x l)).types := by rw [normR_squ]; exact hy
    rcases makeN_types (x := x) (squ x l) (begN x) y hy2 with h | ⟨c, hc, rfl⟩
    · simp only [begN, List.mem_singleton] at h; exact .inl h
    · exact .inr ⟨c, hc, rfl⟩
  · rintro (hy | ⟨c, hc, rfl⟩)
    · have hm : tyD (normR x l).types 0 ∈ (normR x l).types := tyD_mem (normR x l).types 0 (Int.le_refl _) (by have h0 : 0 < (normR x l).types.length := inv.pos; omega)
      rw [hH] at hm
      rw [hy]
      exact hm
    · rw [← hres] at hc
      obtain ⟨d, hd, rfl⟩ := List.mem_map.1 hc
      have := inv.ks d hd
      exact tyD_mem _ _ this.1 this.2
theorem norm_nodup (x : Ty) (l : List (Int × Ty)) : (normR x l).types.Nodup := (makeN_inv l (begN x) (begN_inv x)).nodup
theorem norm_chsLen (x : Ty) (l : List (Int × Ty)) : (normR x l).chs.length = (squ x l).length := by
  rw [← resL_norm x l]; simp [resL]
theorem norm_chT (x : Ty) (l : List (Int × Ty)) : (normR x l).chs.map (·.t) = (squ x l).map (·.1) := by
  rw [← resL_norm x l, resL_times]
/-- a normal table of types and times that may be may be -/
theorem normR_ok {x : Ty} {l : List (Int × Ty)} (hr : RiseL l) (hx : ∀ y, (y = x ∨ ∃ c ∈ l, c.2 = y) → -75600 ≤ y.off ∧ y.off ≤ 75600 ∧ abbrB y.name = true) (ht : ∀ c ∈ l, -1099511627776 ≤ c.1 ∧ c.1 ≤ 1099511627776)
    (h1 : (normR x l).types.length ≤ 250) (h2 : (normR x l).chs.length ≤ 1000) : OkTab (normR x l) := by
  have inv := makeN_inv l (begN x) (begN_inv x)
  have hpos : 0 < (normR x l).types.length := inv.pos
  have htm : ((normR x l).chs.map (·.t)).Sublist (l.map (·.1)) := by rw [norm_chT]; exact (squ_sub l x).map _
  refine ⟨fun e => by rw [e] at hpos; simp at hpos, h1, h2, fun y hy => ?_, ⟨Int.le_refl _, by show (0 : Int) < _; omega⟩, fun c hc => ?_, ?_⟩
  · refine hx y ?_
    rcases (norm_tyMem x l y).1 hy with h | ⟨c, hc, e⟩
    · exact .inl h
    · exact .inr ⟨c, (squ_sub l x).subset hc, e⟩
  · obtain ⟨d, hd, e⟩ := List.mem_map.1 (htm.subset (List.mem_map.2 ⟨c, hc, rfl⟩))
    have := ht d hd
    have hk := inv.ks c hc
    rw [e] at this
    exact ⟨this.1, this.2, hk.1, hk.2⟩
  · have h1 : (l.map (·.1)).Pairwise (· < ·) := List.pairwise_map.2 hr
    exact List.pairwise_map.1 (h1.sublist htm)
end Go.Proofs.YthggojpdcgcmaaaGreatDoor
namespace Go.Proofs.YthggojpdcgcmaaaGreatDoor
open Go.RowKit Go.Joins Go.Maps
open Classical
set_option linter.unusedVariables false
set_option linter.unusedSimpArgs false

def lastF (l : List Er) (k : Nat) (te : Int) : Int := if k + 1 < l.length then min (te - 1) ((eraAt l k).un - 1) else te - 1
def winF (x : Td) (a c : Int) : List Tn := x.ts.filter fun u => decide (a ≤ u.a ∧ u.a ≤ c)
def evF (x : Td) (a c : Int) : List (Int × Ty) := (winF x a c).map fun u => (u.a, tdTy x u.a)
/-- all times at which the table may change -/
noncomputable def candF (rules : List Ru) (l : List Er) (te : Int) : Nat → Int → Nat → List (Int × Ty)
  | 0, _, _ => []
  | n + 1, fr, k =>
    if k + 1 = l.length ∨ te ≤ (eraAt l k).un then evF (tdA rules l k) fr (lastF l k te) else
    evF (tdA rules l k) fr (lastF l k te) ++ ((eraAt l k).un, tdTy (tdA rules l (k + 1)) (eraAt l k).un) :: candF rules l te n ((eraAt l k).un + 1) (k + 1)
noncomputable def candsF (rules : List Ru) (l : List Er) (fr te : Int) : List (Int × Ty) := candF rules l te (l.length - whichF l fr) (fr + 1) (whichF l fr)
def zTab : Tab := ⟨[], 0, []⟩
/-- what table.Make answers, of eras -/
noncomputable def mkE (rules : List Ru) (l : List Er) (fr te : Int) : Int × Tab :=
  if stampE fr ≠ 0 then (stampE fr, zTab) else if stampE te ≠ 0 then (stampE te, zTab) else if te ≤ fr then (1, zTab) else
  if firstE (tdE rules) l ≠ 0 then (firstE (tdE rules) l, zTab) else
  if 250 < (normR (stF rules l fr) (candsF rules l fr te)).types.length ∨ 1000 < (normR (stF rules l fr) (candsF rules l fr te)).chs.length then (2, zTab) else
  (0, normR (stF rules l fr) (candsF rules l fr te))
noncomputable def mkT (b : Bk) (nm : ByteArray) (fr te : Int) : Int × Tab :=
  match (rsv b nm).1 with
  | none => ((rsv b nm).2, zTab)
  | some z => mkE b.rules z.eras fr te

theorem evF_mem {x : Td} {a c : Int} {e : Int × Ty} : e ∈ evF x a c ↔ ∃ u ∈ x.ts, a ≤ u.a ∧ u.a ≤ c ∧ e = (u.a, tdTy x u.a) := by
  unfold evF winF
  rw [List.mem_map]
  constructor
  · rintro ⟨u, hu, rfl⟩
    have := List.mem_filter.1 hu
    have h2 : a ≤ u.a ∧ u.a ≤ c := of_decide_eq_true this.2
    exact ⟨u, this.1, h2.1, h2.2, rfl⟩
  · rintro ⟨u, hu, h1, h2, rfl⟩
    exact ⟨u, List.mem_filter.2 ⟨hu, decide_eq_true ⟨h1, h2⟩⟩, rfl⟩
theorem rises_pw {l : List Tn} (h : Rises l) : l.Pairwise fun a b => a.a < b.a := List.pairwise_iff_getElem.2 fun i j hi hj hij => rises_mono h j i hij hj
theorem evF_rise {x : Td} (h : Rises x.ts) (a c : Int) : RiseL (evF x a c) := by
  unfold RiseL evF winF
  rw [List.pairwise_map]
  exact (rises_pw h).sublist List.filter_sublist
/-- the same type between turns -/
theorem cntT_step {l : List Tn} (h : Rises l) {z : Int} (hz : ∀ u ∈ l, u.a ≠ z) : cntT l z = cntT l (z - 1) := by
  obtain ⟨h1, h2, h3⟩ := cntT_spec h (z - 1)
  refine cntT_eq h h1 (fun i hi => by have := h2 i hi; omega) fun i hi hl => ?_
  have h4 := h3 i hi hl
  have := hz _ (List.getElem_mem hl)
  rw [tnA_at l i hl] at h4 ⊢
  omega
theorem svT_cnt {x : Td} {s t : Int} (h : cntT x.ts s = cntT x.ts t) : svT x s = svT x t := by unfold svT; rw [h]
theorem tdTy_cnt {x : Td} {s t : Int} (h : cntT x.ts s = cntT x.ts t) : tdTy x s = tdTy x t := by unfold tdTy nmT; rw [svT_cnt h]

section
variable {rules : List Ru} {l : List Er}
/-- eras whose turns may be -/
structure TdsOk (rules : List Ru) (l : List Er) : Prop where
  o : ErasOk rules l
  r : ∀ k, k < l.length → Rises (tdA rules l k).ts
theorem tdsOk_of (h : ErasOk rules l) (h2 : firstE (tdE rules) l = 0) : TdsOk rules l := by
  refine ⟨h, fun k hk => ?_⟩
  unfold tdA
  rw [eraAt_in l k hk]
  exact tdR_rises ((firstE_zero _ _).1 h2 _ (List.getElem_mem hk))
theorem cand_end {te : Int} {n k : Nat} {fr : Int} (h : k + 1 = l.length ∨ te ≤ (eraAt l k).un) : candF rules l te (n + 1) fr k = evF (tdA rules l k) fr (lastF l k te) := by rw [candF, if_pos h]
theorem cand_go {te : Int} {n k : Nat} {fr : Int} (h : ¬ (k + 1 = l.length ∨ te ≤ (eraAt l k).un)) : candF rules l te (n + 1) fr k = evF (tdA rules l k) fr (lastF l k te) ++ ((eraAt l k).un, tdTy (tdA rules l (k + 1)) (eraAt l k).un) :: candF rules l te n ((eraAt l k).un + 1) (k + 1) := by rw [candF, if_neg h]
theorem lastF_le (k : Nat) (te : Int) : lastF l k te ≤ te - 1 ∧ (k + 1 < l.length → lastF l k te ≤ (eraAt l k).un - 1) := by
  unfold lastF
  split
  · exact ⟨Int.min_le_left _ _, fun _ => Int.min_le_right _ _⟩
  · rename_i h; exact ⟨Int.le_refl _, fun g => absurd g h⟩
theorem lastF_ge {k : Nat} {te z : Int} (h1 : z ≤ te - 1) (h2 : k + 1 < l.length → z ≤ (eraAt l k).un - 1) : z ≤ lastF l k te := by
  unfold lastF
  split
  · rename_i h; exact Int.le_min.2 ⟨h1, h2 h⟩
  · exact h1
/-- what the candidates are -/
theorem cand_spec (h : TdsOk rules l) (te : Int) : ∀ (n k : Nat) (fr : Int), n = l.length - k → k < l.length → (∀ i, i < k → (eraAt l i).un < fr) → (k + 1 < l.length → fr ≤ (eraAt l k).un) →
    RiseL (candF rules l te n fr k) ∧ (∀ c ∈ candF rules l te n fr k, fr ≤ c.1 ∧ c.1 < te ∧ c.2 = stF rules l c.1 ∧ ((∃ i, i + 1 < l.length ∧ (eraAt l i).un = c.1) ∨ ∃ u ∈ (tdA rules l (whichF l c.1)).ts, u.a = c.1)) ∧
      ∀ z, fr ≤ z → z < te → ((∃ i, i + 1 < l.length ∧ (eraAt l i).un = z) ∨ ∃ u ∈ (tdA rules l (whichF l z)).ts, u.a = z) → ∃ c ∈ candF rules l te n fr k, c.1 = z
  | 0, k, fr, hn, hk, _, _ => by omega
  | n + 1, k, fr, hn, hk, hlo, hhi => by
    have hl1 := lastF_le (l := l) k te
    have hw : ∀ z, fr ≤ z → z ≤ lastF l k te → whichF l z = k := fun z h1 h2 =>
      which_of h.o hk (fun i hi => by have := hlo i hi; omega) fun g => by have := hl1.2 g; omega
    have hev : ∀ c ∈ evF (tdA rules l k) fr (lastF l k te), fr ≤ c.1 ∧ c.1 ≤ lastF l k te ∧ c.2 = stF rules l c.1 ∧ ∃ u ∈ (tdA rules l (whichF l c.1)).ts, u.a = c.1 := by
      intro c hc
      obtain ⟨u, hu, h1, h2, rfl⟩ := evF_mem.1 hc
      dsimp only
      rw [hw u.a h1 h2]
      refine ⟨h1, h2, ?_, u, hu, rfl⟩
      unfold stF
      rw [hw u.a h1 h2]
    have hin : ∀ z, fr ≤ z → z ≤ lastF l k te → (∃ u ∈ (tdA rules l (whichF l z)).ts, u.a = z) → ∃ c ∈ evF (tdA rules l k) fr (lastF l k te), c.1 = z := by
      rintro z h1 h2 ⟨u, hu, rfl⟩
      rw [hw u.a h1 h2] at hu
      exact ⟨_, evF_mem.2 ⟨u, hu, h1, h2, rfl⟩, rfl⟩
    have hun : ∀ z, fr ≤ z → (k + 1 < l.length → z < (eraAt l k).un) → ¬ ∃ i, i + 1 < l.length ∧ (eraAt l i).un = z := by
      rintro z h1 h2 ⟨i, hi, rfl⟩
      by_cases e : i < k
      · have := hlo i e; omega
      · by_cases e2 : i = k
        · subst e2; have := h2 hi; omega
        · have := eras_mono h.o i k (by omega) hi
          have := h2 (by omega)
          omega
    by_cases hE : k + 1 = l.length ∨ te ≤ (eraAt l k).un
    · rw [cand_end hE]
      refine ⟨evF_rise (h.r k hk) _ _, fun c hc => ?_, fun z h1 h2 h3 => ?_⟩
      · obtain ⟨a, b, c1, d⟩ := hev c hc
        exact ⟨a, by omega, c1, .inr d⟩
      · have hz : k + 1 < l.length → z < (eraAt l k).un := fun g => by omega
        rcases h3 with h3 | h3
        · exact absurd h3 (hun z h1 hz)
        · exact hin z h1 (lastF_ge (by omega) fun g => by have := hz g; omega) h3
    · rw [cand_go hE]
      have hkk : k + 1 < l.length := by omega
      have hto : (eraAt l k).un < te := by omega
      have hfu := hhi hkk
      have hlast : lastF l k te ≤ (eraAt l k).un - 1 := hl1.2 hkk
      have hwu : whichF l (eraAt l k).un = k + 1 := which_of h.o hkk (fun i hi => by
        by_cases e : i = k
        · subst e; exact Int.le_refl _
        · have := eras_mono h.o k i (by omega) hkk; omega) fun g => eras_mono h.o (k + 1) k (by omega) g
      obtain ⟨r1, r2, r3⟩ := cand_spec h te n (k + 1) ((eraAt l k).un + 1) (by omega) hkk (fun i hi => by
        by_cases e : i = k
        · subst e; omega
        · have := eras_mono h.o k i (by omega) hkk; omega) (fun g => by have := eras_mono h.o (k + 1) k (by omega) g; omega)
      refine ⟨?_, fun c hc => ?_, fun z h1 h2 h3 => ?_⟩
      · unfold RiseL
        rw [List.pairwise_append]
        refine ⟨evF_rise (h.r k hk) _ _, List.pairwise_cons.2 ⟨fun c hc => ?_, r1⟩, fun c hc d hd => ?_⟩
        · have := (r2 c hc).1
          dsimp only; omega
        · have := (hev c hc).2.1
          rcases List.mem_cons.1 hd with rfl | hd
          · dsimp only; omega
          · have := (r2 d hd).1; omega
      · rcases List.mem_append.1 hc with hc | hc
        · obtain ⟨a, b, c1, d⟩ := hev c hc
          exact ⟨a, by omega, c1, .inr d⟩
        · rcases List.mem_cons.1 hc with rfl | hc
          · refine ⟨hfu, hto, ?_, .inl ⟨k, hkk, rfl⟩⟩
            dsimp only
            unfold stF
            rw [hwu]
          · obtain ⟨a, b, c1, d⟩ := r2 c hc
            exact ⟨by omega, b, c1, d⟩
      · rcases Int.lt_trichotomy z (eraAt l k).un with g | g | g
        · rcases h3 with h3 | h3
          · exact absurd h3 (hun z h1 fun _ => g)
          · obtain ⟨c, hc, e⟩ := hin z h1 (lastF_ge (by omega) fun _ => by omega) h3
            exact ⟨c, List.mem_append_left _ hc, e⟩
        · exact ⟨_, List.mem_append_right _ (List.mem_cons_self ..), g.symm⟩
        · obtain ⟨c, hc, e⟩ := r3 z (by omega) h2 h3
          exact ⟨c, List.mem_append_right _ (List.mem_cons_of_mem _ hc), e⟩
theorem cands_spec (h : TdsOk rules l) (fr te : Int) :
    RiseL (candsF rules l fr te) ∧ (∀ c ∈ candsF rules l fr te, fr < c.1 ∧ c.1 < te ∧ c.2 = stF rules l c.1 ∧ ((∃ i, i + 1 < l.length ∧ (eraAt l i).un = c.1) ∨ ∃ u ∈ (tdA rules l (whichF l c.1)).ts, u.a = c.1)) ∧
      ∀ z, fr < z → z < te → ((∃ i, i + 1 < l.length ∧ (eraAt l i).un = z) ∨ ∃ u ∈ (tdA rules l (whichF l z)).ts, u.a = z) → ∃ c ∈ candsF rules l fr te, c.1 = z := by
  obtain ⟨w1, w2, w3⟩ := which_spec h.o fr
  have hp : 0 < l.length := List.length_pos_iff.2 h.o.ne
  obtain ⟨r1, r2, r3⟩ := cand_spec h te (l.length - whichF l fr) (whichF l fr) (fr + 1) rfl (by omega) (fun i hi => by have := w2 i hi; omega) (fun g => by have := w3 _ (Nat.le_refl _) (by omega); omega)
  exact ⟨r1, fun c hc => by obtain ⟨a, b⟩ := r2 c hc; exact ⟨by omega, b⟩, fun z h1 h2 h3 => r3 z (by omega) h2 h3⟩
/-- between its times nothing turns -/
theorem stF_step (h : TdsOk rules l) {z : Int} (h1 : ¬ ∃ i, i + 1 < l.length ∧ (eraAt l i).un = z) (h2 : ¬ ∃ u ∈ (tdA rules l (whichF l z)).ts, u.a = z) : stF rules l z = stF rules l (z - 1) := by
  obtain ⟨w1, w2, w3⟩ := which_spec h.o z
  have hp : 0 < l.length := List.length_pos_iff.2 h.o.ne
  have hw : whichF l (z - 1) = whichF l z := which_of h.o (by omega) (fun i hi => by
    have h3 := w2 i hi
    have : (eraAt l i).un ≠ z := fun e => h1 ⟨i, by omega, e⟩
    omega) fun g => by have := w3 _ (Nat.le_refl _) (by omega); omega
  unfold stF
  rw [hw]
  exact tdTy_cnt (cntT_step (h.r _ (by omega)) fun u hu e => h2 ⟨u, hu, e⟩)
theorem stF_val (h : TdsOk rules l) {fr te y : Int} (h1 : fr ≤ y) (h2 : y < te) : valL (stF rules l fr) (candsF rules l fr te) y = stF rules l y := by
  obtain ⟨r1, r2, r3⟩ := cands_spec h fr te
  have := valL_fun r1 (stF rules l) fr (fun c hc => (r2 c hc).1) (fun c hc => (r2 c hc).2.2.1) (y - fr).toNat fun z hz1 hz2 hz => by
    refine stF_step h (fun g => ?_) fun g => ?_
    · obtain ⟨c, hc, e⟩ := r3 z hz1 (by omega) (.inl g); exact hz c hc e
    · obtain ⟨c, hc, e⟩ := r3 z hz1 (by omega) (.inr g); exact hz c hc e
  rwa [show fr + (((y - fr).toNat : Nat) : Int) = y by omega] at this
/-- the changes of a table are where it is another type than a second ahead -/
theorem chg_mem (h : TdsOk rules l) (fr te : Int) (c : Int × Ty) : c ∈ squ (stF rules l fr) (candsF rules l fr te) ↔ (fr < c.1 ∧ c.1 < te ∧ stF rules l c.1 ≠ stF rules l (c.1 - 1) ∧ c.2 = stF rules l c.1) := by
  obtain ⟨r1, r2, r3⟩ := cands_spec h fr te
  rw [squ_mem r1]
  constructor
  · rintro ⟨h1, h2⟩
    have : ∃ d ∈ candsF rules l fr te, d.1 = c.1 := Classical.byContradiction fun g => h1 (valL_none (fun d hd e => g ⟨d, hd, e⟩) _)
    obtain ⟨d, hd, e⟩ := this
    obtain ⟨a, b, -, -⟩ := r2 d hd
    rw [stF_val h (by omega) (by omega), stF_val h (by omega) (by omega)] at h1
    rw [stF_val h (by omega) (by omega)] at h2
    exact ⟨by omega, by omega, h1, h2⟩
  · rintro ⟨a, b, h1, h2⟩
    rw [stF_val h (by omega) (by omega), stF_val h (by omega) (by omega)]
    exact ⟨h1, h2⟩
theorem chg_rise (h : TdsOk rules l) (fr te : Int) : RiseL (squ (stF rules l fr) (candsF rules l fr te)) := squ_rise (cands_spec h fr te).1 _
end
end Go.Proofs.YthggojpdcgcmaaaGreatDoor
namespace Go.Proofs.YthggojpdcgcmaaaGreatDoor
open Go.RowKit Go.Joins
open Classical
set_option linter.unusedVariables false
set_option linter.unusedSimpArgs false

theorem infoIntW : (Tryz.prog.info? 3).map (fun i => (i.zero, i.size, i.bytes)) = some (some (.int .i64 0), 1, 8) := by kernel_rfl
theorem undIntsW : Tryz.prog.underlying 62 = some (.slice 3) := by kernel_rfl
def winL (l : List Tn) (a c : Int) : List Int := (l.filter fun u => decide (a ≤ u.a ∧ u.a ≤ c)).map (·.a)
theorem winL_snoc (l : List Tn) (u : Tn) (a c : Int) : winL (l ++ [u]) a c = winL l a c ++ if a ≤ u.a ∧ u.a ≤ c then [u.a] else [] := by
  unfold winL
  rw [List.filter_append, List.map_append]
  by_cases h : a ≤ u.a ∧ u.a ≤ c
  · rw [if_pos h]; congr 1; simp [h]
  · rw [if_neg h]; congr 1; simp [h]
theorem winL_le (l : List Tn) (a c : Int) : (winL l a c).length ≤ l.length := by
  unfold winL
  rw [List.length_map]
  exact List.length_filter_le _ _
def WinPost (L : List Int) (w : World) (e : Ending) (w' : World) : Prop := ∃ vo, e = .returned vo ∧ w'.ownsRow w.heap.size 3 1 vo L.length (L.map (Value.int .i64)) ∧ Below w.heap.size w w'

set_option maxRecDepth 100000 in
set_option maxHeartbeats 8000000 in
theorem Within_any (x : Td) (tv : Value) (a c : Int) (w : World) (hr : RowsAt tnC 3 w.heap.size w tv x.ts) (hlen : x.ts.length ≤ 2000) :
    Calls Tryz.prog 41 #[.agg (tdCells x tv), .int .i64 a, .int .i64 c] w (WinPost (winL x.ts a c) w) := by
  obtain ⟨p, cap, rfl, -, hat⟩ := hr
  obtain ⟨W0, hW0⟩ : ∃ W0, w.alloc (.cells (tdCells x (.slice p x.ts.length cap)) 89) = W0 := ⟨_, rfl⟩
  have hB0 : Below w.heap.size w W0 := by rw [← hW0]; exact (Below.refl _ w).alloc (Nat.le_refl _) _
  have hS0 : w.heap.size < W0.heap.size := by rw [← hW0]; simp
  have hx0 : W0.heap[w.heap.size]? = some (.cells (tdCells x (.slice p x.ts.length cap)) 89 (0, 0)) := by
    rw [← hW0]
    exact heap_alloc_new w _
  obtain ⟨⟨off, ru, sv, fm, un⟩, ts, fst⟩ := x
  simp only at hlen hat hW0 hx0 ⊢
  have z5 : W0.cell? ⟨w.heap.size, 5, none⟩ = some (.slice p ts.length cap) := (cell_of_row W0 _ 5 _ _ _ hx0).trans rfl
  have HW0 := Lib.hid hW0
  have HB0 := Lib.hid hB0
  have HAT := Lib.hid hat
  obtain ⟨i1, hi1, hz10, hz11, hz12⟩ := info_parts infoIntW
  clear hW0 hB0 hx0 hat
  go_enter Tryz.func41, Tryz.ntmps41
  go_upto_region 1 with fail
  rw [HW0.out]
  go_wp2_with fail
  go_loopw [7, 13] (fun v7 i wr => ∃ k : Nat, k ≤ ts.length ∧ i = .int .i64 k ∧ Hid (wr.ownsRow W0.heap.size 3 1 v7 (winL (ts.take k) a c).length ((winL (ts.take k) a c).map (Value.int .i64))) ∧ Hid (Below W0.heap.size W0 wr)) (fun _ i _ => ts.length - (intOf i).toNat)
  case atStart => exact ⟨0, Nat.zero_le _, rfl, World.ownsRow_nil _ _ _ _, Lib.hid (Below.refl _ _)⟩
  case round =>
    obtain ⟨k, hk, rfl, HOW, HBR⟩ := hrel
    have hzr := HBR.out.size
    have hwl : (winL (ts.take k) a c).length ≤ k := Nat.le_trans (winL_le _ _ _) (by rw [List.length_take]; omega)
    by_cases hkl : k < ts.length
    · obtain ⟨bb, o, rfl, hbl, hcs⟩ := HAT.out (List.ne_nil_of_length_pos (by omega))
      have hck := hcs k hkl
      have hsn := winL_snoc (ts.take k) ts[k] a c
      rw [← List.take_succ_eq_append_getElem hkl] at hsn
      obtain ⟨q, eq⟩ : ∃ q, ts[k] = q := ⟨_, rfl⟩
      rw [eq] at hck hsn
      obtain ⟨ta, tsv, tlt⟩ := q
      have up : ∀ m u, w.cell? ⟨bb, o + k * 3 + m, none⟩ = some u → wr.cell? ⟨bb, o + k * 3 + m, none⟩ = some u := fun m u h => (HBR.out.cell (p := ⟨bb, o + k * 3 + m, none⟩) (by show bb < _; omega)).trans ((HB0.out.cell (p := ⟨bb, o + k * 3 + m, none⟩) hbl).trans h)
      have z0 := up 0 _ (hck 0 _ rfl)
      have z1 := up 1 _ (hck 1 _ rfl)
      have z2 := up 2 _ (hck 2 _ rfl)
      rw [Nat.add_zero] at z0
      simp only at hsn z0 z1 z2
      have HSN := Lib.hid hsn
      obtain ⟨L, eL⟩ : ∃ L, winL (ts.take k) a c = L := ⟨_, rfl⟩
      rw [eL] at HSN HOW hwl
      obtain ⟨W3, e3⟩ : ∃ W3, wr.alloc (.cells #[.int .i64 ta, .int .i64 tsv, .string tlt] 44) = W3 := ⟨_, rfl⟩
      have HB3 : Hid (Below W0.heap.size W0 W3) := by rw [← e3]; exact HBR.out.alloc hzr _
      have HOW3 : Hid (W3.ownsRow W0.heap.size 3 1 u7 L.length (L.map (Value.int .i64))) := by rw [← e3]; exact World.ownsRow.alloc HOW.out _
      have y0 : W3.cell? ⟨wr.heap.size, 0, none⟩ = some (.int .i64 ta) := by rw [← e3]; exact (cell_of_row _ _ 0 _ _ _ (heap_alloc_new wr _)).trans rfl
      obtain ⟨tb, etb⟩ : ∃ tb, wr.heap.size = tb := ⟨_, rfl⟩
      have HTB := Lib.hid etb
      rw [etb] at y0
      have HE3 := Lib.hid e3
      clear hcs hck hsn eq up eL e3 etb HOW
      go_upto_region 5 with fail
      rw [HE3.out, HTB.out]
      clear z0 z1 z2
      by_cases h1 : a ≤ ta
      · by_cases h2 : ta ≤ c
        · have HN : Hid (winL (ts.take (k + 1)) a c = L ++ [ta]) := by show _ = _; rw [HSN.out, if_pos ⟨h1, h2⟩]
          clear HSN
          obtain ⟨A, cS, rfl⟩ := own_sliceN HOW3.out
          have HML : L.length + 1 ≤ maxLen := by simp only [maxLen]; omega
          have HMB : (L.length + 1) * 8 ≤ 140737488355328 := by omega
          have HROW := Lib.hid (World.ownsRow.alloc HOW3.out (.cells #[.int .i64 ta] 3))
          have HNEW := Lib.hid (World.news_of_block (cs := #[.int .i64 ta]) (t := 3) (fr := (0, 0)) (heap_alloc_new W3 (.cells #[.int .i64 ta] 3)))
          have HSZ : W0.heap.size ≤ (W3.alloc (.cells #[.int .i64 ta] 3)).heap.size := by have := HB3.out.size; simp; omega
          go_wp2_with (at_builtin; refine wpList_append_own _ rfl _ _ 62 rfl W0.heap.size 3 i1 (.int .i64 0) 1 8 undIntsW hi1 hz10 hz11 hz12 rfl (by decide) _ _ _ rfl HROW.out ⟨W3.heap.size, 0, none⟩ 1 1 [.int .i64 ta] rfl rfl HNEW.out (by simp [Value.oneCell']) HML HMB HSZ ?_; intro v' w10 hown10 hgrow10 _)
          go_roundw
          case rel =>
            refine ⟨k + 1, by omega, by go_num, ?_, Lib.hid ((HB3.out.alloc HB3.out.size _).grown hgrow10 HSZ fun q hq => (World.ownsRow.lt HROW.out q hq).1)⟩
            show World.ownsRow _ _ _ _ _ _ _
            rw [HN.out, List.length_append, List.map_append]
            exact hown10
          case measure => simp [intOf]; omega
        · have HN : Hid (winL (ts.take (k + 1)) a c = L) := by show _ = _; rw [HSN.out, if_neg (fun g => h2 g.2), List.append_nil]
          clear HSN
          go_wp2_with fail
          go_roundw
          case rel => exact ⟨k + 1, by omega, by go_num, by rw [HN.out]; exact HOW3, HB3⟩
          case measure => simp [intOf]; omega
      · have HN : Hid (winL (ts.take (k + 1)) a c = L) := by show _ = _; rw [HSN.out, if_neg (fun g => h1 g.1), List.append_nil]
        clear HSN
        go_wp2_with fail
        go_roundw
        case rel => exact ⟨k + 1, by omega, by go_num, by rw [HN.out]; exact HOW3, HB3⟩
        case measure => simp [intOf]; omega
    · obtain rfl : k = ts.length := by omega
      rw [List.take_length] at HOW
      have HEND : Hid (WinPost (winL ts a c) w (.returned u7) wr) := ⟨_, rfl, own_base HOW.out (Nat.le_of_lt hS0), HB0.out.trans (HBR.out.mono HB0.out.size)⟩
      obtain ⟨A, cS, rfl⟩ := own_sliceN HOW.out
      clear HOW
      go_wp2_with fail
      go_ret
      exact HEND.out
end Go.Proofs.YthggojpdcgcmaaaGreatDoor
namespace Go.Proofs.YthggojpdcgcmaaaGreatDoor
open Go.RowKit Go.Joins Go.Maps
open Classical
set_option linter.unusedVariables false
set_option linter.unusedSimpArgs false

set_option maxRecDepth 100000 in
set_option maxHeartbeats 4000000 in
theorem Resolve_any (b : Bk) (rv zv lv : Value) (nm : ByteArray) (w : World) (hB : BookAt w.heap.size w rv zv lv b) (hn : nm.size ≤ 140737488351232) (hm : MaxLen w) (ht : Tab10 w) :
    Calls Tryz.prog 34 #[.agg #[rv, zv, lv], .string nm] w (RsvPost (rsv b nm) w) := by
  have hr := hB.r
  have hz := hB.z
  have hl := hB.l
  obtain ⟨p1, c1, rfl, hlen1, hrow1⟩ := hr
  obtain ⟨p2, c2, rfl, hlen2, hrow2⟩ := hz
  obtain ⟨p3, c3, rfl, hlen3, hrow3⟩ := hl
  obtain ⟨W0, eW⟩ : ∃ W0, (w.alloc (.cells #[.slice p1 b.rules.length c1, .slice p2 b.zones.length c2, .slice p3 b.links.length c3] 26)).alloc (.cells #[.string ⟨#[]⟩, .slice none 0 0] 38) = W0 := ⟨_, rfl⟩
  have hb0 : Below w.heap.size w W0 := by rw [← eW]; exact ((Below.refl _ _).alloc (Nat.le_refl _) _).alloc (by simp) _
  have hbx : W0.heap[w.heap.size]? = some (.cells #[.slice p1 b.rules.length c1, .slice p2 b.zones.length c2, .slice p3 b.links.length c3] 26 (0, 0)) := by
    rw [← eW]
    exact (Below.heap_alloc _ _ _ (by simp)).trans (heap_alloc_new w _)
  have hrb : W0.heap[w.heap.size + 1]? = some (.cells #[.string ⟨#[]⟩, .slice none 0 0] 38 (0, 0)) := by
    rw [← eW]
    exact alloc_at _ _ _ (by simp)
  have hl0 : w.heap.size + 1 < W0.heap.size := by rw [← eW]; simp
  have x0 := (cell_of_row W0 _ 0 _ _ _ hbx).trans rfl
  have x1 := (cell_of_row W0 _ 1 _ _ _ hbx).trans rfl
  have x2 := (cell_of_row W0 _ 2 _ _ _ hbx).trans rfl
  have HEW := Lib.hid eW
  have HB0 := Lib.hid hb0
  have HRB := Lib.hid hrb
  have HOF := Lib.hid (namesOf_any b _ _ _ W0 ((hB.below hb0 (Nat.le_refl _)).baseN (by omega)) (hm.below hb0) (ht.below hb0))
  have HEV := Lib.hid hB.e
  have HLS := Lib.hid hB.ls
  have HBD := Lib.hid (rsv_bad (b := b) (nm := nm))
  have HGO := Lib.hid (rsv_go (b := b) (nm := nm))
  have HER := Lib.hid (bk_er (b := b))
  obtain ⟨R, eR⟩ : ∃ R, rsv b nm = R := ⟨_, rfl⟩
  rw [eR] at HBD HGO ⊢
  clear eW hb0 hbx hrb hB hm ht hrow1 hrow2 hrow3 eR
  go_enter Tryz.func34, Tryz.ntmps34
  go_upto_region 1 with fail
  rw [HEW.out]
  go_wp2_with fail
  refine HOF.out.mono ?_
  rintro e w1 ⟨hb1, hbad, hgood⟩
  have HB1 := Lib.hid (HB0.out.trans (hb1.mono HB0.out.size))
  have hx1 := (hb1.block (w.heap.size + 1) hl0).trans HRB.out
  have HX1 := Lib.hid hx1
  have hl1 : w.heap.size + 1 < w1.heap.size := by have := hb1.size; omega
  have r0 : w1.cell? ⟨w.heap.size + 1, 0, none⟩ = some (.string ⟨#[]⟩) := (cell_of_row w1 _ 0 _ _ _ hx1).trans rfl
  have r1 : w1.cell? ⟨w.heap.size + 1, 1, none⟩ = some (.slice none 0 0) := (cell_of_row w1 _ 1 _ _ _ hx1).trans rfl
  have f0 : w1.frozen? ⟨w.heap.size + 1, 0, none⟩ = false := by simp [World.frozen?, hx1]
  have f1 : w1.frozen? ⟨w.heap.size + 1, 1, none⟩ = false := by simp [World.frozen?, hx1]
  have hs1 : W0.heap.size ≤ w1.heap.size := hb1.size
  by_cases hC : bkChk b = 0
  case neg =>
    have he := hbad hC
    subst he
    have HE := Lib.hid (HBD.out hC)
    have hz : (bkChk b == 0) = false := by simpa using hC
    have hz2 : (!bkChk b == 0) = true := by rw [hz]; rfl
    clear hb1 hbad hgood hx1 hC x0 x1 x2
    go_wp2_with fail
    obtain ⟨W9, e9, hh9, hb9⟩ := end_two HX1.out (.string ⟨#[]⟩) (.slice none 0 0)
    rw [e9]
    have v0 := (cell_of_row W9 _ 0 _ _ _ hh9).trans rfl
    have v1 := (cell_of_row W9 _ 1 _ _ _ hh9).trans rfl
    have HBF : Below w.heap.size w W9 := HB1.out.trans (hb9 _ (by omega))
    refine bodyPost_ret (v := .tuple #[.agg #[.string ⟨#[]⟩, .slice none 0 0], .int .i64 (bkChk b)]) (by simp [results, Tryz.results34, go_sem, v0, v1]) rfl ?_
    rw [HE.out]
    exact ⟨_, rfl, World.ownsRow_nil _ _ _ _, HBF⟩
  case pos =>
  obtain ⟨pb, bz, bl, nz, nl, he, hP, hnl, -⟩ := hgood hC
  subst he
  have hEv : EvOk b.zones := fun z hz => by
    obtain ⟨p, c, e, -⟩ := HEV.out z hz
    exact ⟨p, c, e⟩
  have HRE := Lib.hid (resolve_any _ pb bz bl nz nl b.zones b.links nm w1 hP hEv (fun x hx => (HLS.out x hx).2) hn hnl)
  have hgo := HGO.out hC
  rw [← hgo] at HRE
  have HER2 := Lib.hid (fun z hz => HER.out hC (z := z) hz)
  have hRin : ∀ z, R.1 = some z → z ∈ b.zones ∧ R.2 = 0 := by
    intro z hz
    obtain ⟨R1, R2⟩ := R
    simp only at hz
    subst hz
    exact resF_in hgo.symm
  have HRI := Lib.hid hRin
  have HP1 := Lib.hid hP
  clear hb1 hbad hgood hx1 hC x0 x1 x2 r0 r1 f0 f1 hP hEv hgo hRin HGO HBD HER HOF
  go_wp2_with fail
  refine HRE.out.mono ?_
  obtain ⟨Z, C⟩ := R
  rintro e w2 ⟨rfl, hb2⟩
  simp only at HRI ⊢
  have HB2 := Lib.hid (HB1.out.trans (hb2.mono HB1.out.size))
  have hx2 := (hb2.block (w.heap.size + 1) hl1).trans HX1.out
  have hs2 : w1.heap.size ≤ w2.heap.size := hb2.size
  have key : ∃ znm p c ers, zoVal Z = .agg #[.string znm, .slice p ers.length c] ∧ zNm Z = znm ∧ zEr Z = ers ∧ ers.length ≤ 1000 ∧ RowsAt erL 5 w.heap.size w2 (.slice p ers.length c) ers := by
    cases Z with
    | none => exact ⟨⟨#[]⟩, none, 0, [], rfl, rfl, rfl, by simp, ⟨none, 0, rfl, ⟨by simp, by simp⟩, fun h => absurd rfl h⟩⟩
    | some z =>
      obtain ⟨hz, -⟩ := HRI.out z rfl
      have h1 := (HEV.out z hz).below HB2.out (Nat.le_refl _)
      obtain ⟨p, c, e, r⟩ := h1
      refine ⟨z.nm, p, c, z.eras, ?_, rfl, rfl, by have := (HER2.out z hz).2; omega, ⟨p, c, rfl, r⟩⟩
      show Value.agg #[.string z.nm, z.ev] = _
      rw [e]
  obtain ⟨znm, p, c, ers, e1, e2, e3, hle, hrow⟩ := key
  rw [e1]
  have HE2 := Lib.hid e2
  have HE3 := Lib.hid e3
  obtain ⟨W3, eW3⟩ : ∃ W3, w2.alloc (.cells #[.string znm, .slice p ers.length c] 38) = W3 := ⟨_, rfl⟩
  have hb3 : Below w2.heap.size w2 W3 := by rw [← eW3]; exact (Below.refl _ _).alloc (Nat.le_refl _) _
  have hx3 : W3.heap[w2.heap.size]? = some (.cells #[.string znm, .slice p ers.length c] 38 (0, 0)) := by rw [← eW3]; exact heap_alloc_new w2 _
  have hz3 : W3.heap.size = w2.heap.size + 1 := by rw [← eW3]; simp
  have HB3 := Lib.hid (HB2.out.trans (hb3.mono HB2.out.size))
  have hr3 := (hb3.block (w.heap.size + 1) (by omega)).trans hx2
  have HR3 := Lib.hid hr3
  have HX3 := Lib.hid hx3
  have q1 := (cell_of_row W3 _ 1 _ _ _ hx3).trans rfl
  have HCL := Lib.hid (CloneEr_any ers _ w.heap.size W3 (hrow.below (hb3.mono HB2.out.size) (Nat.le_refl _)) hle)
  have HEW3 := Lib.hid eW3
  obtain ⟨tb, etb⟩ : ∃ tb, w2.heap.size = tb := ⟨_, rfl⟩
  rw [etb] at hz3 hs2 HX3 q1
  have HTB := Lib.hid etb
  clear hb2 hx2 e1 e2 e3 hrow eW3 hb3 hr3 HRI HRE HER2 HEV hx3 HX1 etb
  go_upto_region 5 with fail
  rw [HEW3.out, HTB.out]
  go_wp2_with fail
  refine HCL.out.mono ?_
  rintro e w4 ⟨vo, rfl, hrow4, hb4⟩
  obtain ⟨A, cA, rfl⟩ := own_sliceN hrow4
  have hs4 : W3.heap.size ≤ w4.heap.size := hb4.size
  have hx4 := (hb4.block tb (by omega)).trans HX3.out
  have hr4 := (hb4.block (w.heap.size + 1) (by omega)).trans HR3.out
  have HB4 := Lib.hid (HB3.out.trans (hb4.mono HB3.out.size))
  have HX4 := Lib.hid hx4
  have HR4 := Lib.hid hr4
  have HOW := Lib.hid hrow4
  have g0 : w4.cell? ⟨tb, 0, none⟩ = some (.string znm) := (cell_of_row w4 _ 0 _ _ _ hx4).trans rfl
  have g1 : w4.cell? ⟨tb, 1, none⟩ = some (.slice p ers.length c) := (cell_of_row w4 _ 1 _ _ _ hx4).trans rfl
  have gf : w4.frozen? ⟨tb, 1, none⟩ = false := by simp [World.frozen?, hx4]
  have r0 : w4.cell? ⟨w.heap.size + 1, 0, none⟩ = some (.string ⟨#[]⟩) := (cell_of_row w4 _ 0 _ _ _ hr4).trans rfl
  have r1 : w4.cell? ⟨w.heap.size + 1, 1, none⟩ = some (.slice none 0 0) := (cell_of_row w4 _ 1 _ _ _ hr4).trans rfl
  have f0 : w4.frozen? ⟨w.heap.size + 1, 0, none⟩ = false := by simp [World.frozen?, hr4]
  have f1 : w4.frozen? ⟨w.heap.size + 1, 1, none⟩ = false := by simp [World.frozen?, hr4]
  have htb : w.heap.size + 1 < tb := by omega
  have htb4 : tb < w4.heap.size := by omega
  clear hb4 hrow4 hx4 hr4 HCL q1
  go_wp2_with fail
  obtain ⟨W5, e5⟩ : ∃ W5, w4.setCell ⟨tb, 1, none⟩ (.slice A ers.length cA) = W5 := ⟨_, rfl⟩
  rw [e5]
  have hk5 : ∀ g, g ≠ tb → W5.heap[g]? = w4.heap[g]? := fun g hg => by rw [← e5]; exact Below.heap_setCell _ _ _ _ hg
  have hr5 : W5.heap[w.heap.size + 1]? = some (.cells #[.string ⟨#[]⟩, .slice none 0 0] 38 (0, 0)) := (hk5 _ (by omega)).trans HR4.out
  have hb5 : Below w.heap.size w W5 := by rw [← e5]; exact HB4.out.setCell (by show w.heap.size ≤ tb; omega) _
  obtain ⟨W9, e9, hh9, hb9⟩ := end_two hr5 (.string znm) (.slice A ers.length cA)
  rw [e9]
  have v0 := (cell_of_row W9 _ 0 _ _ _ hh9).trans rfl
  have v1 := (cell_of_row W9 _ 1 _ _ _ hh9).trans rfl
  have hk9 : ∀ g, g ≠ w.heap.size + 1 → W9.heap[g]? = W5.heap[g]? := fun g hg => by
    rw [← e9]
    exact (Below.heap_setCell _ _ _ _ hg).trans (Below.heap_setCell _ _ _ _ hg)
  have HBF : Below w.heap.size w W9 := hb5.trans (hb9 _ (by omega))
  have hown9 : W9.ownsRow w.heap.size 35 5 (.slice A ers.length cA) ers.length (erFlat ers) := by
    refine own_base (own_keep HOW.out fun g e => ?_) (show w.heap.size ≤ W3.heap.size by omega)
    have hg := (World.ownsRow.lt HOW.out g e).1
    exact (hk9 g (by omega)).trans (hk5 g (by omega))
  refine bodyPost_ret (v := .tuple #[.agg #[.string znm, .slice A ers.length cA], .int .i64 C]) (by simp [results, Tryz.results34, go_sem, v0, v1]) rfl ⟨.slice A ers.length cA, ?_, ?_, HBF⟩
  · show _ = Ending.returned (.tuple #[.agg #[.string (zNm Z), .slice A ers.length cA], .int .i64 C])
    rw [HE2.out]
  · show World.ownsRow _ _ _ _ _ (zEr Z).length (erFlat (zEr Z))
    rw [HE3.out]
    exact hown9
end Go.Proofs.YthggojpdcgcmaaaGreatDoor
