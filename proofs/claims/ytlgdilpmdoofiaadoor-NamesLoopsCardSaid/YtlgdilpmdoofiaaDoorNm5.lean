/- names.All: the plain facts of a range over the links. -/
import Derived.Test.YtlgdilpmdoofiaaDoorNm2
import Derived.Test.YtlgdilpmdoofiaaDoorNmZ
import Derived.Maps.RangeWalk
namespace Go.Proofs.YtlgdilpmdoofiaaDoor
open Go.RowKit Go.Joins Go.Maps
open Classical
set_option linter.unusedVariables false
set_option linter.unusedSimpArgs false

theorem keyOf_str_inv {key : Value} {kl : Lit} (h : keyOf Tryd.prog 9 key = some kl) : ∃ s : ByteArray, key = .string s ∧ kl = kyS s ∧ s.size ≤ maxLen := by
  rw [Go.keyOf_string Tryd.underlying9] at h
  unfold mapKey at h
  rw [Tryd.underlying9] at h
  cases key <;> simp at h
  exact ⟨_, rfl, h.2.symm, h.1⟩
theorem sameKey_str (a b : ByteArray) : (kyS a).sameKey (kyS b) = decide (a = b) := by
  by_cases h : a = b
  · subst h; simp [WideAt.sameKey_self (show WideAt.IsKeyLit (kyS a) from trivial)]
  · rw [decide_eq_false h]; exact sameKey_ne (kyS_inj h)
/-- what a range over the links has shown -/
structure Vis (b : Bk) (left : Lit → Bool) (vis : List ByteArray) : Prop where
  nd : vis.Pairwise (· ≠ ·)
  mem : ∀ s ∈ vis, ∃ x ∈ b.links, x.nm = s
  left : ∀ s, left (kyS s) = (decide (∃ x ∈ b.links, x.nm = s) && !decide (s ∈ vis))
theorem has_link (b : Bk) (s : ByteArray) : has (DL b.links) (kyS s) = decide (∃ x ∈ b.links, x.nm = s) := by
  have e := (Dof_has (·.nm) (fun x : Lk => .string x.to) b.links s).1
  have e2 : DL b.links = Dof (·.nm) (fun x : Lk => .string x.to) b.links := rfl
  rw [e2, e]
  by_cases h : ∃ x ∈ b.links, x.nm = s
  · rw [decide_eq_true h]; exact lookF_has (key := fun x : Lk => x.nm) b.links none h
  · rw [decide_eq_false h, lookF_no (key := fun x : Lk => x.nm) (fun x hx e => h ⟨x, hx, e⟩)]; rfl
theorem Vis.start (b : Bk) : Vis b (has (DL b.links)) [] := ⟨List.Pairwise.nil, fun s hs => (by cases hs), fun s => by rw [has_link]; simp⟩
theorem Vis.step {b : Bk} {left : Lit → Bool} {vis : List ByteArray} (h : Vis b left vis) {s : ByteArray} (hs : left (kyS s) = true) : Vis b (fun z => left z && !z.sameKey (kyS s)) (vis ++ [s]) ∧ ∃ x ∈ b.links, x.nm = s := by
  rw [h.left] at hs
  simp only [Bool.and_eq_true, decide_eq_true_eq, Bool.not_eq_true', decide_eq_false_iff_not] at hs
  refine ⟨⟨?_, ?_, ?_⟩, hs.1⟩
  · rw [List.pairwise_append]
    refine ⟨h.nd, List.pairwise_singleton _ _, fun a ha c hc e => ?_⟩
    rw [List.mem_singleton.1 hc] at e
    exact hs.2 (e ▸ ha)
  · intro t ht
    rcases List.mem_append.1 ht with ht | ht
    · exact h.mem t ht
    · rw [List.mem_singleton.1 ht]; exact hs.1
  · intro t
    show (left (kyS t) && !(kyS t).sameKey (kyS s)) = _
    rw [h.left, sameKey_str]
    by_cases e : t = s
    · subst e; simp
    · simp [e]
theorem Vis.done {b : Bk} {left : Lit → Bool} {vis : List ByteArray} (h : Vis b left vis) (hl : ∀ kl, left kl = false) : ∀ x ∈ b.links, x.nm ∈ vis := by
  intro x hx
  have e := h.left x.nm
  rw [hl] at e
  have h1 : decide (∃ y ∈ b.links, y.nm = x.nm) = true := decide_eq_true ⟨x, hx, rfl⟩
  rw [h1] at e
  simpa using e.symm
/-- the names that lead to a zone -/
def okN (b : Bk) (s : ByteArray) : Bool := decide ((resF b.zones b.links (Maps.size (DL b.links) + 1) s).2 = 0)
/-- all names, as they are found -/
structure AllN (b : Bk) (l : List ByteArray) : Prop where
  nd : l.Pairwise (· ≠ ·)
  mem : ∀ s, s ∈ l ↔ (∃ z ∈ b.zones, z.nm = s) ∨ ((∃ x ∈ b.links, x.nm = s) ∧ okN b s = true)
theorem all_of {b : Bk} (hb : bkChk b = 0) {left : Lit → Bool} {vis zn : List ByteArray} (h : Vis b left vis) (hl : ∀ kl, left kl = false) (hz : zn.Pairwise (· ≠ ·)) (hzm : ∀ s, s ∈ zn ↔ ∃ z ∈ b.zones, z.nm = s) : AllN b (zn ++ vis.filter (okN b)) := by
  have hd := h.done hl
  refine ⟨?_, fun s => ?_⟩
  · rw [List.pairwise_append]
    refine ⟨hz, h.nd.sublist List.filter_sublist, fun a ha c hc e => ?_⟩
    subst e
    obtain ⟨z, hz1, hz2⟩ := (hzm a).1 ha
    obtain ⟨x, hx1, hx2⟩ := h.mem a (List.mem_filter.1 hc).1
    obtain ⟨i, hi, e⟩ := List.mem_iff_getElem.1 hx1
    have := (bk_link hb i hi).nz z hz1
    rw [e] at this
    exact this (hz2.trans hx2.symm)
  · rw [List.mem_append, hzm, List.mem_filter]
    constructor
    · rintro (h1 | ⟨h1, h2⟩)
      · exact .inl h1
      · exact .inr ⟨h.mem s h1, h2⟩
    · rintro (h1 | ⟨⟨x, hx, rfl⟩, h2⟩)
      · exact .inl h1
      · exact .inr ⟨hd x hx, h2⟩
end Go.Proofs.YtlgdilpmdoofiaaDoor
