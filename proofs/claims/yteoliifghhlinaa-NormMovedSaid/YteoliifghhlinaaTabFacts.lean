/- What a table that may be has: plain facts; and table.Of of it. -/
import Derived.Test.YteoliifghhlinaaTabOf2
namespace Go.Proofs.Yteoliifghhlinaa
open Go.RowKit
set_option linter.unusedVariables false
set_option linter.unusedSimpArgs false

theorem chkTypes_ok : ∀ (l : List Ty), chkTypes l = 0 → ∀ x ∈ l, okOff x.off = true ∧ abbrB x.name = true
  | [], _, x, hx => by simp at hx
  | y :: r, h, x, hx => by
    unfold chkTypes at h
    split at h
    · split at h
      · rcases List.mem_cons.1 hx with rfl | hx
        · exact ⟨‹_›, ‹_›⟩
        · exact chkTypes_ok r h x hx
      · omega
    · omega

theorem chkChs_ok (last : Int) : ∀ (m : List Ch) (prev : Option Int), chkChs last prev m = 0 →
    (∀ x ∈ m, okTime x.t = true ∧ okIdx last x.k = true) ∧ (∀ p, prev = some p → ∀ x ∈ m, p < x.t) ∧ m.Pairwise (fun a b => a.t < b.t)
  | [], _, _ => ⟨by simp, by simp, List.Pairwise.nil⟩
  | c :: r, prev, h => by
    unfold chkChs at h
    split at h
    · split at h
      · omega
      · rename_i h1 h2
        obtain ⟨i1, i2, i3⟩ := chkChs_ok last r (some c.t) h
        simp only [Bool.and_eq_true] at h1
        have hp : ∀ p, prev = some p → p < c.t := by
          intro p hp
          subst hp
          simpa [before] using h2
        refine ⟨fun x hx => ?_, fun p hpp x hx => ?_, ?_⟩
        · rcases List.mem_cons.1 hx with rfl | hx
          · exact h1
          · exact i1 x hx
        · rcases List.mem_cons.1 hx with rfl | hx
          · exact hp p hpp
          · have := i2 c.t rfl x hx
            have := hp p hpp
            omega
        · exact List.Pairwise.cons (fun x hx => i2 c.t rfl x hx) i3
    · omega

structure OkTab (t : Tab) : Prop where
  ne : t.types ≠ []
  many : t.types.length ≤ 250
  chs : t.chs.length ≤ 1000
  type : ∀ x ∈ t.types, -75600 ≤ x.off ∧ x.off ≤ 75600 ∧ abbrB x.name = true
  first : 0 ≤ t.first ∧ t.first < t.types.length
  ch : ∀ x ∈ t.chs, -1099511627776 ≤ x.t ∧ x.t ≤ 1099511627776 ∧ 0 ≤ x.k ∧ x.k < t.types.length
  rise : t.chs.Pairwise (fun a b => a.t < b.t)

theorem chk_ok (t : Tab) (h : chk t = 0) : OkTab t := by
  unfold chk at h
  split at h
  · omega
  · rename_i hb
    split at h
    · omega
    · rename_i hn
      split at h
      · rename_i ht
        split at h
        · rename_i hf
          obtain ⟨c1, _, c3⟩ := chkChs_ok _ _ _ h
          have hb' : ¬ (250 < t.types.length ∨ 1000 < t.chs.length) := by simpa [big] using hb
          simp only [okIdx, decide_eq_true_eq] at hf
          refine ⟨hn, by omega, by omega, fun x hx => ?_, by omega, fun x hx => ?_, c3⟩
          · have := chkTypes_ok _ ht x hx
            simp only [okOff, decide_eq_true_eq] at this
            exact ⟨this.1.1, this.1.2, this.2⟩
          · have := c1 x hx
            simp only [okTime, okIdx, decide_eq_true_eq] at this
            omega
        · omega
      · exact absurd h ‹_›

theorem tAt_mono (m : List Ch) (h : m.Pairwise (fun a b => a.t < b.t)) (i j : Nat) (hij : i ≤ j) (hj : j < m.length) : tAt m i ≤ tAt m j := by
  unfold tAt
  rw [List.getElem?_eq_getElem hj, List.getElem?_eq_getElem (by omega)]
  by_cases e : i = j
  · subst e; exact Int.le_refl _
  · have := List.pairwise_iff_getElem.1 h i j (by omega) hj (by omega)
    simp; omega

theorem Of_any (t : Tab) (v : Value) (x : Int) (w : World) (hv : TabAt w v t) (hok : chk t = 0) :
    Calls Try.prog 30 #[v, .int .i64 x] w fun e w' => e = .returned (tyV (tyOf t x)) ∧ Below w.heap.size w w' := by
  have ok := chk_ok t hok
  obtain ⟨sv, cv, rfl, ⟨⟨p, cap, rfl, hs⟩, hl1, hnm⟩, ⟨⟨p2, cap2, rfl, hc⟩, hl2⟩⟩ := hv.val
  obtain ⟨b, o, rfl, hb, hty⟩ := hs ok.ne
  obtain ⟨l, f, m⟩ := t
  obtain ⟨h1, h2, h3, h4, h5, h6, h7⟩ := ok
  dsimp only at h1 h2 h3 h4 h5 h6 h7 hs hc hty hl1 hl2 hnm ⊢
  obtain ⟨fn, hfn⟩ := Int.eq_ofNat_of_zero_le h5.1
  subst hfn
  by_cases hm : m = []
  · subst hm
    exact Of_nochs l fn x b o cap cap2 p2 w hb hty (by omega) h2 _ rfl
  · obtain ⟨b2, o2, rfl, hb2, hch⟩ := hc hm
    exact Of_chs l fn m x b o cap b2 o2 cap2 w hb hty hb2 hch (by omega) (fun i hi => by
      have := h6 m[i] (List.getElem_mem hi)
      simp [kAt, hi]; omega) h3 h2 (fun i j hij hj => tAt_mono m h7 i j hij hj) _ rfl

end Go.Proofs.Yteoliifghhlinaa
