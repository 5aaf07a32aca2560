/- What a table that may be has: plain facts. -/
import Derived.Test.YtmjakhageehcoaaDoorTab2
namespace Go.Proofs.YtmjakhageehcoaaDoor
open Go.RowKit
set_option linter.unusedVariables false
set_option linter.unusedSimpArgs false

def tAt (m : List Ch) (i : Nat) : Int := (m[i]?.map (·.t)).getD 0
def kAt (m : List Ch) (i : Nat) : Int := (m[i]?.map (·.k)).getD 0
def tyD (l : List Ty) (k : Int) : Ty := l[k.toNat]?.getD ⟨0, false, ⟨#[]⟩⟩
abbrev tyV (x : Ty) : Value := .agg #[.int .i64 x.off, .bool x.save, .string x.name]

theorem chkTypes_ok : ∀ (l : List Ty), chkTypes l = 0 → ∀ x ∈ l, okOff x.off = true ∧ abbrB x.name = true
  | [], _, x, hx => by simp at hx
  | y :: r, h, x, hx => by
    unfold chkTypes at h
    split at h
    · split at h
      · rcases List.mem_cons.1 hx with rfl | hx
        · exact ⟨‹_›, ‹_›⟩
        · exact chkTypes_ok r h x hx
      · omega
    · omega

theorem chkChs_ok (last : Int) : ∀ (m : List Ch) (prev : Option Int), chkChs last prev m = 0 →
    (∀ x ∈ m, okTime x.t = true ∧ okIdx last x.k = true) ∧ (∀ p, prev = some p → ∀ x ∈ m, p < x.t) ∧ m.Pairwise (fun a b => a.t < b.t)
  | [], _, _ => ⟨by simp, by simp, List.Pairwise.nil⟩
  | c :: r, prev, h => by
    unfold chkChs at h
    split at h
    · split at h
      · omega
      · rename_i h1 h2
        obtain ⟨i1, i2, i3⟩ := chkChs_ok last r (some c.t) h
        simp only [Bool.and_eq_true] at h1
        have hp : ∀ p, prev = some p → p < c.t := by
          intro p hp
          subst hp
          simpa [before] using h2
        refine ⟨fun x hx => ?_, fun p hpp x hx => ?_, ?_⟩
        · rcases List.mem_cons.1 hx with rfl | hx
          · exact h1
          · exact i1 x hx
        · rcases List.mem_cons.1 hx with rfl | hx
          · exact hp p hpp
          · have := i2 c.t rfl x hx
            have := hp p hpp
            omega
        · exact List.Pairwise.cons (fun x hx => i2 c.t rfl x hx) i3
    · omega

structure OkTab (t : Tab) : Prop where
  ne : t.types ≠ []
  many : t.types.length ≤ 250
  chs : t.chs.length ≤ 1000
  type : ∀ x ∈ t.types, -75600 ≤ x.off ∧ x.off ≤ 75600 ∧ abbrB x.name = true
  first : 0 ≤ t.first ∧ t.first < t.types.length
  ch : ∀ x ∈ t.chs, -1099511627776 ≤ x.t ∧ x.t ≤ 1099511627776 ∧ 0 ≤ x.k ∧ x.k < t.types.length
  rise : t.chs.Pairwise (fun a b => a.t < b.t)

theorem chk_ok (t : Tab) (h : chk t = 0) : OkTab t := by
  unfold chk at h
  split at h
  · omega
  · rename_i hb
    split at h
    · omega
    · rename_i hn
      split at h
      · rename_i ht
        split at h
        · rename_i hf
          obtain ⟨c1, _, c3⟩ := chkChs_ok _ _ _ h
          have hb' : ¬ (250 < t.types.length ∨ 1000 < t.chs.length) := by simpa [big] using hb
          simp only [okIdx, decide_eq_true_eq] at hf
          refine ⟨hn, by omega, by omega, fun x hx => ?_, by omega, fun x hx => ?_, c3⟩
          · have := chkTypes_ok _ ht x hx
            simp only [okOff, decide_eq_true_eq] at this
            exact ⟨this.1.1, this.1.2, this.2⟩
          · have := c1 x hx
            simp only [okTime, okIdx, decide_eq_true_eq] at this
            omega
        · omega
      · exact absurd h ‹_›

theorem tAt_mono (m : List Ch) (h : m.Pairwise (fun a b => a.t < b.t)) (i j : Nat) (hij : i ≤ j) (hj : j < m.length) : tAt m i ≤ tAt m j := by
  unfold tAt
  rw [List.getElem?_eq_getElem hj, List.getElem?_eq_getElem (by omega)]
  by_cases e : i = j
  · subst e; exact Int.le_refl _
  · have := List.pairwise_iff_getElem.1 h i j (by omega) hj (by omega)
    simp; omega

theorem length_sub {α : Type} [DecidableEq α] : ∀ (l m : List α), l.Nodup → (∀ x ∈ l, x ∈ m) → l.length ≤ m.length
  | [], m, _, _ => Nat.zero_le _
  | a :: l, m, hn, hs => by
    rw [List.nodup_cons] at hn
    have ha := hs a (by simp)
    have := length_sub l (m.erase a) hn.2 (fun x hx => (List.mem_erase_of_ne (fun (e : x = a) => hn.1 (by rw [← e]; exact hx))).2 (hs x (by simp [hx])))
    rw [List.length_erase_of_mem ha] at this
    have : 0 < m.length := List.length_pos_of_mem ha
    simp; omega


end Go.Proofs.YtmjakhageehcoaaDoor
