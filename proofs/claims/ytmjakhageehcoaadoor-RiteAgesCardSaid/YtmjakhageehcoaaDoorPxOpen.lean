/- A law's argument of type Posix, as it comes in. -/
import Derived.Test.YtmjakhageehcoaaDoorRite1
import Derived.Deep.Slices
import Derived.Deep.Fields
import Derived.ChangeSame
import Derived.Lib.SmallJoins
namespace Go.Proofs.YtmjakhageehcoaaDoor
open Go.ChangeShapes Go.WideShapes Go.Deep Go.RowKit Go.Joins
set_option linter.unusedVariables false
set_option linter.unusedSimpArgs false

theorem list12 {α : Type} (l : List α) (h : l.length = 12) : ∃ a b c d e f g h' i j k m, l = [a, b, c, d, e, f, g, h', i, j, k, m] := by
  match l, h with
  | [a, b, c, d, e, f, g, h', i, j, k, m], _ => exact ⟨a, b, c, d, e, f, g, h', i, j, k, m, rfl⟩

theorem int_bd {n : Int} (h : (Lit.int .i64 n).wf = true) : -9223372036854775808 ≤ n ∧ n ≤ 9223372036854775807 := by
  simp only [Lit.wf, Bool.and_eq_true, decide_eq_true_eq] at h
  exact h

section
variable {H : Type} {enc : TypeId × Value → H} {w : World} {base : Nat} {spare : Nat → Bool} {held : Bool}
theorem trod_i {fuel : Nat} {v : Value} {x : DataW H × List MemPlace} (h : DataW.trod enc Tryd.prog w base spare held fuel 3 [v] = some x) : ∃ n, v = .int .i64 n := by
  obtain ⟨b, e, _, _⟩ := DataW.trod_int Tryd.underlying3 h
  simp only [List.cons.injEq, and_true] at e
  exact ⟨b, e⟩
theorem trod_s {fuel : Nat} {v : Value} {x : DataW H × List MemPlace} (h : DataW.trod enc Tryd.prog w base spare held fuel 9 [v] = some x) : ∃ s, v = .string s ∧ s.size ≤ maxLen := by
  obtain ⟨b, e, _, hs⟩ := DataW.trod_string Tryd.underlying9 h
  simp only [List.cons.injEq, and_true] at e
  exact ⟨b, e, hs⟩
set_option maxRecDepth 100000 in
theorem Rt_open {fuel : Nat} {a b c d : Value} {x : DataW H × List MemPlace} (h : DataW.trod enc Tryd.prog w base spare held fuel 49 [a, b, c, d] = some x) : ∃ r : Rt, a = .int .i64 r.m ∧ b = .int .i64 r.w ∧ c = .int .i64 r.d ∧ d = .int .i64 r.t := by
  obtain ⟨xs, n, _, _, _, hl, hf⟩ := DataW.trod_struct Tryd.underlying49 h
  have hl4 : xs.length = 4 := hl
  have h0 := hf 0 _ rfl
  have h1 := hf 1 _ rfl
  have h2 := hf 2 _ rfl
  have h3 := hf 3 _ rfl
  rw [List.getElem?_eq_getElem (by omega)] at h0 h1 h2 h3
  obtain ⟨m, rfl⟩ := trod_i (v := a) h0
  obtain ⟨k, rfl⟩ := trod_i (v := b) h1
  obtain ⟨e, rfl⟩ := trod_i (v := c) h2
  obtain ⟨t, rfl⟩ := trod_i (v := d) h3
  exact ⟨⟨m, k, e, t⟩, rfl, rfl, rfl, rfl⟩

theorem cellsPx : Tryd.prog.cellsOf 51 = 12 := by kernel_rfl
set_option maxRecDepth 100000 in
theorem Px_open {r : Reach} {b0 : Nat} {v : Value} {d : DataW H} {p : List MemPlace} (hv : Value.okWide Tryd.prog w r b0 51 v) (h : DataW.Trod enc Tryd.prog w base spare held 51 v d p) :
    ∃ q : Px, v = pxV q ∧ q.name.size ≤ maxLen ∧ q.also.size ≤ maxLen := by
  obtain ⟨cs, rfl, hsz⟩ := okWide_struct Tryd.underlying51 hv
  obtain ⟨l⟩ := cs
  obtain ⟨c0, c1, c2, c3, c4, c5, c6, c7, c8, c9, c10, c11, rfl⟩ := list12 l (hsz.trans cellsPx)
  obtain ⟨fuel, hf⟩ := h
  obtain ⟨xs, n, _, _, _, hl, hf⟩ := DataW.trod_struct Tryd.underlying51 hf
  have hl6 : xs.length = 6 := hl
  have h0 := hf 0 _ rfl
  have h1 := hf 1 _ rfl
  have h2 := hf 2 _ rfl
  have h3 := hf 3 _ rfl
  have h4 := hf 4 _ rfl
  have h5 := hf 5 _ rfl
  rw [List.getElem?_eq_getElem (by omega)] at h0 h1 h2 h3 h4 h5
  obtain ⟨nm, rfl, s1⟩ := trod_s (v := c0) h0
  obtain ⟨off, rfl⟩ := trod_i (v := c1) h1
  obtain ⟨al, rfl, s2⟩ := trod_s (v := c2) h2
  obtain ⟨ao, rfl⟩ := trod_i (v := c3) h3
  obtain ⟨rs, rfl, rfl, rfl, rfl⟩ := Rt_open (a := c4) (b := c5) (c := c6) (d := c7) (h4 : DataW.trod enc Tryd.prog w base spare held n 49 [c4, c5, c6, c7] = _)
  obtain ⟨re, rfl, rfl, rfl, rfl⟩ := Rt_open (a := c8) (b := c9) (c := c10) (d := c11) (h5 : DataW.trod enc Tryd.prog w base spare held n 49 [c8, c9, c10, c11] = _)
  exact ⟨⟨nm, off, al, ao, rs, re⟩, rfl, s1, s2⟩
end
end Go.Proofs.YtmjakhageehcoaaDoor
