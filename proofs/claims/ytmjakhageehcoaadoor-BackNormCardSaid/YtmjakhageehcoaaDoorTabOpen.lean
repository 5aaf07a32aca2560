/- A law's table argument, as it lies in memory. -/
import Derived.Test.YtmjakhageehcoaaDoorTabMath
import Derived.Deep.Slices
import Derived.Deep.Fields
import Derived.ChangeSame
import Derived.Lib.SmallJoins
namespace Go.Proofs.YtmjakhageehcoaaDoor
open Go.ChangeShapes Go.WideShapes Go.Deep Go.RowKit Go.Joins
set_option linter.unusedVariables false
set_option linter.unusedSimpArgs false

section
variable {H : Type} {enc : TypeId × Value → H} {P : Program} {w : World} {base : Nat} {spare : Nat → Bool} {held : Bool}
/-- (the guide's lemma on slices of structs) -/
theorem open_slice_fields {t e : TypeId} {fs : Array Field} {fuel : Nat} {cs : List Value} {x : DataW H × List MemPlace} (ht : P.underlying t = some (.slice e)) (he : P.underlying e = some (.struct fs))
    (hone : oneCellFields P fs = true) (hC : P.cellsOf e = fs.size) (h : DataW.trod enc P w base spare held fuel t cs = some x) :
    (cs = [.slice none 0 0] ∧ x = (.nil, [])) ∨
    ∃ (a : Addr) (len cap m : Nat) (D : Nat → DataW H) (Pl : Nat → List MemPlace), cs = [.slice (some a) len cap] ∧ base ≤ a.block ∧ len ≤ cap ∧ cap ≤ maxLen ∧ m = (if spare a.block then cap else len) ∧
      x = (.slice ((List.range len).map D) ((List.range (m - len)).map fun j => D (len + j)), MemPlace.row a (m * fs.size) ++ (List.range m).flatMap Pl) ∧
      ∀ i, i < m → ∃ (ys : List (DataW H × List MemPlace)) (n : Nat), D i = .agg (ys.map (·.1)) ∧ Pl i = ys.flatMap (·.2) ∧ ys.length = fs.size ∧
        ∀ (j : Nat) (f : Field), fs[j]? = some f → ∃ (v : Value) (y : DataW H × List MemPlace), w.cell? (a.add (i * fs.size + j)) = some v ∧ ys[j]? = some y ∧ DataW.trod enc P w base spare held n f.type [v] = some y := by
  rcases open_slice ht h with h0 | ⟨a, len, cap, m, n, D, Pl, hcs, hb, hl, hm, hmm, hx, hi⟩
  · exact .inl h0
  · refine .inr ⟨a, len, cap, m, D, Pl, hcs, hb, hl, hm, hmm, by rw [hC] at hx; exact hx, fun i him => ?_⟩
    obtain ⟨cs', hc, ht'⟩ := hi i him
    rw [hC] at hc
    obtain ⟨ys, n', hn', hy, hlen, hyl, hf⟩ := DataW.trod_struct he ht'
    obtain ⟨_, hcl, hat⟩ := World.cells?_some hc
    simp only [Prod.mk.injEq] at hy
    refine ⟨ys, n', hy.1, hy.2, hyl, fun j f hj => ?_⟩
    obtain ⟨ho, hk⟩ := hone_of hone j f hj
    have hjl : j < fs.size := (Array.getElem?_eq_some_iff.1 hj).1
    have hcell := hat j hjl
    have hv : cs'[j]? = some (cs'[j]'(by omega)) := List.getElem?_eq_getElem (by omega)
    have h1 := hf j f hj
    rw [ho, hk] at h1
    have hone' : (cs'.drop j).take 1 = [cs'[j]'(by omega)] := by
      rw [List.drop_eq_getElem_cons (by omega)]
      rfl
    rw [hone'] at h1
    have hys : ys[j]? = some (ys[j]'(by omega)) := List.getElem?_eq_getElem (by omega)
    refine ⟨_, _, ?_, hys, h1.trans hys⟩
    rw [← Go.Deep.add_add, hcell, hv]
end

theorem und_types : Tryd.prog.underlying 22 = some (.slice 45) := by kernel_rfl
theorem und_changes : Tryd.prog.underlying 23 = some (.slice 43) := by kernel_rfl

/-- an address that holds a cell is plain -/
theorem spot_none {w : World} {a : Addr} {v : Value} (h : w.cell? a = some v) : a = ⟨a.block, a.off, none⟩ := by
  obtain ⟨b, o, s⟩ := a
  cases s with
  | none => rfl
  | some k =>
    simp only [World.cell?] at h
    split at h
    · simp at h
    · cases h
theorem add_plain (b o i : Nat) : (⟨b, o, none⟩ : Addr).add i = ⟨b, o + i, none⟩ := by
  unfold Addr.add
  split
  · rename_i h; subst h; rfl
  · rfl

theorem list_of {α : Type} [Inhabited α] (n : Nat) (Q : Nat → α → Prop) (h : ∀ i, i < n → ∃ x, Q i x) : ∃ l : List α, l.length = n ∧ ∀ i (hi : i < l.length), Q i l[i] := by
  classical
  refine ⟨(List.range n).map fun i => if hi : i < n then Classical.choose (h i hi) else default, by simp, fun i hi => ?_⟩
  have hi' : i < n := by simpa using hi
  simp only [List.getElem_map, List.getElem_range, hi', dite_true]
  exact Classical.choose_spec (h i hi')

instance : Inhabited Ty := ⟨⟨0, false, ⟨#[]⟩⟩⟩
instance : Inhabited Ch := ⟨⟨0, 0⟩⟩

section
variable {H : Type} {enc : TypeId × Value → H} {w : World} {base : Nat} {spare : Nat → Bool} {held : Bool}

theorem SlTy_open {fuel : Nat} {v : Value} {x : DataW H × List MemPlace} (h : DataW.trod enc Tryd.prog w base spare held fuel 22 [v] = some x) : ∃ l, SlTy w v l := by
  rcases open_slice_fields und_types Tryd.underlying45 (by kernel_rfl) (by kernel_rfl) h with ⟨hcs, _⟩ | ⟨a, len, cap, m, D, Pl, hcs, hb, hl, hm, hmm, hx, hf⟩
  · obtain rfl : v = .slice none 0 0 := by simpa using hcs
    exact ⟨[], ⟨⟨none, 0, rfl, fun h => absurd rfl h⟩, by simp, by simp⟩⟩
  · obtain rfl : v = .slice (some a) len cap := by simpa using hcs
    have hlm : len ≤ m := by rw [hmm]; split <;> omega
    have key : ∀ i, i < len → ∃ x : Ty, tyAt w a.block (a.off + i * 3) x ∧ x.name.size ≤ maxLen ∧ a = ⟨a.block, a.off, none⟩ ∧ a.block < w.heap.size := by
      intro i hi
      obtain ⟨ys, n, _, _, _, hfs⟩ := hf i (by omega)
      obtain ⟨ys0, n0, _, _, _, hfs0⟩ := hf 0 (by omega)
      obtain ⟨z0, _, d0, _, _⟩ := hfs0 0 _ rfl
      have hsp : a = ⟨a.block, a.off, none⟩ := by
        have e : a.add (0 * 3 + 0) = a := rfl
        exact spot_none (w := w) (v := z0) d0
      obtain ⟨v0, y0, c0, _, t0⟩ := hfs 0 _ rfl
      obtain ⟨v1, y1, c1, _, t1⟩ := hfs 1 _ rfl
      obtain ⟨v2, y2, c2, _, t2⟩ := hfs 2 _ rfl
      obtain ⟨b0, e0, _, _⟩ := DataW.trod_int Tryd.underlying3 t0
      obtain ⟨b1, e1, _⟩ := DataW.trod_bool Tryd.underlying4 t1
      obtain ⟨b2, e2, _, hs2⟩ := DataW.trod_string Tryd.underlying9 t2
      simp only [List.cons.injEq, and_true] at e0 e1 e2
      subst e0 e1 e2
      have hlt : a.block < w.heap.size := by
        rw [hsp, add_plain] at d0
        exact World.block_lt_of_cell? w ⟨a.block, _, none⟩ d0
      rw [hsp, add_plain] at c0 c1 c2
      exact ⟨⟨b0, b1, b2⟩, ⟨c0, c1, c2⟩, hs2, hsp, hlt⟩
    obtain ⟨l, hl1, hl2⟩ := list_of len _ key
    subst hl1
    refine ⟨l, ⟨⟨some a, cap, rfl, fun hne => ?_⟩, by omega, fun x hx => ?_⟩⟩
    · have hp : 0 < l.length := List.length_pos_iff.2 hne
      obtain ⟨_, _, h3, h4⟩ := hl2 0 hp
      exact ⟨a.block, a.off, congrArg some h3, h4, fun i hi => (hl2 i hi).1⟩
    · obtain ⟨i, hi, rfl⟩ := List.mem_iff_getElem.1 hx
      exact (hl2 i hi).2.1

theorem SlCh_open {fuel : Nat} {v : Value} {x : DataW H × List MemPlace} (h : DataW.trod enc Tryd.prog w base spare held fuel 23 [v] = some x) : ∃ l, SlCh w v l := by
  rcases open_slice_fields und_changes Tryd.underlying43 (by kernel_rfl) (by kernel_rfl) h with ⟨hcs, _⟩ | ⟨a, len, cap, m, D, Pl, hcs, hb, hl, hm, hmm, hx, hf⟩
  · obtain rfl : v = .slice none 0 0 := by simpa using hcs
    exact ⟨[], ⟨⟨none, 0, rfl, fun h => absurd rfl h⟩, by simp⟩⟩
  · obtain rfl : v = .slice (some a) len cap := by simpa using hcs
    have hlm : len ≤ m := by rw [hmm]; split <;> omega
    have key : ∀ i, i < len → ∃ x : Ch, chAt w a.block (a.off + i * 2) x ∧ a = ⟨a.block, a.off, none⟩ ∧ a.block < w.heap.size := by
      intro i hi
      obtain ⟨ys, n, _, _, _, hfs⟩ := hf i (by omega)
      obtain ⟨ys0, n0, _, _, _, hfs0⟩ := hf 0 (by omega)
      obtain ⟨z0, _, d0, _, _⟩ := hfs0 0 _ rfl
      have hsp : a = ⟨a.block, a.off, none⟩ := spot_none (w := w) (v := z0) d0
      obtain ⟨v0, y0, c0, _, t0⟩ := hfs 0 _ rfl
      obtain ⟨v1, y1, c1, _, t1⟩ := hfs 1 _ rfl
      obtain ⟨b0, e0, _, _⟩ := DataW.trod_int Tryd.underlying3 t0
      obtain ⟨b1, e1, _, _⟩ := DataW.trod_int Tryd.underlying3 t1
      simp only [List.cons.injEq, and_true] at e0 e1
      subst e0 e1
      have hlt : a.block < w.heap.size := by
        rw [hsp, add_plain] at d0
        exact World.block_lt_of_cell? w ⟨a.block, _, none⟩ d0
      rw [hsp, add_plain] at c0 c1
      exact ⟨⟨b0, b1⟩, ⟨c0, c1⟩, hsp, hlt⟩
    obtain ⟨l, hl1, hl2⟩ := list_of len _ key
    subst hl1
    refine ⟨l, ⟨⟨some a, cap, rfl, fun hne => ?_⟩, by omega⟩⟩
    have hp : 0 < l.length := List.length_pos_iff.2 hne
    obtain ⟨_, h3, h4⟩ := hl2 0 hp
    exact ⟨a.block, a.off, congrArg some h3, h4, fun i hi => (hl2 i hi).1⟩

theorem cellsTable : Tryd.prog.cellsOf 25 = 3 := by kernel_rfl
set_option maxRecDepth 100000 in
/-- A law's table argument -/
theorem TabAt_open {r : Reach} {b0 : Nat} {v : Value} {d : DataW H} {p : List MemPlace} (hv : Value.okWide Tryd.prog w r b0 25 v) (h : DataW.Trod enc Tryd.prog w base spare held 25 v d p) : ∃ t, TabAt w v t := by
  obtain ⟨c0, c1, c2, y0, y1, y2, m, rfl, _, _, g0, g1, g2⟩ := open_agg3 Tryd.underlying25 (by kernel_rfl) cellsTable hv h
  obtain ⟨l, hl⟩ := SlTy_open g0
  obtain ⟨b1, e1, _, _⟩ := DataW.trod_int Tryd.underlying3 g1
  obtain ⟨k, hk⟩ := SlCh_open g2
  simp only [List.cons.injEq, and_true] at e1
  subst e1
  exact ⟨⟨l, b1, k⟩, _, _, rfl, hl, hk⟩
end

end Go.Proofs.YtmjakhageehcoaaDoor
