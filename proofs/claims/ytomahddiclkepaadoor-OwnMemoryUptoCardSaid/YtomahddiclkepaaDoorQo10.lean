/- A law's table argument, as it lies in memory. A law's table argument, and what its changes weigh. A law's arguments of type Book and Table, and what they hold of bulk (the second form's card). -/
import Derived.Test.YtomahddiclkepaaDoorQo01
import Derived.Deep.Slices
import Derived.Deep.Fields
import Derived.ChangeSame
import Derived.Lib.SmallJoins
import Derived.SizedLaws
import Derived.Test.YtomahddiclkepaaDoorQo09
namespace Go.Proofs.YtomahddiclkepaaDoor
open Go.ChangeShapes Go.WideShapes Go.Deep Go.RowKit Go.Joins
set_option linter.unusedVariables false
set_option linter.unusedSimpArgs false
section
variable {H : Type} {enc : TypeId × Value → H} {P : Program} {w : World} {base : Nat} {spare : Nat → Bool} {held : Bool}
theorem open_slice_fields {t e : TypeId} {fs : Array Field} {fuel : Nat} {cs : List Value} {x : DataW H × List MemPlace} (ht : P.underlying t = some (.slice e)) (he : P.underlying e = some (.struct fs))
 (hone : oneCellFields P fs = true) (hC : P.cellsOf e = fs.size) (h : DataW.trod enc P w base spare held fuel t cs = some x) :
 (cs = [.slice none 0 0] ∧ x = (.nil, [])) ∨
 ∃ (a : Addr) (len cap m : Nat) (D : Nat → DataW H) (Pl : Nat → List MemPlace), cs = [.slice (some a) len cap] ∧ base ≤ a.block ∧ len ≤ cap ∧ cap ≤ maxLen ∧ m = (if spare a.block then cap else len) ∧
  x = (.slice ((List.range len).map D) ((List.range (m - len)).map fun j => D (len + j)), MemPlace.row a (m * fs.size) ++ (List.range m).flatMap Pl) ∧
  ∀ i, i < m → ∃ (ys : List (DataW H × List MemPlace)) (n : Nat), D i = .agg (ys.map (·.1)) ∧ Pl i = ys.flatMap (·.2) ∧ ys.length = fs.size ∧
   ∀ (j : Nat) (f : Field), fs[j]? = some f → ∃ (v : Value) (y : DataW H × List MemPlace), w.cell? (a.add (i * fs.size + j)) = some v ∧ ys[j]? = some y ∧ DataW.trod enc P w base spare held n f.type [v] = some y := by
 rcases open_slice ht h with h0 | ⟨a, len, cap, m, n, D, Pl, hcs, hb, hl, hm, hmm, hx, hi⟩
 ·exact .inl h0
 ·refine .inr ⟨a, len, cap, m, D, Pl, hcs, hb, hl, hm, hmm, by rw [hC] at hx; exact hx, fun i him => ?_⟩
  obtain ⟨cs', hc, ht'⟩ := hi i him
  rw [hC] at hc
  obtain ⟨ys, n', hn', hy, hlen, hyl, hf⟩ := DataW.trod_struct he ht'
  obtain ⟨_, hcl, hat⟩ := World.cells?_some hc
  simp only [Prod.mk.injEq] at hy
  refine ⟨ys, n', hy.1, hy.2, hyl, fun j f hj => ?_⟩
  obtain ⟨ho, hk⟩ := hone_of hone j f hj
  have hjl : j < fs.size := (Array.getElem?_eq_some_iff.1 hj).1
  have hcell := hat j hjl
  have hv : cs'[j]? = some (cs'[j]'(by omega)) := List.getElem?_eq_getElem (by omega)
  have h1 := hf j f hj
  rw [ho, hk] at h1
  have hone' : (cs'.drop j).take 1 = [cs'[j]'(by omega)] := by
   rw [List.drop_eq_getElem_cons (by omega)]
   rfl
  rw [hone'] at h1
  have hys : ys[j]? = some (ys[j]'(by omega)) := List.getElem?_eq_getElem (by omega)
  refine ⟨_, _, ?_, hys, h1.trans hys⟩
  rw [← Go.Deep.add_add, hcell, hv]
end
theorem und_types : Tryd.prog.underlying 27 = some (.slice 37) := by kernel_rfl
theorem und_changes : Tryd.prog.underlying 28 = some (.slice 40) := by kernel_rfl
theorem spot_none {w : World} {a : Addr} {v : Value} (h : w.cell? a = some v) : a = ⟨a.block, a.off, none⟩ := by
 obtain ⟨b, o, s⟩ := a
 cases s with
 | none => rfl
 | some k =>
  simp only [World.cell?] at h
  split at h
  ·simp at h
  ·cases h
theorem add_plain (b o i : Nat) : (⟨b, o, none⟩ : Addr).add i = ⟨b, o + i, none⟩ := by
 unfold Addr.add
 split
 ·rename_i h; subst h; rfl
 ·rfl
theorem list_of {α : Type} [Inhabited α] (n : Nat) (Q : Nat → α → Prop) (h : ∀ i, i < n → ∃ x, Q i x) : ∃ l : List α, l.length = n ∧ ∀ i (hi : i < l.length), Q i l[i] := by
 classical
 refine ⟨(List.range n).map fun i => if hi : i < n then Classical.choose (h i hi) else default, by simp, fun i hi => ?_⟩
 have hi' : i < n := by simpa using hi
 simp only [List.getElem_map, List.getElem_range, hi', dite_true]
 exact Classical.choose_spec (h i hi')
instance : Inhabited Ty := ⟨⟨0, false, ⟨#[]⟩⟩⟩
instance : Inhabited Ch := ⟨⟨0, 0⟩⟩
section
variable {H : Type} {enc : TypeId × Value → H} {w : World} {base : Nat} {spare : Nat → Bool} {held : Bool}
theorem SlTy_open {fuel : Nat} {v : Value} {x : DataW H × List MemPlace} (h : DataW.trod enc Tryd.prog w base spare held fuel 27 [v] = some x) : ∃ l, SlTy w v l := by
 rcases open_slice_fields und_types Tryd.underlying37 (by kernel_rfl) (by kernel_rfl) h with ⟨hcs, _⟩ | ⟨a, len, cap, m, D, Pl, hcs, hb, hl, hm, hmm, hx, hf⟩
 ·obtain rfl : v = .slice none 0 0 := by simpa using hcs
  exact ⟨[], ⟨⟨none, 0, rfl, fun h => absurd rfl h⟩, by simp, by simp⟩⟩
 ·obtain rfl : v = .slice (some a) len cap := by simpa using hcs
  have hlm : len ≤ m := by rw [hmm]; split <;> omega
  have key : ∀ i, i < len → ∃ x : Ty, tyAt w a.block (a.off + i * 3) x ∧ x.name.size ≤ maxLen ∧ a = ⟨a.block, a.off, none⟩ ∧ a.block < w.heap.size := by
   intro i hi
   obtain ⟨ys, n, _, _, _, hfs⟩ := hf i (by omega)
   obtain ⟨ys0, n0, _, _, _, hfs0⟩ := hf 0 (by omega)
   obtain ⟨z0, _, d0, _, _⟩ := hfs0 0 _ rfl
   have hsp : a = ⟨a.block, a.off, none⟩ := by
    have e : a.add (0 * 3 + 0) = a := rfl
    exact spot_none (w := w) (v := z0) d0
   obtain ⟨v0, y0, c0, _, t0⟩ := hfs 0 _ rfl
   obtain ⟨v1, y1, c1, _, t1⟩ := hfs 1 _ rfl
   obtain ⟨v2, y2, c2, _, t2⟩ := hfs 2 _ rfl
   obtain ⟨b0, e0, _, _⟩ := DataW.trod_int Tryd.underlying3 t0
   obtain ⟨b1, e1, _⟩ := DataW.trod_bool Tryd.underlying4 t1
   obtain ⟨b2, e2, _, hs2⟩ := DataW.trod_string Tryd.underlying9 t2
   simp only [List.cons.injEq, and_true] at e0 e1 e2
   subst e0 e1 e2
   have hlt : a.block < w.heap.size := by
    rw [hsp, add_plain] at d0
    exact World.block_lt_of_cell? w ⟨a.block, _, none⟩ d0
   rw [hsp, add_plain] at c0 c1 c2
   exact ⟨⟨b0, b1, b2⟩, ⟨c0, c1, c2⟩, hs2, hsp, hlt⟩
  obtain ⟨l, hl1, hl2⟩ := list_of len _ key
  subst hl1
  refine ⟨l, ⟨⟨some a, cap, rfl, fun hne => ?_⟩, by omega, fun x hx => ?_⟩⟩
  ·have hp : 0 < l.length := List.length_pos_iff.2 hne
   obtain ⟨_, _, h3, h4⟩ := hl2 0 hp
   exact ⟨a.block, a.off, congrArg some h3, h4, fun i hi => (hl2 i hi).1⟩
  ·obtain ⟨i, hi, rfl⟩ := List.mem_iff_getElem.1 hx
   exact (hl2 i hi).2.1
theorem SlCh_open {fuel : Nat} {v : Value} {x : DataW H × List MemPlace} (h : DataW.trod enc Tryd.prog w base spare held fuel 28 [v] = some x) : ∃ l, SlCh w v l := by
 rcases open_slice_fields und_changes Tryd.underlying40 (by kernel_rfl) (by kernel_rfl) h with ⟨hcs, _⟩ | ⟨a, len, cap, m, D, Pl, hcs, hb, hl, hm, hmm, hx, hf⟩
 ·obtain rfl : v = .slice none 0 0 := by simpa using hcs
  exact ⟨[], ⟨⟨none, 0, rfl, fun h => absurd rfl h⟩, by simp⟩⟩
 ·obtain rfl : v = .slice (some a) len cap := by simpa using hcs
  have hlm : len ≤ m := by rw [hmm]; split <;> omega
  have key : ∀ i, i < len → ∃ x : Ch, chAt w a.block (a.off + i * 2) x ∧ a = ⟨a.block, a.off, none⟩ ∧ a.block < w.heap.size := by
   intro i hi
   obtain ⟨ys, n, _, _, _, hfs⟩ := hf i (by omega)
   obtain ⟨ys0, n0, _, _, _, hfs0⟩ := hf 0 (by omega)
   obtain ⟨z0, _, d0, _, _⟩ := hfs0 0 _ rfl
   have hsp : a = ⟨a.block, a.off, none⟩ := spot_none (w := w) (v := z0) d0
   obtain ⟨v0, y0, c0, _, t0⟩ := hfs 0 _ rfl
   obtain ⟨v1, y1, c1, _, t1⟩ := hfs 1 _ rfl
   obtain ⟨b0, e0, _, _⟩ := DataW.trod_int Tryd.underlying3 t0
   obtain ⟨b1, e1, _, _⟩ := DataW.trod_int Tryd.underlying3 t1
   simp only [List.cons.injEq, and_true] at e0 e1
   subst e0 e1
   have hlt : a.block < w.heap.size := by
    rw [hsp, add_plain] at d0
    exact World.block_lt_of_cell? w ⟨a.block, _, none⟩ d0
   rw [hsp, add_plain] at c0 c1
   exact ⟨⟨b0, b1⟩, ⟨c0, c1⟩, hsp, hlt⟩
  obtain ⟨l, hl1, hl2⟩ := list_of len _ key
  subst hl1
  refine ⟨l, ⟨⟨some a, cap, rfl, fun hne => ?_⟩, by omega⟩⟩
  have hp : 0 < l.length := List.length_pos_iff.2 hne
  obtain ⟨_, h3, h4⟩ := hl2 0 hp
  exact ⟨a.block, a.off, congrArg some h3, h4, fun i hi => (hl2 i hi).1⟩
theorem cellsTable : Tryd.prog.cellsOf 30 = 3 := by kernel_rfl
end
end Go.Proofs.YtomahddiclkepaaDoor
namespace Go.Proofs.YtomahddiclkepaaDoor
open Go.ChangeShapes Go.WideShapes Go.Deep Go.RowKit Go.Joins
set_option linter.unusedVariables false
set_option linter.unusedSimpArgs false
section
variable {H : Type} {enc : TypeId × Value → H} {w : World} {base : Nat} {spare : Nat → Bool} {held : Bool}
theorem SlCh_openS {fuel : Nat} {v : Value} {x : DataW H × List MemPlace} (h : DataW.trod enc Tryd.prog w base spare held fuel 28 [v] = some x) :
 ∃ l, SlCh w v l ∧ (l.length = 0 ∨ ∃ es sp, x.1 = .slice es sp ∧ l.length ≤ es.length) := by
 obtain ⟨l, hl⟩ := SlCh_open h
 refine ⟨l, hl, ?_⟩
 obtain ⟨p, cap, e, -⟩ := hl.shape
 rcases open_slice_fields und_changes Tryd.underlying40 (by kernel_rfl) (by kernel_rfl) h with ⟨hcs, _⟩ | ⟨a, len, cap', m, D, Pl, hcs, hb, hle, hm, hmm, hx, hf⟩
 ·obtain rfl : v = .slice none 0 0 := by simpa using hcs
  injection e with e1 e2 e3
  exact .inl (by omega)
 ·obtain rfl : v = .slice (some a) len cap' := by simpa using hcs
  injection e with e1 e2 e3
  exact .inr ⟨_, _, by rw [hx], by simp; omega⟩
end
end Go.Proofs.YtomahddiclkepaaDoor
namespace Go.Proofs.YtomahddiclkepaaDoor
open Go.ChangeShapes Go.WideShapes Go.Deep Go.RowKit Go.Joins
set_option linter.unusedVariables false
set_option linter.unusedSimpArgs false
theorem map_bulkU {H α : Type} (f : α → Nat) (D : Nat → DataW H) : ∀ (n : Nat) (l : List α), l.length = n → (∀ i (h : i < l.length), f l[i] ≤ Rows.uptoBulk (D i)) → (l.map f).sum ≤ Rows.uptoBulkAll ((List.range n).map D)
 | 0, l, h, _ => by
  have : l = [] := List.eq_nil_of_length_eq_zero h
  subst this
  simp
 | n + 1, l, h, hf => by
  have hne : l ≠ [] := by intro e; subst e; simp at h
  have e := List.dropLast_concat_getLast hne
  have hlast : f (l.getLast hne) ≤ Rows.uptoBulk (D n) := by
   have := hf n (by omega)
   rw [List.getLast_eq_getElem]
   simpa [h] using this
  have ih := map_bulkU f D n l.dropLast (by simp [h]) fun i hi => by
   rw [List.getElem_dropLast]
   exact hf i (by simp at hi; omega)
  rw [List.range_succ, List.map_append, bulks.append]
  rw [← e, List.map_append, List.sum_append]
  simp only [List.map_cons, List.map_nil, List.sum_cons, List.sum_nil, Rows.uptoBulkAll]
  omega
section
variable {H : Type} {enc : TypeId × Value → H} {w : World} {base : Nat} {spare : Nat → Bool} {held : Bool}
theorem open_rowsU {α : Type} [Inhabited α] (cells : α → List Value) (k : Nat) (Q : α → Prop) (f : α → Nat) {t e : TypeId} (ht : Tryd.prog.underlying t = some (.slice e)) (hk : Tryd.prog.cellsOf e = k) (hb : 1 ≤ Tryd.prog.bytesOf e) (hk0 : 0 < k)
 (el : ∀ fuel l x, l.length = k → DataW.trod enc Tryd.prog w base spare held fuel e l = some x → Szd e x.1 → ∃ a, l = cells a ∧ Q a ∧ f a ≤ Rows.uptoBulk x.1)
 {fuel : Nat} {v : Value} {x : DataW H × List MemPlace} (h : DataW.trod enc Tryd.prog w base spare held fuel t [v] = some x) (hs : Szd t x.1) : ∃ l, RowsAt cells k w.heap.size w v l ∧ (∀ a ∈ l, Q a) ∧ (l.map f).sum ≤ Rows.uptoBulk x.1 := by
 rcases open_slice ht h with ⟨hcs, _⟩ | ⟨a, len, cap, m, n, D, Pl, hcs, hba, hl, hm, hmm, hx, hi⟩
 ·obtain rfl : v = .slice none 0 0 := by simpa using hcs
  exact ⟨[], ⟨none, 0, rfl, ⟨by simp, by simp⟩, fun h => absurd rfl h⟩, fun a h => absurd h (List.not_mem_nil), by simp⟩
 ·obtain rfl : v = .slice (some a) len cap := by simpa using hcs
  rw [hx] at hs
  obtain ⟨hw, hsd⟩ := sz_slice ht hs
  have hlen : len ≤ 140737488351232 := by
   rw [reach_valB] at hw
   simp only [List.length_map, List.length_range] at hw
   have : len * 1 ≤ (len + (m - len)) * Tryd.prog.bytesOf e := Nat.mul_le_mul (by omega) hb
   omega
  have hlm : len ≤ m := by rw [hmm]; split <;> omega
  have key : ∀ i, i < len → ∃ y : α, (∀ j u, (cells y)[j]? = some u → w.cell? (a.add (i * k + j)) = some u) ∧ Q y ∧ (∃ u, w.cell? (a.add (i * k)) = some u) ∧ f y ≤ Rows.uptoBulk (D i) := by
   intro i hil
   obtain ⟨cs', hc, htr⟩ := hi i (by omega)
   rw [hk] at hc
   obtain ⟨_, hcl, hat⟩ := World.cells?_some hc
   obtain ⟨y, rfl, hq, hfu⟩ := el n cs' _ hcl htr (hsd _ (List.mem_map.2 ⟨i, List.mem_range.2 hil, rfl⟩))
   have hcell : ∀ j u, (cells y)[j]? = some u → w.cell? (a.add (i * k + j)) = some u := by
    intro j u hu
    have hj : j < k := by rw [← hcl]; exact (List.getElem?_eq_some_iff.1 hu).1
    rw [← Go.Deep.add_add, hat j hj, hu]
   have h0 : (cells y)[0]? = some ((cells y)[0]'(by omega)) := List.getElem?_eq_getElem (by omega)
   exact ⟨y, hcell, hq, ⟨_, hcell 0 _ h0⟩, hfu⟩
  obtain ⟨l, hl1, hl2⟩ := list_ofB len _ key
  subst hl1
  refine ⟨l, ⟨some a, cap, rfl, ⟨hlen, hl⟩, fun hne => ?_⟩, fun y hy => ?_, ?_⟩
  ·have hp : 0 < l.length := List.length_pos_iff.2 hne
   obtain ⟨_, _, ⟨u, d0⟩, _⟩ := hl2 0 hp
   rw [Nat.zero_mul] at d0
   have hsp : a = ⟨a.block, a.off, none⟩ := spot_noneB (w := w) (v := u) d0
   refine ⟨a.block, a.off, congrArg some hsp, ?_, fun i hi j u hu => ?_⟩
   ·rw [hsp, add_plainB] at d0
    exact World.block_lt_of_cell? w ⟨a.block, _, none⟩ d0
   ·have := (hl2 i hi).1 j u hu
    rw [hsp, add_plainB] at this
    rw [Nat.add_assoc]
    exact this
  ·obtain ⟨i, hi, rfl⟩ := List.mem_iff_getElem.1 hy
   exact (hl2 i hi).2.1
  ·have h1 := map_bulkU f D l.length l rfl fun i hi => (hl2 i hi).2.2.2
   rw [hx]
   simp only [Rows.uptoBulk]
   omega
theorem sum_oneU {α : Type} (l : List α) : (l.map fun _ => 1).sum = l.length := by
 induction l with
 | nil => rfl
 | cons a r ih => simp only [List.map_cons, List.sum_cons, ih, List.length_cons]; omega
theorem agg_partU (parts : List (DataW H)) {d : DataW H} (h : d ∈ parts) : Rows.uptoBulk d ≤ Rows.uptoBulk (.agg parts) := by
 have := bulks.part_le h
 simp only [Rows.uptoBulk]
 omega
set_option maxRecDepth 100000 in
theorem Zo_trodU {fuel : Nat} {l : List Value} {x : DataW H × List MemPlace} (hl : l.length = 2) (h : DataW.trod enc Tryd.prog w base spare held fuel 34 l = some x) (hs : Szd 34 x.1) :
 ∃ q : Zo, l = zoCells q ∧ ZoOk w q ∧ q.eras.length ≤ Rows.uptoBulk x.1 := by
 obtain ⟨c0, c1, rfl⟩ := list2 l hl
 obtain ⟨xs, n, _, hx, _, hl, hf⟩ := DataW.trod_struct Tryd.underlying34 h
 have hl2 : xs.length = 2 := hl
 have h0 := hf 0 _ rfl
 have h1 := hf 1 _ rfl
 rw [List.getElem?_eq_getElem (by omega)] at h0 h1
 rw [hx] at hs
 have s0 := sz_agg Tryd.underlying34 hs (j := 0) rfl (d := xs[0].1) (by rw [List.getElem?_map, List.getElem?_eq_getElem (by omega)]; rfl)
 have s1 := sz_agg Tryd.underlying34 hs (j := 1) rfl (d := xs[1].1) (by rw [List.getElem?_map, List.getElem?_eq_getElem (by omega)]; rfl)
 obtain ⟨nm, rfl, z0⟩ := trod_sB (v := c0) h0 s0
 obtain ⟨er, hr, hq, hu⟩ := open_rowsU (fun x : Er => (erCells x).toList) 5 SzE (fun _ => 1) (t := 32) (e := 45) (by kernel_rfl) cellsEr (of_decide_eq_true (by kernel_rfl)) (by decide) (fun fuel l x hl h hs => by
  obtain ⟨q, e, z⟩ := Er_trodB hl h hs
  exact ⟨q, e, z, bulks.one_le _⟩) (v := c1) h1 s1
 rw [sum_oneU] at hu
 refine ⟨⟨nm, c1, er⟩, rfl, ⟨hr, z0, hq⟩, ?_⟩
 show er.length ≤ _
 rw [hx]
 exact Nat.le_trans hu (agg_partU _ (List.mem_map.2 ⟨xs[1], List.getElem_mem _, rfl⟩))
set_option maxRecDepth 100000 in
theorem Bk_openU {r : Reach} {b0 : Nat} {v : Value} {d : DataW H} {p : List MemPlace} (hv : Value.okWide Tryd.prog w r b0 26 v) (h : DataW.Trod enc Tryd.prog w base spare held 26 v d p)
 (hs : Szd 26 d) : ∃ b rv zv lv, v = .agg #[rv, zv, lv] ∧ BookAt w.heap.size w rv zv lv b ∧ (b.zones.map fun z => z.eras.length).sum ≤ Rows.uptoBulk d := by
 obtain ⟨c0, c1, c2, y0, y1, y2, m, rfl, rfl, _, g0, g1, g2⟩ := open_agg3 Tryd.underlying26 (by kernel_rfl) cellsBk hv h
 have s0 := sz_agg Tryd.underlying26 hs (j := 0) rfl rfl
 have s1 := sz_agg Tryd.underlying26 hs (j := 1) rfl rfl
 have s2 := sz_agg Tryd.underlying26 hs (j := 2) rfl rfl
 obtain ⟨rs, hr1, hr2⟩ := open_rows (fun r : Ru => (ruCells r).toList) 11 SzR (t := 22) (e := 84) (by kernel_rfl) cellsRu (of_decide_eq_true (by kernel_rfl)) (by decide) (fun fuel l x hl h hs => Ru_trodB hl h hs) (v := c0) g0 s0
 obtain ⟨zs, hz1, hz2, hz3⟩ := open_rowsU zoCells 2 (ZoOk w) (fun z => z.eras.length) (t := 23) (e := 34) (by kernel_rfl) cellsZo (of_decide_eq_true (by kernel_rfl)) (by decide) (fun fuel l x hl h hs => Zo_trodU hl h hs) (v := c1) g1 s1
 obtain ⟨ls, hl1, hl2⟩ := open_rows lkCells 2 (fun q : Lk => q.nm.size ≤ 140737488351232 ∧ q.tg.size ≤ 140737488351232) (t := 24) (e := 57) (by kernel_rfl) cellsLk (of_decide_eq_true (by kernel_rfl)) (by decide) (fun fuel l x hl h hs => Lk_trodB hl h hs) (v := c2) g2 s2
 exact ⟨⟨rs, zs, ls⟩, c0, c1, c2, rfl, ⟨hr1, hz1, fun z hz => (hz2 z hz).1, hl1, hr2, fun z hz => (hz2 z hz).2, hl2⟩, Nat.le_trans hz3 (agg_partU _ (by simp))⟩
theorem slice_lenU {es sp : List (DataW H)} : es.length ≤ Rows.uptoBulk (.slice es sp) := by
 have := bulks.slice_le es sp
 omega
set_option maxRecDepth 100000 in
theorem TabAt_openU {r : Reach} {b0 : Nat} {v : Value} {d : DataW H} {p : List MemPlace} (hv : Value.okWide Tryd.prog w r b0 30 v) (h : DataW.Trod enc Tryd.prog w base spare held 30 v d p) :
 ∃ t, TabAt w v t ∧ t.types.length ≤ Rows.uptoBulk d ∧ t.chs.length ≤ Rows.uptoBulk d := by
 obtain ⟨c0, c1, c2, y0, y1, y2, m, rfl, rfl, _, g0, g1, g2⟩ := open_agg3 Tryd.underlying30 (by kernel_rfl) cellsTable hv h
 obtain ⟨l, hl⟩ := SlTy_open g0
 obtain ⟨b1, e1, _, _⟩ := DataW.trod_int Tryd.underlying3 g1
 obtain ⟨k, hk, hw⟩ := SlCh_openS g2
 simp only [List.cons.injEq, and_true] at e1
 subst e1
 refine ⟨⟨l, b1, k⟩, ⟨_, _, rfl, hl, hk⟩, ?_, ?_⟩
 ·show l.length ≤ _
  obtain ⟨p, cap, e, -⟩ := hl.shape
  rcases open_slice_fields und_types Tryd.underlying37 (by kernel_rfl) (by kernel_rfl) g0 with ⟨hcs, _⟩ | ⟨a, len, cap', m, D, Pl, hcs, hb, hle, hm, hmm, hx, hf⟩
  ·obtain rfl : c0 = .slice none 0 0 := by simpa using hcs
   injection e with e1 e2 e3
   omega
  ·obtain rfl : c0 = .slice (some a) len cap' := by simpa using hcs
   injection e with e1 e2 e3
   have e4 : y0.1 = .slice ((List.range len).map D) ((List.range (m - len)).map fun j => D (len + j)) := by rw [hx]
   refine Nat.le_trans ?_ (agg_partU (d := y0.1) _ (by simp))
   rw [e4]
   refine Nat.le_trans ?_ slice_lenU
   simp
   omega
 ·show k.length ≤ _
  rcases hw with h0 | ⟨es, sp, he, hle⟩
  ·omega
  ·refine Nat.le_trans ?_ (agg_partU (d := y2.1) _ (by simp))
   rw [he]
   exact Nat.le_trans hle slice_lenU
end
end Go.Proofs.YtomahddiclkepaaDoor
