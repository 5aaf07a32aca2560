/- A law's argument of type Book, as it comes in. -/
import Derived.Test.YtlgdilpmdoofiaaDoorRuOpen
import Derived.Test.YtlgdilpmdoofiaaDoorBa4
import Derived.SizedLaws
namespace Go.Proofs.YtlgdilpmdoofiaaDoor
open Go.ChangeShapes Go.WideShapes Go.Deep Go.RowKit Go.Joins
set_option linter.unusedVariables false
set_option linter.unusedSimpArgs false

theorem reach_valB : reachBytes = 140737488351232 := by decide
theorem spot_noneB {w : World} {a : Addr} {v : Value} (h : w.cell? a = some v) : a = ⟨a.block, a.off, none⟩ := by
  obtain ⟨b, o, s⟩ := a
  cases s with
  | none => rfl
  | some k =>
    simp only [World.cell?] at h
    split at h
    · simp at h
    · cases h
theorem add_plainB (b o i : Nat) : (⟨b, o, none⟩ : Addr).add i = ⟨b, o + i, none⟩ := by
  unfold Addr.add
  split
  · rename_i h; subst h; rfl
  · rfl
theorem list_ofB {α : Type} [Inhabited α] (n : Nat) (Q : Nat → α → Prop) (h : ∀ i, i < n → ∃ x, Q i x) : ∃ l : List α, l.length = n ∧ ∀ i (hi : i < l.length), Q i l[i] := by
  classical
  refine ⟨(List.range n).map fun i => if hi : i < n then Classical.choose (h i hi) else default, by simp, fun i hi => ?_⟩
  have hi' : i < n := by simpa using hi
  simp only [List.getElem_map, List.getElem_range, hi', dite_true]
  exact Classical.choose_spec (h i hi')
instance : Inhabited Ru := ⟨⟨⟨#[]⟩, 0, 0, 0, 0, 0, 0, 0, 0, 0, ⟨#[]⟩⟩⟩
instance : Inhabited Er := ⟨⟨0, ⟨#[]⟩, 0, ⟨#[]⟩, 0⟩⟩
instance : Inhabited Zo := ⟨⟨⟨#[]⟩, .slice none 0 0, []⟩⟩
instance : Inhabited Lk := ⟨⟨⟨#[]⟩, ⟨#[]⟩⟩⟩

section
variable {H : Type} {enc : TypeId × Value → H} {w : World} {base : Nat} {spare : Nat → Bool} {held : Bool}
/-- what a datum weighs is within the reach -/
def Szd (t : TypeId) (d : DataW H) : Prop := ∀ n ∈ d.weights Tryd.prog t, n ≤ reachBytes
theorem sz_agg {t : TypeId} {fs : Array Field} (ht : Tryd.prog.underlying t = some (.struct fs)) {parts : List (DataW H)} (h : Szd t (.agg parts)) {j : Nat} {f : Field} {d : DataW H} (hf : fs[j]? = some f) (hd : parts[j]? = some d) : Szd f.type d := fun n hn =>
  h n (by
    simp only [DataW.weights, ht]
    refine DataW.weights_mem_each (j := j) ?_ hd n hn
    rw [List.getElem?_map, Array.getElem?_toList, hf]
    rfl)
theorem wa_mem {e : TypeId} : ∀ {es : List (DataW H)} {d : DataW H}, d ∈ es → ∀ n ∈ d.weights Tryd.prog e, n ∈ DataW.weightsAll Tryd.prog e es
  | x :: r, d, hd, n, hn => by
    simp only [DataW.weightsAll, List.mem_append]
    rcases List.mem_cons.1 hd with rfl | hd
    · exact .inl hn
    · exact .inr (wa_mem hd n hn)
theorem sz_slice {t e : TypeId} (ht : Tryd.prog.underlying t = some (.slice e)) {es sp : List (DataW H)} (h : Szd t (.slice es sp)) : (es.length + sp.length) * Tryd.prog.bytesOf e ≤ reachBytes ∧ ∀ d ∈ es, Szd e d := by
  unfold Szd at h
  simp only [DataW.weights, ht] at h
  exact ⟨h _ (List.mem_cons_self ..), fun d hd n hn => h n (List.mem_cons_of_mem _ (List.mem_append_left _ (wa_mem hd n hn)))⟩
theorem sz_str {t : TypeId} {b : ByteArray} (h : Szd t (.lit (.string b.data.toList) : DataW H)) : b.size ≤ 140737488351232 := by
  have := h b.data.toList.length (by simp [DataW.weights])
  rw [reach_valB] at this
  rw [Lib.size_eq]
  exact this

theorem open_rows {α : Type} [Inhabited α] (cells : α → List Value) (k : Nat) (Q : α → Prop) {t e : TypeId} (ht : Tryd.prog.underlying t = some (.slice e)) (hk : Tryd.prog.cellsOf e = k) (hb : 1 ≤ Tryd.prog.bytesOf e) (hk0 : 0 < k)
    (el : ∀ fuel l x, l.length = k → DataW.trod enc Tryd.prog w base spare held fuel e l = some x → Szd e x.1 → ∃ a, l = cells a ∧ Q a)
    {fuel : Nat} {v : Value} {x : DataW H × List MemPlace} (h : DataW.trod enc Tryd.prog w base spare held fuel t [v] = some x) (hs : Szd t x.1) : ∃ l, RowsAt cells k w.heap.size w v l ∧ ∀ a ∈ l, Q a := by
  rcases open_slice ht h with ⟨hcs, _⟩ | ⟨a, len, cap, m, n, D, Pl, hcs, hba, hl, hm, hmm, hx, hi⟩
  · obtain rfl : v = .slice none 0 0 := by simpa using hcs
    exact ⟨[], ⟨none, 0, rfl, ⟨by simp, by simp⟩, fun h => absurd rfl h⟩, fun a h => absurd h (List.not_mem_nil)⟩
  · obtain rfl : v = .slice (some a) len cap := by simpa using hcs
    rw [hx] at hs
    obtain ⟨hw, hsd⟩ := sz_slice ht hs
    have hlen : len ≤ 140737488351232 := by
      rw [reach_valB] at hw
      simp only [List.length_map, List.length_range] at hw
      have : len * 1 ≤ (len + (m - len)) * Tryd.prog.bytesOf e := Nat.mul_le_mul (by omega) hb
      omega
    have hlm : len ≤ m := by rw [hmm]; split <;> omega
    have key : ∀ i, i < len → ∃ y : α, (∀ j u, (cells y)[j]? = some u → w.cell? (a.add (i * k + j)) = some u) ∧ Q y ∧ ∃ u, w.cell? (a.add (i * k)) = some u := by
      intro i hil
      obtain ⟨cs', hc, htr⟩ := hi i (by omega)
      rw [hk] at hc
      obtain ⟨_, hcl, hat⟩ := World.cells?_some hc
      obtain ⟨y, rfl, hq⟩ := el n cs' _ hcl htr (hsd _ (List.mem_map.2 ⟨i, List.mem_range.2 hil, rfl⟩))
      have hcell : ∀ j u, (cells y)[j]? = some u → w.cell? (a.add (i * k + j)) = some u := by
        intro j u hu
        have hj : j < k := by rw [← hcl]; exact (List.getElem?_eq_some_iff.1 hu).1
        rw [← Go.Deep.add_add, hat j hj, hu]
      have h0 : (cells y)[0]? = some ((cells y)[0]'(by omega)) := List.getElem?_eq_getElem (by omega)
      exact ⟨y, hcell, hq, _, hcell 0 _ h0⟩
    obtain ⟨l, hl1, hl2⟩ := list_ofB len _ key
    subst hl1
    refine ⟨l, ⟨some a, cap, rfl, ⟨hlen, hl⟩, fun hne => ?_⟩, fun y hy => ?_⟩
    · have hp : 0 < l.length := List.length_pos_iff.2 hne
      obtain ⟨_, _, u, d0⟩ := hl2 0 hp
      rw [Nat.zero_mul] at d0
      have hsp : a = ⟨a.block, a.off, none⟩ := spot_noneB (w := w) (v := u) d0
      refine ⟨a.block, a.off, congrArg some hsp, ?_, fun i hi j u hu => ?_⟩
      · rw [hsp, add_plainB] at d0
        exact World.block_lt_of_cell? w ⟨a.block, _, none⟩ d0
      · have := (hl2 i hi).1 j u hu
        rw [hsp, add_plainB] at this
        rw [Nat.add_assoc]
        exact this
    · obtain ⟨i, hi, rfl⟩ := List.mem_iff_getElem.1 hy
      exact (hl2 i hi).2.1

theorem trod_iB {fuel : Nat} {v : Value} {x : DataW H × List MemPlace} (h : DataW.trod enc Tryd.prog w base spare held fuel 3 [v] = some x) : ∃ n, v = .int .i64 n ∧ -9223372036854775808 ≤ n ∧ n ≤ 9223372036854775807 := by
  obtain ⟨b, e, _, hw⟩ := DataW.trod_int Tryd.underlying3 h
  simp only [List.cons.injEq, and_true] at e
  simp only [Lit.wf, Bool.and_eq_true, decide_eq_true_eq] at hw
  exact ⟨b, e, hw⟩
theorem trod_sB {fuel : Nat} {v : Value} {x : DataW H × List MemPlace} (h : DataW.trod enc Tryd.prog w base spare held fuel 9 [v] = some x) (hs : Szd 9 x.1) : ∃ s, v = .string s ∧ s.size ≤ 140737488351232 := by
  obtain ⟨b, e, ex, _⟩ := DataW.trod_string Tryd.underlying9 h
  simp only [List.cons.injEq, and_true] at e
  rw [ex] at hs
  exact ⟨b, e, sz_str hs⟩
theorem list5 {α : Type} (l : List α) (h : l.length = 5) : ∃ a b c d e, l = [a, b, c, d, e] := by
  match l, h with
  | [a, b, c, d, e], _ => exact ⟨a, b, c, d, e, rfl⟩
theorem list2 {α : Type} (l : List α) (h : l.length = 2) : ∃ a b, l = [a, b] := by
  match l, h with
  | [a, b], _ => exact ⟨a, b, rfl⟩
set_option maxRecDepth 100000 in
/-- the cells of a rule, with its words' sizes -/
theorem Ru_trodB {fuel : Nat} {l : List Value} {x : DataW H × List MemPlace} (hl : l.length = 11) (h : DataW.trod enc Tryd.prog w base spare held fuel 35 l = some x) (hs : Szd 35 x.1) :
    ∃ q : Ru, l = (ruCells q).toList ∧ SzR q := by
  obtain ⟨q, rfl, -, -⟩ := Ru_trod hl h
  refine ⟨q, rfl, ?_⟩
  obtain ⟨xs, n, _, hx, _, hl, hf⟩ := DataW.trod_struct Tryd.underlying35 h
  have hl9 : xs.length = 9 := hl
  have h0 := hf 0 _ rfl
  have h8 := hf 8 _ rfl
  rw [List.getElem?_eq_getElem (by omega)] at h0 h8
  rw [hx] at hs
  have s0 := sz_agg Tryd.underlying35 hs (j := 0) rfl (d := xs[0].1) (by rw [List.getElem?_map, List.getElem?_eq_getElem (by omega)]; rfl)
  have s8 := sz_agg Tryd.underlying35 hs (j := 8) rfl (d := xs[8].1) (by rw [List.getElem?_map, List.getElem?_eq_getElem (by omega)]; rfl)
  obtain ⟨nm, e0, z0⟩ := trod_sB (v := .string q.nm) h0 s0
  obtain ⟨lt, e8, z8⟩ := trod_sB (v := .string q.lt) h8 s8
  injection e0 with e0
  injection e8 with e8
  subst e0 e8
  exact ⟨z0, z8⟩
set_option maxRecDepth 100000 in
theorem Er_trodB {fuel : Nat} {l : List Value} {x : DataW H × List MemPlace} (hl : l.length = 5) (h : DataW.trod enc Tryd.prog w base spare held fuel 65 l = some x) (hs : Szd 65 x.1) :
    ∃ q : Er, l = (erCells q).toList ∧ SzE q := by
  obtain ⟨c0, c1, c2, c3, c4, rfl⟩ := list5 l hl
  obtain ⟨xs, n, _, hx, _, hl, hf⟩ := DataW.trod_struct Tryd.underlying65 h
  have hl5 : xs.length = 5 := hl
  have h0 := hf 0 _ rfl
  have h1 := hf 1 _ rfl
  have h2 := hf 2 _ rfl
  have h3 := hf 3 _ rfl
  have h4 := hf 4 _ rfl
  rw [List.getElem?_eq_getElem (by omega)] at h0 h1 h2 h3 h4
  rw [hx] at hs
  have s1 := sz_agg Tryd.underlying65 hs (j := 1) rfl (d := xs[1].1) (by rw [List.getElem?_map, List.getElem?_eq_getElem (by omega)]; rfl)
  have s3 := sz_agg Tryd.underlying65 hs (j := 3) rfl (d := xs[3].1) (by rw [List.getElem?_map, List.getElem?_eq_getElem (by omega)]; rfl)
  obtain ⟨off, rfl, o1, o2⟩ := trod_iB (v := c0) h0
  obtain ⟨ru, rfl, z1⟩ := trod_sB (v := c1) h1 s1
  obtain ⟨sv, rfl, v1, v2⟩ := trod_iB (v := c2) h2
  obtain ⟨fm, rfl, z3⟩ := trod_sB (v := c3) h3 s3
  obtain ⟨un, rfl, u1, u2⟩ := trod_iB (v := c4) h4
  exact ⟨⟨off, ru, sv, fm, un⟩, rfl, z1, z3, o1, o2, v1, v2, u1, u2⟩
theorem cellsEr : Tryd.prog.cellsOf 65 = 5 := by kernel_rfl
theorem cellsZo : Tryd.prog.cellsOf 53 = 2 := by kernel_rfl
theorem cellsLk : Tryd.prog.cellsOf 58 = 2 := by kernel_rfl
theorem cellsBk : Tryd.prog.cellsOf 26 = 3 := by kernel_rfl
def ZoOk (w : World) (z : Zo) : Prop := RowsAt (fun x : Er => (erCells x).toList) 5 w.heap.size w z.ev z.eras ∧ z.nm.size ≤ 140737488351232 ∧ ∀ x ∈ z.eras, SzE x
set_option maxRecDepth 100000 in
theorem Zo_trodB {fuel : Nat} {l : List Value} {x : DataW H × List MemPlace} (hl : l.length = 2) (h : DataW.trod enc Tryd.prog w base spare held fuel 53 l = some x) (hs : Szd 53 x.1) :
    ∃ q : Zo, l = zoCells q ∧ ZoOk w q := by
  obtain ⟨c0, c1, rfl⟩ := list2 l hl
  obtain ⟨xs, n, _, hx, _, hl, hf⟩ := DataW.trod_struct Tryd.underlying53 h
  have hl2 : xs.length = 2 := hl
  have h0 := hf 0 _ rfl
  have h1 := hf 1 _ rfl
  rw [List.getElem?_eq_getElem (by omega)] at h0 h1
  rw [hx] at hs
  have s0 := sz_agg Tryd.underlying53 hs (j := 0) rfl (d := xs[0].1) (by rw [List.getElem?_map, List.getElem?_eq_getElem (by omega)]; rfl)
  have s1 := sz_agg Tryd.underlying53 hs (j := 1) rfl (d := xs[1].1) (by rw [List.getElem?_map, List.getElem?_eq_getElem (by omega)]; rfl)
  obtain ⟨nm, rfl, z0⟩ := trod_sB (v := c0) h0 s0
  obtain ⟨er, hr, hq⟩ := open_rows (fun x : Er => (erCells x).toList) 5 SzE (t := 51) (e := 65) (by kernel_rfl) cellsEr (of_decide_eq_true (by kernel_rfl)) (by decide) (fun fuel l x hl h hs => Er_trodB hl h hs) (v := c1) h1 s1
  exact ⟨⟨nm, c1, er⟩, rfl, hr, z0, hq⟩
set_option maxRecDepth 100000 in
theorem Lk_trodB {fuel : Nat} {l : List Value} {x : DataW H × List MemPlace} (hl : l.length = 2) (h : DataW.trod enc Tryd.prog w base spare held fuel 58 l = some x) (hs : Szd 58 x.1) :
    ∃ q : Lk, l = lkCells q ∧ (q.nm.size ≤ 140737488351232 ∧ q.to.size ≤ 140737488351232) := by
  obtain ⟨c0, c1, rfl⟩ := list2 l hl
  obtain ⟨xs, n, _, hx, _, hl, hf⟩ := DataW.trod_struct Tryd.underlying58 h
  have hl2 : xs.length = 2 := hl
  have h0 := hf 0 _ rfl
  have h1 := hf 1 _ rfl
  rw [List.getElem?_eq_getElem (by omega)] at h0 h1
  rw [hx] at hs
  have s0 := sz_agg Tryd.underlying58 hs (j := 0) rfl (d := xs[0].1) (by rw [List.getElem?_map, List.getElem?_eq_getElem (by omega)]; rfl)
  have s1 := sz_agg Tryd.underlying58 hs (j := 1) rfl (d := xs[1].1) (by rw [List.getElem?_map, List.getElem?_eq_getElem (by omega)]; rfl)
  obtain ⟨nm, rfl, z0⟩ := trod_sB (v := c0) h0 s0
  obtain ⟨tt, rfl, z1⟩ := trod_sB (v := c1) h1 s1
  exact ⟨⟨nm, tt⟩, rfl, z0, z1⟩
set_option maxRecDepth 100000 in
/-- A law's argument of type Book -/
theorem Bk_open {r : Reach} {b0 : Nat} {v : Value} {d : DataW H} {p : List MemPlace} (hv : Value.okWide Tryd.prog w r b0 26 v) (h : DataW.Trod enc Tryd.prog w base spare held 26 v d p)
    (hs : Szd 26 d) : ∃ b rv zv lv, v = .agg #[rv, zv, lv] ∧ BookAt w.heap.size w rv zv lv b := by
  obtain ⟨c0, c1, c2, y0, y1, y2, m, rfl, rfl, _, g0, g1, g2⟩ := open_agg3 Tryd.underlying26 (by kernel_rfl) cellsBk hv h
  have s0 := sz_agg Tryd.underlying26 hs (j := 0) rfl rfl
  have s1 := sz_agg Tryd.underlying26 hs (j := 1) rfl rfl
  have s2 := sz_agg Tryd.underlying26 hs (j := 2) rfl rfl
  obtain ⟨rs, hr1, hr2⟩ := open_rows (fun r : Ru => (ruCells r).toList) 11 SzR (t := 22) (e := 35) (by kernel_rfl) cellsRu (of_decide_eq_true (by kernel_rfl)) (by decide) (fun fuel l x hl h hs => Ru_trodB hl h hs) (v := c0) g0 s0
  obtain ⟨zs, hz1, hz2⟩ := open_rows zoCells 2 (ZoOk w) (t := 23) (e := 53) (by kernel_rfl) cellsZo (of_decide_eq_true (by kernel_rfl)) (by decide) (fun fuel l x hl h hs => Zo_trodB hl h hs) (v := c1) g1 s1
  obtain ⟨ls, hl1, hl2⟩ := open_rows lkCells 2 (fun q : Lk => q.nm.size ≤ 140737488351232 ∧ q.to.size ≤ 140737488351232) (t := 24) (e := 58) (by kernel_rfl) cellsLk (of_decide_eq_true (by kernel_rfl)) (by decide) (fun fuel l x hl h hs => Lk_trodB hl h hs) (v := c2) g2 s2
  exact ⟨⟨rs, zs, ls⟩, c0, c1, c2, rfl, hr1, hz1, fun z hz => (hz2 z hz).1, hl1, hr2, fun z hz => (hz2 z hz).2, hl2⟩
set_option maxRecDepth 100000 in
/-- a rule, with its words' sizes -/
theorem Ru_openB {r : Reach} {b0 : Nat} {v : Value} {d : DataW H} {p : List MemPlace} (hv : Value.okWide Tryd.prog w r b0 35 v) (h : DataW.Trod enc Tryd.prog w base spare held 35 v d p)
    (hs : Szd 35 d) : ∃ q : Ru, v = ruV q ∧ SzR q := by
  obtain ⟨cs, rfl, hsz⟩ := okWide_struct Tryd.underlying35 hv
  obtain ⟨l⟩ := cs
  obtain ⟨fuel, hf⟩ := h
  obtain ⟨q, rfl, hz⟩ := Ru_trodB (l := l) (hsz.trans cellsRu) hf hs
  exact ⟨q, rfl, hz⟩
theorem szd_at {ts : List TypeId} {ds : List (DataW H)} (h : (DataW.weightsEach Tryd.prog ts ds).all (· ≤ reachBytes) = true) {j : Nat} {t : TypeId} {d : DataW H} (ht : ts[j]? = some t) (hd : ds[j]? = some d) : Szd t d := fun n hn => by
  have := List.all_eq_true.1 h n (DataW.weights_mem_each ht hd n hn)
  simpa using this
end
end Go.Proofs.YtlgdilpmdoofiaaDoor
