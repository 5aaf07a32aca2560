/- A law's argument of type Book, as it comes in. The spans in which two tables differ: plain Lean. Laws of tables by names: plain facts for the walks. A law's table argument, as it lies in memory. Eras of a table: plain Lean, and in memory; back.era. rule.IsName; back.Book: its memory. A table's book: that it may be, what it says, and that its table is made again: plain facts. -/
import Derived.Test.YthggojpdcgcmaaaGreatDoorQ14
import Derived.Test.YthggojpdcgcmaaaGreatDoorQ02
import Derived.SizedLaws
import Derived.Test.YthggojpdcgcmaaaGreatDoorQ12
import Derived.Test.YthggojpdcgcmaaaGreatDoorQ08
import Derived.Deep.Slices
import Derived.Deep.Fields
import Derived.ChangeSame
import Derived.Lib.SmallJoins
import Derived.Test.YthggojpdcgcmaaaGreatDoorQ13
import Derived.Test.YthggojpdcgcmaaaGreatDoorQ01
import Derived.BigQuiet
import Derived.Deep.DeepCutAuto
import Derived.Handy
namespace Go.Proofs.YthggojpdcgcmaaaGreatDoor
open Go.ChangeShapes Go.WideShapes Go.Deep Go.RowKit Go.Joins
set_option linter.unusedVariables false
set_option linter.unusedSimpArgs false

theorem reach_valB : reachBytes = 140737488351232 := by decide
theorem spot_noneB {w : World} {a : Addr} {v : Value} (h : w.cell? a = some v) : a = ⟨a.block, a.off, none⟩ := by
  obtain ⟨b, o, s⟩ := a
  cases s with
  | none => rfl
  | some k =>
    simp only [World.cell?] at h
    split at h
    · simp at h
    · cases h
theorem add_plainB (b o i : Nat) : (⟨b, o, none⟩ : Addr).add i = ⟨b, o + i, none⟩ := by
  unfold Addr.add
  split
  · rename_i h; subst h; rfl
  · rfl
theorem list_ofB {α : Type} [Inhabited α] (n : Nat) (Q : Nat → α → Prop) (h : ∀ i, i < n → ∃ x, Q i x) : ∃ l : List α, l.length = n ∧ ∀ i (hi : i < l.length), Q i l[i] := by
  classical
  refine ⟨(List.range n).map fun i => if hi : i < n then Classical.choose (h i hi) else default, by simp, fun i hi => ?_⟩
  have hi' : i < n := by simpa using hi
  simp only [List.getElem_map, List.getElem_range, hi', dite_true]
  exact Classical.choose_spec (h i hi')
instance : Inhabited Ru := ⟨⟨⟨#[]⟩, 0, 0, 0, 0, 0, 0, 0, 0, 0, ⟨#[]⟩⟩⟩
instance : Inhabited Er := ⟨⟨0, ⟨#[]⟩, 0, ⟨#[]⟩, 0⟩⟩
instance : Inhabited Zo := ⟨⟨⟨#[]⟩, .slice none 0 0, []⟩⟩
instance : Inhabited Lk := ⟨⟨⟨#[]⟩, ⟨#[]⟩⟩⟩

section
variable {H : Type} {enc : TypeId × Value → H} {w : World} {base : Nat} {spare : Nat → Bool} {held : Bool}
/-- what a datum weighs is within the reach -/
def Szd (t : TypeId) (d : DataW H) : Prop := ∀ n ∈ d.weights Tryz.prog t, n ≤ reachBytes
theorem sz_agg {t : TypeId} {fs : Array Field} (ht : Tryz.prog.underlying t = some (.struct fs)) {parts : List (DataW H)} (h : Szd t (.agg parts)) {j : Nat} {f : Field} {d : DataW H} (hf : fs[j]? = some f) (hd : parts[j]? = some d) : Szd f.type d := fun n hn =>
  h n (by
    simp only [DataW.weights, ht]
    refine DataW.weights_mem_each (j := j) ?_ hd n hn
    rw [List.getElem?_map, Array.getElem?_toList, hf]
    rfl)
theorem wa_mem {e : TypeId} : ∀ {es : List (DataW H)} {d : DataW H}, d ∈ es → ∀ n ∈ d.weights Tryz.prog e, n ∈ DataW.weightsAll Tryz.prog e es
  | x :: r, d, hd, n, hn => by
    simp only [DataW.weightsAll, List.mem_append]
    rcases List.mem_cons.1 hd with rfl | hd
    · exact .inl hn
    · exact .inr (wa_mem hd n hn)
theorem sz_slice {t e : TypeId} (ht : Tryz.prog.underlying t = some (.slice e)) {es sp : List (DataW H)} (h : Szd t (.slice es sp)) : (es.length + sp.length) * Tryz.prog.bytesOf e ≤ reachBytes ∧ ∀ d ∈ es, Szd e d := by
  unfold Szd at h
  simp only [DataW.weights, ht] at h
  exact ⟨h _ (List.mem_cons_self ..), fun d hd n hn => h n (List.mem_cons_of_mem _ (List.mem_append_left _ (wa_mem hd n hn)))⟩
theorem sz_str {t : TypeId} {b : ByteArray} (h : Szd t (.lit (.string b.data.toList) : DataW H)) : b.size ≤ 140737488351232 := by
  have := h b.data.toList.length (by simp [DataW.weights])
  rw [reach_valB] at this
  rw [Lib.size_eq]
  exact this

theorem open_rows {α : Type} [Inhabited α] (cells : α → List Value) (k : Nat) (Q : α → Prop) {t e : TypeId} (ht : Tryz.prog.underlying t = some (.slice e)) (hk : Tryz.prog.cellsOf e = k) (hb : 1 ≤ Tryz.prog.bytesOf e) (hk0 : 0 < k)
    (el : ∀ fuel l x, l.length = k → DataW.trod enc Tryz.prog w base spare held fuel e l = some x → Szd e x.1 → ∃ a, l = cells a ∧ Q a)
    {fuel : Nat} {v : Value} {x : DataW H × List MemPlace} (h : DataW.trod enc Tryz.prog w base spare held fuel t [v] = some x) (hs : Szd t x.1) : ∃ l, RowsAt cells k w.heap.size w v l ∧ ∀ a ∈ l, Q a := by
  rcases open_slice ht h with ⟨hcs, _⟩ | ⟨a, len, cap, m, n, D, Pl, hcs, hba, hl, hm, hmm, hx, hi⟩
  · obtain rfl : v = .slice none 0 0 := by simpa using hcs
    exact ⟨[], ⟨none, 0, rfl, ⟨by simp, by simp⟩, fun h => absurd rfl h⟩, fun a h => absurd h (List.not_mem_nil)⟩
  · obtain rfl : v = .slice (some a) len cap := by simpa using hcs
    rw [hx] at hs
    obtain ⟨hw, hsd⟩ := sz_slice ht hs
    have hlen : len ≤ 140737488351232 := by
      rw [reach_valB] at hw
      simp only [List.length_map, List.length_range] at hw
      have : len * 1 ≤ (len + (m - len)) * Tryz.prog.bytesOf e := Nat.mul_le_mul (by omega) hb
      omega
    have hlm : len ≤ m := by rw [hmm]; split <;> omega
    have key : ∀ i, i < len → ∃ y : α, (∀ j u, (cells y)[j]? = some u → w.cell? (a.add (i * k + j)) = some u) ∧ Q y ∧ ∃ u, w.cell? (a.add (i * k)) = some u := by
      intro i hil
      obtain ⟨cs', hc, htr⟩ := hi i (by omega)
      rw [hk] at hc
      obtain ⟨_, hcl, hat⟩ := World.cells?_some hc
      obtain ⟨y, rfl, hq⟩ := el n cs' _ hcl htr (hsd _ (List.mem_map.2 ⟨i, List.mem_range.2 hil, rfl⟩))
      have hcell : ∀ j u, (cells y)[j]? = some u → w.cell? (a.add (i * k + j)) = some u := by
        intro j u hu
        have hj : j < k := by rw [← hcl]; exact (List.getElem?_eq_some_iff.1 hu).1
        rw [← Go.Deep.add_add, hat j hj, hu]
      have h0 : (cells y)[0]? = some ((cells y)[0]'(by omega)) := List.getElem?_eq_getElem (by omega)
      exact ⟨y, hcell, hq, _, hcell 0 _ h0⟩
    obtain ⟨l, hl1, hl2⟩ := list_ofB len _ key
    subst hl1
    refine ⟨l, ⟨some a, cap, rfl, ⟨hlen, hl⟩, fun hne => ?_⟩, fun y hy => ?_⟩
    · have hp : 0 < l.length := List.length_pos_iff.2 hne
      obtain ⟨_, _, u, d0⟩ := hl2 0 hp
      rw [Nat.zero_mul] at d0
      have hsp : a = ⟨a.block, a.off, none⟩ := spot_noneB (w := w) (v := u) d0
      refine ⟨a.block, a.off, congrArg some hsp, ?_, fun i hi j u hu => ?_⟩
      · rw [hsp, add_plainB] at d0
        exact World.block_lt_of_cell? w ⟨a.block, _, none⟩ d0
      · have := (hl2 i hi).1 j u hu
        rw [hsp, add_plainB] at this
        rw [Nat.add_assoc]
        exact this
    · obtain ⟨i, hi, rfl⟩ := List.mem_iff_getElem.1 hy
      exact (hl2 i hi).2.1

theorem trod_iB {fuel : Nat} {v : Value} {x : DataW H × List MemPlace} (h : DataW.trod enc Tryz.prog w base spare held fuel 3 [v] = some x) : ∃ n, v = .int .i64 n ∧ -9223372036854775808 ≤ n ∧ n ≤ 9223372036854775807 := by
  obtain ⟨b, e, _, hw⟩ := DataW.trod_int Tryz.underlying3 h
  simp only [List.cons.injEq, and_true] at e
  simp only [Lit.wf, Bool.and_eq_true, decide_eq_true_eq] at hw
  exact ⟨b, e, hw⟩
theorem trod_sB {fuel : Nat} {v : Value} {x : DataW H × List MemPlace} (h : DataW.trod enc Tryz.prog w base spare held fuel 9 [v] = some x) (hs : Szd 9 x.1) : ∃ s, v = .string s ∧ s.size ≤ 140737488351232 := by
  obtain ⟨b, e, ex, _⟩ := DataW.trod_string Tryz.underlying9 h
  simp only [List.cons.injEq, and_true] at e
  rw [ex] at hs
  exact ⟨b, e, sz_str hs⟩
theorem list5 {α : Type} (l : List α) (h : l.length = 5) : ∃ a b c d e, l = [a, b, c, d, e] := by
  match l, h with
  | [a, b, c, d, e], _ => exact ⟨a, b, c, d, e, rfl⟩
theorem list2 {α : Type} (l : List α) (h : l.length = 2) : ∃ a b, l = [a, b] := by
  match l, h with
  | [a, b], _ => exact ⟨a, b, rfl⟩
set_option maxRecDepth 100000 in
/-- the cells of a rule, with its words' sizes -/
theorem Ru_trodB {fuel : Nat} {l : List Value} {x : DataW H × List MemPlace} (hl : l.length = 11) (h : DataW.trod enc Tryz.prog w base spare held fuel 115 l = some x) (hs : Szd 115 x.1) :
    ∃ q : Ru, l = (ruCells q).toList ∧ SzR q := by
  obtain ⟨q, rfl, -, -⟩ := Ru_trod hl h
  refine ⟨q, rfl, ?_⟩
  obtain ⟨xs, n, _, hx, _, hl, hf⟩ := DataW.trod_struct Tryz.underlying115 h
  have hl9 : xs.length = 9 := hl
  have h0 := hf 0 _ rfl
  have h8 := hf 8 _ rfl
  rw [List.getElem?_eq_getElem (by omega)] at h0 h8
  rw [hx] at hs
  have s0 := sz_agg Tryz.underlying115 hs (j := 0) rfl (d := xs[0].1) (by rw [List.getElem?_map, List.getElem?_eq_getElem (by omega)]; rfl)
  have s8 := sz_agg Tryz.underlying115 hs (j := 8) rfl (d := xs[8].1) (by rw [List.getElem?_map, List.getElem?_eq_getElem (by omega)]; rfl)
  obtain ⟨nm, e0, z0⟩ := trod_sB (v := .string q.nm) h0 s0
  obtain ⟨lt, e8, z8⟩ := trod_sB (v := .string q.lt) h8 s8
  injection e0 with e0
  injection e8 with e8
  subst e0 e8
  exact ⟨z0, z8⟩
set_option maxRecDepth 100000 in
theorem Er_trodB {fuel : Nat} {l : List Value} {x : DataW H × List MemPlace} (hl : l.length = 5) (h : DataW.trod enc Tryz.prog w base spare held fuel 35 l = some x) (hs : Szd 35 x.1) :
    ∃ q : Er, l = (erCells q).toList ∧ SzE q := by
  obtain ⟨c0, c1, c2, c3, c4, rfl⟩ := list5 l hl
  obtain ⟨xs, n, _, hx, _, hl, hf⟩ := DataW.trod_struct Tryz.underlying35 h
  have hl5 : xs.length = 5 := hl
  have h0 := hf 0 _ rfl
  have h1 := hf 1 _ rfl
  have h2 := hf 2 _ rfl
  have h3 := hf 3 _ rfl
  have h4 := hf 4 _ rfl
  rw [List.getElem?_eq_getElem (by omega)] at h0 h1 h2 h3 h4
  rw [hx] at hs
  have s1 := sz_agg Tryz.underlying35 hs (j := 1) rfl (d := xs[1].1) (by rw [List.getElem?_map, List.getElem?_eq_getElem (by omega)]; rfl)
  have s3 := sz_agg Tryz.underlying35 hs (j := 3) rfl (d := xs[3].1) (by rw [List.getElem?_map, List.getElem?_eq_getElem (by omega)]; rfl)
  obtain ⟨off, rfl, o1, o2⟩ := trod_iB (v := c0) h0
  obtain ⟨ru, rfl, z1⟩ := trod_sB (v := c1) h1 s1
  obtain ⟨sv, rfl, v1, v2⟩ := trod_iB (v := c2) h2
  obtain ⟨fm, rfl, z3⟩ := trod_sB (v := c3) h3 s3
  obtain ⟨un, rfl, u1, u2⟩ := trod_iB (v := c4) h4
  exact ⟨⟨off, ru, sv, fm, un⟩, rfl, z1, z3, o1, o2, v1, v2, u1, u2⟩
theorem cellsEr : Tryz.prog.cellsOf 35 = 5 := by kernel_rfl
theorem cellsZo : Tryz.prog.cellsOf 38 = 2 := by kernel_rfl
theorem cellsLk : Tryz.prog.cellsOf 59 = 2 := by kernel_rfl
theorem cellsBk : Tryz.prog.cellsOf 26 = 3 := by kernel_rfl
def ZoOk (w : World) (z : Zo) : Prop := RowsAt (fun x : Er => (erCells x).toList) 5 w.heap.size w z.ev z.eras ∧ z.nm.size ≤ 140737488351232 ∧ ∀ x ∈ z.eras, SzE x
set_option maxRecDepth 100000 in
theorem Zo_trodB {fuel : Nat} {l : List Value} {x : DataW H × List MemPlace} (hl : l.length = 2) (h : DataW.trod enc Tryz.prog w base spare held fuel 38 l = some x) (hs : Szd 38 x.1) :
    ∃ q : Zo, l = zoCells q ∧ ZoOk w q := by
  obtain ⟨c0, c1, rfl⟩ := list2 l hl
  obtain ⟨xs, n, _, hx, _, hl, hf⟩ := DataW.trod_struct Tryz.underlying38 h
  have hl2 : xs.length = 2 := hl
  have h0 := hf 0 _ rfl
  have h1 := hf 1 _ rfl
  rw [List.getElem?_eq_getElem (by omega)] at h0 h1
  rw [hx] at hs
  have s0 := sz_agg Tryz.underlying38 hs (j := 0) rfl (d := xs[0].1) (by rw [List.getElem?_map, List.getElem?_eq_getElem (by omega)]; rfl)
  have s1 := sz_agg Tryz.underlying38 hs (j := 1) rfl (d := xs[1].1) (by rw [List.getElem?_map, List.getElem?_eq_getElem (by omega)]; rfl)
  obtain ⟨nm, rfl, z0⟩ := trod_sB (v := c0) h0 s0
  obtain ⟨er, hr, hq⟩ := open_rows (fun x : Er => (erCells x).toList) 5 SzE (t := 36) (e := 35) (by kernel_rfl) cellsEr (of_decide_eq_true (by kernel_rfl)) (by decide) (fun fuel l x hl h hs => Er_trodB hl h hs) (v := c1) h1 s1
  exact ⟨⟨nm, c1, er⟩, rfl, hr, z0, hq⟩
set_option maxRecDepth 100000 in
theorem Lk_trodB {fuel : Nat} {l : List Value} {x : DataW H × List MemPlace} (hl : l.length = 2) (h : DataW.trod enc Tryz.prog w base spare held fuel 59 l = some x) (hs : Szd 59 x.1) :
    ∃ q : Lk, l = lkCells q ∧ (q.nm.size ≤ 140737488351232 ∧ q.to.size ≤ 140737488351232) := by
  obtain ⟨c0, c1, rfl⟩ := list2 l hl
  obtain ⟨xs, n, _, hx, _, hl, hf⟩ := DataW.trod_struct Tryz.underlying59 h
  have hl2 : xs.length = 2 := hl
  have h0 := hf 0 _ rfl
  have h1 := hf 1 _ rfl
  rw [List.getElem?_eq_getElem (by omega)] at h0 h1
  rw [hx] at hs
  have s0 := sz_agg Tryz.underlying59 hs (j := 0) rfl (d := xs[0].1) (by rw [List.getElem?_map, List.getElem?_eq_getElem (by omega)]; rfl)
  have s1 := sz_agg Tryz.underlying59 hs (j := 1) rfl (d := xs[1].1) (by rw [List.getElem?_map, List.getElem?_eq_getElem (by omega)]; rfl)
  obtain ⟨nm, rfl, z0⟩ := trod_sB (v := c0) h0 s0
  obtain ⟨tt, rfl, z1⟩ := trod_sB (v := c1) h1 s1
  exact ⟨⟨nm, tt⟩, rfl, z0, z1⟩
set_option maxRecDepth 100000 in
/-- A law's argument of type Book -/
theorem Bk_open {r : Reach} {b0 : Nat} {v : Value} {d : DataW H} {p : List MemPlace} (hv : Value.okWide Tryz.prog w r b0 26 v) (h : DataW.Trod enc Tryz.prog w base spare held 26 v d p)
    (hs : Szd 26 d) : ∃ b rv zv lv, v = .agg #[rv, zv, lv] ∧ BookAt w.heap.size w rv zv lv b := by
  obtain ⟨c0, c1, c2, y0, y1, y2, m, rfl, rfl, _, g0, g1, g2⟩ := open_agg3 Tryz.underlying26 (by kernel_rfl) cellsBk hv h
  have s0 := sz_agg Tryz.underlying26 hs (j := 0) rfl rfl
  have s1 := sz_agg Tryz.underlying26 hs (j := 1) rfl rfl
  have s2 := sz_agg Tryz.underlying26 hs (j := 2) rfl rfl
  obtain ⟨rs, hr1, hr2⟩ := open_rows (fun r : Ru => (ruCells r).toList) 11 SzR (t := 22) (e := 115) (by kernel_rfl) cellsRu (of_decide_eq_true (by kernel_rfl)) (by decide) (fun fuel l x hl h hs => Ru_trodB hl h hs) (v := c0) g0 s0
  obtain ⟨zs, hz1, hz2⟩ := open_rows zoCells 2 (ZoOk w) (t := 23) (e := 38) (by kernel_rfl) cellsZo (of_decide_eq_true (by kernel_rfl)) (by decide) (fun fuel l x hl h hs => Zo_trodB hl h hs) (v := c1) g1 s1
  obtain ⟨ls, hl1, hl2⟩ := open_rows lkCells 2 (fun q : Lk => q.nm.size ≤ 140737488351232 ∧ q.to.size ≤ 140737488351232) (t := 24) (e := 59) (by kernel_rfl) cellsLk (of_decide_eq_true (by kernel_rfl)) (by decide) (fun fuel l x hl h hs => Lk_trodB hl h hs) (v := c2) g2 s2
  exact ⟨⟨rs, zs, ls⟩, c0, c1, c2, rfl, hr1, hz1, fun z hz => (hz2 z hz).1, hl1, hr2, fun z hz => (hz2 z hz).2, hl2⟩
set_option maxRecDepth 100000 in
/-- a rule, with its words' sizes -/
theorem Ru_openB {r : Reach} {b0 : Nat} {v : Value} {d : DataW H} {p : List MemPlace} (hv : Value.okWide Tryz.prog w r b0 115 v) (h : DataW.Trod enc Tryz.prog w base spare held 115 v d p)
    (hs : Szd 115 d) : ∃ q : Ru, v = ruV q ∧ SzR q := by
  obtain ⟨cs, rfl, hsz⟩ := okWide_struct Tryz.underlying115 hv
  obtain ⟨l⟩ := cs
  obtain ⟨fuel, hf⟩ := h
  obtain ⟨q, rfl, hz⟩ := Ru_trodB (l := l) (hsz.trans cellsRu) hf hs
  exact ⟨q, rfl, hz⟩
theorem szd_at {ts : List TypeId} {ds : List (DataW H)} (h : (DataW.weightsEach Tryz.prog ts ds).all (· ≤ reachBytes) = true) {j : Nat} {t : TypeId} {d : DataW H} (ht : ts[j]? = some t) (hd : ds[j]? = some d) : Szd t d := fun n hn => by
  have := List.all_eq_true.1 h n (DataW.weights_mem_each ht hd n hn)
  simpa using this
end
end Go.Proofs.YthggojpdcgcmaaaGreatDoor
namespace Go.Proofs.YthggojpdcgcmaaaGreatDoor
open Classical
set_option linter.unusedVariables false

def stepB (eq : Int → Bool) (out : List (Int × Int)) (f t : Int) : List (Int × Int) :=
  if f = t ∨ eq f = true then out else
  match out.getLast? with
  | some p => if p.2 = f then out.dropLast ++ [(p.1, t)] else out ++ [(f, t)]
  | none => out ++ [(f, t)]
def outN (eq : Int → Bool) (L : List Int) : Nat → List (Int × Int)
  | 0 => []
  | k + 1 => stepB eq (outN eq L k) (L.getD k 0) (L.getD (k + 1) 0)
def inS (f t : Int) (c : Ch) : Bool := decide (f < c.t ∧ c.t < t)
def ptsB (l : List Ch) (f t : Int) : List Int := f :: t :: ((l.filter (inS f t)).map (·.t))
def srtB (l : List Ch) (f t : Int) : List Int := (ptsB l f t).mergeSort (fun x y => decide (x ≤ y))
noncomputable def eqB (a b : Tab) (x : Int) : Bool := decide (tyOf a x = tyOf b x)
noncomputable def outB (a b : Tab) (f t : Int) : List (Int × Int) := outN (eqB a b) (srtB (a.chs ++ b.chs) f t) ((srtB (a.chs ++ b.chs) f t).length - 1)

structure BInv (eq : Int → Bool) (f cur : Int) (out : List (Int × Int)) : Prop where
  proper : ∀ p ∈ out, f ≤ p.1 ∧ p.1 < p.2 ∧ p.2 ≤ cur
  apart : out.Pairwise (fun p q => p.2 < q.1)
  cover : ∀ y, f ≤ y → y < cur → ((∃ p ∈ out, p.1 ≤ y ∧ y < p.2) ↔ eq y = false)

theorem BInv.more {eq : Int → Bool} {f cur nxt : Int} {out : List (Int × Int)} (h : BInv eq f cur out) (h1 : cur < nxt) (hf : f ≤ cur) (he : eq cur = false) (hc : ∀ y, cur ≤ y → y < nxt → eq y = eq cur) (hl : ∀ p ∈ out, p.2 < cur) :
    BInv eq f nxt (out ++ [(cur, nxt)]) := by
  refine ⟨fun p hp => ?_, ?_, fun y hy1 hy2 => ?_⟩
  · rcases List.mem_append.1 hp with hp | hp
    · have := h.proper p hp; omega
    · simp only [List.mem_singleton] at hp; subst hp; exact ⟨hf, h1, Int.le_refl _⟩
  · rw [List.pairwise_append]
    refine ⟨h.apart, by simp, fun p hp q hq => ?_⟩
    simp only [List.mem_singleton] at hq; subst hq
    exact hl p hp
  · by_cases hyc : y < cur
    · rw [← h.cover y hy1 hyc]
      constructor
      · rintro ⟨p, hp, hp2⟩
        rcases List.mem_append.1 hp with hp | hp
        · exact ⟨p, hp, hp2⟩
        · simp only [List.mem_singleton] at hp; subst hp; exact absurd hp2.1 (by show ¬ cur ≤ y; omega)
      · rintro ⟨p, hp, hp2⟩
        exact ⟨p, by simp [hp], hp2⟩
    · rw [hc y (by omega) hy2, he]
      simp only [iff_true]
      exact ⟨(cur, nxt), by simp, by show cur ≤ y; omega, hy2⟩
theorem BInv.step {eq : Int → Bool} {f cur nxt : Int} {out : List (Int × Int)} (h : BInv eq f cur out) (h1 : cur ≤ nxt) (hf : f ≤ cur) (hc : ∀ y, cur ≤ y → y < nxt → eq y = eq cur) : BInv eq f nxt (stepB eq out cur nxt) := by
  unfold stepB
  split
  · next hs =>
    refine ⟨fun p hp => by have := h.proper p hp; omega, h.apart, fun y hy1 hy2 => ?_⟩
    by_cases hyc : y < cur
    · exact h.cover y hy1 hyc
    · have he : eq cur = true := hs.resolve_left (by omega)
      rw [hc y (by omega) hy2, he]
      simp only [Bool.true_eq_false, iff_false]
      rintro ⟨p, hp, hp2⟩
      have := h.proper p hp
      omega
  · next hs =>
    have hlt : cur < nxt := by
      have : cur ≠ nxt := fun e => hs (.inl e)
      omega
    have he : eq cur = false := by
      cases e : eq cur
      · rfl
      · exact absurd (.inr e) hs
    split
    · next p hp =>
      obtain ⟨init, rfl⟩ := List.getLast?_eq_some_iff.1 hp
      have hpp := h.proper p (by simp)
      have hap := List.pairwise_append.1 h.apart
      split
      · next e =>
        rw [List.dropLast_concat]
        refine ⟨fun q hq => ?_, ?_, fun y hy1 hy2 => ?_⟩
        · rcases List.mem_append.1 hq with hq | hq
          · have := h.proper q (by simp [hq]); omega
          · simp only [List.mem_singleton] at hq; subst hq; exact ⟨hpp.1, by show p.1 < nxt; omega, Int.le_refl _⟩
        · rw [List.pairwise_append]
          refine ⟨hap.1, by simp, fun a ha q hq => ?_⟩
          simp only [List.mem_singleton] at hq; subst hq
          exact hap.2.2 a ha p (by simp)
        · by_cases hyc : y < cur
          · rw [← h.cover y hy1 hyc]
            constructor
            · rintro ⟨q, hq, hq2⟩
              rcases List.mem_append.1 hq with hq | hq
              · exact ⟨q, by simp [hq], hq2⟩
              · simp only [List.mem_singleton] at hq; subst hq
                exact ⟨p, by simp, hq2.1, by omega⟩
            · rintro ⟨q, hq, hq2⟩
              rcases List.mem_append.1 hq with hq | hq
              · exact ⟨q, by simp [hq], hq2⟩
              · simp only [List.mem_singleton] at hq; subst hq
                exact ⟨(q.1, nxt), by simp, hq2.1, by show y < nxt; omega⟩
          · rw [hc y (by omega) hy2, he]
            simp only [iff_true]
            exact ⟨(p.1, nxt), by simp, by show p.1 ≤ y; omega, hy2⟩
      · next e =>
        refine h.more hlt hf he hc fun q hq => ?_
        rcases List.mem_append.1 hq with hq | hq
        · have := hap.2.2 q hq p (by simp)
          omega
        · simp only [List.mem_singleton] at hq; subst hq; omega
    · next hn =>
      rw [List.getLast?_eq_none_iff] at hn
      subst hn
      exact h.more hlt hf he hc (by simp)

theorem outN_inv (eq : Int → Bool) (L : List Int) (f : Int) (h0 : L.getD 0 0 = f) (hf : ∀ x ∈ L, f ≤ x) (hs : L.Pairwise (· ≤ ·)) (hc : ∀ k, k + 1 < L.length → ∀ y, L.getD k 0 ≤ y → y < L.getD (k + 1) 0 → eq y = eq (L.getD k 0)) :
    ∀ k, k < L.length → BInv eq f (L.getD k 0) (outN eq L k) := by
  intro k
  induction k with
  | zero => intro _; rw [h0]; exact ⟨by simp [outN], by simp [outN], fun y h1 h2 => by omega⟩
  | succ k ih =>
    intro hk
    have g0 : L.getD k 0 = L[k]'(by omega) := by simp [List.getD, List.getElem?_eq_getElem (show k < L.length by omega)]
    have g1 : L.getD (k + 1) 0 = L[k + 1] := by simp [List.getD, List.getElem?_eq_getElem hk]
    refine (ih (by omega)).step ?_ ?_ (hc k hk)
    · rw [g0, g1]
      exact List.pairwise_iff_getElem.1 hs k (k + 1) (by omega) hk (by omega)
    · rw [g0]
      exact hf _ (List.getElem_mem _)

theorem srtB_perm (l : List Ch) (f t : Int) : (srtB l f t).Perm (ptsB l f t) := List.mergeSort_perm _ _
theorem srtB_sorted (l : List Ch) (f t : Int) : (srtB l f t).Pairwise (· ≤ ·) := by
  have := List.pairwise_mergeSort (le := fun x y : Int => decide (x ≤ y)) (fun a b c h1 h2 => by simp at *; omega) (fun a b => by simp; omega) (ptsB l f t)
  exact this.imp (by intro a b h; simpa using h)
theorem ptsB_in {l : List Ch} {f t x : Int} (hft : f ≤ t) (h : x ∈ ptsB l f t) : f ≤ x ∧ x ≤ t := by
  unfold ptsB at h
  simp only [List.mem_cons, List.mem_map, List.mem_filter, inS, decide_eq_true_eq] at h
  rcases h with rfl | rfl | ⟨c, ⟨_, h⟩, rfl⟩ <;> omega
theorem srtB_len (l : List Ch) (f t : Int) : (srtB l f t).length = (l.filter (inS f t)).length + 2 := by
  have := (srtB_perm l f t).length_eq
  rw [this]
  simp [ptsB]
theorem srtB_in {l : List Ch} {f t x : Int} (hft : f ≤ t) (h : x ∈ srtB l f t) : f ≤ x ∧ x ≤ t := ptsB_in hft ((srtB_perm l f t).subset h)
theorem srtB_first (l : List Ch) (f t : Int) (hft : f ≤ t) : (srtB l f t).getD 0 0 = f := by
  have hl := srtB_len l f t
  have h0 : 0 < (srtB l f t).length := by omega
  have g : (srtB l f t).getD 0 0 = (srtB l f t)[0] := by simp [List.getD, List.getElem?_eq_getElem h0]
  rw [g]
  have h1 := srtB_in hft (List.getElem_mem h0)
  have hm : f ∈ srtB l f t := (srtB_perm l f t).symm.subset (by simp [ptsB])
  obtain ⟨j, hj, e⟩ := List.getElem_of_mem hm
  by_cases hj0 : j = 0
  · subst hj0; exact e
  · have := List.pairwise_iff_getElem.1 (srtB_sorted l f t) 0 j h0 hj (by omega)
    omega
theorem srtB_last (l : List Ch) (f t : Int) (hft : f ≤ t) : (srtB l f t).getD ((srtB l f t).length - 1) 0 = t := by
  have hl := srtB_len l f t
  have h0 : (srtB l f t).length - 1 < (srtB l f t).length := by omega
  have g : (srtB l f t).getD ((srtB l f t).length - 1) 0 = (srtB l f t)[(srtB l f t).length - 1] := by simp [List.getD, List.getElem?_eq_getElem h0]
  rw [g]
  have h1 := srtB_in hft (List.getElem_mem h0)
  have hm : t ∈ srtB l f t := (srtB_perm l f t).symm.subset (by simp [ptsB])
  obtain ⟨j, hj, e⟩ := List.getElem_of_mem hm
  by_cases hj0 : j = (srtB l f t).length - 1
  · subst hj0; exact e
  · have := List.pairwise_iff_getElem.1 (srtB_sorted l f t) j ((srtB l f t).length - 1) hj h0 (by omega)
    omega
theorem srtB_gap (l : List Ch) (f t : Int) (hft : f ≤ t) (k : Nat) (hk : k + 1 < (srtB l f t).length) (c : Ch) (hc : c ∈ l) (h1 : (srtB l f t).getD k 0 < c.t) (h2 : c.t < (srtB l f t).getD (k + 1) 0) : False := by
  have g0 : (srtB l f t).getD k 0 = (srtB l f t)[k]'(by omega) := by simp [List.getD, List.getElem?_eq_getElem (show k < (srtB l f t).length by omega)]
  have g1 : (srtB l f t).getD (k + 1) 0 = (srtB l f t)[k + 1] := by simp [List.getD, List.getElem?_eq_getElem hk]
  rw [g0] at h1
  rw [g1] at h2
  have i0 := srtB_in hft (List.getElem_mem (show k < (srtB l f t).length by omega))
  have i1 := srtB_in hft (List.getElem_mem hk)
  have hm : c.t ∈ srtB l f t := by
    refine (srtB_perm l f t).symm.subset ?_
    unfold ptsB
    simp only [List.mem_cons, List.mem_map, List.mem_filter, inS, decide_eq_true_eq]
    exact .inr (.inr ⟨c, ⟨hc, by omega⟩, rfl⟩)
  obtain ⟨j, hj, e⟩ := List.getElem_of_mem hm
  have hs := List.pairwise_iff_getElem.1 (srtB_sorted l f t)
  rcases Nat.lt_or_ge k j with h | h
  · rcases Nat.lt_or_ge (k + 1) j with h' | h'
    · have := hs (k + 1) j hk hj h'; omega
    · obtain rfl : j = k + 1 := by omega
      omega
  · rcases Nat.lt_or_ge j k with h' | h'
    · have := hs j k hj (by omega) h'; omega
    · obtain rfl : j = k := by omega
      omega

theorem valL_const (l : List (Int × Ty)) (x y : Int) (hxy : x ≤ y) : ∀ acc, (∀ c ∈ l, ¬ (x < c.1 ∧ c.1 ≤ y)) → valL acc l x = valL acc l y := by
  induction l with
  | nil => intro acc _; rfl
  | cons c r ih =>
    intro acc h
    have hc := h c (by simp)
    have e : (if c.1 ≤ x then c.2 else acc) = (if c.1 ≤ y then c.2 else acc) := by
      by_cases h1 : c.1 ≤ x
      · rw [if_pos h1, if_pos (by omega)]
      · rw [if_neg h1, if_neg (by omega)]
    show valL (if c.1 ≤ x then c.2 else acc) r x = valL (if c.1 ≤ y then c.2 else acc) r y
    rw [e]
    exact ih _ (fun d hd => h d (by simp [hd]))
theorem tyOf_const (t : Tab) (ok : OkTab t) (x y : Int) (hxy : x ≤ y) (h : ∀ c ∈ t.chs, ¬ (x < c.t ∧ c.t ≤ y)) : tyOf t x = tyOf t y := by
  rw [tyOf_valV t ok, tyOf_valV t ok]
  refine valL_const _ _ _ hxy _ fun c hc => ?_
  obtain ⟨d, hd, rfl⟩ := List.mem_map.1 hc
  exact h d hd

theorem outB_inv (a b : Tab) (f t : Int) (hft : f ≤ t) (oka : OkTab a) (okb : OkTab b) : BInv (eqB a b) f t (outB a b f t) := by
  have hl := srtB_len (a.chs ++ b.chs) f t
  have h := outN_inv (eqB a b) (srtB (a.chs ++ b.chs) f t) f (srtB_first _ _ _ hft) (fun x hx => (srtB_in hft hx).1) (srtB_sorted _ _ _) (fun k hk y h1 h2 => ?_) ((srtB (a.chs ++ b.chs) f t).length - 1) (by omega)
  · rw [srtB_last _ _ _ hft] at h
    exact h
  · have gap := srtB_gap (a.chs ++ b.chs) f t hft k hk
    unfold eqB
    rw [tyOf_const a oka _ y h1 (fun c hc h3 => gap c (by simp [hc]) h3.1 (by omega)), tyOf_const b okb _ y h1 (fun c hc h3 => gap c (by simp [hc]) h3.1 (by omega))]

theorem stepB_eq {eq : Int → Bool} {out : List (Int × Int)} {f t : Int} (h : eq f = true) : stepB eq out f t = out := by unfold stepB; rw [if_pos (.inr h)]
theorem outN_eq (eq : Int → Bool) (h : ∀ x, eq x = true) (L : List Int) : ∀ k, outN eq L k = []
  | 0 => rfl
  | k + 1 => by show stepB _ _ _ _ = _; rw [stepB_eq (h _)]; exact outN_eq eq h L k
theorem outB_same (a b : Tab) (f t : Int) (h : ∀ x, tyOf a x = tyOf b x) : outB a b f t = [] := outN_eq _ (fun x => by unfold eqB; simp [h x]) _ _
theorem stepB_len (eq : Int → Bool) (out : List (Int × Int)) (f t : Int) : (stepB eq out f t).length ≤ out.length + 1 := by
  unfold stepB
  split
  · omega
  · split
    · next p hp =>
      obtain ⟨init, rfl⟩ := List.getLast?_eq_some_iff.1 hp
      split
      · rw [List.dropLast_concat]; simp
      · simp
    · simp
theorem outN_len (eq : Int → Bool) (L : List Int) : ∀ k, (outN eq L k).length ≤ k
  | 0 => by simp [outN]
  | k + 1 => by
    have := stepB_len eq (outN eq L k) (L.getD k 0) (L.getD (k + 1) 0)
    have := outN_len eq L k
    show (stepB _ _ _ _).length ≤ _
    omega
theorem srtB_comm (l m : List Ch) (f t : Int) : srtB (l ++ m) f t = srtB (m ++ l) f t := by
  refine List.Perm.eq_of_pairwise (le := (· ≤ ·)) (fun a b _ _ h1 h2 => Int.le_antisymm h1 h2) (srtB_sorted _ _ _) (srtB_sorted _ _ _) ?_
  refine (srtB_perm _ _ _).trans (List.Perm.trans ?_ (srtB_perm _ _ _).symm)
  unfold ptsB
  rw [List.filter_append, List.filter_append, List.map_append, List.map_append]
  exact (List.perm_append_comm.cons _).cons _
theorem outB_comm (a b : Tab) (f t : Int) : outB a b f t = outB b a f t := by
  unfold outB
  rw [srtB_comm]
  have : eqB a b = eqB b a := by
    funext x
    unfold eqB
    rw [decide_eq_decide]
    exact eq_comm
  rw [this]
end Go.Proofs.YthggojpdcgcmaaaGreatDoor
namespace Go.Proofs.YthggojpdcgcmaaaGreatDoor
open Go.RowKit Go.Joins Go.Maps
open Classical
set_option linter.unusedVariables false
set_option linter.unusedSimpArgs false

section
variable {b : Bk} {nm : ByteArray} {fr te : Int} {T : Tab}
theorem mk_made (h : mkT b nm fr te = (0, T)) : ∃ z ∈ b.zones, rsv b nm = (some z, 0) ∧ bkChk b = 0 ∧ Made b.rules z.eras fr te T := by
  have := mkT_zero (b := b) (nm := nm) (fr := fr) (te := te) (by rw [h])
  rw [h] at this
  exact this
theorem mk_none {C : Int} (h : mkT b nm fr te = (C, T)) (hc : C ≠ 0) : T = zTab := by
  have := mkT_bad (b := b) (nm := nm) (fr := fr) (te := te) (by rw [h]; exact hc)
  rw [h] at this
  exact this
theorem mem_chgT {c : Ch} (h : c ∈ T.chs) : c.t ∈ chgT T := List.mem_map.2 ⟨c, h, rfl⟩
theorem mk_chg (h : mkT b nm fr te = (0, T)) : normT T = T ∧ chk T = 0 ∧ (∀ c ∈ T.chs, fr < c.t ∧ c.t < te) ∧ fr < te := by
  obtain ⟨z, hz, hr, hb, m⟩ := mk_made h
  refine ⟨made_norm m, ok_chk _ m.ok, fun c hc => ?_, m.lt⟩
  have := (made_chg m c.t).1 (mem_chgT hc)
  exact ⟨this.1, this.2.1⟩
theorem mk_says (h : mkT b nm fr te = (0, T)) {y : Int} (h1 : fr ≤ y) (h2 : y < te) : stR b nm y = (0, tyOf T y) := by
  obtain ⟨z, hz, hr, hb, m⟩ := mk_made h
  rw [made_says m h1 h2]
  exact made_st hz hr m h1 h2
theorem mk_steady (h : mkT b nm fr te = (0, T)) {x y : Int} (h1 : fr ≤ x) (h2 : y < te) (h3 : x ≤ y) (hn : ∀ c ∈ T.chs, ¬ (x < c.t ∧ c.t ≤ y)) : stR b nm x = stR b nm y ∧ (stR b nm x).1 = 0 := by
  obtain ⟨z, hz, hr, hb, m⟩ := mk_made h
  rw [made_st hz hr m h1 (by omega), made_st hz hr m (by omega : fr ≤ y) h2]
  have e : y = x + ((y - x).toNat : Int) := by omega
  have := made_steady m h1 (y - x).toNat (by omega) (fun c hc => by
    obtain ⟨d, hd, rfl⟩ := List.mem_map.1 hc
    have := hn d hd
    omega)
  rw [e, this]
  exact ⟨rfl, rfl⟩
theorem mk_fixed (hc : bkChk b = 0) {z : Zo} (hz : z ∈ b.zones) (h : mkT b z.nm fr te = (0, T)) (hn : ∀ x ∈ z.eras, x.ru.data.toList = []) : ∀ c ∈ T.chs, ∃ x ∈ z.eras, x.un = c.t := by
  obtain ⟨z', hz', hr, hb, m⟩ := mk_made h
  rw [rsv_zone hc hz] at hr
  injection hr with hr _
  injection hr with hr
  subst hr
  exact fun c hc => made_fixed m hn (mem_chgT hc)
theorem mk_parts (h : mkT b nm fr te = (0, T)) {p q : Int} (h1 : fr ≤ p) (h2 : p < q) (h3 : q ≤ te) : ∃ U, mkT b nm p q = (0, U) ∧ outB T U p q = [] ∧ chk T = 0 ∧ chk U = 0 ∧ chgT U = (chgT T).filter fun z => decide (p < z ∧ z < q) := by
  obtain ⟨z, hz, hr, hb, m⟩ := mk_made h
  have e1 : (mkE b.rules z.eras fr te).1 = 0 := by rw [mkT_of hr] at h; rw [h]
  have e2 : (mkT b nm p q).1 = 0 := by rw [mkT_of hr]; exact mkE_part (bk_eras hb hz) h1 h2 h3 e1
  obtain ⟨U, eU⟩ : ∃ U, (mkT b nm p q).2 = U := ⟨_, rfl⟩
  have e3 : mkT b nm p q = (0, U) := by rw [← e2, ← eU]
  obtain ⟨z', hz', hr', hb', n⟩ := mk_made e3
  rw [hr] at hr'
  injection hr' with hr' _
  injection hr' with hr'
  subst hr'
  refine ⟨U, e3, ?_, ok_chk _ m.ok, ok_chk _ n.ok, made_part m n h1 h3⟩
  have hi := outB_inv T U p q (by omega) m.ok n.ok
  cases ho : outB T U p q with
  | nil => rfl
  | cons r rs =>
    rw [ho] at hi
    have hp := hi.proper r List.mem_cons_self
    have hc := (hi.cover r.1 hp.1 (by omega)).1 ⟨r, List.mem_cons_self, Int.le_refl _, hp.2.1⟩
    unfold eqB at hc
    rw [made_says m (y := r.1) (by omega) (by omega), made_says n (y := r.1) hp.1 (by omega)] at hc
    simp at hc
end
end Go.Proofs.YthggojpdcgcmaaaGreatDoor
namespace Go.Proofs.YthggojpdcgcmaaaGreatDoor
open Go.ChangeShapes Go.WideShapes Go.Deep Go.RowKit Go.Joins
set_option linter.unusedVariables false
set_option linter.unusedSimpArgs false

section
variable {H : Type} {enc : TypeId × Value → H} {P : Program} {w : World} {base : Nat} {spare : Nat → Bool} {held : Bool}
/-- (the guide's lemma on slices of structs) -/
theorem open_slice_fields {t e : TypeId} {fs : Array Field} {fuel : Nat} {cs : List Value} {x : DataW H × List MemPlace} (ht : P.underlying t = some (.slice e)) (he : P.underlying e = some (.struct fs))
    (hone : oneCellFields P fs = true) (hC : P.cellsOf e = fs.size) (h : DataW.trod enc P w base spare held fuel t cs = some x) :
    (cs = [.slice none 0 0] ∧ x = (.nil, [])) ∨
    ∃ (a : Addr) (len cap m : Nat) (D : Nat → DataW H) (Pl : Nat → List MemPlace), cs = [.slice (some a) len cap] ∧ base ≤ a.block ∧ len ≤ cap ∧ cap ≤ maxLen ∧ m = (if spare a.block then cap else len) ∧
      x = (.slice ((List.range len).map D) ((List.range (m - len)).map fun j => D (len + j)), MemPlace.row a (m * fs.size) ++ (List.range m).flatMap Pl) ∧
      ∀ i, i < m → ∃ (ys : List (DataW H × List MemPlace)) (n : Nat), D i = .agg (ys.map (·.1)) ∧ Pl i = ys.flatMap (·.2) ∧ ys.length = fs.size ∧
        ∀ (j : Nat) (f : Field), fs[j]? = some f → ∃ (v : Value) (y : DataW H × List MemPlace), w.cell? (a.add (i * fs.size + j)) = some v ∧ ys[j]? = some y ∧ DataW.trod enc P w base spare held n f.type [v] = some y := by
  rcases open_slice ht h with h0 | ⟨a, len, cap, m, n, D, Pl, hcs, hb, hl, hm, hmm, hx, hi⟩
  · exact .inl h0
  · refine .inr ⟨a, len, cap, m, D, Pl, hcs, hb, hl, hm, hmm, by rw [hC] at hx; exact hx, fun i him => ?_⟩
    obtain ⟨cs', hc, ht'⟩ := hi i him
    rw [hC] at hc
    obtain ⟨ys, n', hn', hy, hlen, hyl, hf⟩ := DataW.trod_struct he ht'
    obtain ⟨_, hcl, hat⟩ := World.cells?_some hc
    simp only [Prod.mk.injEq] at hy
    refine ⟨ys, n', hy.1, hy.2, hyl, fun j f hj => ?_⟩
    obtain ⟨ho, hk⟩ := hone_of hone j f hj
    have hjl : j < fs.size := (Array.getElem?_eq_some_iff.1 hj).1
    have hcell := hat j hjl
    have hv : cs'[j]? = some (cs'[j]'(by omega)) := List.getElem?_eq_getElem (by omega)
    have h1 := hf j f hj
    rw [ho, hk] at h1
    have hone' : (cs'.drop j).take 1 = [cs'[j]'(by omega)] := by
      rw [List.drop_eq_getElem_cons (by omega)]
      rfl
    rw [hone'] at h1
    have hys : ys[j]? = some (ys[j]'(by omega)) := List.getElem?_eq_getElem (by omega)
    refine ⟨_, _, ?_, hys, h1.trans hys⟩
    rw [← Go.Deep.add_add, hcell, hv]
end

theorem und_types : Tryz.prog.underlying 49 = some (.slice 40) := by kernel_rfl
theorem und_changes : Tryz.prog.underlying 50 = some (.slice 56) := by kernel_rfl

/-- an address that holds a cell is plain -/
theorem spot_none {w : World} {a : Addr} {v : Value} (h : w.cell? a = some v) : a = ⟨a.block, a.off, none⟩ := by
  obtain ⟨b, o, s⟩ := a
  cases s with
  | none => rfl
  | some k =>
    simp only [World.cell?] at h
    split at h
    · simp at h
    · cases h
theorem add_plain (b o i : Nat) : (⟨b, o, none⟩ : Addr).add i = ⟨b, o + i, none⟩ := by
  unfold Addr.add
  split
  · rename_i h; subst h; rfl
  · rfl

theorem list_of {α : Type} [Inhabited α] (n : Nat) (Q : Nat → α → Prop) (h : ∀ i, i < n → ∃ x, Q i x) : ∃ l : List α, l.length = n ∧ ∀ i (hi : i < l.length), Q i l[i] := by
  classical
  refine ⟨(List.range n).map fun i => if hi : i < n then Classical.choose (h i hi) else default, by simp, fun i hi => ?_⟩
  have hi' : i < n := by simpa using hi
  simp only [List.getElem_map, List.getElem_range, hi', dite_true]
  exact Classical.choose_spec (h i hi')

instance : Inhabited Ty := ⟨⟨0, false, ⟨#[]⟩⟩⟩
instance : Inhabited Ch := ⟨⟨0, 0⟩⟩

section
variable {H : Type} {enc : TypeId × Value → H} {w : World} {base : Nat} {spare : Nat → Bool} {held : Bool}

theorem SlTy_open {fuel : Nat} {v : Value} {x : DataW H × List MemPlace} (h : DataW.trod enc Tryz.prog w base spare held fuel 49 [v] = some x) : ∃ l, SlTy w v l := by
  rcases open_slice_fields und_types Tryz.underlying40 (by kernel_rfl) (by kernel_rfl) h with ⟨hcs, _⟩ | ⟨a, len, cap, m, D, Pl, hcs, hb, hl, hm, hmm, hx, hf⟩
  · obtain rfl : v = .slice none 0 0 := by simpa using hcs
    exact ⟨[], ⟨⟨none, 0, rfl, fun h => absurd rfl h⟩, by simp, by simp⟩⟩
  · obtain rfl : v = .slice (some a) len cap := by simpa using hcs
    have hlm : len ≤ m := by rw [hmm]; split <;> omega
    have key : ∀ i, i < len → ∃ x : Ty, tyAt w a.block (a.off + i * 3) x ∧ x.name.size ≤ maxLen ∧ a = ⟨a.block, a.off, none⟩ ∧ a.block < w.heap.size := by
      intro i hi
      obtain ⟨ys, n, _, _, _, hfs⟩ := hf i (by omega)
      obtain ⟨ys0, n0, _, _, _, hfs0⟩ := hf 0 (by omega)
      obtain ⟨z0, _, d0, _, _⟩ := hfs0 0 _ rfl
      have hsp : a = ⟨a.block, a.off, none⟩ := by
        have e : a.add (0 * 3 + 0) = a := rfl
        exact spot_none (w := w) (v := z0) d0
      obtain ⟨v0, y0, c0, _, t0⟩ := hfs 0 _ rfl
      obtain ⟨v1, y1, c1, _, t1⟩ := hfs 1 _ rfl
      obtain ⟨v2, y2, c2, _, t2⟩ := hfs 2 _ rfl
      obtain ⟨b0, e0, _, _⟩ := DataW.trod_int Tryz.underlying3 t0
      obtain ⟨b1, e1, _⟩ := DataW.trod_bool Tryz.underlying4 t1
      obtain ⟨b2, e2, _, hs2⟩ := DataW.trod_string Tryz.underlying9 t2
      simp only [List.cons.injEq, and_true] at e0 e1 e2
      subst e0 e1 e2
      have hlt : a.block < w.heap.size := by
        rw [hsp, add_plain] at d0
        exact World.block_lt_of_cell? w ⟨a.block, _, none⟩ d0
      rw [hsp, add_plain] at c0 c1 c2
      exact ⟨⟨b0, b1, b2⟩, ⟨c0, c1, c2⟩, hs2, hsp, hlt⟩
    obtain ⟨l, hl1, hl2⟩ := list_of len _ key
    subst hl1
    refine ⟨l, ⟨⟨some a, cap, rfl, fun hne => ?_⟩, by omega, fun x hx => ?_⟩⟩
    · have hp : 0 < l.length := List.length_pos_iff.2 hne
      obtain ⟨_, _, h3, h4⟩ := hl2 0 hp
      exact ⟨a.block, a.off, congrArg some h3, h4, fun i hi => (hl2 i hi).1⟩
    · obtain ⟨i, hi, rfl⟩ := List.mem_iff_getElem.1 hx
      exact (hl2 i hi).2.1

theorem SlCh_open {fuel : Nat} {v : Value} {x : DataW H × List MemPlace} (h : DataW.trod enc Tryz.prog w base spare held fuel 50 [v] = some x) : ∃ l, SlCh w v l := by
  rcases open_slice_fields und_changes Tryz.underlying56 (by kernel_rfl) (by kernel_rfl) h with ⟨hcs, _⟩ | ⟨a, len, cap, m, D, Pl, hcs, hb, hl, hm, hmm, hx, hf⟩
  · obtain rfl : v = .slice none 0 0 := by simpa using hcs
    exact ⟨[], ⟨⟨none, 0, rfl, fun h => absurd rfl h⟩, by simp⟩⟩
  · obtain rfl : v = .slice (some a) len cap := by simpa using hcs
    have hlm : len ≤ m := by rw [hmm]; split <;> omega
    have key : ∀ i, i < len → ∃ x : Ch, chAt w a.block (a.off + i * 2) x ∧ a = ⟨a.block, a.off, none⟩ ∧ a.block < w.heap.size := by
      intro i hi
      obtain ⟨ys, n, _, _, _, hfs⟩ := hf i (by omega)
      obtain ⟨ys0, n0, _, _, _, hfs0⟩ := hf 0 (by omega)
      obtain ⟨z0, _, d0, _, _⟩ := hfs0 0 _ rfl
      have hsp : a = ⟨a.block, a.off, none⟩ := spot_none (w := w) (v := z0) d0
      obtain ⟨v0, y0, c0, _, t0⟩ := hfs 0 _ rfl
      obtain ⟨v1, y1, c1, _, t1⟩ := hfs 1 _ rfl
      obtain ⟨b0, e0, _, _⟩ := DataW.trod_int Tryz.underlying3 t0
      obtain ⟨b1, e1, _, _⟩ := DataW.trod_int Tryz.underlying3 t1
      simp only [List.cons.injEq, and_true] at e0 e1
      subst e0 e1
      have hlt : a.block < w.heap.size := by
        rw [hsp, add_plain] at d0
        exact World.block_lt_of_cell? w ⟨a.block, _, none⟩ d0
      rw [hsp, add_plain] at c0 c1
      exact ⟨⟨b0, b1⟩, ⟨c0, c1⟩, hsp, hlt⟩
    obtain ⟨l, hl1, hl2⟩ := list_of len _ key
    subst hl1
    refine ⟨l, ⟨⟨some a, cap, rfl, fun hne => ?_⟩, by omega⟩⟩
    have hp : 0 < l.length := List.length_pos_iff.2 hne
    obtain ⟨_, h3, h4⟩ := hl2 0 hp
    exact ⟨a.block, a.off, congrArg some h3, h4, fun i hi => (hl2 i hi).1⟩

theorem cellsTable : Tryz.prog.cellsOf 52 = 3 := by kernel_rfl
set_option maxRecDepth 100000 in
/-- A law's table argument -/
theorem TabAt_open {r : Reach} {b0 : Nat} {v : Value} {d : DataW H} {p : List MemPlace} (hv : Value.okWide Tryz.prog w r b0 52 v) (h : DataW.Trod enc Tryz.prog w base spare held 52 v d p) : ∃ t, TabAt w v t := by
  obtain ⟨c0, c1, c2, y0, y1, y2, m, rfl, _, _, g0, g1, g2⟩ := open_agg3 Tryz.underlying52 (by kernel_rfl) cellsTable hv h
  obtain ⟨l, hl⟩ := SlTy_open g0
  obtain ⟨b1, e1, _, _⟩ := DataW.trod_int Tryz.underlying3 g1
  obtain ⟨k, hk⟩ := SlCh_open g2
  simp only [List.cons.injEq, and_true] at e1
  subst e1
  exact ⟨⟨l, b1, k⟩, _, _, rfl, hl, hk⟩
end

end Go.Proofs.YthggojpdcgcmaaaGreatDoor
namespace Go.Proofs.YthggojpdcgcmaaaGreatDoor.BB
open Go.RowKit Go.Joins
open Classical
set_option linter.unusedVariables false
set_option linter.unusedSimpArgs false

structure Er where
  (off : Int)
  (rul : ByteArray)
  (save : Int)
  (fmt : ByteArray)
  (til : Int)

def erOff (x : Ty) : Int := if x.save = true then x.off - 3600 else x.off
def erSave (x : Ty) : Int := if x.save = true then 3600 else 0
def erOk (x : Ty) : Bool := decide (-64800 ≤ erOff x ∧ erOff x ≤ 64800)
def erOf (x : Ty) (u : Int) : Er := ⟨erOff x, ⟨#[]⟩, erSave x, x.name, u⟩
/-- the type's number of a table's span -/
def segK (N : Tab) (i : Nat) : Int := if i = 0 then N.first else kAt N.chs (i - 1)
def segT (N : Tab) (i : Nat) : Ty := tyD N.types (segK N i)
def segU (N : Tab) (i : Nat) : Int := if i < N.chs.length then tAt N.chs i else 0
def erAt (N : Tab) (i : Nat) : Er := erOf (segT N i) (segU N i)
def ersUp (N : Tab) (k : Nat) : List Er := (List.range k).map (erAt N)
abbrev ersOf (N : Tab) : List Er := ersUp N (N.chs.length + 1)
theorem ersUp_snoc (N : Tab) (k : Nat) : ersUp N (k + 1) = ersUp N k ++ [erAt N k] := by simp [ersUp, List.range_succ]
theorem ersUp_length (N : Tab) (k : Nat) : (ersUp N k).length = k := by simp [ersUp]

def okSB (t : Int) : Bool := decide (-135140 ≤ t / 86400 ∧ t / 86400 ≤ 157053)
noncomputable def backC (t : Tab) (nm : ByteArray) : Int :=
  if chk t ≠ 0 then chk t else if nameB nm = false then 3 else if 700 ≤ (normT t).chs.length then 2 else
  if (∃ c ∈ (normT t).chs, okSB c.t = false) then 1 else if (∃ i, i ≤ (normT t).chs.length ∧ erOk (segT (normT t) i) = false) then 1 else 0
theorem backC_norm (t : Tab) (nm : ByteArray) (h : chk t = 0) : backC (normT t) nm = backC t nm := by
  unfold backC
  rw [normT_norm, norm_chk t h, h]

/-! in memory -/
def erC (x : Er) : List Value := [.int .i64 x.off, .string x.rul, .int .i64 x.save, .string x.fmt, .int .i64 x.til]
def erCells (l : List Er) : List Value := l.flatMap erC
theorem erCells_snoc (l : List Er) (x : Er) : erCells (l ++ [x]) = erCells l ++ erC x := by simp [erCells]
theorem erCells_get : ∀ (l : List Er) (i : Nat) (h : i < l.length), (erCells l)[i * 5]? = some (.int .i64 l[i].off) ∧ (erCells l)[i * 5 + 1]? = some (.string l[i].rul) ∧ (erCells l)[i * 5 + 2]? = some (.int .i64 l[i].save) ∧ (erCells l)[i * 5 + 3]? = some (.string l[i].fmt) ∧ (erCells l)[i * 5 + 4]? = some (.int .i64 l[i].til)
  | [], i, h => by simp at h
  | x :: r, 0, _ => by simp [erCells, erC]
  | x :: r, i + 1, h => by
    have := erCells_get r i (by simpa using h)
    have e : erCells (x :: r) = erC x ++ erCells r := by simp [erCells]
    rw [e]
    have e3 : (erC x).length = 5 := rfl
    rw [List.getElem?_append_right (by rw [e3]; omega), List.getElem?_append_right (by rw [e3]; omega), List.getElem?_append_right (by rw [e3]; omega), List.getElem?_append_right (by rw [e3]; omega), List.getElem?_append_right (by rw [e3]; omega), e3,
      show (i + 1) * 5 - 5 = i * 5 by omega, show (i + 1) * 5 + 1 - 5 = i * 5 + 1 by omega, show (i + 1) * 5 + 2 - 5 = i * 5 + 2 by omega, show (i + 1) * 5 + 3 - 5 = i * 5 + 3 by omega, show (i + 1) * 5 + 4 - 5 = i * 5 + 4 by omega]
    simpa using this
def erAtW (w : World) (b o : Nat) (x : Er) : Prop :=
  w.cell? ⟨b, o, none⟩ = some (.int .i64 x.off) ∧ w.cell? ⟨b, o + 1, none⟩ = some (.string x.rul) ∧ w.cell? ⟨b, o + 2, none⟩ = some (.int .i64 x.save) ∧ w.cell? ⟨b, o + 3, none⟩ = some (.string x.fmt) ∧ w.cell? ⟨b, o + 4, none⟩ = some (.int .i64 x.til)
theorem erAtW.below {w w' : World} {b o : Nat} {x : Er} (h : erAtW w b o x) (hb : Below w.heap.size w w') (hlt : b < w.heap.size) : erAtW w' b o x :=
  ⟨(hb.cell (p := ⟨b, o, none⟩) hlt).trans h.1, (hb.cell (p := ⟨b, o + 1, none⟩) hlt).trans h.2.1, (hb.cell (p := ⟨b, o + 2, none⟩) hlt).trans h.2.2.1, (hb.cell (p := ⟨b, o + 3, none⟩) hlt).trans h.2.2.2.1, (hb.cell (p := ⟨b, o + 4, none⟩) hlt).trans h.2.2.2.2⟩
structure SlEr (w : World) (v : Value) (l : List Er) : Prop where
  shape : ∃ p cap, v = .slice p l.length cap ∧ (l ≠ [] → ∃ b o, p = some ⟨b, o, none⟩ ∧ b < w.heap.size ∧ ∀ i (h : i < l.length), erAtW w b (o + i * 5) l[i])
  size : l.length ≤ maxLen
theorem SlEr.below {w w' : World} {v : Value} {l : List Er} (h : SlEr w v l) (hb : Below w.heap.size w w') : SlEr w' v l := by
  obtain ⟨⟨p, cap, hv, hc⟩, h2⟩ := h
  refine ⟨⟨p, cap, hv, fun hne => ?_⟩, h2⟩
  obtain ⟨b, o, hp, hlt, hat⟩ := hc hne
  exact ⟨b, o, hp, Nat.lt_of_lt_of_le hlt hb.size, fun i h => (hat i h).below hb hlt⟩
theorem own_ers {W : World} {B : Nat} {v : Value} {l : List Er} (h : W.ownsRow B 35 5 v l.length (erCells l)) (hl : l.length ≤ maxLen) : SlEr W v l := by
  refine ⟨?_, hl⟩
  rcases own_cells h with ⟨rfl, h0⟩ | ⟨g, cap, rfl, hb, hg, hc⟩
  · have : l = [] := List.eq_nil_of_length_eq_zero h0
    subst this
    exact ⟨none, 0, rfl, fun h => absurd rfl h⟩
  · refine ⟨_, cap, rfl, fun _ => ⟨g, 0, rfl, hg, fun i hi => ?_⟩⟩
    obtain ⟨k1, k2, k3, k4, k5⟩ := erCells_get l i hi
    exact ⟨by rw [Nat.zero_add]; exact hc _ _ k1, by rw [Nat.zero_add]; exact hc _ _ k2, by rw [Nat.zero_add]; exact hc _ _ k3, by rw [Nat.zero_add]; exact hc _ _ k4, by rw [Nat.zero_add]; exact hc _ _ k5⟩

/-- a book with one zone of eras -/
structure BkAt (W : World) (Z cz : Nat) (p : Option Addr) (ce : Nat) (nm : ByteArray) (L : List Er) : Prop where
  blk : W.heap[Z]? = some (.cells #[.string nm, .slice p L.length ce] 38 (0, 0))
  ers : SlEr W (.slice p L.length ce) L
  cap : L.length ≤ ce ∧ 1 ≤ cz
theorem own_cap {W : World} {B : Nat} {e : TypeId} {s n c : Nat} {A : Option Addr} {xs : List Value} (h : W.ownsRow B e s (.slice A n c) n xs) : n ≤ c := by
  rcases h.2 with ⟨_, h0⟩ | ⟨g, cap, cur, e, _, _, hn, _⟩
  · omega
  · rw [Value.slice.injEq] at e
    obtain ⟨_, _, rfl⟩ := e
    exact hn
theorem BkAt.below {W W' : World} {Z cz : Nat} {p : Option Addr} {ce : Nat} {nm : ByteArray} {L : List Er} (h : BkAt W Z cz p ce nm L) (hb : Below W.heap.size W W') : BkAt W' Z cz p ce nm L :=
  ⟨(hb.block _ (Array.getElem?_eq_some_iff.mp h.blk).1).trans h.blk, h.ers.below hb, h.cap⟩
theorem BkAt.cells {W : World} {Z cz : Nat} {p : Option Addr} {ce : Nat} {nm : ByteArray} {L : List Er} (h : BkAt W Z cz p ce nm L) :
    W.cell? ⟨Z, 0, none⟩ = some (.string nm) ∧ W.cell? ⟨Z, 1, none⟩ = some (.slice p L.length ce) ∧ Z < W.heap.size :=
  ⟨(cell_of_row W _ 0 _ _ _ h.blk).trans rfl, (cell_of_row W _ 1 _ _ _ h.blk).trans rfl, (Array.getElem?_eq_some_iff.mp h.blk).1⟩
abbrev bkNone : Value := .agg #[.slice none 0 0, .slice none 0 0, .slice none 0 0]
abbrev bkV (Z cz : Nat) : Value := .agg #[.slice none 0 0, .slice (some ⟨Z, 0, none⟩) 1 cz, .slice none 0 0]

abbrev erV (x : Er) : Value := .agg #[.int .i64 x.off, .string x.rul, .int .i64 x.save, .string x.fmt, .int .i64 x.til]
theorem three_alB {w W3 : World} {o1 o2 : Obj} {o3 : Array Value} {T : TypeId} (e : ((w.alloc o1).alloc o2).alloc (.cells o3 T) = W3) :
    W3.heap.size = w.heap.size + 3 ∧ W3.heap[w.heap.size + 1]? = some o2 ∧ W3.heap[w.heap.size + 1 + 1]? = some (.cells o3 T (0, 0)) ∧ Below w.heap.size w W3 := by
  subst e
  refine ⟨by simp, ?_, ?_, (((Below.refl _ _).alloc (Nat.le_refl _) _).alloc (by simp) _).alloc (by simp; omega) _⟩
  · rw [Below.heap_alloc _ _ _ (by simp)]
    have := heap_alloc_new (w.alloc o1) o2
    simpa using this
  · have := heap_alloc_new ((w.alloc o1).alloc o2) (.cells o3 T)
    simpa using this
theorem heap_setCB {w : World} {R i : Nat} {cs : Array Value} {T : TypeId} {f : Nat × Nat} (h : w.heap[R]? = some (.cells cs T f)) (v : Value) : (w.setCell ⟨R, i, none⟩ v).heap[R]? = some (.cells (cs.setIfInBounds i v) T f) := by
  simp [World.setCell, Array.getElem?_modify, h]
theorem cells5 {W : World} {B : Nat} {a b c d e : Value} {T : TypeId} (h : W.heap[B]? = some (.cells #[a, b, c, d, e] T (0, 0))) :
    W.cell? ⟨B, 0, none⟩ = some a ∧ W.cell? ⟨B, 1, none⟩ = some b ∧ W.cell? ⟨B, 2, none⟩ = some c ∧ W.cell? ⟨B, 3, none⟩ = some d ∧ W.cell? ⟨B, 4, none⟩ = some e ∧ ∀ o, W.frozen? ⟨B, o, none⟩ = false :=
  ⟨(cell_of_row W _ 0 _ _ _ h).trans rfl, (cell_of_row W _ 1 _ _ _ h).trans rfl, (cell_of_row W _ 2 _ _ _ h).trans rfl, (cell_of_row W _ 3 _ _ _ h).trans rfl, (cell_of_row W _ 4 _ _ _ h).trans rfl, fun o => by simp [World.frozen?, h]⟩
theorem end_cells5 {W : World} {g : Nat} {a b c d e : Value} {T : TypeId} (h : W.heap[g]? = some (.cells #[a, b, c, d, e] T (0, 0))) (x y z u v : Value) :
    ∃ W', ((((W.setCell ⟨g, 0, none⟩ x).setCell ⟨g, 1, none⟩ y).setCell ⟨g, 2, none⟩ z).setCell ⟨g, 3, none⟩ u).setCell ⟨g, 4, none⟩ v = W' ∧ (∀ B, B ≤ g → Below B W W') ∧ W'.heap[g]? = some (.cells #[x, y, z, u, v] T (0, 0)) := by
  refine ⟨_, rfl, fun B hB => (((((Below.refl _ _).setCell (by exact hB) _).setCell (by exact hB) _).setCell (by exact hB) _).setCell (by exact hB) _).setCell (by exact hB) _, ?_⟩
  rw [heap_setCB (heap_setCB (heap_setCB (heap_setCB (heap_setCB h x) y) z) u) v]
  rfl

set_option maxRecDepth 100000 in
set_option maxHeartbeats 4000000 in
theorem era_any (x : Ty) (w : World) (h1 : -75600 ≤ x.off) (h2 : x.off ≤ 75600) :
    Calls Tryz.prog 54 #[tyV x] w fun e w' => e = .returned (.tuple #[erV (erOf x 0), .bool (erOk x)]) ∧ Below w.heap.size w w' := by
  obtain ⟨off, sv, nm⟩ := x
  simp only at h1 h2
  have HR : Hid (∀ b : Bool, erOk ⟨off, sv, nm⟩ = b → Ending.returned (.tuple #[erV (erOf ⟨off, sv, nm⟩ 0), .bool b]) = Ending.returned (.tuple #[erV (erOf ⟨off, sv, nm⟩ 0), .bool (erOk ⟨off, sv, nm⟩)])) := by
    show ∀ b : Bool, _
    intro b h
    rw [h]
  cases sv
  · obtain ⟨W3, e3⟩ : ∃ W3, ((w.alloc (.cells #[.int .i64 off, .bool false, .string nm] 40)).alloc (.cells #[.int .i64 0, .string ⟨#[]⟩, .int .i64 0, .string ⟨#[]⟩, .int .i64 0] 35)).alloc (.cells #[.int .i64 off, .string ⟨#[]⟩, .int .i64 0, .string nm, .int .i64 0] 35) = W3 := ⟨_, rfl⟩
    obtain ⟨hz, g1, g2, hb⟩ := three_alB e3
    have E3 := Lib.hid e3
    obtain ⟨y0, y1, y2, y3, y4, -⟩ := cells5 g2
    obtain ⟨z0, z1, z2, z3, z4, zf⟩ := cells5 g1
    have G1 := Lib.hid g1
    have HB := Lib.hid hb
    have zf0 := zf 0
    have zf1 := zf 1
    have zf2 := zf 2
    have zf3 := zf 3
    have zf4 := zf 4
    clear e3 g1 g2 hb zf
    by_cases c1 : -64800 ≤ off
    · by_cases c2 : off ≤ 64800
      · have hI : erOk ⟨off, false, nm⟩ = true := by unfold erOk erOff; simp only [Bool.false_eq_true, if_false]; exact decide_eq_true (by omega)
        have HI := Lib.hid hI
        clear hI
        go_enter Tryz.func54, Tryz.ntmps54
        go_upto_region 4 with fail
        rw [E3.out]
        go_region
        go_wp2
        obtain ⟨W9, e9, hb9, g9⟩ := end_cells5 G1.out (.int .i64 (off)) (.string ⟨#[]⟩) (.int .i64 0) (.string nm) (.int .i64 0)
        rw [e9]
        obtain ⟨v0, v1, v2, v3, v4, -⟩ := cells5 (W := W9.drew) g9
        refine bodyPost_ret (v := .tuple #[erV (erOf ⟨off, false, nm⟩ 0), .bool true]) (by simp [results, Tryz.results54, go_sem, v0, v1, v2, v3, v4, erOf, erOff, erSave]) rfl ⟨HR.out true HI.out, ?_⟩
        exact (HB.out.trans (hb9 _ (by omega))).drew
      · have hI : erOk ⟨off, false, nm⟩ = false := by unfold erOk erOff; simp only [Bool.false_eq_true, if_false]; exact decide_eq_false (by omega)
        have HI := Lib.hid hI
        clear hI
        go_enter Tryz.func54, Tryz.ntmps54
        go_upto_region 4 with fail
        rw [E3.out]
        go_region
        go_wp2
        obtain ⟨W9, e9, hb9, g9⟩ := end_cells5 G1.out (.int .i64 (off)) (.string ⟨#[]⟩) (.int .i64 0) (.string nm) (.int .i64 0)
        rw [e9]
        obtain ⟨v0, v1, v2, v3, v4, -⟩ := cells5 (W := W9.drew) g9
        refine bodyPost_ret (v := .tuple #[erV (erOf ⟨off, false, nm⟩ 0), .bool false]) (by simp [results, Tryz.results54, go_sem, v0, v1, v2, v3, v4, erOf, erOff, erSave]) rfl ⟨HR.out false HI.out, ?_⟩
        exact (HB.out.trans (hb9 _ (by omega))).drew
    · have hI : erOk ⟨off, false, nm⟩ = false := by unfold erOk erOff; simp only [Bool.false_eq_true, if_false]; exact decide_eq_false (by omega)
      have HI := Lib.hid hI
      clear hI
      go_enter Tryz.func54, Tryz.ntmps54
      go_upto_region 4 with fail
      rw [E3.out]
      go_region
      go_wp2
      obtain ⟨W9, e9, hb9, g9⟩ := end_cells5 G1.out (.int .i64 (off)) (.string ⟨#[]⟩) (.int .i64 0) (.string nm) (.int .i64 0)
      rw [e9]
      obtain ⟨v0, v1, v2, v3, v4, -⟩ := cells5 (W := W9.drew) g9
      refine bodyPost_ret (v := .tuple #[erV (erOf ⟨off, false, nm⟩ 0), .bool false]) (by simp [results, Tryz.results54, go_sem, v0, v1, v2, v3, v4, erOf, erOff, erSave]) rfl ⟨HR.out false HI.out, ?_⟩
      exact (HB.out.trans (hb9 _ (by omega))).drew
  · obtain ⟨W3, e3⟩ : ∃ W3, ((w.alloc (.cells #[.int .i64 off, .bool true, .string nm] 40)).alloc (.cells #[.int .i64 0, .string ⟨#[]⟩, .int .i64 0, .string ⟨#[]⟩, .int .i64 0] 35)).alloc (.cells #[.int .i64 (off - 3600), .string ⟨#[]⟩, .int .i64 3600, .string nm, .int .i64 0] 35) = W3 := ⟨_, rfl⟩
    obtain ⟨hz, g1, g2, hb⟩ := three_alB e3
    have E3 := Lib.hid e3
    obtain ⟨y0, y1, y2, y3, y4, -⟩ := cells5 g2
    obtain ⟨z0, z1, z2, z3, z4, zf⟩ := cells5 g1
    have G1 := Lib.hid g1
    have HB := Lib.hid hb
    have zf0 := zf 0
    have zf1 := zf 1
    have zf2 := zf 2
    have zf3 := zf 3
    have zf4 := zf 4
    clear e3 g1 g2 hb zf
    by_cases c1 : -64800 ≤ off - 3600
    · by_cases c2 : off - 3600 ≤ 64800
      · have hI : erOk ⟨off, true, nm⟩ = true := by unfold erOk erOff; simp only [if_true]; exact decide_eq_true (by omega)
        have HI := Lib.hid hI
        clear hI
        go_enter Tryz.func54, Tryz.ntmps54
        go_upto_region 4 with fail
        rw [E3.out]
        go_region
        go_wp2
        obtain ⟨W9, e9, hb9, g9⟩ := end_cells5 G1.out (.int .i64 (off - 3600)) (.string ⟨#[]⟩) (.int .i64 3600) (.string nm) (.int .i64 0)
        rw [e9]
        obtain ⟨v0, v1, v2, v3, v4, -⟩ := cells5 (W := W9.drew) g9
        refine bodyPost_ret (v := .tuple #[erV (erOf ⟨off, true, nm⟩ 0), .bool true]) (by simp [results, Tryz.results54, go_sem, v0, v1, v2, v3, v4, erOf, erOff, erSave]) rfl ⟨HR.out true HI.out, ?_⟩
        exact (HB.out.trans (hb9 _ (by omega))).drew
      · have hI : erOk ⟨off, true, nm⟩ = false := by unfold erOk erOff; simp only [if_true]; exact decide_eq_false (by omega)
        have HI := Lib.hid hI
        clear hI
        go_enter Tryz.func54, Tryz.ntmps54
        go_upto_region 4 with fail
        rw [E3.out]
        go_region
        go_wp2
        obtain ⟨W9, e9, hb9, g9⟩ := end_cells5 G1.out (.int .i64 (off - 3600)) (.string ⟨#[]⟩) (.int .i64 3600) (.string nm) (.int .i64 0)
        rw [e9]
        obtain ⟨v0, v1, v2, v3, v4, -⟩ := cells5 (W := W9.drew) g9
        refine bodyPost_ret (v := .tuple #[erV (erOf ⟨off, true, nm⟩ 0), .bool false]) (by simp [results, Tryz.results54, go_sem, v0, v1, v2, v3, v4, erOf, erOff, erSave]) rfl ⟨HR.out false HI.out, ?_⟩
        exact (HB.out.trans (hb9 _ (by omega))).drew
    · have hI : erOk ⟨off, true, nm⟩ = false := by unfold erOk erOff; simp only [if_true]; exact decide_eq_false (by omega)
      have HI := Lib.hid hI
      clear hI
      go_enter Tryz.func54, Tryz.ntmps54
      go_upto_region 4 with fail
      rw [E3.out]
      go_region
      go_wp2
      obtain ⟨W9, e9, hb9, g9⟩ := end_cells5 G1.out (.int .i64 (off - 3600)) (.string ⟨#[]⟩) (.int .i64 3600) (.string nm) (.int .i64 0)
      rw [e9]
      obtain ⟨v0, v1, v2, v3, v4, -⟩ := cells5 (W := W9.drew) g9
      refine bodyPost_ret (v := .tuple #[erV (erOf ⟨off, true, nm⟩ 0), .bool false]) (by simp [results, Tryz.results54, go_sem, v0, v1, v2, v3, v4, erOf, erOff, erSave]) rfl ⟨HR.out false HI.out, ?_⟩
      exact (HB.out.trans (hb9 _ (by omega))).drew
end Go.Proofs.YthggojpdcgcmaaaGreatDoor.BB
namespace Go.Proofs.YthggojpdcgcmaaaGreatDoor.BB
open Go.RowKit Go.Joins
open Classical
set_option linter.unusedVariables false
set_option linter.unusedSimpArgs false

/-- what back.Book answers -/
def BkPost (t : Tab) (nm : ByteArray) (w : World) (e : Ending) (w' : World) : Prop :=
  Below w.heap.size w w' ∧ ((backC t nm ≠ 0 ∧ e = .returned (.tuple #[bkNone, .int .i64 (backC t nm)])) ∨
    (backC t nm = 0 ∧ ∃ Z cz p ce, e = .returned (.tuple #[bkV Z cz, .int .i64 0]) ∧ BkAt w' Z cz p ce nm (ersOf (normT t))))

theorem two_alB {w W : World} {o1 o2 : Obj} (e : (w.alloc o1).alloc o2 = W) : W.heap.size = w.heap.size + 2 ∧ W.heap[w.heap.size]? = some o1 ∧ W.heap[w.heap.size + 1]? = some o2 ∧ Below w.heap.size w W := by
  subst e
  refine ⟨by simp, ?_, ?_, ((Below.refl _ _).alloc (Nat.le_refl _) _).alloc (by simp) _⟩
  · rw [Below.heap_alloc _ _ _ (by simp)]; exact heap_alloc_new w o1
  · have := heap_alloc_new (w.alloc o1) o2
    simpa using this

/-- the memory of a call under way: the table's box, and the result's -/
structure BkM (w W : World) (p1 : Option Addr) (c1 : Nat) (p2 : Option Addr) (c2 : Nat) (t : Tab) : Prop where
  px : W.heap[w.heap.size]? = some (.cells #[.slice p1 t.types.length c1, .int .i64 t.first, .slice p2 t.chs.length c2] 52 (0, 0))
  r : W.heap[w.heap.size + 1]? = some (.cells #[.slice none 0 0, .slice none 0 0, .slice none 0 0] 26 (0, 0))
  tb : TabAt W (.agg #[.slice p1 t.types.length c1, .int .i64 t.first, .slice p2 t.chs.length c2]) t
  b : Below w.heap.size w W
theorem BkM.lt {w W : World} {p1 p2 : Option Addr} {c1 c2 : Nat} {t : Tab} (h : BkM w W p1 c1 p2 c2 t) : w.heap.size + 1 < W.heap.size := (Array.getElem?_eq_some_iff.mp h.r).1
theorem BkM.go {w W W' : World} {p1 p2 : Option Addr} {c1 c2 : Nat} {t : Tab} (h : BkM w W p1 c1 p2 c2 t) (hb : Below W.heap.size W W') : BkM w W' p1 c1 p2 c2 t :=
  ⟨(hb.block _ (Nat.lt_of_succ_lt h.lt)).trans h.px, (hb.block _ h.lt).trans h.r, h.tb.below hb, h.b.trans (hb.mono h.b.size)⟩
theorem BkM.cells {w W : World} {p1 p2 : Option Addr} {c1 c2 : Nat} {t : Tab} (h : BkM w W p1 c1 p2 c2 t) :
    W.cell? ⟨w.heap.size, 0, none⟩ = some (.slice p1 t.types.length c1) ∧ W.cell? ⟨w.heap.size, 1, none⟩ = some (.int .i64 t.first) ∧ W.cell? ⟨w.heap.size, 2, none⟩ = some (.slice p2 t.chs.length c2) ∧ W.frozen? ⟨w.heap.size, 0, none⟩ = false ∧ W.frozen? ⟨w.heap.size, 1, none⟩ = false ∧ W.frozen? ⟨w.heap.size, 2, none⟩ = false ∧ w.heap.size < W.heap.size :=
  ⟨(cell_of_row W _ 0 _ _ _ h.px).trans rfl, (cell_of_row W _ 1 _ _ _ h.px).trans rfl, (cell_of_row W _ 2 _ _ _ h.px).trans rfl, by simp [World.frozen?, h.px], by simp [World.frozen?, h.px], by simp [World.frozen?, h.px], Nat.lt_of_succ_lt h.lt⟩
theorem BkM.zero {w W : World} {p1 p2 : Option Addr} {c1 c2 : Nat} {t : Tab} (h : BkM w W p1 c1 p2 c2 t) :
    W.cell? ⟨w.heap.size + 1, 0, none⟩ = some (.slice none 0 0) ∧ W.cell? ⟨w.heap.size + 1, 1, none⟩ = some (.slice none 0 0) ∧ W.cell? ⟨w.heap.size + 1, 2, none⟩ = some (.slice none 0 0) ∧ W.frozen? ⟨w.heap.size + 1, 0, none⟩ = false ∧ W.frozen? ⟨w.heap.size + 1, 1, none⟩ = false ∧ W.frozen? ⟨w.heap.size + 1, 2, none⟩ = false :=
  ⟨(cell_of_row W _ 0 _ _ _ h.r).trans rfl, (cell_of_row W _ 1 _ _ _ h.r).trans rfl, (cell_of_row W _ 2 _ _ _ h.r).trans rfl, by simp [World.frozen?, h.r], by simp [World.frozen?, h.r], by simp [World.frozen?, h.r]⟩
theorem end_cells3 {W : World} {g : Nat} {a b c : Value} {T : TypeId} (h : W.heap[g]? = some (.cells #[a, b, c] T (0, 0))) (x y z : Value) :
    ∃ W', ((W.setCell ⟨g, 0, none⟩ x).setCell ⟨g, 1, none⟩ y).setCell ⟨g, 2, none⟩ z = W' ∧ (∀ B, B ≤ g → Below B W W') ∧ W'.heap[g]? = some (.cells #[x, y, z] T (0, 0)) ∧ ∀ b, b ≠ g → W'.heap[b]? = W.heap[b]? := by
  refine ⟨_, rfl, fun B hB => (((Below.refl _ _).setCell (by exact hB) _).setCell (by exact hB) _).setCell (by exact hB) _, ?_, fun b hb => (Below.heap_setCell _ _ _ _ hb).trans ((Below.heap_setCell _ _ _ _ hb).trans (Below.heap_setCell _ _ _ _ hb))⟩
  rw [heap_setCB (i := 2) (heap_setCB (i := 1) (heap_setCB (i := 0) h x) y) z]
  rfl
theorem BkM.out {w W : World} {p1 p2 : Option Addr} {c1 c2 : Nat} {t : Tab} (h : BkM w W p1 c1 p2 c2 t) (x y z : Value) :
    ∃ W', ((W.setCell ⟨w.heap.size + 1, 0, none⟩ x).setCell ⟨w.heap.size + 1, 1, none⟩ y).setCell ⟨w.heap.size + 1, 2, none⟩ z = W' ∧ Below w.heap.size w W' ∧
      W'.cell? ⟨w.heap.size + 1, 0, none⟩ = some x ∧ W'.cell? ⟨w.heap.size + 1, 1, none⟩ = some y ∧ W'.cell? ⟨w.heap.size + 1, 2, none⟩ = some z ∧ ∀ b, b ≠ w.heap.size + 1 → W'.heap[b]? = W.heap[b]? := by
  obtain ⟨W', e, hb, hr, ho⟩ := end_cells3 h.r x y z
  exact ⟨W', e, h.b.trans (hb _ (by omega)), (cell_of_row W' _ 0 _ _ _ hr).trans rfl, (cell_of_row W' _ 1 _ _ _ hr).trans rfl, (cell_of_row W' _ 2 _ _ _ hr).trans rfl, ho⟩
end Go.Proofs.YthggojpdcgcmaaaGreatDoor.BB
namespace Go.Proofs.YthggojpdcgcmaaaGreatDoor
open Go.RowKit Go.Joins Go.Maps
open Classical
set_option linter.unusedVariables false
set_option linter.unusedSimpArgs false

def toEr (x : BB.Er) : Er := ⟨x.off, x.rul, x.save, x.fmt, x.til⟩
def bErs (N : Tab) : List Er := (List.range (N.chs.length + 1)).map fun i => toEr (BB.erAt N i)
theorem bErs_len (N : Tab) : (bErs N).length = N.chs.length + 1 := by simp [bErs]
theorem bErs_at (N : Tab) (k : Nat) (h : k < N.chs.length + 1) : eraAt (bErs N) k = toEr (BB.erAt N k) := by
  unfold eraAt bErs
  rw [List.getElem?_map, List.getElem?_range h]
  rfl
theorem segT_mem {N : Tab} (ok : OkTab N) (i : Nat) (hi : i ≤ N.chs.length) : BB.segT N i ∈ N.types := by
  have h : 0 ≤ BB.segK N i ∧ BB.segK N i < N.types.length := by
    unfold BB.segK
    split
    · exact ok.first
    · have h : i - 1 < N.chs.length := by omega
      have := ok.ch N.chs[i - 1] (List.getElem_mem h)
      unfold kAt
      rw [List.getElem?_eq_getElem h]
      exact ⟨this.2.2.1, this.2.2.2⟩
  unfold BB.segT tyD
  have h2 : (BB.segK N i).toNat < N.types.length := by omega
  rw [List.getElem?_eq_getElem h2]
  exact List.getElem_mem h2
theorem er_off (x : Ty) (u : Int) : (toEr (BB.erOf x u)).off + (toEr (BB.erOf x u)).sv = x.off := by
  show BB.erOff x + BB.erSave x = x.off
  unfold BB.erOff BB.erSave
  split <;> omega
theorem er_sv (x : Ty) (u : Int) : decide (0 < (toEr (BB.erOf x u)).sv) = x.save := by
  show decide (0 < BB.erSave x) = x.save
  unfold BB.erSave
  cases x.save <;> decide
theorem er_svb (x : Ty) (u : Int) : 0 ≤ (toEr (BB.erOf x u)).sv ∧ (toEr (BB.erOf x u)).sv ≤ 10800 := by
  show 0 ≤ BB.erSave x ∧ BB.erSave x ≤ 10800
  unfold BB.erSave
  split <;> omega
theorem er_abE {x : Ty} (h : abbrB x.name = true) (u : Int) : abbrF (toEr (BB.erOf x u)).fm.data.toList (toEr (BB.erOf x u)).sv dashB.data.toList = (x.name.data.toList, 0) :=
  abbrF_self (f := x.name.data.toList) (by rw [show txt x.name.data.toList = x.name from by unfold txt; simp]; exact h) (er_svb x u).1 (er_svb x u).2
/-- a table that may be, as back.Book takes it -/
structure Bkd (N : Tab) (nm : ByteArray) : Prop where
  ok : OkTab N
  norm : normT N = N
  name : nameB nm = true
  len : N.chs.length < 700
  st : ∀ c ∈ N.chs, stampE c.t = 0
  er : ∀ i, i ≤ N.chs.length → BB.erOk (BB.segT N i) = true
theorem bkd_of {t : Tab} {nm : ByteArray} (h : BB.backC t nm = 0) : Bkd (normT t) nm ∧ chk t = 0 := by
  unfold BB.backC at h
  split at h
  · exact absurd h (by assumption)
  rename_i h1
  split at h
  · cases h
  rename_i h2
  split at h
  · cases h
  rename_i h3
  split at h
  · cases h
  rename_i h4
  split at h
  · cases h
  rename_i h5
  have hc : chk t = 0 := Classical.not_not.1 h1
  refine ⟨⟨norm_ok t (chk_ok t hc), normT_norm t, by simpa using h2, by omega, fun c hc => ?_, fun i hi => ?_⟩, hc⟩
  · have h6 : BB.okSB c.t = true := by
      cases e : BB.okSB c.t with
      | true => rfl
      | false => exact absurd ⟨c, hc, e⟩ h4
    unfold BB.okSB at h6
    unfold stampE
    rw [if_pos (of_decide_eq_true h6)]
  · cases e : BB.erOk (BB.segT (normT t) i) with
    | true => rfl
    | false => exact absurd ⟨i, hi, e⟩ h5
theorem er_ruE (x : Ty) (u : Int) : (toEr (BB.erOf x u)).ru.data.toList = [] := rfl
theorem er_ruA (N : Tab) (i : Nat) : (toEr (BB.erAt N i)).ru.data.toList = [] := rfl
section
variable {N : Tab} {nm : ByteArray}
theorem bErs_ok (h : Bkd N nm) (k : Nat) (hk : k < N.chs.length + 1) : EraOk [] (eraAt (bErs N) k) := by
  rw [bErs_at N k hk]
  have hm := segT_mem h.ok k (by omega)
  have hn := (h.ok.type _ hm).2.2
  have ho := h.er k (by omega)
  unfold BB.erOk at ho
  have ho := of_decide_eq_true ho
  refine ⟨ho.1, ho.2, (er_svb _ _).1, (er_svb _ _).2, fun g => absurd rfl g, fun g => absurd rfl g, ?_⟩
  unfold abbrsChk
  rw [if_pos (er_ruA N k)]
  unfold abE
  exact congrArg Prod.snd (er_abE hn (BB.segU N k))
theorem bErs_un (h : Bkd N nm) (k : Nat) (hk : k < N.chs.length) : (eraAt (bErs N) k).un = tAt N.chs k := by
  rw [bErs_at N k (by omega)]
  show BB.segU N k = _
  unfold BB.segU
  rw [if_pos hk]
theorem tAt_memB (m : List Ch) (k : Nat) (hk : k < m.length) : ∃ c ∈ m, tAt m k = c.t := by
  refine ⟨m[k], List.getElem_mem hk, ?_⟩
  unfold tAt
  rw [List.getElem?_eq_getElem hk]
  rfl
theorem bErs_chk (h : Bkd N nm) (k : Nat) (hk : k < (bErs N).length) : eraChk [] (bErs N) k = 0 := by
  rw [bErs_len] at hk
  have e := bErs_ok h k hk
  have hl := bErs_len N
  unfold eraChk
  dsimp only
  rw [if_neg (by have := e.o1; have := e.o2; have := e.s1; have := e.s2; omega), if_neg (fun g => g.1 (e.sr g.2)), if_neg (fun g => g.1 (by rw [bErs_at N k hk]; rfl)), if_neg (fun g => g e.ab)]
  by_cases hkl : k + 1 = (bErs N).length
  · rw [if_pos hkl, if_neg]
    intro g
    refine g ?_
    rw [bErs_at N k hk]
    show BB.segU N k = 0
    unfold BB.segU
    rw [if_neg (by omega)]
  · rw [if_neg hkl]
    have hk2 : k < N.chs.length := by omega
    obtain ⟨c, hc, ec⟩ := tAt_memB N.chs k hk2
    have hs := h.st c hc
    have hb := stampE_bd hs
    rw [← ec] at hs hb
    rw [bErs_un h k hk2, if_neg (by omega), if_neg (fun g => g hs), if_neg]
    rintro ⟨g1, g2⟩
    rw [bErs_un h (k - 1) (by omega)] at g2
    have := List.pairwise_iff_getElem.1 h.ok.rise (k - 1) k (by omega) hk2 (by omega)
    unfold tAt at g2
    rw [List.getElem?_eq_getElem hk2, List.getElem?_eq_getElem (show k - 1 < N.chs.length by omega)] at g2
    simp only [Option.map_some, Option.getD_some] at g2
    omega
theorem bBk_chk (h : Bkd N nm) (ev : Value) : bkChk (oneB [] nm ev (bErs N)) = 0 :=
  oneB_chk (by decide) (fun r hr => by cases hr) h.name (fun e => by have := bErs_len N; rw [e] at this; cases this) (by rw [bErs_len]; have := h.len; omega) (bErs_chk h)
theorem bErs_which (h : Bkd N nm) (y : Int) : whichF (bErs N) y = cntOf N.chs y := by
  unfold whichF cntOf
  rw [bErs_len, Nat.add_sub_cancel]
  unfold cntF
  refine List.countP_congr fun i hi => ?_
  simp only [bErs_un h i (List.mem_range.1 hi)]
theorem bErs_says (h : Bkd N nm) (y : Int) : stF [] (bErs N) y = tyOf N y := by
  have hw := bErs_which h y
  have hle := cntOf_le N.chs y
  unfold stF tdA
  rw [hw, bErs_at N _ (by omega)]
  have hm := segT_mem h.ok (cntOf N.chs y) hle
  have hn := (h.ok.type _ hm).2.2
  have e1 : tyOf N y = BB.segT N (cntOf N.chs y) := rfl
  rw [e1]
  generalize hx : BB.segT N (cntOf N.chs y) = x at *
  have e2 : BB.erAt N (cntOf N.chs y) = BB.erOf x (BB.segU N (cntOf N.chs y)) := by unfold BB.erAt; rw [hx]
  rw [e2]
  generalize BB.segU N (cntOf N.chs y) = u
  have e3 : tdR [] (toEr (BB.erOf x u)) = ⟨toEr (BB.erOf x u), [], dashB⟩ := by unfold tdR; rw [if_pos (er_ruE x u)]
  rw [e3]
  have e4 : svT ⟨toEr (BB.erOf x u), [], dashB⟩ y = ((toEr (BB.erOf x u)).sv, dashB) := rfl
  unfold tdTy nmT
  rw [e4]
  dsimp only
  rw [er_off, er_sv, er_abE hn]
  cases x
  simp only [Ty.mk.injEq, true_and]
  unfold txt
  simp
theorem bErs_tds (h : Bkd N nm) : TdsOk [] (bErs N) := by
  have ho := bk_eras (bBk_chk h undef) (z := ⟨nm, undef, bErs N⟩) (List.mem_singleton.2 rfl)
  refine tdsOk_of ho ?_
  rw [firstE_zero]
  intro x hx
  obtain ⟨i, hi, rfl⟩ := List.mem_map.1 hx
  unfold tdE
  rw [if_pos (er_ruA N i)]
theorem norm_made (h : Bkd N nm) {fr te : Int} (hc : ∀ c ∈ N.chs, fr < c.t ∧ c.t < te) : normR (stF [] (bErs N) fr) (candsF [] (bErs N) fr te) = N := by
  have hd := bErs_tds h
  have hv : ∀ y, valL (resH N) (resL N) y = tyOf N y := fun y => (tyOf_valV N h.ok y).symm
  have hr : RiseL (resL N) := by
    unfold resL RiseL
    exact List.pairwise_map.2 h.ok.rise
  have h0 : stF [] (bErs N) fr = resH N := by
    rw [bErs_says h, ← hv]
    rcases valL_mem (resL N) fr (resH N) with e | ⟨c, hm, g, -⟩
    · exact e
    · obtain ⟨d, hd, rfl⟩ := List.mem_map.1 hm
      have := (hc d hd).1
      simp only at g
      omega
  have e1 : squ (stF [] (bErs N) fr) (candsF [] (bErs N) fr te) = squ (resH N) (resL N) := by
    refine rise_ext (chg_rise hd fr te) (squ_rise hr _) fun c => ?_
    rw [chg_mem hd fr te c, squ_mem hr c, hv, hv, bErs_says h, bErs_says h]
    constructor
    · rintro ⟨-, -, a, b⟩; exact ⟨a, b⟩
    · rintro ⟨a, b⟩
      have hin : ∃ d ∈ resL N, d.1 = c.1 := Classical.byContradiction fun g => a (by
        rw [← hv, ← hv]
        exact valL_none (fun d hd e => g ⟨d, hd, e⟩) _)
      obtain ⟨d, hd, e⟩ := hin
      obtain ⟨q, hq, rfl⟩ := List.mem_map.1 hd
      have := hc q hq
      simp only at e
      rw [e] at this
      exact ⟨this.1, this.2, a, b⟩
  rw [← normR_squ, e1, h0, normR_squ]
  exact h.norm
/-- its table is made again -/
theorem back_made (h : Bkd N nm) (ev : Value) {fr te : Int} (hc : ∀ c ∈ N.chs, fr < c.t ∧ c.t < te) (h1 : stampE fr = 0) (h2 : stampE te = 0) (h3 : fr < te) : mkT (oneB [] nm ev (bErs N)) nm fr te = (0, N) := by
  rw [mkT_of (oneB_rsv (bBk_chk h ev))]
  show mkE [] (bErs N) fr te = _
  unfold mkE
  have e := norm_made h hc
  have hd := (bErs_tds h)
  have he : firstE (tdE []) (bErs N) = 0 := by
    rw [firstE_zero]
    intro x hx
    obtain ⟨i, hi, rfl⟩ := List.mem_map.1 hx
    unfold tdE
    rw [if_pos (er_ruA N i)]
  rw [if_neg (fun g => g h1), if_neg (fun g => g h2), if_neg (by omega), if_neg (fun g => g he), e]
  rw [if_neg (by have := h.ok.many; have := h.ok.chs; omega)]
theorem back_state (h : Bkd N nm) (ev : Value) {y : Int} (h1 : stampE y = 0) : stR (oneB [] nm ev (bErs N)) nm y = (0, tyOf N y) := by
  unfold stR
  rw [oneB_rsv (bBk_chk h ev)]
  dsimp only
  rw [if_neg (fun g => g h1)]
  have he : tdE (oneB [] nm ev (bErs N)).rules (eraAt (bErs N) (whichF (bErs N) y)) = 0 := by
    have hw := bErs_which h y
    have := cntOf_le N.chs y
    rw [bErs_at N _ (by omega)]
    unfold tdE
    rw [if_pos (er_ruA N _)]
  rw [if_neg (fun g => g he)]
  have := bErs_says h y
  unfold stF tdA at this
  exact congrArg (Prod.mk (0 : Int)) this
end
end Go.Proofs.YthggojpdcgcmaaaGreatDoor
