/- Part of the proof. -/
import Derived.Test.YtomahddiclkepaaGreatDoorQw00
import Derived.Test.YtomahddiclkepaaGreatDoorQw24
import Derived.Test.YtomahddiclkepaaGreatDoorQw03
import Derived.SizedLaws
import Derived.Test.YtomahddiclkepaaGreatDoorQw08
import Derived.Deep.DeepCutAuto
import Derived.Deep.CutRange
import Derived.Deep.CutBlock
set_option maxHeartbeats 20000000
set_option maxRecDepth 1000000
set_option linter.unusedVariables false
set_option linter.unusedSimpArgs false
namespace Go.Proofs.YtomahddiclkepaaGreatDoor
open Go.ChangeShapes Go.WideShapes Go.Deep Go.RowKit Go.Joins
theorem reach_valB : reachBytes = 140737488351232 := by decide
theorem spot_noneB {w : World} {a : Addr} {v : Value} (h : w.cell? a = some v) : a = ⟨a.block, a.off, none⟩ := by
 obtain ⟨b, o, s⟩ := a
 cases s with
 | none => rfl
 | some k =>
  simp only [World.cell?] at h
  split at h
  ·simp at h
  ·cases h
theorem add_plainB (b o i : Nat) : (⟨b, o, none⟩ : Addr).add i = ⟨b, o + i, none⟩ := by
 unfold Addr.add
 split
 ·rename_i h; subst h; rfl
 ·rfl
theorem list_ofB {α : Type} [Inhabited α] (n : Nat) (Q : Nat -> α -> Prop) (h : ∀ i, i < n -> ∃ x, Q i x) : ∃ l : List α, l.length = n /\ ∀ i (hi : i < l.length), Q i l[i] := by
 classical
 refine ⟨(List.range n).map fun i => if hi : i < n then Classical.choose (h i hi) else default, by simp, fun i hi => ?_⟩
 have hi' : i < n := by simpa using hi
 simp only [List.getElem_map, List.getElem_range, hi', dite_true]
 exact Classical.choose_spec (h i hi')
instance : Inhabited Ru := ⟨⟨⟨#[]⟩, 0, 0, 0, 0, 0, 0, 0, 0, 0, ⟨#[]⟩⟩⟩
instance : Inhabited Er := ⟨⟨0, ⟨#[]⟩, 0, ⟨#[]⟩, 0⟩⟩
instance : Inhabited Zo := ⟨⟨⟨#[]⟩, .slice none 0 0, []⟩⟩
instance : Inhabited Lk := ⟨⟨⟨#[]⟩, ⟨#[]⟩⟩⟩
section
variable {H : Type} {enc : TypeId × Value -> H} {w : World} {base : Nat} {spare : Nat -> Bool} {held : Bool}
def Szd (t : TypeId) (d : DataW H) : Prop := ∀ n ∈ d.weights Tryz.prog t, n <= reachBytes
theorem sz_agg {t : TypeId} {fs : Array Field} (ht : Tryz.prog.underlying t = some (.struct fs)) {parts : List (DataW H)} (h : Szd t (.agg parts)) {j : Nat} {f : Field} {d : DataW H} (hf : fs[j]? = some f) (hd : parts[j]? = some d) : Szd f.type d := fun n hn =>
 h n (by
  simp only [DataW.weights, ht]
  refine DataW.weights_mem_each (j := j) ?_ hd n hn
  rw [List.getElem?_map, Array.getElem?_toList, hf]
  rfl)
theorem wa_mem {e : TypeId} : ∀ {es : List (DataW H)} {d : DataW H}, d ∈ es -> ∀ n ∈ d.weights Tryz.prog e, n ∈ DataW.weightsAll Tryz.prog e es
 | x :: r, d, hd, n, hn => by
  simp only [DataW.weightsAll, List.mem_append]
  rcases List.mem_cons.1 hd with rfl | hd
  ·exact .inl hn
  ·exact .inr (wa_mem hd n hn)
theorem sz_slice {t e : TypeId} (ht : Tryz.prog.underlying t = some (.slice e)) {es sp : List (DataW H)} (h : Szd t (.slice es sp)) : (es.length + sp.length) * Tryz.prog.bytesOf e <= reachBytes /\ ∀ d ∈ es, Szd e d := by
 unfold Szd at h
 simp only [DataW.weights, ht] at h
 exact ⟨h _ (List.mem_cons_self ..), fun d hd n hn => h n (List.mem_cons_of_mem _ (List.mem_append_left _ (wa_mem hd n hn)))⟩
theorem sz_str {t : TypeId} {b : ByteArray} (h : Szd t (.lit (.string b.data.toList) : DataW H)) : b.size <= 140737488351232 := by
 have := h b.data.toList.length (by simp [DataW.weights])
 rw [reach_valB] at this
 rw [Lib.size_eq]
 exact this
theorem open_rows {α : Type} [Inhabited α] (cells : α -> List Value) (k : Nat) (Q : α -> Prop) {t e : TypeId} (ht : Tryz.prog.underlying t = some (.slice e)) (hk : Tryz.prog.cellsOf e = k) (hb : 1 <= Tryz.prog.bytesOf e) (hk0 : 0 < k)
 (el : ∀ fuel l x, l.length = k -> DataW.trod enc Tryz.prog w base spare held fuel e l = some x -> Szd e x.1 -> ∃ a, l = cells a /\ Q a)
 {fuel : Nat} {v : Value} {x : DataW H × List MemPlace} (h : DataW.trod enc Tryz.prog w base spare held fuel t [v] = some x) (hs : Szd t x.1) : ∃ l, RowsAt cells k w.heap.size w v l /\ ∀ a ∈ l, Q a := by
 rcases open_slice ht h with ⟨hcs, _⟩ | ⟨a, len, cap, m, n, D, Pl, hcs, hba, hl, hm, hmm, hx, hi⟩
 ·obtain rfl : v = .slice none 0 0 := by simpa using hcs
  exact ⟨[], ⟨none, 0, rfl, ⟨by simp, by simp⟩, fun h => absurd rfl h⟩, fun a h => absurd h (List.not_mem_nil)⟩
 ·obtain rfl : v = .slice (some a) len cap := by simpa using hcs
  rw [hx] at hs
  obtain ⟨hw, hsd⟩ := sz_slice ht hs
  have hlen : len <= 140737488351232 := by
   rw [reach_valB] at hw
   simp only [List.length_map, List.length_range] at hw
   have : len * 1 <= (len + (m - len)) * Tryz.prog.bytesOf e := Nat.mul_le_mul (by omega) hb
   omega
  have hlm : len <= m := by rw [hmm]; split <;> omega
  have key : ∀ i, i < len -> ∃ y : α, (∀ j u, (cells y)[j]? = some u -> w.cell? (a.add (i * k + j)) = some u) /\ Q y /\ ∃ u, w.cell? (a.add (i * k)) = some u := by
   intro i hil
   obtain ⟨cs', hc, htr⟩ := hi i (by omega)
   rw [hk] at hc
   obtain ⟨_, hcl, hat⟩ := World.cells?_some hc
   obtain ⟨y, rfl, hq⟩ := el n cs' _ hcl htr (hsd _ (List.mem_map.2 ⟨i, List.mem_range.2 hil, rfl⟩))
   have hcell : ∀ j u, (cells y)[j]? = some u -> w.cell? (a.add (i * k + j)) = some u := by
    intro j u hu
    have hj : j < k := by rw [<- hcl]; exact (List.getElem?_eq_some_iff.1 hu).1
    rw [<- Go.Deep.add_add, hat j hj, hu]
   have h0 : (cells y)[0]? = some ((cells y)[0]'(by omega)) := List.getElem?_eq_getElem (by omega)
   exact ⟨y, hcell, hq, _, hcell 0 _ h0⟩
  obtain ⟨l, hl1, hl2⟩ := list_ofB len _ key
  subst hl1
  refine ⟨l, ⟨some a, cap, rfl, ⟨hlen, hl⟩, fun hne => ?_⟩, fun y hy => ?_⟩
  ·have hp : 0 < l.length := List.length_pos_iff.2 hne
   obtain ⟨_, _, u, d0⟩ := hl2 0 hp
   rw [Nat.zero_mul] at d0
   have hsp : a = ⟨a.block, a.off, none⟩ := spot_noneB (w := w) (v := u) d0
   refine ⟨a.block, a.off, congrArg some hsp, ?_, fun i hi j u hu => ?_⟩
   ·rw [hsp, add_plainB] at d0
    exact World.block_lt_of_cell? w ⟨a.block, _, none⟩ d0
   ·have := (hl2 i hi).1 j u hu
    rw [hsp, add_plainB] at this
    rw [Nat.add_assoc]
    exact this
  ·obtain ⟨i, hi, rfl⟩ := List.mem_iff_getElem.1 hy
   exact (hl2 i hi).2.1
theorem trod_iB {fuel : Nat} {v : Value} {x : DataW H × List MemPlace} (h : DataW.trod enc Tryz.prog w base spare held fuel 3 [v] = some x) : ∃ n, v = .int .i64 n /\ -9223372036854775808 <= n /\ n <= 9223372036854775807 := by
 obtain ⟨b, e, _, hw⟩ := DataW.trod_int Tryz.underlying3 h
 simp only [List.cons.injEq, and_true] at e
 simp only [Lit.wf, Bool.and_eq_true, decide_eq_true_eq] at hw
 exact ⟨b, e, hw⟩
theorem trod_sB {fuel : Nat} {v : Value} {x : DataW H × List MemPlace} (h : DataW.trod enc Tryz.prog w base spare held fuel 9 [v] = some x) (hs : Szd 9 x.1) : ∃ s, v = .string s /\ s.size <= 140737488351232 := by
 obtain ⟨b, e, ex, _⟩ := DataW.trod_string Tryz.underlying9 h
 simp only [List.cons.injEq, and_true] at e
 rw [ex] at hs
 exact ⟨b, e, sz_str hs⟩
theorem list5 {α : Type} (l : List α) (h : l.length = 5) : ∃ a b c d e, l = [a, b, c, d, e] := by
 match l, h with
 | [a, b, c, d, e], _ => exact ⟨a, b, c, d, e, rfl⟩
theorem list2 {α : Type} (l : List α) (h : l.length = 2) : ∃ a b, l = [a, b] := by
 match l, h with
 | [a, b], _ => exact ⟨a, b, rfl⟩
theorem Ru_trodB {fuel : Nat} {l : List Value} {x : DataW H × List MemPlace} (hl : l.length = 11) (h : DataW.trod enc Tryz.prog w base spare held fuel 87 l = some x) (hs : Szd 87 x.1) :
 ∃ q : Ru, l = (ruCells q).toList /\ SzR q := by
 obtain ⟨q, rfl, -, -⟩ := Ru_trod hl h
 refine ⟨q, rfl, ?_⟩
 obtain ⟨xs, n, _, hx, _, hl, hf⟩ := DataW.trod_struct Tryz.underlying87 h
 have hl9 : xs.length = 9 := hl
 have h0 := hf 0 _ rfl
 have h8 := hf 8 _ rfl
 rw [List.getElem?_eq_getElem (by omega)] at h0 h8
 rw [hx] at hs
 have s0 := sz_agg Tryz.underlying87 hs (j := 0) rfl (d := xs[0].1) (by rw [List.getElem?_map, List.getElem?_eq_getElem (by omega)]; rfl)
 have s8 := sz_agg Tryz.underlying87 hs (j := 8) rfl (d := xs[8].1) (by rw [List.getElem?_map, List.getElem?_eq_getElem (by omega)]; rfl)
 obtain ⟨nm, e0, z0⟩ := trod_sB (v := .string q.nm) h0 s0
 obtain ⟨lt, e8, z8⟩ := trod_sB (v := .string q.lt) h8 s8
 injection e0 with e0
 injection e8 with e8
 subst e0 e8
 exact ⟨z0, z8⟩
theorem Er_trodB {fuel : Nat} {l : List Value} {x : DataW H × List MemPlace} (hl : l.length = 5) (h : DataW.trod enc Tryz.prog w base spare held fuel 43 l = some x) (hs : Szd 43 x.1) :
 ∃ q : Er, l = (erCells q).toList /\ SzE q := by
 obtain ⟨c0, c1, c2, c3, c4, rfl⟩ := list5 l hl
 obtain ⟨xs, n, _, hx, _, hl, hf⟩ := DataW.trod_struct Tryz.underlying43 h
 have hl5 : xs.length = 5 := hl
 have h0 := hf 0 _ rfl
 have h1 := hf 1 _ rfl
 have h2 := hf 2 _ rfl
 have h3 := hf 3 _ rfl
 have h4 := hf 4 _ rfl
 rw [List.getElem?_eq_getElem (by omega)] at h0 h1 h2 h3 h4
 rw [hx] at hs
 have s1 := sz_agg Tryz.underlying43 hs (j := 1) rfl (d := xs[1].1) (by rw [List.getElem?_map, List.getElem?_eq_getElem (by omega)]; rfl)
 have s3 := sz_agg Tryz.underlying43 hs (j := 3) rfl (d := xs[3].1) (by rw [List.getElem?_map, List.getElem?_eq_getElem (by omega)]; rfl)
 obtain ⟨off, rfl, o1, o2⟩ := trod_iB (v := c0) h0
 obtain ⟨ru, rfl, z1⟩ := trod_sB (v := c1) h1 s1
 obtain ⟨sv, rfl, v1, v2⟩ := trod_iB (v := c2) h2
 obtain ⟨fm, rfl, z3⟩ := trod_sB (v := c3) h3 s3
 obtain ⟨un, rfl, u1, u2⟩ := trod_iB (v := c4) h4
 exact ⟨⟨off, ru, sv, fm, un⟩, rfl, z1, z3, o1, o2, v1, v2, u1, u2⟩
theorem cellsEr : Tryz.prog.cellsOf 43 = 5 := by kernel_rfl
theorem cellsZo : Tryz.prog.cellsOf 46 = 2 := by kernel_rfl
theorem cellsLk : Tryz.prog.cellsOf 91 = 2 := by kernel_rfl
theorem cellsBk : Tryz.prog.cellsOf 26 = 3 := by kernel_rfl
def ZoOk (w : World) (z : Zo) : Prop := RowsAt (fun x : Er => (erCells x).toList) 5 w.heap.size w z.ev z.eras /\ z.nm.size <= 140737488351232 /\ ∀ x ∈ z.eras, SzE x
theorem Zo_trodB {fuel : Nat} {l : List Value} {x : DataW H × List MemPlace} (hl : l.length = 2) (h : DataW.trod enc Tryz.prog w base spare held fuel 46 l = some x) (hs : Szd 46 x.1) :
 ∃ q : Zo, l = zoCells q /\ ZoOk w q := by
 obtain ⟨c0, c1, rfl⟩ := list2 l hl
 obtain ⟨xs, n, _, hx, _, hl, hf⟩ := DataW.trod_struct Tryz.underlying46 h
 have hl2 : xs.length = 2 := hl
 have h0 := hf 0 _ rfl
 have h1 := hf 1 _ rfl
 rw [List.getElem?_eq_getElem (by omega)] at h0 h1
 rw [hx] at hs
 have s0 := sz_agg Tryz.underlying46 hs (j := 0) rfl (d := xs[0].1) (by rw [List.getElem?_map, List.getElem?_eq_getElem (by omega)]; rfl)
 have s1 := sz_agg Tryz.underlying46 hs (j := 1) rfl (d := xs[1].1) (by rw [List.getElem?_map, List.getElem?_eq_getElem (by omega)]; rfl)
 obtain ⟨nm, rfl, z0⟩ := trod_sB (v := c0) h0 s0
 obtain ⟨er, hr, hq⟩ := open_rows (fun x : Er => (erCells x).toList) 5 SzE (t := 44) (e := 43) (by kernel_rfl) cellsEr (of_decide_eq_true (by kernel_rfl)) (by decide) (fun fuel l x hl h hs => Er_trodB hl h hs) (v := c1) h1 s1
 exact ⟨⟨nm, c1, er⟩, rfl, hr, z0, hq⟩
theorem Lk_trodB {fuel : Nat} {l : List Value} {x : DataW H × List MemPlace} (hl : l.length = 2) (h : DataW.trod enc Tryz.prog w base spare held fuel 91 l = some x) (hs : Szd 91 x.1) :
 ∃ q : Lk, l = lkCells q /\ (q.nm.size <= 140737488351232 /\ q.tg.size <= 140737488351232) := by
 obtain ⟨c0, c1, rfl⟩ := list2 l hl
 obtain ⟨xs, n, _, hx, _, hl, hf⟩ := DataW.trod_struct Tryz.underlying91 h
 have hl2 : xs.length = 2 := hl
 have h0 := hf 0 _ rfl
 have h1 := hf 1 _ rfl
 rw [List.getElem?_eq_getElem (by omega)] at h0 h1
 rw [hx] at hs
 have s0 := sz_agg Tryz.underlying91 hs (j := 0) rfl (d := xs[0].1) (by rw [List.getElem?_map, List.getElem?_eq_getElem (by omega)]; rfl)
 have s1 := sz_agg Tryz.underlying91 hs (j := 1) rfl (d := xs[1].1) (by rw [List.getElem?_map, List.getElem?_eq_getElem (by omega)]; rfl)
 obtain ⟨nm, rfl, z0⟩ := trod_sB (v := c0) h0 s0
 obtain ⟨tt, rfl, z1⟩ := trod_sB (v := c1) h1 s1
 exact ⟨⟨nm, tt⟩, rfl, z0, z1⟩
theorem Bk_open {r : Reach} {b0 : Nat} {v : Value} {d : DataW H} {p : List MemPlace} (hv : Value.okWide Tryz.prog w r b0 26 v) (h : DataW.Trod enc Tryz.prog w base spare held 26 v d p)
 (hs : Szd 26 d) : ∃ b rv zv lv, v = .agg #[rv, zv, lv] /\ BookAt w.heap.size w rv zv lv b := by
 obtain ⟨c0, c1, c2, y0, y1, y2, m, rfl, rfl, _, g0, g1, g2⟩ := open_agg3 Tryz.underlying26 (by kernel_rfl) cellsBk hv h
 have s0 := sz_agg Tryz.underlying26 hs (j := 0) rfl rfl
 have s1 := sz_agg Tryz.underlying26 hs (j := 1) rfl rfl
 have s2 := sz_agg Tryz.underlying26 hs (j := 2) rfl rfl
 obtain ⟨rs, hr1, hr2⟩ := open_rows (fun r : Ru => (ruCells r).toList) 11 SzR (t := 22) (e := 87) (by kernel_rfl) cellsRu (of_decide_eq_true (by kernel_rfl)) (by decide) (fun fuel l x hl h hs => Ru_trodB hl h hs) (v := c0) g0 s0
 obtain ⟨zs, hz1, hz2⟩ := open_rows zoCells 2 (ZoOk w) (t := 23) (e := 46) (by kernel_rfl) cellsZo (of_decide_eq_true (by kernel_rfl)) (by decide) (fun fuel l x hl h hs => Zo_trodB hl h hs) (v := c1) g1 s1
 obtain ⟨ls, hl1, hl2⟩ := open_rows lkCells 2 (fun q : Lk => q.nm.size <= 140737488351232 /\ q.tg.size <= 140737488351232) (t := 24) (e := 91) (by kernel_rfl) cellsLk (of_decide_eq_true (by kernel_rfl)) (by decide) (fun fuel l x hl h hs => Lk_trodB hl h hs) (v := c2) g2 s2
 exact ⟨⟨rs, zs, ls⟩, c0, c1, c2, rfl, hr1, hz1, fun z hz => (hz2 z hz).1, hl1, hr2, fun z hz => (hz2 z hz).2, hl2⟩
theorem szd_at {ts : List TypeId} {ds : List (DataW H)} (h : (DataW.weightsEach Tryz.prog ts ds).all (· <= reachBytes) = true) {j : Nat} {t : TypeId} {d : DataW H} (ht : ts[j]? = some t) (hd : ds[j]? = some d) : Szd t d := fun n hn => by
 have := List.all_eq_true.1 h n (DataW.weights_mem_each ht hd n hn)
 simpa using this
end
end Go.Proofs.YtomahddiclkepaaGreatDoor
namespace Go.Proofs.YtomahddiclkepaaGreatDoor
open Go.RowKit Go.Joins
open Classical
theorem Make_any (rules : List Ru) (nm : ByteArray) (off : Int) (rv : Value) (w : World) (hR : RowsAt (fun r : Ru => (ruCells r).toList) 11 w.heap.size w rv rules) (ho : ∀ r ∈ rules, OkRu r) (hl : rules.length <= 40) (hf1 : -75600 <= off) (hf2 : off <= 75600) :
 Calls Tryz.prog 41 #[rv, .string nm, .int .i64 off] w (MakePost rules nm off w) := by
 obtain ⟨i1, hi1, hz10, hz11, hz12⟩ := info_parts infoNb
 obtain ⟨p, cap, rfl, hlen, hrow⟩ := hR
 have HRow := qH hrow
 have HO := qH ho
 clear hrow ho
 go_enter Tryz.func41, Tryz.ntmps41
 go_wp2_with fail
 go_loopw [8, 9, 10, 23] (fun v8 v9 v10 i wr => ∃ (k : Nat) (Y : Int) (is : Bool) (l : List Nb), k <= rules.length /\ i = .int .i64 k /\ v9 = .int .i64 Y /\ v10 = .bool is /\ 0 <= Y /\ Y <= 201 * k /\ l.length <= 1500 /\ Hid (MkR rules nm k Y is l) /\ Hid (NbAt wr w.heap.size v8 l) /\ Hid (Below w.heap.size w wr)) (fun _ _ _ i _ => rules.length - (intOf i).toNat)
 case atStart => exact ⟨0, 0, false, [], Nat.zero_le _, rfl, rfl, rfl, by omega, by omega, by simp, MkR.zero _ _, ⟨World.ownsRow_nil _ _ _ _, fun x hx => absurd hx (List.not_mem_nil)⟩, qH (Below.refl _ _)⟩
 case round =>
  obtain ⟨k, Y, is, l, hk, rfl, rfl, rfl, hY0, hY1, hll, HM, HN, HB⟩ := hrel
  have hzr := HB.out.size
  by_cases hlt : k < rules.length
  ·obtain ⟨b, o, rfl, hbl, hcs⟩ := HRow.out (List.ne_nil_of_length_pos (by omega))
   have hck := hcs k hlt
   have HOK := qH (HO.out rules[k] (List.getElem_mem hlt))
   have HSK := qH (HM.out.skip hlt)
   have HLA := qH (HM.out.large hlt)
   have HMO := qH (HM.out.more hlt)
   obtain ⟨q, eq⟩ : ∃ q, rules[k] = q := ⟨_, rfl⟩
   rw [eq] at hck HOK HSK HLA HMO
   obtain ⟨B0, eB0⟩ : ∃ B0, w.heap.size = B0 := ⟨_, rfl⟩
   rw [eB0] at hzr HN
   have HB00 := qH eB0
   have up : ∀ j u, w.cell? ⟨b, o + k * 11 + j, none⟩ = some u -> wr.cell? ⟨b, o + k * 11 + j, none⟩ = some u := fun j u h => (HB.out.cell (p := ⟨b, o + k * 11 + j, none⟩) hbl).trans h
   clear eq hcs eB0
   obtain ⟨nm2, yf, yt, mo, dk, dw, dn, tm, ck, sv, lt⟩ := q
   have z0 := up 0 _ (hck 0 _ rfl)
   have z1 := up 1 _ (hck 1 _ rfl)
   have z2 := up 2 _ (hck 2 _ rfl)
   have z3 := up 3 _ (hck 3 _ rfl)
   have z4 := up 4 _ (hck 4 _ rfl)
   have z5 := up 5 _ (hck 5 _ rfl)
   have z6 := up 6 _ (hck 6 _ rfl)
   have z7 := up 7 _ (hck 7 _ rfl)
   have z8 := up 8 _ (hck 8 _ rfl)
   have z9 := up 9 _ (hck 9 _ rfl)
   have z10 := up 10 _ (hck 10 _ rfl)
   clear up hck
   rw [Nat.add_zero] at z0
   simp only at HSK HLA HMO
   obtain ⟨W1, eW1⟩ : ∃ W1, wr.alloc (.cells #[.string nm2, .int .i64 yf, .int .i64 yt, .int .i64 mo, .int .i64 dk, .int .i64 dw, .int .i64 dn, .int .i64 tm, .int .i64 ck, .int .i64 sv, .string lt] 87) = W1 := ⟨_, rfl⟩
   have hbx : RuBx W1 wr.heap.size ⟨nm2, yf, yt, mo, dk, dw, dn, tm, ck, sv, lt⟩ := by rw [<- eW1]; exact heap_alloc_new wr _
   have HN1 : Hid (NbAt W1 B0 u8 l) := by rw [<- eW1]; exact HN.out.alloc _
   have HB1 : Hid (Below w.heap.size w W1) := by rw [<- eW1]; exact HB.out.alloc HB.out.size _
   have hw1 : wr.heap.size < W1.heap.size := hbx.lt
   have HX1 := qH hbx
   have HEW := qH eW1
   obtain ⟨bx, ebx⟩ : ∃ bx, wr.heap.size = bx := ⟨_, rfl⟩
   rw [ebx] at HX1 hw1 hzr
   have HBX := qH ebx
   obtain ⟨x0, x1, x2, x3, x4, x5, x6, x7, x8, x9, x10⟩ := HX1.out.cells
   obtain ⟨f1, f2, t1, t2⟩ := And.intro HOK.out.f1 (And.intro HOK.out.f2 (And.intro HOK.out.t1 HOK.out.t2))
   simp only at x0 x1 x2 x3 x4 x5 x6 x7 x8 x9 x10 f1 f2 t1 t2
   clear ebx eW1 hbx
   by_cases hnm : nm2 = nm
   ·have t0 : (nm2.toList == nm.toList) = true := by rw [hnm]; exact beq_self_eq_true _
    have t0n : (!(nm2.toList == nm.toList)) = false := by rw [t0]; rfl
    by_cases hy : 1500 < Y + (yt - yf + 1)
    ·have HLA2 := qH (HLA.out hnm hy)
     clear HLA HMO HSK hnm
     go_upto_region 6 with fail
     rw [HEW.out, HBX.out]
     go_wp2_with fail
     go_roundw
     case rel => exact ⟨k + 1, Y + (yt - yf + 1), true, l, by omega, by go_num, by go_num, rfl, by omega, by omega, hll, HLA2, by rw [HB00.out]; exact HN1, HB1⟩
     case measure => simp [intOf]; omega
    ·obtain ⟨C, hC⟩ : ∃ C : Nat, (C : Int) = yt - yf + 1 := ⟨(yt - yf + 1).toNat, by omega⟩
     have HMO2 := qH (HMO.out hnm t1 bx C hC)
     have hlen2 : l.length + C <= 1500 := by have := HM.out.len HO.out (by omega); omega
     clear HLA HMO HSK hnm
     go_upto_region 6 with fail
     rw [HEW.out, HBX.out]
     go_wp2_with fail
     go_loopw [8, 13] (fun v8 v13 wx => ∃ j : Nat, j <= C /\ v13 = .int .i64 (yf + j) /\ Hid (NbAt wx B0 v8 (l ++ nomB ⟨nm2, yf, yt, mo, dk, dw, dn, tm, ck, sv, lt⟩ bx j)) /\ Hid (RuBx wx bx ⟨nm2, yf, yt, mo, dk, dw, dn, tm, ck, sv, lt⟩) /\ Hid (Below w.heap.size w wx)) (fun _ v13 _ => (yt + 1 - intOf v13).toNat)
     case atStart => exact ⟨0, Nat.zero_le _, by go_num, by show NbAt _ _ _ _; rw [show nomB _ bx 0 = [] from rfl, List.append_nil]; exact HN1.out, HX1, HB1⟩
     case round =>
      obtain ⟨j, hj, rfl, HNJ, HXJ, HBJ⟩ := hrel
      have hzj := HBJ.out.size
      rw [HB00.out] at hzj
      obtain ⟨L, eL⟩ : ∃ L, l ++ nomB ⟨nm2, yf, yt, mo, dk, dw, dn, tm, ck, sv, lt⟩ bx j = L := ⟨_, rfl⟩
      have hLl : L.length <= 1500 := by rw [<- eL, List.length_append, nomB_len]; omega
      have HSN : Hid (l ++ nomB ⟨nm2, yf, yt, mo, dk, dw, dn, tm, ck, sv, lt⟩ bx (j + 1) = L ++ [(86400 * dayN ⟨nm2, yf, yt, mo, dk, dw, dn, tm, ck, sv, lt⟩ (yf + j) + tm, ⟨nm2, yf, yt, mo, dk, dw, dn, tm, ck, sv, lt⟩, bx)]) := by show _ = _; rw [nomB_snoc, <- List.append_assoc, eL]
      rw [eL] at HNJ
      have EL := qH eL
      clear eL
      have hbj : bx < wr.heap.size := HXJ.out.lt
      have hxs := HXJ.out.cells
      simp only at hxs
      obtain ⟨y0, y1, y2, y3, y4, y5, y6, y7, y8, y9, y10⟩ := hxs
      by_cases hjc : j < C
      ·have hyb : yf + (j : Int) <= yt := by omega
       have hyb2 : yf <= yf + (j : Int) := by omega
       have HOF := qH (Of_ru ⟨nm2, yf, yt, mo, dk, dw, dn, tm, ck, sv, lt⟩ HOK.out (yf + j) hyb2 hyb wr)
       have hbd := dayN_bd HOK.out (y := yf + j) hyb2 hyb
       obtain ⟨N, eN⟩ : ∃ N, dayN ⟨nm2, yf, yt, mo, dk, dw, dn, tm, ck, sv, lt⟩ (yf + j) = N := ⟨_, rfl⟩
       rw [eN] at HOF HSN hbd
       obtain ⟨hN1, hN2⟩ := hbd
       have ha1 := HOK.out.a1
       have ha2 := HOK.out.a2
       simp only at ha1 ha2
       have HY7 := qH y7
       clear eN
       go_wp2_with fail
       refine HOF.out.mono ?_
       rintro e w8 ⟨rfl, hb8⟩
       have HB8 := qH hb8
       have hz8 := hb8.size
       have y7 := (hb8.cell (p := ⟨bx, 7, none⟩) hbj).trans HY7.out
       have HN8 := qH (HNJ.out.below hb8)
       have HX8 := qH (HXJ.out.below hb8)
       have hbx8 : bx < w8.heap.size := by omega
       clear hb8 HOF
       obtain ⟨A, cS, rfl⟩ := own_sliceN HN8.out.row
       have HML : L.length + 1 <= maxLen := by simp only [maxLen]; omega
       have HMB : (L.length + 1) * 16 <= 140737488355328 := by omega
       have HROW := qH (World.ownsRow.alloc HN8.out.row (.cells #[.int .i64 (86400 * N + tm), .pointer (some ⟨bx, 0, none⟩)] 180))
       have HNEW := qH (World.news_of_block (cs := #[.int .i64 (86400 * N + tm), .pointer (some ⟨bx, 0, none⟩)]) (t := 180) (fr := (0, 0)) (heap_alloc_new w8 (.cells #[.int .i64 (86400 * N + tm), .pointer (some ⟨bx, 0, none⟩)] 180)))
       have HSZ : B0 <= (w8.alloc (.cells #[.int .i64 (86400 * N + tm), .pointer (some ⟨bx, 0, none⟩)] 180)).heap.size := by simp; omega
       go_wp2_with (at_builtin; refine wpList_append_own _ rfl _ _ 176 rfl B0 180 i1 (.agg #[.int .i64 0, .pointer none]) 2 16 undNb hi1 hz10 hz11 hz12 rfl (by decide) _ _ _ rfl HROW.out ⟨w8.heap.size, 0, none⟩ 1 1 [.int .i64 (86400 * N + tm), .pointer (some ⟨bx, 0, none⟩)] rfl rfl HNEW.out (by simp [Value.oneCell']) HML HMB HSZ ?_; intro v' w10 hown10 hgrow10 _)
       have HR := qH (NbAt.snoc (x := (86400 * N + tm, ⟨nm2, yf, yt, mo, dk, dw, dn, tm, ck, sv, lt⟩, bx)) HN8.out HX8.out hown10 hgrow10)
       have HXE := qH (box_kept HROW.out (HX8.out.alloc _) (by decide) hgrow10)
       go_roundw
       case rel =>
        refine ⟨j + 1, hjc, by go_num, by rw [HSN.out]; exact HR, HXE, ?_⟩
        obtain rfl := HB00.out
        exact (((HBJ.out.trans (HB8.out.mono HBJ.out.size)).alloc (by omega) _).grown hgrow10 HSZ fun q hq => (World.ownsRow.lt HROW.out q hq).1)
       case measure => simp [intOf]; omega
      ·obtain rfl : j = C := by omega
       have hyb : ¬ yf + (j : Int) <= yt := by omega
       go_wp2_with fail
       go_roundw
       case rel => exact ⟨k + 1, Y + (yt - yf + 1), true, L, by omega, by go_num, by go_num, rfl, by omega, by omega, by omega, by rw [<- EL.out]; exact HMO2, by rw [HB00.out]; exact HNJ, HBJ⟩
       case measure => simp [intOf]; omega
   ·have t0 : (nm2.toList == nm.toList) = false := by
     cases e : nm2.toList == nm.toList
     ·rfl
     ·exact absurd (ByteArray.ext (Array.toList_inj.1 (by rw [<- ByteArray.toList_eq, <- ByteArray.toList_eq]; simpa using e))) hnm
    have t0n : (!(nm2.toList == nm.toList)) = true := by rw [t0]; rfl
    have HSK2 := qH (HSK.out hnm)
    clear HSK hnm
    go_upto_region 6 with fail
    rw [HEW.out, HBX.out]
    go_wp2_with fail
    go_roundw
    case rel => exact ⟨k + 1, Y, is, l, by omega, by go_num, rfl, rfl, hY0, by omega, hll, HSK2, by rw [HB00.out]; exact HN1, HB1⟩
    case measure => simp [intOf]; omega
  ·obtain rfl : k = rules.length := by omega
   obtain ⟨hMy, hMs, hMl⟩ := HM.out
   rw [List.take_length] at hMy hMs hMl
   have hmb := HO.out
   have HBE := HB
   cases is with
   | false =>
    have HE := qH (mkR_6 (off := off) hMs.symm)
    clear hMy hMs hMl hmb
    go_wp2_with fail
    go_ret2
    exact MakePost.bad HE.out HBE.out
   | true =>
   by_cases hy : 1500 < Y
   ·have HE := qH (mkR_2 (off := off) hMs.symm (by rw [<- hMy]; exact hy))
    clear hMy hMs hMl hmb
    go_wp2_with fail
    go_ret2
    exact MakePost.bad HE.out HBE.out
   ·have hlen : (l.length : Int) = Y := HM.out.len HO.out (by omega)
    have hpos := yearsOf_pos nm rules hmb hMs.symm
    rw [<- hMy] at hpos
    have hne : 0 < l.length := by omega
    have hSl := hMl (by omega)
    rcases own_cells HN.out.row with ⟨-, h0⟩ | ⟨g, cS, rfl, hg1, hg2, -⟩
    ·omega
    have HSO := qH (SortStable_any (ptL l) wr g cS l.length (by omega) (tagged (l.map (·.1))).toArray wr (nbAt_so HN.out) (by simp [tagged]) (by have := tagged_inc (l.map (·.1)); rwa [List.length_map] at this))
    obtain ⟨S, eS⟩ : ∃ S, srt (nomsOf dayN rules nm) = S := ⟨_, rfl⟩
    have h5 : outF off 0 none S = none -> mkR rules nm off = (5, []) := fun h => mkR_5 hMs.symm (by rw [<- hMy]; exact hy) (by rw [eS]; exact h)
    have h0 : ∀ o, outF off 0 none S = some o -> mkR rules nm off = (0, o) := fun o h => mkR_0 hMs.symm (by rw [<- hMy]; exact hy) (by rw [eS]; exact h)
    obtain ⟨T, eT⟩ : ∃ T, nbT l = T := ⟨_, rfl⟩
    have hTS : nbM T = S := by rw [<- eT, nbT_M, <- eS, <- hSl]; rfl
    have hTl : T.length = l.length := by rw [<- eT, nbT_len]
    have hTb : ∀ x ∈ T, OkRu x.2.1 /\ -3000000000 <= x.1 /\ x.1 <= 5000000000 := by
     intro x hx
     have hm : (x.1, x.2.1) ∈ nomsOf dayN rules nm := by
      have : (x.1, x.2.1) ∈ srt (nomsOf dayN rules nm) := by rw [eS, <- hTS]; exact List.mem_map_of_mem hx
      exact List.mem_mergeSort.1 this
     exact nomsOf_bd hmb nm _ hm
    have H5 := qH h5
    have H0 := qH h0
    have HTS := qH hTS
    have HTB := qH hTb
    have HTL := qH hTl
    have hTl2 : T.length <= 1500 := by omega
    have ET := qH eT
    have hgw : w.heap.size <= wr.heap.size := HB.out.size
    clear hMy hMs hMl hmb hpos hSl eS h5 h0 hTS hTl hTb eT HM hlen hll
    go_wp2_with fail
    refine HSO.out.mono ?_
    rintro e W2 ⟨rfl, d', hS, hn, hp, ho⟩
    have hT := so_nbRd HN.out hS hp ho
    rw [ET.out] at hT
    have HT := qH hT
    have HB6 := qH (HBE.out.grown hS.g hgw (fun q hq => by injection hq with hq; omega))
    clear hS hn hp ho hT HSO HN HB HBE ET
    go_wp2_with fail
    go_loopw [16, 17, 78] (fun v16 v17 i wx => ∃ (k : Nat) (sv : Int) (out : List Tn), k <= l.length /\ i = .int .i64 k /\ v17 = .int .i64 sv /\ 0 <= sv /\ sv <= 10800 /\ Hid (OutR off S k sv out) /\ Hid (wx.ownsRow W2.heap.size 49 3 v16 k (tnCells out)) /\ Hid (Below W2.heap.size W2 wx)) (fun _ _ i _ => l.length - (intOf i).toNat)
    case atStart => exact ⟨0, 0, [], Nat.zero_le _, rfl, rfl, by omega, by omega, OutR.zero _ _, World.ownsRow_nil _ _ _ _, qH (Below.refl _ _)⟩
    case round =>
     obtain ⟨k, sv, out, hk, rfl, rfl, hs0, hs1, HOR, HNR, HBR⟩ := hrel
     by_cases hkn : k < l.length
     ·have hkt : k < T.length := by rw [HTL.out]; exact hkn
      have hks : k < S.length := by rw [<- HTS.out]; unfold nbM; rw [List.length_map]; exact hkt
      have hSk : S[k]'hks = (T[k].1, T[k].2.1) := by
       have e : (nbM T)[k]? = some (T[k].1, T[k].2.1) := by unfold nbM; rw [List.getElem?_map, List.getElem?_eq_getElem hkt]; rfl
       rw [HTS.out, List.getElem?_eq_getElem hks] at e
       injection e
      have HOB := qH (HOR.out.bad hks)
      have HOM := qH (HOR.out.more hks)
      rw [hSk] at HOB HOM
      have HTW := HT.out.below HBR.out
      have hgr : g < wr.heap.size := HTW.lt
      have a0 := HTW.k k hkt
      have a1 := HTW.p k hkt
      have hX := HTW.bx T[k] (List.getElem_mem hkt)
      have hB := HTB.out T[k] (List.getElem_mem hkt)
      obtain ⟨x, ex⟩ : ∃ x, T[k] = x := ⟨_, rfl⟩
      rw [ex] at a0 a1 hX hB HOB HOM
      clear hSk HTW ex hks
      obtain ⟨at1, q, bx⟩ := x
      obtain ⟨nm2, yf, yt, mo, dk, dw, dn, tm, ck, sv2, lt⟩ := q
      obtain ⟨o, hA1, hA2⟩ := hB
      have hbxr : bx < wr.heap.size := hX.lt
      have hxs := hX.cells
      have c1 := o.c1
      have c2 := o.c2
      have s1 := o.s1
      have s2 := o.s2
      simp only at a0 a1 hX hA1 hA2 hbxr hxs c1 c2 s1 s2 HOB HOM
      obtain ⟨x0, x1, x2, x3, x4, x5, x6, x7, x8, x9, x10⟩ := hxs
      clear x0 x1 x2 x3 x4 x5 x6 x7 o
      have HX := qH hX
      have hs20 := s1
      have hs21 := s2
      clear hX
      obtain ⟨t, et⟩ : ∃ t, clkT off sv (at1, ⟨nm2, yf, yt, mo, dk, dw, dn, tm, ck, sv2, lt⟩) = t := ⟨_, rfl⟩
      rw [et] at HOB HOM
      have ET := qH et
      clear et
      obtain ⟨W5, eW5⟩ : ∃ W5, wr.alloc (.cells #[.int .i64 at1, .pointer (some ⟨bx, 0, none⟩)] 180) = W5 := ⟨_, rfl⟩
      have hb5 : Below wr.heap.size wr W5 := by rw [<- eW5]; exact (Below.refl _ _).alloc (Nat.le_refl _) _
      have hn5 : W5.heap[wr.heap.size]? = some (.cells #[.int .i64 at1, .pointer (some ⟨bx, 0, none⟩)] 180 (0, 0)) := by rw [<- eW5]; exact heap_alloc_new wr _
      have hz5 : W5.heap.size = wr.heap.size + 1 := by rw [<- eW5]; simp
      have n0 : W5.cell? ⟨wr.heap.size, 0, none⟩ = some (.int .i64 at1) := (cell_of_row W5 _ 0 _ _ _ hn5).trans rfl
      have n1 : W5.cell? ⟨wr.heap.size, 1, none⟩ = some (.pointer (some ⟨bx, 0, none⟩)) := (cell_of_row W5 _ 1 _ _ _ hn5).trans rfl
      have b9 : W5.cell? ⟨bx, 9, none⟩ = some (.int .i64 sv2) := (hb5.cell (p := ⟨bx, 9, none⟩) hbxr).trans x9
      have b10 : W5.cell? ⟨bx, 10, none⟩ = some (.string lt) := (hb5.cell (p := ⟨bx, 10, none⟩) hbxr).trans x10
      have b8 : W5.cell? ⟨bx, 8, none⟩ = some (.int .i64 ck) := (hb5.cell (p := ⟨bx, 8, none⟩) hbxr).trans x8
      have hl5 : wr.heap.size < W5.heap.size := by omega
      have hbx5 : bx < W5.heap.size := by omega
      have KS : Hid (∀ wx, Below W5.heap.size W5 wx -> Below W5.heap.size W5 wx /\ wx.cell? ⟨wr.heap.size, 0, none⟩ = some (.int .i64 at1) /\ wx.cell? ⟨wr.heap.size, 1, none⟩ = some (.pointer (some ⟨bx, 0, none⟩)) /\ wx.cell? ⟨bx, 9, none⟩ = some (.int .i64 sv2) /\ wx.cell? ⟨bx, 10, none⟩ = some (.string lt)) := by
       show ∀ wx, _
       exact fun wx hb => ⟨hb, (hb.cell (p := ⟨wr.heap.size, 0, none⟩) hl5).trans n0, (hb.cell (p := ⟨wr.heap.size, 1, none⟩) hl5).trans n1, (hb.cell (p := ⟨bx, 9, none⟩) hbx5).trans b9, (hb.cell (p := ⟨bx, 10, none⟩) hbx5).trans b10⟩
      have KAL : Hid (∀ wx ob, Below W5.heap.size W5 wx -> Below W5.heap.size W5 (wx.alloc ob)) := by
       show ∀ wx ob, _
       exact fun wx ob h => h.alloc h.size ob
      have HB5 := qH hb5
      have HN5 := qH hn5
      have HZ5 := qH hz5
      have HEW5 := qH eW5
      clear eW5 hb5 hn5 hz5
      go_upto_region 26 with fail
      rw [HEW5.out]
      go_cut [20] from 83 to 95 (fun sx wx => sx = .pointer (some ⟨W5.heap.size, 0, none⟩) /\ wx = (W5.alloc (.cells #[.int .i64 at1, .int .i64 sv2, .string lt] 49)).drew)
      case first =>
       clear x8 x9 x10 b8 a0 a1
       go_region_held3 (fun wx => Below W5.heap.size W5 wx /\ wx.cell? ⟨wr.heap.size, 0, none⟩ = some (.int .i64 at1) /\ wx.cell? ⟨wr.heap.size, 1, none⟩ = some (.pointer (some ⟨bx, 0, none⟩)) /\ wx.cell? ⟨bx, 9, none⟩ = some (.int .i64 sv2) /\ wx.cell? ⟨bx, 10, none⟩ = some (.string lt)) ((refine KS.out _ ?_; repeat (first | (with_reducible assumption) | (with_reducible exact Below.refl _ _) | (with_reducible refine Below.drew ?_) | (with_reducible refine KAL.out _ _ ?_)))) (fail)
       all_goals go_wp2_with fail
       all_goals go_meet
       all_goals exact ⟨rfl, rfl⟩
      case rest =>
      obtain ⟨rfl, rfl⟩ := hcut
      clear KS KAL b10 n0 x8 x9 x10 a0 a1
      go_upto_block 7 with fail
      go_cut [108] from 97 to 116 (fun sx wx => wx = (W5.alloc (.cells #[.int .i64 t, .int .i64 sv2, .string lt] 49)).drew)
      case first =>
       have et := ET.out
       unfold clkT at et
       simp only at et
       by_cases hc0 : ck = 0
       ·rw [if_pos hc0] at et
        subst hc0
        subst et
        go_wp2_with fail
        go_meet
        exact rfl
       ·rw [if_neg hc0] at et
        have z0 : (ck == 0) = false := by simpa using hc0
        by_cases hc1 : ck = 1
        ·rw [if_pos hc1] at et
         subst hc1
         subst et
         go_wp2_with fail
         go_meet
         exact rfl
        ·rw [if_neg hc1] at et
         have z1 : (ck == 1) = false := by simpa using hc1
         subst et
         go_wp2_with fail
         go_meet
         exact rfl
      case rest =>
      obtain ⟨W3, eW3⟩ : ∃ W3, (W5.alloc (.cells #[.int .i64 t, .int .i64 sv2, .string lt] 49)).drew = W3 := ⟨_, rfl⟩
      rw [eW3] at hcut
      have hb35 : Below W5.heap.size W5 W3 := by rw [<- eW3]; exact ((Below.refl _ _).alloc (Nat.le_refl _) _).drew
      have hb3 : Below wr.heap.size wr W3 := HB5.out.trans (hb35.mono (by have := HZ5.out; omega))
      have hN3 : W3.heap[wr.heap.size]? = some (.cells #[.int .i64 at1, .pointer (some ⟨bx, 0, none⟩)] 180 (0, 0)) := (hb35.block _ hl5).trans HN5.out
      have hT3 : W3.heap[wr.heap.size + 1]? = some (.cells #[.int .i64 t, .int .i64 sv2, .string lt] 49 (0, 0)) := by
       rw [<- eW3]
       exact alloc_at _ _ _ (by have := HZ5.out; omega)
      have hz3 : wr.heap.size + 2 <= W3.heap.size := by rw [<- eW3]; have := HZ5.out; simp [World.drew]; omega
      have p1 : W3.cell? ⟨wr.heap.size, 1, none⟩ = some (.pointer (some ⟨bx, 0, none⟩)) := (cell_of_row W3 _ 1 _ _ _ hN3).trans rfl
      have q0 : W3.cell? ⟨wr.heap.size + 1, 0, none⟩ = some (.int .i64 t) := (cell_of_row W3 _ 0 _ _ _ hT3).trans rfl
      have q1 : W3.cell? ⟨wr.heap.size + 1, 1, none⟩ = some (.int .i64 sv2) := (cell_of_row W3 _ 1 _ _ _ hT3).trans rfl
      have q2 : W3.cell? ⟨wr.heap.size + 1, 2, none⟩ = some (.string lt) := (cell_of_row W3 _ 2 _ _ _ hT3).trans rfl
      have y9 : W3.cell? ⟨bx, 9, none⟩ = some (.int .i64 sv2) := (hb35.cell (p := ⟨bx, 9, none⟩) hbx5).trans b9
      obtain ⟨A, cO, rfl⟩ := own_sliceN HNR.out
      have HNR3 : Hid (W3.ownsRow W2.heap.size 49 3 (.slice A k cO) k (tnCells out)) := own_keep HNR.out fun g' e' => hb3.block g' (World.ownsRow.lt HNR.out g' e').2
      have hz2 : W2.heap.size <= W3.heap.size := by have := HBR.out.size; omega
      have HB3 : Hid (Below W2.heap.size W2 W3) := HBR.out.trans (hb3.mono HBR.out.size)
      rw [HZ5.out]
      obtain ⟨nb, enb⟩ : ∃ nb, wr.heap.size = nb := ⟨_, rfl⟩
      rw [enb] at p1 q0 q1 q2 hz3 hbxr hgr ⊢
      have hol := HOR.out.1
      have HLA : Hid (0 < k -> ∃ g2 c2 m, (Value.slice A k cO) = .slice (some ⟨g2, 0, none⟩) k c2 /\ g2 < W3.heap.size /\ out[k - 1]? = some m /\ W3.cell? ⟨g2, (k - 1) * 3, none⟩ = some (.int .i64 m.a)) := by
       show 0 < k -> _
       intro h0
       rcases own_cells HNR3.out with ⟨-, h1⟩ | ⟨g2, c2, e2, -, h2, h3⟩
       ·omega
       ·have hl : k - 1 < out.length := by omega
        exact ⟨g2, c2, out[k - 1], e2, h2, List.getElem?_eq_getElem hl, h3 _ _ (tnCells_get out (k - 1) hl).1⟩
      obtain ⟨BB, hBB0, hBB1⟩ : ∃ BB : Bool, (k = 0 -> BB = false) /\ (∀ m, 0 < k -> out[k - 1]? = some m -> BB = decide (t <= m.a)) := by
       by_cases h0 : 0 < k
       ·obtain ⟨g2, c2, m, -, -, e3, -⟩ := HLA.out h0
        exact ⟨decide (t <= m.a), fun h => by omega, fun m2 _ e4 => by rw [e3] at e4; injection e4 with e4; rw [e4]⟩
       ·exact ⟨false, fun _ => rfl, fun m h => absurd h h0⟩
      have HBT : Hid (BB = true -> outF off 0 none S = none) := by
       show BB = true -> _
       intro hb
       by_cases h0 : 0 < k
       ·obtain ⟨g2, c2, m, -, -, e3, -⟩ := HLA.out h0
        refine HOB.out h0 m e3 ?_
        have := hBB1 m h0 e3
        rw [hb] at this
        exact of_decide_eq_true this.symm
       ·rw [hBB0 (by omega)] at hb; cases hb
      have HBF : Hid (BB = false -> OutR off S (k + 1) sv2 (out ++ [⟨t, sv2, lt⟩])) := by
       show BB = false -> _
       intro hb
       refine HOM.out fun m h0 e3 => ?_
       have := hBB1 m h0 e3
       rw [hb] at this
       have := of_decide_eq_false this.symm
       omega
      have HBB0 := qH hBB0
      have HBB1 := qH hBB1
      have hol1 : out.length <= 1500 := by omega
      have HOL := qH hol
      have HENB := qH enb
      clear hBB0 hBB1 hb3 hb35 hN3 hT3 eW3 HNR HOR HOM HOB ET HTB HTS hol enb HBR s1 s2 n1 b8 hl5 hbx5 HB5 HN5 HZ5 HEW5 b9
      subst hcut
      go_upto_region 32 with fail
      go_cut [129] from 117 to 129 (fun sx wx => sx = .bool BB /\ ∃ nq, wx = wc.drewN nq)
      case first =>
       by_cases h0 : 0 < k
       ·obtain ⟨g2, c2, m, e2, hg2, e3, hc⟩ := HLA.out h0
        simp only [Value.slice.injEq, true_and] at e2
        obtain ⟨rfl, rfl⟩ := e2
        have hBB := HBB1.out m h0 e3
        clear e3
        have hk1 : (0 : Int) < (k : Int) := by omega
        have hk2 : (0 : Int) <= (k : Int) - 1 := by omega
        have hk3 : (k : Int) - 1 < (k : Int) := by omega
        have hk4 : ((k : Int) - 1).toNat = k - 1 := by omega
        have hk5 : k - 1 < k := by omega
        by_cases hle : t <= m.a
        ·rw [decide_eq_true hle] at hBB
         subst hBB
         go_quiet (fail)
         go_wp2_with fail
         go_meet
         exact ⟨rfl, _, rfl⟩
        ·rw [decide_eq_false hle] at hBB
         subst hBB
         go_quiet (fail)
         go_wp2_with fail
         go_meet
         exact ⟨rfl, _, rfl⟩
       ·have hBB := HBB0.out (by omega)
        subst hBB
        have hk0 : ¬ (0 : Int) < (k : Int) := by omega
        go_quiet (fail)
        go_wp2_with fail
        go_meet
        exact ⟨rfl, _, rfl⟩
      case rest =>
      obtain ⟨rfl, nq, rfl⟩ := hcut
      cases BB with
      | true =>
       have HE := qH (H5.out (HBT.out rfl))
       have HBD := qH (HB6.out.trans (HB3.out.mono HB6.out.size))
       go_wp2_with fail
       go_ret2
       exact MakePost.bad HE.out (below_drewN HBD.out nq)
      | false =>
       have HRF := qH (HBF.out rfl)
       obtain ⟨W4, e4⟩ : ∃ W4, wc.drewN nq = W4 := ⟨_, rfl⟩
       rw [e4]
       have HNR4 : Hid (W4.ownsRow W2.heap.size 49 3 (.slice A k cO) k (tnCells out)) := by rw [<- e4]; exact HNR3
       have HB4 : Hid (Below W2.heap.size W2 W4) := by rw [<- e4]; exact below_drewN HB3.out nq
       have p1 : W4.cell? ⟨nb, 1, none⟩ = some (.pointer (some ⟨bx, 0, none⟩)) := by rw [<- e4]; exact p1
       have q0 : W4.cell? ⟨nb + 1, 0, none⟩ = some (.int .i64 t) := by rw [<- e4]; exact q0
       have q1 : W4.cell? ⟨nb + 1, 1, none⟩ = some (.int .i64 sv2) := by rw [<- e4]; exact q1
       have q2 : W4.cell? ⟨nb + 1, 2, none⟩ = some (.string lt) := by rw [<- e4]; exact q2
       have y9 : W4.cell? ⟨bx, 9, none⟩ = some (.int .i64 sv2) := by rw [<- e4]; exact y9
       have hz4 : wc.heap.size <= W4.heap.size := by rw [<- e4]; exact Nat.le_refl _
       have hbxw : bx < W4.heap.size := by omega
       have hnbw : nb < W4.heap.size := by omega
       have hnbw1 : nb + 1 < W4.heap.size := by omega
       have hz24 : W2.heap.size <= W4.heap.size := by omega
       clear e4
       obtain ⟨i2, hi2, hz20, hz21, hz22⟩ := info_parts infoTn
       have HROW := qH (World.ownsRow.alloc HNR4.out (.cells #[.int .i64 t, .int .i64 sv2, .string lt] 49))
       have HNEW := qH (World.news_of_block (cs := #[.int .i64 t, .int .i64 sv2, .string lt]) (t := 49) (fr := (0, 0)) (heap_alloc_new W4 (.cells #[.int .i64 t, .int .i64 sv2, .string lt] 49)))
       have HSZ : W2.heap.size <= (W4.alloc (.cells #[.int .i64 t, .int .i64 sv2, .string lt] 49)).heap.size := by simp; omega
       have HML : k + 1 <= maxLen := by simp only [maxLen]; omega
       have HMB : (k + 1) * 32 <= 140737488355328 := by omega
       go_wp2_with (at_builtin; refine wpList_append_own _ rfl _ _ 37 rfl W2.heap.size 49 i2 (.agg #[.int .i64 0, .int .i64 0, .string ⟨#[]⟩]) 3 32 undTn hi2 hz20 hz21 hz22 rfl (by decide) _ _ _ rfl HROW.out ⟨W4.heap.size, 0, none⟩ 1 1 [.int .i64 t, .int .i64 sv2, .string lt] rfl rfl HNEW.out (by simp [Value.oneCell']) HML HMB HSZ ?_; intro v' w10 hown10 hgrow10 _)
       go_roundw
       case rel =>
        refine ⟨k + 1, sv2, out ++ [⟨t, sv2, lt⟩], hkn, by go_num, rfl, hs20, hs21, HRF, by show World.ownsRow _ _ _ _ _ _ _; rw [tnCells_snoc]; exact hown10, ?_⟩
        exact ((HB4.out.alloc hz24 _).grown hgrow10 HSZ fun q hq => (World.ownsRow.lt HROW.out q hq).1)
       case measure => simp [intOf]; omega
     ·obtain rfl : k = l.length := by omega
      have HE := qH (H0.out out (HOR.out.done (by rw [<- HTS.out]; unfold nbM; rw [List.length_map, HTL.out]; exact Nat.le_refl _)))
      have hol := HOR.out.1
      have HRW : Hid (wr.ownsRow w.heap.size 49 3 u16 out.length (tnCells out)) := by show World.ownsRow _ _ _ _ _ _ _; rw [hol]; exact own_base HNR.out HB6.out.size
      have HBD := qH (HB6.out.trans (HBR.out.mono HB6.out.size))
      clear hol
      go_wp2_with fail
      go_ret2
      exact MakePost.ok HE.out HRW.out HBD.out
end Go.Proofs.YtomahddiclkepaaGreatDoor
