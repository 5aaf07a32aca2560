/- book.Parse: what is kept of a book under way, and the book that it is: plain facts. book.Parse: the walk. booked(): the closed fact of books' texts. book.Text: the text of an era, the walk. How long a rule's text is. book.Text in plain Lean: the lines of a book. BookBack in plain Lean: the text of what was parsed is the text. BookBack in plain Lean: the parse of a text is the book. -/
import Derived.Test.YtomahddiclkepaaGreatDoorQa15
import Derived.Test.YtomahddiclkepaaGreatDoorQa08
import Derived.Deep.DeepCutAuto
import Derived.Handy
import Derived.Test.YtomahddiclkepaaGreatDoorQa13
import Derived.Test.YtomahddiclkepaaGreatDoorQa09
import Derived.Test.YtomahddiclkepaaGreatDoorQa14
namespace Go.Proofs.YtomahddiclkepaaGreatDoor
open Go.RowKit Go.Joins
open Classical
set_option linter.unusedVariables false
set_option linter.unusedSimpArgs false
structure RdOk (st : RdS) (k : Nat) : Prop where
 r : st.rules.length ≤ k
 z : st.zones.length ≤ k
 l : st.links.length ≤ k
 e : ∀ i, (zD st.zones i).2.length ≤ k
 n : st.stage = 2 → st.zones ≠ []
 rs : ∀ r ∈ st.rules, SzR r
 zs : ∀ z ∈ st.zones, z.1.size ≤ 60000 ∧ ∀ x ∈ z.2, SzE x
 ls : ∀ x ∈ st.links, x.nm.size ≤ 60000 ∧ x.tg.size ≤ 60000
theorem RdOk.sz {st : RdS} {k : Nat} (h : RdOk st k) (hk : k ≤ 100000) : RdSz st := ⟨by have := h.r; omega, by have := h.z; omega, by have := h.l; omega, fun i => by have := h.e i; omega, h.n⟩
theorem rdOk_0 : RdOk rd0 0 := ⟨Nat.le_refl _, Nat.le_refl _, Nat.le_refl _, fun i => Nat.le_refl _, fun h => absurd h (by decide), fun r h => absurd h (List.not_mem_nil), fun r h => absurd h (List.not_mem_nil), fun r h => absurd h (List.not_mem_nil)⟩
theorem abbr_sizeP {s : ByteArray} (h : abbrB s = true) : s.size ≤ 8 := by
 unfold abbrB allB at h
 simp only [Bool.and_eq_true, decide_eq_true_eq] at h
 omega
theorem okRu_sz {r : Ru} (o : OkRu r) : SzR r := by
 refine ⟨Nat.le_trans (okRu_nm o) (by decide), ?_⟩
 rcases o.lt with h | h
 ·have e : r.lt.size = 1 := by rw [Lib.size_eq, ← ByteArray.toList_eq, h]; rfl
  omega
 ·have := abbr_sizeP h
  omega
theorem zD_mem {zs : List (ByteArray × List Er)} {i : Nat} (h : i < zs.length) : zD zs i ∈ zs := by
 unfold zD
 rw [List.getD_eq_getElem?_getD, List.getElem?_eq_getElem h]
 exact List.getElem_mem h
theorem zD_out {zs : List (ByteArray × List Er)} {i : Nat} (h : zs.length ≤ i) : zD zs i = (⟨#[]⟩, []) := by
 unfold zD
 rw [List.getD_eq_getElem?_getD, List.getElem?_eq_none h]
 rfl
theorem eraL_sz {x1 x2 x3 : List UInt8} {w4 : Option (List UInt8)} {x : Er} (h2 : x2.length ≤ 60000) (h3 : x3.length ≤ 60000) (h : eraL x1 x2 x3 w4 = some x) : SzE x := by
 have e0 : eraL x1 x2 x3 w4 = eraU x1 x2 x3 (uOf w4) := rfl
 rw [e0] at h
 unfold eraU at h
 have hu : (uOf w4).2 = 0 → -9223372036854775808 ≤ (uOf w4).1 ∧ (uOf w4).1 ≤ 9223372036854775807 := by
  intro hz
  cases w4 with
  | none => exact ⟨by decide, by decide⟩
  | some y =>
   have h := (rdStamp_ok (l := y) hz).1
   unfold inT at h
   show -9223372036854775808 ≤ (rdStamp y).1 ∧ (rdStamp y).1 ≤ 9223372036854775807
   omega
 split at h
 ·cases h
 rename_i g1
 have g1 : (rdSpan x1).2 = 0 := Classical.not_not.1 g1
 have s1 := (rdSpan_ok g1).1
 unfold inS at s1
 split at h
 ·split at h
  ·cases h
  rename_i g2
  rw [not_or] at g2
  have g3 := Classical.not_not.1 g2.1
  have s2 := (rdSpan_ok g3).1
  unfold inS at s2
  have s3 := hu (Classical.not_not.1 g2.2)
  injection h with h
  subst h
  exact ⟨by show ByteArray.size ⟨#[]⟩ ≤ _; decide, by show (txt x3).size ≤ _; rw [txt_size]; omega, by show _ ≤ (rdSpan x1).1; omega, by show (rdSpan x1).1 ≤ _; omega, by show _ ≤ (rdSpan (Lib.trimPrefix x2 [45])).1; omega, by show (rdSpan (Lib.trimPrefix x2 [45])).1 ≤ _; omega, s3.1, s3.2⟩
 ·split at h
  ·cases h
  rename_i g2
  rw [not_or] at g2
  have s3 := hu (Classical.not_not.1 g2.2)
  injection h with h
  subst h
  exact ⟨by show (txt x2).size ≤ _; rw [txt_size]; omega, by show (txt x3).size ≤ _; rw [txt_size]; omega, by show _ ≤ (rdSpan x1).1; omega, by show (rdSpan x1).1 ≤ _; omega, by show _ ≤ (0 : Int); decide, by show (0 : Int) ≤ _; decide, s3.1, s3.2⟩
theorem getD_sm {ws : List (List UInt8)} (h : ∀ x ∈ ws, x.length ≤ 60000) (k : Nat) : (ws.getD k []).length ≤ 60000 := by
 by_cases g : k < ws.length
 ·rw [getD_in _ _ g]; exact h _ (List.getElem_mem g)
 ·rw [getD_out _ _ (by omega)]; exact Nat.zero_le _
theorem line_ok {st st' : RdS} {k : Nat} {l : List UInt8} (o : RdOk st k) (hl : l.length ≤ 60000) (h : lineF st l = some st') : RdOk st' (k + 1) := by
 have hw : ∀ x ∈ splitC 32 l, x.length ≤ 60000 := fun x hx => Nat.le_trans (splitC_small 32 l x hx) hl
 have hg := getD_sm hw
 have tz : ∀ j, (txt ((splitC 32 l).getD j [])).size ≤ 60000 := fun j => by rw [txt_size]; exact hg j
 have a1 := o.r
 have a2 := o.z
 have a3 := o.l
 unfold lineF at h
 split at h
 ·split at h
  ·rename_i g
   injection h with h
   subst h
   refine ⟨by show (st.rules ++ [_]).length ≤ _; rw [List.length_append]; show st.rules.length + 1 ≤ _; omega, by show st.zones.length ≤ _; omega, by show st.links.length ≤ _; omega, fun i => Nat.le_succ_of_le (o.e i), o.n, ?_, o.zs, o.ls⟩
   intro r hr
   rcases List.mem_append.1 hr with hr | hr
   ·exact o.rs r hr
   ·rw [List.mem_singleton.1 hr]; exact okRu_sz (rdRule_ok g).1
  ·cases h
 split at h
 ·injection h with h
  subst h
  refine ⟨by show st.rules.length ≤ _; omega, by show (st.zones ++ [_]).length ≤ _; rw [List.length_append]; show st.zones.length + 1 ≤ _; omega, by show st.links.length ≤ _; omega, fun i => ?_, fun _ => by show st.zones ++ [_] ≠ []; simp, o.rs, ?_, o.ls⟩
  ·show (zD (st.zones ++ [(txt ((splitC 32 l).getD 1 []), [])]) i).2.length ≤ _
   rcases Nat.lt_trichotomy i st.zones.length with g | g | g
   ·rw [(zD_snoc _ _ i).1 g]; exact Nat.le_succ_of_le (o.e i)
   ·rw [(zD_snoc _ _ i).2 g]; exact Nat.zero_le _
   ·rw [zD_out (by rw [List.length_append]; show st.zones.length + 1 ≤ i; omega)]; exact Nat.zero_le _
  ·intro z hz
   rcases List.mem_append.1 hz with hz | hz
   ·exact o.zs z hz
   ·rw [List.mem_singleton.1 hz]; exact ⟨tz 1, fun x hx => absurd hx (List.not_mem_nil)⟩
 split at h
 ·unfold eraF at h
  split at h
  ·cases h
  rename_i g
  rw [not_or] at g
  have hst := Classical.not_not.1 g.1
  split at h
  ·cases h
  rename_i x hx
  injection h with h
  subst h
  have hsx := eraL_sz (hg 2) (hg 3) hx
  have hnz : 0 < st.zones.length := List.length_pos_iff.2 (o.n hst)
  refine ⟨by show st.rules.length ≤ _; omega, by show (addEra st.zones x).length ≤ _; rw [addEra_length]; omega, by show st.links.length ≤ _; omega, fun i => ?_, fun _ => ?_, o.rs, ?_, o.ls⟩
  ·show (zD (addEra st.zones x) i).2.length ≤ _
   unfold addEra
   rw [zD_set _ _ _ _ (by omega)]
   split
   ·show ((zD st.zones (st.zones.length - 1)).2 ++ [x]).length ≤ _
    have := o.e (st.zones.length - 1)
    rw [List.length_append]; show _ + 1 ≤ _; omega
   ·exact Nat.le_succ_of_le (o.e i)
  ·show addEra st.zones x ≠ []
   intro e
   have := addEra_length st.zones x
   rw [e] at this
   simp at this
   omega
  ·intro z hz
   have hz : z ∈ st.zones.set (st.zones.length - 1) ((zD st.zones (st.zones.length - 1)).1, (zD st.zones (st.zones.length - 1)).2 ++ [x]) := hz
   have hm := zD_mem (zs := st.zones) (i := st.zones.length - 1) (by omega)
   rcases List.mem_or_eq_of_mem_set hz with hz | rfl
   ·exact o.zs z hz
   ·refine ⟨(o.zs _ hm).1, fun y hy => ?_⟩
    rcases List.mem_append.1 hy with hy | hy
    ·exact (o.zs _ hm).2 y hy
    ·rw [List.mem_singleton.1 hy]; exact hsx
 split at h
 ·injection h with h
  subst h
  refine ⟨by show st.rules.length ≤ _; omega, by show st.zones.length ≤ _; omega, by show (st.links ++ [_]).length ≤ _; rw [List.length_append]; show st.links.length + 1 ≤ _; omega, fun i => Nat.le_succ_of_le (o.e i), fun e => absurd (show (3 : Int) = 2 from e) (by decide), o.rs, o.zs, ?_⟩
  intro x hx
  rcases List.mem_append.1 hx with hx | hx
  ·exact o.ls x hx
  ·rw [List.mem_singleton.1 hx]; exact ⟨tz 1, tz 2⟩
 ·cases h
def zosE : List (ByteArray × List Er) → List Value → List Zo
 | z :: zs, e :: es => ⟨z.1, e, z.2⟩ :: zosE zs es
 | _, _ => []
theorem zosE_len : ∀ (zs : List (ByteArray × List Er)) (es : List Value), zs.length = es.length → (zosE zs es).length = zs.length
 | [], [], _ => rfl
 | [], _ :: _, h => by cases h
 | _ :: _, [], h => by cases h
 | z :: zs, e :: es, h => by
  have h : zs.length = es.length := by simpa using h
  show (zosE zs es).length + 1 = zs.length + 1
  rw [zosE_len zs es h]
theorem zosE_get : ∀ (zs : List (ByteArray × List Er)) (es : List Value), zs.length = es.length → ∀ (i : Nat) (h : i < (zosE zs es).length) (h2 : i < es.length), (zosE zs es)[i] = ⟨(zD zs i).1, es[i], (zD zs i).2⟩
 | [], [], _, i, h, _ => absurd h (Nat.not_lt_zero _)
 | [], _ :: _, h, _, _, _ => by cases h
 | _ :: _, [], h, _, _, _ => by cases h
 | z :: zs, e :: es, _, 0, _, _ => rfl
 | z :: zs, e :: es, h, i + 1, h1, h2 => by
  have h : zs.length = es.length := by simpa using h
  have h1 : i < (zosE zs es).length := by simpa [zosE] using h1
  have h2 : i < es.length := by simpa using h2
  exact zosE_get zs es h i h1 h2
theorem zosE_cs : ∀ (zs : List (ByteArray × List Er)) (es : List Value), zoCs zs es = (zosE zs es).flatMap zoCells
 | z :: zs, e :: es => by
  show .string z.1 :: e :: zoCs zs es = _
  rw [zosE_cs zs es]; rfl
 | [], _ => rfl
 | _ :: _, [] => rfl
def clrZ (z : Zo) : Zo := ⟨z.nm, undef, z.eras⟩
theorem any_clr (zs : List Zo) (n : ByteArray) : ((zs.map clrZ).any fun y => decide (y.nm = n)) = zs.any fun y => decide (y.nm = n) := by
 rw [List.any_map]; rfl
theorem firstE_congr {α : Type} {f g : α → Int} : ∀ (l : List α), (∀ x ∈ l, f x = g x) → firstE f l = firstE g l
 | [], _ => rfl
 | x :: r, h => by
  unfold firstE
  rw [h x List.mem_cons_self, firstE_congr r fun y hy => h y (List.mem_cons_of_mem _ hy)]
theorem bkChk_clr (rs : List Ru) (zs : List Zo) (ls : List Lk) : bkChk ⟨rs, zs.map clrZ, ls⟩ = bkChk ⟨rs, zs, ls⟩ := by
 have hz : firstE (chkZ ⟨rs, zs.map clrZ, ls⟩) (List.range (zs.map clrZ).length) = firstE (chkZ ⟨rs, zs, ls⟩) (List.range zs.length) := by
  rw [List.length_map]
  refine firstE_congr _ fun i hi => ?_
  have hi := List.mem_range.1 hi
  have e1 := chkZ_at (⟨rs, zs.map clrZ, ls⟩ : Bk) i (by show i < (zs.map clrZ).length; rw [List.length_map]; exact hi)
  have e2 := chkZ_at (⟨rs, zs, ls⟩ : Bk) i hi
  refine e1.trans (Eq.trans ?_ e2.symm)
  show zoneChk rs ((zs.map clrZ).take i) ((zs.map clrZ)[i]'(by rw [List.length_map]; exact hi)) = zoneChk rs (zs.take i) zs[i]
  rw [List.getElem_map, ← List.map_take]
  unfold zoneChk
  have e3 := any_clr (zs.take i) zs[i].nm
  show (if nameB zs[i].nm = false then (3 : Int) else if (((zs.take i).map clrZ).any fun y => decide (y.nm = zs[i].nm)) = true then 7 else _) = _
  rw [e3]
  rfl
 have hlz : (zs.map clrZ).length = zs.length := List.length_map _
 have hl : firstE (chkL ⟨rs, zs.map clrZ, ls⟩) (List.range ls.length) = firstE (chkL ⟨rs, zs, ls⟩) (List.range ls.length) := by
  refine firstE_congr _ fun i hi => ?_
  have e : ∀ n, isZone ⟨rs, zs.map clrZ, ls⟩ n = isZone ⟨rs, zs, ls⟩ n := fun n => any_clr zs n
  unfold chkL linkChk
  rw [e, e]
 by_cases h0 : 40 < rs.length ∨ 20 < zs.length ∨ 20 < ls.length
 ·have e1 := bkChk_2 (⟨rs, zs.map clrZ, ls⟩ : Bk) (by show 40 < rs.length ∨ 20 < (zs.map clrZ).length ∨ 20 < ls.length; rw [hlz]; exact h0)
  have e2 := bkChk_2 (⟨rs, zs, ls⟩ : Bk) h0
  exact e1.trans e2.symm
 ·have h0' : ¬ (40 < (⟨rs, zs.map clrZ, ls⟩ : Bk).rules.length ∨ 20 < (⟨rs, zs.map clrZ, ls⟩ : Bk).zones.length ∨ 20 < (⟨rs, zs.map clrZ, ls⟩ : Bk).links.length) := by
   show ¬ (40 < rs.length ∨ 20 < (zs.map clrZ).length ∨ 20 < ls.length)
   rw [hlz]; exact h0
  by_cases h1 : firstE ruChk rs = 0
  ·by_cases h2 : firstE (chkZ ⟨rs, zs, ls⟩) (List.range zs.length) = 0
   ·exact (bkChk_l _ h0' h1 (hz.trans h2)).trans (hl.trans (bkChk_l (⟨rs, zs, ls⟩ : Bk) h0 h1 h2).symm)
   ·exact (bkChk_z _ h0' h1 (fun g => h2 (hz.symm.trans g))).trans (hz.trans (bkChk_z (⟨rs, zs, ls⟩ : Bk) h0 h1 h2).symm)
  ·exact (bkChk_r _ h0' h1).trans (bkChk_r (⟨rs, zs, ls⟩ : Bk) h0 h1).symm
theorem bkS_chk (st : RdS) (evs : List Value) (h : st.zones.length = evs.length) : bkChk (bkS st fun _ => undef) = bkChk ⟨st.rules, zosE st.zones evs, st.links⟩ := by
 rw [← bkChk_clr st.rules (zosE st.zones evs) st.links]
 have e : (st.zones.zipIdx.map fun z : (ByteArray × List Er) × Nat => (⟨z.1.1, undef, z.1.2⟩ : Zo)) = (zosE st.zones evs).map clrZ := by
  refine List.ext_getElem (by rw [List.length_map, List.length_map, List.length_zipIdx, zosE_len _ _ h]) fun i h1 h2 => ?_
  have hi : i < st.zones.length := by simpa using h1
  rw [List.getElem_map, List.getElem_map, List.getElem_zipIdx, zosE_get _ _ h i (by rw [zosE_len _ _ h]; exact hi) (by omega)]
  have hz : zD st.zones i = st.zones[i] := by unfold zD; rw [List.getD_eq_getElem?_getD, List.getElem?_eq_getElem hi]; rfl
  show (⟨st.zones[i].1, undef, st.zones[i].2⟩ : Zo) = ⟨(zD st.zones i).1, undef, (zD st.zones i).2⟩
  rw [hz]
 show bkChk ⟨st.rules, _, st.links⟩ = _
 rw [e]
theorem RdM.book {B R : Nat} {W : World} {rv zv lv : Value} {evs : List Value} {st : RdS} {k : Nat} (h : RdM B W R rv zv lv evs st) (o : RdOk st k) (hk : k ≤ 100000) : BookAt W.heap.size W rv zv lv ⟨st.rules, zosE st.zones evs, st.links⟩ := by
 have el := h.el
 have hl := zosE_len st.zones evs el
 have a1 := o.r
 have a2 := o.z
 have a3 := o.l
 have hz := h.zr
 rw [zosE_cs, ← hl] at hz
 refine ⟨own_rowsG (cells := fun r : Ru => (ruCells r).toList) (k := 11) (fun _ => rfl) h.rr (by show st.rules.length ≤ 100000; omega), own_rowsG (cells := zoCells) (k := 2) (fun _ => rfl) hz (by show (zosE st.zones evs).length ≤ 100000; omega), ?_, own_rowsG (cells := lkCells) (k := 2) (fun _ => rfl) h.lr (by show st.links.length ≤ 100000; omega), o.rs, ?_, fun x hx => ⟨Nat.le_trans (o.ls x hx).1 (by decide), Nat.le_trans (o.ls x hx).2 (by decide)⟩⟩
 ·intro z hz
  obtain ⟨i, hi, rfl⟩ := List.mem_iff_getElem.1 hz
  have hi2 : i < evs.length := by have : i < (zosE st.zones evs).length := hi; omega
  have e := zosE_get st.zones evs el i hi hi2
  show RowsAt _ 5 W.heap.size W (zosE st.zones evs)[i].ev (zosE st.zones evs)[i].eras
  rw [e]
  have := o.e i
  exact own_rowsG (cells := fun x : Er => (erCells x).toList) (k := 5) (fun _ => rfl) (h.er i hi2) (by show (zD st.zones i).2.length ≤ 100000; omega)
 ·intro z hz
  obtain ⟨i, hi, rfl⟩ := List.mem_iff_getElem.1 hz
  have hi2 : i < evs.length := by have : i < (zosE st.zones evs).length := hi; omega
  have e := zosE_get st.zones evs el i hi hi2
  show (zosE st.zones evs)[i].nm.size ≤ _ ∧ ∀ x ∈ (zosE st.zones evs)[i].eras, SzE x
  rw [e]
  have hm := o.zs _ (zD_mem (zs := st.zones) (i := i) (by omega))
  exact ⟨Nat.le_trans hm.1 (by decide), hm.2⟩
theorem lines_step {ls : List (List UInt8)} {st : RdS} {k j : Nat} (hk : k < ls.length) : linesF st j (ls.drop k) = match lineF st ls[k] with | none => (none, j + 1) | some st' => linesF st' (j + 1) (ls.drop (k + 1)) := by
 rw [List.drop_eq_getElem_cons hk]
 rfl
theorem pf_large {l : List UInt8} (h : 60000 < l.length) : parseF l = (rd0, 0, 2) := by unfold parseF; rw [if_pos h]
theorem pf_nil {l : List UInt8} (h : l = []) : parseF l = (rd0, 0, 0) := by subst h; unfold parseF; rw [if_neg (by decide), if_pos rfl]
theorem pf_line {l : List UInt8} (h : ¬ 60000 < l.length) (h2 : l ≠ []) {k : Nat} (e : linesF rd0 0 (splitC 10 l) = (none, k)) : parseF l = (rd0, k, 3) := by unfold parseF; rw [if_neg h, if_neg h2, e]
theorem pf_end {l : List UInt8} (h : ¬ 60000 < l.length) (h2 : l ≠ []) {k : Nat} {st : RdS} (e : linesF rd0 0 (splitC 10 l) = (some st, k)) (hs : st.stage = 2) : parseF l = (rd0, k + 1, 3) := by unfold parseF; rw [if_neg h, if_neg h2, e]; exact if_pos hs
theorem pf_chk {l : List UInt8} (h : ¬ 60000 < l.length) (h2 : l ≠ []) {k : Nat} {st : RdS} (e : linesF rd0 0 (splitC 10 l) = (some st, k)) (hs : st.stage ≠ 2) (hc : bkChk (bkS st fun _ => undef) ≠ 0) : parseF l = (rd0, 0, bkChk (bkS st fun _ => undef)) := by unfold parseF; rw [if_neg h, if_neg h2, e]; exact (if_neg hs).trans (if_pos hc)
theorem pf_ok {l : List UInt8} (h : ¬ 60000 < l.length) (h2 : l ≠ []) {k : Nat} {st : RdS} (e : linesF rd0 0 (splitC 10 l) = (some st, k)) (hs : st.stage ≠ 2) (hc : bkChk (bkS st fun _ => undef) = 0) : parseF l = (st, 0, 0) := by unfold parseF; rw [if_neg h, if_neg h2, e]; exact (if_neg hs).trans (if_neg fun g => g hc)
def PsPost (R : RdS × Nat × Int) (w : World) (e : Ending) (w' : World) : Prop :=
 Below w.heap.size w w' ∧ ∃ rv zv lv evs, e = .returned (.tuple #[.agg #[rv, zv, lv], .int .i64 (R.2.1 : Int), .int .i64 R.2.2]) ∧ R.1.zones.length = evs.length ∧ BookAt w'.heap.size w' rv zv lv ⟨R.1.rules, zosE R.1.zones evs, R.1.links⟩
theorem rows_nilP {α : Type} {cells : α → List Value} {k B : Nat} {W : World} : RowsAt cells k B W (.slice none 0 0) [] := ⟨none, 0, rfl, ⟨Nat.zero_le _, Nat.le_refl _⟩, fun h => absurd rfl h⟩
theorem PsPost.no {R : RdS × Nat × Int} {w w' : World} {n : Nat} {C m : Int} (h : R = (rd0, n, C)) (hm : m = (n : Int)) (hb : Below w.heap.size w w') : PsPost R w (.returned (.tuple #[.agg #[.slice none 0 0, .slice none 0 0, .slice none 0 0], .int .i64 m, .int .i64 C])) w' := by
 subst h
 subst hm
 exact ⟨hb, _, _, _, [], rfl, rfl, rows_nilP, rows_nilP, fun z hz => absurd hz (List.not_mem_nil), rows_nilP, fun z hz => absurd hz (List.not_mem_nil), fun z hz => absurd hz (List.not_mem_nil), fun z hz => absurd hz (List.not_mem_nil)⟩
theorem heap_setP {W : World} {g i : Nat} {cs : Array Value} {T : TypeId} (h : W.heap[g]? = some (.cells cs T (0, 0))) (v : Value) : (W.setCell ⟨g, i, none⟩ v).heap[g]? = some (.cells (cs.setIfInBounds i v) T (0, 0)) := by rw [heap_setCell_same W g i _ _ v h]
theorem end3P {W : World} {g : Nat} {a b c : Value} {T : TypeId} (h : W.heap[g]? = some (.cells #[a, b, c] T (0, 0))) (x y z : Value) :
  ∃ W', ((W.setCell ⟨g, 0, none⟩ x).setCell ⟨g, 1, none⟩ y).setCell ⟨g, 2, none⟩ z = W' ∧ Below g W W' ∧ W'.cell? ⟨g, 0, none⟩ = some x ∧ W'.cell? ⟨g, 1, none⟩ = some y ∧ W'.cell? ⟨g, 2, none⟩ = some z ∧ ∀ b, b ≠ g → W'.heap[b]? = W.heap[b]? := by
 have hr := heap_setP (i := 2) (heap_setP (i := 1) (heap_setP (i := 0) h x) y) z
 refine ⟨_, rfl, (((Below.refl _ _).setCell (by exact Nat.le_refl _) _).setCell (by exact Nat.le_refl _) _).setCell (by exact Nat.le_refl _) _, ?_, ?_, ?_, fun b hb => (Below.heap_setCell _ _ _ _ hb).trans ((Below.heap_setCell _ _ _ _ hb).trans (Below.heap_setCell _ _ _ _ hb))⟩
 ·exact (cell_of_row _ _ 0 _ _ _ hr).trans rfl
 ·exact (cell_of_row _ _ 1 _ _ _ hr).trans rfl
 ·exact (cell_of_row _ _ 2 _ _ _ hr).trans rfl
structure Box3 (W : World) (P : Nat) : Prop where
 h : W.heap[P]? = some (.cells #[.slice none 0 0, .slice none 0 0, .slice none 0 0] 26 (0, 0))
theorem Box3.facts {W : World} {P : Nat} (h : Box3 W P) : W.cell? ⟨P, 0, none⟩ = some (.slice none 0 0) ∧ W.cell? ⟨P, 1, none⟩ = some (.slice none 0 0) ∧ W.cell? ⟨P, 2, none⟩ = some (.slice none 0 0) ∧ W.frozen? ⟨P, 0, none⟩ = false ∧ W.frozen? ⟨P, 1, none⟩ = false ∧ W.frozen? ⟨P, 2, none⟩ = false ∧ P < W.heap.size :=
 ⟨(cell_of_row W _ 0 _ _ _ h.h).trans rfl, (cell_of_row W _ 1 _ _ _ h.h).trans rfl, (cell_of_row W _ 2 _ _ _ h.h).trans rfl, by simp [World.frozen?, h.h], by simp [World.frozen?, h.h], by simp [World.frozen?, h.h], (Array.getElem?_eq_some_iff.mp h.h).1⟩
def LnsAt (W : World) (A : Nat) (ls : List (List UInt8)) : Prop := ∃ cs fr, W.heap[A]? = some (.cells cs 9 fr) ∧ ∀ j (h : j < ls.length), W.cell? ⟨A, j, none⟩ = some (.string (txt ls[j]))
theorem LnsAt.keep {W W' : World} {A : Nat} {ls : List (List UInt8)} (h : LnsAt W A ls) (hk : StrKeep W W') : LnsAt W' A ls := by
 obtain ⟨cs, fr, h1, h2⟩ := h
 have e := hk A cs fr h1
 exact ⟨cs, fr, e.trans h1, fun j hj => (World.cell?_of_block (a := ⟨A, j, none⟩) e).trans (h2 j hj)⟩
theorem splitB_any (c : UInt8) (l : List UInt8) (w : World) (hl : l.length < 4294967281) (hm : MaxLen w) :
  Calls Tryz.prog 36 #[.string (txt l), .string (txt [c])] w fun e w' => ∃ A, e = .returned (.slice (some ⟨A, 0, none⟩) (splitC c l).length (splitC c l).length) ∧ w.heap.size ≤ A ∧ LnsAt w' A (splitC c l) ∧ Below w.heap.size w w' := by
 obtain ⟨m, hm⟩ := hm
 have hn : (splitC c l).length = Lib.countB (txt l) (txt [c]) + 1 := by
  rw [splitC_length]; unfold Lib.countB; rw [txt_data, txt_data, Lib.count_one]
 refine (Tryz.strings_Split (txt l) (txt [c]) m w (by rw [txt_size]; exact hl) hm (by rw [txt_size]; simp)).mono ?_
 rintro e w' ⟨rfl, rfl⟩
 rw [splitB_one]
 refine ⟨w.heap.size, by rw [hn], Nat.le_refl _, ⟨_, _, heap_alloc_new w _, ?_⟩, (Below.refl _ _).alloc (Nat.le_refl _) _⟩
 intro j h
 rw [cell_of_row _ _ _ _ _ _ (heap_alloc_new w _)]
 simp [h]
theorem RdM.keepB {B R : Nat} {W W' : World} {rv zv lv : Value} {evs : List Value} {st : RdS} (h : RdM B W R rv zv lv evs st) (hk : ∀ b, B ≤ b → b < W.heap.size → W'.heap[b]? = W.heap[b]?) : RdM B W' R rv zv lv evs st :=
 have kk : ∀ {e : TypeId} {s n : Nat} {v : Value} {xs : List Value}, W.ownsRow B e s v n xs → W'.ownsRow B e s v n xs := fun ho => own_keep ho fun g e => hk g (World.ownsRow.lt ho g e).1 (World.ownsRow.lt ho g e).2
 ⟨h.hR, (hk R h.hR h.lt).trans h.blk, kk h.rr, kk h.zr, h.el, fun i hi => kk (h.er i hi), h.ed, kk h.lr⟩
set_option maxRecDepth 100000 in
set_option maxHeartbeats 20000000 in
theorem bookParse_any (l : List UInt8) (w : World) (hl : l.length ≤ 140737488351232) (ht : Tab10 w) (ha : AscTab w) (he : NumErrs w) (hm : MaxLen w) :
  Calls Tryz.prog 11 #[.string (txt l)] w (PsPost (parseF l) w) := by
 obtain ⟨W0, eW⟩ : ∃ W0, w.alloc (.cells #[.slice none 0 0, .slice none 0 0, .slice none 0 0] 26) = W0 := ⟨_, rfl⟩
 obtain ⟨P, eP⟩ : ∃ P, w.heap.size = P := ⟨_, rfl⟩
 have hx0 : Box3 W0 P := ⟨by rw [← eW]; exact alloc_at _ _ _ eP.symm⟩
 have hb0 : Below w.heap.size w W0 := by rw [← eW]; exact alB _ _
 have hs0 : W0.heap.size = P + 1 := by rw [← eW, ← eP]; simp
 have HFIN : Hid (∀ W, Below P W0 W → Below w.heap.size w W) := by
  show ∀ W, _
  intro W hb
  rw [eP] at hb0 ⊢
  exact hb0.trans hb
 have HFA : Hid (∀ W, Below (P + 1) W0 W → Box3 W P ∧ Tab10 W ∧ AscTab W ∧ NumErrs W ∧ MaxLen W) := by
  show ∀ W, _
  intro W hb
  have hw := HFIN.out W (hb.mono (Nat.le_succ _))
  exact ⟨⟨(hb.block P (Nat.lt_succ_self _)).trans hx0.h⟩, ht.below hw, ha.below hw, he.below hw, hm.below hw⟩
 obtain ⟨R, eR⟩ : ∃ R, parseF l = R := ⟨_, rfl⟩
 rw [eR]
 have hsz : (txt l).size = l.length := txt_size l
 obtain ⟨z0, z1, z2, zf0, zf1, zf2, zl⟩ := hx0.facts
 have HEW := Lib.hid eW
 have HEP := Lib.hid eP
 have HX0 := Lib.hid hx0
 have HS0 := Lib.hid hs0
 have HER := Lib.hid eR
 clear eW eP hx0 hb0 hs0 ht ha he hm eR
 by_cases h60 : 60000 < l.length
 ·have h60i : (60000 : Int) < ((txt l).size : Int) := by omega
  have HR := Lib.hid (HER.out.symm.trans (pf_large h60))
  go_enter Tryz.func11, Tryz.ntmps11
  go_upto_region 1 with fail
  rw [HEW.out, HEP.out]
  go_wp2_with fail
  obtain ⟨W9, e9, hb9, v0, v1, v2, -⟩ := end3P HX0.out.h (.slice none 0 0) (.slice none 0 0) (.slice none 0 0)
  rw [e9]
  exact bodyPost_ret (v := .tuple #[.agg #[.slice none 0 0, .slice none 0 0, .slice none 0 0], .int .i64 0, .int .i64 2]) (by simp [results, Tryz.results11, go_sem, v0, v1, v2]) rfl (PsPost.no HR.out rfl (HFIN.out _ hb9))
 have h60i : ¬ (60000 : Int) < ((txt l).size : Int) := by omega
 by_cases hnil : l = []
 ·have HR := Lib.hid (HER.out.symm.trans (pf_nil hnil))
  have hq : ((txt l).toList == []) = true := by rw [hnil, ByteArray.toList_eq, txt_data]; rfl
  clear hnil
  go_enter Tryz.func11, Tryz.ntmps11
  go_upto_region 1 with fail
  rw [HEW.out, HEP.out]
  go_wp2_with fail
  obtain ⟨W9, e9, hb9, v0, v1, v2, -⟩ := end3P HX0.out.h (.slice none 0 0) (.slice none 0 0) (.slice none 0 0)
  rw [e9]
  exact bodyPost_ret (v := .tuple #[.agg #[.slice none 0 0, .slice none 0 0, .slice none 0 0], .int .i64 0, .int .i64 0]) (by simp [results, Tryz.results11, go_sem, v0, v1, v2]) rfl (PsPost.no HR.out rfl (HFIN.out _ hb9))
 have hq : ((txt l).toList == []) = false := by
  rw [ByteArray.toList_eq, txt_data]
  simpa using hnil
 have HNL := Lib.hid hnil
 obtain ⟨W1, e1⟩ : ∃ W1, W0.alloc (.cells #[.slice none 0 0, .slice none 0 0, .slice none 0 0, .int .i64 0] 100) = W1 := ⟨_, rfl⟩
 obtain ⟨rb, erb⟩ : ∃ rb, W0.heap.size = rb := ⟨_, rfl⟩
 have hrb : rb = P + 1 := by rw [← erb]; exact HS0.out
 have hx1 : W1.heap[rb]? = some (.cells #[.slice none 0 0, .slice none 0 0, .slice none 0 0, .int .i64 0] 100 (0, 0)) := by rw [← e1]; exact alloc_at _ _ _ erb.symm
 have hb1 : Below rb W0 W1 := by rw [← e1, ← erb]; exact alB _ _
 have hrd : RdM rb W1 rb (.slice none 0 0) (.slice none 0 0) (.slice none 0 0) [] rd0 :=
  ⟨Nat.le_refl _, hx1, World.ownsRow_nil _ _ _ _, World.ownsRow_nil _ _ _ _, rfl, fun i h => absurd h (Nat.not_lt_zero _), fun i j h => absurd h (Nat.not_lt_zero _), World.ownsRow_nil _ _ _ _⟩
 have hz1 : rb < W1.heap.size := (Array.getElem?_eq_some_iff.mp hx1).1
 have HE1 := Lib.hid e1
 have HRB := Lib.hid erb
 have HB1 := Lib.hid hb1
 have HRD := Lib.hid hrd
 have hf1 := HFA.out W1 (by rw [← hrb]; exact hb1)
 have HSP := Lib.hid (splitB_any 10 l W1 (by omega) hf1.2.2.2.2)
 have hsm := splitC_small 10 l
 have hcnt := splitC_length 10 l
 have hcl : l.count 10 ≤ l.length := List.count_le_length
 have HPL := Lib.hid (fun k => pf_line (l := l) h60 hnil (k := k))
 have HPE := Lib.hid (fun k st => pf_end (l := l) h60 hnil (k := k) (st := st))
 have HPC := Lib.hid (fun k st => pf_chk (l := l) h60 hnil (k := k) (st := st))
 have HPO := Lib.hid (fun k st => pf_ok (l := l) h60 hnil (k := k) (st := st))
 rw [HER.out] at HPL HPE HPC HPO
 obtain ⟨ls, els⟩ : ∃ ls, splitC 10 l = ls := ⟨_, rfl⟩
 rw [els] at HSP hsm hcnt HPL HPE HPC HPO
 have hln : ls.length ≤ 60001 := by omega
 have HSM := Lib.hid hsm
 have HRP := Lib.hid hrb
 have hPr : P < rb := by omega
 clear e1 erb hx1 hb1 hrd hf1 hsm hcnt hcl els hnil hrb hsz h60i HS0
 have h60i : ¬ (60000 : Int) < ((txt l).size : Int) := by rw [txt_size]; omega
 go_enter Tryz.func11, Tryz.ntmps11
 go_upto_region 1 with fail
 rw [HEW.out, HEP.out]
 go_upto_region 6 with fail
 rw [HE1.out, HRB.out]
 clear z0 z1 z2 zf0 zf1 zf2 zl
 go_wp2_with fail
 refine HSP.out.mono ?_
 rintro e w2 ⟨A, rfl, hA1, hlns, hb2⟩
 have HB2 := Lib.hid (HB1.out.trans (hb2.mono (Nat.le_of_lt hz1)))
 have HRD2 := Lib.hid (HRD.out.below hb2)
 have HLN := Lib.hid hlns
 have hz2 : rb < w2.heap.size := HRD2.out.lt
 clear hb2 hlns HSP hA1
 go_wp2_with fail
 go_loopw [25] (fun i wr => ∃ k : Nat, k ≤ ls.length ∧ i = .int .i64 k ∧ Hid (∃ st, RdOk st k ∧ linesF rd0 0 ls = linesF st k (ls.drop k) ∧ ∃ rv zv lv evs, RdM rb wr rb rv zv lv evs st) ∧ Hid (LnsAt wr A ls) ∧ Hid (Below rb W0 wr)) (fun i _ => ls.length - (intOf i).toNat)
 case atStart => exact ⟨0, Nat.zero_le _, rfl, Lib.hid ⟨rd0, rdOk_0, rfl, _, _, _, _, HRD2.out⟩, HLN, HB2⟩
 case round =>
  obtain ⟨k, hk, rfl, HST, HLR, HBR⟩ := hrel
  obtain ⟨st, hok, hli, rv, zv, lv, evs, hrd⟩ := HST.out
  have HOK := Lib.hid hok
  have HLI := Lib.hid hli
  have HRDr := Lib.hid hrd
  have hzr : rb < wr.heap.size := hrd.lt
  have hfa := HFA.out wr (by rw [← HRP.out]; exact HBR.out)
  obtain ⟨z0, z1, z2, zf0, zf1, zf2, zl⟩ := hfa.1.facts
  by_cases hkl : k < ls.length
  ·obtain ⟨cs, fr, hA, hcs⟩ := HLR.out
   have c0 := hcs k hkl
   have hAl : A < wr.heap.size := (Array.getElem?_eq_some_iff.mp hA).1
   have HLS := Lib.hid (lines_step (ls := ls) (st := st) (k := k) (j := k) hkl)
   have hx60 : (ls[k]).length ≤ 60000 := Nat.le_trans (HSM.out _ (List.getElem_mem hkl)) (by omega)
   have HNX := Lib.hid (fun st' => line_ok (st' := st') hok hx60)
   have HCL := Lib.hid (rdLine_any rb rb rv zv lv evs st ls[k] wr hrd (hok.sz (by omega)) (Nat.le_of_lt hzr) hx60 hfa.2.1 hfa.2.2.1 hfa.2.2.2.1 hfa.2.2.2.2)
   obtain ⟨x, ex⟩ : ∃ x, ls[k] = x := ⟨_, rfl⟩
   rw [ex] at c0 HLS HNX HCL
   obtain ⟨N, eN⟩ : ∃ N, lineF st x = N := ⟨_, rfl⟩
   rw [eN] at HLS HNX HCL
   have hik : (k : Int) < (ls.length : Int) := by omega
   clear ex eN hA hcs hok hli hrd hfa z0 z1 z2 zf0 zf1 zf2 zl HST
   go_wp2_with fail
   refine HCL.out.mono ?_
   rintro e w3 ⟨rfl, hb3, hsk, hst⟩
   have HB3 := Lib.hid (HBR.out.trans hb3)
   have HL3 := Lib.hid (HLR.out.keep hsk)
   have hfa := HFA.out w3 (by rw [← HRP.out]; exact HB3.out)
   obtain ⟨z0, z1, z2, zf0, zf1, zf2, zl⟩ := hfa.1.facts
   have HBX := Lib.hid hfa.1
   have HSTx := Lib.hid hst
   clear hb3 hsk hst hfa HCL
   cases N with
   | none =>
    have HRz := Lib.hid (HPL.out (k + 1) (HLI.out.trans HLS.out))
    have hw1 : IntKind.i64.wrap ((k : Int) + 1) = (k : Int) + 1 := IntWalk.i64_in _ (by omega)
    go_wp2_with fail
    obtain ⟨W9, e9, hb9, v0, v1, v2, -⟩ := end3P HBX.out.h (.slice none 0 0) (.slice none 0 0) (.slice none 0 0)
    rw [e9]
    exact bodyPost_ret (v := .tuple #[.agg #[.slice none 0 0, .slice none 0 0, .slice none 0 0], .int .i64 ((k : Int) + 1), .int .i64 3]) (by simp [results, Tryz.results11, go_sem, v0, v1, v2]) rfl (PsPost.no HRz.out (by omega) (HFIN.out _ ((HB3.out.mono (by omega)).trans hb9)))
   | some st' =>
    clear z0 z1 z2 zf0 zf1 zf2
    go_wp2_with fail
    go_roundw
    case rel => exact ⟨k + 1, by omega, by go_num, Lib.hid ⟨st', HNX.out st' rfl, HLI.out.trans HLS.out, HSTx.out st' rfl⟩, HL3, HB3⟩
    case measure => simp [intOf]; omega
  ·obtain rfl : k = ls.length := by omega
   have HQ : Hid (linesF rd0 0 ls = (some st, ls.length)) := by show _ = _; rw [hli, List.drop_length]; rfl
   have hbk := hrd.book hok (by omega)
   have hcq := bkS_chk st evs hrd.el
   obtain ⟨A1, a1, f1⟩ := own_sliceN hrd.rr
   obtain ⟨A2, a2, f2⟩ := own_sliceN hrd.zr
   obtain ⟨A3, a3, f3⟩ := own_sliceN hrd.lr
   subst f1
   subst f2
   subst f3
   have HCK := Lib.hid (bkCheck_any _ _ _ _ wr hbk hfa.2.2.2.2 hfa.2.1)
   rw [← hcq] at HCK
   obtain ⟨y0, y1, y2, y3, yf⟩ := hrd.cells
   have HP1 := Lib.hid (HPE.out _ _ HQ.out)
   have HP2 := Lib.hid (HPC.out _ _ HQ.out)
   have HP3 := Lib.hid (HPO.out _ _ HQ.out)
   have HBX := Lib.hid hfa.1
   obtain ⟨C, eC⟩ : ∃ C, bkChk (bkS st fun _ => undef) = C := ⟨_, rfl⟩
   rw [eC] at HCK HP2 HP3
   obtain ⟨sg, esg⟩ : ∃ sg, st.stage = sg := ⟨_, rfl⟩
   rw [esg] at HP1 HP2 HP3 y3
   clear hok hli hrd hbk hcq eC esg hfa HST HLI HPL HPE HPC HPO
   by_cases hsg : sg = 2
   ·have HRz := Lib.hid (HP1.out hsg)
    have hw1 : IntKind.i64.wrap ((ls.length : Int) + 1) = (ls.length : Int) + 1 := IntWalk.i64_in _ (by omega)
    have hsb : (sg == 2) = true := by simpa using hsg
    clear hsg HP1 HP2 HP3 HCK
    go_wp2_with fail
    obtain ⟨W9, e9, hb9, v0, v1, v2, -⟩ := end3P HBX.out.h (.slice none 0 0) (.slice none 0 0) (.slice none 0 0)
    rw [e9]
    exact bodyPost_ret (v := .tuple #[.agg #[.slice none 0 0, .slice none 0 0, .slice none 0 0], .int .i64 ((ls.length : Int) + 1), .int .i64 3]) (by simp [results, Tryz.results11, go_sem, v0, v1, v2]) rfl (PsPost.no HRz.out (by omega) (HFIN.out _ ((HBR.out.mono (by omega)).trans hb9)))
   have hsb : (sg == 2) = false := by simpa using hsg
   have HSG := Lib.hid hsg
   clear hsg HP1 z0 z1 z2 zf0 zf1 zf2
   go_wp2_with fail
   refine HCK.out.mono ?_
   rintro e w3 ⟨rfl, hb3⟩
   have HB3 := Lib.hid (HBR.out.trans (hb3.mono (Nat.le_of_lt hzr)))
   have HRD3 := Lib.hid (HRDr.out.below hb3)
   have hbx : Box3 w3 P := ⟨(hb3.block P zl).trans HBX.out.h⟩
   have HBX3 := Lib.hid hbx
   obtain ⟨z0, z1, z2, zf0, zf1, zf2, zl3⟩ := hbx.facts
   clear hb3 hbx HCK y0 y1 y2 y3 yf HBX
   obtain ⟨y0, y1, y2, y3, yf⟩ := HRD3.out.cells
   have hz3 := HRD3.out.lt
   by_cases hC : C = 0
   case neg =>
    have HRz := Lib.hid (HP2.out HSG.out hC)
    have hCb : (C == 0) = false := by simpa using hC
    have hCn : (C != 0) = true := by simpa using hC
    clear hC HP2 HP3 y3
    go_wp2_with fail
    obtain ⟨W9, e9, hb9, v0, v1, v2, -⟩ := end3P HBX3.out.h (.slice none 0 0) (.slice none 0 0) (.slice none 0 0)
    rw [e9]
    exact bodyPost_ret (v := .tuple #[.agg #[.slice none 0 0, .slice none 0 0, .slice none 0 0], .int .i64 0, .int .i64 C]) (by simp [results, Tryz.results11, go_sem, v0, v1, v2]) rfl (PsPost.no HRz.out rfl (HFIN.out _ ((HB3.out.mono (by omega)).trans hb9)))
   subst hC
   have HRz := Lib.hid (HP3.out HSG.out rfl)
   clear HP2 HP3 y3
   go_wp2_with fail
   obtain ⟨W9, e9, hb9, v0, v1, v2, ho9⟩ := end3P HBX3.out.h (.slice A1 st.rules.length a1) (.slice A2 st.zones.length a2) (.slice A3 st.links.length a3)
   rw [e9]
   refine bodyPost_ret (v := .tuple #[.agg #[.slice A1 st.rules.length a1, .slice A2 st.zones.length a2, .slice A3 st.links.length a3], .int .i64 0, .int .i64 0]) (by simp [results, Tryz.results11, go_sem, v0, v1, v2]) rfl ?_
   rw [HRz.out]
   have hrd9 := HRD3.out.keepB (W' := W9) fun b h1 h2 => ho9 b (by omega)
   exact ⟨HFIN.out _ ((HB3.out.mono (by omega)).trans hb9), _, _, _, evs, rfl, hrd9.el, hrd9.book HOK.out (by omega)⟩
theorem rdSpan_eq {n : Int} {l : List UInt8} (h : inS n) (e : spanT n = l) : rdSpan l = (n, 0) := by
 have hx : ∃ n, inS n ∧ spanT n = l := ⟨n, h, e⟩
 unfold rdSpan
 rw [dif_pos hx]
 obtain ⟨h1, h2⟩ := Classical.choose_spec hx
 have a := rawS_span h1
 have b := rawS_span h
 have c : Classical.choose hx = n := by rw [← a, ← b, h2, e]
 exact Prod.ext c rfl
def eraR (x : Er) : List UInt8 := if x.ru.data.toList = [] then 45 :: spanT x.sv else x.ru.data.toList
def eraT (x : Er) (last : Bool) : List UInt8 :=
 (((((([101, 114, 97, 32] ++ spanT x.off) ++ [32]) ++ eraR x) ++ [32]) ++ x.fm.data.toList)) ++ (if last = true then [] else 32 :: stampT x.un)
structure ErP (x : Er) (last : Bool) : Prop where
 o : inS x.off
 s : inS x.sv
 u : last = false → inT x.un
 r : x.ru.size ≤ 60000
 f : x.fm.size ≤ 60000
theorem add_txt (a b : List UInt8) (h : a.length + b.length ≤ 9223372036854775807) (W : World) : (Op.stringOp .add (txt a) (txt b)).run Tryz.prog W = .ok (.string (txt (a ++ b))) W := by
 have := run_string_add_sum (P := Tryz.prog) W (txt a) (txt b) (by rw [txt_size, txt_size]; exact h)
 rwa [txt_append] at this
set_option maxRecDepth 100000 in
set_option maxHeartbeats 4000000 in
theorem eraText_any (x : Er) (last : Bool) (w : World) (h : ErP x last) (ht : Tab10 w) :
  Calls Tryz.prog 31 #[.agg (erCells x), .bool last] w fun e w' => e = .returned (.string (txt (eraT x last))) ∧ Below w.heap.size w w' := by
 have HEQ : Hid (eraT x last = (((((([101, 114, 97, 32] ++ spanT x.off) ++ [32]) ++ eraR x) ++ [32]) ++ x.fm.data.toList)) ++ (if last = true then [] else 32 :: stampT x.un)) := rfl
 obtain ⟨Z, eZ⟩ : ∃ Z, eraT x last = Z := ⟨_, rfl⟩
 rw [eZ] at HEQ ⊢
 have h1 := h.o
 have h2 := h.s
 have h3 := h.u
 have h4 := h.r
 have h5 := h.f
 obtain ⟨off, ru, sv, fm, un⟩ := x
 simp only at HEQ h1 h2 h3 h4 h5
 obtain ⟨lr, rfl⟩ : ∃ a, ru = txt a := ⟨ru.data.toList, by unfold txt; simp⟩
 obtain ⟨lf, rfl⟩ : ∃ a, fm = txt a := ⟨fm.data.toList, by unfold txt; simp⟩
 rw [txt_size] at h4 h5
 rw [txt_data] at HEQ
 have HER : Hid (eraR ⟨off, txt lr, sv, txt lf, un⟩ = if lr = [] then 45 :: spanT sv else lr) := by show _ = _; unfold eraR; simp only [txt_data]
 have l1 := spanT_len h1
 have l2 := spanT_len h2
 have HSO := Lib.hid (fun W ht => Span_ok off W h1.1 h1.2 ht)
 have HSS := Lib.hid (fun W ht => Span_ok sv W h2.1 h2.2 ht)
 have HST := Lib.hid (fun W hl ht => Stamp_ok un W (h3 hl).1 (h3 hl).2 ht)
 have HT := Lib.hid ht
 obtain ⟨so, eo⟩ : ∃ s, spanT off = s := ⟨_, rfl⟩
 obtain ⟨ss, es⟩ : ∃ s, spanT sv = s := ⟨_, rfl⟩
 obtain ⟨su, eu⟩ : ∃ s, stampT un = s := ⟨_, rfl⟩
 have hlu : last = false → su.length ≤ 100 := fun hl => by rw [← eu, stamp_length un (h3 hl).1 (h3 hl).2]; decide
 obtain ⟨rr, er⟩ : ∃ s, eraR ⟨off, txt lr, sv, txt lf, un⟩ = s := ⟨_, rfl⟩
 rw [eo] at HEQ HSO l1
 rw [es] at HER HSS l2
 rw [eu] at HEQ HST
 rw [er] at HEQ HER
 have hrl : rr.length ≤ 60000 := by
  rw [HER.out]
  split
  ·rw [List.length_cons]; omega
  ·omega
 have a1 := add_txt [101, 114, 97, 32] so (by show 4 + so.length ≤ _; omega)
 have a2 := add_txt ([101, 114, 97, 32] ++ so) [32] (by rw [List.length_append]; show 4 + so.length + 1 ≤ _; omega)
 have a3 := add_txt (([101, 114, 97, 32] ++ so) ++ [32]) rr (by rw [List.length_append, List.length_append]; show 4 + so.length + 1 + rr.length ≤ _; omega)
 have a4 := add_txt ((([101, 114, 97, 32] ++ so) ++ [32]) ++ rr) [32] (by rw [List.length_append, List.length_append, List.length_append]; show 4 + so.length + 1 + rr.length + 1 ≤ _; omega)
 have a5 := add_txt (((([101, 114, 97, 32] ++ so) ++ [32]) ++ rr) ++ [32]) lf (by rw [List.length_append, List.length_append, List.length_append, List.length_append]; show 4 + so.length + 1 + rr.length + 1 + lf.length ≤ _; omega)
 have a6 := add_txt [32] su
 have a7 := add_txt ((((([101, 114, 97, 32] ++ so) ++ [32]) ++ rr) ++ [32]) ++ lf) (32 :: su)
 have a0 := add_txt [45] ss (by show 1 + ss.length ≤ _; omega)
 have hll : ((((([101, 114, 97, 32] ++ so) ++ [32]) ++ rr) ++ [32]) ++ lf).length = 4 + so.length + 1 + rr.length + 1 + lf.length := by
  rw [List.length_append, List.length_append, List.length_append, List.length_append, List.length_append]; rfl
 obtain ⟨s1, e1⟩ : ∃ s, [101, 114, 97, 32] ++ so = s := ⟨_, rfl⟩
 rw [e1] at a1 a2 a3 a4 a5 a7 HEQ hll
 obtain ⟨s2, e2⟩ : ∃ s, s1 ++ [32] = s := ⟨_, rfl⟩
 rw [e2] at a2 a3 a4 a5 a7 HEQ hll
 obtain ⟨s3, e3⟩ : ∃ s, s2 ++ rr = s := ⟨_, rfl⟩
 rw [e3] at a3 a4 a5 a7 HEQ hll
 obtain ⟨s4, e4⟩ : ∃ s, s3 ++ [32] = s := ⟨_, rfl⟩
 rw [e4] at a4 a5 a7 HEQ hll
 obtain ⟨s5, e5⟩ : ∃ s, s4 ++ lf = s := ⟨_, rfl⟩
 rw [e5] at a5 a7 HEQ hll
 rw [show txt [101, 114, 97, 32] = (⟨#[101, 114, 97, 32]⟩ : ByteArray) from rfl] at a1
 rw [show txt [32] = (⟨#[32]⟩ : ByteArray) from rfl] at a2 a4 a6
 rw [show txt [45] = (⟨#[45]⟩ : ByteArray) from rfl, show [45] ++ ss = 45 :: ss from rfl] at a0
 rw [show [32] ++ su = 32 :: su from rfl] at a6
 obtain ⟨W0, eW⟩ : ∃ W0, w.alloc (.cells #[.int .i64 off, .string (txt lr), .int .i64 sv, .string (txt lf), .int .i64 un] 43) = W0 := ⟨_, rfl⟩
 obtain ⟨xb, exb⟩ : ∃ xb, w.heap.size = xb := ⟨_, rfl⟩
 have hx0 : W0.heap[xb]? = some (.cells #[.int .i64 off, .string (txt lr), .int .i64 sv, .string (txt lf), .int .i64 un] 43 (0, 0)) := by rw [← eW]; exact alloc_at _ _ _ exb.symm
 have hb0 : Below w.heap.size w W0 := by rw [← eW]; exact alB _ _
 have HCX : Hid (∀ W, Below W0.heap.size W0 W → W.cell? ⟨xb, 0, none⟩ = some (.int .i64 off) ∧ W.cell? ⟨xb, 1, none⟩ = some (.string (txt lr)) ∧ W.cell? ⟨xb, 2, none⟩ = some (.int .i64 sv) ∧ W.cell? ⟨xb, 3, none⟩ = some (.string (txt lf)) ∧ W.cell? ⟨xb, 4, none⟩ = some (.int .i64 un) ∧ Tab10 W) := by
  show ∀ W, _
  intro W hb
  have hx := (hb.block xb (Array.getElem?_eq_some_iff.mp hx0).1).trans hx0
  exact ⟨(cell_of_row W _ 0 _ _ _ hx).trans rfl, (cell_of_row W _ 1 _ _ _ hx).trans rfl, (cell_of_row W _ 2 _ _ _ hx).trans rfl, (cell_of_row W _ 3 _ _ _ hx).trans rfl, (cell_of_row W _ 4 _ _ _ hx).trans rfl, (HT.out.below hb0).below hb⟩
 have HFIN : Hid (∀ W, Below W0.heap.size W0 W → Below w.heap.size w W) := by
  show ∀ W, _
  intro W hb
  exact hb0.trans (hb.mono hb0.size)
 have HEW := Lib.hid eW
 have HXB := Lib.hid exb
 have HL2 := Lib.hid hll
 have HLU := Lib.hid hlu
 have HA6 := Lib.hid a6
 have HA7 := Lib.hid a7
 clear eZ eo es eu er e1 e2 e3 e4 e5 eW exb hx0 hb0 ht h h3 hll hlu a6 a7
 obtain ⟨g0, g1, g2, g3, g4, -⟩ := HCX.out W0 (Below.refl _ _)
 go_enter Tryz.func31, Tryz.ntmps31
 go_upto_region 1 with fail
 rw [HEW.out, HXB.out]
 go_wp2_with fail
 refine (HSO.out W0 (HCX.out W0 (Below.refl _ _)).2.2.2.2.2).mono ?_
 rintro e w1 ⟨rfl, hb1⟩
 have HB1 := Lib.hid hb1
 obtain ⟨y0, y1, y2, y3, y4, yt⟩ := HCX.out w1 hb1
 clear hb1 g0 g1 g2 g3 g4
 by_cases hl0 : lr = []
 ·have hq : ((txt lr).toList == []) = true := by rw [ByteArray.toList_eq, txt_data, hl0]; rfl
  have hrr : rr = 45 :: ss := by rw [HER.out, if_pos hl0]
  subst hrr
  have HS2 := Lib.hid (HSS.out w1 yt)
  clear hl0
  go_wp2_with fail
  refine HS2.out.mono ?_
  rintro e w2 ⟨rfl, hb2⟩
  have HB2 := Lib.hid (HB1.out.trans (hb2.mono HB1.out.size))
  clear hb2 y0 y1 y2 y3 y4 yt
  obtain ⟨y0, y1, y2, y3, y4, yt⟩ := HCX.out w2 HB2.out
  cases last with
  | true =>
   have hZ : Z = s5 := by rw [HEQ.out, if_pos rfl, List.append_nil]
   subst hZ
   go_wp2_with fail
   go_ret
   exact ⟨rfl, HFIN.out _ HB2.out⟩
  | false =>
   have hZ : Z = s5 ++ 32 :: su := by rw [HEQ.out, if_neg (by decide)]
   have a6 := HA6.out (by have := HLU.out rfl; show 1 + su.length ≤ _; omega)
   have a7 := HA7.out (by have := HLU.out rfl; have := HL2.out; rw [List.length_cons]; omega)
   rw [← hZ] at a7
   have HS := Lib.hid (HST.out w2 rfl yt)
   clear hZ
   go_wp2_with fail
   refine HS.out.mono ?_
   rintro e w9 ⟨rfl, hb9⟩
   have hfin := HFIN.out _ (HB2.out |>.trans (hb9.mono (HB2.out).size))
   have HFN := Lib.hid hfin
   clear hb9 hfin
   go_wp2_with fail
   go_ret
   exact ⟨rfl, HFN.out⟩
 ·have hq : ((txt lr).toList == []) = false := by rw [ByteArray.toList_eq, txt_data]; simpa using hl0
  have hrr : rr = lr := by rw [HER.out, if_neg hl0]
  subst hrr
  clear hl0
  cases last with
  | true =>
   have hZ : Z = s5 := by rw [HEQ.out, if_pos rfl, List.append_nil]
   subst hZ
   go_wp2_with fail
   go_ret
   exact ⟨rfl, HFIN.out _ HB1.out⟩
  | false =>
   have hZ : Z = s5 ++ 32 :: su := by rw [HEQ.out, if_neg (by decide)]
   have a6 := HA6.out (by have := HLU.out rfl; show 1 + su.length ≤ _; omega)
   have a7 := HA7.out (by have := HLU.out rfl; have := HL2.out; rw [List.length_cons]; omega)
   rw [← hZ] at a7
   have HS := Lib.hid (HST.out w1 rfl yt)
   clear hZ
   go_wp2_with fail
   refine HS.out.mono ?_
   rintro e w9 ⟨rfl, hb9⟩
   have hfin := HFIN.out _ (HB1.out |>.trans (hb9.mono (HB1.out).size))
   have HFN := Lib.hid hfin
   clear hb9 hfin
   go_wp2_with fail
   go_ret
   exact ⟨rfl, HFN.out⟩
theorem glue_len : ∀ (ws : List (List UInt8)), (∀ x ∈ ws, x.length ≤ 60) → (glue ws).length ≤ 61 * ws.length
 | [], _ => by simp [glue]
 | [x], h => by have := h x (by simp); simp [glue]; omega
 | x :: y :: r, h => by
  have h1 := h x (by simp)
  have h2 := glue_len (y :: r) (fun z hz => h z (List.mem_cons_of_mem _ hz))
  show (x ++ 32 :: glue (y :: r)).length ≤ _
  simp only [List.length_append, List.length_cons] at h2 ⊢
  omega
theorem ruText_len {r : Ru} (o : OkRu r) : (ruText r).length ≤ 549 := by
 have f1 := o.f1; have f2 := o.f2; have t1 := o.t1; have t2 := o.t2; have m1 := o.m1; have m2 := o.m2; have a1 := o.a1; have a2 := o.a2; have s1 := o.s1; have s2 := o.s2
 have n1 := okRu_nm o; have n2 := okRu_lt o
 refine Nat.le_trans (glue_len (ruW r) ?_) (by simp [ruW])
 have hi : ∀ n : Int, -9223372036854775808 ≤ n → n ≤ 9223372036854775807 → (Lib.itoa n).length ≤ 60 := fun n h1 h2 => Nat.le_trans (Lib.itoa_length_le _ h1 h2) (by decide)
 intro x hx
 simp only [ruW, List.mem_cons, List.not_mem_nil, or_false] at hx
 rcases hx with rfl | rfl | rfl | rfl | rfl | rfl | rfl | rfl | rfl
 ·simp
 ·rw [← Lib.size_eq]; omega
 ·exact hi _ (by omega) (by omega)
 ·exact hi _ (by omega) (by omega)
 ·exact hi _ (by omega) (by omega)
 ·exact Nat.le_trans (dayT_len o.d) (by decide)
 ·have g := spanT_len (n := r.tm) ⟨a1, a2⟩
  have g2 : (ckT r.ck).length ≤ 1 := by unfold ckT; split <;> (try split) <;> simp
  rw [List.length_append]; omega
 ·exact Nat.le_trans (spanT_len (n := r.sv) ⟨by omega, by omega⟩) (by decide)
 ·rw [← Lib.size_eq]; omega
def zoH (nm : ByteArray) : List UInt8 := [122, 111, 110, 101, 32] ++ nm.data.toList
def erLs (l : List Er) : List (List UInt8) := (List.range l.length).map fun i => eraT (eraAt l i) (decide (i + 1 = l.length))
def zoLs (z : Zo) : List (List UInt8) := zoH z.nm :: erLs z.eras
def lkL (x : Lk) : List UInt8 := (([108, 105, 110, 107, 32] ++ x.nm.data.toList) ++ [32]) ++ x.tg.data.toList
def bkLs (b : Bk) : List (List UInt8) := b.rules.map ruText ++ b.zones.flatMap zoLs ++ b.links.map lkL
def bkText (b : Bk) : List UInt8 := Lib.join (bkLs b) [10]
def strs (l : List (List UInt8)) : List Value := l.map fun x => .string (txt x)
theorem strs_app (a b : List (List UInt8)) : strs (a ++ b) = strs a ++ strs b := by unfold strs; rw [List.map_append]
theorem abE_len {f : ByteArray} {s : Int} {l : ByteArray} (h : abE f s l = 0) : f.size ≤ 12 := by
 obtain ⟨-, h1, -⟩ := abbrF_ok (show (abbrF f.data.toList s l.data.toList).2 = 0 from h)
 rw [Lib.size_eq]
 apply Classical.byContradiction
 intro hn
 unfold splitF at h1
 rw [if_pos (by omega)] at h1
 cases h1
theorem er_P {rules : List Ru} {l : List Er} {k : Nat} (hr : ∀ r ∈ rules, OkRu r) (h : eraChk rules l k = 0) : ErP (eraAt l k) (decide (k + 1 = l.length)) ∧ (eraAt l k).ru.size ≤ 20 ∧ (eraAt l k).fm.size ≤ 12 := by
 unfold eraChk at h
 dsimp only at h
 split at h
 ·cases h
 rename_i h1
 split at h
 ·cases h
 rename_i h2
 split at h
 ·cases h
 rename_i h3
 split at h
 ·rename_i g; exact absurd h g
 rename_i h4
 have h4 := Classical.not_not.1 h4
 have hru : (eraAt l k).ru.size ≤ 20 := by
  by_cases g : (eraAt l k).ru.data.toList = []
  ·rw [Lib.size_eq, g]; decide
  ·have g2 : (rules.any fun r => decide (r.nm = (eraAt l k).ru)) = true := by
    cases e : (rules.any fun r => decide (r.nm = (eraAt l k).ru)) with
    | true => rfl
    | false => exact absurd ⟨g, e⟩ h3
   obtain ⟨r, hm, e⟩ := List.any_eq_true.1 g2
   have e := of_decide_eq_true e
   rw [← e]
   exact okRu_nm (hr r hm)
 have hfm : (eraAt l k).fm.size ≤ 12 := by
  unfold abbrsChk at h4
  split at h4
  ·exact abE_len h4
  ·split at h4
   ·exact abE_len h4
   ·rename_i g; exact absurd h4 g
 refine ⟨⟨⟨by omega, by omega⟩, ⟨by omega, by omega⟩, fun hl => ?_, by omega, by omega⟩, hru, hfm⟩
 have hl : ¬ k + 1 = l.length := by simpa using hl
 rw [if_neg hl] at h
 split at h
 ·cases h
 split at h
 ·rename_i g; exact absurd h g
 rename_i g
 have g := Classical.not_not.1 g
 unfold stampE at g
 split at g
 ·rename_i g2; exact g2
 ·cases g
theorem eraT_len {x : Er} {last : Bool} (h : ErP x last) (h1 : x.ru.size ≤ 20) (h2 : x.fm.size ≤ 12) : (eraT x last).length ≤ 100 := by
 have a := spanT_len h.o
 have b := spanT_len h.s
 have c : (eraR x).length ≤ 20 := by
  unfold eraR
  split
  ·rw [List.length_cons]; omega
  ·rw [← Lib.size_eq]; exact h1
 unfold eraT
 rw [List.length_append, List.length_append, List.length_append, List.length_append, List.length_append, List.length_append, ← Lib.size_eq]
 have d : (if last = true then [] else 32 :: stampT x.un : List UInt8).length ≤ 20 := by
  cases last with
  | true => rw [if_pos rfl]; exact Nat.zero_le _
  | false =>
   have := stamp_length x.un (h.u rfl).1 (h.u rfl).2
   rw [if_neg (by decide), List.length_cons, this]; decide
 show 4 + _ + 1 + _ + 1 + _ + _ ≤ 100
 omega
theorem join_len : ∀ (l : List (List UInt8)) (n : Nat), (∀ x ∈ l, x.length ≤ n) → (Lib.join l [10]).length ≤ (n + 1) * l.length
 | [], _, _ => by simp [Lib.join]
 | [x], n, h => by
  have := h x List.mem_cons_self
  simp [Lib.join]
  omega
 | x :: y :: r, n, h => by
  have h1 := h x List.mem_cons_self
  have h2 := join_len (y :: r) n (fun z hz => h z (List.mem_cons_of_mem _ hz))
  have e : Lib.join (x :: y :: r) [10] = x ++ 10 :: Lib.join (y :: r) [10] := by unfold Lib.join; simp [List.intercalate]
  rw [e, List.length_append, List.length_cons]
  rw [List.length_cons, Nat.mul_succ]
  omega
theorem addEra_s (f : List (ByteArray × List Er)) (z : ByteArray × List Er) (x : Er) : addEra (f ++ [z]) x = f ++ [(z.1, z.2 ++ [x])] := by
 unfold addEra zD
 simp [List.set_append]
theorem joinC (c : UInt8) : ∀ l : List UInt8, Lib.join (splitC c l) [c] = l
 | [] => rfl
 | x :: r => by
  have ih := joinC c r
  have hne := splitC_ne c r
  unfold splitC
  obtain ⟨a, t, e⟩ : ∃ a t, splitC c r = a :: t := List.exists_cons_of_ne_nil hne
  rw [e] at ih ⊢
  split
  ·rename_i h; subst h
   have : Lib.join ([] :: a :: t) [x] = x :: Lib.join (a :: t) [x] := by simp [Lib.join, List.intercalate]
   rw [this, ih]
  ·have : Lib.join (consHd x (a :: t)) [c] = x :: Lib.join (a :: t) [c] := by cases t <;> simp [consHd, Lib.join, List.intercalate]
   rw [this, ih]
theorem w2 {l a b : List UInt8} (h : splitC 32 l = [a, b]) : l = a ++ 32 :: b := by have := joinC 32 l; rw [h] at this; rw [← this]; simp [Lib.join, List.intercalate]
theorem w3 {l a b c : List UInt8} (h : splitC 32 l = [a, b, c]) : l = a ++ 32 :: (b ++ 32 :: c) := by have := joinC 32 l; rw [h] at this; rw [← this]; simp [Lib.join, List.intercalate]
theorem w4 {l a b c d : List UInt8} (h : splitC 32 l = [a, b, c, d]) : l = a ++ 32 :: (b ++ 32 :: (c ++ 32 :: d)) := by have := joinC 32 l; rw [h] at this; rw [← this]; simp [Lib.join, List.intercalate]
theorem w5 {l a b c d e : List UInt8} (h : splitC 32 l = [a, b, c, d, e]) : l = a ++ 32 :: (b ++ 32 :: (c ++ 32 :: (d ++ 32 :: e))) := by have := joinC 32 l; rw [h] at this; rw [← this]; simp [Lib.join, List.intercalate]
theorem rdRule_eq {r : Ru} (o : OkRu r) (w : World) (ht : Tab10 w) (ha : AscTab w) (hn : NumErrs w) (hm : MaxLen w) : rdRule (ruText r) = (r, 0) := by
 have hl := ruText_len o
 obtain ⟨q, R, RE, -, hu, -⟩ := Parse_nine (ruText r) _ _ _ _ _ _ _ _ _ (ru_split o) (ck_of ⟨o.a1, o.a2⟩ o.c1 o.c2).2.2 w (by omega) ht ha hn hm
 have hx : ∃ q, OkRu q ∧ ruText q = ruText r := ⟨r, o, rfl⟩
 unfold rdRule
 rw [dif_pos hx]
 obtain ⟨h1, h2⟩ := Classical.choose_spec hx
 exact Prod.ext ((hu _ h1 h2).symm.trans (hu r o rfl)) rfl
theorem linesF_app : ∀ (a b : List (List UInt8)) (st st' : RdS) (k k' : Nat), linesF st k a = (some st', k') → linesF st k (a ++ b) = linesF st' k' b
 | [], b, st, st', k, k', h => by
  unfold linesF at h
  injection h with h h2
  injection h with h
  subst h h2
  rfl
 | l :: a, b, st, st', k, k', h => by
  unfold linesF at h
  show linesF st k (l :: (a ++ b)) = _
  conv => lhs; unfold linesF
  cases e : lineF st l with
  | none => rw [e] at h; injection h with h _; cases h
  | some s2 =>
   rw [e] at h
   exact linesF_app a b s2 st' _ k' h
theorem stampT_inj {t u : Int} (h1 : inT t) (h2 : inT u) (e : stampT t = stampT u) : t = u := by
 have a := h1.1; have b := h1.2; have c := h2.1; have d := h2.2
 rcases Int.lt_trichotomy t u with h | h | h
 ·have := (stampT_lt t u (by omega) (by omega) (by omega) (by omega)).2 h
  rw [e] at this
  exact absurd this (List.lt_irrefl _)
 ·exact h
 ·have := (stampT_lt u t (by omega) (by omega) (by omega) (by omega)).2 h
  rw [e] at this
  exact absurd this (List.lt_irrefl _)
theorem rdStamp_eq {t : Int} (h : inT t) : rdStamp (stampT t) = (t, 0) := by
 have hx : ∃ n, inT n ∧ stampT n = stampT t := ⟨t, h, rfl⟩
 unfold rdStamp
 rw [dif_pos hx]
 obtain ⟨h1, h2⟩ := Classical.choose_spec hx
 exact Prod.ext (stampT_inj h1 h h2) rfl
theorem line_ru {r : Ru} (o : OkRu r) (e : rdRule (ruText r) = (r, 0)) (rs : List Ru) : lineF ⟨rs, [], [], 0⟩ (ruText r) = some ⟨rs ++ [r], [], [], 0⟩ := by
 unfold lineF
 rw [if_pos ⟨by rw [ru_split o]; rfl, rfl⟩, e, if_pos rfl]
theorem lines_ru : ∀ (l rs : List Ru) (k : Nat), (∀ r ∈ l, OkRu r ∧ rdRule (ruText r) = (r, 0)) → linesF ⟨rs, [], [], 0⟩ k (l.map ruText) = (some ⟨rs ++ l, [], [], 0⟩, k + l.length)
 | [], rs, k, _ => by simp [linesF]
 | r :: l, rs, k, h => by
  have h1 := h r List.mem_cons_self
  have ih := lines_ru l (rs ++ [r]) (k + 1) fun x hx => h x (List.mem_cons_of_mem _ hx)
  rw [List.map_cons]
  unfold linesF
  rw [line_ru h1.1 h1.2]
  dsimp only
  rw [ih, List.append_assoc, List.length_cons]
  simp only [List.singleton_append, Nat.add_assoc, Nat.add_comm 1]
theorem zo_split {nm : ByteArray} (h : ∀ x ∈ nm.data.toList, x ≠ 32) : splitC 32 (zoH nm) = [zoneW, nm.data.toList] := by
 have : zoH nm = zoneW ++ 32 :: nm.data.toList := rfl
 rw [this, splitC_head 32 zoneW _ (by decide), splitC_last 32 _ h]
theorem lk_split {x : Lk} (h : ∀ c ∈ x.nm.data.toList, c ≠ 32) (h2 : ∀ c ∈ x.tg.data.toList, c ≠ 32) : splitC 32 (lkL x) = [linkW, x.nm.data.toList, x.tg.data.toList] := by
 have : lkL x = linkW ++ 32 :: (x.nm.data.toList ++ 32 :: x.tg.data.toList) := by unfold lkL; simp [linkW]
 rw [this, splitC_head 32 linkW _ (by decide), splitC_head 32 _ _ h, splitC_last 32 _ h2]
theorem line_zo {nm : ByteArray} (h : ∀ x ∈ nm.data.toList, x ≠ 32) (rs : List Ru) (zs : List (ByteArray × List Er)) (sg : Int) (hs : sg ≤ 1) : lineF ⟨rs, zs, [], sg⟩ (zoH nm) = some ⟨rs, zs ++ [(nm, [])], [], 2⟩ := by
 unfold lineF
 rw [zo_split h]
 dsimp only
 rw [if_neg (fun h => absurd (show zoneW = ruleW from h.1) (by decide)), if_pos ⟨rfl, hs, rfl⟩]
 rfl
theorem line_lk {x : Lk} (h : ∀ c ∈ x.nm.data.toList, c ≠ 32) (h2 : ∀ c ∈ x.tg.data.toList, c ≠ 32) (rs : List Ru) (zs : List (ByteArray × List Er)) (ls : List Lk) (sg : Int) (hs : sg ≠ 2) : lineF ⟨rs, zs, ls, sg⟩ (lkL x) = some ⟨rs, zs, ls ++ [x], 3⟩ := by
 unfold lineF
 rw [lk_split h h2]
 dsimp only
 rw [if_neg (fun h => absurd (show linkW = ruleW from h.1) (by decide)), if_neg (fun h => absurd (show linkW = zoneW from h.1) (by decide)), if_neg (show ¬ ([linkW, x.nm.data.toList, x.tg.data.toList] : List (List UInt8)).getD 0 [] = eraW from fun h => absurd (show linkW = eraW from h) (by decide)), if_pos ⟨rfl, hs, rfl⟩]
 rfl
theorem lines_lk : ∀ (l : List Lk) (rs : List Ru) (zs : List (ByteArray × List Er)) (ls : List Lk) (sg : Int) (k : Nat), sg ≠ 2 → (∀ x ∈ l, (∀ c ∈ x.nm.data.toList, c ≠ 32) ∧ ∀ c ∈ x.tg.data.toList, c ≠ 32) → ∃ sg' k', sg' ≠ 2 ∧ linesF ⟨rs, zs, ls, sg⟩ k (l.map lkL) = (some ⟨rs, zs, ls ++ l, sg'⟩, k')
 | [], rs, zs, ls, sg, k, hs, _ => ⟨sg, k, hs, by simp [linesF]⟩
 | x :: l, rs, zs, ls, sg, k, hs, h => by
  have h1 := h x List.mem_cons_self
  obtain ⟨s2, k2, hs2, ih⟩ := lines_lk l rs zs (ls ++ [x]) 3 (k + 1) (by decide) fun y hy => h y (List.mem_cons_of_mem _ hy)
  refine ⟨s2, k2, hs2, ?_⟩
  rw [List.map_cons]
  unfold linesF
  rw [line_lk h1.1 h1.2 rs zs ls sg hs]
  dsimp only
  rw [ih, List.append_assoc]
  rfl
theorem era_split {x : Er} {last : Bool} (h1 : ∀ c ∈ spanT x.off, c ≠ 32) (h2 : ∀ c ∈ eraR x, c ≠ 32) (h3 : ∀ c ∈ x.fm.data.toList, c ≠ 32) (h4 : last = false → ∀ c ∈ stampT x.un, c ≠ 32) : splitC 32 (eraT x last) = [eraW, spanT x.off, eraR x, x.fm.data.toList] ++ (if last = true then [] else [stampT x.un]) := by
 cases last with
 | true =>
  have : eraT x true = eraW ++ 32 :: (spanT x.off ++ 32 :: (eraR x ++ 32 :: x.fm.data.toList)) := by unfold eraT; simp [eraW]
  rw [this, splitC_head 32 eraW _ (by decide), splitC_head 32 _ _ h1, splitC_head 32 _ _ h2, splitC_last 32 _ h3]
  rfl
 | false =>
  have : eraT x false = eraW ++ 32 :: (spanT x.off ++ 32 :: (eraR x ++ 32 :: (x.fm.data.toList ++ 32 :: stampT x.un))) := by unfold eraT; simp [eraW]
  rw [this, splitC_head 32 eraW _ (by decide), splitC_head 32 _ _ h1, splitC_head 32 _ _ h2, splitC_head 32 _ _ h3, splitC_last 32 _ (h4 rfl)]
  rfl
theorem split_join : ∀ l : List (List UInt8), l ≠ [] → (∀ x ∈ l, ∀ c ∈ x, c ≠ 10) → splitC 10 (Lib.join l [10]) = l
 | [], h, _ => absurd rfl h
 | [x], _, h => by
  have e : Lib.join [x] [10] = x := by simp [Lib.join]
  rw [e]
  exact splitC_last 10 x (h x List.mem_cons_self)
 | x :: y :: r, _, h => by
  have e : Lib.join (x :: y :: r) [10] = x ++ 10 :: Lib.join (y :: r) [10] := by unfold Lib.join; simp [List.intercalate]
  rw [e, splitC_head 10 x _ (h x List.mem_cons_self), split_join (y :: r) (by simp) fun z hz => h z (List.mem_cons_of_mem _ hz)]
end Go.Proofs.YtomahddiclkepaaGreatDoor
