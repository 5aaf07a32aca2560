/- Part of the proof. -/
import Derived.Test.YtomahddiclkepaaGreatDoorQw00
import Derived.Test.YtomahddiclkepaaGreatDoorQw14
import Derived.Test.YtomahddiclkepaaGreatDoorQw08
import Derived.Test.YtomahddiclkepaaGreatDoorQw10
import Derived.WalkKit
import Derived.Laws.StructEq
import Derived.Test.YtomahddiclkepaaGreatDoorQw09
import Derived.Test.YtomahddiclkepaaGreatDoorQw07
import Derived.Deep.RegionLaw
import Derived.Deep.RegionHeld3
import Derived.Deep.AppendLies
import Derived.Laws.NewBlocks
import Derived.Laws.OwnMore
import Derived.BigQuiet
import Derived.Lib.SmallJoins
import Derived.Below
set_option maxHeartbeats 20000000
set_option maxRecDepth 1000000
set_option linter.unusedVariables false
set_option linter.unusedSimpArgs false
namespace Go.Proofs.YtomahddiclkepaaGreatDoor
open Go.RowKit Go.Joins
open Classical
structure RdOk (st : RdS) (k : Nat) : Prop where
 r : st.rules.length <= k
 z : st.zones.length <= k
 l : st.links.length <= k
 e : ∀ i, (zD st.zones i).2.length <= k
 n : st.stage = 2 -> st.zones ≠ []
 rs : ∀ r ∈ st.rules, SzR r
 zs : ∀ z ∈ st.zones, z.1.size <= 60000 /\ ∀ x ∈ z.2, SzE x
 ls : ∀ x ∈ st.links, x.nm.size <= 60000 /\ x.tg.size <= 60000
theorem RdOk.sz {st : RdS} {k : Nat} (h : RdOk st k) (hk : k <= 100000) : RdSz st := ⟨by have := h.r; omega, by have := h.z; omega, by have := h.l; omega, fun i => by have := h.e i; omega, h.n⟩
theorem rdOk_0 : RdOk rd0 0 := ⟨Nat.le_refl _, Nat.le_refl _, Nat.le_refl _, fun i => Nat.le_refl _, fun h => absurd h (by decide), fun r h => absurd h (List.not_mem_nil), fun r h => absurd h (List.not_mem_nil), fun r h => absurd h (List.not_mem_nil)⟩
theorem abbr_sizeP {s : ByteArray} (h : abbrB s = true) : s.size <= 8 := by
 unfold abbrB allB at h
 simp only [Bool.and_eq_true, decide_eq_true_eq] at h
 omega
theorem okRu_sz {r : Ru} (o : OkRu r) : SzR r := by
 refine ⟨Nat.le_trans (okRu_nm o) (by decide), ?_⟩
 rcases o.lt with h | h
 ·have e : r.lt.size = 1 := by rw [Lib.size_eq, <- ByteArray.toList_eq, h]; rfl
  omega
 ·have := abbr_sizeP h
  omega
theorem zD_mem {zs : List (ByteArray × List Er)} {i : Nat} (h : i < zs.length) : zD zs i ∈ zs := by
 unfold zD
 rw [List.getD_eq_getElem?_getD, List.getElem?_eq_getElem h]
 exact List.getElem_mem h
theorem zD_out {zs : List (ByteArray × List Er)} {i : Nat} (h : zs.length <= i) : zD zs i = (⟨#[]⟩, []) := by
 unfold zD
 rw [List.getD_eq_getElem?_getD, List.getElem?_eq_none h]
 rfl
theorem eraL_sz {x1 x2 x3 : List UInt8} {w4 : Option (List UInt8)} {x : Er} (h2 : x2.length <= 60000) (h3 : x3.length <= 60000) (h : eraL x1 x2 x3 w4 = some x) : SzE x := by
 have e0 : eraL x1 x2 x3 w4 = eraU x1 x2 x3 (uOf w4) := rfl
 rw [e0] at h
 unfold eraU at h
 have hu : (uOf w4).2 = 0 -> -9223372036854775808 <= (uOf w4).1 /\ (uOf w4).1 <= 9223372036854775807 := by
  intro hz
  cases w4 with
  | none => exact ⟨by decide, by decide⟩
  | some y =>
   have h := (rdStamp_ok (l := y) hz).1
   unfold inT at h
   show -9223372036854775808 <= (rdStamp y).1 /\ (rdStamp y).1 <= 9223372036854775807
   omega
 split at h
 ·cases h
 rename_i g1
 have g1 : (rdSpan x1).2 = 0 := Classical.not_not.1 g1
 have s1 := (rdSpan_ok g1).1
 unfold inS at s1
 split at h
 ·split at h
  ·cases h
  rename_i g2
  rw [not_or] at g2
  have g3 := Classical.not_not.1 g2.1
  have s2 := (rdSpan_ok g3).1
  unfold inS at s2
  have s3 := hu (Classical.not_not.1 g2.2)
  injection h with h
  subst h
  exact ⟨by show ByteArray.size ⟨#[]⟩ <= _; decide, by show (txt x3).size <= _; rw [txt_size]; omega, by show _ <= (rdSpan x1).1; omega, by show (rdSpan x1).1 <= _; omega, by show _ <= (rdSpan (Lib.trimPrefix x2 [45])).1; omega, by show (rdSpan (Lib.trimPrefix x2 [45])).1 <= _; omega, s3.1, s3.2⟩
 ·split at h
  ·cases h
  rename_i g2
  rw [not_or] at g2
  have s3 := hu (Classical.not_not.1 g2.2)
  injection h with h
  subst h
  exact ⟨by show (txt x2).size <= _; rw [txt_size]; omega, by show (txt x3).size <= _; rw [txt_size]; omega, by show _ <= (rdSpan x1).1; omega, by show (rdSpan x1).1 <= _; omega, by show _ <= (0 : Int); decide, by show (0 : Int) <= _; decide, s3.1, s3.2⟩
theorem getD_sm {ws : List (List UInt8)} (h : ∀ x ∈ ws, x.length <= 60000) (k : Nat) : (ws.getD k []).length <= 60000 := by
 by_cases g : k < ws.length
 ·rw [getD_in _ _ g]; exact h _ (List.getElem_mem g)
 ·rw [getD_out _ _ (by omega)]; exact Nat.zero_le _
theorem line_ok {st st' : RdS} {k : Nat} {l : List UInt8} (o : RdOk st k) (hl : l.length <= 60000) (h : lineF st l = some st') : RdOk st' (k + 1) := by
 have hw : ∀ x ∈ splitC 32 l, x.length <= 60000 := fun x hx => Nat.le_trans (splitC_small 32 l x hx) hl
 have hg := getD_sm hw
 have tz : ∀ j, (txt ((splitC 32 l).getD j [])).size <= 60000 := fun j => by rw [txt_size]; exact hg j
 have a1 := o.r
 have a2 := o.z
 have a3 := o.l
 unfold lineF at h
 split at h
 ·split at h
  ·rename_i g
   injection h with h
   subst h
   refine ⟨by show (st.rules ++ [_]).length <= _; rw [List.length_append]; show st.rules.length + 1 <= _; omega, by show st.zones.length <= _; omega, by show st.links.length <= _; omega, fun i => Nat.le_succ_of_le (o.e i), o.n, ?_, o.zs, o.ls⟩
   intro r hr
   rcases List.mem_append.1 hr with hr | hr
   ·exact o.rs r hr
   ·rw [List.mem_singleton.1 hr]; exact okRu_sz (rdRule_ok g).1
  ·cases h
 split at h
 ·injection h with h
  subst h
  refine ⟨by show st.rules.length <= _; omega, by show (st.zones ++ [_]).length <= _; rw [List.length_append]; show st.zones.length + 1 <= _; omega, by show st.links.length <= _; omega, fun i => ?_, fun _ => by show st.zones ++ [_] ≠ []; simp, o.rs, ?_, o.ls⟩
  ·show (zD (st.zones ++ [(txt ((splitC 32 l).getD 1 []), [])]) i).2.length <= _
   rcases Nat.lt_trichotomy i st.zones.length with g | g | g
   ·rw [(zD_snoc _ _ i).1 g]; exact Nat.le_succ_of_le (o.e i)
   ·rw [(zD_snoc _ _ i).2 g]; exact Nat.zero_le _
   ·rw [zD_out (by rw [List.length_append]; show st.zones.length + 1 <= i; omega)]; exact Nat.zero_le _
  ·intro z hz
   rcases List.mem_append.1 hz with hz | hz
   ·exact o.zs z hz
   ·rw [List.mem_singleton.1 hz]; exact ⟨tz 1, fun x hx => absurd hx (List.not_mem_nil)⟩
 split at h
 ·unfold eraF at h
  split at h
  ·cases h
  rename_i g
  rw [not_or] at g
  have hst := Classical.not_not.1 g.1
  split at h
  ·cases h
  rename_i x hx
  injection h with h
  subst h
  have hsx := eraL_sz (hg 2) (hg 3) hx
  have hnz : 0 < st.zones.length := List.length_pos_iff.2 (o.n hst)
  refine ⟨by show st.rules.length <= _; omega, by show (addEra st.zones x).length <= _; rw [addEra_length]; omega, by show st.links.length <= _; omega, fun i => ?_, fun _ => ?_, o.rs, ?_, o.ls⟩
  ·show (zD (addEra st.zones x) i).2.length <= _
   unfold addEra
   rw [zD_set _ _ _ _ (by omega)]
   split
   ·show ((zD st.zones (st.zones.length - 1)).2 ++ [x]).length <= _
    have := o.e (st.zones.length - 1)
    rw [List.length_append]; show _ + 1 <= _; omega
   ·exact Nat.le_succ_of_le (o.e i)
  ·show addEra st.zones x ≠ []
   intro e
   have := addEra_length st.zones x
   rw [e] at this
   simp at this
   omega
  ·intro z hz
   have hz : z ∈ st.zones.set (st.zones.length - 1) ((zD st.zones (st.zones.length - 1)).1, (zD st.zones (st.zones.length - 1)).2 ++ [x]) := hz
   have hm := zD_mem (zs := st.zones) (i := st.zones.length - 1) (by omega)
   rcases List.mem_or_eq_of_mem_set hz with hz | rfl
   ·exact o.zs z hz
   ·refine ⟨(o.zs _ hm).1, fun y hy => ?_⟩
    rcases List.mem_append.1 hy with hy | hy
    ·exact (o.zs _ hm).2 y hy
    ·rw [List.mem_singleton.1 hy]; exact hsx
 split at h
 ·injection h with h
  subst h
  refine ⟨by show st.rules.length <= _; omega, by show st.zones.length <= _; omega, by show (st.links ++ [_]).length <= _; rw [List.length_append]; show st.links.length + 1 <= _; omega, fun i => Nat.le_succ_of_le (o.e i), fun e => absurd (show (3 : Int) = 2 from e) (by decide), o.rs, o.zs, ?_⟩
  intro x hx
  rcases List.mem_append.1 hx with hx | hx
  ·exact o.ls x hx
  ·rw [List.mem_singleton.1 hx]; exact ⟨tz 1, tz 2⟩
 ·cases h
def zosE : List (ByteArray × List Er) -> List Value -> List Zo
 | z :: zs, e :: es => ⟨z.1, e, z.2⟩ :: zosE zs es
 | _, _ => []
theorem zosE_len : ∀ (zs : List (ByteArray × List Er)) (es : List Value), zs.length = es.length -> (zosE zs es).length = zs.length
 | [], [], _ => rfl
 | [], _ :: _, h => by cases h
 | _ :: _, [], h => by cases h
 | z :: zs, e :: es, h => by
  have h : zs.length = es.length := by simpa using h
  show (zosE zs es).length + 1 = zs.length + 1
  rw [zosE_len zs es h]
theorem zosE_get : ∀ (zs : List (ByteArray × List Er)) (es : List Value), zs.length = es.length -> ∀ (i : Nat) (h : i < (zosE zs es).length) (h2 : i < es.length), (zosE zs es)[i] = ⟨(zD zs i).1, es[i], (zD zs i).2⟩
 | [], [], _, i, h, _ => absurd h (Nat.not_lt_zero _)
 | [], _ :: _, h, _, _, _ => by cases h
 | _ :: _, [], h, _, _, _ => by cases h
 | z :: zs, e :: es, _, 0, _, _ => rfl
 | z :: zs, e :: es, h, i + 1, h1, h2 => by
  have h : zs.length = es.length := by simpa using h
  have h1 : i < (zosE zs es).length := by simpa [zosE] using h1
  have h2 : i < es.length := by simpa using h2
  exact zosE_get zs es h i h1 h2
theorem zosE_cs : ∀ (zs : List (ByteArray × List Er)) (es : List Value), zoCs zs es = (zosE zs es).flatMap zoCells
 | z :: zs, e :: es => by
  show .string z.1 :: e :: zoCs zs es = _
  rw [zosE_cs zs es]; rfl
 | [], _ => rfl
 | _ :: _, [] => rfl
def clrZ (z : Zo) : Zo := ⟨z.nm, undef, z.eras⟩
theorem any_clr (zs : List Zo) (n : ByteArray) : ((zs.map clrZ).any fun y => decide (y.nm = n)) = zs.any fun y => decide (y.nm = n) := by
 rw [List.any_map]; rfl
theorem firstE_congr {α : Type} {f g : α -> Int} : ∀ (l : List α), (∀ x ∈ l, f x = g x) -> firstE f l = firstE g l
 | [], _ => rfl
 | x :: r, h => by
  unfold firstE
  rw [h x List.mem_cons_self, firstE_congr r fun y hy => h y (List.mem_cons_of_mem _ hy)]
theorem bkChk_clr (rs : List Ru) (zs : List Zo) (ls : List Lk) : bkChk ⟨rs, zs.map clrZ, ls⟩ = bkChk ⟨rs, zs, ls⟩ := by
 have hz : firstE (chkZ ⟨rs, zs.map clrZ, ls⟩) (List.range (zs.map clrZ).length) = firstE (chkZ ⟨rs, zs, ls⟩) (List.range zs.length) := by
  rw [List.length_map]
  refine firstE_congr _ fun i hi => ?_
  have hi := List.mem_range.1 hi
  have e1 := chkZ_at (⟨rs, zs.map clrZ, ls⟩ : Bk) i (by show i < (zs.map clrZ).length; rw [List.length_map]; exact hi)
  have e2 := chkZ_at (⟨rs, zs, ls⟩ : Bk) i hi
  refine e1.trans (Eq.trans ?_ e2.symm)
  show zoneChk rs ((zs.map clrZ).take i) ((zs.map clrZ)[i]'(by rw [List.length_map]; exact hi)) = zoneChk rs (zs.take i) zs[i]
  rw [List.getElem_map, <- List.map_take]
  unfold zoneChk
  have e3 := any_clr (zs.take i) zs[i].nm
  show (if nameB zs[i].nm = false then (3 : Int) else if (((zs.take i).map clrZ).any fun y => decide (y.nm = zs[i].nm)) = true then 7 else _) = _
  rw [e3]
  rfl
 have hlz : (zs.map clrZ).length = zs.length := List.length_map _
 have hl : firstE (chkL ⟨rs, zs.map clrZ, ls⟩) (List.range ls.length) = firstE (chkL ⟨rs, zs, ls⟩) (List.range ls.length) := by
  refine firstE_congr _ fun i hi => ?_
  have e : ∀ n, isZone ⟨rs, zs.map clrZ, ls⟩ n = isZone ⟨rs, zs, ls⟩ n := fun n => any_clr zs n
  unfold chkL linkChk
  rw [e, e]
 by_cases h0 : 40 < rs.length \/ 20 < zs.length \/ 20 < ls.length
 ·have e1 := bkChk_2 (⟨rs, zs.map clrZ, ls⟩ : Bk) (by show 40 < rs.length \/ 20 < (zs.map clrZ).length \/ 20 < ls.length; rw [hlz]; exact h0)
  have e2 := bkChk_2 (⟨rs, zs, ls⟩ : Bk) h0
  exact e1.trans e2.symm
 ·have h0' : ¬ (40 < (⟨rs, zs.map clrZ, ls⟩ : Bk).rules.length \/ 20 < (⟨rs, zs.map clrZ, ls⟩ : Bk).zones.length \/ 20 < (⟨rs, zs.map clrZ, ls⟩ : Bk).links.length) := by
   show ¬ (40 < rs.length \/ 20 < (zs.map clrZ).length \/ 20 < ls.length)
   rw [hlz]; exact h0
  by_cases h1 : firstE ruChk rs = 0
  ·by_cases h2 : firstE (chkZ ⟨rs, zs, ls⟩) (List.range zs.length) = 0
   ·exact (bkChk_l _ h0' h1 (hz.trans h2)).trans (hl.trans (bkChk_l (⟨rs, zs, ls⟩ : Bk) h0 h1 h2).symm)
   ·exact (bkChk_z _ h0' h1 (fun g => h2 (hz.symm.trans g))).trans (hz.trans (bkChk_z (⟨rs, zs, ls⟩ : Bk) h0 h1 h2).symm)
  ·exact (bkChk_r _ h0' h1).trans (bkChk_r (⟨rs, zs, ls⟩ : Bk) h0 h1).symm
theorem bkS_chk (st : RdS) (evs : List Value) (h : st.zones.length = evs.length) : bkChk (bkS st fun _ => undef) = bkChk ⟨st.rules, zosE st.zones evs, st.links⟩ := by
 rw [<- bkChk_clr st.rules (zosE st.zones evs) st.links]
 have e : (st.zones.zipIdx.map fun z : (ByteArray × List Er) × Nat => (⟨z.1.1, undef, z.1.2⟩ : Zo)) = (zosE st.zones evs).map clrZ := by
  refine List.ext_getElem (by rw [List.length_map, List.length_map, List.length_zipIdx, zosE_len _ _ h]) fun i h1 h2 => ?_
  have hi : i < st.zones.length := by simpa using h1
  rw [List.getElem_map, List.getElem_map, List.getElem_zipIdx, zosE_get _ _ h i (by rw [zosE_len _ _ h]; exact hi) (by omega)]
  have hz : zD st.zones i = st.zones[i] := by unfold zD; rw [List.getD_eq_getElem?_getD, List.getElem?_eq_getElem hi]; rfl
  show (⟨st.zones[i].1, undef, st.zones[i].2⟩ : Zo) = ⟨(zD st.zones i).1, undef, (zD st.zones i).2⟩
  rw [hz]
 show bkChk ⟨st.rules, _, st.links⟩ = _
 rw [e]
theorem RdM.book {B R : Nat} {W : World} {rv zv lv : Value} {evs : List Value} {st : RdS} {k : Nat} (h : RdM B W R rv zv lv evs st) (o : RdOk st k) (hk : k <= 100000) : BookAt W.heap.size W rv zv lv ⟨st.rules, zosE st.zones evs, st.links⟩ := by
 have el := h.el
 have hl := zosE_len st.zones evs el
 have a1 := o.r
 have a2 := o.z
 have a3 := o.l
 have hz := h.zr
 rw [zosE_cs, <- hl] at hz
 refine ⟨own_rowsG (cells := fun r : Ru => (ruCells r).toList) (k := 11) (fun _ => rfl) h.rr (by show st.rules.length <= 100000; omega), own_rowsG (cells := zoCells) (k := 2) (fun _ => rfl) hz (by show (zosE st.zones evs).length <= 100000; omega), ?_, own_rowsG (cells := lkCells) (k := 2) (fun _ => rfl) h.lr (by show st.links.length <= 100000; omega), o.rs, ?_, fun x hx => ⟨Nat.le_trans (o.ls x hx).1 (by decide), Nat.le_trans (o.ls x hx).2 (by decide)⟩⟩
 ·intro z hz
  obtain ⟨i, hi, rfl⟩ := List.mem_iff_getElem.1 hz
  have hi2 : i < evs.length := by have : i < (zosE st.zones evs).length := hi; omega
  have e := zosE_get st.zones evs el i hi hi2
  show RowsAt _ 5 W.heap.size W (zosE st.zones evs)[i].ev (zosE st.zones evs)[i].eras
  rw [e]
  have := o.e i
  exact own_rowsG (cells := fun x : Er => (erCells x).toList) (k := 5) (fun _ => rfl) (h.er i hi2) (by show (zD st.zones i).2.length <= 100000; omega)
 ·intro z hz
  obtain ⟨i, hi, rfl⟩ := List.mem_iff_getElem.1 hz
  have hi2 : i < evs.length := by have : i < (zosE st.zones evs).length := hi; omega
  have e := zosE_get st.zones evs el i hi hi2
  show (zosE st.zones evs)[i].nm.size <= _ /\ ∀ x ∈ (zosE st.zones evs)[i].eras, SzE x
  rw [e]
  have hm := o.zs _ (zD_mem (zs := st.zones) (i := i) (by omega))
  exact ⟨Nat.le_trans hm.1 (by decide), hm.2⟩
theorem lines_step {ls : List (List UInt8)} {st : RdS} {k j : Nat} (hk : k < ls.length) : linesF st j (ls.drop k) = match lineF st ls[k] with | none => (none, j + 1) | some st' => linesF st' (j + 1) (ls.drop (k + 1)) := by
 rw [List.drop_eq_getElem_cons hk]
 rfl
theorem pf_large {l : List UInt8} (h : 60000 < l.length) : parseF l = (rd0, 0, 2) := by unfold parseF; rw [if_pos h]
theorem pf_nil {l : List UInt8} (h : l = []) : parseF l = (rd0, 0, 0) := by subst h; unfold parseF; rw [if_neg (by decide), if_pos rfl]
theorem pf_line {l : List UInt8} (h : ¬ 60000 < l.length) (h2 : l ≠ []) {k : Nat} (e : linesF rd0 0 (splitC 10 l) = (none, k)) : parseF l = (rd0, k, 3) := by unfold parseF; rw [if_neg h, if_neg h2, e]
theorem pf_end {l : List UInt8} (h : ¬ 60000 < l.length) (h2 : l ≠ []) {k : Nat} {st : RdS} (e : linesF rd0 0 (splitC 10 l) = (some st, k)) (hs : st.stage = 2) : parseF l = (rd0, k + 1, 3) := by unfold parseF; rw [if_neg h, if_neg h2, e]; exact if_pos hs
theorem pf_chk {l : List UInt8} (h : ¬ 60000 < l.length) (h2 : l ≠ []) {k : Nat} {st : RdS} (e : linesF rd0 0 (splitC 10 l) = (some st, k)) (hs : st.stage ≠ 2) (hc : bkChk (bkS st fun _ => undef) ≠ 0) : parseF l = (rd0, 0, bkChk (bkS st fun _ => undef)) := by unfold parseF; rw [if_neg h, if_neg h2, e]; exact (if_neg hs).trans (if_pos hc)
theorem pf_ok {l : List UInt8} (h : ¬ 60000 < l.length) (h2 : l ≠ []) {k : Nat} {st : RdS} (e : linesF rd0 0 (splitC 10 l) = (some st, k)) (hs : st.stage ≠ 2) (hc : bkChk (bkS st fun _ => undef) = 0) : parseF l = (st, 0, 0) := by unfold parseF; rw [if_neg h, if_neg h2, e]; exact (if_neg hs).trans (if_neg fun g => g hc)
end Go.Proofs.YtomahddiclkepaaGreatDoor
namespace Go.Proofs.YtomahddiclkepaaGreatDoor
open Go.RowKit Go.Joins Go.Maps
open Classical
theorem lookF_clrA (k : ByteArray) : ∀ (zs : List Zo) (acc : Option Zo), (zs.map clrZ).foldl (fun acc x => if x.nm = k then some x else acc) (acc.map clrZ) = (zs.foldl (fun acc x => if x.nm = k then some x else acc) acc).map clrZ
 | [], acc => rfl
 | z :: r, acc => by
  rw [List.map_cons, List.foldl_cons, List.foldl_cons]
  by_cases g : z.nm = k
  ·rw [if_pos (show (clrZ z).nm = k from g), if_pos g]
   exact lookF_clrA k r (some z)
  ·rw [if_neg (show ¬ (clrZ z).nm = k from g), if_neg g]
   exact lookF_clrA k r acc
theorem lookF_clr (zs : List Zo) (k : ByteArray) : lookF (·.nm) (zs.map clrZ) k = (lookF (·.nm) zs k).map clrZ := lookF_clrA k zs none
theorem resF_clr (zs : List Zo) (ls : List Lk) : ∀ (n : Nat) (k : ByteArray), resF (zs.map clrZ) ls n k = ((resF zs ls n k).1.map clrZ, (resF zs ls n k).2)
 | 0, _ => rfl
 | n + 1, k => by
  unfold resF
  rw [lookF_clr]
  cases e : lookF (·.nm) zs k with
  | some z => rfl
  | none =>
   cases e2 : lookF (·.nm) ls k with
   | none => rfl
   | some x => exact resF_clr zs ls n x.tg
theorem mkT_clr (rs : List Ru) (zs : List Zo) (ls : List Lk) (nm : ByteArray) (fr te : Int) : mkT ⟨rs, zs.map clrZ, ls⟩ nm fr te = mkT ⟨rs, zs, ls⟩ nm fr te := by
 by_cases h : bkChk ⟨rs, zs, ls⟩ = 0
 ·have h2 : bkChk ⟨rs, zs.map clrZ, ls⟩ = 0 := by rw [bkChk_clr]; exact h
  unfold mkT
  rw [rsv_go h, rsv_go h2]
  show (match (resF (zs.map clrZ) ls _ nm).1 with | none => _ | some z => _) = _
  rw [resF_clr]
  cases e : (resF zs ls (Maps.size (DL ls) + 1) nm).1 with
  | none => rfl
  | some z => rfl
 ·have h2 : bkChk ⟨rs, zs.map clrZ, ls⟩ ≠ 0 := by rw [bkChk_clr]; exact h
  unfold mkT
  rw [rsv_bad h, rsv_bad h2, bkChk_clr]
theorem mkT_same {b c : Bk} (h1 : c.rules = b.rules) (h2 : c.links = b.links) (h3 : c.zones.map (fun z => (z.nm, z.eras)) = b.zones.map fun z => (z.nm, z.eras)) (nm : ByteArray) (fr te : Int) : mkT c nm fr te = mkT b nm fr te := by
 have e : c.zones.map clrZ = b.zones.map clrZ := by
  have := congrArg (List.map fun p : ByteArray × List Er => (⟨p.1, undef, p.2⟩ : Zo)) h3
  rw [List.map_map, List.map_map] at this
  exact this
 obtain ⟨rs, zs, ls⟩ := b
 obtain ⟨rs2, zs2, ls2⟩ := c
 simp only at h1 h2 e
 subst h1 h2
 rw [<- mkT_clr rs2 zs2 ls2, e, mkT_clr]
end Go.Proofs.YtomahddiclkepaaGreatDoor
namespace Go.Proofs.YtomahddiclkepaaGreatDoor
open Go.RowKit
open Classical
theorem fieldsTyN : (Tryz.prog.fieldsOf 51).toList = [{ name := "Offset", type := 3, offset := 0, embedded := false, tag := "", pkgPath := "", byteOffset := 0 }, { name := "Save", type := 4, offset := 1, embedded := false, tag := "", pkgPath := "", byteOffset := 8 }, { name := "Name", type := 9, offset := 2, embedded := false, tag := "", pkgPath := "", byteOffset := 16 }] := by kernel_rfl
theorem agg_tyN : Tryz.prog.underlying 51 = some (.struct (Tryz.prog.fieldsOf 51)) := by kernel_rfl
theorem stood_tyN : Tryz.prog.stoodInHeld 51 = false := by kernel_rfl
theorem ty_eq {x y : Ty} : x = y ↔ x.off = y.off /\ x.save = y.save /\ x.name = y.name := by
 cases x; cases y; simp
theorem bytes_ne {a b : ByteArray} (h : a ≠ b) : (a.toList == b.toList) = false := by
 cases he : a.toList == b.toList
 ·rfl
 ·have : a.toList = b.toList := by simpa using he
  rw [ByteArray.toList_eq, ByteArray.toList_eq] at this
  exact absurd (by cases a; cases b; simp_all) h
theorem eql_ty (x y : Ty) (W : World) : (binOp .eql 51 (.agg #[.int .i64 x.off, .bool x.save, .string x.name]) (.agg #[.int .i64 y.off, .bool y.save, .string y.name])).run Tryz.prog W = .ok (.bool (decide (x = y))) W := by
 rw [run_eql_struct, run_equalIn_agg W 9999 _ _ _ agg_tyN stood_tyN, fieldsTyN]
 by_cases h1 : x.off = y.off
 ·by_cases h2 : x.save = y.save
  ·by_cases h3 : x.name = y.name
   ·have e : x = y := ty_eq.2 ⟨h1, h2, h3⟩
    simp [go_sem, Op.eqFields, Tryz.underlying3, Tryz.underlying4, Tryz.underlying9, e]
   ·have e : ¬ x = y := fun e => h3 (by rw [e])
    simp [go_sem, Op.eqFields, Tryz.underlying3, Tryz.underlying4, Tryz.underlying9, e, h1, h2, bytes_ne h3]
  ·have e : ¬ x = y := fun e => h2 (by rw [e])
   simp [go_sem, Op.eqFields, Tryz.underlying3, Tryz.underlying4, Tryz.underlying9, e, h1, h2]
 ·have e : ¬ x = y := fun e => h1 (by rw [e])
  simp [go_sem, Op.eqFields, Tryz.underlying3, Tryz.underlying4, Tryz.underlying9, e, h1]
theorem eql_tySelf (o : Int) (s : Bool) (n : ByteArray) (W : World) : (binOp .eql 51 (.agg #[.int .i64 o, .bool s, .string n]) (.agg #[.int .i64 o, .bool s, .string n])).run Tryz.prog W = .ok (.bool true) W := by
 have := eql_ty ⟨o, s, n⟩ ⟨o, s, n⟩ W
 rwa [decide_eq_true rfl] at this
theorem neq_tyN (x y : Ty) (W : World) : (binOp .neq 51 (.agg #[.int .i64 x.off, .bool x.save, .string x.name]) (.agg #[.int .i64 y.off, .bool y.save, .string y.name])).run Tryz.prog W = .ok (.bool (!decide (x = y))) W := by
 rw [run_neq_struct, run_equalIn_agg W 9999 _ _ _ agg_tyN stood_tyN, fieldsTyN]
 by_cases h1 : x.off = y.off
 ·by_cases h2 : x.save = y.save
  ·by_cases h3 : x.name = y.name
   ·have e : x = y := ty_eq.2 ⟨h1, h2, h3⟩
    simp [go_sem, Op.eqFields, Tryz.underlying3, Tryz.underlying4, Tryz.underlying9, e]
   ·have e : ¬ x = y := fun e => h3 (by rw [e])
    simp [go_sem, Op.eqFields, Tryz.underlying3, Tryz.underlying4, Tryz.underlying9, e, h1, h2, bytes_ne h3]
  ·have e : ¬ x = y := fun e => h2 (by rw [e])
   simp [go_sem, Op.eqFields, Tryz.underlying3, Tryz.underlying4, Tryz.underlying9, e, h1, h2]
 ·have e : ¬ x = y := fun e => h1 (by rw [e])
  simp [go_sem, Op.eqFields, Tryz.underlying3, Tryz.underlying4, Tryz.underlying9, e, h1]
theorem neq_tySelf (o : Int) (s : Bool) (n : ByteArray) (W : World) : (binOp .neq 51 (.agg #[.int .i64 o, .bool s, .string n]) (.agg #[.int .i64 o, .bool s, .string n])).run Tryz.prog W = .ok (.bool false) W := by
 have := neq_tyN ⟨o, s, n⟩ ⟨o, s, n⟩ W
 rwa [decide_eq_true rfl] at this
end Go.Proofs.YtomahddiclkepaaGreatDoor
namespace Go.Proofs.YtomahddiclkepaaGreatDoor
open Go.RowKit Go.Joins
open Classical
def tyC (x : Ty) : List Value := [.int .i64 x.off, .bool x.save, .string x.name]
def chC (x : Ch) : List Value := [.int .i64 x.t, .int .i64 x.k]
def tyCells (l : List Ty) : List Value := l.flatMap tyC
def chCells (l : List Ch) : List Value := l.flatMap chC
theorem tyCells_snoc (l : List Ty) (x : Ty) : tyCells (l ++ [x]) = tyCells l ++ tyC x := by simp [tyCells]
theorem chCells_snoc (l : List Ch) (x : Ch) : chCells (l ++ [x]) = chCells l ++ chC x := by simp [chCells]
theorem tyCells_get : ∀ (l : List Ty) (i : Nat) (h : i < l.length), (tyCells l)[i * 3]? = some (.int .i64 l[i].off) /\ (tyCells l)[i * 3 + 1]? = some (.bool l[i].save) /\ (tyCells l)[i * 3 + 2]? = some (.string l[i].name)
 | [], i, h => by simp at h
 | x :: r, 0, _ => by simp [tyCells, tyC]
 | x :: r, i + 1, h => by
  have := tyCells_get r i (by simpa using h)
  have e : tyCells (x :: r) = tyC x ++ tyCells r := by simp [tyCells]
  rw [e]
  have e3 : (tyC x).length = 3 := rfl
  rw [List.getElem?_append_right (by rw [e3]; omega), List.getElem?_append_right (by rw [e3]; omega), List.getElem?_append_right (by rw [e3]; omega), e3,
   show (i + 1) * 3 - 3 = i * 3 by omega, show (i + 1) * 3 + 1 - 3 = i * 3 + 1 by omega, show (i + 1) * 3 + 2 - 3 = i * 3 + 2 by omega]
  simpa using this
theorem chCells_get : ∀ (l : List Ch) (i : Nat) (h : i < l.length), (chCells l)[i * 2]? = some (.int .i64 l[i].t) /\ (chCells l)[i * 2 + 1]? = some (.int .i64 l[i].k)
 | [], i, h => by simp at h
 | x :: r, 0, _ => by simp [chCells, chC]
 | x :: r, i + 1, h => by
  have := chCells_get r i (by simpa using h)
  have e : chCells (x :: r) = chC x ++ chCells r := by simp [chCells]
  rw [e]
  have e3 : (chC x).length = 2 := rfl
  rw [List.getElem?_append_right (by rw [e3]; omega), List.getElem?_append_right (by rw [e3]; omega), e3,
   show (i + 1) * 2 - 2 = i * 2 by omega, show (i + 1) * 2 + 1 - 2 = i * 2 + 1 by omega]
  simpa using this
theorem own_types {W : World} {B : Nat} {v : Value} {l : List Ty} (h : W.ownsRow B 51 3 v l.length (tyCells l)) (hl : l.length <= 100000000) (hn : ∀ x ∈ l, x.name.size <= maxLen) : SlTy W v l := by
 refine ⟨?_, by simp only [maxLen]; omega, hn⟩
 rcases own_cells h with ⟨rfl, h0⟩ | ⟨g, cap, rfl, hb, hg, hc⟩
 ·have : l = [] := List.eq_nil_of_length_eq_zero h0
  subst this
  exact ⟨none, 0, rfl, fun h => absurd rfl h⟩
 ·refine ⟨_, cap, rfl, fun _ => ⟨g, 0, rfl, hg, fun i hi => ?_⟩⟩
  obtain ⟨k1, k2, k3⟩ := tyCells_get l i hi
  exact ⟨by rw [Nat.zero_add]; exact hc _ _ k1, by rw [Nat.zero_add]; exact hc _ _ k2, by rw [Nat.zero_add]; exact hc _ _ k3⟩
theorem own_chs {W : World} {B : Nat} {v : Value} {l : List Ch} (h : W.ownsRow B 61 2 v l.length (chCells l)) (hl : l.length <= 100000000) : SlCh W v l := by
 refine ⟨?_, by simp only [maxLen]; omega⟩
 rcases own_cells h with ⟨rfl, h0⟩ | ⟨g, cap, rfl, hb, hg, hc⟩
 ·have : l = [] := List.eq_nil_of_length_eq_zero h0
  subst this
  exact ⟨none, 0, rfl, fun h => absurd rfl h⟩
 ·refine ⟨_, cap, rfl, fun _ => ⟨g, 0, rfl, hg, fun i hi => ?_⟩⟩
  obtain ⟨k1, k2⟩ := chCells_get l i hi
  exact ⟨by rw [Nat.zero_add]; exact hc _ _ k1, by rw [Nat.zero_add]; exact hc _ _ k2⟩
theorem fieldsChN : (Tryz.prog.fieldsOf 61).toList = [{ name := "At", type := 3, offset := 0, embedded := false, tag := "", pkgPath := "", byteOffset := 0 }, { name := "Type", type := 3, offset := 1, embedded := false, tag := "", pkgPath := "", byteOffset := 8 }] := by kernel_rfl
theorem agg_chN : Tryz.prog.underlying 61 = some (.struct (Tryz.prog.fieldsOf 61)) := by kernel_rfl
theorem stood_chN : Tryz.prog.stoodInHeld 61 = false := by kernel_rfl
theorem ch_eq {x y : Ch} : x = y ↔ x.t = y.t /\ x.k = y.k := by
 cases x; cases y; simp
theorem neq_chN (x y : Ch) (W : World) : (binOp .neq 61 (.agg #[.int .i64 x.t, .int .i64 x.k]) (.agg #[.int .i64 y.t, .int .i64 y.k])).run Tryz.prog W = .ok (.bool (!decide (x = y))) W := by
 rw [run_neq_struct, run_equalIn_agg W 9999 _ _ _ agg_chN stood_chN, fieldsChN]
 by_cases h1 : x.t = y.t
 ·by_cases h2 : x.k = y.k
  ·have e : x = y := ch_eq.2 ⟨h1, h2⟩
   simp [go_sem, Op.eqFields, Tryz.underlying3, e]
  ·have e : ¬ x = y := fun e => h2 (by rw [e])
   simp [go_sem, Op.eqFields, Tryz.underlying3, e, h1, h2]
 ·have e : ¬ x = y := fun e => h1 (by rw [e])
  simp [go_sem, Op.eqFields, Tryz.underlying3, e, h1]
theorem below_drewNm {B : Nat} {a w : World} (h : Below B a w) (n : Nat) : Below B a (w.drewN n) := ⟨h.os, h.tape, h.output, h.size, h.block⟩
noncomputable def idxI (l : List Ty) (x : Ty) : Int := if x ∈ l then (idxTy l x : Int) else -1
theorem idx_first {l : List Ty} {x : Ty} {k : Nat} (hk : k < l.length) (hx : l[k] = x) (hno : ∀ j (h : j < k), l[j]'(by omega) ≠ x) : idxTy l x = k := by
 unfold idxTy
 rw [List.findIdx_eq hk]
 exact ⟨by simp [hx], fun j hj => by simpa using hno j hj⟩
theorem IndexTy_any (l : List Ty) (x : Ty) (v : Value) (w : World) (h1 : SlTy w v l) (hl : l.length <= 100000000) :
 Calls Tryz.prog 152 #[v, tyV x] w fun e w' => e = .returned (.int .i64 (idxI l x)) /\ Below w.heap.size w w' := by
 obtain ⟨p, cap, rfl, g1⟩ := h1.shape
 have HA := qH g1
 clear h1 g1
 go_enter Tryz.func152, Tryz.ntmps152
 go_wp2
 go_loopw [8] (fun i wr => ∃ k : Nat, k <= l.length /\ i = .int .i64 k /\ (∀ j (h : j < k) (h2 : j < l.length), l[j] ≠ x) /\ Below (w.alloc (.cells #[.int .i64 x.off, .bool x.save, .string x.name] 51)).heap.size (w.alloc (.cells #[.int .i64 x.off, .bool x.save, .string x.name] 51)) wr) (fun i _ => l.length - (intOf i).toNat)
 case atStart => exact ⟨0, Nat.zero_le _, rfl, fun j h => absurd h (Nat.not_lt_zero j), Below.refl _ _⟩
 case round =>
  obtain ⟨k, hk, rfl, hno, hbel⟩ := hrel
  have hbw : Below w.heap.size w wr := ((Below.refl _ w).alloc (Nat.le_refl _) _).trans (hbel.mono (by simp))
  have f0 : wr.cell? ⟨w.heap.size, 0, none⟩ = some (.int .i64 x.off) := (hbel.cell (p := ⟨w.heap.size, 0, none⟩) (by simp)).trans ((cell_of_row _ _ _ _ _ _ (heap_alloc_new w _)).trans rfl)
  have f1 : wr.cell? ⟨w.heap.size, 1, none⟩ = some (.bool x.save) := (hbel.cell (p := ⟨w.heap.size, 1, none⟩) (by simp)).trans ((cell_of_row _ _ _ _ _ _ (heap_alloc_new w _)).trans rfl)
  have f2 : wr.cell? ⟨w.heap.size, 2, none⟩ = some (.string x.name) := (hbel.cell (p := ⟨w.heap.size, 2, none⟩) (by simp)).trans ((cell_of_row _ _ _ _ _ _ (heap_alloc_new w _)).trans rfl)
  have HBL := qH hbel
  have HBW := qH hbw
  have HNO := qH hno
  clear hbel hbw hno
  by_cases hlt : k < l.length
  ·obtain ⟨y, ey⟩ : ∃ y, l[k] = y := ⟨_, rfl⟩
   have hne0 : l ≠ [] := by intro e; rw [e] at hlt; simp at hlt
   obtain ⟨b, o, rfl, hb, ha0⟩ := HA.out hne0
   have ha := (ha0 k hlt).below HBW.out hb
   rw [ey] at ha
   obtain ⟨a0, a1, a2⟩ := ha
   have hlb := World.block_lt_of_cell? _ _ a0
   have hq := eql_ty x y
   have EY := qH ey
   clear ey ha0 hne0
   by_cases hxy : x = y
   ·have hR : Hid (idxI l x = (k : Int)) := by
     show _ = _
     unfold idxI
     have hm : x ∈ l := by rw [hxy, <- EY.out]; exact List.getElem_mem _
     rw [if_pos hm, idx_first hlt (by rw [EY.out, hxy]) (fun j hj => HNO.out j hj (by omega))]
    have hd : decide (x = y) = true := by simpa using hxy
    rw [hd] at hq
    clear hxy hd
    go_wp2
    go_quiet (fail)
    go_wp2
    go_ret
    exact ⟨ret_int' hR.out.symm, below_drewNm HBW.out _⟩
   ·have hd : decide (x = y) = false := by simpa using hxy
    rw [hd] at hq
    have hno' : ∀ j (h : j < k + 1) (h2 : j < l.length), l[j] ≠ x := fun j hj h2 => by
     by_cases e : j = k
     ·subst e; rw [EY.out]; exact fun e2 => hxy e2.symm
     ·exact HNO.out j (by omega) h2
    have HN2 := qH hno'
    clear hno' hd hxy
    go_wp2
    go_quiet (fail)
    go_wp2
    go_roundw
    case rel => exact ⟨k + 1, by omega, by go_num, HN2.out, below_drewNm HBL.out _⟩
    case measure => simp [intOf]; omega
  ·have hR : Hid (idxI l x = -1) := by
    show _ = _
    unfold idxI
    rw [if_neg]
    intro hm
    obtain ⟨j, hj, e⟩ := List.getElem_of_mem hm
    exact HNO.out j (by omega) hj e
   go_wp2
   go_ret
   exact ⟨ret_int' hR.out.symm, HBW.out⟩
theorem undTypesN : Tryz.prog.underlying 55 = some (.slice 51) := by kernel_rfl
theorem undChsN : Tryz.prog.underlying 56 = some (.slice 61) := by kernel_rfl
theorem infoTyN : (Tryz.prog.info? 51).map (fun i => (i.zero, i.size, i.bytes)) = some (some (.agg #[.int .i64 0, .bool false, .string ⟨#[]⟩]), 3, 32) := by kernel_rfl
theorem infoChN : (Tryz.prog.info? 61).map (fun i => (i.zero, i.size, i.bytes)) = some (some (.agg #[.int .i64 0, .int .i64 0]), 2, 16) := by kernel_rfl
structure Mk (W : World) (M b0 : Nat) (sv cv : Value) (s : NS) : Prop where
 blk : W.heap[M]? = some (.cells #[sv, .int .i64 0, cv, .int .i64 s.last.off, .bool s.last.save, .string s.last.name] 133 (0, 0))
 hM : b0 <= M
 rowT : W.ownsRow b0 51 3 sv s.types.length (tyCells s.types)
 rowC : W.ownsRow b0 61 2 cv s.chs.length (chCells s.chs)
section
variable {W W' : World} {M b0 : Nat} {sv cv : Value} {s : NS}
theorem Mk.lt (h : Mk W M b0 sv cv s) : M < W.heap.size := (Array.getElem?_eq_some_iff.mp h.blk).1
theorem Mk.neT (h : Mk W M b0 sv cv s) : sv.ownBlock ≠ some M := by
 rcases h.rowT.2 with ⟨e, _⟩ | ⟨g, cap, cur, e, _, hg, _⟩
 ·rw [e]; simp [Value.ownBlock]
 ·rw [e]
  simp only [Value.ownBlock]
  intro e2
  injection e2 with e2
  subst e2
  rw [h.blk] at hg
  injection hg with hg
  injection hg with _ h2 _
  exact absurd h2 (by decide)
theorem Mk.neC (h : Mk W M b0 sv cv s) : cv.ownBlock ≠ some M := by
 rcases h.rowC.2 with ⟨e, _⟩ | ⟨g, cap, cur, e, _, hg, _⟩
 ·rw [e]; simp [Value.ownBlock]
 ·rw [e]
  simp only [Value.ownBlock]
  intro e2
  injection e2 with e2
  subst e2
  rw [h.blk] at hg
  injection hg with hg
  injection hg with _ h2 _
  exact absurd h2 (by decide)
theorem Mk.keep (h : Mk W M b0 sv cv s) (hk : ∀ b, b < W.heap.size -> W'.heap[b]? = W.heap[b]?) : Mk W' M b0 sv cv s :=
 ⟨(hk _ h.lt).trans h.blk, h.hM, own_keep h.rowT fun g e => hk g (World.ownsRow.lt h.rowT g e).2, own_keep h.rowC fun g e => hk g (World.ownsRow.lt h.rowC g e).2⟩
theorem Mk.alloc (h : Mk W M b0 sv cv s) (o : Obj) : Mk (W.alloc o) M b0 sv cv s := h.keep fun b hb => Below.heap_alloc _ _ _ hb
end
theorem mkCells {w : World} {M : Nat} {a b c d e f : Value} {T : TypeId} (h : w.heap[M]? = some (.cells #[a, b, c, d, e, f] T (0, 0))) :
 w.cell? ⟨M, 0, none⟩ = some a /\ w.cell? ⟨M, 1, none⟩ = some b /\ w.cell? ⟨M, 2, none⟩ = some c /\ w.cell? ⟨M, 3, none⟩ = some d /\ w.cell? ⟨M, 4, none⟩ = some e /\ w.cell? ⟨M, 5, none⟩ = some f /\
  (∀ o, w.frozen? ⟨M, o, none⟩ = false) :=
 ⟨(cell_of_row w _ 0 _ _ _ h).trans rfl, (cell_of_row w _ 1 _ _ _ h).trans rfl, (cell_of_row w _ 2 _ _ _ h).trans rfl, (cell_of_row w _ 3 _ _ _ h).trans rfl, (cell_of_row w _ 4 _ _ _ h).trans rfl, (cell_of_row w _ 5 _ _ _ h).trans rfl,
   fun o => by simp [World.frozen?, h]⟩
theorem heap_setCm {w : World} {R i : Nat} {cs : Array Value} {T : TypeId} {f : Nat × Nat} (h : w.heap[R]? = some (.cells cs T f)) (v : Value) : (w.setCell ⟨R, i, none⟩ v).heap[R]? = some (.cells (cs.setIfInBounds i v) T f) := by
 simp [World.setCell, Array.getElem?_modify, h]
theorem number_any (M b0 : Nat) (sv cv : Value) (s : NS) (x : Ty) (w : World) (hm : Mk w M b0 sv cv s) (hl : s.types.length <= 20000000) (hpos : 0 < s.types.length) (hn : ∀ y ∈ s.types, y.name.size <= maxLen) :
 Calls Tryz.prog 114 #[.pointer (some ⟨M, 0, none⟩), tyV x] w fun e w' => e = .returned (.int .i64 (idxTy s.types x : Nat)) /\
  (∃ sv', Mk w' M b0 sv' cv ⟨addTy s.types x, s.chs, s.last⟩) /\ w.heap.size <= w'.heap.size /\ (∀ b, b < w.heap.size -> b ≠ M -> sv.ownBlock ≠ some b -> w'.heap[b]? = w.heap[b]?) /\ Below b0 w w' := by
 obtain ⟨gT, capT, rfl, hgT, hgT2⟩ := World.ownsRow.form hm.rowT hpos
 obtain ⟨m0, m1, m2, m3, m4, m5, mz⟩ := mkCells hm.blk
 have hMl := hm.lt
 have HM := qH hm
 obtain ⟨W1, eW⟩ : ∃ W1, w.alloc (.cells #[.int .i64 x.off, .bool x.save, .string x.name] 51) = W1 := ⟨_, rfl⟩
 have hm1 : Mk W1 M b0 (.slice (some ⟨gT, 0, none⟩) s.types.length capT) cv s := by rw [<- eW]; exact hm.alloc _
 have hX : W1.heap[w.heap.size]? = some (.cells #[.int .i64 x.off, .bool x.save, .string x.name] 51 (0, 0)) := by rw [<- eW]; exact heap_alloc_new w _
 have HI := qH (fun W hW => IndexTy_any s.types x (.slice (some ⟨gT, 0, none⟩) s.types.length capT) W hW (by omega))
 have hT := qH (own_types hm1.rowT (by omega) hn)
 obtain ⟨q0, q1, q2, q3, q4, q5, qz⟩ := mkCells hm1.blk
 have x0 : W1.cell? ⟨w.heap.size, 0, none⟩ = some (.int .i64 x.off) := (cell_of_row W1 _ 0 _ _ _ hX).trans rfl
 have x1 : W1.cell? ⟨w.heap.size, 1, none⟩ = some (.bool x.save) := (cell_of_row W1 _ 1 _ _ _ hX).trans rfl
 have x2 : W1.cell? ⟨w.heap.size, 2, none⟩ = some (.string x.name) := (cell_of_row W1 _ 2 _ _ _ hX).trans rfl
 have hW1 : W1.heap.size = w.heap.size + 1 := by rw [<- eW]; simp
 have hbW1 : Below w.heap.size w W1 := by rw [<- eW]; exact (Below.refl _ _).alloc (Nat.le_refl _) _
 have hbM : b0 <= w.heap.size := by have := hm.hM; omega
 have HM1 := qH hm1
 have HX := qH hX
 have HBW := qH hbW1
 clear hn m1 m2 m3 m4 m5 q1 q2 q3 q4 q5 hm hm1 hX hbW1
 go_enter Tryz.func114, Tryz.ntmps114
 go_wp2_with fail
 clear eW
 go_region_held3 (fun w' => w'.cell? ⟨M, 0, none⟩ = some (.slice (some ⟨gT, 0, none⟩) s.types.length capT) /\ w'.cell? ⟨w.heap.size, 0, none⟩ = some (.int .i64 x.off) /\ w'.cell? ⟨w.heap.size, 1, none⟩ = some (.bool x.save) /\ w'.cell? ⟨w.heap.size, 2, none⟩ = some (.string x.name))
  (first
    | go_keep
    | (exact ⟨(hb2.cell (p := ⟨M, 0, none⟩) (by simp; omega)).trans q0, (hb2.cell (p := ⟨w.heap.size, 0, none⟩) (by simp; omega)).trans x0, (hb2.cell (p := ⟨w.heap.size, 1, none⟩) (by simp; omega)).trans x1, (hb2.cell (p := ⟨w.heap.size, 2, none⟩) (by simp; omega)).trans x2⟩))
  (first
    | (go_at_call 152; refine (HI.out _ (SlTy.below hT.out (below_drewNm (Below.refl _ _) 1))).mono ?_; rintro e w2 ⟨rfl, hb2⟩))
 have hsz2 : W1.heap.size <= w2.heap.size := by have := hb2.size; simpa using this
 have HM2 := qH (HM1.out.keep (W' := w2) fun b hb => (hb2.block b (by simpa using hb)).trans rfl)
 have HX2 := qH ((hb2.block w.heap.size (by simp; omega)).trans (show W1.drew.heap[w.heap.size]? = _ from HX.out))
 have HB2 := qH (HBW.out.trans ((below_drewNm (Below.refl _ W1) 1).mono (by have := HBW.out.size; omega)) |>.trans (hb2.mono (by simp; omega)))
 clear hb2 q0 x0 x1 x2
 by_cases hx : x ∈ s.types
 ·have hI : Hid (idxI s.types x = (idxTy s.types x : Int)) := by show _ = _; unfold idxI; rw [if_pos hx]
  have hA : Hid (addTy s.types x = s.types) := by show _ = _; unfold addTy; rw [if_pos hx]
  obtain ⟨I, eI⟩ : ∃ I, idxTy s.types x = I := ⟨_, rfl⟩
  rw [eI] at hI
  rw [hI.out]
  have EI := qH eI
  clear hx eI
  go_wp2
  go_ret
  refine ⟨ret_int' (by rw [EI.out]), ⟨_, by rw [hA.out]; exact HM2.out⟩, by omega, fun b hb _ _ => HB2.out.block b hb, HB2.out.mono hbM⟩
 ·have hI : Hid (idxI s.types x = -1) := by show _ = _; unfold idxI; rw [if_neg hx]
  have hA : Hid (addTy s.types x = s.types ++ [x]) := by show _ = _; unfold addTy; rw [if_neg hx]
  have hJ : Hid (idxTy s.types x = s.types.length) := by show _ = _; exact idx_out hx
  rw [hI.out]
  obtain ⟨i0, hi, hz0, hz1, hz2⟩ := info_parts infoTyN
  obtain ⟨q0, q1, q2, q3, q4, q5, qz⟩ := mkCells HM2.out.blk
  have x0 : w2.cell? ⟨w.heap.size, 0, none⟩ = some (.int .i64 x.off) := (cell_of_row w2 _ 0 _ _ _ HX2.out).trans rfl
  have x1 : w2.cell? ⟨w.heap.size, 1, none⟩ = some (.bool x.save) := (cell_of_row w2 _ 1 _ _ _ HX2.out).trans rfl
  have x2 : w2.cell? ⟨w.heap.size, 2, none⟩ = some (.string x.name) := (cell_of_row w2 _ 2 _ _ _ HX2.out).trans rfl
  have hMg : M ≠ gT := fun e => HM2.out.neT (by rw [e]; rfl)
  have HL1 : Hid (s.types.length + 1 <= maxLen) := by show _ <= _; simp only [maxLen]; omega
  have HL2 : Hid ((s.types.length + 1) * 32 <= 140737488355328) := by show _ <= _; omega
  have H1 : Hid (∀ u ∈ [Value.int .i64 x.off, .bool x.save, .string x.name], u.oneCell' = true) := by intro u hu; simp at hu; rcases hu with rfl | rfl | rfl <;> rfl
  have HB3 : Hid (∀ o : Obj, b0 <= ((w2.alloc o).drew).heap.size) := fun o => by simp; omega
  have HS3 : Hid (∀ o : Obj, ((w2.alloc o).drew).heap.size = w2.heap.size + 1) := fun o => by simp
  have hw2M : M < w2.heap.size := HM2.out.lt
  clear hx q1 q2 q3 q4 q5
  go_wp2_with fail
  go_region_law (first
   | (refine step_append_lies _ (by rfl) _ _ _ (by rfl) b0 51 i0 _ 3 32 undTypesN hi hz0 hz1 hz2 rfl (by omega) (.slice (some ⟨gT, 0, none⟩) s.types.length capT) s.types.length (tyCells s.types) (by rfl) (World.ownsRow.drew (World.ownsRow.alloc HM2.out.rowT _)) ⟨w2.heap.size, 0, none⟩ 1 1 [.int .i64 x.off, .bool x.save, .string x.name] (by rfl) (by rfl) (World.news_of_block (cs := #[.int .i64 x.off, .bool x.save, .string x.name]) (t := 51) (fr := (0, 0)) (heap_alloc_new w2 _)) H1.out Nat.one_pos HL1.out HL2.out (HB3.out _) (w2.heap.size + 1) (HS3.out _) ?_; intro g5 cap5 w5 hown5 hg5 hat5 hlt5; have hk5 : ∀ b, b < w2.heap.size -> b ≠ gT -> w5.heap[b]? = w2.heap[b]? := (fun b hb hne => (hg5.block b (by simp; omega) (by simp only [Value.ownBlock]; intro e; injection e with e; exact hne e)).trans (Below.heap_alloc w2 _ b hb)); have y5 := (hk5 M hw2M hMg).trans HM2.out.blk; have z5 := (hk5 w.heap.size (by omega) (by omega)).trans HX2.out; have t0 := (cell_of_row w5 _ 0 _ _ _ y5).trans (show _ = some (Value.slice (some ⟨gT, 0, none⟩) s.types.length capT) from rfl); have t1 := (cell_of_row w5 _ 0 _ _ _ z5).trans (show _ = some (Value.int .i64 x.off) from rfl); have t2 := (cell_of_row w5 _ 1 _ _ _ z5).trans (show _ = some (Value.bool x.save) from rfl); have t3 := (cell_of_row w5 _ 2 _ _ _ z5).trans (show _ = some (Value.string x.name) from rfl); have tz : w5.frozen? ⟨M, 0, none⟩ = false := (by simp [World.frozen?, y5])))
  all_goals
   have hg5M : g5 ≠ M := by
    rcases hat5 with e | e
    ·simp only [Value.ownBlock] at e
     injection e with e
     omega
    ·omega
   have b5 : Below b0 w w5 := (HB2.out.mono hbM).trans ((((Below.refl b0 w2).alloc (by omega) _).drew).grown hg5 (HB3.out _) (fun k e => by simp only [Value.ownBlock] at e; injection e with e; omega))
   have hC5 : w5.ownsRow b0 61 2 cv s.chs.length (chCells s.chs) := own_keep HM2.out.rowC fun g e => hk5 g (World.ownsRow.lt HM2.out.rowC g e).2 (fun e2 => by
    rcases own_apart HM2.out.rowT HM2.out.rowC (by decide) with h | h
    ·simp [Value.ownBlock] at h
    ·exact h (by rw [e, e2]; rfl))
   go_wp2
   go_ret
   refine ⟨ret_int' (by rw [hJ.out]), ⟨.slice (some ⟨g5, 0, none⟩) (s.types.length + 1) cap5, ⟨(heap_setCm y5 _).trans rfl, HM2.out.hM, ?_, ?_⟩⟩, by have := hg5.size; simp [World.setCell] at this ⊢; omega, ?_, b5.setCell (by show b0 <= M; exact HM2.out.hM) _⟩
   ·rw [hA.out, tyCells_snoc, List.length_append]
    exact own_keep hown5 fun g e => Below.heap_setCell _ _ _ _ (by simp only [Value.ownBlock] at e; injection e with e; show g ≠ M; omega)
   ·exact own_keep hC5 fun g e => Below.heap_setCell _ _ _ _ (fun e2 => HM2.out.neC (by rw [e, e2]))
   ·intro b hb hne1 hne2
    rw [Below.heap_setCell _ _ _ _ (by show b ≠ M; exact hne1), hk5 b (by omega) (fun e => hne2 (by rw [e]; rfl))]
    exact HB2.out.block b hb
end Go.Proofs.YtomahddiclkepaaGreatDoor
namespace Go.Proofs.YtomahddiclkepaaGreatDoor
open Go.RowKit Go.Joins
open Classical
structure NSm (s : NS) : Prop where
 tl : s.types.length <= 2000000
 cl : s.chs.length <= 20000000
 pos : 0 < s.types.length
 nm : ∀ y ∈ s.types, y.name.size <= maxLen
theorem Change_same (M b0 : Nat) (sv cv : Value) (s : NS) (t : Int) (x : Ty) (w : World) (hm : Mk w M b0 sv cv s) (hb0 : b0 <= w.heap.size) (hx : x = s.last) :
 Calls Tryz.prog 57 #[.pointer (some ⟨M, 0, none⟩), .int .i64 t, tyV x] w fun e w' => e = .returned (.tuple #[]) /\ Mk w' M b0 sv cv s /\ Below b0 w w' /\ ∀ b, b < w.heap.size -> b ≠ M -> sv.ownBlock ≠ some b -> cv.ownBlock ≠ some b -> w'.heap[b]? = w.heap[b]? := by
 subst hx
 obtain ⟨m0, m1, m2, m3, m4, m5, mz⟩ := mkCells hm.blk
 have hMl := hm.lt
 have HM := qH hm
 have hq := neq_tyN s.last s.last
 simp only [decide_true, Bool.not_true] at hq
 obtain ⟨L, eL⟩ : ∃ L, s.last = L := ⟨_, rfl⟩
 rw [eL] at m3 m4 m5 hq
 rw [eL]
 have hm' := hm
 clear hm m0 m1 m2 hm'
 go_enter Tryz.func57, Tryz.ntmps57
 go_wp2
 go_quiet (fail)
 go_wp2
 go_end0
 exact ⟨rfl, (HM.out.alloc _).keep (fun b hb => rfl), below_drewNm ((Below.refl _ _).alloc hb0 _) _, fun b hb _ _ _ => Below.heap_alloc w _ b hb⟩
theorem Change_other (M b0 : Nat) (sv cv : Value) (s : NS) (t : Int) (x : Ty) (w : World) (hm : Mk w M b0 sv cv s) (hb0 : b0 <= w.heap.size) (hs : NSm s) (hx : x ≠ s.last) :
 Calls Tryz.prog 57 #[.pointer (some ⟨M, 0, none⟩), .int .i64 t, tyV x] w fun e w' => e = .returned (.tuple #[]) /\ (∃ sv' cv', Mk w' M b0 sv' cv' ⟨addTy s.types x, s.chs ++ [⟨t, (idxTy s.types x : Nat)⟩], x⟩) /\ Below b0 w w' /\ ∀ b, b < w.heap.size -> b ≠ M -> sv.ownBlock ≠ some b -> cv.ownBlock ≠ some b -> w'.heap[b]? = w.heap[b]? := by
 obtain ⟨A, cC, rfl⟩ := own_sliceN hm.rowC
 obtain ⟨m0, m1, m2, m3, m4, m5, mz⟩ := mkCells hm.blk
 have hMl := hm.lt
 have HM := qH hm
 obtain ⟨W1, eW⟩ : ∃ W1, w.alloc (.cells #[.int .i64 x.off, .bool x.save, .string x.name] 51) = W1 := ⟨_, rfl⟩
 have hm1 : Mk W1 M b0 sv (.slice A s.chs.length cC) s := by rw [<- eW]; exact hm.alloc _
 have hX : W1.heap[w.heap.size]? = some (.cells #[.int .i64 x.off, .bool x.save, .string x.name] 51 (0, 0)) := by rw [<- eW]; exact heap_alloc_new w _
 have hW1 : W1.heap.size = w.heap.size + 1 := by rw [<- eW]; simp
 have HK1 : Hid (∀ b, b < w.heap.size -> W1.heap[b]? = w.heap[b]?) := by
  show ∀ b, _
  intro b hb
  rw [<- eW]
  exact Below.heap_alloc w _ b hb
 have hbW1 : Below b0 w W1 := by rw [<- eW]; exact (Below.refl _ _).alloc hb0 _
 obtain ⟨q0, q1, q2, q3, q4, q5, qz⟩ := mkCells hm1.blk
 have x0 : W1.cell? ⟨w.heap.size, 0, none⟩ = some (.int .i64 x.off) := (cell_of_row W1 _ 0 _ _ _ hX).trans rfl
 have x1 : W1.cell? ⟨w.heap.size, 1, none⟩ = some (.bool x.save) := (cell_of_row W1 _ 1 _ _ _ hX).trans rfl
 have x2 : W1.cell? ⟨w.heap.size, 2, none⟩ = some (.string x.name) := (cell_of_row W1 _ 2 _ _ _ hX).trans rfl
 have hq := neq_tyN x s.last
 have hd : decide (x = s.last) = false := by simpa using hx
 simp only [hd, Bool.not_false] at hq
 have HM1 := qH hm1
 have HX := qH hX
 have HBW := qH hbW1
 have HNM := qH hs.nm
 have htl := hs.tl
 have hcl := hs.cl
 have hpos := hs.pos
 have hsvX : ∀ g, sv.ownBlock = some g -> g < w.heap.size := fun g e => (World.ownsRow.lt hm.rowT g e).2
 have HSV := qH hsvX
 obtain ⟨i1, hi1, hz10, hz11, hz12⟩ := info_parts infoChN
 have HL1 : Hid (s.chs.length + 1 <= maxLen) := by show _ <= _; simp only [maxLen]; omega
 have HL2 : Hid ((s.chs.length + 1) * 16 <= 140737488355328) := by show _ <= _; omega
 have H1 : Hid (∀ u ∈ [Value.int .i64 t, .int .i64 ((idxTy s.types x : Nat) : Int)], u.oneCell' = true) := by intro u hu; simp at hu; rcases hu with rfl | rfl <;> rfl
 obtain ⟨I, eI⟩ : ∃ I, idxTy s.types x = I := ⟨_, rfl⟩
 rw [eI] at H1
 have EI := qH eI
 clear hx hd hm1 hX hbW1 hs m0 m1 m2 m3 m4 m5 hsvX hm eI
 go_enter Tryz.func57, Tryz.ntmps57
 go_wp2
 go_quiet (fail)
 go_wp2_with fail
 obtain ⟨W2, e2⟩ : ∃ W2, W1.drewN nq = W2 := ⟨_, rfl⟩
 have hh2 : W2.heap = W1.heap := by rw [<- e2]; rfl
 have hM2 : Mk W2 M b0 sv (.slice A s.chs.length cC) s := HM1.out.keep fun b hb => by rw [hh2]
 have hX2 : W2.heap[w.heap.size]? = some (.cells #[.int .i64 x.off, .bool x.save, .string x.name] 51 (0, 0)) := by rw [hh2]; exact HX.out
 have hB2 : Below b0 w W2 := by rw [<- e2]; exact below_drewNm HBW.out _
 have hW2 : W2.heap.size = w.heap.size + 1 := by rw [hh2]; exact hW1
 have HK2 : Hid (∀ b, b < w.heap.size -> W2.heap[b]? = w.heap[b]?) := by
  show ∀ b, _
  intro b hb
  rw [hh2]
  exact HK1.out b hb
 rw [e2]
 clear e2 hh2 q0 q1 q2 q3 q4 q5 x0 x1 x2 qz eW
 obtain ⟨r0, r1, r2, r3, r4, r5, rz⟩ := mkCells hM2.blk
 have y0 : W2.cell? ⟨w.heap.size, 0, none⟩ = some (.int .i64 x.off) := (cell_of_row W2 _ 0 _ _ _ hX2).trans rfl
 have y1 : W2.cell? ⟨w.heap.size, 1, none⟩ = some (.bool x.save) := (cell_of_row W2 _ 1 _ _ _ hX2).trans rfl
 have y2 : W2.cell? ⟨w.heap.size, 2, none⟩ = some (.string x.name) := (cell_of_row W2 _ 2 _ _ _ hX2).trans rfl
 have HM2 := qH hM2
 have HX2 := qH hX2
 have HB2 := qH hB2
 have HMD := qH (hM2.keep (W' := W2.drew) fun b hb => rfl)
 have HNU := qH (number_any M b0 sv (.slice A s.chs.length cC) s x W2.drew HMD.out (by omega) hpos HNM.out)
 rw [EI.out] at HNU
 clear hM2 hX2 hB2 r0 r1 r3 r4 r5
 go_region_law (first
  | (refine step_append_lies _ (by rfl) _ _ _ (by rfl) b0 61 i1 _ 2 16 undChsN hi1 hz10 hz11 hz12 rfl (by omega) (.slice A s.chs.length cC) s.chs.length (chCells s.chs) (by rfl) (World.ownsRow.alloc HM4.out.rowC _) ⟨w4.heap.size, 0, none⟩ 1 1 [.int .i64 t, .int .i64 ((I : Nat) : Int)] (by rfl) (by rfl) (World.news_of_block (cs := #[.int .i64 t, .int .i64 ((I : Nat) : Int)]) (t := 61) (fr := (0, 0)) (heap_alloc_new w4 _)) H1.out Nat.one_pos HL1.out HL2.out (HB4.out _) (w4.heap.size + 1) (by simp) ?_; intro g6 cap6 w6 hown6 hg6 hat6 hlt6; have hk6 : ∀ b, b < w4.heap.size -> (Value.slice A s.chs.length cC).ownBlock ≠ some b -> w6.heap[b]? = w4.heap[b]? := (fun b hb hne => (hg6.block b (by simp; omega) (fun e => hne e.symm)).trans (Below.heap_alloc w4 _ b hb)); have y6 := (hk6 M HM4.out.lt HM4.out.neC).trans HM4.out.blk; have t2 := (cell_of_row w6 _ 2 _ _ _ y6).trans (show _ = some (Value.slice A s.chs.length cC) from rfl); have tz : w6.frozen? ⟨M, 2, none⟩ = false := (by simp [World.frozen?, y6]))
  | (go_simp; go_at_call 114; refine HNU.out.mono ?_; rintro e w4 ⟨rfl, ⟨sv4, hM4⟩, hsz4, hk4, hb4⟩; obtain ⟨p0, p1, p2, p3, p4, p5, pz⟩ := mkCells hM4.blk; have hM4l : M < w4.heap.size := hM4.lt; have HM4 := qH hM4; have HB4 : Hid (∀ o : Obj, b0 <= (w4.alloc o).heap.size) := (fun o => by have := hb4.size; simp at this ⊢; omega)))
 all_goals
  have hXne : (Value.slice A s.chs.length cC).ownBlock ≠ some w.heap.size := fun e => by
   have h1 := (World.ownsRow.lt HM.out.rowC _ e).2
   omega
  have hX4 : w4.heap[w.heap.size]? = some (.cells #[.int .i64 x.off, .bool x.save, .string x.name] 51 (0, 0)) := (hk4 w.heap.size (by simp; omega) (by omega) (fun e => by have := HSV.out _ e; omega)).trans HX2.out
  have hXl4 : w.heap.size < w4.heap.size := (Array.getElem?_eq_some_iff.mp hX4).1
  have hX6 := (hk6 w.heap.size hXl4 hXne).trans hX4
  have hg6M : g6 ≠ M := by
   rcases hat6 with e | e
   ·intro e2; exact HM4.out.neC (by rw [e, e2])
   ·have := HM4.out.lt; omega
  have b6 : Below b0 w w6 := (HB2.out.trans ((below_drewNm (Below.refl b0 W2) 1).trans hb4)).trans (((Below.refl b0 w4).alloc (by have := HM4.out.hM; have := HM4.out.lt; omega) _).grown hg6 (HB4.out _) (fun k e => (World.ownsRow.lt HM4.out.rowC k e).1))
  obtain ⟨W7, e7⟩ : ∃ W7, w6.setCell ⟨M, 2, none⟩ (.slice (some ⟨g6, 0, none⟩) (s.chs.length + 1) cap6) = W7 := ⟨_, rfl⟩
  rw [e7]
  have h7 : W7.heap[M]? = some (.cells #[sv4, .int .i64 0, .slice (some ⟨g6, 0, none⟩) (s.chs.length + 1) cap6, .int .i64 s.last.off, .bool s.last.save, .string s.last.name] 133 (0, 0)) := by rw [<- e7]; exact (heap_setCm y6 _).trans rfl
  have k7 : ∀ b, b ≠ M -> W7.heap[b]? = w6.heap[b]? := fun b hb => by rw [<- e7]; exact Below.heap_setCell _ _ _ _ hb
  have b7 : Below b0 w W7 := by rw [<- e7]; exact b6.setCell (by show b0 <= M; exact HM4.out.hM) _
  obtain ⟨-, -, -, u3, u4, u5, uz⟩ := mkCells h7
  have hX7 := (k7 w.heap.size (by omega)).trans hX6
  have z0 : W7.cell? ⟨w.heap.size, 0, none⟩ = some (.int .i64 x.off) := (cell_of_row W7 _ 0 _ _ _ hX7).trans rfl
  have z1 : W7.cell? ⟨w.heap.size, 1, none⟩ = some (.bool x.save) := (cell_of_row W7 _ 1 _ _ _ hX7).trans rfl
  have z2 : W7.cell? ⟨w.heap.size, 2, none⟩ = some (.string x.name) := (cell_of_row W7 _ 2 _ _ _ hX7).trans rfl
  have uz3 := uz 3
  have uz4 := uz 4
  have uz5 := uz 5
  have HK6 := qH hk6
  clear e7 hk6 t2 tz p0 p1 p2 p3 p4 p5 pz
  go_wp2
  go_end0
  have kE : ∀ b, b ≠ M -> (((W7.setCell ⟨M, 3, none⟩ (.int .i64 x.off)).setCell ⟨M, 4, none⟩ (.bool x.save)).setCell ⟨M, 5, none⟩ (.string x.name)).heap[b]? = w6.heap[b]? := fun b hb =>
   ((Below.heap_setCell _ _ _ _ hb).trans ((Below.heap_setCell _ _ _ _ hb).trans (Below.heap_setCell _ _ _ _ hb))).trans (k7 b hb)
  refine ⟨rfl, ⟨sv4, .slice (some ⟨g6, 0, none⟩) (s.chs.length + 1) cap6, ⟨(heap_setCm (heap_setCm (heap_setCm h7 _) _) _).trans rfl, HM4.out.hM, ?_, ?_⟩⟩, ((b7.setCell (by show b0 <= M; exact HM4.out.hM) _).setCell (by show b0 <= M; exact HM4.out.hM) _).setCell (by show b0 <= M; exact HM4.out.hM) _, fun b hb n1 n2 n3 => (kE b n1).trans ((HK6.out b (by have := hb4.size; simp at this; omega) n3).trans ((hk4 b (by simp; omega) n1 n2).trans (HK2.out b hb)))⟩
  ·refine own_keep HM4.out.rowT fun g e => (kE g (fun e2 => HM4.out.neT (by rw [e, e2]))).trans ((hg6.block g (by have := (World.ownsRow.lt HM4.out.rowT g e).2; simp; omega) (fun e2 => ?_)).trans (Below.heap_alloc w4 _ g (World.ownsRow.lt HM4.out.rowT g e).2))
   rcases own_apart HM4.out.rowT HM4.out.rowC (by decide) with h | h
   ·rw [h] at e; cases e
   ·exact h (by rw [e, e2])
  ·rw [chCells_snoc, List.length_append, EI.out]
   exact own_keep hown6 fun g e => kE g (by simp only [Value.ownBlock] at e; injection e with e; omega)
theorem ChangeK_any (M b0 : Nat) (sv cv : Value) (s : NS) (t : Int) (x : Ty) (w : World) (hm : Mk w M b0 sv cv s) (hb0 : b0 <= w.heap.size) (hs : NSm s) :
 Calls Tryz.prog 57 #[.pointer (some ⟨M, 0, none⟩), .int .i64 t, tyV x] w fun e w' => e = .returned (.tuple #[]) /\ (∃ sv' cv', Mk w' M b0 sv' cv' (stepN s (t, x))) /\ Below b0 w w' /\ ∀ b, b < w.heap.size -> b ≠ M -> sv.ownBlock ≠ some b -> cv.ownBlock ≠ some b -> w'.heap[b]? = w.heap[b]? := by
 unfold stepN
 by_cases h : x = s.last
 ·rw [if_pos h]
  exact (Change_same M b0 sv cv s t x w hm hb0 h).mono fun e w' ⟨a, b, c, d⟩ => ⟨a, ⟨_, _, b⟩, c, d⟩
 ·rw [if_neg h]
  exact Change_other M b0 sv cv s t x w hm hb0 hs h
theorem Change_any (M b0 : Nat) (sv cv : Value) (s : NS) (t : Int) (x : Ty) (w : World) (hm : Mk w M b0 sv cv s) (hb0 : b0 <= w.heap.size) (hs : NSm s) :
 Calls Tryz.prog 57 #[.pointer (some ⟨M, 0, none⟩), .int .i64 t, tyV x] w fun e w' => e = .returned (.tuple #[]) /\ (∃ sv' cv', Mk w' M b0 sv' cv' (stepN s (t, x))) /\ Below b0 w w' :=
 (ChangeK_any M b0 sv cv s t x w hm hb0 hs).mono fun e w' ⟨a, b, c, _⟩ => ⟨a, b, c⟩
theorem mk_begin (W0 : World) (x : Ty) (b0 : Nat) (hb : b0 <= W0.heap.size) :
 Mk ((W0.alloc (.cells #[.int .i64 x.off, .bool x.save, .string x.name] 51)).alloc (.cells #[.slice (some ⟨W0.heap.size, 0, none⟩) 1 1, .int .i64 0, .slice none 0 0, .int .i64 x.off, .bool x.save, .string x.name] 133))
  (W0.heap.size + 1) b0 (.slice (some ⟨W0.heap.size, 0, none⟩) 1 1) (.slice none 0 0) (begN x) := by
 refine ⟨?_, by omega, ⟨rfl, .inr ⟨W0.heap.size, 1, _, rfl, hb, (Below.heap_alloc _ _ _ (by simp)).trans (heap_alloc_new W0 _), Nat.le_refl _, by decide, rfl, rfl⟩⟩, World.ownsRow_nil _ _ _ _⟩
 have := heap_alloc_new (W0.alloc (.cells #[.int .i64 x.off, .bool x.save, .string x.name] 51)) (.cells #[.slice (some ⟨W0.heap.size, 0, none⟩) 1 1, .int .i64 0, .slice none 0 0, .int .i64 x.off, .bool x.save, .string x.name] 133)
 simpa [begN] using this
theorem Begin_any (x : Ty) (w : World) :
 Calls Tryz.prog 55 #[tyV x] w fun e w' => ∃ M sv cv, e = .returned (.pointer (some ⟨M, 0, none⟩)) /\ Mk w' M w.heap.size sv cv (begN x) /\ Below w.heap.size w w' := by
 go_enter Tryz.func55, Tryz.ntmps55
 go_wp2
 go_ret
 obtain ⟨W0, e0⟩ : ∃ W0, w.alloc (.cells #[.int .i64 x.off, .bool x.save, .string x.name] 51) = W0 := ⟨_, rfl⟩
 have hz0 : W0.heap.size = w.heap.size + 1 := by rw [<- e0]; simp
 have hb0 : Below w.heap.size w W0 := by rw [<- e0]; exact (Below.refl _ _).alloc (Nat.le_refl _) _
 have h := mk_begin W0 x w.heap.size (by omega)
 rw [hz0, <- e0] at h
 refine ⟨_, _, _, rfl, h, ?_⟩
 exact (((Below.refl _ _).alloc (Nat.le_refl _) _).alloc (by simp) _).alloc (by simp; omega) _
theorem abbr_sizeT (x : Ty) (h : abbrB x.name = true) : x.name.size <= 8 := by
 unfold abbrB allB at h
 simp only [Bool.and_eq_true, decide_eq_true_eq] at h
 omega
theorem end_cellsM {W : World} {g : Nat} {a b c : Value} {T : TypeId} (h : W.heap[g]? = some (.cells #[a, b, c] T (0, 0))) (x y z : Value) :
 ∃ W', ((W.setCell ⟨g, 0, none⟩ x).setCell ⟨g, 1, none⟩ y).setCell ⟨g, 2, none⟩ z = W' /\ (∀ B, B <= g -> Below B W W') /\ W'.heap[g]? = some (.cells #[x, y, z] T (0, 0)) /\ ∀ b, b ≠ g -> W'.heap[b]? = W.heap[b]? := by
 refine ⟨_, rfl, fun B hB => (((Below.refl _ _).setCell (by exact hB) _).setCell (by exact hB) _).setCell (by exact hB) _, ?_, fun b hb => (Below.heap_setCell _ _ _ _ hb).trans ((Below.heap_setCell _ _ _ _ hb).trans (Below.heap_setCell _ _ _ _ hb))⟩
 rw [heap_setCm (i := 2) (heap_setCm (i := 1) (heap_setCm (i := 0) h x) y) z]
 rfl
theorem squ_len (l : List (Int × Ty)) (x : Ty) : (squ x l).length <= l.length := (squ_sub l x).length_le
theorem make_small (t : Tab) (ok : OkTab t) (k : Nat) : NSm (((resL t).take k).foldl stepN (begN (resH t))) := by
 have inv := makeN_inv ((resL t).take k) (begN (resH t)) (begN_inv (resH t))
 have hty : ∀ y ∈ (((resL t).take k).foldl stepN (begN (resH t))).types, y ∈ t.types := by
  intro y hy
  rcases makeN_types (x := resH t) ((resL t).take k) (begN (resH t)) y hy with h | ⟨c, hc, rfl⟩
  ·simp only [begN, List.mem_singleton] at h
   subst h
   exact tyD_mem _ _ ok.first.1 ok.first.2
  ·obtain ⟨d, hd, rfl⟩ := List.mem_map.1 (List.mem_of_mem_take hc)
   have := ok.ch d hd
   exact tyD_mem _ _ this.2.2.1 this.2.2.2
 have hlen : (((resL t).take k).foldl stepN (begN (resH t))).types.length <= t.types.length := length_sub _ _ inv.nodup hty
 have hch : (((resL t).take k).foldl stepN (begN (resH t))).chs.length <= t.chs.length := by
  have h := makeN_res ((resL t).take k) (begN (resH t)) (begN_inv (resH t))
  have h2 := congrArg List.length h
  unfold resS at h2
  simp only [List.length_map, List.length_append] at h2
  have h3 := squ_len ((resL t).take k) (begN (resH t)).last
  have h4 : ((resL t).take k).length <= t.chs.length := by simp [resL]; omega
  have h5 : (begN (resH t)).chs.length = 0 := rfl
  omega
 refine ⟨by have := ok.many; omega, by have := ok.chs; omega, inv.pos, fun y hy => ?_⟩
 have h := (ok.type y (hty y hy)).2.2
 have := abbr_sizeT y h
 unfold maxLen; omega
theorem NOf_any (t : Tab) (v : Value) (w : World) (hv : TabAt w v t) (ok : OkTab t) :
 Calls Tryz.prog 65 #[v] w fun e w' => ∃ v', e = .returned v' /\ TabAt w' v' (normT t) /\ Below w.heap.size w w' := by
 obtain ⟨sv, cv, rfl, ⟨⟨p, cap, rfl, hs⟩, hl1, hnm⟩, ⟨⟨p2, cap2, rfl, hc⟩, hl2⟩⟩ := hv.val
 obtain ⟨b, o, rfl, hb, hty⟩ := hs ok.ne
 have hmany := ok.many
 have hchs := ok.chs
 have hf0 := ok.first.1
 have hf1 := ok.first.2
 have hMS := qH (make_small t ok)
 have HCH := qH ok.ch
 have HTY := qH hty
 have HCC := qH hc
 -- the first type
 have hfn : t.first.toNat < t.types.length := by omega
 have hH : Hid (t.types[t.first.toNat] = resH t) := by show _ = _; unfold resH tyD; rw [List.getElem?_eq_getElem hfn]; rfl
 have a0 := (hty t.first.toNat hfn)
 obtain ⟨H, eH⟩ : ∃ H, resH t = H := ⟨_, rfl⟩
 have HEH := qH eH
 rw [hH.out, eH] at a0
 obtain ⟨a1, a2, a3⟩ := a0
 clear hs hc hty hnm ok hl1 hl2 eH
 go_enter Tryz.func65, Tryz.ntmps65
 go_wp2_with fail
 obtain ⟨W0, eW⟩ : ∃ W0, (w.alloc (.cells #[.slice (some ⟨b, o, none⟩) t.types.length cap, .int .i64 t.first, .slice p2 t.chs.length cap2] 58)).alloc (.cells #[.slice none 0 0, .int .i64 0, .slice none 0 0] 58) = W0 := ⟨_, rfl⟩
 rw [eW]
 have hW0 : W0.heap.size = w.heap.size + 2 := by rw [<- eW]; simp
 have hbW : Below w.heap.size w W0 := by rw [<- eW]; exact ((Below.refl _ _).alloc (Nat.le_refl _) _).alloc (by simp) _
 have hX : W0.heap[w.heap.size]? = some (.cells #[.slice (some ⟨b, o, none⟩) t.types.length cap, .int .i64 t.first, .slice p2 t.chs.length cap2] 58 (0, 0)) := by
  rw [<- eW, Below.heap_alloc _ _ _ (by simp)]; exact heap_alloc_new w _
 have hR : W0.heap[w.heap.size + 1]? = some (.cells #[.slice none 0 0, .int .i64 0, .slice none 0 0] 58 (0, 0)) := by
  rw [<- eW]
  have := heap_alloc_new (w.alloc (.cells #[.slice (some ⟨b, o, none⟩) t.types.length cap, .int .i64 t.first, .slice p2 t.chs.length cap2] 58)) (.cells #[.slice none 0 0, .int .i64 0, .slice none 0 0] 58)
  simpa using this
 have HX := qH hX
 have HR := qH hR
 have HBW := qH hbW
 clear eW hX hR hbW a1 a2 a3
 refine (Begin_any H W0).mono ?_
 rintro e w1 ⟨M, sv0, cv0, rfl, hmk, hb1⟩
 have HMK := qH hmk
 have HB1 := qH hb1
 have hX1 := (hb1.block w.heap.size (by omega)).trans HX.out
 have x1 : w1.cell? ⟨w.heap.size, 2, none⟩ = some (.slice p2 t.chs.length cap2) := (cell_of_row w1 _ 2 _ _ _ hX1).trans rfl
 have hw1 : W0.heap.size <= w1.heap.size := hb1.size
 clear hmk hb1 hX1
 go_wp2_with fail
 go_loopw [16] (fun i wr => ∃ (k : Nat) (sv cv : Value), k <= t.chs.length /\ i = .int .i64 k /\ Mk wr M W0.heap.size sv cv (((resL t).take k).foldl stepN (begN (resH t))) /\ Below W0.heap.size w1 wr) (fun i _ => t.chs.length - (intOf i).toNat)
 case atStart => exact ⟨0, sv0, cv0, Nat.zero_le _, rfl, by rw [HEH.out]; exact HMK.out, Below.refl _ _⟩
 case round =>
  obtain ⟨k, sv, cv, hk, rfl, hmk, hbr⟩ := hrel
  have HMR := qH hmk
  have HBR := qH hbr
  have hwr : w1.heap.size <= wr.heap.size := hbr.size
  have hball := HBW.out.trans (((HB1.out.trans hbr)).mono (by omega))
  have HBA := qH hball
  have hXr : wr.heap[w.heap.size]? = _ := (((HB1.out.trans hbr).block w.heap.size (by omega))).trans HX.out
  have hRr : wr.heap[w.heap.size + 1]? = _ := (((HB1.out.trans hbr).block (w.heap.size + 1) (by omega))).trans HR.out
  have y0 : wr.cell? ⟨w.heap.size, 0, none⟩ = some (.slice (some ⟨b, o, none⟩) t.types.length cap) := (cell_of_row wr _ 0 _ _ _ hXr).trans rfl
  have HRR := qH hRr
  have hlt0 : w.heap.size < wr.heap.size := by omega
  clear hmk hbr hball hXr hRr x1
  by_cases hkL : k < t.chs.length
  ·have hne : t.chs ≠ [] := by intro e; rw [e] at hkL; simp at hkL
   obtain ⟨cb, co, rfl, hcb, hat⟩ := HCC.out hne
   obtain ⟨c, ec⟩ : ∃ c, t.chs[k] = c := ⟨_, rfl⟩
   have h1 := (hat k hkL).below HBA.out hcb
   have hck := HCH.out c (by rw [<- ec]; exact List.getElem_mem _)
   rw [ec] at h1
   obtain ⟨c0, c1⟩ := h1
   have hkn : c.k.toNat < t.types.length := by omega
   have h2 := (HTY.out c.k.toNat hkn).below HBA.out hb
   have hT : Hid (t.types[c.k.toNat] = tyD t.types c.k) := by show _ = _; unfold tyD; rw [List.getElem?_eq_getElem hkn]; rfl
   obtain ⟨y, ey⟩ : ∃ y, tyD t.types c.k = y := ⟨_, rfl⟩
   rw [hT.out, ey] at h2
   obtain ⟨d0, d1, d2⟩ := h2
   have hck1 := hck.2.2.1
   have hck2 := hck.2.2.2
   have HEC : Hid ((((resL t).take (k + 1)).foldl stepN (begN (resH t))) = stepN (((resL t).take k).foldl stepN (begN (resH t))) (c.t, y)) := by
    show _ = _
    have hkr : k < (resL t).length := by simp [resL]; exact hkL
    rw [List.take_succ_eq_append_getElem hkr, List.foldl_append]
    have : (resL t)[k] = (c.t, y) := by simp [resL, ec, ey]
    rw [this]; rfl
   have hcbl := World.block_lt_of_cell? _ _ c0
   have hbl := World.block_lt_of_cell? _ _ d0
   have hMS1 := qH (hMS.out k)
   generalize ((resL t).take k).foldl stepN (begN (resH t)) = st at HMR HEC hMS1
   have HMA := qH ((HMR.out.alloc (.cells #[.int .i64 c.t, .int .i64 c.k] 61)).keep (W' := (wr.alloc (.cells #[.int .i64 c.t, .int .i64 c.k] 61)).drew) fun b hb => rfl)
   clear hat hne hck ec ey hT hMS
   go_wp2_with fail
   go_region_law (first
    | (go_simp; go_at_call 57; refine (Change_any M W0.heap.size sv cv st c.t y _ HMA.out (by simp; omega) hMS1.out).mono ?_; rintro e w5 ⟨rfl, ⟨sv5, cv5, hm5⟩, hb5⟩; have HM5 := qH hm5; have HB5 := qH hb5))
   all_goals
    go_wp2
    go_roundw
    case rel => exact ⟨k + 1, sv5, cv5, by omega, by go_num, by rw [HEC.out]; exact HM5.out, HBR.out.trans ((((Below.refl W0.heap.size wr).alloc (by omega) _).drew).trans HB5.out)⟩
    case measure => simp [intOf]; omega
  ·obtain rfl : k = t.chs.length := by omega
   have hall : (resL t).take t.chs.length = resL t := List.take_of_length_le (by simp [resL])
   rw [hall] at HMR
   have hms := hMS.out t.chs.length
   rw [hall] at hms
   have hN1 : ((resL t).foldl stepN (begN (resH t))).types = (normT t).types := rfl
   have hN2 : ((resL t).foldl stepN (begN (resH t))).chs = (normT t).chs := rfl
   have HMSS := qH hms
   obtain ⟨A1, c1, rfl⟩ := own_sliceN HMR.out.rowT
   obtain ⟨A2, c2, rfl⟩ := own_sliceN HMR.out.rowC
   obtain ⟨u0, u1, u2, -, -, -, -⟩ := mkCells HMR.out.blk
   rw [hN1] at u0
   rw [hN2] at u2
   have hMl := HMR.out.lt
   have g0 : wr.cell? ⟨w.heap.size + 1, 0, none⟩ = some (.slice none 0 0) := (cell_of_row wr _ 0 _ _ _ HRR.out).trans rfl
   have g1 : wr.cell? ⟨w.heap.size + 1, 1, none⟩ = some (.int .i64 0) := (cell_of_row wr _ 1 _ _ _ HRR.out).trans rfl
   have g2 : wr.cell? ⟨w.heap.size + 1, 2, none⟩ = some (.slice none 0 0) := (cell_of_row wr _ 2 _ _ _ HRR.out).trans rfl
   have z0 : wr.frozen? ⟨w.heap.size + 1, 0, none⟩ = false := by simp [World.frozen?, HRR.out]
   have z1 : wr.frozen? ⟨w.heap.size + 1, 1, none⟩ = false := by simp [World.frozen?, HRR.out]
   have z2 : wr.frozen? ⟨w.heap.size + 1, 2, none⟩ = false := by simp [World.frozen?, HRR.out]
   clear hN1 hN2 hms hall
   go_wp2
   obtain ⟨W9, e9, hB9, hh9, ho9⟩ := end_cellsM HRR.out (.slice A1 (normT t).types.length c1) (.int .i64 0) (.slice A2 (normT t).chs.length c2)
   rw [e9]
   have v0 : W9.cell? ⟨w.heap.size + 1, 0, none⟩ = some (.slice A1 (normT t).types.length c1) := (cell_of_row W9 _ 0 _ _ _ hh9).trans rfl
   have v1 : W9.cell? ⟨w.heap.size + 1, 1, none⟩ = some (.int .i64 0) := (cell_of_row W9 _ 1 _ _ _ hh9).trans rfl
   have v2 : W9.cell? ⟨w.heap.size + 1, 2, none⟩ = some (.slice A2 (normT t).chs.length c2) := (cell_of_row W9 _ 2 _ _ _ hh9).trans rfl
   refine bodyPost_ret (v := .agg #[.slice A1 (normT t).types.length c1, .int .i64 0, .slice A2 (normT t).chs.length c2]) (by simp [results, Tryz.results65, go_sem, v0, v1, v2]) rfl ⟨_, rfl, ⟨_, _, rfl, ?_, ?_⟩, HBA.out.trans (hB9 _ (by omega))⟩
   ·exact own_types (l := (normT t).types) (own_keep HMR.out.rowT fun g e => ho9 g (by have := (World.ownsRow.lt HMR.out.rowT g e).1; omega)) (by have := HMSS.out.tl; exact Nat.le_trans this (by decide)) HMSS.out.nm
   ·exact own_chs (l := (normT t).chs) (own_keep HMR.out.rowC fun g e => ho9 g (by have := (World.ownsRow.lt HMR.out.rowC g e).1; omega)) (by have := HMSS.out.cl; exact Nat.le_trans this (by decide))
end Go.Proofs.YtomahddiclkepaaGreatDoor
