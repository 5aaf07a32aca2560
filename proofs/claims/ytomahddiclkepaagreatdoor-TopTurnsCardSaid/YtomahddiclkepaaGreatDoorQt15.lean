/- book.Parse: what is kept of a book under way, and the book that it is: plain facts. book.Parse: the walk. booked(): the closed fact of books' texts. book.Text: the text of an era, the walk. How long a rule's text is. book.Text in plain Lean: the lines of a book. BookBack in plain Lean: the text of what was parsed is the text. BookBack in plain Lean: the parse of a text is the book. BookBack in plain Lean: the lines of a book hold no newline; the parse of a book's text is the book. The top laws in plain Lean: a table's book is made again for any span; the closed fact's book. timeballref.Rest. -/
import Derived.Test.YtomahddiclkepaaGreatDoorQt14
import Derived.Test.YtomahddiclkepaaGreatDoorQt06
import Derived.Deep.DeepCutAuto
import Derived.Handy
import Derived.Test.YtomahddiclkepaaGreatDoorQt12
import Derived.Test.YtomahddiclkepaaGreatDoorQt07
import Derived.Test.YtomahddiclkepaaGreatDoorQt13
import Derived.Test.YtomahddiclkepaaGreatDoorQt09
import Derived.Test.YtomahddiclkepaaGreatDoorCiv3
import Derived.Test.YtomahddiclkepaaGreatDoorQt01
namespace Go.Proofs.YtomahddiclkepaaGreatDoor
open Go.RowKit Go.Joins
open Classical
set_option linter.unusedVariables false
set_option linter.unusedSimpArgs false

structure RdOk (st : RdS) (k : Nat) : Prop where
  r : st.rules.length ≤ k
  z : st.zones.length ≤ k
  l : st.links.length ≤ k
  e : ∀ i, (zD st.zones i).2.length ≤ k
  n : st.stage = 2 → st.zones ≠ []
  rs : ∀ r ∈ st.rules, SzR r
  zs : ∀ z ∈ st.zones, z.1.size ≤ 60000 ∧ ∀ x ∈ z.2, SzE x
  ls : ∀ x ∈ st.links, x.nm.size ≤ 60000 ∧ x.tg.size ≤ 60000
theorem RdOk.sz {st : RdS} {k : Nat} (h : RdOk st k) (hk : k ≤ 100000) : RdSz st := ⟨by have := h.r; omega, by have := h.z; omega, by have := h.l; omega, fun i => by have := h.e i; omega, h.n⟩
theorem rdOk_0 : RdOk rd0 0 := ⟨Nat.le_refl _, Nat.le_refl _, Nat.le_refl _, fun i => Nat.le_refl _, fun h => absurd h (by decide), fun r h => absurd h (List.not_mem_nil), fun r h => absurd h (List.not_mem_nil), fun r h => absurd h (List.not_mem_nil)⟩
theorem abbr_sizeP {s : ByteArray} (h : abbrB s = true) : s.size ≤ 8 := by
  unfold abbrB allB at h
  simp only [Bool.and_eq_true, decide_eq_true_eq] at h
  omega
theorem okRu_sz {r : Ru} (o : OkRu r) : SzR r := by
  refine ⟨Nat.le_trans (okRu_nm o) (by decide), ?_⟩
  rcases o.lt with h | h
  · have e : r.lt.size = 1 := by rw [Lib.size_eq, ← ByteArray.toList_eq, h]; rfl
    omega
  · have := abbr_sizeP h
    omega
theorem zD_mem {zs : List (ByteArray × List Er)} {i : Nat} (h : i < zs.length) : zD zs i ∈ zs := by
  unfold zD
  rw [List.getD_eq_getElem?_getD, List.getElem?_eq_getElem h]
  exact List.getElem_mem h
theorem zD_out {zs : List (ByteArray × List Er)} {i : Nat} (h : zs.length ≤ i) : zD zs i = (⟨#[]⟩, []) := by
  unfold zD
  rw [List.getD_eq_getElem?_getD, List.getElem?_eq_none h]
  rfl
theorem eraL_sz {x1 x2 x3 : List UInt8} {w4 : Option (List UInt8)} {x : Er} (h2 : x2.length ≤ 60000) (h3 : x3.length ≤ 60000) (h : eraL x1 x2 x3 w4 = some x) : SzE x := by
  have e0 : eraL x1 x2 x3 w4 = eraU x1 x2 x3 (uOf w4) := rfl
  rw [e0] at h
  unfold eraU at h
  have hu : (uOf w4).2 = 0 → -9223372036854775808 ≤ (uOf w4).1 ∧ (uOf w4).1 ≤ 9223372036854775807 := by
    intro hz
    cases w4 with
    | none => exact ⟨by decide, by decide⟩
    | some y =>
      have h := (rdStamp_ok (l := y) hz).1
      unfold inT at h
      show -9223372036854775808 ≤ (rdStamp y).1 ∧ (rdStamp y).1 ≤ 9223372036854775807
      omega
  split at h
  · cases h
  rename_i g1
  have g1 : (rdSpan x1).2 = 0 := Classical.not_not.1 g1
  have s1 := (rdSpan_ok g1).1
  unfold inS at s1
  split at h
  · split at h
    · cases h
    rename_i g2
    rw [not_or] at g2
    have g3 := Classical.not_not.1 g2.1
    have s2 := (rdSpan_ok g3).1
    unfold inS at s2
    have s3 := hu (Classical.not_not.1 g2.2)
    injection h with h
    subst h
    exact ⟨by show ByteArray.size ⟨#[]⟩ ≤ _; decide, by show (txt x3).size ≤ _; rw [txt_size]; omega, by show _ ≤ (rdSpan x1).1; omega, by show (rdSpan x1).1 ≤ _; omega, by show _ ≤ (rdSpan (Lib.trimPrefix x2 [45])).1; omega, by show (rdSpan (Lib.trimPrefix x2 [45])).1 ≤ _; omega, s3.1, s3.2⟩
  · split at h
    · cases h
    rename_i g2
    rw [not_or] at g2
    have s3 := hu (Classical.not_not.1 g2.2)
    injection h with h
    subst h
    exact ⟨by show (txt x2).size ≤ _; rw [txt_size]; omega, by show (txt x3).size ≤ _; rw [txt_size]; omega, by show _ ≤ (rdSpan x1).1; omega, by show (rdSpan x1).1 ≤ _; omega, by show _ ≤ (0 : Int); decide, by show (0 : Int) ≤ _; decide, s3.1, s3.2⟩
theorem getD_sm {ws : List (List UInt8)} (h : ∀ x ∈ ws, x.length ≤ 60000) (k : Nat) : (ws.getD k []).length ≤ 60000 := by
  by_cases g : k < ws.length
  · rw [getD_in _ _ g]; exact h _ (List.getElem_mem g)
  · rw [getD_out _ _ (by omega)]; exact Nat.zero_le _
theorem line_ok {st st' : RdS} {k : Nat} {l : List UInt8} (o : RdOk st k) (hl : l.length ≤ 60000) (h : lineF st l = some st') : RdOk st' (k + 1) := by
  have hw : ∀ x ∈ splitC 32 l, x.length ≤ 60000 := fun x hx => Nat.le_trans (splitC_small 32 l x hx) hl
  have hg := getD_sm hw
  have tz : ∀ j, (txt ((splitC 32 l).getD j [])).size ≤ 60000 := fun j => by rw [txt_size]; exact hg j
  have a1 := o.r
  have a2 := o.z
  have a3 := o.l
  unfold lineF at h
  split at h
  · split at h
    · rename_i g
      injection h with h
      subst h
      refine ⟨by show (st.rules ++ [_]).length ≤ _; rw [List.length_append]; show st.rules.length + 1 ≤ _; omega, by show st.zones.length ≤ _; omega, by show st.links.length ≤ _; omega, fun i => Nat.le_succ_of_le (o.e i), o.n, ?_, o.zs, o.ls⟩
      intro r hr
      rcases List.mem_append.1 hr with hr | hr
      · exact o.rs r hr
      · rw [List.mem_singleton.1 hr]; exact okRu_sz (rdRule_ok g).1
    · cases h
  split at h
  · injection h with h
    subst h
    refine ⟨by show st.rules.length ≤ _; omega, by show (st.zones ++ [_]).length ≤ _; rw [List.length_append]; show st.zones.length + 1 ≤ _; omega, by show st.links.length ≤ _; omega, fun i => ?_, fun _ => by show st.zones ++ [_] ≠ []; simp, o.rs, ?_, o.ls⟩
    · show (zD (st.zones ++ [(txt ((splitC 32 l).getD 1 []), [])]) i).2.length ≤ _
      rcases Nat.lt_trichotomy i st.zones.length with g | g | g
      · rw [(zD_snoc _ _ i).1 g]; exact Nat.le_succ_of_le (o.e i)
      · rw [(zD_snoc _ _ i).2 g]; exact Nat.zero_le _
      · rw [zD_out (by rw [List.length_append]; show st.zones.length + 1 ≤ i; omega)]; exact Nat.zero_le _
    · intro z hz
      rcases List.mem_append.1 hz with hz | hz
      · exact o.zs z hz
      · rw [List.mem_singleton.1 hz]; exact ⟨tz 1, fun x hx => absurd hx (List.not_mem_nil)⟩
  split at h
  · unfold eraF at h
    split at h
    · cases h
    rename_i g
    rw [not_or] at g
    have hst := Classical.not_not.1 g.1
    split at h
    · cases h
    rename_i x hx
    injection h with h
    subst h
    have hsx := eraL_sz (hg 2) (hg 3) hx
    have hnz : 0 < st.zones.length := List.length_pos_iff.2 (o.n hst)
    refine ⟨by show st.rules.length ≤ _; omega, by show (addEra st.zones x).length ≤ _; rw [addEra_length]; omega, by show st.links.length ≤ _; omega, fun i => ?_, fun _ => ?_, o.rs, ?_, o.ls⟩
    · show (zD (addEra st.zones x) i).2.length ≤ _
      unfold addEra
      rw [zD_set _ _ _ _ (by omega)]
      split
      · show ((zD st.zones (st.zones.length - 1)).2 ++ [x]).length ≤ _
        have := o.e (st.zones.length - 1)
        rw [List.length_append]; show _ + 1 ≤ _; omega
      · exact Nat.le_succ_of_le (o.e i)
    · show addEra st.zones x ≠ []
      intro e
      have := addEra_length st.zones x
      rw [e] at this
      simp at this
      omega
    · intro z hz
      have hz : z ∈ st.zones.set (st.zones.length - 1) ((zD st.zones (st.zones.length - 1)).1, (zD st.zones (st.zones.length - 1)).2 ++ [x]) := hz
      have hm := zD_mem (zs := st.zones) (i := st.zones.length - 1) (by omega)
      rcases List.mem_or_eq_of_mem_set hz with hz | rfl
      · exact o.zs z hz
      · refine ⟨(o.zs _ hm).1, fun y hy => ?_⟩
        rcases List.mem_append.1 hy with hy | hy
        · exact (o.zs _ hm).2 y hy
        · rw [List.mem_singleton.1 hy]; exact hsx
  split at h
  · injection h with h
    subst h
    refine ⟨by show st.rules.length ≤ _; omega, by show st.zones.length ≤ _; omega, by show (st.links ++ [_]).length ≤ _; rw [List.length_append]; show st.links.length + 1 ≤ _; omega, fun i => Nat.le_succ_of_le (o.e i), fun e => absurd (show (3 : Int) = 2 from e) (by decide), o.rs, o.zs, ?_⟩
    intro x hx
    rcases List.mem_append.1 hx with hx | hx
    · exact o.ls x hx
    · rw [List.mem_singleton.1 hx]; exact ⟨tz 1, tz 2⟩
  · cases h

def zosE : List (ByteArray × List Er) → List Value → List Zo
  | z :: zs, e :: es => ⟨z.1, e, z.2⟩ :: zosE zs es
  | _, _ => []
theorem zosE_len : ∀ (zs : List (ByteArray × List Er)) (es : List Value), zs.length = es.length → (zosE zs es).length = zs.length
  | [], [], _ => rfl
  | [], _ :: _, h => by cases h
  | _ :: _, [], h => by cases h
  | z :: zs, e :: es, h => by
    have h : zs.length = es.length := by simpa using h
    show (zosE zs es).length + 1 = zs.length + 1
    rw [zosE_len zs es h]
theorem zosE_get : ∀ (zs : List (ByteArray × List Er)) (es : List Value), zs.length = es.length → ∀ (i : Nat) (h : i < (zosE zs es).length) (h2 : i < es.length), (zosE zs es)[i] = ⟨(zD zs i).1, es[i], (zD zs i).2⟩
  | [], [], _, i, h, _ => absurd h (Nat.not_lt_zero _)
  | [], _ :: _, h, _, _, _ => by cases h
  | _ :: _, [], h, _, _, _ => by cases h
  | z :: zs, e :: es, _, 0, _, _ => rfl
  | z :: zs, e :: es, h, i + 1, h1, h2 => by
    have h : zs.length = es.length := by simpa using h
    have h1 : i < (zosE zs es).length := by simpa [zosE] using h1
    have h2 : i < es.length := by simpa using h2
    exact zosE_get zs es h i h1 h2
theorem zosE_cs : ∀ (zs : List (ByteArray × List Er)) (es : List Value), zoCs zs es = (zosE zs es).flatMap zoCells
  | z :: zs, e :: es => by
    show .string z.1 :: e :: zoCs zs es = _
    rw [zosE_cs zs es]; rfl
  | [], _ => rfl
  | _ :: _, [] => rfl
def clrZ (z : Zo) : Zo := ⟨z.nm, undef, z.eras⟩
theorem any_clr (zs : List Zo) (n : ByteArray) : ((zs.map clrZ).any fun y => decide (y.nm = n)) = zs.any fun y => decide (y.nm = n) := by
  rw [List.any_map]; rfl
theorem firstE_congr {α : Type} {f g : α → Int} : ∀ (l : List α), (∀ x ∈ l, f x = g x) → firstE f l = firstE g l
  | [], _ => rfl
  | x :: r, h => by
    unfold firstE
    rw [h x List.mem_cons_self, firstE_congr r fun y hy => h y (List.mem_cons_of_mem _ hy)]
/-- where the eras lie matters nothing to the book's check -/
theorem bkChk_clr (rs : List Ru) (zs : List Zo) (ls : List Lk) : bkChk ⟨rs, zs.map clrZ, ls⟩ = bkChk ⟨rs, zs, ls⟩ := by
  have hz : firstE (chkZ ⟨rs, zs.map clrZ, ls⟩) (List.range (zs.map clrZ).length) = firstE (chkZ ⟨rs, zs, ls⟩) (List.range zs.length) := by
    rw [List.length_map]
    refine firstE_congr _ fun i hi => ?_
    have hi := List.mem_range.1 hi
    have e1 := chkZ_at (⟨rs, zs.map clrZ, ls⟩ : Bk) i (by show i < (zs.map clrZ).length; rw [List.length_map]; exact hi)
    have e2 := chkZ_at (⟨rs, zs, ls⟩ : Bk) i hi
    refine e1.trans (Eq.trans ?_ e2.symm)
    show zoneChk rs ((zs.map clrZ).take i) ((zs.map clrZ)[i]'(by rw [List.length_map]; exact hi)) = zoneChk rs (zs.take i) zs[i]
    rw [List.getElem_map, ← List.map_take]
    unfold zoneChk
    have e3 := any_clr (zs.take i) zs[i].nm
    show (if nameB zs[i].nm = false then (3 : Int) else if (((zs.take i).map clrZ).any fun y => decide (y.nm = zs[i].nm)) = true then 7 else _) = _
    rw [e3]
    rfl
  have hlz : (zs.map clrZ).length = zs.length := List.length_map _
  have hl : firstE (chkL ⟨rs, zs.map clrZ, ls⟩) (List.range ls.length) = firstE (chkL ⟨rs, zs, ls⟩) (List.range ls.length) := by
    refine firstE_congr _ fun i hi => ?_
    have e : ∀ n, isZone ⟨rs, zs.map clrZ, ls⟩ n = isZone ⟨rs, zs, ls⟩ n := fun n => any_clr zs n
    unfold chkL linkChk
    rw [e, e]
  by_cases h0 : 40 < rs.length ∨ 20 < zs.length ∨ 20 < ls.length
  · have e1 := bkChk_2 (⟨rs, zs.map clrZ, ls⟩ : Bk) (by show 40 < rs.length ∨ 20 < (zs.map clrZ).length ∨ 20 < ls.length; rw [hlz]; exact h0)
    have e2 := bkChk_2 (⟨rs, zs, ls⟩ : Bk) h0
    exact e1.trans e2.symm
  · have h0' : ¬ (40 < (⟨rs, zs.map clrZ, ls⟩ : Bk).rules.length ∨ 20 < (⟨rs, zs.map clrZ, ls⟩ : Bk).zones.length ∨ 20 < (⟨rs, zs.map clrZ, ls⟩ : Bk).links.length) := by
      show ¬ (40 < rs.length ∨ 20 < (zs.map clrZ).length ∨ 20 < ls.length)
      rw [hlz]; exact h0
    by_cases h1 : firstE ruChk rs = 0
    · by_cases h2 : firstE (chkZ ⟨rs, zs, ls⟩) (List.range zs.length) = 0
      · exact (bkChk_l _ h0' h1 (hz.trans h2)).trans (hl.trans (bkChk_l (⟨rs, zs, ls⟩ : Bk) h0 h1 h2).symm)
      · exact (bkChk_z _ h0' h1 (fun g => h2 (hz.symm.trans g))).trans (hz.trans (bkChk_z (⟨rs, zs, ls⟩ : Bk) h0 h1 h2).symm)
    · exact (bkChk_r _ h0' h1).trans (bkChk_r (⟨rs, zs, ls⟩ : Bk) h0 h1).symm
theorem bkS_chk (st : RdS) (evs : List Value) (h : st.zones.length = evs.length) : bkChk (bkS st fun _ => undef) = bkChk ⟨st.rules, zosE st.zones evs, st.links⟩ := by
  rw [← bkChk_clr st.rules (zosE st.zones evs) st.links]
  have e : (st.zones.zipIdx.map fun z : (ByteArray × List Er) × Nat => (⟨z.1.1, undef, z.1.2⟩ : Zo)) = (zosE st.zones evs).map clrZ := by
    refine List.ext_getElem (by rw [List.length_map, List.length_map, List.length_zipIdx, zosE_len _ _ h]) fun i h1 h2 => ?_
    have hi : i < st.zones.length := by simpa using h1
    rw [List.getElem_map, List.getElem_map, List.getElem_zipIdx, zosE_get _ _ h i (by rw [zosE_len _ _ h]; exact hi) (by omega)]
    have hz : zD st.zones i = st.zones[i] := by unfold zD; rw [List.getD_eq_getElem?_getD, List.getElem?_eq_getElem hi]; rfl
    show (⟨st.zones[i].1, undef, st.zones[i].2⟩ : Zo) = ⟨(zD st.zones i).1, undef, (zD st.zones i).2⟩
    rw [hz]
  show bkChk ⟨st.rules, _, st.links⟩ = _
  rw [e]
/-- the book under way, as it lies in memory -/
theorem RdM.book {B R : Nat} {W : World} {rv zv lv : Value} {evs : List Value} {st : RdS} {k : Nat} (h : RdM B W R rv zv lv evs st) (o : RdOk st k) (hk : k ≤ 100000) : BookAt W.heap.size W rv zv lv ⟨st.rules, zosE st.zones evs, st.links⟩ := by
  have el := h.el
  have hl := zosE_len st.zones evs el
  have a1 := o.r
  have a2 := o.z
  have a3 := o.l
  have hz := h.zr
  rw [zosE_cs, ← hl] at hz
  refine ⟨own_rowsG (cells := fun r : Ru => (ruCells r).toList) (k := 11) (fun _ => rfl) h.rr (by show st.rules.length ≤ 100000; omega), own_rowsG (cells := zoCells) (k := 2) (fun _ => rfl) hz (by show (zosE st.zones evs).length ≤ 100000; omega), ?_, own_rowsG (cells := lkCells) (k := 2) (fun _ => rfl) h.lr (by show st.links.length ≤ 100000; omega), o.rs, ?_, fun x hx => ⟨Nat.le_trans (o.ls x hx).1 (by decide), Nat.le_trans (o.ls x hx).2 (by decide)⟩⟩
  · intro z hz
    obtain ⟨i, hi, rfl⟩ := List.mem_iff_getElem.1 hz
    have hi2 : i < evs.length := by have : i < (zosE st.zones evs).length := hi; omega
    have e := zosE_get st.zones evs el i hi hi2
    show RowsAt _ 5 W.heap.size W (zosE st.zones evs)[i].ev (zosE st.zones evs)[i].eras
    rw [e]
    have := o.e i
    exact own_rowsG (cells := fun x : Er => (erCells x).toList) (k := 5) (fun _ => rfl) (h.er i hi2) (by show (zD st.zones i).2.length ≤ 100000; omega)
  · intro z hz
    obtain ⟨i, hi, rfl⟩ := List.mem_iff_getElem.1 hz
    have hi2 : i < evs.length := by have : i < (zosE st.zones evs).length := hi; omega
    have e := zosE_get st.zones evs el i hi hi2
    show (zosE st.zones evs)[i].nm.size ≤ _ ∧ ∀ x ∈ (zosE st.zones evs)[i].eras, SzE x
    rw [e]
    have hm := o.zs _ (zD_mem (zs := st.zones) (i := i) (by omega))
    exact ⟨Nat.le_trans hm.1 (by decide), hm.2⟩
/-- the lines' way, step by step -/
theorem lines_step {ls : List (List UInt8)} {st : RdS} {k j : Nat} (hk : k < ls.length) : linesF st j (ls.drop k) = match lineF st ls[k] with | none => (none, j + 1) | some st' => linesF st' (j + 1) (ls.drop (k + 1)) := by
  rw [List.drop_eq_getElem_cons hk]
  rfl
theorem pf_large {l : List UInt8} (h : 60000 < l.length) : parseF l = (rd0, 0, 2) := by unfold parseF; rw [if_pos h]
theorem pf_nil {l : List UInt8} (h : l = []) : parseF l = (rd0, 0, 0) := by subst h; unfold parseF; rw [if_neg (by decide), if_pos rfl]
theorem pf_line {l : List UInt8} (h : ¬ 60000 < l.length) (h2 : l ≠ []) {k : Nat} (e : linesF rd0 0 (splitC 10 l) = (none, k)) : parseF l = (rd0, k, 3) := by unfold parseF; rw [if_neg h, if_neg h2, e]
theorem pf_end {l : List UInt8} (h : ¬ 60000 < l.length) (h2 : l ≠ []) {k : Nat} {st : RdS} (e : linesF rd0 0 (splitC 10 l) = (some st, k)) (hs : st.stage = 2) : parseF l = (rd0, k + 1, 3) := by unfold parseF; rw [if_neg h, if_neg h2, e]; exact if_pos hs
theorem pf_chk {l : List UInt8} (h : ¬ 60000 < l.length) (h2 : l ≠ []) {k : Nat} {st : RdS} (e : linesF rd0 0 (splitC 10 l) = (some st, k)) (hs : st.stage ≠ 2) (hc : bkChk (bkS st fun _ => undef) ≠ 0) : parseF l = (rd0, 0, bkChk (bkS st fun _ => undef)) := by unfold parseF; rw [if_neg h, if_neg h2, e]; exact (if_neg hs).trans (if_pos hc)
theorem pf_ok {l : List UInt8} (h : ¬ 60000 < l.length) (h2 : l ≠ []) {k : Nat} {st : RdS} (e : linesF rd0 0 (splitC 10 l) = (some st, k)) (hs : st.stage ≠ 2) (hc : bkChk (bkS st fun _ => undef) = 0) : parseF l = (st, 0, 0) := by unfold parseF; rw [if_neg h, if_neg h2, e]; exact (if_neg hs).trans (if_neg fun g => g hc)
end Go.Proofs.YtomahddiclkepaaGreatDoor
namespace Go.Proofs.YtomahddiclkepaaGreatDoor
open Go.RowKit Go.Joins
open Classical
set_option linter.unusedVariables false
set_option linter.unusedSimpArgs false

def PsPost (R : RdS × Nat × Int) (w : World) (e : Ending) (w' : World) : Prop :=
  Below w.heap.size w w' ∧ ∃ rv zv lv evs, e = .returned (.tuple #[.agg #[rv, zv, lv], .int .i64 (R.2.1 : Int), .int .i64 R.2.2]) ∧ R.1.zones.length = evs.length ∧ BookAt w'.heap.size w' rv zv lv ⟨R.1.rules, zosE R.1.zones evs, R.1.links⟩
theorem rows_nilP {α : Type} {cells : α → List Value} {k B : Nat} {W : World} : RowsAt cells k B W (.slice none 0 0) [] := ⟨none, 0, rfl, ⟨Nat.zero_le _, Nat.le_refl _⟩, fun h => absurd rfl h⟩
theorem PsPost.no {R : RdS × Nat × Int} {w w' : World} {n : Nat} {C m : Int} (h : R = (rd0, n, C)) (hm : m = (n : Int)) (hb : Below w.heap.size w w') : PsPost R w (.returned (.tuple #[.agg #[.slice none 0 0, .slice none 0 0, .slice none 0 0], .int .i64 m, .int .i64 C])) w' := by
  subst h
  subst hm
  exact ⟨hb, _, _, _, [], rfl, rfl, rows_nilP, rows_nilP, fun z hz => absurd hz (List.not_mem_nil), rows_nilP, fun z hz => absurd hz (List.not_mem_nil), fun z hz => absurd hz (List.not_mem_nil), fun z hz => absurd hz (List.not_mem_nil)⟩
theorem heap_setP {W : World} {g i : Nat} {cs : Array Value} {T : TypeId} (h : W.heap[g]? = some (.cells cs T (0, 0))) (v : Value) : (W.setCell ⟨g, i, none⟩ v).heap[g]? = some (.cells (cs.setIfInBounds i v) T (0, 0)) := by rw [heap_setCell_same W g i _ _ v h]
theorem end3P {W : World} {g : Nat} {a b c : Value} {T : TypeId} (h : W.heap[g]? = some (.cells #[a, b, c] T (0, 0))) (x y z : Value) :
    ∃ W', ((W.setCell ⟨g, 0, none⟩ x).setCell ⟨g, 1, none⟩ y).setCell ⟨g, 2, none⟩ z = W' ∧ Below g W W' ∧ W'.cell? ⟨g, 0, none⟩ = some x ∧ W'.cell? ⟨g, 1, none⟩ = some y ∧ W'.cell? ⟨g, 2, none⟩ = some z ∧ ∀ b, b ≠ g → W'.heap[b]? = W.heap[b]? := by
  have hr := heap_setP (i := 2) (heap_setP (i := 1) (heap_setP (i := 0) h x) y) z
  refine ⟨_, rfl, (((Below.refl _ _).setCell (by exact Nat.le_refl _) _).setCell (by exact Nat.le_refl _) _).setCell (by exact Nat.le_refl _) _, ?_, ?_, ?_, fun b hb => (Below.heap_setCell _ _ _ _ hb).trans ((Below.heap_setCell _ _ _ _ hb).trans (Below.heap_setCell _ _ _ _ hb))⟩
  · exact (cell_of_row _ _ 0 _ _ _ hr).trans rfl
  · exact (cell_of_row _ _ 1 _ _ _ hr).trans rfl
  · exact (cell_of_row _ _ 2 _ _ _ hr).trans rfl
structure Box3 (W : World) (P : Nat) : Prop where
  h : W.heap[P]? = some (.cells #[.slice none 0 0, .slice none 0 0, .slice none 0 0] 26 (0, 0))
theorem Box3.facts {W : World} {P : Nat} (h : Box3 W P) : W.cell? ⟨P, 0, none⟩ = some (.slice none 0 0) ∧ W.cell? ⟨P, 1, none⟩ = some (.slice none 0 0) ∧ W.cell? ⟨P, 2, none⟩ = some (.slice none 0 0) ∧ W.frozen? ⟨P, 0, none⟩ = false ∧ W.frozen? ⟨P, 1, none⟩ = false ∧ W.frozen? ⟨P, 2, none⟩ = false ∧ P < W.heap.size :=
  ⟨(cell_of_row W _ 0 _ _ _ h.h).trans rfl, (cell_of_row W _ 1 _ _ _ h.h).trans rfl, (cell_of_row W _ 2 _ _ _ h.h).trans rfl, by simp [World.frozen?, h.h], by simp [World.frozen?, h.h], by simp [World.frozen?, h.h], (Array.getElem?_eq_some_iff.mp h.h).1⟩
/-- the lines' row -/
def LnsAt (W : World) (A : Nat) (ls : List (List UInt8)) : Prop := ∃ cs fr, W.heap[A]? = some (.cells cs 9 fr) ∧ ∀ j (h : j < ls.length), W.cell? ⟨A, j, none⟩ = some (.string (txt ls[j]))
theorem LnsAt.keep {W W' : World} {A : Nat} {ls : List (List UInt8)} (h : LnsAt W A ls) (hk : StrKeep W W') : LnsAt W' A ls := by
  obtain ⟨cs, fr, h1, h2⟩ := h
  have e := hk A cs fr h1
  exact ⟨cs, fr, e.trans h1, fun j hj => (World.cell?_of_block (a := ⟨A, j, none⟩) e).trans (h2 j hj)⟩

theorem splitB_any (c : UInt8) (l : List UInt8) (w : World) (hl : l.length < 4294967281) (hm : MaxLen w) :
    Calls Tryz.prog 36 #[.string (txt l), .string (txt [c])] w fun e w' => ∃ A, e = .returned (.slice (some ⟨A, 0, none⟩) (splitC c l).length (splitC c l).length) ∧ w.heap.size ≤ A ∧ LnsAt w' A (splitC c l) ∧ Below w.heap.size w w' := by
  obtain ⟨m, hm⟩ := hm
  have hn : (splitC c l).length = Lib.countB (txt l) (txt [c]) + 1 := by
    rw [splitC_length]; unfold Lib.countB; rw [txt_data, txt_data, Lib.count_one]
  refine (Tryz.strings_Split (txt l) (txt [c]) m w (by rw [txt_size]; exact hl) hm (by rw [txt_size]; simp)).mono ?_
  rintro e w' ⟨rfl, rfl⟩
  rw [splitB_one]
  refine ⟨w.heap.size, by rw [hn], Nat.le_refl _, ⟨_, _, heap_alloc_new w _, ?_⟩, (Below.refl _ _).alloc (Nat.le_refl _) _⟩
  intro j h
  rw [cell_of_row _ _ _ _ _ _ (heap_alloc_new w _)]
  simp [h]
theorem RdM.keepB {B R : Nat} {W W' : World} {rv zv lv : Value} {evs : List Value} {st : RdS} (h : RdM B W R rv zv lv evs st) (hk : ∀ b, B ≤ b → b < W.heap.size → W'.heap[b]? = W.heap[b]?) : RdM B W' R rv zv lv evs st :=
  have kk : ∀ {e : TypeId} {s n : Nat} {v : Value} {xs : List Value}, W.ownsRow B e s v n xs → W'.ownsRow B e s v n xs := fun ho => own_keep ho fun g e => hk g (World.ownsRow.lt ho g e).1 (World.ownsRow.lt ho g e).2
  ⟨h.hR, (hk R h.hR h.lt).trans h.blk, kk h.rr, kk h.zr, h.el, fun i hi => kk (h.er i hi), h.ed, kk h.lr⟩
set_option maxRecDepth 100000 in
set_option maxHeartbeats 20000000 in
theorem bookParse_any (l : List UInt8) (w : World) (hl : l.length ≤ 140737488351232) (ht : Tab10 w) (ha : AscTab w) (he : NumErrs w) (hm : MaxLen w) :
    Calls Tryz.prog 11 #[.string (txt l)] w (PsPost (parseF l) w) := by
  obtain ⟨W0, eW⟩ : ∃ W0, w.alloc (.cells #[.slice none 0 0, .slice none 0 0, .slice none 0 0] 26) = W0 := ⟨_, rfl⟩
  obtain ⟨P, eP⟩ : ∃ P, w.heap.size = P := ⟨_, rfl⟩
  have hx0 : Box3 W0 P := ⟨by rw [← eW]; exact alloc_at _ _ _ eP.symm⟩
  have hb0 : Below w.heap.size w W0 := by rw [← eW]; exact alB _ _
  have hs0 : W0.heap.size = P + 1 := by rw [← eW, ← eP]; simp
  have HFIN : Hid (∀ W, Below P W0 W → Below w.heap.size w W) := by
    show ∀ W, _
    intro W hb
    rw [eP] at hb0 ⊢
    exact hb0.trans hb
  have HFA : Hid (∀ W, Below (P + 1) W0 W → Box3 W P ∧ Tab10 W ∧ AscTab W ∧ NumErrs W ∧ MaxLen W) := by
    show ∀ W, _
    intro W hb
    have hw := HFIN.out W (hb.mono (Nat.le_succ _))
    exact ⟨⟨(hb.block P (Nat.lt_succ_self _)).trans hx0.h⟩, ht.below hw, ha.below hw, he.below hw, hm.below hw⟩
  obtain ⟨R, eR⟩ : ∃ R, parseF l = R := ⟨_, rfl⟩
  rw [eR]
  have hsz : (txt l).size = l.length := txt_size l
  obtain ⟨z0, z1, z2, zf0, zf1, zf2, zl⟩ := hx0.facts
  have HEW := Lib.hid eW
  have HEP := Lib.hid eP
  have HX0 := Lib.hid hx0
  have HS0 := Lib.hid hs0
  have HER := Lib.hid eR
  clear eW eP hx0 hb0 hs0 ht ha he hm eR
  by_cases h60 : 60000 < l.length
  · have h60i : (60000 : Int) < ((txt l).size : Int) := by omega
    have HR := Lib.hid (HER.out.symm.trans (pf_large h60))
    go_enter Tryz.func11, Tryz.ntmps11
    go_upto_region 1 with fail
    rw [HEW.out, HEP.out]
    go_wp2_with fail
    obtain ⟨W9, e9, hb9, v0, v1, v2, -⟩ := end3P HX0.out.h (.slice none 0 0) (.slice none 0 0) (.slice none 0 0)
    rw [e9]
    exact bodyPost_ret (v := .tuple #[.agg #[.slice none 0 0, .slice none 0 0, .slice none 0 0], .int .i64 0, .int .i64 2]) (by simp [results, Tryz.results11, go_sem, v0, v1, v2]) rfl (PsPost.no HR.out rfl (HFIN.out _ hb9))
  have h60i : ¬ (60000 : Int) < ((txt l).size : Int) := by omega
  by_cases hnil : l = []
  · have HR := Lib.hid (HER.out.symm.trans (pf_nil hnil))
    have hq : ((txt l).toList == []) = true := by rw [hnil, ByteArray.toList_eq, txt_data]; rfl
    clear hnil
    go_enter Tryz.func11, Tryz.ntmps11
    go_upto_region 1 with fail
    rw [HEW.out, HEP.out]
    go_wp2_with fail
    obtain ⟨W9, e9, hb9, v0, v1, v2, -⟩ := end3P HX0.out.h (.slice none 0 0) (.slice none 0 0) (.slice none 0 0)
    rw [e9]
    exact bodyPost_ret (v := .tuple #[.agg #[.slice none 0 0, .slice none 0 0, .slice none 0 0], .int .i64 0, .int .i64 0]) (by simp [results, Tryz.results11, go_sem, v0, v1, v2]) rfl (PsPost.no HR.out rfl (HFIN.out _ hb9))
  have hq : ((txt l).toList == []) = false := by
    rw [ByteArray.toList_eq, txt_data]
    simpa using hnil
  have HNL := Lib.hid hnil
  obtain ⟨W1, e1⟩ : ∃ W1, W0.alloc (.cells #[.slice none 0 0, .slice none 0 0, .slice none 0 0, .int .i64 0] 100) = W1 := ⟨_, rfl⟩
  obtain ⟨rb, erb⟩ : ∃ rb, W0.heap.size = rb := ⟨_, rfl⟩
  have hrb : rb = P + 1 := by rw [← erb]; exact HS0.out
  have hx1 : W1.heap[rb]? = some (.cells #[.slice none 0 0, .slice none 0 0, .slice none 0 0, .int .i64 0] 100 (0, 0)) := by rw [← e1]; exact alloc_at _ _ _ erb.symm
  have hb1 : Below rb W0 W1 := by rw [← e1, ← erb]; exact alB _ _
  have hrd : RdM rb W1 rb (.slice none 0 0) (.slice none 0 0) (.slice none 0 0) [] rd0 :=
    ⟨Nat.le_refl _, hx1, World.ownsRow_nil _ _ _ _, World.ownsRow_nil _ _ _ _, rfl, fun i h => absurd h (Nat.not_lt_zero _), fun i j h => absurd h (Nat.not_lt_zero _), World.ownsRow_nil _ _ _ _⟩
  have hz1 : rb < W1.heap.size := (Array.getElem?_eq_some_iff.mp hx1).1
  have HE1 := Lib.hid e1
  have HRB := Lib.hid erb
  have HB1 := Lib.hid hb1
  have HRD := Lib.hid hrd
  have hf1 := HFA.out W1 (by rw [← hrb]; exact hb1)
  have HSP := Lib.hid (splitB_any 10 l W1 (by omega) hf1.2.2.2.2)
  have hsm := splitC_small 10 l
  have hcnt := splitC_length 10 l
  have hcl : l.count 10 ≤ l.length := List.count_le_length
  have HPL := Lib.hid (fun k => pf_line (l := l) h60 hnil (k := k))
  have HPE := Lib.hid (fun k st => pf_end (l := l) h60 hnil (k := k) (st := st))
  have HPC := Lib.hid (fun k st => pf_chk (l := l) h60 hnil (k := k) (st := st))
  have HPO := Lib.hid (fun k st => pf_ok (l := l) h60 hnil (k := k) (st := st))
  rw [HER.out] at HPL HPE HPC HPO
  obtain ⟨ls, els⟩ : ∃ ls, splitC 10 l = ls := ⟨_, rfl⟩
  rw [els] at HSP hsm hcnt HPL HPE HPC HPO
  have hln : ls.length ≤ 60001 := by omega
  have HSM := Lib.hid hsm
  have HRP := Lib.hid hrb
  have hPr : P < rb := by omega
  clear e1 erb hx1 hb1 hrd hf1 hsm hcnt hcl els hnil hrb hsz h60i HS0
  have h60i : ¬ (60000 : Int) < ((txt l).size : Int) := by rw [txt_size]; omega
  go_enter Tryz.func11, Tryz.ntmps11
  go_upto_region 1 with fail
  rw [HEW.out, HEP.out]
  go_upto_region 6 with fail
  rw [HE1.out, HRB.out]
  clear z0 z1 z2 zf0 zf1 zf2 zl
  go_wp2_with fail
  refine HSP.out.mono ?_
  rintro e w2 ⟨A, rfl, hA1, hlns, hb2⟩
  have HB2 := Lib.hid (HB1.out.trans (hb2.mono (Nat.le_of_lt hz1)))
  have HRD2 := Lib.hid (HRD.out.below hb2)
  have HLN := Lib.hid hlns
  have hz2 : rb < w2.heap.size := HRD2.out.lt
  clear hb2 hlns HSP hA1
  go_wp2_with fail
  go_loopw [25] (fun i wr => ∃ k : Nat, k ≤ ls.length ∧ i = .int .i64 k ∧ Hid (∃ st, RdOk st k ∧ linesF rd0 0 ls = linesF st k (ls.drop k) ∧ ∃ rv zv lv evs, RdM rb wr rb rv zv lv evs st) ∧ Hid (LnsAt wr A ls) ∧ Hid (Below rb W0 wr)) (fun i _ => ls.length - (intOf i).toNat)
  case atStart => exact ⟨0, Nat.zero_le _, rfl, Lib.hid ⟨rd0, rdOk_0, rfl, _, _, _, _, HRD2.out⟩, HLN, HB2⟩
  case round =>
    obtain ⟨k, hk, rfl, HST, HLR, HBR⟩ := hrel
    obtain ⟨st, hok, hli, rv, zv, lv, evs, hrd⟩ := HST.out
    have HOK := Lib.hid hok
    have HLI := Lib.hid hli
    have HRDr := Lib.hid hrd
    have hzr : rb < wr.heap.size := hrd.lt
    have hfa := HFA.out wr (by rw [← HRP.out]; exact HBR.out)
    obtain ⟨z0, z1, z2, zf0, zf1, zf2, zl⟩ := hfa.1.facts
    by_cases hkl : k < ls.length
    · obtain ⟨cs, fr, hA, hcs⟩ := HLR.out
      have c0 := hcs k hkl
      have hAl : A < wr.heap.size := (Array.getElem?_eq_some_iff.mp hA).1
      have HLS := Lib.hid (lines_step (ls := ls) (st := st) (k := k) (j := k) hkl)
      have hx60 : (ls[k]).length ≤ 60000 := Nat.le_trans (HSM.out _ (List.getElem_mem hkl)) (by omega)
      have HNX := Lib.hid (fun st' => line_ok (st' := st') hok hx60)
      have HCL := Lib.hid (rdLine_any rb rb rv zv lv evs st ls[k] wr hrd (hok.sz (by omega)) (Nat.le_of_lt hzr) hx60 hfa.2.1 hfa.2.2.1 hfa.2.2.2.1 hfa.2.2.2.2)
      obtain ⟨x, ex⟩ : ∃ x, ls[k] = x := ⟨_, rfl⟩
      rw [ex] at c0 HLS HNX HCL
      obtain ⟨N, eN⟩ : ∃ N, lineF st x = N := ⟨_, rfl⟩
      rw [eN] at HLS HNX HCL
      have hik : (k : Int) < (ls.length : Int) := by omega
      clear ex eN hA hcs hok hli hrd hfa z0 z1 z2 zf0 zf1 zf2 zl HST
      go_wp2_with fail
      refine HCL.out.mono ?_
      rintro e w3 ⟨rfl, hb3, hsk, hst⟩
      have HB3 := Lib.hid (HBR.out.trans hb3)
      have HL3 := Lib.hid (HLR.out.keep hsk)
      have hfa := HFA.out w3 (by rw [← HRP.out]; exact HB3.out)
      obtain ⟨z0, z1, z2, zf0, zf1, zf2, zl⟩ := hfa.1.facts
      have HBX := Lib.hid hfa.1
      have HSTx := Lib.hid hst
      clear hb3 hsk hst hfa HCL
      cases N with
      | none =>
        have HRz := Lib.hid (HPL.out (k + 1) (HLI.out.trans HLS.out))
        have hw1 : IntKind.i64.wrap ((k : Int) + 1) = (k : Int) + 1 := IntWalk.i64_in _ (by omega)
        go_wp2_with fail
        obtain ⟨W9, e9, hb9, v0, v1, v2, -⟩ := end3P HBX.out.h (.slice none 0 0) (.slice none 0 0) (.slice none 0 0)
        rw [e9]
        exact bodyPost_ret (v := .tuple #[.agg #[.slice none 0 0, .slice none 0 0, .slice none 0 0], .int .i64 ((k : Int) + 1), .int .i64 3]) (by simp [results, Tryz.results11, go_sem, v0, v1, v2]) rfl (PsPost.no HRz.out (by omega) (HFIN.out _ ((HB3.out.mono (by omega)).trans hb9)))
      | some st' =>
        clear z0 z1 z2 zf0 zf1 zf2
        go_wp2_with fail
        go_roundw
        case rel => exact ⟨k + 1, by omega, by go_num, Lib.hid ⟨st', HNX.out st' rfl, HLI.out.trans HLS.out, HSTx.out st' rfl⟩, HL3, HB3⟩
        case measure => simp [intOf]; omega
    · obtain rfl : k = ls.length := by omega
      have HQ : Hid (linesF rd0 0 ls = (some st, ls.length)) := by show _ = _; rw [hli, List.drop_length]; rfl
      have hbk := hrd.book hok (by omega)
      have hcq := bkS_chk st evs hrd.el
      obtain ⟨A1, a1, f1⟩ := own_sliceN hrd.rr
      obtain ⟨A2, a2, f2⟩ := own_sliceN hrd.zr
      obtain ⟨A3, a3, f3⟩ := own_sliceN hrd.lr
      subst f1
      subst f2
      subst f3
      have HCK := Lib.hid (bkCheck_any _ _ _ _ wr hbk hfa.2.2.2.2 hfa.2.1)
      rw [← hcq] at HCK
      obtain ⟨y0, y1, y2, y3, yf⟩ := hrd.cells
      have HP1 := Lib.hid (HPE.out _ _ HQ.out)
      have HP2 := Lib.hid (HPC.out _ _ HQ.out)
      have HP3 := Lib.hid (HPO.out _ _ HQ.out)
      have HBX := Lib.hid hfa.1
      obtain ⟨C, eC⟩ : ∃ C, bkChk (bkS st fun _ => undef) = C := ⟨_, rfl⟩
      rw [eC] at HCK HP2 HP3
      obtain ⟨sg, esg⟩ : ∃ sg, st.stage = sg := ⟨_, rfl⟩
      rw [esg] at HP1 HP2 HP3 y3
      clear hok hli hrd hbk hcq eC esg hfa HST HLI HPL HPE HPC HPO
      by_cases hsg : sg = 2
      · have HRz := Lib.hid (HP1.out hsg)
        have hw1 : IntKind.i64.wrap ((ls.length : Int) + 1) = (ls.length : Int) + 1 := IntWalk.i64_in _ (by omega)
        have hsb : (sg == 2) = true := by simpa using hsg
        clear hsg HP1 HP2 HP3 HCK
        go_wp2_with fail
        obtain ⟨W9, e9, hb9, v0, v1, v2, -⟩ := end3P HBX.out.h (.slice none 0 0) (.slice none 0 0) (.slice none 0 0)
        rw [e9]
        exact bodyPost_ret (v := .tuple #[.agg #[.slice none 0 0, .slice none 0 0, .slice none 0 0], .int .i64 ((ls.length : Int) + 1), .int .i64 3]) (by simp [results, Tryz.results11, go_sem, v0, v1, v2]) rfl (PsPost.no HRz.out (by omega) (HFIN.out _ ((HBR.out.mono (by omega)).trans hb9)))
      have hsb : (sg == 2) = false := by simpa using hsg
      have HSG := Lib.hid hsg
      clear hsg HP1 z0 z1 z2 zf0 zf1 zf2
      go_wp2_with fail
      refine HCK.out.mono ?_
      rintro e w3 ⟨rfl, hb3⟩
      have HB3 := Lib.hid (HBR.out.trans (hb3.mono (Nat.le_of_lt hzr)))
      have HRD3 := Lib.hid (HRDr.out.below hb3)
      have hbx : Box3 w3 P := ⟨(hb3.block P zl).trans HBX.out.h⟩
      have HBX3 := Lib.hid hbx
      obtain ⟨z0, z1, z2, zf0, zf1, zf2, zl3⟩ := hbx.facts
      clear hb3 hbx HCK y0 y1 y2 y3 yf HBX
      obtain ⟨y0, y1, y2, y3, yf⟩ := HRD3.out.cells
      have hz3 := HRD3.out.lt
      by_cases hC : C = 0
      case neg =>
        have HRz := Lib.hid (HP2.out HSG.out hC)
        have hCb : (C == 0) = false := by simpa using hC
        have hCn : (C != 0) = true := by simpa using hC
        clear hC HP2 HP3 y3
        go_wp2_with fail
        obtain ⟨W9, e9, hb9, v0, v1, v2, -⟩ := end3P HBX3.out.h (.slice none 0 0) (.slice none 0 0) (.slice none 0 0)
        rw [e9]
        exact bodyPost_ret (v := .tuple #[.agg #[.slice none 0 0, .slice none 0 0, .slice none 0 0], .int .i64 0, .int .i64 C]) (by simp [results, Tryz.results11, go_sem, v0, v1, v2]) rfl (PsPost.no HRz.out rfl (HFIN.out _ ((HB3.out.mono (by omega)).trans hb9)))
      subst hC
      have HRz := Lib.hid (HP3.out HSG.out rfl)
      clear HP2 HP3 y3
      go_wp2_with fail
      obtain ⟨W9, e9, hb9, v0, v1, v2, ho9⟩ := end3P HBX3.out.h (.slice A1 st.rules.length a1) (.slice A2 st.zones.length a2) (.slice A3 st.links.length a3)
      rw [e9]
      refine bodyPost_ret (v := .tuple #[.agg #[.slice A1 st.rules.length a1, .slice A2 st.zones.length a2, .slice A3 st.links.length a3], .int .i64 0, .int .i64 0]) (by simp [results, Tryz.results11, go_sem, v0, v1, v2]) rfl ?_
      rw [HRz.out]
      have hrd9 := HRD3.out.keepB (W' := W9) fun b h1 h2 => ho9 b (by omega)
      exact ⟨HFIN.out _ ((HB3.out.mono (by omega)).trans hb9), _, _, _, evs, rfl, hrd9.el, hrd9.book HOK.out (by omega)⟩
end Go.Proofs.YtomahddiclkepaaGreatDoor
namespace Go.Proofs.YtomahddiclkepaaGreatDoor
open Go.RowKit Go.Joins
open Classical
set_option linter.unusedVariables false
set_option linter.unusedSimpArgs false

theorem rdSpan_eq {n : Int} {l : List UInt8} (h : inS n) (e : spanT n = l) : rdSpan l = (n, 0) := by
  have hx : ∃ n, inS n ∧ spanT n = l := ⟨n, h, e⟩
  unfold rdSpan
  rw [dif_pos hx]
  obtain ⟨h1, h2⟩ := Classical.choose_spec hx
  have a := rawS_span h1
  have b := rawS_span h
  have c : Classical.choose hx = n := by rw [← a, ← b, h2, e]
  exact Prod.ext c rfl
end Go.Proofs.YtomahddiclkepaaGreatDoor
namespace Go.Proofs.YtomahddiclkepaaGreatDoor
open Go.RowKit Go.Joins
open Classical
set_option linter.unusedVariables false
set_option linter.unusedSimpArgs false

/-- an era's rules, as they are written -/
def eraR (x : Er) : List UInt8 := if x.ru.data.toList = [] then 45 :: spanT x.sv else x.ru.data.toList
/-- an era's text -/
def eraT (x : Er) (last : Bool) : List UInt8 :=
  (((((([101, 114, 97, 32] ++ spanT x.off) ++ [32]) ++ eraR x) ++ [32]) ++ x.fm.data.toList)) ++ (if last = true then [] else 32 :: stampT x.un)
structure ErP (x : Er) (last : Bool) : Prop where
  o : inS x.off
  s : inS x.sv
  u : last = false → inT x.un
  r : x.ru.size ≤ 60000
  f : x.fm.size ≤ 60000
end Go.Proofs.YtomahddiclkepaaGreatDoor
namespace Go.Proofs.YtomahddiclkepaaGreatDoor
open Go.RowKit Go.Joins
open Classical
set_option linter.unusedVariables false
set_option linter.unusedSimpArgs false

theorem glue_len : ∀ (ws : List (List UInt8)), (∀ x ∈ ws, x.length ≤ 60) → (glue ws).length ≤ 61 * ws.length
  | [], _ => by simp [glue]
  | [x], h => by have := h x (by simp); simp [glue]; omega
  | x :: y :: r, h => by
    have h1 := h x (by simp)
    have h2 := glue_len (y :: r) (fun z hz => h z (List.mem_cons_of_mem _ hz))
    show (x ++ 32 :: glue (y :: r)).length ≤ _
    simp only [List.length_append, List.length_cons] at h2 ⊢
    omega
theorem ruText_len {r : Ru} (o : OkRu r) : (ruText r).length ≤ 549 := by
  have f1 := o.f1; have f2 := o.f2; have t1 := o.t1; have t2 := o.t2; have m1 := o.m1; have m2 := o.m2; have a1 := o.a1; have a2 := o.a2; have s1 := o.s1; have s2 := o.s2
  have n1 := okRu_nm o; have n2 := okRu_lt o
  refine Nat.le_trans (glue_len (ruW r) ?_) (by simp [ruW])
  have hi : ∀ n : Int, -9223372036854775808 ≤ n → n ≤ 9223372036854775807 → (Lib.itoa n).length ≤ 60 := fun n h1 h2 => Nat.le_trans (Lib.itoa_length_le _ h1 h2) (by decide)
  intro x hx
  simp only [ruW, List.mem_cons, List.not_mem_nil, or_false] at hx
  rcases hx with rfl | rfl | rfl | rfl | rfl | rfl | rfl | rfl | rfl
  · simp
  · rw [← Lib.size_eq]; omega
  · exact hi _ (by omega) (by omega)
  · exact hi _ (by omega) (by omega)
  · exact hi _ (by omega) (by omega)
  · exact Nat.le_trans (dayT_len o.d) (by decide)
  · have g := spanT_len (n := r.tm) ⟨a1, a2⟩
    have g2 : (ckT r.ck).length ≤ 1 := by unfold ckT; split <;> (try split) <;> simp
    rw [List.length_append]; omega
  · exact Nat.le_trans (spanT_len (n := r.sv) ⟨by omega, by omega⟩) (by decide)
  · rw [← Lib.size_eq]; omega
end Go.Proofs.YtomahddiclkepaaGreatDoor
namespace Go.Proofs.YtomahddiclkepaaGreatDoor
open Go.RowKit Go.Joins
open Classical
set_option linter.unusedVariables false
set_option linter.unusedSimpArgs false

def zoH (nm : ByteArray) : List UInt8 := [122, 111, 110, 101, 32] ++ nm.data.toList
def erLs (l : List Er) : List (List UInt8) := (List.range l.length).map fun i => eraT (eraAt l i) (decide (i + 1 = l.length))
def zoLs (z : Zo) : List (List UInt8) := zoH z.nm :: erLs z.eras
def lkL (x : Lk) : List UInt8 := (([108, 105, 110, 107, 32] ++ x.nm.data.toList) ++ [32]) ++ x.tg.data.toList
def bkLs (b : Bk) : List (List UInt8) := b.rules.map ruText ++ b.zones.flatMap zoLs ++ b.links.map lkL
def bkText (b : Bk) : List UInt8 := Lib.join (bkLs b) [10]
theorem abE_len {f : ByteArray} {s : Int} {l : ByteArray} (h : abE f s l = 0) : f.size ≤ 12 := by
  obtain ⟨-, h1, -⟩ := abbrF_ok (show (abbrF f.data.toList s l.data.toList).2 = 0 from h)
  rw [Lib.size_eq]
  apply Classical.byContradiction
  intro hn
  unfold splitF at h1
  rw [if_pos (by omega)] at h1
  cases h1
/-- an era of a book that may be -/
theorem er_P {rules : List Ru} {l : List Er} {k : Nat} (hr : ∀ r ∈ rules, OkRu r) (h : eraChk rules l k = 0) : ErP (eraAt l k) (decide (k + 1 = l.length)) ∧ (eraAt l k).ru.size ≤ 20 ∧ (eraAt l k).fm.size ≤ 12 := by
  unfold eraChk at h
  dsimp only at h
  split at h
  · cases h
  rename_i h1
  split at h
  · cases h
  rename_i h2
  split at h
  · cases h
  rename_i h3
  split at h
  · rename_i g; exact absurd h g
  rename_i h4
  have h4 := Classical.not_not.1 h4
  have hru : (eraAt l k).ru.size ≤ 20 := by
    by_cases g : (eraAt l k).ru.data.toList = []
    · rw [Lib.size_eq, g]; decide
    · have g2 : (rules.any fun r => decide (r.nm = (eraAt l k).ru)) = true := by
        cases e : (rules.any fun r => decide (r.nm = (eraAt l k).ru)) with
        | true => rfl
        | false => exact absurd ⟨g, e⟩ h3
      obtain ⟨r, hm, e⟩ := List.any_eq_true.1 g2
      have e := of_decide_eq_true e
      rw [← e]
      exact okRu_nm (hr r hm)
  have hfm : (eraAt l k).fm.size ≤ 12 := by
    unfold abbrsChk at h4
    split at h4
    · exact abE_len h4
    · split at h4
      · exact abE_len h4
      · rename_i g; exact absurd h4 g
  refine ⟨⟨⟨by omega, by omega⟩, ⟨by omega, by omega⟩, fun hl => ?_, by omega, by omega⟩, hru, hfm⟩
  have hl : ¬ k + 1 = l.length := by simpa using hl
  rw [if_neg hl] at h
  split at h
  · cases h
  split at h
  · rename_i g; exact absurd h g
  rename_i g
  have g := Classical.not_not.1 g
  unfold stampE at g
  split at g
  · rename_i g2; exact g2
  · cases g
end Go.Proofs.YtomahddiclkepaaGreatDoor
namespace Go.Proofs.YtomahddiclkepaaGreatDoor
open Go.RowKit Go.Joins
open Classical
set_option linter.unusedVariables false
set_option linter.unusedSimpArgs false

theorem addEra_s (f : List (ByteArray × List Er)) (z : ByteArray × List Er) (x : Er) : addEra (f ++ [z]) x = f ++ [(z.1, z.2 ++ [x])] := by
  unfold addEra zD
  simp [List.set_append]
theorem joinC (c : UInt8) : ∀ l : List UInt8, Lib.join (splitC c l) [c] = l
  | [] => rfl
  | x :: r => by
    have ih := joinC c r
    have hne := splitC_ne c r
    unfold splitC
    obtain ⟨a, t, e⟩ : ∃ a t, splitC c r = a :: t := List.exists_cons_of_ne_nil hne
    rw [e] at ih ⊢
    split
    · rename_i h; subst h
      have : Lib.join ([] :: a :: t) [x] = x :: Lib.join (a :: t) [x] := by simp [Lib.join, List.intercalate]
      rw [this, ih]
    · have : Lib.join (consHd x (a :: t)) [c] = x :: Lib.join (a :: t) [c] := by cases t <;> simp [consHd, Lib.join, List.intercalate]
      rw [this, ih]
theorem w2 {l a b : List UInt8} (h : splitC 32 l = [a, b]) : l = a ++ 32 :: b := by have := joinC 32 l; rw [h] at this; rw [← this]; simp [Lib.join, List.intercalate]
theorem w3 {l a b c : List UInt8} (h : splitC 32 l = [a, b, c]) : l = a ++ 32 :: (b ++ 32 :: c) := by have := joinC 32 l; rw [h] at this; rw [← this]; simp [Lib.join, List.intercalate]
theorem w4 {l a b c d : List UInt8} (h : splitC 32 l = [a, b, c, d]) : l = a ++ 32 :: (b ++ 32 :: (c ++ 32 :: d)) := by have := joinC 32 l; rw [h] at this; rw [← this]; simp [Lib.join, List.intercalate]
theorem w5 {l a b c d e : List UInt8} (h : splitC 32 l = [a, b, c, d, e]) : l = a ++ 32 :: (b ++ 32 :: (c ++ 32 :: (d ++ 32 :: e))) := by have := joinC 32 l; rw [h] at this; rw [← this]; simp [Lib.join, List.intercalate]
end Go.Proofs.YtomahddiclkepaaGreatDoor
namespace Go.Proofs.YtomahddiclkepaaGreatDoor
open Go.RowKit Go.Joins
open Classical
set_option linter.unusedVariables false
set_option linter.unusedSimpArgs false

theorem rdRule_eq {r : Ru} (o : OkRu r) (w : World) (ht : Tab10 w) (ha : AscTab w) (hn : NumErrs w) (hm : MaxLen w) : rdRule (ruText r) = (r, 0) := by
  have hl := ruText_len o
  obtain ⟨q, R, RE, -, hu, -⟩ := Parse_nine (ruText r) _ _ _ _ _ _ _ _ _ (ru_split o) (ck_of ⟨o.a1, o.a2⟩ o.c1 o.c2).2.2 w (by omega) ht ha hn hm
  have hx : ∃ q, OkRu q ∧ ruText q = ruText r := ⟨r, o, rfl⟩
  unfold rdRule
  rw [dif_pos hx]
  obtain ⟨h1, h2⟩ := Classical.choose_spec hx
  exact Prod.ext ((hu _ h1 h2).symm.trans (hu r o rfl)) rfl
/-- lines behind lines -/
theorem linesF_app : ∀ (a b : List (List UInt8)) (st st' : RdS) (k k' : Nat), linesF st k a = (some st', k') → linesF st k (a ++ b) = linesF st' k' b
  | [], b, st, st', k, k', h => by
    unfold linesF at h
    injection h with h h2
    injection h with h
    subst h h2
    rfl
  | l :: a, b, st, st', k, k', h => by
    unfold linesF at h
    show linesF st k (l :: (a ++ b)) = _
    conv => lhs; unfold linesF
    cases e : lineF st l with
    | none => rw [e] at h; injection h with h _; cases h
    | some s2 =>
      rw [e] at h
      exact linesF_app a b s2 st' _ k' h
theorem stampT_inj {t u : Int} (h1 : inT t) (h2 : inT u) (e : stampT t = stampT u) : t = u := by
  have a := h1.1; have b := h1.2; have c := h2.1; have d := h2.2
  rcases Int.lt_trichotomy t u with h | h | h
  · have := (stampT_lt t u (by omega) (by omega) (by omega) (by omega)).2 h
    rw [e] at this
    exact absurd this (List.lt_irrefl _)
  · exact h
  · have := (stampT_lt u t (by omega) (by omega) (by omega) (by omega)).2 h
    rw [e] at this
    exact absurd this (List.lt_irrefl _)
theorem rdStamp_eq {t : Int} (h : inT t) : rdStamp (stampT t) = (t, 0) := by
  have hx : ∃ n, inT n ∧ stampT n = stampT t := ⟨t, h, rfl⟩
  unfold rdStamp
  rw [dif_pos hx]
  obtain ⟨h1, h2⟩ := Classical.choose_spec hx
  exact Prod.ext (stampT_inj h1 h h2) rfl
theorem line_ru {r : Ru} (o : OkRu r) (e : rdRule (ruText r) = (r, 0)) (rs : List Ru) : lineF ⟨rs, [], [], 0⟩ (ruText r) = some ⟨rs ++ [r], [], [], 0⟩ := by
  unfold lineF
  rw [if_pos ⟨by rw [ru_split o]; rfl, rfl⟩, e, if_pos rfl]
theorem lines_ru : ∀ (l rs : List Ru) (k : Nat), (∀ r ∈ l, OkRu r ∧ rdRule (ruText r) = (r, 0)) → linesF ⟨rs, [], [], 0⟩ k (l.map ruText) = (some ⟨rs ++ l, [], [], 0⟩, k + l.length)
  | [], rs, k, _ => by simp [linesF]
  | r :: l, rs, k, h => by
    have h1 := h r List.mem_cons_self
    have ih := lines_ru l (rs ++ [r]) (k + 1) fun x hx => h x (List.mem_cons_of_mem _ hx)
    rw [List.map_cons]
    unfold linesF
    rw [line_ru h1.1 h1.2]
    dsimp only
    rw [ih, List.append_assoc, List.length_cons]
    simp only [List.singleton_append, Nat.add_assoc, Nat.add_comm 1]
theorem zo_split {nm : ByteArray} (h : ∀ x ∈ nm.data.toList, x ≠ 32) : splitC 32 (zoH nm) = [zoneW, nm.data.toList] := by
  have : zoH nm = zoneW ++ 32 :: nm.data.toList := rfl
  rw [this, splitC_head 32 zoneW _ (by decide), splitC_last 32 _ h]
theorem lk_split {x : Lk} (h : ∀ c ∈ x.nm.data.toList, c ≠ 32) (h2 : ∀ c ∈ x.tg.data.toList, c ≠ 32) : splitC 32 (lkL x) = [linkW, x.nm.data.toList, x.tg.data.toList] := by
  have : lkL x = linkW ++ 32 :: (x.nm.data.toList ++ 32 :: x.tg.data.toList) := by unfold lkL; simp [linkW]
  rw [this, splitC_head 32 linkW _ (by decide), splitC_head 32 _ _ h, splitC_last 32 _ h2]
theorem line_zo {nm : ByteArray} (h : ∀ x ∈ nm.data.toList, x ≠ 32) (rs : List Ru) (zs : List (ByteArray × List Er)) (sg : Int) (hs : sg ≤ 1) : lineF ⟨rs, zs, [], sg⟩ (zoH nm) = some ⟨rs, zs ++ [(nm, [])], [], 2⟩ := by
  unfold lineF
  rw [zo_split h]
  dsimp only
  rw [if_neg (fun h => absurd (show zoneW = ruleW from h.1) (by decide)), if_pos ⟨rfl, hs, rfl⟩]
  rfl
theorem line_lk {x : Lk} (h : ∀ c ∈ x.nm.data.toList, c ≠ 32) (h2 : ∀ c ∈ x.tg.data.toList, c ≠ 32) (rs : List Ru) (zs : List (ByteArray × List Er)) (ls : List Lk) (sg : Int) (hs : sg ≠ 2) : lineF ⟨rs, zs, ls, sg⟩ (lkL x) = some ⟨rs, zs, ls ++ [x], 3⟩ := by
  unfold lineF
  rw [lk_split h h2]
  dsimp only
  rw [if_neg (fun h => absurd (show linkW = ruleW from h.1) (by decide)), if_neg (fun h => absurd (show linkW = zoneW from h.1) (by decide)), if_neg (show ¬ ([linkW, x.nm.data.toList, x.tg.data.toList] : List (List UInt8)).getD 0 [] = eraW from fun h => absurd (show linkW = eraW from h) (by decide)), if_pos ⟨rfl, hs, rfl⟩]
  rfl
theorem lines_lk : ∀ (l : List Lk) (rs : List Ru) (zs : List (ByteArray × List Er)) (ls : List Lk) (sg : Int) (k : Nat), sg ≠ 2 → (∀ x ∈ l, (∀ c ∈ x.nm.data.toList, c ≠ 32) ∧ ∀ c ∈ x.tg.data.toList, c ≠ 32) → ∃ sg' k', sg' ≠ 2 ∧ linesF ⟨rs, zs, ls, sg⟩ k (l.map lkL) = (some ⟨rs, zs, ls ++ l, sg'⟩, k')
  | [], rs, zs, ls, sg, k, hs, _ => ⟨sg, k, hs, by simp [linesF]⟩
  | x :: l, rs, zs, ls, sg, k, hs, h => by
    have h1 := h x List.mem_cons_self
    obtain ⟨s2, k2, hs2, ih⟩ := lines_lk l rs zs (ls ++ [x]) 3 (k + 1) (by decide) fun y hy => h y (List.mem_cons_of_mem _ hy)
    refine ⟨s2, k2, hs2, ?_⟩
    rw [List.map_cons]
    unfold linesF
    rw [line_lk h1.1 h1.2 rs zs ls sg hs]
    dsimp only
    rw [ih, List.append_assoc]
    rfl
theorem era_split {x : Er} {last : Bool} (h1 : ∀ c ∈ spanT x.off, c ≠ 32) (h2 : ∀ c ∈ eraR x, c ≠ 32) (h3 : ∀ c ∈ x.fm.data.toList, c ≠ 32) (h4 : last = false → ∀ c ∈ stampT x.un, c ≠ 32) : splitC 32 (eraT x last) = [eraW, spanT x.off, eraR x, x.fm.data.toList] ++ (if last = true then [] else [stampT x.un]) := by
  cases last with
  | true =>
    have : eraT x true = eraW ++ 32 :: (spanT x.off ++ 32 :: (eraR x ++ 32 :: x.fm.data.toList)) := by unfold eraT; simp [eraW]
    rw [this, splitC_head 32 eraW _ (by decide), splitC_head 32 _ _ h1, splitC_head 32 _ _ h2, splitC_last 32 _ h3]
    rfl
  | false =>
    have : eraT x false = eraW ++ 32 :: (spanT x.off ++ 32 :: (eraR x ++ 32 :: (x.fm.data.toList ++ 32 :: stampT x.un))) := by unfold eraT; simp [eraW]
    rw [this, splitC_head 32 eraW _ (by decide), splitC_head 32 _ _ h1, splitC_head 32 _ _ h2, splitC_head 32 _ _ h3, splitC_last 32 _ (h4 rfl)]
    rfl
theorem split_join : ∀ l : List (List UInt8), l ≠ [] → (∀ x ∈ l, ∀ c ∈ x, c ≠ 10) → splitC 10 (Lib.join l [10]) = l
  | [], h, _ => absurd rfl h
  | [x], _, h => by
    have e : Lib.join [x] [10] = x := by simp [Lib.join]
    rw [e]
    exact splitC_last 10 x (h x List.mem_cons_self)
  | x :: y :: r, _, h => by
    have e : Lib.join (x :: y :: r) [10] = x ++ 10 :: Lib.join (y :: r) [10] := by unfold Lib.join; simp [List.intercalate]
    rw [e, splitC_head 10 x _ (h x List.mem_cons_self), split_join (y :: r) (by simp) fun z hz => h z (List.mem_cons_of_mem _ hz)]
end Go.Proofs.YtomahddiclkepaaGreatDoor
namespace Go.Proofs.YtomahddiclkepaaGreatDoor
open Go.RowKit Go.Joins
open Classical
set_option linter.unusedVariables false
set_option linter.unusedSimpArgs false

/-- signs that are no blank -/
def Gs (l : List UInt8) : Prop := ∀ c ∈ l, 32 < c.toNat
theorem Gs_ne {l : List UInt8} (h : Gs l) (k : UInt8) (hk : k.toNat ≤ 32) : ∀ c ∈ l, c ≠ k := by
  rintro c hc rfl
  have := h c hc
  omega
theorem Gs_app {a b : List UInt8} (h : Gs a) (h2 : Gs b) : Gs (a ++ b) := fun c hc => (List.mem_append.1 hc).elim (h c) (h2 c)
theorem Gs_dg {l : List UInt8} (h : ∀ c ∈ l, isDg c) : Gs l := fun c hc => by have := h c hc; unfold isDg at this; omega
theorem Gs_one {k : UInt8} (h : 32 < k.toNat) : Gs [k] := fun c hc => by rw [List.mem_singleton.1 hc]; exact h
theorem Gs_itoa {n : Int} (h : 0 ≤ n) : Gs (Lib.itoa n) := Gs_dg (itoa_dg h)
theorem Gs_T2 {n : Int} (h : 0 ≤ n) (h1 : n < 100) : Gs (T2 n) := Gs_dg (T2_dg h h1)
theorem Gs_span {n : Int} (h : inS n) : Gs (spanT n) := fun c hc => by
  rcases spanT_mem h c hc with h | rfl | rfl
  · unfold isDg at h; omega
  · decide
  · decide
theorem Gs_stamp {t : Int} (h : inT t) : Gs (stampT t) := by
  obtain ⟨h1, h2⟩ := h
  obtain ⟨hv, _⟩ := Civ.date_valid (t / 86400) h1 h2
  obtain ⟨y1, y2, m1, m2, d1, d2⟩ := hv
  have hm : Civ.mlen (Civ.yy (t / 86400)) (Civ.mm (t / 86400)) ≤ 31 := (Civ.mlen_bd _ _ m1 m2).2
  unfold stampT
  refine Gs_app (Gs_itoa (by omega)) (Gs_app (Gs_one (by decide)) (Gs_app (Gs_T2 (by omega) (by omega)) (Gs_app (Gs_one (by decide)) (Gs_app (Gs_T2 (by omega) (by omega)) (Gs_app (Gs_one (by decide)) (Gs_app (Gs_T2 (by omega) (by omega)) (Gs_app (Gs_one (by decide)) (Gs_app (Gs_T2 (by omega) (by omega)) (Gs_app (Gs_one (by decide)) (Gs_T2 (by omega) (by omega)))))))))))
theorem Gs_all {s : ByteArray} {most : Int} {o : ByteArray} (h : allB s most o = true) (ho : Gs o.data.toList) : Gs s.data.toList := by
  unfold allB at h
  simp only [Bool.and_eq_true, List.all_eq_true] at h
  intro c hc
  have := h.1.1 c hc
  unfold signB letterB digitB at this
  simp only [Bool.or_eq_true, decide_eq_true_eq, List.contains_iff_mem] at this
  rcases this with (h | h) | h
  · omega
  · omega
  · exact ho _ h
theorem Gs_name {s : ByteArray} (h : nameB s = true) : Gs s.data.toList := by
  unfold nameB at h
  simp only [Bool.and_eq_true] at h
  exact Gs_all h.1 (by unfold Gs; decide)
theorem Gs_abbr {s : ByteArray} (h : abbrB s = true) : Gs s.data.toList := Gs_all (show allB s 8 _ = true from h) (by unfold Gs; decide)
theorem Gs_lt {l : List UInt8} (h : ∀ c ∈ l, isLt c) : Gs l := fun c hc => by have := h c hc; unfold isLt at this; omega
theorem Gs_day {k wd n : Int} (h : dayB k wd n = true) : Gs (dayT k wd n) := by
  simp only [dayB, decide_eq_true_eq] at h
  unfold dayT
  rcases h with ⟨rfl, rfl, h1, h2⟩ | ⟨rfl, h1, h2, rfl⟩ | ⟨rfl | rfl, h1, h2, h3, h4⟩
  · rw [if_neg (by decide), if_neg (by decide), if_neg (by decide)]
    exact Gs_itoa (by omega)
  · rw [if_pos rfl]
    exact Gs_app (Gs_lt last_letters) (Gs_lt (word_letters h1 h2))
  · rw [if_neg (by decide), if_pos rfl]
    exact Gs_app (Gs_lt (word_letters h1 h2)) (Gs_app (by unfold Gs; decide) (Gs_itoa (by omega)))
  · rw [if_neg (by decide), if_neg (by decide), if_pos rfl]
    exact Gs_app (Gs_lt (word_letters h1 h2)) (Gs_app (by unfold Gs; decide) (Gs_itoa (by omega)))
theorem Gs_ruW {r : Ru} (o : OkRu r) : ∀ x ∈ ruW r, Gs x := by
  have f1 := o.f1; have t1 := o.t1; have m1 := o.m1; have s1 := o.s1; have s2 := o.s2
  intro x hx
  simp only [ruW, List.mem_cons, List.not_mem_nil, or_false] at hx
  rcases hx with rfl | rfl | rfl | rfl | rfl | rfl | rfl | rfl | rfl
  · unfold Gs; decide
  · exact Gs_name o.nm
  · exact Gs_itoa (by omega)
  · exact Gs_itoa (by omega)
  · exact Gs_itoa (by omega)
  · exact Gs_day o.d
  · refine Gs_app (Gs_span ⟨o.a1, o.a2⟩) ?_
    unfold ckT
    split
    · unfold Gs; decide
    · split
      · unfold Gs; decide
      · intro c hc; cases hc
  · exact Gs_span ⟨by omega, by omega⟩
  · rcases o.lt with h | h
    · rw [← ByteArray.toList_eq, h]; unfold Gs; decide
    · exact Gs_abbr h
theorem glue_no : ∀ (ws : List (List UInt8)), (∀ x ∈ ws, Gs x) → ∀ c ∈ glue ws, c ≠ 10
  | [], _ => fun c hc => by cases hc
  | [x], h => Gs_ne (h x List.mem_cons_self) 10 (by decide)
  | x :: y :: r, h => fun c hc => by
    have hc : c ∈ x ++ 32 :: glue (y :: r) := hc
    rcases List.mem_append.1 hc with hc | hc
    · exact Gs_ne (h x List.mem_cons_self) 10 (by decide) c hc
    · rcases List.mem_cons.1 hc with rfl | hc
      · decide
      · exact glue_no (y :: r) (fun z hz => h z (List.mem_cons_of_mem _ hz)) c hc
/-- the letters of a format -/
theorem cut_parts (l : List UInt8) (k : UInt8) (h : (Lib.cut l [k]).2.2 = true) : l = (Lib.cut l [k]).1 ++ k :: (Lib.cut l [k]).2.1 := by
  by_cases hm : k ∈ l
  · obtain ⟨a, b, e, hn⟩ := List.eq_append_cons_of_mem hm
    have := cut_sep a b k fun c hc e => hn (e ▸ hc)
    rw [e, this]
  · rw [cut_noA hm] at h; cases h
theorem Gs_fm {f : List UInt8} (h : (splitF f).2.2.2 = true) : Gs f := by
  have ok : ∀ l : List UInt8, abbrB (txt l) = true → Gs l := fun l h => by have := Gs_abbr h; rwa [txt_data] at this
  unfold splitF at h
  by_cases g1 : 12 < f.length
  · rw [if_pos g1] at h; cases h
  · rw [if_neg g1] at h
    by_cases g2 : (Lib.cut f [47]).2.2 = true
    · rw [if_pos g2] at h
      dsimp only at h
      rw [Bool.and_eq_true] at h
      rw [cut_parts f 47 g2]
      exact Gs_app (ok _ h.1) (Gs_app (Gs_one (by decide)) (ok _ h.2) : Gs ([47] ++ _))
    · rw [if_neg g2] at h
      by_cases g3 : (Lib.cut f [37]).2.2 = true
      · rw [if_pos g3] at h
        dsimp only at h
        have hab : Gs ((Lib.cut f [37]).1 ++ (Lib.cut f [37]).2.1) := by
          rw [Bool.or_eq_true] at h
          rcases h with h | h
          · rw [of_decide_eq_true h]; intro c hc; cases hc
          · rw [Bool.and_eq_true] at h
            exact ok _ h.2
        rw [cut_parts f 37 g3]
        exact Gs_app (fun c hc => hab c (List.mem_append_left _ hc)) (Gs_app (Gs_one (by decide)) (fun c hc => hab c (List.mem_append_right _ hc)) : Gs ([37] ++ _))
      · rw [if_neg g3] at h
        exact ok _ h
/-- what an era that may be says beyond er_P -/
theorem er_Q {rules : List Ru} {l : List Er} {k : Nat} (hr : ∀ r ∈ rules, OkRu r) (h : eraChk rules l k = 0) :
    ((eraAt l k).ru.data.toList ≠ [] → (eraAt l k).sv = 0 ∧ nameB (eraAt l k).ru = true) ∧ (k + 1 = l.length → (eraAt l k).un = 0) ∧ Gs (eraAt l k).fm.data.toList := by
  unfold eraChk at h
  dsimp only at h
  split at h
  · cases h
  rename_i h1
  split at h
  · cases h
  rename_i h2
  split at h
  · cases h
  rename_i h3
  split at h
  · rename_i g; exact absurd h g
  rename_i h4
  have h4 := Classical.not_not.1 h4
  refine ⟨fun g => ⟨Classical.byContradiction fun e => h2 ⟨e, g⟩, ?_⟩, fun g => ?_, ?_⟩
  · have g2 : (rules.any fun r => decide (r.nm = (eraAt l k).ru)) = true := by
      cases e : (rules.any fun r => decide (r.nm = (eraAt l k).ru)) with
      | true => rfl
      | false => exact absurd ⟨g, e⟩ h3
    obtain ⟨r, hm, e⟩ := List.any_eq_true.1 g2
    have e := of_decide_eq_true e
    rw [← e]
    exact (hr r hm).nm
  · rw [if_pos g] at h
    split at h
    · cases h
    · rename_i e; exact Classical.not_not.1 e
  · have hf : ∀ {s : Int} {lt : ByteArray}, abE (eraAt l k).fm s lt = 0 → Gs (eraAt l k).fm.data.toList := fun {s lt} e => Gs_fm (abbrF_ok (show (abbrF (eraAt l k).fm.data.toList s lt.data.toList).2 = 0 from e)).2.1
    unfold abbrsChk at h4
    split at h4
    · exact hf h4
    · split at h4
      · exact hf h4
      · rename_i g; exact absurd h4 g
theorem eraL_core {x : Er} {u : Int × Int} (ho : inS x.off) (hs : inS x.sv) (hn : x.ru.data.toList ≠ [] → x.sv = 0 ∧ nameB x.ru = true) (hu : u = (x.un, 0)) :
    (if (rdSpan (spanT x.off)).2 ≠ 0 then none else
      if Lib.hasPrefix (eraR x) [45] = true then (if (rdSpan (Lib.trimPrefix (eraR x) [45])).2 ≠ 0 ∨ u.2 ≠ 0 then none else some ⟨(rdSpan (spanT x.off)).1, ⟨#[]⟩, (rdSpan (Lib.trimPrefix (eraR x) [45])).1, txt x.fm.data.toList, u.1⟩) else
      if nameB (txt (eraR x)) = false ∨ u.2 ≠ 0 then none else some ⟨(rdSpan (spanT x.off)).1, txt (eraR x), 0, txt x.fm.data.toList, u.1⟩) = some x := by
  subst hu
  obtain ⟨off, ru, sv, fm, un⟩ := x
  dsimp only at ho hs hn ⊢
  rw [rdSpan_eq ho rfl, if_neg (fun h => h rfl)]
  by_cases g : ru.data.toList = []
  · have er : eraR ⟨off, ru, sv, fm, un⟩ = 45 :: spanT sv := by unfold eraR; rw [if_pos g]
    have t1 : Lib.hasPrefix (45 :: spanT sv) [45] = true := by simp [Lib.hasPrefix]
    have t2 : Lib.trimPrefix (45 :: spanT sv) [45] = spanT sv := by unfold Lib.trimPrefix; rw [if_pos t1]; rfl
    rw [er, if_pos t1, t2, rdSpan_eq hs rfl, if_neg (by rintro (h | h); exact h rfl; exact h rfl)]
    have e : ru = ⟨#[]⟩ := by
      have : ru = txt ru.data.toList := rfl
      rw [this, g]; rfl
    rw [e]
    rfl
  · obtain ⟨h1, h2⟩ := hn g
    have er : eraR ⟨off, ru, sv, fm, un⟩ = ru.data.toList := by unfold eraR; rw [if_neg g]
    have t1 : ¬ Lib.hasPrefix ru.data.toList [45] = true := by
      unfold nameB at h2
      simp only [Bool.and_eq_true, decide_eq_true_eq] at h2
      obtain ⟨-, c, hc, hl⟩ := h2
      intro hp
      cases hz : ru.data.toList with
      | nil => exact g hz
      | cons y r =>
        rw [hz] at hp hc
        injection hc with hc
        subst hc
        simp [Lib.hasPrefix] at hp
        subst hp
        revert hl
        decide
    rw [er, if_neg t1, txt_data', if_neg (by rintro (h | h); rw [h2] at h; cases h; exact h rfl), h1]
    rfl
theorem line_er {rules : List Ru} {l : List Er} {k : Nat} (hr : ∀ r ∈ rules, OkRu r) (h : eraChk rules l k = 0) (rs : List Ru) (f : List (ByteArray × List Er)) (nm : ByteArray) (d : List Er) :
    lineF ⟨rs, f ++ [(nm, d)], [], 2⟩ (eraT (eraAt l k) (decide (k + 1 = l.length))) = some ⟨rs, f ++ [(nm, d ++ [eraAt l k])], [], if k + 1 = l.length then 1 else 2⟩ := by
  obtain ⟨p, -, -⟩ := er_P hr h
  obtain ⟨q1, q2, q3⟩ := er_Q hr h
  have n1 : ∀ c ∈ spanT (eraAt l k).off, c ≠ 32 := spanT_ne32 p.o
  have n2 : ∀ c ∈ eraR (eraAt l k), c ≠ 32 := by
    unfold eraR
    split
    · intro c hc
      rcases List.mem_cons.1 hc with rfl | hc
      · decide
      · exact spanT_ne32 p.s c hc
    · rename_i g
      exact Gs_ne (Gs_name (q1 g).2) 32 (by decide)
  have n3 := Gs_ne q3 32 (by decide)
  have n4 : decide (k + 1 = l.length) = false → ∀ c ∈ stampT (eraAt l k).un, c ≠ 32 := fun hl => Gs_ne (Gs_stamp (p.u hl)) 32 (by decide)
  unfold lineF
  rw [era_split n1 n2 n3 n4]
  generalize eraAt l k = x at *
  by_cases g : k + 1 = l.length
  · rw [decide_eq_true g] at *
    have hx : eraL (spanT x.off) (eraR x) x.fm.data.toList none = some x := eraL_core (u := (0, 0)) p.o p.s q1 (by rw [q2 g])
    rw [if_pos g, if_pos rfl, List.append_nil]
    dsimp only
    rw [if_neg (fun h => absurd (show eraW = ruleW from h.1) (by decide)), if_neg (fun h => absurd (show eraW = zoneW from h.1) (by decide)), if_pos (show ([eraW, spanT x.off, eraR x, x.fm.data.toList] : List (List UInt8)).getD 0 [] = eraW from rfl)]
    show (match eraL (spanT x.off) (eraR x) x.fm.data.toList none with | none => none | some y => some (⟨rs, addEra (f ++ [(nm, d)]) y, [], 1⟩ : RdS)) = _
    rw [hx]
    dsimp only
    rw [addEra_s]
  · rw [decide_eq_false g] at *
    have hx : eraL (spanT x.off) (eraR x) x.fm.data.toList (some (stampT x.un)) = some x := eraL_core (u := rdStamp (stampT x.un)) p.o p.s q1 (rdStamp_eq (p.u rfl))
    have hl : ([eraW, spanT x.off, eraR x, x.fm.data.toList] ++ (if false = true then [] else [stampT x.un]) : List (List UInt8)) = [eraW, spanT x.off, eraR x, x.fm.data.toList, stampT x.un] := rfl
    rw [if_neg g, hl]
    dsimp only
    rw [if_neg (fun h => absurd (show eraW = ruleW from h.1) (by decide)), if_neg (fun h => absurd (show eraW = zoneW from h.1) (by decide)), if_pos (show ([eraW, spanT x.off, eraR x, x.fm.data.toList, stampT x.un] : List (List UInt8)).getD 0 [] = eraW from rfl)]
    show (match eraL (spanT x.off) (eraR x) x.fm.data.toList (some (stampT x.un)) with | none => none | some y => some (⟨rs, addEra (f ++ [(nm, d)]) y, [], 2⟩ : RdS)) = _
    rw [hx]
    dsimp only
    rw [addEra_s]
theorem lines_er {rules : List Ru} {l : List Er} (hr : ∀ r ∈ rules, OkRu r) (h : ∀ k, k < l.length → eraChk rules l k = 0) (hne : l ≠ []) (rs : List Ru) (f : List (ByteArray × List Er)) (nm : ByteArray) (k0 : Nat) :
    ∀ j, j ≤ l.length → linesF ⟨rs, f ++ [(nm, [])], [], 2⟩ k0 ((List.range j).map fun i => eraT (eraAt l i) (decide (i + 1 = l.length))) = (some ⟨rs, f ++ [(nm, l.take j)], [], if j = l.length then 1 else 2⟩, k0 + j)
  | 0, _ => by
    have : ¬ 0 = l.length := fun e => hne (List.eq_nil_of_length_eq_zero e.symm)
    rw [if_neg this]
    rfl
  | j + 1, hj => by
    have ih := lines_er hr h hne rs f nm k0 j (by omega)
    rw [if_neg (by omega : ¬ j = l.length)] at ih
    rw [List.range_succ, List.map_append, linesF_app _ _ _ _ _ _ ih]
    show (match lineF ⟨rs, f ++ [(nm, l.take j)], [], 2⟩ (eraT (eraAt l j) (decide (j + 1 = l.length))) with | none => ((none : Option RdS), k0 + j + 1) | some st' => (some st', k0 + j + 1)) = _
    rw [line_er hr (h j (by omega))]
    dsimp only
    have e : l.take (j + 1) = l.take j ++ [eraAt l j] := by
      rw [List.take_add_one]
      unfold eraAt
      rw [List.getElem?_eq_getElem (by omega)]
      rfl
    rw [e]
    rfl
theorem lines_zo {rules : List Ru} (hr : ∀ r ∈ rules, OkRu r) : ∀ (l : List Zo) (rs : List Ru) (zs : List (ByteArray × List Er)) (sg : Int) (k : Nat), sg ≤ 1 → (∀ z ∈ l, nameB z.nm = true ∧ z.eras ≠ [] ∧ ∀ k, k < z.eras.length → eraChk rules z.eras k = 0) →
    ∃ sg' k', sg' ≤ 1 ∧ linesF ⟨rs, zs, [], sg⟩ k (l.flatMap zoLs) = (some ⟨rs, zs ++ l.map (fun z => (z.nm, z.eras)), [], sg'⟩, k')
  | [], rs, zs, sg, k, hs, _ => ⟨sg, k, hs, by simp [linesF]⟩
  | z :: l, rs, zs, sg, k, hs, h => by
    obtain ⟨h1, h2, h3⟩ := h z List.mem_cons_self
    have e1 : linesF ⟨rs, zs, [], sg⟩ k (zoLs z) = (some ⟨rs, zs ++ [(z.nm, z.eras)], [], 1⟩, k + 1 + z.eras.length) := by
      unfold zoLs erLs
      unfold linesF
      rw [line_zo (Gs_ne (Gs_name h1) 32 (by decide)) rs zs sg hs]
      dsimp only
      have := lines_er hr h3 h2 rs zs z.nm (k + 1) z.eras.length (Nat.le_refl _)
      rw [this, if_pos rfl, List.take_length]
    obtain ⟨s2, k2, hs2, ih⟩ := lines_zo hr l rs (zs ++ [(z.nm, z.eras)]) 1 (k + 1 + z.eras.length) (by decide) fun y hy => h y (List.mem_cons_of_mem _ hy)
    refine ⟨s2, k2, hs2, ?_⟩
    rw [List.flatMap_cons, linesF_app _ _ _ _ _ _ e1, ih, List.map_cons, List.append_assoc]
    rfl
theorem nameZ {b : Bk} (h : bkChk b = 0) : ∀ z ∈ b.zones, nameB z.nm = true ∧ z.eras ≠ [] ∧ ∀ k, k < z.eras.length → eraChk b.rules z.eras k = 0 := by
  intro z hz
  obtain ⟨i, hi, rfl⟩ := List.mem_iff_getElem.1 hz
  have ho := bk_zone h i hi
  exact ⟨ho.nm, ho.ne, fun k hk => (firstE_zero _ _).1 ho.er k (List.mem_range.2 hk)⟩
theorem nameL {b : Bk} (h : bkChk b = 0) : ∀ x ∈ b.links, nameB x.nm = true ∧ nameB x.tg = true := by
  intro x hx
  obtain ⟨i, hi, rfl⟩ := List.mem_iff_getElem.1 hx
  have ho := (bk_parts h).2 i hi
  unfold linkChk at ho
  split at ho
  · cases ho
  · rename_i hn
    exact ⟨by cases e : nameB b.links[i].nm with | true => rfl | false => exact absurd (.inl e) hn, by cases e : nameB b.links[i].tg with | true => rfl | false => exact absurd (.inr e) hn⟩
theorem line_no {b : Bk} (h : bkChk b = 0) : ∀ x ∈ bkLs b, (∀ c ∈ x, c ≠ 10) ∧ x ≠ [] := by
  intro x hx
  have hr := (bk_rules h).2
  unfold bkLs at hx
  rcases List.mem_append.1 hx with hx | hx
  · rcases List.mem_append.1 hx with hx | hx
    · obtain ⟨r, hm, rfl⟩ := List.mem_map.1 hx
      exact ⟨glue_no _ (Gs_ruW (hr r hm)), by unfold ruText ruW glue; simp⟩
    · obtain ⟨z, hz, hx⟩ := List.mem_flatMap.1 hx
      obtain ⟨h1, h2, h3⟩ := nameZ h z hz
      rcases List.mem_cons.1 hx with rfl | hx
      · refine ⟨fun c hc => ?_, by unfold zoH; simp⟩
        rcases List.mem_append.1 hc with hc | hc
        · exact (show ∀ c ∈ ([122, 111, 110, 101, 32] : List UInt8), c ≠ 10 by decide) c hc
        · exact Gs_ne (Gs_name h1) 10 (by decide) c hc
      · obtain ⟨k, hk, rfl⟩ := List.mem_map.1 hx
        have hk := h3 k (List.mem_range.1 hk)
        obtain ⟨p, -, -⟩ := er_P hr hk
        obtain ⟨q1, q2, q3⟩ := er_Q hr hk
        have n2 : Gs (eraR (eraAt z.eras k)) := by
          unfold eraR
          split
          · exact Gs_app (Gs_one (k := 45) (by decide)) (Gs_span p.s)
          · rename_i g
            exact Gs_name (q1 g).2
        have g10 : ∀ {l : List UInt8}, Gs l → ∀ c ∈ l, c ≠ 10 := fun h => Gs_ne h 10 (by decide)
        have app : ∀ {a b : List UInt8}, (∀ c ∈ a, c ≠ 10) → (∀ c ∈ b, c ≠ 10) → ∀ c ∈ a ++ b, c ≠ 10 := fun h1 h2 c hc => (List.mem_append.1 hc).elim (h1 c) (h2 c)
        have sp : ∀ c ∈ ([32] : List UInt8), c ≠ 10 := by decide
        refine ⟨?_, by unfold eraT; simp⟩
        unfold eraT
        refine app (app (app (app (app (app (by decide) (g10 (Gs_span p.o))) sp) (g10 n2)) sp) (g10 q3)) ?_
        split
        · intro c hc; cases hc
        · rename_i g
          exact app sp (g10 (Gs_stamp (p.u (by cases e : decide (k + 1 = z.eras.length) with | true => exact absurd e g | false => rfl))))
  · obtain ⟨l, hm, rfl⟩ := List.mem_map.1 hx
    obtain ⟨h1, h2⟩ := nameL h l hm
    have g10 : ∀ {l : List UInt8}, Gs l → ∀ c ∈ l, c ≠ 10 := fun h => Gs_ne h 10 (by decide)
    have app : ∀ {a b : List UInt8}, (∀ c ∈ a, c ≠ 10) → (∀ c ∈ b, c ≠ 10) → ∀ c ∈ a ++ b, c ≠ 10 := fun h1 h2 c hc => (List.mem_append.1 hc).elim (h1 c) (h2 c)
    refine ⟨?_, by unfold lkL; simp⟩
    unfold lkL
    exact app (app (app (by decide) (g10 (Gs_name h1))) (by decide)) (g10 (Gs_name h2))
/-- LAW A: the parse of a book's text is the book -/
theorem parse_text {b : Bk} (h : bkChk b = 0) (hl : (bkText b).length ≤ 60000) (w : World) (ht : Tab10 w) (ha : AscTab w) (hn : NumErrs w) (hm : MaxLen w) :
    ∃ sg, parseF (bkText b) = (⟨b.rules, b.zones.map fun z => (z.nm, z.eras), b.links, sg⟩, 0, 0) := by
  have hr := (bk_rules h).2
  by_cases e0 : bkLs b = []
  · have h1 : b.rules = [] := by
      cases e : b.rules with
      | nil => rfl
      | cons x r => unfold bkLs at e0; rw [e] at e0; simp at e0
    have h2 : b.zones = [] := by
      cases e : b.zones with
      | nil => rfl
      | cons x r => unfold bkLs at e0; rw [e] at e0; simp [zoLs] at e0
    have h3 : b.links = [] := by
      cases e : b.links with
      | nil => rfl
      | cons x r => unfold bkLs at e0; rw [e] at e0; simp at e0
    have e1 : bkText b = [] := by unfold bkText; rw [e0]; rfl
    refine ⟨0, ?_⟩
    rw [e1, h1, h2, h3]
    unfold parseF
    rw [if_neg (by decide), if_pos rfl]
    rfl
  · have hs : splitC 10 (bkText b) = bkLs b := split_join _ e0 fun x hx => (line_no h x hx).1
    have hne : bkText b ≠ [] := by
      intro e
      rw [e] at hs
      have : splitC 10 [] = [[]] := rfl
      rw [this] at hs
      exact (line_no h [] (by rw [← hs]; simp)).2 rfl
    obtain ⟨s2, k2, hs2, e2⟩ := lines_zo hr b.zones b.rules [] 0 (0 + b.rules.length) (by decide) (nameZ h)
    obtain ⟨s3, k3, hs3, e3⟩ := lines_lk b.links b.rules ([] ++ b.zones.map fun z => (z.nm, z.eras)) [] s2 k2 (by omega) fun x hx => ⟨Gs_ne (Gs_name (nameL h x hx).1) 32 (by decide), Gs_ne (Gs_name (nameL h x hx).2) 32 (by decide)⟩
    have e1 := lines_ru b.rules [] 0 fun r hm' => ⟨hr r hm', rdRule_eq (hr r hm') w ht ha hn hm⟩
    have e4 : linesF rd0 0 (splitC 10 (bkText b)) = (some ⟨b.rules, b.zones.map fun z => (z.nm, z.eras), b.links, s3⟩, k3) := by
      rw [hs]
      unfold bkLs
      rw [List.append_assoc, linesF_app _ _ _ _ _ _ (show linesF rd0 0 (b.rules.map ruText) = (some ⟨[] ++ b.rules, [], [], 0⟩, 0 + b.rules.length) from e1)]
      rw [linesF_app _ _ _ _ _ _ (show linesF ⟨[] ++ b.rules, [], [], 0⟩ (0 + b.rules.length) (b.zones.flatMap zoLs) = _ from e2), e3]
      rfl
    refine ⟨s3, ?_⟩
    unfold parseF
    rw [if_neg (by omega), if_neg hne, e4]
    dsimp only
    have hc : bkChk (bkS ⟨b.rules, b.zones.map fun z => (z.nm, z.eras), b.links, s3⟩ fun _ => undef) = 0 := by
      have e5 : bkS ⟨b.rules, b.zones.map fun z => (z.nm, z.eras), b.links, s3⟩ (fun _ => undef) = ⟨b.rules, b.zones.map clrZ, b.links⟩ := by
        unfold bkS
        dsimp only
        congr 1
        refine List.ext_getElem (by simp) fun i h1 h2 => ?_
        simp [clrZ]
      rw [e5, bkChk_clr]
      exact h
    rw [if_neg hs3, if_neg (fun g => g hc)]
end Go.Proofs.YtomahddiclkepaaGreatDoor
namespace Go.Proofs.YtomahddiclkepaaGreatDoor
open Go.RowKit Go.Joins Go.Maps
open Classical
set_option linter.unusedVariables false
set_option linter.unusedSimpArgs false

/-- the closed fact's table -/
def wkT : Tab := ⟨[⟨3600, false, ⟨#[67, 69, 84]⟩⟩, ⟨0, false, ⟨#[71, 77, 84]⟩⟩], 0, [⟨0, 1⟩]⟩
def wkA : ByteArray := ⟨#[65]⟩
theorem wk_chk : chk wkT = 0 := by kernel_rfl
theorem wk_norm : normT wkT = wkT := by
  have hne : (⟨0, false, ⟨#[71, 77, 84]⟩⟩ : Ty) ≠ ⟨3600, false, ⟨#[67, 69, 84]⟩⟩ := by
    intro h
    injection h with h _ _
    exact absurd h (by decide)
  have e1 : resH wkT = ⟨3600, false, ⟨#[67, 69, 84]⟩⟩ := rfl
  have e2 : resL wkT = [(0, ⟨0, false, ⟨#[71, 77, 84]⟩⟩)] := rfl
  unfold normT
  rw [e1, e2]
  have hx : (⟨0, false, ⟨#[71, 77, 84]⟩⟩ : Ty) ∉ (begN ⟨3600, false, ⟨#[67, 69, 84]⟩⟩).types := fun h => hne (List.mem_singleton.1 h)
  have e3 : makeN ⟨3600, false, ⟨#[67, 69, 84]⟩⟩ [(0, ⟨0, false, ⟨#[71, 77, 84]⟩⟩)] = ⟨[⟨3600, false, ⟨#[67, 69, 84]⟩⟩, ⟨0, false, ⟨#[71, 77, 84]⟩⟩], [⟨0, 1⟩], ⟨0, false, ⟨#[71, 77, 84]⟩⟩⟩ := by
    show stepN (begN ⟨3600, false, ⟨#[67, 69, 84]⟩⟩) (0, ⟨0, false, ⟨#[71, 77, 84]⟩⟩) = _
    unfold stepN
    rw [if_neg (show ¬ (0, (⟨0, false, ⟨#[71, 77, 84]⟩⟩ : Ty)).2 = (begN ⟨3600, false, ⟨#[67, 69, 84]⟩⟩).last from hne)]
    dsimp only
    rw [idx_out hx]
    unfold addTy
    rw [if_neg hx]
    rfl
  unfold normR
  rw [e3]
  rfl
theorem wk_bkd : Bkd wkT wkA := by
  refine ⟨chk_ok _ wk_chk, wk_norm, by decide +kernel, by decide, fun c hc => ?_, fun i hi => ?_⟩
  · rw [List.mem_singleton.1 (show c ∈ [(⟨0, 1⟩ : Ch)] from hc)]; rfl
  · have hi : i ≤ 1 := hi
    have : i = 0 ∨ i = 1 := by omega
    rcases this with rfl | rfl
    · decide +kernel
    · decide +kernel
def wkL : List UInt8 := [122, 111, 110, 101, 32, 65, 10, 101, 114, 97, 32, 49, 58, 48, 48, 32, 45, 48, 58, 48, 48, 32, 67, 69, 84, 32, 49, 57, 55, 48, 45, 48, 49, 45, 48, 49, 84, 48, 48, 58, 48, 48, 58, 48, 48, 10, 101, 114, 97, 32, 48, 58, 48, 48, 32, 45, 48, 58, 48, 48, 32, 71, 77, 84]
theorem wk_text : bkText (oneB [] wkA undef (bErs wkT)) = wkL := by kernel_rfl
theorem wk_parse (w : World) (ht : Tab10 w) (ha : AscTab w) (hn : NumErrs w) (hm : MaxLen w) : ∃ sg, parseF wkL = (⟨[], [(wkA, bErs wkT)], [], sg⟩, 0, 0) := by
  have := parse_text (b := oneB [] wkA undef (bErs wkT)) (bBk_chk wk_bkd undef) (by rw [wk_text]; decide) w ht ha hn hm
  rw [wk_text] at this
  exact this
theorem wk_made (ev : Value) : mkT (oneB [] wkA ev (bErs wkT)) wkA (-5) 5 = (0, wkT) := back_made wk_bkd ev (fun c hc => by rw [List.mem_singleton.1 (show c ∈ [(⟨0, 1⟩ : Ch)] from hc)]; decide) (by decide) (by decide) (by decide)
end Go.Proofs.YtomahddiclkepaaGreatDoor
namespace Go.Proofs.YtomahddiclkepaaGreatDoor
open Go.RowKit
set_option linter.unusedVariables false
set_option linter.unusedSimpArgs false

theorem rest0_neg (n m : Int) (h0 : 0 < m) (h1 : m ≤ 4611686018427387904) (h : n.tmod m < 0) : wrap64 (n.tmod m + m) = n % m := by
  have q := Int.tmod_eq_emod (a := n) (b := m)
  have := Int.emod_nonneg n (show m ≠ 0 by omega)
  have := Int.emod_lt_of_pos n h0
  have e : n.tmod m + m = n % m := by
    split at q
    · omega
    · have : (m.natAbs : Int) = m := by omega
      omega
  rw [e]
  exact IntWalk.wrap64_in _ ⟨by omega, by omega⟩

theorem rest0_pos (n m : Int) (h0 : 0 < m) (h : 0 ≤ n.tmod m) : n.tmod m = n % m := by
  have q := Int.tmod_eq_emod (a := n) (b := m)
  have := Int.emod_lt_of_pos n h0
  split at q
  · omega
  · have : (m.natAbs : Int) = m := by omega
    omega
theorem ret_int0 {k : IntKind} {a b : Int} (h : a = b) : Ending.returned (.int k a) = .returned (.int k b) := by rw [h]
theorem Rest0_any (n m : Int) (w : World) (h0 : 0 < m) (h1 : m ≤ 1099511627776) :
    Calls Tryz.prog 14 #[.int .i64 n, .int .i64 m] w fun e w' => e = .returned (.int .i64 (n % m)) ∧ w = w' := by
  have hh : m ≤ 4611686018427387904 := by omega
  go_enter Tryz.func14, Tryz.ntmps14
  go_wp2
  · go_ret
    exact ⟨ret_int0 (rest0_neg n m h0 hh (by assumption)), rfl⟩
  · go_ret
    exact ⟨ret_int0 (rest0_pos n m h0 (by assumption)), rfl⟩
end Go.Proofs.YtomahddiclkepaaGreatDoor
