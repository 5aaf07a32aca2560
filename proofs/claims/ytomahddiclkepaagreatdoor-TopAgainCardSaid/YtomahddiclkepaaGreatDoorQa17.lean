/- BookBack in plain Lean: the lines of a book hold no newline; the parse of a book's text is the book. The top laws in plain Lean: a table's book is made again for any span; the closed fact's book. The reference's days, and dates that a law draws: what each returns. The reference's days of a date. timeballref.Rest. state: slices.IndexFunc of turns; Which; Within. (Turned).At: which type it is at a time of an era. -/
import Derived.Test.YtomahddiclkepaaGreatDoorQa16
import Derived.Test.YtomahddiclkepaaGreatDoorQa10
import Derived.Test.YtomahddiclkepaaGreatDoorCiv3
import Derived.Test.YtomahddiclkepaaGreatDoorQa01
import Derived.Test.YtomahddiclkepaaGreatDoorQa09
import Derived.Test.YtomahddiclkepaaGreatDoorQa04
import Derived.Sort.Walk0
import Derived.StillTailTactics
namespace Go.Proofs.YtomahddiclkepaaGreatDoor
open Go.RowKit Go.Joins
open Classical
set_option linter.unusedVariables false
set_option linter.unusedSimpArgs false
def Gs (l : List UInt8) : Prop := ∀ c ∈ l, 32 < c.toNat
theorem Gs_ne {l : List UInt8} (h : Gs l) (k : UInt8) (hk : k.toNat ≤ 32) : ∀ c ∈ l, c ≠ k := by
 rintro c hc rfl
 have := h c hc
 omega
theorem Gs_app {a b : List UInt8} (h : Gs a) (h2 : Gs b) : Gs (a ++ b) := fun c hc => (List.mem_append.1 hc).elim (h c) (h2 c)
theorem Gs_dg {l : List UInt8} (h : ∀ c ∈ l, isDg c) : Gs l := fun c hc => by have := h c hc; unfold isDg at this; omega
theorem Gs_one {k : UInt8} (h : 32 < k.toNat) : Gs [k] := fun c hc => by rw [List.mem_singleton.1 hc]; exact h
theorem Gs_itoa {n : Int} (h : 0 ≤ n) : Gs (Lib.itoa n) := Gs_dg (itoa_dg h)
theorem Gs_T2 {n : Int} (h : 0 ≤ n) (h1 : n < 100) : Gs (T2 n) := Gs_dg (T2_dg h h1)
theorem Gs_span {n : Int} (h : inS n) : Gs (spanT n) := fun c hc => by
 rcases spanT_mem h c hc with h | rfl | rfl
 ·unfold isDg at h; omega
 ·decide
 ·decide
theorem Gs_stamp {t : Int} (h : inT t) : Gs (stampT t) := by
 obtain ⟨h1, h2⟩ := h
 obtain ⟨hv, _⟩ := Civ.date_valid (t / 86400) h1 h2
 obtain ⟨y1, y2, m1, m2, d1, d2⟩ := hv
 have hm : Civ.mlen (Civ.yy (t / 86400)) (Civ.mm (t / 86400)) ≤ 31 := (Civ.mlen_bd _ _ m1 m2).2
 unfold stampT
 refine Gs_app (Gs_itoa (by omega)) (Gs_app (Gs_one (by decide)) (Gs_app (Gs_T2 (by omega) (by omega)) (Gs_app (Gs_one (by decide)) (Gs_app (Gs_T2 (by omega) (by omega)) (Gs_app (Gs_one (by decide)) (Gs_app (Gs_T2 (by omega) (by omega)) (Gs_app (Gs_one (by decide)) (Gs_app (Gs_T2 (by omega) (by omega)) (Gs_app (Gs_one (by decide)) (Gs_T2 (by omega) (by omega)))))))))))
theorem Gs_all {s : ByteArray} {most : Int} {o : ByteArray} (h : allB s most o = true) (ho : Gs o.data.toList) : Gs s.data.toList := by
 unfold allB at h
 simp only [Bool.and_eq_true, List.all_eq_true] at h
 intro c hc
 have := h.1.1 c hc
 unfold signB letterB digitB at this
 simp only [Bool.or_eq_true, decide_eq_true_eq, List.contains_iff_mem] at this
 rcases this with (h | h) | h
 ·omega
 ·omega
 ·exact ho _ h
theorem Gs_name {s : ByteArray} (h : nameB s = true) : Gs s.data.toList := by
 unfold nameB at h
 simp only [Bool.and_eq_true] at h
 exact Gs_all h.1 (by unfold Gs; decide)
theorem Gs_abbr {s : ByteArray} (h : abbrB s = true) : Gs s.data.toList := Gs_all (show allB s 8 _ = true from h) (by unfold Gs; decide)
theorem Gs_lt {l : List UInt8} (h : ∀ c ∈ l, isLt c) : Gs l := fun c hc => by have := h c hc; unfold isLt at this; omega
theorem Gs_day {k wd n : Int} (h : dayB k wd n = true) : Gs (dayT k wd n) := by
 simp only [dayB, decide_eq_true_eq] at h
 unfold dayT
 rcases h with ⟨rfl, rfl, h1, h2⟩ | ⟨rfl, h1, h2, rfl⟩ | ⟨rfl | rfl, h1, h2, h3, h4⟩
 ·rw [if_neg (by decide), if_neg (by decide), if_neg (by decide)]
  exact Gs_itoa (by omega)
 ·rw [if_pos rfl]
  exact Gs_app (Gs_lt last_letters) (Gs_lt (word_letters h1 h2))
 ·rw [if_neg (by decide), if_pos rfl]
  exact Gs_app (Gs_lt (word_letters h1 h2)) (Gs_app (by unfold Gs; decide) (Gs_itoa (by omega)))
 ·rw [if_neg (by decide), if_neg (by decide), if_pos rfl]
  exact Gs_app (Gs_lt (word_letters h1 h2)) (Gs_app (by unfold Gs; decide) (Gs_itoa (by omega)))
theorem Gs_ruW {r : Ru} (o : OkRu r) : ∀ x ∈ ruW r, Gs x := by
 have f1 := o.f1; have t1 := o.t1; have m1 := o.m1; have s1 := o.s1; have s2 := o.s2
 intro x hx
 simp only [ruW, List.mem_cons, List.not_mem_nil, or_false] at hx
 rcases hx with rfl | rfl | rfl | rfl | rfl | rfl | rfl | rfl | rfl
 ·unfold Gs; decide
 ·exact Gs_name o.nm
 ·exact Gs_itoa (by omega)
 ·exact Gs_itoa (by omega)
 ·exact Gs_itoa (by omega)
 ·exact Gs_day o.d
 ·refine Gs_app (Gs_span ⟨o.a1, o.a2⟩) ?_
  unfold ckT
  split
  ·unfold Gs; decide
  ·split
   ·unfold Gs; decide
   ·intro c hc; cases hc
 ·exact Gs_span ⟨by omega, by omega⟩
 ·rcases o.lt with h | h
  ·rw [← ByteArray.toList_eq, h]; unfold Gs; decide
  ·exact Gs_abbr h
theorem glue_no : ∀ (ws : List (List UInt8)), (∀ x ∈ ws, Gs x) → ∀ c ∈ glue ws, c ≠ 10
 | [], _ => fun c hc => by cases hc
 | [x], h => Gs_ne (h x List.mem_cons_self) 10 (by decide)
 | x :: y :: r, h => fun c hc => by
  have hc : c ∈ x ++ 32 :: glue (y :: r) := hc
  rcases List.mem_append.1 hc with hc | hc
  ·exact Gs_ne (h x List.mem_cons_self) 10 (by decide) c hc
  ·rcases List.mem_cons.1 hc with rfl | hc
   ·decide
   ·exact glue_no (y :: r) (fun z hz => h z (List.mem_cons_of_mem _ hz)) c hc
theorem cut_parts (l : List UInt8) (k : UInt8) (h : (Lib.cut l [k]).2.2 = true) : l = (Lib.cut l [k]).1 ++ k :: (Lib.cut l [k]).2.1 := by
 by_cases hm : k ∈ l
 ·obtain ⟨a, b, e, hn⟩ := List.eq_append_cons_of_mem hm
  have := cut_sep a b k fun c hc e => hn (e ▸ hc)
  rw [e, this]
 ·rw [cut_noA hm] at h; cases h
theorem Gs_fm {f : List UInt8} (h : (splitF f).2.2.2 = true) : Gs f := by
 have ok : ∀ l : List UInt8, abbrB (txt l) = true → Gs l := fun l h => by have := Gs_abbr h; rwa [txt_data] at this
 unfold splitF at h
 by_cases g1 : 12 < f.length
 ·rw [if_pos g1] at h; cases h
 ·rw [if_neg g1] at h
  by_cases g2 : (Lib.cut f [47]).2.2 = true
  ·rw [if_pos g2] at h
   dsimp only at h
   rw [Bool.and_eq_true] at h
   rw [cut_parts f 47 g2]
   exact Gs_app (ok _ h.1) (Gs_app (Gs_one (by decide)) (ok _ h.2) : Gs ([47] ++ _))
  ·rw [if_neg g2] at h
   by_cases g3 : (Lib.cut f [37]).2.2 = true
   ·rw [if_pos g3] at h
    dsimp only at h
    have hab : Gs ((Lib.cut f [37]).1 ++ (Lib.cut f [37]).2.1) := by
     rw [Bool.or_eq_true] at h
     rcases h with h | h
     ·rw [of_decide_eq_true h]; intro c hc; cases hc
     ·rw [Bool.and_eq_true] at h
      exact ok _ h.2
    rw [cut_parts f 37 g3]
    exact Gs_app (fun c hc => hab c (List.mem_append_left _ hc)) (Gs_app (Gs_one (by decide)) (fun c hc => hab c (List.mem_append_right _ hc)) : Gs ([37] ++ _))
   ·rw [if_neg g3] at h
    exact ok _ h
theorem er_Q {rules : List Ru} {l : List Er} {k : Nat} (hr : ∀ r ∈ rules, OkRu r) (h : eraChk rules l k = 0) :
  ((eraAt l k).ru.data.toList ≠ [] → (eraAt l k).sv = 0 ∧ nameB (eraAt l k).ru = true) ∧ (k + 1 = l.length → (eraAt l k).un = 0) ∧ Gs (eraAt l k).fm.data.toList := by
 unfold eraChk at h
 dsimp only at h
 split at h
 ·cases h
 rename_i h1
 split at h
 ·cases h
 rename_i h2
 split at h
 ·cases h
 rename_i h3
 split at h
 ·rename_i g; exact absurd h g
 rename_i h4
 have h4 := Classical.not_not.1 h4
 refine ⟨fun g => ⟨Classical.byContradiction fun e => h2 ⟨e, g⟩, ?_⟩, fun g => ?_, ?_⟩
 ·have g2 : (rules.any fun r => decide (r.nm = (eraAt l k).ru)) = true := by
   cases e : (rules.any fun r => decide (r.nm = (eraAt l k).ru)) with
   | true => rfl
   | false => exact absurd ⟨g, e⟩ h3
  obtain ⟨r, hm, e⟩ := List.any_eq_true.1 g2
  have e := of_decide_eq_true e
  rw [← e]
  exact (hr r hm).nm
 ·rw [if_pos g] at h
  split at h
  ·cases h
  ·rename_i e; exact Classical.not_not.1 e
 ·have hf : ∀ {s : Int} {lt : ByteArray}, abE (eraAt l k).fm s lt = 0 → Gs (eraAt l k).fm.data.toList := fun {s lt} e => Gs_fm (abbrF_ok (show (abbrF (eraAt l k).fm.data.toList s lt.data.toList).2 = 0 from e)).2.1
  unfold abbrsChk at h4
  split at h4
  ·exact hf h4
  ·split at h4
   ·exact hf h4
   ·rename_i g; exact absurd h4 g
theorem eraL_core {x : Er} {u : Int × Int} (ho : inS x.off) (hs : inS x.sv) (hn : x.ru.data.toList ≠ [] → x.sv = 0 ∧ nameB x.ru = true) (hu : u = (x.un, 0)) :
  (if (rdSpan (spanT x.off)).2 ≠ 0 then none else
   if Lib.hasPrefix (eraR x) [45] = true then (if (rdSpan (Lib.trimPrefix (eraR x) [45])).2 ≠ 0 ∨ u.2 ≠ 0 then none else some ⟨(rdSpan (spanT x.off)).1, ⟨#[]⟩, (rdSpan (Lib.trimPrefix (eraR x) [45])).1, txt x.fm.data.toList, u.1⟩) else
   if nameB (txt (eraR x)) = false ∨ u.2 ≠ 0 then none else some ⟨(rdSpan (spanT x.off)).1, txt (eraR x), 0, txt x.fm.data.toList, u.1⟩) = some x := by
 subst hu
 obtain ⟨off, ru, sv, fm, un⟩ := x
 dsimp only at ho hs hn ⊢
 rw [rdSpan_eq ho rfl, if_neg (fun h => h rfl)]
 by_cases g : ru.data.toList = []
 ·have er : eraR ⟨off, ru, sv, fm, un⟩ = 45 :: spanT sv := by unfold eraR; rw [if_pos g]
  have t1 : Lib.hasPrefix (45 :: spanT sv) [45] = true := by simp [Lib.hasPrefix]
  have t2 : Lib.trimPrefix (45 :: spanT sv) [45] = spanT sv := by unfold Lib.trimPrefix; rw [if_pos t1]; rfl
  rw [er, if_pos t1, t2, rdSpan_eq hs rfl, if_neg (by rintro (h | h); exact h rfl; exact h rfl)]
  have e : ru = ⟨#[]⟩ := by
   have : ru = txt ru.data.toList := rfl
   rw [this, g]; rfl
  rw [e]
  rfl
 ·obtain ⟨h1, h2⟩ := hn g
  have er : eraR ⟨off, ru, sv, fm, un⟩ = ru.data.toList := by unfold eraR; rw [if_neg g]
  have t1 : ¬ Lib.hasPrefix ru.data.toList [45] = true := by
   unfold nameB at h2
   simp only [Bool.and_eq_true, decide_eq_true_eq] at h2
   obtain ⟨-, c, hc, hl⟩ := h2
   intro hp
   cases hz : ru.data.toList with
   | nil => exact g hz
   | cons y r =>
    rw [hz] at hp hc
    injection hc with hc
    subst hc
    simp [Lib.hasPrefix] at hp
    subst hp
    revert hl
    decide
  rw [er, if_neg t1, txt_data', if_neg (by rintro (h | h); rw [h2] at h; cases h; exact h rfl), h1]
  rfl
theorem line_er {rules : List Ru} {l : List Er} {k : Nat} (hr : ∀ r ∈ rules, OkRu r) (h : eraChk rules l k = 0) (rs : List Ru) (f : List (ByteArray × List Er)) (nm : ByteArray) (d : List Er) :
  lineF ⟨rs, f ++ [(nm, d)], [], 2⟩ (eraT (eraAt l k) (decide (k + 1 = l.length))) = some ⟨rs, f ++ [(nm, d ++ [eraAt l k])], [], if k + 1 = l.length then 1 else 2⟩ := by
 obtain ⟨p, -, -⟩ := er_P hr h
 obtain ⟨q1, q2, q3⟩ := er_Q hr h
 have n1 : ∀ c ∈ spanT (eraAt l k).off, c ≠ 32 := spanT_ne32 p.o
 have n2 : ∀ c ∈ eraR (eraAt l k), c ≠ 32 := by
  unfold eraR
  split
  ·intro c hc
   rcases List.mem_cons.1 hc with rfl | hc
   ·decide
   ·exact spanT_ne32 p.s c hc
  ·rename_i g
   exact Gs_ne (Gs_name (q1 g).2) 32 (by decide)
 have n3 := Gs_ne q3 32 (by decide)
 have n4 : decide (k + 1 = l.length) = false → ∀ c ∈ stampT (eraAt l k).un, c ≠ 32 := fun hl => Gs_ne (Gs_stamp (p.u hl)) 32 (by decide)
 unfold lineF
 rw [era_split n1 n2 n3 n4]
 generalize eraAt l k = x at *
 by_cases g : k + 1 = l.length
 ·rw [decide_eq_true g] at *
  have hx : eraL (spanT x.off) (eraR x) x.fm.data.toList none = some x := eraL_core (u := (0, 0)) p.o p.s q1 (by rw [q2 g])
  rw [if_pos g, if_pos rfl, List.append_nil]
  dsimp only
  rw [if_neg (fun h => absurd (show eraW = ruleW from h.1) (by decide)), if_neg (fun h => absurd (show eraW = zoneW from h.1) (by decide)), if_pos (show ([eraW, spanT x.off, eraR x, x.fm.data.toList] : List (List UInt8)).getD 0 [] = eraW from rfl)]
  show (match eraL (spanT x.off) (eraR x) x.fm.data.toList none with | none => none | some y => some (⟨rs, addEra (f ++ [(nm, d)]) y, [], 1⟩ : RdS)) = _
  rw [hx]
  dsimp only
  rw [addEra_s]
 ·rw [decide_eq_false g] at *
  have hx : eraL (spanT x.off) (eraR x) x.fm.data.toList (some (stampT x.un)) = some x := eraL_core (u := rdStamp (stampT x.un)) p.o p.s q1 (rdStamp_eq (p.u rfl))
  have hl : ([eraW, spanT x.off, eraR x, x.fm.data.toList] ++ (if false = true then [] else [stampT x.un]) : List (List UInt8)) = [eraW, spanT x.off, eraR x, x.fm.data.toList, stampT x.un] := rfl
  rw [if_neg g, hl]
  dsimp only
  rw [if_neg (fun h => absurd (show eraW = ruleW from h.1) (by decide)), if_neg (fun h => absurd (show eraW = zoneW from h.1) (by decide)), if_pos (show ([eraW, spanT x.off, eraR x, x.fm.data.toList, stampT x.un] : List (List UInt8)).getD 0 [] = eraW from rfl)]
  show (match eraL (spanT x.off) (eraR x) x.fm.data.toList (some (stampT x.un)) with | none => none | some y => some (⟨rs, addEra (f ++ [(nm, d)]) y, [], 2⟩ : RdS)) = _
  rw [hx]
  dsimp only
  rw [addEra_s]
theorem lines_er {rules : List Ru} {l : List Er} (hr : ∀ r ∈ rules, OkRu r) (h : ∀ k, k < l.length → eraChk rules l k = 0) (hne : l ≠ []) (rs : List Ru) (f : List (ByteArray × List Er)) (nm : ByteArray) (k0 : Nat) :
  ∀ j, j ≤ l.length → linesF ⟨rs, f ++ [(nm, [])], [], 2⟩ k0 ((List.range j).map fun i => eraT (eraAt l i) (decide (i + 1 = l.length))) = (some ⟨rs, f ++ [(nm, l.take j)], [], if j = l.length then 1 else 2⟩, k0 + j)
 | 0, _ => by
  have : ¬ 0 = l.length := fun e => hne (List.eq_nil_of_length_eq_zero e.symm)
  rw [if_neg this]
  rfl
 | j + 1, hj => by
  have ih := lines_er hr h hne rs f nm k0 j (by omega)
  rw [if_neg (by omega : ¬ j = l.length)] at ih
  rw [List.range_succ, List.map_append, linesF_app _ _ _ _ _ _ ih]
  show (match lineF ⟨rs, f ++ [(nm, l.take j)], [], 2⟩ (eraT (eraAt l j) (decide (j + 1 = l.length))) with | none => ((none : Option RdS), k0 + j + 1) | some st' => (some st', k0 + j + 1)) = _
  rw [line_er hr (h j (by omega))]
  dsimp only
  have e : l.take (j + 1) = l.take j ++ [eraAt l j] := by
   rw [List.take_add_one]
   unfold eraAt
   rw [List.getElem?_eq_getElem (by omega)]
   rfl
  rw [e]
  rfl
theorem lines_zo {rules : List Ru} (hr : ∀ r ∈ rules, OkRu r) : ∀ (l : List Zo) (rs : List Ru) (zs : List (ByteArray × List Er)) (sg : Int) (k : Nat), sg ≤ 1 → (∀ z ∈ l, nameB z.nm = true ∧ z.eras ≠ [] ∧ ∀ k, k < z.eras.length → eraChk rules z.eras k = 0) →
  ∃ sg' k', sg' ≤ 1 ∧ linesF ⟨rs, zs, [], sg⟩ k (l.flatMap zoLs) = (some ⟨rs, zs ++ l.map (fun z => (z.nm, z.eras)), [], sg'⟩, k')
 | [], rs, zs, sg, k, hs, _ => ⟨sg, k, hs, by simp [linesF]⟩
 | z :: l, rs, zs, sg, k, hs, h => by
  obtain ⟨h1, h2, h3⟩ := h z List.mem_cons_self
  have e1 : linesF ⟨rs, zs, [], sg⟩ k (zoLs z) = (some ⟨rs, zs ++ [(z.nm, z.eras)], [], 1⟩, k + 1 + z.eras.length) := by
   unfold zoLs erLs
   unfold linesF
   rw [line_zo (Gs_ne (Gs_name h1) 32 (by decide)) rs zs sg hs]
   dsimp only
   have := lines_er hr h3 h2 rs zs z.nm (k + 1) z.eras.length (Nat.le_refl _)
   rw [this, if_pos rfl, List.take_length]
  obtain ⟨s2, k2, hs2, ih⟩ := lines_zo hr l rs (zs ++ [(z.nm, z.eras)]) 1 (k + 1 + z.eras.length) (by decide) fun y hy => h y (List.mem_cons_of_mem _ hy)
  refine ⟨s2, k2, hs2, ?_⟩
  rw [List.flatMap_cons, linesF_app _ _ _ _ _ _ e1, ih, List.map_cons, List.append_assoc]
  rfl
theorem nameZ {b : Bk} (h : bkChk b = 0) : ∀ z ∈ b.zones, nameB z.nm = true ∧ z.eras ≠ [] ∧ ∀ k, k < z.eras.length → eraChk b.rules z.eras k = 0 := by
 intro z hz
 obtain ⟨i, hi, rfl⟩ := List.mem_iff_getElem.1 hz
 have ho := bk_zone h i hi
 exact ⟨ho.nm, ho.ne, fun k hk => (firstE_zero _ _).1 ho.er k (List.mem_range.2 hk)⟩
theorem nameL {b : Bk} (h : bkChk b = 0) : ∀ x ∈ b.links, nameB x.nm = true ∧ nameB x.tg = true := by
 intro x hx
 obtain ⟨i, hi, rfl⟩ := List.mem_iff_getElem.1 hx
 have ho := (bk_parts h).2 i hi
 unfold linkChk at ho
 split at ho
 ·cases ho
 ·rename_i hn
  exact ⟨by cases e : nameB b.links[i].nm with | true => rfl | false => exact absurd (.inl e) hn, by cases e : nameB b.links[i].tg with | true => rfl | false => exact absurd (.inr e) hn⟩
theorem line_no {b : Bk} (h : bkChk b = 0) : ∀ x ∈ bkLs b, (∀ c ∈ x, c ≠ 10) ∧ x ≠ [] := by
 intro x hx
 have hr := (bk_rules h).2
 unfold bkLs at hx
 rcases List.mem_append.1 hx with hx | hx
 ·rcases List.mem_append.1 hx with hx | hx
  ·obtain ⟨r, hm, rfl⟩ := List.mem_map.1 hx
   exact ⟨glue_no _ (Gs_ruW (hr r hm)), by unfold ruText ruW glue; simp⟩
  ·obtain ⟨z, hz, hx⟩ := List.mem_flatMap.1 hx
   obtain ⟨h1, h2, h3⟩ := nameZ h z hz
   rcases List.mem_cons.1 hx with rfl | hx
   ·refine ⟨fun c hc => ?_, by unfold zoH; simp⟩
    rcases List.mem_append.1 hc with hc | hc
    ·exact (show ∀ c ∈ ([122, 111, 110, 101, 32] : List UInt8), c ≠ 10 by decide) c hc
    ·exact Gs_ne (Gs_name h1) 10 (by decide) c hc
   ·obtain ⟨k, hk, rfl⟩ := List.mem_map.1 hx
    have hk := h3 k (List.mem_range.1 hk)
    obtain ⟨p, -, -⟩ := er_P hr hk
    obtain ⟨q1, q2, q3⟩ := er_Q hr hk
    have n2 : Gs (eraR (eraAt z.eras k)) := by
     unfold eraR
     split
     ·exact Gs_app (Gs_one (k := 45) (by decide)) (Gs_span p.s)
     ·rename_i g
      exact Gs_name (q1 g).2
    have g10 : ∀ {l : List UInt8}, Gs l → ∀ c ∈ l, c ≠ 10 := fun h => Gs_ne h 10 (by decide)
    have app : ∀ {a b : List UInt8}, (∀ c ∈ a, c ≠ 10) → (∀ c ∈ b, c ≠ 10) → ∀ c ∈ a ++ b, c ≠ 10 := fun h1 h2 c hc => (List.mem_append.1 hc).elim (h1 c) (h2 c)
    have sp : ∀ c ∈ ([32] : List UInt8), c ≠ 10 := by decide
    refine ⟨?_, by unfold eraT; simp⟩
    unfold eraT
    refine app (app (app (app (app (app (by decide) (g10 (Gs_span p.o))) sp) (g10 n2)) sp) (g10 q3)) ?_
    split
    ·intro c hc; cases hc
    ·rename_i g
     exact app sp (g10 (Gs_stamp (p.u (by cases e : decide (k + 1 = z.eras.length) with | true => exact absurd e g | false => rfl))))
 ·obtain ⟨l, hm, rfl⟩ := List.mem_map.1 hx
  obtain ⟨h1, h2⟩ := nameL h l hm
  have g10 : ∀ {l : List UInt8}, Gs l → ∀ c ∈ l, c ≠ 10 := fun h => Gs_ne h 10 (by decide)
  have app : ∀ {a b : List UInt8}, (∀ c ∈ a, c ≠ 10) → (∀ c ∈ b, c ≠ 10) → ∀ c ∈ a ++ b, c ≠ 10 := fun h1 h2 c hc => (List.mem_append.1 hc).elim (h1 c) (h2 c)
  refine ⟨?_, by unfold lkL; simp⟩
  unfold lkL
  exact app (app (app (by decide) (g10 (Gs_name h1))) (by decide)) (g10 (Gs_name h2))
theorem parse_text {b : Bk} (h : bkChk b = 0) (hl : (bkText b).length ≤ 60000) (w : World) (ht : Tab10 w) (ha : AscTab w) (hn : NumErrs w) (hm : MaxLen w) :
  ∃ sg, parseF (bkText b) = (⟨b.rules, b.zones.map fun z => (z.nm, z.eras), b.links, sg⟩, 0, 0) := by
 have hr := (bk_rules h).2
 by_cases e0 : bkLs b = []
 ·have h1 : b.rules = [] := by
   cases e : b.rules with
   | nil => rfl
   | cons x r => unfold bkLs at e0; rw [e] at e0; simp at e0
  have h2 : b.zones = [] := by
   cases e : b.zones with
   | nil => rfl
   | cons x r => unfold bkLs at e0; rw [e] at e0; simp [zoLs] at e0
  have h3 : b.links = [] := by
   cases e : b.links with
   | nil => rfl
   | cons x r => unfold bkLs at e0; rw [e] at e0; simp at e0
  have e1 : bkText b = [] := by unfold bkText; rw [e0]; rfl
  refine ⟨0, ?_⟩
  rw [e1, h1, h2, h3]
  unfold parseF
  rw [if_neg (by decide), if_pos rfl]
  rfl
 ·have hs : splitC 10 (bkText b) = bkLs b := split_join _ e0 fun x hx => (line_no h x hx).1
  have hne : bkText b ≠ [] := by
   intro e
   rw [e] at hs
   have : splitC 10 [] = [[]] := rfl
   rw [this] at hs
   exact (line_no h [] (by rw [← hs]; simp)).2 rfl
  obtain ⟨s2, k2, hs2, e2⟩ := lines_zo hr b.zones b.rules [] 0 (0 + b.rules.length) (by decide) (nameZ h)
  obtain ⟨s3, k3, hs3, e3⟩ := lines_lk b.links b.rules ([] ++ b.zones.map fun z => (z.nm, z.eras)) [] s2 k2 (by omega) fun x hx => ⟨Gs_ne (Gs_name (nameL h x hx).1) 32 (by decide), Gs_ne (Gs_name (nameL h x hx).2) 32 (by decide)⟩
  have e1 := lines_ru b.rules [] 0 fun r hm' => ⟨hr r hm', rdRule_eq (hr r hm') w ht ha hn hm⟩
  have e4 : linesF rd0 0 (splitC 10 (bkText b)) = (some ⟨b.rules, b.zones.map fun z => (z.nm, z.eras), b.links, s3⟩, k3) := by
   rw [hs]
   unfold bkLs
   rw [List.append_assoc, linesF_app _ _ _ _ _ _ (show linesF rd0 0 (b.rules.map ruText) = (some ⟨[] ++ b.rules, [], [], 0⟩, 0 + b.rules.length) from e1)]
   rw [linesF_app _ _ _ _ _ _ (show linesF ⟨[] ++ b.rules, [], [], 0⟩ (0 + b.rules.length) (b.zones.flatMap zoLs) = _ from e2), e3]
   rfl
  refine ⟨s3, ?_⟩
  unfold parseF
  rw [if_neg (by omega), if_neg hne, e4]
  dsimp only
  have hc : bkChk (bkS ⟨b.rules, b.zones.map fun z => (z.nm, z.eras), b.links, s3⟩ fun _ => undef) = 0 := by
   have e5 : bkS ⟨b.rules, b.zones.map fun z => (z.nm, z.eras), b.links, s3⟩ (fun _ => undef) = ⟨b.rules, b.zones.map clrZ, b.links⟩ := by
    unfold bkS
    dsimp only
    congr 1
    refine List.ext_getElem (by simp) fun i h1 h2 => ?_
    simp [clrZ]
   rw [e5, bkChk_clr]
   exact h
  rw [if_neg hs3, if_neg (fun g => g hc)]
end Go.Proofs.YtomahddiclkepaaGreatDoor
namespace Go.Proofs.YtomahddiclkepaaGreatDoor
open Go.RowKit Go.Joins Go.Maps
open Classical
set_option linter.unusedVariables false
set_option linter.unusedSimpArgs false
theorem bErs_made {N : Tab} {nm : ByteArray} (h : Bkd N nm) (ev : Value) {fr te : Int} (h1 : stampE fr = 0) (h2 : stampE te = 0) (h3 : fr < te) : ∃ U, mkT (oneB [] nm ev (bErs N)) nm fr te = (0, U) := by
 refine ⟨normR (stF [] (bErs N) fr) (candsF [] (bErs N) fr te), ?_⟩
 rw [mkT_of (oneB_rsv (bBk_chk h ev))]
 show mkE [] (bErs N) fr te = _
 have b1 := stampE_bd h1
 have b2 := stampE_bd h2
 have e := norm_made h (fr := -4398046511104) (te := 4398046511104) fun c hc => by
  have := h.ok.ch c hc
  omega
 have ps := part_size (bErs_tds h) (fr := -4398046511104) (te := 4398046511104) (p := fr) (q := te) (by omega) (by omega) (by omega)
 rw [e] at ps
 have he : firstE (tdE []) (bErs N) = 0 := by
  rw [firstE_zero]
  intro x hx
  obtain ⟨i, hi, rfl⟩ := List.mem_map.1 hx
  unfold tdE
  rw [if_pos (er_ruA N i)]
 unfold mkE
 rw [if_neg (fun g => g h1), if_neg (fun g => g h2), if_neg (by omega), if_neg (fun g => g he), if_neg (by have := h.ok.many; have := h.ok.chs; omega)]
theorem again_law {t N U : Tab} {nm : ByteArray} (hc : chk t = 0) (hN : normT t = N) (h : Bkd N nm) (ev : Value) {fr te : Int} (h1 : stampE fr = 0) (h2 : stampE te = 0) (h3 : fr < te) (hu : mkT (oneB [] nm ev (bErs N)) nm fr te = (0, U)) : outB t U fr te = [] ∧ chk U = 0 := by
 obtain ⟨z, hz, hr, hb, n⟩ := mk_made hu
 refine ⟨?_, ok_chk _ n.ok⟩
 have okt := chk_ok t hc
 have hi := outB_inv t U fr te (by omega) okt n.ok
 cases ho : outB t U fr te with
 | nil => rfl
 | cons r rs =>
  rw [ho] at hi
  have hp := hi.proper r List.mem_cons_self
  have hc := (hi.cover r.1 hp.1 (by omega)).1 ⟨r, List.mem_cons_self, Int.le_refl _, hp.2.1⟩
  unfold eqB at hc
  have e1 := mk_says hu (y := r.1) hp.1 (by omega)
  have e2 := back_state h ev (y := r.1) (stampE_mid h1 h2 hp.1 (by omega))
  rw [e1] at e2
  injection e2 with _ e2
  rw [e2, ← hN, norm_says t okt] at hc
  simp at hc
def wkT : Tab := ⟨[⟨3600, false, ⟨#[67, 69, 84]⟩⟩, ⟨0, false, ⟨#[71, 77, 84]⟩⟩], 0, [⟨0, 1⟩]⟩
def wkA : ByteArray := ⟨#[65]⟩
theorem wk_chk : chk wkT = 0 := by kernel_rfl
theorem wk_norm : normT wkT = wkT := by
 have hne : (⟨0, false, ⟨#[71, 77, 84]⟩⟩ : Ty) ≠ ⟨3600, false, ⟨#[67, 69, 84]⟩⟩ := by
  intro h
  injection h with h _ _
  exact absurd h (by decide)
 have e1 : resH wkT = ⟨3600, false, ⟨#[67, 69, 84]⟩⟩ := rfl
 have e2 : resL wkT = [(0, ⟨0, false, ⟨#[71, 77, 84]⟩⟩)] := rfl
 unfold normT
 rw [e1, e2]
 have hx : (⟨0, false, ⟨#[71, 77, 84]⟩⟩ : Ty) ∉ (begN ⟨3600, false, ⟨#[67, 69, 84]⟩⟩).types := fun h => hne (List.mem_singleton.1 h)
 have e3 : makeN ⟨3600, false, ⟨#[67, 69, 84]⟩⟩ [(0, ⟨0, false, ⟨#[71, 77, 84]⟩⟩)] = ⟨[⟨3600, false, ⟨#[67, 69, 84]⟩⟩, ⟨0, false, ⟨#[71, 77, 84]⟩⟩], [⟨0, 1⟩], ⟨0, false, ⟨#[71, 77, 84]⟩⟩⟩ := by
  show stepN (begN ⟨3600, false, ⟨#[67, 69, 84]⟩⟩) (0, ⟨0, false, ⟨#[71, 77, 84]⟩⟩) = _
  unfold stepN
  rw [if_neg (show ¬ (0, (⟨0, false, ⟨#[71, 77, 84]⟩⟩ : Ty)).2 = (begN ⟨3600, false, ⟨#[67, 69, 84]⟩⟩).last from hne)]
  dsimp only
  rw [idx_out hx]
  unfold addTy
  rw [if_neg hx]
  rfl
 unfold normR
 rw [e3]
 rfl
theorem wk_bkd : Bkd wkT wkA := by
 refine ⟨chk_ok _ wk_chk, wk_norm, by decide +kernel, by decide, fun c hc => ?_, fun i hi => ?_⟩
 ·rw [List.mem_singleton.1 (show c ∈ [(⟨0, 1⟩ : Ch)] from hc)]; rfl
 ·have hi : i ≤ 1 := hi
  have : i = 0 ∨ i = 1 := by omega
  rcases this with rfl | rfl
  ·decide +kernel
  ·decide +kernel
def wkL : List UInt8 := [122, 111, 110, 101, 32, 65, 10, 101, 114, 97, 32, 49, 58, 48, 48, 32, 45, 48, 58, 48, 48, 32, 67, 69, 84, 32, 49, 57, 55, 48, 45, 48, 49, 45, 48, 49, 84, 48, 48, 58, 48, 48, 58, 48, 48, 10, 101, 114, 97, 32, 48, 58, 48, 48, 32, 45, 48, 58, 48, 48, 32, 71, 77, 84]
theorem wk_text : bkText (oneB [] wkA undef (bErs wkT)) = wkL := by kernel_rfl
theorem wk_parse (w : World) (ht : Tab10 w) (ha : AscTab w) (hn : NumErrs w) (hm : MaxLen w) : ∃ sg, parseF wkL = (⟨[], [(wkA, bErs wkT)], [], sg⟩, 0, 0) := by
 have := parse_text (b := oneB [] wkA undef (bErs wkT)) (bBk_chk wk_bkd undef) (by rw [wk_text]; decide) w ht ha hn hm
 rw [wk_text] at this
 exact this
theorem wk_made (ev : Value) : mkT (oneB [] wkA ev (bErs wkT)) wkA (-5) 5 = (0, wkT) := back_made wk_bkd ev (fun c hc => by rw [List.mem_singleton.1 (show c ∈ [(⟨0, 1⟩ : Ch)] from hc)]; decide) (by decide) (by decide) (by decide)
end Go.Proofs.YtomahddiclkepaaGreatDoor
namespace Go.Proofs.YtomahddiclkepaaGreatDoor
open Go.RowKit
set_option linter.unusedVariables false
set_option linter.unusedSimpArgs false
theorem dby_step_up (k : Int) : Civ.jan1 (k + 1) = Civ.jan1 k + 365 + (if longB k = true then 1 else 0) := by
 rw [← lp_of]; exact Civ.jan1_succ k
theorem jan1_bd (k : Int) (h0 : 0 ≤ k) (h1 : k ≤ 10000) : -1000000 ≤ Civ.jan1 k ∧ Civ.jan1 k ≤ 4000000 := by unfold Civ.jan1; omega
theorem jan1_1970 : Civ.jan1 1970 = 0 := by decide
set_option maxHeartbeats 1000000 in
theorem yearDay_any (y : Int) (w : World) (h0 : 1600 ≤ y) (h1 : y ≤ 2400) :
  Calls Tryz.prog 113 #[.int .i64 y] w fun e w' => e = .returned (.int .i64 (Civ.jan1 y)) ∧ w = w' := by
 have h70 := Lib.hid jan1_1970
 by_cases hy : 1970 ≤ y
 ·go_enter Tryz.func113, Tryz.ntmps113
  go_wp2
  go_loop [3, 4] (fun n k => ∃ i : Int, 1970 ≤ i ∧ i ≤ y ∧ k = .int .i64 i ∧ n = .int .i64 (Civ.jan1 i)) (fun _ k => (y - intOf k).toNat)
  case atStart => exact ⟨1970, by omega, by omega, rfl, by rw [h70.out]⟩
  case round =>
   obtain ⟨i, hi1, hi2, rfl, rfl⟩ := hrel
   have hb := jan1_bd i (by omega) (by omega)
   by_cases hlt : i < y
   ·have HS := Lib.hid (dby_step_up i)
    go_wp2_with (go_at_call 151; refine (rLong_any _ _ (by omega) (by omega)).mono ?_; rintro e w' ⟨rfl, rfl⟩)
    all_goals
     go_round
     case rel => exact ⟨i + 1, by omega, by omega, rfl, by rw [HS.out]; simp [*]⟩
     case measure => simp [intOf]; omega
   ·have e : i = y := by omega
    subst e
    go_wp2
    go_loop [3, 5] (fun n k => k = .int .i64 i ∧ n = .int .i64 (Civ.jan1 i)) (fun _ k => 0)
    case atStart => exact ⟨rfl, rfl⟩
    case round =>
     obtain ⟨rfl, rfl⟩ := hrel
     go_wp2
     go_ret
     exact ⟨rfl, rfl⟩
 ·go_enter Tryz.func113, Tryz.ntmps113
  go_wp2
  go_loop [3, 4] (fun n k => k = .int .i64 1970 ∧ n = .int .i64 0) (fun _ k => 0)
  case atStart => exact ⟨rfl, rfl⟩
  case round =>
   obtain ⟨rfl, rfl⟩ := hrel
   go_wp2
   go_loop [3, 5] (fun n k => ∃ i : Int, y ≤ i ∧ i ≤ 1970 ∧ k = .int .i64 i ∧ n = .int .i64 (Civ.jan1 y - Civ.jan1 i)) (fun _ k => (1970 - intOf k).toNat)
   case atStart => exact ⟨y, by omega, by omega, rfl, by simp⟩
   case round =>
    obtain ⟨i, hi1, hi2, rfl, rfl⟩ := hrel
    have hb := jan1_bd i (by omega) (by omega)
    have hc := jan1_bd y (by omega) (by omega)
    by_cases hlt : i < 1970
    ·have HS := Lib.hid (dby_step_up i)
     go_wp2_with (go_at_call 151; refine (rLong_any _ _ (by omega) (by omega)).mono ?_; rintro e w' ⟨rfl, rfl⟩)
     all_goals
      go_round
      case rel => exact ⟨i + 1, by omega, by omega, rfl, by rw [HS.out]; simp [*]; omega⟩
      case measure => simp [intOf]; omega
    ·have e : i = 1970 := by omega
     subst e
     go_wp2
     go_ret
     exact ⟨ret_int (by rw [h70.out]; omega), rfl⟩
theorem ret_v2 {a b c : Int} (h : a = b) : Ending.returned (.tuple #[.int .i64 a, .int .i64 c]) = .returned (.tuple #[.int .i64 b, .int .i64 c]) := by rw [h]
theorem cum_bd13 (y m : Int) (h1 : 1 ≤ m) (h2 : m ≤ 13) : 0 ≤ Civ.cum y m ∧ Civ.cum y m ≤ 400 := by
 have := Civ.lp01 y
 unfold Civ.cum
 repeat' split
 all_goals omega
set_option maxHeartbeats 1000000 in
theorem RDays_any (y m d : Int) (w : World) (hv : Civ.valid y m d) :
  Calls Tryz.prog 53 #[.int .i64 y, .int .i64 m, .int .i64 d] w fun e w' => e = .returned (.tuple #[.int .i64 (Civ.days y m d), .int .i64 0]) ∧ Below w.heap.size w w' := by
 obtain ⟨h0, h1, h2, h3, h4, h5⟩ := hv
 have hb := jan1_bd y (by omega) (by omega)
 have hml := Civ.mlen_bd y m h2 h3
 have HE := Lib.hid (Civ.days_eq y m d h2 h3)
 have h1c : Civ.cum y 1 = 0 := by simp [Civ.cum]
 have H1C := Lib.hid h1c
 have HCS := Lib.hid (Civ.cum_succ y)
 have HCB := Lib.hid (cum_bd13 y)
 have HMB := Lib.hid (Civ.mlen_bd y)
 obtain ⟨L, eL⟩ : ∃ L, Civ.mlen y m = L := ⟨_, rfl⟩
 rw [eL] at h5 hml
 have HL := Lib.hid eL
 obtain ⟨J, eJ⟩ : ∃ J, Civ.jan1 y = J := ⟨_, rfl⟩
 rw [eJ] at hb HE
 have HJ := Lib.hid eJ
 clear eL h1c eJ
 go_enter Tryz.func53, Tryz.ntmps53
 go_wp2_with fail
 refine (rLength_ok _ _ _ (by omega) (by omega) (by omega) (by omega)).mono ?_
 rintro e w1 ⟨rfl, hb1⟩
 rw [HL.out]
 have HB1 := Lib.hid hb1
 clear hb1
 go_wp2_with fail
 refine (outside_any _ _ _ _).mono ?_
 rw [decide_eq_false (show ¬ (d < 1 ∨ L < d) by omega)]
 rintro e w' ⟨rfl, rfl⟩
 go_wp2_with fail
 refine (yearDay_any _ _ (by omega) (by omega)).mono ?_
 rw [HJ.out]
 rintro e w' ⟨rfl, rfl⟩
 go_wp2_with fail
 go_loopw [10, 11] (fun n k wr => ∃ i : Int, 1 ≤ i ∧ i ≤ m ∧ k = .int .i64 i ∧ n = .int .i64 (J + d - 1 + Civ.cum y i) ∧ Below w.heap.size w wr) (fun _ k _ => (m - intOf k).toNat)
 case atStart => exact ⟨1, by omega, h2, rfl, by rw [H1C.out]; go_num, HB1.out⟩
 case round =>
  obtain ⟨i, hi1, hi2, rfl, rfl, hbr⟩ := hrel
  have HBR := Lib.hid hbr
  have hc := HCB.out i hi1 (by omega)
  have HC := Lib.hid (HCS.out i hi1 (by omega))
  have hm := HMB.out i hi1 (by omega)
  clear hbr
  by_cases hlt : i < m
  ·obtain ⟨K, eK⟩ : ∃ K, Civ.mlen y i = K := ⟨_, rfl⟩
   rw [eK] at HC hm
   have HK := Lib.hid eK
   clear eK
   go_wp2_with fail
   refine (rLength_ok _ _ _ (by omega) (by omega) (by omega) (by omega)).mono ?_
   rintro e w1 ⟨rfl, hb1⟩
   rw [HK.out]
   have HZ := Lib.hid (HBR.out.trans (hb1.mono HBR.out.size))
   clear hb1
   go_wp2
   go_roundw
   case rel => exact ⟨i + 1, by omega, by omega, rfl, by rw [HC.out]; go_num, HZ.out⟩
   case measure => simp [intOf]; omega
  ·obtain rfl : i = m := by omega
   go_wp2
   go_ret2
   exact ⟨ret_v2 (by rw [HE.out]; omega), HBR.out⟩
theorem rest0_neg (n m : Int) (h0 : 0 < m) (h1 : m ≤ 4611686018427387904) (h : n.tmod m < 0) : wrap64 (n.tmod m + m) = n % m := by
 have q := Int.tmod_eq_emod (a := n) (b := m)
 have := Int.emod_nonneg n (show m ≠ 0 by omega)
 have := Int.emod_lt_of_pos n h0
 have e : n.tmod m + m = n % m := by
  split at q
  ·omega
  ·have : (m.natAbs : Int) = m := by omega
   omega
 rw [e]
 exact IntWalk.wrap64_in _ ⟨by omega, by omega⟩
theorem rest0_pos (n m : Int) (h0 : 0 < m) (h : 0 ≤ n.tmod m) : n.tmod m = n % m := by
 have q := Int.tmod_eq_emod (a := n) (b := m)
 have := Int.emod_lt_of_pos n h0
 split at q
 ·omega
 ·have : (m.natAbs : Int) = m := by omega
  omega
theorem ret_int0 {k : IntKind} {a b : Int} (h : a = b) : Ending.returned (.int k a) = .returned (.int k b) := by rw [h]
theorem Rest0_any (n m : Int) (w : World) (h0 : 0 < m) (h1 : m ≤ 1099511627776) :
  Calls Tryz.prog 14 #[.int .i64 n, .int .i64 m] w fun e w' => e = .returned (.int .i64 (n % m)) ∧ w = w' := by
 have hh : m ≤ 4611686018427387904 := by omega
 go_enter Tryz.func14, Tryz.ntmps14
 go_wp2
 ·go_ret
  exact ⟨ret_int0 (rest0_neg n m h0 hh (by assumption)), rfl⟩
 ·go_ret
  exact ⟨ret_int0 (rest0_pos n m h0 (by assumption)), rfl⟩
end Go.Proofs.YtomahddiclkepaaGreatDoor
namespace Go.Proofs.YtomahddiclkepaaGreatDoor
open Go.RowKit Go.Joins
open Classical
set_option linter.unusedVariables false
set_option linter.unusedSimpArgs false
def idxF {α : Type} (p : α → Bool) (l : List α) : Int := if l.any p = true then (l.findIdx p : Nat) else -1
theorem idxF_no {α : Type} (p : α → Bool) (l : List α) (h : l.any p = false) : idxF p l = -1 := by unfold idxF; rw [if_neg (by rw [h]; simp)]
theorem idxF_hit {α : Type} (p : α → Bool) (l : List α) (k : Nat) (hk : k < l.length) (h : (l.take k).any p = false) (hp : p l[k] = true) : idxF p l = (k : Nat) := by
 unfold idxF
 rw [if_pos (any_hit p l k hk hp)]
 congr 1
 rw [List.findIdx_eq hk]
 refine ⟨hp, fun j hj => ?_⟩
 rw [List.any_eq_false] at h
 have := h l[j] (List.mem_take_iff_getElem.2 ⟨j, by omega, rfl⟩)
 simpa using this
set_option maxRecDepth 100000 in
set_option maxHeartbeats 4000000 in
theorem idxTn_any (l : List Tn) (v : Value) (g : Nat) (cb : Array Value) (p : Tn → Bool) (w : World) (eg : ∀ args w, (callFunc g args).run Tryz.prog w = .ok (.enter g args) w) (hv : RowsAt tnC 3 w.heap.size w v l)
  (hp : ∀ W, Below w.heap.size w W → ∀ x ∈ l, Calls Tryz.prog g (#[.agg (tnC x).toArray] ++ cb) W fun e w' => e = .returned (.bool (p x)) ∧ Below W.heap.size W w') :
  Calls Tryz.prog 105 #[v, .func (.func g) #[] cb] w fun e w' => e = .returned (.int .i64 (idxF p l)) ∧ Below w.heap.size w w' := by
 have HP := Lib.hid hp
 have HHIT := Lib.hid (fun k hk h1 h2 => idxF_hit p l k hk h1 h2)
 have HNO := Lib.hid (idxF_no p l)
 obtain ⟨R, eR⟩ : ∃ R, idxF p l = R := ⟨_, rfl⟩
 rw [eR] at HHIT HNO ⊢
 clear eR
 obtain ⟨pp, cap, rfl, hlen, hrow⟩ := hv
 have HRow := Lib.hid hrow
 clear hp hrow
 go_enter Tryz.func105, Tryz.ntmps105
 go_wp2_with fail
 go_loopw [8] (fun i wr => ∃ k : Nat, k ≤ l.length ∧ i = .int .i64 k ∧ Hid (Below w.heap.size w wr) ∧ Hid ((l.take k).any p = false)) (fun i _ => l.length - (intOf i).toNat)
 case atStart => exact ⟨0, Nat.zero_le _, rfl, Lib.hid (Below.refl _ _), Lib.hid rfl⟩
 case round =>
  obtain ⟨k, hk, rfl, HB, HA⟩ := hrel
  have hzr := HB.out.size
  by_cases hlt : k < l.length
  ·obtain ⟨b, o, rfl, hbl, hcs⟩ := HRow.out (List.ne_nil_of_length_pos (by omega))
   have hck := hcs k hlt
   have hc := HP.out wr HB.out l[k] (List.getElem_mem hlt)
   have HST := Lib.hid (fun h => any_step p l k hlt HA.out h)
   have HHT := Lib.hid (fun h => HHIT.out k hlt HA.out h)
   obtain ⟨q, eq⟩ : ∃ q, l[k] = q := ⟨_, rfl⟩
   rw [eq] at hck hc HST HHT
   clear eq hcs
   obtain ⟨pv, epv⟩ : ∃ pv, p q = pv := ⟨_, rfl⟩
   rw [epv] at hc HST HHT
   clear epv
   obtain ⟨a, s, lt⟩ := q
   have up : ∀ j u, w.cell? ⟨b, o + k * 3 + j, none⟩ = some u → wr.cell? ⟨b, o + k * 3 + j, none⟩ = some u := fun j u h => (HB.out.cell (p := ⟨b, o + k * 3 + j, none⟩) hbl).trans h
   have z0 := up 0 _ (hck 0 _ rfl)
   have z1 := up 1 _ (hck 1 _ rfl)
   have z2 := up 2 _ (hck 2 _ rfl)
   rw [Nat.add_zero] at z0
   have HC := Lib.hid hc
   clear up hck hc
   cases pv with
   | true =>
    have HT := Lib.hid (HHT.out (by first | rfl | trivial))
    go_wp2_with (go_at_fn g; refine HC.out.mono ?_; rintro e w' ⟨rfl, hb⟩; have HB2 := Lib.hid (HB.out.trans (hb.mono HB.out.size)); clear hb)
    go_ret
    exact ⟨ret_E HT.out.symm, HB2.out⟩
   | false =>
    go_wp2_with (go_at_fn g; refine HC.out.mono ?_; rintro e w' ⟨rfl, hb⟩; have HB2 := Lib.hid (HB.out.trans (hb.mono HB.out.size)); clear hb)
    go_roundw
    case rel => exact ⟨k + 1, by omega, by go_num, HB2, Lib.hid (HST.out (by first | rfl | trivial))⟩
    case measure => simp [intOf]; omega
  ·have hkl : ¬ (k : Int) < (l.length : Int) := by omega
   have HT : Hid (R = -1) := by
    show _ = _
    have := HA.out
    rw [List.take_of_length_le (by omega)] at this
    exact HNO.out this
   go_wp2_with fail
   go_ret
   exact ⟨ret_E HT.out.symm, HB.out⟩
set_option maxHeartbeats 1000000 in
theorem Eras1_any (x : Tn) (W : World) : Calls Tryz.prog 106 (#[.agg (tnC x).toArray] ++ #[]) W fun e w' => e = .returned (.bool (decide (x.s = 0))) ∧ Below W.heap.size W w' := by
 obtain ⟨a, s, lt⟩ := x
 show Calls _ _ #[.agg #[.int .i64 a, .int .i64 s, .string lt]] W _
 go_enter Tryz.func106, Tryz.ntmps106
 go_wp2
 go_ret
 exact ⟨rfl, (Below.refl _ _).alloc (Nat.le_refl _) _⟩
theorem IdxTn_any (l : List Tn) (v : Value) (w : World) (hv : RowsAt tnC 3 w.heap.size w v l) :
  Calls Tryz.prog 105 #[v, .func (.func 106) #[] #[]] w fun e w' => e = .returned (.int .i64 (idxF (fun u : Tn => decide (u.s = 0)) l)) ∧ Below w.heap.size w w' :=
 idxTn_any l v 106 #[] _ w (enters_of Tryz.func106 (by kernel_rfl) rfl) hv fun W _ x _ => Eras1_any x W
set_option maxHeartbeats 1000000 in
theorem Which1_any (bl bt b o n cap : Nat) (x y : Int) (i : Nat) (W : World) (hi : i < n)
  (hl : W.cell? ⟨bl, 0, none⟩ = some (.slice (some ⟨b, o, none⟩) n cap)) (hx : W.cell? ⟨bt, 0, none⟩ = some (.int .i64 x)) (hc : W.cell? ⟨b, o + i * 5 + 4, none⟩ = some (.int .i64 y)) :
  Calls Tryz.prog 104 (#[.int .i64 i] ++ #[.pointer (some ⟨bl, 0, none⟩), .pointer (some ⟨bt, 0, none⟩)]) W fun e w' => e = .returned (.bool (decide (x < y))) ∧ Below W.heap.size W w' := by
 have hiz : (i : Int) < (n : Int) := by omega
 go_enter Tryz.func104, Tryz.ntmps104
 go_wp2
 go_quiet (fail)
 go_wp2
 go_ret
 exact ⟨rfl, below_drewN' (Below.refl _ _) _⟩
set_option maxHeartbeats 2000000 in
theorem Which_any {rules : List Ru} (l : List Er) (v : Value) (t : Int) (B : Nat) (w : World) (hv : RowsAt (fun x : Er => (erCells x).toList) 5 B w v l) (hB : B ≤ w.heap.size) (ho : ErasOk rules l) :
  Calls Tryz.prog 47 #[v, .int .i64 t] w fun e w' => e = .returned (.int .i64 (whichF l t : Nat)) ∧ Below w.heap.size w w' := by
 obtain ⟨p, cap, rfl, ⟨hl, hlc⟩, hat⟩ := hv
 obtain ⟨b, o, rfl, hbl, hcs⟩ := hat ho.ne
 have hp : 0 < l.length := List.length_pos_iff.2 ho.ne
 obtain ⟨W0, hW0⟩ : ∃ W0, (w.alloc (.cells #[.slice (some ⟨b, o, none⟩) l.length cap] 44)).alloc (.cells #[.int .i64 t] 3) = W0 := ⟨_, rfl⟩
 have hB0 : Below w.heap.size w W0 := by rw [← hW0]; exact ((Below.refl _ w).alloc (Nat.le_refl _) _).alloc (by simp) _
 have hS0 : W0.heap.size = w.heap.size + 2 := by rw [← hW0]; simp
 have q0 : W0.cell? ⟨w.heap.size, 0, none⟩ = some (.slice (some ⟨b, o, none⟩) l.length cap) := by rw [← hW0]; simp [go_sem]
 have qx : W0.cell? ⟨w.heap.size + 1, 0, none⟩ = some (.int .i64 t) := by rw [← hW0]; simp [go_sem]
 have eg : ∀ args w, (callFunc 104 args).run Tryz.prog w = .ok (.enter 104 args) w := enters_of Tryz.func104 (by kernel_rfl) rfl
 have hS := Search_any 104 #[.pointer (some ⟨w.heap.size, 0, none⟩), .pointer (some ⟨w.heap.size + 1, 0, none⟩)] (l.length - 1) (fun i => decide (t < (eraAt l i).un)) W0 eg (by omega)
  (fun W i hbW hi => Which1_any w.heap.size (w.heap.size + 1) b o l.length cap t (eraAt l i).un i W (by omega) ((hbW.cell (by show w.heap.size < _; omega)).trans q0) ((hbW.cell (by show w.heap.size + 1 < _; omega)).trans qx)
   ((hbW.cell (by show b < _; omega)).trans ((hB0.cell (by show b < _; omega)).trans (by rw [eraAt_in l i (by omega)]; exact hcs i (by omega) 4 _ rfl))))
  (which_mono ho t)
 have hcd : cntF (fun i => decide (t < (eraAt l i).un)) (l.length - 1) = whichF l t := rfl
 rw [hcd] at hS
 have HS := Lib.hid hS
 have HW0 := Lib.hid hW0
 have HB0 := Lib.hid hB0
 have hcast : ((l.length - 1 : Nat) : Int) = (l.length : Int) - 1 := by omega
 rw [hcast] at HS
 have p1 : IntKind.i64.wrap ((l.length : Int) - 1) = (l.length : Int) - 1 := IntWalk.i64_in _ (by omega)
 obtain ⟨c, hc⟩ : ∃ c, whichF l t = c := ⟨_, rfl⟩
 rw [hc] at HS ⊢
 clear hS hW0 hB0 hat hcs eg hcd hcast hc
 go_enter Tryz.func47, Tryz.ntmps47
 go_wp2_with fail
 rw [HW0.out]
 refine HS.out.mono ?_
 rintro e w1 ⟨rfl, hb1⟩
 go_wp2
 go_ret
 exact ⟨rfl, HB0.out.trans (hb1.mono HB0.out.size)⟩
abbrev tdCells (x : Td) (tv : Value) : Array Value := #[.int .i64 x.er.off, .string x.er.ru, .int .i64 x.er.sv, .string x.er.fm, .int .i64 x.er.un, tv, .string x.fst]
set_option maxHeartbeats 1000000 in
theorem TdAt1_any (bx bt b o n cap : Nat) (t y : Int) (i : Nat) (W : World) (hi : i < n)
  (hl : W.cell? ⟨bx, 5, none⟩ = some (.slice (some ⟨b, o, none⟩) n cap)) (hx : W.cell? ⟨bt, 0, none⟩ = some (.int .i64 t)) (hc : W.cell? ⟨b, o + i * 3, none⟩ = some (.int .i64 y)) :
  Calls Tryz.prog 107 (#[.int .i64 i] ++ #[.pointer (some ⟨bx, 0, none⟩), .pointer (some ⟨bt, 0, none⟩)]) W fun e w' => e = .returned (.bool (decide (t < y))) ∧ Below W.heap.size W w' := by
 have hiz : (i : Int) < (n : Int) := by omega
 go_enter Tryz.func107, Tryz.ntmps107
 go_wp2
 go_quiet (fail)
 go_wp2
 go_ret
 exact ⟨rfl, below_drewN' (Below.refl _ _) _⟩
theorem end_three {W : World} {rb : Nat} {a b c : Value} {T : TypeId} (h : W.heap[rb]? = some (.cells #[a, b, c] T (0, 0))) (x y z : Value) :
  ∃ W', ((W.setCell ⟨rb, 0, none⟩ x).setCell ⟨rb, 1, none⟩ y).setCell ⟨rb, 2, none⟩ z = W' ∧ W'.heap[rb]? = some (.cells #[x, y, z] T (0, 0)) ∧ ∀ B, B ≤ rb → Below B W W' := by
 refine ⟨_, rfl, ?_, fun B hB => (((Below.refl _ _).setCell hB _).setCell hB _).setCell hB _⟩
 simp [World.setCell, Array.getElem?_modify, h]
theorem ret_ty {a b : Ty} (h : a = b) : Ending.returned (tyV a) = .returned (tyV b) := by rw [h]
set_option maxRecDepth 100000 in
set_option maxHeartbeats 8000000 in
theorem TdAt_any (x : Td) (tv : Value) (t : Int) (w : World) (hr : RowsAt tnC 3 w.heap.size w tv x.ts) (hrise : Rises x.ts) (ho1 : -100000 ≤ x.er.off) (ho2 : x.er.off ≤ 100000) (hf : x.er.fm.size ≤ 140737488351232) (hl : (svT x t).2.size ≤ 140737488351232) (hs1 : 0 ≤ (svT x t).1) (hs2 : (svT x t).1 ≤ 10800) (hm : MaxLen w) (hlen : x.ts.length ≤ 100000) :
  Calls Tryz.prog 49 #[.agg (tdCells x tv), .int .i64 t] w fun e w' => e = .returned (tyV (tdTy x t)) ∧ Below w.heap.size w w' := by
 obtain ⟨p, cap, rfl, -, hat⟩ := hr
 obtain ⟨W0, hW0⟩ : ∃ W0, ((w.alloc (.cells (tdCells x (.slice p x.ts.length cap)) 119)).alloc (.cells #[.int .i64 t] 3)).alloc (.cells #[.int .i64 0, .bool false, .string ⟨#[]⟩] 51) = W0 := ⟨_, rfl⟩
 have hB0 : Below w.heap.size w W0 := by rw [← hW0]; exact (((Below.refl _ w).alloc (Nat.le_refl _) _).alloc (by simp) _).alloc (by simp; omega) _
 have hS0 : W0.heap.size = w.heap.size + 3 := by rw [← hW0]; simp
 have hx0 : W0.heap[w.heap.size]? = some (.cells (tdCells x (.slice p x.ts.length cap)) 119 (0, 0)) := by
  rw [← hW0, Below.heap_alloc _ _ _ (by simp; omega), Below.heap_alloc _ _ _ (by simp)]
  exact heap_alloc_new w _
 have hx1 : W0.heap[w.heap.size + 1]? = some (.cells #[.int .i64 t] 3 (0, 0)) := by
  rw [← hW0, Below.heap_alloc _ _ _ (by simp)]
  exact alloc_at _ _ _ (by simp)
 have hx2 : W0.heap[w.heap.size + 1 + 1]? = some (.cells #[.int .i64 0, .bool false, .string ⟨#[]⟩] 51 (0, 0)) := by
  rw [← hW0]
  exact alloc_at _ _ _ (by simp)
 have eg : ∀ args w, (callFunc 107 args).run Tryz.prog w = .ok (.enter 107 args) w := enters_of Tryz.func107 (by kernel_rfl) rfl
 have q5 : W0.cell? ⟨w.heap.size, 5, none⟩ = some (.slice p x.ts.length cap) := (cell_of_row W0 _ 5 _ _ _ hx0).trans rfl
 have qt : W0.cell? ⟨w.heap.size + 1, 0, none⟩ = some (.int .i64 t) := (cell_of_row W0 _ 0 _ _ _ hx1).trans rfl
 have hS : ∀ W1, Below W0.heap.size W0 W1 → Calls Tryz.prog 103 #[.int .i64 x.ts.length, .func (.func 107) #[] #[.pointer (some ⟨w.heap.size, 0, none⟩), .pointer (some ⟨w.heap.size + 1, 0, none⟩)]] W1 fun e w' => e = .returned (.int .i64 (cntT x.ts t : Nat)) ∧ Below W1.heap.size W1 w' := by
  intro W1 hb1
  refine Search_any 107 #[.pointer (some ⟨w.heap.size, 0, none⟩), .pointer (some ⟨w.heap.size + 1, 0, none⟩)] x.ts.length (fun i => decide (t < tnA x.ts i)) W1 eg (by omega) (fun W i hbW hi => ?_) (cntT_mono hrise t)
  obtain ⟨b, o, e, hbl, hcs⟩ := hat (List.ne_nil_of_length_pos (by omega))
  have hbW2 := hb1.trans (hbW.mono hb1.size)
  refine TdAt1_any w.heap.size (w.heap.size + 1) b o x.ts.length cap t (tnA x.ts i) i W hi ?_ ((hbW2.cell (by show w.heap.size + 1 < _; omega)).trans qt) ?_
  ·rw [← e]; exact (hbW2.cell (by show w.heap.size < _; omega)).trans q5
  ·rw [tnA_at _ i hi]
   exact (hbW2.cell (by show b < _; omega)).trans ((hB0.cell (by exact hbl)).trans (hcs i hi 0 _ rfl))
 have HS := Lib.hid hS
 have HW0 := Lib.hid hW0
 have HB0 := Lib.hid hB0
 have HX0 := Lib.hid hx0
 have HX2 := Lib.hid hx2
 have hle := cntT_le x.ts t
 have HAB : Hid (∀ W, Below w.heap.size w W → Calls Tryz.prog 108 #[.string x.er.fm, .int .i64 (svT x t).1, .string (svT x t).2] W fun e w' => e = .returned (.tuple #[.string (nmT x t), .int .i64 (abbrF x.er.fm.data.toList (svT x t).1 (svT x t).2.data.toList).2]) ∧ Below W.heap.size W w') := by
  show ∀ W, _
  intro W hb
  exact Abbr_any x.er.fm.data.toList (svT x t).2.data.toList (svT x t).1 W (by rw [← Lib.size_eq]; omega) (by rw [← Lib.size_eq]; omega) (hm.below hb)
 have HTY : Hid (∀ s n, s = (svT x t).1 → n = nmT x t → (⟨x.er.off + s, decide (0 < s), n⟩ : Ty) = tdTy x t) := by
  show ∀ s n, _
  rintro s n rfl rfl
  rfl
 have H0 := Lib.hid (fun h => svT_0 (x := x) (t := t) h)
 have H1 := Lib.hid (fun h => svT_s (x := x) (t := t) h)
 obtain ⟨c, hc⟩ : ∃ c, cntT x.ts t = c := ⟨_, rfl⟩
 rw [hc] at HS hle
 have HC := Lib.hid hc
 obtain ⟨s, es⟩ : ∃ s, (svT x t).1 = s := ⟨_, rfl⟩
 obtain ⟨l, el⟩ : ∃ l, (svT x t).2 = l := ⟨_, rfl⟩
 obtain ⟨nm, en⟩ : ∃ nm, nmT x t = nm := ⟨_, rfl⟩
 obtain ⟨T, eT⟩ : ∃ T, tdTy x t = T := ⟨_, rfl⟩
 obtain ⟨E, eE⟩ : ∃ E, (abbrF x.er.fm.data.toList (svT x t).1 (svT x t).2.data.toList).2 = E := ⟨_, rfl⟩
 rw [eE] at HAB
 rw [es, el, en] at HAB
 rw [es, en, eT] at HTY
 rw [es] at hs1 hs2
 rw [eT]
 have hSL : (svT x t) = (s, l) := by rw [← es, ← el]
 have HSL := Lib.hid hSL
 have HAT := Lib.hid hat
 clear hat hS hW0 hB0 hx0 hx2 hx1 eg q5 qt hc es el en eT eE hSL hl hrise hf
 obtain ⟨⟨off, ru, sv, fm, un⟩, ts, fst⟩ := x
 simp only at ho1 ho2 hlen hle HS HX0 HAB HTY H0 H1 HC HAT HW0 HSL ⊢
 have z0 : W0.cell? ⟨w.heap.size, 0, none⟩ = some (.int .i64 off) := (cell_of_row W0 _ 0 _ _ _ HX0.out).trans rfl
 have z2 : W0.cell? ⟨w.heap.size, 2, none⟩ = some (.int .i64 sv) := (cell_of_row W0 _ 2 _ _ _ HX0.out).trans rfl
 have z3 : W0.cell? ⟨w.heap.size, 3, none⟩ = some (.string fm) := (cell_of_row W0 _ 3 _ _ _ HX0.out).trans rfl
 have z5 : W0.cell? ⟨w.heap.size, 5, none⟩ = some (.slice p ts.length cap) := (cell_of_row W0 _ 5 _ _ _ HX0.out).trans rfl
 have z6 : W0.cell? ⟨w.heap.size, 6, none⟩ = some (.string fst) := (cell_of_row W0 _ 6 _ _ _ HX0.out).trans rfl
 go_enter Tryz.func49, Tryz.ntmps49
 go_upto_region 1 with fail
 rw [HW0.out]
 go_quiet (fail)
 go_wp2_with fail
 refine (HS.out _ (below_drewN' (Below.refl _ _) _)).mono ?_
 rintro e w1 ⟨rfl, hb1⟩
 have hb1' : Below W0.heap.size W0 w1 := (below_drewN' (Below.refl W0.heap.size W0) nq).trans (hb1.mono (Nat.le_refl _))
 have HB1 := Lib.hid (HB0.out.trans (hb1'.mono HB0.out.size))
 have hx0 := (hb1'.block w.heap.size (by omega)).trans HX0.out
 have hx2 := (hb1'.block (w.heap.size + 1 + 1) (by omega)).trans HX2.out
 have HY2 := Lib.hid hx2
 have y0 : w1.cell? ⟨w.heap.size, 0, none⟩ = some (.int .i64 off) := (cell_of_row w1 _ 0 _ _ _ hx0).trans rfl
 have y3 : w1.cell? ⟨w.heap.size, 3, none⟩ = some (.string fm) := (cell_of_row w1 _ 3 _ _ _ hx0).trans rfl
 have y5 : w1.cell? ⟨w.heap.size, 5, none⟩ = some (.slice p ts.length cap) := (cell_of_row w1 _ 5 _ _ _ hx0).trans rfl
 have HY0 := Lib.hid hx0
 have hs1z : w.heap.size + 2 < w1.heap.size := by have := hb1'.size; omega
 have p0 : IntKind.i64.wrap (off + s) = off + s := IntWalk.i64_in _ (by omega)
 clear hb1 hb1' hx0 hx2 z0 z2 z3 z5 z6 HS HX0 HX2
 have FIN : Hid (∀ (w2 : World), Below w1.heap.size w1 w2 → ∃ W9, ((w2.setCell ⟨w.heap.size + 1 + 1, 0, none⟩ (.int .i64 (off + s))).setCell ⟨w.heap.size + 1 + 1, 1, none⟩ (.bool (decide (0 < s)))).setCell ⟨w.heap.size + 1 + 1, 2, none⟩ (.string nm) = W9 ∧ W9.cell? ⟨w.heap.size + 1 + 1, 0, none⟩ = some (.int .i64 (off + s)) ∧ W9.cell? ⟨w.heap.size + 1 + 1, 1, none⟩ = some (.bool (decide (0 < s))) ∧ W9.cell? ⟨w.heap.size + 1 + 1, 2, none⟩ = some (.string nm) ∧ Below w.heap.size w W9) := by
  show ∀ w2, _
  intro w2 hb2
  obtain ⟨W9, e9, hh9, hb9⟩ := end_three ((hb2.block (w.heap.size + 1 + 1) (by omega)).trans HY2.out) (.int .i64 (off + s)) (.bool (decide (0 < s))) (.string nm)
  exact ⟨W9, e9, (cell_of_row W9 _ 0 _ _ _ hh9).trans rfl, (cell_of_row W9 _ 1 _ _ _ hh9).trans rfl, (cell_of_row W9 _ 2 _ _ _ hh9).trans rfl, (HB1.out.trans (hb2.mono HB1.out.size)).trans (hb9 _ (by omega))⟩
 have BOX : Hid (∀ (w2 : World), Below w1.heap.size w1 w2 → w2.cell? ⟨w.heap.size, 0, none⟩ = some (.int .i64 off) ∧ w2.cell? ⟨w.heap.size + 1 + 1, 0, none⟩ = some (.int .i64 0) ∧ w2.cell? ⟨w.heap.size + 1 + 1, 1, none⟩ = some (.bool false) ∧ w2.cell? ⟨w.heap.size + 1 + 1, 2, none⟩ = some (.string ⟨#[]⟩) ∧ (∀ o, w2.frozen? ⟨w.heap.size + 1 + 1, o, none⟩ = false)) := by
  show ∀ w2, _
  intro w2 hb2
  have h0 := (hb2.block w.heap.size (by omega)).trans HY0.out
  have h2 := (hb2.block (w.heap.size + 1 + 1) (by omega)).trans HY2.out
  exact ⟨(cell_of_row w2 _ 0 _ _ _ h0).trans rfl, (cell_of_row w2 _ 0 _ _ _ h2).trans rfl, (cell_of_row w2 _ 1 _ _ _ h2).trans rfl, (cell_of_row w2 _ 2 _ _ _ h2).trans rfl, fun o => by simp [World.frozen?, h2]⟩
 have HTT := Lib.hid (HTY.out s nm rfl rfl)
 cases c with
 | zero =>
  have hsl := (H0.out HC.out).symm.trans HSL.out
  injection hsl with e1 e2
  subst e1
  subst e2
  clear HAT H0 H1 HC HSL HTY
  go_wp2_with fail
  refine (HAB.out _ HB1.out).mono ?_
  rintro e w2 ⟨rfl, hb2⟩
  obtain ⟨g0, r0, r1, r2, rf⟩ := BOX.out w2 hb2
  have rf0 := rf 0
  have rf1 := rf 1
  have rf2 := rf 2
  have HF := Lib.hid (FIN.out w2 hb2)
  clear BOX FIN HAB rf y0 y3 y5
  go_wp2_with fail
  obtain ⟨W9, e9, v0, v1, v2, hb9⟩ := HF.out
  rw [e9]
  refine bodyPost_ret (v := .agg #[.int .i64 (off + sv), .bool (decide (0 < sv)), .string nm]) (by simp [results, Tryz.results49, go_sem, v0, v1, v2]) rfl ⟨?_, hb9⟩
  exact ret_ty HTT.out
 | succ c =>
  obtain ⟨hlt, hsl⟩ := H1.out (by rw [HC.out]; omega)
  have hci : cntT ts t - 1 = c := by rw [HC.out]; omega
  have hcl : c < ts.length := by omega
  have hsl2 : (ts[c].s, ts[c].lt) = (s, l) := by
   have h3 := hsl.symm.trans HSL.out
   simp only [hci] at h3
   exact h3
  injection hsl2 with e1 e2
  obtain ⟨b, o, rfl, hbl, hcs⟩ := HAT.out (List.ne_nil_of_length_pos (by omega))
  have k1 := (HB1.out.cell (p := ⟨b, o + c * 3 + 1, none⟩) hbl).trans (hcs c hcl 1 _ rfl)
  have k2 := (HB1.out.cell (p := ⟨b, o + c * 3 + 2, none⟩) hbl).trans (hcs c hcl 2 _ rfl)
  rw [e1] at k1
  rw [e2] at k2
  have p1 : IntKind.i64.wrap ((c : Int) + 1 - 1) = (c : Int) := by rw [show (c : Int) + 1 - 1 = c by omega]; exact IntWalk.i64_in _ (by omega)
  have p2 : (c : Int) < (ts.length : Int) := by omega
  clear hcs hsl e1 e2 hlt hci HAT H0 H1 HC HSL HTY
  rw [show ((c + 1 : Nat) : Int) = (c : Int) + 1 by omega]
  go_wp2_with fail
  go_quiet (fail)
  go_wp2_with fail
  refine (HAB.out _ (below_drewN' HB1.out _)).mono ?_
  rintro e w2 ⟨rfl, hb2⟩
  have hb2' : Below w1.heap.size w1 w2 := (below_drewN' (Below.refl w1.heap.size w1) _).trans (hb2.mono (Nat.le_refl _))
  obtain ⟨g0, r0, r1, r2, rf⟩ := BOX.out w2 hb2'
  have rf0 := rf 0
  have rf1 := rf 1
  have rf2 := rf 2
  have HF := Lib.hid (FIN.out w2 hb2')
  clear BOX FIN HAB rf y0 y3 y5 hb2 hb2'
  go_wp2_with fail
  obtain ⟨W9, e9, v0, v1, v2, hb9⟩ := HF.out
  rw [e9]
  refine bodyPost_ret (v := .agg #[.int .i64 (off + s), .bool (decide (0 < s)), .string nm]) (by simp [results, Tryz.results49, go_sem, v0, v1, v2]) rfl ⟨?_, hb9⟩
  exact ret_ty HTT.out
end Go.Proofs.YtomahddiclkepaaGreatDoor
