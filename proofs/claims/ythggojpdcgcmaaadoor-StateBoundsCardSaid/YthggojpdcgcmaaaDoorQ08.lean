/- state: an era with its turns; which type it is at a time: plain functions and facts. Abbreviations that come of a format are abbreviations: plain. The laws of states, in plain words. sort.Search (at a function that leaves what lay below), table.Of, table.At, wall.check, wall.Local: what each returns. state: slices.IndexFunc of turns; Which; Within. (Turned).At: which type it is at a time of an era. -/
import Derived.Test.YthggojpdcgcmaaaDoorQ07
import Derived.Test.YthggojpdcgcmaaaDoorQ02
import Derived.Deep.LoopGhost
import Derived.RegionTactic
import Derived.ChangeAlike
import Derived.BigRegion
import Derived.Sort.Walk0
import Derived.StillTailTactics
namespace Go.Proofs.YthggojpdcgcmaaaDoor
open Go.RowKit Go.Joins Go.Maps
open Classical
set_option linter.unusedVariables false
set_option linter.unusedSimpArgs false

/-- an era with its turns, and the letter ahead of them -/
structure Td where
  er : Er
  ts : List Tn
  fst : ByteArray
def dashB : ByteArray := ⟨#[45]⟩
def fstK (l : List Tn) : Nat := l.findIdx fun u => decide (u.s = 0)
def firstLt (l : List Tn) : ByteArray := (l[fstK l]?.map (·.lt)).getD dashB
def tdE (rules : List Ru) (x : Er) : Int := if x.ru.data.toList = [] then 0 else (mkR rules x.ru x.off).1
def tdR (rules : List Ru) (x : Er) : Td := if x.ru.data.toList = [] then ⟨x, [], dashB⟩ else ⟨x, (mkR rules x.ru x.off).2, firstLt (mkR rules x.ru x.off).2⟩
theorem tdR_er (rules : List Ru) (x : Er) : (tdR rules x).er = x := by unfold tdR; split <;> rfl
def tnA (l : List Tn) (i : Nat) : Int := (l[i]?.map (·.a)).getD 0
/-- how many turns there are up to a time -/
def cntT (l : List Tn) (t : Int) : Nat := cntF (fun i => decide (t < tnA l i)) l.length
def svT (x : Td) (t : Int) : Int × ByteArray := match x.ts[cntT x.ts t - 1]? with
  | some u => if cntT x.ts t = 0 then (x.er.sv, x.fst) else (u.s, u.lt)
  | none => (x.er.sv, x.fst)
def nmT (x : Td) (t : Int) : ByteArray := txt (abbrF x.er.fm.data.toList (svT x t).1 (svT x t).2.data.toList).1
def tdTy (x : Td) (t : Int) : Ty := ⟨x.er.off + (svT x t).1, decide (0 < (svT x t).1), nmT x t⟩
def whichF (l : List Er) (t : Int) : Nat := cntF (fun i => decide (t < (eraAt l i).un)) (l.length - 1)
def ty0 : Ty := ⟨0, false, ⟨#[]⟩⟩
/-- what state.At answers -/
def stR (b : Bk) (nm : ByteArray) (t : Int) : Int × Ty :=
  match (rsv b nm).1 with
  | none => ((rsv b nm).2, ty0)
  | some z => if stampE t ≠ 0 then (stampE t, ty0) else
    if tdE b.rules (eraAt z.eras (whichF z.eras t)) ≠ 0 then (tdE b.rules (eraAt z.eras (whichF z.eras t)), ty0) else (0, tdTy (tdR b.rules (eraAt z.eras (whichF z.eras t))) t)

/-! counts -/
theorem bnd_ex (p : Nat → Bool) : ∀ (n : Nat), (∀ a b, a ≤ b → b < n → p a = true → p b = true) → ∃ h, h ≤ n ∧ (∀ t, t < h → p t = false) ∧ (∀ t, h ≤ t → t < n → p t = true)
  | 0, _ => ⟨0, Nat.le_refl _, fun t h => absurd h (Nat.not_lt_zero _), fun t _ h => absurd h (Nat.not_lt_zero _)⟩
  | n + 1, hm => by
    obtain ⟨h, h1, h2, h3⟩ := bnd_ex p n fun a b hab hb => hm a b hab (by omega)
    by_cases e : p n = true
    · exact ⟨h, by omega, h2, fun t ht htn => by
        by_cases ht2 : t = n
        · rw [ht2]; exact e
        · exact h3 t ht (by omega)⟩
    · refine ⟨n + 1, Nat.le_refl _, fun t ht => ?_, fun t h4 h5 => by omega⟩
      cases ep : p t with
      | false => rfl
      | true => exact absurd (hm t n (by omega) (by omega) ep) e
theorem cntF_spec (p : Nat → Bool) (n : Nat) (hm : ∀ a b, a ≤ b → b < n → p a = true → p b = true) : cntF p n ≤ n ∧ (∀ i, i < cntF p n → p i = false) ∧ ∀ i, cntF p n ≤ i → i < n → p i = true := by
  obtain ⟨h, h1, h2, h3⟩ := bnd_ex p n hm
  rw [cntF_boundary p n h h1 h2 h3]
  exact ⟨h1, h2, h3⟩
theorem cntF_leN (p : Nat → Bool) (n : Nat) : cntF p n ≤ n := by
  unfold cntF
  have := List.countP_le_length (p := fun i => !p i) (l := List.range n)
  simpa using this
theorem rises_mono {l : List Tn} (h : Rises l) : ∀ (j i : Nat) (hij : i < j) (hj : j < l.length), (l[i]'(by omega)).a < l[j].a
  | 0, i, hi, _ => absurd hi (Nat.not_lt_zero _)
  | j + 1, i, hi, hj => by
    have h1 := h j hj
    by_cases e : i = j
    · subst e; exact h1
    · have h2 := rises_mono h j i (by omega) (by omega)
      omega
theorem tnA_at (l : List Tn) (i : Nat) (h : i < l.length) : tnA l i = l[i].a := by unfold tnA; rw [List.getElem?_eq_getElem h]; rfl
theorem tnA_mono {l : List Tn} (h : Rises l) (i j : Nat) (hij : i ≤ j) (hj : j < l.length) : tnA l i ≤ tnA l j := by
  rw [tnA_at l j hj, tnA_at l i (by omega)]
  by_cases e : i = j
  · subst e; exact Int.le_refl _
  · exact Int.le_of_lt (rises_mono h j i (by omega) hj)
theorem cntT_mono {l : List Tn} (h : Rises l) (t : Int) : ∀ a b, a ≤ b → b < l.length → decide (t < tnA l a) = true → decide (t < tnA l b) = true := fun a b hab hb hp => by
  have := tnA_mono h a b hab hb
  simp only [decide_eq_true_eq] at *
  omega
theorem cntT_spec {l : List Tn} (h : Rises l) (t : Int) : cntT l t ≤ l.length ∧ (∀ i, i < cntT l t → tnA l i ≤ t) ∧ ∀ i, cntT l t ≤ i → i < l.length → t < tnA l i := by
  obtain ⟨h1, h2, h3⟩ := cntF_spec _ _ (cntT_mono h t)
  exact ⟨h1, fun i hi => by have := h2 i hi; simpa using this, fun i hi hl => by have := h3 i hi hl; simpa using this⟩
theorem cntT_le (l : List Tn) (t : Int) : cntT l t ≤ l.length := cntF_leN _ _
theorem cntT_eq {l : List Tn} (h : Rises l) {t : Int} {k : Nat} (hk : k ≤ l.length) (h1 : ∀ i, i < k → tnA l i ≤ t) (h2 : ∀ i, k ≤ i → i < l.length → t < tnA l i) : cntT l t = k :=
  cntF_boundary _ _ _ hk (fun i hi => by have := h1 i hi; simpa using this) (fun i hi hl => by have := h2 i hi hl; simpa using this)
theorem svT_0 {x : Td} {t : Int} (h : cntT x.ts t = 0) : svT x t = (x.er.sv, x.fst) := by
  unfold svT
  split
  · rw [if_pos h]
  · rfl
theorem svT_s {x : Td} {t : Int} (h : cntT x.ts t ≠ 0) : ∃ h2 : cntT x.ts t - 1 < x.ts.length, svT x t = (x.ts[cntT x.ts t - 1].s, x.ts[cntT x.ts t - 1].lt) := by
  have := cntT_le x.ts t
  have h2 : cntT x.ts t - 1 < x.ts.length := by omega
  refine ⟨h2, ?_⟩
  unfold svT
  rw [List.getElem?_eq_getElem h2]
  dsimp only
  rw [if_neg h]

/-! what the turns of an era are -/
theorem outF_mem (off : Int) : ∀ (S : List (Int × Ru)) (save : Int) (last : Option Int) (l : List Tn), outF off save last S = some l → ∀ u ∈ l, ∃ x ∈ S, u.s = x.2.sv ∧ u.lt = x.2.lt
  | [], save, last, l, h, u, hu => by
    simp only [outF, Option.some.injEq] at h
    subst h
    cases hu
  | x :: r, save, last, l, h, u, hu => by
    obtain ⟨h1, t, h2, rfl⟩ := outF_some h
    rcases List.mem_cons.1 hu with rfl | hu
    · exact ⟨x, List.mem_cons_self .., rfl, rfl⟩
    · obtain ⟨y, hy, e⟩ := outF_mem off r _ _ t h2 u hu
      exact ⟨y, List.mem_cons_of_mem _ hy, e⟩
theorem noms_mem {D : Ru → Int → Int} {rules : List Ru} {nm : ByteArray} {x : Int × Ru} (h : x ∈ nomsOf D rules nm) : x.2 ∈ rules ∧ x.2.nm = nm := by
  obtain ⟨r, hr, hx⟩ := List.mem_flatMap.1 h
  obtain ⟨i, -, rfl⟩ := List.mem_map.1 hx
  have := List.mem_filter.1 hr
  exact ⟨this.1, by simpa using this.2⟩
theorem mkR_mem {rules : List Ru} {nm : ByteArray} {off : Int} {u : Tn} (h : u ∈ (mkR rules nm off).2) : ∃ r ∈ rules, r.nm = nm ∧ u.s = r.sv ∧ u.lt = r.lt := by
  by_cases h0 : (mkR rules nm off).1 = 0
  · obtain ⟨x, hx, e⟩ := outF_mem off _ 0 none _ (mkR_ok h0) u h
    have hx2 : x ∈ nomsOf dayN rules nm := (List.mergeSort_perm _ _).mem_iff.1 hx
    obtain ⟨h1, h2⟩ := noms_mem hx2
    exact ⟨x.2, h1, h2, e⟩
  · have : (mkR rules nm off).2 = [] := by
      unfold mkR at h0 ⊢
      split
      · rfl
      · split
        · rfl
        · rename_i h1 h2
          rw [if_neg h1, if_neg h2] at h0
          cases e : outF off 0 none (srt (nomsOf dayN rules nm)) with
          | none => rfl
          | some l => rw [e] at h0; exact absurd rfl h0
    rw [this] at h
    cases h
theorem mkR_rises {rules : List Ru} {nm : ByteArray} {off : Int} (h0 : (mkR rules nm off).1 = 0) : Rises (mkR rules nm off).2 := (outF_rise off _ 0 none _ (mkR_ok h0)).2
theorem tdR_rises {rules : List Ru} {x : Er} (h : tdE rules x = 0) : Rises (tdR rules x).ts := by
  unfold tdE at h
  unfold tdR
  by_cases hr : x.ru.data.toList = []
  · rw [if_pos hr]; intro i hi; exact absurd hi (Nat.not_lt_zero _)
  · rw [if_neg hr] at h ⊢
    exact mkR_rises h
theorem firstLt_of (l : List Tn) : firstLt l = dashB ∨ ∃ u ∈ l, u.s = 0 ∧ firstLt l = u.lt := by
  unfold firstLt
  cases h : l[fstK l]? with
  | none => exact .inl rfl
  | some u =>
    obtain ⟨hlt, e⟩ := List.getElem?_eq_some_iff.1 h
    refine .inr ⟨u, e ▸ List.getElem_mem _, ?_, rfl⟩
    have := List.findIdx_getElem (p := fun u : Tn => decide (u.s = 0)) (xs := l) (w := hlt)
    have h3 : l[fstK l].s = 0 := of_decide_eq_true this
    rw [← e]; exact h3

/-! an era of a book that may be -/
structure EraOk (rules : List Ru) (x : Er) : Prop where
  o1 : -64800 ≤ x.off
  o2 : x.off ≤ 64800
  s1 : 0 ≤ x.sv
  s2 : x.sv ≤ 10800
  sr : x.ru.data.toList ≠ [] → x.sv = 0
  has : x.ru.data.toList ≠ [] → ∃ r ∈ rules, r.nm = x.ru
  ab : abbrsChk rules x = 0
theorem eraChk_ok {rules : List Ru} {l : List Er} {k : Nat} (h : eraChk rules l k = 0) : EraOk rules (eraAt l k) ∧ (k + 1 ≠ l.length → -1099511627776 ≤ (eraAt l k).un ∧ (eraAt l k).un ≤ 1099511627776 ∧ stampE (eraAt l k).un = 0 ∧ (0 < k → (eraAt l (k - 1)).un < (eraAt l k).un)) ∧ (k + 1 = l.length → (eraAt l k).un = 0) := by
  unfold eraChk at h
  dsimp only at h
  split at h
  · cases h
  · rename_i h1
    split at h
    · cases h
    · rename_i h2
      split at h
      · cases h
      · rename_i h3
        split at h
        · exact absurd h (by assumption)
        · rename_i h4
          refine ⟨⟨by omega, by omega, by omega, by omega, fun hr => ?_, fun hr => ?_, Classical.not_not.1 h4⟩, fun hk => ?_, fun hk => ?_⟩
          · exact Classical.byContradiction fun hs => h2 ⟨hs, hr⟩
          · have : ¬ (rules.any fun r => decide (r.nm = (eraAt l k).ru)) = false := fun g => h3 ⟨hr, g⟩
            have : (rules.any fun r => decide (r.nm = (eraAt l k).ru)) = true := by simpa using this
            obtain ⟨r, hr, e⟩ := List.any_eq_true.1 this
            exact ⟨r, hr, of_decide_eq_true e⟩
          · rw [if_neg hk] at h
            split at h
            · cases h
            · rename_i h5
              split at h
              · exact absurd h (by assumption)
              · rename_i h6
                split at h
                · cases h
                · rename_i h7
                  refine ⟨by omega, by omega, Classical.not_not.1 h6, fun h0 => ?_⟩
                  omega
          · rw [if_pos hk] at h
            exact Classical.byContradiction fun g => by rw [if_pos g] at h; cases h
theorem eraAt_in (l : List Er) (k : Nat) (h : k < l.length) : eraAt l k = l[k] := by unfold eraAt; rw [List.getElem?_eq_getElem h]; rfl
structure ErasOk (rules : List Ru) (l : List Er) : Prop where
  ne : l ≠ []
  le : l.length ≤ 700
  ok : ∀ x ∈ l, EraOk rules x
  un : ∀ k, k + 1 < l.length → -1099511627776 ≤ (eraAt l k).un ∧ (eraAt l k).un ≤ 1099511627776 ∧ stampE (eraAt l k).un = 0
  rise : ∀ k, k + 2 < l.length → (eraAt l k).un < (eraAt l (k + 1)).un
  last : (eraAt l (l.length - 1)).un = 0
theorem bk_eras {b : Bk} (h : bkChk b = 0) {z : Zo} (hz : z ∈ b.zones) : ErasOk b.rules z.eras := by
  obtain ⟨i, hi, rfl⟩ := List.mem_iff_getElem.1 hz
  have hzo := bk_zone h i hi
  have he : ∀ k, k < b.zones[i].eras.length → eraChk b.rules b.zones[i].eras k = 0 := fun k hk => (firstE_zero _ _).1 hzo.er k (List.mem_range.2 hk)
  have hp : 0 < b.zones[i].eras.length := List.length_pos_iff.2 hzo.ne
  refine ⟨hzo.ne, hzo.le, fun x hx => ?_, fun k hk => ?_, fun k hk => ?_, ?_⟩
  · obtain ⟨k, hk, rfl⟩ := List.mem_iff_getElem.1 hx
    rw [← eraAt_in _ _ hk]
    exact (eraChk_ok (he k hk)).1
  · obtain ⟨a, b, c, -⟩ := (eraChk_ok (he k (by omega))).2.1 (by omega)
    exact ⟨a, b, c⟩
  · have := ((eraChk_ok (he (k + 1) (by omega))).2.1 (by omega)).2.2.2 (by omega)
    simpa using this
  · exact (eraChk_ok (he _ (by omega))).2.2 (by omega)
theorem eras_mono {rules : List Ru} {l : List Er} (h : ErasOk rules l) : ∀ (j i : Nat), i < j → j + 1 < l.length → (eraAt l i).un < (eraAt l j).un
  | 0, i, hi, _ => absurd hi (Nat.not_lt_zero _)
  | j + 1, i, hi, hj => by
    have h1 := h.rise j hj
    by_cases e : i = j
    · subst e; exact h1
    · have := eras_mono h j i (by omega) (by omega)
      omega
theorem which_mono {rules : List Ru} {l : List Er} (h : ErasOk rules l) (t : Int) : ∀ a b, a ≤ b → b < l.length - 1 → decide (t < (eraAt l a).un) = true → decide (t < (eraAt l b).un) = true := fun a b hab hb hp => by
  by_cases e : a = b
  · subst e; exact hp
  · have := eras_mono h b a (by omega) (by omega)
    simp only [decide_eq_true_eq] at *
    omega
theorem which_spec {rules : List Ru} {l : List Er} (h : ErasOk rules l) (t : Int) : whichF l t ≤ l.length - 1 ∧ (∀ i, i < whichF l t → (eraAt l i).un ≤ t) ∧ ∀ i, whichF l t ≤ i → i < l.length - 1 → t < (eraAt l i).un := by
  obtain ⟨h1, h2, h3⟩ := cntF_spec _ _ (which_mono h t)
  exact ⟨h1, fun i hi => by have := h2 i hi; simpa using this, fun i hi hl => by have := h3 i hi hl; simpa using this⟩
theorem which_eq {l : List Er} {t : Int} {k : Nat} (hk : k ≤ l.length - 1) (h1 : ∀ i, i < k → (eraAt l i).un ≤ t) (h2 : ∀ i, k ≤ i → i < l.length - 1 → t < (eraAt l i).un) : whichF l t = k :=
  cntF_boundary _ _ _ hk (fun i hi => by have := h1 i hi; simpa using this) (fun i hi hl => by have := h2 i hi hl; simpa using this)

/-! abbreviations -/
theorem abb_rule {rules : List Ru} {x : Er} (h : EraOk rules x) (hr : x.ru.data.toList ≠ []) : (∀ r ∈ rules, r.nm = x.ru → abE x.fm r.sv r.lt = 0) ∧ abE x.fm 0 dashB = 0 := by
  have ha := h.ab
  unfold abbrsChk at ha
  rw [if_neg hr] at ha
  split at ha
  · rename_i h1
    refine ⟨fun r hm e => ?_, ha⟩
    have := (firstE_zero _ _).1 h1 r hm
    rwa [if_pos e] at this
  · rename_i h1
    exact absurd ha h1
theorem abE_save {f l : ByteArray} {s : Int} (h : abE f s l = 0) : 0 ≤ s ∧ s ≤ 10800 := by
  unfold abE abbrF at h
  split at h
  · cases h
  · split at h
    · cases h
    · rename_i h1; omega
/-- what is saved, and by which letter, at a time of an era -/
theorem sv_ok {rules : List Ru} {x : Er} (h : EraOk rules x) (t : Int) : abE x.fm (svT (tdR rules x) t).1 (svT (tdR rules x) t).2 = 0 ∧ 0 ≤ (svT (tdR rules x) t).1 ∧ (svT (tdR rules x) t).1 ≤ 10800 ∧ (if x.ru.data.toList = [] then (svT (tdR rules x) t).1 = x.sv else (svT (tdR rules x) t).1 = 0 ∨ ∃ r ∈ rules, r.nm = x.ru ∧ (svT (tdR rules x) t).1 = r.sv) := by
  suffices hs : abE x.fm (svT (tdR rules x) t).1 (svT (tdR rules x) t).2 = 0 ∧ (if x.ru.data.toList = [] then (svT (tdR rules x) t).1 = x.sv else (svT (tdR rules x) t).1 = 0 ∨ ∃ r ∈ rules, r.nm = x.ru ∧ (svT (tdR rules x) t).1 = r.sv) from
    ⟨hs.1, (abE_save hs.1).1, (abE_save hs.1).2, hs.2⟩
  by_cases hr : x.ru.data.toList = []
  · have ha := h.ab
    unfold abbrsChk at ha
    rw [if_pos hr] at ha
    have e : tdR rules x = ⟨x, [], dashB⟩ := by unfold tdR; rw [if_pos hr]
    rw [e, if_pos hr, svT_0 rfl]
    exact ⟨ha, rfl⟩
  · obtain ⟨h1, h2⟩ := abb_rule h hr
    have e : tdR rules x = ⟨x, (mkR rules x.ru x.off).2, firstLt (mkR rules x.ru x.off).2⟩ := by unfold tdR; rw [if_neg hr]
    rw [if_neg hr]
    by_cases hc : cntT (tdR rules x).ts t = 0
    · rw [svT_0 hc, e]
      dsimp only
      rw [h.sr hr]
      rcases firstLt_of (mkR rules x.ru x.off).2 with e1 | ⟨u, hu, hs, e1⟩
      · rw [e1]; exact ⟨h2, .inl rfl⟩
      · obtain ⟨r, hm, hn, e2, e3⟩ := mkR_mem hu
        have h5 := h1 r hm hn
        rw [← e2, ← e3, hs] at h5
        rw [e1]
        exact ⟨h5, .inl rfl⟩
    · obtain ⟨hlt, es⟩ := svT_s hc
      rw [es]
      have hu : (tdR rules x).ts[cntT (tdR rules x).ts t - 1] ∈ (mkR rules x.ru x.off).2 := by
        have := List.getElem_mem hlt
        have e4 : (tdR rules x).ts = (mkR rules x.ru x.off).2 := by rw [e]
        rw [← e4]; exact this
      obtain ⟨r, hm, hn, e2, e3⟩ := mkR_mem hu
      dsimp only
      rw [e2, e3]
      exact ⟨h1 r hm hn, .inr ⟨r, hm, hn, rfl⟩⟩
def tdA (rules : List Ru) (l : List Er) (k : Nat) : Td := tdR rules (eraAt l k)
/-- which type it is, by eras that may be -/
def stF (rules : List Ru) (l : List Er) (t : Int) : Ty := tdTy (tdA rules l (whichF l t)) t
theorem which_of {rules : List Ru} {l : List Er} (h : ErasOk rules l) {t : Int} {k : Nat} (hk : k < l.length) (h1 : ∀ i, i < k → (eraAt l i).un ≤ t) (h2 : k + 1 < l.length → t < (eraAt l k).un) : whichF l t = k := by
  refine which_eq (by omega) h1 fun i hi hl => ?_
  by_cases e : k = i
  · subst e; exact h2 (by omega)
  · have := eras_mono h i k (by omega) (by omega)
    have := h2 (by omega)
    omega
end Go.Proofs.YthggojpdcgcmaaaDoor
namespace Go.Proofs.YthggojpdcgcmaaaDoor
open Go.RowKit Go.Joins
open Classical
set_option linter.unusedVariables false
set_option linter.unusedSimpArgs false

def okL (l : List UInt8) : Bool := l.all (signB [43, 45])
theorem abbrB_iff (l : List UInt8) : abbrB (txt l) = true ↔ okL l = true ∧ l ≠ [] ∧ l.length ≤ 8 := by
  unfold abbrB allB okL
  rw [Bool.and_eq_true, Bool.and_eq_true, decide_eq_true_eq]
  have e : (txt l).data.toList = l := txt_data l
  have e2 : (txt l).size = l.length := by
    show (txt l).data.size = _
    rw [← Array.length_toList, e]
  rw [e, e2]
  have e3 : (⟨#[43, 45]⟩ : ByteArray).data.toList = [43, 45] := rfl
  rw [e3]
  constructor
  · rintro ⟨⟨h1, h2⟩, h3⟩
    exact ⟨h1, by simpa using h2, by omega⟩
  · rintro ⟨h1, h2, h3⟩
    exact ⟨⟨h1, by simpa using h2⟩, by omega⟩
theorem okL_app (a c : List UInt8) : okL (a ++ c) = true ↔ okL a = true ∧ okL c = true := by unfold okL; rw [List.all_append, Bool.and_eq_true]
/-- what is right of an abbreviation that was made -/
theorem abbrF_ok {f l : List UInt8} {s : Int} (h : (abbrF f s l).2 = 0) : (abbrF f s l).1 = abbrN f s l ∧ (splitF f).2.2.2 = true ∧ letterOk l = true ∧ 0 ≤ s ∧ s ≤ 10800 ∧ (abbrN f s l).length ≤ 8 ∧ abbrN f s l ≠ [] := by
  unfold abbrF at h ⊢
  by_cases h1 : (splitF f).2.2.2 = false ∨ letterOk l = false
  · rw [if_pos h1] at h; cases h
  · rw [if_neg h1] at h ⊢
    by_cases h2 : ¬ (0 ≤ s ∧ s ≤ 10800)
    · rw [if_pos h2] at h; cases h
    · rw [if_neg h2] at h ⊢
      by_cases h3 : 8 < (abbrN f s l).length
      · rw [if_pos h3] at h; cases h
      · rw [if_neg h3] at h ⊢
        by_cases h4 : abbrN f s l = []
        · rw [if_pos h4] at h; cases h
        · rw [if_neg h4]
          rw [not_or] at h1
          exact ⟨rfl, by simpa using h1.1, by simpa using h1.2, by omega, by omega, by omega, h4⟩
theorem abbrN_okL {f l : List UInt8} {s : Int} (h1 : (splitF f).2.2.2 = true) (h2 : letterOk l = true) : okL (abbrN f s l) = true := by
  have hl : okL (if l = [45] then [] else l) = true := by
    by_cases e : l = [45]
    · rw [if_pos e]; rfl
    · rw [if_neg e]
      unfold letterOk at h2
      rw [Bool.or_eq_true] at h2
      rcases h2 with h2 | h2
      · exact absurd (of_decide_eq_true h2) e
      · exact ((abbrB_iff l).1 h2).1
  unfold splitF at h1
  unfold abbrN splitF
  by_cases g1 : 12 < f.length
  · rw [if_pos g1] at h1; cases h1
  · rw [if_neg g1] at h1
    rw [if_neg g1]
    by_cases g2 : (Lib.cut f [47]).2.2 = true
    · rw [if_pos g2] at h1
      rw [if_pos g2]
      dsimp only at h1 ⊢
      rw [Bool.and_eq_true] at h1
      rw [if_pos rfl]
      split
      · exact ((abbrB_iff _).1 h1.1).1
      · exact ((abbrB_iff _).1 h1.2).1
    · rw [if_neg g2] at h1
      rw [if_neg g2]
      by_cases g3 : (Lib.cut f [37]).2.2 = true
      · rw [if_pos g3] at h1
        rw [if_pos g3]
        dsimp only at h1 ⊢
        rw [if_neg (by decide), if_pos rfl]
        have hab : okL ((Lib.cut f [37]).1 ++ (Lib.cut f [37]).2.1) = true := by
          rw [Bool.or_eq_true] at h1
          rcases h1 with h1 | h1
          · rw [of_decide_eq_true h1]; rfl
          · rw [Bool.and_eq_true] at h1
            exact ((abbrB_iff _).1 h1.2).1
        rw [okL_app] at hab
        rw [okL_app, okL_app]
        exact ⟨hab.1, hl, hab.2⟩
      · rw [if_neg g3] at h1
        rw [if_neg g3]
        dsimp only at h1 ⊢
        rw [if_neg (by decide), if_neg (by decide)]
        exact ((abbrB_iff _).1 h1).1
/-- a resulting abbreviation is one -/
theorem abbrF_abbr {f l : List UInt8} {s : Int} (h : (abbrF f s l).2 = 0) : abbrB (txt (abbrF f s l).1) = true := by
  obtain ⟨e, h1, h2, -, -, h3, h4⟩ := abbrF_ok h
  rw [e, abbrB_iff]
  exact ⟨abbrN_okL h1 h2, h4, h3⟩
theorem cut_noA {l : List UInt8} {c : UInt8} (h : c ∉ l) : (Lib.cut l [c]).2.2 = false := by
  have hi : Lib.index l [c] = -1 := Lib.index_none fun j hj => by
    cases ho : Lib.occAt l [c] j
    · rfl
    · exact absurd (List.mem_of_getElem? (Lib.occAt_head rfl ho)) h
  unfold Lib.cut
  rw [hi, if_neg (by omega)]
theorem okL_no {l : List UInt8} (h : okL l = true) : (47 : UInt8) ∉ l ∧ (37 : UInt8) ∉ l := by
  unfold okL at h
  rw [List.all_eq_true] at h
  refine ⟨fun g => ?_, fun g => ?_⟩
  · have := h _ g; revert this; decide
  · have := h _ g; revert this; decide
/-- an abbreviation as a format stands for itself -/
theorem abbrF_self {f : List UInt8} {s : Int} (h : abbrB (txt f) = true) (h0 : 0 ≤ s) (h1 : s ≤ 10800) : abbrF f s [45] = (f, 0) := by
  obtain ⟨h2, h3, h4⟩ := (abbrB_iff f).1 h
  obtain ⟨n1, n2⟩ := okL_no h2
  have e : splitF f = (f, [], [], true) := by
    unfold splitF
    rw [if_neg (by omega), cut_noA n1, cut_noA n2, if_neg (by decide), if_neg (by decide), h]
  have e2 : abbrN f s [45] = f := by unfold abbrN; rw [e]; rfl
  unfold abbrF
  rw [e, e2, if_neg (by simp [letterOk]), if_neg (by omega), if_neg (by omega), if_neg h3]
end Go.Proofs.YthggojpdcgcmaaaDoor
namespace Go.Proofs.YthggojpdcgcmaaaDoor
open Go.RowKit Go.Joins Go.Maps
open Classical
set_option linter.unusedVariables false
set_option linter.unusedSimpArgs false

theorem rsv_zero {b : Bk} {nm : ByteArray} {z : Zo} {c : Int} (h : rsv b nm = (some z, c)) : c = 0 ∧ z ∈ b.zones ∧ bkChk b = 0 := by
  by_cases hb : bkChk b = 0
  · rw [rsv_go hb] at h
    obtain ⟨h1, h2⟩ := resF_in h
    exact ⟨h2, h1, hb⟩
  · rw [rsv_bad hb] at h; cases h
theorem resF_not0 {zs : List Zo} {ls : List Lk} : ∀ {n : Nat} {k : ByteArray} {c : Int}, resF zs ls n k = (none, c) → c ≠ 0 := by
  intro n
  induction n with
  | zero => intro k c h; cases h; decide
  | succ n ih =>
    intro k c h
    rw [resF] at h
    split at h
    · cases h
    · split at h
      · cases h; decide
      · exact ih h
theorem rsv_not0 {b : Bk} {nm : ByteArray} {c : Int} (h : rsv b nm = (none, c)) : c ≠ 0 := by
  by_cases hb : bkChk b = 0
  · rw [rsv_go hb] at h; exact resF_not0 h
  · rw [rsv_bad hb] at h
    injection h with _ h
    rwa [← h]
theorem stR_none {b : Bk} {nm : ByteArray} {c : Int} (h : rsv b nm = (none, c)) (t : Int) : stR b nm t = (c, ty0) := by unfold stR; rw [h]
theorem stR_some {b : Bk} {nm : ByteArray} {z : Zo} {c : Int} (h : rsv b nm = (some z, c)) (t : Int) : stR b nm t = (if stampE t ≠ 0 then (stampE t, ty0) else
    if tdE b.rules (eraAt z.eras (whichF z.eras t)) ≠ 0 then (tdE b.rules (eraAt z.eras (whichF z.eras t)), ty0) else (0, stF b.rules z.eras t)) := by unfold stR; rw [h]; rfl
theorem stR_bad {b : Bk} {nm : ByteArray} {t : Int} (h : (stR b nm t).1 ≠ 0) : (stR b nm t).2 = ty0 := by
  cases e : rsv b nm with
  | mk zo c =>
    cases zo with
    | none => rw [stR_none e]
    | some z =>
      rw [stR_some e] at h ⊢
      split
      · rfl
      rename_i h1
      split
      · rfl
      rename_i h2
      rw [if_neg h1, if_neg h2] at h
      exact absurd rfl h
theorem stR_ok {b : Bk} {nm : ByteArray} {t : Int} (h : (stR b nm t).1 = 0) : ∃ z ∈ b.zones, rsv b nm = (some z, 0) ∧ bkChk b = 0 ∧ stampE t = 0 ∧ tdE b.rules (eraAt z.eras (whichF z.eras t)) = 0 ∧ (stR b nm t).2 = stF b.rules z.eras t := by
  cases e : rsv b nm with
  | mk zo c =>
    cases zo with
    | none => rw [stR_none e] at h; exact absurd h (rsv_not0 e)
    | some z =>
      obtain ⟨rfl, h2, h3⟩ := rsv_zero e
      rw [stR_some e] at h ⊢
      split at h
      · rename_i h1; exact absurd h h1
      rename_i h1
      split at h
      · rename_i h4; exact absurd h h4
      rename_i h4
      rw [if_neg h1, if_neg h4]
      exact ⟨z, h2, rfl, h3, Classical.not_not.1 h1, Classical.not_not.1 h4, rfl⟩
theorem era_in {rules : List Ru} {l : List Er} (h : ErasOk rules l) (t : Int) : ∃ hk : whichF l t < l.length, eraAt l (whichF l t) = l[whichF l t] := by
  have hp : 0 < l.length := List.length_pos_iff.2 h.ne
  have hk : whichF l t < l.length := by have := (which_spec h t).1; omega
  exact ⟨hk, eraAt_in l _ hk⟩
/-- StateBounds -/
def bdE (rules : List Ru) (x : Ty) (y : Er) : Bool :=
  (decide (0 ≤ x.off - y.off ∧ x.off - y.off ≤ 10800) && decide (decide (0 < x.off - y.off) = x.save)) &&
    ((decide (y.ru.data.toList = []) && decide (x.off - y.off = y.sv)) || ((decide (x.off - y.off = 0) && !decide (y.ru.data.toList = [])) || rules.any fun r => decide (r.nm = y.ru) && decide (r.sv = x.off - y.off)))
theorem bounds_law {b : Bk} {nm : ByteArray} {t : Int} (h : (stR b nm t).1 = 0) : ∃ z ∈ b.zones, rsv b nm = (some z, 0) ∧ 1 ≤ (stR b nm t).2.name.size ∧ (stR b nm t).2.name.size ≤ 8 ∧ (z.eras.any (bdE b.rules (stR b nm t).2)) = true := by
  obtain ⟨z, hz, hr, hb, h1, h2, h3⟩ := stR_ok h
  have ho := bk_eras hb hz
  obtain ⟨hk, e⟩ := era_in ho t
  have hx := ho.ok _ (List.getElem_mem hk)
  obtain ⟨s1, s2, s3, s4⟩ := sv_ok hx t
  have ee : (tdR b.rules z.eras[whichF z.eras t]).er = z.eras[whichF z.eras t] := tdR_er _ _
  rw [h3]
  unfold stF tdA
  rw [e]
  have hn := abbrF_ok s1
  have e5 : (tdTy (tdR b.rules z.eras[whichF z.eras t]) t).name.size = (abbrF z.eras[whichF z.eras t].fm.data.toList (svT (tdR b.rules z.eras[whichF z.eras t]) t).1 (svT (tdR b.rules z.eras[whichF z.eras t]) t).2.data.toList).1.length := by
    unfold tdTy nmT
    dsimp only
    rw [ee]
    show (txt _).data.size = _
    rw [← Array.length_toList, txt_data]
  refine ⟨z, hz, hr, ?_, ?_, List.any_eq_true.2 ⟨_, List.getElem_mem hk, ?_⟩⟩
  · rw [e5, hn.1]
    exact List.length_pos_iff.2 hn.2.2.2.2.2.2
  · rw [e5, hn.1]; exact hn.2.2.2.2.2.1
  · obtain ⟨x, ex⟩ : ∃ x, z.eras[whichF z.eras t] = x := ⟨_, rfl⟩
    rw [ex] at s1 s2 s3 s4 ee ⊢
    obtain ⟨s, es⟩ : ∃ s, (svT (tdR b.rules x) t).1 = s := ⟨_, rfl⟩
    have eo : (tdTy (tdR b.rules x) t).off - x.off = s := by unfold tdTy; dsimp only; rw [ee, es]; omega
    have eb : (tdTy (tdR b.rules x) t).save = decide (0 < s) := by unfold tdTy; dsimp only; rw [es]
    unfold bdE
    rw [eo, eb]
    rw [es] at s2 s3 s4
    rw [Bool.and_eq_true, Bool.and_eq_true]
    refine ⟨⟨decide_eq_true ⟨s2, s3⟩, decide_eq_true rfl⟩, ?_⟩
    by_cases g : x.ru.data.toList = []
    · rw [if_pos g] at s4
      rw [decide_eq_true g, decide_eq_true s4]
      rfl
    · rw [if_neg g] at s4
      rw [decide_eq_false g]
      rcases s4 with s4 | ⟨r, hm, hn2, e6⟩
      · rw [decide_eq_true s4]; rfl
      · have : (b.rules.any fun r => decide (r.nm = x.ru) && decide (r.sv = s)) = true := List.any_eq_true.2 ⟨r, hm, by rw [decide_eq_true hn2, decide_eq_true e6.symm]; rfl⟩
        rw [this]
        simp
/-- StateLinks, TableLinks -/
theorem st_links {b : Bk} {x : Lk} (hx : x ∈ b.links) (t : Int) : stR b x.nm t = stR b x.to t := by
  by_cases hb : bkChk b = 0
  · unfold stR; rw [(rsv_link hb hx).1]
  · rw [stR_none (rsv_bad hb), stR_none (rsv_bad hb)]
/-! a book of one zone -/
def oneB (rules : List Ru) (nm : ByteArray) (ev : Value) (l : List Er) : Bk := ⟨rules, [⟨nm, ev, l⟩], []⟩
theorem oneB_chk {rules : List Ru} {nm : ByteArray} {ev : Value} {l : List Er} (hr : rules.length ≤ 40) (ho : ∀ r ∈ rules, ruChk r = 0) (hn : nameB nm = true) (hl : l ≠ []) (hl2 : l.length ≤ 700) (he : ∀ k, k < l.length → eraChk rules l k = 0) : bkChk (oneB rules nm ev l) = 0 := by
  have h0 : ¬ (40 < (oneB rules nm ev l).rules.length ∨ 20 < (oneB rules nm ev l).zones.length ∨ 20 < (oneB rules nm ev l).links.length) := by
    show ¬ (40 < rules.length ∨ 20 < 1 ∨ 20 < 0)
    omega
  have hz : firstE (chkZ (oneB rules nm ev l)) (List.range (oneB rules nm ev l).zones.length) = 0 := by
    refine (firstE_zero _ _).2 fun i hi => ?_
    have hi : i < 1 := List.mem_range.1 hi
    obtain rfl : i = 0 := by omega
    show zoneChk rules [] ⟨nm, ev, l⟩ = 0
    unfold zoneChk
    rw [if_neg (by rw [hn]; simp), if_neg (by simp), if_neg hl, if_neg (show ¬ 700 < l.length by omega)]
    exact (firstE_zero _ _).2 fun k hk => he k (List.mem_range.1 hk)
  rw [bkChk_l _ h0 ((firstE_zero _ _).2 ho) hz]
  rfl
theorem oneB_rsv {rules : List Ru} {nm : ByteArray} {ev : Value} {l : List Er} (h : bkChk (oneB rules nm ev l) = 0) : rsv (oneB rules nm ev l) nm = (some ⟨nm, ev, l⟩, 0) :=
  rsv_zone h (z := ⟨nm, ev, l⟩) (List.mem_singleton.2 rfl)
theorem which_one {x : Er} (t : Int) : whichF [x] t = 0 := rfl
theorem eraChk_un {rules : List Ru} {x : Er} (h : EraOk rules x) (hu : x.un = 0) : eraChk rules [x] 0 = 0 := by
  unfold eraChk
  dsimp only
  have e : eraAt [x] 0 = x := rfl
  rw [e, if_neg (by have := h.o1; have := h.o2; have := h.s1; have := h.s2; omega), if_neg (fun g => g.1 (h.sr g.2)), if_neg ?_, if_neg (fun g => g h.ab), if_pos (show 0 + 1 = [x].length from rfl), if_neg (fun g => g hu)]
  rintro ⟨g1, g2⟩
  obtain ⟨r, hr, e⟩ := h.has g1
  rw [List.any_eq_false] at g2
  exact g2 r hr (decide_eq_true e)
/-- an era by itself -/
def alone (x : Er) : Er := ⟨x.off, x.ru, x.sv, x.fm, 0⟩
theorem alone_ok {rules : List Ru} {x : Er} (h : EraOk rules x) : EraOk rules (alone x) := ⟨h.o1, h.o2, h.s1, h.s2, h.sr, h.has, h.ab⟩
theorem alone_ty (rules : List Ru) (x : Er) (t : Int) : tdTy (tdR rules (alone x)) t = tdTy (tdR rules x) t := by
  unfold tdTy nmT svT tdR alone
  dsimp only
  by_cases h : x.ru.data.toList = []
  · rw [if_pos h, if_pos h]
  · rw [if_neg h, if_neg h]
theorem bk_ruChk {b : Bk} (h : bkChk b = 0) : ∀ r ∈ b.rules, ruChk r = 0 := by
  unfold bkChk at h
  split at h
  · cases h
  · split at h
    · exact absurd h (by assumption)
    · rename_i h2
      exact fun r hr => (firstE_zero ruChk b.rules).1 (Classical.not_not.1 h2) r hr
def zB : ByteArray := ⟨#[90]⟩
/-- a zone with one of another zone's eras says what that says where it is -/
theorem st_alone {b : Bk} {nm : ByteArray} {z : Zo} {k : Nat} {t : Int} (ev : Value) (hr : rsv b nm = (some z, 0)) (hk : k < z.eras.length) (hw : whichF z.eras t = k) : stR b nm t = stR (oneB b.rules zB ev [alone (eraAt z.eras k)]) zB t := by
  obtain ⟨-, hz, hb⟩ := rsv_zero hr
  have ho := bk_eras hb hz
  have hx := ho.ok _ (List.getElem_mem hk)
  rw [← eraAt_in _ _ hk] at hx
  have hc : bkChk (oneB b.rules zB ev [alone (eraAt z.eras k)]) = 0 := by
    refine oneB_chk (bk_rules hb).1 (bk_ruChk hb) (by decide) (by simp) (by simp) fun i hi => ?_
    have hi : i < 1 := hi
    obtain rfl : i = 0 := by omega
    exact eraChk_un (alone_ok hx) rfl
  rw [stR_some hr, stR_some (oneB_rsv hc), hw]
  dsimp only
  rw [which_one]
  have e1 : eraAt [alone (eraAt z.eras k)] 0 = alone (eraAt z.eras k) := rfl
  have e2 : tdE (oneB b.rules zB ev [alone (eraAt z.eras k)]).rules (alone (eraAt z.eras k)) = tdE b.rules (eraAt z.eras k) := rfl
  have e3 : stF (oneB b.rules zB ev [alone (eraAt z.eras k)]).rules [alone (eraAt z.eras k)] t = stF b.rules z.eras t := by
    unfold stF tdA
    rw [which_one, e1, hw]
    exact alone_ty _ _ _
  rw [e1, e2, e3]
theorem which_ahead {rules : List Ru} {l : List Er} (h : ErasOk rules l) {k : Nat} (hk : k + 1 < l.length) : whichF l ((eraAt l k).un - 1) = k ∧ whichF l (eraAt l k).un = k + 1 := by
  constructor
  · refine which_of h (by omega) (fun i hi => ?_) fun _ => by omega
    have := eras_mono h k i hi hk
    omega
  · refine which_of h hk (fun i hi => ?_) fun g => eras_mono h (k + 1) k (by omega) g
    by_cases e : i = k
    · subst e; exact Int.le_refl _
    · exact Int.le_of_lt (eras_mono h k i (by omega) hk)

/-! StateRules -/
def xyB : ByteArray := ⟨#[88, 47, 89]⟩
def svF (l : List Tn) (t : Int) : Int := l.foldl (fun a u => if u.a ≤ t then u.s else a) 0
theorem svF_take {l : List Tn} {t : Int} : ∀ (n : Nat), n ≤ l.length → (∀ i, i < n → tnA l i ≤ t) → (l.take n).foldl (fun a u => if u.a ≤ t then u.s else a) 0 = (if n = 0 then 0 else (l[n - 1]?.map (·.s)).getD 0)
  | 0, _, _ => rfl
  | n + 1, hn, h => by
    have hlt : n < l.length := by omega
    have := h n (by omega)
    rw [tnA_at l n hlt] at this
    rw [List.take_succ_eq_append_getElem hlt, List.foldl_append]
    simp only [List.foldl_cons, List.foldl_nil, if_pos this]
    simp [hlt]
theorem foldl_late {l : List Tn} {t : Int} (h : ∀ u ∈ l, t < u.a) : ∀ (a : Int), l.foldl (fun a u => if u.a ≤ t then u.s else a) a = a := by
  induction l with
  | nil => intro a; rfl
  | cons u r ih =>
    intro a
    rw [List.foldl_cons, if_neg (by have := h u (List.mem_cons_self ..); omega)]
    exact ih (fun v hv => h v (List.mem_cons_of_mem _ hv)) a
theorem svF_sv {x : Td} (h : Rises x.ts) (h0 : x.er.sv = 0) (t : Int) : svF x.ts t = (svT x t).1 := by
  obtain ⟨c1, c2, c3⟩ := cntT_spec h t
  have e : svF x.ts t = (x.ts.take (cntT x.ts t) ++ x.ts.drop (cntT x.ts t)).foldl (fun a u => if u.a ≤ t then u.s else a) 0 := by rw [List.take_append_drop]; rfl
  rw [e, List.foldl_append, svF_take _ c1 c2, foldl_late]
  · by_cases hc : cntT x.ts t = 0
    · rw [if_pos hc, svT_0 hc, h0]
    · obtain ⟨hlt, es⟩ := svT_s hc
      rw [if_neg hc, es, List.getElem?_eq_getElem hlt]
      rfl
  · intro u hu
    obtain ⟨i, hi, rfl⟩ := List.getElem_of_mem hu
    rw [List.getElem_drop]
    have hlt : cntT x.ts t + i < x.ts.length := by rw [List.length_drop] at hi; omega
    have := c3 (cntT x.ts t + i) (by omega) hlt
    rwa [tnA_at _ _ hlt] at this
theorem split_xy : splitF [88, 47, 89] = ([88], [89], [47], true) := by kernel_rfl
theorem abbr_xy {s : Int} {l : ByteArray} (h0 : 0 ≤ s) (h1 : s ≤ 10800) (hl : letterOk l.data.toList = true) : abbrF xyB.data.toList s l.data.toList = (if s = 0 then [88] else [89], 0) := by
  have e0 : xyB.data.toList = [88, 47, 89] := rfl
  have e2 : abbrN [88, 47, 89] s l.data.toList = if s = 0 then [88] else [89] := by unfold abbrN; rw [split_xy]; rfl
  rw [e0]
  unfold abbrF
  rw [e2, split_xy, hl, if_neg (by simp), if_neg (by omega)]
  by_cases hs : s = 0
  · rw [if_pos hs, if_neg (by decide), if_neg (by decide)]
  · rw [if_neg hs, if_neg (by decide), if_neg (by decide)]
theorem okRu_letter {r : Ru} (h : OkRu r) : letterOk r.lt.data.toList = true := by
  unfold letterOk
  rcases h.lt with e | e
  · rw [Lib.toList_data] at e
    rw [decide_eq_true e]; rfl
  · rw [txt_data', e]; simp
theorem mkR_has {rules : List Ru} {nm : ByteArray} {off : Int} (h : (mkR rules nm off).1 = 0) : ∃ r ∈ rules, r.nm = nm := by
  by_cases g : (rules.any fun r => decide (r.nm = nm)) = false
  · rw [mkR_6 g] at h; cases h
  · have : (rules.any fun r => decide (r.nm = nm)) = true := by simpa using g
    obtain ⟨r, hr, e⟩ := List.any_eq_true.1 this
    exact ⟨r, hr, of_decide_eq_true e⟩
/-- StateRules -/
theorem rules_law {b : Bk} {nm : ByteArray} {off t : Int} (ev : Value) (h : (ofR b nm off).1 = 0) (ht : stampE t = 0) :
    stR (oneB b.rules zB ev [⟨off, nm, 0, xyB, 0⟩]) zB t = (0, ⟨off + svF (ofR b nm off).2 t, decide (0 < svF (ofR b nm off).2 t), if 0 < svF (ofR b nm off).2 t then ⟨#[89]⟩ else ⟨#[88]⟩⟩) := by
  obtain ⟨hb, e⟩ := ofR_ok h
  have hoff : ¬ (off < -64800 ∨ 64800 < off) := fun g => by rw [ofR_1 hb g] at h; cases h
  rw [e] at h ⊢
  obtain ⟨r0, hr0, en⟩ := mkR_has h
  have hro := (bk_rules hb).2
  have hnm : nm.data.toList ≠ [] := fun g => by
    have h1 := (hro r0 hr0).nm
    rw [en] at h1
    unfold nameB allB at h1
    rw [g] at h1
    simp at h1
  obtain ⟨x, ex⟩ : ∃ x : Er, (⟨off, nm, 0, xyB, 0⟩ : Er) = x := ⟨_, rfl⟩
  have x1 : x.off = off := by rw [← ex]
  have x2 : x.ru = nm := by rw [← ex]
  have x3 : x.sv = 0 := by rw [← ex]
  have x4 : x.fm = xyB := by rw [← ex]
  have x5 : x.un = 0 := by rw [← ex]
  rw [ex]
  have hx : EraOk b.rules x := by
    refine ⟨by omega, by omega, by omega, by omega, fun _ => x3, fun _ => ⟨r0, hr0, by rw [x2]; exact en⟩, ?_⟩
    unfold abbrsChk
    rw [if_neg (by rw [x2]; exact hnm)]
    have h1 : firstE (fun r : Ru => if r.nm = x.ru then abE x.fm r.sv r.lt else 0) b.rules = 0 := by
      refine (firstE_zero _ _).2 fun r hr => ?_
      split
      · have hr2 := hro r hr
        unfold abE
        rw [x4, abbr_xy hr2.s1 hr2.s2 (okRu_letter hr2)]
      · rfl
    rw [if_pos h1]
    unfold abE
    rw [x4, abbr_xy (Int.le_refl _) (by decide) (by decide)]
  have hc : bkChk (oneB b.rules zB ev [x]) = 0 := by
    refine oneB_chk (bk_rules hb).1 (bk_ruChk hb) (by decide) (by simp) (by simp) fun i hi => ?_
    have hi : i < 1 := hi
    obtain rfl : i = 0 := by omega
    exact eraChk_un hx x5
  rw [stR_some (oneB_rsv hc), if_neg (fun g => g ht), which_one]
  have e1 : eraAt [x] 0 = x := rfl
  have e0 : (oneB b.rules zB ev [x]).rules = b.rules := rfl
  have e4 : tdE b.rules x = 0 := by unfold tdE; rw [if_neg (by rw [x2]; exact hnm), x1, x2]; exact h
  have e5 : tdR b.rules x = ⟨x, (mkR b.rules nm off).2, firstLt (mkR b.rules nm off).2⟩ := by unfold tdR; rw [if_neg (by rw [x2]; exact hnm), x1, x2]
  rw [e0, e1, e4, if_neg (by simp)]
  have e6 : stF b.rules [x] t = tdTy (tdR b.rules x) t := rfl
  have hrs := tdR_rises e4
  have e7 : svF (mkR b.rules nm off).2 t = (svT (tdR b.rules x) t).1 := by
    rw [← svF_sv hrs (by rw [tdR_er]; exact x3) t, e5]
  obtain ⟨s1, s2, s3, -⟩ := sv_ok hx t
  have hlet := (abbrF_ok s1).2.2.1
  rw [e6, e7]
  unfold tdTy nmT
  rw [tdR_er, x1, x4, abbr_xy s2 s3 hlet]
  obtain ⟨s, es⟩ : ∃ s, (svT (tdR b.rules x) t).1 = s := ⟨_, rfl⟩
  rw [es] at s2 ⊢
  by_cases hs : s = 0
  · rw [if_pos hs, if_neg (by omega)]; rfl
  · rw [if_neg hs, if_pos (by omega)]; rfl
end Go.Proofs.YthggojpdcgcmaaaDoor
namespace Go.Proofs.YthggojpdcgcmaaaDoor
open Go.RowKit
set_option linter.unusedVariables false
set_option linter.unusedSimpArgs false

set_option maxHeartbeats 4000000 in
theorem Search_any (g : Nat) (cb : Array Value) (n : Nat) (p : Nat → Bool) (w : World) (eg : ∀ args w, (callFunc g args).run Tryd.prog w = .ok (.enter g args) w) (hsz : n < 4611686018427387904)
    (hf : ∀ (W : World) (i : Nat), Below w.heap.size w W → i < n → Calls Tryd.prog g (#[.int .i64 i] ++ cb) W fun e w' => e = .returned (.bool (p i)) ∧ Below W.heap.size W w')
    (hmono : ∀ a b, a ≤ b → b < n → p a = true → p b = true) :
    Calls Tryd.prog 23 #[.int .i64 n, .func (.func g) #[] cb] w fun e w' => e = .returned (.int .i64 (cntF p n : Nat)) ∧ Below w.heap.size w w' := by
  have HF := Lib.hid hf
  have M := Lib.hid hmono
  clear hf hmono
  obtain ⟨cnt, hcnt⟩ : ∃ cnt, cntF p n = cnt := ⟨_, rfl⟩
  rw [hcnt]
  have CN := Lib.hid hcnt
  clear hcnt
  go_enter Tryd.func23, Tryd.ntmps23
  go_wp2
  go_loopg [5, 6] n (fun kx s5 s6 wr => ∃ (lo hi : Nat), s5 = .int .i64 lo ∧ s6 = .int .i64 hi ∧ lo ≤ hi ∧ hi ≤ n ∧ hi - lo ≤ kx ∧ Below w.heap.size w wr ∧
    Hid ((∀ t, t < lo → p t = false) ∧ (∀ t, hi ≤ t → t < n → p t = true)))
  case atStart => exact ⟨0, n, rfl, rfl, Nat.zero_le _, Nat.le_refl _, by omega, Below.refl _ _, (⟨fun t ht => absurd ht (Nat.not_lt_zero _), fun t h1 h2 => by omega⟩ : (∀ t, t < 0 → p t = false) ∧ (∀ t, n ≤ t → t < n → p t = true))⟩
  case round =>
    obtain ⟨lo, hi, rfl, rfl, hlh, hin, hg, hbel, I⟩ := hrel
    by_cases hlt : lo < hi
    · have hc := HF.out wr ((lo + hi) / 2) hbel (by omega)
      rw [show (((lo + hi) / 2 : Nat) : Int) = ((lo : Int) + (hi : Int)) / 2 by omega] at hc
      have HB := Lib.hid hbel
      clear hbel
      cases hp : p ((lo + hi) / 2) <;> rw [hp] at hc
      · have HP := Lib.hid hp
        clear hp
        go_wp2_with (go_at_fn g; refine hc.mono ?_; rintro e w' ⟨rfl, hb2⟩)
        go_roundg (hi - ((lo + hi) / 2 + 1))
        case measure => omega
        case rel =>
          have I2 : Hid ((∀ t, t < (lo + hi) / 2 + 1 → p t = false) ∧ (∀ t, hi ≤ t → t < n → p t = true)) := ⟨fun t ht => (by
            cases h : p t with
            | false => rfl
            | true => have := M.out t ((lo + hi) / 2) (by omega) (by omega) h; rw [HP.out] at this; cases this), I.out.2⟩
          exact ⟨(lo + hi) / 2 + 1, hi, by rw [show ((lo : Int) + (hi : Int)) / 2 + 1 = (((lo + hi) / 2 + 1 : Nat) : Int) by omega], rfl, by omega, hin, Nat.le_refl _, HB.out.trans (hb2.mono HB.out.size), I2⟩
      · have HP := Lib.hid hp
        clear hp
        go_wp2_with (go_at_fn g; refine hc.mono ?_; rintro e w' ⟨rfl, hb2⟩)
        go_roundg ((lo + hi) / 2 - lo)
        case measure => omega
        case rel =>
          have I2 : Hid ((∀ t, t < lo → p t = false) ∧ (∀ t, (lo + hi) / 2 ≤ t → t < n → p t = true)) := ⟨I.out.1, fun t ht htn => M.out ((lo + hi) / 2) t ht htn HP.out⟩
          exact ⟨lo, (lo + hi) / 2, rfl, by rw [show ((lo : Int) + (hi : Int)) / 2 = (((lo + hi) / 2 : Nat) : Int) by omega], by omega, by omega, Nat.le_refl _, HB.out.trans (hb2.mono HB.out.size), I2⟩
    · obtain rfl : hi = lo := by omega
      have ecnt : cnt = hi := by rw [← CN.out]; exact cntF_boundary p n hi hin I.out.1 I.out.2
      subst ecnt
      go_wp2
      go_ret
      exact ⟨rfl, hbel⟩

end Go.Proofs.YthggojpdcgcmaaaDoor
namespace Go.Proofs.YthggojpdcgcmaaaDoor
open Go.RowKit Go.Joins
open Classical
set_option linter.unusedVariables false
set_option linter.unusedSimpArgs false

def idxF {α : Type} (p : α → Bool) (l : List α) : Int := if l.any p = true then (l.findIdx p : Nat) else -1
theorem idxF_no {α : Type} (p : α → Bool) (l : List α) (h : l.any p = false) : idxF p l = -1 := by unfold idxF; rw [if_neg (by rw [h]; simp)]
theorem idxF_hit {α : Type} (p : α → Bool) (l : List α) (k : Nat) (hk : k < l.length) (h : (l.take k).any p = false) (hp : p l[k] = true) : idxF p l = (k : Nat) := by
  unfold idxF
  rw [if_pos (any_hit p l k hk hp)]
  congr 1
  rw [List.findIdx_eq hk]
  refine ⟨hp, fun j hj => ?_⟩
  rw [List.any_eq_false] at h
  have := h l[j] (List.mem_take_iff_getElem.2 ⟨j, by omega, rfl⟩)
  simpa using this

set_option maxRecDepth 100000 in
set_option maxHeartbeats 4000000 in
theorem idxTn_any (l : List Tn) (v : Value) (g : Nat) (cb : Array Value) (p : Tn → Bool) (w : World) (eg : ∀ args w, (callFunc g args).run Tryd.prog w = .ok (.enter g args) w) (hv : RowsAt tnC 3 w.heap.size w v l)
    (hp : ∀ W, Below w.heap.size w W → ∀ x ∈ l, Calls Tryd.prog g (#[.agg (tnC x).toArray] ++ cb) W fun e w' => e = .returned (.bool (p x)) ∧ Below W.heap.size W w') :
    Calls Tryd.prog 26 #[v, .func (.func g) #[] cb] w fun e w' => e = .returned (.int .i64 (idxF p l)) ∧ Below w.heap.size w w' := by
  have HP := Lib.hid hp
  have HHIT := Lib.hid (fun k hk h1 h2 => idxF_hit p l k hk h1 h2)
  have HNO := Lib.hid (idxF_no p l)
  obtain ⟨R, eR⟩ : ∃ R, idxF p l = R := ⟨_, rfl⟩
  rw [eR] at HHIT HNO ⊢
  clear eR
  obtain ⟨pp, cap, rfl, hlen, hrow⟩ := hv
  have HRow := Lib.hid hrow
  clear hp hrow
  go_enter Tryd.func26, Tryd.ntmps26
  go_wp2_with fail
  go_loopw [8] (fun i wr => ∃ k : Nat, k ≤ l.length ∧ i = .int .i64 k ∧ Hid (Below w.heap.size w wr) ∧ Hid ((l.take k).any p = false)) (fun i _ => l.length - (intOf i).toNat)
  case atStart => exact ⟨0, Nat.zero_le _, rfl, Lib.hid (Below.refl _ _), Lib.hid rfl⟩
  case round =>
    obtain ⟨k, hk, rfl, HB, HA⟩ := hrel
    have hzr := HB.out.size
    by_cases hlt : k < l.length
    · obtain ⟨b, o, rfl, hbl, hcs⟩ := HRow.out (List.ne_nil_of_length_pos (by omega))
      have hck := hcs k hlt
      have hc := HP.out wr HB.out l[k] (List.getElem_mem hlt)
      have HST := Lib.hid (fun h => any_step p l k hlt HA.out h)
      have HHT := Lib.hid (fun h => HHIT.out k hlt HA.out h)
      obtain ⟨q, eq⟩ : ∃ q, l[k] = q := ⟨_, rfl⟩
      rw [eq] at hck hc HST HHT
      clear eq hcs
      obtain ⟨pv, epv⟩ : ∃ pv, p q = pv := ⟨_, rfl⟩
      rw [epv] at hc HST HHT
      clear epv
      obtain ⟨a, s, lt⟩ := q
      have up : ∀ j u, w.cell? ⟨b, o + k * 3 + j, none⟩ = some u → wr.cell? ⟨b, o + k * 3 + j, none⟩ = some u := fun j u h => (HB.out.cell (p := ⟨b, o + k * 3 + j, none⟩) hbl).trans h
      have z0 := up 0 _ (hck 0 _ rfl)
      have z1 := up 1 _ (hck 1 _ rfl)
      have z2 := up 2 _ (hck 2 _ rfl)
      rw [Nat.add_zero] at z0
      have HC := Lib.hid hc
      clear up hck hc
      cases pv with
      | true =>
        have HT := Lib.hid (HHT.out (by first | rfl | trivial))
        go_wp2_with (go_at_fn g; refine HC.out.mono ?_; rintro e w' ⟨rfl, hb⟩; have HB2 := Lib.hid (HB.out.trans (hb.mono HB.out.size)); clear hb)
        go_ret
        exact ⟨ret_E HT.out.symm, HB2.out⟩
      | false =>
        go_wp2_with (go_at_fn g; refine HC.out.mono ?_; rintro e w' ⟨rfl, hb⟩; have HB2 := Lib.hid (HB.out.trans (hb.mono HB.out.size)); clear hb)
        go_roundw
        case rel => exact ⟨k + 1, by omega, by go_num, HB2, Lib.hid (HST.out (by first | rfl | trivial))⟩
        case measure => simp [intOf]; omega
    · have hkl : ¬ (k : Int) < (l.length : Int) := by omega
      have HT : Hid (R = -1) := by
        show _ = _
        have := HA.out
        rw [List.take_of_length_le (by omega)] at this
        exact HNO.out this
      go_wp2_with fail
      go_ret
      exact ⟨ret_E HT.out.symm, HB.out⟩

theorem retI {a b : Int} (h : a = b) : Ending.returned (.int .i64 a) = .returned (.int .i64 b) := by rw [h]
set_option maxHeartbeats 1000000 in
theorem Eras1_any (x : Tn) (W : World) : Calls Tryd.prog 27 (#[.agg (tnC x).toArray] ++ #[]) W fun e w' => e = .returned (.bool (decide (x.s = 0))) ∧ Below W.heap.size W w' := by
  obtain ⟨a, s, lt⟩ := x
  show Calls _ _ #[.agg #[.int .i64 a, .int .i64 s, .string lt]] W _
  go_enter Tryd.func27, Tryd.ntmps27
  go_wp2
  go_ret
  exact ⟨rfl, (Below.refl _ _).alloc (Nat.le_refl _) _⟩
/-- the first turn that saves nothing -/
theorem IdxTn_any (l : List Tn) (v : Value) (w : World) (hv : RowsAt tnC 3 w.heap.size w v l) :
    Calls Tryd.prog 26 #[v, .func (.func 27) #[] #[]] w fun e w' => e = .returned (.int .i64 (idxF (fun u : Tn => decide (u.s = 0)) l)) ∧ Below w.heap.size w w' :=
  idxTn_any l v 27 #[] _ w (enters_of Tryd.func27 (by kernel_rfl) rfl) hv fun W _ x _ => Eras1_any x W

set_option maxHeartbeats 1000000 in
theorem Which1_any (bl bt b o n cap : Nat) (x y : Int) (i : Nat) (W : World) (hi : i < n)
    (hl : W.cell? ⟨bl, 0, none⟩ = some (.slice (some ⟨b, o, none⟩) n cap)) (hx : W.cell? ⟨bt, 0, none⟩ = some (.int .i64 x)) (hc : W.cell? ⟨b, o + i * 5 + 4, none⟩ = some (.int .i64 y)) :
    Calls Tryd.prog 24 (#[.int .i64 i] ++ #[.pointer (some ⟨bl, 0, none⟩), .pointer (some ⟨bt, 0, none⟩)]) W fun e w' => e = .returned (.bool (decide (x < y))) ∧ Below W.heap.size W w' := by
  have hiz : (i : Int) < (n : Int) := by omega
  go_enter Tryd.func24, Tryd.ntmps24
  go_wp2
  go_quiet (fail)
  go_wp2
  go_ret
  exact ⟨rfl, below_drewN' (Below.refl _ _) _⟩
set_option maxHeartbeats 2000000 in
theorem Which_any {rules : List Ru} (l : List Er) (v : Value) (t : Int) (B : Nat) (w : World) (hv : RowsAt (fun x : Er => (erCells x).toList) 5 B w v l) (hB : B ≤ w.heap.size) (ho : ErasOk rules l) :
    Calls Tryd.prog 13 #[v, .int .i64 t] w fun e w' => e = .returned (.int .i64 (whichF l t : Nat)) ∧ Below w.heap.size w w' := by
  obtain ⟨p, cap, rfl, ⟨hl, hlc⟩, hat⟩ := hv
  obtain ⟨b, o, rfl, hbl, hcs⟩ := hat ho.ne
  have hp : 0 < l.length := List.length_pos_iff.2 ho.ne
  obtain ⟨W0, hW0⟩ : ∃ W0, (w.alloc (.cells #[.slice (some ⟨b, o, none⟩) l.length cap] 33)).alloc (.cells #[.int .i64 t] 3) = W0 := ⟨_, rfl⟩
  have hB0 : Below w.heap.size w W0 := by rw [← hW0]; exact ((Below.refl _ w).alloc (Nat.le_refl _) _).alloc (by simp) _
  have hS0 : W0.heap.size = w.heap.size + 2 := by rw [← hW0]; simp
  have q0 : W0.cell? ⟨w.heap.size, 0, none⟩ = some (.slice (some ⟨b, o, none⟩) l.length cap) := by rw [← hW0]; simp [go_sem]
  have qx : W0.cell? ⟨w.heap.size + 1, 0, none⟩ = some (.int .i64 t) := by rw [← hW0]; simp [go_sem]
  have eg : ∀ args w, (callFunc 24 args).run Tryd.prog w = .ok (.enter 24 args) w := enters_of Tryd.func24 (by kernel_rfl) rfl
  have hS := Search_any 24 #[.pointer (some ⟨w.heap.size, 0, none⟩), .pointer (some ⟨w.heap.size + 1, 0, none⟩)] (l.length - 1) (fun i => decide (t < (eraAt l i).un)) W0 eg (by omega)
    (fun W i hbW hi => Which1_any w.heap.size (w.heap.size + 1) b o l.length cap t (eraAt l i).un i W (by omega) ((hbW.cell (by show w.heap.size < _; omega)).trans q0) ((hbW.cell (by show w.heap.size + 1 < _; omega)).trans qx)
      ((hbW.cell (by show b < _; omega)).trans ((hB0.cell (by show b < _; omega)).trans (by rw [eraAt_in l i (by omega)]; exact hcs i (by omega) 4 _ rfl))))
    (which_mono ho t)
  have hcd : cntF (fun i => decide (t < (eraAt l i).un)) (l.length - 1) = whichF l t := rfl
  rw [hcd] at hS
  have HS := Lib.hid hS
  have HW0 := Lib.hid hW0
  have HB0 := Lib.hid hB0
  have hcast : ((l.length - 1 : Nat) : Int) = (l.length : Int) - 1 := by omega
  rw [hcast] at HS
  have p1 : IntKind.i64.wrap ((l.length : Int) - 1) = (l.length : Int) - 1 := IntWalk.i64_in _ (by omega)
  obtain ⟨c, hc⟩ : ∃ c, whichF l t = c := ⟨_, rfl⟩
  rw [hc] at HS ⊢
  clear hS hW0 hB0 hat hcs eg hcd hcast hc
  go_enter Tryd.func13, Tryd.ntmps13
  go_wp2_with fail
  rw [HW0.out]
  refine HS.out.mono ?_
  rintro e w1 ⟨rfl, hb1⟩
  go_wp2
  go_ret
  exact ⟨rfl, HB0.out.trans (hb1.mono HB0.out.size)⟩
end Go.Proofs.YthggojpdcgcmaaaDoor
namespace Go.Proofs.YthggojpdcgcmaaaDoor
open Go.RowKit Go.Joins
open Classical
set_option linter.unusedVariables false
set_option linter.unusedSimpArgs false

abbrev tdCells (x : Td) (tv : Value) : Array Value := #[.int .i64 x.er.off, .string x.er.ru, .int .i64 x.er.sv, .string x.er.fm, .int .i64 x.er.un, tv, .string x.fst]
set_option maxHeartbeats 1000000 in
theorem TdAt1_any (bx bt b o n cap : Nat) (t y : Int) (i : Nat) (W : World) (hi : i < n)
    (hl : W.cell? ⟨bx, 5, none⟩ = some (.slice (some ⟨b, o, none⟩) n cap)) (hx : W.cell? ⟨bt, 0, none⟩ = some (.int .i64 t)) (hc : W.cell? ⟨b, o + i * 3, none⟩ = some (.int .i64 y)) :
    Calls Tryd.prog 28 (#[.int .i64 i] ++ #[.pointer (some ⟨bx, 0, none⟩), .pointer (some ⟨bt, 0, none⟩)]) W fun e w' => e = .returned (.bool (decide (t < y))) ∧ Below W.heap.size W w' := by
  have hiz : (i : Int) < (n : Int) := by omega
  go_enter Tryd.func28, Tryd.ntmps28
  go_wp2
  go_quiet (fail)
  go_wp2
  go_ret
  exact ⟨rfl, below_drewN' (Below.refl _ _) _⟩
theorem end_three {W : World} {rb : Nat} {a b c : Value} {T : TypeId} (h : W.heap[rb]? = some (.cells #[a, b, c] T (0, 0))) (x y z : Value) :
    ∃ W', ((W.setCell ⟨rb, 0, none⟩ x).setCell ⟨rb, 1, none⟩ y).setCell ⟨rb, 2, none⟩ z = W' ∧ W'.heap[rb]? = some (.cells #[x, y, z] T (0, 0)) ∧ ∀ B, B ≤ rb → Below B W W' := by
  refine ⟨_, rfl, ?_, fun B hB => (((Below.refl _ _).setCell hB _).setCell hB _).setCell hB _⟩
  simp [World.setCell, Array.getElem?_modify, h]
theorem ret_ty {a b : Ty} (h : a = b) : Ending.returned (tyV a) = .returned (tyV b) := by rw [h]

set_option maxRecDepth 100000 in
set_option maxHeartbeats 8000000 in
theorem TdAt_any (x : Td) (tv : Value) (t : Int) (w : World) (hr : RowsAt tnC 3 w.heap.size w tv x.ts) (hrise : Rises x.ts) (ho1 : -100000 ≤ x.er.off) (ho2 : x.er.off ≤ 100000) (hf : x.er.fm.size ≤ 140737488351232) (hl : (svT x t).2.size ≤ 140737488351232) (hs1 : 0 ≤ (svT x t).1) (hs2 : (svT x t).1 ≤ 10800) (hm : MaxLen w) (hlen : x.ts.length ≤ 100000) :
    Calls Tryd.prog 15 #[.agg (tdCells x tv), .int .i64 t] w fun e w' => e = .returned (tyV (tdTy x t)) ∧ Below w.heap.size w w' := by
  obtain ⟨p, cap, rfl, -, hat⟩ := hr
  obtain ⟨W0, hW0⟩ : ∃ W0, ((w.alloc (.cells (tdCells x (.slice p x.ts.length cap)) 59)).alloc (.cells #[.int .i64 t] 3)).alloc (.cells #[.int .i64 0, .bool false, .string ⟨#[]⟩] 29) = W0 := ⟨_, rfl⟩
  have hB0 : Below w.heap.size w W0 := by rw [← hW0]; exact (((Below.refl _ w).alloc (Nat.le_refl _) _).alloc (by simp) _).alloc (by simp; omega) _
  have hS0 : W0.heap.size = w.heap.size + 3 := by rw [← hW0]; simp
  have hx0 : W0.heap[w.heap.size]? = some (.cells (tdCells x (.slice p x.ts.length cap)) 59 (0, 0)) := by
    rw [← hW0, Below.heap_alloc _ _ _ (by simp; omega), Below.heap_alloc _ _ _ (by simp)]
    exact heap_alloc_new w _
  have hx1 : W0.heap[w.heap.size + 1]? = some (.cells #[.int .i64 t] 3 (0, 0)) := by
    rw [← hW0, Below.heap_alloc _ _ _ (by simp)]
    exact alloc_at _ _ _ (by simp)
  have hx2 : W0.heap[w.heap.size + 1 + 1]? = some (.cells #[.int .i64 0, .bool false, .string ⟨#[]⟩] 29 (0, 0)) := by
    rw [← hW0]
    exact alloc_at _ _ _ (by simp)
  have eg : ∀ args w, (callFunc 28 args).run Tryd.prog w = .ok (.enter 28 args) w := enters_of Tryd.func28 (by kernel_rfl) rfl
  have q5 : W0.cell? ⟨w.heap.size, 5, none⟩ = some (.slice p x.ts.length cap) := (cell_of_row W0 _ 5 _ _ _ hx0).trans rfl
  have qt : W0.cell? ⟨w.heap.size + 1, 0, none⟩ = some (.int .i64 t) := (cell_of_row W0 _ 0 _ _ _ hx1).trans rfl
  have hS : ∀ W1, Below W0.heap.size W0 W1 → Calls Tryd.prog 23 #[.int .i64 x.ts.length, .func (.func 28) #[] #[.pointer (some ⟨w.heap.size, 0, none⟩), .pointer (some ⟨w.heap.size + 1, 0, none⟩)]] W1 fun e w' => e = .returned (.int .i64 (cntT x.ts t : Nat)) ∧ Below W1.heap.size W1 w' := by
    intro W1 hb1
    refine Search_any 28 #[.pointer (some ⟨w.heap.size, 0, none⟩), .pointer (some ⟨w.heap.size + 1, 0, none⟩)] x.ts.length (fun i => decide (t < tnA x.ts i)) W1 eg (by omega) (fun W i hbW hi => ?_) (cntT_mono hrise t)
    obtain ⟨b, o, e, hbl, hcs⟩ := hat (List.ne_nil_of_length_pos (by omega))
    have hbW2 := hb1.trans (hbW.mono hb1.size)
    refine TdAt1_any w.heap.size (w.heap.size + 1) b o x.ts.length cap t (tnA x.ts i) i W hi ?_ ((hbW2.cell (by show w.heap.size + 1 < _; omega)).trans qt) ?_
    · rw [← e]; exact (hbW2.cell (by show w.heap.size < _; omega)).trans q5
    · rw [tnA_at _ i hi]
      exact (hbW2.cell (by show b < _; omega)).trans ((hB0.cell (by exact hbl)).trans (hcs i hi 0 _ rfl))
  have HS := Lib.hid hS
  have HW0 := Lib.hid hW0
  have HB0 := Lib.hid hB0
  have HX0 := Lib.hid hx0
  have HX2 := Lib.hid hx2
  have hle := cntT_le x.ts t
  have HAB : Hid (∀ W, Below w.heap.size w W → Calls Tryd.prog 29 #[.string x.er.fm, .int .i64 (svT x t).1, .string (svT x t).2] W fun e w' => e = .returned (.tuple #[.string (nmT x t), .int .i64 (abbrF x.er.fm.data.toList (svT x t).1 (svT x t).2.data.toList).2]) ∧ Below W.heap.size W w') := by
    show ∀ W, _
    intro W hb
    exact Abbr_any x.er.fm.data.toList (svT x t).2.data.toList (svT x t).1 W (by rw [← Lib.size_eq]; omega) (by rw [← Lib.size_eq]; omega) (hm.below hb)
  have HTY : Hid (∀ s n, s = (svT x t).1 → n = nmT x t → (⟨x.er.off + s, decide (0 < s), n⟩ : Ty) = tdTy x t) := by
    show ∀ s n, _
    rintro s n rfl rfl
    rfl
  have H0 := Lib.hid (fun h => svT_0 (x := x) (t := t) h)
  have H1 := Lib.hid (fun h => svT_s (x := x) (t := t) h)
  obtain ⟨c, hc⟩ : ∃ c, cntT x.ts t = c := ⟨_, rfl⟩
  rw [hc] at HS hle
  have HC := Lib.hid hc
  obtain ⟨s, es⟩ : ∃ s, (svT x t).1 = s := ⟨_, rfl⟩
  obtain ⟨l, el⟩ : ∃ l, (svT x t).2 = l := ⟨_, rfl⟩
  obtain ⟨nm, en⟩ : ∃ nm, nmT x t = nm := ⟨_, rfl⟩
  obtain ⟨T, eT⟩ : ∃ T, tdTy x t = T := ⟨_, rfl⟩
  obtain ⟨E, eE⟩ : ∃ E, (abbrF x.er.fm.data.toList (svT x t).1 (svT x t).2.data.toList).2 = E := ⟨_, rfl⟩
  rw [eE] at HAB
  rw [es, el, en] at HAB
  rw [es, en, eT] at HTY
  rw [es] at hs1 hs2
  rw [eT]
  have hSL : (svT x t) = (s, l) := by rw [← es, ← el]
  have HSL := Lib.hid hSL
  have HAT := Lib.hid hat
  clear hat hS hW0 hB0 hx0 hx2 hx1 eg q5 qt hc es el en eT eE hSL hl hrise hf
  obtain ⟨⟨off, ru, sv, fm, un⟩, ts, fst⟩ := x
  simp only at ho1 ho2 hlen hle HS HX0 HAB HTY H0 H1 HC HAT HW0 HSL ⊢
  have z0 : W0.cell? ⟨w.heap.size, 0, none⟩ = some (.int .i64 off) := (cell_of_row W0 _ 0 _ _ _ HX0.out).trans rfl
  have z2 : W0.cell? ⟨w.heap.size, 2, none⟩ = some (.int .i64 sv) := (cell_of_row W0 _ 2 _ _ _ HX0.out).trans rfl
  have z3 : W0.cell? ⟨w.heap.size, 3, none⟩ = some (.string fm) := (cell_of_row W0 _ 3 _ _ _ HX0.out).trans rfl
  have z5 : W0.cell? ⟨w.heap.size, 5, none⟩ = some (.slice p ts.length cap) := (cell_of_row W0 _ 5 _ _ _ HX0.out).trans rfl
  have z6 : W0.cell? ⟨w.heap.size, 6, none⟩ = some (.string fst) := (cell_of_row W0 _ 6 _ _ _ HX0.out).trans rfl
  go_enter Tryd.func15, Tryd.ntmps15
  go_upto_region 1 with fail
  rw [HW0.out]
  go_quiet (fail)
  go_wp2_with fail
  refine (HS.out _ (below_drewN' (Below.refl _ _) _)).mono ?_
  rintro e w1 ⟨rfl, hb1⟩
  have hb1' : Below W0.heap.size W0 w1 := (below_drewN' (Below.refl W0.heap.size W0) nq).trans (hb1.mono (Nat.le_refl _))
  have HB1 := Lib.hid (HB0.out.trans (hb1'.mono HB0.out.size))
  have hx0 := (hb1'.block w.heap.size (by omega)).trans HX0.out
  have hx2 := (hb1'.block (w.heap.size + 1 + 1) (by omega)).trans HX2.out
  have HY2 := Lib.hid hx2
  have y0 : w1.cell? ⟨w.heap.size, 0, none⟩ = some (.int .i64 off) := (cell_of_row w1 _ 0 _ _ _ hx0).trans rfl
  have y3 : w1.cell? ⟨w.heap.size, 3, none⟩ = some (.string fm) := (cell_of_row w1 _ 3 _ _ _ hx0).trans rfl
  have y5 : w1.cell? ⟨w.heap.size, 5, none⟩ = some (.slice p ts.length cap) := (cell_of_row w1 _ 5 _ _ _ hx0).trans rfl
  have HY0 := Lib.hid hx0
  have hs1z : w.heap.size + 2 < w1.heap.size := by have := hb1'.size; omega
  have p0 : IntKind.i64.wrap (off + s) = off + s := IntWalk.i64_in _ (by omega)
  clear hb1 hb1' hx0 hx2 z0 z2 z3 z5 z6 HS HX0 HX2
  have FIN : Hid (∀ (w2 : World), Below w1.heap.size w1 w2 → ∃ W9, ((w2.setCell ⟨w.heap.size + 1 + 1, 0, none⟩ (.int .i64 (off + s))).setCell ⟨w.heap.size + 1 + 1, 1, none⟩ (.bool (decide (0 < s)))).setCell ⟨w.heap.size + 1 + 1, 2, none⟩ (.string nm) = W9 ∧ W9.cell? ⟨w.heap.size + 1 + 1, 0, none⟩ = some (.int .i64 (off + s)) ∧ W9.cell? ⟨w.heap.size + 1 + 1, 1, none⟩ = some (.bool (decide (0 < s))) ∧ W9.cell? ⟨w.heap.size + 1 + 1, 2, none⟩ = some (.string nm) ∧ Below w.heap.size w W9) := by
    show ∀ w2, _
    intro w2 hb2
    obtain ⟨W9, e9, hh9, hb9⟩ := end_three ((hb2.block (w.heap.size + 1 + 1) (by omega)).trans HY2.out) (.int .i64 (off + s)) (.bool (decide (0 < s))) (.string nm)
    exact ⟨W9, e9, (cell_of_row W9 _ 0 _ _ _ hh9).trans rfl, (cell_of_row W9 _ 1 _ _ _ hh9).trans rfl, (cell_of_row W9 _ 2 _ _ _ hh9).trans rfl, (HB1.out.trans (hb2.mono HB1.out.size)).trans (hb9 _ (by omega))⟩
  have BOX : Hid (∀ (w2 : World), Below w1.heap.size w1 w2 → w2.cell? ⟨w.heap.size, 0, none⟩ = some (.int .i64 off) ∧ w2.cell? ⟨w.heap.size + 1 + 1, 0, none⟩ = some (.int .i64 0) ∧ w2.cell? ⟨w.heap.size + 1 + 1, 1, none⟩ = some (.bool false) ∧ w2.cell? ⟨w.heap.size + 1 + 1, 2, none⟩ = some (.string ⟨#[]⟩) ∧ (∀ o, w2.frozen? ⟨w.heap.size + 1 + 1, o, none⟩ = false)) := by
    show ∀ w2, _
    intro w2 hb2
    have h0 := (hb2.block w.heap.size (by omega)).trans HY0.out
    have h2 := (hb2.block (w.heap.size + 1 + 1) (by omega)).trans HY2.out
    exact ⟨(cell_of_row w2 _ 0 _ _ _ h0).trans rfl, (cell_of_row w2 _ 0 _ _ _ h2).trans rfl, (cell_of_row w2 _ 1 _ _ _ h2).trans rfl, (cell_of_row w2 _ 2 _ _ _ h2).trans rfl, fun o => by simp [World.frozen?, h2]⟩
  have HTT := Lib.hid (HTY.out s nm rfl rfl)
  cases c with
  | zero =>
    have hsl := (H0.out HC.out).symm.trans HSL.out
    injection hsl with e1 e2
    subst e1
    subst e2
    clear HAT H0 H1 HC HSL HTY
    go_wp2_with fail
    refine (HAB.out _ HB1.out).mono ?_
    rintro e w2 ⟨rfl, hb2⟩
    obtain ⟨g0, r0, r1, r2, rf⟩ := BOX.out w2 hb2
    have rf0 := rf 0
    have rf1 := rf 1
    have rf2 := rf 2
    have HF := Lib.hid (FIN.out w2 hb2)
    clear BOX FIN HAB rf y0 y3 y5
    go_wp2_with fail
    obtain ⟨W9, e9, v0, v1, v2, hb9⟩ := HF.out
    rw [e9]
    refine bodyPost_ret (v := .agg #[.int .i64 (off + sv), .bool (decide (0 < sv)), .string nm]) (by simp [results, Tryd.results15, go_sem, v0, v1, v2]) rfl ⟨?_, hb9⟩
    exact ret_ty HTT.out
  | succ c =>
    obtain ⟨hlt, hsl⟩ := H1.out (by rw [HC.out]; omega)
    have hci : cntT ts t - 1 = c := by rw [HC.out]; omega
    have hcl : c < ts.length := by omega
    have hsl2 : (ts[c].s, ts[c].lt) = (s, l) := by
      have h3 := hsl.symm.trans HSL.out
      simp only [hci] at h3
      exact h3
    injection hsl2 with e1 e2
    obtain ⟨b, o, rfl, hbl, hcs⟩ := HAT.out (List.ne_nil_of_length_pos (by omega))
    have k1 := (HB1.out.cell (p := ⟨b, o + c * 3 + 1, none⟩) hbl).trans (hcs c hcl 1 _ rfl)
    have k2 := (HB1.out.cell (p := ⟨b, o + c * 3 + 2, none⟩) hbl).trans (hcs c hcl 2 _ rfl)
    rw [e1] at k1
    rw [e2] at k2
    have p1 : IntKind.i64.wrap ((c : Int) + 1 - 1) = (c : Int) := by rw [show (c : Int) + 1 - 1 = c by omega]; exact IntWalk.i64_in _ (by omega)
    have p2 : (c : Int) < (ts.length : Int) := by omega
    clear hcs hsl e1 e2 hlt hci HAT H0 H1 HC HSL HTY
    rw [show ((c + 1 : Nat) : Int) = (c : Int) + 1 by omega]
    go_wp2_with fail
    go_quiet (fail)
    go_wp2_with fail
    refine (HAB.out _ (below_drewN' HB1.out _)).mono ?_
    rintro e w2 ⟨rfl, hb2⟩
    have hb2' : Below w1.heap.size w1 w2 := (below_drewN' (Below.refl w1.heap.size w1) _).trans (hb2.mono (Nat.le_refl _))
    obtain ⟨g0, r0, r1, r2, rf⟩ := BOX.out w2 hb2'
    have rf0 := rf 0
    have rf1 := rf 1
    have rf2 := rf 2
    have HF := Lib.hid (FIN.out w2 hb2')
    clear BOX FIN HAB rf y0 y3 y5 hb2 hb2'
    go_wp2_with fail
    obtain ⟨W9, e9, v0, v1, v2, hb9⟩ := HF.out
    rw [e9]
    refine bodyPost_ret (v := .agg #[.int .i64 (off + s), .bool (decide (0 < s)), .string nm]) (by simp [results, Tryd.results15, go_sem, v0, v1, v2]) rfl ⟨?_, hb9⟩
    exact ret_ty HTT.out
end Go.Proofs.YthggojpdcgcmaaaDoor
