/- Part of the proof. -/
import Derived.Test.YtomahddiclkepaaGreatDoorQw00
import Derived.Test.YtomahddiclkepaaGreatDoorQw08
import Derived.Test.YtomahddiclkepaaGreatDoorQw01
set_option maxHeartbeats 20000000
set_option maxRecDepth 1000000
set_option linter.unusedVariables false
set_option linter.unusedSimpArgs false
namespace Go.Proofs.YtomahddiclkepaaGreatDoor
open Go.RowKit Go.Joins Go.Maps
open Classical
structure Td where
 er : Er
 ts : List Tn
 fst : ByteArray
def dashB : ByteArray := ⟨#[45]⟩
def fstK (l : List Tn) : Nat := l.findIdx fun u => decide (u.s = 0)
def firstLt (l : List Tn) : ByteArray := (l[fstK l]?.map (·.lt)).getD dashB
def tdE (rules : List Ru) (x : Er) : Int := if x.ru.data.toList = [] then 0 else (mkR rules x.ru x.off).1
def tdR (rules : List Ru) (x : Er) : Td := if x.ru.data.toList = [] then ⟨x, [], dashB⟩ else ⟨x, (mkR rules x.ru x.off).2, firstLt (mkR rules x.ru x.off).2⟩
theorem tdR_er (rules : List Ru) (x : Er) : (tdR rules x).er = x := by unfold tdR; split <;> rfl
def tnA (l : List Tn) (i : Nat) : Int := (l[i]?.map (·.a)).getD 0
def cntT (l : List Tn) (t : Int) : Nat := cntF (fun i => decide (t < tnA l i)) l.length
def svT (x : Td) (t : Int) : Int × ByteArray := match x.ts[cntT x.ts t - 1]? with
 | some u => if cntT x.ts t = 0 then (x.er.sv, x.fst) else (u.s, u.lt)
 | none => (x.er.sv, x.fst)
def nmT (x : Td) (t : Int) : ByteArray := txt (abbrF x.er.fm.data.toList (svT x t).1 (svT x t).2.data.toList).1
def tdTy (x : Td) (t : Int) : Ty := ⟨x.er.off + (svT x t).1, decide (0 < (svT x t).1), nmT x t⟩
def whichF (l : List Er) (t : Int) : Nat := cntF (fun i => decide (t < (eraAt l i).un)) (l.length - 1)
def ty0 : Ty := ⟨0, false, ⟨#[]⟩⟩
def stR (b : Bk) (nm : ByteArray) (t : Int) : Int × Ty :=
 match (rsv b nm).1 with
 | none => ((rsv b nm).2, ty0)
 | some z => if stampE t ≠ 0 then (stampE t, ty0) else
  if tdE b.rules (eraAt z.eras (whichF z.eras t)) ≠ 0 then (tdE b.rules (eraAt z.eras (whichF z.eras t)), ty0) else (0, tdTy (tdR b.rules (eraAt z.eras (whichF z.eras t))) t)
theorem bnd_ex (p : Nat -> Bool) : ∀ (n : Nat), (∀ a b, a <= b -> b < n -> p a = true -> p b = true) -> ∃ h, h <= n /\ (∀ t, t < h -> p t = false) /\ (∀ t, h <= t -> t < n -> p t = true)
 | 0, _ => ⟨0, Nat.le_refl _, fun t h => absurd h (Nat.not_lt_zero _), fun t _ h => absurd h (Nat.not_lt_zero _)⟩
 | n + 1, hm => by
  obtain ⟨h, h1, h2, h3⟩ := bnd_ex p n fun a b hab hb => hm a b hab (by omega)
  by_cases e : p n = true
  ·exact ⟨h, by omega, h2, fun t ht htn => by
    by_cases ht2 : t = n
    ·rw [ht2]; exact e
    ·exact h3 t ht (by omega)⟩
  ·refine ⟨n + 1, Nat.le_refl _, fun t ht => ?_, fun t h4 h5 => by omega⟩
   cases ep : p t with
   | false => rfl
   | true => exact absurd (hm t n (by omega) (by omega) ep) e
theorem cntF_spec (p : Nat -> Bool) (n : Nat) (hm : ∀ a b, a <= b -> b < n -> p a = true -> p b = true) : cntF p n <= n /\ (∀ i, i < cntF p n -> p i = false) /\ ∀ i, cntF p n <= i -> i < n -> p i = true := by
 obtain ⟨h, h1, h2, h3⟩ := bnd_ex p n hm
 rw [cntF_boundary p n h h1 h2 h3]
 exact ⟨h1, h2, h3⟩
theorem cntF_leN (p : Nat -> Bool) (n : Nat) : cntF p n <= n := by
 unfold cntF
 have := List.countP_le_length (p := fun i => !p i) (l := List.range n)
 simpa using this
theorem rises_mono {l : List Tn} (h : Rises l) : ∀ (j i : Nat) (hij : i < j) (hj : j < l.length), (l[i]'(by omega)).a < l[j].a
 | 0, i, hi, _ => absurd hi (Nat.not_lt_zero _)
 | j + 1, i, hi, hj => by
  have h1 := h j hj
  by_cases e : i = j
  ·subst e; exact h1
  ·have h2 := rises_mono h j i (by omega) (by omega)
   omega
theorem tnA_at (l : List Tn) (i : Nat) (h : i < l.length) : tnA l i = l[i].a := by unfold tnA; rw [List.getElem?_eq_getElem h]; rfl
theorem tnA_mono {l : List Tn} (h : Rises l) (i j : Nat) (hij : i <= j) (hj : j < l.length) : tnA l i <= tnA l j := by
 rw [tnA_at l j hj, tnA_at l i (by omega)]
 by_cases e : i = j
 ·subst e; exact Int.le_refl _
 ·exact Int.le_of_lt (rises_mono h j i (by omega) hj)
theorem cntT_mono {l : List Tn} (h : Rises l) (t : Int) : ∀ a b, a <= b -> b < l.length -> decide (t < tnA l a) = true -> decide (t < tnA l b) = true := fun a b hab hb hp => by
 have := tnA_mono h a b hab hb
 simp only [decide_eq_true_eq] at *
 omega
theorem cntT_spec {l : List Tn} (h : Rises l) (t : Int) : cntT l t <= l.length /\ (∀ i, i < cntT l t -> tnA l i <= t) /\ ∀ i, cntT l t <= i -> i < l.length -> t < tnA l i := by
 obtain ⟨h1, h2, h3⟩ := cntF_spec _ _ (cntT_mono h t)
 exact ⟨h1, fun i hi => by have := h2 i hi; simpa using this, fun i hi hl => by have := h3 i hi hl; simpa using this⟩
theorem cntT_le (l : List Tn) (t : Int) : cntT l t <= l.length := cntF_leN _ _
theorem cntT_eq {l : List Tn} (h : Rises l) {t : Int} {k : Nat} (hk : k <= l.length) (h1 : ∀ i, i < k -> tnA l i <= t) (h2 : ∀ i, k <= i -> i < l.length -> t < tnA l i) : cntT l t = k :=
 cntF_boundary _ _ _ hk (fun i hi => by have := h1 i hi; simpa using this) (fun i hi hl => by have := h2 i hi hl; simpa using this)
theorem svT_0 {x : Td} {t : Int} (h : cntT x.ts t = 0) : svT x t = (x.er.sv, x.fst) := by
 unfold svT
 split
 ·rw [if_pos h]
 ·rfl
theorem svT_s {x : Td} {t : Int} (h : cntT x.ts t ≠ 0) : ∃ h2 : cntT x.ts t - 1 < x.ts.length, svT x t = (x.ts[cntT x.ts t - 1].s, x.ts[cntT x.ts t - 1].lt) := by
 have := cntT_le x.ts t
 have h2 : cntT x.ts t - 1 < x.ts.length := by omega
 refine ⟨h2, ?_⟩
 unfold svT
 rw [List.getElem?_eq_getElem h2]
 dsimp only
 rw [if_neg h]
theorem outF_mem (off : Int) : ∀ (S : List (Int × Ru)) (save : Int) (last : Option Int) (l : List Tn), outF off save last S = some l -> ∀ u ∈ l, ∃ x ∈ S, u.s = x.2.sv /\ u.lt = x.2.lt
 | [], save, last, l, h, u, hu => by
  simp only [outF, Option.some.injEq] at h
  subst h
  cases hu
 | x :: r, save, last, l, h, u, hu => by
  obtain ⟨h1, t, h2, rfl⟩ := outF_some h
  rcases List.mem_cons.1 hu with rfl | hu
  ·exact ⟨x, List.mem_cons_self .., rfl, rfl⟩
  ·obtain ⟨y, hy, e⟩ := outF_mem off r _ _ t h2 u hu
   exact ⟨y, List.mem_cons_of_mem _ hy, e⟩
theorem noms_mem {D : Ru -> Int -> Int} {rules : List Ru} {nm : ByteArray} {x : Int × Ru} (h : x ∈ nomsOf D rules nm) : x.2 ∈ rules /\ x.2.nm = nm := by
 obtain ⟨r, hr, hx⟩ := List.mem_flatMap.1 h
 obtain ⟨i, -, rfl⟩ := List.mem_map.1 hx
 have := List.mem_filter.1 hr
 exact ⟨this.1, by simpa using this.2⟩
theorem mkR_mem {rules : List Ru} {nm : ByteArray} {off : Int} {u : Tn} (h : u ∈ (mkR rules nm off).2) : ∃ r ∈ rules, r.nm = nm /\ u.s = r.sv /\ u.lt = r.lt := by
 by_cases h0 : (mkR rules nm off).1 = 0
 ·obtain ⟨x, hx, e⟩ := outF_mem off _ 0 none _ (mkR_ok h0) u h
  have hx2 : x ∈ nomsOf dayN rules nm := (List.mergeSort_perm _ _).mem_iff.1 hx
  obtain ⟨h1, h2⟩ := noms_mem hx2
  exact ⟨x.2, h1, h2, e⟩
 ·have : (mkR rules nm off).2 = [] := by
   unfold mkR at h0 ⊢
   split
   ·rfl
   ·split
    ·rfl
    ·rename_i h1 h2
     rw [if_neg h1, if_neg h2] at h0
     cases e : outF off 0 none (srt (nomsOf dayN rules nm)) with
     | none => rfl
     | some l => rw [e] at h0; exact absurd rfl h0
  rw [this] at h
  cases h
theorem mkR_rises {rules : List Ru} {nm : ByteArray} {off : Int} (h0 : (mkR rules nm off).1 = 0) : Rises (mkR rules nm off).2 := (outF_rise off _ 0 none _ (mkR_ok h0)).2
theorem tdR_rises {rules : List Ru} {x : Er} (h : tdE rules x = 0) : Rises (tdR rules x).ts := by
 unfold tdE at h
 unfold tdR
 by_cases hr : x.ru.data.toList = []
 ·rw [if_pos hr]; intro i hi; exact absurd hi (Nat.not_lt_zero _)
 ·rw [if_neg hr] at h ⊢
  exact mkR_rises h
theorem firstLt_of (l : List Tn) : firstLt l = dashB \/ ∃ u ∈ l, u.s = 0 /\ firstLt l = u.lt := by
 unfold firstLt
 cases h : l[fstK l]? with
 | none => exact .inl rfl
 | some u =>
  obtain ⟨hlt, e⟩ := List.getElem?_eq_some_iff.1 h
  refine .inr ⟨u, e ▸ List.getElem_mem _, ?_, rfl⟩
  have := List.findIdx_getElem (p := fun u : Tn => decide (u.s = 0)) (xs := l) (w := hlt)
  have h3 : l[fstK l].s = 0 := of_decide_eq_true this
  rw [<- e]; exact h3
structure EraOk (rules : List Ru) (x : Er) : Prop where
 o1 : -64800 <= x.off
 o2 : x.off <= 64800
 s1 : 0 <= x.sv
 s2 : x.sv <= 10800
 sr : x.ru.data.toList ≠ [] -> x.sv = 0
 has : x.ru.data.toList ≠ [] -> ∃ r ∈ rules, r.nm = x.ru
 ab : abbrsChk rules x = 0
theorem eraChk_ok {rules : List Ru} {l : List Er} {k : Nat} (h : eraChk rules l k = 0) : EraOk rules (eraAt l k) /\ (k + 1 ≠ l.length -> -1099511627776 <= (eraAt l k).un /\ (eraAt l k).un <= 1099511627776 /\ stampE (eraAt l k).un = 0 /\ (0 < k -> (eraAt l (k - 1)).un < (eraAt l k).un)) /\ (k + 1 = l.length -> (eraAt l k).un = 0) := by
 unfold eraChk at h
 dsimp only at h
 split at h
 ·cases h
 ·rename_i h1
  split at h
  ·cases h
  ·rename_i h2
   split at h
   ·cases h
   ·rename_i h3
    split at h
    ·exact absurd h (by assumption)
    ·rename_i h4
     refine ⟨⟨by omega, by omega, by omega, by omega, fun hr => ?_, fun hr => ?_, Classical.not_not.1 h4⟩, fun hk => ?_, fun hk => ?_⟩
     ·exact Classical.byContradiction fun hs => h2 ⟨hs, hr⟩
     ·have : ¬ (rules.any fun r => decide (r.nm = (eraAt l k).ru)) = false := fun g => h3 ⟨hr, g⟩
      have : (rules.any fun r => decide (r.nm = (eraAt l k).ru)) = true := by simpa using this
      obtain ⟨r, hr, e⟩ := List.any_eq_true.1 this
      exact ⟨r, hr, of_decide_eq_true e⟩
     ·rw [if_neg hk] at h
      split at h
      ·cases h
      ·rename_i h5
       split at h
       ·exact absurd h (by assumption)
       ·rename_i h6
        split at h
        ·cases h
        ·rename_i h7
         refine ⟨by omega, by omega, Classical.not_not.1 h6, fun h0 => ?_⟩
         omega
     ·rw [if_pos hk] at h
      exact Classical.byContradiction fun g => by rw [if_pos g] at h; cases h
theorem eraAt_in (l : List Er) (k : Nat) (h : k < l.length) : eraAt l k = l[k] := by unfold eraAt; rw [List.getElem?_eq_getElem h]; rfl
structure ErasOk (rules : List Ru) (l : List Er) : Prop where
 ne : l ≠ []
 le : l.length <= 700
 ok : ∀ x ∈ l, EraOk rules x
 un : ∀ k, k + 1 < l.length -> -1099511627776 <= (eraAt l k).un /\ (eraAt l k).un <= 1099511627776 /\ stampE (eraAt l k).un = 0
 rise : ∀ k, k + 2 < l.length -> (eraAt l k).un < (eraAt l (k + 1)).un
 last : (eraAt l (l.length - 1)).un = 0
theorem bk_eras {b : Bk} (h : bkChk b = 0) {z : Zo} (hz : z ∈ b.zones) : ErasOk b.rules z.eras := by
 obtain ⟨i, hi, rfl⟩ := List.mem_iff_getElem.1 hz
 have hzo := bk_zone h i hi
 have he : ∀ k, k < b.zones[i].eras.length -> eraChk b.rules b.zones[i].eras k = 0 := fun k hk => (firstE_zero _ _).1 hzo.er k (List.mem_range.2 hk)
 have hp : 0 < b.zones[i].eras.length := List.length_pos_iff.2 hzo.ne
 refine ⟨hzo.ne, hzo.le, fun x hx => ?_, fun k hk => ?_, fun k hk => ?_, ?_⟩
 ·obtain ⟨k, hk, rfl⟩ := List.mem_iff_getElem.1 hx
  rw [<- eraAt_in _ _ hk]
  exact (eraChk_ok (he k hk)).1
 ·obtain ⟨a, b, c, -⟩ := (eraChk_ok (he k (by omega))).2.1 (by omega)
  exact ⟨a, b, c⟩
 ·have := ((eraChk_ok (he (k + 1) (by omega))).2.1 (by omega)).2.2.2 (by omega)
  simpa using this
 ·exact (eraChk_ok (he _ (by omega))).2.2 (by omega)
theorem eras_mono {rules : List Ru} {l : List Er} (h : ErasOk rules l) : ∀ (j i : Nat), i < j -> j + 1 < l.length -> (eraAt l i).un < (eraAt l j).un
 | 0, i, hi, _ => absurd hi (Nat.not_lt_zero _)
 | j + 1, i, hi, hj => by
  have h1 := h.rise j hj
  by_cases e : i = j
  ·subst e; exact h1
  ·have := eras_mono h j i (by omega) (by omega)
   omega
theorem which_mono {rules : List Ru} {l : List Er} (h : ErasOk rules l) (t : Int) : ∀ a b, a <= b -> b < l.length - 1 -> decide (t < (eraAt l a).un) = true -> decide (t < (eraAt l b).un) = true := fun a b hab hb hp => by
 by_cases e : a = b
 ·subst e; exact hp
 ·have := eras_mono h b a (by omega) (by omega)
  simp only [decide_eq_true_eq] at *
  omega
theorem which_spec {rules : List Ru} {l : List Er} (h : ErasOk rules l) (t : Int) : whichF l t <= l.length - 1 /\ (∀ i, i < whichF l t -> (eraAt l i).un <= t) /\ ∀ i, whichF l t <= i -> i < l.length - 1 -> t < (eraAt l i).un := by
 obtain ⟨h1, h2, h3⟩ := cntF_spec _ _ (which_mono h t)
 exact ⟨h1, fun i hi => by have := h2 i hi; simpa using this, fun i hi hl => by have := h3 i hi hl; simpa using this⟩
theorem which_eq {l : List Er} {t : Int} {k : Nat} (hk : k <= l.length - 1) (h1 : ∀ i, i < k -> (eraAt l i).un <= t) (h2 : ∀ i, k <= i -> i < l.length - 1 -> t < (eraAt l i).un) : whichF l t = k :=
 cntF_boundary _ _ _ hk (fun i hi => by have := h1 i hi; simpa using this) (fun i hi hl => by have := h2 i hi hl; simpa using this)
theorem abb_rule {rules : List Ru} {x : Er} (h : EraOk rules x) (hr : x.ru.data.toList ≠ []) : (∀ r ∈ rules, r.nm = x.ru -> abE x.fm r.sv r.lt = 0) /\ abE x.fm 0 dashB = 0 := by
 have ha := h.ab
 unfold abbrsChk at ha
 rw [if_neg hr] at ha
 split at ha
 ·rename_i h1
  refine ⟨fun r hm e => ?_, ha⟩
  have := (firstE_zero _ _).1 h1 r hm
  rwa [if_pos e] at this
 ·rename_i h1
  exact absurd ha h1
theorem abE_save {f l : ByteArray} {s : Int} (h : abE f s l = 0) : 0 <= s /\ s <= 10800 := by
 unfold abE abbrF at h
 split at h
 ·cases h
 ·split at h
  ·cases h
  ·rename_i h1; omega
theorem sv_ok {rules : List Ru} {x : Er} (h : EraOk rules x) (t : Int) : abE x.fm (svT (tdR rules x) t).1 (svT (tdR rules x) t).2 = 0 /\ 0 <= (svT (tdR rules x) t).1 /\ (svT (tdR rules x) t).1 <= 10800 /\ (if x.ru.data.toList = [] then (svT (tdR rules x) t).1 = x.sv else (svT (tdR rules x) t).1 = 0 \/ ∃ r ∈ rules, r.nm = x.ru /\ (svT (tdR rules x) t).1 = r.sv) := by
 suffices hs : abE x.fm (svT (tdR rules x) t).1 (svT (tdR rules x) t).2 = 0 /\ (if x.ru.data.toList = [] then (svT (tdR rules x) t).1 = x.sv else (svT (tdR rules x) t).1 = 0 \/ ∃ r ∈ rules, r.nm = x.ru /\ (svT (tdR rules x) t).1 = r.sv) from
  ⟨hs.1, (abE_save hs.1).1, (abE_save hs.1).2, hs.2⟩
 by_cases hr : x.ru.data.toList = []
 ·have ha := h.ab
  unfold abbrsChk at ha
  rw [if_pos hr] at ha
  have e : tdR rules x = ⟨x, [], dashB⟩ := by unfold tdR; rw [if_pos hr]
  rw [e, if_pos hr, svT_0 rfl]
  exact ⟨ha, rfl⟩
 ·obtain ⟨h1, h2⟩ := abb_rule h hr
  have e : tdR rules x = ⟨x, (mkR rules x.ru x.off).2, firstLt (mkR rules x.ru x.off).2⟩ := by unfold tdR; rw [if_neg hr]
  rw [if_neg hr]
  by_cases hc : cntT (tdR rules x).ts t = 0
  ·rw [svT_0 hc, e]
   dsimp only
   rw [h.sr hr]
   rcases firstLt_of (mkR rules x.ru x.off).2 with e1 | ⟨u, hu, hs, e1⟩
   ·rw [e1]; exact ⟨h2, .inl rfl⟩
   ·obtain ⟨r, hm, hn, e2, e3⟩ := mkR_mem hu
    have h5 := h1 r hm hn
    rw [<- e2, <- e3, hs] at h5
    rw [e1]
    exact ⟨h5, .inl rfl⟩
  ·obtain ⟨hlt, es⟩ := svT_s hc
   rw [es]
   have hu : (tdR rules x).ts[cntT (tdR rules x).ts t - 1] ∈ (mkR rules x.ru x.off).2 := by
    have := List.getElem_mem hlt
    have e4 : (tdR rules x).ts = (mkR rules x.ru x.off).2 := by rw [e]
    rw [<- e4]; exact this
   obtain ⟨r, hm, hn, e2, e3⟩ := mkR_mem hu
   dsimp only
   rw [e2, e3]
   exact ⟨h1 r hm hn, .inr ⟨r, hm, hn, rfl⟩⟩
def tdA (rules : List Ru) (l : List Er) (k : Nat) : Td := tdR rules (eraAt l k)
def stF (rules : List Ru) (l : List Er) (t : Int) : Ty := tdTy (tdA rules l (whichF l t)) t
theorem which_of {rules : List Ru} {l : List Er} (h : ErasOk rules l) {t : Int} {k : Nat} (hk : k < l.length) (h1 : ∀ i, i < k -> (eraAt l i).un <= t) (h2 : k + 1 < l.length -> t < (eraAt l k).un) : whichF l t = k := by
 refine which_eq (by omega) h1 fun i hi hl => ?_
 by_cases e : k = i
 ·subst e; exact h2 (by omega)
 ·have := eras_mono h i k (by omega) (by omega)
  have := h2 (by omega)
  omega
end Go.Proofs.YtomahddiclkepaaGreatDoor
namespace Go.Proofs.YtomahddiclkepaaGreatDoor
open Go.RowKit
def wiB (n a b : Int) : Bool := decide (a <= n /\ n <= b)
theorem tab_within (n a b : Int) (w : World) :
 Calls Tryz.prog 50 #[.int .i64 n, .int .i64 a, .int .i64 b] w fun e w' => e = .returned (.bool (wiB n a b)) /\ w = w' := by
 by_cases h1 : a <= n <;> by_cases h2 : n <= b <;>
 ·go_enter Tryz.func50, Tryz.ntmps50
  go_wp2
  go_ret
  exact ⟨ret_bool' (by simp [wiB, h1, h2]), rfl⟩
theorem okTime_wi (x : Int) : okTime x = wiB x (-1099511627776) 1099511627776 := rfl
theorem okIdx_wi (l x : Int) : okIdx l x = wiB x 0 l := rfl
theorem Check_big (t : Tab) (v : Value) (w : World) (hv : TabAt w v t) (hbig : big t = true) :
 Calls Tryz.prog 19 #[v] w fun e w' => e = .returned (.int .i64 (chk t)) /\ Below w.heap.size w w' := by
 obtain ⟨sv, cv, rfl, ⟨⟨p, cap, rfl, hs⟩, hl1, hnm⟩, ⟨⟨p2, cap2, rfl, hc⟩, hl2⟩⟩ := hv.val
 have hk : Hid (chk t = 2) := by show _ = _; unfold chk; rw [if_pos hbig]
 simp only [big, decide_eq_true_eq] at hbig
 clear hs hc hnm
 by_cases h1 : (250 : Int) < t.types.length
 ·go_enter Tryz.func19, Tryz.ntmps19
  go_wp2
  go_ret
  exact ⟨ret_int' hk.out.symm, (Below.refl _ _).alloc (Nat.le_refl _) _⟩
 ·have h2 : (1000 : Int) < t.chs.length := by omega
  go_enter Tryz.func19, Tryz.ntmps19
  go_wp2
  go_ret
  exact ⟨ret_int' hk.out.symm, (Below.refl _ _).alloc (Nat.le_refl _) _⟩
theorem Check_none (t : Tab) (v : Value) (w : World) (hv : TabAt w v t) (hbig : big t = false) (hn : t.types = []) :
 Calls Tryz.prog 19 #[v] w fun e w' => e = .returned (.int .i64 (chk t)) /\ Below w.heap.size w w' := by
 obtain ⟨sv, cv, rfl, ⟨⟨p, cap, rfl, hs⟩, hl1, hnm⟩, ⟨⟨p2, cap2, rfl, hc⟩, hl2⟩⟩ := hv.val
 have hk : Hid (chk t = 5) := by show _ = _; unfold chk; rw [if_neg (by simp [hbig]), if_pos hn]
 simp only [big, decide_eq_false_iff_not] at hbig
 have e0 : t.types.length = 0 := by rw [hn]; rfl
 have h2 : ¬ (1000 : Int) < t.chs.length := by omega
 clear hs hc hnm hbig hn hv
 rw [e0]
 go_enter Tryz.func19, Tryz.ntmps19
 go_wp2
 go_ret
 exact ⟨ret_int' hk.out.symm, (Below.refl _ _).alloc (Nat.le_refl _) _⟩
theorem tyAt.mono {w w' : World} {B b o : Nat} {x : Ty} (h : tyAt w b o x) (hb : Below B w w') (hlt : b < B) : tyAt w' b o x :=
 ⟨(hb.cell (p := ⟨b, o, none⟩) hlt).trans h.1, (hb.cell (p := ⟨b, o + 1, none⟩) hlt).trans h.2.1, (hb.cell (p := ⟨b, o + 2, none⟩) hlt).trans h.2.2⟩
theorem chAt.mono {w w' : World} {B b o : Nat} {x : Ch} (h : chAt w b o x) (hb : Below B w w') (hlt : b < B) : chAt w' b o x :=
 ⟨(hb.cell (p := ⟨b, o, none⟩) hlt).trans h.1, (hb.cell (p := ⟨b, o + 1, none⟩) hlt).trans h.2⟩
theorem bcellB {B : Nat} {W w1 : World} (hb : Below B W w1) : (∀ b o, b < B -> w1.cell? ⟨b, o, none⟩ = W.cell? ⟨b, o, none⟩) /\ (∀ b o, b < B -> w1.frozen? ⟨b, o, none⟩ = W.frozen? ⟨b, o, none⟩) :=
 ⟨fun b o h => hb.cell (p := ⟨b, o, none⟩) h, fun b o h => hb.frozen (p := ⟨b, o, none⟩) h⟩
theorem chk_types (t : Tab) (hbig : big t = false) (hn : t.types ≠ []) (h : chkTypes t.types ≠ 0) : chk t = chkTypes t.types := by
 unfold chk; rw [if_neg (by simp [hbig]), if_neg hn, if_neg h]
theorem chk_first (t : Tab) (hbig : big t = false) (hn : t.types ≠ []) (h : chkTypes t.types = 0) (hf : okIdx ((t.types.length : Int) - 1) t.first = false) : chk t = 1 := by
 unfold chk; rw [if_neg (by simp [hbig]), if_neg hn, if_pos h, if_neg (by simp [hf])]
theorem chk_chs (t : Tab) (hbig : big t = false) (hn : t.types ≠ []) (h : chkTypes t.types = 0) (hf : okIdx ((t.types.length : Int) - 1) t.first = true) : chk t = chkChs ((t.types.length : Int) - 1) none t.chs := by
 unfold chk; rw [if_neg (by simp [hbig]), if_neg hn, if_pos h, if_pos hf]
theorem Check_nochs (l : List Ty) (f : Int) (m : List Ch) (b o cap cap2 : Nat) (p2 : Option Addr) (w : World) (hb : b < w.heap.size) (hty : ∀ i (h : i < l.length), tyAt w b (o + i * 3) l[i]) (hnm : ∀ x ∈ l, x.name.size <= maxLen)
 (hbig : big ⟨l, f, m⟩ = false) (hn : l ≠ []) (hm : m = []) :
 Calls Tryz.prog 19 #[.agg #[.slice (some ⟨b, o, none⟩) l.length cap, .int .i64 f, .slice p2 m.length cap2]] w fun e w' => e = .returned (.int .i64 (chk ⟨l, f, m⟩)) /\ Below w.heap.size w w' := by
 have ht1 : Hid (chkTypes l ≠ 0 -> chk ⟨l, f, m⟩ = chkTypes l) := chk_types ⟨l, f, m⟩ hbig hn
 have ht2 : Hid (chkTypes l = 0 -> okIdx ((l.length : Int) - 1) f = false -> chk ⟨l, f, m⟩ = 1) := chk_first ⟨l, f, m⟩ hbig hn
 have ht3 : Hid (chkTypes l = 0 -> okIdx ((l.length : Int) - 1) f = true -> chk ⟨l, f, m⟩ = chkChs ((l.length : Int) - 1) none m) := chk_chs ⟨l, f, m⟩ hbig hn
 have HTY := qH hty
 have HNM := qH hnm
 have E0 : Hid (m.length = 0) := by show m.length = 0; rw [hm]; rfl
 have HM := qH hm
 have hpos : 0 < l.length := List.length_pos_iff.2 hn
 simp only [big, decide_eq_false_iff_not] at hbig
 have hN : ¬ (250 : Int) < l.length := by omega
 have hM : ¬ (1000 : Int) < m.length := by omega
 have hN' : l.length <= 250 := by omega
 have hM' : m.length <= 1000 := by omega
 have hz : ((l.length : Int) == 0) = false := by simp; omega
 obtain ⟨R, eR⟩ : ∃ R : Int, chk ⟨l, f, m⟩ = R := ⟨_, rfl⟩
 rw [eR]
 have ER := qH eR
 clear hty hnm hbig hn eR hm
 obtain ⟨w0, hw0⟩ : ∃ w0, w.alloc (.cells #[.slice (some ⟨b, o, none⟩) l.length cap, .int .i64 f, .slice p2 m.length cap2] 58) = w0 := ⟨_, rfl⟩
 have hbw : Below w.heap.size w w0 := by rw [<- hw0]; exact (Below.refl _ _).alloc (Nat.le_refl _) _
 have hsz : w0.heap.size = w.heap.size + 1 := by rw [<- hw0]; simp
 have hq0 : w0.cell? ⟨w.heap.size, 0, none⟩ = some (.slice (some ⟨b, o, none⟩) l.length cap) := by rw [<- hw0]; simp [go_sem]
 have hq1 : w0.cell? ⟨w.heap.size, 1, none⟩ = some (.int .i64 f) := by rw [<- hw0]; simp [go_sem]
 have hq2 : w0.cell? ⟨w.heap.size, 2, none⟩ = some (.slice p2 m.length cap2) := by rw [<- hw0]; simp [go_sem]
 have HW0 := qH hw0
 have HSZ := qH hsz
 clear hw0 hsz
 have HQ0 := qH hq0
 have HQ1 := qH hq1
 have HQ2 := qH hq2
 clear hq0 hq1 hq2
 go_enter Tryz.func19, Tryz.ntmps19
 go_wp2
 go_loopw [27] (fun i wr => ∃ k : Nat, k <= l.length /\ i = .int .i64 k /\ Below (w.heap.size + 1) (w.alloc (.cells #[.slice (some ⟨b, o, none⟩) l.length cap, .int .i64 f, .slice p2 m.length cap2] 58)) wr /\ chkTypes l = chkTypes (l.drop k)) (fun i _ => l.length - (intOf i).toNat)
 case atStart => exact ⟨0, Nat.zero_le _, rfl, Below.refl _ _, rfl⟩
 case round =>
  obtain ⟨k, hk, rfl, hbel, hch⟩ := hrel
  rw [HW0.out] at hbel
  have HCH := qH hch
  clear hch
  by_cases hlt : k < l.length
  ·obtain ⟨x, ex⟩ : ∃ x, l[k] = x := ⟨_, rfl⟩
   have hat := ((HTY.out k hlt).mono hbw hb).mono hbel (by omega)
   have hnx := HNM.out l[k] (List.getElem_mem hlt)
   rw [ex] at hat hnx
   obtain ⟨c0, c1, c2⟩ := hat
   have EX := qH ex
   clear ex
   cases ho : wiB x.off (-75600) 75600
   ·have hr : Hid (R = 1) := by
     have h1 := chkTypes_off l k hlt (by rw [EX.out]; exact ho)
     have h2 : chkTypes l = 1 := by rw [HCH.out, h1]
     have h3 := ht1.out (by rw [h2]; decide)
     show R = 1
     rw [<- ER.out, h3, h2]
    go_wp2_with (first | (go_at_call 50; refine (tab_within _ _ _ _).mono ?_; rintro e w' ⟨rfl, rfl⟩))
    go_ret
    exact ⟨ret_int' hr.out.symm, hbw.trans ((hbel.mono (by omega)).alloc (by have := hbel.size; have := HSZ.out; omega) _)⟩
   ·cases ha : abbrB x.name
    ·have hr : Hid (R = 3) := by
      have h1 := chkTypes_abbr l k hlt (by rw [EX.out]; exact ho) (by rw [EX.out]; exact ha)
      have h2 : chkTypes l = 3 := by rw [HCH.out, h1]
      have h3 := ht1.out (by rw [h2]; decide)
      show R = 3
      rw [<- ER.out, h3, h2]
     go_wp2_with (first | (go_at_call 50; refine (tab_within _ _ _ _).mono ?_; rintro e w' ⟨rfl, rfl⟩) | (go_at_call 44; refine (isAbbr_any _ _ hnx).mono ?_; rintro e w' ⟨rfl, rfl⟩))
     go_ret
     exact ⟨ret_int' hr.out.symm, hbw.trans ((hbel.mono (by omega)).alloc (by have := hbel.size; have := HSZ.out; omega) _)⟩
    ·have hstep : Hid (chkTypes l = chkTypes (l.drop (k + 1))) := by
      show _ = _
      rw [HCH.out, chkTypes_drop l k hlt (by rw [EX.out]; exact ho) (by rw [EX.out]; exact ha)]
     go_wp2_with (first | (go_at_call 50; refine (tab_within _ _ _ _).mono ?_; rintro e w' ⟨rfl, rfl⟩) | (go_at_call 44; refine (isAbbr_any _ _ hnx).mono ?_; rintro e w' ⟨rfl, rfl⟩))
     go_roundw
     case rel => exact ⟨k + 1, by omega, by go_num, by rw [HW0.out]; exact hbel.alloc (by have := hbel.size; have := HSZ.out; omega) _, hstep.out⟩
     case measure => simp [intOf]; omega
  ·obtain rfl : k = l.length := by omega
   have h0 : chkTypes l = 0 := by rw [HCH.out, List.drop_of_length_le (by omega)]; rfl
   have H0 := qH h0
   clear h0
   have hq0 := ((bcellB hbel).1 w.heap.size 0 (by omega)).trans HQ0.out
   have hq1 := ((bcellB hbel).1 w.heap.size 1 (by omega)).trans HQ1.out
   have hq2 := ((bcellB hbel).1 w.heap.size 2 (by omega)).trans HQ2.out
   cases hfi : wiB f 0 ((l.length : Int) - 1)
   ·have hr : Hid (R = 1) := by
     show R = 1
     rw [<- ER.out, ht2.out H0.out hfi]
    go_wp2_with (first | (go_at_call 50; refine (tab_within _ _ _ _).mono ?_; rintro e w' ⟨rfl, rfl⟩))
    go_ret
    exact ⟨ret_int' hr.out.symm, hbw.trans (hbel.mono (by omega))⟩
   ·have hR : Hid (R = chkChs ((l.length : Int) - 1) none m) := by
     show R = _
     rw [<- ER.out, ht3.out H0.out hfi]
    go_wp2_with (first | (go_at_call 50; refine (tab_within _ _ _ _).mono ?_; rintro e w' ⟨rfl, rfl⟩))
    go_loopw [52] (fun i w2 => ∃ k : Nat, k <= m.length /\ i = .int .i64 k /\ Below (w.heap.size + 1) (w.alloc (.cells #[.slice (some ⟨b, o, none⟩) l.length cap, .int .i64 f, .slice p2 m.length cap2] 58)) w2 /\ chkChs ((l.length : Int) - 1) none m = chkChs ((l.length : Int) - 1) (prevOf m k) (m.drop k)) (fun i _ => m.length - (intOf i).toNat)
    case atStart => exact ⟨0, Nat.zero_le _, rfl, by rw [HW0.out]; exact hbel, rfl⟩
    case round =>
     obtain ⟨k, hk2, rfl, hbel2, hcc⟩ := hrel
     rw [HW0.out] at hbel2
     have HCC := qH hcc
     clear hcc
     by_cases hlt2 : k < m.length
     ·have := E0.out; omega
     ·obtain rfl : k = m.length := by omega
      have hr : Hid (R = 0) := by show R = 0; rw [hR.out, HCC.out, List.drop_of_length_le (by omega)]; cases prevOf m m.length <;> rfl
      go_wp2
      go_ret
      exact ⟨ret_int' hr.out.symm, hbw.trans (hbel2.mono (by omega))⟩
theorem Check_chs (l : List Ty) (f : Int) (m : List Ch) (b o cap b2 o2 cap2 : Nat) (w : World) (hb : b < w.heap.size) (hty : ∀ i (h : i < l.length), tyAt w b (o + i * 3) l[i]) (hnm : ∀ x ∈ l, x.name.size <= maxLen)
 (hbig : big ⟨l, f, m⟩ = false) (hn : l ≠ []) (hb2 : b2 < w.heap.size) (hch2 : ∀ i (h : i < m.length), chAt w b2 (o2 + i * 2) m[i]) :
 Calls Tryz.prog 19 #[.agg #[.slice (some ⟨b, o, none⟩) l.length cap, .int .i64 f, .slice (some ⟨b2, o2, none⟩) m.length cap2]] w fun e w' => e = .returned (.int .i64 (chk ⟨l, f, m⟩)) /\ Below w.heap.size w w' := by
 have ht1 : Hid (chkTypes l ≠ 0 -> chk ⟨l, f, m⟩ = chkTypes l) := chk_types ⟨l, f, m⟩ hbig hn
 have ht2 : Hid (chkTypes l = 0 -> okIdx ((l.length : Int) - 1) f = false -> chk ⟨l, f, m⟩ = 1) := chk_first ⟨l, f, m⟩ hbig hn
 have ht3 : Hid (chkTypes l = 0 -> okIdx ((l.length : Int) - 1) f = true -> chk ⟨l, f, m⟩ = chkChs ((l.length : Int) - 1) none m) := chk_chs ⟨l, f, m⟩ hbig hn
 have HTY := qH hty
 have HNM := qH hnm
 have HC := qH hch2
 have hpos : 0 < l.length := List.length_pos_iff.2 hn
 simp only [big, decide_eq_false_iff_not] at hbig
 have hN : ¬ (250 : Int) < l.length := by omega
 have hM : ¬ (1000 : Int) < m.length := by omega
 have hN' : l.length <= 250 := by omega
 have hM' : m.length <= 1000 := by omega
 have hz : ((l.length : Int) == 0) = false := by simp; omega
 obtain ⟨R, eR⟩ : ∃ R : Int, chk ⟨l, f, m⟩ = R := ⟨_, rfl⟩
 rw [eR]
 have ER := qH eR
 clear hty hnm hbig hn eR hch2
 obtain ⟨w0, hw0⟩ : ∃ w0, w.alloc (.cells #[.slice (some ⟨b, o, none⟩) l.length cap, .int .i64 f, .slice (some ⟨b2, o2, none⟩) m.length cap2] 58) = w0 := ⟨_, rfl⟩
 have hbw : Below w.heap.size w w0 := by rw [<- hw0]; exact (Below.refl _ _).alloc (Nat.le_refl _) _
 have hsz : w0.heap.size = w.heap.size + 1 := by rw [<- hw0]; simp
 have hq0 : w0.cell? ⟨w.heap.size, 0, none⟩ = some (.slice (some ⟨b, o, none⟩) l.length cap) := by rw [<- hw0]; simp [go_sem]
 have hq1 : w0.cell? ⟨w.heap.size, 1, none⟩ = some (.int .i64 f) := by rw [<- hw0]; simp [go_sem]
 have hq2 : w0.cell? ⟨w.heap.size, 2, none⟩ = some (.slice (some ⟨b2, o2, none⟩) m.length cap2) := by rw [<- hw0]; simp [go_sem]
 have HW0 := qH hw0
 have HSZ := qH hsz
 clear hw0 hsz
 have HQ0 := qH hq0
 have HQ1 := qH hq1
 have HQ2 := qH hq2
 clear hq0 hq1 hq2
 go_enter Tryz.func19, Tryz.ntmps19
 go_wp2
 go_loopw [27] (fun i wr => ∃ k : Nat, k <= l.length /\ i = .int .i64 k /\ Below (w.heap.size + 1) (w.alloc (.cells #[.slice (some ⟨b, o, none⟩) l.length cap, .int .i64 f, .slice (some ⟨b2, o2, none⟩) m.length cap2] 58)) wr /\ chkTypes l = chkTypes (l.drop k)) (fun i _ => l.length - (intOf i).toNat)
 case atStart => exact ⟨0, Nat.zero_le _, rfl, Below.refl _ _, rfl⟩
 case round =>
  obtain ⟨k, hk, rfl, hbel, hch⟩ := hrel
  rw [HW0.out] at hbel
  have HCH := qH hch
  clear hch
  by_cases hlt : k < l.length
  ·obtain ⟨x, ex⟩ : ∃ x, l[k] = x := ⟨_, rfl⟩
   have hat := ((HTY.out k hlt).mono hbw hb).mono hbel (by omega)
   have hnx := HNM.out l[k] (List.getElem_mem hlt)
   rw [ex] at hat hnx
   obtain ⟨c0, c1, c2⟩ := hat
   have EX := qH ex
   clear ex
   cases ho : wiB x.off (-75600) 75600
   ·have hr : Hid (R = 1) := by
     have h1 := chkTypes_off l k hlt (by rw [EX.out]; exact ho)
     have h2 : chkTypes l = 1 := by rw [HCH.out, h1]
     have h3 := ht1.out (by rw [h2]; decide)
     show R = 1
     rw [<- ER.out, h3, h2]
    go_wp2_with (first | (go_at_call 50; refine (tab_within _ _ _ _).mono ?_; rintro e w' ⟨rfl, rfl⟩))
    go_ret
    exact ⟨ret_int' hr.out.symm, hbw.trans ((hbel.mono (by omega)).alloc (by have := hbel.size; have := HSZ.out; omega) _)⟩
   ·cases ha : abbrB x.name
    ·have hr : Hid (R = 3) := by
      have h1 := chkTypes_abbr l k hlt (by rw [EX.out]; exact ho) (by rw [EX.out]; exact ha)
      have h2 : chkTypes l = 3 := by rw [HCH.out, h1]
      have h3 := ht1.out (by rw [h2]; decide)
      show R = 3
      rw [<- ER.out, h3, h2]
     go_wp2_with (first | (go_at_call 50; refine (tab_within _ _ _ _).mono ?_; rintro e w' ⟨rfl, rfl⟩) | (go_at_call 44; refine (isAbbr_any _ _ hnx).mono ?_; rintro e w' ⟨rfl, rfl⟩))
     go_ret
     exact ⟨ret_int' hr.out.symm, hbw.trans ((hbel.mono (by omega)).alloc (by have := hbel.size; have := HSZ.out; omega) _)⟩
    ·have hstep : Hid (chkTypes l = chkTypes (l.drop (k + 1))) := by
      show _ = _
      rw [HCH.out, chkTypes_drop l k hlt (by rw [EX.out]; exact ho) (by rw [EX.out]; exact ha)]
     go_wp2_with (first | (go_at_call 50; refine (tab_within _ _ _ _).mono ?_; rintro e w' ⟨rfl, rfl⟩) | (go_at_call 44; refine (isAbbr_any _ _ hnx).mono ?_; rintro e w' ⟨rfl, rfl⟩))
     go_roundw
     case rel => exact ⟨k + 1, by omega, by go_num, by rw [HW0.out]; exact hbel.alloc (by have := hbel.size; have := HSZ.out; omega) _, hstep.out⟩
     case measure => simp [intOf]; omega
  ·obtain rfl : k = l.length := by omega
   have h0 : chkTypes l = 0 := by rw [HCH.out, List.drop_of_length_le (by omega)]; rfl
   have H0 := qH h0
   clear h0
   have hq0 := ((bcellB hbel).1 w.heap.size 0 (by omega)).trans HQ0.out
   have hq1 := ((bcellB hbel).1 w.heap.size 1 (by omega)).trans HQ1.out
   have hq2 := ((bcellB hbel).1 w.heap.size 2 (by omega)).trans HQ2.out
   cases hfi : wiB f 0 ((l.length : Int) - 1)
   ·have hr : Hid (R = 1) := by
     show R = 1
     rw [<- ER.out, ht2.out H0.out hfi]
    go_wp2_with (first | (go_at_call 50; refine (tab_within _ _ _ _).mono ?_; rintro e w' ⟨rfl, rfl⟩))
    go_ret
    exact ⟨ret_int' hr.out.symm, hbw.trans (hbel.mono (by omega))⟩
   ·have hR : Hid (R = chkChs ((l.length : Int) - 1) none m) := by
     show R = _
     rw [<- ER.out, ht3.out H0.out hfi]
    go_wp2_with (first | (go_at_call 50; refine (tab_within _ _ _ _).mono ?_; rintro e w' ⟨rfl, rfl⟩))
    go_loopw [52] (fun i w2 => ∃ k : Nat, k <= m.length /\ i = .int .i64 k /\ Below (w.heap.size + 1) (w.alloc (.cells #[.slice (some ⟨b, o, none⟩) l.length cap, .int .i64 f, .slice (some ⟨b2, o2, none⟩) m.length cap2] 58)) w2 /\ chkChs ((l.length : Int) - 1) none m = chkChs ((l.length : Int) - 1) (prevOf m k) (m.drop k)) (fun i _ => m.length - (intOf i).toNat)
    case atStart => exact ⟨0, Nat.zero_le _, rfl, by rw [HW0.out]; exact hbel, rfl⟩
    case round =>
     obtain ⟨k, hk2, rfl, hbel2, hcc⟩ := hrel
     rw [HW0.out] at hbel2
     have HCC := qH hcc
     clear hcc
     by_cases hlt2 : k < m.length
     ·obtain ⟨x, ex⟩ : ∃ x, m[k] = x := ⟨_, rfl⟩
      have hat := ((HC.out k hlt2).mono hbw hb2).mono hbel2 (by omega)
      rw [ex] at hat
      obtain ⟨c0, c1⟩ := hat
      have EX := qH ex
      clear ex
      have hs2 := hbel2.size
      have hs0 := HSZ.out
      cases ho : wiB x.t (-1099511627776) 1099511627776
      ·have hr : Hid (R = 1) := by
        show R = 1
        rw [hR.out, HCC.out, chkChs_bad _ m k hlt2 (by rw [EX.out, okTime_wi, ho]; rfl)]
       go_wp2_with (first | (go_at_call 50; refine (tab_within _ _ _ _).mono ?_; rintro e w' ⟨rfl, rfl⟩))
       go_ret
       exact ⟨ret_int' hr.out.symm, hbw.trans ((hbel2.mono (by omega)).alloc (by omega) _)⟩
      ·cases hi : wiB x.k 0 ((l.length : Int) - 1)
       ·have hr : Hid (R = 1) := by
         show R = 1
         rw [hR.out, HCC.out, chkChs_bad _ m k hlt2 (by rw [EX.out, okTime_wi, ho, okIdx_wi, hi]; rfl)]
        go_wp2_with (first | (go_at_call 50; refine (tab_within _ _ _ _).mono ?_; rintro e w' ⟨rfl, rfl⟩))
        go_ret
        exact ⟨ret_int' hr.out.symm, hbw.trans ((hbel2.mono (by omega)).alloc (by omega) _)⟩
       ·have hok : Hid ((okTime x.t && okIdx ((l.length : Int) - 1) x.k) = true) := by show _ = _; rw [okTime_wi, ho, okIdx_wi, hi]; rfl
        cases k with
        | zero =>
         simp only [Nat.zero_mul, Nat.add_zero] at c0 c1
         have hstep : Hid (chkChs ((l.length : Int) - 1) none m = chkChs ((l.length : Int) - 1) (prevOf m 1) (m.drop 1)) := by
          show _ = _
          rw [HCC.out, chkChs_drop _ m 0 hlt2 (by rw [EX.out]; exact hok.out) rfl]
         go_wp2_with (first | (go_at_call 50; refine (tab_within _ _ _ _).mono ?_; rintro e w' ⟨rfl, rfl⟩))
         go_quiet (fail)
         go_wp2
         go_roundw
         case rel => exact ⟨1, by omega, by go_num, by rw [HW0.out]; exact below_drewN' (hbel2.alloc (by omega) _) _, hstep.out⟩
         case measure => simp [intOf]; omega
        | succ j =>
         obtain ⟨y, ey⟩ : ∃ y, m[j] = y := ⟨_, rfl⟩
         have hay := ((HC.out j (by omega)).mono hbw hb2).mono hbel2 (by omega)
         rw [ey] at hay
         obtain ⟨y0, y1⟩ := hay
         have hq2 := ((bcellB hbel2).1 w.heap.size 2 (by omega)).trans HQ2.out
         have hprev : prevOf m (j + 1) = some y.t := by simp only [prevOf]; rw [List.getElem?_eq_getElem (by omega), ey]; rfl
         have HP := qH hprev
         clear ey hprev
         have q1 : IntKind.i64.wrap ((j : Int) + 1 - 1) = (j : Int) := by rw [show (j : Int) + 1 - 1 = j by omega]; exact IntWalk.i64_in _ (by omega)
         have q2 : (j : Int) < (m.length : Int) := by omega
         have q3 : w.heap.size < wr.heap.size := by omega
         have q4 : b2 < wr.heap.size := by omega
         by_cases hle : x.t <= y.t
         ·have hr : Hid (R = 5) := by
           show R = 5
           rw [hR.out, HCC.out, chkChs_back _ m (j + 1) hlt2 (by rw [EX.out]; exact hok.out) (by rw [HP.out, EX.out]; simpa [before] using hle)]
          go_wp2_with (first | (go_at_call 50; refine (tab_within _ _ _ _).mono ?_; rintro e w' ⟨rfl, rfl⟩))
          go_quiet (fail)
          go_wp2
          go_ret
          exact ⟨ret_int' hr.out.symm, hbw.trans (below_drewN' ((hbel2.mono (by omega)).alloc (by omega) _) _)⟩
         ·have hstep : Hid (chkChs ((l.length : Int) - 1) none m = chkChs ((l.length : Int) - 1) (prevOf m (j + 1 + 1)) (m.drop (j + 1 + 1))) := by
           show _ = _
           rw [HCC.out, chkChs_drop _ m (j + 1) hlt2 (by rw [EX.out]; exact hok.out) (by rw [HP.out, EX.out]; simpa [before] using hle)]
          go_wp2_with (first | (go_at_call 50; refine (tab_within _ _ _ _).mono ?_; rintro e w' ⟨rfl, rfl⟩))
          go_quiet (fail)
          go_wp2
          go_roundw
          case rel => exact ⟨j + 1 + 1, by omega, by go_num, by rw [HW0.out]; exact below_drewN' (hbel2.alloc (by omega) _) _, hstep.out⟩
          case measure => simp [intOf]; omega
     ·obtain rfl : k = m.length := by omega
      have hr : Hid (R = 0) := by show R = 0; rw [hR.out, HCC.out, List.drop_of_length_le (by omega)]; cases prevOf m m.length <;> rfl
      go_wp2
      go_ret
      exact ⟨ret_int' hr.out.symm, hbw.trans (hbel2.mono (by omega))⟩
theorem Check_any (t : Tab) (v : Value) (w : World) (hv : TabAt w v t) :
 Calls Tryz.prog 19 #[v] w fun e w' => e = .returned (.int .i64 (chk t)) /\ Below w.heap.size w w' := by
 cases hbg : big t
 ·by_cases hn : t.types = []
  ·exact Check_none t v w hv hbg hn
  ·obtain ⟨sv, cv, rfl, ⟨⟨p, cap, rfl, hs⟩, hl1, hnm⟩, ⟨⟨p2, cap2, rfl, hc⟩, hl2⟩⟩ := hv.val
   obtain ⟨b, o, rfl, hb, hty⟩ := hs hn
   obtain ⟨l, f, m⟩ := t
   by_cases hm : m = []
   ·exact Check_nochs l f m b o cap cap2 p2 w hb hty hnm hbg hn hm
   ·obtain ⟨b2, o2, rfl, hb2, hch⟩ := hc hm
    exact Check_chs l f m b o cap b2 o2 cap2 w hb hty hnm hbg hn hb2 hch
 ·exact Check_big t v w hv hbg
def tAt (m : List Ch) (i : Nat) : Int := (m[i]?.map (·.t)).getD 0
def kAt (m : List Ch) (i : Nat) : Int := (m[i]?.map (·.k)).getD 0
def tyD (l : List Ty) (k : Int) : Ty := l[k.toNat]?.getD ⟨0, false, ⟨#[]⟩⟩
theorem chkTypes_ok : ∀ (l : List Ty), chkTypes l = 0 -> ∀ x ∈ l, okOff x.off = true /\ abbrB x.name = true
 | [], _, x, hx => by simp at hx
 | y :: r, h, x, hx => by
  unfold chkTypes at h
  split at h
  ·split at h
   ·rcases List.mem_cons.1 hx with rfl | hx
    ·exact ⟨‹_›, ‹_›⟩
    ·exact chkTypes_ok r h x hx
   ·omega
  ·omega
theorem chkChs_ok (last : Int) : ∀ (m : List Ch) (prev : Option Int), chkChs last prev m = 0 ->
 (∀ x ∈ m, okTime x.t = true /\ okIdx last x.k = true) /\ (∀ p, prev = some p -> ∀ x ∈ m, p < x.t) /\ m.Pairwise (fun a b => a.t < b.t)
 | [], _, _ => ⟨by simp, by simp, List.Pairwise.nil⟩
 | c :: r, prev, h => by
  unfold chkChs at h
  split at h
  ·split at h
   ·omega
   ·rename_i h1 h2
    obtain ⟨i1, i2, i3⟩ := chkChs_ok last r (some c.t) h
    simp only [Bool.and_eq_true] at h1
    have hp : ∀ p, prev = some p -> p < c.t := by
     intro p hp
     subst hp
     simpa [before] using h2
    refine ⟨fun x hx => ?_, fun p hpp x hx => ?_, ?_⟩
    ·rcases List.mem_cons.1 hx with rfl | hx
     ·exact h1
     ·exact i1 x hx
    ·rcases List.mem_cons.1 hx with rfl | hx
     ·exact hp p hpp
     ·have := i2 c.t rfl x hx
      have := hp p hpp
      omega
    ·exact List.Pairwise.cons (fun x hx => i2 c.t rfl x hx) i3
  ·omega
structure OkTab (t : Tab) : Prop where
 ne : t.types ≠ []
 many : t.types.length <= 250
 chs : t.chs.length <= 1000
 type : ∀ x ∈ t.types, -75600 <= x.off /\ x.off <= 75600 /\ abbrB x.name = true
 first : 0 <= t.first /\ t.first < t.types.length
 ch : ∀ x ∈ t.chs, -1099511627776 <= x.t /\ x.t <= 1099511627776 /\ 0 <= x.k /\ x.k < t.types.length
 rise : t.chs.Pairwise (fun a b => a.t < b.t)
theorem chk_ok (t : Tab) (h : chk t = 0) : OkTab t := by
 unfold chk at h
 split at h
 ·omega
 ·rename_i hb
  split at h
  ·omega
  ·rename_i hn
   split at h
   ·rename_i ht
    split at h
    ·rename_i hf
     obtain ⟨c1, _, c3⟩ := chkChs_ok _ _ _ h
     have hb' : ¬ (250 < t.types.length \/ 1000 < t.chs.length) := by simpa [big] using hb
     simp only [okIdx, decide_eq_true_eq] at hf
     refine ⟨hn, by omega, by omega, fun x hx => ?_, by omega, fun x hx => ?_, c3⟩
     ·have := chkTypes_ok _ ht x hx
      simp only [okOff, decide_eq_true_eq] at this
      exact ⟨this.1.1, this.1.2, this.2⟩
     ·have := c1 x hx
      simp only [okTime, okIdx, decide_eq_true_eq] at this
      omega
    ·omega
   ·exact absurd h ‹_›
theorem tAt_mono (m : List Ch) (h : m.Pairwise (fun a b => a.t < b.t)) (i j : Nat) (hij : i <= j) (hj : j < m.length) : tAt m i <= tAt m j := by
 unfold tAt
 rw [List.getElem?_eq_getElem hj, List.getElem?_eq_getElem (by omega)]
 by_cases e : i = j
 ·subst e; exact Int.le_refl _
 ·have := List.pairwise_iff_getElem.1 h i j (by omega) hj (by omega)
  simp; omega
theorem length_sub {α : Type} [DecidableEq α] : ∀ (l m : List α), l.Nodup -> (∀ x ∈ l, x ∈ m) -> l.length <= m.length
 | [], m, _, _ => Nat.zero_le _
 | a :: l, m, hn, hs => by
  rw [List.nodup_cons] at hn
  have ha := hs a (by simp)
  have := length_sub l (m.erase a) hn.2 (fun x hx => (List.mem_erase_of_ne (fun (e : x = a) => hn.1 (by rw [<- e]; exact hx))).2 (hs x (by simp [hx])))
  rw [List.length_erase_of_mem ha] at this
  have : 0 < m.length := List.length_pos_of_mem ha
  simp; omega
def cntOf (m : List Ch) (x : Int) : Nat := cntF (fun i => decide (x < tAt m i)) m.length
def kOf (f : Int) (m : List Ch) (x : Int) : Int := if cntOf m x = 0 then f else kAt m (cntOf m x - 1)
def tyOf (t : Tab) (x : Int) : Ty := tyD t.types (kOf t.first t.chs x)
theorem cntOf_le (m : List Ch) (x : Int) : cntOf m x <= m.length := by
 unfold cntOf cntF
 have := List.countP_le_length (p := fun i => !decide (x < tAt m i)) (l := List.range m.length)
 simpa using this
end Go.Proofs.YtomahddiclkepaaGreatDoor
namespace Go.Proofs.YtomahddiclkepaaGreatDoor
open Classical
structure NS where
 types : List Ty
 chs : List Ch
 last : Ty
noncomputable def idxTy (l : List Ty) (x : Ty) : Nat := l.findIdx (fun y => decide (y = x))
noncomputable def addTy (l : List Ty) (x : Ty) : List Ty := if x ∈ l then l else l ++ [x]
noncomputable def stepN (s : NS) (c : Int × Ty) : NS := if c.2 = s.last then s else ⟨addTy s.types c.2, s.chs ++ [⟨c.1, idxTy s.types c.2⟩], c.2⟩
def begN (x : Ty) : NS := ⟨[x], [], x⟩
noncomputable def makeN (x : Ty) (l : List (Int × Ty)) : NS := l.foldl stepN (begN x)
noncomputable def normR (x : Ty) (l : List (Int × Ty)) : Tab := ⟨(makeN x l).types, 0, (makeN x l).chs⟩
def resH (t : Tab) : Ty := tyD t.types t.first
def resL (t : Tab) : List (Int × Ty) := t.chs.map fun c => (c.t, tyD t.types c.k)
noncomputable def normT (t : Tab) : Tab := normR (resH t) (resL t)
noncomputable def squ : Ty -> List (Int × Ty) -> List (Int × Ty)
 | _, [] => []
 | last, c :: r => if c.2 = last then squ last r else c :: squ c.2 r
theorem idx_in {l : List Ty} {x : Ty} (h : x ∈ l) : idxTy l x < l.length /\ tyD l (idxTy l x : Nat) = x := by
 have hlt : idxTy l x < l.length := List.findIdx_lt_length_of_exists ⟨x, h, by simp⟩
 refine ⟨hlt, ?_⟩
 have h2 := List.findIdx_getElem (p := fun y => decide (y = x)) (xs := l) (w := hlt)
 have h3 : l[l.findIdx fun y => decide (y = x)] = x := by simpa using h2
 unfold tyD idxTy
 rw [show ((l.findIdx (fun y => decide (y = x)) : Nat) : Int).toNat = l.findIdx (fun y => decide (y = x)) by omega, List.getElem?_eq_getElem (show l.findIdx (fun y => decide (y = x)) < l.length from hlt)]
 exact h3
theorem idx_out {l : List Ty} {x : Ty} (h : x ∉ l) : idxTy l x = l.length := by
 unfold idxTy
 exact List.findIdx_eq_length_of_false (fun y hy => by simp; rintro rfl; exact h hy)
theorem tyD_app (l m : List Ty) (k : Int) (h0 : 0 <= k) (h : k < l.length) : tyD (l ++ m) k = tyD l k := by
 unfold tyD
 rw [List.getElem?_append_left (by omega)]
theorem tyD_add (l : List Ty) (x : Ty) (k : Int) (h0 : 0 <= k) (h : k < l.length) : tyD (addTy l x) k = tyD l k := by
 unfold addTy
 split
 ·rfl
 ·exact tyD_app _ _ _ h0 h
theorem tyD_idx (l : List Ty) (x : Ty) : tyD (addTy l x) (idxTy l x : Nat) = x /\ idxTy l x < (addTy l x).length := by
 unfold addTy
 split
 ·next h => exact ⟨(idx_in h).2, (idx_in h).1⟩
 ·next h =>
  rw [idx_out h]
  refine ⟨?_, by simp⟩
  unfold tyD
  simp
theorem add_length (l : List Ty) (x : Ty) : l.length <= (addTy l x).length := by
 unfold addTy; split <;> simp
theorem add_nodup {l : List Ty} {x : Ty} (h : l.Nodup) : (addTy l x).Nodup := by
 unfold addTy
 split
 ·exact h
 ·next hx =>
  rw [List.nodup_append]
  refine ⟨h, by simp, ?_⟩
  intro a ha b hb
  simp only [List.mem_singleton] at hb
  subst hb
  rintro rfl
  exact hx ha
theorem mem_add {l : List Ty} {x y : Ty} : y ∈ addTy l x ↔ y ∈ l \/ y = x := by
 unfold addTy
 split
 ·next h => exact ⟨.inl, fun h2 => h2.elim id (fun e => e ▸ h)⟩
 ·simp
structure NInv (x : Ty) (s : NS) : Prop where
 nodup : s.types.Nodup
 head : tyD s.types 0 = x
 pos : 0 < s.types.length
 lastIn : s.last ∈ s.types
 ks : ∀ c ∈ s.chs, 0 <= c.k /\ c.k < s.types.length
theorem begN_inv (x : Ty) : NInv x (begN x) := ⟨by simp [begN], by simp [begN, tyD], by simp [begN], by simp [begN], by simp [begN]⟩
theorem stepN_inv {x : Ty} {s : NS} (h : NInv x s) (c : Int × Ty) : NInv x (stepN s c) := by
 unfold stepN
 split
 ·exact h
 ·have hl := add_length s.types c.2
  refine ⟨add_nodup h.nodup, (tyD_add _ _ 0 (by omega) (by have := h.pos; omega)).trans h.head, by have := h.pos; show 0 < (addTy s.types c.2).length; omega, mem_add.2 (.inr rfl), ?_⟩
  intro d hd
  simp only [List.mem_append, List.mem_singleton] at hd
  show 0 <= d.k /\ d.k < ((addTy s.types c.2).length : Int)
  rcases hd with hd | rfl
  ·have := h.ks d hd; omega
  ·have := (tyD_idx s.types c.2).2
   show 0 <= ((idxTy s.types c.2 : Nat) : Int) /\ ((idxTy s.types c.2 : Nat) : Int) < _
   omega
theorem makeN_inv {x : Ty} (l : List (Int × Ty)) : ∀ s, NInv x s -> NInv x (l.foldl stepN s) := by
 induction l with
 | nil => intro s h; exact h
 | cons c r ih => intro s h; exact ih _ (stepN_inv h c)
def resS (s : NS) : List (Int × Ty) := s.chs.map fun c => (c.t, tyD s.types c.k)
theorem stepN_res {x : Ty} {s : NS} (h : NInv x s) (c : Int × Ty) : resS (stepN s c) = resS s ++ (if c.2 = s.last then [] else [c]) := by
 unfold stepN
 split
 ·simp
 ·unfold resS
  simp only [List.map_append, List.map_cons, List.map_nil]
  congr 1
  ·apply List.map_congr_left
   intro d hd
   have := h.ks d hd
   rw [tyD_add _ _ _ this.1 this.2]
  ·rw [(tyD_idx s.types c.2).1]
theorem makeN_res {x : Ty} (l : List (Int × Ty)) : ∀ s, NInv x s -> resS (l.foldl stepN s) = resS s ++ squ s.last l := by
 induction l with
 | nil => intro s _; simp [squ]
 | cons c r ih =>
  intro s h
  rw [List.foldl_cons, ih _ (stepN_inv h c), stepN_res h c]
  simp only [squ]
  by_cases e : c.2 = s.last
  ·have : stepN s c = s := if_pos e
   rw [if_pos e, if_pos e, this]
   simp
  ·have : (stepN s c).last = c.2 := by unfold stepN; rw [if_neg e]
   rw [if_neg e, if_neg e, this]
   simp
theorem resL_norm (x : Ty) (l : List (Int × Ty)) : resL (normR x l) = squ x l := by
 have := makeN_res l (begN x) (begN_inv x)
 exact this
theorem resH_norm (x : Ty) (l : List (Int × Ty)) : resH (normR x l) = x := (makeN_inv l (begN x) (begN_inv x)).head
theorem fold_squ (l : List (Int × Ty)) : ∀ s : NS, l.foldl stepN s = (squ s.last l).foldl stepN s := by
 induction l with
 | nil => intro s; rfl
 | cons c r ih =>
  intro s
  simp only [squ]
  by_cases e : c.2 = s.last
  ·have : stepN s c = s := if_pos e
   rw [if_pos e, List.foldl_cons, this]
   exact ih s
  ·have : (stepN s c).last = c.2 := by unfold stepN; rw [if_neg e]
   rw [if_neg e, List.foldl_cons, List.foldl_cons, ih, this]
theorem normR_squ (x : Ty) (l : List (Int × Ty)) : normR x (squ x l) = normR x l := by
 unfold normR makeN
 have := fold_squ l (begN x)
 rw [show (begN x).last = x from rfl] at this
 rw [this]
theorem normT_norm (t : Tab) : normT (normT t) = normT t := by
 unfold normT
 rw [resL_norm, resH_norm, normR_squ]
def valL (x : Ty) (l : List (Int × Ty)) (y : Int) : Ty := l.foldl (fun a c => if c.1 <= y then c.2 else a) x
def RiseL (l : List (Int × Ty)) : Prop := l.Pairwise (fun a b => a.1 < b.1)
theorem valL_late (l : List (Int × Ty)) (y : Int) : ∀ x, (∀ c ∈ l, y < c.1) -> valL x l y = x := by
 induction l with
 | nil => intro x _; rfl
 | cons c r ih =>
  intro x h
  have hc := h c (by simp)
  unfold valL
  rw [List.foldl_cons, if_neg (by omega)]
  exact ih x (fun d hd => h d (by simp [hd]))
theorem valL_squ (l : List (Int × Ty)) (y : Int) : ∀ (acc last : Ty), RiseL l -> (acc = last \/ ∀ c ∈ l, y < c.1) -> valL acc (squ last l) y = valL acc l y := by
 induction l with
 | nil => intro acc last _ _; rfl
 | cons c r ih =>
  intro acc last hr h
  have hr2 := List.pairwise_cons.1 hr
  simp only [squ]
  by_cases e : c.2 = last
  ·rw [if_pos e]
   have e2 : valL acc (c :: r) y = valL (if c.1 <= y then c.2 else acc) r y := rfl
   rw [e2]
   rcases h with h | h
   ·have : (if c.1 <= y then c.2 else acc) = acc := by split; rw [e, h]; rfl
    rw [this]
    exact ih acc last hr2.2 (.inl h)
   ·have hc := h c (by simp)
    rw [if_neg (by omega)]
    exact ih acc last hr2.2 (.inr fun d hd => h d (by simp [hd]))
  ·rw [if_neg e]
   show valL (if c.1 <= y then c.2 else acc) (squ c.2 r) y = valL (if c.1 <= y then c.2 else acc) r y
   by_cases hc : c.1 <= y
   ·rw [if_pos hc]
    exact ih _ _ hr2.2 (.inl rfl)
   ·rw [if_neg hc]
    exact ih _ _ hr2.2 (.inr fun d hd => by have := hr2.1 d hd; omega)
theorem resL_rise (t : Tab) (ok : OkTab t) : RiseL (resL t) := by
 unfold RiseL resL
 rw [List.pairwise_map]
 exact ok.rise
theorem squ_sub (l : List (Int × Ty)) : ∀ last, (squ last l).Sublist l := by
 induction l with
 | nil => intro last; exact List.Sublist.refl _
 | cons c r ih =>
  intro last
  simp only [squ]
  split
  ·exact (ih last).cons c
  ·exact (ih c.2).cons_cons c
theorem makeN_types {x : Ty} (l : List (Int × Ty)) : ∀ s : NS, ∀ y ∈ (l.foldl stepN s).types, y ∈ s.types \/ ∃ c ∈ l, c.2 = y := by
 induction l with
 | nil => intro s y hy; exact .inl hy
 | cons c r ih =>
  intro s y hy
  rw [List.foldl_cons] at hy
  rcases ih _ y hy with h | ⟨d, hd, rfl⟩
  ·unfold stepN at h
   split at h
   ·exact .inl h
   ·rcases mem_add.1 h with h | h
    ·exact .inl h
    ·exact .inr ⟨c, by simp, h.symm⟩
  ·exact .inr ⟨d, by simp [hd], rfl⟩
theorem tyD_mem (l : List Ty) (k : Int) (h0 : 0 <= k) (h : k < l.length) : tyD l k ∈ l := by
 unfold tyD
 rw [List.getElem?_eq_getElem (by omega)]
 exact List.getElem_mem _
theorem norm_types (t : Tab) (ok : OkTab t) : ∀ y ∈ (normT t).types, y ∈ t.types := by
 intro y hy
 rcases makeN_types (x := resH t) (resL t) (begN (resH t)) y hy with h | ⟨c, hc, rfl⟩
 ·simp only [begN, List.mem_singleton] at h
  subst h
  exact tyD_mem _ _ ok.first.1 ok.first.2
 ·obtain ⟨d, hd, rfl⟩ := List.mem_map.1 hc
  have := ok.ch d hd
  exact tyD_mem _ _ this.2.2.1 this.2.2.2
theorem resL_times (u : Tab) : (resL u).map (·.1) = u.chs.map (·.t) := by simp [resL]
theorem norm_times (t : Tab) : ((normT t).chs.map (·.t)).Sublist (t.chs.map (·.t)) := by
 rw [<- resL_times, <- resL_times]
 have : resL (normT t) = squ (resH t) (resL t) := resL_norm _ _
 rw [this]
 exact (squ_sub _ _).map _
theorem norm_ok (t : Tab) (ok : OkTab t) : OkTab (normT t) := by
 have inv := makeN_inv (resL t) (begN (resH t)) (begN_inv (resH t))
 have hsub := norm_types t ok
 have htm := norm_times t
 have hlen := htm.length_le
 simp only [List.length_map] at hlen
 have hmany : (normT t).types.length <= t.types.length := length_sub _ _ inv.nodup hsub
 refine ⟨fun e => ?_, by have := ok.many; omega, by have := ok.chs; omega, fun x hx => ok.type x (hsub x hx), ⟨Int.le_refl _, ?_⟩, fun c hc => ?_, ?_⟩
 ·have := inv.pos
  have e' : (makeN (resH t) (resL t)).types = [] := e
  unfold makeN at e'
  rw [e'] at this
  simp at this
 ·have := inv.pos
  show (0 : Int) < ((List.foldl stepN (begN (resH t)) (resL t)).types.length : Int)
  omega
 ·have hk := inv.ks c hc
  have hm : c.t ∈ t.chs.map (·.t) := htm.subset (List.mem_map.2 ⟨c, hc, rfl⟩)
  obtain ⟨d, hd, e⟩ := List.mem_map.1 hm
  have := ok.ch d hd
  rw [e] at this
  exact ⟨this.1, this.2.1, hk.1, hk.2⟩
 ·have h1 : (t.chs.map (·.t)).Pairwise (· < ·) := List.pairwise_map.2 ok.rise
  exact List.pairwise_map.1 (h1.sublist htm)
theorem chkTypes_of : ∀ (l : List Ty), (∀ x ∈ l, -75600 <= x.off /\ x.off <= 75600 /\ abbrB x.name = true) -> chkTypes l = 0
 | [], _ => rfl
 | x :: r, h => by
  obtain ⟨a, b, c⟩ := h x (by simp)
  unfold chkTypes
  rw [if_pos (by simp [okOff, a, b]), if_pos c]
  exact chkTypes_of r (fun y hy => h y (by simp [hy]))
theorem chkChs_of (last : Int) : ∀ (m : List Ch) (prev : Option Int), (∀ x ∈ m, okTime x.t = true /\ okIdx last x.k = true) -> (∀ p, prev = some p -> ∀ x ∈ m, p < x.t) -> m.Pairwise (fun a b => a.t < b.t) -> chkChs last prev m = 0
 | [], _, _, _, _ => rfl
 | c :: r, prev, h1, h2, h3 => by
  have hc := h1 c (by simp)
  have hp := List.pairwise_cons.1 h3
  unfold chkChs
  rw [if_pos (by simp [hc.1, hc.2])]
  have hb : before prev c.t = false := by
   unfold before
   cases prev with
   | none => rfl
   | some p => have := h2 p rfl c (by simp); simp; omega
  rw [if_neg (by simp [hb])]
  exact chkChs_of last r (some c.t) (fun x hx => h1 x (by simp [hx])) (fun p hp' x hx => by cases hp'; exact hp.1 x hx) hp.2
theorem ok_chk (t : Tab) (ok : OkTab t) : chk t = 0 := by
 unfold chk
 rw [if_neg (by have h1 := ok.many; have h2 := ok.chs; simp [big]; omega), if_neg ok.ne, if_pos (chkTypes_of _ ok.type), if_pos (by have := ok.first; simp [okIdx]; omega)]
 exact chkChs_of _ _ none (fun x hx => by have := ok.ch x hx; simp [okTime, okIdx]; omega) (by simp) ok.rise
end Go.Proofs.YtomahddiclkepaaGreatDoor
namespace Go.Proofs.YtomahddiclkepaaGreatDoor
open Classical
theorem valL_cons (x : Ty) (c : Int × Ty) (r : List (Int × Ty)) (y : Int) : valL x (c :: r) y = valL (if c.1 <= y then c.2 else x) r y := rfl
theorem valL_none {l : List (Int × Ty)} {y : Int} (h : ∀ c ∈ l, c.1 ≠ y) : ∀ x, valL x l y = valL x l (y - 1) := by
 induction l with
 | nil => intro x; rfl
 | cons c r ih =>
  intro x
  have hc := h c (List.mem_cons_self ..)
  rw [valL_cons, valL_cons, ih fun d hd => h d (List.mem_cons_of_mem _ hd)]
  by_cases e : c.1 <= y
  ·rw [if_pos e, if_pos (by omega)]
  ·rw [if_neg e, if_neg (by omega)]
theorem valL_at {l : List (Int × Ty)} (hr : RiseL l) {c : Int × Ty} (hc : c ∈ l) : ∀ x, valL x l c.1 = c.2 := by
 induction l with
 | nil => cases hc
 | cons d r ih =>
  intro x
  have hp := List.pairwise_cons.1 hr
  rw [valL_cons]
  rcases List.mem_cons.1 hc with rfl | hc
  ·rw [if_pos (Int.le_refl _)]
   exact valL_late _ _ _ fun d hd => hp.1 d hd
  ·exact ih hp.2 hc _
theorem valL_mem (l : List (Int × Ty)) (y : Int) : ∀ x, valL x l y = x \/ ∃ c ∈ l, c.1 <= y /\ valL x l y = c.2 := by
 induction l with
 | nil => intro x; exact .inl rfl
 | cons d r ih =>
  intro x
  rw [valL_cons]
  rcases ih (if d.1 <= y then d.2 else x) with h | ⟨c, hc, h1, h2⟩
  ·by_cases e : d.1 <= y
   ·rw [if_pos e] at h ⊢
    exact .inr ⟨d, List.mem_cons_self .., e, h⟩
   ·rw [if_neg e] at h ⊢
    exact .inl h
  ·exact .inr ⟨c, List.mem_cons_of_mem _ hc, h1, h2⟩
theorem valL_fun {l : List (Int × Ty)} (hr : RiseL l) (f : Int -> Ty) (lo : Int) (hlo : ∀ c ∈ l, lo < c.1) (hf : ∀ c ∈ l, c.2 = f c.1) : ∀ (n : Nat), (∀ z, lo < z -> z <= lo + n -> (∀ c ∈ l, c.1 ≠ z) -> f z = f (z - 1)) -> valL (f lo) l (lo + n) = f (lo + n)
 | 0, _ => by
  rw [show lo + ((0 : Nat) : Int) = lo by omega]
  exact valL_late _ _ _ hlo
 | n + 1, hs => by
  have ih := valL_fun hr f lo hlo hf n fun z h1 h2 => hs z h1 (by omega)
  by_cases h : ∃ c ∈ l, c.1 = lo + ((n + 1 : Nat) : Int)
  ·obtain ⟨c, hc, e⟩ := h
   rw [<- e, valL_at hr hc, hf c hc]
  ·have hn : ∀ c ∈ l, c.1 ≠ lo + ((n + 1 : Nat) : Int) := fun c hc e => h ⟨c, hc, e⟩
   rw [valL_none hn, hs _ (by omega) (Int.le_refl _) hn, show lo + ((n + 1 : Nat) : Int) - 1 = lo + (n : Int) by omega]
   exact ih
theorem squ_mem {l : List (Int × Ty)} : ∀ {x : Ty}, RiseL l -> ∀ c : Int × Ty, c ∈ squ x l ↔ (valL x l c.1 ≠ valL x l (c.1 - 1) /\ c.2 = valL x l c.1) := by
 induction l with
 | nil => intro x _ c; simp [squ, valL]
 | cons d r ih =>
  intro x hr c
  have hp := List.pairwise_cons.1 hr
  simp only [squ]
  by_cases e : d.2 = x
  ·rw [if_pos e, ih hp.2]
   have : ∀ y, valL x (d :: r) y = valL x r y := fun y => by
    rw [valL_cons]
    have : (if d.1 <= y then d.2 else x) = x := by split; exact e; rfl
    rw [this]
   rw [this, this]
  ·rw [if_neg e, List.mem_cons, ih hp.2]
   rw [valL_cons, valL_cons]
   have late : ∀ y, y <= d.1 -> ∀ z, valL z r y = z := fun y hy z => valL_late _ _ _ fun q hq => by have := hp.1 q hq; omega
   rcases Int.lt_trichotomy c.1 d.1 with h | h | h
   ·rw [if_neg (by omega), if_neg (by omega), late _ (by omega), late _ (by omega), late _ (by omega), late _ (by omega)]
    constructor
    ·rintro (rfl | ⟨h1, -⟩)
     ·omega
     ·exact absurd rfl h1
    ·rintro ⟨h1, -⟩
     exact absurd rfl h1
   ·rw [if_pos (by omega), if_neg (by omega), late _ (by omega), late _ (by omega), late _ (by omega)]
    constructor
    ·rintro (rfl | ⟨h1, -⟩)
     ·exact ⟨e, rfl⟩
     ·exact absurd rfl h1
    ·rintro ⟨h1, h2⟩
     exact .inl (Prod.ext h h2)
   ·rw [if_pos (by omega), if_pos (by omega)]
    constructor
    ·rintro (rfl | h1)
     ·omega
     ·exact h1
    ·intro h1
     exact .inr h1
theorem squ_rise {l : List (Int × Ty)} (h : RiseL l) (x : Ty) : RiseL (squ x l) := h.sublist (squ_sub l x)
theorem rise_ext : ∀ {l m : List (Int × Ty)}, RiseL l -> RiseL m -> (∀ c, c ∈ l ↔ c ∈ m) -> l = m
 | [], [], _, _, _ => rfl
 | [], d :: m, _, _, h => absurd ((h d).2 (List.mem_cons_self ..)) (List.not_mem_nil)
 | c :: l, [], _, _, h => absurd ((h c).1 (List.mem_cons_self ..)) (List.not_mem_nil)
 | c :: l, d :: m, hl, hm, h => by
  have hp := List.pairwise_cons.1 hl
  have hq := List.pairwise_cons.1 hm
  have e : c = d := by
   rcases List.mem_cons.1 ((h c).1 (List.mem_cons_self ..)) with e | h1
   ·exact e
   ·rcases List.mem_cons.1 ((h d).2 (List.mem_cons_self ..)) with e | h2
    ·exact e.symm
    ·have := hq.1 c h1; have := hp.1 d h2; omega
  subst e
  rw [rise_ext hp.2 hq.2 fun x => ?_]
  constructor
  ·intro hx
   rcases List.mem_cons.1 ((h x).1 (List.mem_cons_of_mem _ hx)) with rfl | h1
   ·have := hp.1 x hx; omega
   ·exact h1
  ·intro hx
   rcases List.mem_cons.1 ((h x).2 (List.mem_cons_of_mem _ hx)) with rfl | h1
   ·have := hq.1 x hx; omega
   ·exact h1
theorem norm_tyMem (x : Ty) (l : List (Int × Ty)) (y : Ty) : y ∈ (normR x l).types ↔ y = x \/ ∃ c ∈ squ x l, c.2 = y := by
 have inv := makeN_inv l (begN x) (begN_inv x)
 have hres : resL (normR x l) = squ x l := resL_norm x l
 have hH : tyD (normR x l).types 0 = x := inv.head
 constructor
 ·intro hy
  have hy2 : y ∈ (normR x (squ x l)).types := by rw [normR_squ]; exact hy
  rcases makeN_types (x := x) (squ x l) (begN x) y hy2 with h | ⟨c, hc, rfl⟩
  ·simp only [begN, List.mem_singleton] at h; exact .inl h
  ·exact .inr ⟨c, hc, rfl⟩
 ·rintro (hy | ⟨c, hc, rfl⟩)
  ·have hm : tyD (normR x l).types 0 ∈ (normR x l).types := tyD_mem (normR x l).types 0 (Int.le_refl _) (by have h0 : 0 < (normR x l).types.length := inv.pos; omega)
   rw [hH] at hm
   rw [hy]
   exact hm
  ·rw [<- hres] at hc
   obtain ⟨d, hd, rfl⟩ := List.mem_map.1 hc
   have := inv.ks d hd
   exact tyD_mem _ _ this.1 this.2
theorem norm_chT (x : Ty) (l : List (Int × Ty)) : (normR x l).chs.map (·.t) = (squ x l).map (·.1) := by
 rw [<- resL_norm x l, resL_times]
theorem normR_ok {x : Ty} {l : List (Int × Ty)} (hr : RiseL l) (hx : ∀ y, (y = x \/ ∃ c ∈ l, c.2 = y) -> -75600 <= y.off /\ y.off <= 75600 /\ abbrB y.name = true) (ht : ∀ c ∈ l, -1099511627776 <= c.1 /\ c.1 <= 1099511627776)
 (h1 : (normR x l).types.length <= 250) (h2 : (normR x l).chs.length <= 1000) : OkTab (normR x l) := by
 have inv := makeN_inv l (begN x) (begN_inv x)
 have hpos : 0 < (normR x l).types.length := inv.pos
 have htm : ((normR x l).chs.map (·.t)).Sublist (l.map (·.1)) := by rw [norm_chT]; exact (squ_sub l x).map _
 refine ⟨fun e => by rw [e] at hpos; simp at hpos, h1, h2, fun y hy => ?_, ⟨Int.le_refl _, by show (0 : Int) < _; omega⟩, fun c hc => ?_, ?_⟩
 ·refine hx y ?_
  rcases (norm_tyMem x l y).1 hy with h | ⟨c, hc, e⟩
  ·exact .inl h
  ·exact .inr ⟨c, (squ_sub l x).subset hc, e⟩
 ·obtain ⟨d, hd, e⟩ := List.mem_map.1 (htm.subset (List.mem_map.2 ⟨c, hc, rfl⟩))
  have := ht d hd
  have hk := inv.ks c hc
  rw [e] at this
  exact ⟨this.1, this.2, hk.1, hk.2⟩
 ·have h1 : (l.map (·.1)).Pairwise (· < ·) := List.pairwise_map.2 hr
  exact List.pairwise_map.1 (h1.sublist htm)
end Go.Proofs.YtomahddiclkepaaGreatDoor
