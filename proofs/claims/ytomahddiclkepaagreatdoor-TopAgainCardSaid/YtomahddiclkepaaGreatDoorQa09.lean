/- names.Resolve: what it returns. NamesZones: the plain law: a zone's name leads to it, a link where its target leads. state: an era with its turns; which type it is at a time: plain functions and facts. What a list of changes says, by steps of one second; lists that rise are told by their members: plain. table.Make: what it answers; when a table changes: plain. Abbreviations that come of a format are abbreviations: plain. What a table says at a time, by its changes: plain. The laws of tables that are made, in plain words. The laws of states, in plain words. Laws of two tables of one zone: parts of a span, spans that meet; a table and the state: plain. -/
import Derived.Test.YtomahddiclkepaaGreatDoorQa08
import Derived.Deep.AppendLies
import Derived.Laws.AppendOwn
import Derived.Laws.OwnMore
import Derived.Lib.SliceRun
import Derived.Test.YtomahddiclkepaaGreatDoorQa01
import Derived.Test.YtomahddiclkepaaGreatDoorQa04
namespace Go.Proofs.YtomahddiclkepaaGreatDoor
open Go.RowKit Go.Joins Go.Maps
open Classical
set_option linter.unusedVariables false
set_option linter.unusedSimpArgs false
abbrev erL (x : Er) : List Value := (erCells x).toList
def erFlat (l : List Er) : List Value := l.flatMap erL
theorem infoEr : (Tryz.prog.info? 43).map (fun i => (i.zero, i.size, i.bytes)) = some (some (.agg #[.int .i64 0, .string ⟨#[]⟩, .int .i64 0, .string ⟨#[]⟩, .int .i64 0]), 5, 56) := by kernel_rfl
theorem undErS : Tryz.prog.underlying 44 = some (.slice 43) := by kernel_rfl
theorem erFlat_len (l : List Er) : (erFlat l).length = l.length * 5 := by
 induction l with
 | nil => rfl
 | cons x r ih =>
  have e : erFlat (x :: r) = erL x ++ erFlat r := by simp [erFlat]
  rw [e, List.length_append, ih]
  simp
  omega
theorem erFlat_get : ∀ (l : List Er) (j : Nat) (u : Value), (erFlat l)[j]? = some u → ∃ i, ∃ h : i < l.length, ∃ m, j = i * 5 + m ∧ (erL l[i])[m]? = some u
 | [], j, u, h => by simp [erFlat] at h
 | x :: r, j, u, h => by
  have e : erFlat (x :: r) = erL x ++ erFlat r := by simp [erFlat]
  rw [e] at h
  by_cases hj : j < 5
  ·rw [List.getElem?_append_left (by simpa using hj)] at h
   exact ⟨0, by simp, j, by omega, h⟩
  ·rw [List.getElem?_append_right (by simpa using Nat.le_of_not_lt hj)] at h
   obtain ⟨i, hi, m, e1, e2⟩ := erFlat_get r _ u h
   have e3 : (erL x).length = 5 := rfl
   rw [e3] at e1
   exact ⟨i + 1, by simpa using hi, m, by omega, e2⟩
theorem erFlat_one (l : List Er) : ∀ u ∈ erFlat l, u.oneCell' = true := by
 intro u hu
 obtain ⟨x, -, hx⟩ := List.mem_flatMap.1 hu
 simp at hx
 rcases hx with rfl | rfl | rfl | rfl | rfl <;> rfl
set_option maxRecDepth 100000 in
set_option maxHeartbeats 1000000 in
theorem CloneEr_any (l : List Er) (v : Value) (B : Nat) (w : World) (h : RowsAt erL 5 B w v l) (hl : l.length ≤ 1000) :
  Calls Tryz.prog 101 #[v] w fun e w' => ∃ vo, e = .returned vo ∧ w'.ownsRow w.heap.size 43 5 vo l.length (erFlat l) ∧ Below w.heap.size w w' := by
 obtain ⟨p, cap, rfl, hlen, hrow⟩ := h
 have qT : ∀ (W : World) (a : Option Addr) (n c n' c' : Nat), (binOp .eql 44 (.slice a n c) (.slice none n' c')).run Tryz.prog W = .ok (.bool a.isNone) W := fun W a n c n' c' => Lib.run_eql_slice_nil W _ _ a n c n' c' undErS
 cases p with
 | none =>
  have : l = [] := by
   by_cases hn : l = []
   ·exact hn
   ·obtain ⟨b, o, e, -⟩ := hrow hn; cases e
  subst this
  clear hrow
  go_enter Tryz.func101, Tryz.ntmps101
  go_wp2_with fail
  go_ret
  exact ⟨_, rfl, World.ownsRow_nil _ _ _ _, Below.refl _ _⟩
 | some ad =>
  have hnews : ∀ j u, (erFlat l)[j]? = some u → w.cell? (ad.add j) = some u := by
   intro j u hu
   obtain ⟨i, hi, m, rfl, hm⟩ := erFlat_get l j u hu
   obtain ⟨b, o, e, hlt, hc⟩ := hrow (List.ne_nil_of_length_pos (by omega))
   injection e with e
   subst e
   have := hc i hi m u hm
   rw [Nat.add_assoc] at this
   have e2 : (⟨b, o, none⟩ : Addr).add (i * 5 + m) = ⟨b, o + (i * 5 + m), none⟩ := by
    unfold Addr.add
    split
    ·rename_i h0; rw [h0]; rfl
    ·rfl
   rw [e2]
   exact this
  have HNW := Lib.hid hnews
  have HFL := Lib.hid (erFlat_len l)
  have HFO := Lib.hid (erFlat_one l)
  obtain ⟨i1, hi1, hz10, hz11, hz12⟩ := info_parts infoEr
  obtain ⟨n, en⟩ : ∃ n, l.length = n := ⟨_, rfl⟩
  rw [en] at hl HFL ⊢
  clear hnews hrow hlen
  go_enter Tryz.func101, Tryz.ntmps101
  have hROW := World.ownsRow_lit (base := w.heap.size) (e := 43) (size := 5) w #[] 0 (Nat.le_refl _) (by decide) rfl
  have HROW := Lib.hid hROW
  have HNEW : Hid (∀ j u, (erFlat l)[j]? = some u → (w.alloc (.cells #[] 43)).cell? (ad.add j) = some u) := by
   show ∀ j u, _
   intro j u hu
   have h1 := HNW.out j u hu
   exact (((Below.refl w.heap.size w).alloc (Nat.le_refl _) (.cells #[] 43)).cell (p := ad.add j) (World.block_lt_of_cell? _ _ h1)).trans h1
  have HML : 0 + n ≤ maxLen := by simp only [maxLen]; omega
  have HMB : (0 + n) * 56 ≤ 140737488355328 := by omega
  have HSZ : w.heap.size ≤ (w.alloc (.cells #[] 43)).heap.size := by simp
  clear hROW
  go_wp2_with (at_builtin; refine wpList_append_own _ rfl _ _ 44 rfl w.heap.size 43 i1 (.agg #[.int .i64 0, .string ⟨#[]⟩, .int .i64 0, .string ⟨#[]⟩, .int .i64 0]) 5 56 undErS hi1 hz10 hz11 hz12 rfl (by decide) _ _ _ rfl HROW.out ad n cap (erFlat l) rfl HFL.out HNEW.out HFO.out HML HMB HSZ ?_; intro v' w10 hown10 hgrow10 _)
  go_ret
  refine ⟨_, rfl, ?_, (((Below.refl _ _).alloc (Nat.le_refl _) _).grown hgrow10 HSZ (fun q hq => (World.ownsRow.lt HROW.out q hq).1))⟩
  have := hown10
  simp only [Nat.zero_add] at this
  exact this
theorem bk_parts {b : Bk} (h : bkChk b = 0) : (∀ i (hi : i < b.zones.length), zoneChk b.rules (b.zones.take i) b.zones[i] = 0) ∧ ∀ i (hi : i < b.links.length), linkChk b (b.links.take i) b.links[i] = 0 := by
 by_cases h0 : 40 < b.rules.length ∨ 20 < b.zones.length ∨ 20 < b.links.length
 ·rw [bkChk_2 b h0] at h; cases h
 ·by_cases h1 : firstE ruChk b.rules = 0
  ·by_cases h2 : firstE (chkZ b) (List.range b.zones.length) = 0
   ·rw [bkChk_l b h0 h1 h2] at h
    exact ⟨fun i hi => by rw [← chkZ_at b i hi]; exact (firstE_zero _ _).1 h2 i (List.mem_range.2 hi), fun i hi => by rw [← chkL_at b i hi]; exact (firstE_zero _ _).1 h i (List.mem_range.2 hi)⟩
   ·rw [bkChk_z b h0 h1 h2] at h; exact absurd h h2
  ·rw [bkChk_r b h0 h1] at h; exact absurd h h1
structure ZoneOk (b : Bk) (i : Nat) (z : Zo) : Prop where
 nm : nameB z.nm = true
 fresh : ∀ y ∈ b.zones.take i, y.nm ≠ z.nm
 ne : z.eras ≠ []
 le : z.eras.length ≤ 700
 er : firstE (eraChk b.rules z.eras) (List.range z.eras.length) = 0
theorem bk_zone {b : Bk} (h : bkChk b = 0) (i : Nat) (hi : i < b.zones.length) : ZoneOk b i b.zones[i] := by
 have hz := (bk_parts h).1 i hi
 unfold zoneChk at hz
 split at hz
 ·cases hz
 ·rename_i h1
  split at hz
  ·cases hz
  ·rename_i h2
   split at hz
   ·cases hz
   ·rename_i h3
    split at hz
    ·cases hz
    ·rename_i h4
     refine ⟨by simpa using h1, fun y hy e => h2 (List.any_eq_true.2 ⟨y, hy, by simpa using e⟩), h3, by omega, hz⟩
theorem bk_er {b : Bk} (h : bkChk b = 0) {z : Zo} (hz : z ∈ b.zones) : z.eras ≠ [] ∧ z.eras.length ≤ 700 := by
 obtain ⟨i, hi, rfl⟩ := List.mem_iff_getElem.1 hz
 exact ⟨(bk_zone h i hi).ne, (bk_zone h i hi).le⟩
def rsv (b : Bk) (nm : ByteArray) : Option Zo × Int := if bkChk b ≠ 0 then (none, bkChk b) else resF b.zones b.links (Maps.size (DL b.links) + 1) nm
def zNm (z : Option Zo) : ByteArray := match z with | some z => z.nm | none => ⟨#[]⟩
def zEr (z : Option Zo) : List Er := match z with | some z => z.eras | none => []
def RsvPost (R : Option Zo × Int) (w : World) (e : Ending) (w' : World) : Prop :=
 ∃ vo, e = .returned (.tuple #[.agg #[.string (zNm R.1), vo], .int .i64 R.2]) ∧ w'.ownsRow w.heap.size 43 5 vo (zEr R.1).length (erFlat (zEr R.1)) ∧ Below w.heap.size w w'
theorem rsv_bad {b : Bk} {nm : ByteArray} (h : bkChk b ≠ 0) : rsv b nm = (none, bkChk b) := by unfold rsv; rw [if_pos h]
theorem rsv_go {b : Bk} {nm : ByteArray} (h : bkChk b = 0) : rsv b nm = resF b.zones b.links (Maps.size (DL b.links) + 1) nm := by unfold rsv; rw [if_neg (fun g => g h)]
theorem resF_in {zs : List Zo} {ls : List Lk} : ∀ {n : Nat} {k : ByteArray} {z : Zo} {c : Int}, resF zs ls n k = (some z, c) → z ∈ zs ∧ c = 0 := by
 intro n
 induction n with
 | zero => intro k z c h; cases h
 | succ n ih =>
  intro k z c h
  rw [resF] at h
  split at h
  ·rename_i z2 e
   cases h
   exact ⟨(lookF_in e).1, rfl⟩
  ·split at h
   ·cases h
   ·exact ih h
section
variable {α : Type} {key : α → ByteArray}
theorem lookF_keep {k : ByteArray} : ∀ (l : List α) (x : α), (l.foldl (fun acc x => if key x = k then some x else acc) (some x)).isSome = true
 | [], x => rfl
 | y :: r, x => by
  rw [List.foldl_cons]
  by_cases h : key y = k
  ·rw [if_pos h]; exact lookF_keep r y
  ·rw [if_neg h]; exact lookF_keep r x
theorem lookF_has {k : ByteArray} : ∀ (l : List α) (acc : Option α), (∃ x ∈ l, key x = k) → (l.foldl (fun acc x => if key x = k then some x else acc) acc).isSome = true
 | [], acc, h => by obtain ⟨x, hx, -⟩ := h; cases hx
 | y :: r, acc, h => by
  rw [List.foldl_cons]
  by_cases hy : key y = k
  ·rw [if_pos hy]; exact lookF_keep r y
  ·rw [if_neg hy]
   obtain ⟨x, hx, e⟩ := h
   rcases List.mem_cons.1 hx with rfl | hx
   ·exact absurd e hy
   ·exact lookF_has r acc ⟨x, hx, e⟩
theorem lookF_uniq {l : List α} (hu : ∀ x ∈ l, ∀ y ∈ l, key x = key y → x = y) {x : α} (hx : x ∈ l) : lookF key l (key x) = some x := by
 have h := lookF_has (key := key) (k := key x) l none ⟨x, hx, rfl⟩
 cases e : lookF key l (key x) with
 | none => unfold lookF at e; rw [e] at h; cases h
 | some y =>
  obtain ⟨hy, hk⟩ := lookF_in e
  rw [hu y hy x hx hk]
theorem uniq_of {l : List α} (h : ∀ i (hi : i < l.length), ∀ y ∈ l.take i, key y ≠ key l[i]) : ∀ x ∈ l, ∀ y ∈ l, key x = key y → x = y := by
 intro x hx y hy e
 obtain ⟨i, hi, rfl⟩ := List.mem_iff_getElem.1 hx
 obtain ⟨j, hj, rfl⟩ := List.mem_iff_getElem.1 hy
 rcases Nat.lt_trichotomy i j with hij | hij | hij
 ·exact absurd e (h j hj _ (List.mem_take_iff_getElem.2 ⟨i, by omega, rfl⟩))
 ·subst hij; rfl
 ·exact absurd e.symm (h i hi _ (List.mem_take_iff_getElem.2 ⟨j, by omega, rfl⟩))
end
theorem zones_uniq {b : Bk} (h : bkChk b = 0) : ∀ x ∈ b.zones, ∀ y ∈ b.zones, x.nm = y.nm → x = y := uniq_of (key := fun z : Zo => z.nm) fun i hi => (bk_zone h i hi).fresh
theorem rsv_zone {b : Bk} (h : bkChk b = 0) {z : Zo} (hz : z ∈ b.zones) : rsv b z.nm = (some z, 0) := by
 rw [rsv_go h]
 exact resF_z (lookF_uniq (key := fun z : Zo => z.nm) (zones_uniq h) hz)
end Go.Proofs.YtomahddiclkepaaGreatDoor
namespace Go.Proofs.YtomahddiclkepaaGreatDoor
open Go.RowKit Go.Joins Go.Maps
open Classical
set_option linter.unusedVariables false
set_option linter.unusedSimpArgs false
structure Td where
 er : Er
 ts : List Tn
 fst : ByteArray
def dashB : ByteArray := ⟨#[45]⟩
def fstK (l : List Tn) : Nat := l.findIdx fun u => decide (u.s = 0)
def firstLt (l : List Tn) : ByteArray := (l[fstK l]?.map (·.lt)).getD dashB
def tdE (rules : List Ru) (x : Er) : Int := if x.ru.data.toList = [] then 0 else (mkR rules x.ru x.off).1
def tdR (rules : List Ru) (x : Er) : Td := if x.ru.data.toList = [] then ⟨x, [], dashB⟩ else ⟨x, (mkR rules x.ru x.off).2, firstLt (mkR rules x.ru x.off).2⟩
theorem tdR_er (rules : List Ru) (x : Er) : (tdR rules x).er = x := by unfold tdR; split <;> rfl
def tnA (l : List Tn) (i : Nat) : Int := (l[i]?.map (·.a)).getD 0
def cntT (l : List Tn) (t : Int) : Nat := cntF (fun i => decide (t < tnA l i)) l.length
def svT (x : Td) (t : Int) : Int × ByteArray := match x.ts[cntT x.ts t - 1]? with
 | some u => if cntT x.ts t = 0 then (x.er.sv, x.fst) else (u.s, u.lt)
 | none => (x.er.sv, x.fst)
def nmT (x : Td) (t : Int) : ByteArray := txt (abbrF x.er.fm.data.toList (svT x t).1 (svT x t).2.data.toList).1
def tdTy (x : Td) (t : Int) : Ty := ⟨x.er.off + (svT x t).1, decide (0 < (svT x t).1), nmT x t⟩
def whichF (l : List Er) (t : Int) : Nat := cntF (fun i => decide (t < (eraAt l i).un)) (l.length - 1)
def ty0 : Ty := ⟨0, false, ⟨#[]⟩⟩
def stR (b : Bk) (nm : ByteArray) (t : Int) : Int × Ty :=
 match (rsv b nm).1 with
 | none => ((rsv b nm).2, ty0)
 | some z => if stampE t ≠ 0 then (stampE t, ty0) else
  if tdE b.rules (eraAt z.eras (whichF z.eras t)) ≠ 0 then (tdE b.rules (eraAt z.eras (whichF z.eras t)), ty0) else (0, tdTy (tdR b.rules (eraAt z.eras (whichF z.eras t))) t)
theorem bnd_ex (p : Nat → Bool) : ∀ (n : Nat), (∀ a b, a ≤ b → b < n → p a = true → p b = true) → ∃ h, h ≤ n ∧ (∀ t, t < h → p t = false) ∧ (∀ t, h ≤ t → t < n → p t = true)
 | 0, _ => ⟨0, Nat.le_refl _, fun t h => absurd h (Nat.not_lt_zero _), fun t _ h => absurd h (Nat.not_lt_zero _)⟩
 | n + 1, hm => by
  obtain ⟨h, h1, h2, h3⟩ := bnd_ex p n fun a b hab hb => hm a b hab (by omega)
  by_cases e : p n = true
  ·exact ⟨h, by omega, h2, fun t ht htn => by
    by_cases ht2 : t = n
    ·rw [ht2]; exact e
    ·exact h3 t ht (by omega)⟩
  ·refine ⟨n + 1, Nat.le_refl _, fun t ht => ?_, fun t h4 h5 => by omega⟩
   cases ep : p t with
   | false => rfl
   | true => exact absurd (hm t n (by omega) (by omega) ep) e
theorem cntF_spec (p : Nat → Bool) (n : Nat) (hm : ∀ a b, a ≤ b → b < n → p a = true → p b = true) : cntF p n ≤ n ∧ (∀ i, i < cntF p n → p i = false) ∧ ∀ i, cntF p n ≤ i → i < n → p i = true := by
 obtain ⟨h, h1, h2, h3⟩ := bnd_ex p n hm
 rw [cntF_boundary p n h h1 h2 h3]
 exact ⟨h1, h2, h3⟩
theorem cntF_leN (p : Nat → Bool) (n : Nat) : cntF p n ≤ n := by
 unfold cntF
 have := List.countP_le_length (p := fun i => !p i) (l := List.range n)
 simpa using this
theorem rises_mono {l : List Tn} (h : Rises l) : ∀ (j i : Nat) (hij : i < j) (hj : j < l.length), (l[i]'(by omega)).a < l[j].a
 | 0, i, hi, _ => absurd hi (Nat.not_lt_zero _)
 | j + 1, i, hi, hj => by
  have h1 := h j hj
  by_cases e : i = j
  ·subst e; exact h1
  ·have h2 := rises_mono h j i (by omega) (by omega)
   omega
theorem tnA_at (l : List Tn) (i : Nat) (h : i < l.length) : tnA l i = l[i].a := by unfold tnA; rw [List.getElem?_eq_getElem h]; rfl
theorem tnA_mono {l : List Tn} (h : Rises l) (i j : Nat) (hij : i ≤ j) (hj : j < l.length) : tnA l i ≤ tnA l j := by
 rw [tnA_at l j hj, tnA_at l i (by omega)]
 by_cases e : i = j
 ·subst e; exact Int.le_refl _
 ·exact Int.le_of_lt (rises_mono h j i (by omega) hj)
theorem cntT_mono {l : List Tn} (h : Rises l) (t : Int) : ∀ a b, a ≤ b → b < l.length → decide (t < tnA l a) = true → decide (t < tnA l b) = true := fun a b hab hb hp => by
 have := tnA_mono h a b hab hb
 simp only [decide_eq_true_eq] at *
 omega
theorem cntT_spec {l : List Tn} (h : Rises l) (t : Int) : cntT l t ≤ l.length ∧ (∀ i, i < cntT l t → tnA l i ≤ t) ∧ ∀ i, cntT l t ≤ i → i < l.length → t < tnA l i := by
 obtain ⟨h1, h2, h3⟩ := cntF_spec _ _ (cntT_mono h t)
 exact ⟨h1, fun i hi => by have := h2 i hi; simpa using this, fun i hi hl => by have := h3 i hi hl; simpa using this⟩
theorem cntT_le (l : List Tn) (t : Int) : cntT l t ≤ l.length := cntF_leN _ _
theorem cntT_eq {l : List Tn} (h : Rises l) {t : Int} {k : Nat} (hk : k ≤ l.length) (h1 : ∀ i, i < k → tnA l i ≤ t) (h2 : ∀ i, k ≤ i → i < l.length → t < tnA l i) : cntT l t = k :=
 cntF_boundary _ _ _ hk (fun i hi => by have := h1 i hi; simpa using this) (fun i hi hl => by have := h2 i hi hl; simpa using this)
theorem svT_0 {x : Td} {t : Int} (h : cntT x.ts t = 0) : svT x t = (x.er.sv, x.fst) := by
 unfold svT
 split
 ·rw [if_pos h]
 ·rfl
theorem svT_s {x : Td} {t : Int} (h : cntT x.ts t ≠ 0) : ∃ h2 : cntT x.ts t - 1 < x.ts.length, svT x t = (x.ts[cntT x.ts t - 1].s, x.ts[cntT x.ts t - 1].lt) := by
 have := cntT_le x.ts t
 have h2 : cntT x.ts t - 1 < x.ts.length := by omega
 refine ⟨h2, ?_⟩
 unfold svT
 rw [List.getElem?_eq_getElem h2]
 dsimp only
 rw [if_neg h]
theorem outF_mem (off : Int) : ∀ (S : List (Int × Ru)) (save : Int) (last : Option Int) (l : List Tn), outF off save last S = some l → ∀ u ∈ l, ∃ x ∈ S, u.s = x.2.sv ∧ u.lt = x.2.lt
 | [], save, last, l, h, u, hu => by
  simp only [outF, Option.some.injEq] at h
  subst h
  cases hu
 | x :: r, save, last, l, h, u, hu => by
  obtain ⟨h1, t, h2, rfl⟩ := outF_some h
  rcases List.mem_cons.1 hu with rfl | hu
  ·exact ⟨x, List.mem_cons_self .., rfl, rfl⟩
  ·obtain ⟨y, hy, e⟩ := outF_mem off r _ _ t h2 u hu
   exact ⟨y, List.mem_cons_of_mem _ hy, e⟩
theorem noms_mem {D : Ru → Int → Int} {rules : List Ru} {nm : ByteArray} {x : Int × Ru} (h : x ∈ nomsOf D rules nm) : x.2 ∈ rules ∧ x.2.nm = nm := by
 obtain ⟨r, hr, hx⟩ := List.mem_flatMap.1 h
 obtain ⟨i, -, rfl⟩ := List.mem_map.1 hx
 have := List.mem_filter.1 hr
 exact ⟨this.1, by simpa using this.2⟩
theorem mkR_mem {rules : List Ru} {nm : ByteArray} {off : Int} {u : Tn} (h : u ∈ (mkR rules nm off).2) : ∃ r ∈ rules, r.nm = nm ∧ u.s = r.sv ∧ u.lt = r.lt := by
 by_cases h0 : (mkR rules nm off).1 = 0
 ·obtain ⟨x, hx, e⟩ := outF_mem off _ 0 none _ (mkR_ok h0) u h
  have hx2 : x ∈ nomsOf dayN rules nm := (List.mergeSort_perm _ _).mem_iff.1 hx
  obtain ⟨h1, h2⟩ := noms_mem hx2
  exact ⟨x.2, h1, h2, e⟩
 ·have : (mkR rules nm off).2 = [] := by
   unfold mkR at h0 ⊢
   split
   ·rfl
   ·split
    ·rfl
    ·rename_i h1 h2
     rw [if_neg h1, if_neg h2] at h0
     cases e : outF off 0 none (srt (nomsOf dayN rules nm)) with
     | none => rfl
     | some l => rw [e] at h0; exact absurd rfl h0
  rw [this] at h
  cases h
theorem mkR_rises {rules : List Ru} {nm : ByteArray} {off : Int} (h0 : (mkR rules nm off).1 = 0) : Rises (mkR rules nm off).2 := (outF_rise off _ 0 none _ (mkR_ok h0)).2
theorem tdR_rises {rules : List Ru} {x : Er} (h : tdE rules x = 0) : Rises (tdR rules x).ts := by
 unfold tdE at h
 unfold tdR
 by_cases hr : x.ru.data.toList = []
 ·rw [if_pos hr]; intro i hi; exact absurd hi (Nat.not_lt_zero _)
 ·rw [if_neg hr] at h ⊢
  exact mkR_rises h
theorem firstLt_of (l : List Tn) : firstLt l = dashB ∨ ∃ u ∈ l, u.s = 0 ∧ firstLt l = u.lt := by
 unfold firstLt
 cases h : l[fstK l]? with
 | none => exact .inl rfl
 | some u =>
  obtain ⟨hlt, e⟩ := List.getElem?_eq_some_iff.1 h
  refine .inr ⟨u, e ▸ List.getElem_mem _, ?_, rfl⟩
  have := List.findIdx_getElem (p := fun u : Tn => decide (u.s = 0)) (xs := l) (w := hlt)
  have h3 : l[fstK l].s = 0 := of_decide_eq_true this
  rw [← e]; exact h3
structure EraOk (rules : List Ru) (x : Er) : Prop where
 o1 : -64800 ≤ x.off
 o2 : x.off ≤ 64800
 s1 : 0 ≤ x.sv
 s2 : x.sv ≤ 10800
 sr : x.ru.data.toList ≠ [] → x.sv = 0
 has : x.ru.data.toList ≠ [] → ∃ r ∈ rules, r.nm = x.ru
 ab : abbrsChk rules x = 0
theorem eraChk_ok {rules : List Ru} {l : List Er} {k : Nat} (h : eraChk rules l k = 0) : EraOk rules (eraAt l k) ∧ (k + 1 ≠ l.length → -1099511627776 ≤ (eraAt l k).un ∧ (eraAt l k).un ≤ 1099511627776 ∧ stampE (eraAt l k).un = 0 ∧ (0 < k → (eraAt l (k - 1)).un < (eraAt l k).un)) ∧ (k + 1 = l.length → (eraAt l k).un = 0) := by
 unfold eraChk at h
 dsimp only at h
 split at h
 ·cases h
 ·rename_i h1
  split at h
  ·cases h
  ·rename_i h2
   split at h
   ·cases h
   ·rename_i h3
    split at h
    ·exact absurd h (by assumption)
    ·rename_i h4
     refine ⟨⟨by omega, by omega, by omega, by omega, fun hr => ?_, fun hr => ?_, Classical.not_not.1 h4⟩, fun hk => ?_, fun hk => ?_⟩
     ·exact Classical.byContradiction fun hs => h2 ⟨hs, hr⟩
     ·have : ¬ (rules.any fun r => decide (r.nm = (eraAt l k).ru)) = false := fun g => h3 ⟨hr, g⟩
      have : (rules.any fun r => decide (r.nm = (eraAt l k).ru)) = true := by simpa using this
      obtain ⟨r, hr, e⟩ := List.any_eq_true.1 this
      exact ⟨r, hr, of_decide_eq_true e⟩
     ·rw [if_neg hk] at h
      split at h
      ·cases h
      ·rename_i h5
       split at h
       ·exact absurd h (by assumption)
       ·rename_i h6
        split at h
        ·cases h
        ·rename_i h7
         refine ⟨by omega, by omega, Classical.not_not.1 h6, fun h0 => ?_⟩
         omega
     ·rw [if_pos hk] at h
      exact Classical.byContradiction fun g => by rw [if_pos g] at h; cases h
theorem eraAt_in (l : List Er) (k : Nat) (h : k < l.length) : eraAt l k = l[k] := by unfold eraAt; rw [List.getElem?_eq_getElem h]; rfl
structure ErasOk (rules : List Ru) (l : List Er) : Prop where
 ne : l ≠ []
 le : l.length ≤ 700
 ok : ∀ x ∈ l, EraOk rules x
 un : ∀ k, k + 1 < l.length → -1099511627776 ≤ (eraAt l k).un ∧ (eraAt l k).un ≤ 1099511627776 ∧ stampE (eraAt l k).un = 0
 rise : ∀ k, k + 2 < l.length → (eraAt l k).un < (eraAt l (k + 1)).un
 last : (eraAt l (l.length - 1)).un = 0
theorem bk_eras {b : Bk} (h : bkChk b = 0) {z : Zo} (hz : z ∈ b.zones) : ErasOk b.rules z.eras := by
 obtain ⟨i, hi, rfl⟩ := List.mem_iff_getElem.1 hz
 have hzo := bk_zone h i hi
 have he : ∀ k, k < b.zones[i].eras.length → eraChk b.rules b.zones[i].eras k = 0 := fun k hk => (firstE_zero _ _).1 hzo.er k (List.mem_range.2 hk)
 have hp : 0 < b.zones[i].eras.length := List.length_pos_iff.2 hzo.ne
 refine ⟨hzo.ne, hzo.le, fun x hx => ?_, fun k hk => ?_, fun k hk => ?_, ?_⟩
 ·obtain ⟨k, hk, rfl⟩ := List.mem_iff_getElem.1 hx
  rw [← eraAt_in _ _ hk]
  exact (eraChk_ok (he k hk)).1
 ·obtain ⟨a, b, c, -⟩ := (eraChk_ok (he k (by omega))).2.1 (by omega)
  exact ⟨a, b, c⟩
 ·have := ((eraChk_ok (he (k + 1) (by omega))).2.1 (by omega)).2.2.2 (by omega)
  simpa using this
 ·exact (eraChk_ok (he _ (by omega))).2.2 (by omega)
theorem eras_mono {rules : List Ru} {l : List Er} (h : ErasOk rules l) : ∀ (j i : Nat), i < j → j + 1 < l.length → (eraAt l i).un < (eraAt l j).un
 | 0, i, hi, _ => absurd hi (Nat.not_lt_zero _)
 | j + 1, i, hi, hj => by
  have h1 := h.rise j hj
  by_cases e : i = j
  ·subst e; exact h1
  ·have := eras_mono h j i (by omega) (by omega)
   omega
theorem which_mono {rules : List Ru} {l : List Er} (h : ErasOk rules l) (t : Int) : ∀ a b, a ≤ b → b < l.length - 1 → decide (t < (eraAt l a).un) = true → decide (t < (eraAt l b).un) = true := fun a b hab hb hp => by
 by_cases e : a = b
 ·subst e; exact hp
 ·have := eras_mono h b a (by omega) (by omega)
  simp only [decide_eq_true_eq] at *
  omega
theorem which_spec {rules : List Ru} {l : List Er} (h : ErasOk rules l) (t : Int) : whichF l t ≤ l.length - 1 ∧ (∀ i, i < whichF l t → (eraAt l i).un ≤ t) ∧ ∀ i, whichF l t ≤ i → i < l.length - 1 → t < (eraAt l i).un := by
 obtain ⟨h1, h2, h3⟩ := cntF_spec _ _ (which_mono h t)
 exact ⟨h1, fun i hi => by have := h2 i hi; simpa using this, fun i hi hl => by have := h3 i hi hl; simpa using this⟩
theorem which_eq {l : List Er} {t : Int} {k : Nat} (hk : k ≤ l.length - 1) (h1 : ∀ i, i < k → (eraAt l i).un ≤ t) (h2 : ∀ i, k ≤ i → i < l.length - 1 → t < (eraAt l i).un) : whichF l t = k :=
 cntF_boundary _ _ _ hk (fun i hi => by have := h1 i hi; simpa using this) (fun i hi hl => by have := h2 i hi hl; simpa using this)
theorem abb_rule {rules : List Ru} {x : Er} (h : EraOk rules x) (hr : x.ru.data.toList ≠ []) : (∀ r ∈ rules, r.nm = x.ru → abE x.fm r.sv r.lt = 0) ∧ abE x.fm 0 dashB = 0 := by
 have ha := h.ab
 unfold abbrsChk at ha
 rw [if_neg hr] at ha
 split at ha
 ·rename_i h1
  refine ⟨fun r hm e => ?_, ha⟩
  have := (firstE_zero _ _).1 h1 r hm
  rwa [if_pos e] at this
 ·rename_i h1
  exact absurd ha h1
theorem abE_save {f l : ByteArray} {s : Int} (h : abE f s l = 0) : 0 ≤ s ∧ s ≤ 10800 := by
 unfold abE abbrF at h
 split at h
 ·cases h
 ·split at h
  ·cases h
  ·rename_i h1; omega
theorem sv_ok {rules : List Ru} {x : Er} (h : EraOk rules x) (t : Int) : abE x.fm (svT (tdR rules x) t).1 (svT (tdR rules x) t).2 = 0 ∧ 0 ≤ (svT (tdR rules x) t).1 ∧ (svT (tdR rules x) t).1 ≤ 10800 ∧ (if x.ru.data.toList = [] then (svT (tdR rules x) t).1 = x.sv else (svT (tdR rules x) t).1 = 0 ∨ ∃ r ∈ rules, r.nm = x.ru ∧ (svT (tdR rules x) t).1 = r.sv) := by
 suffices hs : abE x.fm (svT (tdR rules x) t).1 (svT (tdR rules x) t).2 = 0 ∧ (if x.ru.data.toList = [] then (svT (tdR rules x) t).1 = x.sv else (svT (tdR rules x) t).1 = 0 ∨ ∃ r ∈ rules, r.nm = x.ru ∧ (svT (tdR rules x) t).1 = r.sv) from
  ⟨hs.1, (abE_save hs.1).1, (abE_save hs.1).2, hs.2⟩
 by_cases hr : x.ru.data.toList = []
 ·have ha := h.ab
  unfold abbrsChk at ha
  rw [if_pos hr] at ha
  have e : tdR rules x = ⟨x, [], dashB⟩ := by unfold tdR; rw [if_pos hr]
  rw [e, if_pos hr, svT_0 rfl]
  exact ⟨ha, rfl⟩
 ·obtain ⟨h1, h2⟩ := abb_rule h hr
  have e : tdR rules x = ⟨x, (mkR rules x.ru x.off).2, firstLt (mkR rules x.ru x.off).2⟩ := by unfold tdR; rw [if_neg hr]
  rw [if_neg hr]
  by_cases hc : cntT (tdR rules x).ts t = 0
  ·rw [svT_0 hc, e]
   dsimp only
   rw [h.sr hr]
   rcases firstLt_of (mkR rules x.ru x.off).2 with e1 | ⟨u, hu, hs, e1⟩
   ·rw [e1]; exact ⟨h2, .inl rfl⟩
   ·obtain ⟨r, hm, hn, e2, e3⟩ := mkR_mem hu
    have h5 := h1 r hm hn
    rw [← e2, ← e3, hs] at h5
    rw [e1]
    exact ⟨h5, .inl rfl⟩
  ·obtain ⟨hlt, es⟩ := svT_s hc
   rw [es]
   have hu : (tdR rules x).ts[cntT (tdR rules x).ts t - 1] ∈ (mkR rules x.ru x.off).2 := by
    have := List.getElem_mem hlt
    have e4 : (tdR rules x).ts = (mkR rules x.ru x.off).2 := by rw [e]
    rw [← e4]; exact this
   obtain ⟨r, hm, hn, e2, e3⟩ := mkR_mem hu
   dsimp only
   rw [e2, e3]
   exact ⟨h1 r hm hn, .inr ⟨r, hm, hn, rfl⟩⟩
def tdA (rules : List Ru) (l : List Er) (k : Nat) : Td := tdR rules (eraAt l k)
def stF (rules : List Ru) (l : List Er) (t : Int) : Ty := tdTy (tdA rules l (whichF l t)) t
theorem which_of {rules : List Ru} {l : List Er} (h : ErasOk rules l) {t : Int} {k : Nat} (hk : k < l.length) (h1 : ∀ i, i < k → (eraAt l i).un ≤ t) (h2 : k + 1 < l.length → t < (eraAt l k).un) : whichF l t = k := by
 refine which_eq (by omega) h1 fun i hi hl => ?_
 by_cases e : k = i
 ·subst e; exact h2 (by omega)
 ·have := eras_mono h i k (by omega) (by omega)
  have := h2 (by omega)
  omega
end Go.Proofs.YtomahddiclkepaaGreatDoor
namespace Go.Proofs.YtomahddiclkepaaGreatDoor
open Classical
set_option linter.unusedVariables false
set_option linter.unusedSimpArgs false
theorem valL_cons (x : Ty) (c : Int × Ty) (r : List (Int × Ty)) (y : Int) : valL x (c :: r) y = valL (if c.1 ≤ y then c.2 else x) r y := rfl
theorem valL_none {l : List (Int × Ty)} {y : Int} (h : ∀ c ∈ l, c.1 ≠ y) : ∀ x, valL x l y = valL x l (y - 1) := by
 induction l with
 | nil => intro x; rfl
 | cons c r ih =>
  intro x
  have hc := h c (List.mem_cons_self ..)
  rw [valL_cons, valL_cons, ih fun d hd => h d (List.mem_cons_of_mem _ hd)]
  by_cases e : c.1 ≤ y
  ·rw [if_pos e, if_pos (by omega)]
  ·rw [if_neg e, if_neg (by omega)]
theorem valL_at {l : List (Int × Ty)} (hr : RiseL l) {c : Int × Ty} (hc : c ∈ l) : ∀ x, valL x l c.1 = c.2 := by
 induction l with
 | nil => cases hc
 | cons d r ih =>
  intro x
  have hp := List.pairwise_cons.1 hr
  rw [valL_cons]
  rcases List.mem_cons.1 hc with rfl | hc
  ·rw [if_pos (Int.le_refl _)]
   exact valL_late _ _ _ fun d hd => hp.1 d hd
  ·exact ih hp.2 hc _
theorem valL_mem (l : List (Int × Ty)) (y : Int) : ∀ x, valL x l y = x ∨ ∃ c ∈ l, c.1 ≤ y ∧ valL x l y = c.2 := by
 induction l with
 | nil => intro x; exact .inl rfl
 | cons d r ih =>
  intro x
  rw [valL_cons]
  rcases ih (if d.1 ≤ y then d.2 else x) with h | ⟨c, hc, h1, h2⟩
  ·by_cases e : d.1 ≤ y
   ·rw [if_pos e] at h ⊢
    exact .inr ⟨d, List.mem_cons_self .., e, h⟩
   ·rw [if_neg e] at h ⊢
    exact .inl h
  ·exact .inr ⟨c, List.mem_cons_of_mem _ hc, h1, h2⟩
theorem valL_fun {l : List (Int × Ty)} (hr : RiseL l) (f : Int → Ty) (lo : Int) (hlo : ∀ c ∈ l, lo < c.1) (hf : ∀ c ∈ l, c.2 = f c.1) : ∀ (n : Nat), (∀ z, lo < z → z ≤ lo + n → (∀ c ∈ l, c.1 ≠ z) → f z = f (z - 1)) → valL (f lo) l (lo + n) = f (lo + n)
 | 0, _ => by
  rw [show lo + ((0 : Nat) : Int) = lo by omega]
  exact valL_late _ _ _ hlo
 | n + 1, hs => by
  have ih := valL_fun hr f lo hlo hf n fun z h1 h2 => hs z h1 (by omega)
  by_cases h : ∃ c ∈ l, c.1 = lo + ((n + 1 : Nat) : Int)
  ·obtain ⟨c, hc, e⟩ := h
   rw [← e, valL_at hr hc, hf c hc]
  ·have hn : ∀ c ∈ l, c.1 ≠ lo + ((n + 1 : Nat) : Int) := fun c hc e => h ⟨c, hc, e⟩
   rw [valL_none hn, hs _ (by omega) (Int.le_refl _) hn, show lo + ((n + 1 : Nat) : Int) - 1 = lo + (n : Int) by omega]
   exact ih
theorem squ_mem {l : List (Int × Ty)} : ∀ {x : Ty}, RiseL l → ∀ c : Int × Ty, c ∈ squ x l ↔ (valL x l c.1 ≠ valL x l (c.1 - 1) ∧ c.2 = valL x l c.1) := by
 induction l with
 | nil => intro x _ c; simp [squ, valL]
 | cons d r ih =>
  intro x hr c
  have hp := List.pairwise_cons.1 hr
  simp only [squ]
  by_cases e : d.2 = x
  ·rw [if_pos e, ih hp.2]
   have : ∀ y, valL x (d :: r) y = valL x r y := fun y => by
    rw [valL_cons]
    have : (if d.1 ≤ y then d.2 else x) = x := by split; exact e; rfl
    rw [this]
   rw [this, this]
  ·rw [if_neg e, List.mem_cons, ih hp.2]
   rw [valL_cons, valL_cons]
   have late : ∀ y, y ≤ d.1 → ∀ z, valL z r y = z := fun y hy z => valL_late _ _ _ fun q hq => by have := hp.1 q hq; omega
   rcases Int.lt_trichotomy c.1 d.1 with h | h | h
   ·rw [if_neg (by omega), if_neg (by omega), late _ (by omega), late _ (by omega), late _ (by omega), late _ (by omega)]
    constructor
    ·rintro (rfl | ⟨h1, -⟩)
     ·omega
     ·exact absurd rfl h1
    ·rintro ⟨h1, -⟩
     exact absurd rfl h1
   ·rw [if_pos (by omega), if_neg (by omega), late _ (by omega), late _ (by omega), late _ (by omega)]
    constructor
    ·rintro (rfl | ⟨h1, -⟩)
     ·exact ⟨e, rfl⟩
     ·exact absurd rfl h1
    ·rintro ⟨h1, h2⟩
     exact .inl (Prod.ext h h2)
   ·rw [if_pos (by omega), if_pos (by omega)]
    constructor
    ·rintro (rfl | h1)
     ·omega
     ·exact h1
    ·intro h1
     exact .inr h1
theorem squ_rise {l : List (Int × Ty)} (h : RiseL l) (x : Ty) : RiseL (squ x l) := h.sublist (squ_sub l x)
theorem rise_ext : ∀ {l m : List (Int × Ty)}, RiseL l → RiseL m → (∀ c, c ∈ l ↔ c ∈ m) → l = m
 | [], [], _, _, _ => rfl
 | [], d :: m, _, _, h => absurd ((h d).2 (List.mem_cons_self ..)) (List.not_mem_nil)
 | c :: l, [], _, _, h => absurd ((h c).1 (List.mem_cons_self ..)) (List.not_mem_nil)
 | c :: l, d :: m, hl, hm, h => by
  have hp := List.pairwise_cons.1 hl
  have hq := List.pairwise_cons.1 hm
  have e : c = d := by
   rcases List.mem_cons.1 ((h c).1 (List.mem_cons_self ..)) with e | h1
   ·exact e
   ·rcases List.mem_cons.1 ((h d).2 (List.mem_cons_self ..)) with e | h2
    ·exact e.symm
    ·have := hq.1 c h1; have := hp.1 d h2; omega
  subst e
  rw [rise_ext hp.2 hq.2 fun x => ?_]
  constructor
  ·intro hx
   rcases List.mem_cons.1 ((h x).1 (List.mem_cons_of_mem _ hx)) with rfl | h1
   ·have := hp.1 x hx; omega
   ·exact h1
  ·intro hx
   rcases List.mem_cons.1 ((h x).2 (List.mem_cons_of_mem _ hx)) with rfl | h1
   ·have := hq.1 x hx; omega
   ·exact h1
theorem norm_tyMem (x : Ty) (l : List (Int × Ty)) (y : Ty) : y ∈ (normR x l).types ↔ y = x ∨ ∃ c ∈ squ x l, c.2 = y := by
 have inv := makeN_inv l (begN x) (begN_inv x)
 have hres : resL (normR x l) = squ x l := resL_norm x l
 have hH : tyD (normR x l).types 0 = x := inv.head
 constructor
 ·intro hy
  have hy2 : y ∈ (normR x (squ x l)).types := by rw [normR_squ]; exact hy
  rcases makeN_types (x := x) (squ x l) (begN x) y hy2 with h | ⟨c, hc, rfl⟩
  ·simp only [begN, List.mem_singleton] at h; exact .inl h
  ·exact .inr ⟨c, hc, rfl⟩
 ·rintro (hy | ⟨c, hc, rfl⟩)
  ·have hm : tyD (normR x l).types 0 ∈ (normR x l).types := tyD_mem (normR x l).types 0 (Int.le_refl _) (by have h0 : 0 < (normR x l).types.length := inv.pos; omega)
   rw [hH] at hm
   rw [hy]
   exact hm
  ·rw [← hres] at hc
   obtain ⟨d, hd, rfl⟩ := List.mem_map.1 hc
   have := inv.ks d hd
   exact tyD_mem _ _ this.1 this.2
theorem norm_nodup (x : Ty) (l : List (Int × Ty)) : (normR x l).types.Nodup := (makeN_inv l (begN x) (begN_inv x)).nodup
theorem norm_chsLen (x : Ty) (l : List (Int × Ty)) : (normR x l).chs.length = (squ x l).length := by
 rw [← resL_norm x l]; simp [resL]
theorem norm_chT (x : Ty) (l : List (Int × Ty)) : (normR x l).chs.map (·.t) = (squ x l).map (·.1) := by
 rw [← resL_norm x l, resL_times]
theorem normR_ok {x : Ty} {l : List (Int × Ty)} (hr : RiseL l) (hx : ∀ y, (y = x ∨ ∃ c ∈ l, c.2 = y) → -75600 ≤ y.off ∧ y.off ≤ 75600 ∧ abbrB y.name = true) (ht : ∀ c ∈ l, -1099511627776 ≤ c.1 ∧ c.1 ≤ 1099511627776)
  (h1 : (normR x l).types.length ≤ 250) (h2 : (normR x l).chs.length ≤ 1000) : OkTab (normR x l) := by
 have inv := makeN_inv l (begN x) (begN_inv x)
 have hpos : 0 < (normR x l).types.length := inv.pos
 have htm : ((normR x l).chs.map (·.t)).Sublist (l.map (·.1)) := by rw [norm_chT]; exact (squ_sub l x).map _
 refine ⟨fun e => by rw [e] at hpos; simp at hpos, h1, h2, fun y hy => ?_, ⟨Int.le_refl _, by show (0 : Int) < _; omega⟩, fun c hc => ?_, ?_⟩
 ·refine hx y ?_
  rcases (norm_tyMem x l y).1 hy with h | ⟨c, hc, e⟩
  ·exact .inl h
  ·exact .inr ⟨c, (squ_sub l x).subset hc, e⟩
 ·obtain ⟨d, hd, e⟩ := List.mem_map.1 (htm.subset (List.mem_map.2 ⟨c, hc, rfl⟩))
  have := ht d hd
  have hk := inv.ks c hc
  rw [e] at this
  exact ⟨this.1, this.2, hk.1, hk.2⟩
 ·have h1 : (l.map (·.1)).Pairwise (· < ·) := List.pairwise_map.2 hr
  exact List.pairwise_map.1 (h1.sublist htm)
end Go.Proofs.YtomahddiclkepaaGreatDoor
namespace Go.Proofs.YtomahddiclkepaaGreatDoor
open Go.RowKit Go.Joins Go.Maps
open Classical
set_option linter.unusedVariables false
set_option linter.unusedSimpArgs false
def lastF (l : List Er) (k : Nat) (te : Int) : Int := if k + 1 < l.length then min (te - 1) ((eraAt l k).un - 1) else te - 1
def winF (x : Td) (a c : Int) : List Tn := x.ts.filter fun u => decide (a ≤ u.a ∧ u.a ≤ c)
def evF (x : Td) (a c : Int) : List (Int × Ty) := (winF x a c).map fun u => (u.a, tdTy x u.a)
noncomputable def candF (rules : List Ru) (l : List Er) (te : Int) : Nat → Int → Nat → List (Int × Ty)
 | 0, _, _ => []
 | n + 1, fr, k =>
  if k + 1 = l.length ∨ te ≤ (eraAt l k).un then evF (tdA rules l k) fr (lastF l k te) else
  evF (tdA rules l k) fr (lastF l k te) ++ ((eraAt l k).un, tdTy (tdA rules l (k + 1)) (eraAt l k).un) :: candF rules l te n ((eraAt l k).un + 1) (k + 1)
noncomputable def candsF (rules : List Ru) (l : List Er) (fr te : Int) : List (Int × Ty) := candF rules l te (l.length - whichF l fr) (fr + 1) (whichF l fr)
def zTab : Tab := ⟨[], 0, []⟩
noncomputable def mkE (rules : List Ru) (l : List Er) (fr te : Int) : Int × Tab :=
 if stampE fr ≠ 0 then (stampE fr, zTab) else if stampE te ≠ 0 then (stampE te, zTab) else if te ≤ fr then (1, zTab) else
 if firstE (tdE rules) l ≠ 0 then (firstE (tdE rules) l, zTab) else
 if 250 < (normR (stF rules l fr) (candsF rules l fr te)).types.length ∨ 1000 < (normR (stF rules l fr) (candsF rules l fr te)).chs.length then (2, zTab) else
 (0, normR (stF rules l fr) (candsF rules l fr te))
noncomputable def mkT (b : Bk) (nm : ByteArray) (fr te : Int) : Int × Tab :=
 match (rsv b nm).1 with
 | none => ((rsv b nm).2, zTab)
 | some z => mkE b.rules z.eras fr te
theorem evF_mem {x : Td} {a c : Int} {e : Int × Ty} : e ∈ evF x a c ↔ ∃ u ∈ x.ts, a ≤ u.a ∧ u.a ≤ c ∧ e = (u.a, tdTy x u.a) := by
 unfold evF winF
 rw [List.mem_map]
 constructor
 ·rintro ⟨u, hu, rfl⟩
  have := List.mem_filter.1 hu
  have h2 : a ≤ u.a ∧ u.a ≤ c := of_decide_eq_true this.2
  exact ⟨u, this.1, h2.1, h2.2, rfl⟩
 ·rintro ⟨u, hu, h1, h2, rfl⟩
  exact ⟨u, List.mem_filter.2 ⟨hu, decide_eq_true ⟨h1, h2⟩⟩, rfl⟩
theorem rises_pw {l : List Tn} (h : Rises l) : l.Pairwise fun a b => a.a < b.a := List.pairwise_iff_getElem.2 fun i j hi hj hij => rises_mono h j i hij hj
theorem evF_rise {x : Td} (h : Rises x.ts) (a c : Int) : RiseL (evF x a c) := by
 unfold RiseL evF winF
 rw [List.pairwise_map]
 exact (rises_pw h).sublist List.filter_sublist
theorem cntT_step {l : List Tn} (h : Rises l) {z : Int} (hz : ∀ u ∈ l, u.a ≠ z) : cntT l z = cntT l (z - 1) := by
 obtain ⟨h1, h2, h3⟩ := cntT_spec h (z - 1)
 refine cntT_eq h h1 (fun i hi => by have := h2 i hi; omega) fun i hi hl => ?_
 have h4 := h3 i hi hl
 have := hz _ (List.getElem_mem hl)
 rw [tnA_at l i hl] at h4 ⊢
 omega
theorem svT_cnt {x : Td} {s t : Int} (h : cntT x.ts s = cntT x.ts t) : svT x s = svT x t := by unfold svT; rw [h]
theorem tdTy_cnt {x : Td} {s t : Int} (h : cntT x.ts s = cntT x.ts t) : tdTy x s = tdTy x t := by unfold tdTy nmT; rw [svT_cnt h]
section
variable {rules : List Ru} {l : List Er}
structure TdsOk (rules : List Ru) (l : List Er) : Prop where
 o : ErasOk rules l
 r : ∀ k, k < l.length → Rises (tdA rules l k).ts
theorem tdsOk_of (h : ErasOk rules l) (h2 : firstE (tdE rules) l = 0) : TdsOk rules l := by
 refine ⟨h, fun k hk => ?_⟩
 unfold tdA
 rw [eraAt_in l k hk]
 exact tdR_rises ((firstE_zero _ _).1 h2 _ (List.getElem_mem hk))
theorem cand_end {te : Int} {n k : Nat} {fr : Int} (h : k + 1 = l.length ∨ te ≤ (eraAt l k).un) : candF rules l te (n + 1) fr k = evF (tdA rules l k) fr (lastF l k te) := by rw [candF, if_pos h]
theorem cand_go {te : Int} {n k : Nat} {fr : Int} (h : ¬ (k + 1 = l.length ∨ te ≤ (eraAt l k).un)) : candF rules l te (n + 1) fr k = evF (tdA rules l k) fr (lastF l k te) ++ ((eraAt l k).un, tdTy (tdA rules l (k + 1)) (eraAt l k).un) :: candF rules l te n ((eraAt l k).un + 1) (k + 1) := by rw [candF, if_neg h]
theorem lastF_le (k : Nat) (te : Int) : lastF l k te ≤ te - 1 ∧ (k + 1 < l.length → lastF l k te ≤ (eraAt l k).un - 1) := by
 unfold lastF
 split
 ·exact ⟨Int.min_le_left _ _, fun _ => Int.min_le_right _ _⟩
 ·rename_i h; exact ⟨Int.le_refl _, fun g => absurd g h⟩
theorem lastF_ge {k : Nat} {te z : Int} (h1 : z ≤ te - 1) (h2 : k + 1 < l.length → z ≤ (eraAt l k).un - 1) : z ≤ lastF l k te := by
 unfold lastF
 split
 ·rename_i h; exact Int.le_min.2 ⟨h1, h2 h⟩
 ·exact h1
theorem cand_spec (h : TdsOk rules l) (te : Int) : ∀ (n k : Nat) (fr : Int), n = l.length - k → k < l.length → (∀ i, i < k → (eraAt l i).un < fr) → (k + 1 < l.length → fr ≤ (eraAt l k).un) →
  RiseL (candF rules l te n fr k) ∧ (∀ c ∈ candF rules l te n fr k, fr ≤ c.1 ∧ c.1 < te ∧ c.2 = stF rules l c.1 ∧ ((∃ i, i + 1 < l.length ∧ (eraAt l i).un = c.1) ∨ ∃ u ∈ (tdA rules l (whichF l c.1)).ts, u.a = c.1)) ∧
   ∀ z, fr ≤ z → z < te → ((∃ i, i + 1 < l.length ∧ (eraAt l i).un = z) ∨ ∃ u ∈ (tdA rules l (whichF l z)).ts, u.a = z) → ∃ c ∈ candF rules l te n fr k, c.1 = z
 | 0, k, fr, hn, hk, _, _ => by omega
 | n + 1, k, fr, hn, hk, hlo, hhi => by
  have hl1 := lastF_le (l := l) k te
  have hw : ∀ z, fr ≤ z → z ≤ lastF l k te → whichF l z = k := fun z h1 h2 =>
   which_of h.o hk (fun i hi => by have := hlo i hi; omega) fun g => by have := hl1.2 g; omega
  have hev : ∀ c ∈ evF (tdA rules l k) fr (lastF l k te), fr ≤ c.1 ∧ c.1 ≤ lastF l k te ∧ c.2 = stF rules l c.1 ∧ ∃ u ∈ (tdA rules l (whichF l c.1)).ts, u.a = c.1 := by
   intro c hc
   obtain ⟨u, hu, h1, h2, rfl⟩ := evF_mem.1 hc
   dsimp only
   rw [hw u.a h1 h2]
   refine ⟨h1, h2, ?_, u, hu, rfl⟩
   unfold stF
   rw [hw u.a h1 h2]
  have hin : ∀ z, fr ≤ z → z ≤ lastF l k te → (∃ u ∈ (tdA rules l (whichF l z)).ts, u.a = z) → ∃ c ∈ evF (tdA rules l k) fr (lastF l k te), c.1 = z := by
   rintro z h1 h2 ⟨u, hu, rfl⟩
   rw [hw u.a h1 h2] at hu
   exact ⟨_, evF_mem.2 ⟨u, hu, h1, h2, rfl⟩, rfl⟩
  have hun : ∀ z, fr ≤ z → (k + 1 < l.length → z < (eraAt l k).un) → ¬ ∃ i, i + 1 < l.length ∧ (eraAt l i).un = z := by
   rintro z h1 h2 ⟨i, hi, rfl⟩
   by_cases e : i < k
   ·have := hlo i e; omega
   ·by_cases e2 : i = k
    ·subst e2; have := h2 hi; omega
    ·have := eras_mono h.o i k (by omega) hi
     have := h2 (by omega)
     omega
  by_cases hE : k + 1 = l.length ∨ te ≤ (eraAt l k).un
  ·rw [cand_end hE]
   refine ⟨evF_rise (h.r k hk) _ _, fun c hc => ?_, fun z h1 h2 h3 => ?_⟩
   ·obtain ⟨a, b, c1, d⟩ := hev c hc
    exact ⟨a, by omega, c1, .inr d⟩
   ·have hz : k + 1 < l.length → z < (eraAt l k).un := fun g => by omega
    rcases h3 with h3 | h3
    ·exact absurd h3 (hun z h1 hz)
    ·exact hin z h1 (lastF_ge (by omega) fun g => by have := hz g; omega) h3
  ·rw [cand_go hE]
   have hkk : k + 1 < l.length := by omega
   have hto : (eraAt l k).un < te := by omega
   have hfu := hhi hkk
   have hlast : lastF l k te ≤ (eraAt l k).un - 1 := hl1.2 hkk
   have hwu : whichF l (eraAt l k).un = k + 1 := which_of h.o hkk (fun i hi => by
    by_cases e : i = k
    ·subst e; exact Int.le_refl _
    ·have := eras_mono h.o k i (by omega) hkk; omega) fun g => eras_mono h.o (k + 1) k (by omega) g
   obtain ⟨r1, r2, r3⟩ := cand_spec h te n (k + 1) ((eraAt l k).un + 1) (by omega) hkk (fun i hi => by
    by_cases e : i = k
    ·subst e; omega
    ·have := eras_mono h.o k i (by omega) hkk; omega) (fun g => by have := eras_mono h.o (k + 1) k (by omega) g; omega)
   refine ⟨?_, fun c hc => ?_, fun z h1 h2 h3 => ?_⟩
   ·unfold RiseL
    rw [List.pairwise_append]
    refine ⟨evF_rise (h.r k hk) _ _, List.pairwise_cons.2 ⟨fun c hc => ?_, r1⟩, fun c hc d hd => ?_⟩
    ·have := (r2 c hc).1
     dsimp only; omega
    ·have := (hev c hc).2.1
     rcases List.mem_cons.1 hd with rfl | hd
     ·dsimp only; omega
     ·have := (r2 d hd).1; omega
   ·rcases List.mem_append.1 hc with hc | hc
    ·obtain ⟨a, b, c1, d⟩ := hev c hc
     exact ⟨a, by omega, c1, .inr d⟩
    ·rcases List.mem_cons.1 hc with rfl | hc
     ·refine ⟨hfu, hto, ?_, .inl ⟨k, hkk, rfl⟩⟩
      dsimp only
      unfold stF
      rw [hwu]
     ·obtain ⟨a, b, c1, d⟩ := r2 c hc
      exact ⟨by omega, b, c1, d⟩
   ·rcases Int.lt_trichotomy z (eraAt l k).un with g | g | g
    ·rcases h3 with h3 | h3
     ·exact absurd h3 (hun z h1 fun _ => g)
     ·obtain ⟨c, hc, e⟩ := hin z h1 (lastF_ge (by omega) fun _ => by omega) h3
      exact ⟨c, List.mem_append_left _ hc, e⟩
    ·exact ⟨_, List.mem_append_right _ (List.mem_cons_self ..), g.symm⟩
    ·obtain ⟨c, hc, e⟩ := r3 z (by omega) h2 h3
     exact ⟨c, List.mem_append_right _ (List.mem_cons_of_mem _ hc), e⟩
theorem cands_spec (h : TdsOk rules l) (fr te : Int) :
  RiseL (candsF rules l fr te) ∧ (∀ c ∈ candsF rules l fr te, fr < c.1 ∧ c.1 < te ∧ c.2 = stF rules l c.1 ∧ ((∃ i, i + 1 < l.length ∧ (eraAt l i).un = c.1) ∨ ∃ u ∈ (tdA rules l (whichF l c.1)).ts, u.a = c.1)) ∧
   ∀ z, fr < z → z < te → ((∃ i, i + 1 < l.length ∧ (eraAt l i).un = z) ∨ ∃ u ∈ (tdA rules l (whichF l z)).ts, u.a = z) → ∃ c ∈ candsF rules l fr te, c.1 = z := by
 obtain ⟨w1, w2, w3⟩ := which_spec h.o fr
 have hp : 0 < l.length := List.length_pos_iff.2 h.o.ne
 obtain ⟨r1, r2, r3⟩ := cand_spec h te (l.length - whichF l fr) (whichF l fr) (fr + 1) rfl (by omega) (fun i hi => by have := w2 i hi; omega) (fun g => by have := w3 _ (Nat.le_refl _) (by omega); omega)
 exact ⟨r1, fun c hc => by obtain ⟨a, b⟩ := r2 c hc; exact ⟨by omega, b⟩, fun z h1 h2 h3 => r3 z (by omega) h2 h3⟩
theorem stF_step (h : TdsOk rules l) {z : Int} (h1 : ¬ ∃ i, i + 1 < l.length ∧ (eraAt l i).un = z) (h2 : ¬ ∃ u ∈ (tdA rules l (whichF l z)).ts, u.a = z) : stF rules l z = stF rules l (z - 1) := by
 obtain ⟨w1, w2, w3⟩ := which_spec h.o z
 have hp : 0 < l.length := List.length_pos_iff.2 h.o.ne
 have hw : whichF l (z - 1) = whichF l z := which_of h.o (by omega) (fun i hi => by
  have h3 := w2 i hi
  have : (eraAt l i).un ≠ z := fun e => h1 ⟨i, by omega, e⟩
  omega) fun g => by have := w3 _ (Nat.le_refl _) (by omega); omega
 unfold stF
 rw [hw]
 exact tdTy_cnt (cntT_step (h.r _ (by omega)) fun u hu e => h2 ⟨u, hu, e⟩)
theorem stF_val (h : TdsOk rules l) {fr te y : Int} (h1 : fr ≤ y) (h2 : y < te) : valL (stF rules l fr) (candsF rules l fr te) y = stF rules l y := by
 obtain ⟨r1, r2, r3⟩ := cands_spec h fr te
 have := valL_fun r1 (stF rules l) fr (fun c hc => (r2 c hc).1) (fun c hc => (r2 c hc).2.2.1) (y - fr).toNat fun z hz1 hz2 hz => by
  refine stF_step h (fun g => ?_) fun g => ?_
  ·obtain ⟨c, hc, e⟩ := r3 z hz1 (by omega) (.inl g); exact hz c hc e
  ·obtain ⟨c, hc, e⟩ := r3 z hz1 (by omega) (.inr g); exact hz c hc e
 rwa [show fr + (((y - fr).toNat : Nat) : Int) = y by omega] at this
theorem chg_mem (h : TdsOk rules l) (fr te : Int) (c : Int × Ty) : c ∈ squ (stF rules l fr) (candsF rules l fr te) ↔ (fr < c.1 ∧ c.1 < te ∧ stF rules l c.1 ≠ stF rules l (c.1 - 1) ∧ c.2 = stF rules l c.1) := by
 obtain ⟨r1, r2, r3⟩ := cands_spec h fr te
 rw [squ_mem r1]
 constructor
 ·rintro ⟨h1, h2⟩
  have : ∃ d ∈ candsF rules l fr te, d.1 = c.1 := Classical.byContradiction fun g => h1 (valL_none (fun d hd e => g ⟨d, hd, e⟩) _)
  obtain ⟨d, hd, e⟩ := this
  obtain ⟨a, b, -, -⟩ := r2 d hd
  rw [stF_val h (by omega) (by omega), stF_val h (by omega) (by omega)] at h1
  rw [stF_val h (by omega) (by omega)] at h2
  exact ⟨by omega, by omega, h1, h2⟩
 ·rintro ⟨a, b, h1, h2⟩
  rw [stF_val h (by omega) (by omega), stF_val h (by omega) (by omega)]
  exact ⟨h1, h2⟩
theorem chg_rise (h : TdsOk rules l) (fr te : Int) : RiseL (squ (stF rules l fr) (candsF rules l fr te)) := squ_rise (cands_spec h fr te).1 _
end
end Go.Proofs.YtomahddiclkepaaGreatDoor
namespace Go.Proofs.YtomahddiclkepaaGreatDoor
open Go.RowKit Go.Joins
open Classical
set_option linter.unusedVariables false
set_option linter.unusedSimpArgs false
def okL (l : List UInt8) : Bool := l.all (signB [43, 45])
theorem abbrB_iff (l : List UInt8) : abbrB (txt l) = true ↔ okL l = true ∧ l ≠ [] ∧ l.length ≤ 8 := by
 unfold abbrB allB okL
 rw [Bool.and_eq_true, Bool.and_eq_true, decide_eq_true_eq]
 have e : (txt l).data.toList = l := txt_data l
 have e2 : (txt l).size = l.length := by
  show (txt l).data.size = _
  rw [← Array.length_toList, e]
 rw [e, e2]
 have e3 : (⟨#[43, 45]⟩ : ByteArray).data.toList = [43, 45] := rfl
 rw [e3]
 constructor
 ·rintro ⟨⟨h1, h2⟩, h3⟩
  exact ⟨h1, by simpa using h2, by omega⟩
 ·rintro ⟨h1, h2, h3⟩
  exact ⟨⟨h1, by simpa using h2⟩, by omega⟩
theorem okL_app (a c : List UInt8) : okL (a ++ c) = true ↔ okL a = true ∧ okL c = true := by unfold okL; rw [List.all_append, Bool.and_eq_true]
theorem abbrF_ok {f l : List UInt8} {s : Int} (h : (abbrF f s l).2 = 0) : (abbrF f s l).1 = abbrN f s l ∧ (splitF f).2.2.2 = true ∧ letterOk l = true ∧ 0 ≤ s ∧ s ≤ 10800 ∧ (abbrN f s l).length ≤ 8 ∧ abbrN f s l ≠ [] := by
 unfold abbrF at h ⊢
 by_cases h1 : (splitF f).2.2.2 = false ∨ letterOk l = false
 ·rw [if_pos h1] at h; cases h
 ·rw [if_neg h1] at h ⊢
  by_cases h2 : ¬ (0 ≤ s ∧ s ≤ 10800)
  ·rw [if_pos h2] at h; cases h
  ·rw [if_neg h2] at h ⊢
   by_cases h3 : 8 < (abbrN f s l).length
   ·rw [if_pos h3] at h; cases h
   ·rw [if_neg h3] at h ⊢
    by_cases h4 : abbrN f s l = []
    ·rw [if_pos h4] at h; cases h
    ·rw [if_neg h4]
     rw [not_or] at h1
     exact ⟨rfl, by simpa using h1.1, by simpa using h1.2, by omega, by omega, by omega, h4⟩
theorem abbrN_okL {f l : List UInt8} {s : Int} (h1 : (splitF f).2.2.2 = true) (h2 : letterOk l = true) : okL (abbrN f s l) = true := by
 have hl : okL (if l = [45] then [] else l) = true := by
  by_cases e : l = [45]
  ·rw [if_pos e]; rfl
  ·rw [if_neg e]
   unfold letterOk at h2
   rw [Bool.or_eq_true] at h2
   rcases h2 with h2 | h2
   ·exact absurd (of_decide_eq_true h2) e
   ·exact ((abbrB_iff l).1 h2).1
 unfold splitF at h1
 unfold abbrN splitF
 by_cases g1 : 12 < f.length
 ·rw [if_pos g1] at h1; cases h1
 ·rw [if_neg g1] at h1
  rw [if_neg g1]
  by_cases g2 : (Lib.cut f [47]).2.2 = true
  ·rw [if_pos g2] at h1
   rw [if_pos g2]
   dsimp only at h1 ⊢
   rw [Bool.and_eq_true] at h1
   rw [if_pos rfl]
   split
   ·exact ((abbrB_iff _).1 h1.1).1
   ·exact ((abbrB_iff _).1 h1.2).1
  ·rw [if_neg g2] at h1
   rw [if_neg g2]
   by_cases g3 : (Lib.cut f [37]).2.2 = true
   ·rw [if_pos g3] at h1
    rw [if_pos g3]
    dsimp only at h1 ⊢
    rw [if_neg (by decide), if_pos rfl]
    have hab : okL ((Lib.cut f [37]).1 ++ (Lib.cut f [37]).2.1) = true := by
     rw [Bool.or_eq_true] at h1
     rcases h1 with h1 | h1
     ·rw [of_decide_eq_true h1]; rfl
     ·rw [Bool.and_eq_true] at h1
      exact ((abbrB_iff _).1 h1.2).1
    rw [okL_app] at hab
    rw [okL_app, okL_app]
    exact ⟨hab.1, hl, hab.2⟩
   ·rw [if_neg g3] at h1
    rw [if_neg g3]
    dsimp only at h1 ⊢
    rw [if_neg (by decide), if_neg (by decide)]
    exact ((abbrB_iff _).1 h1).1
theorem abbrF_abbr {f l : List UInt8} {s : Int} (h : (abbrF f s l).2 = 0) : abbrB (txt (abbrF f s l).1) = true := by
 obtain ⟨e, h1, h2, -, -, h3, h4⟩ := abbrF_ok h
 rw [e, abbrB_iff]
 exact ⟨abbrN_okL h1 h2, h4, h3⟩
theorem cut_noA {l : List UInt8} {c : UInt8} (h : c ∉ l) : (Lib.cut l [c]).2.2 = false := by
 have hi : Lib.index l [c] = -1 := Lib.index_none fun j hj => by
  cases ho : Lib.occAt l [c] j
  ·rfl
  ·exact absurd (List.mem_of_getElem? (Lib.occAt_head rfl ho)) h
 unfold Lib.cut
 rw [hi, if_neg (by omega)]
theorem okL_no {l : List UInt8} (h : okL l = true) : (47 : UInt8) ∉ l ∧ (37 : UInt8) ∉ l := by
 unfold okL at h
 rw [List.all_eq_true] at h
 refine ⟨fun g => ?_, fun g => ?_⟩
 ·have := h _ g; revert this; decide
 ·have := h _ g; revert this; decide
theorem abbrF_self {f : List UInt8} {s : Int} (h : abbrB (txt f) = true) (h0 : 0 ≤ s) (h1 : s ≤ 10800) : abbrF f s [45] = (f, 0) := by
 obtain ⟨h2, h3, h4⟩ := (abbrB_iff f).1 h
 obtain ⟨n1, n2⟩ := okL_no h2
 have e : splitF f = (f, [], [], true) := by
  unfold splitF
  rw [if_neg (by omega), cut_noA n1, cut_noA n2, if_neg (by decide), if_neg (by decide), h]
 have e2 : abbrN f s [45] = f := by unfold abbrN; rw [e]; rfl
 unfold abbrF
 rw [e, e2, if_neg (by simp [letterOk]), if_neg (by omega), if_neg (by omega), if_neg h3]
end Go.Proofs.YtomahddiclkepaaGreatDoor
namespace Go.Proofs.YtomahddiclkepaaGreatDoor
open Classical
set_option linter.unusedVariables false
set_option linter.unusedSimpArgs false
theorem bnd_exV (p : Nat → Bool) : ∀ (n : Nat), (∀ a b, a ≤ b → b < n → p a = true → p b = true) → ∃ h, h ≤ n ∧ (∀ t, t < h → p t = false) ∧ (∀ t, h ≤ t → t < n → p t = true)
 | 0, _ => ⟨0, Nat.le_refl _, fun t h => absurd h (Nat.not_lt_zero _), fun t _ h => absurd h (Nat.not_lt_zero _)⟩
 | n + 1, hm => by
  obtain ⟨h, h1, h2, h3⟩ := bnd_exV p n fun a b hab hb => hm a b hab (by omega)
  by_cases e : p n = true
  ·exact ⟨h, by omega, h2, fun t ht htn => by
    by_cases ht2 : t = n
    ·rw [ht2]; exact e
    ·exact h3 t ht (by omega)⟩
  ·refine ⟨n + 1, Nat.le_refl _, fun t ht => ?_, fun t h4 h5 => by omega⟩
   cases ep : p t with
   | false => rfl
   | true => exact absurd (hm t n (by omega) (by omega) ep) e
theorem cntOf_specV (t : Tab) (ok : OkTab t) (y : Int) : cntOf t.chs y ≤ t.chs.length ∧ (∀ i, i < cntOf t.chs y → tAt t.chs i ≤ y) ∧ (∀ i, cntOf t.chs y ≤ i → i < t.chs.length → y < tAt t.chs i) := by
 obtain ⟨h, h1, h2, h3⟩ := bnd_exV (fun i => decide (y < tAt t.chs i)) t.chs.length (fun a b hab hb hp => by
  have := tAt_mono t.chs ok.rise a b hab hb
  simp only [decide_eq_true_eq] at hp ⊢
  omega)
 have e : cntOf t.chs y = h := cntF_boundary _ _ _ h1 h2 h3
 rw [e]
 exact ⟨h1, fun i hi => by simpa using h2 i hi, fun i hi hl => by simpa using h3 i hi hl⟩
theorem valL_app (x : Ty) (a b : List (Int × Ty)) (y : Int) : valL x (a ++ b) y = valL (valL x a y) b y := by unfold valL; rw [List.foldl_append]
theorem valL_takeV (m : List Ch) (T : List Ty) (y : Int) (f : Int) : ∀ n, n ≤ m.length → (∀ i, i < n → tAt m i ≤ y) → valL (tyD T f) ((m.take n).map fun c => (c.t, tyD T c.k)) y = tyD T (if n = 0 then f else kAt m (n - 1)) := by
 intro n
 cases n with
 | zero => intro _ _; simp [valL]
 | succ n =>
  intro hn h
  have hlt : n < m.length := by omega
  rw [List.take_succ_eq_append_getElem hlt, List.map_append, valL_app]
  have := h n (by omega)
  have e : tAt m n = m[n].t := by simp [tAt, hlt]
  rw [e] at this
  simp only [List.map_cons, List.map_nil, valL, List.foldl_cons, List.foldl_nil, if_pos this]
  simp [kAt, hlt]
theorem tyOf_valV (t : Tab) (ok : OkTab t) (y : Int) : tyOf t y = valL (resH t) (resL t) y := by
 obtain ⟨c1, c2, c3⟩ := cntOf_specV t ok y
 have e1 := valL_takeV t.chs t.types y t.first (cntOf t.chs y) c1 c2
 have e2 : resL t = (t.chs.take (cntOf t.chs y)).map (fun c => (c.t, tyD t.types c.k)) ++ (t.chs.drop (cntOf t.chs y)).map (fun c => (c.t, tyD t.types c.k)) := by
  rw [← List.map_append, List.take_append_drop]; rfl
 rw [e2, valL_app]
 unfold resH
 rw [e1, valL_late]
 ·rfl
 intro c hc
 obtain ⟨d, hd, rfl⟩ := List.mem_map.1 hc
 obtain ⟨i, hi, rfl⟩ := List.getElem_of_mem hd
 rw [List.getElem_drop]
 have hlt : cntOf t.chs y + i < t.chs.length := by rw [List.length_drop] at hi; omega
 have := c3 (cntOf t.chs y + i) (by omega) hlt
 have e : tAt t.chs (cntOf t.chs y + i) = t.chs[cntOf t.chs y + i].t := by simp [tAt, hlt]
 rw [e] at this
 exact this
end Go.Proofs.YtomahddiclkepaaGreatDoor
namespace Go.Proofs.YtomahddiclkepaaGreatDoor
open Go.RowKit Go.Joins Go.Maps
open Classical
set_option linter.unusedVariables false
set_option linter.unusedSimpArgs false
section
variable {rules : List Ru} {l : List Er} {fr te : Int}
theorem stF_ok (h : TdsOk rules l) (y : Int) : -75600 ≤ (stF rules l y).off ∧ (stF rules l y).off ≤ 75600 ∧ abbrB (stF rules l y).name = true := by
 have hp : 0 < l.length := List.length_pos_iff.2 h.o.ne
 have hw := (which_spec h.o y).1
 have hk : whichF l y < l.length := by omega
 have ho := h.o.ok _ (List.getElem_mem hk)
 rw [← eraAt_in l _ hk] at ho
 obtain ⟨s1, s2, s3, -⟩ := sv_ok ho y
 have e : (tdR rules (eraAt l (whichF l y))).er = eraAt l (whichF l y) := tdR_er _ _
 have o1 := ho.o1
 have o2 := ho.o2
 unfold stF tdTy tdA nmT
 dsimp only
 rw [e]
 refine ⟨by omega, by omega, abbrF_abbr s1⟩
theorem stampE_mid {a b y : Int} (ha : stampE a = 0) (hb : stampE b = 0) (h1 : a ≤ y) (h2 : y ≤ b) : stampE y = 0 := by
 unfold stampE at *
 split at ha
 ·rename_i g1
  split at hb
  ·rename_i g2
   rw [if_pos (by omega)]
  ·cases hb
 ·cases ha
structure Made (rules : List Ru) (l : List Er) (fr te : Int) (t : Tab) : Prop where
 d : TdsOk rules l
 s1 : stampE fr = 0
 s2 : stampE te = 0
 lt : fr < te
 er : firstE (tdE rules) l = 0
 ok : OkTab t
 eq : t = normR (stF rules l fr) (candsF rules l fr te)
theorem stampE_bd {y : Int} (h : stampE y = 0) : -1099511627776 ≤ y ∧ y ≤ 1099511627776 := by
 unfold stampE at h
 split at h
 ·omega
 ·cases h
theorem mkE_ok (ho : ErasOk rules l) {t : Tab} (h : mkE rules l fr te = (0, t)) : Made rules l fr te t := by
 unfold mkE at h
 split at h
 ·rename_i h1; injection h with h _; exact absurd h h1
 rename_i h1
 split at h
 ·rename_i h2; injection h with h _; exact absurd h h2
 rename_i h2
 split at h
 ·cases h
 rename_i h3
 split at h
 ·rename_i h4; injection h with h _; exact absurd h h4
 rename_i h4
 split at h
 ·cases h
 rename_i h5
 injection h with _ h
 have hd := tdsOk_of ho (Classical.not_not.1 h4)
 have hc := cands_spec hd fr te
 have b1 := stampE_bd (Classical.not_not.1 h1)
 have b2 := stampE_bd (Classical.not_not.1 h2)
 refine ⟨hd, Classical.not_not.1 h1, Classical.not_not.1 h2, by omega, Classical.not_not.1 h4, ?_, h.symm⟩
 rw [← h]
 refine normR_ok hc.1 (fun y hy => ?_) (fun c hm => ?_) (by omega) (by omega)
 ·rcases hy with rfl | ⟨c, hm, rfl⟩
  ·exact stF_ok hd fr
  ·rw [(hc.2.1 c hm).2.2.1]
   exact stF_ok hd _
 ·have := hc.2.1 c hm
  omega
theorem made_resL {t : Tab} (m : Made rules l fr te t) : resL t = squ (stF rules l fr) (candsF rules l fr te) := by rw [m.eq, resL_norm]
theorem made_resH {t : Tab} (m : Made rules l fr te t) : resH t = stF rules l fr := by rw [m.eq, resH_norm]
theorem made_says {t : Tab} (m : Made rules l fr te t) {y : Int} (h1 : fr ≤ y) (h2 : y < te) : tyOf t y = stF rules l y := by
 rw [tyOf_valV t m.ok, made_resL m, made_resH m, valL_squ _ _ _ _ (cands_spec m.d fr te).1 (.inl rfl)]
 exact stF_val m.d h1 h2
end
end Go.Proofs.YtomahddiclkepaaGreatDoor
namespace Go.Proofs.YtomahddiclkepaaGreatDoor
open Go.RowKit Go.Joins Go.Maps
open Classical
set_option linter.unusedVariables false
set_option linter.unusedSimpArgs false
theorem rsv_zero {b : Bk} {nm : ByteArray} {z : Zo} {c : Int} (h : rsv b nm = (some z, c)) : c = 0 ∧ z ∈ b.zones ∧ bkChk b = 0 := by
 by_cases hb : bkChk b = 0
 ·rw [rsv_go hb] at h
  obtain ⟨h1, h2⟩ := resF_in h
  exact ⟨h2, h1, hb⟩
 ·rw [rsv_bad hb] at h; cases h
theorem resF_not0 {zs : List Zo} {ls : List Lk} : ∀ {n : Nat} {k : ByteArray} {c : Int}, resF zs ls n k = (none, c) → c ≠ 0 := by
 intro n
 induction n with
 | zero => intro k c h; cases h; decide
 | succ n ih =>
  intro k c h
  rw [resF] at h
  split at h
  ·cases h
  ·split at h
   ·cases h; decide
   ·exact ih h
theorem rsv_not0 {b : Bk} {nm : ByteArray} {c : Int} (h : rsv b nm = (none, c)) : c ≠ 0 := by
 by_cases hb : bkChk b = 0
 ·rw [rsv_go hb] at h; exact resF_not0 h
 ·rw [rsv_bad hb] at h
  injection h with _ h
  rwa [← h]
def oneB (rules : List Ru) (nm : ByteArray) (ev : Value) (l : List Er) : Bk := ⟨rules, [⟨nm, ev, l⟩], []⟩
theorem oneB_chk {rules : List Ru} {nm : ByteArray} {ev : Value} {l : List Er} (hr : rules.length ≤ 40) (ho : ∀ r ∈ rules, ruChk r = 0) (hn : nameB nm = true) (hl : l ≠ []) (hl2 : l.length ≤ 700) (he : ∀ k, k < l.length → eraChk rules l k = 0) : bkChk (oneB rules nm ev l) = 0 := by
 have h0 : ¬ (40 < (oneB rules nm ev l).rules.length ∨ 20 < (oneB rules nm ev l).zones.length ∨ 20 < (oneB rules nm ev l).links.length) := by
  show ¬ (40 < rules.length ∨ 20 < 1 ∨ 20 < 0)
  omega
 have hz : firstE (chkZ (oneB rules nm ev l)) (List.range (oneB rules nm ev l).zones.length) = 0 := by
  refine (firstE_zero _ _).2 fun i hi => ?_
  have hi : i < 1 := List.mem_range.1 hi
  obtain rfl : i = 0 := by omega
  show zoneChk rules [] ⟨nm, ev, l⟩ = 0
  unfold zoneChk
  rw [if_neg (by rw [hn]; simp), if_neg (by simp), if_neg hl, if_neg (show ¬ 700 < l.length by omega)]
  exact (firstE_zero _ _).2 fun k hk => he k (List.mem_range.1 hk)
 rw [bkChk_l _ h0 ((firstE_zero _ _).2 ho) hz]
 rfl
theorem oneB_rsv {rules : List Ru} {nm : ByteArray} {ev : Value} {l : List Er} (h : bkChk (oneB rules nm ev l) = 0) : rsv (oneB rules nm ev l) nm = (some ⟨nm, ev, l⟩, 0) :=
 rsv_zone h (z := ⟨nm, ev, l⟩) (List.mem_singleton.2 rfl)
section
variable {rules : List Ru} {l : List Er} {fr te p q : Int}
theorem squ_part (h : TdsOk rules l) (h1 : fr ≤ p) (h2 : q ≤ te) : squ (stF rules l p) (candsF rules l p q) = (squ (stF rules l fr) (candsF rules l fr te)).filter fun c => decide (p < c.1 ∧ c.1 < q) := by
 refine rise_ext (chg_rise h _ _) ((chg_rise h fr te).sublist List.filter_sublist) fun c => ?_
 rw [List.mem_filter, chg_mem h, chg_mem h, decide_eq_true_eq]
 constructor
 ·rintro ⟨a, b, c1, d⟩; exact ⟨⟨by omega, by omega, c1, d⟩, a, b⟩
 ·rintro ⟨⟨a, b, c1, d⟩, e, f⟩; exact ⟨e, f, c1, d⟩
theorem types_sub (h : TdsOk rules l) (h1 : fr ≤ p) (h3 : p < te) (h2 : q ≤ te) : ∀ y ∈ (normR (stF rules l p) (candsF rules l p q)).types, y ∈ (normR (stF rules l fr) (candsF rules l fr te)).types := by
 intro y hy
 rw [norm_tyMem] at hy ⊢
 rcases hy with rfl | ⟨c, hc, e⟩
 ·have hv : valL (stF rules l fr) (squ (stF rules l fr) (candsF rules l fr te)) p = stF rules l p := by
   rw [valL_squ _ _ _ _ (cands_spec h fr te).1 (.inl rfl)]
   exact stF_val h h1 h3
  rcases valL_mem (squ (stF rules l fr) (candsF rules l fr te)) p (stF rules l fr) with e | ⟨c, hc, -, e⟩
  ·exact .inl (by rw [← hv, e])
  ·exact .inr ⟨c, hc, by rw [← e, hv]⟩
 ·rw [squ_part h h1 h2] at hc
  exact .inr ⟨c, (List.mem_filter.1 hc).1, e⟩
theorem part_size (h : TdsOk rules l) (h1 : fr ≤ p) (h3 : p < te) (h2 : q ≤ te) : (normR (stF rules l p) (candsF rules l p q)).types.length ≤ (normR (stF rules l fr) (candsF rules l fr te)).types.length ∧ (normR (stF rules l p) (candsF rules l p q)).chs.length ≤ (normR (stF rules l fr) (candsF rules l fr te)).chs.length := by
 refine ⟨length_sub _ _ (norm_nodup _ _) (types_sub h h1 h3 h2), ?_⟩
 rw [norm_chsLen, norm_chsLen, squ_part h h1 h2]
 exact List.length_filter_le _ _
theorem mkE_bad (h : (mkE rules l fr te).1 ≠ 0) : (mkE rules l fr te).2 = zTab := by
 unfold mkE at h ⊢
 split
 ·rfl
 rename_i h1
 split
 ·rfl
 rename_i h2
 split
 ·rfl
 rename_i h3
 split
 ·rfl
 rename_i h4
 split
 ·rfl
 rename_i h5
 rw [if_neg h1, if_neg h2, if_neg h3, if_neg h4, if_neg h5] at h
 exact absurd rfl h
end
theorem mkT_of {b : Bk} {nm : ByteArray} {z : Zo} {c : Int} (h : rsv b nm = (some z, c)) (fr te : Int) : mkT b nm fr te = mkE b.rules z.eras fr te := by unfold mkT; rw [h]
theorem mkT_none {b : Bk} {nm : ByteArray} {c : Int} (h : rsv b nm = (none, c)) (fr te : Int) : mkT b nm fr te = (c, zTab) := by unfold mkT; rw [h]
theorem mkT_zero {b : Bk} {nm : ByteArray} {fr te : Int} (h : (mkT b nm fr te).1 = 0) : ∃ z ∈ b.zones, rsv b nm = (some z, 0) ∧ bkChk b = 0 ∧ Made b.rules z.eras fr te (mkT b nm fr te).2 := by
 cases e : rsv b nm with
 | mk zo c =>
  cases zo with
  | none => rw [mkT_none e] at h; exact absurd h (rsv_not0 e)
  | some z =>
   obtain ⟨rfl, h2, h3⟩ := rsv_zero e
   rw [mkT_of e] at h ⊢
   exact ⟨z, h2, rfl, h3, mkE_ok (bk_eras h3 h2) (by rw [← h])⟩
theorem mkT_bad {b : Bk} {nm : ByteArray} {fr te : Int} (h : (mkT b nm fr te).1 ≠ 0) : (mkT b nm fr te).2 = zTab := by
 cases e : rsv b nm with
 | mk zo c =>
  cases zo with
  | none => rw [mkT_none e]
  | some z => rw [mkT_of e] at h ⊢; exact mkE_bad h
theorem made_st {b : Bk} {nm : ByteArray} {z : Zo} {fr te y : Int} {t : Tab} (hz : z ∈ b.zones) (hr : rsv b nm = (some z, 0)) (m : Made b.rules z.eras fr te t) (h1 : fr ≤ y) (h2 : y < te) : stR b nm y = (0, stF b.rules z.eras y) := by
 have hp : 0 < z.eras.length := List.length_pos_iff.2 m.d.o.ne
 have hk : whichF z.eras y < z.eras.length := by have := (which_spec m.d.o y).1; omega
 have e1 : tdE b.rules (eraAt z.eras (whichF z.eras y)) = 0 := by
  rw [eraAt_in _ _ hk]
  exact (firstE_zero _ _).1 m.er _ (List.getElem_mem hk)
 unfold stR
 rw [hr]
 dsimp only
 rw [if_neg (fun g => g (stampE_mid m.s1 m.s2 h1 (by omega))), if_neg (fun g => g e1)]
 rfl
end Go.Proofs.YtomahddiclkepaaGreatDoor
