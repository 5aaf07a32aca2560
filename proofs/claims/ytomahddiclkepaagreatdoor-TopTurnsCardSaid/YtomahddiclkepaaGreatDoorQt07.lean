/- names.Resolve: what it returns. NamesZones: the plain law: a zone's name leads to it, a link where its target leads. How many places are still false: plain. Tables in plain Lean: what they hold, and what table.Check says of them. state: an era with its turns; which type it is at a time: plain functions and facts. Abbreviations that come of a format are abbreviations: plain. The laws of states, in plain words. back.Years: rules of turns, and that they have just these turns: plain facts. TopTurns in plain Lean: rules of one year each, one for each turn, say the same. table.Check of a table that has types and is not too large: what it returns. What a table that may be has: plain facts. -/
import Derived.Test.YtomahddiclkepaaGreatDoorQt06
import Derived.Deep.AppendLies
import Derived.Laws.AppendOwn
import Derived.Laws.OwnMore
import Derived.Lib.SliceRun
import Derived.WalkKit
import Derived.Test.YtomahddiclkepaaGreatDoorQt01
import Derived.Test.YtomahddiclkepaaGreatDoorQt02
namespace Go.Proofs.YtomahddiclkepaaGreatDoor
open Go.RowKit Go.Joins Go.Maps
open Classical
set_option linter.unusedVariables false
set_option linter.unusedSimpArgs false

abbrev erL (x : Er) : List Value := (erCells x).toList
def erFlat (l : List Er) : List Value := l.flatMap erL
theorem infoEr : (Tryz.prog.info? 43).map (fun i => (i.zero, i.size, i.bytes)) = some (some (.agg #[.int .i64 0, .string ⟨#[]⟩, .int .i64 0, .string ⟨#[]⟩, .int .i64 0]), 5, 56) := by kernel_rfl
theorem undErS : Tryz.prog.underlying 44 = some (.slice 43) := by kernel_rfl
theorem erFlat_len (l : List Er) : (erFlat l).length = l.length * 5 := by
  induction l with
  | nil => rfl
  | cons x r ih =>
    have e : erFlat (x :: r) = erL x ++ erFlat r := by simp [erFlat]
    rw [e, List.length_append, ih]
    simp
    omega
theorem erFlat_get : ∀ (l : List Er) (j : Nat) (u : Value), (erFlat l)[j]? = some u → ∃ i, ∃ h : i < l.length, ∃ m, j = i * 5 + m ∧ (erL l[i])[m]? = some u
  | [], j, u, h => by simp [erFlat] at h
  | x :: r, j, u, h => by
    have e : erFlat (x :: r) = erL x ++ erFlat r := by simp [erFlat]
    rw [e] at h
    by_cases hj : j < 5
    · rw [List.getElem?_append_left (by simpa using hj)] at h
      exact ⟨0, by simp, j, by omega, h⟩
    · rw [List.getElem?_append_right (by simpa using Nat.le_of_not_lt hj)] at h
      obtain ⟨i, hi, m, e1, e2⟩ := erFlat_get r _ u h
      have e3 : (erL x).length = 5 := rfl
      rw [e3] at e1
      exact ⟨i + 1, by simpa using hi, m, by omega, e2⟩
theorem erFlat_one (l : List Er) : ∀ u ∈ erFlat l, u.oneCell' = true := by
  intro u hu
  obtain ⟨x, -, hx⟩ := List.mem_flatMap.1 hu
  simp at hx
  rcases hx with rfl | rfl | rfl | rfl | rfl <;> rfl

set_option maxRecDepth 100000 in
set_option maxHeartbeats 1000000 in
theorem CloneEr_any (l : List Er) (v : Value) (B : Nat) (w : World) (h : RowsAt erL 5 B w v l) (hl : l.length ≤ 1000) :
    Calls Tryz.prog 101 #[v] w fun e w' => ∃ vo, e = .returned vo ∧ w'.ownsRow w.heap.size 43 5 vo l.length (erFlat l) ∧ Below w.heap.size w w' := by
  obtain ⟨p, cap, rfl, hlen, hrow⟩ := h
  have qT : ∀ (W : World) (a : Option Addr) (n c n' c' : Nat), (binOp .eql 44 (.slice a n c) (.slice none n' c')).run Tryz.prog W = .ok (.bool a.isNone) W := fun W a n c n' c' => Lib.run_eql_slice_nil W _ _ a n c n' c' undErS
  cases p with
  | none =>
    have : l = [] := by
      by_cases hn : l = []
      · exact hn
      · obtain ⟨b, o, e, -⟩ := hrow hn; cases e
    subst this
    clear hrow
    go_enter Tryz.func101, Tryz.ntmps101
    go_wp2_with fail
    go_ret
    exact ⟨_, rfl, World.ownsRow_nil _ _ _ _, Below.refl _ _⟩
  | some ad =>
    have hnews : ∀ j u, (erFlat l)[j]? = some u → w.cell? (ad.add j) = some u := by
      intro j u hu
      obtain ⟨i, hi, m, rfl, hm⟩ := erFlat_get l j u hu
      obtain ⟨b, o, e, hlt, hc⟩ := hrow (List.ne_nil_of_length_pos (by omega))
      injection e with e
      subst e
      have := hc i hi m u hm
      rw [Nat.add_assoc] at this
      have e2 : (⟨b, o, none⟩ : Addr).add (i * 5 + m) = ⟨b, o + (i * 5 + m), none⟩ := by
        unfold Addr.add
        split
        · rename_i h0; rw [h0]; rfl
        · rfl
      rw [e2]
      exact this
    have HNW := Lib.hid hnews
    have HFL := Lib.hid (erFlat_len l)
    have HFO := Lib.hid (erFlat_one l)
    obtain ⟨i1, hi1, hz10, hz11, hz12⟩ := info_parts infoEr
    obtain ⟨n, en⟩ : ∃ n, l.length = n := ⟨_, rfl⟩
    rw [en] at hl HFL ⊢
    clear hnews hrow hlen
    go_enter Tryz.func101, Tryz.ntmps101
    have hROW := World.ownsRow_lit (base := w.heap.size) (e := 43) (size := 5) w #[] 0 (Nat.le_refl _) (by decide) rfl
    have HROW := Lib.hid hROW
    have HNEW : Hid (∀ j u, (erFlat l)[j]? = some u → (w.alloc (.cells #[] 43)).cell? (ad.add j) = some u) := by
      show ∀ j u, _
      intro j u hu
      have h1 := HNW.out j u hu
      exact (((Below.refl w.heap.size w).alloc (Nat.le_refl _) (.cells #[] 43)).cell (p := ad.add j) (World.block_lt_of_cell? _ _ h1)).trans h1
    have HML : 0 + n ≤ maxLen := by simp only [maxLen]; omega
    have HMB : (0 + n) * 56 ≤ 140737488355328 := by omega
    have HSZ : w.heap.size ≤ (w.alloc (.cells #[] 43)).heap.size := by simp
    clear hROW
    go_wp2_with (at_builtin; refine wpList_append_own _ rfl _ _ 44 rfl w.heap.size 43 i1 (.agg #[.int .i64 0, .string ⟨#[]⟩, .int .i64 0, .string ⟨#[]⟩, .int .i64 0]) 5 56 undErS hi1 hz10 hz11 hz12 rfl (by decide) _ _ _ rfl HROW.out ad n cap (erFlat l) rfl HFL.out HNEW.out HFO.out HML HMB HSZ ?_; intro v' w10 hown10 hgrow10 _)
    go_ret
    refine ⟨_, rfl, ?_, (((Below.refl _ _).alloc (Nat.le_refl _) _).grown hgrow10 HSZ (fun q hq => (World.ownsRow.lt HROW.out q hq).1))⟩
    have := hown10
    simp only [Nat.zero_add] at this
    exact this
theorem bk_parts {b : Bk} (h : bkChk b = 0) : (∀ i (hi : i < b.zones.length), zoneChk b.rules (b.zones.take i) b.zones[i] = 0) ∧ ∀ i (hi : i < b.links.length), linkChk b (b.links.take i) b.links[i] = 0 := by
  by_cases h0 : 40 < b.rules.length ∨ 20 < b.zones.length ∨ 20 < b.links.length
  · rw [bkChk_2 b h0] at h; cases h
  · by_cases h1 : firstE ruChk b.rules = 0
    · by_cases h2 : firstE (chkZ b) (List.range b.zones.length) = 0
      · rw [bkChk_l b h0 h1 h2] at h
        exact ⟨fun i hi => by rw [← chkZ_at b i hi]; exact (firstE_zero _ _).1 h2 i (List.mem_range.2 hi), fun i hi => by rw [← chkL_at b i hi]; exact (firstE_zero _ _).1 h i (List.mem_range.2 hi)⟩
      · rw [bkChk_z b h0 h1 h2] at h; exact absurd h h2
    · rw [bkChk_r b h0 h1] at h; exact absurd h h1
structure ZoneOk (b : Bk) (i : Nat) (z : Zo) : Prop where
  nm : nameB z.nm = true
  fresh : ∀ y ∈ b.zones.take i, y.nm ≠ z.nm
  ne : z.eras ≠ []
  le : z.eras.length ≤ 700
  er : firstE (eraChk b.rules z.eras) (List.range z.eras.length) = 0
theorem bk_zone {b : Bk} (h : bkChk b = 0) (i : Nat) (hi : i < b.zones.length) : ZoneOk b i b.zones[i] := by
  have hz := (bk_parts h).1 i hi
  unfold zoneChk at hz
  split at hz
  · cases hz
  · rename_i h1
    split at hz
    · cases hz
    · rename_i h2
      split at hz
      · cases hz
      · rename_i h3
        split at hz
        · cases hz
        · rename_i h4
          refine ⟨by simpa using h1, fun y hy e => h2 (List.any_eq_true.2 ⟨y, hy, by simpa using e⟩), h3, by omega, hz⟩
theorem bk_er {b : Bk} (h : bkChk b = 0) {z : Zo} (hz : z ∈ b.zones) : z.eras ≠ [] ∧ z.eras.length ≤ 700 := by
  obtain ⟨i, hi, rfl⟩ := List.mem_iff_getElem.1 hz
  exact ⟨(bk_zone h i hi).ne, (bk_zone h i hi).le⟩

/-- what names.Resolve answers -/
def rsv (b : Bk) (nm : ByteArray) : Option Zo × Int := if bkChk b ≠ 0 then (none, bkChk b) else resF b.zones b.links (Maps.size (DL b.links) + 1) nm
def zNm (z : Option Zo) : ByteArray := match z with | some z => z.nm | none => ⟨#[]⟩
def zEr (z : Option Zo) : List Er := match z with | some z => z.eras | none => []
def RsvPost (R : Option Zo × Int) (w : World) (e : Ending) (w' : World) : Prop :=
  ∃ vo, e = .returned (.tuple #[.agg #[.string (zNm R.1), vo], .int .i64 R.2]) ∧ w'.ownsRow w.heap.size 43 5 vo (zEr R.1).length (erFlat (zEr R.1)) ∧ Below w.heap.size w w'
theorem rsv_bad {b : Bk} {nm : ByteArray} (h : bkChk b ≠ 0) : rsv b nm = (none, bkChk b) := by unfold rsv; rw [if_pos h]
theorem rsv_go {b : Bk} {nm : ByteArray} (h : bkChk b = 0) : rsv b nm = resF b.zones b.links (Maps.size (DL b.links) + 1) nm := by unfold rsv; rw [if_neg (fun g => g h)]
theorem resF_in {zs : List Zo} {ls : List Lk} : ∀ {n : Nat} {k : ByteArray} {z : Zo} {c : Int}, resF zs ls n k = (some z, c) → z ∈ zs ∧ c = 0 := by
  intro n
  induction n with
  | zero => intro k z c h; cases h
  | succ n ih =>
    intro k z c h
    rw [resF] at h
    split at h
    · rename_i z2 e
      cases h
      exact ⟨(lookF_in e).1, rfl⟩
    · split at h
      · cases h
      · exact ih h
end Go.Proofs.YtomahddiclkepaaGreatDoor
namespace Go.Proofs.YtomahddiclkepaaGreatDoor
open Go.RowKit Go.Joins Go.Maps
open Classical
set_option linter.unusedVariables false
set_option linter.unusedSimpArgs false

section
variable {α : Type} {key : α → ByteArray}
theorem lookF_keep {k : ByteArray} : ∀ (l : List α) (x : α), (l.foldl (fun acc x => if key x = k then some x else acc) (some x)).isSome = true
  | [], x => rfl
  | y :: r, x => by
    rw [List.foldl_cons]
    by_cases h : key y = k
    · rw [if_pos h]; exact lookF_keep r y
    · rw [if_neg h]; exact lookF_keep r x
theorem lookF_has {k : ByteArray} : ∀ (l : List α) (acc : Option α), (∃ x ∈ l, key x = k) → (l.foldl (fun acc x => if key x = k then some x else acc) acc).isSome = true
  | [], acc, h => by obtain ⟨x, hx, -⟩ := h; cases hx
  | y :: r, acc, h => by
    rw [List.foldl_cons]
    by_cases hy : key y = k
    · rw [if_pos hy]; exact lookF_keep r y
    · rw [if_neg hy]
      obtain ⟨x, hx, e⟩ := h
      rcases List.mem_cons.1 hx with rfl | hx
      · exact absurd e hy
      · exact lookF_has r acc ⟨x, hx, e⟩
theorem lookF_uniq {l : List α} (hu : ∀ x ∈ l, ∀ y ∈ l, key x = key y → x = y) {x : α} (hx : x ∈ l) : lookF key l (key x) = some x := by
  have h := lookF_has (key := key) (k := key x) l none ⟨x, hx, rfl⟩
  cases e : lookF key l (key x) with
  | none => unfold lookF at e; rw [e] at h; cases h
  | some y =>
    obtain ⟨hy, hk⟩ := lookF_in e
    rw [hu y hy x hx hk]
theorem uniq_of {l : List α} (h : ∀ i (hi : i < l.length), ∀ y ∈ l.take i, key y ≠ key l[i]) : ∀ x ∈ l, ∀ y ∈ l, key x = key y → x = y := by
  intro x hx y hy e
  obtain ⟨i, hi, rfl⟩ := List.mem_iff_getElem.1 hx
  obtain ⟨j, hj, rfl⟩ := List.mem_iff_getElem.1 hy
  rcases Nat.lt_trichotomy i j with hij | hij | hij
  · exact absurd e (h j hj _ (List.mem_take_iff_getElem.2 ⟨i, by omega, rfl⟩))
  · subst hij; rfl
  · exact absurd e.symm (h i hi _ (List.mem_take_iff_getElem.2 ⟨j, by omega, rfl⟩))
end
theorem zones_uniq {b : Bk} (h : bkChk b = 0) : ∀ x ∈ b.zones, ∀ y ∈ b.zones, x.nm = y.nm → x = y := uniq_of (key := fun z : Zo => z.nm) fun i hi => (bk_zone h i hi).fresh
theorem rsv_zone {b : Bk} (h : bkChk b = 0) {z : Zo} (hz : z ∈ b.zones) : rsv b z.nm = (some z, 0) := by
  rw [rsv_go h]
  exact resF_z (lookF_uniq (key := fun z : Zo => z.nm) (zones_uniq h) hz)

end Go.Proofs.YtomahddiclkepaaGreatDoor
namespace Go.Proofs.YtomahddiclkepaaGreatDoor
set_option linter.unusedVariables false
set_option linter.unusedSimpArgs false

/-- how many places below n are still false -/
def cntF (p : Nat → Bool) (n : Nat) : Nat := (List.range n).countP (fun i => !p i)

theorem cntF_boundary (p : Nat → Bool) (n h : Nat) (hn : h ≤ n) (h1 : ∀ t, t < h → p t = false) (h2 : ∀ t, h ≤ t → t < n → p t = true) : cntF p n = h := by
  unfold cntF
  induction n with
  | zero => simp; omega
  | succ n ih =>
    rw [List.range_succ, List.countP_append]
    by_cases e : h = n + 1
    · subst e
      have : (List.range n).countP (fun i => !p i) = n := by
        have hall : ∀ i ∈ List.range n, (fun i => !p i) i = true := fun i hi => by
          have := h1 i (by have := List.mem_range.1 hi; omega)
          simp [this]
        rw [List.countP_eq_length.2 hall]; simp
      rw [this]; simp [h1 n (by omega)]
    · rw [ih (by omega) (fun t ht htn => h2 t ht (by omega))]
      simp [h2 n (by omega) (by omega)]
end Go.Proofs.YtomahddiclkepaaGreatDoor
namespace Go.Proofs.YtomahddiclkepaaGreatDoor
open Go.RowKit
set_option linter.unusedVariables false

structure Ty where
  off : Int
  save : Bool
  name : ByteArray
abbrev tyV (x : Ty) : Value := .agg #[.int .i64 x.off, .bool x.save, .string x.name]
structure Ch where
  t : Int
  k : Int
structure Tab where
  types : List Ty
  first : Int
  chs : List Ch

def okOff (x : Int) : Bool := decide (-75600 ≤ x ∧ x ≤ 75600)
def okTime (x : Int) : Bool := decide (-1099511627776 ≤ x ∧ x ≤ 1099511627776)
def okIdx (last x : Int) : Bool := decide (0 ≤ x ∧ x ≤ last)

def chkTypes : List Ty → Int
  | [] => 0
  | x :: r => if okOff x.off = true then (if abbrB x.name = true then chkTypes r else 3) else 1

def before (prev : Option Int) (x : Int) : Bool := match prev with
  | some p => decide (x ≤ p)
  | none => false

def chkChs (last : Int) : Option Int → List Ch → Int
  | _, [] => 0
  | prev, c :: r => if (okTime c.t && okIdx last c.k) = true then (if before prev c.t = true then 5 else chkChs last (some c.t) r) else 1

def big (t : Tab) : Bool := decide (250 < t.types.length ∨ 1000 < t.chs.length)

def chk (t : Tab) : Int :=
  if big t = true then 2 else
  if t.types = [] then 5 else
  if chkTypes t.types = 0 then (if okIdx ((t.types.length : Int) - 1) t.first = true then chkChs ((t.types.length : Int) - 1) none t.chs else 1) else chkTypes t.types

def tyAt (w : World) (b o : Nat) (x : Ty) : Prop :=
  w.cell? ⟨b, o, none⟩ = some (.int .i64 x.off) ∧ w.cell? ⟨b, o + 1, none⟩ = some (.bool x.save) ∧ w.cell? ⟨b, o + 2, none⟩ = some (.string x.name)
def chAt (w : World) (b o : Nat) (x : Ch) : Prop :=
  w.cell? ⟨b, o, none⟩ = some (.int .i64 x.t) ∧ w.cell? ⟨b, o + 1, none⟩ = some (.int .i64 x.k)

structure SlTy (w : World) (v : Value) (l : List Ty) : Prop where
  shape : ∃ p cap, v = .slice p l.length cap ∧ (l ≠ [] → ∃ b o, p = some ⟨b, o, none⟩ ∧ b < w.heap.size ∧ ∀ i (h : i < l.length), tyAt w b (o + i * 3) l[i])
  size : l.length ≤ maxLen
  names : ∀ x ∈ l, x.name.size ≤ maxLen
structure SlCh (w : World) (v : Value) (l : List Ch) : Prop where
  shape : ∃ p cap, v = .slice p l.length cap ∧ (l ≠ [] → ∃ b o, p = some ⟨b, o, none⟩ ∧ b < w.heap.size ∧ ∀ i (h : i < l.length), chAt w b (o + i * 2) l[i])
  size : l.length ≤ maxLen

structure TabAt (w : World) (v : Value) (t : Tab) : Prop where
  val : ∃ sv cv, v = .agg #[sv, .int .i64 t.first, cv] ∧ SlTy w sv t.types ∧ SlCh w cv t.chs

theorem tyAt.below {w w' : World} {b o : Nat} {x : Ty} (h : tyAt w b o x) (hb : Below w.heap.size w w') (hlt : b < w.heap.size) : tyAt w' b o x :=
  ⟨(hb.cell (p := ⟨b, o, none⟩) hlt).trans h.1, (hb.cell (p := ⟨b, o + 1, none⟩) hlt).trans h.2.1, (hb.cell (p := ⟨b, o + 2, none⟩) hlt).trans h.2.2⟩
theorem chAt.below {w w' : World} {b o : Nat} {x : Ch} (h : chAt w b o x) (hb : Below w.heap.size w w') (hlt : b < w.heap.size) : chAt w' b o x :=
  ⟨(hb.cell (p := ⟨b, o, none⟩) hlt).trans h.1, (hb.cell (p := ⟨b, o + 1, none⟩) hlt).trans h.2⟩

theorem SlTy.below {w w' : World} {v : Value} {l : List Ty} (h : SlTy w v l) (hb : Below w.heap.size w w') : SlTy w' v l := by
  obtain ⟨⟨p, cap, hv, hc⟩, h2, h3⟩ := h
  refine ⟨⟨p, cap, hv, fun hne => ?_⟩, h2, h3⟩
  obtain ⟨b, o, hp, hlt, hat⟩ := hc hne
  exact ⟨b, o, hp, Nat.lt_of_lt_of_le hlt hb.size, fun i h => (hat i h).below hb hlt⟩
theorem SlCh.below {w w' : World} {v : Value} {l : List Ch} (h : SlCh w v l) (hb : Below w.heap.size w w') : SlCh w' v l := by
  obtain ⟨⟨p, cap, hv, hc⟩, h2⟩ := h
  refine ⟨⟨p, cap, hv, fun hne => ?_⟩, h2⟩
  obtain ⟨b, o, hp, hlt, hat⟩ := hc hne
  exact ⟨b, o, hp, Nat.lt_of_lt_of_le hlt hb.size, fun i h => (hat i h).below hb hlt⟩
theorem TabAt.below {w w' : World} {v : Value} {t : Tab} (h : TabAt w v t) (hb : Below w.heap.size w w') : TabAt w' v t := by
  obtain ⟨sv, cv, hv, h1, h2⟩ := h.val
  exact ⟨sv, cv, hv, h1.below hb, h2.below hb⟩

end Go.Proofs.YtomahddiclkepaaGreatDoor
namespace Go.Proofs.YtomahddiclkepaaGreatDoor
open Go.RowKit Go.Joins Go.Maps
open Classical
set_option linter.unusedVariables false
set_option linter.unusedSimpArgs false

/-- an era with its turns, and the letter ahead of them -/
structure Td where
  er : Er
  ts : List Tn
  fst : ByteArray
def dashB : ByteArray := ⟨#[45]⟩
def fstK (l : List Tn) : Nat := l.findIdx fun u => decide (u.s = 0)
def firstLt (l : List Tn) : ByteArray := (l[fstK l]?.map (·.lt)).getD dashB
def tdE (rules : List Ru) (x : Er) : Int := if x.ru.data.toList = [] then 0 else (mkR rules x.ru x.off).1
def tdR (rules : List Ru) (x : Er) : Td := if x.ru.data.toList = [] then ⟨x, [], dashB⟩ else ⟨x, (mkR rules x.ru x.off).2, firstLt (mkR rules x.ru x.off).2⟩
theorem tdR_er (rules : List Ru) (x : Er) : (tdR rules x).er = x := by unfold tdR; split <;> rfl
def tnA (l : List Tn) (i : Nat) : Int := (l[i]?.map (·.a)).getD 0
/-- how many turns there are up to a time -/
def cntT (l : List Tn) (t : Int) : Nat := cntF (fun i => decide (t < tnA l i)) l.length
def svT (x : Td) (t : Int) : Int × ByteArray := match x.ts[cntT x.ts t - 1]? with
  | some u => if cntT x.ts t = 0 then (x.er.sv, x.fst) else (u.s, u.lt)
  | none => (x.er.sv, x.fst)
def nmT (x : Td) (t : Int) : ByteArray := txt (abbrF x.er.fm.data.toList (svT x t).1 (svT x t).2.data.toList).1
def tdTy (x : Td) (t : Int) : Ty := ⟨x.er.off + (svT x t).1, decide (0 < (svT x t).1), nmT x t⟩
def whichF (l : List Er) (t : Int) : Nat := cntF (fun i => decide (t < (eraAt l i).un)) (l.length - 1)
def ty0 : Ty := ⟨0, false, ⟨#[]⟩⟩
/-- what state.At answers -/
def stR (b : Bk) (nm : ByteArray) (t : Int) : Int × Ty :=
  match (rsv b nm).1 with
  | none => ((rsv b nm).2, ty0)
  | some z => if stampE t ≠ 0 then (stampE t, ty0) else
    if tdE b.rules (eraAt z.eras (whichF z.eras t)) ≠ 0 then (tdE b.rules (eraAt z.eras (whichF z.eras t)), ty0) else (0, tdTy (tdR b.rules (eraAt z.eras (whichF z.eras t))) t)

theorem bnd_ex (p : Nat → Bool) : ∀ (n : Nat), (∀ a b, a ≤ b → b < n → p a = true → p b = true) → ∃ h, h ≤ n ∧ (∀ t, t < h → p t = false) ∧ (∀ t, h ≤ t → t < n → p t = true)
  | 0, _ => ⟨0, Nat.le_refl _, fun t h => absurd h (Nat.not_lt_zero _), fun t _ h => absurd h (Nat.not_lt_zero _)⟩
  | n + 1, hm => by
    obtain ⟨h, h1, h2, h3⟩ := bnd_ex p n fun a b hab hb => hm a b hab (by omega)
    by_cases e : p n = true
    · exact ⟨h, by omega, h2, fun t ht htn => by
        by_cases ht2 : t = n
        · rw [ht2]; exact e
        · exact h3 t ht (by omega)⟩
    · refine ⟨n + 1, Nat.le_refl _, fun t ht => ?_, fun t h4 h5 => by omega⟩
      cases ep : p t with
      | false => rfl
      | true => exact absurd (hm t n (by omega) (by omega) ep) e
theorem cntF_spec (p : Nat → Bool) (n : Nat) (hm : ∀ a b, a ≤ b → b < n → p a = true → p b = true) : cntF p n ≤ n ∧ (∀ i, i < cntF p n → p i = false) ∧ ∀ i, cntF p n ≤ i → i < n → p i = true := by
  obtain ⟨h, h1, h2, h3⟩ := bnd_ex p n hm
  rw [cntF_boundary p n h h1 h2 h3]
  exact ⟨h1, h2, h3⟩
theorem cntF_leN (p : Nat → Bool) (n : Nat) : cntF p n ≤ n := by
  unfold cntF
  have := List.countP_le_length (p := fun i => !p i) (l := List.range n)
  simpa using this
theorem rises_mono {l : List Tn} (h : Rises l) : ∀ (j i : Nat) (hij : i < j) (hj : j < l.length), (l[i]'(by omega)).a < l[j].a
  | 0, i, hi, _ => absurd hi (Nat.not_lt_zero _)
  | j + 1, i, hi, hj => by
    have h1 := h j hj
    by_cases e : i = j
    · subst e; exact h1
    · have h2 := rises_mono h j i (by omega) (by omega)
      omega
theorem tnA_at (l : List Tn) (i : Nat) (h : i < l.length) : tnA l i = l[i].a := by unfold tnA; rw [List.getElem?_eq_getElem h]; rfl
theorem tnA_mono {l : List Tn} (h : Rises l) (i j : Nat) (hij : i ≤ j) (hj : j < l.length) : tnA l i ≤ tnA l j := by
  rw [tnA_at l j hj, tnA_at l i (by omega)]
  by_cases e : i = j
  · subst e; exact Int.le_refl _
  · exact Int.le_of_lt (rises_mono h j i (by omega) hj)
theorem cntT_mono {l : List Tn} (h : Rises l) (t : Int) : ∀ a b, a ≤ b → b < l.length → decide (t < tnA l a) = true → decide (t < tnA l b) = true := fun a b hab hb hp => by
  have := tnA_mono h a b hab hb
  simp only [decide_eq_true_eq] at *
  omega
theorem cntT_spec {l : List Tn} (h : Rises l) (t : Int) : cntT l t ≤ l.length ∧ (∀ i, i < cntT l t → tnA l i ≤ t) ∧ ∀ i, cntT l t ≤ i → i < l.length → t < tnA l i := by
  obtain ⟨h1, h2, h3⟩ := cntF_spec _ _ (cntT_mono h t)
  exact ⟨h1, fun i hi => by have := h2 i hi; simpa using this, fun i hi hl => by have := h3 i hi hl; simpa using this⟩
theorem cntT_le (l : List Tn) (t : Int) : cntT l t ≤ l.length := cntF_leN _ _
theorem cntT_eq {l : List Tn} (h : Rises l) {t : Int} {k : Nat} (hk : k ≤ l.length) (h1 : ∀ i, i < k → tnA l i ≤ t) (h2 : ∀ i, k ≤ i → i < l.length → t < tnA l i) : cntT l t = k :=
  cntF_boundary _ _ _ hk (fun i hi => by have := h1 i hi; simpa using this) (fun i hi hl => by have := h2 i hi hl; simpa using this)
theorem svT_0 {x : Td} {t : Int} (h : cntT x.ts t = 0) : svT x t = (x.er.sv, x.fst) := by
  unfold svT
  split
  · rw [if_pos h]
  · rfl
theorem svT_s {x : Td} {t : Int} (h : cntT x.ts t ≠ 0) : ∃ h2 : cntT x.ts t - 1 < x.ts.length, svT x t = (x.ts[cntT x.ts t - 1].s, x.ts[cntT x.ts t - 1].lt) := by
  have := cntT_le x.ts t
  have h2 : cntT x.ts t - 1 < x.ts.length := by omega
  refine ⟨h2, ?_⟩
  unfold svT
  rw [List.getElem?_eq_getElem h2]
  dsimp only
  rw [if_neg h]

theorem outF_mem (off : Int) : ∀ (S : List (Int × Ru)) (save : Int) (last : Option Int) (l : List Tn), outF off save last S = some l → ∀ u ∈ l, ∃ x ∈ S, u.s = x.2.sv ∧ u.lt = x.2.lt
  | [], save, last, l, h, u, hu => by
    simp only [outF, Option.some.injEq] at h
    subst h
    cases hu
  | x :: r, save, last, l, h, u, hu => by
    obtain ⟨h1, t, h2, rfl⟩ := outF_some h
    rcases List.mem_cons.1 hu with rfl | hu
    · exact ⟨x, List.mem_cons_self .., rfl, rfl⟩
    · obtain ⟨y, hy, e⟩ := outF_mem off r _ _ t h2 u hu
      exact ⟨y, List.mem_cons_of_mem _ hy, e⟩
theorem noms_mem {D : Ru → Int → Int} {rules : List Ru} {nm : ByteArray} {x : Int × Ru} (h : x ∈ nomsOf D rules nm) : x.2 ∈ rules ∧ x.2.nm = nm := by
  obtain ⟨r, hr, hx⟩ := List.mem_flatMap.1 h
  obtain ⟨i, -, rfl⟩ := List.mem_map.1 hx
  have := List.mem_filter.1 hr
  exact ⟨this.1, by simpa using this.2⟩
theorem mkR_mem {rules : List Ru} {nm : ByteArray} {off : Int} {u : Tn} (h : u ∈ (mkR rules nm off).2) : ∃ r ∈ rules, r.nm = nm ∧ u.s = r.sv ∧ u.lt = r.lt := by
  by_cases h0 : (mkR rules nm off).1 = 0
  · obtain ⟨x, hx, e⟩ := outF_mem off _ 0 none _ (mkR_ok h0) u h
    have hx2 : x ∈ nomsOf dayN rules nm := (List.mergeSort_perm _ _).mem_iff.1 hx
    obtain ⟨h1, h2⟩ := noms_mem hx2
    exact ⟨x.2, h1, h2, e⟩
  · have : (mkR rules nm off).2 = [] := by
      unfold mkR at h0 ⊢
      split
      · rfl
      · split
        · rfl
        · rename_i h1 h2
          rw [if_neg h1, if_neg h2] at h0
          cases e : outF off 0 none (srt (nomsOf dayN rules nm)) with
          | none => rfl
          | some l => rw [e] at h0; exact absurd rfl h0
    rw [this] at h
    cases h
theorem mkR_rises {rules : List Ru} {nm : ByteArray} {off : Int} (h0 : (mkR rules nm off).1 = 0) : Rises (mkR rules nm off).2 := (outF_rise off _ 0 none _ (mkR_ok h0)).2
theorem tdR_rises {rules : List Ru} {x : Er} (h : tdE rules x = 0) : Rises (tdR rules x).ts := by
  unfold tdE at h
  unfold tdR
  by_cases hr : x.ru.data.toList = []
  · rw [if_pos hr]; intro i hi; exact absurd hi (Nat.not_lt_zero _)
  · rw [if_neg hr] at h ⊢
    exact mkR_rises h
theorem firstLt_of (l : List Tn) : firstLt l = dashB ∨ ∃ u ∈ l, u.s = 0 ∧ firstLt l = u.lt := by
  unfold firstLt
  cases h : l[fstK l]? with
  | none => exact .inl rfl
  | some u =>
    obtain ⟨hlt, e⟩ := List.getElem?_eq_some_iff.1 h
    refine .inr ⟨u, e ▸ List.getElem_mem _, ?_, rfl⟩
    have := List.findIdx_getElem (p := fun u : Tn => decide (u.s = 0)) (xs := l) (w := hlt)
    have h3 : l[fstK l].s = 0 := of_decide_eq_true this
    rw [← e]; exact h3

structure EraOk (rules : List Ru) (x : Er) : Prop where
  o1 : -64800 ≤ x.off
  o2 : x.off ≤ 64800
  s1 : 0 ≤ x.sv
  s2 : x.sv ≤ 10800
  sr : x.ru.data.toList ≠ [] → x.sv = 0
  has : x.ru.data.toList ≠ [] → ∃ r ∈ rules, r.nm = x.ru
  ab : abbrsChk rules x = 0
theorem eraChk_ok {rules : List Ru} {l : List Er} {k : Nat} (h : eraChk rules l k = 0) : EraOk rules (eraAt l k) ∧ (k + 1 ≠ l.length → -1099511627776 ≤ (eraAt l k).un ∧ (eraAt l k).un ≤ 1099511627776 ∧ stampE (eraAt l k).un = 0 ∧ (0 < k → (eraAt l (k - 1)).un < (eraAt l k).un)) ∧ (k + 1 = l.length → (eraAt l k).un = 0) := by
  unfold eraChk at h
  dsimp only at h
  split at h
  · cases h
  · rename_i h1
    split at h
    · cases h
    · rename_i h2
      split at h
      · cases h
      · rename_i h3
        split at h
        · exact absurd h (by assumption)
        · rename_i h4
          refine ⟨⟨by omega, by omega, by omega, by omega, fun hr => ?_, fun hr => ?_, Classical.not_not.1 h4⟩, fun hk => ?_, fun hk => ?_⟩
          · exact Classical.byContradiction fun hs => h2 ⟨hs, hr⟩
          · have : ¬ (rules.any fun r => decide (r.nm = (eraAt l k).ru)) = false := fun g => h3 ⟨hr, g⟩
            have : (rules.any fun r => decide (r.nm = (eraAt l k).ru)) = true := by simpa using this
            obtain ⟨r, hr, e⟩ := List.any_eq_true.1 this
            exact ⟨r, hr, of_decide_eq_true e⟩
          · rw [if_neg hk] at h
            split at h
            · cases h
            · rename_i h5
              split at h
              · exact absurd h (by assumption)
              · rename_i h6
                split at h
                · cases h
                · rename_i h7
                  refine ⟨by omega, by omega, Classical.not_not.1 h6, fun h0 => ?_⟩
                  omega
          · rw [if_pos hk] at h
            exact Classical.byContradiction fun g => by rw [if_pos g] at h; cases h
theorem eraAt_in (l : List Er) (k : Nat) (h : k < l.length) : eraAt l k = l[k] := by unfold eraAt; rw [List.getElem?_eq_getElem h]; rfl
structure ErasOk (rules : List Ru) (l : List Er) : Prop where
  ne : l ≠ []
  le : l.length ≤ 700
  ok : ∀ x ∈ l, EraOk rules x
  un : ∀ k, k + 1 < l.length → -1099511627776 ≤ (eraAt l k).un ∧ (eraAt l k).un ≤ 1099511627776 ∧ stampE (eraAt l k).un = 0
  rise : ∀ k, k + 2 < l.length → (eraAt l k).un < (eraAt l (k + 1)).un
  last : (eraAt l (l.length - 1)).un = 0
theorem bk_eras {b : Bk} (h : bkChk b = 0) {z : Zo} (hz : z ∈ b.zones) : ErasOk b.rules z.eras := by
  obtain ⟨i, hi, rfl⟩ := List.mem_iff_getElem.1 hz
  have hzo := bk_zone h i hi
  have he : ∀ k, k < b.zones[i].eras.length → eraChk b.rules b.zones[i].eras k = 0 := fun k hk => (firstE_zero _ _).1 hzo.er k (List.mem_range.2 hk)
  have hp : 0 < b.zones[i].eras.length := List.length_pos_iff.2 hzo.ne
  refine ⟨hzo.ne, hzo.le, fun x hx => ?_, fun k hk => ?_, fun k hk => ?_, ?_⟩
  · obtain ⟨k, hk, rfl⟩ := List.mem_iff_getElem.1 hx
    rw [← eraAt_in _ _ hk]
    exact (eraChk_ok (he k hk)).1
  · obtain ⟨a, b, c, -⟩ := (eraChk_ok (he k (by omega))).2.1 (by omega)
    exact ⟨a, b, c⟩
  · have := ((eraChk_ok (he (k + 1) (by omega))).2.1 (by omega)).2.2.2 (by omega)
    simpa using this
  · exact (eraChk_ok (he _ (by omega))).2.2 (by omega)
theorem eras_mono {rules : List Ru} {l : List Er} (h : ErasOk rules l) : ∀ (j i : Nat), i < j → j + 1 < l.length → (eraAt l i).un < (eraAt l j).un
  | 0, i, hi, _ => absurd hi (Nat.not_lt_zero _)
  | j + 1, i, hi, hj => by
    have h1 := h.rise j hj
    by_cases e : i = j
    · subst e; exact h1
    · have := eras_mono h j i (by omega) (by omega)
      omega
theorem which_mono {rules : List Ru} {l : List Er} (h : ErasOk rules l) (t : Int) : ∀ a b, a ≤ b → b < l.length - 1 → decide (t < (eraAt l a).un) = true → decide (t < (eraAt l b).un) = true := fun a b hab hb hp => by
  by_cases e : a = b
  · subst e; exact hp
  · have := eras_mono h b a (by omega) (by omega)
    simp only [decide_eq_true_eq] at *
    omega
theorem which_spec {rules : List Ru} {l : List Er} (h : ErasOk rules l) (t : Int) : whichF l t ≤ l.length - 1 ∧ (∀ i, i < whichF l t → (eraAt l i).un ≤ t) ∧ ∀ i, whichF l t ≤ i → i < l.length - 1 → t < (eraAt l i).un := by
  obtain ⟨h1, h2, h3⟩ := cntF_spec _ _ (which_mono h t)
  exact ⟨h1, fun i hi => by have := h2 i hi; simpa using this, fun i hi hl => by have := h3 i hi hl; simpa using this⟩
theorem which_eq {l : List Er} {t : Int} {k : Nat} (hk : k ≤ l.length - 1) (h1 : ∀ i, i < k → (eraAt l i).un ≤ t) (h2 : ∀ i, k ≤ i → i < l.length - 1 → t < (eraAt l i).un) : whichF l t = k :=
  cntF_boundary _ _ _ hk (fun i hi => by have := h1 i hi; simpa using this) (fun i hi hl => by have := h2 i hi hl; simpa using this)

theorem abb_rule {rules : List Ru} {x : Er} (h : EraOk rules x) (hr : x.ru.data.toList ≠ []) : (∀ r ∈ rules, r.nm = x.ru → abE x.fm r.sv r.lt = 0) ∧ abE x.fm 0 dashB = 0 := by
  have ha := h.ab
  unfold abbrsChk at ha
  rw [if_neg hr] at ha
  split at ha
  · rename_i h1
    refine ⟨fun r hm e => ?_, ha⟩
    have := (firstE_zero _ _).1 h1 r hm
    rwa [if_pos e] at this
  · rename_i h1
    exact absurd ha h1
theorem abE_save {f l : ByteArray} {s : Int} (h : abE f s l = 0) : 0 ≤ s ∧ s ≤ 10800 := by
  unfold abE abbrF at h
  split at h
  · cases h
  · split at h
    · cases h
    · rename_i h1; omega
/-- what is saved, and by which letter, at a time of an era -/
theorem sv_ok {rules : List Ru} {x : Er} (h : EraOk rules x) (t : Int) : abE x.fm (svT (tdR rules x) t).1 (svT (tdR rules x) t).2 = 0 ∧ 0 ≤ (svT (tdR rules x) t).1 ∧ (svT (tdR rules x) t).1 ≤ 10800 ∧ (if x.ru.data.toList = [] then (svT (tdR rules x) t).1 = x.sv else (svT (tdR rules x) t).1 = 0 ∨ ∃ r ∈ rules, r.nm = x.ru ∧ (svT (tdR rules x) t).1 = r.sv) := by
  suffices hs : abE x.fm (svT (tdR rules x) t).1 (svT (tdR rules x) t).2 = 0 ∧ (if x.ru.data.toList = [] then (svT (tdR rules x) t).1 = x.sv else (svT (tdR rules x) t).1 = 0 ∨ ∃ r ∈ rules, r.nm = x.ru ∧ (svT (tdR rules x) t).1 = r.sv) from
    ⟨hs.1, (abE_save hs.1).1, (abE_save hs.1).2, hs.2⟩
  by_cases hr : x.ru.data.toList = []
  · have ha := h.ab
    unfold abbrsChk at ha
    rw [if_pos hr] at ha
    have e : tdR rules x = ⟨x, [], dashB⟩ := by unfold tdR; rw [if_pos hr]
    rw [e, if_pos hr, svT_0 rfl]
    exact ⟨ha, rfl⟩
  · obtain ⟨h1, h2⟩ := abb_rule h hr
    have e : tdR rules x = ⟨x, (mkR rules x.ru x.off).2, firstLt (mkR rules x.ru x.off).2⟩ := by unfold tdR; rw [if_neg hr]
    rw [if_neg hr]
    by_cases hc : cntT (tdR rules x).ts t = 0
    · rw [svT_0 hc, e]
      dsimp only
      rw [h.sr hr]
      rcases firstLt_of (mkR rules x.ru x.off).2 with e1 | ⟨u, hu, hs, e1⟩
      · rw [e1]; exact ⟨h2, .inl rfl⟩
      · obtain ⟨r, hm, hn, e2, e3⟩ := mkR_mem hu
        have h5 := h1 r hm hn
        rw [← e2, ← e3, hs] at h5
        rw [e1]
        exact ⟨h5, .inl rfl⟩
    · obtain ⟨hlt, es⟩ := svT_s hc
      rw [es]
      have hu : (tdR rules x).ts[cntT (tdR rules x).ts t - 1] ∈ (mkR rules x.ru x.off).2 := by
        have := List.getElem_mem hlt
        have e4 : (tdR rules x).ts = (mkR rules x.ru x.off).2 := by rw [e]
        rw [← e4]; exact this
      obtain ⟨r, hm, hn, e2, e3⟩ := mkR_mem hu
      dsimp only
      rw [e2, e3]
      exact ⟨h1 r hm hn, .inr ⟨r, hm, hn, rfl⟩⟩
def tdA (rules : List Ru) (l : List Er) (k : Nat) : Td := tdR rules (eraAt l k)
/-- which type it is, by eras that may be -/
def stF (rules : List Ru) (l : List Er) (t : Int) : Ty := tdTy (tdA rules l (whichF l t)) t
theorem which_of {rules : List Ru} {l : List Er} (h : ErasOk rules l) {t : Int} {k : Nat} (hk : k < l.length) (h1 : ∀ i, i < k → (eraAt l i).un ≤ t) (h2 : k + 1 < l.length → t < (eraAt l k).un) : whichF l t = k := by
  refine which_eq (by omega) h1 fun i hi hl => ?_
  by_cases e : k = i
  · subst e; exact h2 (by omega)
  · have := eras_mono h i k (by omega) (by omega)
    have := h2 (by omega)
    omega
end Go.Proofs.YtomahddiclkepaaGreatDoor
namespace Go.Proofs.YtomahddiclkepaaGreatDoor
open Go.RowKit Go.Joins
open Classical
set_option linter.unusedVariables false
set_option linter.unusedSimpArgs false

def okL (l : List UInt8) : Bool := l.all (signB [43, 45])
theorem abbrB_iff (l : List UInt8) : abbrB (txt l) = true ↔ okL l = true ∧ l ≠ [] ∧ l.length ≤ 8 := by
  unfold abbrB allB okL
  rw [Bool.and_eq_true, Bool.and_eq_true, decide_eq_true_eq]
  have e : (txt l).data.toList = l := txt_data l
  have e2 : (txt l).size = l.length := by
    show (txt l).data.size = _
    rw [← Array.length_toList, e]
  rw [e, e2]
  have e3 : (⟨#[43, 45]⟩ : ByteArray).data.toList = [43, 45] := rfl
  rw [e3]
  constructor
  · rintro ⟨⟨h1, h2⟩, h3⟩
    exact ⟨h1, by simpa using h2, by omega⟩
  · rintro ⟨h1, h2, h3⟩
    exact ⟨⟨h1, by simpa using h2⟩, by omega⟩
theorem okL_app (a c : List UInt8) : okL (a ++ c) = true ↔ okL a = true ∧ okL c = true := by unfold okL; rw [List.all_append, Bool.and_eq_true]
/-- what is right of an abbreviation that was made -/
theorem abbrF_ok {f l : List UInt8} {s : Int} (h : (abbrF f s l).2 = 0) : (abbrF f s l).1 = abbrN f s l ∧ (splitF f).2.2.2 = true ∧ letterOk l = true ∧ 0 ≤ s ∧ s ≤ 10800 ∧ (abbrN f s l).length ≤ 8 ∧ abbrN f s l ≠ [] := by
  unfold abbrF at h ⊢
  by_cases h1 : (splitF f).2.2.2 = false ∨ letterOk l = false
  · rw [if_pos h1] at h; cases h
  · rw [if_neg h1] at h ⊢
    by_cases h2 : ¬ (0 ≤ s ∧ s ≤ 10800)
    · rw [if_pos h2] at h; cases h
    · rw [if_neg h2] at h ⊢
      by_cases h3 : 8 < (abbrN f s l).length
      · rw [if_pos h3] at h; cases h
      · rw [if_neg h3] at h ⊢
        by_cases h4 : abbrN f s l = []
        · rw [if_pos h4] at h; cases h
        · rw [if_neg h4]
          rw [not_or] at h1
          exact ⟨rfl, by simpa using h1.1, by simpa using h1.2, by omega, by omega, by omega, h4⟩
theorem abbrN_okL {f l : List UInt8} {s : Int} (h1 : (splitF f).2.2.2 = true) (h2 : letterOk l = true) : okL (abbrN f s l) = true := by
  have hl : okL (if l = [45] then [] else l) = true := by
    by_cases e : l = [45]
    · rw [if_pos e]; rfl
    · rw [if_neg e]
      unfold letterOk at h2
      rw [Bool.or_eq_true] at h2
      rcases h2 with h2 | h2
      · exact absurd (of_decide_eq_true h2) e
      · exact ((abbrB_iff l).1 h2).1
  unfold splitF at h1
  unfold abbrN splitF
  by_cases g1 : 12 < f.length
  · rw [if_pos g1] at h1; cases h1
  · rw [if_neg g1] at h1
    rw [if_neg g1]
    by_cases g2 : (Lib.cut f [47]).2.2 = true
    · rw [if_pos g2] at h1
      rw [if_pos g2]
      dsimp only at h1 ⊢
      rw [Bool.and_eq_true] at h1
      rw [if_pos rfl]
      split
      · exact ((abbrB_iff _).1 h1.1).1
      · exact ((abbrB_iff _).1 h1.2).1
    · rw [if_neg g2] at h1
      rw [if_neg g2]
      by_cases g3 : (Lib.cut f [37]).2.2 = true
      · rw [if_pos g3] at h1
        rw [if_pos g3]
        dsimp only at h1 ⊢
        rw [if_neg (by decide), if_pos rfl]
        have hab : okL ((Lib.cut f [37]).1 ++ (Lib.cut f [37]).2.1) = true := by
          rw [Bool.or_eq_true] at h1
          rcases h1 with h1 | h1
          · rw [of_decide_eq_true h1]; rfl
          · rw [Bool.and_eq_true] at h1
            exact ((abbrB_iff _).1 h1.2).1
        rw [okL_app] at hab
        rw [okL_app, okL_app]
        exact ⟨hab.1, hl, hab.2⟩
      · rw [if_neg g3] at h1
        rw [if_neg g3]
        dsimp only at h1 ⊢
        rw [if_neg (by decide), if_neg (by decide)]
        exact ((abbrB_iff _).1 h1).1
/-- a resulting abbreviation is one -/
theorem abbrF_abbr {f l : List UInt8} {s : Int} (h : (abbrF f s l).2 = 0) : abbrB (txt (abbrF f s l).1) = true := by
  obtain ⟨e, h1, h2, -, -, h3, h4⟩ := abbrF_ok h
  rw [e, abbrB_iff]
  exact ⟨abbrN_okL h1 h2, h4, h3⟩
theorem cut_noA {l : List UInt8} {c : UInt8} (h : c ∉ l) : (Lib.cut l [c]).2.2 = false := by
  have hi : Lib.index l [c] = -1 := Lib.index_none fun j hj => by
    cases ho : Lib.occAt l [c] j
    · rfl
    · exact absurd (List.mem_of_getElem? (Lib.occAt_head rfl ho)) h
  unfold Lib.cut
  rw [hi, if_neg (by omega)]
theorem okL_no {l : List UInt8} (h : okL l = true) : (47 : UInt8) ∉ l ∧ (37 : UInt8) ∉ l := by
  unfold okL at h
  rw [List.all_eq_true] at h
  refine ⟨fun g => ?_, fun g => ?_⟩
  · have := h _ g; revert this; decide
  · have := h _ g; revert this; decide
/-- an abbreviation as a format stands for itself -/
theorem abbrF_self {f : List UInt8} {s : Int} (h : abbrB (txt f) = true) (h0 : 0 ≤ s) (h1 : s ≤ 10800) : abbrF f s [45] = (f, 0) := by
  obtain ⟨h2, h3, h4⟩ := (abbrB_iff f).1 h
  obtain ⟨n1, n2⟩ := okL_no h2
  have e : splitF f = (f, [], [], true) := by
    unfold splitF
    rw [if_neg (by omega), cut_noA n1, cut_noA n2, if_neg (by decide), if_neg (by decide), h]
  have e2 : abbrN f s [45] = f := by unfold abbrN; rw [e]; rfl
  unfold abbrF
  rw [e, e2, if_neg (by simp [letterOk]), if_neg (by omega), if_neg (by omega), if_neg h3]
end Go.Proofs.YtomahddiclkepaaGreatDoor
namespace Go.Proofs.YtomahddiclkepaaGreatDoor
open Go.RowKit Go.Joins Go.Maps
open Classical
set_option linter.unusedVariables false
set_option linter.unusedSimpArgs false

theorem rsv_zero {b : Bk} {nm : ByteArray} {z : Zo} {c : Int} (h : rsv b nm = (some z, c)) : c = 0 ∧ z ∈ b.zones ∧ bkChk b = 0 := by
  by_cases hb : bkChk b = 0
  · rw [rsv_go hb] at h
    obtain ⟨h1, h2⟩ := resF_in h
    exact ⟨h2, h1, hb⟩
  · rw [rsv_bad hb] at h; cases h
theorem resF_not0 {zs : List Zo} {ls : List Lk} : ∀ {n : Nat} {k : ByteArray} {c : Int}, resF zs ls n k = (none, c) → c ≠ 0 := by
  intro n
  induction n with
  | zero => intro k c h; cases h; decide
  | succ n ih =>
    intro k c h
    rw [resF] at h
    split at h
    · cases h
    · split at h
      · cases h; decide
      · exact ih h
theorem rsv_not0 {b : Bk} {nm : ByteArray} {c : Int} (h : rsv b nm = (none, c)) : c ≠ 0 := by
  by_cases hb : bkChk b = 0
  · rw [rsv_go hb] at h; exact resF_not0 h
  · rw [rsv_bad hb] at h
    injection h with _ h
    rwa [← h]
theorem stR_none {b : Bk} {nm : ByteArray} {c : Int} (h : rsv b nm = (none, c)) (t : Int) : stR b nm t = (c, ty0) := by unfold stR; rw [h]
theorem stR_some {b : Bk} {nm : ByteArray} {z : Zo} {c : Int} (h : rsv b nm = (some z, c)) (t : Int) : stR b nm t = (if stampE t ≠ 0 then (stampE t, ty0) else
    if tdE b.rules (eraAt z.eras (whichF z.eras t)) ≠ 0 then (tdE b.rules (eraAt z.eras (whichF z.eras t)), ty0) else (0, stF b.rules z.eras t)) := by unfold stR; rw [h]; rfl
theorem era_in {rules : List Ru} {l : List Er} (h : ErasOk rules l) (t : Int) : ∃ hk : whichF l t < l.length, eraAt l (whichF l t) = l[whichF l t] := by
  have hp : 0 < l.length := List.length_pos_iff.2 h.ne
  have hk : whichF l t < l.length := by have := (which_spec h t).1; omega
  exact ⟨hk, eraAt_in l _ hk⟩
def oneB (rules : List Ru) (nm : ByteArray) (ev : Value) (l : List Er) : Bk := ⟨rules, [⟨nm, ev, l⟩], []⟩
theorem oneB_chk {rules : List Ru} {nm : ByteArray} {ev : Value} {l : List Er} (hr : rules.length ≤ 40) (ho : ∀ r ∈ rules, ruChk r = 0) (hn : nameB nm = true) (hl : l ≠ []) (hl2 : l.length ≤ 700) (he : ∀ k, k < l.length → eraChk rules l k = 0) : bkChk (oneB rules nm ev l) = 0 := by
  have h0 : ¬ (40 < (oneB rules nm ev l).rules.length ∨ 20 < (oneB rules nm ev l).zones.length ∨ 20 < (oneB rules nm ev l).links.length) := by
    show ¬ (40 < rules.length ∨ 20 < 1 ∨ 20 < 0)
    omega
  have hz : firstE (chkZ (oneB rules nm ev l)) (List.range (oneB rules nm ev l).zones.length) = 0 := by
    refine (firstE_zero _ _).2 fun i hi => ?_
    have hi : i < 1 := List.mem_range.1 hi
    obtain rfl : i = 0 := by omega
    show zoneChk rules [] ⟨nm, ev, l⟩ = 0
    unfold zoneChk
    rw [if_neg (by rw [hn]; simp), if_neg (by simp), if_neg hl, if_neg (show ¬ 700 < l.length by omega)]
    exact (firstE_zero _ _).2 fun k hk => he k (List.mem_range.1 hk)
  rw [bkChk_l _ h0 ((firstE_zero _ _).2 ho) hz]
  rfl
theorem oneB_rsv {rules : List Ru} {nm : ByteArray} {ev : Value} {l : List Er} (h : bkChk (oneB rules nm ev l) = 0) : rsv (oneB rules nm ev l) nm = (some ⟨nm, ev, l⟩, 0) :=
  rsv_zone h (z := ⟨nm, ev, l⟩) (List.mem_singleton.2 rfl)
/-- an era by itself -/
def alone (x : Er) : Er := ⟨x.off, x.ru, x.sv, x.fm, 0⟩
def zB : ByteArray := ⟨#[90]⟩
end Go.Proofs.YtomahddiclkepaaGreatDoor
namespace Go.Proofs.YtomahddiclkepaaGreatDoor
open Go.RowKit Go.Joins
open Classical
set_option linter.unusedVariables false
set_option linter.unusedSimpArgs false

def yearsB : ByteArray := ⟨#[121, 101, 97, 114, 115]⟩
def leapT (t : Int) : Prop := Civ.mm (t / 86400) = 2 ∧ Civ.dd (t / 86400) = 29
instance (t : Int) : Decidable (leapT t) := by unfold leapT; infer_instance
/-- the rule of a turn -/
def yrR (t : Tn) : Ru := ⟨yearsB, Civ.yy (t.a / 86400), Civ.yy (t.a / 86400), Civ.mm (t.a / 86400), 1, 0, if leapT t.a then 28 else Civ.dd (t.a / 86400), if leapT t.a then t.a % 86400 + 86400 else t.a % 86400, 2, t.s, t.lt⟩
def prevB (p : Option Int) (x : Int) : Bool := match p with | none => false | some q => decide (x ≤ q)
def tnE (prev : Option Int) (t : Tn) : Int :=
  if ¬ (-135140 ≤ t.a / 86400 ∧ t.a / 86400 ≤ 157053) ∨ Civ.yy (t.a / 86400) < 1900 ∨ 2100 < Civ.yy (t.a / 86400) then 1 else
  if prevB prev t.a = true then 5 else
  if t.s < 0 ∨ 10800 < t.s then 1 else
  if t.lt.data.toList ≠ [45] ∧ abbrB t.lt = false then 3 else 0
def yrsE : Option Int → List Tn → Int
  | _, [] => 0
  | p, t :: r => if tnE p t = 0 then yrsE (some t.a) r else tnE p t
def yearsR (l : List Tn) : Int × List Ru := if 40 < l.length then (2, []) else if yrsE none l = 0 then (0, l.map yrR) else (yrsE none l, [])
structure OkTn (t : Tn) : Prop where
  n1 : -135140 ≤ t.a / 86400
  n2 : t.a / 86400 ≤ 157053
  y1 : 1900 ≤ Civ.yy (t.a / 86400)
  y2 : Civ.yy (t.a / 86400) ≤ 2100
  s1 : 0 ≤ t.s
  s2 : t.s ≤ 10800
  lt : t.lt.data.toList = [45] ∨ abbrB t.lt = true
theorem tnE_ok {p : Option Int} {t : Tn} (h : tnE p t = 0) : OkTn t ∧ ∀ q, p = some q → q < t.a := by
  unfold tnE at h
  split at h
  · cases h
  rename_i h1
  split at h
  · cases h
  rename_i h2
  split at h
  · cases h
  rename_i h3
  split at h
  · cases h
  rename_i h4
  refine ⟨⟨by omega, by omega, by omega, by omega, by omega, by omega, ?_⟩, fun q e => ?_⟩
  · by_cases e : t.lt.data.toList = [45]
    · exact .inl e
    · refine .inr ?_
      cases g : abbrB t.lt with
      | true => rfl
      | false => exact absurd ⟨e, g⟩ h4
  · subst e
    unfold prevB at h2
    simp only [decide_eq_true_eq] at h2
    omega
theorem yrs_ok : ∀ (l : List Tn) (p : Option Int), yrsE p l = 0 → (∀ t ∈ l, OkTn t) ∧ l.Pairwise (fun a b => a.a < b.a) ∧ ∀ q, p = some q → ∀ t ∈ l, q < t.a
  | [], _, _ => ⟨fun _ h => (by cases h), List.Pairwise.nil, fun _ _ _ h => (by cases h)⟩
  | t :: r, p, h => by
    unfold yrsE at h
    split at h
    · rename_i h0
      obtain ⟨o, hq⟩ := tnE_ok h0
      obtain ⟨i1, i2, i3⟩ := yrs_ok r (some t.a) h
      refine ⟨fun x hx => ?_, List.Pairwise.cons (fun x hx => i3 t.a rfl x hx) i2, fun q e x hx => ?_⟩
      · rcases List.mem_cons.1 hx with rfl | hx
        · exact o
        · exact i1 x hx
      · have a1 := hq q e
        rcases List.mem_cons.1 hx with rfl | hx
        · exact a1
        · have := i3 t.a rfl x hx
          omega
    · rename_i h0; exact absurd h h0
theorem yr_days {t : Tn} (o : OkTn t) : 86400 * Civ.days (yrR t).yf (yrR t).mo (yrR t).dn + (yrR t).tm = t.a := by
  have hd := (Civ.date_valid (t.a / 86400) o.n1 o.n2).2
  show 86400 * Civ.days (Civ.yy (t.a / 86400)) (Civ.mm (t.a / 86400)) (if leapT t.a then 28 else Civ.dd (t.a / 86400)) + (if leapT t.a then t.a % 86400 + 86400 else t.a % 86400) = t.a
  by_cases h : leapT t.a
  · rw [if_pos h, if_pos h]
    have e : Civ.days (Civ.yy (t.a / 86400)) (Civ.mm (t.a / 86400)) 28 = t.a / 86400 - 1 := by
      have h1 : Civ.dd (t.a / 86400) = 29 := h.2
      have h2 : Civ.mm (t.a / 86400) = 2 := h.1
      rw [h1] at hd
      have a := Civ.days_eq (Civ.yy (t.a / 86400)) (Civ.mm (t.a / 86400)) 28 (by omega) (by omega)
      have b := Civ.days_eq (Civ.yy (t.a / 86400)) (Civ.mm (t.a / 86400)) 29 (by omega) (by omega)
      rw [b] at hd
      rw [a]
      omega
    rw [e]; omega
  · rw [if_neg h, if_neg h, hd]; omega
theorem yr_ok {t : Tn} (o : OkTn t) : OkRu (yrR t) := by
  have hv := (Civ.date_valid (t.a / 86400) o.n1 o.n2).1
  obtain ⟨-, -, hm1, hm2, hd1, hd2⟩ := hv
  have hb := Civ.mlen_bd (Civ.yy (t.a / 86400)) (Civ.mm (t.a / 86400)) hm1 hm2
  refine ⟨by kernel_rfl, ?_, o.y1, o.y2, Int.le_refl _, o.y2, hm1, hm2, ?_, ?_, ?_, ?_, by show (0 : Int) ≤ 2; decide, by show (2 : Int) ≤ 2; decide, o.s1, o.s2⟩
  · rcases o.lt with h | h
    · exact .inl (by rw [ByteArray.toList_eq]; exact h)
    · exact .inr h
  · show dayB 1 0 (if leapT t.a then 28 else Civ.dd (t.a / 86400)) = true
    unfold dayB
    refine decide_eq_true (.inl ⟨rfl, rfl, ?_⟩)
    split <;> omega
  · show (if leapT t.a then 28 else Civ.dd (t.a / 86400)) ≤ Civ.mlen 1901 (Civ.mm (t.a / 86400))
    have e1 : Civ.mlen 1901 (Civ.mm (t.a / 86400)) = if Civ.mm (t.a / 86400) = 2 then 28 else Civ.mlen (Civ.yy (t.a / 86400)) (Civ.mm (t.a / 86400)) := by
      unfold Civ.mlen
      by_cases g : Civ.mm (t.a / 86400) = 2
      · rw [if_pos g, if_pos g]; decide
      · rw [if_neg g, if_neg g, if_neg g]
    rw [e1]
    by_cases g : Civ.mm (t.a / 86400) = 2
    · rw [if_pos g]
      have hl := Civ.lp01 (Civ.yy (t.a / 86400))
      have : Civ.mlen (Civ.yy (t.a / 86400)) (Civ.mm (t.a / 86400)) = 28 + Civ.lp (Civ.yy (t.a / 86400)) := by unfold Civ.mlen; rw [if_pos g]
      by_cases h : leapT t.a
      · rw [if_pos h]; omega
      · rw [if_neg h]
        have : Civ.dd (t.a / 86400) ≠ 29 := fun e => h ⟨g, e⟩
        omega
    · rw [if_neg g, if_neg (fun h => g h.1)]
      exact hd2
  · show -604800 ≤ if leapT t.a then t.a % 86400 + 86400 else t.a % 86400
    split <;> omega
  · show (if leapT t.a then t.a % 86400 + 86400 else t.a % 86400) ≤ 604800
    split <;> omega
theorem outF_yr (off : Int) : ∀ (l : List Tn) (save : Int) (last : Option Int), l.Pairwise (fun a b => a.a < b.a) → (∀ q, last = some q → ∀ t ∈ l, q < t.a) → outF off save last (l.map fun t => (t.a, yrR t)) = some l
  | [], _, _, _, _ => rfl
  | t :: r, save, last, hp, hq => by
    have e0 : clkT off save (t.a, yrR t) = t.a := rfl
    rw [List.map_cons, outF_cons, e0, outF_yr off r _ _ (List.pairwise_cons.1 hp).2 (fun q e x hx => by
      injection e with e
      subst e
      exact (List.pairwise_cons.1 hp).1 x hx)]
    rw [if_neg]
    · rfl
    · cases last with
      | none => simp
      | some q =>
        have := hq q rfl t List.mem_cons_self
        simp only [decide_eq_true_eq]
        omega
theorem yrs_law {l : List Tn} {off : Int} (h : (yearsR l).1 = 0) (hn : l ≠ []) (h1 : -64800 ≤ off) (h2 : off ≤ 64800) : ofR ⟨(yearsR l).2, [], []⟩ yearsB off = (0, l) := by
  unfold yearsR at h ⊢
  split at h
  · cases h
  rename_i hl
  split at h
  case isFalse h0 => exact absurd h h0
  rename_i h0
  rw [if_neg hl, if_pos h0]
  obtain ⟨ho, hp, -⟩ := yrs_ok l none h0
  have hru : ∀ r ∈ l.map yrR, OkRu r := fun r hr => by
    obtain ⟨t, ht, rfl⟩ := List.mem_map.1 hr
    exact yr_ok (ho t ht)
  have hb : bkChk ⟨l.map yrR, [], []⟩ = 0 := by
    rw [bkChk_l _ (by show ¬ (40 < (l.map yrR).length ∨ 20 < 0 ∨ 20 < 0); rw [List.length_map]; omega) ((firstE_zero _ _).2 fun r hr => ok_ru (hru r hr)) rfl]
    rfl
  rw [ofR_mk hb (by omega)]
  show mkR (l.map yrR) yearsB off = _
  have e1 : ((l.map yrR).any fun r => decide (r.nm = yearsB)) = true := by
    obtain ⟨t, ht⟩ := List.exists_mem_of_ne_nil l hn
    exact List.any_eq_true.2 ⟨yrR t, List.mem_map.2 ⟨t, ht, rfl⟩, decide_eq_true rfl⟩
  have ef : (l.map yrR).filter (fun r => decide (r.nm = yearsB)) = l.map yrR := by
    refine List.filter_eq_self.2 fun r hr => ?_
    obtain ⟨t, ht, rfl⟩ := List.mem_map.1 hr
    exact decide_eq_true rfl
  have e2 : yearsOf (l.map yrR) yearsB = l.length := by
    unfold yearsOf
    rw [ef, List.map_map]
    have : ∀ l : List Tn, (l.map ((fun r : Ru => r.yt - r.yf + 1) ∘ yrR)).sum = (l.length : Int) := by
      intro l
      induction l with
      | nil => rfl
      | cons t r ih =>
        rw [List.map_cons, List.sum_cons, ih]
        show (Civ.yy (t.a / 86400) - Civ.yy (t.a / 86400) + 1) + (r.length : Int) = ((r.length + 1 : Nat) : Int)
        omega
    exact this l
  have e3 : nomsOf dayN (l.map yrR) yearsB = l.map fun t => (t.a, yrR t) := by
    unfold nomsOf
    rw [ef]
    have : ∀ l : List Tn, (∀ t ∈ l, OkTn t) → (l.map yrR).flatMap (nomOf dayN) = l.map fun t => (t.a, yrR t) := by
      intro l
      induction l with
      | nil => intro _; rfl
      | cons t r ih =>
        intro ho
        rw [List.map_cons, List.flatMap_cons, ih (fun x hx => ho x (List.mem_cons_of_mem _ hx)), List.map_cons]
        have hy := yr_days (ho t List.mem_cons_self)
        have : nomOf dayN (yrR t) = [(t.a, yrR t)] := by
          unfold nomOf
          have e : ((yrR t).yt - (yrR t).yf + 1).toNat = 1 := by
            show (Civ.yy (t.a / 86400) - Civ.yy (t.a / 86400) + 1).toNat = 1
            omega
          rw [e]
          show [(86400 * dayN (yrR t) ((yrR t).yf + ((0 : Nat) : Int)) + (yrR t).tm, yrR t)] = _
          have e2 : dayN (yrR t) ((yrR t).yf + ((0 : Nat) : Int)) = Civ.days (yrR t).yf (yrR t).mo (yrR t).dn := by
            unfold dayN
            rw [if_pos (show (yrR t).dk = 1 from rfl), show (yrR t).yf + ((0 : Nat) : Int) = (yrR t).yf by omega]
          rw [e2, hy]
        rw [this]
        rfl
    exact this l ho
  have e4 : srt (l.map fun t => (t.a, yrR t)) = l.map fun t => (t.a, yrR t) := by
    unfold srt
    refine List.mergeSort_of_pairwise ?_
    refine List.pairwise_map.2 (hp.imp fun {a b} hab => ?_)
    show decide (a.a ≤ b.a) = true
    exact decide_eq_true (by omega)
  unfold mkR
  rw [e1, if_neg (by decide), e2, if_neg (by omega), e3, e4, outF_yr off l 0 none hp (fun q e => by cases e)]
end Go.Proofs.YtomahddiclkepaaGreatDoor
namespace Go.Proofs.YtomahddiclkepaaGreatDoor
open Go.RowKit Go.Joins Go.Maps
open Classical
set_option linter.unusedVariables false
set_option linter.unusedSimpArgs false

def tzC : ByteArray := ⟨#[67, 37]⟩
def tzE (off : Int) (nm : ByteArray) : Er := ⟨off, nm, 0, tzC, 0⟩
theorem tz_split : splitF tzC.data.toList = ([67], [], [37], true) := by kernel_rfl
/-- how long the name would be -/
def tzP (lt : ByteArray) : Prop := 8 < 1 + (if lt.data.toList = [45] then 0 else lt.data.toList.length)
theorem tz_ab {s : Int} {lt : ByteArray} (h0 : 0 ≤ s) (h1 : s ≤ 10800) (hl : letterOk lt.data.toList = true) : abE tzC s lt = if tzP lt then 2 else 0 := by
  have e1 : (abbrN tzC.data.toList s lt.data.toList) = 67 :: (if lt.data.toList = [45] then [] else lt.data.toList) := by
    unfold abbrN
    rw [tz_split]
    dsimp only
    rw [if_neg (by decide), if_pos rfl, List.append_nil]
    rfl
  have e2 : (abbrN tzC.data.toList s lt.data.toList).length = 1 + (if lt.data.toList = [45] then 0 else lt.data.toList.length) := by
    rw [e1, List.length_cons, Nat.add_comm]
    split <;> rfl
  unfold abE abbrF
  rw [tz_split, if_neg (by rw [hl]; simp), if_neg (by omega)]
  unfold tzP
  rw [e2]
  by_cases g : 8 < 1 + (if lt.data.toList = [45] then 0 else lt.data.toList.length)
  · rw [if_pos g, if_pos g]
  · rw [if_neg g, if_neg g, if_neg (by rw [e1]; simp)]
theorem tz_dash : abE tzC 0 ⟨#[45]⟩ = 0 := by kernel_rfl
theorem firstE_02 {α : Type} (f : α → Int) (P : α → Prop) : ∀ l : List α, (∀ x ∈ l, f x = if P x then 2 else 0) → firstE f l = if ∃ x ∈ l, P x then 2 else 0
  | [], _ => by simp [firstE]
  | x :: r, h => by
    have h0 := h x List.mem_cons_self
    have ih := firstE_02 f P r fun y hy => h y (List.mem_cons_of_mem _ hy)
    unfold firstE
    by_cases g : P x
    · rw [if_pos g] at h0
      rw [if_neg (by rw [h0]; decide), h0, if_pos ⟨x, List.mem_cons_self, g⟩]
    · rw [if_neg g] at h0
      rw [if_pos h0, ih]
      by_cases g2 : ∃ y ∈ r, P y
      · rw [if_pos g2, if_pos (let ⟨y, hy, hp⟩ := g2; ⟨y, List.mem_cons_of_mem _ hy, hp⟩)]
      · rw [if_neg g2, if_neg]
        rintro ⟨y, hy, hp⟩
        rcases List.mem_cons.1 hy with rfl | hy
        · exact g hp
        · exact g2 ⟨y, hy, hp⟩
theorem ok_letter {r : Ru} (o : OkRu r) : letterOk r.lt.data.toList = true := by
  unfold letterOk
  rcases o.lt with h | h
  · rw [← ByteArray.toList_eq, h]; rfl
  · rw [show txt r.lt.data.toList = r.lt from by unfold txt; simp, h, Bool.or_true]
/-- what such a book's check says -/
theorem tz_chk {rules : List Ru} {nm : ByteArray} {off : Int} (ev : Value) (hr : rules.length ≤ 40) (ho : ∀ r ∈ rules, OkRu r) (hn : ∃ r ∈ rules, r.nm = nm) (h1 : -64800 ≤ off) (h2 : off ≤ 64800) :
    bkChk (oneB rules zB ev [tzE off nm]) = if ∃ r ∈ rules, r.nm = nm ∧ tzP r.lt then 2 else 0 := by
  obtain ⟨r0, hr0, hrn⟩ := hn
  have hne : nm.data.toList ≠ [] := by
    intro e
    have := (ho r0 hr0).nm
    rw [hrn] at this
    unfold nameB at this
    simp only [Bool.and_eq_true, decide_eq_true_eq] at this
    obtain ⟨-, c, hc, -⟩ := this
    rw [e] at hc
    simp at hc
  have hab : abbrsChk rules (tzE off nm) = if ∃ r ∈ rules, r.nm = nm ∧ tzP r.lt then 2 else 0 := by
    have hf := firstE_02 (fun r : Ru => if r.nm = nm then abE tzC r.sv r.lt else 0) (fun r => r.nm = nm ∧ tzP r.lt) rules fun r hr => by
      by_cases g : r.nm = nm
      · rw [if_pos g, tz_ab (ho r hr).s1 (ho r hr).s2 (ok_letter (ho r hr))]
        by_cases g2 : tzP r.lt
        · rw [if_pos g2, if_pos ⟨g, g2⟩]
        · rw [if_neg g2, if_neg (fun h => g2 h.2)]
      · rw [if_neg g, if_neg (fun h => g h.1)]
    show (if (tzE off nm).ru.data.toList = [] then _ else _) = _
    rw [if_neg (show ¬ (tzE off nm).ru.data.toList = [] from hne)]
    show (if firstE (fun r : Ru => if r.nm = nm then abE tzC r.sv r.lt else 0) rules = 0 then abE tzC 0 ⟨#[45]⟩ else firstE (fun r : Ru => if r.nm = nm then abE tzC r.sv r.lt else 0) rules) = _
    rw [hf, tz_dash]
    by_cases g : ∃ r ∈ rules, r.nm = nm ∧ tzP r.lt
    · rw [if_pos g, if_neg (by decide), if_pos g]
    · rw [if_neg g, if_pos rfl, if_neg g]
  have he : eraChk rules [tzE off nm] 0 = if ∃ r ∈ rules, r.nm = nm ∧ tzP r.lt then 2 else 0 := by
    unfold eraChk
    dsimp only
    have e : eraAt [tzE off nm] 0 = tzE off nm := rfl
    rw [e, if_neg (by show ¬ (¬ (-64800 ≤ off ∧ off ≤ 64800) ∨ ¬ ((0 : Int) ≤ 0 ∧ (0 : Int) ≤ 10800)); omega), if_neg (fun g => g.1 rfl), if_neg]
    · rw [hab]
      by_cases g : ∃ r ∈ rules, r.nm = nm ∧ tzP r.lt
      · rw [if_pos g, if_pos (by decide)]
      · rw [if_neg g, if_neg (by decide), if_pos (show 0 + 1 = [tzE off nm].length from rfl), if_neg (fun g => g rfl)]
    · rintro ⟨-, g2⟩
      rw [List.any_eq_false] at g2
      exact g2 r0 hr0 (decide_eq_true hrn)
  have h0 : ¬ (40 < (oneB rules zB ev [tzE off nm]).rules.length ∨ 20 < (oneB rules zB ev [tzE off nm]).zones.length ∨ 20 < (oneB rules zB ev [tzE off nm]).links.length) := by
    show ¬ (40 < rules.length ∨ 20 < 1 ∨ 20 < 0)
    omega
  have hz : firstE (chkZ (oneB rules zB ev [tzE off nm])) (List.range (oneB rules zB ev [tzE off nm]).zones.length) = if ∃ r ∈ rules, r.nm = nm ∧ tzP r.lt then 2 else 0 := by
    have e0 : zoneChk rules [] ⟨zB, ev, [tzE off nm]⟩ = if ∃ r ∈ rules, r.nm = nm ∧ tzP r.lt then 2 else 0 := by
      unfold zoneChk
      rw [if_neg (by show ¬ nameB zB = false; decide +kernel), if_neg (by simp), if_neg (by simp), if_neg (by simp)]
      show (if eraChk rules [tzE off nm] 0 = 0 then 0 else eraChk rules [tzE off nm] 0) = _
      rw [he]
      split <;> rfl
    show (if zoneChk rules [] ⟨zB, ev, [tzE off nm]⟩ = 0 then 0 else zoneChk rules [] ⟨zB, ev, [tzE off nm]⟩) = _
    rw [e0]
    split <;> rfl
  have hru : firstE ruChk (oneB rules zB ev [tzE off nm]).rules = 0 := (firstE_zero _ _).2 fun r hr => ok_ru (ho r hr)
  by_cases g : ∃ r ∈ rules, r.nm = nm ∧ tzP r.lt
  · rw [if_pos g] at hz ⊢
    rw [bkChk_z _ h0 hru (by rw [hz]; decide), hz]
  · rw [if_neg g] at hz ⊢
    rw [bkChk_l _ h0 hru hz]
    rfl
theorem outF_sl (off : Int) : ∀ (S : List (Int × Ru)) (save : Int) (last : Option Int) (l : List Tn), outF off save last S = some l → ∀ x ∈ S, ∃ u ∈ l, u.lt = x.2.lt
  | [], _, _, _, _, _, hx => absurd hx List.not_mem_nil
  | y :: r, save, last, l, h, x, hx => by
    obtain ⟨h1, t, h2, rfl⟩ := outF_some h
    rcases List.mem_cons.1 hx with rfl | hx
    · exact ⟨_, List.mem_cons_self, rfl⟩
    · obtain ⟨u, hu, e⟩ := outF_sl off r _ _ t h2 x hx
      exact ⟨u, List.mem_cons_of_mem _ hu, e⟩
/-- the letters of turns are those of the rules -/
theorem mk_letters {rules : List Ru} {nm : ByteArray} {off : Int} {l : List Tn} (ho : ∀ r ∈ rules, OkRu r) (h : mkR rules nm off = (0, l)) :
    (∃ r ∈ rules, r.nm = nm) ∧ l ≠ [] ∧ ∀ P : ByteArray → Prop, (∃ r ∈ rules, r.nm = nm ∧ P r.lt) ↔ ∃ t ∈ l, P t.lt := by
  unfold mkR at h
  split at h
  · cases h
  rename_i hany
  split at h
  · cases h
  split at h
  · cases h
  rename_i l2 ho2
  injection h with _ h
  subst h
  have hany : (rules.any fun r => decide (r.nm = nm)) = true := by simpa using hany
  have hmem : ∀ x, x ∈ srt (nomsOf dayN rules nm) ↔ x ∈ nomsOf dayN rules nm := fun x => List.mem_mergeSort
  have hin : ∀ r ∈ rules, r.nm = nm → ∃ u ∈ l2, u.lt = r.lt := fun r hr hn => by
    have o := ho r hr
    have h1 := o.t1
    have hx : (86400 * dayN r (r.yf + ((0 : Nat) : Int)) + r.tm, r) ∈ nomsOf dayN rules nm := List.mem_flatMap.2 ⟨r, List.mem_filter.2 ⟨hr, decide_eq_true hn⟩, List.mem_map.2 ⟨0, List.mem_range.2 (by omega), rfl⟩⟩
    exact outF_sl off _ _ _ _ ho2 _ ((hmem _).2 hx)
  obtain ⟨r, hr, hn⟩ := List.any_eq_true.1 hany
  have hn := of_decide_eq_true hn
  refine ⟨⟨r, hr, hn⟩, fun e => ?_, fun P => ⟨?_, ?_⟩⟩
  · obtain ⟨u, hu, -⟩ := hin r hr hn
    rw [e] at hu; cases hu
  · rintro ⟨q, hq, hqn, hP⟩
    obtain ⟨u, hu, e⟩ := hin q hq hqn
    exact ⟨u, hu, by rw [e]; exact hP⟩
  · rintro ⟨t, ht, hP⟩
    obtain ⟨x, hx, -, e⟩ := outF_mem off _ _ _ _ ho2 t ht
    obtain ⟨h1, h2⟩ := noms_mem ((hmem _).1 hx)
    exact ⟨x.2, h1, h2, by rw [← e]; exact hP⟩
/-- THE LAW -/
theorem turns_law {b : Bk} {nm : ByteArray} {off : Int} {l : List Tn} (ev ev2 : Value) (hb : ofR b nm off = (0, l)) (hy : (yearsR l).1 = 0) (h1 : -64800 ≤ off) (h2 : off ≤ 64800) (y : Int) :
    l ≠ [] ∧ stR (oneB b.rules zB ev [tzE off nm]) zB y = stR (oneB (yearsR l).2 zB ev2 [tzE off yearsB]) zB y := by
  have hbc : bkChk b = 0 := Classical.byContradiction fun g => by
    rw [ofR_bad g] at hb
    injection hb with hb _
    exact g hb
  rw [ofR_mk hbc (by omega)] at hb
  obtain ⟨hr, ho⟩ := bk_rules hbc
  obtain ⟨hn, hne, hP⟩ := mk_letters ho hb
  have hl40 : ¬ 40 < l.length := by
    intro g
    unfold yearsR at hy
    rw [if_pos g] at hy
    cases hy
  have h0 : yrsE none l = 0 := by
    unfold yearsR at hy
    rw [if_neg hl40] at hy
    split at hy
    · assumption
    · exact hy
  have er : (yearsR l).2 = l.map yrR := by unfold yearsR; rw [if_neg hl40, if_pos h0]
  obtain ⟨hok, -, -⟩ := yrs_ok l none h0
  have hlaw := yrs_law (off := off) hy hne h1 h2
  have ho2 : ∀ r ∈ (yearsR l).2, OkRu r := by
    rw [er]
    intro r hr
    obtain ⟨t, ht, rfl⟩ := List.mem_map.1 hr
    exact yr_ok (hok t ht)
  have hlen2 : (yearsR l).2.length ≤ 40 := by rw [er, List.length_map]; omega
  have hn2 : ∃ r ∈ (yearsR l).2, r.nm = yearsB := by
    cases e : l with
    | nil => exact absurd e hne
    | cons t q => rw [← e, er, e]; exact ⟨_, List.mem_map.2 ⟨t, List.mem_cons_self, rfl⟩, rfl⟩
  have c1 := tz_chk ev hr ho hn h1 h2
  have c2 := tz_chk ev2 hlen2 ho2 hn2 h1 h2
  have hiff : (∃ r ∈ (yearsR l).2, r.nm = yearsB ∧ tzP r.lt) ↔ ∃ r ∈ b.rules, r.nm = nm ∧ tzP r.lt := by
    rw [hP, er]
    constructor
    · rintro ⟨r, hr, -, hp⟩
      obtain ⟨t, ht, rfl⟩ := List.mem_map.1 hr
      exact ⟨t, ht, hp⟩
    · rintro ⟨t, ht, hp⟩
      exact ⟨yrR t, List.mem_map.2 ⟨t, ht, rfl⟩, rfl, hp⟩
  refine ⟨hne, ?_⟩
  by_cases g : ∃ r ∈ b.rules, r.nm = nm ∧ tzP r.lt
  · rw [if_pos g] at c1
    rw [if_pos (hiff.2 g)] at c2
    rw [stR_none (rsv_bad (by rw [c1]; decide)), stR_none (rsv_bad (by rw [c2]; decide)), c1, c2]
  · rw [if_neg g] at c1
    rw [if_neg (fun h => g (hiff.1 h))] at c2
    have hnm : nm.data.toList ≠ [] := by
      obtain ⟨r0, hr0, hrn⟩ := hn
      intro e
      have := (ho r0 hr0).nm
      rw [hrn] at this
      unfold nameB at this
      simp only [Bool.and_eq_true, decide_eq_true_eq] at this
      obtain ⟨-, c, hc, -⟩ := this
      rw [e] at hc
      simp at hc
    have hbk2 : bkChk (⟨(yearsR l).2, [], []⟩ : Bk) = 0 := by
      have : ¬ bkChk (⟨(yearsR l).2, [], []⟩ : Bk) ≠ 0 := fun g => by
        rw [ofR_bad g] at hlaw
        injection hlaw with hlaw _
        exact g hlaw
      exact Classical.not_not.1 this
    have hlaw : mkR (yearsR l).2 yearsB off = (0, l) := by
      rw [ofR_mk hbk2 (by omega)] at hlaw
      exact hlaw
    unfold stR
    rw [oneB_rsv c1, oneB_rsv c2]
    dsimp only
    by_cases gs : stampE y ≠ 0
    · rw [if_pos gs, if_pos gs]
    · rw [if_neg gs, if_neg gs]
      have w1 : whichF [tzE off nm] y = 0 := rfl
      have w2 : whichF [tzE off yearsB] y = 0 := rfl
      have a1 : eraAt [tzE off nm] 0 = tzE off nm := rfl
      have a2 : eraAt [tzE off yearsB] 0 = tzE off yearsB := rfl
      have t1 : tdE (oneB b.rules zB ev [tzE off nm]).rules (tzE off nm) = 0 := by
        show (if nm.data.toList = [] then (0 : Int) else (mkR b.rules nm off).1) = 0
        rw [if_neg hnm, hb]
      have t2 : tdE (oneB (yearsR l).2 zB ev2 [tzE off yearsB]).rules (tzE off yearsB) = 0 := by
        show (if yearsB.data.toList = [] then (0 : Int) else (mkR (yearsR l).2 yearsB off).1) = 0
        rw [if_neg (by decide), hlaw]
      have r1 : tdR (oneB b.rules zB ev [tzE off nm]).rules (tzE off nm) = ⟨tzE off nm, l, firstLt l⟩ := by
        show (if nm.data.toList = [] then (⟨tzE off nm, [], dashB⟩ : Td) else ⟨tzE off nm, (mkR b.rules nm off).2, firstLt (mkR b.rules nm off).2⟩) = _
        rw [if_neg hnm, hb]
      have r2 : tdR (oneB (yearsR l).2 zB ev2 [tzE off yearsB]).rules (tzE off yearsB) = ⟨tzE off yearsB, l, firstLt l⟩ := by
        show (if yearsB.data.toList = [] then (⟨tzE off yearsB, [], dashB⟩ : Td) else ⟨tzE off yearsB, (mkR (yearsR l).2 yearsB off).2, firstLt (mkR (yearsR l).2 yearsB off).2⟩) = _
        rw [if_neg (by decide), hlaw]
      rw [w1, w2, a1, a2, t1, t2, r1, r2]
      rfl
end Go.Proofs.YtomahddiclkepaaGreatDoor
namespace Go.Proofs.YtomahddiclkepaaGreatDoor
open Go.RowKit
set_option linter.unusedVariables false
set_option linter.unusedSimpArgs false

theorem tyAt.mono {w w' : World} {B b o : Nat} {x : Ty} (h : tyAt w b o x) (hb : Below B w w') (hlt : b < B) : tyAt w' b o x :=
  ⟨(hb.cell (p := ⟨b, o, none⟩) hlt).trans h.1, (hb.cell (p := ⟨b, o + 1, none⟩) hlt).trans h.2.1, (hb.cell (p := ⟨b, o + 2, none⟩) hlt).trans h.2.2⟩
theorem chAt.mono {w w' : World} {B b o : Nat} {x : Ch} (h : chAt w b o x) (hb : Below B w w') (hlt : b < B) : chAt w' b o x :=
  ⟨(hb.cell (p := ⟨b, o, none⟩) hlt).trans h.1, (hb.cell (p := ⟨b, o + 1, none⟩) hlt).trans h.2⟩
end Go.Proofs.YtomahddiclkepaaGreatDoor
namespace Go.Proofs.YtomahddiclkepaaGreatDoor
open Go.RowKit
set_option linter.unusedVariables false
set_option linter.unusedSimpArgs false

def tAt (m : List Ch) (i : Nat) : Int := (m[i]?.map (·.t)).getD 0
def kAt (m : List Ch) (i : Nat) : Int := (m[i]?.map (·.k)).getD 0
def tyD (l : List Ty) (k : Int) : Ty := l[k.toNat]?.getD ⟨0, false, ⟨#[]⟩⟩

theorem chkTypes_ok : ∀ (l : List Ty), chkTypes l = 0 → ∀ x ∈ l, okOff x.off = true ∧ abbrB x.name = true
  | [], _, x, hx => by simp at hx
  | y :: r, h, x, hx => by
    unfold chkTypes at h
    split at h
    · split at h
      · rcases List.mem_cons.1 hx with rfl | hx
        · exact ⟨‹_›, ‹_›⟩
        · exact chkTypes_ok r h x hx
      · omega
    · omega

theorem chkChs_ok (last : Int) : ∀ (m : List Ch) (prev : Option Int), chkChs last prev m = 0 →
    (∀ x ∈ m, okTime x.t = true ∧ okIdx last x.k = true) ∧ (∀ p, prev = some p → ∀ x ∈ m, p < x.t) ∧ m.Pairwise (fun a b => a.t < b.t)
  | [], _, _ => ⟨by simp, by simp, List.Pairwise.nil⟩
  | c :: r, prev, h => by
    unfold chkChs at h
    split at h
    · split at h
      · omega
      · rename_i h1 h2
        obtain ⟨i1, i2, i3⟩ := chkChs_ok last r (some c.t) h
        simp only [Bool.and_eq_true] at h1
        have hp : ∀ p, prev = some p → p < c.t := by
          intro p hp
          subst hp
          simpa [before] using h2
        refine ⟨fun x hx => ?_, fun p hpp x hx => ?_, ?_⟩
        · rcases List.mem_cons.1 hx with rfl | hx
          · exact h1
          · exact i1 x hx
        · rcases List.mem_cons.1 hx with rfl | hx
          · exact hp p hpp
          · have := i2 c.t rfl x hx
            have := hp p hpp
            omega
        · exact List.Pairwise.cons (fun x hx => i2 c.t rfl x hx) i3
    · omega

structure OkTab (t : Tab) : Prop where
  ne : t.types ≠ []
  many : t.types.length ≤ 250
  chs : t.chs.length ≤ 1000
  type : ∀ x ∈ t.types, -75600 ≤ x.off ∧ x.off ≤ 75600 ∧ abbrB x.name = true
  first : 0 ≤ t.first ∧ t.first < t.types.length
  ch : ∀ x ∈ t.chs, -1099511627776 ≤ x.t ∧ x.t ≤ 1099511627776 ∧ 0 ≤ x.k ∧ x.k < t.types.length
  rise : t.chs.Pairwise (fun a b => a.t < b.t)

theorem chk_ok (t : Tab) (h : chk t = 0) : OkTab t := by
  unfold chk at h
  split at h
  · omega
  · rename_i hb
    split at h
    · omega
    · rename_i hn
      split at h
      · rename_i ht
        split at h
        · rename_i hf
          obtain ⟨c1, _, c3⟩ := chkChs_ok _ _ _ h
          have hb' : ¬ (250 < t.types.length ∨ 1000 < t.chs.length) := by simpa [big] using hb
          simp only [okIdx, decide_eq_true_eq] at hf
          refine ⟨hn, by omega, by omega, fun x hx => ?_, by omega, fun x hx => ?_, c3⟩
          · have := chkTypes_ok _ ht x hx
            simp only [okOff, decide_eq_true_eq] at this
            exact ⟨this.1.1, this.1.2, this.2⟩
          · have := c1 x hx
            simp only [okTime, okIdx, decide_eq_true_eq] at this
            omega
        · omega
      · exact absurd h ‹_›

theorem tAt_mono (m : List Ch) (h : m.Pairwise (fun a b => a.t < b.t)) (i j : Nat) (hij : i ≤ j) (hj : j < m.length) : tAt m i ≤ tAt m j := by
  unfold tAt
  rw [List.getElem?_eq_getElem hj, List.getElem?_eq_getElem (by omega)]
  by_cases e : i = j
  · subst e; exact Int.le_refl _
  · have := List.pairwise_iff_getElem.1 h i j (by omega) hj (by omega)
    simp; omega

def cntOf (m : List Ch) (x : Int) : Nat := cntF (fun i => decide (x < tAt m i)) m.length
def kOf (f : Int) (m : List Ch) (x : Int) : Int := if cntOf m x = 0 then f else kAt m (cntOf m x - 1)
def tyOf (t : Tab) (x : Int) : Ty := tyD t.types (kOf t.first t.chs x)

theorem cntOf_le (m : List Ch) (x : Int) : cntOf m x ≤ m.length := by
  unfold cntOf cntF
  have := List.countP_le_length (p := fun i => !decide (x < tAt m i)) (l := List.range m.length)
  simpa using this

end Go.Proofs.YtomahddiclkepaaGreatDoor
