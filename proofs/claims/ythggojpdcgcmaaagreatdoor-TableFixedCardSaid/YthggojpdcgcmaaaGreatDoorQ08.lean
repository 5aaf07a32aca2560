/- NamesZones: the plain law: a zone's name leads to it, a link where its target leads. How many places are still false: plain. Tables in plain Lean: what they hold, and what table.Check says of them. state: an era with its turns; which type it is at a time: plain functions and facts. Abbreviations that come of a format are abbreviations: plain. The laws of states, in plain words. sort.Search (at a function that leaves what lay below), table.Of, table.At, wall.check, wall.Local: what each returns. state: slices.IndexFunc of turns; Which; Within. -/
import Derived.Test.YthggojpdcgcmaaaGreatDoorQ07
import Derived.WalkKit
import Derived.Test.YthggojpdcgcmaaaGreatDoorQ01
import Derived.Test.YthggojpdcgcmaaaGreatDoorQ02
import Derived.Deep.LoopGhost
import Derived.RegionTactic
import Derived.ChangeAlike
import Derived.BigRegion
import Derived.Sort.Walk0
namespace Go.Proofs.YthggojpdcgcmaaaGreatDoor
open Go.RowKit Go.Joins Go.Maps
open Classical
set_option linter.unusedVariables false
set_option linter.unusedSimpArgs false

theorem pigeon {α : Type} [DecidableEq α] : ∀ (l m : List α), l.Pairwise (· ≠ ·) → (∀ x ∈ l, x ∈ m) → l.length ≤ m.length
  | [], m, _, _ => Nat.zero_le _
  | x :: r, m, hp, hm => by
    have hx := hm x (List.mem_cons_self ..)
    have h1 := pigeon r (m.erase x) (List.Pairwise.of_cons hp) fun y hy => by
      have hne : y ≠ x := fun e => (List.rel_of_pairwise_cons hp hy) e.symm
      exact (List.mem_erase_of_ne hne).2 (hm y (List.mem_cons_of_mem _ hy))
    rw [List.length_erase_of_mem hx] at h1
    have : 0 < m.length := List.length_pos_of_mem hx
    simp only [List.length_cons]
    omega
section
variable {α : Type} {key : α → ByteArray}
theorem lookF_keep {k : ByteArray} : ∀ (l : List α) (x : α), (l.foldl (fun acc x => if key x = k then some x else acc) (some x)).isSome = true
  | [], x => rfl
  | y :: r, x => by
    rw [List.foldl_cons]
    by_cases h : key y = k
    · rw [if_pos h]; exact lookF_keep r y
    · rw [if_neg h]; exact lookF_keep r x
theorem lookF_has {k : ByteArray} : ∀ (l : List α) (acc : Option α), (∃ x ∈ l, key x = k) → (l.foldl (fun acc x => if key x = k then some x else acc) acc).isSome = true
  | [], acc, h => by obtain ⟨x, hx, -⟩ := h; cases hx
  | y :: r, acc, h => by
    rw [List.foldl_cons]
    by_cases hy : key y = k
    · rw [if_pos hy]; exact lookF_keep r y
    · rw [if_neg hy]
      obtain ⟨x, hx, e⟩ := h
      rcases List.mem_cons.1 hx with rfl | hx
      · exact absurd e hy
      · exact lookF_has r acc ⟨x, hx, e⟩
theorem lookF_uniq {l : List α} (hu : ∀ x ∈ l, ∀ y ∈ l, key x = key y → x = y) {x : α} (hx : x ∈ l) : lookF key l (key x) = some x := by
  have h := lookF_has (key := key) (k := key x) l none ⟨x, hx, rfl⟩
  cases e : lookF key l (key x) with
  | none => unfold lookF at e; rw [e] at h; cases h
  | some y =>
    obtain ⟨hy, hk⟩ := lookF_in e
    rw [hu y hy x hx hk]
theorem lookF_no {l : List α} {k : ByteArray} (h : ∀ x ∈ l, key x ≠ k) : lookF key l k = none := by
  cases e : lookF key l k with
  | none => rfl
  | some y =>
    obtain ⟨hy, hk⟩ := lookF_in e
    exact absurd hk (h y hy)
theorem uniq_of {l : List α} (h : ∀ i (hi : i < l.length), ∀ y ∈ l.take i, key y ≠ key l[i]) : ∀ x ∈ l, ∀ y ∈ l, key x = key y → x = y := by
  intro x hx y hy e
  obtain ⟨i, hi, rfl⟩ := List.mem_iff_getElem.1 hx
  obtain ⟨j, hj, rfl⟩ := List.mem_iff_getElem.1 hy
  rcases Nat.lt_trichotomy i j with hij | hij | hij
  · exact absurd e (h j hj _ (List.mem_take_iff_getElem.2 ⟨i, by omega, rfl⟩))
  · subst hij; rfl
  · exact absurd e.symm (h i hi _ (List.mem_take_iff_getElem.2 ⟨j, by omega, rfl⟩))
end
structure LinkOk (b : Bk) (i : Nat) (x : Lk) : Prop where
  nm : nameB x.nm = true
  tt : nameB x.to = true
  nz : ∀ z ∈ b.zones, z.nm ≠ x.nm
  fresh : ∀ y ∈ b.links.take i, y.nm ≠ x.nm
  tgt : (∃ z ∈ b.zones, z.nm = x.to) ∨ ∃ y ∈ b.links, y.nm = x.to
theorem bk_link {b : Bk} (h : bkChk b = 0) (i : Nat) (hi : i < b.links.length) : LinkOk b i b.links[i] := by
  have hz := (bk_parts h).2 i hi
  unfold linkChk at hz
  split at hz
  · cases hz
  · rename_i h1
    split at hz
    · cases hz
    · rename_i h2
      split at hz
      · cases hz
      · rename_i h3
        rw [not_or] at h1 h2
        refine ⟨by simpa using h1.1, by simpa using h1.2, fun z hz e => h2.1 (List.any_eq_true.2 ⟨z, hz, by simpa using e⟩), fun y hy e => h2.2 (List.any_eq_true.2 ⟨y, hy, by simpa using e⟩), ?_⟩
        by_cases g : isZone b b.links[i].to = false
        · have g2 : isLink b.links b.links[i].to = true := by
            cases e : isLink b.links b.links[i].to with
            | true => rfl
            | false => exact absurd ⟨g, e⟩ h3
          obtain ⟨y, hy, e⟩ := List.any_eq_true.1 g2
          exact .inr ⟨y, hy, by simpa using e⟩
        · have g1 : isZone b b.links[i].to = true := by simpa using g
          obtain ⟨z, hz, e⟩ := List.any_eq_true.1 g1
          exact .inl ⟨z, hz, by simpa using e⟩
theorem zones_uniq {b : Bk} (h : bkChk b = 0) : ∀ x ∈ b.zones, ∀ y ∈ b.zones, x.nm = y.nm → x = y := uniq_of (key := fun z : Zo => z.nm) fun i hi => (bk_zone h i hi).fresh
theorem links_uniq {b : Bk} (h : bkChk b = 0) : ∀ x ∈ b.links, ∀ y ∈ b.links, x.nm = y.nm → x = y := uniq_of (key := fun z : Lk => z.nm) fun i hi => (bk_link h i hi).fresh
theorem rsv_zone {b : Bk} (h : bkChk b = 0) {z : Zo} (hz : z ∈ b.zones) : rsv b z.nm = (some z, 0) := by
  rw [rsv_go h]
  exact resF_z (lookF_uniq (key := fun z : Zo => z.nm) (zones_uniq h) hz)

def tgtF (ls : List Lk) (k : ByteArray) : ByteArray := match lookF (·.nm) ls k with | some x => x.to | none => k
def itr (ls : List Lk) : Nat → ByteArray → ByteArray
  | 0, k => k
  | j + 1, k => itr ls j (tgtF ls k)
theorem itr_add (ls : List Lk) : ∀ (a c : Nat) (k : ByteArray), itr ls (a + c) k = itr ls c (itr ls a k)
  | 0, c, k => by rw [Nat.zero_add]; rfl
  | a + 1, c, k => by
    rw [show a + 1 + c = (a + c) + 1 by omega]
    exact itr_add ls a c (tgtF ls k)
def IsL (zs : List Zo) (ls : List Lk) (k : ByteArray) : Prop := lookF (·.nm) zs k = none ∧ (lookF (·.nm) ls k).isSome = true
theorem path_of {zs : List Zo} {ls : List Lk} : ∀ (n : Nat) (k : ByteArray), resF zs ls (n + 1) k ≠ resF zs ls n k → (∀ j, j < n → IsL zs ls (itr ls j k)) ∧ ¬ IsL zs ls (itr ls n k)
  | 0, k, h => by
    refine ⟨fun j hj => absurd hj (Nat.not_lt_zero j), fun hl => h ?_⟩
    obtain ⟨h1, h2⟩ := hl
    obtain ⟨x, hx⟩ := Option.isSome_iff_exists.1 h2
    exact resF_go h1 hx
  | n + 1, k, h => by
    cases hz : lookF (·.nm) zs k with
    | some z => exact absurd (by rw [resF_z hz, resF_z hz]) h
    | none =>
      cases hl : lookF (·.nm) ls k with
      | none => exact absurd (by rw [resF_none hz hl, resF_none hz hl]) h
      | some x =>
        rw [resF_go hz hl, resF_go hz hl] at h
        obtain ⟨h1, h2⟩ := path_of n x.to h
        have ht : tgtF ls k = x.to := by unfold tgtF; rw [hl]
        refine ⟨fun j hj => ?_, ?_⟩
        · cases j with
          | zero => exact ⟨hz, by show (lookF (·.nm) ls k).isSome = true; rw [hl]; rfl⟩
          | succ j =>
            show IsL zs ls (itr ls j (tgtF ls k))
            rw [ht]
            exact h1 j (by omega)
        · show ¬ IsL zs ls (itr ls n (tgtF ls k))
          rw [ht]
          exact h2
theorem path_inj {zs : List Zo} {ls : List Lk} {n : Nat} {k : ByteArray} (h1 : ∀ j, j < n → IsL zs ls (itr ls j k)) (h2 : ¬ IsL zs ls (itr ls n k)) {i j : Nat} (hij : i < j) (hj : j ≤ n) : itr ls i k ≠ itr ls j k := by
  intro e
  refine h2 ?_
  have e1 : itr ls n k = itr ls (n - j) (itr ls j k) := by rw [← itr_add]; congr 1; omega
  have e2 : itr ls (i + (n - j)) k = itr ls (n - j) (itr ls i k) := itr_add ..
  rw [e1, ← e, ← e2]
  exact h1 _ (by omega)
theorem size_DL {b : Bk} (h : bkChk b = 0) : Maps.size (DL b.links) = b.links.length := by
  have key : ∀ (k : Nat), k ≤ b.links.length → Maps.size (DL (b.links.take k)) = k ∧ Tidy (DL (b.links.take k)) := by
    intro k
    induction k with
    | zero => intro _; exact ⟨rfl, tidy_empty⟩
    | succ k ih =>
      intro hk
      obtain ⟨h1, h2⟩ := ih (by omega)
      have hn : has (DL (b.links.take k)) (kyS b.links[k].nm) = false := by
        have e := (Dof_has (·.nm) (fun x : Lk => .string x.to) (b.links.take k) b.links[k].nm).1
        have e2 : lookF (fun x : Lk => x.nm) (b.links.take k) b.links[k].nm = none := lookF_no (key := fun x : Lk => x.nm) (bk_link h k (by omega)).fresh
        rw [e2] at e
        exact e
      rw [take_succN _ _ (by omega), DL_snoc]
      refine ⟨?_, h2.put (show WideAt.IsKeyLit (kyS b.links[k].nm) from trivial) _⟩
      rw [size_put h2, hn, h1]
      rfl
  have := (key b.links.length (Nat.le_refl _)).1
  rwa [List.take_length] at this
theorem link_same {b : Bk} (h : bkChk b = 0) {l : Lk} (hl : l ∈ b.links) : resF b.zones b.links (b.links.length + 1) l.to = resF b.zones b.links b.links.length l.to := by
  apply Classical.byContradiction
  intro hne
  obtain ⟨h1, h2⟩ := path_of _ _ hne
  obtain ⟨n, hn⟩ : ∃ n, b.links.length = n := ⟨_, rfl⟩
  rw [hn] at h1 h2
  have hll := lookF_uniq (key := fun x : Lk => x.nm) (links_uniq h) hl
  have ht : tgtF b.links l.nm = l.to := by unfold tgtF; rw [hll]
  have hpig := pigeon (l.nm :: (List.range n).map fun j => itr b.links j l.to) (b.links.map fun x => x.nm) ?_ ?_
  · simp at hpig
    omega
  · refine List.pairwise_cons.2 ⟨fun y hy e => ?_, ?_⟩
    · obtain ⟨j, hj, rfl⟩ := List.mem_map.1 hy
      have hj := List.mem_range.1 hj
      refine path_inj h1 h2 (i := 0) (j := j + 1) (by omega) (by omega) ?_
      have e2 : itr b.links (j + 1) l.to = itr b.links 1 (itr b.links j l.to) := itr_add ..
      rw [e2, ← e]
      exact ht.symm
    · rw [List.pairwise_map]
      refine List.Pairwise.imp_of_mem ?_ (List.pairwise_lt_range (n := n))
      intro i j hi hj hij
      exact path_inj h1 h2 hij (by have := List.mem_range.1 hj; omega)
  · intro y hy
    rcases List.mem_cons.1 hy with rfl | hy
    · exact List.mem_map_of_mem hl
    · obtain ⟨j, hj, rfl⟩ := List.mem_map.1 hy
      obtain ⟨-, g⟩ := h1 j (List.mem_range.1 hj)
      obtain ⟨x, hx⟩ := Option.isSome_iff_exists.1 g
      obtain ⟨hx1, hx2⟩ := lookF_in hx
      rw [← hx2]
      exact List.mem_map_of_mem hx1
theorem resF_code {b : Bk} (h : bkChk b = 0) : ∀ (n : Nat) (k : ByteArray), ((∃ z ∈ b.zones, z.nm = k) ∨ ∃ y ∈ b.links, y.nm = k) → (resF b.zones b.links n k).2 = 0 ∨ (resF b.zones b.links n k).2 = 8
  | 0, k, _ => .inr rfl
  | n + 1, k, hk => by
    cases hz : lookF (·.nm) b.zones k with
    | some z => rw [resF_z hz]; exact .inl rfl
    | none =>
      cases hl : lookF (·.nm) b.links k with
      | none =>
        rcases hk with ⟨z, hz2, rfl⟩ | ⟨y, hy, rfl⟩
        · have := lookF_uniq (key := fun z : Zo => z.nm) (zones_uniq h) hz2
          rw [this] at hz; cases hz
        · have := lookF_uniq (key := fun z : Lk => z.nm) (links_uniq h) hy
          rw [this] at hl; cases hl
      | some x =>
        rw [resF_go hz hl]
        obtain ⟨i, hi, e⟩ := List.mem_iff_getElem.1 (lookF_in hl).1
        have := (bk_link h i hi).tgt
        rw [e] at this
        exact resF_code h n x.to this
/-- a link leads where its target leads, or nowhere, round -/
theorem rsv_link {b : Bk} (h : bkChk b = 0) {l : Lk} (hl : l ∈ b.links) : rsv b l.nm = rsv b l.to ∧ ((rsv b l.nm).2 = 0 ∨ (rsv b l.nm).2 = 8) := by
  have hll := lookF_uniq (key := fun x : Lk => x.nm) (links_uniq h) hl
  obtain ⟨i, hi, e⟩ := List.mem_iff_getElem.1 hl
  have hok := bk_link h i hi
  rw [e] at hok
  have hz : lookF (fun z : Zo => z.nm) b.zones l.nm = none := lookF_no (key := fun z : Zo => z.nm) hok.nz
  rw [rsv_go h, rsv_go h, size_DL h]
  refine ⟨?_, resF_code h _ _ (.inr ⟨l, hl, rfl⟩)⟩
  rw [resF_go hz hll]
  exact (link_same h hl).symm
end Go.Proofs.YthggojpdcgcmaaaGreatDoor
namespace Go.Proofs.YthggojpdcgcmaaaGreatDoor
set_option linter.unusedVariables false
set_option linter.unusedSimpArgs false

/-- how many places below n are still false -/
def cntF (p : Nat → Bool) (n : Nat) : Nat := (List.range n).countP (fun i => !p i)

theorem cntF_boundary (p : Nat → Bool) (n h : Nat) (hn : h ≤ n) (h1 : ∀ t, t < h → p t = false) (h2 : ∀ t, h ≤ t → t < n → p t = true) : cntF p n = h := by
  unfold cntF
  induction n with
  | zero => simp; omega
  | succ n ih =>
    rw [List.range_succ, List.countP_append]
    by_cases e : h = n + 1
    · subst e
      have : (List.range n).countP (fun i => !p i) = n := by
        have hall : ∀ i ∈ List.range n, (fun i => !p i) i = true := fun i hi => by
          have := h1 i (by have := List.mem_range.1 hi; omega)
          simp [this]
        rw [List.countP_eq_length.2 hall]; simp
      rw [this]; simp [h1 n (by omega)]
    · rw [ih (by omega) (fun t ht htn => h2 t ht (by omega))]
      simp [h2 n (by omega) (by omega)]
end Go.Proofs.YthggojpdcgcmaaaGreatDoor
namespace Go.Proofs.YthggojpdcgcmaaaGreatDoor
open Go.RowKit
set_option linter.unusedVariables false

structure Ty where
  off : Int
  save : Bool
  name : ByteArray
abbrev tyV (x : Ty) : Value := .agg #[.int .i64 x.off, .bool x.save, .string x.name]
structure Ch where
  t : Int
  k : Int
structure Tab where
  types : List Ty
  first : Int
  chs : List Ch

def okOff (x : Int) : Bool := decide (-75600 ≤ x ∧ x ≤ 75600)
def okTime (x : Int) : Bool := decide (-1099511627776 ≤ x ∧ x ≤ 1099511627776)
def okIdx (last x : Int) : Bool := decide (0 ≤ x ∧ x ≤ last)

def chkTypes : List Ty → Int
  | [] => 0
  | x :: r => if okOff x.off = true then (if abbrB x.name = true then chkTypes r else 3) else 1

def before (prev : Option Int) (x : Int) : Bool := match prev with
  | some p => decide (x ≤ p)
  | none => false

def chkChs (last : Int) : Option Int → List Ch → Int
  | _, [] => 0
  | prev, c :: r => if (okTime c.t && okIdx last c.k) = true then (if before prev c.t = true then 5 else chkChs last (some c.t) r) else 1

def big (t : Tab) : Bool := decide (250 < t.types.length ∨ 1000 < t.chs.length)

def chk (t : Tab) : Int :=
  if big t = true then 2 else
  if t.types = [] then 5 else
  if chkTypes t.types = 0 then (if okIdx ((t.types.length : Int) - 1) t.first = true then chkChs ((t.types.length : Int) - 1) none t.chs else 1) else chkTypes t.types

/-- the time of the change ahead of number k -/
def prevOf (l : List Ch) : Nat → Option Int
  | 0 => none
  | k + 1 => (l[k]?).map (·.t)

/-! ### tables in memory -/
def tyAt (w : World) (b o : Nat) (x : Ty) : Prop :=
  w.cell? ⟨b, o, none⟩ = some (.int .i64 x.off) ∧ w.cell? ⟨b, o + 1, none⟩ = some (.bool x.save) ∧ w.cell? ⟨b, o + 2, none⟩ = some (.string x.name)
def chAt (w : World) (b o : Nat) (x : Ch) : Prop :=
  w.cell? ⟨b, o, none⟩ = some (.int .i64 x.t) ∧ w.cell? ⟨b, o + 1, none⟩ = some (.int .i64 x.k)

structure SlTy (w : World) (v : Value) (l : List Ty) : Prop where
  shape : ∃ p cap, v = .slice p l.length cap ∧ (l ≠ [] → ∃ b o, p = some ⟨b, o, none⟩ ∧ b < w.heap.size ∧ ∀ i (h : i < l.length), tyAt w b (o + i * 3) l[i])
  size : l.length ≤ maxLen
  names : ∀ x ∈ l, x.name.size ≤ maxLen
structure SlCh (w : World) (v : Value) (l : List Ch) : Prop where
  shape : ∃ p cap, v = .slice p l.length cap ∧ (l ≠ [] → ∃ b o, p = some ⟨b, o, none⟩ ∧ b < w.heap.size ∧ ∀ i (h : i < l.length), chAt w b (o + i * 2) l[i])
  size : l.length ≤ maxLen

structure TabAt (w : World) (v : Value) (t : Tab) : Prop where
  val : ∃ sv cv, v = .agg #[sv, .int .i64 t.first, cv] ∧ SlTy w sv t.types ∧ SlCh w cv t.chs

theorem tyAt.below {w w' : World} {b o : Nat} {x : Ty} (h : tyAt w b o x) (hb : Below w.heap.size w w') (hlt : b < w.heap.size) : tyAt w' b o x :=
  ⟨(hb.cell (p := ⟨b, o, none⟩) hlt).trans h.1, (hb.cell (p := ⟨b, o + 1, none⟩) hlt).trans h.2.1, (hb.cell (p := ⟨b, o + 2, none⟩) hlt).trans h.2.2⟩
theorem chAt.below {w w' : World} {b o : Nat} {x : Ch} (h : chAt w b o x) (hb : Below w.heap.size w w') (hlt : b < w.heap.size) : chAt w' b o x :=
  ⟨(hb.cell (p := ⟨b, o, none⟩) hlt).trans h.1, (hb.cell (p := ⟨b, o + 1, none⟩) hlt).trans h.2⟩

theorem SlTy.below {w w' : World} {v : Value} {l : List Ty} (h : SlTy w v l) (hb : Below w.heap.size w w') : SlTy w' v l := by
  obtain ⟨⟨p, cap, hv, hc⟩, h2, h3⟩ := h
  refine ⟨⟨p, cap, hv, fun hne => ?_⟩, h2, h3⟩
  obtain ⟨b, o, hp, hlt, hat⟩ := hc hne
  exact ⟨b, o, hp, Nat.lt_of_lt_of_le hlt hb.size, fun i h => (hat i h).below hb hlt⟩
theorem SlCh.below {w w' : World} {v : Value} {l : List Ch} (h : SlCh w v l) (hb : Below w.heap.size w w') : SlCh w' v l := by
  obtain ⟨⟨p, cap, hv, hc⟩, h2⟩ := h
  refine ⟨⟨p, cap, hv, fun hne => ?_⟩, h2⟩
  obtain ⟨b, o, hp, hlt, hat⟩ := hc hne
  exact ⟨b, o, hp, Nat.lt_of_lt_of_le hlt hb.size, fun i h => (hat i h).below hb hlt⟩
theorem TabAt.below {w w' : World} {v : Value} {t : Tab} (h : TabAt w v t) (hb : Below w.heap.size w w') : TabAt w' v t := by
  obtain ⟨sv, cv, hv, h1, h2⟩ := h.val
  exact ⟨sv, cv, hv, h1.below hb, h2.below hb⟩

theorem chkTypes_drop (l : List Ty) (k : Nat) (h : k < l.length) (ho : okOff l[k].off = true) (ha : abbrB l[k].name = true) : chkTypes (l.drop k) = chkTypes (l.drop (k + 1)) := by
  rw [List.drop_eq_getElem_cons h]; simp [chkTypes, ho, ha]
theorem chkTypes_off (l : List Ty) (k : Nat) (h : k < l.length) (ho : okOff l[k].off = false) : chkTypes (l.drop k) = 1 := by
  rw [List.drop_eq_getElem_cons h]; simp [chkTypes, ho]
theorem chkTypes_abbr (l : List Ty) (k : Nat) (h : k < l.length) (ho : okOff l[k].off = true) (ha : abbrB l[k].name = false) : chkTypes (l.drop k) = 3 := by
  rw [List.drop_eq_getElem_cons h]; simp [chkTypes, ho, ha]

theorem chkChs_drop (last : Int) (l : List Ch) (k : Nat) (h : k < l.length) (ho : (okTime l[k].t && okIdx last l[k].k) = true) (hb : before (prevOf l k) l[k].t = false) :
    chkChs last (prevOf l k) (l.drop k) = chkChs last (prevOf l (k + 1)) (l.drop (k + 1)) := by
  rw [List.drop_eq_getElem_cons h]
  have e : prevOf l (k + 1) = some l[k].t := by simp [prevOf, h]
  rw [e]
  simp only [chkChs, ho, hb]; simp
theorem chkChs_bad (last : Int) (l : List Ch) (k : Nat) (h : k < l.length) (ho : (okTime l[k].t && okIdx last l[k].k) = false) :
    chkChs last (prevOf l k) (l.drop k) = 1 := by
  rw [List.drop_eq_getElem_cons h]; simp only [chkChs, ho]; simp
theorem chkChs_back (last : Int) (l : List Ch) (k : Nat) (h : k < l.length) (ho : (okTime l[k].t && okIdx last l[k].k) = true) (hb : before (prevOf l k) l[k].t = true) :
    chkChs last (prevOf l k) (l.drop k) = 5 := by
  rw [List.drop_eq_getElem_cons h]; simp only [chkChs, ho, hb]; simp

end Go.Proofs.YthggojpdcgcmaaaGreatDoor
namespace Go.Proofs.YthggojpdcgcmaaaGreatDoor
open Go.RowKit Go.Joins Go.Maps
open Classical
set_option linter.unusedVariables false
set_option linter.unusedSimpArgs false

/-- an era with its turns, and the letter ahead of them -/
structure Td where
  er : Er
  ts : List Tn
  fst : ByteArray
def dashB : ByteArray := ⟨#[45]⟩
def fstK (l : List Tn) : Nat := l.findIdx fun u => decide (u.s = 0)
def firstLt (l : List Tn) : ByteArray := (l[fstK l]?.map (·.lt)).getD dashB
def tdE (rules : List Ru) (x : Er) : Int := if x.ru.data.toList = [] then 0 else (mkR rules x.ru x.off).1
def tdR (rules : List Ru) (x : Er) : Td := if x.ru.data.toList = [] then ⟨x, [], dashB⟩ else ⟨x, (mkR rules x.ru x.off).2, firstLt (mkR rules x.ru x.off).2⟩
theorem tdR_er (rules : List Ru) (x : Er) : (tdR rules x).er = x := by unfold tdR; split <;> rfl
def tnA (l : List Tn) (i : Nat) : Int := (l[i]?.map (·.a)).getD 0
/-- how many turns there are up to a time -/
def cntT (l : List Tn) (t : Int) : Nat := cntF (fun i => decide (t < tnA l i)) l.length
def svT (x : Td) (t : Int) : Int × ByteArray := match x.ts[cntT x.ts t - 1]? with
  | some u => if cntT x.ts t = 0 then (x.er.sv, x.fst) else (u.s, u.lt)
  | none => (x.er.sv, x.fst)
def nmT (x : Td) (t : Int) : ByteArray := txt (abbrF x.er.fm.data.toList (svT x t).1 (svT x t).2.data.toList).1
def tdTy (x : Td) (t : Int) : Ty := ⟨x.er.off + (svT x t).1, decide (0 < (svT x t).1), nmT x t⟩
def whichF (l : List Er) (t : Int) : Nat := cntF (fun i => decide (t < (eraAt l i).un)) (l.length - 1)
def ty0 : Ty := ⟨0, false, ⟨#[]⟩⟩
/-- what state.At answers -/
def stR (b : Bk) (nm : ByteArray) (t : Int) : Int × Ty :=
  match (rsv b nm).1 with
  | none => ((rsv b nm).2, ty0)
  | some z => if stampE t ≠ 0 then (stampE t, ty0) else
    if tdE b.rules (eraAt z.eras (whichF z.eras t)) ≠ 0 then (tdE b.rules (eraAt z.eras (whichF z.eras t)), ty0) else (0, tdTy (tdR b.rules (eraAt z.eras (whichF z.eras t))) t)

/-! counts -/
theorem bnd_ex (p : Nat → Bool) : ∀ (n : Nat), (∀ a b, a ≤ b → b < n → p a = true → p b = true) → ∃ h, h ≤ n ∧ (∀ t, t < h → p t = false) ∧ (∀ t, h ≤ t → t < n → p t = true)
  | 0, _ => ⟨0, Nat.le_refl _, fun t h => absurd h (Nat.not_lt_zero _), fun t _ h => absurd h (Nat.not_lt_zero _)⟩
  | n + 1, hm => by
    obtain ⟨h, h1, h2, h3⟩ := bnd_ex p n fun a b hab hb => hm a b hab (by omega)
    by_cases e : p n = true
    · exact ⟨h, by omega, h2, fun t ht htn => by
        by_cases ht2 : t = n
        · rw [ht2]; exact e
        · exact h3 t ht (by omega)⟩
    · refine ⟨n + 1, Nat.le_refl _, fun t ht => ?_, fun t h4 h5 => by omega⟩
      cases ep : p t with
      | false => rfl
      | true => exact absurd (hm t n (by omega) (by omega) ep) e
theorem cntF_spec (p : Nat → Bool) (n : Nat) (hm : ∀ a b, a ≤ b → b < n → p a = true → p b = true) : cntF p n ≤ n ∧ (∀ i, i < cntF p n → p i = false) ∧ ∀ i, cntF p n ≤ i → i < n → p i = true := by
  obtain ⟨h, h1, h2, h3⟩ := bnd_ex p n hm
  rw [cntF_boundary p n h h1 h2 h3]
  exact ⟨h1, h2, h3⟩
theorem cntF_leN (p : Nat → Bool) (n : Nat) : cntF p n ≤ n := by
  unfold cntF
  have := List.countP_le_length (p := fun i => !p i) (l := List.range n)
  simpa using this
theorem rises_mono {l : List Tn} (h : Rises l) : ∀ (j i : Nat) (hij : i < j) (hj : j < l.length), (l[i]'(by omega)).a < l[j].a
  | 0, i, hi, _ => absurd hi (Nat.not_lt_zero _)
  | j + 1, i, hi, hj => by
    have h1 := h j hj
    by_cases e : i = j
    · subst e; exact h1
    · have h2 := rises_mono h j i (by omega) (by omega)
      omega
theorem tnA_at (l : List Tn) (i : Nat) (h : i < l.length) : tnA l i = l[i].a := by unfold tnA; rw [List.getElem?_eq_getElem h]; rfl
theorem tnA_mono {l : List Tn} (h : Rises l) (i j : Nat) (hij : i ≤ j) (hj : j < l.length) : tnA l i ≤ tnA l j := by
  rw [tnA_at l j hj, tnA_at l i (by omega)]
  by_cases e : i = j
  · subst e; exact Int.le_refl _
  · exact Int.le_of_lt (rises_mono h j i (by omega) hj)
theorem cntT_mono {l : List Tn} (h : Rises l) (t : Int) : ∀ a b, a ≤ b → b < l.length → decide (t < tnA l a) = true → decide (t < tnA l b) = true := fun a b hab hb hp => by
  have := tnA_mono h a b hab hb
  simp only [decide_eq_true_eq] at *
  omega
theorem cntT_spec {l : List Tn} (h : Rises l) (t : Int) : cntT l t ≤ l.length ∧ (∀ i, i < cntT l t → tnA l i ≤ t) ∧ ∀ i, cntT l t ≤ i → i < l.length → t < tnA l i := by
  obtain ⟨h1, h2, h3⟩ := cntF_spec _ _ (cntT_mono h t)
  exact ⟨h1, fun i hi => by have := h2 i hi; simpa using this, fun i hi hl => by have := h3 i hi hl; simpa using this⟩
theorem cntT_le (l : List Tn) (t : Int) : cntT l t ≤ l.length := cntF_leN _ _
theorem cntT_eq {l : List Tn} (h : Rises l) {t : Int} {k : Nat} (hk : k ≤ l.length) (h1 : ∀ i, i < k → tnA l i ≤ t) (h2 : ∀ i, k ≤ i → i < l.length → t < tnA l i) : cntT l t = k :=
  cntF_boundary _ _ _ hk (fun i hi => by have := h1 i hi; simpa using this) (fun i hi hl => by have := h2 i hi hl; simpa using this)
theorem svT_0 {x : Td} {t : Int} (h : cntT x.ts t = 0) : svT x t = (x.er.sv, x.fst) := by
  unfold svT
  split
  · rw [if_pos h]
  · rfl
theorem svT_s {x : Td} {t : Int} (h : cntT x.ts t ≠ 0) : ∃ h2 : cntT x.ts t - 1 < x.ts.length, svT x t = (x.ts[cntT x.ts t - 1].s, x.ts[cntT x.ts t - 1].lt) := by
  have := cntT_le x.ts t
  have h2 : cntT x.ts t - 1 < x.ts.length := by omega
  refine ⟨h2, ?_⟩
  unfold svT
  rw [List.getElem?_eq_getElem h2]
  dsimp only
  rw [if_neg h]

/-! what the turns of an era are -/
theorem outF_mem (off : Int) : ∀ (S : List (Int × Ru)) (save : Int) (last : Option Int) (l : List Tn), outF off save last S = some l → ∀ u ∈ l, ∃ x ∈ S, u.s = x.2.sv ∧ u.lt = x.2.lt
  | [], save, last, l, h, u, hu => by
    simp only [outF, Option.some.injEq] at h
    subst h
    cases hu
  | x :: r, save, last, l, h, u, hu => by
    obtain ⟨h1, t, h2, rfl⟩ := outF_some h
    rcases List.mem_cons.1 hu with rfl | hu
    · exact ⟨x, List.mem_cons_self .., rfl, rfl⟩
    · obtain ⟨y, hy, e⟩ := outF_mem off r _ _ t h2 u hu
      exact ⟨y, List.mem_cons_of_mem _ hy, e⟩
theorem noms_mem {D : Ru → Int → Int} {rules : List Ru} {nm : ByteArray} {x : Int × Ru} (h : x ∈ nomsOf D rules nm) : x.2 ∈ rules ∧ x.2.nm = nm := by
  obtain ⟨r, hr, hx⟩ := List.mem_flatMap.1 h
  obtain ⟨i, -, rfl⟩ := List.mem_map.1 hx
  have := List.mem_filter.1 hr
  exact ⟨this.1, by simpa using this.2⟩
theorem mkR_mem {rules : List Ru} {nm : ByteArray} {off : Int} {u : Tn} (h : u ∈ (mkR rules nm off).2) : ∃ r ∈ rules, r.nm = nm ∧ u.s = r.sv ∧ u.lt = r.lt := by
  by_cases h0 : (mkR rules nm off).1 = 0
  · obtain ⟨x, hx, e⟩ := outF_mem off _ 0 none _ (mkR_ok h0) u h
    have hx2 : x ∈ nomsOf dayN rules nm := (List.mergeSort_perm _ _).mem_iff.1 hx
    obtain ⟨h1, h2⟩ := noms_mem hx2
    exact ⟨x.2, h1, h2, e⟩
  · have : (mkR rules nm off).2 = [] := by
      unfold mkR at h0 ⊢
      split
      · rfl
      · split
        · rfl
        · rename_i h1 h2
          rw [if_neg h1, if_neg h2] at h0
          cases e : outF off 0 none (srt (nomsOf dayN rules nm)) with
          | none => rfl
          | some l => rw [e] at h0; exact absurd rfl h0
    rw [this] at h
    cases h
theorem mkR_rises {rules : List Ru} {nm : ByteArray} {off : Int} (h0 : (mkR rules nm off).1 = 0) : Rises (mkR rules nm off).2 := (outF_rise off _ 0 none _ (mkR_ok h0)).2
theorem tdR_rises {rules : List Ru} {x : Er} (h : tdE rules x = 0) : Rises (tdR rules x).ts := by
  unfold tdE at h
  unfold tdR
  by_cases hr : x.ru.data.toList = []
  · rw [if_pos hr]; intro i hi; exact absurd hi (Nat.not_lt_zero _)
  · rw [if_neg hr] at h ⊢
    exact mkR_rises h
theorem firstLt_of (l : List Tn) : firstLt l = dashB ∨ ∃ u ∈ l, u.s = 0 ∧ firstLt l = u.lt := by
  unfold firstLt
  cases h : l[fstK l]? with
  | none => exact .inl rfl
  | some u =>
    obtain ⟨hlt, e⟩ := List.getElem?_eq_some_iff.1 h
    refine .inr ⟨u, e ▸ List.getElem_mem _, ?_, rfl⟩
    have := List.findIdx_getElem (p := fun u : Tn => decide (u.s = 0)) (xs := l) (w := hlt)
    have h3 : l[fstK l].s = 0 := of_decide_eq_true this
    rw [← e]; exact h3

/-! an era of a book that may be -/
structure EraOk (rules : List Ru) (x : Er) : Prop where
  o1 : -64800 ≤ x.off
  o2 : x.off ≤ 64800
  s1 : 0 ≤ x.sv
  s2 : x.sv ≤ 10800
  sr : x.ru.data.toList ≠ [] → x.sv = 0
  has : x.ru.data.toList ≠ [] → ∃ r ∈ rules, r.nm = x.ru
  ab : abbrsChk rules x = 0
theorem eraChk_ok {rules : List Ru} {l : List Er} {k : Nat} (h : eraChk rules l k = 0) : EraOk rules (eraAt l k) ∧ (k + 1 ≠ l.length → -1099511627776 ≤ (eraAt l k).un ∧ (eraAt l k).un ≤ 1099511627776 ∧ stampE (eraAt l k).un = 0 ∧ (0 < k → (eraAt l (k - 1)).un < (eraAt l k).un)) ∧ (k + 1 = l.length → (eraAt l k).un = 0) := by
  unfold eraChk at h
  dsimp only at h
  split at h
  · cases h
  · rename_i h1
    split at h
    · cases h
    · rename_i h2
      split at h
      · cases h
      · rename_i h3
        split at h
        · exact absurd h (by assumption)
        · rename_i h4
          refine ⟨⟨by omega, by omega, by omega, by omega, fun hr => ?_, fun hr => ?_, Classical.not_not.1 h4⟩, fun hk => ?_, fun hk => ?_⟩
          · exact Classical.byContradiction fun hs => h2 ⟨hs, hr⟩
          · have : ¬ (rules.any fun r => decide (r.nm = (eraAt l k).ru)) = false := fun g => h3 ⟨hr, g⟩
            have : (rules.any fun r => decide (r.nm = (eraAt l k).ru)) = true := by simpa using this
            obtain ⟨r, hr, e⟩ := List.any_eq_true.1 this
            exact ⟨r, hr, of_decide_eq_true e⟩
          · rw [if_neg hk] at h
            split at h
            · cases h
            · rename_i h5
              split at h
              · exact absurd h (by assumption)
              · rename_i h6
                split at h
                · cases h
                · rename_i h7
                  refine ⟨by omega, by omega, Classical.not_not.1 h6, fun h0 => ?_⟩
                  omega
          · rw [if_pos hk] at h
            exact Classical.byContradiction fun g => by rw [if_pos g] at h; cases h
theorem eraAt_in (l : List Er) (k : Nat) (h : k < l.length) : eraAt l k = l[k] := by unfold eraAt; rw [List.getElem?_eq_getElem h]; rfl
structure ErasOk (rules : List Ru) (l : List Er) : Prop where
  ne : l ≠ []
  le : l.length ≤ 700
  ok : ∀ x ∈ l, EraOk rules x
  un : ∀ k, k + 1 < l.length → -1099511627776 ≤ (eraAt l k).un ∧ (eraAt l k).un ≤ 1099511627776 ∧ stampE (eraAt l k).un = 0
  rise : ∀ k, k + 2 < l.length → (eraAt l k).un < (eraAt l (k + 1)).un
  last : (eraAt l (l.length - 1)).un = 0
theorem bk_eras {b : Bk} (h : bkChk b = 0) {z : Zo} (hz : z ∈ b.zones) : ErasOk b.rules z.eras := by
  obtain ⟨i, hi, rfl⟩ := List.mem_iff_getElem.1 hz
  have hzo := bk_zone h i hi
  have he : ∀ k, k < b.zones[i].eras.length → eraChk b.rules b.zones[i].eras k = 0 := fun k hk => (firstE_zero _ _).1 hzo.er k (List.mem_range.2 hk)
  have hp : 0 < b.zones[i].eras.length := List.length_pos_iff.2 hzo.ne
  refine ⟨hzo.ne, hzo.le, fun x hx => ?_, fun k hk => ?_, fun k hk => ?_, ?_⟩
  · obtain ⟨k, hk, rfl⟩ := List.mem_iff_getElem.1 hx
    rw [← eraAt_in _ _ hk]
    exact (eraChk_ok (he k hk)).1
  · obtain ⟨a, b, c, -⟩ := (eraChk_ok (he k (by omega))).2.1 (by omega)
    exact ⟨a, b, c⟩
  · have := ((eraChk_ok (he (k + 1) (by omega))).2.1 (by omega)).2.2.2 (by omega)
    simpa using this
  · exact (eraChk_ok (he _ (by omega))).2.2 (by omega)
theorem eras_mono {rules : List Ru} {l : List Er} (h : ErasOk rules l) : ∀ (j i : Nat), i < j → j + 1 < l.length → (eraAt l i).un < (eraAt l j).un
  | 0, i, hi, _ => absurd hi (Nat.not_lt_zero _)
  | j + 1, i, hi, hj => by
    have h1 := h.rise j hj
    by_cases e : i = j
    · subst e; exact h1
    · have := eras_mono h j i (by omega) (by omega)
      omega
theorem which_mono {rules : List Ru} {l : List Er} (h : ErasOk rules l) (t : Int) : ∀ a b, a ≤ b → b < l.length - 1 → decide (t < (eraAt l a).un) = true → decide (t < (eraAt l b).un) = true := fun a b hab hb hp => by
  by_cases e : a = b
  · subst e; exact hp
  · have := eras_mono h b a (by omega) (by omega)
    simp only [decide_eq_true_eq] at *
    omega
theorem which_spec {rules : List Ru} {l : List Er} (h : ErasOk rules l) (t : Int) : whichF l t ≤ l.length - 1 ∧ (∀ i, i < whichF l t → (eraAt l i).un ≤ t) ∧ ∀ i, whichF l t ≤ i → i < l.length - 1 → t < (eraAt l i).un := by
  obtain ⟨h1, h2, h3⟩ := cntF_spec _ _ (which_mono h t)
  exact ⟨h1, fun i hi => by have := h2 i hi; simpa using this, fun i hi hl => by have := h3 i hi hl; simpa using this⟩
theorem which_eq {l : List Er} {t : Int} {k : Nat} (hk : k ≤ l.length - 1) (h1 : ∀ i, i < k → (eraAt l i).un ≤ t) (h2 : ∀ i, k ≤ i → i < l.length - 1 → t < (eraAt l i).un) : whichF l t = k :=
  cntF_boundary _ _ _ hk (fun i hi => by have := h1 i hi; simpa using this) (fun i hi hl => by have := h2 i hi hl; simpa using this)

/-! abbreviations -/
theorem abb_rule {rules : List Ru} {x : Er} (h : EraOk rules x) (hr : x.ru.data.toList ≠ []) : (∀ r ∈ rules, r.nm = x.ru → abE x.fm r.sv r.lt = 0) ∧ abE x.fm 0 dashB = 0 := by
  have ha := h.ab
  unfold abbrsChk at ha
  rw [if_neg hr] at ha
  split at ha
  · rename_i h1
    refine ⟨fun r hm e => ?_, ha⟩
    have := (firstE_zero _ _).1 h1 r hm
    rwa [if_pos e] at this
  · rename_i h1
    exact absurd ha h1
theorem abE_save {f l : ByteArray} {s : Int} (h : abE f s l = 0) : 0 ≤ s ∧ s ≤ 10800 := by
  unfold abE abbrF at h
  split at h
  · cases h
  · split at h
    · cases h
    · rename_i h1; omega
/-- what is saved, and by which letter, at a time of an era -/
theorem sv_ok {rules : List Ru} {x : Er} (h : EraOk rules x) (t : Int) : abE x.fm (svT (tdR rules x) t).1 (svT (tdR rules x) t).2 = 0 ∧ 0 ≤ (svT (tdR rules x) t).1 ∧ (svT (tdR rules x) t).1 ≤ 10800 ∧ (if x.ru.data.toList = [] then (svT (tdR rules x) t).1 = x.sv else (svT (tdR rules x) t).1 = 0 ∨ ∃ r ∈ rules, r.nm = x.ru ∧ (svT (tdR rules x) t).1 = r.sv) := by
  suffices hs : abE x.fm (svT (tdR rules x) t).1 (svT (tdR rules x) t).2 = 0 ∧ (if x.ru.data.toList = [] then (svT (tdR rules x) t).1 = x.sv else (svT (tdR rules x) t).1 = 0 ∨ ∃ r ∈ rules, r.nm = x.ru ∧ (svT (tdR rules x) t).1 = r.sv) from
    ⟨hs.1, (abE_save hs.1).1, (abE_save hs.1).2, hs.2⟩
  by_cases hr : x.ru.data.toList = []
  · have ha := h.ab
    unfold abbrsChk at ha
    rw [if_pos hr] at ha
    have e : tdR rules x = ⟨x, [], dashB⟩ := by unfold tdR; rw [if_pos hr]
    rw [e, if_pos hr, svT_0 rfl]
    exact ⟨ha, rfl⟩
  · obtain ⟨h1, h2⟩ := abb_rule h hr
    have e : tdR rules x = ⟨x, (mkR rules x.ru x.off).2, firstLt (mkR rules x.ru x.off).2⟩ := by unfold tdR; rw [if_neg hr]
    rw [if_neg hr]
    by_cases hc : cntT (tdR rules x).ts t = 0
    · rw [svT_0 hc, e]
      dsimp only
      rw [h.sr hr]
      rcases firstLt_of (mkR rules x.ru x.off).2 with e1 | ⟨u, hu, hs, e1⟩
      · rw [e1]; exact ⟨h2, .inl rfl⟩
      · obtain ⟨r, hm, hn, e2, e3⟩ := mkR_mem hu
        have h5 := h1 r hm hn
        rw [← e2, ← e3, hs] at h5
        rw [e1]
        exact ⟨h5, .inl rfl⟩
    · obtain ⟨hlt, es⟩ := svT_s hc
      rw [es]
      have hu : (tdR rules x).ts[cntT (tdR rules x).ts t - 1] ∈ (mkR rules x.ru x.off).2 := by
        have := List.getElem_mem hlt
        have e4 : (tdR rules x).ts = (mkR rules x.ru x.off).2 := by rw [e]
        rw [← e4]; exact this
      obtain ⟨r, hm, hn, e2, e3⟩ := mkR_mem hu
      dsimp only
      rw [e2, e3]
      exact ⟨h1 r hm hn, .inr ⟨r, hm, hn, rfl⟩⟩
def tdA (rules : List Ru) (l : List Er) (k : Nat) : Td := tdR rules (eraAt l k)
/-- which type it is, by eras that may be -/
def stF (rules : List Ru) (l : List Er) (t : Int) : Ty := tdTy (tdA rules l (whichF l t)) t
theorem which_of {rules : List Ru} {l : List Er} (h : ErasOk rules l) {t : Int} {k : Nat} (hk : k < l.length) (h1 : ∀ i, i < k → (eraAt l i).un ≤ t) (h2 : k + 1 < l.length → t < (eraAt l k).un) : whichF l t = k := by
  refine which_eq (by omega) h1 fun i hi hl => ?_
  by_cases e : k = i
  · subst e; exact h2 (by omega)
  · have := eras_mono h i k (by omega) (by omega)
    have := h2 (by omega)
    omega
end Go.Proofs.YthggojpdcgcmaaaGreatDoor
namespace Go.Proofs.YthggojpdcgcmaaaGreatDoor
open Go.RowKit Go.Joins
open Classical
set_option linter.unusedVariables false
set_option linter.unusedSimpArgs false

def okL (l : List UInt8) : Bool := l.all (signB [43, 45])
theorem abbrB_iff (l : List UInt8) : abbrB (txt l) = true ↔ okL l = true ∧ l ≠ [] ∧ l.length ≤ 8 := by
  unfold abbrB allB okL
  rw [Bool.and_eq_true, Bool.and_eq_true, decide_eq_true_eq]
  have e : (txt l).data.toList = l := txt_data l
  have e2 : (txt l).size = l.length := by
    show (txt l).data.size = _
    rw [← Array.length_toList, e]
  rw [e, e2]
  have e3 : (⟨#[43, 45]⟩ : ByteArray).data.toList = [43, 45] := rfl
  rw [e3]
  constructor
  · rintro ⟨⟨h1, h2⟩, h3⟩
    exact ⟨h1, by simpa using h2, by omega⟩
  · rintro ⟨h1, h2, h3⟩
    exact ⟨⟨h1, by simpa using h2⟩, by omega⟩
theorem okL_app (a c : List UInt8) : okL (a ++ c) = true ↔ okL a = true ∧ okL c = true := by unfold okL; rw [List.all_append, Bool.and_eq_true]
/-- what is right of an abbreviation that was made -/
theorem abbrF_ok {f l : List UInt8} {s : Int} (h : (abbrF f s l).2 = 0) : (abbrF f s l).1 = abbrN f s l ∧ (splitF f).2.2.2 = true ∧ letterOk l = true ∧ 0 ≤ s ∧ s ≤ 10800 ∧ (abbrN f s l).length ≤ 8 ∧ abbrN f s l ≠ [] := by
  unfold abbrF at h ⊢
  by_cases h1 : (splitF f).2.2.2 = false ∨ letterOk l = false
  · rw [if_pos h1] at h; cases h
  · rw [if_neg h1] at h ⊢
    by_cases h2 : ¬ (0 ≤ s ∧ s ≤ 10800)
    · rw [if_pos h2] at h; cases h
    · rw [if_neg h2] at h ⊢
      by_cases h3 : 8 < (abbrN f s l).length
      · rw [if_pos h3] at h; cases h
      · rw [if_neg h3] at h ⊢
        by_cases h4 : abbrN f s l = []
        · rw [if_pos h4] at h; cases h
        · rw [if_neg h4]
          rw [not_or] at h1
          exact ⟨rfl, by simpa using h1.1, by simpa using h1.2, by omega, by omega, by omega, h4⟩
theorem abbrN_okL {f l : List UInt8} {s : Int} (h1 : (splitF f).2.2.2 = true) (h2 : letterOk l = true) : okL (abbrN f s l) = true := by
  have hl : okL (if l = [45] then [] else l) = true := by
    by_cases e : l = [45]
    · rw [if_pos e]; rfl
    · rw [if_neg e]
      unfold letterOk at h2
      rw [Bool.or_eq_true] at h2
      rcases h2 with h2 | h2
      · exact absurd (of_decide_eq_true h2) e
      · exact ((abbrB_iff l).1 h2).1
  unfold splitF at h1
  unfold abbrN splitF
  by_cases g1 : 12 < f.length
  · rw [if_pos g1] at h1; cases h1
  · rw [if_neg g1] at h1
    rw [if_neg g1]
    by_cases g2 : (Lib.cut f [47]).2.2 = true
    · rw [if_pos g2] at h1
      rw [if_pos g2]
      dsimp only at h1 ⊢
      rw [Bool.and_eq_true] at h1
      rw [if_pos rfl]
      split
      · exact ((abbrB_iff _).1 h1.1).1
      · exact ((abbrB_iff _).1 h1.2).1
    · rw [if_neg g2] at h1
      rw [if_neg g2]
      by_cases g3 : (Lib.cut f [37]).2.2 = true
      · rw [if_pos g3] at h1
        rw [if_pos g3]
        dsimp only at h1 ⊢
        rw [if_neg (by decide), if_pos rfl]
        have hab : okL ((Lib.cut f [37]).1 ++ (Lib.cut f [37]).2.1) = true := by
          rw [Bool.or_eq_true] at h1
          rcases h1 with h1 | h1
          · rw [of_decide_eq_true h1]; rfl
          · rw [Bool.and_eq_true] at h1
            exact ((abbrB_iff _).1 h1.2).1
        rw [okL_app] at hab
        rw [okL_app, okL_app]
        exact ⟨hab.1, hl, hab.2⟩
      · rw [if_neg g3] at h1
        rw [if_neg g3]
        dsimp only at h1 ⊢
        rw [if_neg (by decide), if_neg (by decide)]
        exact ((abbrB_iff _).1 h1).1
/-- a resulting abbreviation is one -/
theorem abbrF_abbr {f l : List UInt8} {s : Int} (h : (abbrF f s l).2 = 0) : abbrB (txt (abbrF f s l).1) = true := by
  obtain ⟨e, h1, h2, -, -, h3, h4⟩ := abbrF_ok h
  rw [e, abbrB_iff]
  exact ⟨abbrN_okL h1 h2, h4, h3⟩
theorem cut_noA {l : List UInt8} {c : UInt8} (h : c ∉ l) : (Lib.cut l [c]).2.2 = false := by
  have hi : Lib.index l [c] = -1 := Lib.index_none fun j hj => by
    cases ho : Lib.occAt l [c] j
    · rfl
    · exact absurd (List.mem_of_getElem? (Lib.occAt_head rfl ho)) h
  unfold Lib.cut
  rw [hi, if_neg (by omega)]
theorem okL_no {l : List UInt8} (h : okL l = true) : (47 : UInt8) ∉ l ∧ (37 : UInt8) ∉ l := by
  unfold okL at h
  rw [List.all_eq_true] at h
  refine ⟨fun g => ?_, fun g => ?_⟩
  · have := h _ g; revert this; decide
  · have := h _ g; revert this; decide
/-- an abbreviation as a format stands for itself -/
theorem abbrF_self {f : List UInt8} {s : Int} (h : abbrB (txt f) = true) (h0 : 0 ≤ s) (h1 : s ≤ 10800) : abbrF f s [45] = (f, 0) := by
  obtain ⟨h2, h3, h4⟩ := (abbrB_iff f).1 h
  obtain ⟨n1, n2⟩ := okL_no h2
  have e : splitF f = (f, [], [], true) := by
    unfold splitF
    rw [if_neg (by omega), cut_noA n1, cut_noA n2, if_neg (by decide), if_neg (by decide), h]
  have e2 : abbrN f s [45] = f := by unfold abbrN; rw [e]; rfl
  unfold abbrF
  rw [e, e2, if_neg (by simp [letterOk]), if_neg (by omega), if_neg (by omega), if_neg h3]
end Go.Proofs.YthggojpdcgcmaaaGreatDoor
namespace Go.Proofs.YthggojpdcgcmaaaGreatDoor
open Go.RowKit Go.Joins Go.Maps
open Classical
set_option linter.unusedVariables false
set_option linter.unusedSimpArgs false

theorem rsv_zero {b : Bk} {nm : ByteArray} {z : Zo} {c : Int} (h : rsv b nm = (some z, c)) : c = 0 ∧ z ∈ b.zones ∧ bkChk b = 0 := by
  by_cases hb : bkChk b = 0
  · rw [rsv_go hb] at h
    obtain ⟨h1, h2⟩ := resF_in h
    exact ⟨h2, h1, hb⟩
  · rw [rsv_bad hb] at h; cases h
theorem resF_not0 {zs : List Zo} {ls : List Lk} : ∀ {n : Nat} {k : ByteArray} {c : Int}, resF zs ls n k = (none, c) → c ≠ 0 := by
  intro n
  induction n with
  | zero => intro k c h; cases h; decide
  | succ n ih =>
    intro k c h
    rw [resF] at h
    split at h
    · cases h
    · split at h
      · cases h; decide
      · exact ih h
theorem rsv_not0 {b : Bk} {nm : ByteArray} {c : Int} (h : rsv b nm = (none, c)) : c ≠ 0 := by
  by_cases hb : bkChk b = 0
  · rw [rsv_go hb] at h; exact resF_not0 h
  · rw [rsv_bad hb] at h
    injection h with _ h
    rwa [← h]
theorem stR_none {b : Bk} {nm : ByteArray} {c : Int} (h : rsv b nm = (none, c)) (t : Int) : stR b nm t = (c, ty0) := by unfold stR; rw [h]
theorem stR_some {b : Bk} {nm : ByteArray} {z : Zo} {c : Int} (h : rsv b nm = (some z, c)) (t : Int) : stR b nm t = (if stampE t ≠ 0 then (stampE t, ty0) else
    if tdE b.rules (eraAt z.eras (whichF z.eras t)) ≠ 0 then (tdE b.rules (eraAt z.eras (whichF z.eras t)), ty0) else (0, stF b.rules z.eras t)) := by unfold stR; rw [h]; rfl
theorem stR_bad {b : Bk} {nm : ByteArray} {t : Int} (h : (stR b nm t).1 ≠ 0) : (stR b nm t).2 = ty0 := by
  cases e : rsv b nm with
  | mk zo c =>
    cases zo with
    | none => rw [stR_none e]
    | some z =>
      rw [stR_some e] at h ⊢
      split
      · rfl
      rename_i h1
      split
      · rfl
      rename_i h2
      rw [if_neg h1, if_neg h2] at h
      exact absurd rfl h
theorem stR_ok {b : Bk} {nm : ByteArray} {t : Int} (h : (stR b nm t).1 = 0) : ∃ z ∈ b.zones, rsv b nm = (some z, 0) ∧ bkChk b = 0 ∧ stampE t = 0 ∧ tdE b.rules (eraAt z.eras (whichF z.eras t)) = 0 ∧ (stR b nm t).2 = stF b.rules z.eras t := by
  cases e : rsv b nm with
  | mk zo c =>
    cases zo with
    | none => rw [stR_none e] at h; exact absurd h (rsv_not0 e)
    | some z =>
      obtain ⟨rfl, h2, h3⟩ := rsv_zero e
      rw [stR_some e] at h ⊢
      split at h
      · rename_i h1; exact absurd h h1
      rename_i h1
      split at h
      · rename_i h4; exact absurd h h4
      rename_i h4
      rw [if_neg h1, if_neg h4]
      exact ⟨z, h2, rfl, h3, Classical.not_not.1 h1, Classical.not_not.1 h4, rfl⟩
theorem era_in {rules : List Ru} {l : List Er} (h : ErasOk rules l) (t : Int) : ∃ hk : whichF l t < l.length, eraAt l (whichF l t) = l[whichF l t] := by
  have hp : 0 < l.length := List.length_pos_iff.2 h.ne
  have hk : whichF l t < l.length := by have := (which_spec h t).1; omega
  exact ⟨hk, eraAt_in l _ hk⟩
/-- StateBounds -/
def bdE (rules : List Ru) (x : Ty) (y : Er) : Bool :=
  (decide (0 ≤ x.off - y.off ∧ x.off - y.off ≤ 10800) && decide (decide (0 < x.off - y.off) = x.save)) &&
    ((decide (y.ru.data.toList = []) && decide (x.off - y.off = y.sv)) || ((decide (x.off - y.off = 0) && !decide (y.ru.data.toList = [])) || rules.any fun r => decide (r.nm = y.ru) && decide (r.sv = x.off - y.off)))
theorem bounds_law {b : Bk} {nm : ByteArray} {t : Int} (h : (stR b nm t).1 = 0) : ∃ z ∈ b.zones, rsv b nm = (some z, 0) ∧ 1 ≤ (stR b nm t).2.name.size ∧ (stR b nm t).2.name.size ≤ 8 ∧ (z.eras.any (bdE b.rules (stR b nm t).2)) = true := by
  obtain ⟨z, hz, hr, hb, h1, h2, h3⟩ := stR_ok h
  have ho := bk_eras hb hz
  obtain ⟨hk, e⟩ := era_in ho t
  have hx := ho.ok _ (List.getElem_mem hk)
  obtain ⟨s1, s2, s3, s4⟩ := sv_ok hx t
  have ee : (tdR b.rules z.eras[whichF z.eras t]).er = z.eras[whichF z.eras t] := tdR_er _ _
  rw [h3]
  unfold stF tdA
  rw [e]
  have hn := abbrF_ok s1
  have e5 : (tdTy (tdR b.rules z.eras[whichF z.eras t]) t).name.size = (abbrF z.eras[whichF z.eras t].fm.data.toList (svT (tdR b.rules z.eras[whichF z.eras t]) t).1 (svT (tdR b.rules z.eras[whichF z.eras t]) t).2.data.toList).1.length := by
    unfold tdTy nmT
    dsimp only
    rw [ee]
    show (txt _).data.size = _
    rw [← Array.length_toList, txt_data]
  refine ⟨z, hz, hr, ?_, ?_, List.any_eq_true.2 ⟨_, List.getElem_mem hk, ?_⟩⟩
  · rw [e5, hn.1]
    exact List.length_pos_iff.2 hn.2.2.2.2.2.2
  · rw [e5, hn.1]; exact hn.2.2.2.2.2.1
  · obtain ⟨x, ex⟩ : ∃ x, z.eras[whichF z.eras t] = x := ⟨_, rfl⟩
    rw [ex] at s1 s2 s3 s4 ee ⊢
    obtain ⟨s, es⟩ : ∃ s, (svT (tdR b.rules x) t).1 = s := ⟨_, rfl⟩
    have eo : (tdTy (tdR b.rules x) t).off - x.off = s := by unfold tdTy; dsimp only; rw [ee, es]; omega
    have eb : (tdTy (tdR b.rules x) t).save = decide (0 < s) := by unfold tdTy; dsimp only; rw [es]
    unfold bdE
    rw [eo, eb]
    rw [es] at s2 s3 s4
    rw [Bool.and_eq_true, Bool.and_eq_true]
    refine ⟨⟨decide_eq_true ⟨s2, s3⟩, decide_eq_true rfl⟩, ?_⟩
    by_cases g : x.ru.data.toList = []
    · rw [if_pos g] at s4
      rw [decide_eq_true g, decide_eq_true s4]
      rfl
    · rw [if_neg g] at s4
      rw [decide_eq_false g]
      rcases s4 with s4 | ⟨r, hm, hn2, e6⟩
      · rw [decide_eq_true s4]; rfl
      · have : (b.rules.any fun r => decide (r.nm = x.ru) && decide (r.sv = s)) = true := List.any_eq_true.2 ⟨r, hm, by rw [decide_eq_true hn2, decide_eq_true e6.symm]; rfl⟩
        rw [this]
        simp
/-- StateLinks, TableLinks -/
theorem st_links {b : Bk} {x : Lk} (hx : x ∈ b.links) (t : Int) : stR b x.nm t = stR b x.to t := by
  by_cases hb : bkChk b = 0
  · unfold stR; rw [(rsv_link hb hx).1]
  · rw [stR_none (rsv_bad hb), stR_none (rsv_bad hb)]
/-! a book of one zone -/
def oneB (rules : List Ru) (nm : ByteArray) (ev : Value) (l : List Er) : Bk := ⟨rules, [⟨nm, ev, l⟩], []⟩
theorem oneB_chk {rules : List Ru} {nm : ByteArray} {ev : Value} {l : List Er} (hr : rules.length ≤ 40) (ho : ∀ r ∈ rules, ruChk r = 0) (hn : nameB nm = true) (hl : l ≠ []) (hl2 : l.length ≤ 700) (he : ∀ k, k < l.length → eraChk rules l k = 0) : bkChk (oneB rules nm ev l) = 0 := by
  have h0 : ¬ (40 < (oneB rules nm ev l).rules.length ∨ 20 < (oneB rules nm ev l).zones.length ∨ 20 < (oneB rules nm ev l).links.length) := by
    show ¬ (40 < rules.length ∨ 20 < 1 ∨ 20 < 0)
    omega
  have hz : firstE (chkZ (oneB rules nm ev l)) (List.range (oneB rules nm ev l).zones.length) = 0 := by
    refine (firstE_zero _ _).2 fun i hi => ?_
    have hi : i < 1 := List.mem_range.1 hi
    obtain rfl : i = 0 := by omega
    show zoneChk rules [] ⟨nm, ev, l⟩ = 0
    unfold zoneChk
    rw [if_neg (by rw [hn]; simp), if_neg (by simp), if_neg hl, if_neg (show ¬ 700 < l.length by omega)]
    exact (firstE_zero _ _).2 fun k hk => he k (List.mem_range.1 hk)
  rw [bkChk_l _ h0 ((firstE_zero _ _).2 ho) hz]
  rfl
theorem oneB_rsv {rules : List Ru} {nm : ByteArray} {ev : Value} {l : List Er} (h : bkChk (oneB rules nm ev l) = 0) : rsv (oneB rules nm ev l) nm = (some ⟨nm, ev, l⟩, 0) :=
  rsv_zone h (z := ⟨nm, ev, l⟩) (List.mem_singleton.2 rfl)
theorem which_one {x : Er} (t : Int) : whichF [x] t = 0 := rfl
theorem eraChk_un {rules : List Ru} {x : Er} (h : EraOk rules x) (hu : x.un = 0) : eraChk rules [x] 0 = 0 := by
  unfold eraChk
  dsimp only
  have e : eraAt [x] 0 = x := rfl
  rw [e, if_neg (by have := h.o1; have := h.o2; have := h.s1; have := h.s2; omega), if_neg (fun g => g.1 (h.sr g.2)), if_neg ?_, if_neg (fun g => g h.ab), if_pos (show 0 + 1 = [x].length from rfl), if_neg (fun g => g hu)]
  rintro ⟨g1, g2⟩
  obtain ⟨r, hr, e⟩ := h.has g1
  rw [List.any_eq_false] at g2
  exact g2 r hr (decide_eq_true e)
/-- an era by itself -/
def alone (x : Er) : Er := ⟨x.off, x.ru, x.sv, x.fm, 0⟩
theorem alone_ok {rules : List Ru} {x : Er} (h : EraOk rules x) : EraOk rules (alone x) := ⟨h.o1, h.o2, h.s1, h.s2, h.sr, h.has, h.ab⟩
theorem alone_ty (rules : List Ru) (x : Er) (t : Int) : tdTy (tdR rules (alone x)) t = tdTy (tdR rules x) t := by
  unfold tdTy nmT svT tdR alone
  dsimp only
  by_cases h : x.ru.data.toList = []
  · rw [if_pos h, if_pos h]
  · rw [if_neg h, if_neg h]
theorem bk_ruChk {b : Bk} (h : bkChk b = 0) : ∀ r ∈ b.rules, ruChk r = 0 := by
  unfold bkChk at h
  split at h
  · cases h
  · split at h
    · exact absurd h (by assumption)
    · rename_i h2
      exact fun r hr => (firstE_zero ruChk b.rules).1 (Classical.not_not.1 h2) r hr
def zB : ByteArray := ⟨#[90]⟩
/-- a zone with one of another zone's eras says what that says where it is -/
theorem st_alone {b : Bk} {nm : ByteArray} {z : Zo} {k : Nat} {t : Int} (ev : Value) (hr : rsv b nm = (some z, 0)) (hk : k < z.eras.length) (hw : whichF z.eras t = k) : stR b nm t = stR (oneB b.rules zB ev [alone (eraAt z.eras k)]) zB t := by
  obtain ⟨-, hz, hb⟩ := rsv_zero hr
  have ho := bk_eras hb hz
  have hx := ho.ok _ (List.getElem_mem hk)
  rw [← eraAt_in _ _ hk] at hx
  have hc : bkChk (oneB b.rules zB ev [alone (eraAt z.eras k)]) = 0 := by
    refine oneB_chk (bk_rules hb).1 (bk_ruChk hb) (by decide) (by simp) (by simp) fun i hi => ?_
    have hi : i < 1 := hi
    obtain rfl : i = 0 := by omega
    exact eraChk_un (alone_ok hx) rfl
  rw [stR_some hr, stR_some (oneB_rsv hc), hw]
  dsimp only
  rw [which_one]
  have e1 : eraAt [alone (eraAt z.eras k)] 0 = alone (eraAt z.eras k) := rfl
  have e2 : tdE (oneB b.rules zB ev [alone (eraAt z.eras k)]).rules (alone (eraAt z.eras k)) = tdE b.rules (eraAt z.eras k) := rfl
  have e3 : stF (oneB b.rules zB ev [alone (eraAt z.eras k)]).rules [alone (eraAt z.eras k)] t = stF b.rules z.eras t := by
    unfold stF tdA
    rw [which_one, e1, hw]
    exact alone_ty _ _ _
  rw [e1, e2, e3]
theorem which_ahead {rules : List Ru} {l : List Er} (h : ErasOk rules l) {k : Nat} (hk : k + 1 < l.length) : whichF l ((eraAt l k).un - 1) = k ∧ whichF l (eraAt l k).un = k + 1 := by
  constructor
  · refine which_of h (by omega) (fun i hi => ?_) fun _ => by omega
    have := eras_mono h k i hi hk
    omega
  · refine which_of h hk (fun i hi => ?_) fun g => eras_mono h (k + 1) k (by omega) g
    by_cases e : i = k
    · subst e; exact Int.le_refl _
    · exact Int.le_of_lt (eras_mono h k i (by omega) hk)

/-! StateRules -/
def xyB : ByteArray := ⟨#[88, 47, 89]⟩
def svF (l : List Tn) (t : Int) : Int := l.foldl (fun a u => if u.a ≤ t then u.s else a) 0
theorem svF_take {l : List Tn} {t : Int} : ∀ (n : Nat), n ≤ l.length → (∀ i, i < n → tnA l i ≤ t) → (l.take n).foldl (fun a u => if u.a ≤ t then u.s else a) 0 = (if n = 0 then 0 else (l[n - 1]?.map (·.s)).getD 0)
  | 0, _, _ => rfl
  | n + 1, hn, h => by
    have hlt : n < l.length := by omega
    have := h n (by omega)
    rw [tnA_at l n hlt] at this
    rw [List.take_succ_eq_append_getElem hlt, List.foldl_append]
    simp only [List.foldl_cons, List.foldl_nil, if_pos this]
    simp [hlt]
theorem foldl_late {l : List Tn} {t : Int} (h : ∀ u ∈ l, t < u.a) : ∀ (a : Int), l.foldl (fun a u => if u.a ≤ t then u.s else a) a = a := by
  induction l with
  | nil => intro a; rfl
  | cons u r ih =>
    intro a
    rw [List.foldl_cons, if_neg (by have := h u (List.mem_cons_self ..); omega)]
    exact ih (fun v hv => h v (List.mem_cons_of_mem _ hv)) a
theorem svF_sv {x : Td} (h : Rises x.ts) (h0 : x.er.sv = 0) (t : Int) : svF x.ts t = (svT x t).1 := by
  obtain ⟨c1, c2, c3⟩ := cntT_spec h t
  have e : svF x.ts t = (x.ts.take (cntT x.ts t) ++ x.ts.drop (cntT x.ts t)).foldl (fun a u => if u.a ≤ t then u.s else a) 0 := by rw [List.take_append_drop]; rfl
  rw [e, List.foldl_append, svF_take _ c1 c2, foldl_late]
  · by_cases hc : cntT x.ts t = 0
    · rw [if_pos hc, svT_0 hc, h0]
    · obtain ⟨hlt, es⟩ := svT_s hc
      rw [if_neg hc, es, List.getElem?_eq_getElem hlt]
      rfl
  · intro u hu
    obtain ⟨i, hi, rfl⟩ := List.getElem_of_mem hu
    rw [List.getElem_drop]
    have hlt : cntT x.ts t + i < x.ts.length := by rw [List.length_drop] at hi; omega
    have := c3 (cntT x.ts t + i) (by omega) hlt
    rwa [tnA_at _ _ hlt] at this
theorem split_xy : splitF [88, 47, 89] = ([88], [89], [47], true) := by kernel_rfl
theorem abbr_xy {s : Int} {l : ByteArray} (h0 : 0 ≤ s) (h1 : s ≤ 10800) (hl : letterOk l.data.toList = true) : abbrF xyB.data.toList s l.data.toList = (if s = 0 then [88] else [89], 0) := by
  have e0 : xyB.data.toList = [88, 47, 89] := rfl
  have e2 : abbrN [88, 47, 89] s l.data.toList = if s = 0 then [88] else [89] := by unfold abbrN; rw [split_xy]; rfl
  rw [e0]
  unfold abbrF
  rw [e2, split_xy, hl, if_neg (by simp), if_neg (by omega)]
  by_cases hs : s = 0
  · rw [if_pos hs, if_neg (by decide), if_neg (by decide)]
  · rw [if_neg hs, if_neg (by decide), if_neg (by decide)]
theorem okRu_letter {r : Ru} (h : OkRu r) : letterOk r.lt.data.toList = true := by
  unfold letterOk
  rcases h.lt with e | e
  · rw [Lib.toList_data] at e
    rw [decide_eq_true e]; rfl
  · rw [txt_data', e]; simp
theorem mkR_has {rules : List Ru} {nm : ByteArray} {off : Int} (h : (mkR rules nm off).1 = 0) : ∃ r ∈ rules, r.nm = nm := by
  by_cases g : (rules.any fun r => decide (r.nm = nm)) = false
  · rw [mkR_6 g] at h; cases h
  · have : (rules.any fun r => decide (r.nm = nm)) = true := by simpa using g
    obtain ⟨r, hr, e⟩ := List.any_eq_true.1 this
    exact ⟨r, hr, of_decide_eq_true e⟩
/-- StateRules -/
theorem rules_law {b : Bk} {nm : ByteArray} {off t : Int} (ev : Value) (h : (ofR b nm off).1 = 0) (ht : stampE t = 0) :
    stR (oneB b.rules zB ev [⟨off, nm, 0, xyB, 0⟩]) zB t = (0, ⟨off + svF (ofR b nm off).2 t, decide (0 < svF (ofR b nm off).2 t), if 0 < svF (ofR b nm off).2 t then ⟨#[89]⟩ else ⟨#[88]⟩⟩) := by
  obtain ⟨hb, e⟩ := ofR_ok h
  have hoff : ¬ (off < -64800 ∨ 64800 < off) := fun g => by rw [ofR_1 hb g] at h; cases h
  rw [e] at h ⊢
  obtain ⟨r0, hr0, en⟩ := mkR_has h
  have hro := (bk_rules hb).2
  have hnm : nm.data.toList ≠ [] := fun g => by
    have h1 := (hro r0 hr0).nm
    rw [en] at h1
    unfold nameB allB at h1
    rw [g] at h1
    simp at h1
  obtain ⟨x, ex⟩ : ∃ x : Er, (⟨off, nm, 0, xyB, 0⟩ : Er) = x := ⟨_, rfl⟩
  have x1 : x.off = off := by rw [← ex]
  have x2 : x.ru = nm := by rw [← ex]
  have x3 : x.sv = 0 := by rw [← ex]
  have x4 : x.fm = xyB := by rw [← ex]
  have x5 : x.un = 0 := by rw [← ex]
  rw [ex]
  have hx : EraOk b.rules x := by
    refine ⟨by omega, by omega, by omega, by omega, fun _ => x3, fun _ => ⟨r0, hr0, by rw [x2]; exact en⟩, ?_⟩
    unfold abbrsChk
    rw [if_neg (by rw [x2]; exact hnm)]
    have h1 : firstE (fun r : Ru => if r.nm = x.ru then abE x.fm r.sv r.lt else 0) b.rules = 0 := by
      refine (firstE_zero _ _).2 fun r hr => ?_
      split
      · have hr2 := hro r hr
        unfold abE
        rw [x4, abbr_xy hr2.s1 hr2.s2 (okRu_letter hr2)]
      · rfl
    rw [if_pos h1]
    unfold abE
    rw [x4, abbr_xy (Int.le_refl _) (by decide) (by decide)]
  have hc : bkChk (oneB b.rules zB ev [x]) = 0 := by
    refine oneB_chk (bk_rules hb).1 (bk_ruChk hb) (by decide) (by simp) (by simp) fun i hi => ?_
    have hi : i < 1 := hi
    obtain rfl : i = 0 := by omega
    exact eraChk_un hx x5
  rw [stR_some (oneB_rsv hc), if_neg (fun g => g ht), which_one]
  have e1 : eraAt [x] 0 = x := rfl
  have e0 : (oneB b.rules zB ev [x]).rules = b.rules := rfl
  have e4 : tdE b.rules x = 0 := by unfold tdE; rw [if_neg (by rw [x2]; exact hnm), x1, x2]; exact h
  have e5 : tdR b.rules x = ⟨x, (mkR b.rules nm off).2, firstLt (mkR b.rules nm off).2⟩ := by unfold tdR; rw [if_neg (by rw [x2]; exact hnm), x1, x2]
  rw [e0, e1, e4, if_neg (by simp)]
  have e6 : stF b.rules [x] t = tdTy (tdR b.rules x) t := rfl
  have hrs := tdR_rises e4
  have e7 : svF (mkR b.rules nm off).2 t = (svT (tdR b.rules x) t).1 := by
    rw [← svF_sv hrs (by rw [tdR_er]; exact x3) t, e5]
  obtain ⟨s1, s2, s3, -⟩ := sv_ok hx t
  have hlet := (abbrF_ok s1).2.2.1
  rw [e6, e7]
  unfold tdTy nmT
  rw [tdR_er, x1, x4, abbr_xy s2 s3 hlet]
  obtain ⟨s, es⟩ : ∃ s, (svT (tdR b.rules x) t).1 = s := ⟨_, rfl⟩
  rw [es] at s2 ⊢
  by_cases hs : s = 0
  · rw [if_pos hs, if_neg (by omega)]; rfl
  · rw [if_neg hs, if_pos (by omega)]; rfl
end Go.Proofs.YthggojpdcgcmaaaGreatDoor
namespace Go.Proofs.YthggojpdcgcmaaaGreatDoor
open Go.RowKit
set_option linter.unusedVariables false
set_option linter.unusedSimpArgs false

set_option maxHeartbeats 4000000 in
theorem Search_any (g : Nat) (cb : Array Value) (n : Nat) (p : Nat → Bool) (w : World) (eg : ∀ args w, (callFunc g args).run Tryz.prog w = .ok (.enter g args) w) (hsz : n < 4611686018427387904)
    (hf : ∀ (W : World) (i : Nat), Below w.heap.size w W → i < n → Calls Tryz.prog g (#[.int .i64 i] ++ cb) W fun e w' => e = .returned (.bool (p i)) ∧ Below W.heap.size W w')
    (hmono : ∀ a b, a ≤ b → b < n → p a = true → p b = true) :
    Calls Tryz.prog 75 #[.int .i64 n, .func (.func g) #[] cb] w fun e w' => e = .returned (.int .i64 (cntF p n : Nat)) ∧ Below w.heap.size w w' := by
  have HF := Lib.hid hf
  have M := Lib.hid hmono
  clear hf hmono
  obtain ⟨cnt, hcnt⟩ : ∃ cnt, cntF p n = cnt := ⟨_, rfl⟩
  rw [hcnt]
  have CN := Lib.hid hcnt
  clear hcnt
  go_enter Tryz.func75, Tryz.ntmps75
  go_wp2
  go_loopg [5, 6] n (fun kx s5 s6 wr => ∃ (lo hi : Nat), s5 = .int .i64 lo ∧ s6 = .int .i64 hi ∧ lo ≤ hi ∧ hi ≤ n ∧ hi - lo ≤ kx ∧ Below w.heap.size w wr ∧
    Hid ((∀ t, t < lo → p t = false) ∧ (∀ t, hi ≤ t → t < n → p t = true)))
  case atStart => exact ⟨0, n, rfl, rfl, Nat.zero_le _, Nat.le_refl _, by omega, Below.refl _ _, (⟨fun t ht => absurd ht (Nat.not_lt_zero _), fun t h1 h2 => by omega⟩ : (∀ t, t < 0 → p t = false) ∧ (∀ t, n ≤ t → t < n → p t = true))⟩
  case round =>
    obtain ⟨lo, hi, rfl, rfl, hlh, hin, hg, hbel, I⟩ := hrel
    by_cases hlt : lo < hi
    · have hc := HF.out wr ((lo + hi) / 2) hbel (by omega)
      rw [show (((lo + hi) / 2 : Nat) : Int) = ((lo : Int) + (hi : Int)) / 2 by omega] at hc
      have HB := Lib.hid hbel
      clear hbel
      cases hp : p ((lo + hi) / 2) <;> rw [hp] at hc
      · have HP := Lib.hid hp
        clear hp
        go_wp2_with (go_at_fn g; refine hc.mono ?_; rintro e w' ⟨rfl, hb2⟩)
        go_roundg (hi - ((lo + hi) / 2 + 1))
        case measure => omega
        case rel =>
          have I2 : Hid ((∀ t, t < (lo + hi) / 2 + 1 → p t = false) ∧ (∀ t, hi ≤ t → t < n → p t = true)) := ⟨fun t ht => (by
            cases h : p t with
            | false => rfl
            | true => have := M.out t ((lo + hi) / 2) (by omega) (by omega) h; rw [HP.out] at this; cases this), I.out.2⟩
          exact ⟨(lo + hi) / 2 + 1, hi, by rw [show ((lo : Int) + (hi : Int)) / 2 + 1 = (((lo + hi) / 2 + 1 : Nat) : Int) by omega], rfl, by omega, hin, Nat.le_refl _, HB.out.trans (hb2.mono HB.out.size), I2⟩
      · have HP := Lib.hid hp
        clear hp
        go_wp2_with (go_at_fn g; refine hc.mono ?_; rintro e w' ⟨rfl, hb2⟩)
        go_roundg ((lo + hi) / 2 - lo)
        case measure => omega
        case rel =>
          have I2 : Hid ((∀ t, t < lo → p t = false) ∧ (∀ t, (lo + hi) / 2 ≤ t → t < n → p t = true)) := ⟨I.out.1, fun t ht htn => M.out ((lo + hi) / 2) t ht htn HP.out⟩
          exact ⟨lo, (lo + hi) / 2, rfl, by rw [show ((lo : Int) + (hi : Int)) / 2 = (((lo + hi) / 2 : Nat) : Int) by omega], by omega, by omega, Nat.le_refl _, HB.out.trans (hb2.mono HB.out.size), I2⟩
    · obtain rfl : hi = lo := by omega
      have ecnt : cnt = hi := by rw [← CN.out]; exact cntF_boundary p n hi hin I.out.1 I.out.2
      subst ecnt
      go_wp2
      go_ret
      exact ⟨rfl, hbel⟩

end Go.Proofs.YthggojpdcgcmaaaGreatDoor
namespace Go.Proofs.YthggojpdcgcmaaaGreatDoor
open Go.RowKit Go.Joins
open Classical
set_option linter.unusedVariables false
set_option linter.unusedSimpArgs false

def idxF {α : Type} (p : α → Bool) (l : List α) : Int := if l.any p = true then (l.findIdx p : Nat) else -1
theorem idxF_no {α : Type} (p : α → Bool) (l : List α) (h : l.any p = false) : idxF p l = -1 := by unfold idxF; rw [if_neg (by rw [h]; simp)]
theorem idxF_hit {α : Type} (p : α → Bool) (l : List α) (k : Nat) (hk : k < l.length) (h : (l.take k).any p = false) (hp : p l[k] = true) : idxF p l = (k : Nat) := by
  unfold idxF
  rw [if_pos (any_hit p l k hk hp)]
  congr 1
  rw [List.findIdx_eq hk]
  refine ⟨hp, fun j hj => ?_⟩
  rw [List.any_eq_false] at h
  have := h l[j] (List.mem_take_iff_getElem.2 ⟨j, by omega, rfl⟩)
  simpa using this

set_option maxRecDepth 100000 in
set_option maxHeartbeats 4000000 in
theorem idxTn_any (l : List Tn) (v : Value) (g : Nat) (cb : Array Value) (p : Tn → Bool) (w : World) (eg : ∀ args w, (callFunc g args).run Tryz.prog w = .ok (.enter g args) w) (hv : RowsAt tnC 3 w.heap.size w v l)
    (hp : ∀ W, Below w.heap.size w W → ∀ x ∈ l, Calls Tryz.prog g (#[.agg (tnC x).toArray] ++ cb) W fun e w' => e = .returned (.bool (p x)) ∧ Below W.heap.size W w') :
    Calls Tryz.prog 77 #[v, .func (.func g) #[] cb] w fun e w' => e = .returned (.int .i64 (idxF p l)) ∧ Below w.heap.size w w' := by
  have HP := Lib.hid hp
  have HHIT := Lib.hid (fun k hk h1 h2 => idxF_hit p l k hk h1 h2)
  have HNO := Lib.hid (idxF_no p l)
  obtain ⟨R, eR⟩ : ∃ R, idxF p l = R := ⟨_, rfl⟩
  rw [eR] at HHIT HNO ⊢
  clear eR
  obtain ⟨pp, cap, rfl, hlen, hrow⟩ := hv
  have HRow := Lib.hid hrow
  clear hp hrow
  go_enter Tryz.func77, Tryz.ntmps77
  go_wp2_with fail
  go_loopw [8] (fun i wr => ∃ k : Nat, k ≤ l.length ∧ i = .int .i64 k ∧ Hid (Below w.heap.size w wr) ∧ Hid ((l.take k).any p = false)) (fun i _ => l.length - (intOf i).toNat)
  case atStart => exact ⟨0, Nat.zero_le _, rfl, Lib.hid (Below.refl _ _), Lib.hid rfl⟩
  case round =>
    obtain ⟨k, hk, rfl, HB, HA⟩ := hrel
    have hzr := HB.out.size
    by_cases hlt : k < l.length
    · obtain ⟨b, o, rfl, hbl, hcs⟩ := HRow.out (List.ne_nil_of_length_pos (by omega))
      have hck := hcs k hlt
      have hc := HP.out wr HB.out l[k] (List.getElem_mem hlt)
      have HST := Lib.hid (fun h => any_step p l k hlt HA.out h)
      have HHT := Lib.hid (fun h => HHIT.out k hlt HA.out h)
      obtain ⟨q, eq⟩ : ∃ q, l[k] = q := ⟨_, rfl⟩
      rw [eq] at hck hc HST HHT
      clear eq hcs
      obtain ⟨pv, epv⟩ : ∃ pv, p q = pv := ⟨_, rfl⟩
      rw [epv] at hc HST HHT
      clear epv
      obtain ⟨a, s, lt⟩ := q
      have up : ∀ j u, w.cell? ⟨b, o + k * 3 + j, none⟩ = some u → wr.cell? ⟨b, o + k * 3 + j, none⟩ = some u := fun j u h => (HB.out.cell (p := ⟨b, o + k * 3 + j, none⟩) hbl).trans h
      have z0 := up 0 _ (hck 0 _ rfl)
      have z1 := up 1 _ (hck 1 _ rfl)
      have z2 := up 2 _ (hck 2 _ rfl)
      rw [Nat.add_zero] at z0
      have HC := Lib.hid hc
      clear up hck hc
      cases pv with
      | true =>
        have HT := Lib.hid (HHT.out (by first | rfl | trivial))
        go_wp2_with (go_at_fn g; refine HC.out.mono ?_; rintro e w' ⟨rfl, hb⟩; have HB2 := Lib.hid (HB.out.trans (hb.mono HB.out.size)); clear hb)
        go_ret
        exact ⟨ret_E HT.out.symm, HB2.out⟩
      | false =>
        go_wp2_with (go_at_fn g; refine HC.out.mono ?_; rintro e w' ⟨rfl, hb⟩; have HB2 := Lib.hid (HB.out.trans (hb.mono HB.out.size)); clear hb)
        go_roundw
        case rel => exact ⟨k + 1, by omega, by go_num, HB2, Lib.hid (HST.out (by first | rfl | trivial))⟩
        case measure => simp [intOf]; omega
    · have hkl : ¬ (k : Int) < (l.length : Int) := by omega
      have HT : Hid (R = -1) := by
        show _ = _
        have := HA.out
        rw [List.take_of_length_le (by omega)] at this
        exact HNO.out this
      go_wp2_with fail
      go_ret
      exact ⟨ret_E HT.out.symm, HB.out⟩

theorem retI {a b : Int} (h : a = b) : Ending.returned (.int .i64 a) = .returned (.int .i64 b) := by rw [h]
set_option maxHeartbeats 1000000 in
theorem Eras1_any (x : Tn) (W : World) : Calls Tryz.prog 78 (#[.agg (tnC x).toArray] ++ #[]) W fun e w' => e = .returned (.bool (decide (x.s = 0))) ∧ Below W.heap.size W w' := by
  obtain ⟨a, s, lt⟩ := x
  show Calls _ _ #[.agg #[.int .i64 a, .int .i64 s, .string lt]] W _
  go_enter Tryz.func78, Tryz.ntmps78
  go_wp2
  go_ret
  exact ⟨rfl, (Below.refl _ _).alloc (Nat.le_refl _) _⟩
/-- the first turn that saves nothing -/
theorem IdxTn_any (l : List Tn) (v : Value) (w : World) (hv : RowsAt tnC 3 w.heap.size w v l) :
    Calls Tryz.prog 77 #[v, .func (.func 78) #[] #[]] w fun e w' => e = .returned (.int .i64 (idxF (fun u : Tn => decide (u.s = 0)) l)) ∧ Below w.heap.size w w' :=
  idxTn_any l v 78 #[] _ w (enters_of Tryz.func78 (by kernel_rfl) rfl) hv fun W _ x _ => Eras1_any x W

set_option maxHeartbeats 1000000 in
theorem Which1_any (bl bt b o n cap : Nat) (x y : Int) (i : Nat) (W : World) (hi : i < n)
    (hl : W.cell? ⟨bl, 0, none⟩ = some (.slice (some ⟨b, o, none⟩) n cap)) (hx : W.cell? ⟨bt, 0, none⟩ = some (.int .i64 x)) (hc : W.cell? ⟨b, o + i * 5 + 4, none⟩ = some (.int .i64 y)) :
    Calls Tryz.prog 76 (#[.int .i64 i] ++ #[.pointer (some ⟨bl, 0, none⟩), .pointer (some ⟨bt, 0, none⟩)]) W fun e w' => e = .returned (.bool (decide (x < y))) ∧ Below W.heap.size W w' := by
  have hiz : (i : Int) < (n : Int) := by omega
  go_enter Tryz.func76, Tryz.ntmps76
  go_wp2
  go_quiet (fail)
  go_wp2
  go_ret
  exact ⟨rfl, below_drewN' (Below.refl _ _) _⟩
set_option maxHeartbeats 2000000 in
theorem Which_any {rules : List Ru} (l : List Er) (v : Value) (t : Int) (B : Nat) (w : World) (hv : RowsAt (fun x : Er => (erCells x).toList) 5 B w v l) (hB : B ≤ w.heap.size) (ho : ErasOk rules l) :
    Calls Tryz.prog 35 #[v, .int .i64 t] w fun e w' => e = .returned (.int .i64 (whichF l t : Nat)) ∧ Below w.heap.size w w' := by
  obtain ⟨p, cap, rfl, ⟨hl, hlc⟩, hat⟩ := hv
  obtain ⟨b, o, rfl, hbl, hcs⟩ := hat ho.ne
  have hp : 0 < l.length := List.length_pos_iff.2 ho.ne
  obtain ⟨W0, hW0⟩ : ∃ W0, (w.alloc (.cells #[.slice (some ⟨b, o, none⟩) l.length cap] 36)).alloc (.cells #[.int .i64 t] 3) = W0 := ⟨_, rfl⟩
  have hB0 : Below w.heap.size w W0 := by rw [← hW0]; exact ((Below.refl _ w).alloc (Nat.le_refl _) _).alloc (by simp) _
  have hS0 : W0.heap.size = w.heap.size + 2 := by rw [← hW0]; simp
  have q0 : W0.cell? ⟨w.heap.size, 0, none⟩ = some (.slice (some ⟨b, o, none⟩) l.length cap) := by rw [← hW0]; simp [go_sem]
  have qx : W0.cell? ⟨w.heap.size + 1, 0, none⟩ = some (.int .i64 t) := by rw [← hW0]; simp [go_sem]
  have eg : ∀ args w, (callFunc 76 args).run Tryz.prog w = .ok (.enter 76 args) w := enters_of Tryz.func76 (by kernel_rfl) rfl
  have hS := Search_any 76 #[.pointer (some ⟨w.heap.size, 0, none⟩), .pointer (some ⟨w.heap.size + 1, 0, none⟩)] (l.length - 1) (fun i => decide (t < (eraAt l i).un)) W0 eg (by omega)
    (fun W i hbW hi => Which1_any w.heap.size (w.heap.size + 1) b o l.length cap t (eraAt l i).un i W (by omega) ((hbW.cell (by show w.heap.size < _; omega)).trans q0) ((hbW.cell (by show w.heap.size + 1 < _; omega)).trans qx)
      ((hbW.cell (by show b < _; omega)).trans ((hB0.cell (by show b < _; omega)).trans (by rw [eraAt_in l i (by omega)]; exact hcs i (by omega) 4 _ rfl))))
    (which_mono ho t)
  have hcd : cntF (fun i => decide (t < (eraAt l i).un)) (l.length - 1) = whichF l t := rfl
  rw [hcd] at hS
  have HS := Lib.hid hS
  have HW0 := Lib.hid hW0
  have HB0 := Lib.hid hB0
  have hcast : ((l.length - 1 : Nat) : Int) = (l.length : Int) - 1 := by omega
  rw [hcast] at HS
  have p1 : IntKind.i64.wrap ((l.length : Int) - 1) = (l.length : Int) - 1 := IntWalk.i64_in _ (by omega)
  obtain ⟨c, hc⟩ : ∃ c, whichF l t = c := ⟨_, rfl⟩
  rw [hc] at HS ⊢
  clear hS hW0 hB0 hat hcs eg hcd hcast hc
  go_enter Tryz.func35, Tryz.ntmps35
  go_wp2_with fail
  rw [HW0.out]
  refine HS.out.mono ?_
  rintro e w1 ⟨rfl, hb1⟩
  go_wp2
  go_ret
  exact ⟨rfl, HB0.out.trans (hb1.mono HB0.out.size)⟩
end Go.Proofs.YthggojpdcgcmaaaGreatDoor
