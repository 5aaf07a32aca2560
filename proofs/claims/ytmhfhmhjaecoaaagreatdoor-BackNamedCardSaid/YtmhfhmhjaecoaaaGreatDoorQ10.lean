/- names.Resolve: what it returns. NamesZones: the plain law: a zone's name leads to it, a link where its target leads. state: an era with its turns; which type it is at a time: plain functions and facts. Abbreviations that come of a format are abbreviations: plain. A table's book: that it may be, and how it lies in memory: plain facts. sample(): what it returns. backed, BackEras: the closed fact and the law's walk. names.Resolve: the walk. -/
import Derived.Test.YtmhfhmhjaecoaaaGreatDoorQ09
import Derived.Deep.AppendLies
import Derived.Laws.AppendOwn
import Derived.Laws.OwnMore
import Derived.Lib.SliceRun
import Derived.Test.YtmhfhmhjaecoaaaGreatDoorQ01
import Derived.Test.YtmhfhmhjaecoaaaGreatDoorQ05
import Derived.Test.YtmhfhmhjaecoaaaGreatDoorQ03
import Derived.Test.YtmhfhmhjaecoaaaGreatDoorQ02
import Derived.Lib.SmallJoins
namespace Go.Proofs.YtmhfhmhjaecoaaaGreatDoor
open Go.RowKit Go.Joins Go.Maps
open Classical
set_option linter.unusedVariables false
set_option linter.unusedSimpArgs false

abbrev erL (x : Er) : List Value := (erCells x).toList
def erFlat (l : List Er) : List Value := l.flatMap erL
theorem infoEr : (Tryz.prog.info? 46).map (fun i => (i.zero, i.size, i.bytes)) = some (some (.agg #[.int .i64 0, .string ⟨#[]⟩, .int .i64 0, .string ⟨#[]⟩, .int .i64 0]), 5, 56) := by kernel_rfl
theorem undErS : Tryz.prog.underlying 48 = some (.slice 46) := by kernel_rfl
theorem erFlat_len (l : List Er) : (erFlat l).length = l.length * 5 := by
  induction l with
  | nil => rfl
  | cons x r ih =>
    have e : erFlat (x :: r) = erL x ++ erFlat r := by simp [erFlat]
    rw [e, List.length_append, ih]
    simp
    omega
theorem erFlat_get : ∀ (l : List Er) (j : Nat) (u : Value), (erFlat l)[j]? = some u → ∃ i, ∃ h : i < l.length, ∃ m, j = i * 5 + m ∧ (erL l[i])[m]? = some u
  | [], j, u, h => by simp [erFlat] at h
  | x :: r, j, u, h => by
    have e : erFlat (x :: r) = erL x ++ erFlat r := by simp [erFlat]
    rw [e] at h
    by_cases hj : j < 5
    · rw [List.getElem?_append_left (by simpa using hj)] at h
      exact ⟨0, by simp, j, by omega, h⟩
    · rw [List.getElem?_append_right (by simpa using Nat.le_of_not_lt hj)] at h
      obtain ⟨i, hi, m, e1, e2⟩ := erFlat_get r _ u h
      have e3 : (erL x).length = 5 := rfl
      rw [e3] at e1
      exact ⟨i + 1, by simpa using hi, m, by omega, e2⟩
theorem erFlat_one (l : List Er) : ∀ u ∈ erFlat l, u.oneCell' = true := by
  intro u hu
  obtain ⟨x, -, hx⟩ := List.mem_flatMap.1 hu
  simp at hx
  rcases hx with rfl | rfl | rfl | rfl | rfl <;> rfl

set_option maxRecDepth 100000 in
set_option maxHeartbeats 1000000 in
theorem CloneEr_any (l : List Er) (v : Value) (B : Nat) (w : World) (h : RowsAt erL 5 B w v l) (hl : l.length ≤ 1000) :
    Calls Tryz.prog 114 #[v] w fun e w' => ∃ vo, e = .returned vo ∧ w'.ownsRow w.heap.size 46 5 vo l.length (erFlat l) ∧ Below w.heap.size w w' := by
  obtain ⟨p, cap, rfl, hlen, hrow⟩ := h
  have qT : ∀ (W : World) (a : Option Addr) (n c n' c' : Nat), (binOp .eql 48 (.slice a n c) (.slice none n' c')).run Tryz.prog W = .ok (.bool a.isNone) W := fun W a n c n' c' => Lib.run_eql_slice_nil W _ _ a n c n' c' undErS
  cases p with
  | none =>
    have : l = [] := by
      by_cases hn : l = []
      · exact hn
      · obtain ⟨b, o, e, -⟩ := hrow hn; cases e
    subst this
    clear hrow
    go_enter Tryz.func114, Tryz.ntmps114
    go_wp2_with fail
    go_ret
    exact ⟨_, rfl, World.ownsRow_nil _ _ _ _, Below.refl _ _⟩
  | some ad =>
    have hnews : ∀ j u, (erFlat l)[j]? = some u → w.cell? (ad.add j) = some u := by
      intro j u hu
      obtain ⟨i, hi, m, rfl, hm⟩ := erFlat_get l j u hu
      obtain ⟨b, o, e, hlt, hc⟩ := hrow (List.ne_nil_of_length_pos (by omega))
      injection e with e
      subst e
      have := hc i hi m u hm
      rw [Nat.add_assoc] at this
      have e2 : (⟨b, o, none⟩ : Addr).add (i * 5 + m) = ⟨b, o + (i * 5 + m), none⟩ := by
        unfold Addr.add
        split
        · rename_i h0; rw [h0]; rfl
        · rfl
      rw [e2]
      exact this
    have HNW := Lib.hid hnews
    have HFL := Lib.hid (erFlat_len l)
    have HFO := Lib.hid (erFlat_one l)
    obtain ⟨i1, hi1, hz10, hz11, hz12⟩ := info_parts infoEr
    obtain ⟨n, en⟩ : ∃ n, l.length = n := ⟨_, rfl⟩
    rw [en] at hl HFL ⊢
    clear hnews hrow hlen
    go_enter Tryz.func114, Tryz.ntmps114
    have hROW := World.ownsRow_lit (base := w.heap.size) (e := 46) (size := 5) w #[] 0 (Nat.le_refl _) (by decide) rfl
    have HROW := Lib.hid hROW
    have HNEW : Hid (∀ j u, (erFlat l)[j]? = some u → (w.alloc (.cells #[] 46)).cell? (ad.add j) = some u) := by
      show ∀ j u, _
      intro j u hu
      have h1 := HNW.out j u hu
      exact (((Below.refl w.heap.size w).alloc (Nat.le_refl _) (.cells #[] 46)).cell (p := ad.add j) (World.block_lt_of_cell? _ _ h1)).trans h1
    have HML : 0 + n ≤ maxLen := by simp only [maxLen]; omega
    have HMB : (0 + n) * 56 ≤ 140737488355328 := by omega
    have HSZ : w.heap.size ≤ (w.alloc (.cells #[] 46)).heap.size := by simp
    clear hROW
    go_wp2_with (at_builtin; refine wpList_append_own _ rfl _ _ 48 rfl w.heap.size 46 i1 (.agg #[.int .i64 0, .string ⟨#[]⟩, .int .i64 0, .string ⟨#[]⟩, .int .i64 0]) 5 56 undErS hi1 hz10 hz11 hz12 rfl (by decide) _ _ _ rfl HROW.out ad n cap (erFlat l) rfl HFL.out HNEW.out HFO.out HML HMB HSZ ?_; intro v' w10 hown10 hgrow10 _)
    go_ret
    refine ⟨_, rfl, ?_, (((Below.refl _ _).alloc (Nat.le_refl _) _).grown hgrow10 HSZ (fun q hq => (World.ownsRow.lt HROW.out q hq).1))⟩
    have := hown10
    simp only [Nat.zero_add] at this
    exact this
theorem bk_parts {b : Bk} (h : bkChk b = 0) : (∀ i (hi : i < b.zones.length), zoneChk b.rules (b.zones.take i) b.zones[i] = 0) ∧ ∀ i (hi : i < b.links.length), linkChk b (b.links.take i) b.links[i] = 0 := by
  by_cases h0 : 40 < b.rules.length ∨ 20 < b.zones.length ∨ 20 < b.links.length
  · rw [bkChk_2 b h0] at h; cases h
  · by_cases h1 : firstE ruChk b.rules = 0
    · by_cases h2 : firstE (chkZ b) (List.range b.zones.length) = 0
      · rw [bkChk_l b h0 h1 h2] at h
        exact ⟨fun i hi => by rw [← chkZ_at b i hi]; exact (firstE_zero _ _).1 h2 i (List.mem_range.2 hi), fun i hi => by rw [← chkL_at b i hi]; exact (firstE_zero _ _).1 h i (List.mem_range.2 hi)⟩
      · rw [bkChk_z b h0 h1 h2] at h; exact absurd h h2
    · rw [bkChk_r b h0 h1] at h; exact absurd h h1
structure ZoneOk (b : Bk) (i : Nat) (z : Zo) : Prop where
  nm : nameB z.nm = true
  fresh : ∀ y ∈ b.zones.take i, y.nm ≠ z.nm
  ne : z.eras ≠ []
  le : z.eras.length ≤ 700
  er : firstE (eraChk b.rules z.eras) (List.range z.eras.length) = 0
theorem bk_zone {b : Bk} (h : bkChk b = 0) (i : Nat) (hi : i < b.zones.length) : ZoneOk b i b.zones[i] := by
  have hz := (bk_parts h).1 i hi
  unfold zoneChk at hz
  split at hz
  · cases hz
  · rename_i h1
    split at hz
    · cases hz
    · rename_i h2
      split at hz
      · cases hz
      · rename_i h3
        split at hz
        · cases hz
        · rename_i h4
          refine ⟨by simpa using h1, fun y hy e => h2 (List.any_eq_true.2 ⟨y, hy, by simpa using e⟩), h3, by omega, hz⟩
theorem bk_er {b : Bk} (h : bkChk b = 0) {z : Zo} (hz : z ∈ b.zones) : z.eras ≠ [] ∧ z.eras.length ≤ 700 := by
  obtain ⟨i, hi, rfl⟩ := List.mem_iff_getElem.1 hz
  exact ⟨(bk_zone h i hi).ne, (bk_zone h i hi).le⟩

/-- what names.Resolve answers -/
def rsv (b : Bk) (nm : ByteArray) : Option Zo × Int := if bkChk b ≠ 0 then (none, bkChk b) else resF b.zones b.links (Maps.size (DL b.links) + 1) nm
def zNm (z : Option Zo) : ByteArray := match z with | some z => z.nm | none => ⟨#[]⟩
def zEr (z : Option Zo) : List Er := match z with | some z => z.eras | none => []
def RsvPost (R : Option Zo × Int) (w : World) (e : Ending) (w' : World) : Prop :=
  ∃ vo, e = .returned (.tuple #[.agg #[.string (zNm R.1), vo], .int .i64 R.2]) ∧ w'.ownsRow w.heap.size 46 5 vo (zEr R.1).length (erFlat (zEr R.1)) ∧ Below w.heap.size w w'
theorem rsv_bad {b : Bk} {nm : ByteArray} (h : bkChk b ≠ 0) : rsv b nm = (none, bkChk b) := by unfold rsv; rw [if_pos h]
theorem rsv_go {b : Bk} {nm : ByteArray} (h : bkChk b = 0) : rsv b nm = resF b.zones b.links (Maps.size (DL b.links) + 1) nm := by unfold rsv; rw [if_neg (fun g => g h)]
theorem resF_in {zs : List Zo} {ls : List Lk} : ∀ {n : Nat} {k : ByteArray} {z : Zo} {c : Int}, resF zs ls n k = (some z, c) → z ∈ zs ∧ c = 0 := by
  intro n
  induction n with
  | zero => intro k z c h; cases h
  | succ n ih =>
    intro k z c h
    rw [resF] at h
    split at h
    · rename_i z2 e
      cases h
      exact ⟨(lookF_in e).1, rfl⟩
    · split at h
      · cases h
      · exact ih h
end Go.Proofs.YtmhfhmhjaecoaaaGreatDoor
namespace Go.Proofs.YtmhfhmhjaecoaaaGreatDoor
open Go.RowKit Go.Joins Go.Maps
open Classical
set_option linter.unusedVariables false
set_option linter.unusedSimpArgs false

theorem pigeon {α : Type} [DecidableEq α] : ∀ (l m : List α), l.Pairwise (· ≠ ·) → (∀ x ∈ l, x ∈ m) → l.length ≤ m.length
  | [], m, _, _ => Nat.zero_le _
  | x :: r, m, hp, hm => by
    have hx := hm x (List.mem_cons_self ..)
    have h1 := pigeon r (m.erase x) (List.Pairwise.of_cons hp) fun y hy => by
      have hne : y ≠ x := fun e => (List.rel_of_pairwise_cons hp hy) e.symm
      exact (List.mem_erase_of_ne hne).2 (hm y (List.mem_cons_of_mem _ hy))
    rw [List.length_erase_of_mem hx] at h1
    have : 0 < m.length := List.length_pos_of_mem hx
    simp only [List.length_cons]
    omega
section
variable {α : Type} {key : α → ByteArray}
theorem lookF_keep {k : ByteArray} : ∀ (l : List α) (x : α), (l.foldl (fun acc x => if key x = k then some x else acc) (some x)).isSome = true
  | [], x => rfl
  | y :: r, x => by
    rw [List.foldl_cons]
    by_cases h : key y = k
    · rw [if_pos h]; exact lookF_keep r y
    · rw [if_neg h]; exact lookF_keep r x
theorem lookF_has {k : ByteArray} : ∀ (l : List α) (acc : Option α), (∃ x ∈ l, key x = k) → (l.foldl (fun acc x => if key x = k then some x else acc) acc).isSome = true
  | [], acc, h => by obtain ⟨x, hx, -⟩ := h; cases hx
  | y :: r, acc, h => by
    rw [List.foldl_cons]
    by_cases hy : key y = k
    · rw [if_pos hy]; exact lookF_keep r y
    · rw [if_neg hy]
      obtain ⟨x, hx, e⟩ := h
      rcases List.mem_cons.1 hx with rfl | hx
      · exact absurd e hy
      · exact lookF_has r acc ⟨x, hx, e⟩
theorem lookF_uniq {l : List α} (hu : ∀ x ∈ l, ∀ y ∈ l, key x = key y → x = y) {x : α} (hx : x ∈ l) : lookF key l (key x) = some x := by
  have h := lookF_has (key := key) (k := key x) l none ⟨x, hx, rfl⟩
  cases e : lookF key l (key x) with
  | none => unfold lookF at e; rw [e] at h; cases h
  | some y =>
    obtain ⟨hy, hk⟩ := lookF_in e
    rw [hu y hy x hx hk]
theorem lookF_no {l : List α} {k : ByteArray} (h : ∀ x ∈ l, key x ≠ k) : lookF key l k = none := by
  cases e : lookF key l k with
  | none => rfl
  | some y =>
    obtain ⟨hy, hk⟩ := lookF_in e
    exact absurd hk (h y hy)
theorem uniq_of {l : List α} (h : ∀ i (hi : i < l.length), ∀ y ∈ l.take i, key y ≠ key l[i]) : ∀ x ∈ l, ∀ y ∈ l, key x = key y → x = y := by
  intro x hx y hy e
  obtain ⟨i, hi, rfl⟩ := List.mem_iff_getElem.1 hx
  obtain ⟨j, hj, rfl⟩ := List.mem_iff_getElem.1 hy
  rcases Nat.lt_trichotomy i j with hij | hij | hij
  · exact absurd e (h j hj _ (List.mem_take_iff_getElem.2 ⟨i, by omega, rfl⟩))
  · subst hij; rfl
  · exact absurd e.symm (h i hi _ (List.mem_take_iff_getElem.2 ⟨j, by omega, rfl⟩))
end
structure LinkOk (b : Bk) (i : Nat) (x : Lk) : Prop where
  nm : nameB x.nm = true
  tt : nameB x.tg = true
  nz : ∀ z ∈ b.zones, z.nm ≠ x.nm
  fresh : ∀ y ∈ b.links.take i, y.nm ≠ x.nm
  tgt : (∃ z ∈ b.zones, z.nm = x.tg) ∨ ∃ y ∈ b.links, y.nm = x.tg
theorem bk_link {b : Bk} (h : bkChk b = 0) (i : Nat) (hi : i < b.links.length) : LinkOk b i b.links[i] := by
  have hz := (bk_parts h).2 i hi
  unfold linkChk at hz
  split at hz
  · cases hz
  · rename_i h1
    split at hz
    · cases hz
    · rename_i h2
      split at hz
      · cases hz
      · rename_i h3
        rw [not_or] at h1 h2
        refine ⟨by simpa using h1.1, by simpa using h1.2, fun z hz e => h2.1 (List.any_eq_true.2 ⟨z, hz, by simpa using e⟩), fun y hy e => h2.2 (List.any_eq_true.2 ⟨y, hy, by simpa using e⟩), ?_⟩
        by_cases g : isZone b b.links[i].tg = false
        · have g2 : isLink b.links b.links[i].tg = true := by
            cases e : isLink b.links b.links[i].tg with
            | true => rfl
            | false => exact absurd ⟨g, e⟩ h3
          obtain ⟨y, hy, e⟩ := List.any_eq_true.1 g2
          exact .inr ⟨y, hy, by simpa using e⟩
        · have g1 : isZone b b.links[i].tg = true := by simpa using g
          obtain ⟨z, hz, e⟩ := List.any_eq_true.1 g1
          exact .inl ⟨z, hz, by simpa using e⟩
theorem zones_uniq {b : Bk} (h : bkChk b = 0) : ∀ x ∈ b.zones, ∀ y ∈ b.zones, x.nm = y.nm → x = y := uniq_of (key := fun z : Zo => z.nm) fun i hi => (bk_zone h i hi).fresh
theorem links_uniq {b : Bk} (h : bkChk b = 0) : ∀ x ∈ b.links, ∀ y ∈ b.links, x.nm = y.nm → x = y := uniq_of (key := fun z : Lk => z.nm) fun i hi => (bk_link h i hi).fresh
theorem rsv_zone {b : Bk} (h : bkChk b = 0) {z : Zo} (hz : z ∈ b.zones) : rsv b z.nm = (some z, 0) := by
  rw [rsv_go h]
  exact resF_z (lookF_uniq (key := fun z : Zo => z.nm) (zones_uniq h) hz)

def tgtF (ls : List Lk) (k : ByteArray) : ByteArray := match lookF (·.nm) ls k with | some x => x.tg | none => k
def itr (ls : List Lk) : Nat → ByteArray → ByteArray
  | 0, k => k
  | j + 1, k => itr ls j (tgtF ls k)
theorem itr_add (ls : List Lk) : ∀ (a c : Nat) (k : ByteArray), itr ls (a + c) k = itr ls c (itr ls a k)
  | 0, c, k => by rw [Nat.zero_add]; rfl
  | a + 1, c, k => by
    rw [show a + 1 + c = (a + c) + 1 by omega]
    exact itr_add ls a c (tgtF ls k)
def IsL (zs : List Zo) (ls : List Lk) (k : ByteArray) : Prop := lookF (·.nm) zs k = none ∧ (lookF (·.nm) ls k).isSome = true
theorem path_of {zs : List Zo} {ls : List Lk} : ∀ (n : Nat) (k : ByteArray), resF zs ls (n + 1) k ≠ resF zs ls n k → (∀ j, j < n → IsL zs ls (itr ls j k)) ∧ ¬ IsL zs ls (itr ls n k)
  | 0, k, h => by
    refine ⟨fun j hj => absurd hj (Nat.not_lt_zero j), fun hl => h ?_⟩
    obtain ⟨h1, h2⟩ := hl
    obtain ⟨x, hx⟩ := Option.isSome_iff_exists.1 h2
    exact resF_go h1 hx
  | n + 1, k, h => by
    cases hz : lookF (·.nm) zs k with
    | some z => exact absurd (by rw [resF_z hz, resF_z hz]) h
    | none =>
      cases hl : lookF (·.nm) ls k with
      | none => exact absurd (by rw [resF_none hz hl, resF_none hz hl]) h
      | some x =>
        rw [resF_go hz hl, resF_go hz hl] at h
        obtain ⟨h1, h2⟩ := path_of n x.tg h
        have ht : tgtF ls k = x.tg := by unfold tgtF; rw [hl]
        refine ⟨fun j hj => ?_, ?_⟩
        · cases j with
          | zero => exact ⟨hz, by show (lookF (·.nm) ls k).isSome = true; rw [hl]; rfl⟩
          | succ j =>
            show IsL zs ls (itr ls j (tgtF ls k))
            rw [ht]
            exact h1 j (by omega)
        · show ¬ IsL zs ls (itr ls n (tgtF ls k))
          rw [ht]
          exact h2
theorem path_inj {zs : List Zo} {ls : List Lk} {n : Nat} {k : ByteArray} (h1 : ∀ j, j < n → IsL zs ls (itr ls j k)) (h2 : ¬ IsL zs ls (itr ls n k)) {i j : Nat} (hij : i < j) (hj : j ≤ n) : itr ls i k ≠ itr ls j k := by
  intro e
  refine h2 ?_
  have e1 : itr ls n k = itr ls (n - j) (itr ls j k) := by rw [← itr_add]; congr 1; omega
  have e2 : itr ls (i + (n - j)) k = itr ls (n - j) (itr ls i k) := itr_add ..
  rw [e1, ← e, ← e2]
  exact h1 _ (by omega)
theorem size_DL {b : Bk} (h : bkChk b = 0) : Maps.size (DL b.links) = b.links.length := by
  have key : ∀ (k : Nat), k ≤ b.links.length → Maps.size (DL (b.links.take k)) = k ∧ Tidy (DL (b.links.take k)) := by
    intro k
    induction k with
    | zero => intro _; exact ⟨rfl, tidy_empty⟩
    | succ k ih =>
      intro hk
      obtain ⟨h1, h2⟩ := ih (by omega)
      have hn : has (DL (b.links.take k)) (kyS b.links[k].nm) = false := by
        have e := (Dof_has (·.nm) (fun x : Lk => .string x.tg) (b.links.take k) b.links[k].nm).1
        have e2 : lookF (fun x : Lk => x.nm) (b.links.take k) b.links[k].nm = none := lookF_no (key := fun x : Lk => x.nm) (bk_link h k (by omega)).fresh
        rw [e2] at e
        exact e
      rw [take_succN _ _ (by omega), DL_snoc]
      refine ⟨?_, h2.put (show WideAt.IsKeyLit (kyS b.links[k].nm) from trivial) _⟩
      rw [size_put h2, hn, h1]
      rfl
  have := (key b.links.length (Nat.le_refl _)).1
  rwa [List.take_length] at this
theorem link_same {b : Bk} (h : bkChk b = 0) {l : Lk} (hl : l ∈ b.links) : resF b.zones b.links (b.links.length + 1) l.tg = resF b.zones b.links b.links.length l.tg := by
  apply Classical.byContradiction
  intro hne
  obtain ⟨h1, h2⟩ := path_of _ _ hne
  obtain ⟨n, hn⟩ : ∃ n, b.links.length = n := ⟨_, rfl⟩
  rw [hn] at h1 h2
  have hll := lookF_uniq (key := fun x : Lk => x.nm) (links_uniq h) hl
  have ht : tgtF b.links l.nm = l.tg := by unfold tgtF; rw [hll]
  have hpig := pigeon (l.nm :: (List.range n).map fun j => itr b.links j l.tg) (b.links.map fun x => x.nm) ?_ ?_
  · simp at hpig
    omega
  · refine List.pairwise_cons.2 ⟨fun y hy e => ?_, ?_⟩
    · obtain ⟨j, hj, rfl⟩ := List.mem_map.1 hy
      have hj := List.mem_range.1 hj
      refine path_inj h1 h2 (i := 0) (j := j + 1) (by omega) (by omega) ?_
      have e2 : itr b.links (j + 1) l.tg = itr b.links 1 (itr b.links j l.tg) := itr_add ..
      rw [e2, ← e]
      exact ht.symm
    · rw [List.pairwise_map]
      refine List.Pairwise.imp_of_mem ?_ (List.pairwise_lt_range (n := n))
      intro i j hi hj hij
      exact path_inj h1 h2 hij (by have := List.mem_range.1 hj; omega)
  · intro y hy
    rcases List.mem_cons.1 hy with rfl | hy
    · exact List.mem_map_of_mem hl
    · obtain ⟨j, hj, rfl⟩ := List.mem_map.1 hy
      obtain ⟨-, g⟩ := h1 j (List.mem_range.1 hj)
      obtain ⟨x, hx⟩ := Option.isSome_iff_exists.1 g
      obtain ⟨hx1, hx2⟩ := lookF_in hx
      rw [← hx2]
      exact List.mem_map_of_mem hx1
theorem resF_code {b : Bk} (h : bkChk b = 0) : ∀ (n : Nat) (k : ByteArray), ((∃ z ∈ b.zones, z.nm = k) ∨ ∃ y ∈ b.links, y.nm = k) → (resF b.zones b.links n k).2 = 0 ∨ (resF b.zones b.links n k).2 = 8
  | 0, k, _ => .inr rfl
  | n + 1, k, hk => by
    cases hz : lookF (·.nm) b.zones k with
    | some z => rw [resF_z hz]; exact .inl rfl
    | none =>
      cases hl : lookF (·.nm) b.links k with
      | none =>
        rcases hk with ⟨z, hz2, rfl⟩ | ⟨y, hy, rfl⟩
        · have := lookF_uniq (key := fun z : Zo => z.nm) (zones_uniq h) hz2
          rw [this] at hz; cases hz
        · have := lookF_uniq (key := fun z : Lk => z.nm) (links_uniq h) hy
          rw [this] at hl; cases hl
      | some x =>
        rw [resF_go hz hl]
        obtain ⟨i, hi, e⟩ := List.mem_iff_getElem.1 (lookF_in hl).1
        have := (bk_link h i hi).tgt
        rw [e] at this
        exact resF_code h n x.tg this
/-- a link leads where its target leads, or nowhere, round -/
theorem rsv_link {b : Bk} (h : bkChk b = 0) {l : Lk} (hl : l ∈ b.links) : rsv b l.nm = rsv b l.tg ∧ ((rsv b l.nm).2 = 0 ∨ (rsv b l.nm).2 = 8) := by
  have hll := lookF_uniq (key := fun x : Lk => x.nm) (links_uniq h) hl
  obtain ⟨i, hi, e⟩ := List.mem_iff_getElem.1 hl
  have hok := bk_link h i hi
  rw [e] at hok
  have hz : lookF (fun z : Zo => z.nm) b.zones l.nm = none := lookF_no (key := fun z : Zo => z.nm) hok.nz
  rw [rsv_go h, rsv_go h, size_DL h]
  refine ⟨?_, resF_code h _ _ (.inr ⟨l, hl, rfl⟩)⟩
  rw [resF_go hz hll]
  exact (link_same h hl).symm
end Go.Proofs.YtmhfhmhjaecoaaaGreatDoor
namespace Go.Proofs.YtmhfhmhjaecoaaaGreatDoor
open Go.RowKit Go.Joins Go.Maps
open Classical
set_option linter.unusedVariables false
set_option linter.unusedSimpArgs false

/-- an era with its turns, and the letter ahead of them -/
structure Td where
  er : Er
  ts : List Tn
  fst : ByteArray
def dashB : ByteArray := ⟨#[45]⟩
def fstK (l : List Tn) : Nat := l.findIdx fun u => decide (u.s = 0)
def firstLt (l : List Tn) : ByteArray := (l[fstK l]?.map (·.lt)).getD dashB
def tdE (rules : List Ru) (x : Er) : Int := if x.ru.data.toList = [] then 0 else (mkR rules x.ru x.off).1
def tdR (rules : List Ru) (x : Er) : Td := if x.ru.data.toList = [] then ⟨x, [], dashB⟩ else ⟨x, (mkR rules x.ru x.off).2, firstLt (mkR rules x.ru x.off).2⟩
theorem tdR_er (rules : List Ru) (x : Er) : (tdR rules x).er = x := by unfold tdR; split <;> rfl
def tnA (l : List Tn) (i : Nat) : Int := (l[i]?.map (·.a)).getD 0
/-- how many turns there are up to a time -/
def cntT (l : List Tn) (t : Int) : Nat := cntF (fun i => decide (t < tnA l i)) l.length
def svT (x : Td) (t : Int) : Int × ByteArray := match x.ts[cntT x.ts t - 1]? with
  | some u => if cntT x.ts t = 0 then (x.er.sv, x.fst) else (u.s, u.lt)
  | none => (x.er.sv, x.fst)
def nmT (x : Td) (t : Int) : ByteArray := txt (abbrF x.er.fm.data.toList (svT x t).1 (svT x t).2.data.toList).1
def tdTy (x : Td) (t : Int) : Ty := ⟨x.er.off + (svT x t).1, decide (0 < (svT x t).1), nmT x t⟩
def whichF (l : List Er) (t : Int) : Nat := cntF (fun i => decide (t < (eraAt l i).un)) (l.length - 1)
def ty0 : Ty := ⟨0, false, ⟨#[]⟩⟩
/-- what state.At answers -/
def stR (b : Bk) (nm : ByteArray) (t : Int) : Int × Ty :=
  match (rsv b nm).1 with
  | none => ((rsv b nm).2, ty0)
  | some z => if stampE t ≠ 0 then (stampE t, ty0) else
    if tdE b.rules (eraAt z.eras (whichF z.eras t)) ≠ 0 then (tdE b.rules (eraAt z.eras (whichF z.eras t)), ty0) else (0, tdTy (tdR b.rules (eraAt z.eras (whichF z.eras t))) t)

/-! counts -/
theorem bnd_ex (p : Nat → Bool) : ∀ (n : Nat), (∀ a b, a ≤ b → b < n → p a = true → p b = true) → ∃ h, h ≤ n ∧ (∀ t, t < h → p t = false) ∧ (∀ t, h ≤ t → t < n → p t = true)
  | 0, _ => ⟨0, Nat.le_refl _, fun t h => absurd h (Nat.not_lt_zero _), fun t _ h => absurd h (Nat.not_lt_zero _)⟩
  | n + 1, hm => by
    obtain ⟨h, h1, h2, h3⟩ := bnd_ex p n fun a b hab hb => hm a b hab (by omega)
    by_cases e : p n = true
    · exact ⟨h, by omega, h2, fun t ht htn => by
        by_cases ht2 : t = n
        · rw [ht2]; exact e
        · exact h3 t ht (by omega)⟩
    · refine ⟨n + 1, Nat.le_refl _, fun t ht => ?_, fun t h4 h5 => by omega⟩
      cases ep : p t with
      | false => rfl
      | true => exact absurd (hm t n (by omega) (by omega) ep) e
theorem cntF_spec (p : Nat → Bool) (n : Nat) (hm : ∀ a b, a ≤ b → b < n → p a = true → p b = true) : cntF p n ≤ n ∧ (∀ i, i < cntF p n → p i = false) ∧ ∀ i, cntF p n ≤ i → i < n → p i = true := by
  obtain ⟨h, h1, h2, h3⟩ := bnd_ex p n hm
  rw [cntF_boundary p n h h1 h2 h3]
  exact ⟨h1, h2, h3⟩
theorem cntF_leN (p : Nat → Bool) (n : Nat) : cntF p n ≤ n := by
  unfold cntF
  have := List.countP_le_length (p := fun i => !p i) (l := List.range n)
  simpa using this
theorem rises_mono {l : List Tn} (h : Rises l) : ∀ (j i : Nat) (hij : i < j) (hj : j < l.length), (l[i]'(by omega)).a < l[j].a
  | 0, i, hi, _ => absurd hi (Nat.not_lt_zero _)
  | j + 1, i, hi, hj => by
    have h1 := h j hj
    by_cases e : i = j
    · subst e; exact h1
    · have h2 := rises_mono h j i (by omega) (by omega)
      omega
theorem tnA_at (l : List Tn) (i : Nat) (h : i < l.length) : tnA l i = l[i].a := by unfold tnA; rw [List.getElem?_eq_getElem h]; rfl
theorem tnA_mono {l : List Tn} (h : Rises l) (i j : Nat) (hij : i ≤ j) (hj : j < l.length) : tnA l i ≤ tnA l j := by
  rw [tnA_at l j hj, tnA_at l i (by omega)]
  by_cases e : i = j
  · subst e; exact Int.le_refl _
  · exact Int.le_of_lt (rises_mono h j i (by omega) hj)
theorem cntT_mono {l : List Tn} (h : Rises l) (t : Int) : ∀ a b, a ≤ b → b < l.length → decide (t < tnA l a) = true → decide (t < tnA l b) = true := fun a b hab hb hp => by
  have := tnA_mono h a b hab hb
  simp only [decide_eq_true_eq] at *
  omega
theorem cntT_spec {l : List Tn} (h : Rises l) (t : Int) : cntT l t ≤ l.length ∧ (∀ i, i < cntT l t → tnA l i ≤ t) ∧ ∀ i, cntT l t ≤ i → i < l.length → t < tnA l i := by
  obtain ⟨h1, h2, h3⟩ := cntF_spec _ _ (cntT_mono h t)
  exact ⟨h1, fun i hi => by have := h2 i hi; simpa using this, fun i hi hl => by have := h3 i hi hl; simpa using this⟩
theorem cntT_le (l : List Tn) (t : Int) : cntT l t ≤ l.length := cntF_leN _ _
theorem cntT_eq {l : List Tn} (h : Rises l) {t : Int} {k : Nat} (hk : k ≤ l.length) (h1 : ∀ i, i < k → tnA l i ≤ t) (h2 : ∀ i, k ≤ i → i < l.length → t < tnA l i) : cntT l t = k :=
  cntF_boundary _ _ _ hk (fun i hi => by have := h1 i hi; simpa using this) (fun i hi hl => by have := h2 i hi hl; simpa using this)
theorem svT_0 {x : Td} {t : Int} (h : cntT x.ts t = 0) : svT x t = (x.er.sv, x.fst) := by
  unfold svT
  split
  · rw [if_pos h]
  · rfl
theorem svT_s {x : Td} {t : Int} (h : cntT x.ts t ≠ 0) : ∃ h2 : cntT x.ts t - 1 < x.ts.length, svT x t = (x.ts[cntT x.ts t - 1].s, x.ts[cntT x.ts t - 1].lt) := by
  have := cntT_le x.ts t
  have h2 : cntT x.ts t - 1 < x.ts.length := by omega
  refine ⟨h2, ?_⟩
  unfold svT
  rw [List.getElem?_eq_getElem h2]
  dsimp only
  rw [if_neg h]

/-! what the turns of an era are -/
theorem outF_mem (off : Int) : ∀ (S : List (Int × Ru)) (save : Int) (last : Option Int) (l : List Tn), outF off save last S = some l → ∀ u ∈ l, ∃ x ∈ S, u.s = x.2.sv ∧ u.lt = x.2.lt
  | [], save, last, l, h, u, hu => by
    simp only [outF, Option.some.injEq] at h
    subst h
    cases hu
  | x :: r, save, last, l, h, u, hu => by
    obtain ⟨h1, t, h2, rfl⟩ := outF_some h
    rcases List.mem_cons.1 hu with rfl | hu
    · exact ⟨x, List.mem_cons_self .., rfl, rfl⟩
    · obtain ⟨y, hy, e⟩ := outF_mem off r _ _ t h2 u hu
      exact ⟨y, List.mem_cons_of_mem _ hy, e⟩
theorem noms_mem {D : Ru → Int → Int} {rules : List Ru} {nm : ByteArray} {x : Int × Ru} (h : x ∈ nomsOf D rules nm) : x.2 ∈ rules ∧ x.2.nm = nm := by
  obtain ⟨r, hr, hx⟩ := List.mem_flatMap.1 h
  obtain ⟨i, -, rfl⟩ := List.mem_map.1 hx
  have := List.mem_filter.1 hr
  exact ⟨this.1, by simpa using this.2⟩
theorem mkR_mem {rules : List Ru} {nm : ByteArray} {off : Int} {u : Tn} (h : u ∈ (mkR rules nm off).2) : ∃ r ∈ rules, r.nm = nm ∧ u.s = r.sv ∧ u.lt = r.lt := by
  by_cases h0 : (mkR rules nm off).1 = 0
  · obtain ⟨x, hx, e⟩ := outF_mem off _ 0 none _ (mkR_ok h0) u h
    have hx2 : x ∈ nomsOf dayN rules nm := (List.mergeSort_perm _ _).mem_iff.1 hx
    obtain ⟨h1, h2⟩ := noms_mem hx2
    exact ⟨x.2, h1, h2, e⟩
  · have : (mkR rules nm off).2 = [] := by
      unfold mkR at h0 ⊢
      split
      · rfl
      · split
        · rfl
        · rename_i h1 h2
          rw [if_neg h1, if_neg h2] at h0
          cases e : outF off 0 none (srt (nomsOf dayN rules nm)) with
          | none => rfl
          | some l => rw [e] at h0; exact absurd rfl h0
    rw [this] at h
    cases h
theorem mkR_rises {rules : List Ru} {nm : ByteArray} {off : Int} (h0 : (mkR rules nm off).1 = 0) : Rises (mkR rules nm off).2 := (outF_rise off _ 0 none _ (mkR_ok h0)).2
theorem tdR_rises {rules : List Ru} {x : Er} (h : tdE rules x = 0) : Rises (tdR rules x).ts := by
  unfold tdE at h
  unfold tdR
  by_cases hr : x.ru.data.toList = []
  · rw [if_pos hr]; intro i hi; exact absurd hi (Nat.not_lt_zero _)
  · rw [if_neg hr] at h ⊢
    exact mkR_rises h
theorem firstLt_of (l : List Tn) : firstLt l = dashB ∨ ∃ u ∈ l, u.s = 0 ∧ firstLt l = u.lt := by
  unfold firstLt
  cases h : l[fstK l]? with
  | none => exact .inl rfl
  | some u =>
    obtain ⟨hlt, e⟩ := List.getElem?_eq_some_iff.1 h
    refine .inr ⟨u, e ▸ List.getElem_mem _, ?_, rfl⟩
    have := List.findIdx_getElem (p := fun u : Tn => decide (u.s = 0)) (xs := l) (w := hlt)
    have h3 : l[fstK l].s = 0 := of_decide_eq_true this
    rw [← e]; exact h3

/-! an era of a book that may be -/
structure EraOk (rules : List Ru) (x : Er) : Prop where
  o1 : -64800 ≤ x.off
  o2 : x.off ≤ 64800
  s1 : 0 ≤ x.sv
  s2 : x.sv ≤ 10800
  sr : x.ru.data.toList ≠ [] → x.sv = 0
  has : x.ru.data.toList ≠ [] → ∃ r ∈ rules, r.nm = x.ru
  ab : abbrsChk rules x = 0
theorem eraChk_ok {rules : List Ru} {l : List Er} {k : Nat} (h : eraChk rules l k = 0) : EraOk rules (eraAt l k) ∧ (k + 1 ≠ l.length → -1099511627776 ≤ (eraAt l k).un ∧ (eraAt l k).un ≤ 1099511627776 ∧ stampE (eraAt l k).un = 0 ∧ (0 < k → (eraAt l (k - 1)).un < (eraAt l k).un)) ∧ (k + 1 = l.length → (eraAt l k).un = 0) := by
  unfold eraChk at h
  dsimp only at h
  split at h
  · cases h
  · rename_i h1
    split at h
    · cases h
    · rename_i h2
      split at h
      · cases h
      · rename_i h3
        split at h
        · exact absurd h (by assumption)
        · rename_i h4
          refine ⟨⟨by omega, by omega, by omega, by omega, fun hr => ?_, fun hr => ?_, Classical.not_not.1 h4⟩, fun hk => ?_, fun hk => ?_⟩
          · exact Classical.byContradiction fun hs => h2 ⟨hs, hr⟩
          · have : ¬ (rules.any fun r => decide (r.nm = (eraAt l k).ru)) = false := fun g => h3 ⟨hr, g⟩
            have : (rules.any fun r => decide (r.nm = (eraAt l k).ru)) = true := by simpa using this
            obtain ⟨r, hr, e⟩ := List.any_eq_true.1 this
            exact ⟨r, hr, of_decide_eq_true e⟩
          · rw [if_neg hk] at h
            split at h
            · cases h
            · rename_i h5
              split at h
              · exact absurd h (by assumption)
              · rename_i h6
                split at h
                · cases h
                · rename_i h7
                  refine ⟨by omega, by omega, Classical.not_not.1 h6, fun h0 => ?_⟩
                  omega
          · rw [if_pos hk] at h
            exact Classical.byContradiction fun g => by rw [if_pos g] at h; cases h
theorem eraAt_in (l : List Er) (k : Nat) (h : k < l.length) : eraAt l k = l[k] := by unfold eraAt; rw [List.getElem?_eq_getElem h]; rfl
structure ErasOk (rules : List Ru) (l : List Er) : Prop where
  ne : l ≠ []
  le : l.length ≤ 700
  ok : ∀ x ∈ l, EraOk rules x
  un : ∀ k, k + 1 < l.length → -1099511627776 ≤ (eraAt l k).un ∧ (eraAt l k).un ≤ 1099511627776 ∧ stampE (eraAt l k).un = 0
  rise : ∀ k, k + 2 < l.length → (eraAt l k).un < (eraAt l (k + 1)).un
  last : (eraAt l (l.length - 1)).un = 0
theorem bk_eras {b : Bk} (h : bkChk b = 0) {z : Zo} (hz : z ∈ b.zones) : ErasOk b.rules z.eras := by
  obtain ⟨i, hi, rfl⟩ := List.mem_iff_getElem.1 hz
  have hzo := bk_zone h i hi
  have he : ∀ k, k < b.zones[i].eras.length → eraChk b.rules b.zones[i].eras k = 0 := fun k hk => (firstE_zero _ _).1 hzo.er k (List.mem_range.2 hk)
  have hp : 0 < b.zones[i].eras.length := List.length_pos_iff.2 hzo.ne
  refine ⟨hzo.ne, hzo.le, fun x hx => ?_, fun k hk => ?_, fun k hk => ?_, ?_⟩
  · obtain ⟨k, hk, rfl⟩ := List.mem_iff_getElem.1 hx
    rw [← eraAt_in _ _ hk]
    exact (eraChk_ok (he k hk)).1
  · obtain ⟨a, b, c, -⟩ := (eraChk_ok (he k (by omega))).2.1 (by omega)
    exact ⟨a, b, c⟩
  · have := ((eraChk_ok (he (k + 1) (by omega))).2.1 (by omega)).2.2.2 (by omega)
    simpa using this
  · exact (eraChk_ok (he _ (by omega))).2.2 (by omega)
theorem eras_mono {rules : List Ru} {l : List Er} (h : ErasOk rules l) : ∀ (j i : Nat), i < j → j + 1 < l.length → (eraAt l i).un < (eraAt l j).un
  | 0, i, hi, _ => absurd hi (Nat.not_lt_zero _)
  | j + 1, i, hi, hj => by
    have h1 := h.rise j hj
    by_cases e : i = j
    · subst e; exact h1
    · have := eras_mono h j i (by omega) (by omega)
      omega
theorem which_mono {rules : List Ru} {l : List Er} (h : ErasOk rules l) (t : Int) : ∀ a b, a ≤ b → b < l.length - 1 → decide (t < (eraAt l a).un) = true → decide (t < (eraAt l b).un) = true := fun a b hab hb hp => by
  by_cases e : a = b
  · subst e; exact hp
  · have := eras_mono h b a (by omega) (by omega)
    simp only [decide_eq_true_eq] at *
    omega
theorem which_spec {rules : List Ru} {l : List Er} (h : ErasOk rules l) (t : Int) : whichF l t ≤ l.length - 1 ∧ (∀ i, i < whichF l t → (eraAt l i).un ≤ t) ∧ ∀ i, whichF l t ≤ i → i < l.length - 1 → t < (eraAt l i).un := by
  obtain ⟨h1, h2, h3⟩ := cntF_spec _ _ (which_mono h t)
  exact ⟨h1, fun i hi => by have := h2 i hi; simpa using this, fun i hi hl => by have := h3 i hi hl; simpa using this⟩
theorem which_eq {l : List Er} {t : Int} {k : Nat} (hk : k ≤ l.length - 1) (h1 : ∀ i, i < k → (eraAt l i).un ≤ t) (h2 : ∀ i, k ≤ i → i < l.length - 1 → t < (eraAt l i).un) : whichF l t = k :=
  cntF_boundary _ _ _ hk (fun i hi => by have := h1 i hi; simpa using this) (fun i hi hl => by have := h2 i hi hl; simpa using this)

/-! abbreviations -/
theorem abb_rule {rules : List Ru} {x : Er} (h : EraOk rules x) (hr : x.ru.data.toList ≠ []) : (∀ r ∈ rules, r.nm = x.ru → abE x.fm r.sv r.lt = 0) ∧ abE x.fm 0 dashB = 0 := by
  have ha := h.ab
  unfold abbrsChk at ha
  rw [if_neg hr] at ha
  split at ha
  · rename_i h1
    refine ⟨fun r hm e => ?_, ha⟩
    have := (firstE_zero _ _).1 h1 r hm
    rwa [if_pos e] at this
  · rename_i h1
    exact absurd ha h1
theorem abE_save {f l : ByteArray} {s : Int} (h : abE f s l = 0) : 0 ≤ s ∧ s ≤ 10800 := by
  unfold abE abbrF at h
  split at h
  · cases h
  · split at h
    · cases h
    · rename_i h1; omega
/-- what is saved, and by which letter, at a time of an era -/
theorem sv_ok {rules : List Ru} {x : Er} (h : EraOk rules x) (t : Int) : abE x.fm (svT (tdR rules x) t).1 (svT (tdR rules x) t).2 = 0 ∧ 0 ≤ (svT (tdR rules x) t).1 ∧ (svT (tdR rules x) t).1 ≤ 10800 ∧ (if x.ru.data.toList = [] then (svT (tdR rules x) t).1 = x.sv else (svT (tdR rules x) t).1 = 0 ∨ ∃ r ∈ rules, r.nm = x.ru ∧ (svT (tdR rules x) t).1 = r.sv) := by
  suffices hs : abE x.fm (svT (tdR rules x) t).1 (svT (tdR rules x) t).2 = 0 ∧ (if x.ru.data.toList = [] then (svT (tdR rules x) t).1 = x.sv else (svT (tdR rules x) t).1 = 0 ∨ ∃ r ∈ rules, r.nm = x.ru ∧ (svT (tdR rules x) t).1 = r.sv) from
    ⟨hs.1, (abE_save hs.1).1, (abE_save hs.1).2, hs.2⟩
  by_cases hr : x.ru.data.toList = []
  · have ha := h.ab
    unfold abbrsChk at ha
    rw [if_pos hr] at ha
    have e : tdR rules x = ⟨x, [], dashB⟩ := by unfold tdR; rw [if_pos hr]
    rw [e, if_pos hr, svT_0 rfl]
    exact ⟨ha, rfl⟩
  · obtain ⟨h1, h2⟩ := abb_rule h hr
    have e : tdR rules x = ⟨x, (mkR rules x.ru x.off).2, firstLt (mkR rules x.ru x.off).2⟩ := by unfold tdR; rw [if_neg hr]
    rw [if_neg hr]
    by_cases hc : cntT (tdR rules x).ts t = 0
    · rw [svT_0 hc, e]
      dsimp only
      rw [h.sr hr]
      rcases firstLt_of (mkR rules x.ru x.off).2 with e1 | ⟨u, hu, hs, e1⟩
      · rw [e1]; exact ⟨h2, .inl rfl⟩
      · obtain ⟨r, hm, hn, e2, e3⟩ := mkR_mem hu
        have h5 := h1 r hm hn
        rw [← e2, ← e3, hs] at h5
        rw [e1]
        exact ⟨h5, .inl rfl⟩
    · obtain ⟨hlt, es⟩ := svT_s hc
      rw [es]
      have hu : (tdR rules x).ts[cntT (tdR rules x).ts t - 1] ∈ (mkR rules x.ru x.off).2 := by
        have := List.getElem_mem hlt
        have e4 : (tdR rules x).ts = (mkR rules x.ru x.off).2 := by rw [e]
        rw [← e4]; exact this
      obtain ⟨r, hm, hn, e2, e3⟩ := mkR_mem hu
      dsimp only
      rw [e2, e3]
      exact ⟨h1 r hm hn, .inr ⟨r, hm, hn, rfl⟩⟩
def tdA (rules : List Ru) (l : List Er) (k : Nat) : Td := tdR rules (eraAt l k)
/-- which type it is, by eras that may be -/
def stF (rules : List Ru) (l : List Er) (t : Int) : Ty := tdTy (tdA rules l (whichF l t)) t
theorem which_of {rules : List Ru} {l : List Er} (h : ErasOk rules l) {t : Int} {k : Nat} (hk : k < l.length) (h1 : ∀ i, i < k → (eraAt l i).un ≤ t) (h2 : k + 1 < l.length → t < (eraAt l k).un) : whichF l t = k := by
  refine which_eq (by omega) h1 fun i hi hl => ?_
  by_cases e : k = i
  · subst e; exact h2 (by omega)
  · have := eras_mono h i k (by omega) (by omega)
    have := h2 (by omega)
    omega
end Go.Proofs.YtmhfhmhjaecoaaaGreatDoor
namespace Go.Proofs.YtmhfhmhjaecoaaaGreatDoor
open Go.RowKit Go.Joins
open Classical
set_option linter.unusedVariables false
set_option linter.unusedSimpArgs false

def okL (l : List UInt8) : Bool := l.all (signB [43, 45])
theorem abbrB_iff (l : List UInt8) : abbrB (txt l) = true ↔ okL l = true ∧ l ≠ [] ∧ l.length ≤ 8 := by
  unfold abbrB allB okL
  rw [Bool.and_eq_true, Bool.and_eq_true, decide_eq_true_eq]
  have e : (txt l).data.toList = l := txt_data l
  have e2 : (txt l).size = l.length := by
    show (txt l).data.size = _
    rw [← Array.length_toList, e]
  rw [e, e2]
  have e3 : (⟨#[43, 45]⟩ : ByteArray).data.toList = [43, 45] := rfl
  rw [e3]
  constructor
  · rintro ⟨⟨h1, h2⟩, h3⟩
    exact ⟨h1, by simpa using h2, by omega⟩
  · rintro ⟨h1, h2, h3⟩
    exact ⟨⟨h1, by simpa using h2⟩, by omega⟩
theorem okL_app (a c : List UInt8) : okL (a ++ c) = true ↔ okL a = true ∧ okL c = true := by unfold okL; rw [List.all_append, Bool.and_eq_true]
/-- what is right of an abbreviation that was made -/
theorem abbrF_ok {f l : List UInt8} {s : Int} (h : (abbrF f s l).2 = 0) : (abbrF f s l).1 = abbrN f s l ∧ (splitF f).2.2.2 = true ∧ letterOk l = true ∧ 0 ≤ s ∧ s ≤ 10800 ∧ (abbrN f s l).length ≤ 8 ∧ abbrN f s l ≠ [] := by
  unfold abbrF at h ⊢
  by_cases h1 : (splitF f).2.2.2 = false ∨ letterOk l = false
  · rw [if_pos h1] at h; cases h
  · rw [if_neg h1] at h ⊢
    by_cases h2 : ¬ (0 ≤ s ∧ s ≤ 10800)
    · rw [if_pos h2] at h; cases h
    · rw [if_neg h2] at h ⊢
      by_cases h3 : 8 < (abbrN f s l).length
      · rw [if_pos h3] at h; cases h
      · rw [if_neg h3] at h ⊢
        by_cases h4 : abbrN f s l = []
        · rw [if_pos h4] at h; cases h
        · rw [if_neg h4]
          rw [not_or] at h1
          exact ⟨rfl, by simpa using h1.1, by simpa using h1.2, by omega, by omega, by omega, h4⟩
theorem abbrN_okL {f l : List UInt8} {s : Int} (h1 : (splitF f).2.2.2 = true) (h2 : letterOk l = true) : okL (abbrN f s l) = true := by
  have hl : okL (if l = [45] then [] else l) = true := by
    by_cases e : l = [45]
    · rw [if_pos e]; rfl
    · rw [if_neg e]
      unfold letterOk at h2
      rw [Bool.or_eq_true] at h2
      rcases h2 with h2 | h2
      · exact absurd (of_decide_eq_true h2) e
      · exact ((abbrB_iff l).1 h2).1
  unfold splitF at h1
  unfold abbrN splitF
  by_cases g1 : 12 < f.length
  · rw [if_pos g1] at h1; cases h1
  · rw [if_neg g1] at h1
    rw [if_neg g1]
    by_cases g2 : (Lib.cut f [47]).2.2 = true
    · rw [if_pos g2] at h1
      rw [if_pos g2]
      dsimp only at h1 ⊢
      rw [Bool.and_eq_true] at h1
      rw [if_pos rfl]
      split
      · exact ((abbrB_iff _).1 h1.1).1
      · exact ((abbrB_iff _).1 h1.2).1
    · rw [if_neg g2] at h1
      rw [if_neg g2]
      by_cases g3 : (Lib.cut f [37]).2.2 = true
      · rw [if_pos g3] at h1
        rw [if_pos g3]
        dsimp only at h1 ⊢
        rw [if_neg (by decide), if_pos rfl]
        have hab : okL ((Lib.cut f [37]).1 ++ (Lib.cut f [37]).2.1) = true := by
          rw [Bool.or_eq_true] at h1
          rcases h1 with h1 | h1
          · rw [of_decide_eq_true h1]; rfl
          · rw [Bool.and_eq_true] at h1
            exact ((abbrB_iff _).1 h1.2).1
        rw [okL_app] at hab
        rw [okL_app, okL_app]
        exact ⟨hab.1, hl, hab.2⟩
      · rw [if_neg g3] at h1
        rw [if_neg g3]
        dsimp only at h1 ⊢
        rw [if_neg (by decide), if_neg (by decide)]
        exact ((abbrB_iff _).1 h1).1
/-- a resulting abbreviation is one -/
theorem abbrF_abbr {f l : List UInt8} {s : Int} (h : (abbrF f s l).2 = 0) : abbrB (txt (abbrF f s l).1) = true := by
  obtain ⟨e, h1, h2, -, -, h3, h4⟩ := abbrF_ok h
  rw [e, abbrB_iff]
  exact ⟨abbrN_okL h1 h2, h4, h3⟩
theorem cut_noA {l : List UInt8} {c : UInt8} (h : c ∉ l) : (Lib.cut l [c]).2.2 = false := by
  have hi : Lib.index l [c] = -1 := Lib.index_none fun j hj => by
    cases ho : Lib.occAt l [c] j
    · rfl
    · exact absurd (List.mem_of_getElem? (Lib.occAt_head rfl ho)) h
  unfold Lib.cut
  rw [hi, if_neg (by omega)]
theorem okL_no {l : List UInt8} (h : okL l = true) : (47 : UInt8) ∉ l ∧ (37 : UInt8) ∉ l := by
  unfold okL at h
  rw [List.all_eq_true] at h
  refine ⟨fun g => ?_, fun g => ?_⟩
  · have := h _ g; revert this; decide
  · have := h _ g; revert this; decide
/-- an abbreviation as a format stands for itself -/
theorem abbrF_self {f : List UInt8} {s : Int} (h : abbrB (txt f) = true) (h0 : 0 ≤ s) (h1 : s ≤ 10800) : abbrF f s [45] = (f, 0) := by
  obtain ⟨h2, h3, h4⟩ := (abbrB_iff f).1 h
  obtain ⟨n1, n2⟩ := okL_no h2
  have e : splitF f = (f, [], [], true) := by
    unfold splitF
    rw [if_neg (by omega), cut_noA n1, cut_noA n2, if_neg (by decide), if_neg (by decide), h]
  have e2 : abbrN f s [45] = f := by unfold abbrN; rw [e]; rfl
  unfold abbrF
  rw [e, e2, if_neg (by simp [letterOk]), if_neg (by omega), if_neg (by omega), if_neg h3]
end Go.Proofs.YtmhfhmhjaecoaaaGreatDoor
namespace Go.Proofs.YtmhfhmhjaecoaaaGreatDoor
open Go.RowKit Go.Joins Go.Maps
open Classical
set_option linter.unusedVariables false
set_option linter.unusedSimpArgs false

theorem stampE_bdB {y : Int} (h : stampE y = 0) : -1099511627776 ≤ y ∧ y ≤ 1099511627776 := by
  unfold stampE at h
  split at h
  · omega
  · cases h
def toEr (x : BB.Er) : Er := ⟨x.off, x.rul, x.save, x.fmt, x.til⟩
def bErs (N : Tab) : List Er := (List.range (N.chs.length + 1)).map fun i => toEr (BB.erAt N i)
theorem bErs_len (N : Tab) : (bErs N).length = N.chs.length + 1 := by simp [bErs]
theorem bErs_at (N : Tab) (k : Nat) (h : k < N.chs.length + 1) : eraAt (bErs N) k = toEr (BB.erAt N k) := by
  unfold eraAt bErs
  rw [List.getElem?_map, List.getElem?_range h]
  rfl
theorem segT_mem {N : Tab} (ok : OkTab N) (i : Nat) (hi : i ≤ N.chs.length) : BB.segT N i ∈ N.types := by
  have h : 0 ≤ BB.segK N i ∧ BB.segK N i < N.types.length := by
    unfold BB.segK
    split
    · exact ok.first
    · have h : i - 1 < N.chs.length := by omega
      have := ok.ch N.chs[i - 1] (List.getElem_mem h)
      unfold kAt
      rw [List.getElem?_eq_getElem h]
      exact ⟨this.2.2.1, this.2.2.2⟩
  unfold BB.segT tyD
  have h2 : (BB.segK N i).toNat < N.types.length := by omega
  rw [List.getElem?_eq_getElem h2]
  exact List.getElem_mem h2
theorem er_off (x : Ty) (u : Int) : (toEr (BB.erOf x u)).off + (toEr (BB.erOf x u)).sv = x.off := by
  show BB.erOff x + BB.erSave x = x.off
  unfold BB.erOff BB.erSave
  split <;> omega
theorem er_sv (x : Ty) (u : Int) : decide (0 < (toEr (BB.erOf x u)).sv) = x.save := by
  show decide (0 < BB.erSave x) = x.save
  unfold BB.erSave
  cases x.save <;> decide
theorem er_svb (x : Ty) (u : Int) : 0 ≤ (toEr (BB.erOf x u)).sv ∧ (toEr (BB.erOf x u)).sv ≤ 10800 := by
  show 0 ≤ BB.erSave x ∧ BB.erSave x ≤ 10800
  unfold BB.erSave
  split <;> omega
theorem er_abE {x : Ty} (h : abbrB x.name = true) (u : Int) : abbrF (toEr (BB.erOf x u)).fm.data.toList (toEr (BB.erOf x u)).sv dashB.data.toList = (x.name.data.toList, 0) :=
  abbrF_self (f := x.name.data.toList) (by rw [show txt x.name.data.toList = x.name from by unfold txt; simp]; exact h) (er_svb x u).1 (er_svb x u).2
/-- a table that may be, as back.Book takes it -/
structure Bkd (N : Tab) (nm : ByteArray) : Prop where
  ok : OkTab N
  norm : normT N = N
  name : nameB nm = true
  len : N.chs.length < 700
  st : ∀ c ∈ N.chs, stampE c.t = 0
  er : ∀ i, i ≤ N.chs.length → BB.erOk (BB.segT N i) = true
theorem bkd_of {t : Tab} {nm : ByteArray} (h : BB.backC t nm = 0) : Bkd (normT t) nm ∧ chk t = 0 := by
  unfold BB.backC at h
  split at h
  · exact absurd h (by assumption)
  rename_i h1
  split at h
  · cases h
  rename_i h2
  split at h
  · cases h
  rename_i h3
  split at h
  · cases h
  rename_i h4
  split at h
  · cases h
  rename_i h5
  have hc : chk t = 0 := Classical.not_not.1 h1
  refine ⟨⟨norm_ok t (chk_ok t hc), normT_norm t, by simpa using h2, by omega, fun c hc => ?_, fun i hi => ?_⟩, hc⟩
  · have h6 : BB.okSB c.t = true := by
      cases e : BB.okSB c.t with
      | true => rfl
      | false => exact absurd ⟨c, hc, e⟩ h4
    unfold BB.okSB at h6
    unfold stampE
    rw [if_pos (of_decide_eq_true h6)]
  · cases e : BB.erOk (BB.segT (normT t) i) with
    | true => rfl
    | false => exact absurd ⟨i, hi, e⟩ h5
theorem er_ruE (x : Ty) (u : Int) : (toEr (BB.erOf x u)).ru.data.toList = [] := rfl
theorem er_ruA (N : Tab) (i : Nat) : (toEr (BB.erAt N i)).ru.data.toList = [] := rfl
section
variable {N : Tab} {nm : ByteArray}
theorem bErs_ok (h : Bkd N nm) (k : Nat) (hk : k < N.chs.length + 1) : EraOk [] (eraAt (bErs N) k) := by
  rw [bErs_at N k hk]
  have hm := segT_mem h.ok k (by omega)
  have hn := (h.ok.type _ hm).2.2
  have ho := h.er k (by omega)
  unfold BB.erOk at ho
  have ho := of_decide_eq_true ho
  refine ⟨ho.1, ho.2, (er_svb _ _).1, (er_svb _ _).2, fun g => absurd rfl g, fun g => absurd rfl g, ?_⟩
  unfold abbrsChk
  rw [if_pos (er_ruA N k)]
  unfold abE
  exact congrArg Prod.snd (er_abE hn (BB.segU N k))
theorem bErs_un (h : Bkd N nm) (k : Nat) (hk : k < N.chs.length) : (eraAt (bErs N) k).un = tAt N.chs k := by
  rw [bErs_at N k (by omega)]
  show BB.segU N k = _
  unfold BB.segU
  rw [if_pos hk]
theorem tAt_memB (m : List Ch) (k : Nat) (hk : k < m.length) : ∃ c ∈ m, tAt m k = c.t := by
  refine ⟨m[k], List.getElem_mem hk, ?_⟩
  unfold tAt
  rw [List.getElem?_eq_getElem hk]
  rfl
theorem bErs_chk (h : Bkd N nm) (k : Nat) (hk : k < (bErs N).length) : eraChk [] (bErs N) k = 0 := by
  rw [bErs_len] at hk
  have e := bErs_ok h k hk
  have hl := bErs_len N
  unfold eraChk
  dsimp only
  rw [if_neg (by have := e.o1; have := e.o2; have := e.s1; have := e.s2; omega), if_neg (fun g => g.1 (e.sr g.2)), if_neg (fun g => g.1 (by rw [bErs_at N k hk]; rfl)), if_neg (fun g => g e.ab)]
  by_cases hkl : k + 1 = (bErs N).length
  · rw [if_pos hkl, if_neg]
    intro g
    refine g ?_
    rw [bErs_at N k hk]
    show BB.segU N k = 0
    unfold BB.segU
    rw [if_neg (by omega)]
  · rw [if_neg hkl]
    have hk2 : k < N.chs.length := by omega
    obtain ⟨c, hc, ec⟩ := tAt_memB N.chs k hk2
    have hs := h.st c hc
    have hb := stampE_bdB hs
    rw [← ec] at hs hb
    rw [bErs_un h k hk2, if_neg (by omega), if_neg (fun g => g hs), if_neg]
    rintro ⟨g1, g2⟩
    rw [bErs_un h (k - 1) (by omega)] at g2
    have := List.pairwise_iff_getElem.1 h.ok.rise (k - 1) k (by omega) hk2 (by omega)
    unfold tAt at g2
    rw [List.getElem?_eq_getElem hk2, List.getElem?_eq_getElem (show k - 1 < N.chs.length by omega)] at g2
    simp only [Option.map_some, Option.getD_some] at g2
    omega
theorem bBk_chk1 (h : Bkd N nm) (ev : Value) : bkChk ⟨[], [⟨nm, ev, bErs N⟩], []⟩ = 0 := by
  have hl := bErs_len N
  have hlen := h.len
  have h0 : ¬ (40 < (⟨[], [⟨nm, ev, bErs N⟩], []⟩ : Bk).rules.length ∨ 20 < (⟨[], [⟨nm, ev, bErs N⟩], []⟩ : Bk).zones.length ∨ 20 < (⟨[], [⟨nm, ev, bErs N⟩], []⟩ : Bk).links.length) := by
    show ¬ (40 < 0 ∨ 20 < 1 ∨ 20 < 0)
    omega
  have hz : firstE (chkZ ⟨[], [⟨nm, ev, bErs N⟩], []⟩) (List.range 1) = 0 := by
    refine (firstE_zero _ _).2 fun i hi => ?_
    have hi : i < 1 := List.mem_range.1 hi
    obtain rfl : i = 0 := by omega
    show zoneChk [] [] ⟨nm, ev, bErs N⟩ = 0
    unfold zoneChk
    rw [if_neg (by rw [h.name]; simp), if_neg (by simp), if_neg (show ¬ bErs N = [] from fun e => by rw [e] at hl; cases hl), if_neg (show ¬ 700 < (bErs N).length by omega)]
    exact (firstE_zero _ _).2 fun k hk => bErs_chk h k (List.mem_range.1 hk)
  exact (bkChk_l _ h0 rfl hz).trans rfl
end
theorem bErs_map (N : Tab) : bErs N = (BB.ersOf N).map toEr := by
  show _ = List.map toEr ((List.range _).map _)
  rw [List.map_map]
  rfl
theorem bErs_get (N : Tab) (i : Nat) (h : i < (bErs N).length) (h2 : i < (BB.ersOf N).length) : (bErs N)[i] = toEr (BB.ersOf N)[i] := by
  rw [List.getElem_of_eq (bErs_map N) h, List.getElem_map]
theorem rows_nilS {α : Type} {cells : α → List Value} {k B : Nat} {W : World} : RowsAt cells k B W (.slice none 0 0) [] := ⟨none, 0, rfl, ⟨Nat.zero_le _, Nat.le_refl _⟩, fun h => absurd rfl h⟩
theorem bBookAt {W : World} {Z cz ce : Nat} {p : Option Addr} {nm : ByteArray} {N : Tab} (h : BB.BkAt W Z cz p ce nm (BB.ersOf N)) (hk : Bkd N nm) (hn : nm.size ≤ 140737488351232) :
    BookAt W.heap.size W (.slice none 0 0) (.slice (some ⟨Z, 0, none⟩) 1 cz) (.slice none 0 0) ⟨[], [⟨nm, .slice p (BB.ersOf N).length ce, bErs N⟩], []⟩ := by
  have hl1 : (BB.ersOf N).length = N.chs.length + 1 := BB.ersUp_length _ _
  have hl2 := bErs_len N
  have hlk := hk.len
  refine ⟨rows_nilS, ?_, ?_, rows_nilS, fun r hr => absurd hr (List.not_mem_nil), ?_, fun x hx => absurd hx (List.not_mem_nil)⟩
  · refine ⟨_, cz, rfl, ⟨(by show 1 ≤ 140737488351232; decide), h.cap.2⟩, fun _ => ⟨Z, 0, rfl, (Array.getElem?_eq_some_iff.mp h.blk).1, fun i hi j u hu => ?_⟩⟩
    obtain rfl : i = 0 := by
      have : i < 1 := hi
      omega
    obtain ⟨z0, z1, -⟩ := h.cells
    match j, hu with
    | 0, hu => injection hu with hu; subst hu; exact z0
    | 1, hu => injection hu with hu; subst hu; exact z1
    | j + 2, hu => simp [zoCells] at hu
  · intro z hz
    obtain rfl := List.mem_singleton.1 hz
    obtain ⟨p', cap, e, hat⟩ := h.ers.shape
    rw [Value.slice.injEq] at e
    obtain ⟨rfl, -, rfl⟩ := e
    refine ⟨p, ce, by rw [hl1, ← hl2], ⟨(by show (bErs N).length ≤ _; omega), (by show (bErs N).length ≤ _; have := h.cap.1; omega)⟩, fun _ => ?_⟩
    obtain ⟨b, o, rfl, hb, hc⟩ := hat (List.ne_nil_of_length_pos (by omega))
    refine ⟨b, o, rfl, hb, fun i hi j u hu => ?_⟩
    have hi2 : i < (BB.ersOf N).length := by
      have : i < (bErs N).length := hi
      omega
    obtain ⟨y0, y1, y2, y3, y4⟩ := hc i hi2
    have hu : (erCells (bErs N)[i]).toList[j]? = some u := hu
    rw [bErs_get N i hi hi2] at hu
    match j, hu with
    | 0, hu => injection hu with hu; subst hu; exact y0
    | 1, hu => injection hu with hu; subst hu; exact y1
    | 2, hu => injection hu with hu; subst hu; exact y2
    | 3, hu => injection hu with hu; subst hu; exact y3
    | 4, hu => injection hu with hu; subst hu; exact y4
    | j + 5, hu => simp [erCells] at hu
  · intro z hz
    obtain rfl := List.mem_singleton.1 hz
    refine ⟨hn, fun x hx => ?_⟩
    obtain ⟨i, hi, rfl⟩ := List.mem_iff_getElem.1 hx
    have hi : i < (bErs N).length := hi
    rw [hl2] at hi
    have e := bErs_ok hk i hi
    have hx : (bErs N)[i]'(by omega) = eraAt (bErs N) i := by unfold eraAt; rw [List.getElem?_eq_getElem (by omega)]; rfl
    show SzE ((bErs N)[i]'(by omega))
    rw [hx, bErs_at N i hi]
    rw [bErs_at N i hi] at e
    have hm := segT_mem hk.ok i (by omega)
    have hsz := abbr_sizeT _ (hk.ok.type _ hm).2.2
    refine ⟨(by show ByteArray.size ⟨#[]⟩ ≤ _; decide), (by show (BB.segT N i).name.size ≤ _; omega), by have := e.o1; omega, by have := e.o2; omega, by have := e.s1; omega, by have := e.s2; omega, ?_, ?_⟩
    all_goals
      show _ ≤ _
      have hu : -1099511627776 ≤ BB.segU N i ∧ BB.segU N i ≤ 1099511627776 := by
        unfold BB.segU
        split
        · obtain ⟨c, hc, ec⟩ := tAt_memB N.chs i (by assumption)
          have := stampE_bdB (hk.st c hc)
          rw [ec]; exact this
        · omega
      first
        | exact Int.le_trans (by decide) hu.1
        | exact Int.le_trans hu.2 (by decide)
end Go.Proofs.YtmhfhmhjaecoaaaGreatDoor
namespace Go.Proofs.YtmhfhmhjaecoaaaGreatDoor
open Go.RowKit Go.Joins
set_option linter.unusedVariables false
set_option linter.unusedSimpArgs false

theorem box3 {w W0 : World} {a b c : Value} {T : TypeId} (h : w.alloc (.cells #[a, b, c] T) = W0) :
    Below w.heap.size w W0 ∧ W0.heap.size = w.heap.size + 1 ∧ W0.cell? ⟨w.heap.size, 0, none⟩ = some a ∧ W0.cell? ⟨w.heap.size, 1, none⟩ = some b ∧ W0.cell? ⟨w.heap.size, 2, none⟩ = some c := by
  subst h
  exact ⟨(Below.refl _ _).alloc (Nat.le_refl _) _, by simp, by simp [go_sem], by simp [go_sem], by simp [go_sem]⟩

def samT : Tab := ⟨[⟨0, false, ⟨#[65]⟩⟩, ⟨3600, false, ⟨#[66]⟩⟩], 0, [⟨10000, 1⟩, ⟨20000, 0⟩]⟩

theorem sam_tab {w W : World} (hs : W.heap.size = w.heap.size + 3) (h1 : W.heap[w.heap.size + 1]? = some (Obj.cells #[.int .i64 0, .bool false, .string ⟨#[65]⟩, .int .i64 3600, .bool false, .string ⟨#[66]⟩] 71 (0, 0)))
    (h2 : W.heap[w.heap.size + 1 + 1]? = some (Obj.cells #[.int .i64 10000, .int .i64 1, .int .i64 20000, .int .i64 0] 80 (0, 0))) :
    TabAt W (.agg #[.slice (some ⟨w.heap.size + 1, 0, none⟩) 2 2, .int .i64 0, .slice (some ⟨w.heap.size + 1 + 1, 0, none⟩) 2 2]) samT := by
  refine ⟨_, _, rfl, ⟨⟨_, 2, rfl, fun _ => ⟨_, _, rfl, by omega, fun i hi => ?_⟩⟩, by decide, by decide⟩, ⟨⟨_, 2, rfl, fun _ => ⟨_, _, rfl, by omega, fun i hi => ?_⟩⟩, by decide⟩⟩
  · have : i < 2 := hi
    rcases i with _ | _ | i
    · refine ⟨?_, ?_, ?_⟩ <;> simp [World.cell?, h1, samT]
    · refine ⟨?_, ?_, ?_⟩ <;> simp [World.cell?, h1, samT]
    · omega
  · have : i < 2 := hi
    rcases i with _ | _ | i
    · refine ⟨?_, ?_⟩ <;> simp [World.cell?, h2, samT]
    · refine ⟨?_, ?_⟩ <;> simp [World.cell?, h2, samT]
    · omega

set_option maxHeartbeats 4000000 in
theorem sample_any (w : World) :
    Calls Tryz.prog 29 #[] w fun e w' => ∃ v, e = .returned v ∧ TabAt w' v samT ∧ Below w.heap.size w w' := by
  go_enter Tryz.func29, Tryz.ntmps29
  go_wp2
  obtain ⟨w1, h1⟩ : ∃ w1, w.alloc (Obj.cells #[.slice (some ⟨w.heap.size + 1, 0, none⟩) 2 2, .int .i64 0, .slice (some ⟨w.heap.size + 1 + 1, 0, none⟩) 2 2] 25) = w1 := ⟨_, rfl⟩
  obtain ⟨b1, s1, q0, q1, q2⟩ := box3 h1
  rw [h1]
  obtain ⟨w2, h2⟩ : ∃ w2, w1.alloc (Obj.cells #[.int .i64 0, .bool false, .string ⟨#[65]⟩, .int .i64 3600, .bool false, .string ⟨#[66]⟩] 71) = w2 := ⟨_, rfl⟩
  have s2 : w2.heap.size = w.heap.size + 2 := by rw [← h2]; simp; omega
  have n2 := heap_alloc_new w1 (Obj.cells #[.int .i64 0, .bool false, .string ⟨#[65]⟩, .int .i64 3600, .bool false, .string ⟨#[66]⟩] 71)
  have b2 : Below w.heap.size w w2 := by rw [← h2]; exact b1.alloc (by omega) _
  have bb2 : Below w1.heap.size w1 w2 := by rw [← h2]; exact (Below.refl _ _).alloc (Nat.le_refl _) _
  rw [h2, s1] at n2
  rw [h2]
  obtain ⟨w3, h3⟩ : ∃ w3, w2.alloc (Obj.cells #[.int .i64 10000, .int .i64 1, .int .i64 20000, .int .i64 0] 80) = w3 := ⟨_, rfl⟩
  have s3 : w3.heap.size = w.heap.size + 3 := by rw [← h3]; simp; omega
  have n3 := heap_alloc_new w2 (Obj.cells #[.int .i64 10000, .int .i64 1, .int .i64 20000, .int .i64 0] 80)
  have b3 : Below w.heap.size w w3 := by rw [← h3]; exact b2.alloc (by omega) _
  have bb3 : Below w2.heap.size w2 w3 := by rw [← h3]; exact (Below.refl _ _).alloc (Nat.le_refl _) _
  rw [h3, s2] at n3
  rw [h3]
  have m2 := (bb3.block (w.heap.size + 1) (by omega)).trans n2
  have k0 := (bb3.cell (p := ⟨w.heap.size, 0, none⟩) (by show w.heap.size < _; omega)).trans ((bb2.cell (p := ⟨w.heap.size, 0, none⟩) (by show w.heap.size < _; omega)).trans q0)
  have k1 := (bb3.cell (p := ⟨w.heap.size, 1, none⟩) (by show w.heap.size < _; omega)).trans ((bb2.cell (p := ⟨w.heap.size, 1, none⟩) (by show w.heap.size < _; omega)).trans q1)
  have k2 := (bb3.cell (p := ⟨w.heap.size, 2, none⟩) (by show w.heap.size < _; omega)).trans ((bb2.cell (p := ⟨w.heap.size, 2, none⟩) (by show w.heap.size < _; omega)).trans q2)
  refine bodyPost_ret (v := .agg #[.slice (some ⟨w.heap.size + 1, 0, none⟩) 2 2, .int .i64 0, .slice (some ⟨w.heap.size + 1 + 1, 0, none⟩) 2 2]) (by simp [results, Tryz.results29, go_sem, k0, k1, k2]) rfl ?_
  exact ⟨_, rfl, sam_tab s3 m2 n3, b3⟩

theorem sam_chkZ : chk samT = 0 := by decide
end Go.Proofs.YtmhfhmhjaecoaaaGreatDoor
namespace Go.Proofs.YtmhfhmhjaecoaaaGreatDoor.BB
open Go.RowKit Go.Joins
open Classical
set_option linter.unusedVariables false
set_option linter.unusedSimpArgs false

theorem sam_norm : normT samT = samT := by
  have h1 : (⟨3600, false, ⟨#[66]⟩⟩ : Ty) ≠ ⟨0, false, ⟨#[65]⟩⟩ := by
    intro h
    injection h with h _ _
    exact absurd h (by decide)
  have h2 : (⟨0, false, ⟨#[65]⟩⟩ : Ty) ≠ ⟨3600, false, ⟨#[66]⟩⟩ := fun h => h1 h.symm
  unfold normT normR makeN
  have e1 : resH samT = ⟨0, false, ⟨#[65]⟩⟩ := rfl
  have e2 : resL samT = [(10000, ⟨3600, false, ⟨#[66]⟩⟩), (20000, ⟨0, false, ⟨#[65]⟩⟩)] := rfl
  rw [e1, e2]
  simp only [List.foldl_cons, List.foldl_nil]
  have s1 : stepN (begN ⟨0, false, ⟨#[65]⟩⟩) (10000, ⟨3600, false, ⟨#[66]⟩⟩) = ⟨[⟨0, false, ⟨#[65]⟩⟩, ⟨3600, false, ⟨#[66]⟩⟩], [⟨10000, 1⟩], ⟨3600, false, ⟨#[66]⟩⟩⟩ := by
    simp [stepN, begN, addTy, idxTy, h1, h2, List.findIdx_cons]
  rw [s1]
  have s2 : stepN ⟨[⟨0, false, ⟨#[65]⟩⟩, ⟨3600, false, ⟨#[66]⟩⟩], [⟨10000, 1⟩], ⟨3600, false, ⟨#[66]⟩⟩⟩ (20000, ⟨0, false, ⟨#[65]⟩⟩) = ⟨[⟨0, false, ⟨#[65]⟩⟩, ⟨3600, false, ⟨#[66]⟩⟩], [⟨10000, 1⟩, ⟨20000, 0⟩], ⟨0, false, ⟨#[65]⟩⟩⟩ := by
    simp [stepN, addTy, idxTy, h1, h2, List.findIdx_cons]
  rw [s2]
  rfl
theorem sam_back : backC samT ⟨#[65]⟩ = 0 := by
  have hn : nameB ⟨#[65]⟩ = true := by
    have h1 : allB ⟨#[65]⟩ 20 ⟨#[95, 47, 45]⟩ = true := by decide
    unfold nameB
    rw [h1, Bool.true_and]
    exact decide_eq_true ⟨65, rfl, by decide⟩
  unfold backC
  rw [if_neg (by rw [sam_chkZ]; simp), if_neg (by rw [hn]; simp), sam_norm, if_neg (by decide), if_neg, if_neg]
  · rintro ⟨i, hi, h⟩
    have : i = 0 ∨ i = 1 ∨ i = 2 := by have : i ≤ 2 := hi; omega
    rcases this with rfl | rfl | rfl <;> exact absurd h (by decide)
  · rintro ⟨c, hc, h⟩
    have : c = ⟨10000, 1⟩ ∨ c = ⟨20000, 0⟩ := by simpa [samT] using hc
    rcases this with rfl | rfl <;> exact absurd h (by decide)

set_option maxRecDepth 100000 in
set_option maxHeartbeats 4000000 in
theorem backed_any (w : World) (ht : Tab10 w) : Calls Tryz.prog 10 #[] w fun e w' => e = .returned (.bool true) ∧ Below w.heap.size w w' := by
  have HT := Lib.hid ht
  have HK := Lib.hid (fun W v (hb : TabAt W v samT) (h : Tab10 W) => Book_any samT v ⟨#[65]⟩ W hb (by decide) h)
  have hu : Hid (tAt samT.chs 0 = 10000) := by show _ = _; rfl
  clear ht
  go_enter Tryz.func10, Tryz.ntmps10
  go_wp2_with fail
  refine (sample_any _).mono ?_
  rintro e w1 ⟨v, rfl, hv, hb1⟩
  have HB1 := Lib.hid hb1
  have HV := Lib.hid hv
  clear hb1 hv
  go_wp2_with fail
  refine (HK.out _ _ HV.out (HT.out.below HB1.out)).mono ?_
  rintro e w2 ⟨hb2, ⟨h, -⟩ | ⟨-, Z, cz, p, ce, rfl, hbk⟩⟩
  · exact absurd sam_back h
  rw [sam_norm] at hbk
  have HB2 := Lib.hid (HB1.out.trans (hb2.mono HB1.out.size))
  obtain ⟨s0, s1, hZ⟩ := hbk.cells
  obtain ⟨p', cap', he, hc⟩ := hbk.ers.shape
  injection he with he1 _ he2
  subst he1 he2
  obtain ⟨b, o, rfl, hbl, hat⟩ := hc (by decide)
  have h0 := hat 0 (by decide)
  have hu0 : (ersOf samT)[0].til = 10000 := rfl
  obtain ⟨-, -, -, -, e4⟩ := h0
  rw [hu0, show o + 0 * 5 + 4 = o + 4 by omega] at e4
  have hl3 : (ersOf samT).length = 3 := rfl
  rw [hl3] at s1
  clear hb2 hbk hc hat hl3 hu0
  go_wp2
  go_ret
  exact ⟨rfl, HB2.out.alloc HB2.out.size _⟩

theorem backC_zero {t : Tab} {nm : ByteArray} (h : backC t nm = 0) : chk t = 0 := by
  unfold backC at h
  by_cases hc : chk t = 0
  · exact hc
  · rw [if_pos hc] at h
    exact absurd h hc
theorem er_same (x : Ty) : erOff x + erSave x = x.off := by
  unfold erOff erSave
  split <;> omega
theorem er_save (x : Ty) : decide (0 < erSave x) = x.save := by
  unfold erSave
  cases x.save <;> simp

end Go.Proofs.YtmhfhmhjaecoaaaGreatDoor.BB
namespace Go.Proofs.YtmhfhmhjaecoaaaGreatDoor
open Go.RowKit Go.Joins Go.Maps
open Classical
set_option linter.unusedVariables false
set_option linter.unusedSimpArgs false

set_option maxRecDepth 100000 in
set_option maxHeartbeats 4000000 in
theorem Resolve_any (b : Bk) (rv zv lv : Value) (nm : ByteArray) (w : World) (hB : BookAt w.heap.size w rv zv lv b) (hn : nm.size ≤ 140737488351232) (hm : MaxLen w) (ht : Tab10 w) :
    Calls Tryz.prog 69 #[.agg #[rv, zv, lv], .string nm] w (RsvPost (rsv b nm) w) := by
  have hr := hB.r
  have hz := hB.z
  have hl := hB.l
  obtain ⟨p1, c1, rfl, hlen1, hrow1⟩ := hr
  obtain ⟨p2, c2, rfl, hlen2, hrow2⟩ := hz
  obtain ⟨p3, c3, rfl, hlen3, hrow3⟩ := hl
  obtain ⟨W0, eW⟩ : ∃ W0, (w.alloc (.cells #[.slice p1 b.rules.length c1, .slice p2 b.zones.length c2, .slice p3 b.links.length c3] 31)).alloc (.cells #[.string ⟨#[]⟩, .slice none 0 0] 50) = W0 := ⟨_, rfl⟩
  have hb0 : Below w.heap.size w W0 := by rw [← eW]; exact ((Below.refl _ _).alloc (Nat.le_refl _) _).alloc (by simp) _
  have hbx : W0.heap[w.heap.size]? = some (.cells #[.slice p1 b.rules.length c1, .slice p2 b.zones.length c2, .slice p3 b.links.length c3] 31 (0, 0)) := by
    rw [← eW]
    exact (Below.heap_alloc _ _ _ (by simp)).trans (heap_alloc_new w _)
  have hrb : W0.heap[w.heap.size + 1]? = some (.cells #[.string ⟨#[]⟩, .slice none 0 0] 50 (0, 0)) := by
    rw [← eW]
    exact alloc_at _ _ _ (by simp)
  have hl0 : w.heap.size + 1 < W0.heap.size := by rw [← eW]; simp
  have x0 := (cell_of_row W0 _ 0 _ _ _ hbx).trans rfl
  have x1 := (cell_of_row W0 _ 1 _ _ _ hbx).trans rfl
  have x2 := (cell_of_row W0 _ 2 _ _ _ hbx).trans rfl
  have HEW := Lib.hid eW
  have HB0 := Lib.hid hb0
  have HRB := Lib.hid hrb
  have HOF := Lib.hid (namesOf_any b _ _ _ W0 ((hB.below hb0 (Nat.le_refl _)).baseN (by omega)) (hm.below hb0) (ht.below hb0))
  have HEV := Lib.hid hB.e
  have HLS := Lib.hid hB.ls
  have HBD := Lib.hid (rsv_bad (b := b) (nm := nm))
  have HGO := Lib.hid (rsv_go (b := b) (nm := nm))
  have HER := Lib.hid (bk_er (b := b))
  obtain ⟨R, eR⟩ : ∃ R, rsv b nm = R := ⟨_, rfl⟩
  rw [eR] at HBD HGO ⊢
  clear eW hb0 hbx hrb hB hm ht hrow1 hrow2 hrow3 eR
  go_enter Tryz.func69, Tryz.ntmps69
  go_upto_region 1 with fail
  rw [HEW.out]
  go_wp2_with fail
  refine HOF.out.mono ?_
  rintro e w1 ⟨hb1, hbad, hgood⟩
  have HB1 := Lib.hid (HB0.out.trans (hb1.mono HB0.out.size))
  have hx1 := (hb1.block (w.heap.size + 1) hl0).trans HRB.out
  have HX1 := Lib.hid hx1
  have hl1 : w.heap.size + 1 < w1.heap.size := by have := hb1.size; omega
  have r0 : w1.cell? ⟨w.heap.size + 1, 0, none⟩ = some (.string ⟨#[]⟩) := (cell_of_row w1 _ 0 _ _ _ hx1).trans rfl
  have r1 : w1.cell? ⟨w.heap.size + 1, 1, none⟩ = some (.slice none 0 0) := (cell_of_row w1 _ 1 _ _ _ hx1).trans rfl
  have f0 : w1.frozen? ⟨w.heap.size + 1, 0, none⟩ = false := by simp [World.frozen?, hx1]
  have f1 : w1.frozen? ⟨w.heap.size + 1, 1, none⟩ = false := by simp [World.frozen?, hx1]
  have hs1 : W0.heap.size ≤ w1.heap.size := hb1.size
  by_cases hC : bkChk b = 0
  case neg =>
    have he := hbad hC
    subst he
    have HE := Lib.hid (HBD.out hC)
    have hz : (bkChk b == 0) = false := by simpa using hC
    have hz2 : (!bkChk b == 0) = true := by rw [hz]; rfl
    clear hb1 hbad hgood hx1 hC x0 x1 x2
    go_wp2_with fail
    obtain ⟨W9, e9, hh9, hb9⟩ := end_two HX1.out (.string ⟨#[]⟩) (.slice none 0 0)
    rw [e9]
    have v0 := (cell_of_row W9 _ 0 _ _ _ hh9).trans rfl
    have v1 := (cell_of_row W9 _ 1 _ _ _ hh9).trans rfl
    have HBF : Below w.heap.size w W9 := HB1.out.trans (hb9 _ (by omega))
    refine bodyPost_ret (v := .tuple #[.agg #[.string ⟨#[]⟩, .slice none 0 0], .int .i64 (bkChk b)]) (by simp [results, Tryz.results69, go_sem, v0, v1]) rfl ?_
    rw [HE.out]
    exact ⟨_, rfl, World.ownsRow_nil _ _ _ _, HBF⟩
  case pos =>
  obtain ⟨pb, bz, bl, nz, nl, he, hP, hnl, -⟩ := hgood hC
  subst he
  have hEv : EvOk b.zones := fun z hz => by
    obtain ⟨p, c, e, -⟩ := HEV.out z hz
    exact ⟨p, c, e⟩
  have HRE := Lib.hid (resolve_any _ pb bz bl nz nl b.zones b.links nm w1 hP hEv (fun x hx => (HLS.out x hx).2) hn hnl)
  have hgo := HGO.out hC
  rw [← hgo] at HRE
  have HER2 := Lib.hid (fun z hz => HER.out hC (z := z) hz)
  have hRin : ∀ z, R.1 = some z → z ∈ b.zones ∧ R.2 = 0 := by
    intro z hz
    obtain ⟨R1, R2⟩ := R
    simp only at hz
    subst hz
    exact resF_in hgo.symm
  have HRI := Lib.hid hRin
  have HP1 := Lib.hid hP
  clear hb1 hbad hgood hx1 hC x0 x1 x2 r0 r1 f0 f1 hP hEv hgo hRin HGO HBD HER HOF
  go_wp2_with fail
  refine HRE.out.mono ?_
  obtain ⟨Z, C⟩ := R
  rintro e w2 ⟨rfl, hb2⟩
  simp only at HRI ⊢
  have HB2 := Lib.hid (HB1.out.trans (hb2.mono HB1.out.size))
  have hx2 := (hb2.block (w.heap.size + 1) hl1).trans HX1.out
  have hs2 : w1.heap.size ≤ w2.heap.size := hb2.size
  have key : ∃ znm p c ers, zoVal Z = .agg #[.string znm, .slice p ers.length c] ∧ zNm Z = znm ∧ zEr Z = ers ∧ ers.length ≤ 1000 ∧ RowsAt erL 5 w.heap.size w2 (.slice p ers.length c) ers := by
    cases Z with
    | none => exact ⟨⟨#[]⟩, none, 0, [], rfl, rfl, rfl, by simp, ⟨none, 0, rfl, ⟨by simp, by simp⟩, fun h => absurd rfl h⟩⟩
    | some z =>
      obtain ⟨hz, -⟩ := HRI.out z rfl
      have h1 := (HEV.out z hz).below HB2.out (Nat.le_refl _)
      obtain ⟨p, c, e, r⟩ := h1
      refine ⟨z.nm, p, c, z.eras, ?_, rfl, rfl, by have := (HER2.out z hz).2; omega, ⟨p, c, rfl, r⟩⟩
      show Value.agg #[.string z.nm, z.ev] = _
      rw [e]
  obtain ⟨znm, p, c, ers, e1, e2, e3, hle, hrow⟩ := key
  rw [e1]
  have HE2 := Lib.hid e2
  have HE3 := Lib.hid e3
  obtain ⟨W3, eW3⟩ : ∃ W3, w2.alloc (.cells #[.string znm, .slice p ers.length c] 50) = W3 := ⟨_, rfl⟩
  have hb3 : Below w2.heap.size w2 W3 := by rw [← eW3]; exact (Below.refl _ _).alloc (Nat.le_refl _) _
  have hx3 : W3.heap[w2.heap.size]? = some (.cells #[.string znm, .slice p ers.length c] 50 (0, 0)) := by rw [← eW3]; exact heap_alloc_new w2 _
  have hz3 : W3.heap.size = w2.heap.size + 1 := by rw [← eW3]; simp
  have HB3 := Lib.hid (HB2.out.trans (hb3.mono HB2.out.size))
  have hr3 := (hb3.block (w.heap.size + 1) (by omega)).trans hx2
  have HR3 := Lib.hid hr3
  have HX3 := Lib.hid hx3
  have q1 := (cell_of_row W3 _ 1 _ _ _ hx3).trans rfl
  have HCL := Lib.hid (CloneEr_any ers _ w.heap.size W3 (hrow.below (hb3.mono HB2.out.size) (Nat.le_refl _)) hle)
  have HEW3 := Lib.hid eW3
  obtain ⟨tb, etb⟩ : ∃ tb, w2.heap.size = tb := ⟨_, rfl⟩
  rw [etb] at hz3 hs2 HX3 q1
  have HTB := Lib.hid etb
  clear hb2 hx2 e1 e2 e3 hrow eW3 hb3 hr3 HRI HRE HER2 HEV hx3 HX1 etb
  go_upto_region 5 with fail
  rw [HEW3.out, HTB.out]
  go_wp2_with fail
  refine HCL.out.mono ?_
  rintro e w4 ⟨vo, rfl, hrow4, hb4⟩
  obtain ⟨A, cA, rfl⟩ := own_sliceN hrow4
  have hs4 : W3.heap.size ≤ w4.heap.size := hb4.size
  have hx4 := (hb4.block tb (by omega)).trans HX3.out
  have hr4 := (hb4.block (w.heap.size + 1) (by omega)).trans HR3.out
  have HB4 := Lib.hid (HB3.out.trans (hb4.mono HB3.out.size))
  have HX4 := Lib.hid hx4
  have HR4 := Lib.hid hr4
  have HOW := Lib.hid hrow4
  have g0 : w4.cell? ⟨tb, 0, none⟩ = some (.string znm) := (cell_of_row w4 _ 0 _ _ _ hx4).trans rfl
  have g1 : w4.cell? ⟨tb, 1, none⟩ = some (.slice p ers.length c) := (cell_of_row w4 _ 1 _ _ _ hx4).trans rfl
  have gf : w4.frozen? ⟨tb, 1, none⟩ = false := by simp [World.frozen?, hx4]
  have r0 : w4.cell? ⟨w.heap.size + 1, 0, none⟩ = some (.string ⟨#[]⟩) := (cell_of_row w4 _ 0 _ _ _ hr4).trans rfl
  have r1 : w4.cell? ⟨w.heap.size + 1, 1, none⟩ = some (.slice none 0 0) := (cell_of_row w4 _ 1 _ _ _ hr4).trans rfl
  have f0 : w4.frozen? ⟨w.heap.size + 1, 0, none⟩ = false := by simp [World.frozen?, hr4]
  have f1 : w4.frozen? ⟨w.heap.size + 1, 1, none⟩ = false := by simp [World.frozen?, hr4]
  have htb : w.heap.size + 1 < tb := by omega
  have htb4 : tb < w4.heap.size := by omega
  clear hb4 hrow4 hx4 hr4 HCL q1
  go_wp2_with fail
  obtain ⟨W5, e5⟩ : ∃ W5, w4.setCell ⟨tb, 1, none⟩ (.slice A ers.length cA) = W5 := ⟨_, rfl⟩
  rw [e5]
  have hk5 : ∀ g, g ≠ tb → W5.heap[g]? = w4.heap[g]? := fun g hg => by rw [← e5]; exact Below.heap_setCell _ _ _ _ hg
  have hr5 : W5.heap[w.heap.size + 1]? = some (.cells #[.string ⟨#[]⟩, .slice none 0 0] 50 (0, 0)) := (hk5 _ (by omega)).trans HR4.out
  have hb5 : Below w.heap.size w W5 := by rw [← e5]; exact HB4.out.setCell (by show w.heap.size ≤ tb; omega) _
  obtain ⟨W9, e9, hh9, hb9⟩ := end_two hr5 (.string znm) (.slice A ers.length cA)
  rw [e9]
  have v0 := (cell_of_row W9 _ 0 _ _ _ hh9).trans rfl
  have v1 := (cell_of_row W9 _ 1 _ _ _ hh9).trans rfl
  have hk9 : ∀ g, g ≠ w.heap.size + 1 → W9.heap[g]? = W5.heap[g]? := fun g hg => by
    rw [← e9]
    exact (Below.heap_setCell _ _ _ _ hg).trans (Below.heap_setCell _ _ _ _ hg)
  have HBF : Below w.heap.size w W9 := hb5.trans (hb9 _ (by omega))
  have hown9 : W9.ownsRow w.heap.size 46 5 (.slice A ers.length cA) ers.length (erFlat ers) := by
    refine own_base (own_keep HOW.out fun g e => ?_) (show w.heap.size ≤ W3.heap.size by omega)
    have hg := (World.ownsRow.lt HOW.out g e).1
    exact (hk9 g (by omega)).trans (hk5 g (by omega))
  refine bodyPost_ret (v := .tuple #[.agg #[.string znm, .slice A ers.length cA], .int .i64 C]) (by simp [results, Tryz.results69, go_sem, v0, v1]) rfl ⟨.slice A ers.length cA, ?_, ?_, HBF⟩
  · show _ = Ending.returned (.tuple #[.agg #[.string (zNm Z), .slice A ers.length cA], .int .i64 C])
    rw [HE2.out]
  · show World.ownsRow _ _ _ _ _ (zEr Z).length (erFlat (zEr Z))
    rw [HE3.out]
    exact hown9
end Go.Proofs.YtmhfhmhjaecoaaaGreatDoor
