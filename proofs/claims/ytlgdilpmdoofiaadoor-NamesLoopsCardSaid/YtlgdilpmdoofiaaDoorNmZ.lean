/- NamesZones: the plain law: a zone's name leads to it, a link where its target leads. -/
import Derived.Test.YtlgdilpmdoofiaaDoorNm3
namespace Go.Proofs.YtlgdilpmdoofiaaDoor
open Go.RowKit Go.Joins Go.Maps
open Classical
set_option linter.unusedVariables false
set_option linter.unusedSimpArgs false

theorem pigeon {α : Type} [DecidableEq α] : ∀ (l m : List α), l.Pairwise (· ≠ ·) → (∀ x ∈ l, x ∈ m) → l.length ≤ m.length
  | [], m, _, _ => Nat.zero_le _
  | x :: r, m, hp, hm => by
    have hx := hm x (List.mem_cons_self ..)
    have h1 := pigeon r (m.erase x) (List.Pairwise.of_cons hp) fun y hy => by
      have hne : y ≠ x := fun e => (List.rel_of_pairwise_cons hp hy) e.symm
      exact (List.mem_erase_of_ne hne).2 (hm y (List.mem_cons_of_mem _ hy))
    rw [List.length_erase_of_mem hx] at h1
    have : 0 < m.length := List.length_pos_of_mem hx
    simp only [List.length_cons]
    omega
section
variable {α : Type} {key : α → ByteArray}
theorem lookF_keep {k : ByteArray} : ∀ (l : List α) (x : α), (l.foldl (fun acc x => if key x = k then some x else acc) (some x)).isSome = true
  | [], x => rfl
  | y :: r, x => by
    rw [List.foldl_cons]
    by_cases h : key y = k
    · rw [if_pos h]; exact lookF_keep r y
    · rw [if_neg h]; exact lookF_keep r x
theorem lookF_has {k : ByteArray} : ∀ (l : List α) (acc : Option α), (∃ x ∈ l, key x = k) → (l.foldl (fun acc x => if key x = k then some x else acc) acc).isSome = true
  | [], acc, h => by obtain ⟨x, hx, -⟩ := h; cases hx
  | y :: r, acc, h => by
    rw [List.foldl_cons]
    by_cases hy : key y = k
    · rw [if_pos hy]; exact lookF_keep r y
    · rw [if_neg hy]
      obtain ⟨x, hx, e⟩ := h
      rcases List.mem_cons.1 hx with rfl | hx
      · exact absurd e hy
      · exact lookF_has r acc ⟨x, hx, e⟩
theorem lookF_uniq {l : List α} (hu : ∀ x ∈ l, ∀ y ∈ l, key x = key y → x = y) {x : α} (hx : x ∈ l) : lookF key l (key x) = some x := by
  have h := lookF_has (key := key) (k := key x) l none ⟨x, hx, rfl⟩
  cases e : lookF key l (key x) with
  | none => unfold lookF at e; rw [e] at h; cases h
  | some y =>
    obtain ⟨hy, hk⟩ := lookF_in e
    rw [hu y hy x hx hk]
theorem lookF_no {l : List α} {k : ByteArray} (h : ∀ x ∈ l, key x ≠ k) : lookF key l k = none := by
  cases e : lookF key l k with
  | none => rfl
  | some y =>
    obtain ⟨hy, hk⟩ := lookF_in e
    exact absurd hk (h y hy)
theorem uniq_of {l : List α} (h : ∀ i (hi : i < l.length), ∀ y ∈ l.take i, key y ≠ key l[i]) : ∀ x ∈ l, ∀ y ∈ l, key x = key y → x = y := by
  intro x hx y hy e
  obtain ⟨i, hi, rfl⟩ := List.mem_iff_getElem.1 hx
  obtain ⟨j, hj, rfl⟩ := List.mem_iff_getElem.1 hy
  rcases Nat.lt_trichotomy i j with hij | hij | hij
  · exact absurd e (h j hj _ (List.mem_take_iff_getElem.2 ⟨i, by omega, rfl⟩))
  · subst hij; rfl
  · exact absurd e.symm (h i hi _ (List.mem_take_iff_getElem.2 ⟨j, by omega, rfl⟩))
end
structure LinkOk (b : Bk) (i : Nat) (x : Lk) : Prop where
  nm : nameB x.nm = true
  tt : nameB x.to = true
  nz : ∀ z ∈ b.zones, z.nm ≠ x.nm
  fresh : ∀ y ∈ b.links.take i, y.nm ≠ x.nm
  tgt : (∃ z ∈ b.zones, z.nm = x.to) ∨ ∃ y ∈ b.links, y.nm = x.to
theorem bk_link {b : Bk} (h : bkChk b = 0) (i : Nat) (hi : i < b.links.length) : LinkOk b i b.links[i] := by
  have hz := (bk_parts h).2 i hi
  unfold linkChk at hz
  split at hz
  · cases hz
  · rename_i h1
    split at hz
    · cases hz
    · rename_i h2
      split at hz
      · cases hz
      · rename_i h3
        rw [not_or] at h1 h2
        refine ⟨by simpa using h1.1, by simpa using h1.2, fun z hz e => h2.1 (List.any_eq_true.2 ⟨z, hz, by simpa using e⟩), fun y hy e => h2.2 (List.any_eq_true.2 ⟨y, hy, by simpa using e⟩), ?_⟩
        by_cases g : isZone b b.links[i].to = false
        · have g2 : isLink b.links b.links[i].to = true := by
            cases e : isLink b.links b.links[i].to with
            | true => rfl
            | false => exact absurd ⟨g, e⟩ h3
          obtain ⟨y, hy, e⟩ := List.any_eq_true.1 g2
          exact .inr ⟨y, hy, by simpa using e⟩
        · have g1 : isZone b b.links[i].to = true := by simpa using g
          obtain ⟨z, hz, e⟩ := List.any_eq_true.1 g1
          exact .inl ⟨z, hz, by simpa using e⟩
theorem zones_uniq {b : Bk} (h : bkChk b = 0) : ∀ x ∈ b.zones, ∀ y ∈ b.zones, x.nm = y.nm → x = y := uniq_of (key := fun z : Zo => z.nm) fun i hi => (bk_zone h i hi).fresh
theorem links_uniq {b : Bk} (h : bkChk b = 0) : ∀ x ∈ b.links, ∀ y ∈ b.links, x.nm = y.nm → x = y := uniq_of (key := fun z : Lk => z.nm) fun i hi => (bk_link h i hi).fresh
theorem rsv_zone {b : Bk} (h : bkChk b = 0) {z : Zo} (hz : z ∈ b.zones) : rsv b z.nm = (some z, 0) := by
  rw [rsv_go h]
  exact resF_z (lookF_uniq (key := fun z : Zo => z.nm) (zones_uniq h) hz)

def tgtF (ls : List Lk) (k : ByteArray) : ByteArray := match lookF (·.nm) ls k with | some x => x.to | none => k
def itr (ls : List Lk) : Nat → ByteArray → ByteArray
  | 0, k => k
  | j + 1, k => itr ls j (tgtF ls k)
theorem itr_add (ls : List Lk) : ∀ (a c : Nat) (k : ByteArray), itr ls (a + c) k = itr ls c (itr ls a k)
  | 0, c, k => by rw [Nat.zero_add]; rfl
  | a + 1, c, k => by
    rw [show a + 1 + c = (a + c) + 1 by omega]
    exact itr_add ls a c (tgtF ls k)
def IsL (zs : List Zo) (ls : List Lk) (k : ByteArray) : Prop := lookF (·.nm) zs k = none ∧ (lookF (·.nm) ls k).isSome = true
theorem path_of {zs : List Zo} {ls : List Lk} : ∀ (n : Nat) (k : ByteArray), resF zs ls (n + 1) k ≠ resF zs ls n k → (∀ j, j < n → IsL zs ls (itr ls j k)) ∧ ¬ IsL zs ls (itr ls n k)
  | 0, k, h => by
    refine ⟨fun j hj => absurd hj (Nat.not_lt_zero j), fun hl => h ?_⟩
    obtain ⟨h1, h2⟩ := hl
    obtain ⟨x, hx⟩ := Option.isSome_iff_exists.1 h2
    exact resF_go h1 hx
  | n + 1, k, h => by
    cases hz : lookF (·.nm) zs k with
    | some z => exact absurd (by rw [resF_z hz, resF_z hz]) h
    | none =>
      cases hl : lookF (·.nm) ls k with
      | none => exact absurd (by rw [resF_none hz hl, resF_none hz hl]) h
      | some x =>
        rw [resF_go hz hl, resF_go hz hl] at h
        obtain ⟨h1, h2⟩ := path_of n x.to h
        have ht : tgtF ls k = x.to := by unfold tgtF; rw [hl]
        refine ⟨fun j hj => ?_, ?_⟩
        · cases j with
          | zero => exact ⟨hz, by show (lookF (·.nm) ls k).isSome = true; rw [hl]; rfl⟩
          | succ j =>
            show IsL zs ls (itr ls j (tgtF ls k))
            rw [ht]
            exact h1 j (by omega)
        · show ¬ IsL zs ls (itr ls n (tgtF ls k))
          rw [ht]
          exact h2
theorem path_inj {zs : List Zo} {ls : List Lk} {n : Nat} {k : ByteArray} (h1 : ∀ j, j < n → IsL zs ls (itr ls j k)) (h2 : ¬ IsL zs ls (itr ls n k)) {i j : Nat} (hij : i < j) (hj : j ≤ n) : itr ls i k ≠ itr ls j k := by
  intro e
  refine h2 ?_
  have e1 : itr ls n k = itr ls (n - j) (itr ls j k) := by rw [← itr_add]; congr 1; omega
  have e2 : itr ls (i + (n - j)) k = itr ls (n - j) (itr ls i k) := itr_add ..
  rw [e1, ← e, ← e2]
  exact h1 _ (by omega)
theorem size_DL {b : Bk} (h : bkChk b = 0) : Maps.size (DL b.links) = b.links.length := by
  have key : ∀ (k : Nat), k ≤ b.links.length → Maps.size (DL (b.links.take k)) = k ∧ Tidy (DL (b.links.take k)) := by
    intro k
    induction k with
    | zero => intro _; exact ⟨rfl, tidy_empty⟩
    | succ k ih =>
      intro hk
      obtain ⟨h1, h2⟩ := ih (by omega)
      have hn : has (DL (b.links.take k)) (kyS b.links[k].nm) = false := by
        have e := (Dof_has (·.nm) (fun x : Lk => .string x.to) (b.links.take k) b.links[k].nm).1
        have e2 : lookF (fun x : Lk => x.nm) (b.links.take k) b.links[k].nm = none := lookF_no (key := fun x : Lk => x.nm) (bk_link h k (by omega)).fresh
        rw [e2] at e
        exact e
      rw [take_succN _ _ (by omega), DL_snoc]
      refine ⟨?_, h2.put (show WideAt.IsKeyLit (kyS b.links[k].nm) from trivial) _⟩
      rw [size_put h2, hn, h1]
      rfl
  have := (key b.links.length (Nat.le_refl _)).1
  rwa [List.take_length] at this
theorem link_same {b : Bk} (h : bkChk b = 0) {l : Lk} (hl : l ∈ b.links) : resF b.zones b.links (b.links.length + 1) l.to = resF b.zones b.links b.links.length l.to := by
  apply Classical.byContradiction
  intro hne
  obtain ⟨h1, h2⟩ := path_of _ _ hne
  obtain ⟨n, hn⟩ : ∃ n, b.links.length = n := ⟨_, rfl⟩
  rw [hn] at h1 h2
  have hll := lookF_uniq (key := fun x : Lk => x.nm) (links_uniq h) hl
  have ht : tgtF b.links l.nm = l.to := by unfold tgtF; rw [hll]
  have hpig := pigeon (l.nm :: (List.range n).map fun j => itr b.links j l.to) (b.links.map fun x => x.nm) ?_ ?_
  · simp at hpig
    omega
  · refine List.pairwise_cons.2 ⟨fun y hy e => ?_, ?_⟩
    · obtain ⟨j, hj, rfl⟩ := List.mem_map.1 hy
      have hj := List.mem_range.1 hj
      refine path_inj h1 h2 (i := 0) (j := j + 1) (by omega) (by omega) ?_
      have e2 : itr b.links (j + 1) l.to = itr b.links 1 (itr b.links j l.to) := itr_add ..
      rw [e2, ← e]
      exact ht.symm
    · rw [List.pairwise_map]
      refine List.Pairwise.imp_of_mem ?_ (List.pairwise_lt_range (n := n))
      intro i j hi hj hij
      exact path_inj h1 h2 hij (by have := List.mem_range.1 hj; omega)
  · intro y hy
    rcases List.mem_cons.1 hy with rfl | hy
    · exact List.mem_map_of_mem hl
    · obtain ⟨j, hj, rfl⟩ := List.mem_map.1 hy
      obtain ⟨-, g⟩ := h1 j (List.mem_range.1 hj)
      obtain ⟨x, hx⟩ := Option.isSome_iff_exists.1 g
      obtain ⟨hx1, hx2⟩ := lookF_in hx
      rw [← hx2]
      exact List.mem_map_of_mem hx1
theorem resF_code {b : Bk} (h : bkChk b = 0) : ∀ (n : Nat) (k : ByteArray), ((∃ z ∈ b.zones, z.nm = k) ∨ ∃ y ∈ b.links, y.nm = k) → (resF b.zones b.links n k).2 = 0 ∨ (resF b.zones b.links n k).2 = 8
  | 0, k, _ => .inr rfl
  | n + 1, k, hk => by
    cases hz : lookF (·.nm) b.zones k with
    | some z => rw [resF_z hz]; exact .inl rfl
    | none =>
      cases hl : lookF (·.nm) b.links k with
      | none =>
        rcases hk with ⟨z, hz2, rfl⟩ | ⟨y, hy, rfl⟩
        · have := lookF_uniq (key := fun z : Zo => z.nm) (zones_uniq h) hz2
          rw [this] at hz; cases hz
        · have := lookF_uniq (key := fun z : Lk => z.nm) (links_uniq h) hy
          rw [this] at hl; cases hl
      | some x =>
        rw [resF_go hz hl]
        obtain ⟨i, hi, e⟩ := List.mem_iff_getElem.1 (lookF_in hl).1
        have := (bk_link h i hi).tgt
        rw [e] at this
        exact resF_code h n x.to this
/-- a link leads where its target leads, or nowhere, round -/
theorem rsv_link {b : Bk} (h : bkChk b = 0) {l : Lk} (hl : l ∈ b.links) : rsv b l.nm = rsv b l.to ∧ ((rsv b l.nm).2 = 0 ∨ (rsv b l.nm).2 = 8) := by
  have hll := lookF_uniq (key := fun x : Lk => x.nm) (links_uniq h) hl
  obtain ⟨i, hi, e⟩ := List.mem_iff_getElem.1 hl
  have hok := bk_link h i hi
  rw [e] at hok
  have hz : lookF (fun z : Zo => z.nm) b.zones l.nm = none := lookF_no (key := fun z : Zo => z.nm) hok.nz
  rw [rsv_go h, rsv_go h, size_DL h]
  refine ⟨?_, resF_code h _ _ (.inr ⟨l, hl, rfl⟩)⟩
  rw [resF_go hz hll]
  exact (link_same h hl).symm
end Go.Proofs.YtlgdilpmdoofiaaDoor
