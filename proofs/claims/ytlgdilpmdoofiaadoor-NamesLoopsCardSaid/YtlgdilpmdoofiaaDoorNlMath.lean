/- NamesLoops: the plain facts. -/
import Derived.Test.YtlgdilpmdoofiaaDoorNm9
namespace Go.Proofs.YtlgdilpmdoofiaaDoor
open Go.RowKit Go.Joins Go.Maps Go.Sort
open Classical
set_option linter.unusedVariables false
set_option linter.unusedSimpArgs false

def zoneN : ByteArray := ⟨#[90, 111, 110, 101]⟩
def inB (r : List ByteArray) (s : ByteArray) : Bool := r.any fun x => decide (x = s)
theorem inB_eq (r : List ByteArray) (s : ByteArray) : inB r s = decide (s ∈ r) := by
  unfold inB
  rw [Bool.eq_iff_iff, List.any_eq_true, decide_eq_true_eq]
  exact ⟨fun ⟨x, hx, e⟩ => of_decide_eq_true e ▸ hx, fun h => ⟨s, h, decide_eq_true rfl⟩⟩
abbrev rdT (r : List ByteArray) (s : ByteArray) : Prop := nameB s = true ∧ s ≠ zoneN ∧ inB r s = false ∧ r.length < 20
def rdStep (r : List ByteArray) (s : ByteArray) : List ByteArray := if rdT r s then r ++ [s] else r
def rdF (l : List ByteArray) : List ByteArray := l.foldl rdStep []
theorem rdF_snoc {l : List ByteArray} {k : Nat} (h : k < l.length) : rdF (l.take (k + 1)) = rdStep (rdF (l.take k)) l[k] := by
  unfold rdF
  rw [List.take_add_one, List.getElem?_eq_getElem h, List.foldl_append]
  rfl
structure RdOk (r : List ByteArray) : Prop where
  nd : r.Pairwise (· ≠ ·)
  nm : ∀ s ∈ r, nameB s = true ∧ s ≠ zoneN
  le : r.length ≤ 20
theorem rdOk_step {r : List ByteArray} (h : RdOk r) (s : ByteArray) : RdOk (rdStep r s) := by
  unfold rdStep
  split
  · rename_i ht
    refine ⟨?_, fun t hm => ?_, ?_⟩
    · rw [List.pairwise_append]
      refine ⟨h.nd, List.pairwise_singleton _ _, fun a ha c hc e => ?_⟩
      rw [List.mem_singleton.1 hc] at e
      have := ht.2.2.1
      rw [inB_eq, decide_eq_false_iff_not] at this
      exact this (e ▸ ha)
    · rcases List.mem_append.1 hm with hm | hm
      · exact h.nm t hm
      · rw [List.mem_singleton.1 hm]; exact ⟨ht.1, ht.2.1⟩
    · rw [List.length_append, List.length_singleton]; have := ht.2.2.2; omega
  · exact h
theorem rdOk_fold : ∀ (l r : List ByteArray), RdOk r → RdOk (l.foldl rdStep r)
  | [], _, h => h
  | s :: l, r, h => rdOk_fold l _ (rdOk_step h s)
theorem rdF_ok (l : List ByteArray) : RdOk (rdF l) := rdOk_fold l [] ⟨List.Pairwise.nil, fun s h => absurd h (List.not_mem_nil), by simp⟩
/-- the links of the round -/
def lkAt (r : List ByteArray) (i : Nat) : Lk := ⟨r[i]?.getD ⟨#[]⟩, r[(i + 1) % r.length]?.getD ⟨#[]⟩⟩
def lks (r : List ByteArray) : List Lk := (List.range r.length).map (lkAt r)
theorem lks_len (r : List ByteArray) : (lks r).length = r.length := by simp [lks]
theorem lkAt_go {r : List ByteArray} {i : Nat} (h : i < r.length) : ∃ h2 : (i + 1) % r.length < r.length, lkAt r i = ⟨r[i], r[(i + 1) % r.length]⟩ := by
  have h2 : (i + 1) % r.length < r.length := Nat.mod_lt _ (by omega)
  refine ⟨h2, ?_⟩
  unfold lkAt
  rw [List.getElem?_eq_getElem h, List.getElem?_eq_getElem h2]
  rfl
theorem lks_at {r : List ByteArray} {i : Nat} (h : i < (lks r).length) : (lks r)[i] = lkAt r i := by simp [lks]
theorem lks_mem {r : List ByteArray} {x : Lk} (h : x ∈ lks r) : x.nm ∈ r ∧ x.to ∈ r := by
  obtain ⟨i, hi, rfl⟩ := List.mem_map.1 h
  have hi := List.mem_range.1 hi
  obtain ⟨h2, e⟩ := lkAt_go hi
  rw [e]
  exact ⟨List.getElem_mem _, List.getElem_mem _⟩
theorem lks_nm {r : List ByteArray} {s : ByteArray} (h : s ∈ r) : ∃ x ∈ lks r, x.nm = s ∧ x.to ∈ r := by
  obtain ⟨i, hi, rfl⟩ := List.mem_iff_getElem.1 h
  obtain ⟨h2, e⟩ := lkAt_go hi
  exact ⟨lkAt r i, List.mem_map.2 ⟨i, List.mem_range.2 hi, rfl⟩, by rw [e], by rw [e]; exact List.getElem_mem _⟩
def bkR (ev : Value) (r : List ByteArray) : Bk := ⟨[], [⟨zoneN, ev, [er0]⟩], lks r⟩
theorem bkR0_chk (ev : Value) : bkChk (bkR ev []) = 0 := by kernel_rfl
theorem bkR_chk (ev : Value) {r : List ByteArray} (h : RdOk r) : bkChk (bkR ev r) = 0 := by
  have hl : ¬ (40 < (bkR ev r).rules.length ∨ 20 < (bkR ev r).zones.length ∨ 20 < (bkR ev r).links.length) := by
    have := h.le
    show ¬ (40 < 0 ∨ 20 < 1 ∨ 20 < (lks r).length)
    rw [lks_len]
    omega
  have hz : firstE (chkZ (bkR ev r)) (List.range (bkR ev r).zones.length) = 0 := by
    refine (firstE_zero _ _).2 fun i hi => ?_
    have hi := List.mem_range.1 hi
    rw [chkZ_at _ i hi]
    exact (bk_parts (bkR0_chk ev)).1 i hi
  rw [bkChk_l _ hl rfl hz]
  refine (firstE_zero _ _).2 fun i hi => ?_
  have hi := List.mem_range.1 hi
  rw [chkL_at _ i hi]
  have hi' : i < r.length := by have := hi; rwa [show (bkR ev r).links = lks r from rfl, lks_len] at this
  obtain ⟨h2, e⟩ := lkAt_go hi'
  have e1 : (bkR ev r).links[i] = lkAt r i := lks_at (r := r) (by rw [lks_len]; exact hi')
  rw [e1, e]
  have hz2 : ∀ s ∈ r, isZone (bkR ev r) s = false := fun s hs => by
    unfold isZone
    rw [List.any_eq_false]
    intro z hz
    obtain rfl := List.mem_singleton.1 hz
    simpa using fun e => (h.nm s hs).2 e.symm
  refine linkChk_0 _ _ _ (h.nm _ (List.getElem_mem _)).1 (h.nm _ (List.getElem_mem _)).1 ?_ ?_
  · rw [hz2 _ (List.getElem_mem _)]
    rintro (h3 | h3)
    · cases h3
    · unfold isLink at h3
      rw [List.any_eq_true] at h3
      obtain ⟨y, hy, e2⟩ := h3
      have e2 := of_decide_eq_true e2
      obtain ⟨j, hj, rfl⟩ := List.mem_iff_getElem.1 hy
      rw [List.length_take] at hj
      have hjr : j < r.length := by omega
      rw [List.getElem_take, show (bkR ev r).links[j]'(by rw [show (bkR ev r).links = lks r from rfl, lks_len]; exact hjr) = lkAt r j from lks_at (r := r) (by rw [lks_len]; exact hjr)] at e2
      obtain ⟨h4, e3⟩ := lkAt_go hjr
      rw [e3] at e2
      exact List.pairwise_iff_getElem.1 h.nd j i hjr hi' (by omega) e2
  · rintro ⟨-, h3⟩
    obtain ⟨x, hx, e2, -⟩ := lks_nm (List.getElem_mem h2)
    have : isLink (bkR ev r).links r[(i + 1) % r.length] = true := by
      unfold isLink
      rw [List.any_eq_true]
      exact ⟨x, hx, decide_eq_true e2⟩
    rw [this] at h3
    cases h3
theorem bkR_loop (ev : Value) {r : List ByteArray} (h : RdOk r) : ∀ (n : Nat) (s : ByteArray), s ∈ r → resF (bkR ev r).zones (bkR ev r).links n s = (none, 8)
  | 0, _, _ => rfl
  | n + 1, s, hs => by
    have hz : lookF (fun z : Zo => z.nm) (bkR ev r).zones s = none := lookF_no (key := fun z : Zo => z.nm) fun z hz => by
      obtain rfl := List.mem_singleton.1 hz
      exact fun e => (h.nm s hs).2 e.symm
    obtain ⟨x, hx, rfl, hto⟩ := lks_nm hs
    have hl := lookF_uniq (key := fun x : Lk => x.nm) (links_uniq (bkR_chk ev h)) hx
    rw [resF_go hz hl]
    exact bkR_loop ev h n _ hto
theorem bkR_rsv (ev : Value) {r : List ByteArray} (h : RdOk r) {s : ByteArray} (hs : s ∈ r) : rsv (bkR ev r) s = (none, 8) := by
  rw [rsv_go (bkR_chk ev h)]
  exact bkR_loop ev h _ s hs
theorem bkR_all (ev : Value) {r : List ByteArray} (h : RdOk r) {ns : List ByteArray} (ha : AllN (bkR ev r) ns) : ns = [zoneN] := by
  have hm : ∀ s, s ∈ ns ↔ s = zoneN := by
    intro s
    rw [ha.mem]
    constructor
    · rintro (⟨z, hz, rfl⟩ | ⟨⟨x, hx, rfl⟩, ho⟩)
      · obtain rfl := List.mem_singleton.1 hz; rfl
      · exfalso
        unfold okN at ho
        rw [bkR_loop ev h _ _ (lks_mem hx).1] at ho
        exact absurd (of_decide_eq_true ho) (by decide)
    · rintro rfl
      exact .inl ⟨_, List.mem_singleton.2 rfl, rfl⟩
  cases ns with
  | nil => exact absurd ((hm zoneN).2 rfl) (List.not_mem_nil)
  | cons a l =>
    obtain rfl := (hm a).1 (List.mem_cons_self ..)
    cases l with
    | nil => rfl
    | cons c l =>
      obtain rfl := (hm c).1 (List.mem_cons_of_mem _ (List.mem_cons_self ..))
      exact absurd rfl ((List.pairwise_cons.1 ha.nd).1 _ (List.mem_cons_self ..))
theorem nameB_sz {s : ByteArray} (h : nameB s = true) : s.size ≤ 20 := by
  unfold nameB allB at h
  simp only [Bool.and_eq_true, decide_eq_true_eq] at h
  omega
end Go.Proofs.YtlgdilpmdoofiaaDoor
