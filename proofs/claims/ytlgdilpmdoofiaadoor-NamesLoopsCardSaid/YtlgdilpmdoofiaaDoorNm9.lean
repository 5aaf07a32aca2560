/- All names, sorted: the plain facts. -/
import Derived.Test.YtlgdilpmdoofiaaDoorNm8
import Derived.Test.YtlgdilpmdoofiaaDoorNmW
import Derived.Test.YtlgdilpmdoofiaaDoorStrs
namespace Go.Proofs.YtlgdilpmdoofiaaDoor
open Go.RowKit Go.Joins Go.Maps Go.Sort
open Classical
set_option linter.unusedVariables false
set_option linter.unusedSimpArgs false

theorem bytesLess_eqN : ∀ (a b : List UInt8), Op.bytesLess a b = decide (a < b)
  | [], [] => by simp [Op.bytesLess]
  | [], y :: s => by simp [Op.bytesLess]
  | x :: r, [] => by simp [Op.bytesLess]
  | x :: r, y :: s => by
    have ih := bytesLess_eqN r s
    simp only [Op.bytesLess, ih]
    rw [Bool.eq_iff_iff]
    simp [List.cons_lt_cons_iff]
theorem txt_toList (l : List UInt8) : (txt l).toList = l := by rw [ByteArray.toList_eq, txt_data]
theorem leB_sorted (l : List (List UInt8)) : (l.mergeSort leB).Pairwise fun a b => leB a b = true := by
  have tr : ∀ a b c : List UInt8, leB a b = true → leB b c = true → leB a c = true := fun a b c h1 h2 => by simp only [leB, decide_eq_true_eq] at *; exact List.le_trans h1 h2
  have tot : ∀ a b : List UInt8, (leB a b || leB b a) = true := fun a b => by simp only [leB, Bool.or_eq_true, decide_eq_true_eq]; exact List.le_total a b
  exact List.pairwise_mergeSort tr tot l
structure SrtL (b : Bk) (L : List ByteArray) : Prop where
  le : L.length ≤ b.zones.length + b.links.length
  up : ∀ i (hi : i + 1 < L.length), L[i].data.toList < L[i + 1].data.toList
  ok : ∀ s ∈ L, (rsv b s).2 = 0
  all : ∀ z ∈ b.zones, z.nm ∈ L
  of : ∀ s ∈ L, (∃ z ∈ b.zones, z.nm = s) ∨ ∃ x ∈ b.links, x.nm = s
theorem allN_le {b : Bk} {l : List ByteArray} (ha : AllN b l) : l.length ≤ b.zones.length + b.links.length := by
  have := pigeon l (b.zones.map (·.nm) ++ b.links.map (·.nm)) ha.nd fun s hs => by
    rcases (ha.mem s).1 hs with ⟨z, hz, rfl⟩ | ⟨⟨x, hx, rfl⟩, -⟩
    · exact List.mem_append_left _ (List.mem_map_of_mem hz)
    · exact List.mem_append_right _ (List.mem_map_of_mem hx)
  simpa using this
theorem srt_facts {b : Bk} {ns : List ByteArray} (h : bkChk b = 0) (ha : AllN b ns) : ∃ L : List ByteArray, (bsL ns).mergeSort leB = bsL L ∧ L.length = ns.length ∧ SrtL b L := by
  have hp : ((bsL ns).mergeSort leB).Perm (bsL ns) := List.mergeSort_perm _ _
  have hpl := hp.length_eq
  have hbl : (bsL ns).length = ns.length := by simp [bsL]
  have hnd : (bsL ns).Nodup := List.pairwise_map.2 (ha.nd.imp fun {a c} hne e => hne (by
    have : a.data = c.data := by simpa using congrArg List.toArray e
    cases a; cases c; simp_all))
  have hnd2 := hp.nodup_iff.2 hnd
  have hs := leB_sorted (bsL ns)
  have hmem : ∀ t, (t : List UInt8) ∈ (bsL ns).mergeSort leB → (⟨t.toArray⟩ : ByteArray) ∈ ns := by
    intro t ht
    obtain ⟨s, hs, rfl⟩ := List.mem_map.1 (hp.mem_iff.1 ht)
    simpa using hs
  refine ⟨((bsL ns).mergeSort leB).map fun t => ⟨t.toArray⟩, ?_, by rw [List.length_map, hpl, hbl], ⟨?_, fun i hi => ?_, fun s hs => ?_, fun z hz => ?_, fun s hs => ?_⟩⟩
  · unfold bsL
    rw [List.map_map]
    exact ((List.map_congr_left fun s _ => by simp).trans (List.map_id _)).symm
  · rw [List.length_map, hpl, hbl]; exact allN_le ha
  · rw [List.length_map] at hi
    have h1 := List.pairwise_iff_getElem.1 hs i (i + 1) (by omega) hi (by omega)
    have h2 := List.pairwise_iff_getElem.1 hnd2 i (i + 1) (by omega) hi (by omega)
    simp only [leB, decide_eq_true_eq] at h1
    simp only [List.getElem_map]
    exact Classical.byContradiction fun g => h2 (List.le_antisymm h1 (List.not_lt.1 g))
  · obtain ⟨t, ht, rfl⟩ := List.mem_map.1 hs
    rcases (ha.mem _).1 (hmem t ht) with ⟨z, hz, e⟩ | ⟨-, e⟩
    · rw [← e, rsv_zone h hz]
    · rw [rsv_go h]; exact of_decide_eq_true e
  · refine List.mem_map.2 ⟨z.nm.data.toList, hp.mem_iff.2 (List.mem_map.2 ⟨z.nm, (ha.mem _).2 (.inl ⟨z, hz, rfl⟩), rfl⟩), by simp⟩
  · obtain ⟨t, ht, rfl⟩ := List.mem_map.1 hs
    rcases (ha.mem _).1 (hmem t ht) with h1 | ⟨h1, -⟩
    · exact .inl h1
    · exact .inr h1
theorem own_strs {W : World} {B : Nat} {T : TypeId} {v : Value} {l : List ByteArray} (h : W.ownsRow B T 1 v l.length (l.map Value.string)) (hl : l.length ≤ 100000) : RowsAt stL 1 W.heap.size W v l := by
  have e : l.map Value.string = l.flatMap stL := by
    clear h hl
    induction l with
    | nil => rfl
    | cons a l ih => rw [List.map_cons, ih]; rfl
  rw [e] at h
  exact own_rowsN (k := 1) (fun _ => rfl) h hl
end Go.Proofs.YtlgdilpmdoofiaaDoor
