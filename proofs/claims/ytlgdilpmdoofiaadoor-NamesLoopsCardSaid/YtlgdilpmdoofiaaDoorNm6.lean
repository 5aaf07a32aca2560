/- names.All: the walk, over the library's contracts. -/
import Derived.Test.YtlgdilpmdoofiaaDoorNm4
import Derived.Test.YtlgdilpmdoofiaaDoorNm5
import Derived.Sort.KeysCollected
import Derived.Sort.OwnSorted
import Derived.Sort.EncStr
namespace Go.Proofs.YtlgdilpmdoofiaaDoor
open Go.RowKit Go.Joins Go.Maps Go.Sort
open Classical
set_option linter.unusedVariables false
set_option linter.unusedSimpArgs false

def bsL (l : List ByteArray) : List (List UInt8) := l.map fun s => s.data.toList
theorem encStr_of (s : ByteArray) : encStr s.data.toList = .string s := by simp [encStr]
theorem bsL_enc (l : List ByteArray) : (bsL l).map encStr = l.map Value.string := by
  unfold bsL
  rw [List.map_map]
  exact List.map_congr_left fun s _ => encStr_of s
/-- slices.Sort at strings, on a row of one's own -/
def SortStrSays : Prop := ∀ (ns : List (List UInt8)) (v : Value) (base : Nat) (W : World), W.ownsRow base 9 1 v ns.length (ns.map encStr) → ns.length ≤ 100000 → Calls Tryd.prog 54 #[v] W fun e w' => e = .returned (.tuple #[]) ∧ w'.ownsRow base 9 1 v ns.length ((ns.mergeSort leB).map encStr) ∧ W.grownBy w' v.ownBlock
def keysFn (w : World) : Value := .func (.func 78) #[] #[.pointer (some ⟨w.heap.size, 0, none⟩)]
def keysW (w : World) (b : Nat) : World := w.alloc (.cells #[.map (some b)] 111)
/-- slices.Sorted(maps.Keys(m)) -/
def KeysSays : Prop := ∀ (b n : Nat) (D : DataW Value) (w : World), w.ownsMap Tryd.prog 9 heldV b n D → n ≤ 100000 →
  Calls Tryd.prog 53 #[.map (some b)] w (fun e w' => e = .returned (keysFn w) ∧ w' = keysW w b) ∧
  Calls Tryd.prog 52 #[keysFn w] (keysW w b) (fun e w' => ∃ v ss, e = .returned v ∧ List.Perm ss (strKeys D) ∧ w'.ownsRow (keysW w b).heap.size 9 1 v ss.length ((ss.mergeSort leB).map encStr) ∧ Below (keysW w b).heap.size (keysW w b) w')
theorem strKeys_facts {W : World} {b n : Nat} {D : DataW Value} (h : W.ownsMap Tryd.prog 9 heldV b n D) : (strKeys D).Nodup ∧ ∀ x, x ∈ strKeys D ↔ has D (.string x) = true := by
  obtain ⟨es, rfl, hk⟩ := h.keysOf
  obtain ⟨es2, e, hp⟩ := h.tidy keyS
  have e : es = es2 := by injection e
  subst e
  have hs : ∀ p ∈ es, ∃ x, p.1 = .string x := by
    intro p hp
    obtain ⟨v, hv⟩ := hk p hp
    obtain ⟨s, -, e, -⟩ := keyOf_str_inv hv
    exact ⟨_, e⟩
  refine ⟨?_, fun x => ?_⟩
  · show (es.map fun p => strOf p.1).Nodup
    refine List.pairwise_map.2 (hp.imp_of_mem fun {p q} hp' hq' hne e => hne ?_)
    obtain ⟨a, ha⟩ := hs p hp'
    obtain ⟨c, hc⟩ := hs q hq'
    rw [ha, hc] at e ⊢
    exact congrArg _ e
  · rw [has_eq, List.any_eq_true]
    show x ∈ es.map (fun p => strOf p.1) ↔ _
    rw [List.mem_map]
    constructor
    · rintro ⟨p, hp2, e⟩
      obtain ⟨a, ha⟩ := hs p hp2
      rw [ha] at e
      refine ⟨p, hp2, ?_⟩
      rw [ha, ← e]
      exact WideAt.sameKey_self (show WideAt.IsKeyLit (.string a) from trivial)
    · rintro ⟨p, hp2, e⟩
      obtain ⟨a, ha⟩ := hs p hp2
      refine ⟨p, hp2, ?_⟩
      rw [ha] at e ⊢
      apply Classical.byContradiction
      intro hne
      rw [sameKey_ne (fun g => hne (by injection g))] at e
      cases e
theorem has_zone (b : Bk) (s : ByteArray) : has (DZ b.zones) (kyS s) = decide (∃ x ∈ b.zones, x.nm = s) := by
  have e := (Dof_has (·.nm) zoV b.zones s).1
  have e2 : DZ b.zones = Dof (·.nm) zoV b.zones := rfl
  rw [e2, e]
  by_cases h : ∃ x ∈ b.zones, x.nm = s
  · rw [decide_eq_true h]; exact lookF_has (key := fun x : Zo => x.nm) b.zones none h
  · rw [decide_eq_false h, lookF_no (key := fun x : Zo => x.nm) (fun x hx e => h ⟨x, hx, e⟩)]; rfl
/-- the zones' names out of the map's sorted keys -/
theorem zone_keys {b : Bk} {W : World} {bz nz : Nat} (h : W.ownsMap Tryd.prog 9 heldV bz nz (DZ b.zones)) {ss : List (List UInt8)} (hp : ss.Perm (strKeys (DZ b.zones))) :
    ∃ zn : List ByteArray, bsL zn = ss.mergeSort leB ∧ zn.length = ss.length ∧ zn.Pairwise (· ≠ ·) ∧ ∀ s, s ∈ zn ↔ ∃ z ∈ b.zones, z.nm = s := by
  obtain ⟨h1, h2⟩ := strKeys_facts h
  have hpm := (List.mergeSort_perm ss leB).trans hp
  refine ⟨(ss.mergeSort leB).map fun t => ⟨t.toArray⟩, ?_, by simp, ?_, fun s => ?_⟩
  · unfold bsL
    rw [List.map_map]
    exact (List.map_congr_left fun s _ => by simp).trans (List.map_id _)
  · refine List.pairwise_map.2 ((hpm.nodup_iff.2 h1).imp fun {a c} hne e => hne ?_)
    injection e with e
    simpa using congrArg Array.toList e
  · rw [List.mem_map]
    constructor
    · rintro ⟨t, ht, rfl⟩
      have := (h2 t).1 (hpm.mem_iff.1 ht)
      have e := has_zone b ⟨t.toArray⟩
      have e3 : kyS ⟨t.toArray⟩ = .string t := by simp [kyS]
      rw [e3, this] at e
      exact of_decide_eq_true e.symm
    · intro hz
      refine ⟨s.data.toList, hpm.mem_iff.2 ((h2 _).2 ?_), by simp⟩
      have e := has_zone b s
      rw [decide_eq_true hz] at e
      exact e
def AllPost (b : Bk) (w : World) (e : Ending) (w' : World) : Prop :=
  Below w.heap.size w w' ∧ (bkChk b ≠ 0 → e = .returned (.tuple #[.slice none 0 0, .int .i64 (bkChk b)])) ∧
  (bkChk b = 0 → ∃ v ns, e = .returned (.tuple #[v, .int .i64 0]) ∧ AllN b ns ∧ ns.length ≤ 1000 ∧ w'.ownsRow w.heap.size 9 1 v ns.length (((bsL ns).mergeSort leB).map encStr))
theorem PlAt.grown {B : Nat} {W W' : World} {pb bz bl nz nl : Nat} {zs : List Zo} {ls : List Lk} {row : Option Nat} (h : PlAt B W pb bz bl nz nl zs ls) (hg : W.grownBy W' row) (h1 : some pb ≠ row) (h2 : some bz ≠ row) (h3 : some bl ≠ row) : PlAt B W' pb bz bl nz nl zs ls :=
  ⟨(hg.block pb h.cells.2.2 h1).trans h.bx, ownsMap_keep h.z (hg.block bz h.z.lt h2), ownsMap_keep h.l (hg.block bl h.l.lt h3), h.hp, h.hz, h.hl⟩
theorem allN_len {b : Bk} (h : bkChk b = 0) {l : List ByteArray} (ha : AllN b l) : l.length ≤ 40 := by
  have := pigeon l (b.zones.map (·.nm) ++ b.links.map (·.nm)) ha.nd fun s hs => by
    rcases (ha.mem s).1 hs with ⟨z, hz, rfl⟩ | ⟨⟨x, hx, rfl⟩, -⟩
    · exact List.mem_append_left _ (List.mem_map_of_mem hz)
    · exact List.mem_append_right _ (List.mem_map_of_mem hx)
  have h2 := bk_len h
  simp only [List.length_append, List.length_map] at this
  omega
end Go.Proofs.YtlgdilpmdoofiaaDoor
