/- names.All: the plain facts of a range over the links. names.All: the walk, over the library's contracts. names.All: the walk. What the library says of slices.Sort at strings and of slices.Sorted(maps.Keys(m)), and names.All over it. R.Eq at strings: the walk. Rows of literals. BackNamed: the walk. A law's table argument, as it lies in memory. The last step of a law's row where of the new world 'Below' alone is known. (A lemma that the guide gives to copy.) All arguments of a law read behind the call as before it, where of old memory nothing has turned. What a row's list of package-level variables gives: strconv's table of powers of ten. What a row's list of package-level variables gives, and bytealg's MaxLen. -/
import Derived.Test.YtmhfhmhjaecoaaaGreatDoorQ09
import Derived.Test.YtmhfhmhjaecoaaaGreatDoorQ10
import Derived.Maps.RangeWalk
import Derived.Sort.KeysCollected
import Derived.Sort.OwnSorted
import Derived.Sort.EncStr
import Derived.Test.YtmhfhmhjaecoaaaGreatDoorIter
import Derived.Test.YtmhfhmhjaecoaaaGreatDoorQ05
import Derived.Test.YtmhfhmhjaecoaaaGreatDoorQ01
import Derived.Deep.Slices
import Derived.Deep.Fields
import Derived.ChangeSame
import Derived.Lib.SmallJoins
import Derived.Test.YtmhfhmhjaecoaaaGreatDoorRows
import Derived.WalkKit
import Derived.ProofKit
import Derived.OpenShut
import Derived.Below
import Derived.Carry
import Derived.Test.YtmhfhmhjaecoaaaGreatDoorCards
import Derived.Test.YtmhfhmhjaecoaaaGreatDoorTie
import Derived.Test.YtmhfhmhjaecoaaaGreatDoorQ02
import Derived.LaidMore
import Derived.Deep.DeepHandedRow
import Derived.Deep.DeepWitnessRowRef
import Derived.Lib.LaidTab
import Derived.Stop.LaidErr
import Derived.Test.YtmhfhmhjaecoaaaGreatDoorQ03
namespace Go.Proofs.YtmhfhmhjaecoaaaGreatDoor
open Go.RowKit Go.Joins Go.Maps
open Classical
set_option linter.unusedVariables false
set_option linter.unusedSimpArgs false

theorem keyOf_str_inv {key : Value} {kl : Lit} (h : keyOf Tryz.prog 9 key = some kl) : ∃ s : ByteArray, key = .string s ∧ kl = kyS s ∧ s.size ≤ maxLen := by
  rw [Go.keyOf_string Tryz.underlying9] at h
  unfold mapKey at h
  rw [Tryz.underlying9] at h
  cases key <;> simp at h
  exact ⟨_, rfl, h.2.symm, h.1⟩
theorem sameKey_str (a b : ByteArray) : (kyS a).sameKey (kyS b) = decide (a = b) := by
  by_cases h : a = b
  · subst h; simp [WideAt.sameKey_self (show WideAt.IsKeyLit (kyS a) from trivial)]
  · rw [decide_eq_false h]; exact sameKey_ne (kyS_inj h)
/-- what a range over the links has shown -/
structure Vis (b : Bk) (left : Lit → Bool) (vis : List ByteArray) : Prop where
  nd : vis.Pairwise (· ≠ ·)
  mem : ∀ s ∈ vis, ∃ x ∈ b.links, x.nm = s
  left : ∀ s, left (kyS s) = (decide (∃ x ∈ b.links, x.nm = s) && !decide (s ∈ vis))
theorem has_link (b : Bk) (s : ByteArray) : has (DL b.links) (kyS s) = decide (∃ x ∈ b.links, x.nm = s) := by
  have e := (Dof_has (·.nm) (fun x : Lk => .string x.tg) b.links s).1
  have e2 : DL b.links = Dof (·.nm) (fun x : Lk => .string x.tg) b.links := rfl
  rw [e2, e]
  by_cases h : ∃ x ∈ b.links, x.nm = s
  · rw [decide_eq_true h]; exact lookF_has (key := fun x : Lk => x.nm) b.links none h
  · rw [decide_eq_false h, lookF_no (key := fun x : Lk => x.nm) (fun x hx e => h ⟨x, hx, e⟩)]; rfl
theorem Vis.start (b : Bk) : Vis b (has (DL b.links)) [] := ⟨List.Pairwise.nil, fun s hs => (by cases hs), fun s => by rw [has_link]; simp⟩
theorem Vis.step {b : Bk} {left : Lit → Bool} {vis : List ByteArray} (h : Vis b left vis) {s : ByteArray} (hs : left (kyS s) = true) : Vis b (fun z => left z && !z.sameKey (kyS s)) (vis ++ [s]) ∧ ∃ x ∈ b.links, x.nm = s := by
  rw [h.left] at hs
  simp only [Bool.and_eq_true, decide_eq_true_eq, Bool.not_eq_true', decide_eq_false_iff_not] at hs
  refine ⟨⟨?_, ?_, ?_⟩, hs.1⟩
  · rw [List.pairwise_append]
    refine ⟨h.nd, List.pairwise_singleton _ _, fun a ha c hc e => ?_⟩
    rw [List.mem_singleton.1 hc] at e
    exact hs.2 (e ▸ ha)
  · intro t ht
    rcases List.mem_append.1 ht with ht | ht
    · exact h.mem t ht
    · rw [List.mem_singleton.1 ht]; exact hs.1
  · intro t
    show (left (kyS t) && !(kyS t).sameKey (kyS s)) = _
    rw [h.left, sameKey_str]
    by_cases e : t = s
    · subst e; simp
    · simp [e]
theorem Vis.done {b : Bk} {left : Lit → Bool} {vis : List ByteArray} (h : Vis b left vis) (hl : ∀ kl, left kl = false) : ∀ x ∈ b.links, x.nm ∈ vis := by
  intro x hx
  have e := h.left x.nm
  rw [hl] at e
  have h1 : decide (∃ y ∈ b.links, y.nm = x.nm) = true := decide_eq_true ⟨x, hx, rfl⟩
  rw [h1] at e
  simpa using e.symm
/-- the names that lead to a zone -/
def okN (b : Bk) (s : ByteArray) : Bool := decide ((resF b.zones b.links (Maps.size (DL b.links) + 1) s).2 = 0)
/-- all names, as they are found -/
structure AllN (b : Bk) (l : List ByteArray) : Prop where
  nd : l.Pairwise (· ≠ ·)
  mem : ∀ s, s ∈ l ↔ (∃ z ∈ b.zones, z.nm = s) ∨ ((∃ x ∈ b.links, x.nm = s) ∧ okN b s = true)
theorem all_of {b : Bk} (hb : bkChk b = 0) {left : Lit → Bool} {vis zn : List ByteArray} (h : Vis b left vis) (hl : ∀ kl, left kl = false) (hz : zn.Pairwise (· ≠ ·)) (hzm : ∀ s, s ∈ zn ↔ ∃ z ∈ b.zones, z.nm = s) : AllN b (zn ++ vis.filter (okN b)) := by
  have hd := h.done hl
  refine ⟨?_, fun s => ?_⟩
  · rw [List.pairwise_append]
    refine ⟨hz, h.nd.sublist List.filter_sublist, fun a ha c hc e => ?_⟩
    subst e
    obtain ⟨z, hz1, hz2⟩ := (hzm a).1 ha
    obtain ⟨x, hx1, hx2⟩ := h.mem a (List.mem_filter.1 hc).1
    obtain ⟨i, hi, e⟩ := List.mem_iff_getElem.1 hx1
    have := (bk_link hb i hi).nz z hz1
    rw [e] at this
    exact this (hz2.trans hx2.symm)
  · rw [List.mem_append, hzm, List.mem_filter]
    constructor
    · rintro (h1 | ⟨h1, h2⟩)
      · exact .inl h1
      · exact .inr ⟨h.mem s h1, h2⟩
    · rintro (h1 | ⟨⟨x, hx, rfl⟩, h2⟩)
      · exact .inl h1
      · exact .inr ⟨hd x hx, h2⟩
end Go.Proofs.YtmhfhmhjaecoaaaGreatDoor
namespace Go.Proofs.YtmhfhmhjaecoaaaGreatDoor
open Go.RowKit Go.Joins Go.Maps Go.Sort
open Classical
set_option linter.unusedVariables false
set_option linter.unusedSimpArgs false

def bsL (l : List ByteArray) : List (List UInt8) := l.map fun s => s.data.toList
theorem encStr_of (s : ByteArray) : encStr s.data.toList = .string s := by simp [encStr]
theorem bsL_enc (l : List ByteArray) : (bsL l).map encStr = l.map Value.string := by
  unfold bsL
  rw [List.map_map]
  exact List.map_congr_left fun s _ => encStr_of s
/-- slices.Sort at strings, on a row of one's own -/
def SortStrSays : Prop := ∀ (ns : List (List UInt8)) (v : Value) (base : Nat) (W : World), W.ownsRow base 9 1 v ns.length (ns.map encStr) → ns.length ≤ 100000 → Calls Tryz.prog 38 #[v] W fun e w' => e = .returned (.tuple #[]) ∧ w'.ownsRow base 9 1 v ns.length ((ns.mergeSort leB).map encStr) ∧ W.grownBy w' v.ownBlock
def keysFn (w : World) : Value := .func (.func 79) #[] #[.pointer (some ⟨w.heap.size, 0, none⟩)]
def keysW (w : World) (b : Nat) : World := w.alloc (.cells #[.map (some b)] 91)
/-- slices.Sorted(maps.Keys(m)) -/
def KeysSays : Prop := ∀ (b n : Nat) (D : DataW Value) (w : World), w.ownsMap Tryz.prog 9 heldV b n D → n ≤ 100000 →
  Calls Tryz.prog 36 #[.map (some b)] w (fun e w' => e = .returned (keysFn w) ∧ w' = keysW w b) ∧
  Calls Tryz.prog 35 #[keysFn w] (keysW w b) (fun e w' => ∃ v ss, e = .returned v ∧ List.Perm ss (strKeys D) ∧ w'.ownsRow (keysW w b).heap.size 9 1 v ss.length ((ss.mergeSort leB).map encStr) ∧ Below (keysW w b).heap.size (keysW w b) w')
theorem strKeys_facts {W : World} {b n : Nat} {D : DataW Value} (h : W.ownsMap Tryz.prog 9 heldV b n D) : (strKeys D).Nodup ∧ ∀ x, x ∈ strKeys D ↔ has D (.string x) = true := by
  obtain ⟨es, rfl, hk⟩ := h.keysOf
  obtain ⟨es2, e, hp⟩ := h.tidy keyS
  have e : es = es2 := by injection e
  subst e
  have hs : ∀ p ∈ es, ∃ x, p.1 = .string x := by
    intro p hp
    obtain ⟨v, hv⟩ := hk p hp
    obtain ⟨s, -, e, -⟩ := keyOf_str_inv hv
    exact ⟨_, e⟩
  refine ⟨?_, fun x => ?_⟩
  · show (es.map fun p => strOf p.1).Nodup
    refine List.pairwise_map.2 (hp.imp_of_mem fun {p q} hp' hq' hne e => hne ?_)
    obtain ⟨a, ha⟩ := hs p hp'
    obtain ⟨c, hc⟩ := hs q hq'
    rw [ha, hc] at e ⊢
    exact congrArg _ e
  · rw [has_eq, List.any_eq_true]
    show x ∈ es.map (fun p => strOf p.1) ↔ _
    rw [List.mem_map]
    constructor
    · rintro ⟨p, hp2, e⟩
      obtain ⟨a, ha⟩ := hs p hp2
      rw [ha] at e
      refine ⟨p, hp2, ?_⟩
      rw [ha, ← e]
      exact WideAt.sameKey_self (show WideAt.IsKeyLit (.string a) from trivial)
    · rintro ⟨p, hp2, e⟩
      obtain ⟨a, ha⟩ := hs p hp2
      refine ⟨p, hp2, ?_⟩
      rw [ha] at e ⊢
      apply Classical.byContradiction
      intro hne
      rw [sameKey_ne (fun g => hne (by injection g))] at e
      cases e
theorem has_zone (b : Bk) (s : ByteArray) : has (DZ b.zones) (kyS s) = decide (∃ x ∈ b.zones, x.nm = s) := by
  have e := (Dof_has (·.nm) zoV b.zones s).1
  have e2 : DZ b.zones = Dof (·.nm) zoV b.zones := rfl
  rw [e2, e]
  by_cases h : ∃ x ∈ b.zones, x.nm = s
  · rw [decide_eq_true h]; exact lookF_has (key := fun x : Zo => x.nm) b.zones none h
  · rw [decide_eq_false h, lookF_no (key := fun x : Zo => x.nm) (fun x hx e => h ⟨x, hx, e⟩)]; rfl
/-- the zones' names out of the map's sorted keys -/
theorem zone_keys {b : Bk} {W : World} {bz nz : Nat} (h : W.ownsMap Tryz.prog 9 heldV bz nz (DZ b.zones)) {ss : List (List UInt8)} (hp : ss.Perm (strKeys (DZ b.zones))) :
    ∃ zn : List ByteArray, bsL zn = ss.mergeSort leB ∧ zn.length = ss.length ∧ zn.Pairwise (· ≠ ·) ∧ ∀ s, s ∈ zn ↔ ∃ z ∈ b.zones, z.nm = s := by
  obtain ⟨h1, h2⟩ := strKeys_facts h
  have hpm := (List.mergeSort_perm ss leB).trans hp
  refine ⟨(ss.mergeSort leB).map fun t => ⟨t.toArray⟩, ?_, by simp, ?_, fun s => ?_⟩
  · unfold bsL
    rw [List.map_map]
    exact (List.map_congr_left fun s _ => by simp).trans (List.map_id _)
  · refine List.pairwise_map.2 ((hpm.nodup_iff.2 h1).imp fun {a c} hne e => hne ?_)
    injection e with e
    simpa using congrArg Array.toList e
  · rw [List.mem_map]
    constructor
    · rintro ⟨t, ht, rfl⟩
      have := (h2 t).1 (hpm.mem_iff.1 ht)
      have e := has_zone b ⟨t.toArray⟩
      have e3 : kyS ⟨t.toArray⟩ = .string t := by simp [kyS]
      rw [e3, this] at e
      exact of_decide_eq_true e.symm
    · intro hz
      refine ⟨s.data.toList, hpm.mem_iff.2 ((h2 _).2 ?_), by simp⟩
      have e := has_zone b s
      rw [decide_eq_true hz] at e
      exact e
def AllPost (b : Bk) (w : World) (e : Ending) (w' : World) : Prop :=
  Below w.heap.size w w' ∧ (bkChk b ≠ 0 → e = .returned (.tuple #[.slice none 0 0, .int .i64 (bkChk b)])) ∧
  (bkChk b = 0 → ∃ v ns, e = .returned (.tuple #[v, .int .i64 0]) ∧ AllN b ns ∧ ns.length ≤ 1000 ∧ w'.ownsRow w.heap.size 9 1 v ns.length (((bsL ns).mergeSort leB).map encStr))
theorem PlAt.grown {B : Nat} {W W' : World} {pb bz bl nz nl : Nat} {zs : List Zo} {ls : List Lk} {row : Option Nat} (h : PlAt B W pb bz bl nz nl zs ls) (hg : W.grownBy W' row) (h1 : some pb ≠ row) (h2 : some bz ≠ row) (h3 : some bl ≠ row) : PlAt B W' pb bz bl nz nl zs ls :=
  ⟨(hg.block pb h.cells.2.2 h1).trans h.bx, ownsMap_keep h.z (hg.block bz h.z.lt h2), ownsMap_keep h.l (hg.block bl h.l.lt h3), h.hp, h.hz, h.hl⟩
theorem allN_len {b : Bk} (h : bkChk b = 0) {l : List ByteArray} (ha : AllN b l) : l.length ≤ 40 := by
  have := pigeon l (b.zones.map (·.nm) ++ b.links.map (·.nm)) ha.nd fun s hs => by
    rcases (ha.mem s).1 hs with ⟨z, hz, rfl⟩ | ⟨⟨x, hx, rfl⟩, -⟩
    · exact List.mem_append_left _ (List.mem_map_of_mem hz)
    · exact List.mem_append_right _ (List.mem_map_of_mem hx)
  have h2 := bk_len h
  simp only [List.length_append, List.length_map] at this
  omega
end Go.Proofs.YtmhfhmhjaecoaaaGreatDoor
namespace Go.Proofs.YtmhfhmhjaecoaaaGreatDoor
open Go.RowKit Go.Joins Go.Maps Go.Sort
open Classical
set_option linter.unusedVariables false
set_option linter.unusedSimpArgs false

theorem infoStrN : (Tryz.prog.info? 9).map (fun i => (i.zero, i.size, i.bytes)) = some (some (.string ⟨#[]⟩), 1, 16) := by kernel_rfl
theorem undStrs : Tryz.prog.underlying 35 = some (.slice 9) := by kernel_rfl

theorem vis_len {b : Bk} {left : Lit → Bool} {vis : List ByteArray} (h : Vis b left vis) : vis.length ≤ b.links.length := by
  have := pigeon vis (b.links.map (·.nm)) h.nd fun s hs => by
    obtain ⟨x, hx, rfl⟩ := h.mem s hs
    exact List.mem_map_of_mem hx
  simpa using this
theorem zn_len {b : Bk} {zn : List ByteArray} (h : zn.Pairwise (· ≠ ·)) (hm : ∀ s, s ∈ zn ↔ ∃ z ∈ b.zones, z.nm = s) : zn.length ≤ b.zones.length := by
  have := pigeon zn (b.zones.map (·.nm)) h fun s hs => by
    obtain ⟨x, hx, rfl⟩ := (hm s).1 hs
    exact List.mem_map_of_mem hx
  simpa using this
theorem below_grownN {w w' : World} (h : Below w.heap.size w w') : w.grownBy w' none := ⟨h.os, h.tape, h.output, h.size, fun i hi _ => h.block i hi⟩
theorem zo_shape {b : Bk} {W : World} {B : Nat} (hev : ∀ z ∈ b.zones, ∃ p c, z.ev = .slice p z.eras.length c) {R : Option Zo × Int} (h : ∀ z, R.1 = some z → z ∈ b.zones) : ∃ znm p n c, zoVal R.1 = .agg #[.string znm, .slice p n c] := by
  cases e : R.1 with
  | none => exact ⟨⟨#[]⟩, none, 0, 0, rfl⟩
  | some z =>
    obtain ⟨p, c, e2⟩ := hev z (h z e)
    refine ⟨z.nm, p, z.eras.length, c, ?_⟩
    show Value.agg #[.string z.nm, z.ev] = _
    rw [e2]

set_option maxRecDepth 100000 in
set_option maxHeartbeats 8000000 in
theorem All_any (KS : KeysSays) (SS : SortStrSays) (b : Bk) (rv zv lv : Value) (w : World) (hB : BookAt w.heap.size w rv zv lv b) (hm : MaxLen w) (ht : Tab10 w) :
    Calls Tryz.prog 12 #[.agg #[rv, zv, lv]] w (AllPost b w) := by
  have hr := hB.r
  have hz := hB.z
  have hl := hB.l
  obtain ⟨p1, c1, rfl, hlen1, hrow1⟩ := hr
  obtain ⟨p2, c2, rfl, hlen2, hrow2⟩ := hz
  obtain ⟨p3, c3, rfl, hlen3, hrow3⟩ := hl
  obtain ⟨W0, eW⟩ : ∃ W0, w.alloc (.cells #[.slice p1 b.rules.length c1, .slice p2 b.zones.length c2, .slice p3 b.links.length c3] 31) = W0 := ⟨_, rfl⟩
  have hb0 : Below w.heap.size w W0 := by rw [← eW]; exact (Below.refl _ _).alloc (Nat.le_refl _) _
  have hbx : W0.heap[w.heap.size]? = some (.cells #[.slice p1 b.rules.length c1, .slice p2 b.zones.length c2, .slice p3 b.links.length c3] 31 (0, 0)) := by rw [← eW]; exact heap_alloc_new w _
  have hl0 : w.heap.size < W0.heap.size := by rw [← eW]; simp
  have x0 := (cell_of_row W0 _ 0 _ _ _ hbx).trans rfl
  have x1 := (cell_of_row W0 _ 1 _ _ _ hbx).trans rfl
  have x2 := (cell_of_row W0 _ 2 _ _ _ hbx).trans rfl
  have HEW := Lib.hid eW
  have HB0 := Lib.hid hb0
  have HOF := Lib.hid (namesOf_any b _ _ _ W0 ((hB.below hb0 (Nat.le_refl _)).baseN (Nat.le_of_lt hl0)) (hm.below hb0) (ht.below hb0))
  have HEV := Lib.hid hB.e
  have HLS := Lib.hid hB.ls
  have HPOST : Hid (∀ e w', AllPost b w e w' = (Below w.heap.size w w' ∧ (bkChk b ≠ 0 → e = .returned (.tuple #[.slice none 0 0, .int .i64 (bkChk b)])) ∧
    (bkChk b = 0 → ∃ v ns, e = .returned (.tuple #[v, .int .i64 0]) ∧ AllN b ns ∧ ns.length ≤ 1000 ∧ w'.ownsRow w.heap.size 9 1 v ns.length (((bsL ns).mergeSort leB).map encStr)))) := fun e w' => rfl
  clear eW hb0 hbx hB hm ht hrow1 hrow2 hrow3
  go_enter Tryz.func12, Tryz.ntmps12
  go_upto_region 1 with fail
  rw [HEW.out]
  go_wp2_with fail
  refine HOF.out.mono ?_
  rintro e w1 ⟨hb1, hbad, hgood⟩
  have HB1 := Lib.hid (HB0.out.trans (hb1.mono HB0.out.size))
  have hs1 : W0.heap.size ≤ w1.heap.size := hb1.size
  by_cases hC : bkChk b = 0
  case neg =>
    have he := hbad hC
    subst he
    have hz : (bkChk b == 0) = false := by simpa using hC
    have hz2 : (!bkChk b == 0) = true := by rw [hz]; rfl
    have HC := Lib.hid hC
    clear hb1 hbad hgood hC x0 x1 x2
    go_wp2_with fail
    go_ret2
    rw [HPOST.out]
    exact ⟨HB1.out, fun _ => rfl, fun h => absurd h HC.out⟩
  case pos =>
  obtain ⟨pb, bz, bl, nz, nl, he, hP, hnl, hnz⟩ := hgood hC
  subst he
  have HC := Lib.hid hC
  have hEv : EvOk b.zones := fun z hz => by
    obtain ⟨p, c, e, -⟩ := HEV.out z hz
    exact ⟨p, c, e⟩
  have HEvO := Lib.hid hEv
  obtain ⟨m0, m1, mp⟩ := hP.cells
  have HP1 := Lib.hid hP
  have hpz := hP.hz
  have hpl := hP.hl
  have hpp := hP.hp
  have hzl := hP.z.lt
  have hll := hP.l.lt
  have HZN := Lib.hid (fun ss hp => zone_keys hP.z (ss := ss) hp)
  have HKS := Lib.hid (KS bz nz (DZ b.zones) w1 hP.z (by omega))
  clear hb1 hbad hgood hC x0 x1 x2 hP hEv HEV
  go_wp2_with fail
  refine HKS.out.1.mono ?_
  rintro e w' ⟨rfl, rfl⟩
  go_wp2_with fail
  refine HKS.out.2.mono ?_
  obtain ⟨W2, eW2⟩ : ∃ W2, keysW w1 bz = W2 := ⟨_, rfl⟩
  have hb2 : Below w1.heap.size w1 W2 := by rw [← eW2]; exact (Below.refl _ _).alloc (Nat.le_refl _) _
  rw [eW2]
  rintro e w3 ⟨v3, ss, rfl, hperm, hrow3, hb3⟩
  obtain ⟨zn, hz1, hz2, hz3, hz4⟩ := HZN.out ss hperm
  have hs2 : w1.heap.size ≤ W2.heap.size := hb2.size
  have hs3 : W2.heap.size ≤ w3.heap.size := hb3.size
  have hB13 := hb2.trans (hb3.mono hs2)
  have HP3 := Lib.hid (HP1.out.below hB13 (Nat.le_refl _))
  have HB3 := Lib.hid (HB1.out.trans (hB13.mono (by omega)))
  have hrow3' : w3.ownsRow W2.heap.size 9 1 v3 zn.length (zn.map Value.string) := by
    rw [hz2, ← bsL_enc, hz1]
    exact hrow3
  have HRW := Lib.hid hrow3'
  have HZ3 := Lib.hid hz3
  have HZ4 := Lib.hid hz4
  obtain ⟨m0, m1, mp3⟩ := HP3.out.cells
  clear hperm hrow3 hrow3' hb2 hb3 hz1 hz2 hz3 hz4 hB13 HKS HZN eW2 HP1
  obtain ⟨A, cA, rfl⟩ := own_sliceN HRW.out
  obtain ⟨i1, hi1, hz10, hz11, hz12⟩ := info_parts infoStrN
  go_wp2_with (at_range; refine wpList_range_own _ rfl _ 92 rfl 9 9 keyS Tryz.underlying92 heldV bl nl (DL b.links) rfl HP3.out.l ?_; intro w4 hrg0 hg0 hs4)
  go_frame
  obtain ⟨it, eit⟩ : ∃ it, w3.heap.size = it := ⟨_, rfl⟩
  rw [eit] at hrg0 hs4 hs3 mp3 ⊢
  have HP4 := Lib.hid (HP3.out.grown hg0 (by simp) (by simp) (by simp))
  have HRW4 := Lib.hid (own_keep HRW.out fun g e => hg0.block g (World.ownsRow.lt HRW.out g e).2 (by simp))
  have HB4 := Lib.hid (HB3.out.grown hg0 HB3.out.size (fun q hq => by cases hq))
  have hV0 : Vis b (has (DL b.links)) [] := Vis.start b
  have HV0 := Lib.hid hV0
  have HRG0 := Lib.hid hrg0
  have hE : ((zn ++ List.filter (okN b) []).length) = zn.length := by simp
  clear hg0 hrg0 hV0 HB3 HP3 HRW
  go_loopw [6] (fun v6 wr => ∃ (left : Lit → Bool) (cnt : Nat) (vis : List ByteArray), Hid (wr.ranges Tryz.prog 9 heldV bl it nl (DL b.links) left cnt) ∧ Hid (Vis b left vis) ∧ Hid (wr.ownsRow W2.heap.size 9 1 v6 (zn ++ vis.filter (okN b)).length ((zn ++ vis.filter (okN b)).map Value.string)) ∧ Hid (PlAt W0.heap.size wr pb bz bl nz nl b.zones b.links) ∧ Hid (Below w.heap.size w wr) ∧ it + 1 ≤ wr.heap.size) (fun _ wr => wr.rangeLeft bl it)
  case atStart => exact ⟨_, _, [], HRG0, HV0, by show World.ownsRow _ _ _ _ _ _ _; simpa using HRW4.out, HP4, HB4, by omega⟩
  case round =>
    obtain ⟨left, cnt, vis, HRG, HV, HRW, HP, HBR, hzr⟩ := hrel
    have hrg := HRG.out
    clear HRG0 HV0 HRW4 HP4 HB4
    go_wp2_with (first
      | (at_next; refine wpList_next_ranges _ rfl _ rfl 9 keyS heldV Value.string (fun v : Value => v) (fun key kl h => by obtain ⟨s, e, -⟩ := keyOf_str_inv h; exact ⟨s, e⟩) (fun v y h => ⟨v, rfl⟩) bl it nl _ _ _ rfl hrg ?_ ?_)
      | go_in)
    · intro _ hl0
      obtain ⟨ns, ens⟩ : ∃ ns, zn ++ vis.filter (okN b) = ns := ⟨_, rfl⟩
      have hall := all_of HC.out HV.out hl0 HZ3.out HZ4.out
      rw [ens] at HRW hall
      have hlen := allN_len HC.out hall
      have hrow : wr.ownsRow W2.heap.size 9 1 u6 (bsL ns).length ((bsL ns).map encStr) := by
        rw [bsL_enc, show (bsL ns).length = ns.length by simp [bsL]]
        exact HRW.out
      have HSS := Lib.hid (SS (bsL ns) u6 W2.heap.size wr hrow (by rw [show (bsL ns).length = ns.length by simp [bsL]]; omega))
      have HROW := Lib.hid hrow
      have HALL := Lib.hid hall
      clear hrow hrg HRG HV HRW hall ens hl0
      go_wp2_with fail
      refine HSS.out.mono ?_
      rintro e w6 ⟨rfl, hrow6, hg6⟩
      have hb6 : Below w.heap.size w w6 := HBR.out.grown hg6 HBR.out.size (fun q hq => by have := (World.ownsRow.lt HROW.out q hq).1; omega)
      have HB6 := Lib.hid hb6
      have HR6 := Lib.hid (own_base hrow6 (show w.heap.size ≤ W2.heap.size by omega))
      clear hb6 hrow6 hg6
      go_wp2_with fail
      go_ret2
      rw [HPOST.out]
      refine ⟨HB6.out, fun h => absurd HC.out h, fun _ => ⟨u6, ns, rfl, HALL.out, by omega, ?_⟩⟩
      have := HR6.out
      rwa [show (bsL ns).length = ns.length by simp [bsL]] at this
    · intro s c kl yd yp cnt' hkey hkl hlk hcv hat hrg5 hlt5 hgr5 hsz5 hen
      obtain ⟨s2, es, ek, -⟩ := keyOf_str_inv hkl
      injection es with es
      subst es
      subst ek
      obtain ⟨hV5, x, hx, hxs⟩ := HV.out.step hlk
      have hns := (HLS.out x hx).1
      rw [hxs] at hns
      have hP5 := HP.out.grown hgr5 (by simp; omega) (by simp; omega) (by simp; omega)
      have hne := row_ne_iter HRW.out HRG.out
      have hR5 : cnt'.ownsRow W2.heap.size 9 1 u6 (zn ++ vis.filter (okN b)).length ((zn ++ vis.filter (okN b)).map Value.string) := own_keep HRW.out fun g e => hgr5.block g (World.ownsRow.lt HRW.out g e).2 (fun h => hne (by rw [e, ← h]))
      obtain ⟨bi0, bi1, bi2⟩ := hP5.cells
      have hb5 : Below w.heap.size w cnt' := HBR.out.grown hgr5 HBR.out.size (fun q hq => by injection hq with hq; omega)
      have HB5 := Lib.hid hb5
      have hsb5 : w.heap.size ≤ cnt'.heap.size := hb5.size
      have HRE := Lib.hid (resolve_any W0.heap.size pb bz bl nz nl b.zones b.links s cnt' hP5 HEvO.out (fun y hy => (HLS.out y hy).2) hns hnl)
      have HP5 := Lib.hid hP5
      have HR5 := Lib.hid hR5
      have HV5 := Lib.hid hV5
      have HG5 := Lib.hid hrg5
      have hok : okN b s = decide ((resF b.zones b.links (Maps.size (DL b.links) + 1) s).2 = 0) := rfl
      have hin : ∀ z, (resF b.zones b.links (Maps.size (DL b.links) + 1) s).1 = some z → z ∈ b.zones := fun z hz => (resF_in (c := (resF b.zones b.links (Maps.size (DL b.links) + 1) s).2) (by rw [← hz])).1
      obtain ⟨R, eR⟩ : ∃ R, resF b.zones b.links (Maps.size (DL b.links) + 1) s = R := ⟨_, rfl⟩
      rw [eR] at HRE hok hin
      obtain ⟨znm, pe, ne, ce, hzv⟩ := zo_shape (B := 0) (W := w) HEvO.out hin
      have hlt6 : cnt'.rangeLeft bl it = hkey := HG5.out.left_eq
      have hlt7 : wr.rangeLeft bl it = cnt := HRG.out.left_eq
      have hmeas : hkey < wr.rangeLeft bl it := by rw [hlt7]; exact hlt5
      clear hP5 hR5 hV5 hb5 hrg5 hrg HRG HV HRW HP HBR eR hin hlk hcv
      go_wp2_with fail
      refine HRE.out.mono ?_
      obtain ⟨Z, C⟩ := R
      rintro e w6 ⟨rfl, hb6⟩
      simp only at hzv hok ⊢
      rw [hzv]
      obtain ⟨W7, e7⟩ : ∃ W7, w6.alloc (.cells #[.string znm, .slice pe ne ce] 50) = W7 := ⟨_, rfl⟩
      have hb7 : Below cnt'.heap.size cnt' W7 := by rw [← e7]; exact hb6.alloc hb6.size _
      have hg7 := below_grownN hb7
      have HG7 := Lib.hid (HG5.out.kept hg7 (by simp) (by simp))
      have HR7 := Lib.hid (own_keep HR5.out fun g e => hb7.block g (World.ownsRow.lt HR5.out g e).2)
      have HP7 := Lib.hid (HP5.out.below hb7 (Nat.le_refl _))
      have HB7 := Lib.hid (HB5.out.trans (hb7.mono hsb5))
      have hs7 : cnt'.heap.size ≤ W7.heap.size := hb7.size
      have hl7 : W7.rangeLeft bl it = hkey := HG7.out.left_eq
      have HE7 := Lib.hid e7
      clear hb6 hb7 hg7 e7 hzv HG5 HR5 HP5 HB5 HRE
      go_upto_region 9 with fail
      rw [HE7.out]
      by_cases hC0 : C = 0
      · subst hC0
        have hok1 : okN b s = true := by rw [hok]; exact decide_eq_true rfl
        have HO1 := Lib.hid hok1
        have hzl1 := zn_len HZ3.out HZ4.out
        have hvl1 := vis_len HV5.out
        have hbl1 := bk_len HC.out
        have hfl : (vis.filter (okN b)).length ≤ vis.length := List.length_filter_le _ _
        rw [List.length_append, List.length_singleton] at hvl1
        obtain ⟨ns, ens⟩ : ∃ ns, zn ++ vis.filter (okN b) = ns := ⟨_, rfl⟩
        have hnl2 : ns.length ≤ 40 := by rw [← ens, List.length_append]; omega
        rw [ens] at HR7
        obtain ⟨A2, c2, rfl⟩ := own_sliceN HR7.out
        have HROW := Lib.hid (World.ownsRow.alloc HR7.out (.cells #[.string s] 9))
        have HNEW := Lib.hid (World.news_of_block (cs := #[.string s]) (t := 9) (fr := (0, 0)) (heap_alloc_new W7 (.cells #[.string s] 9)))
        have HML : ns.length + 1 ≤ maxLen := by simp only [maxLen]; omega
        have HMB : (ns.length + 1) * 16 ≤ 140737488355328 := by omega
        have HSZ : W2.heap.size ≤ (W7.alloc (.cells #[.string s] 9)).heap.size := by simp; omega
        have HENS := Lib.hid ens
        clear hok hok1 ens hzl1 hvl1 hbl1 hfl
        go_wp2_with (at_builtin; refine wpList_append_own _ rfl _ _ 35 rfl W2.heap.size 9 i1 (.string ⟨#[]⟩) 1 16 undStrs hi1 hz10 hz11 hz12 rfl (by decide) _ _ _ rfl HROW.out ⟨W7.heap.size, 0, none⟩ 1 1 [.string s] rfl rfl HNEW.out (by simp [Value.oneCell']) HML HMB HSZ ?_; intro v' w10 hown10 hgrow10 _)
        have hpbl : bl < W2.heap.size := by omega
        have HGA := Lib.hid (World.ranges.alloc HG7.out (.cells #[.string s] 9))
        have HGX := Lib.hid (HGA.out.kept hgrow10 (row_ne_low HROW.out hpbl) (row_ne_iter HROW.out HGA.out))
        have HPA := HP7.out.below ((Below.refl _ _).alloc (Nat.le_refl _) (.cells #[.string s] 9)) (Nat.le_refl _)
        have HPX := Lib.hid (HPA.grown hgrow10 (row_ne_low HROW.out (by omega)) (row_ne_low HROW.out (by omega)) (row_ne_low HROW.out hpbl))
        have hs7w : w.heap.size ≤ W7.heap.size := by omega
        have HBA := Lib.hid ((HB7.out.alloc hs7w (.cells #[.string s] 9)).grown hgrow10 (by simp; omega) (fun q hq => by have := (World.ownsRow.lt HROW.out q hq).1; omega))
        have hsx : it + 1 ≤ w10.heap.size := by
          have h1 := hgrow10.size
          have h2 : (W7.alloc (.cells #[.string s] 9)).heap.size = W7.heap.size + 1 := by simp
          omega
        have hlx : w10.rangeLeft bl it = hkey := HGX.out.left_eq
        go_roundw
        case rel =>
          refine ⟨_, hkey, vis ++ [s], HGX, HV5, ?_, HPX, HBA, hsx⟩
          show World.ownsRow _ _ _ _ _ _ _
          rw [List.filter_append, List.filter_cons_of_pos HO1.out, List.filter_nil, ← List.append_assoc, HENS.out, List.length_append, List.map_append]
          exact hown10
        case measure => omega
      · have hok0 : okN b s = false := by rw [hok]; exact decide_eq_false hC0
        have hCz : (C == 0) = false := by simpa using hC0
        have HO0 := Lib.hid hok0
        clear hok hok0 hC0
        go_wp2_with fail
        go_roundw
        case rel =>
          refine ⟨_, hkey, vis ++ [s], HG7, HV5, ?_, HP7, HB7, by omega⟩
          show World.ownsRow _ _ _ _ _ _ _
          rw [List.filter_append, List.filter_cons_of_neg (by rw [HO0.out]; simp), List.filter_nil, List.append_nil]
          exact HR7.out
        case measure => omega
end Go.Proofs.YtmhfhmhjaecoaaaGreatDoor
namespace Go.Proofs.YtmhfhmhjaecoaaaGreatDoor
open Go.RowKit Go.Joins Go.Maps Go.Sort
set_option linter.unusedVariables false

theorem sortStr_says : SortStrSays := by
  intro ns v base W hown hlen
  rcases hown.2 with ⟨rfl, h0⟩ | ⟨g, cap, cur, rfl, hbase, hb, h1, h2, h3, h4⟩
  · have hns : ns = [] := by
      have := h0
      cases ns with
      | nil => rfl
      | cons a l => simp at this
    subst hns
    refine (AnyM.slices_Sort_string_none Tryz.sort38 Option.none 0 W).mono ?_
    rintro e w' ⟨rfl, rfl⟩
    exact ⟨rfl, by simpa using hown, ⟨rfl, rfl, rfl, Nat.le_refl _, fun k _ _ => rfl⟩⟩
  · have hb' := hb
    refine (AnyM.slices_Sort_string Tryz.sort38 g 0 cap ns W (holds_of_block hb (by simpa using h4)) (Array.getElem?_eq_some_iff.1 hb).1 (by omega)).mono ?_
    rintro e w' ⟨rfl, n, os, rfl⟩
    exact ⟨rfl, ownsRow_sorted (ts := ns.mergeSort leB) (by simp) hbase hb h1 h2 h3, grownBy_sorted _⟩

theorem keys_says : KeysSays := by
  intro b n D w h hn
  have hsz : Maps.size D ≤ n := h.size_le
  refine ⟨callsIn_wide.1 (Tryz.maps_Keys_36 (some b) w), ?_⟩
  refine (callsIn_wide.1 (Tryz.slices_Sorted_keys_35_36 b n D heldV w h (by simp only [maxLen]; omega) (by omega))).mono ?_
  rintro e w' ⟨v, ss, rfl, hp, hr, -, hb⟩
  exact ⟨v, ss, rfl, hp, hr, hb⟩

theorem All_go (b : Bk) (rv zv lv : Value) (w : World) (hB : BookAt w.heap.size w rv zv lv b) (hm : MaxLen w) (ht : Tab10 w) :
    Calls Tryz.prog 12 #[.agg #[rv, zv, lv]] w (AllPost b w) := All_any keys_says sortStr_says b rv zv lv w hB hm ht
end Go.Proofs.YtmhfhmhjaecoaaaGreatDoor
namespace Go.Proofs.YtmhfhmhjaecoaaaGreatDoor
open Go.RowKit Go.Joins
set_option linter.unusedVariables false
set_option linter.unusedSimpArgs false
open Classical

abbrev stL (s : ByteArray) : List Value := [.string s]
theorem stL_at {W : World} {b o : Nat} {l : List ByteArray} (h : ∀ i (h : i < l.length) (j : Nat) (u : Value), (stL l[i])[j]? = some u → W.cell? ⟨b, o + i * 1 + j, none⟩ = some u) (i : Nat) (hi : i < l.length) : W.cell? ⟨b, o + i, none⟩ = some (.string l[i]) := by
  have := h i hi 0 _ rfl
  simpa using this

set_option maxHeartbeats 2000000 in
theorem Eq_strs (l m : List ByteArray) (v v2 : Value) (B : Nat) (w : World) (h : RowsAt stL 1 B w v l) (h2 : RowsAt stL 1 B w v2 m) (hlm : l.length = m.length) :
    Calls Tryz.prog 13 #[v, v2] w fun e w' => e = .returned (.bool (decide (l = m))) ∧ w = w' := by
  obtain ⟨p, cap, rfl, ⟨hl, -⟩, hat⟩ := h
  obtain ⟨p2, cap2, rfl, ⟨-, -⟩, hat2⟩ := h2
  have HAT := Lib.hid hat
  have HAT2 := Lib.hid hat2
  obtain ⟨R, eR⟩ : ∃ R : Bool, decide (l = m) = R := ⟨_, rfl⟩
  rw [eR]
  have ER := Lib.hid eR
  have HM := Lib.hid hlm
  rw [← hlm]
  clear hat hat2 eR hlm
  go_enter Tryz.func13, Tryz.ntmps13
  go_wp2
  go_loopw [14] (fun i wr => ∃ k : Nat, k ≤ l.length ∧ i = .int .i64 k ∧ w = wr ∧ l.take k = m.take k) (fun i _ => l.length - (intOf i).toNat)
  case atStart => exact ⟨0, Nat.zero_le _, rfl, rfl, by simp⟩
  case round =>
    obtain ⟨k, hk, rfl, rfl, hno⟩ := hrel
    have HNO := Lib.hid hno
    clear hno
    by_cases hlt : k < l.length
    · have hltm : k < m.length := by rw [← HM.out]; exact hlt
      obtain ⟨b, o, rfl, hbl, hcs⟩ := HAT.out (List.ne_nil_of_length_pos (by omega))
      obtain ⟨b2, o2, rfl, hbl2, hcs2⟩ := HAT2.out (List.ne_nil_of_length_pos (by omega))
      obtain ⟨y, ey⟩ : ∃ y, l[k] = y := ⟨_, rfl⟩
      obtain ⟨z, ez⟩ : ∃ z, m[k] = z := ⟨_, rfl⟩
      have c0 := stL_at hcs k hlt
      have c1 := stL_at hcs2 k hltm
      rw [ey] at c0
      rw [ez] at c1
      have EY := Lib.hid ey
      have EZ := Lib.hid ez
      have HLM := Lib.hid hltm
      clear ey ez hcs hcs2
      by_cases hxy : y = z
      · subst hxy
        go_wp2
        go_roundw
        case rel => exact ⟨k + 1, by omega, by go_num, by first | rfl | trivial, by rw [List.take_add_one, List.take_add_one, List.getElem?_eq_getElem hlt, List.getElem?_eq_getElem HLM.out, EY.out, EZ.out, HNO.out]⟩
        case measure => simp [intOf]; omega
      · have hxb : (y.toList == z.toList) = false := by rw [str_eqB]; exact decide_eq_false hxy
        have hr : Hid (R = false) := by
          show R = false
          rw [← ER.out, decide_eq_false_iff_not]
          intro h
          subst h
          exact hxy (EY.out.symm.trans EZ.out)
        go_wp2
        go_ret
        exact ⟨ret_bool' hr.out.symm, rfl⟩
    · obtain rfl : k = l.length := by omega
      have hr : Hid (R = true) := by show R = true; rw [← ER.out, decide_eq_true_eq]; have := HNO.out; rw [List.take_length] at this; rw [this, HM.out, List.take_length]
      go_wp2
      go_ret
      exact ⟨ret_bool' hr.out.symm, rfl⟩
end Go.Proofs.YtmhfhmhjaecoaaaGreatDoor
namespace Go.Proofs.YtmhfhmhjaecoaaaGreatDoor
open Go.RowKit Go.Joins
open Classical
set_option linter.unusedVariables false
set_option linter.unusedSimpArgs false

theorem flat_getN {α : Type} {cells : α → List Value} {k : Nat} (hk : ∀ x, (cells x).length = k) : ∀ (l : List α) (i : Nat) (h : i < l.length) (j : Nat), j < k → (l.flatMap cells)[i * k + j]? = (cells l[i])[j]?
  | [], i, h, _, _ => absurd h (by simp)
  | x :: r, 0, _, j, hj => by
    rw [List.flatMap_cons, Nat.zero_mul, Nat.zero_add, List.getElem?_append_left (by rw [hk]; exact hj)]
    rfl
  | x :: r, i + 1, h, j, hj => by
    have := flat_getN hk r i (by simpa using h) j hj
    rw [List.flatMap_cons, List.getElem?_append_right (by rw [hk, Nat.add_mul]; omega), hk, show (i + 1) * k + j - k = i * k + j by rw [Nat.add_mul]; omega, this]
    rfl
/-- a literal's row -/
theorem rows_lit {α : Type} {cells : α → List Value} {k : Nat} (hk : ∀ x, (cells x).length = k) {B g n : Nat} {W : World} {l : List α} {T : TypeId} {cs : Array Value} (h : W.heap[g]? = some (.cells cs T (0, 0))) (hcs : cs.toList = l.flatMap cells) (hn : l.length = n) (hl : n ≤ 100000) (hB : g < B) : RowsAt cells k B W (.slice (some ⟨g, 0, none⟩) n n) l := by
  subst hn
  refine ⟨_, _, rfl, ⟨by omega, Nat.le_refl _⟩, fun _ => ⟨g, 0, rfl, hB, fun i hi j u hu => ?_⟩⟩
  rw [Nat.zero_add, cell_of_row W g (i * k + j) _ _ (0, 0) h]
  have hj : j < k := by rw [← hk l[i]]; exact (List.getElem?_eq_some_iff.1 hu).1
  have := (flat_getN hk l i hi j hj).trans hu
  rw [← hcs] at this
  simpa using this
theorem rows_nilN {α : Type} {cells : α → List Value} {k B : Nat} {W : World} : RowsAt cells k B W (.slice none 0 0) [] := ⟨none, 0, rfl, ⟨by simp, by simp⟩, fun h => absurd rfl h⟩
end Go.Proofs.YtmhfhmhjaecoaaaGreatDoor
namespace Go.Proofs.YtmhfhmhjaecoaaaGreatDoor
open Go.RowKit Go.Joins Go.Maps Go.Sort
open Classical
set_option linter.unusedVariables false
set_option linter.unusedSimpArgs false

/-- all names of a book with one zone and no link -/
theorem all_one {nm : ByteArray} {ev : Value} {l : List Er} {ns : List ByteArray} (h : AllN ⟨[], [⟨nm, ev, l⟩], []⟩ ns) : ns = [nm] := by
  have hm : ∀ s, s ∈ ns ↔ nm = s := by
    intro s
    rw [h.mem s]
    constructor
    · rintro (⟨z, hz, e⟩ | ⟨⟨x, hx, -⟩, -⟩)
      · rw [List.mem_singleton.1 hz] at e; exact e
      · cases hx
    · intro e
      exact .inl ⟨_, List.mem_singleton.2 rfl, e⟩
  have hn := (hm nm).2 rfl
  have hd := h.nd
  match ns, hn, hd, hm with
  | [], hn, _, _ => cases hn
  | [a], _, _, hm => rw [(hm a).1 List.mem_cons_self]
  | a :: c :: r, _, hd, hm =>
    have e1 := (hm a).1 List.mem_cons_self
    have e2 := (hm c).1 (List.mem_cons_of_mem _ List.mem_cons_self)
    exact absurd (e1.symm.trans e2) ((List.pairwise_cons.1 hd).1 c List.mem_cons_self)
theorem srt_one (nm : ByteArray) : ((bsL [nm]).mergeSort leB).map encStr = [.string nm] := by
  have e : (bsL [nm]).mergeSort leB = [nm.data.toList] := by unfold bsL; simp
  rw [e]
  show [encStr nm.data.toList] = _
  unfold encStr
  simp
set_option maxRecDepth 100000 in
set_option maxHeartbeats 20000000 in
theorem BackNamed_walk (t : Tab) (v : Value) (nm : ByteArray) (w : World) (hv : TabAt w v t) (hn : nm.size ≤ 140737488351232) (hm : MaxLen w) (ht : Tab10 w) :
    Calls Tryz.prog 3 #[v, .string nm] w fun e w' => e = .returned (.bool true) ∧ Below w.heap.size w w' := by
  obtain ⟨p1, c1, p2, c2, rfl⟩ := tabForms hv
  obtain ⟨W0, eW⟩ : ∃ W0, w.alloc (.cells #[.slice p1 t.types.length c1, .int .i64 t.first, .slice p2 t.chs.length c2] 25) = W0 := ⟨_, rfl⟩
  have hb0 : Below w.heap.size w W0 := by rw [← eW]; exact (Below.refl _ _).alloc (Nat.le_refl _) _
  have hx0 : W0.heap[w.heap.size]? = some (.cells #[.slice p1 t.types.length c1, .int .i64 t.first, .slice p2 t.chs.length c2] 25 (0, 0)) := by rw [← eW]; exact heap_alloc_new w _
  have hz0 : w.heap.size < W0.heap.size := (Array.getElem?_eq_some_iff.mp hx0).1
  have hv0 := hv.below hb0
  have HTX : Hid (∀ W, Below W0.heap.size W0 W → (W.cell? ⟨w.heap.size, 0, none⟩ = some (.slice p1 t.types.length c1) ∧ W.cell? ⟨w.heap.size, 1, none⟩ = some (.int .i64 t.first) ∧ W.cell? ⟨w.heap.size, 2, none⟩ = some (.slice p2 t.chs.length c2)) ∧ TabAt W (.agg #[.slice p1 t.types.length c1, .int .i64 t.first, .slice p2 t.chs.length c2]) t) := by
    show ∀ W, _
    intro W hb
    have hx := (hb.block w.heap.size hz0).trans hx0
    exact ⟨⟨(cell_of_row W _ 0 _ _ _ hx).trans rfl, (cell_of_row W _ 1 _ _ _ hx).trans rfl, (cell_of_row W _ 2 _ _ _ hx).trans rfl⟩, hv0.below hb⟩
  have HEW := Lib.hid eW
  have HB0 := Lib.hid hb0
  have HM := Lib.hid (hm.below hb0)
  have HT := Lib.hid (ht.below hb0)
  have hnl : nm.size ≤ maxLen := by simp only [maxLen]; omega
  have HBD := Lib.hid (BB.backed_any W0 HT.out)
  clear eW hb0 hx0 hv hv0 hm ht
  go_enter Tryz.func3, Tryz.ntmps3
  go_upto_region 1 with fail
  rw [HEW.out]
  go_wp2_with fail
  refine HBD.out.mono ?_
  rintro e w1 ⟨rfl, hb1⟩
  have HA1 := Lib.hid hb1
  obtain ⟨⟨g0, g1, g2⟩, htab⟩ := HTX.out w1 hb1
  have hl1 : w.heap.size < w1.heap.size := by have := hb1.size; omega
  have HBK := Lib.hid (BB.Book_any t _ nm w1 htab hnl (HT.out.below hb1))
  clear hb1 htab HBD
  go_wp2_with fail
  refine HBK.out.mono ?_
  intro e w2 hpost
  obtain ⟨hb2, hpost⟩ := hpost
  rcases hpost with ⟨hC, rfl⟩ | ⟨hC, Z, cz, p, ce, rfl, hbk⟩
  · obtain ⟨C, eC⟩ : ∃ C, BB.backC t nm = C := ⟨_, rfl⟩
    rw [eC] at hC ⊢
    have hz : (C == 0) = false := by simpa using hC
    have hzn : (C != 0) = true := by simpa using hC
    have HA2 := Lib.hid (HA1.out.trans (hb2.mono HA1.out.size))
    have hfin := HB0.out.trans ((HA2.out.alloc HA2.out.size (.cells #[.slice none 0 0, .slice none 0 0, .slice none 0 0] 31)).mono HB0.out.size)
    have HFN := Lib.hid hfin
    clear hb2 eC hC HBK HTX hfin
    go_wp2_with fail
    go_ret
    exact ⟨rfl, HFN.out⟩
  · obtain ⟨hkd, hct⟩ := bkd_of hC
    have HCK := Lib.hid (fun ev => bBk_chk1 hkd ev)
    have HBA := Lib.hid (fun W h => bBookAt (W := W) (Z := Z) (cz := cz) (p := p) (ce := ce) h hkd hn)
    obtain ⟨W3, e3⟩ : ∃ W3, w2.alloc (.cells #[.slice none 0 0, .slice (some ⟨Z, 0, none⟩) 1 cz, .slice none 0 0] 31) = W3 := ⟨_, rfl⟩
    have hx3 : W3.heap[w2.heap.size]? = some (.cells #[.slice none 0 0, .slice (some ⟨Z, 0, none⟩) 1 cz, .slice none 0 0] 31 (0, 0)) := by rw [← e3]; exact heap_alloc_new w2 _
    have hb3 : Below w2.heap.size w2 W3 := by rw [← e3]; exact (Below.refl _ _).alloc (Nat.le_refl _) _
    have HA3 := Lib.hid (HA1.out.trans ((hb2.trans (hb3.mono hb2.size)).mono HA1.out.size))
    have hbk3 := hbk.below hb3
    obtain ⟨bb, ebb⟩ : ∃ bb, w2.heap.size = bb := ⟨_, rfl⟩
    have HE3 := Lib.hid e3
    have HEB := Lib.hid ebb
    rw [ebb] at hx3
    have y0 : W3.cell? ⟨bb, 0, none⟩ = some (.slice none 0 0) := (cell_of_row W3 _ 0 _ _ _ hx3).trans rfl
    have y1 : W3.cell? ⟨bb, 1, none⟩ = some (.slice (some ⟨Z, 0, none⟩) 1 cz) := (cell_of_row W3 _ 1 _ _ _ hx3).trans rfl
    have y2 : W3.cell? ⟨bb, 2, none⟩ = some (.slice none 0 0) := (cell_of_row W3 _ 2 _ _ _ hx3).trans rfl
    have HALL := Lib.hid (All_go _ _ _ _ W3 (HBA.out W3 hbk3) (HM.out.below HA3.out) (HT.out.below HA3.out))
    clear g0 g1 g2 hbk hbk3 hx3 hb2 hb3 e3 ebb hC hkd hct HBK HTX HBA
    go_upto_region 4 with fail
    rw [HE3.out, HEB.out]
    go_wp2_with fail
    refine HALL.out.mono ?_
    rintro e w4 ⟨hb4, -, hgood⟩
    obtain ⟨v4, ns, rfl, hall, -, hrow⟩ := hgood (HCK.out _)
    obtain rfl := all_one hall
    rw [srt_one] at hrow
    obtain ⟨A4, a4, rfl⟩ := own_sliceN hrow
    have HA4 := Lib.hid (HA3.out.trans (hb4.mono HA3.out.size))
    have hr4 : RowsAt stL 1 w4.heap.size w4 (.slice A4 1 a4) [nm] := own_rowsG (cells := stL) (k := 1) (fun _ => rfl) (l := [nm]) hrow (by simp)
    obtain ⟨W5, e5⟩ : ∃ W5, w4.alloc (.cells #[.string nm] 9) = W5 := ⟨_, rfl⟩
    have hb5 : Below w4.heap.size w4 W5 := by rw [← e5]; exact (Below.refl _ _).alloc (Nat.le_refl _) _
    have hx5 : W5.heap[w4.heap.size]? = some (.cells #[.string nm] 9 (0, 0)) := by rw [← e5]; exact heap_alloc_new w4 _
    have hr5 : RowsAt stL 1 W5.heap.size W5 (.slice (some ⟨w4.heap.size, 0, none⟩) 1 1) [nm] := rows_lit (cells := stL) (k := 1) (l := [nm]) (fun _ => rfl) hx5 rfl rfl (by simp) (Array.getElem?_eq_some_iff.mp hx5).1
    have heq := Eq_strs [nm] [nm] _ _ W5.heap.size W5 ((hr4.below hb5 (Nat.le_refl _)).mono hb5.size) hr5 rfl
    rw [decide_eq_true rfl] at heq
    have HEQ := Lib.hid heq
    have HA5 := Lib.hid (HA4.out.trans (hb5.mono HA4.out.size))
    have HE5 := Lib.hid e5
    clear hb4 hgood hall hrow hr4 hb5 hx5 hr5 heq e5 y0 y1 y2 HALL
    simp only [List.length_singleton]
    go_wp2_with fail
    rw [HE5.out]
    refine HEQ.out.mono ?_
    rintro e w6 ⟨rfl, rfl⟩
    go_wp2_with fail
    go_ret
    exact ⟨rfl, HB0.out.trans (HA5.out.mono HB0.out.size)⟩
end Go.Proofs.YtmhfhmhjaecoaaaGreatDoor
namespace Go.Proofs.YtmhfhmhjaecoaaaGreatDoor
open Go.ChangeShapes Go.WideShapes Go.Deep Go.RowKit Go.Joins
set_option linter.unusedVariables false
set_option linter.unusedSimpArgs false

section
variable {H : Type} {enc : TypeId × Value → H} {P : Program} {w : World} {base : Nat} {spare : Nat → Bool} {held : Bool}
/-- (the guide's lemma on slices of structs) -/
theorem open_slice_fields {t e : TypeId} {fs : Array Field} {fuel : Nat} {cs : List Value} {x : DataW H × List MemPlace} (ht : P.underlying t = some (.slice e)) (he : P.underlying e = some (.struct fs))
    (hone : oneCellFields P fs = true) (hC : P.cellsOf e = fs.size) (h : DataW.trod enc P w base spare held fuel t cs = some x) :
    (cs = [.slice none 0 0] ∧ x = (.nil, [])) ∨
    ∃ (a : Addr) (len cap m : Nat) (D : Nat → DataW H) (Pl : Nat → List MemPlace), cs = [.slice (some a) len cap] ∧ base ≤ a.block ∧ len ≤ cap ∧ cap ≤ maxLen ∧ m = (if spare a.block then cap else len) ∧
      x = (.slice ((List.range len).map D) ((List.range (m - len)).map fun j => D (len + j)), MemPlace.row a (m * fs.size) ++ (List.range m).flatMap Pl) ∧
      ∀ i, i < m → ∃ (ys : List (DataW H × List MemPlace)) (n : Nat), D i = .agg (ys.map (·.1)) ∧ Pl i = ys.flatMap (·.2) ∧ ys.length = fs.size ∧
        ∀ (j : Nat) (f : Field), fs[j]? = some f → ∃ (v : Value) (y : DataW H × List MemPlace), w.cell? (a.add (i * fs.size + j)) = some v ∧ ys[j]? = some y ∧ DataW.trod enc P w base spare held n f.type [v] = some y := by
  rcases open_slice ht h with h0 | ⟨a, len, cap, m, n, D, Pl, hcs, hb, hl, hm, hmm, hx, hi⟩
  · exact .inl h0
  · refine .inr ⟨a, len, cap, m, D, Pl, hcs, hb, hl, hm, hmm, by rw [hC] at hx; exact hx, fun i him => ?_⟩
    obtain ⟨cs', hc, ht'⟩ := hi i him
    rw [hC] at hc
    obtain ⟨ys, n', hn', hy, hlen, hyl, hf⟩ := DataW.trod_struct he ht'
    obtain ⟨_, hcl, hat⟩ := World.cells?_some hc
    simp only [Prod.mk.injEq] at hy
    refine ⟨ys, n', hy.1, hy.2, hyl, fun j f hj => ?_⟩
    obtain ⟨ho, hk⟩ := hone_of hone j f hj
    have hjl : j < fs.size := (Array.getElem?_eq_some_iff.1 hj).1
    have hcell := hat j hjl
    have hv : cs'[j]? = some (cs'[j]'(by omega)) := List.getElem?_eq_getElem (by omega)
    have h1 := hf j f hj
    rw [ho, hk] at h1
    have hone' : (cs'.drop j).take 1 = [cs'[j]'(by omega)] := by
      rw [List.drop_eq_getElem_cons (by omega)]
      rfl
    rw [hone'] at h1
    have hys : ys[j]? = some (ys[j]'(by omega)) := List.getElem?_eq_getElem (by omega)
    refine ⟨_, _, ?_, hys, h1.trans hys⟩
    rw [← Go.Deep.add_add, hcell, hv]
end

theorem und_types : Tryz.prog.underlying 22 = some (.slice 71) := by kernel_rfl
theorem und_changes : Tryz.prog.underlying 23 = some (.slice 80) := by kernel_rfl

/-- an address that holds a cell is plain -/
theorem spot_none {w : World} {a : Addr} {v : Value} (h : w.cell? a = some v) : a = ⟨a.block, a.off, none⟩ := by
  obtain ⟨b, o, s⟩ := a
  cases s with
  | none => rfl
  | some k =>
    simp only [World.cell?] at h
    split at h
    · simp at h
    · cases h
theorem add_plain (b o i : Nat) : (⟨b, o, none⟩ : Addr).add i = ⟨b, o + i, none⟩ := by
  unfold Addr.add
  split
  · rename_i h; subst h; rfl
  · rfl

theorem list_of {α : Type} [Inhabited α] (n : Nat) (Q : Nat → α → Prop) (h : ∀ i, i < n → ∃ x, Q i x) : ∃ l : List α, l.length = n ∧ ∀ i (hi : i < l.length), Q i l[i] := by
  classical
  refine ⟨(List.range n).map fun i => if hi : i < n then Classical.choose (h i hi) else default, by simp, fun i hi => ?_⟩
  have hi' : i < n := by simpa using hi
  simp only [List.getElem_map, List.getElem_range, hi', dite_true]
  exact Classical.choose_spec (h i hi')

instance : Inhabited Ty := ⟨⟨0, false, ⟨#[]⟩⟩⟩
instance : Inhabited Ch := ⟨⟨0, 0⟩⟩

section
variable {H : Type} {enc : TypeId × Value → H} {w : World} {base : Nat} {spare : Nat → Bool} {held : Bool}

theorem SlTy_open {fuel : Nat} {v : Value} {x : DataW H × List MemPlace} (h : DataW.trod enc Tryz.prog w base spare held fuel 22 [v] = some x) : ∃ l, SlTy w v l := by
  rcases open_slice_fields und_types Tryz.underlying71 (by kernel_rfl) (by kernel_rfl) h with ⟨hcs, _⟩ | ⟨a, len, cap, m, D, Pl, hcs, hb, hl, hm, hmm, hx, hf⟩
  · obtain rfl : v = .slice none 0 0 := by simpa using hcs
    exact ⟨[], ⟨⟨none, 0, rfl, fun h => absurd rfl h⟩, by simp, by simp⟩⟩
  · obtain rfl : v = .slice (some a) len cap := by simpa using hcs
    have hlm : len ≤ m := by rw [hmm]; split <;> omega
    have key : ∀ i, i < len → ∃ x : Ty, tyAt w a.block (a.off + i * 3) x ∧ x.name.size ≤ maxLen ∧ a = ⟨a.block, a.off, none⟩ ∧ a.block < w.heap.size := by
      intro i hi
      obtain ⟨ys, n, _, _, _, hfs⟩ := hf i (by omega)
      obtain ⟨ys0, n0, _, _, _, hfs0⟩ := hf 0 (by omega)
      obtain ⟨z0, _, d0, _, _⟩ := hfs0 0 _ rfl
      have hsp : a = ⟨a.block, a.off, none⟩ := by
        have e : a.add (0 * 3 + 0) = a := rfl
        exact spot_none (w := w) (v := z0) d0
      obtain ⟨v0, y0, c0, _, t0⟩ := hfs 0 _ rfl
      obtain ⟨v1, y1, c1, _, t1⟩ := hfs 1 _ rfl
      obtain ⟨v2, y2, c2, _, t2⟩ := hfs 2 _ rfl
      obtain ⟨b0, e0, _, _⟩ := DataW.trod_int Tryz.underlying3 t0
      obtain ⟨b1, e1, _⟩ := DataW.trod_bool Tryz.underlying4 t1
      obtain ⟨b2, e2, _, hs2⟩ := DataW.trod_string Tryz.underlying9 t2
      simp only [List.cons.injEq, and_true] at e0 e1 e2
      subst e0 e1 e2
      have hlt : a.block < w.heap.size := by
        rw [hsp, add_plain] at d0
        exact World.block_lt_of_cell? w ⟨a.block, _, none⟩ d0
      rw [hsp, add_plain] at c0 c1 c2
      exact ⟨⟨b0, b1, b2⟩, ⟨c0, c1, c2⟩, hs2, hsp, hlt⟩
    obtain ⟨l, hl1, hl2⟩ := list_of len _ key
    subst hl1
    refine ⟨l, ⟨⟨some a, cap, rfl, fun hne => ?_⟩, by omega, fun x hx => ?_⟩⟩
    · have hp : 0 < l.length := List.length_pos_iff.2 hne
      obtain ⟨_, _, h3, h4⟩ := hl2 0 hp
      exact ⟨a.block, a.off, congrArg some h3, h4, fun i hi => (hl2 i hi).1⟩
    · obtain ⟨i, hi, rfl⟩ := List.mem_iff_getElem.1 hx
      exact (hl2 i hi).2.1

theorem SlCh_open {fuel : Nat} {v : Value} {x : DataW H × List MemPlace} (h : DataW.trod enc Tryz.prog w base spare held fuel 23 [v] = some x) : ∃ l, SlCh w v l := by
  rcases open_slice_fields und_changes Tryz.underlying80 (by kernel_rfl) (by kernel_rfl) h with ⟨hcs, _⟩ | ⟨a, len, cap, m, D, Pl, hcs, hb, hl, hm, hmm, hx, hf⟩
  · obtain rfl : v = .slice none 0 0 := by simpa using hcs
    exact ⟨[], ⟨⟨none, 0, rfl, fun h => absurd rfl h⟩, by simp⟩⟩
  · obtain rfl : v = .slice (some a) len cap := by simpa using hcs
    have hlm : len ≤ m := by rw [hmm]; split <;> omega
    have key : ∀ i, i < len → ∃ x : Ch, chAt w a.block (a.off + i * 2) x ∧ a = ⟨a.block, a.off, none⟩ ∧ a.block < w.heap.size := by
      intro i hi
      obtain ⟨ys, n, _, _, _, hfs⟩ := hf i (by omega)
      obtain ⟨ys0, n0, _, _, _, hfs0⟩ := hf 0 (by omega)
      obtain ⟨z0, _, d0, _, _⟩ := hfs0 0 _ rfl
      have hsp : a = ⟨a.block, a.off, none⟩ := spot_none (w := w) (v := z0) d0
      obtain ⟨v0, y0, c0, _, t0⟩ := hfs 0 _ rfl
      obtain ⟨v1, y1, c1, _, t1⟩ := hfs 1 _ rfl
      obtain ⟨b0, e0, _, _⟩ := DataW.trod_int Tryz.underlying3 t0
      obtain ⟨b1, e1, _, _⟩ := DataW.trod_int Tryz.underlying3 t1
      simp only [List.cons.injEq, and_true] at e0 e1
      subst e0 e1
      have hlt : a.block < w.heap.size := by
        rw [hsp, add_plain] at d0
        exact World.block_lt_of_cell? w ⟨a.block, _, none⟩ d0
      rw [hsp, add_plain] at c0 c1
      exact ⟨⟨b0, b1⟩, ⟨c0, c1⟩, hsp, hlt⟩
    obtain ⟨l, hl1, hl2⟩ := list_of len _ key
    subst hl1
    refine ⟨l, ⟨⟨some a, cap, rfl, fun hne => ?_⟩, by omega⟩⟩
    have hp : 0 < l.length := List.length_pos_iff.2 hne
    obtain ⟨_, h3, h4⟩ := hl2 0 hp
    exact ⟨a.block, a.off, congrArg some h3, h4, fun i hi => (hl2 i hi).1⟩

theorem cellsTable : Tryz.prog.cellsOf 25 = 3 := by kernel_rfl
set_option maxRecDepth 100000 in
/-- A law's table argument -/
theorem TabAt_open {r : Reach} {b0 : Nat} {v : Value} {d : DataW H} {p : List MemPlace} (hv : Value.okWide Tryz.prog w r b0 25 v) (h : DataW.Trod enc Tryz.prog w base spare held 25 v d p) : ∃ t, TabAt w v t := by
  obtain ⟨c0, c1, c2, y0, y1, y2, m, rfl, _, _, g0, g1, g2⟩ := open_agg3 Tryz.underlying25 (by kernel_rfl) cellsTable hv h
  obtain ⟨l, hl⟩ := SlTy_open g0
  obtain ⟨b1, e1, _, _⟩ := DataW.trod_int Tryz.underlying3 g1
  obtain ⟨k, hk⟩ := SlCh_open g2
  simp only [List.cons.injEq, and_true] at e1
  subst e1
  exact ⟨⟨l, b1, k⟩, _, _, rfl, hl, hk⟩
end

end Go.Proofs.YtmhfhmhjaecoaaaGreatDoor
namespace Go.Proofs.YtmhfhmhjaecoaaaGreatDoor
open Go.ChangeShapes Go.WideShapes Go.ChangeAt Go.RowKit
set_option linter.unusedVariables false

theorem own : ownKnob Tryz.prog.godebug = none := by kernel_rfl

section
variable {H : Type} {enc : TypeId × Value → H} {P : Program}
theorem post_of_below {f : Func} {s : ChangeSpec} {apart fresh handsOn again : Bool} {W W' : World} {args : Array Value} {v : Value} {ds gs : List (DataW H)} {before pa pv : List MemPlace}
    (hW : DataW.Whole enc P f.params.toList s.vars apart W args.toList ds gs before)
    (hres : ∀ (b : Nat) (sp : Nat → Bool) (hd : Bool), DataW.TrodAll enc P W' b sp hd f.resultTypes.toList (v.resultList f.resultTypes.size) (s.fn H (ds ++ gs)).results [])
    (hargs : ∀ sp : Nat → Bool, (∀ p ∈ before, sp p.block = true) → DataW.TrodAll enc P W' 0 sp true f.params.toList args.toList (s.fn H (ds ++ gs)).args pa)
    (hvars : ∀ sp : Nat → Bool, (∀ p ∈ before, sp p.block = true) → DataW.TrodVars enc P W' sp s.vars (s.fn H (ds ++ gs)).vars pv)
    (hps : before = pa ++ pv) (hb : Below W.heap.size W W')
    (hok : ∀ (j : Nat) (t : TypeId) (r : Value), f.resultTypes[j]? = some t → (v.resultList f.resultTypes.size)[j]? = some r → Value.okWide P W' .any 0 t r) :
    s.post enc P f apart fresh handsOn again W args v W' := by
  have hlt : ∀ p ∈ before, p.block < W.heap.size := fun p hp => hW.lt p hp
  have hold : ∀ p ∈ before, (fun b => decide (b < W.heap.size)) p.block = true := fun p hp => by simpa using hlt p hp
  refine ⟨ds, gs, before, [], pa, pv, hW, hres _ _ _, hargs _ hold, hvars _ hold, World.keptBut_mono (fun p hp => ⟨hp, ?_⟩) (hb.frame (· ∈ before)), fun _ => ?_⟩
  · rw [hps, List.mem_append] at hp
    exact Or.inr hp
  · obtain ⟨_, _, _, _, _, hz, hn⟩ := hW
    refine ⟨hok, _, _, ([] ++ pa) ++ pv, ⟨[] ++ pa, pv, trodAll_append (hargs _ (fun _ _ => rfl)) (hres _ _ _), hvars _ (fun _ _ => rfl), rfl, ?_, ?_⟩, ?_⟩
    · intro b off hp
      have hin : MemPlace.cell b off ∈ before := by rw [hps]; simpa using hp
      rw [hb.frozen (hlt _ hin)]
      exact hz b off hin
    · intro ha
      have := hn ha
      rw [hps] at this
      simpa using this
    · intro p hp _
      rw [hps]
      simpa using hp
end

end Go.Proofs.YtmhfhmhjaecoaaaGreatDoor
namespace Go.Proofs.YtmhfhmhjaecoaaaGreatDoor
open Go.ChangeShapes Go.WideShapes Go.ChangeAt Go.RowKit
set_option linter.unusedVariables false

theorem laidOut : laidOutB Tryz.prog = true := by kernel_rfl

theorem trodAll_stays {H : Type} {enc : TypeId × Value → H} {P : Program} {W W' : World} {sp : Nat → Bool} (hl : laidOutB P = true) (hb : Below W.heap.size W W') :
    ∀ (ts : List TypeId) (vs : List Value) (ds : List (DataW H)) (ps : List MemPlace), (ts.all fun t => P.readableRec t && decide (t < P.types.size)) = true → (∀ p ∈ ps, p.block < W.heap.size) → (∀ p ∈ ps, sp p.block = true) →
      DataW.TrodAll enc P W 0 (fun _ => true) true ts vs ds ps → DataW.TrodAll enc P W' 0 sp true ts vs ds ps
  | [], [], [], _, _, _, _, h => h
  | t :: ts, v :: vs, d :: ds, ps, hts, hlt, hsp, ⟨p, q, h1, h2, e⟩ => by
    simp only [List.all_cons, Bool.and_eq_true, decide_eq_true_eq] at hts
    refine ⟨p, q, ?_, trodAll_stays hl hb ts vs ds q hts.2 (fun x hx => hlt x (by rw [e]; exact List.mem_append_right _ hx)) (fun x hx => hsp x (by rw [e]; exact List.mem_append_right _ hx)) h2, e⟩
    exact WideElems.Trod_stays hl hts.1.1 hts.1.2 h1 (fun x hx => hb.same (hlt x (by rw [e]; exact List.mem_append_left _ hx))) (fun x hx => hsp x (by rw [e]; exact List.mem_append_left _ hx))
  | [], [], _ :: _, _, _, _, _, h => h.elim
  | [], _ :: _, _, _, _, _, _, h => h.elim
  | _ :: _, [], _, _, _, _, _, h => h.elim
  | _ :: _, _ :: _, [], _, _, _, _, h => h.elim

end Go.Proofs.YtmhfhmhjaecoaaaGreatDoor
namespace Go.Proofs.YtmhfhmhjaecoaaaGreatDoor
open Go.ChangeShapes Go.WideShapes Go.ChangeAt Go.RowKit
set_option linter.unusedVariables false

theorem gPow : Tryz.prog.globalNamed "internal/strconv.uint64pow10" = some 3 := by kernel_rfl
theorem gPowType : (Tryz.prog.globals[3]?).map (·.type) = some 294 := by kernel_rfl
theorem tab10_of {W : World} {a b : String × DataW Unit} {rest : List (String × DataW Unit)} (h : laidMet Tryz.prog (a :: b :: ("internal/strconv.uint64pow10", Rows.laid_internal_strconv_uint64pow10) :: rest) W) : Tab10 W :=
  Lib.tabIs_of_head (rest := rest) gPow gPowType Tryz.underlying294 Tryz.underlying210 (by kernel_rfl) (by kernel_rfl) h.tail.tail
end Go.Proofs.YtmhfhmhjaecoaaaGreatDoor
namespace Go.Proofs.YtmhfhmhjaecoaaaGreatDoor
open Go.ChangeShapes Go.WideShapes Go.ChangeAt Go.RowKit
set_option linter.unusedVariables false

theorem maxLen_of {W : World} (h : W.ShapedOpen Tryz.prog) : MaxLen W :=
  Go.Proofs.cell_of_shapedOpen_int (zero := #[.int .i64 0]) (t := 3) h (of_decide_eq_true (by kernel_rfl)) (by kernel_rfl) rfl (by kernel_rfl) (by kernel_rfl) Tryz.underlying3
end Go.Proofs.YtmhfhmhjaecoaaaGreatDoor
