/- (places).resolve: what it returns. names.Resolve: what it returns. names.Resolve: the walk. The reference's Eq of eras, and ZoneEq. Rows of literals. NamesZones: the plain law: a zone's name leads to it, a link where its target leads. ZoneEq of equal zones; the closed fact of names. table.Of of a table that may be. Tables as bytes, in plain Lean: what is written, what is read. pack.put: appends some bytes of a number to a slice of the call's own. sample(): what it returns. -/
import Derived.Test.YtomahddiclkepaaDoorQo06
import Derived.Deep.AppendLies
import Derived.Laws.AppendOwn
import Derived.Laws.OwnMore
import Derived.Lib.SliceRun
import Derived.Laws.StructEq
import Derived.Deep.DeepCutAuto
import Derived.Test.YtomahddiclkepaaDoorQo04
import Derived.Test.YtomahddiclkepaaDoorQo01
import Derived.Deep.LoopGhost
import Derived.RegionTactic
import Derived.ChangeAlike
import Derived.BigRegion
import Derived.Sort.Walk0
import Derived.StillTailTactics
import Derived.Laws.BytesArg
import Derived.Maps.AppendAt
import Derived.OwnWalk
import Derived.Lib.AppendStr
import Derived.Lib.SmallJoins
namespace Go.Proofs.YtomahddiclkepaaDoor
open Go.RowKit Go.Joins Go.Maps
open Classical
set_option linter.unusedVariables false
set_option linter.unusedSimpArgs false
def lookF {α : Type} (key : α → ByteArray) (l : List α) (k : ByteArray) : Option α := l.foldl (fun acc x => if key x = k then some x else acc) none
def Dof {α : Type} (key : α → ByteArray) (val : α → Value) (l : List α) : DataW Value := l.foldl (fun D x => D.put (kyS (key x)) (.held (val x))) (.map [])
theorem kyS_inj {a b : ByteArray} (h : a ≠ b) : kyS a ≠ kyS b := fun e => h (by
 injection e with e
 cases a; cases b; simp_all [Array.toList_inj])
theorem Dof_look {α : Type} (key : α → ByteArray) (val : α → Value) (k : ByteArray) : ∀ (l : List α) (D : DataW Value) (acc : Option α), IsMap D → (has D (kyS k) = acc.isSome ∧ ∀ zd, D.atKey (kyS k) zd = (match acc with | some x => .held (val x) | none => zd)) →
 (has (l.foldl (fun D x => D.put (kyS (key x)) (.held (val x))) D) (kyS k) = (l.foldl (fun acc x => if key x = k then some x else acc) acc).isSome ∧ ∀ zd, (l.foldl (fun D x => D.put (kyS (key x)) (.held (val x))) D).atKey (kyS k) zd = (match l.foldl (fun acc x => if key x = k then some x else acc) acc with | some x => .held (val x) | none => zd)) := by
 intro l
 induction l with
 | nil => intro D acc _ h; exact h
 | cons x r ih =>
  intro D acc hD h
  refine ih _ _ (hD.put _ _) ?_
  dsimp only
  by_cases e : key x = k
  ·rw [if_pos e, e]
   exact ⟨has_put_same hD (show WideAt.IsKeyLit (kyS k) from trivial) _, fun zd => atKey_put_same hD (show WideAt.IsKeyLit (kyS k) from trivial) _ _⟩
  ·rw [if_neg e]
   have hne : kyS k ≠ kyS (key x) := kyS_inj (fun h => e h.symm)
   refine ⟨(has_put_other hne _).trans h.1, fun zd => (atKey_put_other hne _ _).trans (h.2 zd)⟩
theorem Dof_has {α : Type} (key : α → ByteArray) (val : α → Value) (l : List α) (k : ByteArray) : has (Dof key val l) (kyS k) = (lookF key l k).isSome ∧ ∀ zd, (Dof key val l).atKey (kyS k) zd = (match lookF key l k with | some x => .held (val x) | none => zd) :=
 Dof_look key val k l (.map []) none isMap_empty ⟨rfl, fun zd => rfl⟩
theorem lookF_mem {α : Type} {key : α → ByteArray} {k : ByteArray} : ∀ {l : List α} {acc : Option α} {x : α}, l.foldl (fun acc x => if key x = k then some x else acc) acc = some x → (x ∈ l ∧ key x = k) ∨ acc = some x := by
 intro l
 induction l with
 | nil => intro acc x h; exact .inr h
 | cons y r ih =>
  intro acc x h
  rcases ih h with ⟨h1, h2⟩ | h1
  ·exact .inl ⟨List.mem_cons_of_mem _ h1, h2⟩
  ·dsimp only at h1
   by_cases e : key y = k
   ·rw [if_pos e] at h1
    injection h1 with h1
    subst h1
    exact .inl ⟨List.mem_cons_self .., e⟩
   ·rw [if_neg e] at h1; exact .inr h1
theorem lookF_in {α : Type} {key : α → ByteArray} {k : ByteArray} {l : List α} {x : α} (h : lookF key l k = some x) : x ∈ l ∧ key x = k := by
 rcases lookF_mem h with h | h
 ·exact h
 ·cases h
def resF (zs : List Zo) (ls : List Lk) : Nat → ByteArray → Option Zo × Int
 | 0, _ => (none, 8)
 | n + 1, k => match lookF (·.nm) zs k with
  | some z => (some z, 0)
  | none => match lookF (·.nm) ls k with
   | none => (none, 6)
   | some x => resF zs ls n x.tg
def zoVal (z : Option Zo) : Value := match z with | some z => zoV z | none => .agg #[.string ⟨#[]⟩, .slice none 0 0]
theorem zeroZo (W : World) : (zeroValue 34).run Tryd.prog W = .ok (.agg #[.string ⟨#[]⟩, .slice none 0 0]) W := by kernel_rfl
theorem zeroStr (W : World) : (zeroValue 9).run Tryd.prog W = .ok (.string ⟨#[]⟩) W := by kernel_rfl
theorem look_zone {B : Nat} {W : World} {pb bz bl nz nl : Nat} {zs : List Zo} {ls : List Lk} (h : PlAt B W pb bz bl nz nl zs ls) (k : ByteArray) (hk : k.size ≤ maxLen) :
 (Instr.lookup 68 (.map (some bz)) (.string k) true).run Tryd.prog W = .ok (.tuple #[zoVal (lookF (·.nm) zs k), .bool (lookF (·.nm) zs k).isSome]) W := by
 obtain ⟨v, ps, hrun, hv⟩ := h.z.look_ok keyS Tryd.underlying68 (zeroZo W) (zd := .held (.agg #[.string ⟨#[]⟩, .slice none 0 0])) (zp := []) rfl (Go.WideMaps.keyOf_string_mk Tryd.underlying9 hk)
 have hd := Dof_has (·.nm) zoV zs k
 have e : DZ zs = Dof (·.nm) zoV zs := rfl
 rw [e] at hrun hv
 have hv2 : DataW.held v = _ := (congrArg Prod.fst (Option.some.inj hv)).trans (hd.2 _)
 rw [hrun, hd.1]
 clear hrun hv hd e
 cases hl : lookF (·.nm) zs k with
 | none => rw [hl] at hv2; rw [DataW.held.inj hv2]; rfl
 | some z => rw [hl] at hv2; rw [DataW.held.inj hv2]; rfl
theorem look_link {B : Nat} {W : World} {pb bz bl nz nl : Nat} {zs : List Zo} {ls : List Lk} (h : PlAt B W pb bz bl nz nl zs ls) (k : ByteArray) (hk : k.size ≤ maxLen) :
 (Instr.lookup 69 (.map (some bl)) (.string k) true).run Tryd.prog W = .ok (.tuple #[.string (match lookF (·.nm) ls k with | some x => x.tg | none => ⟨#[]⟩), .bool (lookF (·.nm) ls k).isSome]) W := by
 obtain ⟨v, ps, hrun, hv⟩ := h.l.look_ok keyS Tryd.underlying69 (zeroStr W) (zd := .held (.string ⟨#[]⟩)) (zp := []) rfl (Go.WideMaps.keyOf_string_mk Tryd.underlying9 hk)
 have hd := Dof_has (·.nm) (fun x : Lk => .string x.tg) ls k
 have e : DL ls = Dof (·.nm) (fun x : Lk => .string x.tg) ls := rfl
 rw [e] at hrun hv
 have hv2 : DataW.held v = _ := (congrArg Prod.fst (Option.some.inj hv)).trans (hd.2 _)
 rw [hrun, hd.1]
 clear hrun hv hd e
 cases hl : lookF (·.nm) ls k with
 | none => rw [hl] at hv2; rw [DataW.held.inj hv2]
 | some z => rw [hl] at hv2; rw [DataW.held.inj hv2]
theorem resF_z {zs : List Zo} {ls : List Lk} {n : Nat} {k : ByteArray} {z : Zo} (h : lookF (·.nm) zs k = some z) : resF zs ls (n + 1) k = (some z, 0) := by
 rw [resF, h]
theorem resF_none {zs : List Zo} {ls : List Lk} {n : Nat} {k : ByteArray} (h : lookF (·.nm) zs k = none) (h2 : lookF (·.nm) ls k = none) : resF zs ls (n + 1) k = (none, 6) := by
 rw [resF, h, h2]
theorem resF_go {zs : List Zo} {ls : List Lk} {n : Nat} {k : ByteArray} {x : Lk} (h : lookF (·.nm) zs k = none) (h2 : lookF (·.nm) ls k = some x) : resF zs ls (n + 1) k = resF zs ls n x.tg := by
 rw [resF, h, h2]
def EvOk (zs : List Zo) : Prop := ∀ z ∈ zs, ∃ p c, z.ev = .slice p z.eras.length c
def ResPost (R : Option Zo × Int) (w : World) (e : Ending) (w' : World) : Prop := e = .returned (.tuple #[zoVal R.1, .int .i64 R.2]) ∧ Below w.heap.size w w'
theorem end_two {W : World} {rb : Nat} {a b : Value} {T : TypeId} (h : W.heap[rb]? = some (.cells #[a, b] T (0, 0))) (c d : Value) :
 ∃ W', (W.setCell ⟨rb, 0, none⟩ c).setCell ⟨rb, 1, none⟩ d = W' ∧ W'.heap[rb]? = some (.cells #[c, d] T (0, 0)) ∧ ∀ B, B ≤ rb → Below B W W' := by
 refine ⟨_, rfl, ?_, fun B hB => ((Below.refl _ _).setCell hB _).setCell hB _⟩
 simp [World.setCell, Array.getElem?_modify, h]
theorem ResPost.mk {R : Option Zo × Int} {z : Option Zo} {c : Int} {v : Value} {w w' : World} (h : (z, c) = R) (hv : zoVal z = v) (hb : Below w.heap.size w w') : ResPost R w (.returned (.tuple #[v, .int .i64 c])) w' := by
 subst h
 subst hv
 exact ⟨rfl, hb⟩
set_option maxRecDepth 100000 in
set_option maxHeartbeats 4000000 in
theorem resolve_any (B pb bz bl nz nl : Nat) (zs : List Zo) (ls : List Lk) (nm : ByteArray) (w : World) (hP : PlAt B w pb bz bl nz nl zs ls) (hz : EvOk zs) (hs : ∀ x ∈ ls, x.tg.size ≤ 140737488351232) (hn : nm.size ≤ 140737488351232) (hnl : nl ≤ 1000) :
 Calls Tryd.prog 16 #[.pointer (some ⟨pb, 0, none⟩), .string nm] w (ResPost (resF zs ls (Maps.size (DL ls) + 1) nm) w) := by
 obtain ⟨N, eN⟩ : ∃ N, Maps.size (DL ls) = N := ⟨_, rfl⟩
 have hN : N ≤ 1000 := by rw [← eN]; exact Nat.le_trans hP.l.size_le hnl
 rw [eN]
 obtain ⟨R, eR⟩ : ∃ R, resF zs ls (N + 1) nm = R := ⟨_, rfl⟩
 rw [eR]
 have HR := Lib.hid eR
 have hlen : ∀ {B : Nat} {W : World} {pb bz bl nz nl : Nat}, PlAt B W pb bz bl nz nl zs ls → (Builtin.len_ #[69] 3 #[.map (some bl)]).run Tryd.prog W = .ok (.int .i64 N) W := fun h => by rw [← eN]; exact h.l.len Tryd.underlying69 _
 have HLEN := Lib.hid (fun W h => hlen (B := B) (W := W) (pb := pb) (bz := bz) (bl := bl) (nz := nz) (nl := nl) h)
 have HLZ := Lib.hid (fun W k h hk => look_zone (B := B) (W := W) (pb := pb) (bz := bz) (bl := bl) (nz := nz) (nl := nl) (zs := zs) (ls := ls) h k hk)
 have HLL := Lib.hid (fun W k h hk => look_link (B := B) (W := W) (pb := pb) (bz := bz) (bl := bl) (nz := nz) (nl := nl) (zs := zs) (ls := ls) h k hk)
 obtain ⟨W0, eW⟩ : ∃ W0, w.alloc (.cells #[.string ⟨#[]⟩, .slice none 0 0] 34) = W0 := ⟨_, rfl⟩
 have hb0 : Below w.heap.size w W0 := by rw [← eW]; exact (Below.refl _ _).alloc (Nat.le_refl _) _
 have hbx : W0.heap[w.heap.size]? = some (.cells #[.string ⟨#[]⟩, .slice none 0 0] 34 (0, 0)) := by rw [← eW]; exact heap_alloc_new w _
 have hl0 : w.heap.size < W0.heap.size := by rw [← eW]; simp
 have HP0 := Lib.hid (hP.below hb0 (Nat.le_refl _))
 have HEW := Lib.hid eW
 have HB0 := Lib.hid hb0
 have HBX := Lib.hid hbx
 have HZ := Lib.hid hz
 have HS := Lib.hid hs
 have hpw : pb < w.heap.size := hP.cells.2.2
 obtain ⟨rb, erb⟩ : ∃ rb, w.heap.size = rb := ⟨_, rfl⟩
 rw [erb] at hpw hl0 HBX
 have HERB := Lib.hid erb
 clear eW hb0 hbx hP hz hs eR eN hlen erb
 go_enter Tryd.func16, Tryd.ntmps16
 go_upto_region 1 with fail
 rw [HEW.out, HERB.out]
 obtain ⟨m0, m1, mp⟩ := HP0.out.cells
 have hl := HLEN.out W0 HP0.out
 go_wp2_with fail
 go_loopw [1, 16] (fun v1 i wr => ∃ (k : Nat) (nm' : ByteArray), k ≤ N + 1 ∧ i = .int .i64 k ∧ v1 = .string nm' ∧ nm'.size ≤ 140737488351232 ∧ Hid (resF zs ls (N + 1 - k) nm' = R) ∧ Hid (Below W0.heap.size W0 wr)) (fun _ i _ => N + 1 - (intOf i).toNat)
 case atStart => exact ⟨0, nm, Nat.zero_le _, rfl, rfl, hn, HR, Lib.hid (Below.refl _ _)⟩
 case round =>
  obtain ⟨k, nm1, hk, rfl, rfl, hn1, HRR, HBR⟩ := hrel
  have hzr := HBR.out.size
  have hrb : rb < wr.heap.size := by omega
  have HPW := Lib.hid (HP0.out.below HBR.out (Nat.le_refl _))
  have HXR := Lib.hid ((HBR.out.block rb hl0).trans HBX.out)
  obtain ⟨m0, m1, mp⟩ := HPW.out.cells
  have r0 : wr.cell? ⟨rb, 0, none⟩ = some (.string ⟨#[]⟩) := (cell_of_row wr _ 0 _ _ _ HXR.out).trans rfl
  have r1 : wr.cell? ⟨rb, 1, none⟩ = some (.slice none 0 0) := (cell_of_row wr _ 1 _ _ _ HXR.out).trans rfl
  have f0 : wr.frozen? ⟨rb, 0, none⟩ = false := by simp [World.frozen?, HXR.out]
  have f1 : wr.frozen? ⟨rb, 1, none⟩ = false := by simp [World.frozen?, HXR.out]
  by_cases hkn : k < N + 1
  ·obtain ⟨n, en⟩ : ∃ n, N + 1 - k = n + 1 := ⟨N - k, by omega⟩
   have hrr := HRR.out
   rw [en] at hrr
   have hkz : (k : Int) < (N : Int) + 1 := by omega
   have lz := HLZ.out wr nm1 HPW.out (by unfold maxLen; omega)
   have ll := HLL.out (wr.alloc (.cells #[.string ⟨#[]⟩, .slice none 0 0] 34)) nm1 (HPW.out.below ((Below.refl _ _).alloc (Nat.le_refl _) _) (Nat.le_refl _)) (by unfold maxLen; omega)
   cases hlz : lookF (·.nm) zs nm1 with
   | some z =>
    rw [hlz] at lz
    rw [resF_z hlz] at hrr
    obtain ⟨pe, ce, hev⟩ := HZ.out z (lookF_in hlz).1
    obtain ⟨znm, zev, zer⟩ := z
    simp only at hev
    subst hev
    change _ = Result.ok (Value.tuple #[Value.agg #[Value.string znm, Value.slice pe zer.length ce], Value.bool true]) wr at lz
    have HRE := Lib.hid hrr
    clear hlz hrr ll en
    go_wp2_with fail
    obtain ⟨W9, e9, hh9, hb9⟩ := end_two HXR.out (.string znm) (.slice pe zer.length ce)
    rw [e9]
    obtain ⟨W10, e10⟩ : ∃ W10, W9.alloc (.cells #[(.string znm), (.slice pe zer.length ce)] 34) = W10 := ⟨_, rfl⟩
    rw [e10]
    have hs9 : wr.heap.size ≤ W9.heap.size := (hb9 0 (Nat.zero_le _)).size
    have hh10 : W10.heap[rb]? = some (.cells #[(.string znm), (.slice pe zer.length ce)] 34 (0, 0)) := by rw [← e10, Below.heap_alloc _ _ _ (by omega)]; exact hh9
    have v0 := (cell_of_row W10 _ 0 _ _ _ hh10).trans rfl
    have v1 := (cell_of_row W10 _ 1 _ _ _ hh10).trans rfl
    have HBD : Below w.heap.size w W10 := by
     rw [← e10]
     exact (HB0.out.trans ((HBR.out.mono HB0.out.size).trans (hb9 _ (by have := HERB.out; omega)))).alloc (by have := HERB.out; omega) _
    exact bodyPost_ret (v := .tuple #[.agg #[(.string znm), (.slice pe zer.length ce)], .int .i64 0]) (by simp [results, Tryd.results16, go_sem, v0, v1]) rfl (ResPost.mk (z := some ⟨znm, .slice pe zer.length ce, zer⟩) HRE.out rfl HBD)
   | none =>
    rw [hlz] at lz
    change _ = Result.ok (Value.tuple #[Value.agg #[Value.string ⟨#[]⟩, Value.slice none 0 0], Value.bool false]) wr at lz
    cases hll : lookF (·.nm) ls nm1 with
    | none =>
     rw [hll] at ll
     rw [resF_none hlz hll] at hrr
     have HRE := Lib.hid hrr
     clear hlz hll hrr en
     go_wp2_with fail
     obtain ⟨W9, e9, hh9, hb9⟩ := end_two HXR.out (.string ⟨#[]⟩) (.slice none 0 0)
     rw [e9]
     obtain ⟨W10, e10⟩ : ∃ W10, W9.alloc (.cells #[(.string ⟨#[]⟩), (.slice none 0 0)] 34) = W10 := ⟨_, rfl⟩
     rw [e10]
     have hs9 : wr.heap.size ≤ W9.heap.size := (hb9 0 (Nat.zero_le _)).size
     have hh10 : W10.heap[rb]? = some (.cells #[(.string ⟨#[]⟩), (.slice none 0 0)] 34 (0, 0)) := by rw [← e10, Below.heap_alloc _ _ _ (by omega)]; exact hh9
     have v0 := (cell_of_row W10 _ 0 _ _ _ hh10).trans rfl
     have v1 := (cell_of_row W10 _ 1 _ _ _ hh10).trans rfl
     have HBD : Below w.heap.size w W10 := by
      rw [← e10]
      exact (HB0.out.trans ((HBR.out.mono HB0.out.size).trans (hb9 _ (by have := HERB.out; omega)))).alloc (by have := HERB.out; omega) _
     exact bodyPost_ret (v := .tuple #[.agg #[(.string ⟨#[]⟩), (.slice none 0 0)], .int .i64 6]) (by simp [results, Tryd.results16, go_sem, v0, v1]) rfl (ResPost.mk (z := none) HRE.out rfl HBD)
    | some x =>
     rw [hll] at ll
     rw [resF_go hlz hll] at hrr
     have hxs := HS.out x (lookF_in hll).1
     have en2 : N + 1 - (k + 1) = n := by omega
     rw [← en2] at hrr
     have HRE := Lib.hid hrr
     clear hlz hll hrr en en2
     go_wp2_with fail
     go_roundw
     case rel => exact ⟨k + 1, x.tg, by omega, by go_num, rfl, hxs, HRE, Lib.hid (HBR.out.alloc hzr _)⟩
     case measure => simp [intOf]; omega
  ·have en : N + 1 - k = 0 := by omega
   have hrr := HRR.out
   rw [en] at hrr
   have HRE := Lib.hid hrr
   have hkz : ¬ (k : Int) < (N : Int) + 1 := by omega
   clear hrr en
   go_wp2_with fail
   obtain ⟨W9, e9, hh9, hb9⟩ := end_two HXR.out (.string ⟨#[]⟩) (.slice none 0 0)
   rw [e9]
   have v0 : W9.cell? ⟨rb, 0, none⟩ = some (.string ⟨#[]⟩) := (cell_of_row W9 _ 0 _ _ _ hh9).trans rfl
   have v1 : W9.cell? ⟨rb, 1, none⟩ = some (.slice none 0 0) := (cell_of_row W9 _ 1 _ _ _ hh9).trans rfl
   have HBD : Below w.heap.size w W9 := HB0.out.trans ((HBR.out.mono HB0.out.size).trans (hb9 _ (by have := HERB.out; omega)))
   exact bodyPost_ret (v := .tuple #[.agg #[.string ⟨#[]⟩, .slice none 0 0], .int .i64 8]) (by simp [results, Tryd.results16, go_sem, v0, v1]) rfl (ResPost.mk (z := none) HRE.out rfl HBD)
abbrev erL (x : Er) : List Value := (erCells x).toList
def erFlat (l : List Er) : List Value := l.flatMap erL
theorem infoEr : (Tryd.prog.info? 45).map (fun i => (i.zero, i.size, i.bytes)) = some (some (.agg #[.int .i64 0, .string ⟨#[]⟩, .int .i64 0, .string ⟨#[]⟩, .int .i64 0]), 5, 56) := by kernel_rfl
theorem undErS : Tryd.prog.underlying 32 = some (.slice 45) := by kernel_rfl
theorem erFlat_len (l : List Er) : (erFlat l).length = l.length * 5 := by
 induction l with
 | nil => rfl
 | cons x r ih =>
  have e : erFlat (x :: r) = erL x ++ erFlat r := by simp [erFlat]
  rw [e, List.length_append, ih]
  simp
  omega
theorem erFlat_get : ∀ (l : List Er) (j : Nat) (u : Value), (erFlat l)[j]? = some u → ∃ i, ∃ h : i < l.length, ∃ m, j = i * 5 + m ∧ (erL l[i])[m]? = some u
 | [], j, u, h => by simp [erFlat] at h
 | x :: r, j, u, h => by
  have e : erFlat (x :: r) = erL x ++ erFlat r := by simp [erFlat]
  rw [e] at h
  by_cases hj : j < 5
  ·rw [List.getElem?_append_left (by simpa using hj)] at h
   exact ⟨0, by simp, j, by omega, h⟩
  ·rw [List.getElem?_append_right (by simpa using Nat.le_of_not_lt hj)] at h
   obtain ⟨i, hi, m, e1, e2⟩ := erFlat_get r _ u h
   have e3 : (erL x).length = 5 := rfl
   rw [e3] at e1
   exact ⟨i + 1, by simpa using hi, m, by omega, e2⟩
theorem erFlat_one (l : List Er) : ∀ u ∈ erFlat l, u.oneCell' = true := by
 intro u hu
 obtain ⟨x, -, hx⟩ := List.mem_flatMap.1 hu
 simp at hx
 rcases hx with rfl | rfl | rfl | rfl | rfl <;> rfl
set_option maxRecDepth 100000 in
set_option maxHeartbeats 1000000 in
theorem CloneEr_any (l : List Er) (v : Value) (B : Nat) (w : World) (h : RowsAt erL 5 B w v l) (hl : l.length ≤ 1000) :
 Calls Tryd.prog 17 #[v] w fun e w' => ∃ vo, e = .returned vo ∧ w'.ownsRow w.heap.size 45 5 vo l.length (erFlat l) ∧ Below w.heap.size w w' := by
 obtain ⟨p, cap, rfl, hlen, hrow⟩ := h
 have qT : ∀ (W : World) (a : Option Addr) (n c n' c' : Nat), (binOp .eql 32 (.slice a n c) (.slice none n' c')).run Tryd.prog W = .ok (.bool a.isNone) W := fun W a n c n' c' => Lib.run_eql_slice_nil W _ _ a n c n' c' undErS
 cases p with
 | none =>
  have : l = [] := by
   by_cases hn : l = []
   ·exact hn
   ·obtain ⟨b, o, e, -⟩ := hrow hn; cases e
  subst this
  clear hrow
  go_enter Tryd.func17, Tryd.ntmps17
  go_wp2_with fail
  go_ret
  exact ⟨_, rfl, World.ownsRow_nil _ _ _ _, Below.refl _ _⟩
 | some ad =>
  have hnews : ∀ j u, (erFlat l)[j]? = some u → w.cell? (ad.add j) = some u := by
   intro j u hu
   obtain ⟨i, hi, m, rfl, hm⟩ := erFlat_get l j u hu
   obtain ⟨b, o, e, hlt, hc⟩ := hrow (List.ne_nil_of_length_pos (by omega))
   injection e with e
   subst e
   have := hc i hi m u hm
   rw [Nat.add_assoc] at this
   have e2 : (⟨b, o, none⟩ : Addr).add (i * 5 + m) = ⟨b, o + (i * 5 + m), none⟩ := by
    unfold Addr.add
    split
    ·rename_i h0; rw [h0]; rfl
    ·rfl
   rw [e2]
   exact this
  have HNW := Lib.hid hnews
  have HFL := Lib.hid (erFlat_len l)
  have HFO := Lib.hid (erFlat_one l)
  obtain ⟨i1, hi1, hz10, hz11, hz12⟩ := info_parts infoEr
  obtain ⟨n, en⟩ : ∃ n, l.length = n := ⟨_, rfl⟩
  rw [en] at hl HFL ⊢
  clear hnews hrow hlen
  go_enter Tryd.func17, Tryd.ntmps17
  have hROW := World.ownsRow_lit (base := w.heap.size) (e := 45) (size := 5) w #[] 0 (Nat.le_refl _) (by decide) rfl
  have HROW := Lib.hid hROW
  have HNEW : Hid (∀ j u, (erFlat l)[j]? = some u → (w.alloc (.cells #[] 45)).cell? (ad.add j) = some u) := by
   show ∀ j u, _
   intro j u hu
   have h1 := HNW.out j u hu
   exact (((Below.refl w.heap.size w).alloc (Nat.le_refl _) (.cells #[] 45)).cell (p := ad.add j) (World.block_lt_of_cell? _ _ h1)).trans h1
  have HML : 0 + n ≤ maxLen := by simp only [maxLen]; omega
  have HMB : (0 + n) * 56 ≤ 140737488355328 := by omega
  have HSZ : w.heap.size ≤ (w.alloc (.cells #[] 45)).heap.size := by simp
  clear hROW
  go_wp2_with (at_builtin; refine wpList_append_own _ rfl _ _ 32 rfl w.heap.size 45 i1 (.agg #[.int .i64 0, .string ⟨#[]⟩, .int .i64 0, .string ⟨#[]⟩, .int .i64 0]) 5 56 undErS hi1 hz10 hz11 hz12 rfl (by decide) _ _ _ rfl HROW.out ad n cap (erFlat l) rfl HFL.out HNEW.out HFO.out HML HMB HSZ ?_; intro v' w10 hown10 hgrow10 _)
  go_ret
  refine ⟨_, rfl, ?_, (((Below.refl _ _).alloc (Nat.le_refl _) _).grown hgrow10 HSZ (fun q hq => (World.ownsRow.lt HROW.out q hq).1))⟩
  have := hown10
  simp only [Nat.zero_add] at this
  exact this
theorem bk_parts {b : Bk} (h : bkChk b = 0) : (∀ i (hi : i < b.zones.length), zoneChk b.rules (b.zones.take i) b.zones[i] = 0) ∧ ∀ i (hi : i < b.links.length), linkChk b (b.links.take i) b.links[i] = 0 := by
 by_cases h0 : 40 < b.rules.length ∨ 20 < b.zones.length ∨ 20 < b.links.length
 ·rw [bkChk_2 b h0] at h; cases h
 ·by_cases h1 : firstE ruChk b.rules = 0
  ·by_cases h2 : firstE (chkZ b) (List.range b.zones.length) = 0
   ·rw [bkChk_l b h0 h1 h2] at h
    exact ⟨fun i hi => by rw [← chkZ_at b i hi]; exact (firstE_zero _ _).1 h2 i (List.mem_range.2 hi), fun i hi => by rw [← chkL_at b i hi]; exact (firstE_zero _ _).1 h i (List.mem_range.2 hi)⟩
   ·rw [bkChk_z b h0 h1 h2] at h; exact absurd h h2
  ·rw [bkChk_r b h0 h1] at h; exact absurd h h1
structure ZoneOk (b : Bk) (i : Nat) (z : Zo) : Prop where
 nm : nameB z.nm = true
 fresh : ∀ y ∈ b.zones.take i, y.nm ≠ z.nm
 ne : z.eras ≠ []
 le : z.eras.length ≤ 700
 er : firstE (eraChk b.rules z.eras) (List.range z.eras.length) = 0
theorem bk_zone {b : Bk} (h : bkChk b = 0) (i : Nat) (hi : i < b.zones.length) : ZoneOk b i b.zones[i] := by
 have hz := (bk_parts h).1 i hi
 unfold zoneChk at hz
 split at hz
 ·cases hz
 ·rename_i h1
  split at hz
  ·cases hz
  ·rename_i h2
   split at hz
   ·cases hz
   ·rename_i h3
    split at hz
    ·cases hz
    ·rename_i h4
     refine ⟨by simpa using h1, fun y hy e => h2 (List.any_eq_true.2 ⟨y, hy, by simpa using e⟩), h3, by omega, hz⟩
theorem bk_er {b : Bk} (h : bkChk b = 0) {z : Zo} (hz : z ∈ b.zones) : z.eras ≠ [] ∧ z.eras.length ≤ 700 := by
 obtain ⟨i, hi, rfl⟩ := List.mem_iff_getElem.1 hz
 exact ⟨(bk_zone h i hi).ne, (bk_zone h i hi).le⟩
def rsv (b : Bk) (nm : ByteArray) : Option Zo × Int := if bkChk b ≠ 0 then (none, bkChk b) else resF b.zones b.links (Maps.size (DL b.links) + 1) nm
def zNm (z : Option Zo) : ByteArray := match z with | some z => z.nm | none => ⟨#[]⟩
def zEr (z : Option Zo) : List Er := match z with | some z => z.eras | none => []
def RsvPost (R : Option Zo × Int) (w : World) (e : Ending) (w' : World) : Prop :=
 ∃ vo, e = .returned (.tuple #[.agg #[.string (zNm R.1), vo], .int .i64 R.2]) ∧ w'.ownsRow w.heap.size 45 5 vo (zEr R.1).length (erFlat (zEr R.1)) ∧ Below w.heap.size w w'
theorem rsv_bad {b : Bk} {nm : ByteArray} (h : bkChk b ≠ 0) : rsv b nm = (none, bkChk b) := by unfold rsv; rw [if_pos h]
theorem rsv_go {b : Bk} {nm : ByteArray} (h : bkChk b = 0) : rsv b nm = resF b.zones b.links (Maps.size (DL b.links) + 1) nm := by unfold rsv; rw [if_neg (fun g => g h)]
theorem resF_in {zs : List Zo} {ls : List Lk} : ∀ {n : Nat} {k : ByteArray} {z : Zo} {c : Int}, resF zs ls n k = (some z, c) → z ∈ zs ∧ c = 0 := by
 intro n
 induction n with
 | zero => intro k z c h; cases h
 | succ n ih =>
  intro k z c h
  rw [resF] at h
  split at h
  ·rename_i z2 e
   cases h
   exact ⟨(lookF_in e).1, rfl⟩
  ·split at h
   ·cases h
   ·exact ih h
set_option maxRecDepth 100000 in
set_option maxHeartbeats 4000000 in
theorem Resolve_any (b : Bk) (rv zv lv : Value) (nm : ByteArray) (w : World) (hB : BookAt w.heap.size w rv zv lv b) (hn : nm.size ≤ 140737488351232) (hm : MaxLen w) (ht : Tab10 w) :
 Calls Tryd.prog 8 #[.agg #[rv, zv, lv], .string nm] w (RsvPost (rsv b nm) w) := by
 have hr := hB.r
 have hz := hB.z
 have hl := hB.l
 obtain ⟨p1, c1, rfl, hlen1, hrow1⟩ := hr
 obtain ⟨p2, c2, rfl, hlen2, hrow2⟩ := hz
 obtain ⟨p3, c3, rfl, hlen3, hrow3⟩ := hl
 obtain ⟨W0, eW⟩ : ∃ W0, (w.alloc (.cells #[.slice p1 b.rules.length c1, .slice p2 b.zones.length c2, .slice p3 b.links.length c3] 26)).alloc (.cells #[.string ⟨#[]⟩, .slice none 0 0] 34) = W0 := ⟨_, rfl⟩
 have hb0 : Below w.heap.size w W0 := by rw [← eW]; exact ((Below.refl _ _).alloc (Nat.le_refl _) _).alloc (by simp) _
 have hbx : W0.heap[w.heap.size]? = some (.cells #[.slice p1 b.rules.length c1, .slice p2 b.zones.length c2, .slice p3 b.links.length c3] 26 (0, 0)) := by
  rw [← eW]
  exact (Below.heap_alloc _ _ _ (by simp)).trans (heap_alloc_new w _)
 have hrb : W0.heap[w.heap.size + 1]? = some (.cells #[.string ⟨#[]⟩, .slice none 0 0] 34 (0, 0)) := by
  rw [← eW]
  exact alloc_at _ _ _ (by simp)
 have hl0 : w.heap.size + 1 < W0.heap.size := by rw [← eW]; simp
 have x0 := (cell_of_row W0 _ 0 _ _ _ hbx).trans rfl
 have x1 := (cell_of_row W0 _ 1 _ _ _ hbx).trans rfl
 have x2 := (cell_of_row W0 _ 2 _ _ _ hbx).trans rfl
 have HEW := Lib.hid eW
 have HB0 := Lib.hid hb0
 have HRB := Lib.hid hrb
 have HOF := Lib.hid (namesOf_any b _ _ _ W0 ((hB.below hb0 (Nat.le_refl _)).baseN (by omega)) (hm.below hb0) (ht.below hb0))
 have HEV := Lib.hid hB.e
 have HLS := Lib.hid hB.ls
 have HBD := Lib.hid (rsv_bad (b := b) (nm := nm))
 have HGO := Lib.hid (rsv_go (b := b) (nm := nm))
 have HER := Lib.hid (bk_er (b := b))
 obtain ⟨R, eR⟩ : ∃ R, rsv b nm = R := ⟨_, rfl⟩
 rw [eR] at HBD HGO ⊢
 clear eW hb0 hbx hrb hB hm ht hrow1 hrow2 hrow3 eR
 go_enter Tryd.func8, Tryd.ntmps8
 go_upto_region 1 with fail
 rw [HEW.out]
 go_wp2_with fail
 refine HOF.out.mono ?_
 rintro e w1 ⟨hb1, hbad, hgood⟩
 have HB1 := Lib.hid (HB0.out.trans (hb1.mono HB0.out.size))
 have hx1 := (hb1.block (w.heap.size + 1) hl0).trans HRB.out
 have HX1 := Lib.hid hx1
 have hl1 : w.heap.size + 1 < w1.heap.size := by have := hb1.size; omega
 have r0 : w1.cell? ⟨w.heap.size + 1, 0, none⟩ = some (.string ⟨#[]⟩) := (cell_of_row w1 _ 0 _ _ _ hx1).trans rfl
 have r1 : w1.cell? ⟨w.heap.size + 1, 1, none⟩ = some (.slice none 0 0) := (cell_of_row w1 _ 1 _ _ _ hx1).trans rfl
 have f0 : w1.frozen? ⟨w.heap.size + 1, 0, none⟩ = false := by simp [World.frozen?, hx1]
 have f1 : w1.frozen? ⟨w.heap.size + 1, 1, none⟩ = false := by simp [World.frozen?, hx1]
 have hs1 : W0.heap.size ≤ w1.heap.size := hb1.size
 by_cases hC : bkChk b = 0
 case neg =>
  have he := hbad hC
  subst he
  have HE := Lib.hid (HBD.out hC)
  have hz : (bkChk b == 0) = false := by simpa using hC
  have hz2 : (!bkChk b == 0) = true := by rw [hz]; rfl
  clear hb1 hbad hgood hx1 hC x0 x1 x2
  go_wp2_with fail
  obtain ⟨W9, e9, hh9, hb9⟩ := end_two HX1.out (.string ⟨#[]⟩) (.slice none 0 0)
  rw [e9]
  have v0 := (cell_of_row W9 _ 0 _ _ _ hh9).trans rfl
  have v1 := (cell_of_row W9 _ 1 _ _ _ hh9).trans rfl
  have HBF : Below w.heap.size w W9 := HB1.out.trans (hb9 _ (by omega))
  refine bodyPost_ret (v := .tuple #[.agg #[.string ⟨#[]⟩, .slice none 0 0], .int .i64 (bkChk b)]) (by simp [results, Tryd.results8, go_sem, v0, v1]) rfl ?_
  rw [HE.out]
  exact ⟨_, rfl, World.ownsRow_nil _ _ _ _, HBF⟩
 case pos =>
 obtain ⟨pb, bz, bl, nz, nl, he, hP, hnl, -⟩ := hgood hC
 subst he
 have hEv : EvOk b.zones := fun z hz => by
  obtain ⟨p, c, e, -⟩ := HEV.out z hz
  exact ⟨p, c, e⟩
 have HRE := Lib.hid (resolve_any _ pb bz bl nz nl b.zones b.links nm w1 hP hEv (fun x hx => (HLS.out x hx).2) hn hnl)
 have hgo := HGO.out hC
 rw [← hgo] at HRE
 have HER2 := Lib.hid (fun z hz => HER.out hC (z := z) hz)
 have hRin : ∀ z, R.1 = some z → z ∈ b.zones ∧ R.2 = 0 := by
  intro z hz
  obtain ⟨R1, R2⟩ := R
  simp only at hz
  subst hz
  exact resF_in hgo.symm
 have HRI := Lib.hid hRin
 have HP1 := Lib.hid hP
 clear hb1 hbad hgood hx1 hC x0 x1 x2 r0 r1 f0 f1 hP hEv hgo hRin HGO HBD HER HOF
 go_wp2_with fail
 refine HRE.out.mono ?_
 obtain ⟨Z, C⟩ := R
 rintro e w2 ⟨rfl, hb2⟩
 simp only at HRI ⊢
 have HB2 := Lib.hid (HB1.out.trans (hb2.mono HB1.out.size))
 have hx2 := (hb2.block (w.heap.size + 1) hl1).trans HX1.out
 have hs2 : w1.heap.size ≤ w2.heap.size := hb2.size
 have key : ∃ znm p c ers, zoVal Z = .agg #[.string znm, .slice p ers.length c] ∧ zNm Z = znm ∧ zEr Z = ers ∧ ers.length ≤ 1000 ∧ RowsAt erL 5 w.heap.size w2 (.slice p ers.length c) ers := by
  cases Z with
  | none => exact ⟨⟨#[]⟩, none, 0, [], rfl, rfl, rfl, by simp, ⟨none, 0, rfl, ⟨by simp, by simp⟩, fun h => absurd rfl h⟩⟩
  | some z =>
   obtain ⟨hz, -⟩ := HRI.out z rfl
   have h1 := (HEV.out z hz).below HB2.out (Nat.le_refl _)
   obtain ⟨p, c, e, r⟩ := h1
   refine ⟨z.nm, p, c, z.eras, ?_, rfl, rfl, by have := (HER2.out z hz).2; omega, ⟨p, c, rfl, r⟩⟩
   show Value.agg #[.string z.nm, z.ev] = _
   rw [e]
 obtain ⟨znm, p, c, ers, e1, e2, e3, hle, hrow⟩ := key
 rw [e1]
 have HE2 := Lib.hid e2
 have HE3 := Lib.hid e3
 obtain ⟨W3, eW3⟩ : ∃ W3, w2.alloc (.cells #[.string znm, .slice p ers.length c] 34) = W3 := ⟨_, rfl⟩
 have hb3 : Below w2.heap.size w2 W3 := by rw [← eW3]; exact (Below.refl _ _).alloc (Nat.le_refl _) _
 have hx3 : W3.heap[w2.heap.size]? = some (.cells #[.string znm, .slice p ers.length c] 34 (0, 0)) := by rw [← eW3]; exact heap_alloc_new w2 _
 have hz3 : W3.heap.size = w2.heap.size + 1 := by rw [← eW3]; simp
 have HB3 := Lib.hid (HB2.out.trans (hb3.mono HB2.out.size))
 have hr3 := (hb3.block (w.heap.size + 1) (by omega)).trans hx2
 have HR3 := Lib.hid hr3
 have HX3 := Lib.hid hx3
 have q1 := (cell_of_row W3 _ 1 _ _ _ hx3).trans rfl
 have HCL := Lib.hid (CloneEr_any ers _ w.heap.size W3 (hrow.below (hb3.mono HB2.out.size) (Nat.le_refl _)) hle)
 have HEW3 := Lib.hid eW3
 obtain ⟨tb, etb⟩ : ∃ tb, w2.heap.size = tb := ⟨_, rfl⟩
 rw [etb] at hz3 hs2 HX3 q1
 have HTB := Lib.hid etb
 clear hb2 hx2 e1 e2 e3 hrow eW3 hb3 hr3 HRI HRE HER2 HEV hx3 HX1 etb
 go_upto_region 5 with fail
 rw [HEW3.out, HTB.out]
 go_wp2_with fail
 refine HCL.out.mono ?_
 rintro e w4 ⟨vo, rfl, hrow4, hb4⟩
 obtain ⟨A, cA, rfl⟩ := own_sliceN hrow4
 have hs4 : W3.heap.size ≤ w4.heap.size := hb4.size
 have hx4 := (hb4.block tb (by omega)).trans HX3.out
 have hr4 := (hb4.block (w.heap.size + 1) (by omega)).trans HR3.out
 have HB4 := Lib.hid (HB3.out.trans (hb4.mono HB3.out.size))
 have HX4 := Lib.hid hx4
 have HR4 := Lib.hid hr4
 have HOW := Lib.hid hrow4
 have g0 : w4.cell? ⟨tb, 0, none⟩ = some (.string znm) := (cell_of_row w4 _ 0 _ _ _ hx4).trans rfl
 have g1 : w4.cell? ⟨tb, 1, none⟩ = some (.slice p ers.length c) := (cell_of_row w4 _ 1 _ _ _ hx4).trans rfl
 have gf : w4.frozen? ⟨tb, 1, none⟩ = false := by simp [World.frozen?, hx4]
 have r0 : w4.cell? ⟨w.heap.size + 1, 0, none⟩ = some (.string ⟨#[]⟩) := (cell_of_row w4 _ 0 _ _ _ hr4).trans rfl
 have r1 : w4.cell? ⟨w.heap.size + 1, 1, none⟩ = some (.slice none 0 0) := (cell_of_row w4 _ 1 _ _ _ hr4).trans rfl
 have f0 : w4.frozen? ⟨w.heap.size + 1, 0, none⟩ = false := by simp [World.frozen?, hr4]
 have f1 : w4.frozen? ⟨w.heap.size + 1, 1, none⟩ = false := by simp [World.frozen?, hr4]
 have htb : w.heap.size + 1 < tb := by omega
 have htb4 : tb < w4.heap.size := by omega
 clear hb4 hrow4 hx4 hr4 HCL q1
 go_wp2_with fail
 obtain ⟨W5, e5⟩ : ∃ W5, w4.setCell ⟨tb, 1, none⟩ (.slice A ers.length cA) = W5 := ⟨_, rfl⟩
 rw [e5]
 have hk5 : ∀ g, g ≠ tb → W5.heap[g]? = w4.heap[g]? := fun g hg => by rw [← e5]; exact Below.heap_setCell _ _ _ _ hg
 have hr5 : W5.heap[w.heap.size + 1]? = some (.cells #[.string ⟨#[]⟩, .slice none 0 0] 34 (0, 0)) := (hk5 _ (by omega)).trans HR4.out
 have hb5 : Below w.heap.size w W5 := by rw [← e5]; exact HB4.out.setCell (by show w.heap.size ≤ tb; omega) _
 obtain ⟨W9, e9, hh9, hb9⟩ := end_two hr5 (.string znm) (.slice A ers.length cA)
 rw [e9]
 have v0 := (cell_of_row W9 _ 0 _ _ _ hh9).trans rfl
 have v1 := (cell_of_row W9 _ 1 _ _ _ hh9).trans rfl
 have hk9 : ∀ g, g ≠ w.heap.size + 1 → W9.heap[g]? = W5.heap[g]? := fun g hg => by
  rw [← e9]
  exact (Below.heap_setCell _ _ _ _ hg).trans (Below.heap_setCell _ _ _ _ hg)
 have HBF : Below w.heap.size w W9 := hb5.trans (hb9 _ (by omega))
 have hown9 : W9.ownsRow w.heap.size 45 5 (.slice A ers.length cA) ers.length (erFlat ers) := by
  refine own_base (own_keep HOW.out fun g e => ?_) (show w.heap.size ≤ W3.heap.size by omega)
  have hg := (World.ownsRow.lt HOW.out g e).1
  exact (hk9 g (by omega)).trans (hk5 g (by omega))
 refine bodyPost_ret (v := .tuple #[.agg #[.string znm, .slice A ers.length cA], .int .i64 C]) (by simp [results, Tryd.results8, go_sem, v0, v1]) rfl ⟨.slice A ers.length cA, ?_, ?_, HBF⟩
 ·show _ = Ending.returned (.tuple #[.agg #[.string (zNm Z), .slice A ers.length cA], .int .i64 C])
  rw [HE2.out]
 ·show World.ownsRow _ _ _ _ _ (zEr Z).length (erFlat (zEr Z))
  rw [HE3.out]
  exact hown9
end Go.Proofs.YtomahddiclkepaaDoor
namespace Go.Proofs.YtomahddiclkepaaDoor
open Go.RowKit Go.Joins
open Classical
set_option linter.unusedVariables false
set_option linter.unusedSimpArgs false
theorem ret_bE {a b : Bool} (h : a = b) : Ending.returned (.bool a) = .returned (.bool b) := by rw [h]
theorem bytes_neE {a b : ByteArray} (h : a ≠ b) : (a.toList == b.toList) = false := by
 cases he : a.toList == b.toList
 ·rfl
 ·have : a.toList = b.toList := by simpa using he
  rw [ByteArray.toList_eq, ByteArray.toList_eq] at this
  exact absurd (by cases a; cases b; simp_all) h
theorem er_eq {x y : Er} : x = y ↔ x.off = y.off ∧ x.ru = y.ru ∧ x.sv = y.sv ∧ x.fm = y.fm ∧ x.un = y.un := by
 cases x; cases y; simp
theorem fieldsEr : (Tryd.prog.fieldsOf 45).toList = [{ name := "Offset", type := 3, offset := 0, embedded := false, tag := "", pkgPath := "", byteOffset := 0 }, { name := "Rules", type := 9, offset := 1, embedded := false, tag := "", pkgPath := "", byteOffset := 8 }, { name := "Save", type := 3, offset := 2, embedded := false, tag := "", pkgPath := "", byteOffset := 24 }, { name := "Format", type := 9, offset := 3, embedded := false, tag := "", pkgPath := "", byteOffset := 32 }, { name := "Until", type := 3, offset := 4, embedded := false, tag := "", pkgPath := "", byteOffset := 48 }] := by kernel_rfl
theorem agg_er : Tryd.prog.underlying 45 = some (.struct (Tryd.prog.fieldsOf 45)) := by kernel_rfl
theorem stood_er : Tryd.prog.stoodInHeld 45 = false := by kernel_rfl
theorem neq_er (x y : Er) (W : World) : (binOp .neq 45 (.agg #[.int .i64 x.off, .string x.ru, .int .i64 x.sv, .string x.fm, .int .i64 x.un]) (.agg #[.int .i64 y.off, .string y.ru, .int .i64 y.sv, .string y.fm, .int .i64 y.un])).run Tryd.prog W = .ok (.bool (!decide (x = y))) W := by
 rw [run_neq_struct, run_equalIn_agg W 9999 _ _ _ agg_er stood_er, fieldsEr]
 by_cases h1 : x.off = y.off
 ·by_cases h2 : x.ru = y.ru
  ·by_cases h3 : x.sv = y.sv
   ·by_cases h4 : x.fm = y.fm
    ·by_cases h5 : x.un = y.un
     ·have e : x = y := er_eq.2 ⟨h1, h2, h3, h4, h5⟩
      simp [go_sem, Op.eqFields, Tryd.underlying3, Tryd.underlying9, e]
     ·have e : ¬ x = y := fun e => h5 (by rw [e])
      simp [go_sem, Op.eqFields, Tryd.underlying3, Tryd.underlying9, e, h1, h2, h3, h4, h5]
    ·have e : ¬ x = y := fun e => h4 (by rw [e])
     simp [go_sem, Op.eqFields, Tryd.underlying3, Tryd.underlying9, e, h1, h2, h3, bytes_neE h4]
   ·have e : ¬ x = y := fun e => h3 (by rw [e])
    simp [go_sem, Op.eqFields, Tryd.underlying3, Tryd.underlying9, e, h1, h2, h3]
  ·have e : ¬ x = y := fun e => h2 (by rw [e])
   simp [go_sem, Op.eqFields, Tryd.underlying3, Tryd.underlying9, e, h1, bytes_neE h2]
 ·have e : ¬ x = y := fun e => h1 (by rw [e])
  simp [go_sem, Op.eqFields, Tryd.underlying3, Tryd.underlying9, e, h1]
theorem list_neE {α : Type} {l m : List α} {k : Nat} (h1 : k < l.length) (h2 : k < m.length) (h : l[k] ≠ m[k]) : l ≠ m := by
 intro e
 subst e
 exact h rfl
theorem list_eqE {α : Type} {l m : List α} (h : l.length = m.length) (hs : ∀ j (h1 : j < l.length) (h2 : j < m.length), l[j] = m[j]) : l = m := List.ext_getElem h hs
set_option maxRecDepth 100000 in
set_option maxHeartbeats 1000000 in
theorem EqEr_any (l m : List Er) (v v2 : Value) (w : World) (h1 : RowsAt erL 5 w.heap.size w v l) (h2 : RowsAt erL 5 w.heap.size w v2 m) :
 Calls Tryd.prog 10 #[v, v2] w fun e w' => e = .returned (.bool (decide (l = m))) ∧ Below w.heap.size w w' := by
 obtain ⟨p, cap, rfl, hl, g1⟩ := h1
 obtain ⟨p2, cap2, rfl, hl2, g2⟩ := h2
 have HA := Lib.hid g1
 have HB := Lib.hid g2
 clear g1 g2
 by_cases hlen : l.length = m.length
 ·obtain ⟨R, eR⟩ : ∃ R, decide (l = m) = R := ⟨_, rfl⟩
  rw [eR]
  have ER := Lib.hid eR
  have HLEN := Lib.hid hlen
  rw [← hlen] at hl2 ⊢
  clear eR hlen
  go_enter Tryd.func10, Tryd.ntmps10
  go_wp2
  go_loopw [14] (fun i wr => ∃ k : Nat, k ≤ l.length ∧ i = .int .i64 k ∧ (∀ j (h : j < k) (h1 : j < l.length) (h2 : j < m.length), l[j] = m[j]) ∧ Below w.heap.size w wr) (fun i _ => l.length - (intOf i).toNat)
  case atStart => exact ⟨0, Nat.zero_le _, rfl, fun j h => absurd h (Nat.not_lt_zero j), Below.refl _ _⟩
  case round =>
   obtain ⟨k, hk, rfl, hsame, hbel⟩ := hrel
   have HS := Lib.hid hsame
   clear hsame
   by_cases hlt : k < l.length
   ·have hlt2 : k < m.length := by have := HLEN.out; omega
    obtain ⟨x, ex⟩ : ∃ x, l[k] = x := ⟨_, rfl⟩
    obtain ⟨y, ey⟩ : ∃ y, m[k] = y := ⟨_, rfl⟩
    have hne0 : l ≠ [] := by intro e; rw [e] at hlt; simp at hlt
    have hne1 : m ≠ [] := by intro e; rw [e] at hlt2; simp at hlt2
    obtain ⟨b, o, rfl, hb, ha0⟩ := HA.out hne0
    obtain ⟨b2, o2, rfl, hb2, hc0⟩ := HB.out hne1
    have ha := ha0 k hlt
    have hc := hc0 k hlt2
    rw [ex] at ha
    rw [ey] at hc
    have up : ∀ bb oo u, bb < w.heap.size → w.cell? ⟨bb, oo, none⟩ = some u → wr.cell? ⟨bb, oo, none⟩ = some u := fun bb oo u hlt h => (hbel.cell (p := ⟨bb, oo, none⟩) hlt).trans h
    have a0 := up _ _ _ hb (ha 0 _ rfl)
    have a1 := up _ _ _ hb (ha 1 _ rfl)
    have a2 := up _ _ _ hb (ha 2 _ rfl)
    have d0 := up _ _ _ hb2 (hc 0 _ rfl)
    have d1 := up _ _ _ hb2 (hc 1 _ rfl)
    have d2 := up _ _ _ hb2 (hc 2 _ rfl)
    have a3 := up _ _ _ hb (ha 3 _ rfl)
    have a4 := up _ _ _ hb (ha 4 _ rfl)
    have d3 := up _ _ _ hb2 (hc 3 _ rfl)
    have d4 := up _ _ _ hb2 (hc 4 _ rfl)
    rw [Nat.add_zero] at a0 d0
    have hlb := World.block_lt_of_cell? _ _ a0
    have hlb2 := World.block_lt_of_cell? _ _ d0
    have hq := neq_er x y
    have HBL := Lib.hid hbel
    by_cases hxy : x = y
    ·have hd : (!decide (x = y)) = false := by simpa using hxy
     rw [hd] at hq
     have hs2 : ∀ j (h : j < k + 1) (h1 : j < l.length) (h2 : j < m.length), l[j] = m[j] := fun j hj h1 h2 => by
      by_cases e : j = k
      ·subst e; rw [ex, ey, hxy]
      ·exact HS.out j (by omega) h1 h2
     have HS2 := Lib.hid hs2
     clear ex ey hbel ha0 hc0 ha hc up hne0 hne1 hxy hd hs2
     go_wp2
     go_quiet (fail)
     go_wp2
     go_roundw
     case rel => exact ⟨k + 1, by omega, by go_num, HS2.out, by first | exact below_drewN HBL.out _ | exact below_drewN (HBL.out.alloc HBL.out.size _) _⟩
     case measure => simp [intOf]; omega
    ·have hd : (!decide (x = y)) = true := by simpa using hxy
     rw [hd] at hq
     have hR : Hid (R = false) := by
      show _ = _
      rw [← ER.out]
      have : l ≠ m := list_neE hlt hlt2 (by rw [ex, ey]; exact hxy)
      simpa using this
     clear ex ey hbel ha0 hc0 ha hc up hne0 hne1 hxy hd
     go_wp2
     go_quiet (fail)
     go_wp2
     go_ret
     exact ⟨ret_bE hR.out.symm, by first | exact below_drewN HBL.out _ | exact below_drewN (HBL.out.alloc HBL.out.size _) _⟩
   ·obtain rfl : k = l.length := by omega
    have hR : Hid (R = true) := by
     show _ = _
     rw [← ER.out]
     have : l = m := list_eqE HLEN.out (fun j h1 h2 => HS.out j h1 h1 h2)
     simpa using this
    go_wp2
    go_ret
    exact ⟨ret_bE hR.out.symm, hbel⟩
 ·have hR : decide (l = m) = false := by simp; intro e; exact hlen (by rw [e])
  rw [hR]
  have hli : ¬ (l.length : Int) = (m.length : Int) := by omega
  clear hR hlen
  go_enter Tryd.func10, Tryd.ntmps10
  go_wp2
  go_ret
  exact ⟨rfl, Below.refl _ _⟩
theorem flat_getN {α : Type} {cells : α → List Value} {k : Nat} (hk : ∀ x, (cells x).length = k) : ∀ (l : List α) (i : Nat) (h : i < l.length) (j : Nat), j < k → (l.flatMap cells)[i * k + j]? = (cells l[i])[j]?
 | [], i, h, _, _ => absurd h (by simp)
 | x :: r, 0, _, j, hj => by
  rw [List.flatMap_cons, Nat.zero_mul, Nat.zero_add, List.getElem?_append_left (by rw [hk]; exact hj)]
  rfl
 | x :: r, i + 1, h, j, hj => by
  have := flat_getN hk r i (by simpa using h) j hj
  rw [List.flatMap_cons, List.getElem?_append_right (by rw [hk, Nat.add_mul]; omega), hk, show (i + 1) * k + j - k = i * k + j by rw [Nat.add_mul]; omega, this]
  rfl
theorem rows_lit {α : Type} {cells : α → List Value} {k : Nat} (hk : ∀ x, (cells x).length = k) {B g n : Nat} {W : World} {l : List α} {T : TypeId} {cs : Array Value} (h : W.heap[g]? = some (.cells cs T (0, 0))) (hcs : cs.toList = l.flatMap cells) (hn : l.length = n) (hl : n ≤ 100000) (hB : g < B) : RowsAt cells k B W (.slice (some ⟨g, 0, none⟩) n n) l := by
 subst hn
 refine ⟨_, _, rfl, ⟨by omega, Nat.le_refl _⟩, fun _ => ⟨g, 0, rfl, hB, fun i hi j u hu => ?_⟩⟩
 rw [Nat.zero_add, cell_of_row W g (i * k + j) _ _ (0, 0) h]
 have hj : j < k := by rw [← hk l[i]]; exact (List.getElem?_eq_some_iff.1 hu).1
 have := (flat_getN hk l i hi j hj).trans hu
 rw [← hcs] at this
 simpa using this
theorem rows_nilN {α : Type} {cells : α → List Value} {k B : Nat} {W : World} : RowsAt cells k B W (.slice none 0 0) [] := ⟨none, 0, rfl, ⟨by simp, by simp⟩, fun h => absurd rfl h⟩
end Go.Proofs.YtomahddiclkepaaDoor
namespace Go.Proofs.YtomahddiclkepaaDoor
open Go.RowKit Go.Joins Go.Maps
open Classical
set_option linter.unusedVariables false
set_option linter.unusedSimpArgs false
section
variable {α : Type} {key : α → ByteArray}
theorem lookF_no {l : List α} {k : ByteArray} (h : ∀ x ∈ l, key x ≠ k) : lookF key l k = none := by
 cases e : lookF key l k with
 | none => rfl
 | some y =>
  obtain ⟨hy, hk⟩ := lookF_in e
  exact absurd hk (h y hy)
end
structure LinkOk (b : Bk) (i : Nat) (x : Lk) : Prop where
 nm : nameB x.nm = true
 tt : nameB x.tg = true
 nz : ∀ z ∈ b.zones, z.nm ≠ x.nm
 fresh : ∀ y ∈ b.links.take i, y.nm ≠ x.nm
 tgt : (∃ z ∈ b.zones, z.nm = x.tg) ∨ ∃ y ∈ b.links, y.nm = x.tg
theorem bk_link {b : Bk} (h : bkChk b = 0) (i : Nat) (hi : i < b.links.length) : LinkOk b i b.links[i] := by
 have hz := (bk_parts h).2 i hi
 unfold linkChk at hz
 split at hz
 ·cases hz
 ·rename_i h1
  split at hz
  ·cases hz
  ·rename_i h2
   split at hz
   ·cases hz
   ·rename_i h3
    rw [not_or] at h1 h2
    refine ⟨by simpa using h1.1, by simpa using h1.2, fun z hz e => h2.1 (List.any_eq_true.2 ⟨z, hz, by simpa using e⟩), fun y hy e => h2.2 (List.any_eq_true.2 ⟨y, hy, by simpa using e⟩), ?_⟩
    by_cases g : isZone b b.links[i].tg = false
    ·have g2 : isLink b.links b.links[i].tg = true := by
      cases e : isLink b.links b.links[i].tg with
      | true => rfl
      | false => exact absurd ⟨g, e⟩ h3
     obtain ⟨y, hy, e⟩ := List.any_eq_true.1 g2
     exact .inr ⟨y, hy, by simpa using e⟩
    ·have g1 : isZone b b.links[i].tg = true := by simpa using g
     obtain ⟨z, hz, e⟩ := List.any_eq_true.1 g1
     exact .inl ⟨z, hz, by simpa using e⟩
theorem size_DL {b : Bk} (h : bkChk b = 0) : Maps.size (DL b.links) = b.links.length := by
 have key : ∀ (k : Nat), k ≤ b.links.length → Maps.size (DL (b.links.take k)) = k ∧ Tidy (DL (b.links.take k)) := by
  intro k
  induction k with
  | zero => intro _; exact ⟨rfl, tidy_empty⟩
  | succ k ih =>
   intro hk
   obtain ⟨h1, h2⟩ := ih (by omega)
   have hn : has (DL (b.links.take k)) (kyS b.links[k].nm) = false := by
    have e := (Dof_has (·.nm) (fun x : Lk => .string x.tg) (b.links.take k) b.links[k].nm).1
    have e2 : lookF (fun x : Lk => x.nm) (b.links.take k) b.links[k].nm = none := lookF_no (key := fun x : Lk => x.nm) (bk_link h k (by omega)).fresh
    rw [e2] at e
    exact e
   rw [take_succN _ _ (by omega), DL_snoc]
   refine ⟨?_, h2.put (show WideAt.IsKeyLit (kyS b.links[k].nm) from trivial) _⟩
   rw [size_put h2, hn, h1]
   rfl
 have := (key b.links.length (Nat.le_refl _)).1
 rwa [List.take_length] at this
end Go.Proofs.YtomahddiclkepaaDoor
namespace Go.Proofs.YtomahddiclkepaaDoor
open Go.RowKit Go.Joins Go.Maps
open Classical
set_option linter.unusedVariables false
set_option linter.unusedSimpArgs false
def er0 : Er := ⟨0, ⟨#[]⟩, 0, ⟨#[88]⟩, 0⟩
def bk0 (ev : Value) : Bk := ⟨[], [⟨⟨#[65]⟩, ev, [er0]⟩], [⟨⟨#[66]⟩, ⟨#[67]⟩⟩, ⟨⟨#[67]⟩, ⟨#[65]⟩⟩]⟩
theorem bk0_chk (ev : Value) : bkChk (bk0 ev) = 0 := by kernel_rfl
theorem bk0_rsv (ev : Value) : rsv (bk0 ev) ⟨#[66]⟩ = (some ⟨⟨#[65]⟩, ev, [er0]⟩, 0) := by
 rw [rsv_go (bk0_chk ev), size_DL (bk0_chk ev)]
 kernel_rfl
set_option maxRecDepth 100000 in
set_option maxHeartbeats 4000000 in
theorem named_any (w : World) (hm : MaxLen w) (ht : Tab10 w) :
 Calls Tryd.prog 5 #[] w fun e w' => e = .returned (.bool true) ∧ Below w.heap.size w w' := by
 obtain ⟨W1, eW⟩ : ∃ W1, (((w.alloc (.cells #[.int .i64 0, .string ⟨#[]⟩, .int .i64 0, .string ⟨#[88]⟩, .int .i64 0] 45)).alloc (.cells #[.string ⟨#[65]⟩, .slice (some ⟨w.heap.size, 0, none⟩) 1 1] 34)).alloc (.cells #[.string ⟨#[66]⟩, .string ⟨#[67]⟩, .string ⟨#[67]⟩, .string ⟨#[65]⟩] 57)).alloc (.cells #[.slice none 0 0, .slice (some ⟨w.heap.size + 1, 0, none⟩) 1 1, .slice (some ⟨w.heap.size + 1 + 1, 0, none⟩) 2 2] 26) = W1 := ⟨_, rfl⟩
 have hb1 : Below w.heap.size w W1 := by rw [← eW]; exact ((((Below.refl _ _).alloc (Nat.le_refl _) _).alloc (by simp) _).alloc (by simp <;> omega) _).alloc (by simp <;> omega) _
 have hz1 : W1.heap.size = w.heap.size + 4 := by rw [← eW]; simp
 have hE : W1.heap[w.heap.size]? = some (.cells #[.int .i64 0, .string ⟨#[]⟩, .int .i64 0, .string ⟨#[88]⟩, .int .i64 0] 45 (0, 0)) := by
  rw [← eW, Below.heap_alloc _ _ _ (by simp <;> omega), Below.heap_alloc _ _ _ (by simp <;> omega), Below.heap_alloc _ _ _ (by simp)]
  exact heap_alloc_new w _
 have hZ : W1.heap[w.heap.size + 1]? = some (.cells #[.string ⟨#[65]⟩, .slice (some ⟨w.heap.size, 0, none⟩) 1 1] 34 (0, 0)) := by
  rw [← eW, Below.heap_alloc _ _ _ (by simp <;> omega), Below.heap_alloc _ _ _ (by simp)]
  exact alloc_at _ _ _ (by simp)
 have hL : W1.heap[w.heap.size + 1 + 1]? = some (.cells #[.string ⟨#[66]⟩, .string ⟨#[67]⟩, .string ⟨#[67]⟩, .string ⟨#[65]⟩] 57 (0, 0)) := by
  rw [← eW, Below.heap_alloc _ _ _ (by simp)]
  exact alloc_at _ _ _ (by simp)
 have hx1 : W1.heap[w.heap.size + 1 + 1 + 1]? = some (.cells #[.slice none 0 0, .slice (some ⟨w.heap.size + 1, 0, none⟩) 1 1, .slice (some ⟨w.heap.size + 1 + 1, 0, none⟩) 2 2] 26 (0, 0)) := by
  rw [← eW]
  exact alloc_at _ _ _ (by simp)
 have x0 := (cell_of_row W1 _ 0 _ _ _ hx1).trans rfl
 have x1 := (cell_of_row W1 _ 1 _ _ _ hx1).trans rfl
 have x2 := (cell_of_row W1 _ 2 _ _ _ hx1).trans rfl
 have rz : RowsAt zoCells 2 W1.heap.size W1 (.slice (some ⟨w.heap.size + 1, 0, none⟩) 1 1) ([⟨⟨#[65]⟩, .slice (some ⟨w.heap.size, 0, none⟩) 1 1, [er0]⟩] : List Zo) := by
  refine rows_lit (cells := zoCells) (k := 2) (fun _ => rfl) hZ ?_ ?_ ?_ ?_
  ·rfl
  ·rfl
  ·decide
  ·omega
 have rl : RowsAt lkCells 2 W1.heap.size W1 (.slice (some ⟨w.heap.size + 1 + 1, 0, none⟩) 2 2) ([⟨⟨#[66]⟩, ⟨#[67]⟩⟩, ⟨⟨#[67]⟩, ⟨#[65]⟩⟩] : List Lk) := by
  refine rows_lit (cells := lkCells) (k := 2) (fun _ => rfl) hL ?_ ?_ ?_ ?_
  ·rfl
  ·rfl
  ·decide
  ·omega
 have hBK : BookAt W1.heap.size W1 (.slice none 0 0) (.slice (some ⟨w.heap.size + 1, 0, none⟩) 1 1) (.slice (some ⟨w.heap.size + 1 + 1, 0, none⟩) 2 2) (bk0 (.slice (some ⟨w.heap.size, 0, none⟩) 1 1)) := by
  refine ⟨rows_nilN, rz, ?_, rl, fun r hr => absurd hr (List.not_mem_nil), ?_, ?_⟩
  ·intro z hz
   obtain rfl := List.mem_singleton.1 hz
   refine rows_lit (cells := fun x : Er => (erCells x).toList) (k := 5) (l := [er0]) (fun _ => rfl) hE ?_ ?_ ?_ ?_
   ·rfl
   ·rfl
   ·decide
   ·omega
  ·intro z hz
   obtain rfl := List.mem_singleton.1 hz
   refine ⟨(show ByteArray.size ⟨#[65]⟩ ≤ 140737488351232 by decide), fun x hx => ?_⟩
   obtain rfl := List.mem_singleton.1 hx
   exact ⟨by decide, by decide, by decide, by decide, by decide, by decide, by decide, by decide⟩
  ·intro x hx
   rcases List.mem_cons.1 hx with rfl | hx
   ·exact ⟨by decide, by decide⟩
   ·obtain rfl := List.mem_singleton.1 hx
    exact ⟨by decide, by decide⟩
 have hrs := Resolve_any _ _ _ _ ⟨#[66]⟩ W1 hBK (by decide) (hm.below hb1) (ht.below hb1)
 rw [bk0_rsv] at hrs
 have HRS := Lib.hid hrs
 have HEW := Lib.hid eW
 have HB1 := Lib.hid hb1
 clear eW hb1 hz1 hE hZ hL hx1 hBK hrs hm ht rz rl
 go_enter Tryd.func5, Tryd.ntmps5
 go_upto_region 2 with fail
 rw [HEW.out]
 go_wp2_with fail
 refine HRS.out.mono ?_
 rintro e w2 ⟨vo, rfl, hrow, hb2⟩
 obtain ⟨A, c, rfl⟩ := own_sliceN hrow
 have HB2 := Lib.hid (HB1.out.trans (hb2.mono HB1.out.size))
 clear hrow hb2 x0 x1 x2 HRS
 simp only [zNm, zEr]
 go_wp2_with fail
 go_ret
 exact ⟨rfl, HB2.out.alloc HB2.out.size _⟩
end Go.Proofs.YtomahddiclkepaaDoor
namespace Go.Proofs.YtomahddiclkepaaDoor
open Go.RowKit
set_option linter.unusedVariables false
set_option linter.unusedSimpArgs false
theorem TabAt.parts {w : World} {v : Value} {t : Tab} (h : TabAt w v t) : ∃ sv cv, v = .agg #[sv, .int .i64 t.first, cv] := by
 obtain ⟨sv, cv, hv, _, _⟩ := h.val
 exact ⟨sv, cv, hv⟩
def bts (l : List Int) : List Value := l.map (Value.int .u8)
theorem bts_append (a b : List Int) : bts (a ++ b) = bts a ++ bts b := List.map_append
theorem bts_length (a : List Int) : (bts a).length = a.length := List.length_map _
def strB (s : ByteArray) : List Int := s.data.toList.map fun b => (b.toNat : Int)
theorem strB_length (s : ByteArray) : (strB s).length = s.size := by simp [strB]
def putN : Nat → Nat → List Int
 | 0, _ => []
 | k + 1, n => ((n / 256 ^ k % 256 : Nat) : Int) :: putN k n
theorem putN_length : ∀ k n, (putN k n).length = k
 | 0, _ => rfl
 | k + 1, n => by simp [putN, putN_length k n]
def flag (s : Bool) : Int := if s = true then 1 else 0
def encTy (x : Ty) : List Int := putN 4 (x.off + 2147483648).toNat ++ ([flag x.save, (x.name.size : Int)] ++ strB x.name)
def encCh (c : Ch) : List Int := putN 8 (c.t + 9223372036854775808).toNat ++ [c.k]
def encHead (t : Tab) : List Int := [84, 90, 98, 49, (t.types.length : Int), t.first] ++ putN 2 t.chs.length
def enc (t : Tab) : List Int := encHead t ++ (t.types.flatMap encTy ++ t.chs.flatMap encCh)
theorem encTy_length (x : Ty) : (encTy x).length = 6 + x.name.size := by simp [encTy, putN_length, strB_length]; omega
theorem encCh_length (x : Ch) : (encCh x).length = 9 := by simp [encCh, putN_length]
theorem encHead_length (t : Tab) : (encHead t).length = 8 := by simp [encHead, putN_length]
def nameSum (l : List Ty) : Nat := (l.map fun x => x.name.size).sum
theorem tys_length : ∀ l : List Ty, (l.flatMap encTy).length = 6 * l.length + nameSum l
 | [] => rfl
 | x :: r => by
  rw [List.flatMap_cons, List.length_append, encTy_length, tys_length r]
  simp [nameSum]; omega
theorem chs_length : ∀ l : List Ch, (l.flatMap encCh).length = 9 * l.length
 | [] => rfl
 | x :: r => by
  rw [List.flatMap_cons, List.length_append, encCh_length, chs_length r]
  simp; omega
structure Rd where
 rest : List Int
 short : Bool
def takeN (n : Nat) (r : Rd) : List Int × Rd := if n ≤ r.rest.length then (r.rest.take n, ⟨r.rest.drop n, r.short⟩) else (List.replicate n 0, ⟨[], true⟩)
def numL (l : List Int) : Nat := l.foldl (fun n c => n * 256 + c.toNat) 0
def numN (n : Nat) (r : Rd) : Nat × Rd := (numL (takeN n r).1, (takeN n r).2)
def ch1 (r : Rd) : Ch × Rd :=
 let a := numN 8 r
 let k := numN 1 a.2
 (⟨(a.1 : Int) - 9223372036854775808, (k.1 : Int)⟩, k.2)
def chs : Nat → Rd → List Ch × Rd
 | 0, r => ([], r)
 | k + 1, r => if (chs k r).2.short = true then chs k r else ((chs k r).1 ++ [(ch1 (chs k r).2).1], (ch1 (chs k r).2).2)
theorem name_small (x : Ty) (h : abbrB x.name = true) : x.name.size ≤ 8 := by
 unfold abbrB allB at h
 simp only [Bool.and_eq_true, decide_eq_true_eq] at h
 omega
theorem nameSum_le : ∀ (l : List Ty), (∀ x ∈ l, x.name.size ≤ 8) → nameSum l ≤ 8 * l.length
 | [], _ => by simp [nameSum]
 | x :: r, h => by
  have h1 := nameSum_le r fun y hy => h y (by simp [hy])
  have h2 := h x (by simp)
  simp only [nameSum, List.map_cons, List.sum_cons, List.length_cons] at h1 ⊢
  omega
theorem undBytes : Tryd.prog.underlying 52 = some (.slice 5) := by kernel_rfl
theorem infoByte : (Tryd.prog.info? 5).map (fun i => (i.zero, i.size, i.bytes)) = some (some (.int .u8 0), 1, 1) := by kernel_rfl
def BRow (w : World) (B : Nat) (v : Value) (l : List Int) : Prop := w.ownsRow B 5 1 v l.length (bts l)
def Grew (w : World) (v : Value) (w' : World) (v' : Value) : Prop := w.grownBy w' v.ownBlock ∧ (v'.ownBlock = v.ownBlock ∨ ∃ k, v'.ownBlock = some k ∧ w.heap.size ≤ k)
theorem Grew.refl (w : World) (v : Value) : Grew w v w v := ⟨⟨rfl, rfl, rfl, Nat.le_refl _, fun _ _ _ => rfl⟩, .inl rfl⟩
theorem Grew.trans {a b c : World} {u v x : Value} (h : Grew a u b v) (k : Grew b v c x) : Grew a u c x := by
 obtain ⟨h1, h2⟩ := h
 obtain ⟨k1, k2⟩ := k
 refine ⟨⟨k1.os.trans h1.os, k1.tape.trans h1.tape, k1.output.trans h1.output, Nat.le_trans h1.size k1.size, fun i hi hne => ?_⟩, ?_⟩
 ·refine (k1.block i (Nat.lt_of_lt_of_le hi h1.size) (fun e => ?_)).trans (h1.block i hi hne)
  rcases h2 with h2 | ⟨j, h2, h3⟩
  ·exact hne (by rw [e, h2])
  ·rw [h2] at e; injection e with e; omega
 ·rcases k2 with k2 | ⟨j, k2, k3⟩
  ·rcases h2 with h2 | ⟨i, h2, h3⟩
   ·exact .inl (k2.trans h2)
   ·exact .inr ⟨i, k2.trans h2, h3⟩
  ·exact .inr ⟨j, k2, Nat.le_trans h1.size k3⟩
theorem Grew.alloc (w : World) (v : Value) (o : Obj) : Grew w v (w.alloc o) v :=
 ⟨⟨rfl, rfl, rfl, by simp, fun i hi _ => Below.heap_alloc w o i hi⟩, .inl rfl⟩
theorem Grew.drew (w : World) (v : Value) : Grew w v w.drew v := ⟨⟨rfl, rfl, rfl, Nat.le_refl _, fun _ _ _ => rfl⟩, .inl rfl⟩
theorem Grew.drewN (w : World) (v : Value) (n : Nat) : Grew w v (w.drewN n) v := ⟨⟨rfl, rfl, rfl, Nat.le_refl _, fun _ _ _ => rfl⟩, .inl rfl⟩
theorem Grew.app {w w' : World} {v v' : Value} (h : w.grownBy w' v.ownBlock) (k : v'.ownBlock = v.ownBlock ∨ v'.ownBlock = some w.heap.size) : Grew w v w' v' :=
 ⟨h, k.imp id fun e => ⟨_, e, Nat.le_refl _⟩⟩
theorem Grew.below {w w' : World} {v v' : Value} {B : Nat} {l : List Int} (h : Grew w v w' v') (hr : BRow w B v l) (hB : B ≤ w.heap.size) : Below B w w' :=
 (Below.refl B w).grown h.1 hB fun q hq => (World.ownsRow.lt hr q hq).1
theorem Grew.far {w w' : World} {v v' : Value} (h : Grew w v w' v') {b : Nat} (hb : b < w.heap.size) (hne : v.ownBlock ≠ some b) : w'.heap[b]? = w.heap[b]? := h.1.block b hb fun e => hne e.symm
theorem Grew.ne {w w' : World} {v v' : Value} (h : Grew w v w' v') {b : Nat} (hb : b < w.heap.size) (hne : v.ownBlock ≠ some b) : v'.ownBlock ≠ some b := by
 rcases h.2 with e | ⟨k, e, hk⟩
 ·rw [e]; exact hne
 ·rw [e]; intro e2; injection e2 with e2; omega
theorem put_step (k n : Nat) : putN (k + 1) n = [((n / 256 ^ k % 256 : Nat) : Int)] ++ putN k n := rfl
theorem shr_eq (n k : Nat) : IntKind.u8.wrap ((n : Int) / 2 ^ (8 * k)) = ((n / 256 ^ k % 256 : Nat) : Int) := by
 rw [IntKind.wrap_u8']
 have e : (2 : Int) ^ (8 * k) = ((256 ^ k : Nat) : Int) := by
  rw [Int.pow_mul, show ((2 : Int) ^ 8) = ((256 : Nat) : Int) from by decide, ← Int.natCast_pow]
 rw [e]
 simp only [Int.natCast_emod, Int.natCast_ediv]
 rfl
set_option maxRecDepth 100000 in
set_option maxHeartbeats 4000000 in
theorem put_any (B : Nat) (v : Value) (l : List Int) (n many : Nat) (w : World) (hown : BRow w B v l) (hB : B ≤ w.heap.size) (hm : many ≤ 8) (hl : l.length ≤ 100000) :
 Calls Tryd.prog 20 #[v, .int .u64 n, .int .i64 many] w fun e w' => ∃ v', e = .returned v' ∧ BRow w' B v' (l ++ putN many n) ∧ Grew w v w' v' := by
 obtain ⟨i0, hi, hz0, hz1, hz2⟩ := info_parts infoByte
 have HO := Lib.hid hown
 clear hown
 go_enter Tryd.func20, Tryd.ntmps20
 go_wp2
 go_loopw [0, 7] (fun s0 s7 wr => ∃ (k : Nat) (pre : List Int), k ≤ many ∧ s7 = .int .i64 ((k : Int) - 1) ∧ BRow wr B s0 (l ++ pre) ∧ putN many n = pre ++ putN k n ∧ pre.length ≤ 8 ∧ Grew w v wr s0) (fun _ s7 _ => (intOf s7 + 1).toNat)
 case atStart => exact ⟨many, [], Nat.le_refl _, rfl, by rw [List.append_nil]; exact HO.out, rfl, by simp, Grew.refl _ _⟩
 case round =>
  obtain ⟨k, pre, hk, rfl, hrow, heq, hpl, hb⟩ := hrel
  have HR := Lib.hid hrow
  have HE := Lib.hid heq
  have HB := Lib.hid hb
  clear hrow heq hb
  rcases Nat.eq_zero_or_pos k with h0 | h0
  ·subst h0
   go_wp2
   go_ret
   refine ⟨_, rfl, ?_, HB.out⟩
   have e : putN many n = pre := by rw [HE.out]; exact List.append_nil _
   rw [e]; exact HR.out
  ·obtain ⟨j, rfl⟩ : ∃ j, k = j + 1 := ⟨k - 1, by omega⟩
   have e1 : (((j + 1 : Nat) : Int) - 1) = (j : Int) := by omega
   rw [e1]
   clear e1
   have hj1 : (j : Int) ≤ 7 := by omega
   have hj0 : (0 : Int) ≤ (j : Int) := by omega
   have hv : Hid ((n : Int) / 2 ^ (8 * j) % 256 = ((n / 256 ^ j % 256 : Nat) : Int)) := by
    have := shr_eq n j
    rw [IntKind.wrap_u8'] at this
    exact this
   have hlen : (l ++ pre).length ≤ 100008 := by rw [List.length_append]; omega
   have hsz : B ≤ (wr.alloc (Obj.cells #[Value.int IntKind.u8 (↑n / 2 ^ (8 * j) % 256)] 5)).heap.size := by have := HB.out.1.size; simp; omega
   have HSZ := Lib.hid hsz
   have HL1 : (l ++ pre).length + 1 ≤ maxLen := by simp only [maxLen]; omega
   have HL2 : ((l ++ pre).length + 1) * 1 ≤ 140737488355328 := by omega
   have HR2 : (wr.alloc (Obj.cells #[Value.int IntKind.u8 (↑n / 2 ^ (8 * j) % 256)] 5)).ownsRow B 5 1 u0 (l ++ pre).length (bts (l ++ pre)) := World.ownsRow.alloc HR.out _
   have HNEW : ∀ (k : Nat) (u : Value), [Value.int .u8 (↑n / 2 ^ (8 * j) % 256)][k]? = some u → (wr.alloc (Obj.cells #[Value.int IntKind.u8 (↑n / 2 ^ (8 * j) % 256)] 5)).cell? ((⟨wr.heap.size, 0, none⟩ : Addr).add k) = some u := cell_one_new _ _ _
   clear hsz hlen
   go_wp2_with (first
    | (at_builtin
       refine wpList_append_own_at _ rfl _ _ 52 rfl B 5 i0 (.int .u8 0) 1 1 undBytes hi hz0 hz1 hz2 rfl (by decide) _ _ _ rfl HR2 ⟨wr.heap.size, 0, none⟩ 1 1 [.int .u8 (↑n / 2 ^ (8 * j) % 256)] rfl rfl HNEW (by simp [Value.oneCell']) HL1 HL2 HSZ.out ?_
       intro v' w1 hown1 hgrow1 _ hat1))
   go_roundw
   case rel =>
    refine ⟨j, pre ++ [((n / 256 ^ j % 256 : Nat) : Int)], by omega, rfl, ?_, ?_, ?_, ?_⟩
    ·show w1.ownsRow _ _ _ _ _ _
     rw [← List.append_assoc, List.length_append, bts_append, ← hv.out]
     exact hown1
    ·rw [HE.out, put_step, List.append_assoc]
    ·have h1 := congrArg List.length HE.out
     simp only [List.length_append, putN_length] at h1
     rw [List.length_append]
     show pre.length + 1 ≤ 8
     omega
    ·exact HB.out.trans ((Grew.alloc _ _ _).trans (Grew.app hgrow1 hat1))
   case measure => simp [intOf]
end Go.Proofs.YtomahddiclkepaaDoor
namespace Go.Proofs.YtomahddiclkepaaDoor
open Go.RowKit Go.Joins
set_option linter.unusedVariables false
set_option linter.unusedSimpArgs false
theorem box3 {w W0 : World} {a b c : Value} {T : TypeId} (h : w.alloc (.cells #[a, b, c] T) = W0) :
 Below w.heap.size w W0 ∧ W0.heap.size = w.heap.size + 1 ∧ W0.cell? ⟨w.heap.size, 0, none⟩ = some a ∧ W0.cell? ⟨w.heap.size, 1, none⟩ = some b ∧ W0.cell? ⟨w.heap.size, 2, none⟩ = some c := by
 subst h
 exact ⟨(Below.refl _ _).alloc (Nat.le_refl _) _, by simp, by simp [go_sem], by simp [go_sem], by simp [go_sem]⟩
def samT : Tab := ⟨[⟨0, false, ⟨#[65]⟩⟩, ⟨3600, false, ⟨#[66]⟩⟩], 0, [⟨10000, 1⟩, ⟨20000, 0⟩]⟩
theorem sam_tab {w W : World} (hs : W.heap.size = w.heap.size + 3) (h1 : W.heap[w.heap.size + 1]? = some (Obj.cells #[.int .i64 0, .bool false, .string ⟨#[65]⟩, .int .i64 3600, .bool false, .string ⟨#[66]⟩] 37 (0, 0)))
 (h2 : W.heap[w.heap.size + 1 + 1]? = some (Obj.cells #[.int .i64 10000, .int .i64 1, .int .i64 20000, .int .i64 0] 40 (0, 0))) :
 TabAt W (.agg #[.slice (some ⟨w.heap.size + 1, 0, none⟩) 2 2, .int .i64 0, .slice (some ⟨w.heap.size + 1 + 1, 0, none⟩) 2 2]) samT := by
 refine ⟨_, _, rfl, ⟨⟨_, 2, rfl, fun _ => ⟨_, _, rfl, by omega, fun i hi => ?_⟩⟩, by decide, by decide⟩, ⟨⟨_, 2, rfl, fun _ => ⟨_, _, rfl, by omega, fun i hi => ?_⟩⟩, by decide⟩⟩
 ·have : i < 2 := hi
  rcases i with _ | _ | i
  ·refine ⟨?_, ?_, ?_⟩ <;> simp [World.cell?, h1, samT]
  ·refine ⟨?_, ?_, ?_⟩ <;> simp [World.cell?, h1, samT]
  ·omega
 ·have : i < 2 := hi
  rcases i with _ | _ | i
  ·refine ⟨?_, ?_⟩ <;> simp [World.cell?, h2, samT]
  ·refine ⟨?_, ?_⟩ <;> simp [World.cell?, h2, samT]
  ·omega
set_option maxHeartbeats 4000000 in
theorem sample_any (w : World) :
 Calls Tryd.prog 14 #[] w fun e w' => ∃ v, e = .returned v ∧ TabAt w' v samT ∧ Below w.heap.size w w' := by
 go_enter Tryd.func14, Tryd.ntmps14
 go_wp2
 obtain ⟨w1, h1⟩ : ∃ w1, w.alloc (Obj.cells #[.slice (some ⟨w.heap.size + 1, 0, none⟩) 2 2, .int .i64 0, .slice (some ⟨w.heap.size + 1 + 1, 0, none⟩) 2 2] 30) = w1 := ⟨_, rfl⟩
 obtain ⟨b1, s1, q0, q1, q2⟩ := box3 h1
 rw [h1]
 obtain ⟨w2, h2⟩ : ∃ w2, w1.alloc (Obj.cells #[.int .i64 0, .bool false, .string ⟨#[65]⟩, .int .i64 3600, .bool false, .string ⟨#[66]⟩] 37) = w2 := ⟨_, rfl⟩
 have s2 : w2.heap.size = w.heap.size + 2 := by rw [← h2]; simp; omega
 have n2 := heap_alloc_new w1 (Obj.cells #[.int .i64 0, .bool false, .string ⟨#[65]⟩, .int .i64 3600, .bool false, .string ⟨#[66]⟩] 37)
 have b2 : Below w.heap.size w w2 := by rw [← h2]; exact b1.alloc (by omega) _
 have bb2 : Below w1.heap.size w1 w2 := by rw [← h2]; exact (Below.refl _ _).alloc (Nat.le_refl _) _
 rw [h2, s1] at n2
 rw [h2]
 obtain ⟨w3, h3⟩ : ∃ w3, w2.alloc (Obj.cells #[.int .i64 10000, .int .i64 1, .int .i64 20000, .int .i64 0] 40) = w3 := ⟨_, rfl⟩
 have s3 : w3.heap.size = w.heap.size + 3 := by rw [← h3]; simp; omega
 have n3 := heap_alloc_new w2 (Obj.cells #[.int .i64 10000, .int .i64 1, .int .i64 20000, .int .i64 0] 40)
 have b3 : Below w.heap.size w w3 := by rw [← h3]; exact b2.alloc (by omega) _
 have bb3 : Below w2.heap.size w2 w3 := by rw [← h3]; exact (Below.refl _ _).alloc (Nat.le_refl _) _
 rw [h3, s2] at n3
 rw [h3]
 have m2 := (bb3.block (w.heap.size + 1) (by omega)).trans n2
 have k0 := (bb3.cell (p := ⟨w.heap.size, 0, none⟩) (by show w.heap.size < _; omega)).trans ((bb2.cell (p := ⟨w.heap.size, 0, none⟩) (by show w.heap.size < _; omega)).trans q0)
 have k1 := (bb3.cell (p := ⟨w.heap.size, 1, none⟩) (by show w.heap.size < _; omega)).trans ((bb2.cell (p := ⟨w.heap.size, 1, none⟩) (by show w.heap.size < _; omega)).trans q1)
 have k2 := (bb3.cell (p := ⟨w.heap.size, 2, none⟩) (by show w.heap.size < _; omega)).trans ((bb2.cell (p := ⟨w.heap.size, 2, none⟩) (by show w.heap.size < _; omega)).trans q2)
 refine bodyPost_ret (v := .agg #[.slice (some ⟨w.heap.size + 1, 0, none⟩) 2 2, .int .i64 0, .slice (some ⟨w.heap.size + 1 + 1, 0, none⟩) 2 2]) (by simp [results, Tryd.results14, go_sem, k0, k1, k2]) rfl ?_
 exact ⟨_, rfl, sam_tab s3 m2 n3, b3⟩
end Go.Proofs.YtomahddiclkepaaDoor
