/- (places).resolve: what it returns. -/
import Derived.Test.YtlgdilpmdoofiaaDoorNm1
namespace Go.Proofs.YtlgdilpmdoofiaaDoor
open Go.RowKit Go.Joins Go.Maps
open Classical
set_option linter.unusedVariables false
set_option linter.unusedSimpArgs false

def lookF {α : Type} (key : α → ByteArray) (l : List α) (k : ByteArray) : Option α := l.foldl (fun acc x => if key x = k then some x else acc) none
def Dof {α : Type} (key : α → ByteArray) (val : α → Value) (l : List α) : DataW Value := l.foldl (fun D x => D.put (kyS (key x)) (.held (val x))) (.map [])
theorem kyS_inj {a b : ByteArray} (h : a ≠ b) : kyS a ≠ kyS b := fun e => h (by
  injection e with e
  cases a; cases b; simp_all [Array.toList_inj])
theorem Dof_look {α : Type} (key : α → ByteArray) (val : α → Value) (k : ByteArray) : ∀ (l : List α) (D : DataW Value) (acc : Option α), IsMap D → (has D (kyS k) = acc.isSome ∧ ∀ zd, D.atKey (kyS k) zd = (match acc with | some x => .held (val x) | none => zd)) →
    (has (l.foldl (fun D x => D.put (kyS (key x)) (.held (val x))) D) (kyS k) = (l.foldl (fun acc x => if key x = k then some x else acc) acc).isSome ∧ ∀ zd, (l.foldl (fun D x => D.put (kyS (key x)) (.held (val x))) D).atKey (kyS k) zd = (match l.foldl (fun acc x => if key x = k then some x else acc) acc with | some x => .held (val x) | none => zd)) := by
  intro l
  induction l with
  | nil => intro D acc _ h; exact h
  | cons x r ih =>
    intro D acc hD h
    refine ih _ _ (hD.put _ _) ?_
    dsimp only
    by_cases e : key x = k
    · rw [if_pos e, e]
      exact ⟨has_put_same hD (show WideAt.IsKeyLit (kyS k) from trivial) _, fun zd => atKey_put_same hD (show WideAt.IsKeyLit (kyS k) from trivial) _ _⟩
    · rw [if_neg e]
      have hne : kyS k ≠ kyS (key x) := kyS_inj (fun h => e h.symm)
      refine ⟨(has_put_other hne _).trans h.1, fun zd => (atKey_put_other hne _ _).trans (h.2 zd)⟩
theorem Dof_has {α : Type} (key : α → ByteArray) (val : α → Value) (l : List α) (k : ByteArray) : has (Dof key val l) (kyS k) = (lookF key l k).isSome ∧ ∀ zd, (Dof key val l).atKey (kyS k) zd = (match lookF key l k with | some x => .held (val x) | none => zd) :=
  Dof_look key val k l (.map []) none isMap_empty ⟨rfl, fun zd => rfl⟩
theorem lookF_mem {α : Type} {key : α → ByteArray} {k : ByteArray} : ∀ {l : List α} {acc : Option α} {x : α}, l.foldl (fun acc x => if key x = k then some x else acc) acc = some x → (x ∈ l ∧ key x = k) ∨ acc = some x := by
  intro l
  induction l with
  | nil => intro acc x h; exact .inr h
  | cons y r ih =>
    intro acc x h
    rcases ih h with ⟨h1, h2⟩ | h1
    · exact .inl ⟨List.mem_cons_of_mem _ h1, h2⟩
    · dsimp only at h1
      by_cases e : key y = k
      · rw [if_pos e] at h1
        injection h1 with h1
        subst h1
        exact .inl ⟨List.mem_cons_self .., e⟩
      · rw [if_neg e] at h1; exact .inr h1
theorem lookF_in {α : Type} {key : α → ByteArray} {k : ByteArray} {l : List α} {x : α} (h : lookF key l k = some x) : x ∈ l ∧ key x = k := by
  rcases lookF_mem h with h | h
  · exact h
  · cases h
/-- a name, followed -/
def resF (zs : List Zo) (ls : List Lk) : Nat → ByteArray → Option Zo × Int
  | 0, _ => (none, 8)
  | n + 1, k => match lookF (·.nm) zs k with
    | some z => (some z, 0)
    | none => match lookF (·.nm) ls k with
      | none => (none, 6)
      | some x => resF zs ls n x.to
def zoVal (z : Option Zo) : Value := match z with | some z => zoV z | none => .agg #[.string ⟨#[]⟩, .slice none 0 0]
theorem zeroZo (W : World) : (zeroValue 53).run Tryd.prog W = .ok (.agg #[.string ⟨#[]⟩, .slice none 0 0]) W := by kernel_rfl
theorem zeroStr (W : World) : (zeroValue 9).run Tryd.prog W = .ok (.string ⟨#[]⟩) W := by kernel_rfl
theorem look_zone {B : Nat} {W : World} {pb bz bl nz nl : Nat} {zs : List Zo} {ls : List Lk} (h : PlAt B W pb bz bl nz nl zs ls) (k : ByteArray) (hk : k.size ≤ maxLen) :
    (Instr.lookup 111 (.map (some bz)) (.string k) true).run Tryd.prog W = .ok (.tuple #[zoVal (lookF (·.nm) zs k), .bool (lookF (·.nm) zs k).isSome]) W := by
  obtain ⟨v, ps, hrun, hv⟩ := h.z.look_ok keyS Tryd.underlying111 (zeroZo W) (zd := .held (.agg #[.string ⟨#[]⟩, .slice none 0 0])) (zp := []) rfl (Go.WideMaps.keyOf_string_mk Tryd.underlying9 hk)
  have hd := Dof_has (·.nm) zoV zs k
  have e : DZ zs = Dof (·.nm) zoV zs := rfl
  rw [e] at hrun hv
  have hv2 : DataW.held v = _ := (congrArg Prod.fst (Option.some.inj hv)).trans (hd.2 _)
  rw [hrun, hd.1]
  clear hrun hv hd e
  cases hl : lookF (·.nm) zs k with
  | none => rw [hl] at hv2; rw [DataW.held.inj hv2]; rfl
  | some z => rw [hl] at hv2; rw [DataW.held.inj hv2]; rfl
theorem look_link {B : Nat} {W : World} {pb bz bl nz nl : Nat} {zs : List Zo} {ls : List Lk} (h : PlAt B W pb bz bl nz nl zs ls) (k : ByteArray) (hk : k.size ≤ maxLen) :
    (Instr.lookup 112 (.map (some bl)) (.string k) true).run Tryd.prog W = .ok (.tuple #[.string (match lookF (·.nm) ls k with | some x => x.to | none => ⟨#[]⟩), .bool (lookF (·.nm) ls k).isSome]) W := by
  obtain ⟨v, ps, hrun, hv⟩ := h.l.look_ok keyS Tryd.underlying112 (zeroStr W) (zd := .held (.string ⟨#[]⟩)) (zp := []) rfl (Go.WideMaps.keyOf_string_mk Tryd.underlying9 hk)
  have hd := Dof_has (·.nm) (fun x : Lk => .string x.to) ls k
  have e : DL ls = Dof (·.nm) (fun x : Lk => .string x.to) ls := rfl
  rw [e] at hrun hv
  have hv2 : DataW.held v = _ := (congrArg Prod.fst (Option.some.inj hv)).trans (hd.2 _)
  rw [hrun, hd.1]
  clear hrun hv hd e
  cases hl : lookF (·.nm) ls k with
  | none => rw [hl] at hv2; rw [DataW.held.inj hv2]
  | some z => rw [hl] at hv2; rw [DataW.held.inj hv2]
theorem resF_z {zs : List Zo} {ls : List Lk} {n : Nat} {k : ByteArray} {z : Zo} (h : lookF (·.nm) zs k = some z) : resF zs ls (n + 1) k = (some z, 0) := by
  rw [resF, h]
theorem resF_none {zs : List Zo} {ls : List Lk} {n : Nat} {k : ByteArray} (h : lookF (·.nm) zs k = none) (h2 : lookF (·.nm) ls k = none) : resF zs ls (n + 1) k = (none, 6) := by
  rw [resF, h, h2]
theorem resF_go {zs : List Zo} {ls : List Lk} {n : Nat} {k : ByteArray} {x : Lk} (h : lookF (·.nm) zs k = none) (h2 : lookF (·.nm) ls k = some x) : resF zs ls (n + 1) k = resF zs ls n x.to := by
  rw [resF, h, h2]
/-- all zones' eras are slices -/
def EvOk (zs : List Zo) : Prop := ∀ z ∈ zs, ∃ p c, z.ev = .slice p z.eras.length c
def ResPost (R : Option Zo × Int) (w : World) (e : Ending) (w' : World) : Prop := e = .returned (.tuple #[zoVal R.1, .int .i64 R.2]) ∧ Below w.heap.size w w'

theorem end_two {W : World} {rb : Nat} {a b : Value} {T : TypeId} (h : W.heap[rb]? = some (.cells #[a, b] T (0, 0))) (c d : Value) :
    ∃ W', (W.setCell ⟨rb, 0, none⟩ c).setCell ⟨rb, 1, none⟩ d = W' ∧ W'.heap[rb]? = some (.cells #[c, d] T (0, 0)) ∧ ∀ B, B ≤ rb → Below B W W' := by
  refine ⟨_, rfl, ?_, fun B hB => ((Below.refl _ _).setCell hB _).setCell hB _⟩
  simp [World.setCell, Array.getElem?_modify, h]
theorem ResPost.mk {R : Option Zo × Int} {z : Option Zo} {c : Int} {v : Value} {w w' : World} (h : (z, c) = R) (hv : zoVal z = v) (hb : Below w.heap.size w w') : ResPost R w (.returned (.tuple #[v, .int .i64 c])) w' := by
  subst h
  subst hv
  exact ⟨rfl, hb⟩

set_option maxRecDepth 100000 in
set_option maxHeartbeats 4000000 in
theorem resolve_any (B pb bz bl nz nl : Nat) (zs : List Zo) (ls : List Lk) (nm : ByteArray) (w : World) (hP : PlAt B w pb bz bl nz nl zs ls) (hz : EvOk zs) (hs : ∀ x ∈ ls, x.to.size ≤ 140737488351232) (hn : nm.size ≤ 140737488351232) (hnl : nl ≤ 1000) :
    Calls Tryd.prog 50 #[.pointer (some ⟨pb, 0, none⟩), .string nm] w (ResPost (resF zs ls (Maps.size (DL ls) + 1) nm) w) := by
  obtain ⟨N, eN⟩ : ∃ N, Maps.size (DL ls) = N := ⟨_, rfl⟩
  have hN : N ≤ 1000 := by rw [← eN]; exact Nat.le_trans hP.l.size_le hnl
  rw [eN]
  obtain ⟨R, eR⟩ : ∃ R, resF zs ls (N + 1) nm = R := ⟨_, rfl⟩
  rw [eR]
  have HR := Lib.hid eR
  have hlen : ∀ {B : Nat} {W : World} {pb bz bl nz nl : Nat}, PlAt B W pb bz bl nz nl zs ls → (Builtin.len_ #[112] 3 #[.map (some bl)]).run Tryd.prog W = .ok (.int .i64 N) W := fun h => by rw [← eN]; exact h.l.len Tryd.underlying112 _
  have HLEN := Lib.hid (fun W h => hlen (B := B) (W := W) (pb := pb) (bz := bz) (bl := bl) (nz := nz) (nl := nl) h)
  have HLZ := Lib.hid (fun W k h hk => look_zone (B := B) (W := W) (pb := pb) (bz := bz) (bl := bl) (nz := nz) (nl := nl) (zs := zs) (ls := ls) h k hk)
  have HLL := Lib.hid (fun W k h hk => look_link (B := B) (W := W) (pb := pb) (bz := bz) (bl := bl) (nz := nz) (nl := nl) (zs := zs) (ls := ls) h k hk)
  obtain ⟨W0, eW⟩ : ∃ W0, w.alloc (.cells #[.string ⟨#[]⟩, .slice none 0 0] 53) = W0 := ⟨_, rfl⟩
  have hb0 : Below w.heap.size w W0 := by rw [← eW]; exact (Below.refl _ _).alloc (Nat.le_refl _) _
  have hbx : W0.heap[w.heap.size]? = some (.cells #[.string ⟨#[]⟩, .slice none 0 0] 53 (0, 0)) := by rw [← eW]; exact heap_alloc_new w _
  have hl0 : w.heap.size < W0.heap.size := by rw [← eW]; simp
  have HP0 := Lib.hid (hP.below hb0 (Nat.le_refl _))
  have HEW := Lib.hid eW
  have HB0 := Lib.hid hb0
  have HBX := Lib.hid hbx
  have HZ := Lib.hid hz
  have HS := Lib.hid hs
  have hpw : pb < w.heap.size := hP.cells.2.2
  obtain ⟨rb, erb⟩ : ∃ rb, w.heap.size = rb := ⟨_, rfl⟩
  rw [erb] at hpw hl0 HBX
  have HERB := Lib.hid erb
  clear eW hb0 hbx hP hz hs eR eN hlen erb
  go_enter Tryd.func50, Tryd.ntmps50
  go_upto_region 1 with fail
  rw [HEW.out, HERB.out]
  obtain ⟨m0, m1, mp⟩ := HP0.out.cells
  have hl := HLEN.out W0 HP0.out
  go_wp2_with fail
  go_loopw [1, 16] (fun v1 i wr => ∃ (k : Nat) (nm' : ByteArray), k ≤ N + 1 ∧ i = .int .i64 k ∧ v1 = .string nm' ∧ nm'.size ≤ 140737488351232 ∧ Hid (resF zs ls (N + 1 - k) nm' = R) ∧ Hid (Below W0.heap.size W0 wr)) (fun _ i _ => N + 1 - (intOf i).toNat)
  case atStart => exact ⟨0, nm, Nat.zero_le _, rfl, rfl, hn, HR, Lib.hid (Below.refl _ _)⟩
  case round =>
    obtain ⟨k, nm1, hk, rfl, rfl, hn1, HRR, HBR⟩ := hrel
    have hzr := HBR.out.size
    have hrb : rb < wr.heap.size := by omega
    have HPW := Lib.hid (HP0.out.below HBR.out (Nat.le_refl _))
    have HXR := Lib.hid ((HBR.out.block rb hl0).trans HBX.out)
    obtain ⟨m0, m1, mp⟩ := HPW.out.cells
    have r0 : wr.cell? ⟨rb, 0, none⟩ = some (.string ⟨#[]⟩) := (cell_of_row wr _ 0 _ _ _ HXR.out).trans rfl
    have r1 : wr.cell? ⟨rb, 1, none⟩ = some (.slice none 0 0) := (cell_of_row wr _ 1 _ _ _ HXR.out).trans rfl
    have f0 : wr.frozen? ⟨rb, 0, none⟩ = false := by simp [World.frozen?, HXR.out]
    have f1 : wr.frozen? ⟨rb, 1, none⟩ = false := by simp [World.frozen?, HXR.out]
    by_cases hkn : k < N + 1
    · obtain ⟨n, en⟩ : ∃ n, N + 1 - k = n + 1 := ⟨N - k, by omega⟩
      have hrr := HRR.out
      rw [en] at hrr
      have hkz : (k : Int) < (N : Int) + 1 := by omega
      have lz := HLZ.out wr nm1 HPW.out (by unfold maxLen; omega)
      have ll := HLL.out (wr.alloc (.cells #[.string ⟨#[]⟩, .slice none 0 0] 53)) nm1 (HPW.out.below ((Below.refl _ _).alloc (Nat.le_refl _) _) (Nat.le_refl _)) (by unfold maxLen; omega)
      cases hlz : lookF (·.nm) zs nm1 with
      | some z =>
        rw [hlz] at lz
        rw [resF_z hlz] at hrr
        obtain ⟨pe, ce, hev⟩ := HZ.out z (lookF_in hlz).1
        obtain ⟨znm, zev, zer⟩ := z
        simp only at hev
        subst hev
        change _ = Result.ok (Value.tuple #[Value.agg #[Value.string znm, Value.slice pe zer.length ce], Value.bool true]) wr at lz
        have HRE := Lib.hid hrr
        clear hlz hrr ll en
        go_wp2_with fail
        obtain ⟨W9, e9, hh9, hb9⟩ := end_two HXR.out (.string znm) (.slice pe zer.length ce)
        rw [e9]
        obtain ⟨W10, e10⟩ : ∃ W10, W9.alloc (.cells #[(.string znm), (.slice pe zer.length ce)] 53) = W10 := ⟨_, rfl⟩
        rw [e10]
        have hs9 : wr.heap.size ≤ W9.heap.size := (hb9 0 (Nat.zero_le _)).size
        have hh10 : W10.heap[rb]? = some (.cells #[(.string znm), (.slice pe zer.length ce)] 53 (0, 0)) := by rw [← e10, Below.heap_alloc _ _ _ (by omega)]; exact hh9
        have v0 := (cell_of_row W10 _ 0 _ _ _ hh10).trans rfl
        have v1 := (cell_of_row W10 _ 1 _ _ _ hh10).trans rfl
        have HBD : Below w.heap.size w W10 := by
          rw [← e10]
          exact (HB0.out.trans ((HBR.out.mono HB0.out.size).trans (hb9 _ (by have := HERB.out; omega)))).alloc (by have := HERB.out; omega) _
        exact bodyPost_ret (v := .tuple #[.agg #[(.string znm), (.slice pe zer.length ce)], .int .i64 0]) (by simp [results, Tryd.results50, go_sem, v0, v1]) rfl (ResPost.mk (z := some ⟨znm, .slice pe zer.length ce, zer⟩) HRE.out rfl HBD)
      | none =>
        rw [hlz] at lz
        change _ = Result.ok (Value.tuple #[Value.agg #[Value.string ⟨#[]⟩, Value.slice none 0 0], Value.bool false]) wr at lz
        cases hll : lookF (·.nm) ls nm1 with
        | none =>
          rw [hll] at ll
          rw [resF_none hlz hll] at hrr
          have HRE := Lib.hid hrr
          clear hlz hll hrr en
          go_wp2_with fail
          obtain ⟨W9, e9, hh9, hb9⟩ := end_two HXR.out (.string ⟨#[]⟩) (.slice none 0 0)
          rw [e9]
          obtain ⟨W10, e10⟩ : ∃ W10, W9.alloc (.cells #[(.string ⟨#[]⟩), (.slice none 0 0)] 53) = W10 := ⟨_, rfl⟩
          rw [e10]
          have hs9 : wr.heap.size ≤ W9.heap.size := (hb9 0 (Nat.zero_le _)).size
          have hh10 : W10.heap[rb]? = some (.cells #[(.string ⟨#[]⟩), (.slice none 0 0)] 53 (0, 0)) := by rw [← e10, Below.heap_alloc _ _ _ (by omega)]; exact hh9
          have v0 := (cell_of_row W10 _ 0 _ _ _ hh10).trans rfl
          have v1 := (cell_of_row W10 _ 1 _ _ _ hh10).trans rfl
          have HBD : Below w.heap.size w W10 := by
            rw [← e10]
            exact (HB0.out.trans ((HBR.out.mono HB0.out.size).trans (hb9 _ (by have := HERB.out; omega)))).alloc (by have := HERB.out; omega) _
          exact bodyPost_ret (v := .tuple #[.agg #[(.string ⟨#[]⟩), (.slice none 0 0)], .int .i64 6]) (by simp [results, Tryd.results50, go_sem, v0, v1]) rfl (ResPost.mk (z := none) HRE.out rfl HBD)
        | some x =>
          rw [hll] at ll
          rw [resF_go hlz hll] at hrr
          have hxs := HS.out x (lookF_in hll).1
          have en2 : N + 1 - (k + 1) = n := by omega
          rw [← en2] at hrr
          have HRE := Lib.hid hrr
          clear hlz hll hrr en en2
          go_wp2_with fail
          go_roundw
          case rel => exact ⟨k + 1, x.to, by omega, by go_num, rfl, hxs, HRE, Lib.hid (HBR.out.alloc hzr _)⟩
          case measure => simp [intOf]; omega
    · have en : N + 1 - k = 0 := by omega
      have hrr := HRR.out
      rw [en] at hrr
      have HRE := Lib.hid hrr
      have hkz : ¬ (k : Int) < (N : Int) + 1 := by omega
      clear hrr en
      go_wp2_with fail
      obtain ⟨W9, e9, hh9, hb9⟩ := end_two HXR.out (.string ⟨#[]⟩) (.slice none 0 0)
      rw [e9]
      have v0 : W9.cell? ⟨rb, 0, none⟩ = some (.string ⟨#[]⟩) := (cell_of_row W9 _ 0 _ _ _ hh9).trans rfl
      have v1 : W9.cell? ⟨rb, 1, none⟩ = some (.slice none 0 0) := (cell_of_row W9 _ 1 _ _ _ hh9).trans rfl
      have HBD : Below w.heap.size w W9 := HB0.out.trans ((HBR.out.mono HB0.out.size).trans (hb9 _ (by have := HERB.out; omega)))
      exact bodyPost_ret (v := .tuple #[.agg #[.string ⟨#[]⟩, .slice none 0 0], .int .i64 8]) (by simp [results, Tryd.results50, go_sem, v0, v1]) rfl (ResPost.mk (z := none) HRE.out rfl HBD)
end Go.Proofs.YtlgdilpmdoofiaaDoor
