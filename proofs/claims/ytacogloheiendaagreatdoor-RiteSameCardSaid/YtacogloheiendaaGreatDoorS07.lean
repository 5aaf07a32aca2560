/- names.of: the places of names. (places).resolve: what it returns. names.Resolve: what it returns. NamesZones: the plain law: a zone's name leads to it, a link where its target leads. How many places are still false: plain. Tables in plain Lean: what they hold, and what table.Check says of them. state: an era with its turns; which type it is at a time: plain functions and facts. Abbreviations that come of a format are abbreviations: plain. The laws of states, in plain words. -/
import Derived.Test.YtacogloheiendaaGreatDoorS04
import Derived.Test.YtacogloheiendaaGreatDoorS03
import Derived.Maps.Own
import Derived.Maps.OwnOps
import Derived.Maps.OwnSet
import Derived.Maps.Views
import Derived.StringKeys
import Derived.StillTailTactics
import Derived.Carry
import Derived.Deep.AppendLies
import Derived.Laws.AppendOwn
import Derived.Laws.OwnMore
import Derived.Lib.SliceRun
import Derived.WalkKit
import Derived.Test.YtacogloheiendaaGreatDoorS01
import Derived.Test.YtacogloheiendaaGreatDoorS06
namespace Go.Proofs.YtacogloheiendaaGreatDoor
open Go.RowKit Go.Joins Go.Maps
open Classical
set_option linter.unusedVariables false
set_option linter.unusedSimpArgs false

theorem keyS : Keyed Tryz.prog 9 := string_keyed Tryz.underlying9
/-- an element of a map reads as itself -/
def heldV (v : Value) : Option (DataW Value × List MemPlace) := some (.held v, [])
abbrev zoV (z : Zo) : Value := .agg #[.string z.nm, z.ev]
abbrev kyS (s : ByteArray) : Lit := .string s.data.toList
def DZ (l : List Zo) : DataW Value := l.foldl (fun D z => D.put (kyS z.nm) (.held (zoV z))) (.map [])
def DL (l : List Lk) : DataW Value := l.foldl (fun D x => D.put (kyS x.nm) (.held (.string x.tg))) (.map [])
theorem DZ_snoc (l : List Zo) (z : Zo) : DZ (l ++ [z]) = (DZ l).put (kyS z.nm) (.held (zoV z)) := by unfold DZ; rw [List.foldl_append]; rfl
theorem DL_snoc (l : List Lk) (x : Lk) : DL (l ++ [x]) = (DL l).put (kyS x.nm) (.held (.string x.tg)) := by unfold DL; rw [List.foldl_append]; rfl
theorem ownsMap_keep {W W' : World} {b n : Nat} {D : DataW Value} (h : W.ownsMap Tryz.prog 9 heldV b n D) (hk : W'.heap[b]? = W.heap[b]?) : W'.ownsMap Tryz.prog 9 heldV b n D := by
  obtain ⟨es, clock, hb, r⟩ := h
  exact ⟨es, clock, hk.trans hb, r⟩
/-- the places: two maps behind a box -/
structure PlAt (B : Nat) (W : World) (pb bz bl nz nl : Nat) (zs : List Zo) (ls : List Lk) : Prop where
  bx : W.heap[pb]? = some (.cells #[.map (some bz), .map (some bl)] 129 (0, 0))
  z : W.ownsMap Tryz.prog 9 heldV bz nz (DZ zs)
  l : W.ownsMap Tryz.prog 9 heldV bl nl (DL ls)
  hp : B ≤ pb
  hz : B ≤ bz
  hl : B ≤ bl
theorem PlAt.below {B B' : Nat} {W W' : World} {pb bz bl nz nl : Nat} {zs : List Zo} {ls : List Lk} (h : PlAt B W pb bz bl nz nl zs ls) (hb : Below B' W W') (hB : W.heap.size ≤ B') : PlAt B W' pb bz bl nz nl zs ls := by
  have h1 : pb < W.heap.size := (Array.getElem?_eq_some_iff.mp h.bx).1
  exact ⟨(hb.block pb (by omega)).trans h.bx, ownsMap_keep h.z (hb.block bz (by have := h.z.lt; omega)), ownsMap_keep h.l (hb.block bl (by have := h.l.lt; omega)), h.hp, h.hz, h.hl⟩
theorem PlAt.cells {B : Nat} {W : World} {pb bz bl nz nl : Nat} {zs : List Zo} {ls : List Lk} (h : PlAt B W pb bz bl nz nl zs ls) : W.cell? ⟨pb, 0, none⟩ = some (.map (some bz)) ∧ W.cell? ⟨pb, 1, none⟩ = some (.map (some bl)) ∧ pb < W.heap.size :=
  ⟨(cell_of_row W _ 0 _ _ _ h.bx).trans rfl, (cell_of_row W _ 1 _ _ _ h.bx).trans rfl, (Array.getElem?_eq_some_iff.mp h.bx).1⟩
def OfPost (b : Bk) (w : World) (e : Ending) (w' : World) : Prop :=
  Below w.heap.size w w' ∧ (bkChk b ≠ 0 → e = .returned (.tuple #[.pointer none, .int .i64 (bkChk b)])) ∧
  (bkChk b = 0 → ∃ pb bz bl nz nl, e = .returned (.tuple #[.pointer (some ⟨pb, 0, none⟩), .int .i64 0]) ∧ PlAt w.heap.size w' pb bz bl nz nl b.zones b.links ∧ nl ≤ 1000 ∧ nz ≤ 1000)
theorem BookAt.baseN {B B' : Nat} {W : World} {rv zv lv : Value} {b : Bk} (h : BookAt B W rv zv lv b) (hB : B ≤ B') : BookAt B' W rv zv lv b :=
  ⟨h.r.mono hB, h.z.mono hB, fun z hz => (h.e z hz).mono hB, h.l.mono hB, h.rs, h.zs, h.ls⟩
theorem take_succN {α : Type} (l : List α) (k : Nat) (h : k < l.length) : l.take (k + 1) = l.take k ++ [l[k]] := List.take_succ_eq_append_getElem h
theorem bk_len {b : Bk} (h : bkChk b = 0) : b.rules.length ≤ 40 ∧ b.zones.length ≤ 20 ∧ b.links.length ≤ 20 := by
  unfold bkChk at h
  split at h
  · cases h
  · omega

set_option maxRecDepth 100000 in
set_option maxHeartbeats 4000000 in
theorem namesOf_any (b : Bk) (rv zv lv : Value) (w : World) (hB : BookAt w.heap.size w rv zv lv b) (hm : MaxLen w) (ht : Tab10 w) :
    Calls Tryz.prog 47 #[.agg #[rv, zv, lv]] w (OfPost b w) := by
  have hr := hB.r
  have hz := hB.z
  have hl := hB.l
  obtain ⟨p1, c1, rfl, hlen1, hrow1⟩ := hr
  obtain ⟨p2, c2, rfl, hlen2, hrow2⟩ := hz
  obtain ⟨p3, c3, rfl, hlen3, hrow3⟩ := hl
  obtain ⟨W0, eW⟩ : ∃ W0, w.alloc (.cells #[.slice p1 b.rules.length c1, .slice p2 b.zones.length c2, .slice p3 b.links.length c3] 32) = W0 := ⟨_, rfl⟩
  have hb0 : Below w.heap.size w W0 := by rw [← eW]; exact (Below.refl _ _).alloc (Nat.le_refl _) _
  have hbx : W0.heap[w.heap.size]? = some (.cells #[.slice p1 b.rules.length c1, .slice p2 b.zones.length c2, .slice p3 b.links.length c3] 32 (0, 0)) := by rw [← eW]; exact heap_alloc_new w _
  have hl0 : w.heap.size < W0.heap.size := by rw [← eW]; simp
  have x0 := (cell_of_row W0 _ 0 _ _ _ hbx).trans rfl
  have x1 := (cell_of_row W0 _ 1 _ _ _ hbx).trans rfl
  have x2 := (cell_of_row W0 _ 2 _ _ _ hbx).trans rfl
  have HEW := Lib.hid eW
  have HB0 := Lib.hid hb0
  have HBX := Lib.hid hbx
  have HBK := Lib.hid hB
  have HCK := Lib.hid (bkCheck_any b _ _ _ W0 ((hB.below hb0 (Nat.le_refl _)).baseN (Nat.le_of_lt hl0)) (hm.below hb0) (ht.below hb0))
  have HLN := Lib.hid (bk_len (b := b))
  have HRZ := Lib.hid hB.z
  have HRL := Lib.hid hB.l
  have HSZ := Lib.hid hB.zs
  have HSL := Lib.hid hB.ls
  have HEV := Lib.hid hB.e
  have HPOST : Hid (∀ e w', OfPost b w e w' = (Below w.heap.size w w' ∧ (bkChk b ≠ 0 → e = .returned (.tuple #[.pointer none, .int .i64 (bkChk b)])) ∧ (bkChk b = 0 → ∃ pb bz bl nz nl, e = .returned (.tuple #[.pointer (some ⟨pb, 0, none⟩), .int .i64 0]) ∧ PlAt w.heap.size w' pb bz bl nz nl b.zones b.links ∧ nl ≤ 1000 ∧ nz ≤ 1000))) := fun e w' => rfl
  obtain ⟨C, eC⟩ : ∃ C, bkChk b = C := ⟨_, rfl⟩
  rw [eC] at HCK HLN HPOST
  clear eW hb0 hbx hB hm ht hrow1 hrow2 hrow3 eC
  go_enter Tryz.func47, Tryz.ntmps47
  go_upto_region 1 with fail
  rw [HEW.out]
  go_wp2_with fail
  refine HCK.out.mono ?_
  rintro e w1 ⟨rfl, hb1⟩
  have HB1 := Lib.hid (HB0.out.trans (hb1.mono HB0.out.size))
  have hx1 := (hb1.block w.heap.size hl0).trans HBX.out
  have HBX1 := Lib.hid hx1
  have hl1 : w.heap.size < w1.heap.size := by have := hb1.size; omega
  clear hb1 hx1 x0 x1 x2 HCK HBX
  by_cases hC : C = 0
  case neg =>
    have hz : (C == 0) = false := by simpa using hC
    have hz2 : (!C == 0) = true := by rw [hz]; rfl
    have HC := Lib.hid hC
    clear hC
    go_wp2_with fail
    go_ret2
    rw [HPOST.out]
    exact ⟨HB1.out, fun _ => rfl, fun h => absurd h HC.out⟩
  case pos =>
  subst hC
  obtain ⟨hr40, hz20, hl20⟩ := HLN.out rfl
  have hmk : ∀ (ty : TypeId) (W : World), (Instr.makeMap ty none).run Tryz.prog W = .ok (.map (some W.heap.size)) (W.alloc (.map #[] 0)) := fun ty W => run_makeMap ty W
  obtain ⟨W4, e4⟩ : ∃ W4, ((w1.alloc (.map #[] 0)).alloc (.map #[] 0)).alloc (.cells #[.map (some w1.heap.size), .map (some (w1.heap.size + 1))] 129) = W4 := ⟨_, rfl⟩
  have hP4 : PlAt w.heap.size W4 (w1.heap.size + 1 + 1) w1.heap.size (w1.heap.size + 1) 0 0 [] [] := by
    rw [← e4]
    refine ⟨alloc_at _ _ _ (by simp), ?_, ?_, by omega, by omega, by omega⟩
    · exact ownsMap_keep (World.ownsMap_made w1 Tryz.prog 9 heldV) (by rw [Below.heap_alloc _ _ _ (by simp; omega), Below.heap_alloc _ _ _ (by simp)])
    · have := World.ownsMap_made (w1.alloc (.map #[] 0)) Tryz.prog 9 heldV
      rw [show (w1.alloc (.map #[] 0)).heap.size = w1.heap.size + 1 by simp] at this
      exact ownsMap_keep this (by rw [Below.heap_alloc _ _ _ (by simp)])
  have hb4 : Below w1.heap.size w1 W4 := by rw [← e4]; exact (((Below.refl _ _).alloc (Nat.le_refl _) _).alloc (by simp) _).alloc (by simp; omega) _
  have hz4 : W4.heap.size = w1.heap.size + 3 := by rw [← e4]; simp
  have HP4 := Lib.hid hP4
  have HB4 := Lib.hid (HB1.out.trans (hb4.mono (Nat.le_of_lt hl1)))
  have HE4 := Lib.hid e4
  have hx4 := (hb4.block w.heap.size hl1).trans HBX1.out
  have HX4 := Lib.hid hx4
  have hl4 : w.heap.size < W4.heap.size := by omega
  have y1 := (cell_of_row W4 _ 1 _ _ _ hx4).trans rfl
  obtain ⟨pz, cz, ez, -, hrw⟩ := (HRZ.out.below HB4.out (Nat.le_refl _))
  simp only [Value.slice.injEq, true_and] at ez
  obtain ⟨rfl, rfl⟩ := ez
  have HRWZ := Lib.hid hrw
  clear hP4 hb4 e4 hx4 hrw
  go_upto_region 5 with fail
  rw [HE4.out]
  obtain ⟨bz, ebz⟩ : ∃ bz, w1.heap.size = bz := ⟨_, rfl⟩
  rw [ebz] at HP4 hz4 hl1 ⊢
  have HBZ := Lib.hid ebz
  clear ebz
  go_wp2_with fail
  go_loopw [22] (fun i wr => ∃ k : Nat, k ≤ b.zones.length ∧ i = .int .i64 k ∧ Hid (PlAt w.heap.size wr (bz + 1 + 1) bz (bz + 1) k 0 (b.zones.take k) []) ∧ Hid (Below bz W4 wr) ∧ W4.heap.size ≤ wr.heap.size) (fun i _ => b.zones.length - (intOf i).toNat)
  case atStart => exact ⟨0, Nat.zero_le _, rfl, HP4, Lib.hid (Below.refl _ _), Nat.le_refl _⟩
  case round =>
    obtain ⟨k, hk, rfl, HPR, HBR, hzr⟩ := hrel
    by_cases hkl : k < b.zones.length
    · obtain ⟨bb, o, rfl, hbl, hcs⟩ := HRWZ.out (List.ne_nil_of_length_pos (by omega))
      have hck := hcs k hkl
      have hsz := HSZ.out b.zones[k] (List.getElem_mem hkl)
      have hev := HEV.out b.zones[k] (List.getElem_mem hkl)
      have HTK : Hid (b.zones.take (k + 1) = b.zones.take k ++ [b.zones[k]]) := take_succN _ _ hkl
      obtain ⟨q, eq⟩ : ∃ q, b.zones[k] = q := ⟨_, rfl⟩
      rw [eq] at hck hsz HTK hev
      obtain ⟨nm, ev, er⟩ := q
      simp only at hev
      obtain ⟨pe, ce, rfl, -, -⟩ := hev
      have hnm := hsz.1
      have hbb : bb < bz := by omega
      have z0 := (HBR.out.cell (p := ⟨bb, o + k * 2 + 0, none⟩) hbb).trans (hck 0 _ rfl)
      have z1 := (HBR.out.cell (p := ⟨bb, o + k * 2 + 1, none⟩) hbb).trans (hck 1 _ rfl)
      simp only at hnm z0 z1
      rw [Nat.add_zero] at z0
      obtain ⟨W5, e5⟩ : ∃ W5, wr.alloc (.cells #[.string nm, .slice pe er.length ce] 62) = W5 := ⟨_, rfl⟩
      have hx5 : W5.heap[wr.heap.size]? = some (.cells #[.string nm, .slice pe er.length ce] 62 (0, 0)) := by rw [← e5]; exact heap_alloc_new wr _
      have hb5 : Below wr.heap.size wr W5 := by rw [← e5]; exact (Below.refl _ _).alloc (Nat.le_refl _) _
      have hz5 : W5.heap.size = wr.heap.size + 1 := by rw [← e5]; simp
      have HP5 := Lib.hid (HPR.out.below hb5 (Nat.le_refl _))
      have HB5 : Hid (Below bz W4 W5) := HBR.out.trans (hb5.mono (by omega))
      have q0 := (cell_of_row W5 _ 0 _ _ _ hx5).trans rfl
      have q1 := (cell_of_row W5 _ 1 _ _ _ hx5).trans rfl
      obtain ⟨q2, q3, hpb⟩ := HP5.out.cells
      have HE5 := Lib.hid e5
      clear e5 hx5 eq hcs hck hsz
      go_upto_region 8 with fail
      rw [HE5.out]
      go_still_tail 7, (by kernel_rfl)
      change wpList _ _ _ _ _ W5.drew
      refine wpList_mapUpdate_own _ rfl _ _ _ 126 rfl 9 62 keyS Tryz.underlying126 heldV bz k (DZ (b.zones.take k)) rfl HP5.out.z (by unfold maxLen; omega) (.string nm) (.agg #[.string nm, .slice pe er.length ce]) (kyS nm) rfl rfl (Go.WideMaps.keyOf_string_mk Tryz.underlying9 (by unfold maxLen; omega)) (.held (.agg #[.string nm, .slice pe er.length ce])) [] rfl ?_
      intro w6 hown6 hgrow6
      have HP6 : Hid (PlAt w.heap.size w6 (bz + 1 + 1) bz (bz + 1) (k + 1) 0 (b.zones.take (k + 1)) []) := by
        have h5 := HP5.out
        refine ⟨(hgrow6.block (bz + 1 + 1) hpb (by simp; omega)).trans h5.bx, ?_, (World.ownsMap.drew h5.l).kept hgrow6 (by simp), h5.hp, h5.hz, h5.hl⟩
        rw [HTK.out, DZ_snoc]
        exact hown6
      have HB6 : Hid (Below bz W4 w6) := HB5.out.drew.grown hgrow6 (by show bz ≤ W5.heap.size; omega) (fun q hq => by injection hq with hq; omega)
      have hz6 : W4.heap.size ≤ w6.heap.size := by have := hgrow6.size; have h2 : W5.drew.heap.size = W5.heap.size := rfl; omega
      go_wp2_with fail
      go_roundw
      case rel => exact ⟨k + 1, by omega, by go_num, HP6, HB6, hz6⟩
      case measure => simp [intOf]; omega
    · obtain rfl : k = b.zones.length := by omega
      rw [List.take_length] at HPR
      have hbW := HB4.out.trans (HBR.out.mono (by omega))
      obtain ⟨W6, e6⟩ : ∃ W6, wr = W6 := ⟨_, rfl⟩
      rw [e6] at HPR hbW hzr ⊢
      have hx6 := (HBR.out.block w.heap.size hl1).trans HX4.out
      rw [e6] at hx6
      have y2 := (cell_of_row W6 _ 2 _ _ _ hx6).trans rfl
      have hl6 : w.heap.size < W6.heap.size := by omega
      obtain ⟨pz, cz, ez, -, hrw⟩ := (HRL.out.below hbW (Nat.le_refl _))
      simp only [Value.slice.injEq, true_and] at ez
      obtain ⟨rfl, rfl⟩ := ez
      have HRWL := Lib.hid hrw
      have HBW := Lib.hid hbW
      clear hrw hbW hx6 e6 HBR HRL HEV HSZ y1 HX4
      go_wp2_with fail
      go_loopw [37] (fun i wr => ∃ k : Nat, k ≤ b.links.length ∧ i = .int .i64 k ∧ Hid (PlAt w.heap.size wr (bz + 1 + 1) bz (bz + 1) b.zones.length k b.zones (b.links.take k)) ∧ Hid (Below bz W6 wr) ∧ W6.heap.size ≤ wr.heap.size) (fun i _ => b.links.length - (intOf i).toNat)
      case atStart => exact ⟨0, Nat.zero_le _, rfl, HPR, Lib.hid (Below.refl _ _), Nat.le_refl _⟩
      case round =>
        obtain ⟨k, hk, rfl, HPR, HBR, hzr2⟩ := hrel
        by_cases hkl : k < b.links.length
        · obtain ⟨bb, o, rfl, hbl, hcs⟩ := HRWL.out (List.ne_nil_of_length_pos (by omega))
          have hck := hcs k hkl
          have hsz := HSL.out b.links[k] (List.getElem_mem hkl)
          have HTK : Hid (b.links.take (k + 1) = b.links.take k ++ [b.links[k]]) := take_succN _ _ hkl
          obtain ⟨q, eq⟩ : ∃ q, b.links[k] = q := ⟨_, rfl⟩
          rw [eq] at hck hsz HTK
          obtain ⟨nm, tt⟩ := q
          obtain ⟨hnm, htt⟩ := hsz
          have hbb : bb < bz := by omega
          have z0 := (HBR.out.cell (p := ⟨bb, o + k * 2 + 0, none⟩) hbb).trans (hck 0 _ rfl)
          have z1 := (HBR.out.cell (p := ⟨bb, o + k * 2 + 1, none⟩) hbb).trans (hck 1 _ rfl)
          simp only at hnm htt z0 z1
          rw [Nat.add_zero] at z0
          obtain ⟨W5, e5⟩ : ∃ W5, wr.alloc (.cells #[.string nm, .string tt] 66) = W5 := ⟨_, rfl⟩
          have hx5 : W5.heap[wr.heap.size]? = some (.cells #[.string nm, .string tt] 66 (0, 0)) := by rw [← e5]; exact heap_alloc_new wr _
          have hb5 : Below wr.heap.size wr W5 := by rw [← e5]; exact (Below.refl _ _).alloc (Nat.le_refl _) _
          have hz5 : W5.heap.size = wr.heap.size + 1 := by rw [← e5]; simp
          have HP5 := Lib.hid (HPR.out.below hb5 (Nat.le_refl _))
          have HB5 : Hid (Below bz W6 W5) := HBR.out.trans (hb5.mono (by omega))
          have q0 := (cell_of_row W5 _ 0 _ _ _ hx5).trans rfl
          have q1 := (cell_of_row W5 _ 1 _ _ _ hx5).trans rfl
          obtain ⟨q2, q3, hpb⟩ := HP5.out.cells
          have HE5 := Lib.hid e5
          clear e5 hx5 eq hcs hck
          go_upto_region 13 with fail
          rw [HE5.out]
          go_still_tail 8, (by kernel_rfl)
          change wpList _ _ _ _ _ W5.drew
          refine wpList_mapUpdate_own _ rfl _ _ _ 127 rfl 9 9 keyS Tryz.underlying127 heldV (bz + 1) k (DL (b.links.take k)) rfl HP5.out.l (by unfold maxLen; omega) (.string nm) (.string tt) (kyS nm) rfl rfl (Go.WideMaps.keyOf_string_mk Tryz.underlying9 (by unfold maxLen; omega)) (.held (.string tt)) [] rfl ?_
          intro w6 hown6 hgrow6
          have HP6 : Hid (PlAt w.heap.size w6 (bz + 1 + 1) bz (bz + 1) b.zones.length (k + 1) b.zones (b.links.take (k + 1))) := by
            have h5 := HP5.out
            refine ⟨(hgrow6.block (bz + 1 + 1) hpb (by simp)).trans h5.bx, (World.ownsMap.drew h5.z).kept hgrow6 (by simp), ?_, h5.hp, h5.hz, h5.hl⟩
            rw [HTK.out, DL_snoc]
            exact hown6
          have HB6 : Hid (Below bz W6 w6) := HB5.out.drew.grown hgrow6 (by show bz ≤ W5.heap.size; omega) (fun q hq => by injection hq with hq; omega)
          have hz6 : W6.heap.size ≤ w6.heap.size := by have := hgrow6.size; have h2 : W5.drew.heap.size = W5.heap.size := rfl; omega
          go_wp2_with fail
          go_roundw
          case rel => exact ⟨k + 1, by omega, by go_num, HP6, HB6, hz6⟩
          case measure => simp [intOf]; omega
        · obtain rfl : k = b.links.length := by omega
          rw [List.take_length] at HPR
          have HBD := Lib.hid (HBW.out.trans (HBR.out.mono (by omega)))
          go_wp2_with fail
          go_ret2
          rw [HPOST.out]
          exact ⟨HBD.out, fun h => absurd rfl h, fun _ => ⟨_, _, _, _, _, rfl, HPR.out, by omega, by omega⟩⟩
end Go.Proofs.YtacogloheiendaaGreatDoor
namespace Go.Proofs.YtacogloheiendaaGreatDoor
open Go.RowKit Go.Joins Go.Maps
open Classical
set_option linter.unusedVariables false
set_option linter.unusedSimpArgs false

def lookF {α : Type} (key : α → ByteArray) (l : List α) (k : ByteArray) : Option α := l.foldl (fun acc x => if key x = k then some x else acc) none
def Dof {α : Type} (key : α → ByteArray) (val : α → Value) (l : List α) : DataW Value := l.foldl (fun D x => D.put (kyS (key x)) (.held (val x))) (.map [])
theorem kyS_inj {a b : ByteArray} (h : a ≠ b) : kyS a ≠ kyS b := fun e => h (by
  injection e with e
  cases a; cases b; simp_all [Array.toList_inj])
theorem Dof_look {α : Type} (key : α → ByteArray) (val : α → Value) (k : ByteArray) : ∀ (l : List α) (D : DataW Value) (acc : Option α), IsMap D → (has D (kyS k) = acc.isSome ∧ ∀ zd, D.atKey (kyS k) zd = (match acc with | some x => .held (val x) | none => zd)) →
    (has (l.foldl (fun D x => D.put (kyS (key x)) (.held (val x))) D) (kyS k) = (l.foldl (fun acc x => if key x = k then some x else acc) acc).isSome ∧ ∀ zd, (l.foldl (fun D x => D.put (kyS (key x)) (.held (val x))) D).atKey (kyS k) zd = (match l.foldl (fun acc x => if key x = k then some x else acc) acc with | some x => .held (val x) | none => zd)) := by
  intro l
  induction l with
  | nil => intro D acc _ h; exact h
  | cons x r ih =>
    intro D acc hD h
    refine ih _ _ (hD.put _ _) ?_
    dsimp only
    by_cases e : key x = k
    · rw [if_pos e, e]
      exact ⟨has_put_same hD (show WideAt.IsKeyLit (kyS k) from trivial) _, fun zd => atKey_put_same hD (show WideAt.IsKeyLit (kyS k) from trivial) _ _⟩
    · rw [if_neg e]
      have hne : kyS k ≠ kyS (key x) := kyS_inj (fun h => e h.symm)
      refine ⟨(has_put_other hne _).trans h.1, fun zd => (atKey_put_other hne _ _).trans (h.2 zd)⟩
theorem Dof_has {α : Type} (key : α → ByteArray) (val : α → Value) (l : List α) (k : ByteArray) : has (Dof key val l) (kyS k) = (lookF key l k).isSome ∧ ∀ zd, (Dof key val l).atKey (kyS k) zd = (match lookF key l k with | some x => .held (val x) | none => zd) :=
  Dof_look key val k l (.map []) none isMap_empty ⟨rfl, fun zd => rfl⟩
theorem lookF_mem {α : Type} {key : α → ByteArray} {k : ByteArray} : ∀ {l : List α} {acc : Option α} {x : α}, l.foldl (fun acc x => if key x = k then some x else acc) acc = some x → (x ∈ l ∧ key x = k) ∨ acc = some x := by
  intro l
  induction l with
  | nil => intro acc x h; exact .inr h
  | cons y r ih =>
    intro acc x h
    rcases ih h with ⟨h1, h2⟩ | h1
    · exact .inl ⟨List.mem_cons_of_mem _ h1, h2⟩
    · dsimp only at h1
      by_cases e : key y = k
      · rw [if_pos e] at h1
        injection h1 with h1
        subst h1
        exact .inl ⟨List.mem_cons_self .., e⟩
      · rw [if_neg e] at h1; exact .inr h1
theorem lookF_in {α : Type} {key : α → ByteArray} {k : ByteArray} {l : List α} {x : α} (h : lookF key l k = some x) : x ∈ l ∧ key x = k := by
  rcases lookF_mem h with h | h
  · exact h
  · cases h
/-- a name, followed -/
def resF (zs : List Zo) (ls : List Lk) : Nat → ByteArray → Option Zo × Int
  | 0, _ => (none, 8)
  | n + 1, k => match lookF (·.nm) zs k with
    | some z => (some z, 0)
    | none => match lookF (·.nm) ls k with
      | none => (none, 6)
      | some x => resF zs ls n x.tg
def zoVal (z : Option Zo) : Value := match z with | some z => zoV z | none => .agg #[.string ⟨#[]⟩, .slice none 0 0]
theorem zeroZo (W : World) : (zeroValue 62).run Tryz.prog W = .ok (.agg #[.string ⟨#[]⟩, .slice none 0 0]) W := by kernel_rfl
theorem zeroStr (W : World) : (zeroValue 9).run Tryz.prog W = .ok (.string ⟨#[]⟩) W := by kernel_rfl
theorem look_zone {B : Nat} {W : World} {pb bz bl nz nl : Nat} {zs : List Zo} {ls : List Lk} (h : PlAt B W pb bz bl nz nl zs ls) (k : ByteArray) (hk : k.size ≤ maxLen) :
    (Instr.lookup 126 (.map (some bz)) (.string k) true).run Tryz.prog W = .ok (.tuple #[zoVal (lookF (·.nm) zs k), .bool (lookF (·.nm) zs k).isSome]) W := by
  obtain ⟨v, ps, hrun, hv⟩ := h.z.look_ok keyS Tryz.underlying126 (zeroZo W) (zd := .held (.agg #[.string ⟨#[]⟩, .slice none 0 0])) (zp := []) rfl (Go.WideMaps.keyOf_string_mk Tryz.underlying9 hk)
  have hd := Dof_has (·.nm) zoV zs k
  have e : DZ zs = Dof (·.nm) zoV zs := rfl
  rw [e] at hrun hv
  have hv2 : DataW.held v = _ := (congrArg Prod.fst (Option.some.inj hv)).trans (hd.2 _)
  rw [hrun, hd.1]
  clear hrun hv hd e
  cases hl : lookF (·.nm) zs k with
  | none => rw [hl] at hv2; rw [DataW.held.inj hv2]; rfl
  | some z => rw [hl] at hv2; rw [DataW.held.inj hv2]; rfl
theorem look_link {B : Nat} {W : World} {pb bz bl nz nl : Nat} {zs : List Zo} {ls : List Lk} (h : PlAt B W pb bz bl nz nl zs ls) (k : ByteArray) (hk : k.size ≤ maxLen) :
    (Instr.lookup 127 (.map (some bl)) (.string k) true).run Tryz.prog W = .ok (.tuple #[.string (match lookF (·.nm) ls k with | some x => x.tg | none => ⟨#[]⟩), .bool (lookF (·.nm) ls k).isSome]) W := by
  obtain ⟨v, ps, hrun, hv⟩ := h.l.look_ok keyS Tryz.underlying127 (zeroStr W) (zd := .held (.string ⟨#[]⟩)) (zp := []) rfl (Go.WideMaps.keyOf_string_mk Tryz.underlying9 hk)
  have hd := Dof_has (·.nm) (fun x : Lk => .string x.tg) ls k
  have e : DL ls = Dof (·.nm) (fun x : Lk => .string x.tg) ls := rfl
  rw [e] at hrun hv
  have hv2 : DataW.held v = _ := (congrArg Prod.fst (Option.some.inj hv)).trans (hd.2 _)
  rw [hrun, hd.1]
  clear hrun hv hd e
  cases hl : lookF (·.nm) ls k with
  | none => rw [hl] at hv2; rw [DataW.held.inj hv2]
  | some z => rw [hl] at hv2; rw [DataW.held.inj hv2]
theorem resF_z {zs : List Zo} {ls : List Lk} {n : Nat} {k : ByteArray} {z : Zo} (h : lookF (·.nm) zs k = some z) : resF zs ls (n + 1) k = (some z, 0) := by
  rw [resF, h]
theorem resF_none {zs : List Zo} {ls : List Lk} {n : Nat} {k : ByteArray} (h : lookF (·.nm) zs k = none) (h2 : lookF (·.nm) ls k = none) : resF zs ls (n + 1) k = (none, 6) := by
  rw [resF, h, h2]
theorem resF_go {zs : List Zo} {ls : List Lk} {n : Nat} {k : ByteArray} {x : Lk} (h : lookF (·.nm) zs k = none) (h2 : lookF (·.nm) ls k = some x) : resF zs ls (n + 1) k = resF zs ls n x.tg := by
  rw [resF, h, h2]
/-- all zones' eras are slices -/
def EvOk (zs : List Zo) : Prop := ∀ z ∈ zs, ∃ p c, z.ev = .slice p z.eras.length c
def ResPost (R : Option Zo × Int) (w : World) (e : Ending) (w' : World) : Prop := e = .returned (.tuple #[zoVal R.1, .int .i64 R.2]) ∧ Below w.heap.size w w'

theorem end_two {W : World} {rb : Nat} {a b : Value} {T : TypeId} (h : W.heap[rb]? = some (.cells #[a, b] T (0, 0))) (c d : Value) :
    ∃ W', (W.setCell ⟨rb, 0, none⟩ c).setCell ⟨rb, 1, none⟩ d = W' ∧ W'.heap[rb]? = some (.cells #[c, d] T (0, 0)) ∧ ∀ B, B ≤ rb → Below B W W' := by
  refine ⟨_, rfl, ?_, fun B hB => ((Below.refl _ _).setCell hB _).setCell hB _⟩
  simp [World.setCell, Array.getElem?_modify, h]
theorem ResPost.mk {R : Option Zo × Int} {z : Option Zo} {c : Int} {v : Value} {w w' : World} (h : (z, c) = R) (hv : zoVal z = v) (hb : Below w.heap.size w w') : ResPost R w (.returned (.tuple #[v, .int .i64 c])) w' := by
  subst h
  subst hv
  exact ⟨rfl, hb⟩

set_option maxRecDepth 100000 in
set_option maxHeartbeats 4000000 in
theorem resolve_any (B pb bz bl nz nl : Nat) (zs : List Zo) (ls : List Lk) (nm : ByteArray) (w : World) (hP : PlAt B w pb bz bl nz nl zs ls) (hz : EvOk zs) (hs : ∀ x ∈ ls, x.tg.size ≤ 140737488351232) (hn : nm.size ≤ 140737488351232) (hnl : nl ≤ 1000) :
    Calls Tryz.prog 48 #[.pointer (some ⟨pb, 0, none⟩), .string nm] w (ResPost (resF zs ls (Maps.size (DL ls) + 1) nm) w) := by
  obtain ⟨N, eN⟩ : ∃ N, Maps.size (DL ls) = N := ⟨_, rfl⟩
  have hN : N ≤ 1000 := by rw [← eN]; exact Nat.le_trans hP.l.size_le hnl
  rw [eN]
  obtain ⟨R, eR⟩ : ∃ R, resF zs ls (N + 1) nm = R := ⟨_, rfl⟩
  rw [eR]
  have HR := Lib.hid eR
  have hlen : ∀ {B : Nat} {W : World} {pb bz bl nz nl : Nat}, PlAt B W pb bz bl nz nl zs ls → (Builtin.len_ #[127] 3 #[.map (some bl)]).run Tryz.prog W = .ok (.int .i64 N) W := fun h => by rw [← eN]; exact h.l.len Tryz.underlying127 _
  have HLEN := Lib.hid (fun W h => hlen (B := B) (W := W) (pb := pb) (bz := bz) (bl := bl) (nz := nz) (nl := nl) h)
  have HLZ := Lib.hid (fun W k h hk => look_zone (B := B) (W := W) (pb := pb) (bz := bz) (bl := bl) (nz := nz) (nl := nl) (zs := zs) (ls := ls) h k hk)
  have HLL := Lib.hid (fun W k h hk => look_link (B := B) (W := W) (pb := pb) (bz := bz) (bl := bl) (nz := nz) (nl := nl) (zs := zs) (ls := ls) h k hk)
  obtain ⟨W0, eW⟩ : ∃ W0, w.alloc (.cells #[.string ⟨#[]⟩, .slice none 0 0] 62) = W0 := ⟨_, rfl⟩
  have hb0 : Below w.heap.size w W0 := by rw [← eW]; exact (Below.refl _ _).alloc (Nat.le_refl _) _
  have hbx : W0.heap[w.heap.size]? = some (.cells #[.string ⟨#[]⟩, .slice none 0 0] 62 (0, 0)) := by rw [← eW]; exact heap_alloc_new w _
  have hl0 : w.heap.size < W0.heap.size := by rw [← eW]; simp
  have HP0 := Lib.hid (hP.below hb0 (Nat.le_refl _))
  have HEW := Lib.hid eW
  have HB0 := Lib.hid hb0
  have HBX := Lib.hid hbx
  have HZ := Lib.hid hz
  have HS := Lib.hid hs
  have hpw : pb < w.heap.size := hP.cells.2.2
  obtain ⟨rb, erb⟩ : ∃ rb, w.heap.size = rb := ⟨_, rfl⟩
  rw [erb] at hpw hl0 HBX
  have HERB := Lib.hid erb
  clear eW hb0 hbx hP hz hs eR eN hlen erb
  go_enter Tryz.func48, Tryz.ntmps48
  go_upto_region 1 with fail
  rw [HEW.out, HERB.out]
  obtain ⟨m0, m1, mp⟩ := HP0.out.cells
  have hl := HLEN.out W0 HP0.out
  go_wp2_with fail
  go_loopw [1, 16] (fun v1 i wr => ∃ (k : Nat) (nm' : ByteArray), k ≤ N + 1 ∧ i = .int .i64 k ∧ v1 = .string nm' ∧ nm'.size ≤ 140737488351232 ∧ Hid (resF zs ls (N + 1 - k) nm' = R) ∧ Hid (Below W0.heap.size W0 wr)) (fun _ i _ => N + 1 - (intOf i).toNat)
  case atStart => exact ⟨0, nm, Nat.zero_le _, rfl, rfl, hn, HR, Lib.hid (Below.refl _ _)⟩
  case round =>
    obtain ⟨k, nm1, hk, rfl, rfl, hn1, HRR, HBR⟩ := hrel
    have hzr := HBR.out.size
    have hrb : rb < wr.heap.size := by omega
    have HPW := Lib.hid (HP0.out.below HBR.out (Nat.le_refl _))
    have HXR := Lib.hid ((HBR.out.block rb hl0).trans HBX.out)
    obtain ⟨m0, m1, mp⟩ := HPW.out.cells
    have r0 : wr.cell? ⟨rb, 0, none⟩ = some (.string ⟨#[]⟩) := (cell_of_row wr _ 0 _ _ _ HXR.out).trans rfl
    have r1 : wr.cell? ⟨rb, 1, none⟩ = some (.slice none 0 0) := (cell_of_row wr _ 1 _ _ _ HXR.out).trans rfl
    have f0 : wr.frozen? ⟨rb, 0, none⟩ = false := by simp [World.frozen?, HXR.out]
    have f1 : wr.frozen? ⟨rb, 1, none⟩ = false := by simp [World.frozen?, HXR.out]
    by_cases hkn : k < N + 1
    · obtain ⟨n, en⟩ : ∃ n, N + 1 - k = n + 1 := ⟨N - k, by omega⟩
      have hrr := HRR.out
      rw [en] at hrr
      have hkz : (k : Int) < (N : Int) + 1 := by omega
      have lz := HLZ.out wr nm1 HPW.out (by unfold maxLen; omega)
      have ll := HLL.out (wr.alloc (.cells #[.string ⟨#[]⟩, .slice none 0 0] 62)) nm1 (HPW.out.below ((Below.refl _ _).alloc (Nat.le_refl _) _) (Nat.le_refl _)) (by unfold maxLen; omega)
      cases hlz : lookF (·.nm) zs nm1 with
      | some z =>
        rw [hlz] at lz
        rw [resF_z hlz] at hrr
        obtain ⟨pe, ce, hev⟩ := HZ.out z (lookF_in hlz).1
        obtain ⟨znm, zev, zer⟩ := z
        simp only at hev
        subst hev
        change _ = Result.ok (Value.tuple #[Value.agg #[Value.string znm, Value.slice pe zer.length ce], Value.bool true]) wr at lz
        have HRE := Lib.hid hrr
        clear hlz hrr ll en
        go_wp2_with fail
        obtain ⟨W9, e9, hh9, hb9⟩ := end_two HXR.out (.string znm) (.slice pe zer.length ce)
        rw [e9]
        obtain ⟨W10, e10⟩ : ∃ W10, W9.alloc (.cells #[(.string znm), (.slice pe zer.length ce)] 62) = W10 := ⟨_, rfl⟩
        rw [e10]
        have hs9 : wr.heap.size ≤ W9.heap.size := (hb9 0 (Nat.zero_le _)).size
        have hh10 : W10.heap[rb]? = some (.cells #[(.string znm), (.slice pe zer.length ce)] 62 (0, 0)) := by rw [← e10, Below.heap_alloc _ _ _ (by omega)]; exact hh9
        have v0 := (cell_of_row W10 _ 0 _ _ _ hh10).trans rfl
        have v1 := (cell_of_row W10 _ 1 _ _ _ hh10).trans rfl
        have HBD : Below w.heap.size w W10 := by
          rw [← e10]
          exact (HB0.out.trans ((HBR.out.mono HB0.out.size).trans (hb9 _ (by have := HERB.out; omega)))).alloc (by have := HERB.out; omega) _
        exact bodyPost_ret (v := .tuple #[.agg #[(.string znm), (.slice pe zer.length ce)], .int .i64 0]) (by simp [results, Tryz.results48, go_sem, v0, v1]) rfl (ResPost.mk (z := some ⟨znm, .slice pe zer.length ce, zer⟩) HRE.out rfl HBD)
      | none =>
        rw [hlz] at lz
        change _ = Result.ok (Value.tuple #[Value.agg #[Value.string ⟨#[]⟩, Value.slice none 0 0], Value.bool false]) wr at lz
        cases hll : lookF (·.nm) ls nm1 with
        | none =>
          rw [hll] at ll
          rw [resF_none hlz hll] at hrr
          have HRE := Lib.hid hrr
          clear hlz hll hrr en
          go_wp2_with fail
          obtain ⟨W9, e9, hh9, hb9⟩ := end_two HXR.out (.string ⟨#[]⟩) (.slice none 0 0)
          rw [e9]
          obtain ⟨W10, e10⟩ : ∃ W10, W9.alloc (.cells #[(.string ⟨#[]⟩), (.slice none 0 0)] 62) = W10 := ⟨_, rfl⟩
          rw [e10]
          have hs9 : wr.heap.size ≤ W9.heap.size := (hb9 0 (Nat.zero_le _)).size
          have hh10 : W10.heap[rb]? = some (.cells #[(.string ⟨#[]⟩), (.slice none 0 0)] 62 (0, 0)) := by rw [← e10, Below.heap_alloc _ _ _ (by omega)]; exact hh9
          have v0 := (cell_of_row W10 _ 0 _ _ _ hh10).trans rfl
          have v1 := (cell_of_row W10 _ 1 _ _ _ hh10).trans rfl
          have HBD : Below w.heap.size w W10 := by
            rw [← e10]
            exact (HB0.out.trans ((HBR.out.mono HB0.out.size).trans (hb9 _ (by have := HERB.out; omega)))).alloc (by have := HERB.out; omega) _
          exact bodyPost_ret (v := .tuple #[.agg #[(.string ⟨#[]⟩), (.slice none 0 0)], .int .i64 6]) (by simp [results, Tryz.results48, go_sem, v0, v1]) rfl (ResPost.mk (z := none) HRE.out rfl HBD)
        | some x =>
          rw [hll] at ll
          rw [resF_go hlz hll] at hrr
          have hxs := HS.out x (lookF_in hll).1
          have en2 : N + 1 - (k + 1) = n := by omega
          rw [← en2] at hrr
          have HRE := Lib.hid hrr
          clear hlz hll hrr en en2
          go_wp2_with fail
          go_roundw
          case rel => exact ⟨k + 1, x.tg, by omega, by go_num, rfl, hxs, HRE, Lib.hid (HBR.out.alloc hzr _)⟩
          case measure => simp [intOf]; omega
    · have en : N + 1 - k = 0 := by omega
      have hrr := HRR.out
      rw [en] at hrr
      have HRE := Lib.hid hrr
      have hkz : ¬ (k : Int) < (N : Int) + 1 := by omega
      clear hrr en
      go_wp2_with fail
      obtain ⟨W9, e9, hh9, hb9⟩ := end_two HXR.out (.string ⟨#[]⟩) (.slice none 0 0)
      rw [e9]
      have v0 : W9.cell? ⟨rb, 0, none⟩ = some (.string ⟨#[]⟩) := (cell_of_row W9 _ 0 _ _ _ hh9).trans rfl
      have v1 : W9.cell? ⟨rb, 1, none⟩ = some (.slice none 0 0) := (cell_of_row W9 _ 1 _ _ _ hh9).trans rfl
      have HBD : Below w.heap.size w W9 := HB0.out.trans ((HBR.out.mono HB0.out.size).trans (hb9 _ (by have := HERB.out; omega)))
      exact bodyPost_ret (v := .tuple #[.agg #[.string ⟨#[]⟩, .slice none 0 0], .int .i64 8]) (by simp [results, Tryz.results48, go_sem, v0, v1]) rfl (ResPost.mk (z := none) HRE.out rfl HBD)
end Go.Proofs.YtacogloheiendaaGreatDoor
namespace Go.Proofs.YtacogloheiendaaGreatDoor
open Go.RowKit Go.Joins Go.Maps
open Classical
set_option linter.unusedVariables false
set_option linter.unusedSimpArgs false

abbrev erL (x : Er) : List Value := (erCells x).toList
def erFlat (l : List Er) : List Value := l.flatMap erL
theorem infoEr : (Tryz.prog.info? 54).map (fun i => (i.zero, i.size, i.bytes)) = some (some (.agg #[.int .i64 0, .string ⟨#[]⟩, .int .i64 0, .string ⟨#[]⟩, .int .i64 0]), 5, 56) := by kernel_rfl
theorem undErS : Tryz.prog.underlying 60 = some (.slice 54) := by kernel_rfl
theorem erFlat_len (l : List Er) : (erFlat l).length = l.length * 5 := by
  induction l with
  | nil => rfl
  | cons x r ih =>
    have e : erFlat (x :: r) = erL x ++ erFlat r := by simp [erFlat]
    rw [e, List.length_append, ih]
    simp
    omega
theorem erFlat_get : ∀ (l : List Er) (j : Nat) (u : Value), (erFlat l)[j]? = some u → ∃ i, ∃ h : i < l.length, ∃ m, j = i * 5 + m ∧ (erL l[i])[m]? = some u
  | [], j, u, h => by simp [erFlat] at h
  | x :: r, j, u, h => by
    have e : erFlat (x :: r) = erL x ++ erFlat r := by simp [erFlat]
    rw [e] at h
    by_cases hj : j < 5
    · rw [List.getElem?_append_left (by simpa using hj)] at h
      exact ⟨0, by simp, j, by omega, h⟩
    · rw [List.getElem?_append_right (by simpa using Nat.le_of_not_lt hj)] at h
      obtain ⟨i, hi, m, e1, e2⟩ := erFlat_get r _ u h
      have e3 : (erL x).length = 5 := rfl
      rw [e3] at e1
      exact ⟨i + 1, by simpa using hi, m, by omega, e2⟩
theorem erFlat_one (l : List Er) : ∀ u ∈ erFlat l, u.oneCell' = true := by
  intro u hu
  obtain ⟨x, -, hx⟩ := List.mem_flatMap.1 hu
  simp at hx
  rcases hx with rfl | rfl | rfl | rfl | rfl <;> rfl

set_option maxRecDepth 100000 in
set_option maxHeartbeats 1000000 in
theorem CloneEr_any (l : List Er) (v : Value) (B : Nat) (w : World) (h : RowsAt erL 5 B w v l) (hl : l.length ≤ 1000) :
    Calls Tryz.prog 49 #[v] w fun e w' => ∃ vo, e = .returned vo ∧ w'.ownsRow w.heap.size 54 5 vo l.length (erFlat l) ∧ Below w.heap.size w w' := by
  obtain ⟨p, cap, rfl, hlen, hrow⟩ := h
  have qT : ∀ (W : World) (a : Option Addr) (n c n' c' : Nat), (binOp .eql 60 (.slice a n c) (.slice none n' c')).run Tryz.prog W = .ok (.bool a.isNone) W := fun W a n c n' c' => Lib.run_eql_slice_nil W _ _ a n c n' c' undErS
  cases p with
  | none =>
    have : l = [] := by
      by_cases hn : l = []
      · exact hn
      · obtain ⟨b, o, e, -⟩ := hrow hn; cases e
    subst this
    clear hrow
    go_enter Tryz.func49, Tryz.ntmps49
    go_wp2_with fail
    go_ret
    exact ⟨_, rfl, World.ownsRow_nil _ _ _ _, Below.refl _ _⟩
  | some ad =>
    have hnews : ∀ j u, (erFlat l)[j]? = some u → w.cell? (ad.add j) = some u := by
      intro j u hu
      obtain ⟨i, hi, m, rfl, hm⟩ := erFlat_get l j u hu
      obtain ⟨b, o, e, hlt, hc⟩ := hrow (List.ne_nil_of_length_pos (by omega))
      injection e with e
      subst e
      have := hc i hi m u hm
      rw [Nat.add_assoc] at this
      have e2 : (⟨b, o, none⟩ : Addr).add (i * 5 + m) = ⟨b, o + (i * 5 + m), none⟩ := by
        unfold Addr.add
        split
        · rename_i h0; rw [h0]; rfl
        · rfl
      rw [e2]
      exact this
    have HNW := Lib.hid hnews
    have HFL := Lib.hid (erFlat_len l)
    have HFO := Lib.hid (erFlat_one l)
    obtain ⟨i1, hi1, hz10, hz11, hz12⟩ := info_parts infoEr
    obtain ⟨n, en⟩ : ∃ n, l.length = n := ⟨_, rfl⟩
    rw [en] at hl HFL ⊢
    clear hnews hrow hlen
    go_enter Tryz.func49, Tryz.ntmps49
    have hROW := World.ownsRow_lit (base := w.heap.size) (e := 54) (size := 5) w #[] 0 (Nat.le_refl _) (by decide) rfl
    have HROW := Lib.hid hROW
    have HNEW : Hid (∀ j u, (erFlat l)[j]? = some u → (w.alloc (.cells #[] 54)).cell? (ad.add j) = some u) := by
      show ∀ j u, _
      intro j u hu
      have h1 := HNW.out j u hu
      exact (((Below.refl w.heap.size w).alloc (Nat.le_refl _) (.cells #[] 54)).cell (p := ad.add j) (World.block_lt_of_cell? _ _ h1)).trans h1
    have HML : 0 + n ≤ maxLen := by simp only [maxLen]; omega
    have HMB : (0 + n) * 56 ≤ 140737488355328 := by omega
    have HSZ : w.heap.size ≤ (w.alloc (.cells #[] 54)).heap.size := by simp
    clear hROW
    go_wp2_with (at_builtin; refine wpList_append_own _ rfl _ _ 60 rfl w.heap.size 54 i1 (.agg #[.int .i64 0, .string ⟨#[]⟩, .int .i64 0, .string ⟨#[]⟩, .int .i64 0]) 5 56 undErS hi1 hz10 hz11 hz12 rfl (by decide) _ _ _ rfl HROW.out ad n cap (erFlat l) rfl HFL.out HNEW.out HFO.out HML HMB HSZ ?_; intro v' w10 hown10 hgrow10 _)
    go_ret
    refine ⟨_, rfl, ?_, (((Below.refl _ _).alloc (Nat.le_refl _) _).grown hgrow10 HSZ (fun q hq => (World.ownsRow.lt HROW.out q hq).1))⟩
    have := hown10
    simp only [Nat.zero_add] at this
    exact this
theorem bk_parts {b : Bk} (h : bkChk b = 0) : (∀ i (hi : i < b.zones.length), zoneChk b.rules (b.zones.take i) b.zones[i] = 0) ∧ ∀ i (hi : i < b.links.length), linkChk b (b.links.take i) b.links[i] = 0 := by
  by_cases h0 : 40 < b.rules.length ∨ 20 < b.zones.length ∨ 20 < b.links.length
  · rw [bkChk_2 b h0] at h; cases h
  · by_cases h1 : firstE ruChk b.rules = 0
    · by_cases h2 : firstE (chkZ b) (List.range b.zones.length) = 0
      · rw [bkChk_l b h0 h1 h2] at h
        exact ⟨fun i hi => by rw [← chkZ_at b i hi]; exact (firstE_zero _ _).1 h2 i (List.mem_range.2 hi), fun i hi => by rw [← chkL_at b i hi]; exact (firstE_zero _ _).1 h i (List.mem_range.2 hi)⟩
      · rw [bkChk_z b h0 h1 h2] at h; exact absurd h h2
    · rw [bkChk_r b h0 h1] at h; exact absurd h h1
structure ZoneOk (b : Bk) (i : Nat) (z : Zo) : Prop where
  nm : nameB z.nm = true
  fresh : ∀ y ∈ b.zones.take i, y.nm ≠ z.nm
  ne : z.eras ≠ []
  le : z.eras.length ≤ 700
  er : firstE (eraChk b.rules z.eras) (List.range z.eras.length) = 0
theorem bk_zone {b : Bk} (h : bkChk b = 0) (i : Nat) (hi : i < b.zones.length) : ZoneOk b i b.zones[i] := by
  have hz := (bk_parts h).1 i hi
  unfold zoneChk at hz
  split at hz
  · cases hz
  · rename_i h1
    split at hz
    · cases hz
    · rename_i h2
      split at hz
      · cases hz
      · rename_i h3
        split at hz
        · cases hz
        · rename_i h4
          refine ⟨by simpa using h1, fun y hy e => h2 (List.any_eq_true.2 ⟨y, hy, by simpa using e⟩), h3, by omega, hz⟩
theorem bk_er {b : Bk} (h : bkChk b = 0) {z : Zo} (hz : z ∈ b.zones) : z.eras ≠ [] ∧ z.eras.length ≤ 700 := by
  obtain ⟨i, hi, rfl⟩ := List.mem_iff_getElem.1 hz
  exact ⟨(bk_zone h i hi).ne, (bk_zone h i hi).le⟩

/-- what names.Resolve answers -/
def rsv (b : Bk) (nm : ByteArray) : Option Zo × Int := if bkChk b ≠ 0 then (none, bkChk b) else resF b.zones b.links (Maps.size (DL b.links) + 1) nm
def zNm (z : Option Zo) : ByteArray := match z with | some z => z.nm | none => ⟨#[]⟩
def zEr (z : Option Zo) : List Er := match z with | some z => z.eras | none => []
def RsvPost (R : Option Zo × Int) (w : World) (e : Ending) (w' : World) : Prop :=
  ∃ vo, e = .returned (.tuple #[.agg #[.string (zNm R.1), vo], .int .i64 R.2]) ∧ w'.ownsRow w.heap.size 54 5 vo (zEr R.1).length (erFlat (zEr R.1)) ∧ Below w.heap.size w w'
theorem rsv_bad {b : Bk} {nm : ByteArray} (h : bkChk b ≠ 0) : rsv b nm = (none, bkChk b) := by unfold rsv; rw [if_pos h]
theorem rsv_go {b : Bk} {nm : ByteArray} (h : bkChk b = 0) : rsv b nm = resF b.zones b.links (Maps.size (DL b.links) + 1) nm := by unfold rsv; rw [if_neg (fun g => g h)]
theorem resF_in {zs : List Zo} {ls : List Lk} : ∀ {n : Nat} {k : ByteArray} {z : Zo} {c : Int}, resF zs ls n k = (some z, c) → z ∈ zs ∧ c = 0 := by
  intro n
  induction n with
  | zero => intro k z c h; cases h
  | succ n ih =>
    intro k z c h
    rw [resF] at h
    split at h
    · rename_i z2 e
      cases h
      exact ⟨(lookF_in e).1, rfl⟩
    · split at h
      · cases h
      · exact ih h
end Go.Proofs.YtacogloheiendaaGreatDoor
namespace Go.Proofs.YtacogloheiendaaGreatDoor
open Go.RowKit Go.Joins Go.Maps
open Classical
set_option linter.unusedVariables false
set_option linter.unusedSimpArgs false

section
variable {α : Type} {key : α → ByteArray}
theorem lookF_keep {k : ByteArray} : ∀ (l : List α) (x : α), (l.foldl (fun acc x => if key x = k then some x else acc) (some x)).isSome = true
  | [], x => rfl
  | y :: r, x => by
    rw [List.foldl_cons]
    by_cases h : key y = k
    · rw [if_pos h]; exact lookF_keep r y
    · rw [if_neg h]; exact lookF_keep r x
theorem lookF_has {k : ByteArray} : ∀ (l : List α) (acc : Option α), (∃ x ∈ l, key x = k) → (l.foldl (fun acc x => if key x = k then some x else acc) acc).isSome = true
  | [], acc, h => by obtain ⟨x, hx, -⟩ := h; cases hx
  | y :: r, acc, h => by
    rw [List.foldl_cons]
    by_cases hy : key y = k
    · rw [if_pos hy]; exact lookF_keep r y
    · rw [if_neg hy]
      obtain ⟨x, hx, e⟩ := h
      rcases List.mem_cons.1 hx with rfl | hx
      · exact absurd e hy
      · exact lookF_has r acc ⟨x, hx, e⟩
theorem lookF_uniq {l : List α} (hu : ∀ x ∈ l, ∀ y ∈ l, key x = key y → x = y) {x : α} (hx : x ∈ l) : lookF key l (key x) = some x := by
  have h := lookF_has (key := key) (k := key x) l none ⟨x, hx, rfl⟩
  cases e : lookF key l (key x) with
  | none => unfold lookF at e; rw [e] at h; cases h
  | some y =>
    obtain ⟨hy, hk⟩ := lookF_in e
    rw [hu y hy x hx hk]
theorem uniq_of {l : List α} (h : ∀ i (hi : i < l.length), ∀ y ∈ l.take i, key y ≠ key l[i]) : ∀ x ∈ l, ∀ y ∈ l, key x = key y → x = y := by
  intro x hx y hy e
  obtain ⟨i, hi, rfl⟩ := List.mem_iff_getElem.1 hx
  obtain ⟨j, hj, rfl⟩ := List.mem_iff_getElem.1 hy
  rcases Nat.lt_trichotomy i j with hij | hij | hij
  · exact absurd e (h j hj _ (List.mem_take_iff_getElem.2 ⟨i, by omega, rfl⟩))
  · subst hij; rfl
  · exact absurd e.symm (h i hi _ (List.mem_take_iff_getElem.2 ⟨j, by omega, rfl⟩))
end
theorem zones_uniq {b : Bk} (h : bkChk b = 0) : ∀ x ∈ b.zones, ∀ y ∈ b.zones, x.nm = y.nm → x = y := uniq_of (key := fun z : Zo => z.nm) fun i hi => (bk_zone h i hi).fresh
theorem rsv_zone {b : Bk} (h : bkChk b = 0) {z : Zo} (hz : z ∈ b.zones) : rsv b z.nm = (some z, 0) := by
  rw [rsv_go h]
  exact resF_z (lookF_uniq (key := fun z : Zo => z.nm) (zones_uniq h) hz)

end Go.Proofs.YtacogloheiendaaGreatDoor
namespace Go.Proofs.YtacogloheiendaaGreatDoor
set_option linter.unusedVariables false
set_option linter.unusedSimpArgs false

/-- how many places below n are still false -/
def cntF (p : Nat → Bool) (n : Nat) : Nat := (List.range n).countP (fun i => !p i)

theorem cntF_boundary (p : Nat → Bool) (n h : Nat) (hn : h ≤ n) (h1 : ∀ t, t < h → p t = false) (h2 : ∀ t, h ≤ t → t < n → p t = true) : cntF p n = h := by
  unfold cntF
  induction n with
  | zero => simp; omega
  | succ n ih =>
    rw [List.range_succ, List.countP_append]
    by_cases e : h = n + 1
    · subst e
      have : (List.range n).countP (fun i => !p i) = n := by
        have hall : ∀ i ∈ List.range n, (fun i => !p i) i = true := fun i hi => by
          have := h1 i (by have := List.mem_range.1 hi; omega)
          simp [this]
        rw [List.countP_eq_length.2 hall]; simp
      rw [this]; simp [h1 n (by omega)]
    · rw [ih (by omega) (fun t ht htn => h2 t ht (by omega))]
      simp [h2 n (by omega) (by omega)]
end Go.Proofs.YtacogloheiendaaGreatDoor
namespace Go.Proofs.YtacogloheiendaaGreatDoor
open Go.RowKit
set_option linter.unusedVariables false

structure Ty where
  off : Int
  save : Bool
  name : ByteArray
abbrev tyV (x : Ty) : Value := .agg #[.int .i64 x.off, .bool x.save, .string x.name]
def before (prev : Option Int) (x : Int) : Bool := match prev with
  | some p => decide (x ≤ p)
  | none => false

end Go.Proofs.YtacogloheiendaaGreatDoor
namespace Go.Proofs.YtacogloheiendaaGreatDoor
open Go.RowKit Go.Joins Go.Maps
open Classical
set_option linter.unusedVariables false
set_option linter.unusedSimpArgs false

/-- an era with its turns, and the letter ahead of them -/
structure Td where
  er : Er
  ts : List Tn
  fst : ByteArray
def dashB : ByteArray := ⟨#[45]⟩
def fstK (l : List Tn) : Nat := l.findIdx fun u => decide (u.s = 0)
def firstLt (l : List Tn) : ByteArray := (l[fstK l]?.map (·.lt)).getD dashB
def tdE (rules : List Ru) (x : Er) : Int := if x.ru.data.toList = [] then 0 else (mkR rules x.ru x.off).1
def tdR (rules : List Ru) (x : Er) : Td := if x.ru.data.toList = [] then ⟨x, [], dashB⟩ else ⟨x, (mkR rules x.ru x.off).2, firstLt (mkR rules x.ru x.off).2⟩
theorem tdR_er (rules : List Ru) (x : Er) : (tdR rules x).er = x := by unfold tdR; split <;> rfl
def tnA (l : List Tn) (i : Nat) : Int := (l[i]?.map (·.a)).getD 0
/-- how many turns there are up to a time -/
def cntT (l : List Tn) (t : Int) : Nat := cntF (fun i => decide (t < tnA l i)) l.length
def svT (x : Td) (t : Int) : Int × ByteArray := match x.ts[cntT x.ts t - 1]? with
  | some u => if cntT x.ts t = 0 then (x.er.sv, x.fst) else (u.s, u.lt)
  | none => (x.er.sv, x.fst)
def nmT (x : Td) (t : Int) : ByteArray := txt (abbrF x.er.fm.data.toList (svT x t).1 (svT x t).2.data.toList).1
def tdTy (x : Td) (t : Int) : Ty := ⟨x.er.off + (svT x t).1, decide (0 < (svT x t).1), nmT x t⟩
def whichF (l : List Er) (t : Int) : Nat := cntF (fun i => decide (t < (eraAt l i).un)) (l.length - 1)
def ty0 : Ty := ⟨0, false, ⟨#[]⟩⟩
/-- what state.At answers -/
def stR (b : Bk) (nm : ByteArray) (t : Int) : Int × Ty :=
  match (rsv b nm).1 with
  | none => ((rsv b nm).2, ty0)
  | some z => if stampE t ≠ 0 then (stampE t, ty0) else
    if tdE b.rules (eraAt z.eras (whichF z.eras t)) ≠ 0 then (tdE b.rules (eraAt z.eras (whichF z.eras t)), ty0) else (0, tdTy (tdR b.rules (eraAt z.eras (whichF z.eras t))) t)

theorem bnd_ex (p : Nat → Bool) : ∀ (n : Nat), (∀ a b, a ≤ b → b < n → p a = true → p b = true) → ∃ h, h ≤ n ∧ (∀ t, t < h → p t = false) ∧ (∀ t, h ≤ t → t < n → p t = true)
  | 0, _ => ⟨0, Nat.le_refl _, fun t h => absurd h (Nat.not_lt_zero _), fun t _ h => absurd h (Nat.not_lt_zero _)⟩
  | n + 1, hm => by
    obtain ⟨h, h1, h2, h3⟩ := bnd_ex p n fun a b hab hb => hm a b hab (by omega)
    by_cases e : p n = true
    · exact ⟨h, by omega, h2, fun t ht htn => by
        by_cases ht2 : t = n
        · rw [ht2]; exact e
        · exact h3 t ht (by omega)⟩
    · refine ⟨n + 1, Nat.le_refl _, fun t ht => ?_, fun t h4 h5 => by omega⟩
      cases ep : p t with
      | false => rfl
      | true => exact absurd (hm t n (by omega) (by omega) ep) e
theorem cntF_spec (p : Nat → Bool) (n : Nat) (hm : ∀ a b, a ≤ b → b < n → p a = true → p b = true) : cntF p n ≤ n ∧ (∀ i, i < cntF p n → p i = false) ∧ ∀ i, cntF p n ≤ i → i < n → p i = true := by
  obtain ⟨h, h1, h2, h3⟩ := bnd_ex p n hm
  rw [cntF_boundary p n h h1 h2 h3]
  exact ⟨h1, h2, h3⟩
theorem cntF_leN (p : Nat → Bool) (n : Nat) : cntF p n ≤ n := by
  unfold cntF
  have := List.countP_le_length (p := fun i => !p i) (l := List.range n)
  simpa using this
theorem rises_mono {l : List Tn} (h : Rises l) : ∀ (j i : Nat) (hij : i < j) (hj : j < l.length), (l[i]'(by omega)).a < l[j].a
  | 0, i, hi, _ => absurd hi (Nat.not_lt_zero _)
  | j + 1, i, hi, hj => by
    have h1 := h j hj
    by_cases e : i = j
    · subst e; exact h1
    · have h2 := rises_mono h j i (by omega) (by omega)
      omega
theorem tnA_at (l : List Tn) (i : Nat) (h : i < l.length) : tnA l i = l[i].a := by unfold tnA; rw [List.getElem?_eq_getElem h]; rfl
theorem tnA_mono {l : List Tn} (h : Rises l) (i j : Nat) (hij : i ≤ j) (hj : j < l.length) : tnA l i ≤ tnA l j := by
  rw [tnA_at l j hj, tnA_at l i (by omega)]
  by_cases e : i = j
  · subst e; exact Int.le_refl _
  · exact Int.le_of_lt (rises_mono h j i (by omega) hj)
theorem cntT_mono {l : List Tn} (h : Rises l) (t : Int) : ∀ a b, a ≤ b → b < l.length → decide (t < tnA l a) = true → decide (t < tnA l b) = true := fun a b hab hb hp => by
  have := tnA_mono h a b hab hb
  simp only [decide_eq_true_eq] at *
  omega
theorem cntT_spec {l : List Tn} (h : Rises l) (t : Int) : cntT l t ≤ l.length ∧ (∀ i, i < cntT l t → tnA l i ≤ t) ∧ ∀ i, cntT l t ≤ i → i < l.length → t < tnA l i := by
  obtain ⟨h1, h2, h3⟩ := cntF_spec _ _ (cntT_mono h t)
  exact ⟨h1, fun i hi => by have := h2 i hi; simpa using this, fun i hi hl => by have := h3 i hi hl; simpa using this⟩
theorem cntT_le (l : List Tn) (t : Int) : cntT l t ≤ l.length := cntF_leN _ _
theorem svT_0 {x : Td} {t : Int} (h : cntT x.ts t = 0) : svT x t = (x.er.sv, x.fst) := by
  unfold svT
  split
  · rw [if_pos h]
  · rfl
theorem svT_s {x : Td} {t : Int} (h : cntT x.ts t ≠ 0) : ∃ h2 : cntT x.ts t - 1 < x.ts.length, svT x t = (x.ts[cntT x.ts t - 1].s, x.ts[cntT x.ts t - 1].lt) := by
  have := cntT_le x.ts t
  have h2 : cntT x.ts t - 1 < x.ts.length := by omega
  refine ⟨h2, ?_⟩
  unfold svT
  rw [List.getElem?_eq_getElem h2]
  dsimp only
  rw [if_neg h]

theorem outF_mem (off : Int) : ∀ (S : List (Int × Ru)) (save : Int) (last : Option Int) (l : List Tn), outF off save last S = some l → ∀ u ∈ l, ∃ x ∈ S, u.s = x.2.sv ∧ u.lt = x.2.lt
  | [], save, last, l, h, u, hu => by
    simp only [outF, Option.some.injEq] at h
    subst h
    cases hu
  | x :: r, save, last, l, h, u, hu => by
    obtain ⟨h1, t, h2, rfl⟩ := outF_some h
    rcases List.mem_cons.1 hu with rfl | hu
    · exact ⟨x, List.mem_cons_self .., rfl, rfl⟩
    · obtain ⟨y, hy, e⟩ := outF_mem off r _ _ t h2 u hu
      exact ⟨y, List.mem_cons_of_mem _ hy, e⟩
theorem noms_mem {D : Ru → Int → Int} {rules : List Ru} {nm : ByteArray} {x : Int × Ru} (h : x ∈ nomsOf D rules nm) : x.2 ∈ rules ∧ x.2.nm = nm := by
  obtain ⟨r, hr, hx⟩ := List.mem_flatMap.1 h
  obtain ⟨i, -, rfl⟩ := List.mem_map.1 hx
  have := List.mem_filter.1 hr
  exact ⟨this.1, by simpa using this.2⟩
theorem mkR_mem {rules : List Ru} {nm : ByteArray} {off : Int} {u : Tn} (h : u ∈ (mkR rules nm off).2) : ∃ r ∈ rules, r.nm = nm ∧ u.s = r.sv ∧ u.lt = r.lt := by
  by_cases h0 : (mkR rules nm off).1 = 0
  · obtain ⟨x, hx, e⟩ := outF_mem off _ 0 none _ (mkR_ok h0) u h
    have hx2 : x ∈ nomsOf dayN rules nm := (List.mergeSort_perm _ _).mem_iff.1 hx
    obtain ⟨h1, h2⟩ := noms_mem hx2
    exact ⟨x.2, h1, h2, e⟩
  · have : (mkR rules nm off).2 = [] := by
      unfold mkR at h0 ⊢
      split
      · rfl
      · split
        · rfl
        · rename_i h1 h2
          rw [if_neg h1, if_neg h2] at h0
          cases e : outF off 0 none (srt (nomsOf dayN rules nm)) with
          | none => rfl
          | some l => rw [e] at h0; exact absurd rfl h0
    rw [this] at h
    cases h
theorem mkR_rises {rules : List Ru} {nm : ByteArray} {off : Int} (h0 : (mkR rules nm off).1 = 0) : Rises (mkR rules nm off).2 := (outF_rise off _ 0 none _ (mkR_ok h0)).2
theorem tdR_rises {rules : List Ru} {x : Er} (h : tdE rules x = 0) : Rises (tdR rules x).ts := by
  unfold tdE at h
  unfold tdR
  by_cases hr : x.ru.data.toList = []
  · rw [if_pos hr]; intro i hi; exact absurd hi (Nat.not_lt_zero _)
  · rw [if_neg hr] at h ⊢
    exact mkR_rises h
theorem firstLt_of (l : List Tn) : firstLt l = dashB ∨ ∃ u ∈ l, u.s = 0 ∧ firstLt l = u.lt := by
  unfold firstLt
  cases h : l[fstK l]? with
  | none => exact .inl rfl
  | some u =>
    obtain ⟨hlt, e⟩ := List.getElem?_eq_some_iff.1 h
    refine .inr ⟨u, e ▸ List.getElem_mem _, ?_, rfl⟩
    have := List.findIdx_getElem (p := fun u : Tn => decide (u.s = 0)) (xs := l) (w := hlt)
    have h3 : l[fstK l].s = 0 := of_decide_eq_true this
    rw [← e]; exact h3

structure EraOk (rules : List Ru) (x : Er) : Prop where
  o1 : -64800 ≤ x.off
  o2 : x.off ≤ 64800
  s1 : 0 ≤ x.sv
  s2 : x.sv ≤ 10800
  sr : x.ru.data.toList ≠ [] → x.sv = 0
  has : x.ru.data.toList ≠ [] → ∃ r ∈ rules, r.nm = x.ru
  ab : abbrsChk rules x = 0
theorem eraChk_ok {rules : List Ru} {l : List Er} {k : Nat} (h : eraChk rules l k = 0) : EraOk rules (eraAt l k) ∧ (k + 1 ≠ l.length → -1099511627776 ≤ (eraAt l k).un ∧ (eraAt l k).un ≤ 1099511627776 ∧ stampE (eraAt l k).un = 0 ∧ (0 < k → (eraAt l (k - 1)).un < (eraAt l k).un)) ∧ (k + 1 = l.length → (eraAt l k).un = 0) := by
  unfold eraChk at h
  dsimp only at h
  split at h
  · cases h
  · rename_i h1
    split at h
    · cases h
    · rename_i h2
      split at h
      · cases h
      · rename_i h3
        split at h
        · exact absurd h (by assumption)
        · rename_i h4
          refine ⟨⟨by omega, by omega, by omega, by omega, fun hr => ?_, fun hr => ?_, Classical.not_not.1 h4⟩, fun hk => ?_, fun hk => ?_⟩
          · exact Classical.byContradiction fun hs => h2 ⟨hs, hr⟩
          · have : ¬ (rules.any fun r => decide (r.nm = (eraAt l k).ru)) = false := fun g => h3 ⟨hr, g⟩
            have : (rules.any fun r => decide (r.nm = (eraAt l k).ru)) = true := by simpa using this
            obtain ⟨r, hr, e⟩ := List.any_eq_true.1 this
            exact ⟨r, hr, of_decide_eq_true e⟩
          · rw [if_neg hk] at h
            split at h
            · cases h
            · rename_i h5
              split at h
              · exact absurd h (by assumption)
              · rename_i h6
                split at h
                · cases h
                · rename_i h7
                  refine ⟨by omega, by omega, Classical.not_not.1 h6, fun h0 => ?_⟩
                  omega
          · rw [if_pos hk] at h
            exact Classical.byContradiction fun g => by rw [if_pos g] at h; cases h
theorem eraAt_in (l : List Er) (k : Nat) (h : k < l.length) : eraAt l k = l[k] := by unfold eraAt; rw [List.getElem?_eq_getElem h]; rfl
structure ErasOk (rules : List Ru) (l : List Er) : Prop where
  ne : l ≠ []
  le : l.length ≤ 700
  ok : ∀ x ∈ l, EraOk rules x
  un : ∀ k, k + 1 < l.length → -1099511627776 ≤ (eraAt l k).un ∧ (eraAt l k).un ≤ 1099511627776 ∧ stampE (eraAt l k).un = 0
  rise : ∀ k, k + 2 < l.length → (eraAt l k).un < (eraAt l (k + 1)).un
  last : (eraAt l (l.length - 1)).un = 0
theorem bk_eras {b : Bk} (h : bkChk b = 0) {z : Zo} (hz : z ∈ b.zones) : ErasOk b.rules z.eras := by
  obtain ⟨i, hi, rfl⟩ := List.mem_iff_getElem.1 hz
  have hzo := bk_zone h i hi
  have he : ∀ k, k < b.zones[i].eras.length → eraChk b.rules b.zones[i].eras k = 0 := fun k hk => (firstE_zero _ _).1 hzo.er k (List.mem_range.2 hk)
  have hp : 0 < b.zones[i].eras.length := List.length_pos_iff.2 hzo.ne
  refine ⟨hzo.ne, hzo.le, fun x hx => ?_, fun k hk => ?_, fun k hk => ?_, ?_⟩
  · obtain ⟨k, hk, rfl⟩ := List.mem_iff_getElem.1 hx
    rw [← eraAt_in _ _ hk]
    exact (eraChk_ok (he k hk)).1
  · obtain ⟨a, b, c, -⟩ := (eraChk_ok (he k (by omega))).2.1 (by omega)
    exact ⟨a, b, c⟩
  · have := ((eraChk_ok (he (k + 1) (by omega))).2.1 (by omega)).2.2.2 (by omega)
    simpa using this
  · exact (eraChk_ok (he _ (by omega))).2.2 (by omega)
theorem eras_mono {rules : List Ru} {l : List Er} (h : ErasOk rules l) : ∀ (j i : Nat), i < j → j + 1 < l.length → (eraAt l i).un < (eraAt l j).un
  | 0, i, hi, _ => absurd hi (Nat.not_lt_zero _)
  | j + 1, i, hi, hj => by
    have h1 := h.rise j hj
    by_cases e : i = j
    · subst e; exact h1
    · have := eras_mono h j i (by omega) (by omega)
      omega
theorem which_mono {rules : List Ru} {l : List Er} (h : ErasOk rules l) (t : Int) : ∀ a b, a ≤ b → b < l.length - 1 → decide (t < (eraAt l a).un) = true → decide (t < (eraAt l b).un) = true := fun a b hab hb hp => by
  by_cases e : a = b
  · subst e; exact hp
  · have := eras_mono h b a (by omega) (by omega)
    simp only [decide_eq_true_eq] at *
    omega
theorem which_spec {rules : List Ru} {l : List Er} (h : ErasOk rules l) (t : Int) : whichF l t ≤ l.length - 1 ∧ (∀ i, i < whichF l t → (eraAt l i).un ≤ t) ∧ ∀ i, whichF l t ≤ i → i < l.length - 1 → t < (eraAt l i).un := by
  obtain ⟨h1, h2, h3⟩ := cntF_spec _ _ (which_mono h t)
  exact ⟨h1, fun i hi => by have := h2 i hi; simpa using this, fun i hi hl => by have := h3 i hi hl; simpa using this⟩
theorem abb_rule {rules : List Ru} {x : Er} (h : EraOk rules x) (hr : x.ru.data.toList ≠ []) : (∀ r ∈ rules, r.nm = x.ru → abE x.fm r.sv r.lt = 0) ∧ abE x.fm 0 dashB = 0 := by
  have ha := h.ab
  unfold abbrsChk at ha
  rw [if_neg hr] at ha
  split at ha
  · rename_i h1
    refine ⟨fun r hm e => ?_, ha⟩
    have := (firstE_zero _ _).1 h1 r hm
    rwa [if_pos e] at this
  · rename_i h1
    exact absurd ha h1
theorem abE_save {f l : ByteArray} {s : Int} (h : abE f s l = 0) : 0 ≤ s ∧ s ≤ 10800 := by
  unfold abE abbrF at h
  split at h
  · cases h
  · split at h
    · cases h
    · rename_i h1; omega
/-- what is saved, and by which letter, at a time of an era -/
theorem sv_ok {rules : List Ru} {x : Er} (h : EraOk rules x) (t : Int) : abE x.fm (svT (tdR rules x) t).1 (svT (tdR rules x) t).2 = 0 ∧ 0 ≤ (svT (tdR rules x) t).1 ∧ (svT (tdR rules x) t).1 ≤ 10800 ∧ (if x.ru.data.toList = [] then (svT (tdR rules x) t).1 = x.sv else (svT (tdR rules x) t).1 = 0 ∨ ∃ r ∈ rules, r.nm = x.ru ∧ (svT (tdR rules x) t).1 = r.sv) := by
  suffices hs : abE x.fm (svT (tdR rules x) t).1 (svT (tdR rules x) t).2 = 0 ∧ (if x.ru.data.toList = [] then (svT (tdR rules x) t).1 = x.sv else (svT (tdR rules x) t).1 = 0 ∨ ∃ r ∈ rules, r.nm = x.ru ∧ (svT (tdR rules x) t).1 = r.sv) from
    ⟨hs.1, (abE_save hs.1).1, (abE_save hs.1).2, hs.2⟩
  by_cases hr : x.ru.data.toList = []
  · have ha := h.ab
    unfold abbrsChk at ha
    rw [if_pos hr] at ha
    have e : tdR rules x = ⟨x, [], dashB⟩ := by unfold tdR; rw [if_pos hr]
    rw [e, if_pos hr, svT_0 rfl]
    exact ⟨ha, rfl⟩
  · obtain ⟨h1, h2⟩ := abb_rule h hr
    have e : tdR rules x = ⟨x, (mkR rules x.ru x.off).2, firstLt (mkR rules x.ru x.off).2⟩ := by unfold tdR; rw [if_neg hr]
    rw [if_neg hr]
    by_cases hc : cntT (tdR rules x).ts t = 0
    · rw [svT_0 hc, e]
      dsimp only
      rw [h.sr hr]
      rcases firstLt_of (mkR rules x.ru x.off).2 with e1 | ⟨u, hu, hs, e1⟩
      · rw [e1]; exact ⟨h2, .inl rfl⟩
      · obtain ⟨r, hm, hn, e2, e3⟩ := mkR_mem hu
        have h5 := h1 r hm hn
        rw [← e2, ← e3, hs] at h5
        rw [e1]
        exact ⟨h5, .inl rfl⟩
    · obtain ⟨hlt, es⟩ := svT_s hc
      rw [es]
      have hu : (tdR rules x).ts[cntT (tdR rules x).ts t - 1] ∈ (mkR rules x.ru x.off).2 := by
        have := List.getElem_mem hlt
        have e4 : (tdR rules x).ts = (mkR rules x.ru x.off).2 := by rw [e]
        rw [← e4]; exact this
      obtain ⟨r, hm, hn, e2, e3⟩ := mkR_mem hu
      dsimp only
      rw [e2, e3]
      exact ⟨h1 r hm hn, .inr ⟨r, hm, hn, rfl⟩⟩
def tdA (rules : List Ru) (l : List Er) (k : Nat) : Td := tdR rules (eraAt l k)
/-- which type it is, by eras that may be -/
def stF (rules : List Ru) (l : List Er) (t : Int) : Ty := tdTy (tdA rules l (whichF l t)) t
end Go.Proofs.YtacogloheiendaaGreatDoor
namespace Go.Proofs.YtacogloheiendaaGreatDoor
open Go.RowKit Go.Joins
open Classical
set_option linter.unusedVariables false
set_option linter.unusedSimpArgs false

def okL (l : List UInt8) : Bool := l.all (signB [43, 45])
theorem abbrB_iff (l : List UInt8) : abbrB (txt l) = true ↔ okL l = true ∧ l ≠ [] ∧ l.length ≤ 8 := by
  unfold abbrB allB okL
  rw [Bool.and_eq_true, Bool.and_eq_true, decide_eq_true_eq]
  have e : (txt l).data.toList = l := txt_data l
  have e2 : (txt l).size = l.length := by
    show (txt l).data.size = _
    rw [← Array.length_toList, e]
  rw [e, e2]
  have e3 : (⟨#[43, 45]⟩ : ByteArray).data.toList = [43, 45] := rfl
  rw [e3]
  constructor
  · rintro ⟨⟨h1, h2⟩, h3⟩
    exact ⟨h1, by simpa using h2, by omega⟩
  · rintro ⟨h1, h2, h3⟩
    exact ⟨⟨h1, by simpa using h2⟩, by omega⟩
/-- what is right of an abbreviation that was made -/
theorem abbrF_ok {f l : List UInt8} {s : Int} (h : (abbrF f s l).2 = 0) : (abbrF f s l).1 = abbrN f s l ∧ (splitF f).2.2.2 = true ∧ letterOk l = true ∧ 0 ≤ s ∧ s ≤ 10800 ∧ (abbrN f s l).length ≤ 8 ∧ abbrN f s l ≠ [] := by
  unfold abbrF at h ⊢
  by_cases h1 : (splitF f).2.2.2 = false ∨ letterOk l = false
  · rw [if_pos h1] at h; cases h
  · rw [if_neg h1] at h ⊢
    by_cases h2 : ¬ (0 ≤ s ∧ s ≤ 10800)
    · rw [if_pos h2] at h; cases h
    · rw [if_neg h2] at h ⊢
      by_cases h3 : 8 < (abbrN f s l).length
      · rw [if_pos h3] at h; cases h
      · rw [if_neg h3] at h ⊢
        by_cases h4 : abbrN f s l = []
        · rw [if_pos h4] at h; cases h
        · rw [if_neg h4]
          rw [not_or] at h1
          exact ⟨rfl, by simpa using h1.1, by simpa using h1.2, by omega, by omega, by omega, h4⟩
theorem cut_noA {l : List UInt8} {c : UInt8} (h : c ∉ l) : (Lib.cut l [c]).2.2 = false := by
  have hi : Lib.index l [c] = -1 := Lib.index_none fun j hj => by
    cases ho : Lib.occAt l [c] j
    · rfl
    · exact absurd (List.mem_of_getElem? (Lib.occAt_head rfl ho)) h
  unfold Lib.cut
  rw [hi, if_neg (by omega)]
theorem okL_no {l : List UInt8} (h : okL l = true) : (47 : UInt8) ∉ l ∧ (37 : UInt8) ∉ l := by
  unfold okL at h
  rw [List.all_eq_true] at h
  refine ⟨fun g => ?_, fun g => ?_⟩
  · have := h _ g; revert this; decide
  · have := h _ g; revert this; decide
end Go.Proofs.YtacogloheiendaaGreatDoor
namespace Go.Proofs.YtacogloheiendaaGreatDoor
open Go.RowKit Go.Joins Go.Maps
open Classical
set_option linter.unusedVariables false
set_option linter.unusedSimpArgs false

theorem rsv_zero {b : Bk} {nm : ByteArray} {z : Zo} {c : Int} (h : rsv b nm = (some z, c)) : c = 0 ∧ z ∈ b.zones ∧ bkChk b = 0 := by
  by_cases hb : bkChk b = 0
  · rw [rsv_go hb] at h
    obtain ⟨h1, h2⟩ := resF_in h
    exact ⟨h2, h1, hb⟩
  · rw [rsv_bad hb] at h; cases h
theorem resF_not0 {zs : List Zo} {ls : List Lk} : ∀ {n : Nat} {k : ByteArray} {c : Int}, resF zs ls n k = (none, c) → c ≠ 0 := by
  intro n
  induction n with
  | zero => intro k c h; cases h; decide
  | succ n ih =>
    intro k c h
    rw [resF] at h
    split at h
    · cases h
    · split at h
      · cases h; decide
      · exact ih h
theorem rsv_not0 {b : Bk} {nm : ByteArray} {c : Int} (h : rsv b nm = (none, c)) : c ≠ 0 := by
  by_cases hb : bkChk b = 0
  · rw [rsv_go hb] at h; exact resF_not0 h
  · rw [rsv_bad hb] at h
    injection h with _ h
    rwa [← h]
theorem stR_none {b : Bk} {nm : ByteArray} {c : Int} (h : rsv b nm = (none, c)) (t : Int) : stR b nm t = (c, ty0) := by unfold stR; rw [h]
theorem stR_some {b : Bk} {nm : ByteArray} {z : Zo} {c : Int} (h : rsv b nm = (some z, c)) (t : Int) : stR b nm t = (if stampE t ≠ 0 then (stampE t, ty0) else
    if tdE b.rules (eraAt z.eras (whichF z.eras t)) ≠ 0 then (tdE b.rules (eraAt z.eras (whichF z.eras t)), ty0) else (0, stF b.rules z.eras t)) := by unfold stR; rw [h]; rfl
theorem era_in {rules : List Ru} {l : List Er} (h : ErasOk rules l) (t : Int) : ∃ hk : whichF l t < l.length, eraAt l (whichF l t) = l[whichF l t] := by
  have hp : 0 < l.length := List.length_pos_iff.2 h.ne
  have hk : whichF l t < l.length := by have := (which_spec h t).1; omega
  exact ⟨hk, eraAt_in l _ hk⟩
def oneB (rules : List Ru) (nm : ByteArray) (ev : Value) (l : List Er) : Bk := ⟨rules, [⟨nm, ev, l⟩], []⟩
theorem oneB_chk {rules : List Ru} {nm : ByteArray} {ev : Value} {l : List Er} (hr : rules.length ≤ 40) (ho : ∀ r ∈ rules, ruChk r = 0) (hn : nameB nm = true) (hl : l ≠ []) (hl2 : l.length ≤ 700) (he : ∀ k, k < l.length → eraChk rules l k = 0) : bkChk (oneB rules nm ev l) = 0 := by
  have h0 : ¬ (40 < (oneB rules nm ev l).rules.length ∨ 20 < (oneB rules nm ev l).zones.length ∨ 20 < (oneB rules nm ev l).links.length) := by
    show ¬ (40 < rules.length ∨ 20 < 1 ∨ 20 < 0)
    omega
  have hz : firstE (chkZ (oneB rules nm ev l)) (List.range (oneB rules nm ev l).zones.length) = 0 := by
    refine (firstE_zero _ _).2 fun i hi => ?_
    have hi : i < 1 := List.mem_range.1 hi
    obtain rfl : i = 0 := by omega
    show zoneChk rules [] ⟨nm, ev, l⟩ = 0
    unfold zoneChk
    rw [if_neg (by rw [hn]; simp), if_neg (by simp), if_neg hl, if_neg (show ¬ 700 < l.length by omega)]
    exact (firstE_zero _ _).2 fun k hk => he k (List.mem_range.1 hk)
  rw [bkChk_l _ h0 ((firstE_zero _ _).2 ho) hz]
  rfl
theorem oneB_rsv {rules : List Ru} {nm : ByteArray} {ev : Value} {l : List Er} (h : bkChk (oneB rules nm ev l) = 0) : rsv (oneB rules nm ev l) nm = (some ⟨nm, ev, l⟩, 0) :=
  rsv_zone h (z := ⟨nm, ev, l⟩) (List.mem_singleton.2 rfl)
theorem which_one {x : Er} (t : Int) : whichF [x] t = 0 := rfl
theorem eraChk_un {rules : List Ru} {x : Er} (h : EraOk rules x) (hu : x.un = 0) : eraChk rules [x] 0 = 0 := by
  unfold eraChk
  dsimp only
  have e : eraAt [x] 0 = x := rfl
  rw [e, if_neg (by have := h.o1; have := h.o2; have := h.s1; have := h.s2; omega), if_neg (fun g => g.1 (h.sr g.2)), if_neg ?_, if_neg (fun g => g h.ab), if_pos (show 0 + 1 = [x].length from rfl), if_neg (fun g => g hu)]
  rintro ⟨g1, g2⟩
  obtain ⟨r, hr, e⟩ := h.has g1
  rw [List.any_eq_false] at g2
  exact g2 r hr (decide_eq_true e)
/-- an era by itself -/
def alone (x : Er) : Er := ⟨x.off, x.ru, x.sv, x.fm, 0⟩
def svF (l : List Tn) (t : Int) : Int := l.foldl (fun a u => if u.a ≤ t then u.s else a) 0
theorem svF_take {l : List Tn} {t : Int} : ∀ (n : Nat), n ≤ l.length → (∀ i, i < n → tnA l i ≤ t) → (l.take n).foldl (fun a u => if u.a ≤ t then u.s else a) 0 = (if n = 0 then 0 else (l[n - 1]?.map (·.s)).getD 0)
  | 0, _, _ => rfl
  | n + 1, hn, h => by
    have hlt : n < l.length := by omega
    have := h n (by omega)
    rw [tnA_at l n hlt] at this
    rw [List.take_succ_eq_append_getElem hlt, List.foldl_append]
    simp only [List.foldl_cons, List.foldl_nil, if_pos this]
    simp [hlt]
theorem foldl_late {l : List Tn} {t : Int} (h : ∀ u ∈ l, t < u.a) : ∀ (a : Int), l.foldl (fun a u => if u.a ≤ t then u.s else a) a = a := by
  induction l with
  | nil => intro a; rfl
  | cons u r ih =>
    intro a
    rw [List.foldl_cons, if_neg (by have := h u (List.mem_cons_self ..); omega)]
    exact ih (fun v hv => h v (List.mem_cons_of_mem _ hv)) a
theorem svF_sv {x : Td} (h : Rises x.ts) (h0 : x.er.sv = 0) (t : Int) : svF x.ts t = (svT x t).1 := by
  obtain ⟨c1, c2, c3⟩ := cntT_spec h t
  have e : svF x.ts t = (x.ts.take (cntT x.ts t) ++ x.ts.drop (cntT x.ts t)).foldl (fun a u => if u.a ≤ t then u.s else a) 0 := by rw [List.take_append_drop]; rfl
  rw [e, List.foldl_append, svF_take _ c1 c2, foldl_late]
  · by_cases hc : cntT x.ts t = 0
    · rw [if_pos hc, svT_0 hc, h0]
    · obtain ⟨hlt, es⟩ := svT_s hc
      rw [if_neg hc, es, List.getElem?_eq_getElem hlt]
      rfl
  · intro u hu
    obtain ⟨i, hi, rfl⟩ := List.getElem_of_mem hu
    rw [List.getElem_drop]
    have hlt : cntT x.ts t + i < x.ts.length := by rw [List.length_drop] at hi; omega
    have := c3 (cntT x.ts t + i) (by omega) hlt
    rwa [tnA_at _ _ hlt] at this
end Go.Proofs.YtacogloheiendaaGreatDoor
