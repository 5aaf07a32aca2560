/- names.of: the places of names. -/
import Derived.Test.YtlgdilpmdoofiaaDoorBaB
import Derived.Test.YtlgdilpmdoofiaaDoorOwnK
import Derived.Maps.Own
import Derived.Maps.OwnOps
import Derived.Maps.OwnSet
import Derived.Maps.Views
import Derived.StringKeys
import Derived.StillTailTactics
import Derived.Carry
namespace Go.Proofs.YtlgdilpmdoofiaaDoor
open Go.RowKit Go.Joins Go.Maps
open Classical
set_option linter.unusedVariables false
set_option linter.unusedSimpArgs false

theorem keyS : Keyed Tryd.prog 9 := string_keyed Tryd.underlying9
/-- an element of a map reads as itself -/
def heldV (v : Value) : Option (DataW Value × List MemPlace) := some (.held v, [])
abbrev zoV (z : Zo) : Value := .agg #[.string z.nm, z.ev]
abbrev kyS (s : ByteArray) : Lit := .string s.data.toList
def DZ (l : List Zo) : DataW Value := l.foldl (fun D z => D.put (kyS z.nm) (.held (zoV z))) (.map [])
def DL (l : List Lk) : DataW Value := l.foldl (fun D x => D.put (kyS x.nm) (.held (.string x.to))) (.map [])
theorem DZ_snoc (l : List Zo) (z : Zo) : DZ (l ++ [z]) = (DZ l).put (kyS z.nm) (.held (zoV z)) := by unfold DZ; rw [List.foldl_append]; rfl
theorem DL_snoc (l : List Lk) (x : Lk) : DL (l ++ [x]) = (DL l).put (kyS x.nm) (.held (.string x.to)) := by unfold DL; rw [List.foldl_append]; rfl
theorem ownsMap_keep {W W' : World} {b n : Nat} {D : DataW Value} (h : W.ownsMap Tryd.prog 9 heldV b n D) (hk : W'.heap[b]? = W.heap[b]?) : W'.ownsMap Tryd.prog 9 heldV b n D := by
  obtain ⟨es, clock, hb, r⟩ := h
  exact ⟨es, clock, hk.trans hb, r⟩
/-- the places: two maps behind a box -/
structure PlAt (B : Nat) (W : World) (pb bz bl nz nl : Nat) (zs : List Zo) (ls : List Lk) : Prop where
  bx : W.heap[pb]? = some (.cells #[.map (some bz), .map (some bl)] 114 (0, 0))
  z : W.ownsMap Tryd.prog 9 heldV bz nz (DZ zs)
  l : W.ownsMap Tryd.prog 9 heldV bl nl (DL ls)
  hp : B ≤ pb
  hz : B ≤ bz
  hl : B ≤ bl
theorem PlAt.below {B B' : Nat} {W W' : World} {pb bz bl nz nl : Nat} {zs : List Zo} {ls : List Lk} (h : PlAt B W pb bz bl nz nl zs ls) (hb : Below B' W W') (hB : W.heap.size ≤ B') : PlAt B W' pb bz bl nz nl zs ls := by
  have h1 : pb < W.heap.size := (Array.getElem?_eq_some_iff.mp h.bx).1
  exact ⟨(hb.block pb (by omega)).trans h.bx, ownsMap_keep h.z (hb.block bz (by have := h.z.lt; omega)), ownsMap_keep h.l (hb.block bl (by have := h.l.lt; omega)), h.hp, h.hz, h.hl⟩
theorem PlAt.cells {B : Nat} {W : World} {pb bz bl nz nl : Nat} {zs : List Zo} {ls : List Lk} (h : PlAt B W pb bz bl nz nl zs ls) : W.cell? ⟨pb, 0, none⟩ = some (.map (some bz)) ∧ W.cell? ⟨pb, 1, none⟩ = some (.map (some bl)) ∧ pb < W.heap.size :=
  ⟨(cell_of_row W _ 0 _ _ _ h.bx).trans rfl, (cell_of_row W _ 1 _ _ _ h.bx).trans rfl, (Array.getElem?_eq_some_iff.mp h.bx).1⟩
def OfPost (b : Bk) (w : World) (e : Ending) (w' : World) : Prop :=
  Below w.heap.size w w' ∧ (bkChk b ≠ 0 → e = .returned (.tuple #[.pointer none, .int .i64 (bkChk b)])) ∧
  (bkChk b = 0 → ∃ pb bz bl nz nl, e = .returned (.tuple #[.pointer (some ⟨pb, 0, none⟩), .int .i64 0]) ∧ PlAt w.heap.size w' pb bz bl nz nl b.zones b.links ∧ nl ≤ 1000 ∧ nz ≤ 1000)
theorem BookAt.baseN {B B' : Nat} {W : World} {rv zv lv : Value} {b : Bk} (h : BookAt B W rv zv lv b) (hB : B ≤ B') : BookAt B' W rv zv lv b :=
  ⟨h.r.mono hB, h.z.mono hB, fun z hz => (h.e z hz).mono hB, h.l.mono hB, h.rs, h.zs, h.ls⟩
theorem take_succN {α : Type} (l : List α) (k : Nat) (h : k < l.length) : l.take (k + 1) = l.take k ++ [l[k]] := List.take_succ_eq_append_getElem h
theorem bk_len {b : Bk} (h : bkChk b = 0) : b.rules.length ≤ 40 ∧ b.zones.length ≤ 20 ∧ b.links.length ≤ 20 := by
  unfold bkChk at h
  split at h
  · cases h
  · omega

set_option maxRecDepth 100000 in
set_option maxHeartbeats 4000000 in
theorem namesOf_any (b : Bk) (rv zv lv : Value) (w : World) (hB : BookAt w.heap.size w rv zv lv b) (hm : MaxLen w) (ht : Tab10 w) :
    Calls Tryd.prog 49 #[.agg #[rv, zv, lv]] w (OfPost b w) := by
  have hr := hB.r
  have hz := hB.z
  have hl := hB.l
  obtain ⟨p1, c1, rfl, hlen1, hrow1⟩ := hr
  obtain ⟨p2, c2, rfl, hlen2, hrow2⟩ := hz
  obtain ⟨p3, c3, rfl, hlen3, hrow3⟩ := hl
  obtain ⟨W0, eW⟩ : ∃ W0, w.alloc (.cells #[.slice p1 b.rules.length c1, .slice p2 b.zones.length c2, .slice p3 b.links.length c3] 26) = W0 := ⟨_, rfl⟩
  have hb0 : Below w.heap.size w W0 := by rw [← eW]; exact (Below.refl _ _).alloc (Nat.le_refl _) _
  have hbx : W0.heap[w.heap.size]? = some (.cells #[.slice p1 b.rules.length c1, .slice p2 b.zones.length c2, .slice p3 b.links.length c3] 26 (0, 0)) := by rw [← eW]; exact heap_alloc_new w _
  have hl0 : w.heap.size < W0.heap.size := by rw [← eW]; simp
  have x0 := (cell_of_row W0 _ 0 _ _ _ hbx).trans rfl
  have x1 := (cell_of_row W0 _ 1 _ _ _ hbx).trans rfl
  have x2 := (cell_of_row W0 _ 2 _ _ _ hbx).trans rfl
  have HEW := Lib.hid eW
  have HB0 := Lib.hid hb0
  have HBX := Lib.hid hbx
  have HBK := Lib.hid hB
  have HCK := Lib.hid (bkCheck_any b _ _ _ W0 ((hB.below hb0 (Nat.le_refl _)).baseN (Nat.le_of_lt hl0)) (hm.below hb0) (ht.below hb0))
  have HLN := Lib.hid (bk_len (b := b))
  have HRZ := Lib.hid hB.z
  have HRL := Lib.hid hB.l
  have HSZ := Lib.hid hB.zs
  have HSL := Lib.hid hB.ls
  have HEV := Lib.hid hB.e
  have HPOST : Hid (∀ e w', OfPost b w e w' = (Below w.heap.size w w' ∧ (bkChk b ≠ 0 → e = .returned (.tuple #[.pointer none, .int .i64 (bkChk b)])) ∧ (bkChk b = 0 → ∃ pb bz bl nz nl, e = .returned (.tuple #[.pointer (some ⟨pb, 0, none⟩), .int .i64 0]) ∧ PlAt w.heap.size w' pb bz bl nz nl b.zones b.links ∧ nl ≤ 1000 ∧ nz ≤ 1000))) := fun e w' => rfl
  obtain ⟨C, eC⟩ : ∃ C, bkChk b = C := ⟨_, rfl⟩
  rw [eC] at HCK HLN HPOST
  clear eW hb0 hbx hB hm ht hrow1 hrow2 hrow3 eC
  go_enter Tryd.func49, Tryd.ntmps49
  go_upto_region 1 with fail
  rw [HEW.out]
  go_wp2_with fail
  refine HCK.out.mono ?_
  rintro e w1 ⟨rfl, hb1⟩
  have HB1 := Lib.hid (HB0.out.trans (hb1.mono HB0.out.size))
  have hx1 := (hb1.block w.heap.size hl0).trans HBX.out
  have HBX1 := Lib.hid hx1
  have hl1 : w.heap.size < w1.heap.size := by have := hb1.size; omega
  clear hb1 hx1 x0 x1 x2 HCK HBX
  by_cases hC : C = 0
  case neg =>
    have hz : (C == 0) = false := by simpa using hC
    have hz2 : (!C == 0) = true := by rw [hz]; rfl
    have HC := Lib.hid hC
    clear hC
    go_wp2_with fail
    go_ret2
    rw [HPOST.out]
    exact ⟨HB1.out, fun _ => rfl, fun h => absurd h HC.out⟩
  case pos =>
  subst hC
  obtain ⟨hr40, hz20, hl20⟩ := HLN.out rfl
  have hmk : ∀ (ty : TypeId) (W : World), (Instr.makeMap ty none).run Tryd.prog W = .ok (.map (some W.heap.size)) (W.alloc (.map #[] 0)) := fun ty W => run_makeMap ty W
  obtain ⟨W4, e4⟩ : ∃ W4, ((w1.alloc (.map #[] 0)).alloc (.map #[] 0)).alloc (.cells #[.map (some w1.heap.size), .map (some (w1.heap.size + 1))] 114) = W4 := ⟨_, rfl⟩
  have hP4 : PlAt w.heap.size W4 (w1.heap.size + 1 + 1) w1.heap.size (w1.heap.size + 1) 0 0 [] [] := by
    rw [← e4]
    refine ⟨alloc_at _ _ _ (by simp), ?_, ?_, by omega, by omega, by omega⟩
    · exact ownsMap_keep (World.ownsMap_made w1 Tryd.prog 9 heldV) (by rw [Below.heap_alloc _ _ _ (by simp; omega), Below.heap_alloc _ _ _ (by simp)])
    · have := World.ownsMap_made (w1.alloc (.map #[] 0)) Tryd.prog 9 heldV
      rw [show (w1.alloc (.map #[] 0)).heap.size = w1.heap.size + 1 by simp] at this
      exact ownsMap_keep this (by rw [Below.heap_alloc _ _ _ (by simp)])
  have hb4 : Below w1.heap.size w1 W4 := by rw [← e4]; exact (((Below.refl _ _).alloc (Nat.le_refl _) _).alloc (by simp) _).alloc (by simp; omega) _
  have hz4 : W4.heap.size = w1.heap.size + 3 := by rw [← e4]; simp
  have HP4 := Lib.hid hP4
  have HB4 := Lib.hid (HB1.out.trans (hb4.mono (Nat.le_of_lt hl1)))
  have HE4 := Lib.hid e4
  have hx4 := (hb4.block w.heap.size hl1).trans HBX1.out
  have HX4 := Lib.hid hx4
  have hl4 : w.heap.size < W4.heap.size := by omega
  have y1 := (cell_of_row W4 _ 1 _ _ _ hx4).trans rfl
  obtain ⟨pz, cz, ez, -, hrw⟩ := (HRZ.out.below HB4.out (Nat.le_refl _))
  simp only [Value.slice.injEq, true_and] at ez
  obtain ⟨rfl, rfl⟩ := ez
  have HRWZ := Lib.hid hrw
  clear hP4 hb4 e4 hx4 hrw
  go_upto_region 5 with fail
  rw [HE4.out]
  obtain ⟨bz, ebz⟩ : ∃ bz, w1.heap.size = bz := ⟨_, rfl⟩
  rw [ebz] at HP4 hz4 hl1 ⊢
  have HBZ := Lib.hid ebz
  clear ebz
  go_wp2_with fail
  go_loopw [22] (fun i wr => ∃ k : Nat, k ≤ b.zones.length ∧ i = .int .i64 k ∧ Hid (PlAt w.heap.size wr (bz + 1 + 1) bz (bz + 1) k 0 (b.zones.take k) []) ∧ Hid (Below bz W4 wr) ∧ W4.heap.size ≤ wr.heap.size) (fun i _ => b.zones.length - (intOf i).toNat)
  case atStart => exact ⟨0, Nat.zero_le _, rfl, HP4, Lib.hid (Below.refl _ _), Nat.le_refl _⟩
  case round =>
    obtain ⟨k, hk, rfl, HPR, HBR, hzr⟩ := hrel
    by_cases hkl : k < b.zones.length
    · obtain ⟨bb, o, rfl, hbl, hcs⟩ := HRWZ.out (List.ne_nil_of_length_pos (by omega))
      have hck := hcs k hkl
      have hsz := HSZ.out b.zones[k] (List.getElem_mem hkl)
      have hev := HEV.out b.zones[k] (List.getElem_mem hkl)
      have HTK : Hid (b.zones.take (k + 1) = b.zones.take k ++ [b.zones[k]]) := take_succN _ _ hkl
      obtain ⟨q, eq⟩ : ∃ q, b.zones[k] = q := ⟨_, rfl⟩
      rw [eq] at hck hsz HTK hev
      obtain ⟨nm, ev, er⟩ := q
      simp only at hev
      obtain ⟨pe, ce, rfl, -, -⟩ := hev
      have hnm := hsz.1
      have hbb : bb < bz := by omega
      have z0 := (HBR.out.cell (p := ⟨bb, o + k * 2 + 0, none⟩) hbb).trans (hck 0 _ rfl)
      have z1 := (HBR.out.cell (p := ⟨bb, o + k * 2 + 1, none⟩) hbb).trans (hck 1 _ rfl)
      simp only at hnm z0 z1
      rw [Nat.add_zero] at z0
      obtain ⟨W5, e5⟩ : ∃ W5, wr.alloc (.cells #[.string nm, .slice pe er.length ce] 53) = W5 := ⟨_, rfl⟩
      have hx5 : W5.heap[wr.heap.size]? = some (.cells #[.string nm, .slice pe er.length ce] 53 (0, 0)) := by rw [← e5]; exact heap_alloc_new wr _
      have hb5 : Below wr.heap.size wr W5 := by rw [← e5]; exact (Below.refl _ _).alloc (Nat.le_refl _) _
      have hz5 : W5.heap.size = wr.heap.size + 1 := by rw [← e5]; simp
      have HP5 := Lib.hid (HPR.out.below hb5 (Nat.le_refl _))
      have HB5 : Hid (Below bz W4 W5) := HBR.out.trans (hb5.mono (by omega))
      have q0 := (cell_of_row W5 _ 0 _ _ _ hx5).trans rfl
      have q1 := (cell_of_row W5 _ 1 _ _ _ hx5).trans rfl
      obtain ⟨q2, q3, hpb⟩ := HP5.out.cells
      have HE5 := Lib.hid e5
      clear e5 hx5 eq hcs hck hsz
      go_upto_region 8 with fail
      rw [HE5.out]
      go_still_tail 7, (by kernel_rfl)
      change wpList _ _ _ _ _ W5.drew
      refine wpList_mapUpdate_own _ rfl _ _ _ 111 rfl 9 53 keyS Tryd.underlying111 heldV bz k (DZ (b.zones.take k)) rfl HP5.out.z (by unfold maxLen; omega) (.string nm) (.agg #[.string nm, .slice pe er.length ce]) (kyS nm) rfl rfl (Go.WideMaps.keyOf_string_mk Tryd.underlying9 (by unfold maxLen; omega)) (.held (.agg #[.string nm, .slice pe er.length ce])) [] rfl ?_
      intro w6 hown6 hgrow6
      have HP6 : Hid (PlAt w.heap.size w6 (bz + 1 + 1) bz (bz + 1) (k + 1) 0 (b.zones.take (k + 1)) []) := by
        have h5 := HP5.out
        refine ⟨(hgrow6.block (bz + 1 + 1) hpb (by simp; omega)).trans h5.bx, ?_, (World.ownsMap.drew h5.l).kept hgrow6 (by simp), h5.hp, h5.hz, h5.hl⟩
        rw [HTK.out, DZ_snoc]
        exact hown6
      have HB6 : Hid (Below bz W4 w6) := HB5.out.drew.grown hgrow6 (by show bz ≤ W5.heap.size; omega) (fun q hq => by injection hq with hq; omega)
      have hz6 : W4.heap.size ≤ w6.heap.size := by have := hgrow6.size; have h2 : W5.drew.heap.size = W5.heap.size := rfl; omega
      go_wp2_with fail
      go_roundw
      case rel => exact ⟨k + 1, by omega, by go_num, HP6, HB6, hz6⟩
      case measure => simp [intOf]; omega
    · obtain rfl : k = b.zones.length := by omega
      rw [List.take_length] at HPR
      have hbW := HB4.out.trans (HBR.out.mono (by omega))
      obtain ⟨W6, e6⟩ : ∃ W6, wr = W6 := ⟨_, rfl⟩
      rw [e6] at HPR hbW hzr ⊢
      have hx6 := (HBR.out.block w.heap.size hl1).trans HX4.out
      rw [e6] at hx6
      have y2 := (cell_of_row W6 _ 2 _ _ _ hx6).trans rfl
      have hl6 : w.heap.size < W6.heap.size := by omega
      obtain ⟨pz, cz, ez, -, hrw⟩ := (HRL.out.below hbW (Nat.le_refl _))
      simp only [Value.slice.injEq, true_and] at ez
      obtain ⟨rfl, rfl⟩ := ez
      have HRWL := Lib.hid hrw
      have HBW := Lib.hid hbW
      clear hrw hbW hx6 e6 HBR HRL HEV HSZ y1 HX4
      go_wp2_with fail
      go_loopw [37] (fun i wr => ∃ k : Nat, k ≤ b.links.length ∧ i = .int .i64 k ∧ Hid (PlAt w.heap.size wr (bz + 1 + 1) bz (bz + 1) b.zones.length k b.zones (b.links.take k)) ∧ Hid (Below bz W6 wr) ∧ W6.heap.size ≤ wr.heap.size) (fun i _ => b.links.length - (intOf i).toNat)
      case atStart => exact ⟨0, Nat.zero_le _, rfl, HPR, Lib.hid (Below.refl _ _), Nat.le_refl _⟩
      case round =>
        obtain ⟨k, hk, rfl, HPR, HBR, hzr2⟩ := hrel
        by_cases hkl : k < b.links.length
        · obtain ⟨bb, o, rfl, hbl, hcs⟩ := HRWL.out (List.ne_nil_of_length_pos (by omega))
          have hck := hcs k hkl
          have hsz := HSL.out b.links[k] (List.getElem_mem hkl)
          have HTK : Hid (b.links.take (k + 1) = b.links.take k ++ [b.links[k]]) := take_succN _ _ hkl
          obtain ⟨q, eq⟩ : ∃ q, b.links[k] = q := ⟨_, rfl⟩
          rw [eq] at hck hsz HTK
          obtain ⟨nm, tt⟩ := q
          obtain ⟨hnm, htt⟩ := hsz
          have hbb : bb < bz := by omega
          have z0 := (HBR.out.cell (p := ⟨bb, o + k * 2 + 0, none⟩) hbb).trans (hck 0 _ rfl)
          have z1 := (HBR.out.cell (p := ⟨bb, o + k * 2 + 1, none⟩) hbb).trans (hck 1 _ rfl)
          simp only at hnm htt z0 z1
          rw [Nat.add_zero] at z0
          obtain ⟨W5, e5⟩ : ∃ W5, wr.alloc (.cells #[.string nm, .string tt] 58) = W5 := ⟨_, rfl⟩
          have hx5 : W5.heap[wr.heap.size]? = some (.cells #[.string nm, .string tt] 58 (0, 0)) := by rw [← e5]; exact heap_alloc_new wr _
          have hb5 : Below wr.heap.size wr W5 := by rw [← e5]; exact (Below.refl _ _).alloc (Nat.le_refl _) _
          have hz5 : W5.heap.size = wr.heap.size + 1 := by rw [← e5]; simp
          have HP5 := Lib.hid (HPR.out.below hb5 (Nat.le_refl _))
          have HB5 : Hid (Below bz W6 W5) := HBR.out.trans (hb5.mono (by omega))
          have q0 := (cell_of_row W5 _ 0 _ _ _ hx5).trans rfl
          have q1 := (cell_of_row W5 _ 1 _ _ _ hx5).trans rfl
          obtain ⟨q2, q3, hpb⟩ := HP5.out.cells
          have HE5 := Lib.hid e5
          clear e5 hx5 eq hcs hck
          go_upto_region 13 with fail
          rw [HE5.out]
          go_still_tail 8, (by kernel_rfl)
          change wpList _ _ _ _ _ W5.drew
          refine wpList_mapUpdate_own _ rfl _ _ _ 112 rfl 9 9 keyS Tryd.underlying112 heldV (bz + 1) k (DL (b.links.take k)) rfl HP5.out.l (by unfold maxLen; omega) (.string nm) (.string tt) (kyS nm) rfl rfl (Go.WideMaps.keyOf_string_mk Tryd.underlying9 (by unfold maxLen; omega)) (.held (.string tt)) [] rfl ?_
          intro w6 hown6 hgrow6
          have HP6 : Hid (PlAt w.heap.size w6 (bz + 1 + 1) bz (bz + 1) b.zones.length (k + 1) b.zones (b.links.take (k + 1))) := by
            have h5 := HP5.out
            refine ⟨(hgrow6.block (bz + 1 + 1) hpb (by simp)).trans h5.bx, (World.ownsMap.drew h5.z).kept hgrow6 (by simp), ?_, h5.hp, h5.hz, h5.hl⟩
            rw [HTK.out, DL_snoc]
            exact hown6
          have HB6 : Hid (Below bz W6 w6) := HB5.out.drew.grown hgrow6 (by show bz ≤ W5.heap.size; omega) (fun q hq => by injection hq with hq; omega)
          have hz6 : W6.heap.size ≤ w6.heap.size := by have := hgrow6.size; have h2 : W5.drew.heap.size = W5.heap.size := rfl; omega
          go_wp2_with fail
          go_roundw
          case rel => exact ⟨k + 1, by omega, by go_num, HP6, HB6, hz6⟩
          case measure => simp [intOf]; omega
        · obtain rfl : k = b.links.length := by omega
          rw [List.take_length] at HPR
          have HBD := Lib.hid (HBW.out.trans (HBR.out.mono (by omega)))
          go_wp2_with fail
          go_ret2
          rw [HPOST.out]
          exact ⟨HBD.out, fun h => absurd rfl h, fun _ => ⟨_, _, _, _, _, rfl, HPR.out, by omega, by omega⟩⟩
end Go.Proofs.YtlgdilpmdoofiaaDoor
