/- names.of: the places of names. (places).resolve: what it returns. names.Resolve: what it returns. back.Years: rules of turns, and that they have just these turns: plain facts. turns.Of: what it returns. -/
import Derived.Test.YtmpeplimiaaehaaDoorQ04
import Derived.Test.YtmpeplimiaaehaaDoorQ06
import Derived.Maps.Own
import Derived.Maps.OwnOps
import Derived.Maps.OwnSet
import Derived.Maps.Views
import Derived.StringKeys
import Derived.StillTailTactics
import Derived.Carry
import Derived.Deep.AppendLies
import Derived.Laws.AppendOwn
import Derived.Laws.OwnMore
import Derived.Lib.SliceRun
import Derived.Test.YtmpeplimiaaehaaDoorQ07
namespace Go.Proofs.YtmpeplimiaaehaaDoor
open Go.RowKit Go.Joins Go.Maps
open Classical
set_option linter.unusedVariables false
set_option linter.unusedSimpArgs false

theorem keyS : Keyed Tryd.prog 9 := string_keyed Tryd.underlying9
/-- an element of a map reads as itself -/
def heldV (v : Value) : Option (DataW Value × List MemPlace) := some (.held v, [])
abbrev zoV (z : Zo) : Value := .agg #[.string z.nm, z.ev]
abbrev kyS (s : ByteArray) : Lit := .string s.data.toList
def DZ (l : List Zo) : DataW Value := l.foldl (fun D z => D.put (kyS z.nm) (.held (zoV z))) (.map [])
def DL (l : List Lk) : DataW Value := l.foldl (fun D x => D.put (kyS x.nm) (.held (.string x.tg))) (.map [])
theorem DZ_snoc (l : List Zo) (z : Zo) : DZ (l ++ [z]) = (DZ l).put (kyS z.nm) (.held (zoV z)) := by unfold DZ; rw [List.foldl_append]; rfl
theorem DL_snoc (l : List Lk) (x : Lk) : DL (l ++ [x]) = (DL l).put (kyS x.nm) (.held (.string x.tg)) := by unfold DL; rw [List.foldl_append]; rfl
theorem ownsMap_keep {W W' : World} {b n : Nat} {D : DataW Value} (h : W.ownsMap Tryd.prog 9 heldV b n D) (hk : W'.heap[b]? = W.heap[b]?) : W'.ownsMap Tryd.prog 9 heldV b n D := by
  obtain ⟨es, clock, hb, r⟩ := h
  exact ⟨es, clock, hk.trans hb, r⟩
/-- the places: two maps behind a box -/
structure PlAt (B : Nat) (W : World) (pb bz bl nz nl : Nat) (zs : List Zo) (ls : List Lk) : Prop where
  bx : W.heap[pb]? = some (.cells #[.map (some bz), .map (some bl)] 123 (0, 0))
  z : W.ownsMap Tryd.prog 9 heldV bz nz (DZ zs)
  l : W.ownsMap Tryd.prog 9 heldV bl nl (DL ls)
  hp : B ≤ pb
  hz : B ≤ bz
  hl : B ≤ bl
theorem PlAt.below {B B' : Nat} {W W' : World} {pb bz bl nz nl : Nat} {zs : List Zo} {ls : List Lk} (h : PlAt B W pb bz bl nz nl zs ls) (hb : Below B' W W') (hB : W.heap.size ≤ B') : PlAt B W' pb bz bl nz nl zs ls := by
  have h1 : pb < W.heap.size := (Array.getElem?_eq_some_iff.mp h.bx).1
  exact ⟨(hb.block pb (by omega)).trans h.bx, ownsMap_keep h.z (hb.block bz (by have := h.z.lt; omega)), ownsMap_keep h.l (hb.block bl (by have := h.l.lt; omega)), h.hp, h.hz, h.hl⟩
theorem PlAt.cells {B : Nat} {W : World} {pb bz bl nz nl : Nat} {zs : List Zo} {ls : List Lk} (h : PlAt B W pb bz bl nz nl zs ls) : W.cell? ⟨pb, 0, none⟩ = some (.map (some bz)) ∧ W.cell? ⟨pb, 1, none⟩ = some (.map (some bl)) ∧ pb < W.heap.size :=
  ⟨(cell_of_row W _ 0 _ _ _ h.bx).trans rfl, (cell_of_row W _ 1 _ _ _ h.bx).trans rfl, (Array.getElem?_eq_some_iff.mp h.bx).1⟩
def OfPost (b : Bk) (w : World) (e : Ending) (w' : World) : Prop :=
  Below w.heap.size w w' ∧ (bkChk b ≠ 0 → e = .returned (.tuple #[.pointer none, .int .i64 (bkChk b)])) ∧
  (bkChk b = 0 → ∃ pb bz bl nz nl, e = .returned (.tuple #[.pointer (some ⟨pb, 0, none⟩), .int .i64 0]) ∧ PlAt w.heap.size w' pb bz bl nz nl b.zones b.links ∧ nl ≤ 1000 ∧ nz ≤ 1000)
theorem BookAt.baseN {B B' : Nat} {W : World} {rv zv lv : Value} {b : Bk} (h : BookAt B W rv zv lv b) (hB : B ≤ B') : BookAt B' W rv zv lv b :=
  ⟨h.r.mono hB, h.z.mono hB, fun z hz => (h.e z hz).mono hB, h.l.mono hB, h.rs, h.zs, h.ls⟩
theorem take_succN {α : Type} (l : List α) (k : Nat) (h : k < l.length) : l.take (k + 1) = l.take k ++ [l[k]] := List.take_succ_eq_append_getElem h
theorem bk_len {b : Bk} (h : bkChk b = 0) : b.rules.length ≤ 40 ∧ b.zones.length ≤ 20 ∧ b.links.length ≤ 20 := by
  unfold bkChk at h
  split at h
  · cases h
  · omega

set_option maxRecDepth 100000 in
set_option maxHeartbeats 4000000 in
theorem namesOf_any (b : Bk) (rv zv lv : Value) (w : World) (hB : BookAt w.heap.size w rv zv lv b) (hm : MaxLen w) (ht : Tab10 w) :
    Calls Tryd.prog 32 #[.agg #[rv, zv, lv]] w (OfPost b w) := by
  have hr := hB.r
  have hz := hB.z
  have hl := hB.l
  obtain ⟨p1, c1, rfl, hlen1, hrow1⟩ := hr
  obtain ⟨p2, c2, rfl, hlen2, hrow2⟩ := hz
  obtain ⟨p3, c3, rfl, hlen3, hrow3⟩ := hl
  obtain ⟨W0, eW⟩ : ∃ W0, w.alloc (.cells #[.slice p1 b.rules.length c1, .slice p2 b.zones.length c2, .slice p3 b.links.length c3] 26) = W0 := ⟨_, rfl⟩
  have hb0 : Below w.heap.size w W0 := by rw [← eW]; exact (Below.refl _ _).alloc (Nat.le_refl _) _
  have hbx : W0.heap[w.heap.size]? = some (.cells #[.slice p1 b.rules.length c1, .slice p2 b.zones.length c2, .slice p3 b.links.length c3] 26 (0, 0)) := by rw [← eW]; exact heap_alloc_new w _
  have hl0 : w.heap.size < W0.heap.size := by rw [← eW]; simp
  have x0 := (cell_of_row W0 _ 0 _ _ _ hbx).trans rfl
  have x1 := (cell_of_row W0 _ 1 _ _ _ hbx).trans rfl
  have x2 := (cell_of_row W0 _ 2 _ _ _ hbx).trans rfl
  have HEW := Lib.hid eW
  have HB0 := Lib.hid hb0
  have HBX := Lib.hid hbx
  have HBK := Lib.hid hB
  have HCK := Lib.hid (bkCheck_any b _ _ _ W0 ((hB.below hb0 (Nat.le_refl _)).baseN (Nat.le_of_lt hl0)) (hm.below hb0) (ht.below hb0))
  have HLN := Lib.hid (bk_len (b := b))
  have HRZ := Lib.hid hB.z
  have HRL := Lib.hid hB.l
  have HSZ := Lib.hid hB.zs
  have HSL := Lib.hid hB.ls
  have HEV := Lib.hid hB.e
  have HPOST : Hid (∀ e w', OfPost b w e w' = (Below w.heap.size w w' ∧ (bkChk b ≠ 0 → e = .returned (.tuple #[.pointer none, .int .i64 (bkChk b)])) ∧ (bkChk b = 0 → ∃ pb bz bl nz nl, e = .returned (.tuple #[.pointer (some ⟨pb, 0, none⟩), .int .i64 0]) ∧ PlAt w.heap.size w' pb bz bl nz nl b.zones b.links ∧ nl ≤ 1000 ∧ nz ≤ 1000))) := fun e w' => rfl
  obtain ⟨C, eC⟩ : ∃ C, bkChk b = C := ⟨_, rfl⟩
  rw [eC] at HCK HLN HPOST
  clear eW hb0 hbx hB hm ht hrow1 hrow2 hrow3 eC
  go_enter Tryd.func32, Tryd.ntmps32
  go_upto_region 1 with fail
  rw [HEW.out]
  go_wp2_with fail
  refine HCK.out.mono ?_
  rintro e w1 ⟨rfl, hb1⟩
  have HB1 := Lib.hid (HB0.out.trans (hb1.mono HB0.out.size))
  have hx1 := (hb1.block w.heap.size hl0).trans HBX.out
  have HBX1 := Lib.hid hx1
  have hl1 : w.heap.size < w1.heap.size := by have := hb1.size; omega
  clear hb1 hx1 x0 x1 x2 HCK HBX
  by_cases hC : C = 0
  case neg =>
    have hz : (C == 0) = false := by simpa using hC
    have hz2 : (!C == 0) = true := by rw [hz]; rfl
    have HC := Lib.hid hC
    clear hC
    go_wp2_with fail
    go_ret2
    rw [HPOST.out]
    exact ⟨HB1.out, fun _ => rfl, fun h => absurd h HC.out⟩
  case pos =>
  subst hC
  obtain ⟨hr40, hz20, hl20⟩ := HLN.out rfl
  have hmk : ∀ (ty : TypeId) (W : World), (Instr.makeMap ty none).run Tryd.prog W = .ok (.map (some W.heap.size)) (W.alloc (.map #[] 0)) := fun ty W => run_makeMap ty W
  obtain ⟨W4, e4⟩ : ∃ W4, ((w1.alloc (.map #[] 0)).alloc (.map #[] 0)).alloc (.cells #[.map (some w1.heap.size), .map (some (w1.heap.size + 1))] 123) = W4 := ⟨_, rfl⟩
  have hP4 : PlAt w.heap.size W4 (w1.heap.size + 1 + 1) w1.heap.size (w1.heap.size + 1) 0 0 [] [] := by
    rw [← e4]
    refine ⟨alloc_at _ _ _ (by simp), ?_, ?_, by omega, by omega, by omega⟩
    · exact ownsMap_keep (World.ownsMap_made w1 Tryd.prog 9 heldV) (by rw [Below.heap_alloc _ _ _ (by simp; omega), Below.heap_alloc _ _ _ (by simp)])
    · have := World.ownsMap_made (w1.alloc (.map #[] 0)) Tryd.prog 9 heldV
      rw [show (w1.alloc (.map #[] 0)).heap.size = w1.heap.size + 1 by simp] at this
      exact ownsMap_keep this (by rw [Below.heap_alloc _ _ _ (by simp)])
  have hb4 : Below w1.heap.size w1 W4 := by rw [← e4]; exact (((Below.refl _ _).alloc (Nat.le_refl _) _).alloc (by simp) _).alloc (by simp; omega) _
  have hz4 : W4.heap.size = w1.heap.size + 3 := by rw [← e4]; simp
  have HP4 := Lib.hid hP4
  have HB4 := Lib.hid (HB1.out.trans (hb4.mono (Nat.le_of_lt hl1)))
  have HE4 := Lib.hid e4
  have hx4 := (hb4.block w.heap.size hl1).trans HBX1.out
  have HX4 := Lib.hid hx4
  have hl4 : w.heap.size < W4.heap.size := by omega
  have y1 := (cell_of_row W4 _ 1 _ _ _ hx4).trans rfl
  obtain ⟨pz, cz, ez, -, hrw⟩ := (HRZ.out.below HB4.out (Nat.le_refl _))
  simp only [Value.slice.injEq, true_and] at ez
  obtain ⟨rfl, rfl⟩ := ez
  have HRWZ := Lib.hid hrw
  clear hP4 hb4 e4 hx4 hrw
  go_upto_region 5 with fail
  rw [HE4.out]
  obtain ⟨bz, ebz⟩ : ∃ bz, w1.heap.size = bz := ⟨_, rfl⟩
  rw [ebz] at HP4 hz4 hl1 ⊢
  have HBZ := Lib.hid ebz
  clear ebz
  go_wp2_with fail
  go_loopw [22] (fun i wr => ∃ k : Nat, k ≤ b.zones.length ∧ i = .int .i64 k ∧ Hid (PlAt w.heap.size wr (bz + 1 + 1) bz (bz + 1) k 0 (b.zones.take k) []) ∧ Hid (Below bz W4 wr) ∧ W4.heap.size ≤ wr.heap.size) (fun i _ => b.zones.length - (intOf i).toNat)
  case atStart => exact ⟨0, Nat.zero_le _, rfl, HP4, Lib.hid (Below.refl _ _), Nat.le_refl _⟩
  case round =>
    obtain ⟨k, hk, rfl, HPR, HBR, hzr⟩ := hrel
    by_cases hkl : k < b.zones.length
    · obtain ⟨bb, o, rfl, hbl, hcs⟩ := HRWZ.out (List.ne_nil_of_length_pos (by omega))
      have hck := hcs k hkl
      have hsz := HSZ.out b.zones[k] (List.getElem_mem hkl)
      have hev := HEV.out b.zones[k] (List.getElem_mem hkl)
      have HTK : Hid (b.zones.take (k + 1) = b.zones.take k ++ [b.zones[k]]) := take_succN _ _ hkl
      obtain ⟨q, eq⟩ : ∃ q, b.zones[k] = q := ⟨_, rfl⟩
      rw [eq] at hck hsz HTK hev
      obtain ⟨nm, ev, er⟩ := q
      simp only at hev
      obtain ⟨pe, ce, rfl, -, -⟩ := hev
      have hnm := hsz.1
      have hbb : bb < bz := by omega
      have z0 := (HBR.out.cell (p := ⟨bb, o + k * 2 + 0, none⟩) hbb).trans (hck 0 _ rfl)
      have z1 := (HBR.out.cell (p := ⟨bb, o + k * 2 + 1, none⟩) hbb).trans (hck 1 _ rfl)
      simp only at hnm z0 z1
      rw [Nat.add_zero] at z0
      obtain ⟨W5, e5⟩ : ∃ W5, wr.alloc (.cells #[.string nm, .slice pe er.length ce] 51) = W5 := ⟨_, rfl⟩
      have hx5 : W5.heap[wr.heap.size]? = some (.cells #[.string nm, .slice pe er.length ce] 51 (0, 0)) := by rw [← e5]; exact heap_alloc_new wr _
      have hb5 : Below wr.heap.size wr W5 := by rw [← e5]; exact (Below.refl _ _).alloc (Nat.le_refl _) _
      have hz5 : W5.heap.size = wr.heap.size + 1 := by rw [← e5]; simp
      have HP5 := Lib.hid (HPR.out.below hb5 (Nat.le_refl _))
      have HB5 : Hid (Below bz W4 W5) := HBR.out.trans (hb5.mono (by omega))
      have q0 := (cell_of_row W5 _ 0 _ _ _ hx5).trans rfl
      have q1 := (cell_of_row W5 _ 1 _ _ _ hx5).trans rfl
      obtain ⟨q2, q3, hpb⟩ := HP5.out.cells
      have HE5 := Lib.hid e5
      clear e5 hx5 eq hcs hck hsz
      go_upto_region 8 with fail
      rw [HE5.out]
      go_still_tail 7, (by kernel_rfl)
      change wpList _ _ _ _ _ W5.drew
      refine wpList_mapUpdate_own _ rfl _ _ _ 120 rfl 9 51 keyS Tryd.underlying120 heldV bz k (DZ (b.zones.take k)) rfl HP5.out.z (by unfold maxLen; omega) (.string nm) (.agg #[.string nm, .slice pe er.length ce]) (kyS nm) rfl rfl (Go.WideMaps.keyOf_string_mk Tryd.underlying9 (by unfold maxLen; omega)) (.held (.agg #[.string nm, .slice pe er.length ce])) [] rfl ?_
      intro w6 hown6 hgrow6
      have HP6 : Hid (PlAt w.heap.size w6 (bz + 1 + 1) bz (bz + 1) (k + 1) 0 (b.zones.take (k + 1)) []) := by
        have h5 := HP5.out
        refine ⟨(hgrow6.block (bz + 1 + 1) hpb (by simp; omega)).trans h5.bx, ?_, (World.ownsMap.drew h5.l).kept hgrow6 (by simp), h5.hp, h5.hz, h5.hl⟩
        rw [HTK.out, DZ_snoc]
        exact hown6
      have HB6 : Hid (Below bz W4 w6) := HB5.out.drew.grown hgrow6 (by show bz ≤ W5.heap.size; omega) (fun q hq => by injection hq with hq; omega)
      have hz6 : W4.heap.size ≤ w6.heap.size := by have := hgrow6.size; have h2 : W5.drew.heap.size = W5.heap.size := rfl; omega
      go_wp2_with fail
      go_roundw
      case rel => exact ⟨k + 1, by omega, by go_num, HP6, HB6, hz6⟩
      case measure => simp [intOf]; omega
    · obtain rfl : k = b.zones.length := by omega
      rw [List.take_length] at HPR
      have hbW := HB4.out.trans (HBR.out.mono (by omega))
      obtain ⟨W6, e6⟩ : ∃ W6, wr = W6 := ⟨_, rfl⟩
      rw [e6] at HPR hbW hzr ⊢
      have hx6 := (HBR.out.block w.heap.size hl1).trans HX4.out
      rw [e6] at hx6
      have y2 := (cell_of_row W6 _ 2 _ _ _ hx6).trans rfl
      have hl6 : w.heap.size < W6.heap.size := by omega
      obtain ⟨pz, cz, ez, -, hrw⟩ := (HRL.out.below hbW (Nat.le_refl _))
      simp only [Value.slice.injEq, true_and] at ez
      obtain ⟨rfl, rfl⟩ := ez
      have HRWL := Lib.hid hrw
      have HBW := Lib.hid hbW
      clear hrw hbW hx6 e6 HBR HRL HEV HSZ y1 HX4
      go_wp2_with fail
      go_loopw [37] (fun i wr => ∃ k : Nat, k ≤ b.links.length ∧ i = .int .i64 k ∧ Hid (PlAt w.heap.size wr (bz + 1 + 1) bz (bz + 1) b.zones.length k b.zones (b.links.take k)) ∧ Hid (Below bz W6 wr) ∧ W6.heap.size ≤ wr.heap.size) (fun i _ => b.links.length - (intOf i).toNat)
      case atStart => exact ⟨0, Nat.zero_le _, rfl, HPR, Lib.hid (Below.refl _ _), Nat.le_refl _⟩
      case round =>
        obtain ⟨k, hk, rfl, HPR, HBR, hzr2⟩ := hrel
        by_cases hkl : k < b.links.length
        · obtain ⟨bb, o, rfl, hbl, hcs⟩ := HRWL.out (List.ne_nil_of_length_pos (by omega))
          have hck := hcs k hkl
          have hsz := HSL.out b.links[k] (List.getElem_mem hkl)
          have HTK : Hid (b.links.take (k + 1) = b.links.take k ++ [b.links[k]]) := take_succN _ _ hkl
          obtain ⟨q, eq⟩ : ∃ q, b.links[k] = q := ⟨_, rfl⟩
          rw [eq] at hck hsz HTK
          obtain ⟨nm, tt⟩ := q
          obtain ⟨hnm, htt⟩ := hsz
          have hbb : bb < bz := by omega
          have z0 := (HBR.out.cell (p := ⟨bb, o + k * 2 + 0, none⟩) hbb).trans (hck 0 _ rfl)
          have z1 := (HBR.out.cell (p := ⟨bb, o + k * 2 + 1, none⟩) hbb).trans (hck 1 _ rfl)
          simp only at hnm htt z0 z1
          rw [Nat.add_zero] at z0
          obtain ⟨W5, e5⟩ : ∃ W5, wr.alloc (.cells #[.string nm, .string tt] 86) = W5 := ⟨_, rfl⟩
          have hx5 : W5.heap[wr.heap.size]? = some (.cells #[.string nm, .string tt] 86 (0, 0)) := by rw [← e5]; exact heap_alloc_new wr _
          have hb5 : Below wr.heap.size wr W5 := by rw [← e5]; exact (Below.refl _ _).alloc (Nat.le_refl _) _
          have hz5 : W5.heap.size = wr.heap.size + 1 := by rw [← e5]; simp
          have HP5 := Lib.hid (HPR.out.below hb5 (Nat.le_refl _))
          have HB5 : Hid (Below bz W6 W5) := HBR.out.trans (hb5.mono (by omega))
          have q0 := (cell_of_row W5 _ 0 _ _ _ hx5).trans rfl
          have q1 := (cell_of_row W5 _ 1 _ _ _ hx5).trans rfl
          obtain ⟨q2, q3, hpb⟩ := HP5.out.cells
          have HE5 := Lib.hid e5
          clear e5 hx5 eq hcs hck
          go_upto_region 13 with fail
          rw [HE5.out]
          go_still_tail 8, (by kernel_rfl)
          change wpList _ _ _ _ _ W5.drew
          refine wpList_mapUpdate_own _ rfl _ _ _ 121 rfl 9 9 keyS Tryd.underlying121 heldV (bz + 1) k (DL (b.links.take k)) rfl HP5.out.l (by unfold maxLen; omega) (.string nm) (.string tt) (kyS nm) rfl rfl (Go.WideMaps.keyOf_string_mk Tryd.underlying9 (by unfold maxLen; omega)) (.held (.string tt)) [] rfl ?_
          intro w6 hown6 hgrow6
          have HP6 : Hid (PlAt w.heap.size w6 (bz + 1 + 1) bz (bz + 1) b.zones.length (k + 1) b.zones (b.links.take (k + 1))) := by
            have h5 := HP5.out
            refine ⟨(hgrow6.block (bz + 1 + 1) hpb (by simp)).trans h5.bx, (World.ownsMap.drew h5.z).kept hgrow6 (by simp), ?_, h5.hp, h5.hz, h5.hl⟩
            rw [HTK.out, DL_snoc]
            exact hown6
          have HB6 : Hid (Below bz W6 w6) := HB5.out.drew.grown hgrow6 (by show bz ≤ W5.heap.size; omega) (fun q hq => by injection hq with hq; omega)
          have hz6 : W6.heap.size ≤ w6.heap.size := by have := hgrow6.size; have h2 : W5.drew.heap.size = W5.heap.size := rfl; omega
          go_wp2_with fail
          go_roundw
          case rel => exact ⟨k + 1, by omega, by go_num, HP6, HB6, hz6⟩
          case measure => simp [intOf]; omega
        · obtain rfl : k = b.links.length := by omega
          rw [List.take_length] at HPR
          have HBD := Lib.hid (HBW.out.trans (HBR.out.mono (by omega)))
          go_wp2_with fail
          go_ret2
          rw [HPOST.out]
          exact ⟨HBD.out, fun h => absurd rfl h, fun _ => ⟨_, _, _, _, _, rfl, HPR.out, by omega, by omega⟩⟩
end Go.Proofs.YtmpeplimiaaehaaDoor
namespace Go.Proofs.YtmpeplimiaaehaaDoor
open Go.RowKit Go.Joins Go.Maps
open Classical
set_option linter.unusedVariables false
set_option linter.unusedSimpArgs false

def lookF {α : Type} (key : α → ByteArray) (l : List α) (k : ByteArray) : Option α := l.foldl (fun acc x => if key x = k then some x else acc) none
def Dof {α : Type} (key : α → ByteArray) (val : α → Value) (l : List α) : DataW Value := l.foldl (fun D x => D.put (kyS (key x)) (.held (val x))) (.map [])
theorem kyS_inj {a b : ByteArray} (h : a ≠ b) : kyS a ≠ kyS b := fun e => h (by
  injection e with e
  cases a; cases b; simp_all [Array.toList_inj])
theorem Dof_look {α : Type} (key : α → ByteArray) (val : α → Value) (k : ByteArray) : ∀ (l : List α) (D : DataW Value) (acc : Option α), IsMap D → (has D (kyS k) = acc.isSome ∧ ∀ zd, D.atKey (kyS k) zd = (match acc with | some x => .held (val x) | none => zd)) →
    (has (l.foldl (fun D x => D.put (kyS (key x)) (.held (val x))) D) (kyS k) = (l.foldl (fun acc x => if key x = k then some x else acc) acc).isSome ∧ ∀ zd, (l.foldl (fun D x => D.put (kyS (key x)) (.held (val x))) D).atKey (kyS k) zd = (match l.foldl (fun acc x => if key x = k then some x else acc) acc with | some x => .held (val x) | none => zd)) := by
  intro l
  induction l with
  | nil => intro D acc _ h; exact h
  | cons x r ih =>
    intro D acc hD h
    refine ih _ _ (hD.put _ _) ?_
    dsimp only
    by_cases e : key x = k
    · rw [if_pos e, e]
      exact ⟨has_put_same hD (show WideAt.IsKeyLit (kyS k) from trivial) _, fun zd => atKey_put_same hD (show WideAt.IsKeyLit (kyS k) from trivial) _ _⟩
    · rw [if_neg e]
      have hne : kyS k ≠ kyS (key x) := kyS_inj (fun h => e h.symm)
      refine ⟨(has_put_other hne _).trans h.1, fun zd => (atKey_put_other hne _ _).trans (h.2 zd)⟩
theorem Dof_has {α : Type} (key : α → ByteArray) (val : α → Value) (l : List α) (k : ByteArray) : has (Dof key val l) (kyS k) = (lookF key l k).isSome ∧ ∀ zd, (Dof key val l).atKey (kyS k) zd = (match lookF key l k with | some x => .held (val x) | none => zd) :=
  Dof_look key val k l (.map []) none isMap_empty ⟨rfl, fun zd => rfl⟩
theorem lookF_mem {α : Type} {key : α → ByteArray} {k : ByteArray} : ∀ {l : List α} {acc : Option α} {x : α}, l.foldl (fun acc x => if key x = k then some x else acc) acc = some x → (x ∈ l ∧ key x = k) ∨ acc = some x := by
  intro l
  induction l with
  | nil => intro acc x h; exact .inr h
  | cons y r ih =>
    intro acc x h
    rcases ih h with ⟨h1, h2⟩ | h1
    · exact .inl ⟨List.mem_cons_of_mem _ h1, h2⟩
    · dsimp only at h1
      by_cases e : key y = k
      · rw [if_pos e] at h1
        injection h1 with h1
        subst h1
        exact .inl ⟨List.mem_cons_self .., e⟩
      · rw [if_neg e] at h1; exact .inr h1
theorem lookF_in {α : Type} {key : α → ByteArray} {k : ByteArray} {l : List α} {x : α} (h : lookF key l k = some x) : x ∈ l ∧ key x = k := by
  rcases lookF_mem h with h | h
  · exact h
  · cases h
/-- a name, followed -/
def resF (zs : List Zo) (ls : List Lk) : Nat → ByteArray → Option Zo × Int
  | 0, _ => (none, 8)
  | n + 1, k => match lookF (·.nm) zs k with
    | some z => (some z, 0)
    | none => match lookF (·.nm) ls k with
      | none => (none, 6)
      | some x => resF zs ls n x.tg
def zoVal (z : Option Zo) : Value := match z with | some z => zoV z | none => .agg #[.string ⟨#[]⟩, .slice none 0 0]
theorem zeroZo (W : World) : (zeroValue 51).run Tryd.prog W = .ok (.agg #[.string ⟨#[]⟩, .slice none 0 0]) W := by kernel_rfl
theorem zeroStr (W : World) : (zeroValue 9).run Tryd.prog W = .ok (.string ⟨#[]⟩) W := by kernel_rfl
theorem look_zone {B : Nat} {W : World} {pb bz bl nz nl : Nat} {zs : List Zo} {ls : List Lk} (h : PlAt B W pb bz bl nz nl zs ls) (k : ByteArray) (hk : k.size ≤ maxLen) :
    (Instr.lookup 120 (.map (some bz)) (.string k) true).run Tryd.prog W = .ok (.tuple #[zoVal (lookF (·.nm) zs k), .bool (lookF (·.nm) zs k).isSome]) W := by
  obtain ⟨v, ps, hrun, hv⟩ := h.z.look_ok keyS Tryd.underlying120 (zeroZo W) (zd := .held (.agg #[.string ⟨#[]⟩, .slice none 0 0])) (zp := []) rfl (Go.WideMaps.keyOf_string_mk Tryd.underlying9 hk)
  have hd := Dof_has (·.nm) zoV zs k
  have e : DZ zs = Dof (·.nm) zoV zs := rfl
  rw [e] at hrun hv
  have hv2 : DataW.held v = _ := (congrArg Prod.fst (Option.some.inj hv)).trans (hd.2 _)
  rw [hrun, hd.1]
  clear hrun hv hd e
  cases hl : lookF (·.nm) zs k with
  | none => rw [hl] at hv2; rw [DataW.held.inj hv2]; rfl
  | some z => rw [hl] at hv2; rw [DataW.held.inj hv2]; rfl
theorem look_link {B : Nat} {W : World} {pb bz bl nz nl : Nat} {zs : List Zo} {ls : List Lk} (h : PlAt B W pb bz bl nz nl zs ls) (k : ByteArray) (hk : k.size ≤ maxLen) :
    (Instr.lookup 121 (.map (some bl)) (.string k) true).run Tryd.prog W = .ok (.tuple #[.string (match lookF (·.nm) ls k with | some x => x.tg | none => ⟨#[]⟩), .bool (lookF (·.nm) ls k).isSome]) W := by
  obtain ⟨v, ps, hrun, hv⟩ := h.l.look_ok keyS Tryd.underlying121 (zeroStr W) (zd := .held (.string ⟨#[]⟩)) (zp := []) rfl (Go.WideMaps.keyOf_string_mk Tryd.underlying9 hk)
  have hd := Dof_has (·.nm) (fun x : Lk => .string x.tg) ls k
  have e : DL ls = Dof (·.nm) (fun x : Lk => .string x.tg) ls := rfl
  rw [e] at hrun hv
  have hv2 : DataW.held v = _ := (congrArg Prod.fst (Option.some.inj hv)).trans (hd.2 _)
  rw [hrun, hd.1]
  clear hrun hv hd e
  cases hl : lookF (·.nm) ls k with
  | none => rw [hl] at hv2; rw [DataW.held.inj hv2]
  | some z => rw [hl] at hv2; rw [DataW.held.inj hv2]
theorem resF_z {zs : List Zo} {ls : List Lk} {n : Nat} {k : ByteArray} {z : Zo} (h : lookF (·.nm) zs k = some z) : resF zs ls (n + 1) k = (some z, 0) := by
  rw [resF, h]
theorem resF_none {zs : List Zo} {ls : List Lk} {n : Nat} {k : ByteArray} (h : lookF (·.nm) zs k = none) (h2 : lookF (·.nm) ls k = none) : resF zs ls (n + 1) k = (none, 6) := by
  rw [resF, h, h2]
theorem resF_go {zs : List Zo} {ls : List Lk} {n : Nat} {k : ByteArray} {x : Lk} (h : lookF (·.nm) zs k = none) (h2 : lookF (·.nm) ls k = some x) : resF zs ls (n + 1) k = resF zs ls n x.tg := by
  rw [resF, h, h2]
/-- all zones' eras are slices -/
def EvOk (zs : List Zo) : Prop := ∀ z ∈ zs, ∃ p c, z.ev = .slice p z.eras.length c
def ResPost (R : Option Zo × Int) (w : World) (e : Ending) (w' : World) : Prop := e = .returned (.tuple #[zoVal R.1, .int .i64 R.2]) ∧ Below w.heap.size w w'

theorem end_two {W : World} {rb : Nat} {a b : Value} {T : TypeId} (h : W.heap[rb]? = some (.cells #[a, b] T (0, 0))) (c d : Value) :
    ∃ W', (W.setCell ⟨rb, 0, none⟩ c).setCell ⟨rb, 1, none⟩ d = W' ∧ W'.heap[rb]? = some (.cells #[c, d] T (0, 0)) ∧ ∀ B, B ≤ rb → Below B W W' := by
  refine ⟨_, rfl, ?_, fun B hB => ((Below.refl _ _).setCell hB _).setCell hB _⟩
  simp [World.setCell, Array.getElem?_modify, h]
theorem ResPost.mk {R : Option Zo × Int} {z : Option Zo} {c : Int} {v : Value} {w w' : World} (h : (z, c) = R) (hv : zoVal z = v) (hb : Below w.heap.size w w') : ResPost R w (.returned (.tuple #[v, .int .i64 c])) w' := by
  subst h
  subst hv
  exact ⟨rfl, hb⟩

set_option maxRecDepth 100000 in
set_option maxHeartbeats 4000000 in
theorem resolve_any (B pb bz bl nz nl : Nat) (zs : List Zo) (ls : List Lk) (nm : ByteArray) (w : World) (hP : PlAt B w pb bz bl nz nl zs ls) (hz : EvOk zs) (hs : ∀ x ∈ ls, x.tg.size ≤ 140737488351232) (hn : nm.size ≤ 140737488351232) (hnl : nl ≤ 1000) :
    Calls Tryd.prog 33 #[.pointer (some ⟨pb, 0, none⟩), .string nm] w (ResPost (resF zs ls (Maps.size (DL ls) + 1) nm) w) := by
  obtain ⟨N, eN⟩ : ∃ N, Maps.size (DL ls) = N := ⟨_, rfl⟩
  have hN : N ≤ 1000 := by rw [← eN]; exact Nat.le_trans hP.l.size_le hnl
  rw [eN]
  obtain ⟨R, eR⟩ : ∃ R, resF zs ls (N + 1) nm = R := ⟨_, rfl⟩
  rw [eR]
  have HR := Lib.hid eR
  have hlen : ∀ {B : Nat} {W : World} {pb bz bl nz nl : Nat}, PlAt B W pb bz bl nz nl zs ls → (Builtin.len_ #[121] 3 #[.map (some bl)]).run Tryd.prog W = .ok (.int .i64 N) W := fun h => by rw [← eN]; exact h.l.len Tryd.underlying121 _
  have HLEN := Lib.hid (fun W h => hlen (B := B) (W := W) (pb := pb) (bz := bz) (bl := bl) (nz := nz) (nl := nl) h)
  have HLZ := Lib.hid (fun W k h hk => look_zone (B := B) (W := W) (pb := pb) (bz := bz) (bl := bl) (nz := nz) (nl := nl) (zs := zs) (ls := ls) h k hk)
  have HLL := Lib.hid (fun W k h hk => look_link (B := B) (W := W) (pb := pb) (bz := bz) (bl := bl) (nz := nz) (nl := nl) (zs := zs) (ls := ls) h k hk)
  obtain ⟨W0, eW⟩ : ∃ W0, w.alloc (.cells #[.string ⟨#[]⟩, .slice none 0 0] 51) = W0 := ⟨_, rfl⟩
  have hb0 : Below w.heap.size w W0 := by rw [← eW]; exact (Below.refl _ _).alloc (Nat.le_refl _) _
  have hbx : W0.heap[w.heap.size]? = some (.cells #[.string ⟨#[]⟩, .slice none 0 0] 51 (0, 0)) := by rw [← eW]; exact heap_alloc_new w _
  have hl0 : w.heap.size < W0.heap.size := by rw [← eW]; simp
  have HP0 := Lib.hid (hP.below hb0 (Nat.le_refl _))
  have HEW := Lib.hid eW
  have HB0 := Lib.hid hb0
  have HBX := Lib.hid hbx
  have HZ := Lib.hid hz
  have HS := Lib.hid hs
  have hpw : pb < w.heap.size := hP.cells.2.2
  obtain ⟨rb, erb⟩ : ∃ rb, w.heap.size = rb := ⟨_, rfl⟩
  rw [erb] at hpw hl0 HBX
  have HERB := Lib.hid erb
  clear eW hb0 hbx hP hz hs eR eN hlen erb
  go_enter Tryd.func33, Tryd.ntmps33
  go_upto_region 1 with fail
  rw [HEW.out, HERB.out]
  obtain ⟨m0, m1, mp⟩ := HP0.out.cells
  have hl := HLEN.out W0 HP0.out
  go_wp2_with fail
  go_loopw [1, 16] (fun v1 i wr => ∃ (k : Nat) (nm' : ByteArray), k ≤ N + 1 ∧ i = .int .i64 k ∧ v1 = .string nm' ∧ nm'.size ≤ 140737488351232 ∧ Hid (resF zs ls (N + 1 - k) nm' = R) ∧ Hid (Below W0.heap.size W0 wr)) (fun _ i _ => N + 1 - (intOf i).toNat)
  case atStart => exact ⟨0, nm, Nat.zero_le _, rfl, rfl, hn, HR, Lib.hid (Below.refl _ _)⟩
  case round =>
    obtain ⟨k, nm1, hk, rfl, rfl, hn1, HRR, HBR⟩ := hrel
    have hzr := HBR.out.size
    have hrb : rb < wr.heap.size := by omega
    have HPW := Lib.hid (HP0.out.below HBR.out (Nat.le_refl _))
    have HXR := Lib.hid ((HBR.out.block rb hl0).trans HBX.out)
    obtain ⟨m0, m1, mp⟩ := HPW.out.cells
    have r0 : wr.cell? ⟨rb, 0, none⟩ = some (.string ⟨#[]⟩) := (cell_of_row wr _ 0 _ _ _ HXR.out).trans rfl
    have r1 : wr.cell? ⟨rb, 1, none⟩ = some (.slice none 0 0) := (cell_of_row wr _ 1 _ _ _ HXR.out).trans rfl
    have f0 : wr.frozen? ⟨rb, 0, none⟩ = false := by simp [World.frozen?, HXR.out]
    have f1 : wr.frozen? ⟨rb, 1, none⟩ = false := by simp [World.frozen?, HXR.out]
    by_cases hkn : k < N + 1
    · obtain ⟨n, en⟩ : ∃ n, N + 1 - k = n + 1 := ⟨N - k, by omega⟩
      have hrr := HRR.out
      rw [en] at hrr
      have hkz : (k : Int) < (N : Int) + 1 := by omega
      have lz := HLZ.out wr nm1 HPW.out (by unfold maxLen; omega)
      have ll := HLL.out (wr.alloc (.cells #[.string ⟨#[]⟩, .slice none 0 0] 51)) nm1 (HPW.out.below ((Below.refl _ _).alloc (Nat.le_refl _) _) (Nat.le_refl _)) (by unfold maxLen; omega)
      cases hlz : lookF (·.nm) zs nm1 with
      | some z =>
        rw [hlz] at lz
        rw [resF_z hlz] at hrr
        obtain ⟨pe, ce, hev⟩ := HZ.out z (lookF_in hlz).1
        obtain ⟨znm, zev, zer⟩ := z
        simp only at hev
        subst hev
        change _ = Result.ok (Value.tuple #[Value.agg #[Value.string znm, Value.slice pe zer.length ce], Value.bool true]) wr at lz
        have HRE := Lib.hid hrr
        clear hlz hrr ll en
        go_wp2_with fail
        obtain ⟨W9, e9, hh9, hb9⟩ := end_two HXR.out (.string znm) (.slice pe zer.length ce)
        rw [e9]
        obtain ⟨W10, e10⟩ : ∃ W10, W9.alloc (.cells #[(.string znm), (.slice pe zer.length ce)] 51) = W10 := ⟨_, rfl⟩
        rw [e10]
        have hs9 : wr.heap.size ≤ W9.heap.size := (hb9 0 (Nat.zero_le _)).size
        have hh10 : W10.heap[rb]? = some (.cells #[(.string znm), (.slice pe zer.length ce)] 51 (0, 0)) := by rw [← e10, Below.heap_alloc _ _ _ (by omega)]; exact hh9
        have v0 := (cell_of_row W10 _ 0 _ _ _ hh10).trans rfl
        have v1 := (cell_of_row W10 _ 1 _ _ _ hh10).trans rfl
        have HBD : Below w.heap.size w W10 := by
          rw [← e10]
          exact (HB0.out.trans ((HBR.out.mono HB0.out.size).trans (hb9 _ (by have := HERB.out; omega)))).alloc (by have := HERB.out; omega) _
        exact bodyPost_ret (v := .tuple #[.agg #[(.string znm), (.slice pe zer.length ce)], .int .i64 0]) (by simp [results, Tryd.results33, go_sem, v0, v1]) rfl (ResPost.mk (z := some ⟨znm, .slice pe zer.length ce, zer⟩) HRE.out rfl HBD)
      | none =>
        rw [hlz] at lz
        change _ = Result.ok (Value.tuple #[Value.agg #[Value.string ⟨#[]⟩, Value.slice none 0 0], Value.bool false]) wr at lz
        cases hll : lookF (·.nm) ls nm1 with
        | none =>
          rw [hll] at ll
          rw [resF_none hlz hll] at hrr
          have HRE := Lib.hid hrr
          clear hlz hll hrr en
          go_wp2_with fail
          obtain ⟨W9, e9, hh9, hb9⟩ := end_two HXR.out (.string ⟨#[]⟩) (.slice none 0 0)
          rw [e9]
          obtain ⟨W10, e10⟩ : ∃ W10, W9.alloc (.cells #[(.string ⟨#[]⟩), (.slice none 0 0)] 51) = W10 := ⟨_, rfl⟩
          rw [e10]
          have hs9 : wr.heap.size ≤ W9.heap.size := (hb9 0 (Nat.zero_le _)).size
          have hh10 : W10.heap[rb]? = some (.cells #[(.string ⟨#[]⟩), (.slice none 0 0)] 51 (0, 0)) := by rw [← e10, Below.heap_alloc _ _ _ (by omega)]; exact hh9
          have v0 := (cell_of_row W10 _ 0 _ _ _ hh10).trans rfl
          have v1 := (cell_of_row W10 _ 1 _ _ _ hh10).trans rfl
          have HBD : Below w.heap.size w W10 := by
            rw [← e10]
            exact (HB0.out.trans ((HBR.out.mono HB0.out.size).trans (hb9 _ (by have := HERB.out; omega)))).alloc (by have := HERB.out; omega) _
          exact bodyPost_ret (v := .tuple #[.agg #[(.string ⟨#[]⟩), (.slice none 0 0)], .int .i64 6]) (by simp [results, Tryd.results33, go_sem, v0, v1]) rfl (ResPost.mk (z := none) HRE.out rfl HBD)
        | some x =>
          rw [hll] at ll
          rw [resF_go hlz hll] at hrr
          have hxs := HS.out x (lookF_in hll).1
          have en2 : N + 1 - (k + 1) = n := by omega
          rw [← en2] at hrr
          have HRE := Lib.hid hrr
          clear hlz hll hrr en en2
          go_wp2_with fail
          go_roundw
          case rel => exact ⟨k + 1, x.tg, by omega, by go_num, rfl, hxs, HRE, Lib.hid (HBR.out.alloc hzr _)⟩
          case measure => simp [intOf]; omega
    · have en : N + 1 - k = 0 := by omega
      have hrr := HRR.out
      rw [en] at hrr
      have HRE := Lib.hid hrr
      have hkz : ¬ (k : Int) < (N : Int) + 1 := by omega
      clear hrr en
      go_wp2_with fail
      obtain ⟨W9, e9, hh9, hb9⟩ := end_two HXR.out (.string ⟨#[]⟩) (.slice none 0 0)
      rw [e9]
      have v0 : W9.cell? ⟨rb, 0, none⟩ = some (.string ⟨#[]⟩) := (cell_of_row W9 _ 0 _ _ _ hh9).trans rfl
      have v1 : W9.cell? ⟨rb, 1, none⟩ = some (.slice none 0 0) := (cell_of_row W9 _ 1 _ _ _ hh9).trans rfl
      have HBD : Below w.heap.size w W9 := HB0.out.trans ((HBR.out.mono HB0.out.size).trans (hb9 _ (by have := HERB.out; omega)))
      exact bodyPost_ret (v := .tuple #[.agg #[.string ⟨#[]⟩, .slice none 0 0], .int .i64 8]) (by simp [results, Tryd.results33, go_sem, v0, v1]) rfl (ResPost.mk (z := none) HRE.out rfl HBD)
end Go.Proofs.YtmpeplimiaaehaaDoor
namespace Go.Proofs.YtmpeplimiaaehaaDoor
open Go.RowKit Go.Joins Go.Maps
open Classical
set_option linter.unusedVariables false
set_option linter.unusedSimpArgs false

abbrev erL (x : Er) : List Value := (erCells x).toList
def erFlat (l : List Er) : List Value := l.flatMap erL
theorem infoEr : (Tryd.prog.info? 61).map (fun i => (i.zero, i.size, i.bytes)) = some (some (.agg #[.int .i64 0, .string ⟨#[]⟩, .int .i64 0, .string ⟨#[]⟩, .int .i64 0]), 5, 56) := by kernel_rfl
theorem undErS : Tryd.prog.underlying 49 = some (.slice 61) := by kernel_rfl
theorem erFlat_len (l : List Er) : (erFlat l).length = l.length * 5 := by
  induction l with
  | nil => rfl
  | cons x r ih =>
    have e : erFlat (x :: r) = erL x ++ erFlat r := by simp [erFlat]
    rw [e, List.length_append, ih]
    simp
    omega
theorem erFlat_get : ∀ (l : List Er) (j : Nat) (u : Value), (erFlat l)[j]? = some u → ∃ i, ∃ h : i < l.length, ∃ m, j = i * 5 + m ∧ (erL l[i])[m]? = some u
  | [], j, u, h => by simp [erFlat] at h
  | x :: r, j, u, h => by
    have e : erFlat (x :: r) = erL x ++ erFlat r := by simp [erFlat]
    rw [e] at h
    by_cases hj : j < 5
    · rw [List.getElem?_append_left (by simpa using hj)] at h
      exact ⟨0, by simp, j, by omega, h⟩
    · rw [List.getElem?_append_right (by simpa using Nat.le_of_not_lt hj)] at h
      obtain ⟨i, hi, m, e1, e2⟩ := erFlat_get r _ u h
      have e3 : (erL x).length = 5 := rfl
      rw [e3] at e1
      exact ⟨i + 1, by simpa using hi, m, by omega, e2⟩
theorem erFlat_one (l : List Er) : ∀ u ∈ erFlat l, u.oneCell' = true := by
  intro u hu
  obtain ⟨x, -, hx⟩ := List.mem_flatMap.1 hu
  simp at hx
  rcases hx with rfl | rfl | rfl | rfl | rfl <;> rfl

set_option maxRecDepth 100000 in
set_option maxHeartbeats 1000000 in
theorem CloneEr_any (l : List Er) (v : Value) (B : Nat) (w : World) (h : RowsAt erL 5 B w v l) (hl : l.length ≤ 1000) :
    Calls Tryd.prog 34 #[v] w fun e w' => ∃ vo, e = .returned vo ∧ w'.ownsRow w.heap.size 61 5 vo l.length (erFlat l) ∧ Below w.heap.size w w' := by
  obtain ⟨p, cap, rfl, hlen, hrow⟩ := h
  have qT : ∀ (W : World) (a : Option Addr) (n c n' c' : Nat), (binOp .eql 49 (.slice a n c) (.slice none n' c')).run Tryd.prog W = .ok (.bool a.isNone) W := fun W a n c n' c' => Lib.run_eql_slice_nil W _ _ a n c n' c' undErS
  cases p with
  | none =>
    have : l = [] := by
      by_cases hn : l = []
      · exact hn
      · obtain ⟨b, o, e, -⟩ := hrow hn; cases e
    subst this
    clear hrow
    go_enter Tryd.func34, Tryd.ntmps34
    go_wp2_with fail
    go_ret
    exact ⟨_, rfl, World.ownsRow_nil _ _ _ _, Below.refl _ _⟩
  | some ad =>
    have hnews : ∀ j u, (erFlat l)[j]? = some u → w.cell? (ad.add j) = some u := by
      intro j u hu
      obtain ⟨i, hi, m, rfl, hm⟩ := erFlat_get l j u hu
      obtain ⟨b, o, e, hlt, hc⟩ := hrow (List.ne_nil_of_length_pos (by omega))
      injection e with e
      subst e
      have := hc i hi m u hm
      rw [Nat.add_assoc] at this
      have e2 : (⟨b, o, none⟩ : Addr).add (i * 5 + m) = ⟨b, o + (i * 5 + m), none⟩ := by
        unfold Addr.add
        split
        · rename_i h0; rw [h0]; rfl
        · rfl
      rw [e2]
      exact this
    have HNW := Lib.hid hnews
    have HFL := Lib.hid (erFlat_len l)
    have HFO := Lib.hid (erFlat_one l)
    obtain ⟨i1, hi1, hz10, hz11, hz12⟩ := info_parts infoEr
    obtain ⟨n, en⟩ : ∃ n, l.length = n := ⟨_, rfl⟩
    rw [en] at hl HFL ⊢
    clear hnews hrow hlen
    go_enter Tryd.func34, Tryd.ntmps34
    have hROW := World.ownsRow_lit (base := w.heap.size) (e := 61) (size := 5) w #[] 0 (Nat.le_refl _) (by decide) rfl
    have HROW := Lib.hid hROW
    have HNEW : Hid (∀ j u, (erFlat l)[j]? = some u → (w.alloc (.cells #[] 61)).cell? (ad.add j) = some u) := by
      show ∀ j u, _
      intro j u hu
      have h1 := HNW.out j u hu
      exact (((Below.refl w.heap.size w).alloc (Nat.le_refl _) (.cells #[] 61)).cell (p := ad.add j) (World.block_lt_of_cell? _ _ h1)).trans h1
    have HML : 0 + n ≤ maxLen := by simp only [maxLen]; omega
    have HMB : (0 + n) * 56 ≤ 140737488355328 := by omega
    have HSZ : w.heap.size ≤ (w.alloc (.cells #[] 61)).heap.size := by simp
    clear hROW
    go_wp2_with (at_builtin; refine wpList_append_own _ rfl _ _ 49 rfl w.heap.size 61 i1 (.agg #[.int .i64 0, .string ⟨#[]⟩, .int .i64 0, .string ⟨#[]⟩, .int .i64 0]) 5 56 undErS hi1 hz10 hz11 hz12 rfl (by decide) _ _ _ rfl HROW.out ad n cap (erFlat l) rfl HFL.out HNEW.out HFO.out HML HMB HSZ ?_; intro v' w10 hown10 hgrow10 _)
    go_ret
    refine ⟨_, rfl, ?_, (((Below.refl _ _).alloc (Nat.le_refl _) _).grown hgrow10 HSZ (fun q hq => (World.ownsRow.lt HROW.out q hq).1))⟩
    have := hown10
    simp only [Nat.zero_add] at this
    exact this
theorem bk_parts {b : Bk} (h : bkChk b = 0) : (∀ i (hi : i < b.zones.length), zoneChk b.rules (b.zones.take i) b.zones[i] = 0) ∧ ∀ i (hi : i < b.links.length), linkChk b (b.links.take i) b.links[i] = 0 := by
  by_cases h0 : 40 < b.rules.length ∨ 20 < b.zones.length ∨ 20 < b.links.length
  · rw [bkChk_2 b h0] at h; cases h
  · by_cases h1 : firstE ruChk b.rules = 0
    · by_cases h2 : firstE (chkZ b) (List.range b.zones.length) = 0
      · rw [bkChk_l b h0 h1 h2] at h
        exact ⟨fun i hi => by rw [← chkZ_at b i hi]; exact (firstE_zero _ _).1 h2 i (List.mem_range.2 hi), fun i hi => by rw [← chkL_at b i hi]; exact (firstE_zero _ _).1 h i (List.mem_range.2 hi)⟩
      · rw [bkChk_z b h0 h1 h2] at h; exact absurd h h2
    · rw [bkChk_r b h0 h1] at h; exact absurd h h1
structure ZoneOk (b : Bk) (i : Nat) (z : Zo) : Prop where
  nm : nameB z.nm = true
  fresh : ∀ y ∈ b.zones.take i, y.nm ≠ z.nm
  ne : z.eras ≠ []
  le : z.eras.length ≤ 700
  er : firstE (eraChk b.rules z.eras) (List.range z.eras.length) = 0
theorem bk_zone {b : Bk} (h : bkChk b = 0) (i : Nat) (hi : i < b.zones.length) : ZoneOk b i b.zones[i] := by
  have hz := (bk_parts h).1 i hi
  unfold zoneChk at hz
  split at hz
  · cases hz
  · rename_i h1
    split at hz
    · cases hz
    · rename_i h2
      split at hz
      · cases hz
      · rename_i h3
        split at hz
        · cases hz
        · rename_i h4
          refine ⟨by simpa using h1, fun y hy e => h2 (List.any_eq_true.2 ⟨y, hy, by simpa using e⟩), h3, by omega, hz⟩
theorem bk_er {b : Bk} (h : bkChk b = 0) {z : Zo} (hz : z ∈ b.zones) : z.eras ≠ [] ∧ z.eras.length ≤ 700 := by
  obtain ⟨i, hi, rfl⟩ := List.mem_iff_getElem.1 hz
  exact ⟨(bk_zone h i hi).ne, (bk_zone h i hi).le⟩

/-- what names.Resolve answers -/
def rsv (b : Bk) (nm : ByteArray) : Option Zo × Int := if bkChk b ≠ 0 then (none, bkChk b) else resF b.zones b.links (Maps.size (DL b.links) + 1) nm
def zNm (z : Option Zo) : ByteArray := match z with | some z => z.nm | none => ⟨#[]⟩
def zEr (z : Option Zo) : List Er := match z with | some z => z.eras | none => []
def RsvPost (R : Option Zo × Int) (w : World) (e : Ending) (w' : World) : Prop :=
  ∃ vo, e = .returned (.tuple #[.agg #[.string (zNm R.1), vo], .int .i64 R.2]) ∧ w'.ownsRow w.heap.size 61 5 vo (zEr R.1).length (erFlat (zEr R.1)) ∧ Below w.heap.size w w'
theorem rsv_bad {b : Bk} {nm : ByteArray} (h : bkChk b ≠ 0) : rsv b nm = (none, bkChk b) := by unfold rsv; rw [if_pos h]
theorem rsv_go {b : Bk} {nm : ByteArray} (h : bkChk b = 0) : rsv b nm = resF b.zones b.links (Maps.size (DL b.links) + 1) nm := by unfold rsv; rw [if_neg (fun g => g h)]
theorem resF_in {zs : List Zo} {ls : List Lk} : ∀ {n : Nat} {k : ByteArray} {z : Zo} {c : Int}, resF zs ls n k = (some z, c) → z ∈ zs ∧ c = 0 := by
  intro n
  induction n with
  | zero => intro k z c h; cases h
  | succ n ih =>
    intro k z c h
    rw [resF] at h
    split at h
    · rename_i z2 e
      cases h
      exact ⟨(lookF_in e).1, rfl⟩
    · split at h
      · cases h
      · exact ih h
end Go.Proofs.YtmpeplimiaaehaaDoor
namespace Go.Proofs.YtmpeplimiaaehaaDoor
open Go.RowKit Go.Joins
open Classical
set_option linter.unusedVariables false
set_option linter.unusedSimpArgs false

def yearsB : ByteArray := ⟨#[121, 101, 97, 114, 115]⟩
def leapT (t : Int) : Prop := Civ.mm (t / 86400) = 2 ∧ Civ.dd (t / 86400) = 29
instance (t : Int) : Decidable (leapT t) := by unfold leapT; infer_instance
/-- the rule of a turn -/
def yrR (t : Tn) : Ru := ⟨yearsB, Civ.yy (t.a / 86400), Civ.yy (t.a / 86400), Civ.mm (t.a / 86400), 1, 0, if leapT t.a then 28 else Civ.dd (t.a / 86400), if leapT t.a then t.a % 86400 + 86400 else t.a % 86400, 2, t.s, t.lt⟩
def prevB (p : Option Int) (x : Int) : Bool := match p with | none => false | some q => decide (x ≤ q)
def tnE (prev : Option Int) (t : Tn) : Int :=
  if ¬ (-135140 ≤ t.a / 86400 ∧ t.a / 86400 ≤ 157053) ∨ Civ.yy (t.a / 86400) < 1900 ∨ 2100 < Civ.yy (t.a / 86400) then 1 else
  if prevB prev t.a = true then 5 else
  if t.s < 0 ∨ 10800 < t.s then 1 else
  if t.lt.data.toList ≠ [45] ∧ abbrB t.lt = false then 3 else 0
def yrsE : Option Int → List Tn → Int
  | _, [] => 0
  | p, t :: r => if tnE p t = 0 then yrsE (some t.a) r else tnE p t
def yearsR (l : List Tn) : Int × List Ru := if 40 < l.length then (2, []) else if yrsE none l = 0 then (0, l.map yrR) else (yrsE none l, [])
structure OkTn (t : Tn) : Prop where
  n1 : -135140 ≤ t.a / 86400
  n2 : t.a / 86400 ≤ 157053
  y1 : 1900 ≤ Civ.yy (t.a / 86400)
  y2 : Civ.yy (t.a / 86400) ≤ 2100
  s1 : 0 ≤ t.s
  s2 : t.s ≤ 10800
  lt : t.lt.data.toList = [45] ∨ abbrB t.lt = true
theorem tnE_ok {p : Option Int} {t : Tn} (h : tnE p t = 0) : OkTn t ∧ ∀ q, p = some q → q < t.a := by
  unfold tnE at h
  split at h
  · cases h
  rename_i h1
  split at h
  · cases h
  rename_i h2
  split at h
  · cases h
  rename_i h3
  split at h
  · cases h
  rename_i h4
  refine ⟨⟨by omega, by omega, by omega, by omega, by omega, by omega, ?_⟩, fun q e => ?_⟩
  · by_cases e : t.lt.data.toList = [45]
    · exact .inl e
    · refine .inr ?_
      cases g : abbrB t.lt with
      | true => rfl
      | false => exact absurd ⟨e, g⟩ h4
  · subst e
    unfold prevB at h2
    simp only [decide_eq_true_eq] at h2
    omega
theorem yrs_ok : ∀ (l : List Tn) (p : Option Int), yrsE p l = 0 → (∀ t ∈ l, OkTn t) ∧ l.Pairwise (fun a b => a.a < b.a) ∧ ∀ q, p = some q → ∀ t ∈ l, q < t.a
  | [], _, _ => ⟨fun _ h => (by cases h), List.Pairwise.nil, fun _ _ _ h => (by cases h)⟩
  | t :: r, p, h => by
    unfold yrsE at h
    split at h
    · rename_i h0
      obtain ⟨o, hq⟩ := tnE_ok h0
      obtain ⟨i1, i2, i3⟩ := yrs_ok r (some t.a) h
      refine ⟨fun x hx => ?_, List.Pairwise.cons (fun x hx => i3 t.a rfl x hx) i2, fun q e x hx => ?_⟩
      · rcases List.mem_cons.1 hx with rfl | hx
        · exact o
        · exact i1 x hx
      · have a1 := hq q e
        rcases List.mem_cons.1 hx with rfl | hx
        · exact a1
        · have := i3 t.a rfl x hx
          omega
    · rename_i h0; exact absurd h h0
theorem yr_days {t : Tn} (o : OkTn t) : 86400 * Civ.days (yrR t).yf (yrR t).mo (yrR t).dn + (yrR t).tm = t.a := by
  have hd := (Civ.date_valid (t.a / 86400) o.n1 o.n2).2
  show 86400 * Civ.days (Civ.yy (t.a / 86400)) (Civ.mm (t.a / 86400)) (if leapT t.a then 28 else Civ.dd (t.a / 86400)) + (if leapT t.a then t.a % 86400 + 86400 else t.a % 86400) = t.a
  by_cases h : leapT t.a
  · rw [if_pos h, if_pos h]
    have e : Civ.days (Civ.yy (t.a / 86400)) (Civ.mm (t.a / 86400)) 28 = t.a / 86400 - 1 := by
      have h1 : Civ.dd (t.a / 86400) = 29 := h.2
      have h2 : Civ.mm (t.a / 86400) = 2 := h.1
      rw [h1] at hd
      have a := Civ.days_eq (Civ.yy (t.a / 86400)) (Civ.mm (t.a / 86400)) 28 (by omega) (by omega)
      have b := Civ.days_eq (Civ.yy (t.a / 86400)) (Civ.mm (t.a / 86400)) 29 (by omega) (by omega)
      rw [b] at hd
      rw [a]
      omega
    rw [e]; omega
  · rw [if_neg h, if_neg h, hd]; omega
theorem yr_ok {t : Tn} (o : OkTn t) : OkRu (yrR t) := by
  have hv := (Civ.date_valid (t.a / 86400) o.n1 o.n2).1
  obtain ⟨-, -, hm1, hm2, hd1, hd2⟩ := hv
  have hb := Civ.mlen_bd (Civ.yy (t.a / 86400)) (Civ.mm (t.a / 86400)) hm1 hm2
  refine ⟨by kernel_rfl, ?_, o.y1, o.y2, Int.le_refl _, o.y2, hm1, hm2, ?_, ?_, ?_, ?_, by show (0 : Int) ≤ 2; decide, by show (2 : Int) ≤ 2; decide, o.s1, o.s2⟩
  · rcases o.lt with h | h
    · exact .inl (by rw [ByteArray.toList_eq]; exact h)
    · exact .inr h
  · show dayB 1 0 (if leapT t.a then 28 else Civ.dd (t.a / 86400)) = true
    unfold dayB
    refine decide_eq_true (.inl ⟨rfl, rfl, ?_⟩)
    split <;> omega
  · show (if leapT t.a then 28 else Civ.dd (t.a / 86400)) ≤ Civ.mlen 1901 (Civ.mm (t.a / 86400))
    have e1 : Civ.mlen 1901 (Civ.mm (t.a / 86400)) = if Civ.mm (t.a / 86400) = 2 then 28 else Civ.mlen (Civ.yy (t.a / 86400)) (Civ.mm (t.a / 86400)) := by
      unfold Civ.mlen
      by_cases g : Civ.mm (t.a / 86400) = 2
      · rw [if_pos g, if_pos g]; decide
      · rw [if_neg g, if_neg g, if_neg g]
    rw [e1]
    by_cases g : Civ.mm (t.a / 86400) = 2
    · rw [if_pos g]
      have hl := Civ.lp01 (Civ.yy (t.a / 86400))
      have : Civ.mlen (Civ.yy (t.a / 86400)) (Civ.mm (t.a / 86400)) = 28 + Civ.lp (Civ.yy (t.a / 86400)) := by unfold Civ.mlen; rw [if_pos g]
      by_cases h : leapT t.a
      · rw [if_pos h]; omega
      · rw [if_neg h]
        have : Civ.dd (t.a / 86400) ≠ 29 := fun e => h ⟨g, e⟩
        omega
    · rw [if_neg g, if_neg (fun h => g h.1)]
      exact hd2
  · show -604800 ≤ if leapT t.a then t.a % 86400 + 86400 else t.a % 86400
    split <;> omega
  · show (if leapT t.a then t.a % 86400 + 86400 else t.a % 86400) ≤ 604800
    split <;> omega
theorem outF_yr (off : Int) : ∀ (l : List Tn) (save : Int) (last : Option Int), l.Pairwise (fun a b => a.a < b.a) → (∀ q, last = some q → ∀ t ∈ l, q < t.a) → outF off save last (l.map fun t => (t.a, yrR t)) = some l
  | [], _, _, _, _ => rfl
  | t :: r, save, last, hp, hq => by
    have e0 : clkT off save (t.a, yrR t) = t.a := rfl
    rw [List.map_cons, outF_cons, e0, outF_yr off r _ _ (List.pairwise_cons.1 hp).2 (fun q e x hx => by
      injection e with e
      subst e
      exact (List.pairwise_cons.1 hp).1 x hx)]
    rw [if_neg]
    · rfl
    · cases last with
      | none => simp
      | some q =>
        have := hq q rfl t List.mem_cons_self
        simp only [decide_eq_true_eq]
        omega
theorem yrs_law {l : List Tn} {off : Int} (h : (yearsR l).1 = 0) (hn : l ≠ []) (h1 : -64800 ≤ off) (h2 : off ≤ 64800) : ofR ⟨(yearsR l).2, [], []⟩ yearsB off = (0, l) := by
  unfold yearsR at h ⊢
  split at h
  · cases h
  rename_i hl
  split at h
  case isFalse h0 => exact absurd h h0
  rename_i h0
  rw [if_neg hl, if_pos h0]
  obtain ⟨ho, hp, -⟩ := yrs_ok l none h0
  have hru : ∀ r ∈ l.map yrR, OkRu r := fun r hr => by
    obtain ⟨t, ht, rfl⟩ := List.mem_map.1 hr
    exact yr_ok (ho t ht)
  have hb : bkChk ⟨l.map yrR, [], []⟩ = 0 := by
    rw [bkChk_l _ (by show ¬ (40 < (l.map yrR).length ∨ 20 < 0 ∨ 20 < 0); rw [List.length_map]; omega) ((firstE_zero _ _).2 fun r hr => ok_ru (hru r hr)) rfl]
    rfl
  rw [ofR_mk hb (by omega)]
  show mkR (l.map yrR) yearsB off = _
  have e1 : ((l.map yrR).any fun r => decide (r.nm = yearsB)) = true := by
    obtain ⟨t, ht⟩ := List.exists_mem_of_ne_nil l hn
    exact List.any_eq_true.2 ⟨yrR t, List.mem_map.2 ⟨t, ht, rfl⟩, decide_eq_true rfl⟩
  have ef : (l.map yrR).filter (fun r => decide (r.nm = yearsB)) = l.map yrR := by
    refine List.filter_eq_self.2 fun r hr => ?_
    obtain ⟨t, ht, rfl⟩ := List.mem_map.1 hr
    exact decide_eq_true rfl
  have e2 : yearsOf (l.map yrR) yearsB = l.length := by
    unfold yearsOf
    rw [ef, List.map_map]
    have : ∀ l : List Tn, (l.map ((fun r : Ru => r.yt - r.yf + 1) ∘ yrR)).sum = (l.length : Int) := by
      intro l
      induction l with
      | nil => rfl
      | cons t r ih =>
        rw [List.map_cons, List.sum_cons, ih]
        show (Civ.yy (t.a / 86400) - Civ.yy (t.a / 86400) + 1) + (r.length : Int) = ((r.length + 1 : Nat) : Int)
        omega
    exact this l
  have e3 : nomsOf dayN (l.map yrR) yearsB = l.map fun t => (t.a, yrR t) := by
    unfold nomsOf
    rw [ef]
    have : ∀ l : List Tn, (∀ t ∈ l, OkTn t) → (l.map yrR).flatMap (nomOf dayN) = l.map fun t => (t.a, yrR t) := by
      intro l
      induction l with
      | nil => intro _; rfl
      | cons t r ih =>
        intro ho
        rw [List.map_cons, List.flatMap_cons, ih (fun x hx => ho x (List.mem_cons_of_mem _ hx)), List.map_cons]
        have hy := yr_days (ho t List.mem_cons_self)
        have : nomOf dayN (yrR t) = [(t.a, yrR t)] := by
          unfold nomOf
          have e : ((yrR t).yt - (yrR t).yf + 1).toNat = 1 := by
            show (Civ.yy (t.a / 86400) - Civ.yy (t.a / 86400) + 1).toNat = 1
            omega
          rw [e]
          show [(86400 * dayN (yrR t) ((yrR t).yf + ((0 : Nat) : Int)) + (yrR t).tm, yrR t)] = _
          have e2 : dayN (yrR t) ((yrR t).yf + ((0 : Nat) : Int)) = Civ.days (yrR t).yf (yrR t).mo (yrR t).dn := by
            unfold dayN
            rw [if_pos (show (yrR t).dk = 1 from rfl), show (yrR t).yf + ((0 : Nat) : Int) = (yrR t).yf by omega]
          rw [e2, hy]
        rw [this]
        rfl
    exact this l ho
  have e4 : srt (l.map fun t => (t.a, yrR t)) = l.map fun t => (t.a, yrR t) := by
    unfold srt
    refine List.mergeSort_of_pairwise ?_
    refine List.pairwise_map.2 (hp.imp fun {a b} hab => ?_)
    show decide (a.a ≤ b.a) = true
    exact decide_eq_true (by omega)
  unfold mkR
  rw [e1, if_neg (by decide), e2, if_neg (by omega), e3, e4, outF_yr off l 0 none hp (fun q e => by cases e)]
end Go.Proofs.YtmpeplimiaaehaaDoor
namespace Go.Proofs.YtmpeplimiaaehaaDoor
open Go.RowKit Go.Joins
open Classical
set_option linter.unusedVariables false
set_option linter.unusedSimpArgs false

set_option maxRecDepth 100000 in
set_option maxHeartbeats 4000000 in
theorem Of_book (MK : MakeSays) (b : Bk) (rv zv lv : Value) (nm : ByteArray) (off : Int) (w : World) (hB : BookAt w.heap.size w rv zv lv b) (hm : MaxLen w) (ht : Tab10 w) :
    Calls Tryd.prog 9 #[.agg #[rv, zv, lv], .string nm, .int .i64 off] w (TnPost (ofR b nm off) w) := by
  obtain ⟨W0, eW⟩ : ∃ W0, w.alloc (.cells #[rv, zv, lv] 26) = W0 := ⟨_, rfl⟩
  have hr := hB.r
  have hz := hB.z
  have hl := hB.l
  obtain ⟨p1, c1, rfl, hlen1, hrow1⟩ := hr
  obtain ⟨p2, c2, rfl, hlen2, hrow2⟩ := hz
  obtain ⟨p3, c3, rfl, hlen3, hrow3⟩ := hl
  have hb0 : Below w.heap.size w W0 := by rw [← eW]; exact (Below.refl _ _).alloc (Nat.le_refl _) _
  have hbx : W0.heap[w.heap.size]? = some (.cells #[.slice p1 b.rules.length c1, .slice p2 b.zones.length c2, .slice p3 b.links.length c3] 26 (0, 0)) := by rw [← eW]; exact heap_alloc_new w _
  have hl0 : w.heap.size < W0.heap.size := by rw [← eW]; simp
  have x0 := (cell_of_row W0 _ 0 _ _ _ hbx).trans rfl
  have x1 := (cell_of_row W0 _ 1 _ _ _ hbx).trans rfl
  have x2 := (cell_of_row W0 _ 2 _ _ _ hbx).trans rfl
  have HEW := Lib.hid eW
  have HB0 := Lib.hid hb0
  have HBK := Lib.hid (hB.below hb0 (Nat.le_refl _))
  have HCK := Lib.hid (bkCheck_any b _ _ _ W0 (by exact { r := HBK.out.r.mono (Nat.le_of_lt hl0), z := HBK.out.z.mono (Nat.le_of_lt hl0), e := fun z hz => (HBK.out.e z hz).mono (Nat.le_of_lt hl0), l := HBK.out.l.mono (Nat.le_of_lt hl0), rs := HBK.out.rs, zs := HBK.out.zs, ls := HBK.out.ls }) (hm.below hb0) (ht.below hb0))
  have HRU := Lib.hid (bk_rules (b := b))
  have HE1 := Lib.hid (ofR_bad (b := b) (nm := nm) (off := off))
  have HE2 := Lib.hid (ofR_1 (b := b) (nm := nm) (off := off))
  have HE3 := Lib.hid (ofR_mk (b := b) (nm := nm) (off := off))
  obtain ⟨R, eR⟩ : ∃ R, ofR b nm off = R := ⟨_, rfl⟩
  rw [eR] at HE1 HE2 HE3 ⊢
  obtain ⟨C, eC⟩ : ∃ C, bkChk b = C := ⟨_, rfl⟩
  rw [eC] at HE1 HE2 HE3 HCK HRU
  have HR0 := Lib.hid HBK.out.r
  clear eW hb0 hbx hB hm ht hrow1 hrow2 hrow3 eR eC
  go_enter Tryd.func9, Tryd.ntmps9
  go_upto_region 1 with fail
  rw [HEW.out]
  go_wp2_with fail
  refine HCK.out.mono ?_
  rintro e w1 ⟨rfl, hb1⟩
  have HB1 := Lib.hid (HB0.out.trans (hb1.mono HB0.out.size))
  have hl1 : w.heap.size < w1.heap.size := by have := hb1.size; omega
  have y0 := (hb1.cell (p := ⟨w.heap.size, 0, none⟩) hl0).trans x0
  have HR1 := Lib.hid (HR0.out.below hb1 (Nat.le_of_lt hl0))
  clear hb1 HCK x0 x1 x2
  by_cases hc : C = 0
  · subst hc
    by_cases ho : off < -64800 ∨ 64800 < off
    · have HE := Lib.hid (HE2.out rfl ho)
      by_cases h1 : off < -64800
      · clear ho
        go_wp2_with fail
        go_ret2
        exact TnPost.bad HE.out HB1.out
      · have h2 : 64800 < off := by omega
        clear ho
        go_wp2_with fail
        go_ret2
        exact TnPost.bad HE.out HB1.out
    · have HE := Lib.hid (HE3.out rfl ho)
      obtain ⟨hr1, hr2⟩ := HRU.out rfl
      have h1 : ¬ off < -64800 := by omega
      have h2 : ¬ 64800 < off := by omega
      have HMK := Lib.hid (fun W hW => MK b.rules nm off (.slice p1 b.rules.length c1) W hW hr2 hr1 (by omega) (by omega))
      clear ho hr1 hr2
      go_wp2_with fail
      refine (HMK.out _ (HR1.out.mono (Nat.le_of_lt hl1))).mono ?_
      rintro e w2 ⟨vo, rfl, hrow, hb2⟩
      have HP : Hid (TnPost R w (.returned (.tuple #[vo, .int .i64 (mkR b.rules nm off).1])) w2) := by
        show TnPost _ _ _ _
        rw [HE.out]
        exact ⟨vo, rfl, own_base hrow (Nat.le_of_lt hl1), HB1.out.trans (hb2.mono (Nat.le_of_lt hl1))⟩
      obtain ⟨X, eX⟩ : ∃ X, (mkR b.rules nm off).1 = X := ⟨_, rfl⟩
      rw [eX] at HP ⊢
      clear hrow hb2 eX
      go_wp2_with fail
      go_ret2
      exact HP.out
  · have HE := Lib.hid (HE1.out hc)
    have hcz : (C == 0) = false := by simpa using hc
    have hcz2 : (!(C == 0)) = true := by rw [hcz]; rfl
    clear hc
    go_wp2_with fail
    go_ret2
    exact TnPost.bad HE.out HB1.out
end Go.Proofs.YtmpeplimiaaehaaDoor
