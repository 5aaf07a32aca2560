/- NamesZones: the walk. -/
import Derived.Test.YtlgdilpmdoofiaaDoorNmF
namespace Go.Proofs.YtlgdilpmdoofiaaDoor
open Go.RowKit Go.Joins Go.Maps
open Classical
set_option linter.unusedVariables false
set_option linter.unusedSimpArgs false

theorem own_rowsN {α : Type} {cells : α → List Value} {k : Nat} (hk : ∀ x, (cells x).length = k) {W : World} {B : Nat} {T : TypeId} {v : Value} {l : List α} (h : W.ownsRow B T k v l.length (l.flatMap cells)) (hl : l.length ≤ 100000) : RowsAt cells k W.heap.size W v l := by
  rcases h.2 with ⟨rfl, h0⟩ | ⟨g, cap, cur, rfl, hb, hg, hnc, hcm, hcs, htake⟩
  · have : l = [] := List.eq_nil_of_length_eq_zero h0
    subst this
    exact rows_nilN
  · have hc : ∀ i u, (l.flatMap cells)[i]? = some u → W.cell? ⟨g, i, none⟩ = some u := by
      intro i u hu
      rw [cell_of_row W g i cur _ (0, 0) hg]
      rw [← htake, List.getElem?_take] at hu
      split at hu
      · simpa using hu
      · cases hu
    refine ⟨_, cap, rfl, ⟨by omega, hnc⟩, fun _ => ⟨g, 0, rfl, (Array.getElem?_eq_some_iff.1 hg).1, fun i hi j u hu => ?_⟩⟩
    rw [Nat.zero_add]
    have hj : j < k := by rw [← hk l[i]]; exact (List.getElem?_eq_some_iff.1 hu).1
    exact hc _ _ ((flat_getN hk l i hi j hj).trans hu)
theorem rsv_in {b : Bk} {nm : ByteArray} {z : Zo} (h : (rsv b nm).1 = some z) : bkChk b = 0 ∧ z ∈ b.zones := by
  by_cases hc : bkChk b = 0
  · refine ⟨hc, ?_⟩
    rw [rsv_go hc] at h
    exact (resF_in (c := (resF b.zones b.links (Maps.size (DL b.links) + 1) nm).2) (by rw [← h])).1
  · rw [rsv_bad hc] at h; cases h
theorem rsv_len {b : Bk} {nm : ByteArray} : (zEr (rsv b nm).1).length ≤ 1000 := by
  cases e : (rsv b nm).1 with
  | none => simp [zEr]
  | some z =>
    obtain ⟨h1, h2⟩ := rsv_in e
    have := (bk_er h1 h2).2
    show z.eras.length ≤ 1000
    omega

set_option maxRecDepth 100000 in
set_option maxHeartbeats 8000000 in
theorem NamesZones_walk (b : Bk) (rv zv lv : Value) (w : World) (hB : BookAt w.heap.size w rv zv lv b) (hm : MaxLen w) (ht : Tab10 w) :
    Calls Tryd.prog 9 #[.agg #[rv, zv, lv]] w fun e w' => e = .returned (.bool true) ∧ Below w.heap.size w w' := by
  have hr := hB.r
  have hz := hB.z
  have hl := hB.l
  obtain ⟨p1, c1, rfl, hlen1, hrow1⟩ := hr
  obtain ⟨p2, c2, rfl, hlen2, hrow2⟩ := hz
  obtain ⟨p3, c3, rfl, hlen3, hrow3⟩ := hl
  obtain ⟨W0, eW⟩ : ∃ W0, w.alloc (.cells #[.slice p1 b.rules.length c1, .slice p2 b.zones.length c2, .slice p3 b.links.length c3] 26) = W0 := ⟨_, rfl⟩
  have hb0 : Below w.heap.size w W0 := by rw [← eW]; exact (Below.refl _ _).alloc (Nat.le_refl _) _
  have hbx : W0.heap[w.heap.size]? = some (.cells #[.slice p1 b.rules.length c1, .slice p2 b.zones.length c2, .slice p3 b.links.length c3] 26 (0, 0)) := by rw [← eW]; exact heap_alloc_new w _
  have hl0 : w.heap.size < W0.heap.size := by rw [← eW]; simp
  have HEW := Lib.hid eW
  have HB0 := Lib.hid hb0
  have HBX := Lib.hid hbx
  have HBK := Lib.hid hB
  have HRZ := Lib.hid hB.z
  have HRL := Lib.hid hB.l
  have HSZ := Lib.hid hB.zs
  have HSL := Lib.hid hB.ls
  have HEV := Lib.hid hB.e
  have HNM := Lib.hid (named_any W0 (hm.below hb0) (ht.below hb0))
  have HM := Lib.hid hm
  have HT := Lib.hid ht
  have HRS : Hid (∀ (W : World) (nm : ByteArray), Below w.heap.size w W → w.heap.size ≤ W.heap.size → nm.size ≤ 140737488351232 → Calls Tryd.prog 23 #[.agg #[.slice p1 b.rules.length c1, .slice p2 b.zones.length c2, .slice p3 b.links.length c3], .string nm] W (RsvPost (rsv b nm) W)) := by
    show ∀ W nm, _
    intro W nm hb hs hn
    exact Resolve_any b _ _ _ nm W ((hB.below hb (Nat.le_refl _)).baseN hs) hn (hm.below hb) (ht.below hb)
  have HBOX : Hid (∀ (W : World), Below W0.heap.size W0 W → W.cell? ⟨w.heap.size, 0, none⟩ = some (.slice p1 b.rules.length c1) ∧ W.cell? ⟨w.heap.size, 1, none⟩ = some (.slice p2 b.zones.length c2) ∧ W.cell? ⟨w.heap.size, 2, none⟩ = some (.slice p3 b.links.length c3)) := by
    show ∀ W, _
    intro W hb
    have hx := (hb.block w.heap.size hl0).trans hbx
    exact ⟨(cell_of_row W _ 0 _ _ _ hx).trans rfl, (cell_of_row W _ 1 _ _ _ hx).trans rfl, (cell_of_row W _ 2 _ _ _ hx).trans rfl⟩
  clear eW hb0 hbx hB hm ht hrow1 hrow2 hrow3
  go_enter Tryd.func9, Tryd.ntmps9
  go_upto_region 1 with fail
  rw [HEW.out]
  go_wp2_with fail
  refine HNM.out.mono ?_
  rintro e w1 ⟨rfl, hb1⟩
  have HB1 := Lib.hid hb1
  have HBW1 := Lib.hid (HB0.out.trans (hb1.mono HB0.out.size))
  have hl1 : w.heap.size < w1.heap.size := by have := hb1.size; omega
  obtain ⟨g0, g1, g2⟩ := HBOX.out w1 hb1
  have HCK := Lib.hid (bkCheck_any b _ _ _ w1 ((HBK.out.below HBW1.out (Nat.le_refl _)).baseN (Nat.le_of_lt hl1)) (HM.out.below HBW1.out) (HT.out.below HBW1.out))
  clear hb1 HNM
  go_wp2_with fail
  refine HCK.out.mono ?_
  have HZO := Lib.hid (fun z hz h => rsv_zone (b := b) h (z := z) hz)
  have HLI := Lib.hid (fun l hl h => rsv_link (b := b) h (l := l) hl)
  have HLN := Lib.hid (bk_len (b := b))
  have HER := Lib.hid (fun z hz h => bk_er (b := b) h (z := z) hz)
  obtain ⟨C, eC⟩ : ∃ C, bkChk b = C := ⟨_, rfl⟩
  rw [eC] at HZO HLI HLN HER ⊢
  rintro e w2 ⟨rfl, hb2⟩
  have HB2 := Lib.hid (HB1.out.trans (hb2.mono HB1.out.size))
  have HBW2 := Lib.hid (HBW1.out.trans (hb2.mono HBW1.out.size))
  have hl2 : w.heap.size < w2.heap.size := by have := hb2.size; omega
  have hl02 : W0.heap.size ≤ w2.heap.size := HB2.out.size
  obtain ⟨g0, g1, g2⟩ := HBOX.out w2 HB2.out
  clear hb2 HCK HB1 eC
  by_cases hC : C = 0
  case neg =>
    have hz : (C == 0) = false := by simpa using hC
    have hz2 : (!C == 0) = true := by rw [hz]; rfl
    clear hC
    go_wp2_with fail
    go_ret
    exact ⟨rfl, HBW2.out⟩
  case pos =>
  subst hC
  obtain ⟨hr40, hz20, hl20⟩ := HLN.out rfl
  obtain ⟨pz, cz, ez, -, hrw⟩ := (HRZ.out.below HBW2.out (Nat.le_refl _))
  simp only [Value.slice.injEq, true_and] at ez
  obtain ⟨rfl, rfl⟩ := ez
  have HRWZ := Lib.hid hrw
  clear hrw
  go_wp2_with fail
  go_loopw [21] (fun i wr => ∃ k : Nat, k ≤ b.zones.length ∧ i = .int .i64 k ∧ Hid (Below w2.heap.size w2 wr)) (fun i _ => b.zones.length - (intOf i).toNat)
  case atStart => exact ⟨0, Nat.zero_le _, rfl, Lib.hid (Below.refl _ _)⟩
  case round =>
    obtain ⟨k, hk, rfl, HBR⟩ := hrel
    have hzr := HBR.out.size
    by_cases hkl : k < b.zones.length
    · obtain ⟨bb, o, rfl, hbl, hcs⟩ := HRWZ.out (List.ne_nil_of_length_pos (by omega))
      have hck := hcs k hkl
      have hzm := List.getElem_mem hkl
      have hsz := HSZ.out b.zones[k] hzm
      have hev := HEV.out b.zones[k] hzm
      have hrz := HZO.out b.zones[k] hzm (by first | rfl | trivial)
      have hel := HER.out b.zones[k] hzm (by first | rfl | trivial)
      obtain ⟨q, eq⟩ : ∃ q, b.zones[k] = q := ⟨_, rfl⟩
      rw [eq] at hck hsz hev hrz hel
      obtain ⟨nm, ev, er⟩ := q
      simp only at hev hrz hel
      obtain ⟨pe, ce, rfl, hev2, hev3⟩ := hev
      have hnm := hsz.1
      simp only at hnm
      have hbb : bb < w2.heap.size := by omega
      have z0 := (HBR.out.cell (p := ⟨bb, o + k * 2 + 0, none⟩) hbb).trans (hck 0 _ rfl)
      have z1 := (HBR.out.cell (p := ⟨bb, o + k * 2 + 1, none⟩) hbb).trans (hck 1 _ rfl)
      simp only at z0 z1
      rw [Nat.add_zero] at z0
      obtain ⟨W5, e5⟩ : ∃ W5, wr.alloc (.cells #[.string nm, .slice pe er.length ce] 53) = W5 := ⟨_, rfl⟩
      have hx5 : W5.heap[wr.heap.size]? = some (.cells #[.string nm, .slice pe er.length ce] 53 (0, 0)) := by rw [← e5]; exact heap_alloc_new wr _
      have hb5 : Below wr.heap.size wr W5 := by rw [← e5]; exact (Below.refl _ _).alloc (Nat.le_refl _) _
      have hz5 : W5.heap.size = wr.heap.size + 1 := by rw [← e5]; simp
      have HB5 := Lib.hid (HBR.out.trans (hb5.mono hzr))
      have HBW5 := Lib.hid (HBW2.out.trans (HB5.out.mono (Nat.le_of_lt hl2)))
      obtain ⟨g0, g1, g2⟩ := HBOX.out W5 (HB2.out.trans (HB5.out.mono hl02))
      have q0 := (cell_of_row W5 _ 0 _ _ _ hx5).trans rfl
      have q1 := (cell_of_row W5 _ 1 _ _ _ hx5).trans rfl
      have hs5 : w.heap.size ≤ W5.heap.size := by omega
      have hrs := HRS.out W5 nm HBW5.out hs5 hnm
      rw [hrz] at hrs
      have HRSZ := Lib.hid hrs
      have HX5 := Lib.hid hx5
      have HE5 := Lib.hid e5
      have HEVZ : Hid (RowsAt erL 5 w.heap.size w (.slice pe er.length ce) er) := ⟨pe, ce, rfl, hev2, hev3⟩
      have her := hel.2
      obtain ⟨tb, etb⟩ : ∃ tb, wr.heap.size = tb := ⟨_, rfl⟩
      rw [etb] at hz5 HX5 q0 q1
      have HTB := Lib.hid etb
      clear e5 hx5 eq hcs hck hsz hrz hrs hel hb5 hev2 hev3 hzm etb
      go_upto_region 8 with fail
      rw [HE5.out, HTB.out]
      clear z0 z1
      go_wp2_with fail
      refine HRSZ.out.mono ?_
      rintro e w6 ⟨vo, rfl, hrow, hb6⟩
      simp only [zNm, zEr] at hrow ⊢
      obtain ⟨A, cA, rfl⟩ := own_sliceN hrow
      have HB6 := Lib.hid (HB5.out.trans (hb6.mono HB5.out.size))
      have HBW6 := Lib.hid (HBW5.out.trans (hb6.mono hs5))
      have hx6 := (hb6.block tb (by omega)).trans HX5.out
      have HR6 := own_rowsN (cells := erL) (k := 5) (fun _ => rfl) hrow (by omega)
      obtain ⟨W7, e7⟩ : ∃ W7, w6.alloc (.cells #[.string nm, .slice A er.length cA] 53) = W7 := ⟨_, rfl⟩
      have hb7 : Below w6.heap.size w6 W7 := by rw [← e7]; exact (Below.refl _ _).alloc (Nat.le_refl _) _
      have hx7 : W7.heap[w6.heap.size]? = some (.cells #[.string nm, .slice A er.length cA] 53 (0, 0)) := by rw [← e7]; exact heap_alloc_new w6 _
      have hx7b := (hb7.block tb (Array.getElem?_eq_some_iff.mp hx6).1).trans hx6
      have y0 := (cell_of_row W7 _ 0 _ _ _ hx7).trans rfl
      have y1 := (cell_of_row W7 _ 1 _ _ _ hx7).trans rfl
      have q0 := (cell_of_row W7 _ 0 _ _ _ hx7b).trans rfl
      have q1 := (cell_of_row W7 _ 1 _ _ _ hx7b).trans rfl
      have hs7 : w.heap.size ≤ W7.heap.size := by have h1 := hb7.size; have h2 := hb6.size; omega
      have HB7 := Lib.hid (HB6.out.trans (hb7.mono HB6.out.size))
      have HEQ := Lib.hid (ZoneEq_self nm er (.slice A er.length cA) (.slice pe er.length ce) W7 ((HR6.below hb7 (Nat.le_refl _)).mono hb7.size) ((HEVZ.out.below (HBW6.out.trans (hb7.mono HBW6.out.size)) (Nat.le_refl _)).mono hs7))
      have HE7 := Lib.hid e7
      clear hrow hb6 hx6 HR6 e7 hb7 hx7 hx7b HRSZ g0 g1 g2
      go_upto_region 9 with fail
      rw [HE7.out]
      go_wp2_with fail
      refine HEQ.out.mono ?_
      rintro e w8 ⟨rfl, hb8⟩
      have HB8 := Lib.hid (HB7.out.trans (hb8.mono HB7.out.size))
      clear hb8
      go_wp2_with fail
      go_roundw
      case rel => exact ⟨k + 1, by omega, by go_num, HB8⟩
      case measure => simp [intOf]; omega
    · obtain rfl : k = b.zones.length := by omega
      have HBX3 := Lib.hid (HB2.out.trans (HBR.out.mono hl02))
      have HBW3 := Lib.hid (HBW2.out.trans (HBR.out.mono (Nat.le_of_lt hl2)))
      obtain ⟨W3, e3⟩ : ∃ W3, wr = W3 := ⟨_, rfl⟩
      rw [e3] at HBX3 HBW3 hzr ⊢
      clear e3 HBR
      have hl3 : w.heap.size < W3.heap.size := by omega
      have hl03 : W0.heap.size ≤ W3.heap.size := by omega
      obtain ⟨g0, g1, g2⟩ := HBOX.out W3 HBX3.out
      obtain ⟨pz, cz, ez, -, hrw⟩ := (HRL.out.below HBW3.out (Nat.le_refl _))
      simp only [Value.slice.injEq, true_and] at ez
      obtain ⟨rfl, rfl⟩ := ez
      have HRWL := Lib.hid hrw
      clear hrw
      go_wp2_with fail
      go_loopw [44] (fun i wr => ∃ k : Nat, k ≤ b.links.length ∧ i = .int .i64 k ∧ Hid (Below W3.heap.size W3 wr)) (fun i _ => b.links.length - (intOf i).toNat)
      case atStart => exact ⟨0, Nat.zero_le _, rfl, Lib.hid (Below.refl _ _)⟩
      case round =>
        obtain ⟨k, hk, rfl, HBR⟩ := hrel
        have hzr := HBR.out.size
        by_cases hkl : k < b.links.length
        · obtain ⟨bb, o, rfl, hbl, hcs⟩ := HRWL.out (List.ne_nil_of_length_pos (by omega))
          have hck := hcs k hkl
          have hlm := List.getElem_mem hkl
          have hsz := HSL.out b.links[k] hlm
          have hrl := HLI.out b.links[k] hlm (by first | rfl | trivial)
          obtain ⟨q, eq⟩ : ∃ q, b.links[k] = q := ⟨_, rfl⟩
          rw [eq] at hck hsz hrl
          obtain ⟨nm, tt⟩ := q
          obtain ⟨hnm, htt⟩ := hsz
          obtain ⟨hr1, hr2⟩ := hrl
          simp only at hnm htt hr1 hr2
          have hbb : bb < W3.heap.size := by omega
          have z0 := (HBR.out.cell (p := ⟨bb, o + k * 2 + 0, none⟩) hbb).trans (hck 0 _ rfl)
          have z1 := (HBR.out.cell (p := ⟨bb, o + k * 2 + 1, none⟩) hbb).trans (hck 1 _ rfl)
          simp only at z0 z1
          rw [Nat.add_zero] at z0
          obtain ⟨W5, e5⟩ : ∃ W5, wr.alloc (.cells #[.string nm, .string tt] 58) = W5 := ⟨_, rfl⟩
          have hx5 : W5.heap[wr.heap.size]? = some (.cells #[.string nm, .string tt] 58 (0, 0)) := by rw [← e5]; exact heap_alloc_new wr _
          have hb5 : Below wr.heap.size wr W5 := by rw [← e5]; exact (Below.refl _ _).alloc (Nat.le_refl _) _
          have hz5 : W5.heap.size = wr.heap.size + 1 := by rw [← e5]; simp
          have HB5 := Lib.hid (HBR.out.trans (hb5.mono hzr))
          have HBW5 := Lib.hid (HBW3.out.trans (HB5.out.mono (Nat.le_of_lt hl3)))
          have HBX5 := Lib.hid (HBX3.out.trans (HB5.out.mono hl03))
          obtain ⟨g0, g1, g2⟩ := HBOX.out W5 HBX5.out
          have q0 := (cell_of_row W5 _ 0 _ _ _ hx5).trans rfl
          have q1 := (cell_of_row W5 _ 1 _ _ _ hx5).trans rfl
          have hs5 : w.heap.size ≤ W5.heap.size := by omega
          have HRS1 := Lib.hid (HRS.out W5 nm HBW5.out hs5 hnm)
          have HRS2 := Lib.hid (fun W hb hs => HRS.out W tt hb hs htt)
          rw [← hr1] at HRS2
          have HLE := Lib.hid (rsv_len (b := b) (nm := nm))
          obtain ⟨R, eR⟩ : ∃ R, rsv b nm = R := ⟨_, rfl⟩
          rw [eR] at HRS1 HRS2 HLE hr2
          obtain ⟨Z, C⟩ := R
          simp only at HLE hr2
          obtain ⟨zn, ezn⟩ : ∃ zn, zNm Z = zn := ⟨_, rfl⟩
          obtain ⟨er, eer⟩ : ∃ er, zEr Z = er := ⟨_, rfl⟩
          rw [eer] at HLE
          have hle := HLE.out
          have HX5 := Lib.hid hx5
          have HE5 := Lib.hid e5
          have HZN := Lib.hid ezn
          have HZE := Lib.hid eer
          obtain ⟨tb, etb⟩ : ∃ tb, wr.heap.size = tb := ⟨_, rfl⟩
          rw [etb] at hz5 HX5 q0 q1
          have HTB := Lib.hid etb
          clear e5 hx5 eq hcs hck hb5 hlm etb hr1 eR ezn eer
          go_upto_region 15 with fail
          rw [HE5.out, HTB.out]
          clear z0 z1
          go_wp2_with fail
          refine HRS1.out.mono ?_
          rintro e w6 ⟨vo, rfl, hrow, hb6⟩
          simp only at hrow ⊢
          rw [HZN.out]
          rw [HZE.out] at hrow
          obtain ⟨A, cA, rfl⟩ := own_sliceN hrow
          have HB6 := Lib.hid (HB5.out.trans (hb6.mono HB5.out.size))
          have HBW6 := Lib.hid (HBW5.out.trans (hb6.mono hs5))
          have hx6 := (hb6.block tb (by omega)).trans HX5.out
          have HR6 := own_rowsN (cells := erL) (k := 5) (fun _ => rfl) hrow (by omega)
          obtain ⟨W7, e7⟩ : ∃ W7, w6.alloc (.cells #[.string zn, .slice A er.length cA] 53) = W7 := ⟨_, rfl⟩
          have hb7 : Below w6.heap.size w6 W7 := by rw [← e7]; exact (Below.refl _ _).alloc (Nat.le_refl _) _
          have hx7 : W7.heap[w6.heap.size]? = some (.cells #[.string zn, .slice A er.length cA] 53 (0, 0)) := by rw [← e7]; exact heap_alloc_new w6 _
          have hx7b := (hb7.block tb (Array.getElem?_eq_some_iff.mp hx6).1).trans hx6
          have q0 := (cell_of_row W7 _ 0 _ _ _ hx7b).trans rfl
          have q1 := (cell_of_row W7 _ 1 _ _ _ hx7b).trans rfl
          have hz67 : W7.heap.size = w6.heap.size + 1 := by rw [← e7]; simp
          have hs7 : w.heap.size ≤ W7.heap.size := by have h2 := hb6.size; omega
          have HB7 := Lib.hid (HB6.out.trans (hb7.mono HB6.out.size))
          have HBW7 := Lib.hid (HBW6.out.trans (hb7.mono HBW6.out.size))
          obtain ⟨g0, g1, g2⟩ := HBOX.out W7 (HBX3.out.trans (HB7.out.mono hl03))
          have HR7 := Lib.hid ((HR6.below hb7 (Nat.le_refl _)).mono hb7.size)
          have HRS7 := Lib.hid (HRS2.out W7 HBW7.out hs7)
          have HX7 := Lib.hid hx7
          have HE7 := Lib.hid e7
          obtain ⟨ub, eub⟩ : ∃ ub, w6.heap.size = ub := ⟨_, rfl⟩
          rw [eub] at HX7 hz67
          have HUB := Lib.hid eub
          clear hrow hb6 hx6 HR6 e7 hb7 hx7 hx7b HRS1 HRS2 eub
          go_upto_region 16 with fail
          rw [HE7.out, HUB.out]
          go_wp2_with fail
          refine HRS7.out.mono ?_
          rintro e w8 ⟨vo2, rfl, hrow2, hb8⟩
          simp only at hrow2 ⊢
          rw [HZN.out]
          rw [HZE.out] at hrow2
          obtain ⟨A2, cA2, rfl⟩ := own_sliceN hrow2
          have HB8 := Lib.hid (HB7.out.trans (hb8.mono HB7.out.size))
          have hx8 := (hb8.block ub (by omega)).trans HX7.out
          have HR8 := own_rowsN (cells := erL) (k := 5) (fun _ => rfl) hrow2 (by omega)
          obtain ⟨W9, e9⟩ : ∃ W9, w8.alloc (.cells #[.string zn, .slice A2 er.length cA2] 53) = W9 := ⟨_, rfl⟩
          have hb9 : Below w8.heap.size w8 W9 := by rw [← e9]; exact (Below.refl _ _).alloc (Nat.le_refl _) _
          have hx9 : W9.heap[w8.heap.size]? = some (.cells #[.string zn, .slice A2 er.length cA2] 53 (0, 0)) := by rw [← e9]; exact heap_alloc_new w8 _
          have hx9b := (hb9.block ub (Array.getElem?_eq_some_iff.mp hx8).1).trans hx8
          have y0 := (cell_of_row W9 _ 0 _ _ _ hx9).trans rfl
          have y1 := (cell_of_row W9 _ 1 _ _ _ hx9).trans rfl
          have u0 := (cell_of_row W9 _ 0 _ _ _ hx9b).trans rfl
          have u1 := (cell_of_row W9 _ 1 _ _ _ hx9b).trans rfl
          have HB9 := Lib.hid (HB8.out.trans (hb9.mono HB8.out.size))
          have HEQ := Lib.hid (ZoneEq_self zn er (.slice A er.length cA) (.slice A2 er.length cA2) W9 ((((HR7.out.below hb8 (Nat.le_refl _)).mono hb8.size).below hb9 (Nat.le_refl _)).mono hb9.size) ((HR8.below hb9 (Nat.le_refl _)).mono hb9.size))
          have HE9 := Lib.hid e9
          have hcc : (C == C) = true := beq_self_eq_true _
          clear hrow2 hb8 hx8 HR8 e9 hb9 hx9 hx9b HRS7 g0 g1 g2 q0 q1
          go_upto_region 17 with fail
          rw [HE9.out]
          go_wp2_with fail
          refine HEQ.out.mono ?_
          rintro e wA ⟨rfl, hbA⟩
          have HBA := Lib.hid (HB9.out.trans (hbA.mono HB9.out.size))
          clear hbA
          rcases hr2 with hr2 | hr2
          · subst hr2
            go_wp2_with fail
            go_roundw
            case rel => exact ⟨k + 1, by omega, by go_num, HBA⟩
            case measure => simp [intOf]; omega
          · subst hr2
            go_wp2_with fail
            go_roundw
            case rel => exact ⟨k + 1, by omega, by go_num, HBA⟩
            case measure => simp [intOf]; omega
        · obtain rfl : k = b.links.length := by omega
          go_wp2_with fail
          go_ret
          exact ⟨rfl, HBW3.out.trans (HBR.out.mono (Nat.le_of_lt hl3))⟩
end Go.Proofs.YtlgdilpmdoofiaaDoor
