/- NamesSorted: the walk. -/
import Derived.Test.YtlgdilpmdoofiaaDoorNm9
namespace Go.Proofs.YtlgdilpmdoofiaaDoor
open Go.RowKit Go.Joins Go.Maps Go.Sort
open Classical
set_option linter.unusedVariables false
set_option linter.unusedSimpArgs false

set_option maxRecDepth 100000 in
set_option maxHeartbeats 8000000 in
theorem NamesSorted_walk (b : Bk) (rv zv lv : Value) (w : World) (hB : BookAt w.heap.size w rv zv lv b) (hm : MaxLen w) (ht : Tab10 w) :
    Calls Tryd.prog 10 #[.agg #[rv, zv, lv]] w fun e w' => e = .returned (.bool true) ∧ Below w.heap.size w w' := by
  have hr := hB.r
  have hz := hB.z
  have hl := hB.l
  obtain ⟨p1, c1, rfl, hlen1, hrow1⟩ := hr
  obtain ⟨p2, c2, rfl, hlen2, hrow2⟩ := hz
  obtain ⟨p3, c3, rfl, hlen3, hrow3⟩ := hl
  obtain ⟨W0, eW⟩ : ∃ W0, w.alloc (.cells #[.slice p1 b.rules.length c1, .slice p2 b.zones.length c2, .slice p3 b.links.length c3] 26) = W0 := ⟨_, rfl⟩
  have hb0 : Below w.heap.size w W0 := by rw [← eW]; exact (Below.refl _ _).alloc (Nat.le_refl _) _
  have hbx : W0.heap[w.heap.size]? = some (.cells #[.slice p1 b.rules.length c1, .slice p2 b.zones.length c2, .slice p3 b.links.length c3] 26 (0, 0)) := by rw [← eW]; exact heap_alloc_new w _
  have hl0 : w.heap.size < W0.heap.size := by rw [← eW]; simp
  have HEW := Lib.hid eW
  have HB0 := Lib.hid hb0
  have HRZ := Lib.hid hB.z
  have HSZ := Lib.hid hB.zs
  have HEV := Lib.hid hB.e
  have HNM := Lib.hid (named_any W0 (hm.below hb0) (ht.below hb0))
  have hsz : ∀ s, ((∃ z ∈ b.zones, z.nm = s) ∨ ∃ x ∈ b.links, x.nm = s) → s.size ≤ 140737488351232 := by
    rintro s (⟨z, hz, rfl⟩ | ⟨x, hx, rfl⟩)
    · exact (hB.zs z hz).1
    · exact (hB.ls x hx).1
  have HSS := Lib.hid hsz
  have HRS : Hid (∀ (W : World) (nm : ByteArray), Below w.heap.size w W → w.heap.size ≤ W.heap.size → nm.size ≤ 140737488351232 → Calls Tryd.prog 23 #[.agg #[.slice p1 b.rules.length c1, .slice p2 b.zones.length c2, .slice p3 b.links.length c3], .string nm] W (RsvPost (rsv b nm) W)) := by
    show ∀ W nm, _
    intro W nm hb hs hn
    exact Resolve_any b _ _ _ nm W ((hB.below hb (Nat.le_refl _)).baseN hs) hn (hm.below hb) (ht.below hb)
  have HAL : Hid (∀ (W : World), Below w.heap.size w W → w.heap.size ≤ W.heap.size → Calls Tryd.prog 25 #[.agg #[.slice p1 b.rules.length c1, .slice p2 b.zones.length c2, .slice p3 b.links.length c3]] W (AllPost b W)) := by
    show ∀ W, _
    intro W hb hs
    exact All_go b _ _ _ W ((hB.below hb (Nat.le_refl _)).baseN hs) (hm.below hb) (ht.below hb)
  have HBOX : Hid (∀ (W : World), Below W0.heap.size W0 W → W.cell? ⟨w.heap.size, 0, none⟩ = some (.slice p1 b.rules.length c1) ∧ W.cell? ⟨w.heap.size, 1, none⟩ = some (.slice p2 b.zones.length c2) ∧ W.cell? ⟨w.heap.size, 2, none⟩ = some (.slice p3 b.links.length c3)) := by
    show ∀ W, _
    intro W hb
    have hx := (hb.block w.heap.size hl0).trans hbx
    exact ⟨(cell_of_row W _ 0 _ _ _ hx).trans rfl, (cell_of_row W _ 1 _ _ _ hx).trans rfl, (cell_of_row W _ 2 _ _ _ hx).trans rfl⟩
  clear eW hb0 hbx hB hm ht hrow1 hrow2 hrow3 hsz
  go_enter Tryd.func10, Tryd.ntmps10
  go_upto_region 1 with fail
  rw [HEW.out]
  go_wp2_with fail
  refine HNM.out.mono ?_
  rintro e w1 ⟨rfl, hb1⟩
  have HB1 := Lib.hid hb1
  have HBW1 := Lib.hid (HB0.out.trans (hb1.mono HB0.out.size))
  have hl1 : w.heap.size < w1.heap.size := by have := hb1.size; omega
  obtain ⟨g0, g1, g2⟩ := HBOX.out w1 hb1
  have HALL := Lib.hid (HAL.out w1 HBW1.out (Nat.le_of_lt hl1))
  clear hb1 HNM HAL
  go_wp2_with fail
  refine HALL.out.mono ?_
  rintro e w2 ⟨hb2, hbad, hgood⟩
  have HB2 := Lib.hid (HB1.out.trans (hb2.mono HB1.out.size))
  have HBW2 := Lib.hid (HBW1.out.trans (hb2.mono HBW1.out.size))
  have hl2 : w.heap.size < w2.heap.size := by have := hb2.size; omega
  have hl02 : W0.heap.size ≤ w2.heap.size := HB2.out.size
  by_cases hC : bkChk b = 0
  case neg =>
    have he := hbad hC
    subst he
    have hz : (bkChk b == 0) = false := by simpa using hC
    have hz2 : (!bkChk b == 0) = true := by rw [hz]; rfl
    clear hC hb2 hbad hgood HALL
    go_wp2_with fail
    go_ret
    exact ⟨rfl, HBW2.out⟩
  case pos =>
  obtain ⟨v, ns, he, hall, hnl, hrow⟩ := hgood hC
  subst he
  obtain ⟨L, eL, hLn, hSL⟩ := srt_facts hC hall
  rw [eL, bsL_enc, ← hLn] at hrow
  obtain ⟨A, cA, rfl⟩ := own_sliceN hrow
  have HRW := Lib.hid (own_strs hrow (by omega))
  have HSL := Lib.hid hSL
  have hzl := bk_len hC
  have hLl := hSL.le
  have hL40 : L.length ≤ 40 := by omega
  obtain ⟨-, hz20, hl20⟩ := hzl
  clear hb2 hbad hgood hC HALL hall hnl hrow eL hLn hSL
  go_wp2_with fail
  go_loopw [25] (fun i wr => ∃ k : Nat, k ≤ L.length ∧ i = .int .i64 k ∧ Hid (Below w2.heap.size w2 wr)) (fun i _ => L.length - (intOf i).toNat)
  case atStart => exact ⟨0, Nat.zero_le _, rfl, Lib.hid (Below.refl _ _)⟩
  case round =>
    obtain ⟨k, hk, rfl, HBR⟩ := hrel
    have hzr := HBR.out.size
    by_cases hkl : k < L.length
    · obtain ⟨pL, cL, eL, -, hat⟩ := HRW.out
      simp only [Value.slice.injEq, true_and] at eL
      obtain ⟨rfl, rfl⟩ := eL
      obtain ⟨bb, o, rfl, hbl, hcs⟩ := hat (List.ne_nil_of_length_pos (by omega))
      have z0 := (HBR.out.cell (p := ⟨bb, o + k, none⟩) hbl).trans (stL_at hcs k hkl)
      have hup := HSL.out.up (k - 1)
      have hzp : 0 < k → ∃ s, wr.cell? ⟨bb, o + (k - 1), none⟩ = some (.string s) ∧ s.data.toList < L[k].data.toList := by
        intro h
        refine ⟨L[k - 1], (HBR.out.cell (p := ⟨bb, o + (k - 1), none⟩) hbl).trans (stL_at hcs (k - 1) (by omega)), ?_⟩
        have := HSL.out.up (k - 1) (by omega)
        simpa [show k - 1 + 1 = k by omega] using this
      have hok := HSL.out.ok L[k] (List.getElem_mem hkl)
      have hss := HSS.out L[k] (HSL.out.of _ (List.getElem_mem hkl))
      obtain ⟨s, es⟩ : ∃ s, L[k] = s := ⟨_, rfl⟩
      rw [es] at z0 hzp hok hss
      have HBWr := Lib.hid (HBW2.out.trans (HBR.out.mono (Nat.le_of_lt hl2)))
      obtain ⟨g0, g1, g2⟩ := HBOX.out wr (HB2.out.trans (HBR.out.mono hl02))
      have HRR := Lib.hid (HRS.out wr s HBWr.out (by omega) hss)
      obtain ⟨R, eR⟩ : ∃ R, rsv b s = R := ⟨_, rfl⟩
      rw [eR] at HRR hok
      obtain ⟨Z, C⟩ := R
      simp only at hok
      subst hok
      clear hat hcs hup es eR
      have HZP : Hid (0 < k → ∃ s0, wr.cell? ⟨bb, o + (k - 1), none⟩ = some (.string s0) ∧ Op.bytesLess s0.toList s.toList = true) := by
        show 0 < k → _
        intro h
        obtain ⟨s0, h1, h2⟩ := hzp h
        exact ⟨s0, h1, by rw [bytesLess_eqN, Lib.toList_data, Lib.toList_data]; exact decide_eq_true h2⟩
      clear hzp
      by_cases hk0 : k = 0
      · subst hk0
        clear HZP
        rw [Nat.add_zero] at z0
        go_wp2_with fail
        refine HRR.out.mono ?_
        rintro e w6 ⟨vo, rfl, hrow, hb6⟩
        simp only at hrow ⊢
        obtain ⟨A6, c6, rfl⟩ := own_sliceN hrow
        have HB6 := Lib.hid ((HBR.out.trans (hb6.mono hzr)).alloc (Nat.le_trans hzr hb6.size) (.cells #[.string (zNm Z), .slice A6 (zEr Z).length c6] 53))
        clear hrow hb6 HRR HBR
        go_wp2_with fail
        go_roundw
        case rel => exact ⟨1, by omega, by go_num, HB6⟩
        case measure => simp [intOf]; omega
      · obtain ⟨s0, y0, hlt⟩ := HZP.out (by omega)
        clear HZP
        go_wp2_with fail
        refine HRR.out.mono ?_
        rintro e w6 ⟨vo, rfl, hrow, hb6⟩
        simp only at hrow ⊢
        obtain ⟨A6, c6, rfl⟩ := own_sliceN hrow
        have HB6 := Lib.hid ((HBR.out.trans (hb6.mono hzr)).alloc (Nat.le_trans hzr hb6.size) (.cells #[.string (zNm Z), .slice A6 (zEr Z).length c6] 53))
        clear hrow hb6 HRR HBR
        go_wp2_with fail
        go_roundw
        case rel => exact ⟨k + 1, by omega, by go_num, HB6⟩
        case measure => simp [intOf]; omega
    · obtain rfl : k = L.length := by omega
      have HBX3 := Lib.hid (HB2.out.trans (HBR.out.mono hl02))
      have HBW3 := Lib.hid (HBW2.out.trans (HBR.out.mono (Nat.le_of_lt hl2)))
      have HRW3 := Lib.hid (HRW.out.below HBR.out (Nat.le_refl _))
      obtain ⟨W3, e3⟩ : ∃ W3, wr = W3 := ⟨_, rfl⟩
      rw [e3] at HBX3 HBW3 HRW3 hzr ⊢
      have hz23 := hzr
      clear e3 HBR HRW
      have hl3 : w.heap.size < W3.heap.size := by omega
      have hl03 : W0.heap.size ≤ W3.heap.size := by omega
      obtain ⟨g0, g1, g2⟩ := HBOX.out W3 HBX3.out
      obtain ⟨pz, cz, ez, -, hrw⟩ := (HRZ.out.below HBW3.out (Nat.le_refl _))
      simp only [Value.slice.injEq, true_and] at ez
      obtain ⟨rfl, rfl⟩ := ez
      have HRWZ := Lib.hid hrw
      clear hrw
      go_wp2_with fail
      go_loopw [53] (fun i wr => ∃ k : Nat, k ≤ b.zones.length ∧ i = .int .i64 k ∧ Hid (Below W3.heap.size W3 wr)) (fun i _ => b.zones.length - (intOf i).toNat)
      case atStart => exact ⟨0, Nat.zero_le _, rfl, Lib.hid (Below.refl _ _)⟩
      case round =>
        obtain ⟨k, hk, rfl, HBR⟩ := hrel
        have hzr := HBR.out.size
        by_cases hkl : k < b.zones.length
        · obtain ⟨bb, o, rfl, hbl, hcs⟩ := HRWZ.out (List.ne_nil_of_length_pos (by omega))
          have hck := hcs k hkl
          have hzm := List.getElem_mem hkl
          have hev := HEV.out b.zones[k] hzm
          have hin := HSL.out.all b.zones[k] hzm
          obtain ⟨q, eq⟩ : ∃ q, b.zones[k] = q := ⟨_, rfl⟩
          rw [eq] at hck hev hin
          obtain ⟨nm, ev, er⟩ := q
          simp only at hev hin
          obtain ⟨pe, ce, rfl, -, -⟩ := hev
          have hbb : bb < W3.heap.size := by omega
          have z0 := (HBR.out.cell (p := ⟨bb, o + k * 2 + 0, none⟩) hbb).trans (hck 0 _ rfl)
          have z1 := (HBR.out.cell (p := ⟨bb, o + k * 2 + 1, none⟩) hbb).trans (hck 1 _ rfl)
          simp only at z0 z1
          rw [Nat.add_zero] at z0
          obtain ⟨W5, e5⟩ : ∃ W5, wr.alloc (.cells #[.string nm, .slice pe er.length ce] 53) = W5 := ⟨_, rfl⟩
          have hx5 : W5.heap[wr.heap.size]? = some (.cells #[.string nm, .slice pe er.length ce] 53 (0, 0)) := by rw [← e5]; exact heap_alloc_new wr _
          have hb5 : Below wr.heap.size wr W5 := by rw [← e5]; exact (Below.refl _ _).alloc (Nat.le_refl _) _
          have HB5 := Lib.hid (HBR.out.trans (hb5.mono hzr))
          have q0 := (cell_of_row W5 _ 0 _ _ _ hx5).trans rfl
          have hHas := Has_strs L nm _ _ W5 (HRW3.out.below HB5.out hz23)
          rw [decide_eq_true hin] at hHas
          have HHAS := Lib.hid hHas
          have HE5 := Lib.hid e5
          obtain ⟨tb, etb⟩ : ∃ tb, wr.heap.size = tb := ⟨_, rfl⟩
          rw [etb] at q0
          have HTB := Lib.hid etb
          clear e5 hx5 eq hcs hck hb5 hzm etb hin hHas
          go_upto_region 18 with fail
          rw [HE5.out, HTB.out]
          clear z0 z1
          go_wp2_with fail
          refine HHAS.out.mono ?_
          rintro e w6 ⟨rfl, rfl⟩
          go_wp2_with fail
          go_roundw
          case rel => exact ⟨k + 1, by omega, by go_num, HB5⟩
          case measure => simp [intOf]; omega
        · obtain rfl : k = b.zones.length := by omega
          have HBW4 := Lib.hid (HBW3.out.trans (HBR.out.mono (Nat.le_of_lt hl3)))
          obtain ⟨g0, g1, g2⟩ := HBOX.out wr (HBX3.out.trans (HBR.out.mono hl03))
          go_wp2_with fail
          go_ret
          exact ⟨ret_bool' (decide_eq_true (by omega)), HBW4.out⟩
end Go.Proofs.YtlgdilpmdoofiaaDoor
