/- rite.At: which type at a time. -/
import Derived.Test.YtmjakhageehcoaaDoorRite4a
namespace Go.Proofs.YtmjakhageehcoaaDoor
open Go.RowKit Go.Joins
set_option linter.unusedVariables false
set_option linter.unusedSimpArgs false

set_option maxRecDepth 100000 in
set_option maxHeartbeats 8000000 in
theorem At_near (p : Px) (t : Int) (w : World) (h1 : p.name.size ≤ maxLen) (h2 : p.also.size ≤ maxLen) (ht1 : -9223372036854775808 ≤ t) (ht2 : t ≤ 9223372036854775807) (ht : Tab10 w) (hn : pxChk p = 0 → okSt t = true) :
    Calls Tryd.prog 17 #[pxV p, .int .i64 t] w fun e w' => e = .returned (riteR p t) ∧ Below w.heap.size w w' := by
  obtain ⟨W0, eW⟩ : ∃ W0, (w.alloc (.cells (pxCells p) 51)).alloc (.cells #[.int .i64 0, .bool false, .string ⟨#[]⟩] 45) = W0 := ⟨_, rfl⟩
  obtain ⟨hz, g0, g1, hb0⟩ := two_al eW
  have HM : Hid (AtM w W0 p) := by show AtM _ _ _; exact ⟨g0, g1, hb0⟩
  have HT := Lib.hid ht
  have HN0 := Lib.hid hn
  have HEW := Lib.hid eW
  have HC := Lib.hid (fun W => rCheck_any p W h1 h2)
  obtain ⟨C, eC⟩ : ∃ C, pxChk p = C := ⟨_, rfl⟩
  rw [eC] at HC
  have EC := Lib.hid eC
  clear eW eC g0 g1 hb0 h1 h2 ht hn
  go_enter Tryd.func17, Tryd.ntmps17
  go_wp2_with fail
  rw [HEW.out]
  refine (HC.out _).mono ?_
  rintro e w1 ⟨rfl, hb1⟩
  have HM1 := Lib.hid (HM.out.go hb1)
  obtain ⟨z0, z1, z2, zf⟩ := HM1.out.zero
  have zf0 := zf 0
  have zf1 := zf 1
  have zf2 := zf 2
  obtain ⟨x0, x1, x2, x3, x4, x5, x6, x7, x8, x9, x10, x11⟩ := HM1.out.px.cells
  have hl1 := HM1.out.lt
  clear hb1 HM zf hz
  by_cases hc : C = 0
  · subst hc
    have ho := px_off EC.out
    obtain ⟨ho1, ho2⟩ := ho
    have hs := HN0.out EC.out
    · have hs' := okSt_iff.1 hs
      have ht3 : -11676096000 ≤ t := by omega
      have ht4 : t ≤ 13569465599 := by omega
      have HS := Lib.hid hs
      clear hs hs' ht1 ht2
      have HST := Lib.hid (fun W (hb : Tab10 W) => Stamp_ok t W (okSt_iff.1 HS.out).1 (okSt_iff.1 HS.out).2 hb)
      go_wp2_with fail
      obtain ⟨W3, e3⟩ : ∃ W3, w1.alloc (.cells #[.int .i64 t, .int .i64 (t + p.off)] 3) = W3 := ⟨_, rfl⟩
      rw [e3]
      have hz3 : w1.heap.size < W3.heap.size := by rw [← e3]; simp
      have h3 : W3.heap[w1.heap.size]? = some (.cells #[.int .i64 t, .int .i64 (t + p.off)] 3 (0, 0)) := by rw [← e3]; exact heap_alloc_new w1 _
      have hb3 : Below w1.heap.size w1 W3 := by rw [← e3]; exact (Below.refl _ _).alloc (Nat.le_refl _) _
      have HM3 := Lib.hid (HM1.out.go hb3)
      have H3 := Lib.hid h3
      have hl3 := HM3.out.lt
      clear e3 h3 hb3 HM1 z0 z1 z2 zf0 zf1 zf2 x0 x1 x2 x3 x4 x5 x6 x7 x8 x9 x10 x11
      go_loopw [36] (fun i wr => ∃ k : Nat, k ≤ 2 ∧ i = .int .i64 k ∧ (2 ≤ k → okSt (t + p.off) = true) ∧ Below W3.heap.size W3 wr) (fun i _ => 2 - (intOf i).toNat)
      case atStart => exact ⟨0, by omega, rfl, fun h => absurd h (by omega), Below.refl _ _⟩
      case round =>
        obtain ⟨k, hk, rfl, hs2, hbr⟩ := hrel
        have HBR := Lib.hid hbr
        have HMR := Lib.hid (HM3.out.go hbr)
        have HTR := Lib.hid (HT.out.below HMR.out.b)
        have H4 := Lib.hid ((hbr.block _ hz3).trans H3.out)
        have hzr := hbr.size
        clear hbr
        have hk3 : k = 0 ∨ k = 1 ∨ k = 2 := by omega
        clear hk
        have d0 : wr.cell? ⟨w1.heap.size, 0, none⟩ = some (.int .i64 t) := (cell_of_row wr _ 0 _ _ _ H4.out).trans rfl
        have d1 : wr.cell? ⟨w1.heap.size, 1, none⟩ = some (.int .i64 (t + p.off)) := (cell_of_row wr _ 1 _ _ _ H4.out).trans rfl
        rcases hk3 with rfl | rfl | rfl
        · clear hs2 d1
          go_wp2_with fail
          refine (HST.out _ HTR.out).mono ?_
          rintro e w4 ⟨rfl, hb4⟩
          have HZ := Lib.hid (HBR.out.trans (hb4.mono HBR.out.size))
          clear hb4 d0
          go_wp2
          go_roundw
          case rel => exact ⟨1, by omega, rfl, fun h => absurd h (by omega), HZ.out⟩
          case measure => simp [intOf]
        · clear hs2 d0
          by_cases hq : okSt (t + p.off) = true
          · have hq' := okSt_iff.1 hq
            have HQ := Lib.hid hq
            have HSU := Lib.hid (Stamp_ok (t + p.off) wr hq'.1 hq'.2 HTR.out)
            clear hq hq'
            go_wp2_with fail
            refine HSU.out.mono ?_
            rintro e w4 ⟨rfl, hb4⟩
            have HZ := Lib.hid (HBR.out.trans (hb4.mono HBR.out.size))
            clear hb4 d1
            go_wp2
            go_roundw
            case rel => exact ⟨2, by omega, rfl, fun _ => HQ.out, HZ.out⟩
            case measure => simp [intOf]
          · have hq' : ¬ (-135140 ≤ (t + p.off) / 86400 ∧ (t + p.off) / 86400 ≤ 157053) := fun h => hq (okSt_iff.2 h)
            have HSU := Lib.hid (Stamp_no (t + p.off) wr (by omega) (by omega) (by omega))
            have HQ := Lib.hid (eq_false_of_ne_true hq)
            clear hq hq'
            go_wp2_with fail
            refine HSU.out.mono ?_
            rintro e w4 ⟨rfl, hb4⟩
            have HM5 := Lib.hid (HMR.out.go hb4)
            obtain ⟨z0, z1, z2, zf⟩ := HM5.out.zero
            have zf0 := zf 0
            have zf1 := zf 1
            have zf2 := zf 2
            have hl5 := HM5.out.lt
            clear hb4 d1 zf
            go_wp2
            obtain ⟨W9, e9, hb9, v0, v1, v2⟩ := HM5.out.out 0 false ⟨#[]⟩
            rw [e9]
            refine bodyPost_ret (v := atV 0 false ⟨#[]⟩ 1) (by simp [results, Tryd.results17, go_sem, v0, v1, v2]) rfl ⟨ret_v ?_, hb9⟩
            unfold riteR
            rw [if_neg (by rw [EC.out]; simp), if_pos (Or.inr HQ.out)]
        · have HS2 := Lib.hid (hs2 (by omega))
          obtain ⟨z0, z1, z2, zf⟩ := HMR.out.zero
          have zf0 := zf 0
          have zf1 := zf 1
          have zf2 := zf 2
          obtain ⟨x0, x1, x2, x3, x4, x5, x6, x7, x8, x9, x10, x11⟩ := HMR.out.px.cells
          have hlr := HMR.out.lt
          have hlr0 := HMR.out.px.lt
          clear hs2 d0 d1 zf
          go_upto_region 13 with fail
          obtain ⟨W5, e5⟩ : ∃ W5, (wr.alloc (.cells #[.int .i64 p.off, .bool false, .string p.name] 45)).alloc (.cells #[.int .i64 p.aoff, .bool true, .string p.also] 45) = W5 := ⟨_, rfl⟩
          rw [e5]
          obtain ⟨hz5, g1, g2, hb5⟩ := two_al e5
          have HM5 := Lib.hid (HMR.out.go hb5)
          have HG1 := Lib.hid g1
          have HG2 := Lib.hid g2
          have hl5 := HM5.out.lt
          have hl50 := HM5.out.px.lt
          clear e5 g1 g2 hb5 HMR HTR HBR H4 H3 HM3 z0 z1 z2 zf0 zf1 zf2 x0 x1 x2 x3 x4 x5 x6 x7 x8 x9 x10 x11 hlr hlr0 hl3 hz3 hl1
          obtain ⟨z0, z1, z2, zf⟩ := HM5.out.zero
          have zf0 := zf 0
          have zf1 := zf 1
          have zf2 := zf 2
          obtain ⟨x0, x1, x2, x3, x4, x5, x6, x7, x8, x9, x10, x11⟩ := HM5.out.px.cells
          have s0 : W5.cell? ⟨wr.heap.size, 0, none⟩ = some (.int .i64 p.off) := (cell_of_row W5 _ 0 _ _ _ HG1.out).trans rfl
          have s1 : W5.cell? ⟨wr.heap.size, 1, none⟩ = some (.bool false) := (cell_of_row W5 _ 1 _ _ _ HG1.out).trans rfl
          have s2 : W5.cell? ⟨wr.heap.size, 2, none⟩ = some (.string p.name) := (cell_of_row W5 _ 2 _ _ _ HG1.out).trans rfl
          clear zf
          by_cases ha : p.also.toList = []
          · have ha2 : p.also.toList.isEmpty = true := by simpa using ha
            have HA := Lib.hid ha
            go_wp2
            obtain ⟨W9, e9, hb9, v0, v1, v2⟩ := HM5.out.out p.off false p.name
            rw [e9]
            refine bodyPost_ret (v := atV p.off false p.name 0) (by simp [results, Tryd.results17, go_sem, v0, v1, v2]) rfl ⟨ret_v ?_, hb9⟩
            unfold riteR
            rw [if_neg (by rw [EC.out]; simp), if_neg (by rw [HS.out, HS2.out]; simp), if_pos HA.out]
          · have ha2 : p.also.toList.isEmpty = false := by simpa using ha
            have HA := Lib.hid ha
            have hq2 := okSt_iff.1 HS2.out
            obtain ⟨n, en⟩ : ∃ n, (t + p.off) / 86400 = n := ⟨_, rfl⟩
            have HF := Lib.hid (fun W => Floor_any (t + p.off) 86400 W (by decide) (by decide) (by omega) (by omega))
            rw [en] at HF hq2
            have EN := Lib.hid en
            have HDT := Lib.hid (fun W => Date_ok n W hq2.1 hq2.2)
            obtain ⟨hv, -⟩ := Civ.date_valid n hq2.1 hq2.2
            obtain ⟨v1, v2, -, -, -, -⟩ := hv
            obtain ⟨Y, eY⟩ : ∃ Y, Civ.yy n = Y := ⟨_, rfl⟩
            rw [eY] at v1 v2 HDT
            have HTN := Lib.hid (fun W => turns_ok p Y W (px_ok EC.out HA.out) v1 v2)
            have HRR : Hid (riteR p t = if isS (tS p Y) (tE p Y) t = true then atV p.aoff true p.also 0 else atV p.off false p.name 0) := by
              show _ = _
              unfold riteR
              rw [if_neg (by rw [EC.out]; simp), if_neg (by rw [HS.out, HS2.out]; simp), if_neg HA.out]
              unfold sumB yOf
              rw [en, eY]
            obtain ⟨a, ea⟩ : ∃ a, tS p Y = a := ⟨_, rfl⟩
            obtain ⟨b, eb⟩ : ∃ a, tE p Y = a := ⟨_, rfl⟩
            rw [ea, eb] at HTN HRR
            obtain ⟨M, eM⟩ : ∃ M, Civ.mm n = M := ⟨_, rfl⟩
            obtain ⟨D, eD⟩ : ∃ D, Civ.dd n = D := ⟨_, rfl⟩
            rw [eM, eD] at HDT
            clear ha en hq2 eY v1 v2 ea eb eM eD
            go_wp2_with fail
            refine (HF.out _).mono ?_
            rintro e w6 ⟨rfl, hb6⟩
            have HM6 := Lib.hid (HM5.out.go hb6)
            have G1 := Lib.hid ((hb6.block _ (by omega)).trans HG1.out)
            have G2 := Lib.hid ((hb6.block _ (by omega)).trans HG2.out)
            have hz6 := hb6.size
            clear hb6 HM5 HG1 HG2 z0 z1 z2 zf0 zf1 zf2 x0 x1 x2 x3 x4 x5 x6 x7 x8 x9 x10 x11 s0 s1 s2
            go_wp2_with fail
            refine (HDT.out _).mono ?_
            rintro e w' ⟨rfl, rfl⟩
            obtain ⟨x0, x1, x2, x3, x4, x5, x6, x7, x8, x9, x10, x11⟩ := HM6.out.px.cells
            go_wp2_with fail
            refine (HTN.out _).mono ?_
            rintro e w7 ⟨rfl, hb7⟩
            have HM7 := Lib.hid (HM6.out.go hb7)
            have G3 := Lib.hid ((hb7.block _ (by omega)).trans G1.out)
            have G4 := Lib.hid ((hb7.block _ (by omega)).trans G2.out)
            have hz7 := hb7.size
            clear hb7 HM6 G1 G2 x0 x1 x2 x3 x4 x5 x6 x7 x8 x9 x10 x11
            obtain ⟨z0, z1, z2, zf⟩ := HM7.out.zero
            have zf0 := zf 0
            have zf1 := zf 1
            have zf2 := zf 2
            have s0 : w7.cell? ⟨wr.heap.size, 0, none⟩ = some (.int .i64 p.off) := (cell_of_row w7 _ 0 _ _ _ G3.out).trans rfl
            have s1 : w7.cell? ⟨wr.heap.size, 1, none⟩ = some (.bool false) := (cell_of_row w7 _ 1 _ _ _ G3.out).trans rfl
            have s2 : w7.cell? ⟨wr.heap.size, 2, none⟩ = some (.string p.name) := (cell_of_row w7 _ 2 _ _ _ G3.out).trans rfl
            have r0 : w7.cell? ⟨wr.heap.size + 1, 0, none⟩ = some (.int .i64 p.aoff) := (cell_of_row w7 _ 0 _ _ _ G4.out).trans rfl
            have r1 : w7.cell? ⟨wr.heap.size + 1, 1, none⟩ = some (.bool true) := (cell_of_row w7 _ 1 _ _ _ G4.out).trans rfl
            have r2 : w7.cell? ⟨wr.heap.size + 1, 2, none⟩ = some (.string p.also) := (cell_of_row w7 _ 2 _ _ _ G4.out).trans rfl
            clear zf
            have HYES : Hid (isS a b t = true → riteR p t = atV p.aoff true p.also 0) := by
              show _ → _
              intro h
              rw [HRR.out, if_pos h]
            have HNO : Hid (isS a b t = false → riteR p t = atV p.off false p.name 0) := by
              show _ → _
              intro h
              rw [HRR.out, if_neg (by rw [h]; simp)]
            by_cases c1 : a ≤ t
            · by_cases c2 : t < b
              · by_cases c3 : b ≤ a
                · exact absurd (show False by omega) id
                · have hI : isS a b t = true := by unfold isS; exact decide_eq_true (by omega)
                  have HI := Lib.hid hI
                  clear hI
                  go_upto_region 22 with fail
                  go_wp2
                  obtain ⟨W9, e9, hb9, v0, v1, v2⟩ := HM7.out.out p.aoff true p.also
                  rw [e9]
                  exact bodyPost_ret (v := atV p.aoff true p.also 0) (by simp [results, Tryd.results17, go_sem, v0, v1, v2]) rfl ⟨ret_v (HYES.out HI.out).symm, hb9⟩
              · by_cases c3 : b ≤ a
                · have hI : isS a b t = true := by unfold isS; exact decide_eq_true (by omega)
                  have HI := Lib.hid hI
                  clear hI
                  go_upto_region 22 with fail
                  go_wp2
                  obtain ⟨W9, e9, hb9, v0, v1, v2⟩ := HM7.out.out p.aoff true p.also
                  rw [e9]
                  exact bodyPost_ret (v := atV p.aoff true p.also 0) (by simp [results, Tryd.results17, go_sem, v0, v1, v2]) rfl ⟨ret_v (HYES.out HI.out).symm, hb9⟩
                · have hI : isS a b t = false := by unfold isS; exact decide_eq_false (by omega)
                  have HI := Lib.hid hI
                  clear hI
                  go_upto_region 23 with fail
                  go_wp2
                  obtain ⟨W9, e9, hb9, v0, v1, v2⟩ := HM7.out.out p.off false p.name
                  rw [e9]
                  exact bodyPost_ret (v := atV p.off false p.name 0) (by simp [results, Tryd.results17, go_sem, v0, v1, v2]) rfl ⟨ret_v (HNO.out HI.out).symm, hb9⟩
            · by_cases c2 : t < b
              · by_cases c3 : b ≤ a
                · have hI : isS a b t = true := by unfold isS; exact decide_eq_true (by omega)
                  have HI := Lib.hid hI
                  clear hI
                  go_upto_region 22 with fail
                  go_wp2
                  obtain ⟨W9, e9, hb9, v0, v1, v2⟩ := HM7.out.out p.aoff true p.also
                  rw [e9]
                  exact bodyPost_ret (v := atV p.aoff true p.also 0) (by simp [results, Tryd.results17, go_sem, v0, v1, v2]) rfl ⟨ret_v (HYES.out HI.out).symm, hb9⟩
                · have hI : isS a b t = false := by unfold isS; exact decide_eq_false (by omega)
                  have HI := Lib.hid hI
                  clear hI
                  go_upto_region 23 with fail
                  go_wp2
                  obtain ⟨W9, e9, hb9, v0, v1, v2⟩ := HM7.out.out p.off false p.name
                  rw [e9]
                  exact bodyPost_ret (v := atV p.off false p.name 0) (by simp [results, Tryd.results17, go_sem, v0, v1, v2]) rfl ⟨ret_v (HNO.out HI.out).symm, hb9⟩
              · by_cases c3 : b ≤ a
                · have hI : isS a b t = false := by unfold isS; exact decide_eq_false (by omega)
                  have HI := Lib.hid hI
                  clear hI
                  go_upto_region 23 with fail
                  go_wp2
                  obtain ⟨W9, e9, hb9, v0, v1, v2⟩ := HM7.out.out p.off false p.name
                  rw [e9]
                  exact bodyPost_ret (v := atV p.off false p.name 0) (by simp [results, Tryd.results17, go_sem, v0, v1, v2]) rfl ⟨ret_v (HNO.out HI.out).symm, hb9⟩
                · exact absurd (show False by omega) id
  · have hc' : (C == 0) = false := by simpa using hc
    have hc'' : (C != 0) = true := by simpa using hc
    have HN := Lib.hid hc
    clear hc
    go_wp2
    obtain ⟨W9, e9, hb9, v0, v1, v2⟩ := HM1.out.out 0 false ⟨#[]⟩
    rw [e9]
    refine bodyPost_ret (v := atV 0 false ⟨#[]⟩ C) (by simp [results, Tryd.results17, go_sem, v0, v1, v2]) rfl ⟨ret_v ?_, hb9⟩
    unfold riteR
    rw [if_pos (by rw [EC.out]; exact HN.out), EC.out]

theorem At_any (p : Px) (t : Int) (w : World) (h1 : p.name.size ≤ maxLen) (h2 : p.also.size ≤ maxLen) (ht1 : -9223372036854775808 ≤ t) (ht2 : t ≤ 9223372036854775807) (ht : Tab10 w) :
    Calls Tryd.prog 17 #[pxV p, .int .i64 t] w fun e w' => e = .returned (riteR p t) ∧ Below w.heap.size w w' := by
  by_cases h : pxChk p = 0 ∧ okSt t = false
  · exact At_far p t w h1 h2 ht1 ht2 h.1 h.2
  · exact At_near p t w h1 h2 ht1 ht2 ht fun h0 => by
      by_cases hs : okSt t = true
      · exact hs
      · exact absurd ⟨h0, eq_false_of_ne_true hs⟩ h
end Go.Proofs.YtmjakhageehcoaaDoor
