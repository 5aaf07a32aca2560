/- NormMoved: the law's walk. -/
import Derived.Test.YteoliifghhlinaaMv1
import Derived.Test.YteoliifghhlinaaWallMath
import Derived.Test.YteoliifghhlinaaWalled
import Derived.BigQuiet
import Derived.Deep.DeepCutAuto
namespace Go.Proofs.Yteoliifghhlinaa
open Go.RowKit Go.Joins
open Classical
set_option linter.unusedVariables false
set_option linter.unusedSimpArgs false

theorem chkW_smallM (t : Tab) (x : Int) (h1 : -1099511627776 ≤ x) (h2 : x ≤ 1099511627776) : chkW t x = chk t := by
  unfold chkW
  split
  · rename_i h; rw [if_pos (by simp [okTime]; omega), h]
  · rfl

theorem wrap_kind {x : Int} (h : wrap64 x = x) : IntKind.i64.wrap x = x := by
  rw [IntKind.wrap_i64]
  unfold wrap64 at h
  omega
theorem wrap_kind2 {x y : Int} (h : wrap64 x = y) : IntKind.i64.wrap x = y := by
  rw [IntKind.wrap_i64]
  unfold wrap64 at h
  omega

set_option maxRecDepth 100000 in
set_option maxHeartbeats 16000000 in
theorem NormMoved_walk (t : Tab) (v : Value) (a1 a2 : Int) (w : World) (hv : TabAt w v t) (hlen : t.chs.length * 16 ≤ 140737488355328) :
    Calls Try.prog 10 #[v, .int .i64 a1, .int .i64 a2] w fun e w' => e = .returned (.bool true) ∧ Below w.heap.size w w' := by
  obtain ⟨p1, c1, p2, c2, rfl⟩ := tabForms hv
  obtain ⟨W0, eW⟩ : ∃ W0, w.alloc (.cells #[.slice p1 t.types.length c1, .int .i64 t.first, .slice p2 t.chs.length c2] 25) = W0 := ⟨_, rfl⟩
  have HX : Hid (TBx W0 w.heap.size p1 c1 p2 c2 t) := by show TBx _ _ _ _ _ _ _; rw [← eW]; exact TBx.box hv
  have HB : Hid (Below w.heap.size w W0) := by show Below _ _ _; rw [← eW]; exact below_al _ _
  have HEW := Lib.hid eW
  have HF1 := Lib.hid (fun W => Rest_any a1 1000000 W (by decide) (by decide))
  have HF2 := Lib.hid (fun W => Rest_any a2 400000 W (by decide) (by decide))
  have hf1 : 0 ≤ a1 % 1000000 := by omega
  have hf2 : a1 % 1000000 < 1000000 := by omega
  have hg1 : 0 ≤ a2 % 400000 := by omega
  have hg2 : a2 % 400000 < 400000 := by omega
  obtain ⟨B, eB⟩ : ∃ B, a1 % 1000000 = B := ⟨_, rfl⟩
  obtain ⟨G, eG⟩ : ∃ G, a2 % 400000 = G := ⟨_, rfl⟩
  rw [eB] at HF1 hf1 hf2
  rw [eG] at HF2 hg1 hg2
  have h63 : wrap64 (G - 200000) = G - 200000 := by unfold wrap64; omega
  have HM := Lib.hid (fun W v (hb : TabAt W v t) => moved_any t v B W hb hlen)
  obtain ⟨u, eu⟩ : ∃ u, shW B t = u := ⟨_, rfl⟩
  rw [eu] at HM
  have HEU := Lib.hid eu
  clear hv eW eB eG hlen eu
  go_enter Try.func10, Try.ntmps10
  go_wp2_with fail
  rw [HEW.out]
  refine (normed_any _).mono ?_
  rintro e w1 ⟨rfl, hb1⟩
  have HX1 := Lib.hid (HX.out.below hb1)
  have HB1 := Lib.hid (HB.out.trans (hb1.mono HB.out.size))
  clear hb1 HX HB
  go_wp2_with fail
  refine (walled_any _).mono ?_
  rintro e w2 ⟨rfl, hb2⟩
  have HX2 := Lib.hid (HX1.out.below hb2)
  have HB2 := Lib.hid (HB1.out.trans (hb2.mono HB1.out.size))
  obtain ⟨x0, x1, x2⟩ := HX2.out.cells
  have hl2 := HX2.out.lt
  clear hb2 HX1 HB1
  go_wp2_with fail
  refine (HF1.out _).mono ?_
  rintro e w' ⟨rfl, rfl⟩
  go_wp2_with fail
  refine (HF2.out _).mono ?_
  rintro e w' ⟨rfl, rfl⟩
  go_upto_region 4 with fail
  try rw [h63]
  obtain ⟨y, ey⟩ : ∃ y, G - 200000 = y := ⟨_, rfl⟩
  have hy1 : -200000 ≤ y := by omega
  have hy2 : y < 200000 := by omega
  rw [ey]
  clear ey h63 hg1 hg2 HF1 HF2
  go_wp2_with fail
  refine (HM.out _ _ HX2.out.2).mono ?_
  rintro e w3 ⟨q1, d1, q2, d2, rfl, hv3, hb3⟩
  obtain ⟨WA, eA⟩ : ∃ WA, w3.alloc (.cells #[.slice q1 u.types.length d1, .int .i64 u.first, .slice q2 u.chs.length d2] 25) = WA := ⟨_, rfl⟩
  have HUA := Lib.hid (TBx.box hv3)
  have hba := below_al w3 (.cells #[.slice q1 u.types.length d1, .int .i64 u.first, .slice q2 u.chs.length d2] 25)
  rw [eA] at HUA hba
  have HXA := Lib.hid ((HX2.out.below hb3).below hba)
  have HB3 := HB2.out.trans (hb3.mono HB2.out.size)
  have HBA := Lib.hid (HB3.trans (hba.mono HB3.size))
  obtain ⟨x0, x1, x2⟩ := (HX2.out.below hb3).cells
  have hl3 := (HX2.out.below hb3).lt
  have EA := Lib.hid eA
  clear hv3 hb3 hba HX2 HB2 HB3 eA hl2
  go_wp2_with fail
  rw [EA.out]
  refine (Check_any t _ WA HXA.out.2).mono ?_
  rintro e w4 ⟨rfl, hb4⟩
  have HX4 := Lib.hid (HXA.out.below hb4)
  have HU4 := Lib.hid (HUA.out.below hb4)
  have HB4 := Lib.hid (HBA.out.trans (hb4.mono HBA.out.size))
  obtain ⟨y0, y1, y2⟩ := HU4.out.cells
  clear hb4 HXA HUA HBA x0 x1 x2 hl3
  by_cases hk : chk t = 0
  · have HK := Lib.hid hk
    rw [hk]
    go_wp2_with fail
    refine (Check_any u _ w4 HU4.out.2).mono ?_
    rintro e w5 ⟨rfl, hb5⟩
    have HX5 := Lib.hid (HX4.out.below hb5)
    have HU5 := Lib.hid (HU4.out.below hb5)
    have HB5 := Lib.hid (HB4.out.trans (hb5.mono HB4.out.size))
    obtain ⟨x0, x1, x2⟩ := HX5.out.cells
    clear hb5 HX4 HU4 HB4 y0 y1 y2
    by_cases hk2 : chk u = 0
    · have HK2 := Lib.hid hk2
      have ok := Lib.hid (chk_ok t hk)
      have ok2 := Lib.hid (chk_ok u hk2)
      rw [hk2]
      have he : u = shT B t := by rw [← HEU.out]; exact shW_eq B t ok.out hf1 hf2
      have HE := Lib.hid he
      have HNU : Hid (normT u = shT B (normT t)) := by show _ = _; rw [he, sh_norm]
      have hbk := sh_back B t ok.out hf1 hf2
      have HNM := Lib.hid (fun W v (hb : TabAt W v (normT t)) => moved_any (normT t) v B W hb (by have := (norm_ok t ok.out).chs; omega))
      rw [hbk] at HNM
      have hty : tyOf u (y + B) = tyOf t y := by rw [he]; exact sh_says B t ok.out (by rw [← he]; exact ok2.out) y
      have hfn : fndT u (y + B) = (fndT t y).map (fun z => z + B) := by rw [he]; exact sh_fnd B t ok.out (by rw [← he]; exact ok2.out) y hf1 hf2 hy1 hy2
      have hyB : wrap64 (y + B) = y + B := IntWalk.wrap64_in _ ⟨by omega, by omega⟩
      have HL1 := Lib.hid (fun W v (hb : TabAt W v t) => Local_ok t v y W hb (by rw [chkW_smallM t _ (by omega) (by omega)]; exact hk))
      have HL2 := Lib.hid (fun W v (hb : TabAt W v u) => Local_ok u v (y + B) W hb (by rw [chkW_smallM u _ (by omega) (by omega)]; exact hk2))
      have HD1 := Lib.hid (fun W v (hb : TabAt W v t) => Find_int t v y W hb (by rw [chkW_smallM t _ (by omega) (by omega)]; exact hk))
      have HD2 := Lib.hid (fun W v (hb : TabAt W v u) => Find_int u v (y + B) W hb (by rw [chkW_smallM u _ (by omega) (by omega)]; exact hk2))
      have hA1 := tyOf_off t y ok.out
      have hLm : (fndT t y).length ≤ 2001 := by
        have := fnd_length y (uptoP t (t.chs.length + 1))
        rw [uptoP_length] at this
        have := ok.out.chs
        unfold fndT
        omega
      have hLb : ∀ z ∈ fndT t y, wrap64 (z + B) = z + B := by
        intro z hz
        have h1 := (mem_fndT t ok.out y (by omega) (by omega) z).1 hz
        have h2 := tyOf_off t z ok.out
        exact IntWalk.wrap64_in _ ⟨by omega, by omega⟩
      rw [hty] at HL2
      rw [show fnd (y + B) (uptoP u (u.chs.length + 1)) = (fndT t y).map (fun z => z + B) from hfn] at HD2
      rw [show fnd y (uptoP t (t.chs.length + 1)) = fndT t y from rfl] at HD1
      obtain ⟨L, eL⟩ : ∃ L, fndT t y = L := ⟨_, rfl⟩
      rw [eL] at HD1 HD2 hLb hLm
      obtain ⟨O, eO⟩ : ∃ O, (tyOf t y).off = O := ⟨_, rfl⟩
      rw [eO] at HL1 HL2 hA1
      have HLB := Lib.hid hLb
      have HN1 := Lib.hid (fun W v (hb : TabAt W v t) => Norm_ok t v W hb hk)
      have HN2 := Lib.hid (fun W v (hb : TabAt W v u) => Norm_ok u v W hb hk2)
      rw [HNU.out] at HN2
      have hwO : wrap64 (y + O + B) = y + B + O := by rw [IntWalk.wrap64_in _ ⟨by omega, by omega⟩]; omega
      obtain ⟨N, eN⟩ : ∃ N, normT t = N := ⟨_, rfl⟩
      rw [eN] at HN1 HN2 HNM
      obtain ⟨M, eM⟩ : ∃ M, shT B N = M := ⟨_, rfl⟩
      rw [eM] at HN2 HNM
      clear he hbk hty hfn hk hk2 hLb eL eO eN eM ok ok2 HNU HEU HM HE
      go_wp2_with fail
      refine (HN1.out _ _ HX5.out.2).mono ?_
      rintro e w6 ⟨v6, rfl, hv6, hb6⟩
      obtain ⟨r1, g1, r2, g2, rfl⟩ := tabForms hv6
      obtain ⟨WB, eB⟩ : ∃ WB, w6.alloc (.cells #[.slice r1 N.types.length g1, .int .i64 N.first, .slice r2 N.chs.length g2] 25) = WB := ⟨_, rfl⟩
      have HPB := Lib.hid (TBx.box hv6)
      have hbb := below_al w6 (.cells #[.slice r1 N.types.length g1, .int .i64 N.first, .slice r2 N.chs.length g2] 25)
      rw [eB] at HPB hbb
      have HXB := Lib.hid ((HX5.out.below hb6).below hbb)
      have HUB := Lib.hid ((HU5.out.below hb6).below hbb)
      have HB6 := HB5.out.trans (hb6.mono HB5.out.size)
      have HBB := Lib.hid (HB6.trans (hbb.mono HB6.size))
      obtain ⟨y0, y1, y2⟩ := (HU5.out.below hb6).cells
      have hl6 := (HU5.out.below hb6).lt
      have EB := Lib.hid eB
      clear hv6 hb6 hbb eB HX5 HU5 HB5 HB6 x0 x1 x2
      go_wp2_with fail
      rw [EB.out]
      refine (HN2.out _ _ HUB.out.2).mono ?_
      rintro e w7 ⟨v7, rfl, hv7, hb7⟩
      obtain ⟨r3, g3, r4, g4, rfl⟩ := tabForms hv7
      obtain ⟨WC, eC⟩ : ∃ WC, w7.alloc (.cells #[.slice r3 M.types.length g3, .int .i64 M.first, .slice r4 M.chs.length g4] 25) = WC := ⟨_, rfl⟩
      have HQC := Lib.hid (TBx.box hv7)
      have hbc := below_al w7 (.cells #[.slice r3 M.types.length g3, .int .i64 M.first, .slice r4 M.chs.length g4] 25)
      rw [eC] at HQC hbc
      have HXC := Lib.hid ((HXB.out.below hb7).below hbc)
      have HUC := Lib.hid ((HUB.out.below hb7).below hbc)
      have HPC := Lib.hid ((HPB.out.below hb7).below hbc)
      have HB7 := HBB.out.trans (hb7.mono HBB.out.size)
      have HBC := Lib.hid (HB7.trans (hbc.mono HB7.size))
      obtain ⟨x0, x1, x2⟩ := (HXB.out.below hb7).cells
      have hl7 := (HXB.out.below hb7).lt
      have EC := Lib.hid eC
      clear hv7 hb7 hbc eC HXB HUB HPB HBB HB7 y0 y1 y2 EB hl6
      go_wp2_with fail
      rw [EC.out]
      refine (HL1.out _ _ HXC.out.2).mono ?_
      rintro e w8 ⟨rfl, hb8⟩
      have HB8 := Lib.hid hb8
      obtain ⟨y0, y1, y2⟩ := (HUC.out.below hb8).cells
      clear hb8 x0 x1 x2 hl7
      go_wp2_with fail
      try rw [hyB]
      refine (HL2.out _ _ (HUC.out.below HB8.out).2).mono ?_
      rintro e w9 ⟨rfl, hb9⟩
      have HB9 := Lib.hid (HB8.out.trans (hb9.mono HB8.out.size))
      obtain ⟨x0, x1, x2⟩ := (HXC.out.below HB9.out).cells
      clear hb9 y0 y1 y2 HB8
      go_wp2_with fail
      refine (HD1.out _ _ (HXC.out.below HB9.out).2).mono ?_
      rintro e w10 ⟨vl, rfl, hsl, hb10⟩
      obtain ⟨⟨f1, k1, rfl, hat1⟩, -⟩ := hsl
      have HB10 := Lib.hid (HB9.out.trans (hb10.mono HB9.out.size))
      have HAT1 := Lib.hid hat1
      have hsz10 := HB10.out.size
      obtain ⟨y0, y1, y2⟩ := (HUC.out.below HB10.out).cells
      clear hb10 x0 x1 x2 HB9 hat1
      go_wp2_with fail
      try rw [hyB]
      refine (HD2.out _ _ (HUC.out.below HB10.out).2).mono ?_
      rintro e w11 ⟨vm, rfl, hsm, hb11⟩
      obtain ⟨⟨f2, k2, ev, hat2⟩, -⟩ := hsm
      rw [List.length_map] at ev
      subst ev
      have HAT2 := Lib.hid hat2
      have HB11 := Lib.hid (HB10.out.trans (hb11.mono HB10.out.size))
      have hsz11 := hb11.size
      have HBL := Lib.hid hb11
      clear hb11 hat2 y0 y1 y2 HN1 HN2 HL1 HL2 HD1 HD2
      go_wp2_with fail
      go_loopw [112] (fun i wr => ∃ (k : Nat), k ≤ L.length ∧ i = .int .i64 k ∧ Below w11.heap.size w11 wr) (fun i _ => L.length - (intOf i).toNat)
      case atStart => exact ⟨0, Nat.zero_le _, rfl, Below.refl _ _⟩
      case round =>
        obtain ⟨k, hk, rfl, hbr⟩ := hrel
        have HBR := Lib.hid hbr
        have HBZ := Lib.hid (HB11.out.trans (hbr.mono HB11.out.size))
        clear hbr
        by_cases hkL : k < L.length
        · have hne : L ≠ [] := fun e => by rw [e] at hkL; exact absurd hkL (Nat.not_lt_zero _)
          have hkM : k < (L.map (fun z => z + B)).length := by rw [List.length_map]; exact hkL
          have hneM : L.map (fun z => z + B) ≠ [] := fun e => by rw [e] at hkM; exact absurd hkM (Nat.not_lt_zero _)
          obtain ⟨b1, o1, rfl, hb1, hc1⟩ := HAT1.out hne
          obtain ⟨b2, o2, rfl, hb2, hc2⟩ := HAT2.out hneM
          have d1 := (HBR.out.cell (p := ⟨b1, o1 + k, none⟩) (Nat.lt_of_lt_of_le hb1 hsz11)).trans ((HBL.out.cell (p := ⟨b1, o1 + k, none⟩) hb1).trans (hc1 k hkL))
          have d2 := (HBR.out.cell (p := ⟨b2, o2 + k, none⟩) hb2).trans (hc2 k hkM)
          rw [List.getElem_map] at d2
          have hz := HLB.out L[k] (List.getElem_mem _)
          obtain ⟨z, ez⟩ : ∃ z, L[k] = z := ⟨_, rfl⟩
          rw [ez] at d1 d2 hz
          have hz2 := wrap_kind hz
          clear hne hkM hneM hc1 hc2 ez
          go_upto_region 18 with fail
          go_big_quiet (fail)
          go_wp2_with fail
          go_roundw
          case rel => exact ⟨k + 1, hkL, by go_num, below_drewNm HBR.out _⟩
          case measure => simp [intOf]; omega
        · obtain rfl : k = L.length := by omega
          have HPR := Lib.hid (HPC.out.below HBZ.out)
          have HQR := Lib.hid (HQC.out.below HBZ.out)
          have KS : Hid (∀ wx, Below wr.heap.size wr wx → (Below wr.heap.size wr wx ∧ wx.cell? ⟨w6.heap.size, 0, none⟩ = some (.slice r1 N.types.length g1) ∧ wx.cell? ⟨w6.heap.size, 1, none⟩ = some (.int .i64 N.first) ∧ wx.cell? ⟨w6.heap.size, 2, none⟩ = some (.slice r2 N.chs.length g2) ∧ wx.cell? ⟨w7.heap.size, 0, none⟩ = some (.slice r3 M.types.length g3) ∧ wx.cell? ⟨w7.heap.size, 1, none⟩ = some (.int .i64 M.first) ∧ wx.cell? ⟨w7.heap.size, 2, none⟩ = some (.slice r4 M.chs.length g4))) := by
            show ∀ wx, Below wr.heap.size wr wx → _
            intro wx hb
            obtain ⟨b0, b1, b2⟩ := (HPR.out.below hb).cells
            obtain ⟨c0, c1, c2⟩ := (HQR.out.below hb).cells
            exact ⟨hb, b0, b1, b2, c0, c1, c2⟩
          have KR : Hid (∀ wx, (Below wr.heap.size wr wx ∧ wx.cell? ⟨w6.heap.size, 0, none⟩ = some (.slice r1 N.types.length g1) ∧ wx.cell? ⟨w6.heap.size, 1, none⟩ = some (.int .i64 N.first) ∧ wx.cell? ⟨w6.heap.size, 2, none⟩ = some (.slice r2 N.chs.length g2) ∧ wx.cell? ⟨w7.heap.size, 0, none⟩ = some (.slice r3 M.types.length g3) ∧ wx.cell? ⟨w7.heap.size, 1, none⟩ = some (.int .i64 M.first) ∧ wx.cell? ⟨w7.heap.size, 2, none⟩ = some (.slice r4 M.chs.length g4)) → Below wr.heap.size wr wx) := by
            show ∀ wx, _ → Below wr.heap.size wr wx
            exact fun wx h => h.1
          have KP := Lib.hid (fun wx (hb : Below wr.heap.size wr wx) => (HPR.out.below hb).2)
          have KQ := Lib.hid (fun wx (hb : Below wr.heap.size wr wx) => (HQR.out.below hb).2)
          have HBF := Lib.hid (HBC.out.trans (HBZ.out.mono HBC.out.size))
          obtain ⟨x0, x1, x2⟩ := HPR.out.cells
          obtain ⟨y0, y1, y2⟩ := HQR.out.cells
          have hlp := HPR.out.lt
          have hlq := HQR.out.lt
          have hwK := wrap_kind2 hwO
          clear HAT1 HAT2 HLB HB10 HB11 HBL HPC HQC HXC HUC HBC HBR HBZ hsz10 hsz11 hLm hkL hk hA1 hwO hyB HEW HK HK2 EA EC hf1 hf2 hy1 hy2 hlp hlq
          go_upto_region 21 with fail
          go_cut [6] (fun s6 wx => s6 = .bool true ∧ Below w.heap.size w wx)
          case first =>
            go_region_held3 (fun wx => Below wr.heap.size wr wx ∧ wx.cell? ⟨w6.heap.size, 0, none⟩ = some (.slice r1 N.types.length g1) ∧ wx.cell? ⟨w6.heap.size, 1, none⟩ = some (.int .i64 N.first) ∧ wx.cell? ⟨w6.heap.size, 2, none⟩ = some (.slice r2 N.chs.length g2) ∧ wx.cell? ⟨w7.heap.size, 0, none⟩ = some (.slice r3 M.types.length g3) ∧ wx.cell? ⟨w7.heap.size, 1, none⟩ = some (.int .i64 M.first) ∧ wx.cell? ⟨w7.heap.size, 2, none⟩ = some (.slice r4 M.chs.length g4)) ((refine KS.out _ ?_; repeat (first | (with_reducible exact HB13.out) | (with_reducible exact HB12.out) | (with_reducible exact Below.refl _ _) | (with_reducible refine Below.drew ?_))))
              (first
                | (go_at_call 22; refine (HNM.out _ _ (KP.out _ (KR.out _ (by assumption)))).mono ?_; rintro e w12 ⟨j1, m1, j2, m2, rfl, hv12, hb12⟩; have HB12 := Lib.hid ((KR.out _ (by assumption)).trans (hb12.mono (KR.out _ (by assumption)).size)); have HT12 := Lib.hid (TableEq_any M M _ _ w12 hv12 (KQ.out _ HB12.out)); rw [decide_eq_true (rfl : M = M)] at HT12; clear hb12 hv12)
                | (go_at_call 18; refine HT12.out.mono ?_; rintro e w13 ⟨rfl, hb13⟩; have HB13 := Lib.hid (HB12.out.trans (hb13.mono HB12.out.size)); clear hb13))
            all_goals go_wp2_with fail
            all_goals go_meet
            all_goals exact ⟨rfl, HBF.out.trans ((KR.out _ (by assumption)).mono HBF.out.size)⟩
          case rest =>
            obtain ⟨rfl, hbc⟩ := hcut
            go_wp2
            go_ret
            exact ⟨rfl, hbc⟩
    · obtain ⟨K, eK⟩ : ∃ K, chk u = K := ⟨_, rfl⟩
      rw [eK] at hk2 ⊢
      have hk' : (K == 0) = false := by simpa using hk2
      have hk3 : (K != 0) = true := by simpa using hk2
      clear hk2 eK hk
      go_wp2
      go_ret
      exact ⟨rfl, HB5.out⟩
  · obtain ⟨K, eK⟩ : ∃ K, chk t = K := ⟨_, rfl⟩
    rw [eK] at hk ⊢
    have hk' : (K == 0) = false := by simpa using hk
    have hk3 : (K != 0) = true := by simpa using hk
    clear hk eK
    go_wp2
    go_ret
    exact ⟨rfl, HB4.out⟩
end Go.Proofs.Yteoliifghhlinaa
