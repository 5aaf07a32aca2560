/- NormSpans. -/
import Derived.Test.YteoliifghhlinaaN3
import Derived.Test.YteoliifghhlinaaN5a
import Derived.Test.YteoliifghhlinaaN5b
import Derived.Deep.DeepCutAuto
import Derived.Handy
namespace Go.Proofs.Yteoliifghhlinaa
open Go.RowKit Go.Joins
open Classical
set_option linter.unusedVariables false
set_option linter.unusedSimpArgs false

set_option maxRecDepth 100000 in
set_option maxHeartbeats 4000000 in
theorem NormSpans_walk (a : Tab) (va : Value) (b : Tab) (vb : Value) (a1 a2 a3 : Int) (w : World) (hv : TabAt w va a) (hu : TabAt w vb b) :
    Calls Try.prog 6 #[va, vb, .int .i64 a1, .int .i64 a2, .int .i64 a3] w fun e w' => e = .returned (.bool true) ∧ Below w.heap.size w w' := by
  obtain ⟨p1, c1, p2, c2, rfl⟩ := tabForms hv
  obtain ⟨p3, c3, p4, c4, rfl⟩ := tabForms hu
  obtain ⟨W0, eW⟩ : ∃ W0, (w.alloc (.cells #[.slice p1 a.types.length c1, .int .i64 a.first, .slice p2 a.chs.length c2] 25)).alloc (.cells #[.slice p3 b.types.length c3, .int .i64 b.first, .slice p4 b.chs.length c4] 25) = W0 := ⟨_, rfl⟩
  obtain ⟨hX, hY, hB⟩ := box_two eW hv hu
  have HX := Lib.hid hX
  have HY := Lib.hid hY
  have HB := Lib.hid hB
  have HEW := Lib.hid eW
  have HF1 := Lib.hid (fun W => Rest_any a1 200000 W (by decide) (by decide))
  have HF2 := Lib.hid (fun W => Rest_any a2 200000 W (by decide) (by decide))
  have hf1 : 0 ≤ a1 % 200000 := by omega
  have hf2 : a1 % 200000 < 200000 := by omega
  have hg1 : 0 ≤ a2 % 200000 := by omega
  have hg2 : a2 % 200000 < 200000 := by omega
  obtain ⟨F, eF⟩ : ∃ F, a1 % 200000 = F := ⟨_, rfl⟩
  obtain ⟨G, eG⟩ : ∃ G, a2 % 200000 = G := ⟨_, rfl⟩
  rw [eF] at HF1 hf1 hf2
  rw [eG] at HF2 hg1 hg2
  have h63 : wrap64 (F - 100000) = F - 100000 := by unfold wrap64; omega
  have h64 : wrap64 (F - 100000 + G) = F - 100000 + G := by unfold wrap64; omega
  have h65 : IntKind.i64.wrap (F - 100000 + G) = F - 100000 + G := by rw [IntKind.wrap_i64]; omega
  have h66 : wrap64 (F - 100000 + G + 1) = F - 100000 + G + 1 := by unfold wrap64; omega
  have h67 : IntKind.i64.wrap (F - 100000 + G + 1) = F - 100000 + G + 1 := by rw [IntKind.wrap_i64]; omega
  obtain ⟨P, eP⟩ : ∃ P, F - 100000 = P := ⟨_, rfl⟩
  obtain ⟨Q, eQ⟩ : ∃ Q, F - 100000 + G + 1 = Q := ⟨_, rfl⟩
  have hP1 : -100000 ≤ P := by omega
  have hPQ : P < Q := by omega
  have hPQ2 : Q - P ≤ 200000 := by omega
  have hQ2 : Q ≤ 400000 := by omega
  have HPQ := Lib.hid (And.intro hP1 (And.intro hPQ (And.intro hPQ2 hQ2)))
  have hok : Hid (okSpan P Q = true) := by
    show _ = _
    simp only [okSpan, okTime, Bool.and_eq_true, decide_eq_true_eq]
    omega
  have EQ := Lib.hid eQ
  have EP := Lib.hid eP
  clear hv hu eW hX hY hB eF eG hf1 hf2 hg1 hg2 eP eQ hP1 hPQ hPQ2 hQ2
  go_enter Try.func6, Try.ntmps6
  go_wp2_with fail
  rw [HEW.out]
  refine (normed_any _).mono ?_
  rintro e w1 ⟨rfl, hb1⟩
  have HX1 := Lib.hid (HX.out.below hb1)
  have HY1 := Lib.hid (HY.out.below hb1)
  have HB1 := Lib.hid (HB.out.trans (hb1.mono HB.out.size))
  clear hb1 HX HY HB
  go_wp2_with fail
  refine (HF1.out _).mono ?_
  rintro e w' ⟨rfl, rfl⟩
  go_upto_region 4 with fail
  rw [h63]
  go_cut [] (fun wx => wx.heap[w1.heap.size]? = some (.cells #[.int .i64 P, .int .i64 Q] 29 (0, 0)) ∧ Below w1.heap.size w1 wx)
  case first =>
    go_region_with (first
      | (go_at_call_of 12 (Value.int .i64 a2); refine (HF2.out _).mono ?_; rintro e w' ⟨rfl, rfl⟩)
      | fail)
    all_goals go_wp2_with fail
    all_goals go_meet
    all_goals rw [← EP.out, ← EQ.out]
    all_goals exact ⟨alloc_at _ _ _ rfl, (below_al _ _).drew⟩
  case rest =>
    obtain ⟨hS, hbS⟩ := hcut
    rename World => WC
    have HXC := Lib.hid (HX1.out.below hbS)
    have HYC := Lib.hid (HY1.out.below hbS)
    have HBC := Lib.hid (HB1.out.trans (hbS.mono HB1.out.size))
    have HSC := Lib.hid hS
    have hsl := (Array.getElem?_eq_some_iff.mp hS).1
    have HSL := Lib.hid hsl
    obtain ⟨x0, x1, x2⟩ := HXC.out.cells
    have hl1 := HXC.out.lt
    obtain ⟨y0, y1, y2⟩ := HYC.out.cells
    have hl2 := HYC.out.lt
    have s0 : WC.cell? ⟨w1.heap.size, 0, none⟩ = some (.int .i64 P) := (cell_of_row WC _ 0 _ _ _ hS).trans rfl
    have s1 : WC.cell? ⟨w1.heap.size, 1, none⟩ = some (.int .i64 Q) := (cell_of_row WC _ 1 _ _ _ hS).trans rfl
    clear hbS hS HX1 HY1 HB1 EQ EP h63 h64 h65 h66 h67 HF1 HF2
    by_cases hc : chk2 a b = 0
    · obtain ⟨ha, hb⟩ := chk2_zero hc
      have oka := chk_ok a ha
      have okb := chk_ok b hb
      have HB1 := Lib.hid (Between_ok a b _ _ P Q WC HXC.out.2 HYC.out.2 ha hb hok.out)
      have HB2 := Lib.hid (fun W (hb' : Below WC.heap.size WC W) => Between_ok b a _ _ P Q W (HYC.out.2.below hb') (HXC.out.2.below hb') hb ha hok.out)
      rw [outB_comm b a P Q] at HB2
      have HA1 := Lib.hid (fun X W (hb' : Below WC.heap.size WC W) => At_ok a _ X W (HXC.out.2.below hb') ha)
      have HA2 := Lib.hid (fun X W (hb' : Below WC.heap.size WC W) => At_ok b _ X W (HYC.out.2.below hb') hb)
      obtain ⟨hm1, hm2, hm3⟩ := outB_facts a b P Q (Int.le_of_lt HPQ.out.2.1) oka okb
      have hlen := outB_len a b P Q oka okb
      have hsl2 := spL_len (outB a b P Q)
      have HOS1 := Lib.hid (fun (W : World) (B : Nat) (v : Value) (h : W.ownsRow B 29 2 v (outB a b P Q).length (spCells (outB a b P Q))) => own_sp h (Nat.le_trans hlen (by decide)))
      obtain ⟨L, eL⟩ : ∃ L, outB a b P Q = L := ⟨_, rfl⟩
      rw [eL] at HB1 HB2 hm1 hm2 hm3 hlen hsl2
      simp only [eL] at HOS1
      obtain ⟨M, eM⟩ : ∃ M, spL L = M := ⟨_, rfl⟩
      rw [eM] at hm1 hm2 hm3 hsl2
      simp only [eM] at HOS1
      have HM1 := Lib.hid hm1
      have HM2 := Lib.hid hm2
      have HM3 := Lib.hid hm3
      have hml : M.length ≤ 2002 := by omega
      have HEQ := Lib.hid (fun v u W (h1 : SlCh W v M) (h2 : SlCh W u M) => EqSp_any M M v u W h1 h2)
      simp only [decide_true] at HEQ
      clear hc ha hb oka okb hm1 hm2 hm3 hlen hsl2 eL eM
      go_wp2_with fail
      refine HB1.out.mono ?_
      rintro e w3 ⟨vo, rfl, hvo, hb3⟩
      have hso := HOS1.out _ _ _ hvo
      obtain ⟨pl, kl, rfl, hat⟩ := hso.shape
      have HSO := Lib.hid hso
      have HAT := Lib.hid hat
      have HB3 := Lib.hid hb3
      have hs3 := (hb3.block w1.heap.size HSL.out).trans HSC.out
      have s0 : w3.cell? ⟨w1.heap.size, 0, none⟩ = some (.int .i64 P) := (cell_of_row w3 _ 0 _ _ _ hs3).trans rfl
      have s1 : w3.cell? ⟨w1.heap.size, 1, none⟩ = some (.int .i64 Q) := (cell_of_row w3 _ 1 _ _ _ hs3).trans rfl
      obtain ⟨x0, x1, x2⟩ := (HXC.out.below hb3).cells
      obtain ⟨y0, y1, y2⟩ := (HYC.out.below hb3).cells
      clear hb3 hs3 hvo hso hat
      go_wp2_with fail
      refine (HB2.out _ HB3.out).mono ?_
      rintro e w4 ⟨vo, rfl, hvo, hb4⟩
      have hso2 := HOS1.out _ _ _ hvo
      obtain ⟨pm, km, rfl, -⟩ := hso2.shape
      have HSO2 := Lib.hid hso2
      have HSO4 := Lib.hid (HSO.out.below hb4)
      have HAT4 : Hid (M ≠ [] → ∃ b o, pl = some ⟨b, o, none⟩ ∧ b < w4.heap.size ∧ ∀ i (h : i < M.length), chAt w4 b (o + i * 2) M[i]) := by
        intro hne
        obtain ⟨b, o, e, h1, h2⟩ := HAT.out hne
        exact ⟨b, o, e, Nat.lt_of_lt_of_le h1 hb4.size, fun i hi => (h2 i hi).below hb4 h1⟩
      have HB4 := Lib.hid (HB3.out.trans (hb4.mono HB3.out.size))
      clear hb4 hvo hso2 x0 x1 x2 y0 y1 y2 s0 s1 HSO HAT hl1 hl2 hsl
      go_wp2_with fail
      refine (HEQ.out _ _ _ HSO4.out HSO2.out).mono ?_
      rintro e w5 ⟨rfl, hb5⟩
      have HB5 := Lib.hid (HB4.out.trans (hb5.mono HB4.out.size))
      have HAT5 : Hid (M ≠ [] → ∃ b o, pl = some ⟨b, o, none⟩ ∧ b < w5.heap.size ∧ ∀ i (h : i < M.length), chAt w5 b (o + i * 2) M[i]) := by
        intro hne
        obtain ⟨b, o, e, h1, h2⟩ := HAT4.out hne
        exact ⟨b, o, e, Nat.lt_of_lt_of_le h1 hb5.size, fun i hi => (h2 i hi).below hb5 h1⟩
      have HS5 := Lib.hid ((HB5.out.block w1.heap.size HSL.out).trans HSC.out)
      have s0 : w5.cell? ⟨w1.heap.size, 0, none⟩ = some (.int .i64 P) := (cell_of_row w5 _ 0 _ _ _ HS5.out).trans rfl
      have s1 : w5.cell? ⟨w1.heap.size, 1, none⟩ = some (.int .i64 Q) := (cell_of_row w5 _ 1 _ _ _ HS5.out).trans rfl
      have hs5 : w1.heap.size < w5.heap.size := Nat.lt_of_lt_of_le HSL.out HB5.out.size
      clear hb5 HAT4 HSO4 HSO2 HEQ
      have HR := Lib.hid (fun W => Rest_any a3 (Q - P) W (by have := HPQ.out; omega) (by have := HPQ.out; omega))
      have hr1 : 0 ≤ a3 % (Q - P) := Int.emod_nonneg _ (by have := HPQ.out; omega)
      have hr2 : a3 % (Q - P) < Q - P := Int.emod_lt_of_pos _ (by have := HPQ.out; omega)
      obtain ⟨R, eR⟩ : ∃ R, a3 % (Q - P) = R := ⟨_, rfl⟩
      rw [eR] at HR hr1 hr2
      obtain ⟨hq1, hq2, hq3, hq4⟩ := HPQ.out
      have g63 : wrap64 (Q - P) = Q - P := by unfold wrap64; omega
      have g64 : IntKind.i64.wrap (Q - P) = Q - P := by rw [IntKind.wrap_i64]; omega
      have g65 : wrap64 (P + R) = P + R := by unfold wrap64; omega
      have g66 : IntKind.i64.wrap (P + R) = P + R := by rw [IntKind.wrap_i64]; omega
      have HXP : Hid (P ≤ P + R ∧ P + R < Q) := by show _ ∧ _; omega
      clear hr1 hr2 hq1 hq2 hq3 hq4 eR
      go_upto_region 11 with fail
      go_cut [4] (fun s4 wx => s4 = .int .i64 (P + R) ∧ Below w5.heap.size w5 wx)
      case first =>
        go_region_with (first
          | (go_at_call_of 12 (Value.int .i64 a3); refine (HR.out _).mono ?_; rintro e w' ⟨rfl, rfl⟩)
          | fail)
        all_goals go_wp2_with fail
        all_goals go_meet
        all_goals exact ⟨rfl, (Below.refl _ _).drew⟩
      case rest =>
        obtain ⟨rfl, hbC⟩ := hcut
        obtain ⟨X, eX⟩ : ∃ X, P + R = X := ⟨_, rfl⟩
        rw [eX] at HXP ⊢
        have HBC5 := Lib.hid hbC
        clear s0 s1 hs5 hbC eX g63 g64 g65 g66 HR
        have HS6 := Lib.hid ((HBC5.out.block w1.heap.size (Nat.lt_of_lt_of_le HSL.out HB5.out.size)).trans HS5.out)
        have HL6 : Hid (w1.heap.size < wc.heap.size) := Nat.lt_of_lt_of_le HSL.out (Nat.le_trans HB5.out.size HBC5.out.size)
        have HAT6 : Hid (M ≠ [] → ∃ b o, pl = some ⟨b, o, none⟩ ∧ b < wc.heap.size ∧ ∀ i (h : i < M.length), chAt wc b (o + i * 2) M[i]) := by
          intro hne
          obtain ⟨b, o, e, h1, h2⟩ := HAT5.out hne
          exact ⟨b, o, e, Nat.lt_of_lt_of_le h1 HBC5.out.size, fun i hi => (h2 i hi).below HBC5.out h1⟩
        have HB6 := Lib.hid (HB5.out.trans (HBC5.out.mono HB5.out.size))
        clear HAT5 HS5 HBC5 HB3 HB4 HB5
        go_wp2_with fail
        go_loopw [16, 78] (fun s16 s78 wr => ∃ k : Nat, k ≤ M.length ∧ s78 = .int .i64 k ∧ s16 = .bool ((M.take k).any (inC X)) ∧ Below wc.heap.size wc wr) (fun _ s78 _ => M.length - (intOf s78).toNat)
        case atStart => exact ⟨0, Nat.zero_le _, rfl, rfl, Below.refl _ _⟩
        case round =>
          obtain ⟨k, hk, rfl, rfl, hbr⟩ := hrel
          have HBR := Lib.hid hbr
          by_cases hkL : k < M.length
          · obtain ⟨cb, co, rfl, hcb, hcat⟩ := HAT6.out (by intro e; rw [e] at hkL; simp at hkL)
            have h1 := (hcat k hkL).below hbr hcb
            obtain ⟨c, ec⟩ : ∃ c, M[k] = c := ⟨_, rfl⟩
            rw [ec] at h1
            obtain ⟨g0, g1⟩ := h1
            obtain ⟨m1, m2, m3⟩ := HM1.out c (by rw [← ec]; exact List.getElem_mem hkL)
            have hIN := any_take M X k hkL
            rw [ec] at hIN
            obtain ⟨I, eI⟩ : ∃ I, (M.take k).any (inC X) = I := ⟨_, rfl⟩
            rw [eI] at hIN ⊢
            have HIN := Lib.hid hIN
            have hs := (hbr.block w1.heap.size HL6.out).trans HS6.out
            have s0 : wr.cell? ⟨w1.heap.size, 0, none⟩ = some (.int .i64 P) := (cell_of_row wr _ 0 _ _ _ hs).trans rfl
            have s1 : wr.cell? ⟨w1.heap.size, 1, none⟩ = some (.int .i64 Q) := (cell_of_row wr _ 1 _ _ _ hs).trans rfl
            have hsw : w1.heap.size < wr.heap.size := Nat.lt_of_lt_of_le HL6.out hbr.size
            have hcw : cb < wr.heap.size := World.block_lt_of_cell? _ _ g0
            have n1 : ¬ c.k ≤ c.t := by omega
            have n2 : ¬ c.t < P := by omega
            have n3 : ¬ Q < c.k := by omega
            have EC := Lib.hid ec
            have HCAT := Lib.hid hcat
            have HCB := Lib.hid hcb
            clear hIN eI hs m1 m2 m3 ec hcat hcb hbr
            rcases k with _ | j
            · rw [Nat.zero_mul, Nat.add_zero] at g0 g1
              refine Sp_r0 X P Q w1.heap.size cb co kl M.length c I wr _ _ _ _ _ _ _ _ _ _ _ _ _ _ _ _ _ _ _ _ _ _ _ _ _ _ _ _ _ _ _ _ _ _ _ _ _ _ _ _ _ _ _ _ _ _ _ _ _ _ _ _ _ _ _ _ _ _ _ _ _ _ _ _ _ _ _ _ _ _ _ _ _ _ _ _ _ _ _ _ _ _ _ _ _ _ _ _ _ _ _ _ _ _ _ _ _ _ _ _ _ _ _ _ _ _ _ _ _ _ _ _ _ _ _ _ _ _ _ _ _ _ _ _ _ _ _ _ _ _ _ _ _ _ _ _ _ _ _ _ _ _ _ _ _ _ _ _ _ _ _ g0 g1 s0 s1 n1 n2 n3 hkL hml (Lib.hid ?_)
              intro u_0 u_1 u_2 u_3 u_4 u_5 u_6 u_7 u_8 u_9 u_10 u_11 u_12 u_13 u_14 u_15 u_16 u_17 u_18 u_19 u_20 u_21 u_22 u_23 u_24 u_25 u_26 u_27 u_28 u_29 u_30 u_31 u_32 u_33 u_34 u_35 u_36 u_37 u_38 u_39 u_40 u_41 u_42 u_43 u_44 u_45 u_46 u_47 u_48 u_49 u_50 u_51 u_52 u_53 u_54 wz hbz
              dsimp only
              go_roundw
              case rel => exact ⟨0 + 1, hkL, by go_num, by rw [HIN.out], HBR.out.trans (hbz.mono HBR.out.size)⟩
              case measure => simp [intOf]; omega
            · have h2 := (HCAT.out j (by omega)).below HBR.out HCB.out
              have hpw := List.pairwise_iff_getElem.1 HM2.out j (j + 1) (by omega) hkL (by omega)
              rw [EC.out] at hpw
              obtain ⟨d, ed⟩ : ∃ d, M[j] = d := ⟨_, rfl⟩
              rw [ed] at h2 hpw
              obtain ⟨d0, d1⟩ := h2
              have n4 : ¬ c.t ≤ d.k := by omega
              clear ed hpw
              rw [show ((j + 1 : Nat) : Int) = (j : Int) + 1 from rfl]
              refine Sp_r1 X P Q w1.heap.size cb co kl M.length j c I wr _ _ _ _ _ _ _ _ _ _ _ _ _ _ _ _ _ _ _ _ _ _ _ _ _ _ _ _ _ _ _ _ _ _ _ _ _ _ _ _ _ _ _ _ _ _ _ _ _ _ _ _ _ _ _ _ _ _ _ _ _ _ _ _ _ _ _ _ _ _ _ _ _ _ _ _ _ _ _ _ _ _ _ _ _ _ _ _ _ _ _ _ _ _ _ _ _ _ _ _ _ _ _ _ _ _ _ _ _ _ _ _ _ _ _ _ _ _ _ _ _ _ _ _ _ _ _ _ _ _ _ _ _ _ _ _ _ _ _ _ _ _ _ _ _ _ _ _ _ _ _ g0 g1 d d0 d1 n4 s0 s1 n1 n2 n3 hkL hml (Lib.hid ?_)
              intro u_0 u_1 u_2 u_3 u_4 u_5 u_6 u_7 u_8 u_9 u_10 u_11 u_12 u_13 u_14 u_15 u_16 u_17 u_18 u_19 u_20 u_21 u_22 u_23 u_24 u_25 u_26 u_27 u_28 u_29 u_30 u_31 u_32 u_33 u_34 u_35 u_36 u_37 u_38 u_39 u_40 u_41 u_42 u_43 u_44 u_45 u_46 u_47 u_48 u_49 u_50 u_51 u_52 u_53 u_54 wz hbz
              dsimp only
              go_roundw
              case rel => exact ⟨(j + 1) + 1, hkL, by go_num, by rw [HIN.out], HBR.out.trans (hbz.mono HBR.out.size)⟩
              case measure => simp [intOf]; omega
          · obtain rfl : k = M.length := by omega
            rw [List.take_length, HM3.out X HXP.out.1 HXP.out.2]
            unfold eqB
            have HB7 := Lib.hid (HB6.out.trans (HBR.out.mono HB6.out.size))
            have HAA := Lib.hid (HA1.out X wr HB7.out)
            have HAB := Lib.hid (fun W (hb : Below WC.heap.size WC W) => HA2.out X W hb)
            obtain ⟨T, eT⟩ : ∃ T, tyOf a X = T := ⟨_, rfl⟩
            obtain ⟨U, eU⟩ : ∃ U, tyOf b X = U := ⟨_, rfl⟩
            rw [eT] at HAA ⊢
            rw [eU] at HAB ⊢
            obtain ⟨x0, x1, x2⟩ := (HXC.out.below HB7.out).cells
            have hl1 := (HXC.out.below HB7.out).lt
            clear hbr eT eU
            go_wp2_with fail
            refine HAA.out.mono ?_
            rintro e w8 ⟨rfl, hb8⟩
            simp only [tyV]
            obtain ⟨WE, eE⟩ : ∃ WE, w8.alloc (.cells #[.int .i64 T.off, .bool T.save, .string T.name] 46) = WE := ⟨_, rfl⟩
            have hbE := below_al w8 (.cells #[.int .i64 T.off, .bool T.save, .string T.name] 46)
            rw [eE] at hbE
            have HT1 := Lib.hid (ty_box w8 T)
            rw [eE] at HT1
            have HB8 := Lib.hid (HB7.out.trans (hb8.mono HB7.out.size))
            have HBE := Lib.hid (HB8.out.trans (hbE.mono HB8.out.size))
            have HLE : Hid (w8.heap.size < WE.heap.size) := by show _ < _; rw [← eE]; simp
            obtain ⟨y0, y1, y2⟩ := (HYC.out.below HB8.out).cells
            have hl2 := (HYC.out.below HB8.out).lt
            have EE := Lib.hid eE
            clear hb8 hbE eE x0 x1 x2 hl1
            go_wp2_with fail
            rw [EE.out]
            refine (HAB.out _ HBE.out).mono ?_
            rintro e w9 ⟨rfl, hb9⟩
            simp only [tyV]
            have hc9 := fun o => hb9.cell (p := ⟨w8.heap.size, o, none⟩) HLE.out
            have t0 := (hc9 0).trans HT1.out.1
            have t1 := (hc9 1).trans HT1.out.2.1
            have t2 := (hc9 2).trans HT1.out.2.2
            have hlt : w8.heap.size < w9.heap.size := Nat.lt_of_lt_of_le HLE.out hb9.size
            have HB9 := Lib.hid (HBE.out.trans (hb9.mono HBE.out.size))
            have HNE := fun W => neq_tyN T U W
            obtain ⟨D, eD⟩ : ∃ D, decide (T = U) = D := ⟨_, rfl⟩
            simp only [eD] at HNE ⊢
            clear hc9 hb9 eD y0 y1 y2 hl2
            cases D
            · go_wp2
              go_ret
              exact ⟨rfl, (HBC.out.trans (HB9.out.mono HBC.out.size)).alloc (Nat.le_trans HBC.out.size HB9.out.size) _⟩
            · go_wp2
              go_ret
              exact ⟨rfl, (HBC.out.trans (HB9.out.mono HBC.out.size)).alloc (Nat.le_trans HBC.out.size HB9.out.size) _⟩
    · have hc2 : chk2 b a ≠ 0 := fun h => hc (by obtain ⟨h1, h2⟩ := chk2_zero h; unfold chk2; rw [if_pos h2, h1])
      have HB1 := Lib.hid (Between_no a b _ _ P Q WC HXC.out.2 HYC.out.2 (.inl hc))
      have HB2 := Lib.hid (fun W (hb' : Below WC.heap.size WC W) => Between_no b a _ _ P Q W (HYC.out.2.below hb') (HXC.out.2.below hb') (.inl hc2))
      clear hc hc2
      go_wp2_with fail
      refine HB1.out.mono ?_
      rintro e w3 ⟨n, hn, rfl, hb3⟩
      have hn' : (n == 0) = false := by simpa using hn
      have HB3 := Lib.hid hb3
      have hs3 := (hb3.block w1.heap.size HSL.out).trans HSC.out
      have s0 : w3.cell? ⟨w1.heap.size, 0, none⟩ = some (.int .i64 P) := (cell_of_row w3 _ 0 _ _ _ hs3).trans rfl
      have s1 : w3.cell? ⟨w1.heap.size, 1, none⟩ = some (.int .i64 Q) := (cell_of_row w3 _ 1 _ _ _ hs3).trans rfl
      obtain ⟨x0, x1, x2⟩ := (HXC.out.below hb3).cells
      obtain ⟨y0, y1, y2⟩ := (HYC.out.below hb3).cells
      clear hb3 hs3 hn
      go_wp2_with fail
      refine (HB2.out _ HB3.out).mono ?_
      rintro e w4 ⟨m, hm, rfl, hb4⟩
      go_wp2
      go_ret
      exact ⟨rfl, HBC.out.trans ((HB3.out.trans (hb4.mono HB3.out.size)).mono HBC.out.size)⟩
end Go.Proofs.Yteoliifghhlinaa
