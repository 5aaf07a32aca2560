/- BetweenThree. -/
import Derived.Test.YteoliifghhlinaaN6
namespace Go.Proofs.Yteoliifghhlinaa
open Go.RowKit Go.Joins
open Classical
set_option linter.unusedVariables false
set_option linter.unusedSimpArgs false

/-- three boxed tables -/
def K3 (w : World) (ca cb cc : Array Value) (W : World) : Prop :=
  W.heap[w.heap.size]? = some (.cells ca 25 (0, 0)) ∧ W.heap[w.heap.size + 1]? = some (.cells cb 25 (0, 0)) ∧ W.heap[w.heap.size + 1 + 1]? = some (.cells cc 25 (0, 0)) ∧ Below w.heap.size w W
theorem blk_lt {W : World} {n : Nat} {o : Obj} (h : W.heap[n]? = some o) : n < W.heap.size := (Array.getElem?_eq_some_iff.mp h).1
theorem K3.below {w W W' : World} {ca cb cc : Array Value} (h : K3 w ca cb cc W) (hb : Below W.heap.size W W') : K3 w ca cb cc W' :=
  ⟨(hb.block _ (blk_lt h.1)).trans h.1, (hb.block _ (blk_lt h.2.1)).trans h.2.1, (hb.block _ (blk_lt h.2.2.1)).trans h.2.2.1, h.2.2.2.trans (hb.mono h.2.2.2.size)⟩
theorem K3.set {w W : World} {ca cb cc : Array Value} (h : K3 w ca cb cc W) (x : Value) : K3 w ca cb cc (W.setCell ⟨w.heap.size + 1 + 1 + 1, 0, none⟩ x) :=
  ⟨(Below.heap_setCell _ _ _ _ (by show w.heap.size ≠ w.heap.size + 1 + 1 + 1; omega)).trans h.1, (Below.heap_setCell _ _ _ _ (by show w.heap.size + 1 ≠ w.heap.size + 1 + 1 + 1; omega)).trans h.2.1, (Below.heap_setCell _ _ _ _ (by show w.heap.size + 1 + 1 ≠ w.heap.size + 1 + 1 + 1; omega)).trans h.2.2.1, h.2.2.2.setCell (by show w.heap.size ≤ w.heap.size + 1 + 1 + 1; omega) _⟩
theorem K3.drew {w W : World} {ca cb cc : Array Value} (h : K3 w ca cb cc W) : K3 w ca cb cc W.drew := ⟨h.1, h.2.1, h.2.2.1, h.2.2.2.drew⟩
theorem cells3h {W : World} {n : Nat} {a b c : Value} {T : TypeId} (h : W.heap[n]? = some (.cells #[a, b, c] T (0, 0))) : W.cell? ⟨n, 0, none⟩ = some a ∧ W.cell? ⟨n, 1, none⟩ = some b ∧ W.cell? ⟨n, 2, none⟩ = some c :=
  ⟨(cell_of_row W _ 0 _ _ _ h).trans rfl, (cell_of_row W _ 1 _ _ _ h).trans rfl, (cell_of_row W _ 2 _ _ _ h).trans rfl⟩

set_option maxRecDepth 100000 in
set_option maxHeartbeats 4000000 in
theorem BetweenThree_walk (a : Tab) (va : Value) (b : Tab) (vb : Value) (c : Tab) (vc : Value) (a1 a2 a3 : Int) (w : World) (hv : TabAt w va a) (hu : TabAt w vb b) (hy : TabAt w vc c) :
    Calls Try.prog 3 #[va, vb, vc, .int .i64 a1, .int .i64 a2, .int .i64 a3] w fun e w' => e = .returned (.bool true) ∧ Below w.heap.size w w' := by
  obtain ⟨p1, c1, p2, c2, rfl⟩ := tabForms hv
  obtain ⟨p3, c3, p4, c4, rfl⟩ := tabForms hu
  obtain ⟨p5, c5, p6, c6, rfl⟩ := tabForms hy
  obtain ⟨W0, eW⟩ : ∃ W0, (((w.alloc (.cells #[.slice p1 a.types.length c1, .int .i64 a.first, .slice p2 a.chs.length c2] 25)).alloc (.cells #[.slice p3 b.types.length c3, .int .i64 b.first, .slice p4 b.chs.length c4] 25)).alloc (.cells #[.slice p5 c.types.length c5, .int .i64 c.first, .slice p6 c.chs.length c6] 25)).alloc (.cells #[.int .i64 a3] 3) = W0 := ⟨_, rfl⟩
  have hK : K3 w #[.slice p1 a.types.length c1, .int .i64 a.first, .slice p2 a.chs.length c2] #[.slice p3 b.types.length c3, .int .i64 b.first, .slice p4 b.chs.length c4] #[.slice p5 c.types.length c5, .int .i64 c.first, .slice p6 c.chs.length c6] W0 := by
    rw [← eW]
    refine ⟨?_, ?_, ?_, (((below_al _ _).alloc (by simp) _).alloc (by first | (simp; done) | (simp; omega)) _).alloc (by first | (simp; done) | (simp; omega)) _⟩
    · rw [Below.heap_alloc _ _ _ (by first | (simp; done) | (simp; omega)), Below.heap_alloc _ _ _ (by first | (simp; done) | (simp; omega)), Below.heap_alloc _ _ _ (by simp)]; exact heap_alloc_new w _
    · rw [Below.heap_alloc _ _ _ (by first | (simp; done) | (simp; omega)), Below.heap_alloc _ _ _ (by simp)]; exact alloc_at _ _ _ (by simp)
    · rw [Below.heap_alloc _ _ _ (by simp)]; exact alloc_at _ _ _ (by simp)
  have hA : W0.heap[w.heap.size + 1 + 1 + 1]? = some (.cells #[.int .i64 a3] 3 (0, 0)) := by rw [← eW]; exact alloc_at _ _ _ (by simp)
  have HK0 := Lib.hid hK
  have HA0 := Lib.hid hA
  have HV := Lib.hid hv
  have HU := Lib.hid hu
  have HY := Lib.hid hy
  have HEW := Lib.hid eW
  have HF1 := Lib.hid (fun W => Rest_any a1 400000 W (by decide) (by decide))
  have HF2 := Lib.hid (fun W => Rest_any a2 400000 W (by decide) (by decide))
  have hf1 : 0 ≤ a1 % 400000 := by omega
  have hf2 : a1 % 400000 < 400000 := by omega
  have hg1 : 0 ≤ a2 % 400000 := by omega
  have hg2 : a2 % 400000 < 400000 := by omega
  obtain ⟨F, eF⟩ : ∃ F, a1 % 400000 = F := ⟨_, rfl⟩
  obtain ⟨G, eG⟩ : ∃ G, a2 % 400000 = G := ⟨_, rfl⟩
  rw [eF] at HF1 hf1 hf2
  rw [eG] at HF2 hg1 hg2
  have h63 : wrap64 (F - 200000) = F - 200000 := by unfold wrap64; omega
  have h64 : wrap64 (F - 200000 + G) = F - 200000 + G := by unfold wrap64; omega
  have h65 : IntKind.i64.wrap (F - 200000 + G) = F - 200000 + G := by rw [IntKind.wrap_i64]; omega
  have h66 : wrap64 (F - 200000 + G + 1) = F - 200000 + G + 1 := by unfold wrap64; omega
  have h67 : IntKind.i64.wrap (F - 200000 + G + 1) = F - 200000 + G + 1 := by rw [IntKind.wrap_i64]; omega
  obtain ⟨P, eP⟩ : ∃ P, F - 200000 = P := ⟨_, rfl⟩
  obtain ⟨Q, eQ⟩ : ∃ Q, F - 200000 + G + 1 = Q := ⟨_, rfl⟩
  have hP1 : -200000 ≤ P := by omega
  have hPQ : P < Q := by omega
  have hPQ2 : Q - P ≤ 400000 := by omega
  have hQ2 : Q ≤ 800000 := by omega
  have HPQ := Lib.hid (And.intro hP1 (And.intro hPQ (And.intro hPQ2 hQ2)))
  have hok : Hid (okSpan P Q = true) := by
    show _ = _
    simp only [okSpan, okTime, Bool.and_eq_true, decide_eq_true_eq]
    omega
  have EQ := Lib.hid eQ
  have EP := Lib.hid eP
  have hmf : ∀ (fn : Fn) (first cap : Array Value) (w : World), (Instr.makeFunc fn first cap).run Try.prog w = .ok (.func fn first cap) w := fun _ _ _ _ => rfl
  clear hv hu hy eW hK hA eF eG hf1 hf2 hg1 hg2 eP eQ hP1 hPQ hPQ2 hQ2
  go_enter Try.func3, Try.ntmps3
  go_wp2_with fail
  rw [HEW.out]
  refine (normed_any _).mono ?_
  rintro e w1 ⟨rfl, hb1⟩
  have HK1 := Lib.hid (HK0.out.below hb1)
  have HA1 := Lib.hid ((hb1.block _ (blk_lt HA0.out)).trans HA0.out)
  have HLA := Lib.hid (blk_lt HA1.out)
  clear hb1 HK0 HA0
  go_wp2_with fail
  refine (HF1.out _).mono ?_
  rintro e w' ⟨rfl, rfl⟩
  go_upto_region 4 with fail
  rw [h63]
  go_cut [] (fun wx => wx.heap[w1.heap.size]? = some (.cells #[.int .i64 P, .int .i64 Q] 29 (0, 0)) ∧ Below w1.heap.size w1 wx)
  case first =>
    go_region_with (first
      | (go_at_call_of 12 (Value.int .i64 a2); refine (HF2.out _).mono ?_; rintro e w' ⟨rfl, rfl⟩)
      | fail)
    all_goals go_wp2_with fail
    all_goals go_meet
    all_goals rw [← EP.out, ← EQ.out]
    all_goals exact ⟨alloc_at _ _ _ rfl, (below_al _ _).drew⟩
  case rest =>
    obtain ⟨hS, hbS⟩ := hcut
    rename World => WC
    have HKC := Lib.hid (HK1.out.below hbS)
    have HAC := Lib.hid ((hbS.block _ HLA.out).trans HA1.out)
    have HSC := Lib.hid hS
    have hsl := blk_lt hS
    have hla := blk_lt HAC.out
    have HNE : Hid (w1.heap.size ≠ w.heap.size + 1 + 1 + 1) := by have := HLA.out; show _ ≠ _; omega
    have hne : ¬ w1.heap.size = w.heap.size + 1 + 1 + 1 := HNE.out
    have s0 : WC.cell? ⟨w1.heap.size, 0, none⟩ = some (.int .i64 P) := (cell_of_row WC _ 0 _ _ _ hS).trans rfl
    have s1 : WC.cell? ⟨w1.heap.size, 1, none⟩ = some (.int .i64 Q) := (cell_of_row WC _ 1 _ _ _ hS).trans rfl
    have t0 : WC.cell? ⟨w.heap.size + 1 + 1 + 1, 0, none⟩ = some (.int .i64 a3) := (cell_of_row WC _ 0 _ _ _ HAC.out).trans rfl
    have f0 : WC.frozen? ⟨w.heap.size + 1 + 1 + 1, 0, none⟩ = false := by simp [World.frozen?, HAC.out]
    have HR := Lib.hid (fun W => Rest_any a3 (Q - P) W (by have := HPQ.out; omega) (by have := HPQ.out; omega))
    have hr1 : 0 ≤ a3 % (Q - P) := Int.emod_nonneg _ (by have := HPQ.out; omega)
    have hr2 : a3 % (Q - P) < Q - P := Int.emod_lt_of_pos _ (by have := HPQ.out; omega)
    obtain ⟨R, eR⟩ : ∃ R, a3 % (Q - P) = R := ⟨_, rfl⟩
    rw [eR] at HR hr1 hr2
    obtain ⟨hq1, hq2, hq3, hq4⟩ := HPQ.out
    have g63 : wrap64 (Q - P) = Q - P := by unfold wrap64; omega
    have g64 : IntKind.i64.wrap (Q - P) = Q - P := by rw [IntKind.wrap_i64]; omega
    have g65 : wrap64 (P + R) = P + R := by unfold wrap64; omega
    have g66 : IntKind.i64.wrap (P + R) = P + R := by rw [IntKind.wrap_i64]; omega
    have HXP : Hid (P ≤ P + R ∧ P + R < Q) := by show _ ∧ _; omega
    clear hbS hS HK1 HA1 EQ EP h63 h64 h65 h66 h67 HF1 HF2 hr1 hr2 hq1 hq2 hq3 hq4 eR
    go_upto_region 5 with fail
    go_cut [] (fun wx => wx.heap[w.heap.size + 1 + 1 + 1]? = some (.cells #[.int .i64 (P + R)] 3 (0, 0)) ∧ wx.heap[w1.heap.size]? = some (.cells #[.int .i64 P, .int .i64 Q] 29 (0, 0)) ∧ K3 w #[.slice p1 a.types.length c1, .int .i64 a.first, .slice p2 a.chs.length c2] #[.slice p3 b.types.length c3, .int .i64 b.first, .slice p4 b.chs.length c4] #[.slice p5 c.types.length c5, .int .i64 c.first, .slice p6 c.chs.length c6] wx)
    case first =>
      go_region_with (first
        | (go_at_call_of 12 (Value.int .i64 a3); refine (HR.out _).mono ?_; rintro e w' ⟨rfl, rfl⟩)
        | fail)
      all_goals go_wp2_with fail
      all_goals go_meet
      all_goals exact ⟨(heap_setCm HAC.out _).trans rfl, (Below.heap_setCell _ _ _ _ HNE.out).trans HSC.out, (HKC.out.set _).drew⟩
    case rest =>
      obtain ⟨hA, hS, hK⟩ := hcut
      obtain ⟨X, eX⟩ : ∃ X, P + R = X := ⟨_, rfl⟩
      rw [eX] at HXP hA
      have HA := Lib.hid hA
      have HS := Lib.hid hS
      have HK := Lib.hid hK
      clear HAC HSC HKC hsl hla HNE hne s0 s1 t0 f0 HR g63 g64 g65 g66 eX hA hS
      obtain ⟨x0, x1, x2⟩ := cells3h hK.1
      have l0 := blk_lt hK.1
      have HCA := Lib.hid (Check_any a _ wc (HV.out.below hK.2.2.2))
      clear hK
      by_cases ha : chk a = 0
      · rw [ha] at HCA
        have HA0 := Lib.hid ha
        clear ha
        go_wp2_with fail
        refine HCA.out.mono ?_
        rintro e w2 ⟨rfl, hb2⟩
        have HK2 := Lib.hid (HK.out.below hb2)
        have HS2 := Lib.hid ((hb2.block _ (blk_lt HS.out)).trans HS.out)
        have HA2 := Lib.hid ((hb2.block _ (blk_lt HA.out)).trans HA.out)
        obtain ⟨y0, y1, y2⟩ := cells3h HK2.out.2.1
        have l1 := blk_lt HK2.out.2.1
        have HCB := Lib.hid (Check_any b _ w2 (HU.out.below HK2.out.2.2.2))
        clear x0 x1 x2 l0 hb2 HCA
        by_cases hb : chk b = 0
        · rw [hb] at HCB
          have HB0 := Lib.hid hb
          clear hb
          go_wp2_with fail
          refine HCB.out.mono ?_
          rintro e w3 ⟨rfl, hb3⟩
          have HK3 := Lib.hid (HK2.out.below hb3)
          have HS3 := Lib.hid ((hb3.block _ (blk_lt HS2.out)).trans HS2.out)
          have HA3 := Lib.hid ((hb3.block _ (blk_lt HA2.out)).trans HA2.out)
          obtain ⟨z0, z1, z2⟩ := cells3h HK3.out.2.2.1
          have l2 := blk_lt HK3.out.2.2.1
          have HCC := Lib.hid (Check_any c _ w3 (HY.out.below HK3.out.2.2.2))
          clear y0 y1 y2 l1 hb3 HCB
          by_cases hc : chk c = 0
          · rw [hc] at HCC
            have HC0 := Lib.hid hc
            clear hc
            go_wp2_with fail
            refine HCC.out.mono ?_
            rintro e w4 ⟨rfl, hb4⟩
            have HK4 := Lib.hid (HK3.out.below hb4)
            have HS4 := Lib.hid ((hb4.block _ (blk_lt HS3.out)).trans HS3.out)
            have HA4 := Lib.hid ((hb4.block _ (blk_lt HA3.out)).trans HA3.out)
            clear z0 z1 z2 l2 hb4 HCC
            have HI1 := Lib.hid (inside_any a c _ _ P Q X w1.heap.size (w.heap.size + 1 + 1 + 1) w4 (HV.out.below HK4.out.2.2.2) (HY.out.below HK4.out.2.2.2) HA0.out HC0.out hok.out HXP.out.1 HXP.out.2 HS4.out HA4.out)
            have HI2 := Lib.hid (fun W (hb : Below w4.heap.size w4 W) => inside_any a b _ _ P Q X w1.heap.size (w.heap.size + 1 + 1 + 1) W (HV.out.below (HK4.out.below hb).2.2.2) (HU.out.below (HK4.out.below hb).2.2.2) HA0.out HB0.out hok.out HXP.out.1 HXP.out.2 ((hb.block _ (blk_lt HS4.out)).trans HS4.out) ((hb.block _ (blk_lt HA4.out)).trans HA4.out))
            have HI3 := Lib.hid (fun W (hb : Below w4.heap.size w4 W) => inside_any b c _ _ P Q X w1.heap.size (w.heap.size + 1 + 1 + 1) W (HU.out.below (HK4.out.below hb).2.2.2) (HY.out.below (HK4.out.below hb).2.2.2) HB0.out HC0.out hok.out HXP.out.1 HXP.out.2 ((hb.block _ (blk_lt HS4.out)).trans HS4.out) ((hb.block _ (blk_lt HA4.out)).trans HA4.out))
            obtain ⟨Ta, eTa⟩ : ∃ T, tyOf a X = T := ⟨_, rfl⟩
            obtain ⟨Tb, eTb⟩ : ∃ T, tyOf b X = T := ⟨_, rfl⟩
            obtain ⟨Tc, eTc⟩ : ∃ T, tyOf c X = T := ⟨_, rfl⟩
            rw [eTa, eTc] at HI1
            simp only [eTa, eTb] at HI2
            simp only [eTb, eTc] at HI3
            obtain ⟨x0, x1, x2⟩ := cells3h HK4.out.1
            obtain ⟨z0, z1, z2⟩ := cells3h HK4.out.2.2.1
            have l0 := blk_lt HK4.out.1
            have l2 := blk_lt HK4.out.2.2.1
            clear eTa eTb eTc
            by_cases h13 : Ta = Tc
            · rw [decide_eq_true h13, Bool.not_true] at HI1
              go_wp2_with fail
              refine HI1.out.mono ?_
              rintro e w5 ⟨rfl, hb5⟩
              go_wp2
              go_ret
              exact ⟨rfl, (HK4.out.below hb5).2.2.2⟩
            · rw [decide_eq_false h13, Bool.not_false] at HI1
              go_wp2_with fail
              refine HI1.out.mono ?_
              rintro e w5 ⟨rfl, hb5⟩
              have HB5 := Lib.hid hb5
              obtain ⟨x0, x1, x2⟩ := cells3h (HK4.out.below hb5).1
              obtain ⟨y0, y1, y2⟩ := cells3h (HK4.out.below hb5).2.1
              have l0 := blk_lt (HK4.out.below hb5).1
              have l1 := blk_lt (HK4.out.below hb5).2.1
              clear hb5 z0 z1 z2 l2
              by_cases h12 : Ta = Tb
              · have h23 : ¬ Tb = Tc := fun e => h13 (h12.trans e)
                simp only [decide_eq_true h12, Bool.not_true] at HI2
                simp only [decide_eq_false h23, Bool.not_false] at HI3
                go_wp2_with fail
                refine (HI2.out _ HB5.out).mono ?_
                rintro e w6 ⟨rfl, hb6⟩
                have HB6 := Lib.hid (HB5.out.trans (hb6.mono HB5.out.size))
                obtain ⟨y0, y1, y2⟩ := cells3h (HK4.out.below HB6.out).2.1
                obtain ⟨z0, z1, z2⟩ := cells3h (HK4.out.below HB6.out).2.2.1
                have l1 := blk_lt (HK4.out.below HB6.out).2.1
                have l2 := blk_lt (HK4.out.below HB6.out).2.2.1
                clear hb6 x0 x1 x2 l0
                go_wp2_with fail
                refine (HI3.out _ HB6.out).mono ?_
                rintro e w7 ⟨rfl, hb7⟩
                go_wp2
                go_ret
                exact ⟨rfl, (HK4.out.below (HB6.out.trans (hb7.mono HB6.out.size))).2.2.2⟩
              · simp only [decide_eq_false h12, Bool.not_false] at HI2
                go_wp2_with fail
                refine (HI2.out _ HB5.out).mono ?_
                rintro e w6 ⟨rfl, hb6⟩
                go_wp2
                go_ret
                exact ⟨rfl, (HK4.out.below (HB5.out.trans (hb6.mono HB5.out.size))).2.2.2⟩
          · obtain ⟨K, eK⟩ : ∃ K, chk c = K := ⟨_, rfl⟩
            rw [eK] at HCC hc
            have hc' : (K == 0) = false := by simpa using hc
            have hc2 : (K != 0) = true := by simp [bne, hc']
            clear hc eK
            go_wp2_with fail
            refine HCC.out.mono ?_
            rintro e w4 ⟨rfl, hb4⟩
            go_wp2
            go_ret
            exact ⟨rfl, (HK3.out.below hb4).2.2.2⟩
        · obtain ⟨K, eK⟩ : ∃ K, chk b = K := ⟨_, rfl⟩
          rw [eK] at HCB hb
          have hb' : (K == 0) = false := by simpa using hb
          have hb2 : (K != 0) = true := by simp [bne, hb']
          clear hb eK
          go_wp2_with fail
          refine HCB.out.mono ?_
          rintro e w3 ⟨rfl, hb3⟩
          go_wp2
          go_ret
          exact ⟨rfl, (HK2.out.below hb3).2.2.2⟩
      · obtain ⟨K, eK⟩ : ∃ K, chk a = K := ⟨_, rfl⟩
        rw [eK] at HCA ha
        have ha' : (K == 0) = false := by simpa using ha
        have ha2 : (K != 0) = true := by simp [bne, ha']
        clear ha eK
        go_wp2_with fail
        refine HCA.out.mono ?_
        rintro e w2 ⟨rfl, hb2⟩
        go_wp2
        go_ret
        exact ⟨rfl, (HK.out.below hb2).2.2.2⟩
end Go.Proofs.Yteoliifghhlinaa
