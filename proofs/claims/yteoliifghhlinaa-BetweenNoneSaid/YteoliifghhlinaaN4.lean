/- BetweenNone. -/
import Derived.Test.YteoliifghhlinaaN2
import Derived.Deep.DeepCutAuto
import Derived.Handy
namespace Go.Proofs.Yteoliifghhlinaa
open Go.RowKit Go.Joins
open Classical
set_option linter.unusedVariables false
set_option linter.unusedSimpArgs false

set_option maxRecDepth 100000 in
set_option maxHeartbeats 4000000 in
theorem BetweenNone_walk (t : Tab) (v : Value) (a1 a2 : Int) (w : World) (hv : TabAt w v t) :
    Calls Try.prog 8 #[v, .int .i64 a1, .int .i64 a2] w fun e w' => e = .returned (.bool true) ∧ Below w.heap.size w w' := by
  obtain ⟨p1, c1, p2, c2, rfl⟩ := tabForms hv
  obtain ⟨W0, eW⟩ : ∃ W0, w.alloc (.cells #[.slice p1 t.types.length c1, .int .i64 t.first, .slice p2 t.chs.length c2] 25) = W0 := ⟨_, rfl⟩
  have HX : Hid (TBx W0 w.heap.size p1 c1 p2 c2 t) := by show TBx _ _ _ _ _ _ _; rw [← eW]; exact TBx.box hv
  have HB : Hid (Below w.heap.size w W0) := by show Below _ _ _; rw [← eW]; exact below_al _ _
  have HEW := Lib.hid eW
  have HF1 := Lib.hid (fun W => Rest_any a1 400000 W (by decide) (by decide))
  have HF2 := Lib.hid (fun W => Rest_any a2 400000 W (by decide) (by decide))
  have hf1 : 0 ≤ a1 % 400000 := by omega
  have hf2 : a1 % 400000 < 400000 := by omega
  have hg1 : 0 ≤ a2 % 400000 := by omega
  have hg2 : a2 % 400000 < 400000 := by omega
  obtain ⟨F, eF⟩ : ∃ F, a1 % 400000 = F := ⟨_, rfl⟩
  obtain ⟨G, eG⟩ : ∃ G, a2 % 400000 = G := ⟨_, rfl⟩
  rw [eF] at HF1 hf1 hf2
  rw [eG] at HF2 hg1 hg2
  have h63 : wrap64 (F - 200000) = F - 200000 := by unfold wrap64; omega
  have h64 : wrap64 (F - 200000 + G) = F - 200000 + G := by unfold wrap64; omega
  have h65 : IntKind.i64.wrap (F - 200000 + G) = F - 200000 + G := by rw [IntKind.wrap_i64]; omega
  have hok : Hid (okSpan (F - 200000) (F - 200000 + G) = true) := by
    show _ = _
    simp only [okSpan, okTime, Bool.and_eq_true, decide_eq_true_eq]
    omega
  clear hv eW eF eG hf1 hf2 hg1 hg2
  go_enter Try.func8, Try.ntmps8
  go_wp2_with fail
  rw [HEW.out]
  refine (normed_any _).mono ?_
  rintro e w1 ⟨rfl, hb1⟩
  have HX1 := Lib.hid (HX.out.below hb1)
  have HB1 := Lib.hid (HB.out.trans (hb1.mono HB.out.size))
  clear hb1 HX HB
  go_wp2_with fail
  refine (HF1.out _).mono ?_
  rintro e w' ⟨rfl, rfl⟩
  go_upto_region 4 with fail
  rw [h63]
  go_cut [] (fun wx => wx.heap[w1.heap.size]? = some (.cells #[.int .i64 (F - 200000), .int .i64 (F - 200000 + G)] 29 (0, 0)) ∧ Below w1.heap.size w1 wx)
  case first =>
    go_region_with (first
      | (go_at_call_of 12 (Value.int .i64 a2); refine (HF2.out _).mono ?_; rintro e w' ⟨rfl, rfl⟩)
      | fail)
    all_goals go_wp2_with fail
    all_goals go_meet
    all_goals exact ⟨alloc_at _ _ _ rfl, (below_al _ _).drew⟩
  case rest =>
    obtain ⟨hS, hbS⟩ := hcut
    have HXC := Lib.hid (HX1.out.below hbS)
    have HBC := Lib.hid (HB1.out.trans (hbS.mono HB1.out.size))
    have HSC := Lib.hid hS
    have hsl := (Array.getElem?_eq_some_iff.mp hS).1
    have HSL := Lib.hid hsl
    obtain ⟨x0, x1, x2⟩ := HXC.out.cells
    have hl1 := HXC.out.lt
    obtain ⟨P, eP⟩ : ∃ P, F - 200000 = P := ⟨_, rfl⟩
    obtain ⟨Q, eQ⟩ : ∃ Q, F - 200000 + G = Q := ⟨_, rfl⟩
    rw [eQ, eP] at hok HSC
    clear hbS hS HX1 HB1 eQ eP h63 h64 h65 HF1 HF2 hsl
    go_wp2_with fail
    refine (Norm_any t _ wc HXC.out.2).mono ?_
    rintro e w2 ⟨q1, d1, q2, d2, E1, N, rfl, hv2, hb2, ho1, hn1⟩
    obtain ⟨WA, eA⟩ : ∃ WA, w2.alloc (.cells #[.slice q1 N.types.length d1, .int .i64 N.first, .slice q2 N.chs.length d2] 25) = WA := ⟨_, rfl⟩
    have HPA := Lib.hid (TBx.box hv2)
    have hba := below_al w2 (.cells #[.slice q1 N.types.length d1, .int .i64 N.first, .slice q2 N.chs.length d2] 25)
    rw [eA] at HPA hba
    have HXA := Lib.hid ((HXC.out.below hb2).below hba)
    have HB2 := HBC.out.trans (hb2.mono HBC.out.size)
    have HBA := Lib.hid (HB2.trans (hba.mono HB2.size))
    have hs2 := (hb2.block w1.heap.size HSL.out).trans HSC.out
    have HSA := Lib.hid ((hba.block w1.heap.size (Nat.lt_of_lt_of_le HSL.out hb2.size)).trans hs2)
    have HSLA : Hid (w1.heap.size < WA.heap.size) := Nat.lt_of_lt_of_le HSL.out (Nat.le_trans hb2.size hba.size)
    have EA := Lib.hid eA
    obtain ⟨y0, y1, y2⟩ := (HXC.out.below hb2).cells
    have hl2 := (HXC.out.below hb2).lt
    have s0 : w2.cell? ⟨w1.heap.size, 0, none⟩ = some (.int .i64 P) := (cell_of_row w2 _ 0 _ _ _ hs2).trans rfl
    have s1 : w2.cell? ⟨w1.heap.size, 1, none⟩ = some (.int .i64 Q) := (cell_of_row w2 _ 1 _ _ _ hs2).trans rfl
    have hsl2 : w1.heap.size < w2.heap.size := Nat.lt_of_lt_of_le HSL.out hb2.size
    clear hb2 hv2 x0 x1 x2 hl1 HB2 hba eA hs2 HXC HBC HSC
    by_cases hk : chk t = 0
    · obtain ⟨rfl, rfl⟩ := ho1 hk
      have HB1 := Lib.hid (Between_ok t t _ _ P Q WA HXA.out.2 HXA.out.2 hk hk hok.out)
      rw [outB_same t t P Q (fun x => rfl)] at HB1
      have HB2 := Lib.hid (fun W (hb : Below WA.heap.size WA W) => Between_ok t (normT t) _ _ P Q W (HXA.out.2.below hb) (HPA.out.2.below hb) hk (norm_chk t hk) hok.out)
      rw [outB_same t (normT t) P Q (fun x => (norm_says t (chk_ok t hk) x).symm)] at HB2
      obtain ⟨N, eN⟩ : ∃ N, normT t = N := ⟨_, rfl⟩
      rw [eN] at HB2 EA HPA ⊢
      clear hk ho1 hn1 eN
      go_wp2_with fail
      rw [EA.out]
      refine HB1.out.mono ?_
      rintro e w3 ⟨vo, rfl, hvo, hb3⟩
      rw [List.length_nil] at hvo
      obtain ⟨A3, k3, rfl⟩ := own_sliceN hvo
      have HB3 := Lib.hid hb3
      have hs3 := (hb3.block w1.heap.size HSLA.out).trans HSA.out
      have s0 : w3.cell? ⟨w1.heap.size, 0, none⟩ = some (.int .i64 P) := (cell_of_row w3 _ 0 _ _ _ hs3).trans rfl
      have s1 : w3.cell? ⟨w1.heap.size, 1, none⟩ = some (.int .i64 Q) := (cell_of_row w3 _ 1 _ _ _ hs3).trans rfl
      obtain ⟨x0, x1, x2⟩ := (HXA.out.below hb3).cells
      obtain ⟨z0, z1, z2⟩ := (HPA.out.below hb3).cells
      clear hb3 hs3 y0 y1 y2 hvo
      go_wp2_with fail
      refine (HB2.out _ HB3.out).mono ?_
      rintro e w4 ⟨vo, rfl, hvo, hb4⟩
      rw [List.length_nil] at hvo
      obtain ⟨A4, k4, rfl⟩ := own_sliceN hvo
      clear hvo
      go_wp2
      go_ret
      exact ⟨rfl, HBA.out.trans ((HB3.out.trans (hb4.mono HB3.out.size)).mono HBA.out.size)⟩
    · obtain ⟨rfl, rfl⟩ := hn1 hk
      obtain ⟨K, eK⟩ : ∃ K, chk t = K := ⟨_, rfl⟩
      rw [eK] at hk ⊢
      have hk' : (K == 0) = false := by simpa using hk
      clear hk eK ho1 hn1
      go_wp2_with fail
      rw [EA.out]
      go_wp2
      go_ret
      exact ⟨rfl, HBA.out⟩
end Go.Proofs.Yteoliifghhlinaa
