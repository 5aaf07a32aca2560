/- NormBack. -/
import Derived.Test.YteoliifghhlinaaN2
import Derived.Test.YteoliifghhlinaaAt
namespace Go.Proofs.Yteoliifghhlinaa
open Go.RowKit Go.Joins
open Classical
set_option linter.unusedVariables false
set_option linter.unusedSimpArgs false

/-- a type in a block of its own -/
theorem ty_box (w : World) (T : Ty) : (w.alloc (.cells #[.int .i64 T.off, .bool T.save, .string T.name] 46)).cell? ⟨w.heap.size, 0, none⟩ = some (.int .i64 T.off) ∧ (w.alloc (.cells #[.int .i64 T.off, .bool T.save, .string T.name] 46)).cell? ⟨w.heap.size, 1, none⟩ = some (.bool T.save) ∧ (w.alloc (.cells #[.int .i64 T.off, .bool T.save, .string T.name] 46)).cell? ⟨w.heap.size, 2, none⟩ = some (.string T.name) :=
  box_facts w _ _ _ _

set_option maxRecDepth 100000 in
set_option maxHeartbeats 4000000 in
theorem NormBack_walk (t : Tab) (v : Value) (x : Int) (w : World) (hv : TabAt w v t) :
    Calls Try.prog 9 #[v, .int .i64 x] w fun e w' => e = .returned (.bool true) ∧ Below w.heap.size w w' := by
  obtain ⟨p1, c1, p2, c2, rfl⟩ := tabForms hv
  obtain ⟨W0, eW⟩ : ∃ W0, w.alloc (.cells #[.slice p1 t.types.length c1, .int .i64 t.first, .slice p2 t.chs.length c2] 25) = W0 := ⟨_, rfl⟩
  have HX : Hid (TBx W0 w.heap.size p1 c1 p2 c2 t) := by show TBx _ _ _ _ _ _ _; rw [← eW]; exact TBx.box hv
  have HB : Hid (Below w.heap.size w W0) := by show Below _ _ _; rw [← eW]; exact below_al _ _
  have HEW := Lib.hid eW
  clear hv eW
  go_enter Try.func9, Try.ntmps9
  go_wp2_with fail
  rw [HEW.out]
  refine (normed_any _).mono ?_
  rintro e w1 ⟨rfl, hb1⟩
  have HX1 := Lib.hid (HX.out.below hb1)
  have HB1 := Lib.hid (HB.out.trans (hb1.mono HB.out.size))
  obtain ⟨x0, x1, x2⟩ := HX1.out.cells
  have hl1 := HX1.out.lt
  clear hb1 HX HB
  go_wp2_with fail
  refine (Norm_any t _ w1 HX1.out.2).mono ?_
  rintro e w2 ⟨q1, d1, q2, d2, E1, N, rfl, hv2, hb2, ho1, hn1⟩
  obtain ⟨WA, eA⟩ : ∃ WA, w2.alloc (.cells #[.slice q1 N.types.length d1, .int .i64 N.first, .slice q2 N.chs.length d2] 25) = WA := ⟨_, rfl⟩
  have HPA := Lib.hid (TBx.box hv2)
  have hba := below_al w2 (.cells #[.slice q1 N.types.length d1, .int .i64 N.first, .slice q2 N.chs.length d2] 25)
  rw [eA] at HPA hba
  have HXA := Lib.hid ((HX1.out.below hb2).below hba)
  have HB2 := HB1.out.trans (hb2.mono HB1.out.size)
  have HBA := Lib.hid (HB2.trans (hba.mono HB2.size))
  have EA := Lib.hid eA
  clear hb2 hv2 x0 x1 x2 hl1 HX1 HB1 HB2 hba eA
  by_cases hk : chk t = 0
  · obtain ⟨rfl, rfl⟩ := ho1 hk
    have HN2 := Lib.hid (Norm_ok (normT t) _ WA HPA.out.2 (norm_chk t hk))
    rw [normT_norm] at HN2
    have HS := Lib.hid (fun W (hb : Below WA.heap.size WA W) => Same_ok t (normT t) _ _ W (HXA.out.2.below hb) (HPA.out.2.below hb) hk (norm_chk t hk))
    simp only [normT_norm, decide_true] at HS
    have HA1 := Lib.hid (fun W (hb : Below WA.heap.size WA W) => At_ok t _ x W (HXA.out.2.below hb) hk)
    have HA2 := Lib.hid (fun W (hb : Below WA.heap.size WA W) => At_ok (normT t) _ x W (HPA.out.2.below hb) (norm_chk t hk))
    rw [norm_says t (chk_ok t hk) x] at HA2
    have hlen := norm_len t (chk_ok t hk)
    obtain ⟨T, eT⟩ : ∃ T, tyOf t x = T := ⟨_, rfl⟩
    rw [eT] at HA1 HA2
    obtain ⟨N, eN⟩ : ∃ N, normT t = N := ⟨_, rfl⟩
    rw [eN] at EA HPA HN2 HS HA2 hlen ⊢
    have HTE := Lib.hid (fun W v u (hv : TabAt W v N) (hu : TabAt W u N) => TableEq_any N N v u W hv hu)
    simp only [decide_true] at HTE
    have HLN := Lib.hid hlen
    clear hk eN eT hlen ho1 hn1
    go_wp2_with fail
    rw [EA.out]
    refine HN2.out.mono ?_
    rintro e w3 ⟨v3, rfl, hv3, hb3⟩
    obtain ⟨r1, e1, r2, e2, rfl⟩ := tabForms hv3
    obtain ⟨WB, eB⟩ : ∃ WB, w3.alloc (.cells #[.slice r1 N.types.length e1, .int .i64 N.first, .slice r2 N.chs.length e2] 25) = WB := ⟨_, rfl⟩
    have HQB := Lib.hid (TBx.box hv3)
    have hbb := below_al w3 (.cells #[.slice r1 N.types.length e1, .int .i64 N.first, .slice r2 N.chs.length e2] 25)
    rw [eB] at HQB hbb
    have HBB := Lib.hid (hb3.trans (hbb.mono hb3.size))
    obtain ⟨x0, x1, x2⟩ := (HXA.out.below hb3).cells
    obtain ⟨y0, y1, y2⟩ := (HPA.out.below hb3).cells
    have hl1 := (HXA.out.below hb3).lt
    have hl2 := (HPA.out.below hb3).lt
    have EB := Lib.hid eB
    clear hb3 hv3 hbb eB EA
    go_wp2_with fail
    rw [EB.out]
    refine (HS.out _ HBB.out).mono ?_
    rintro e w4 ⟨rfl, hb4⟩
    have HB4 := Lib.hid (HBB.out.trans (hb4.mono HBB.out.size))
    have HQ4 := Lib.hid (HQB.out.below hb4)
    obtain ⟨x0, x1, x2⟩ := (HXA.out.below HB4.out).cells
    have hl1 := (HXA.out.below HB4.out).lt
    clear hb4 y0 y1 y2 hl2
    go_wp2_with fail
    refine (HA1.out _ HB4.out).mono ?_
    rintro e w5 ⟨rfl, hb5⟩
    simp only [tyV]
    obtain ⟨WC, eC⟩ : ∃ WC, w5.alloc (.cells #[.int .i64 T.off, .bool T.save, .string T.name] 46) = WC := ⟨_, rfl⟩
    have hbc := below_al w5 (.cells #[.int .i64 T.off, .bool T.save, .string T.name] 46)
    rw [eC] at hbc
    have HT1 := Lib.hid (ty_box w5 T)
    rw [eC] at HT1
    have HB5 := Lib.hid (HB4.out.trans (hb5.mono HB4.out.size))
    have HBC := Lib.hid (HB5.out.trans (hbc.mono HB5.out.size))
    have HQC := Lib.hid ((HQ4.out.below hb5).below hbc)
    obtain ⟨y0, y1, y2⟩ := (HPA.out.below HB5.out).cells
    have hl2 := (HPA.out.below HB5.out).lt
    have HL5 : Hid (w5.heap.size < WC.heap.size) := by show _ < _; rw [← eC]; simp
    have EC := Lib.hid eC
    clear hb5 hbc eC x0 x1 x2 hl1
    go_wp2_with fail
    rw [EC.out]
    refine (HA2.out _ HBC.out).mono ?_
    rintro e w6 ⟨rfl, hb6⟩
    simp only [tyV]
    have HB6 := Lib.hid (HBC.out.trans (hb6.mono HBC.out.size))
    have hc6 := fun o => hb6.cell (p := ⟨w5.heap.size, o, none⟩) HL5.out
    have t0 := (hc6 0).trans HT1.out.1
    have t1 := (hc6 1).trans HT1.out.2.1
    have t2 := (hc6 2).trans HT1.out.2.2
    have hlt : w5.heap.size < w6.heap.size := Nat.lt_of_lt_of_le HL5.out hb6.size
    have HQ6 := Lib.hid (HQC.out.below hb6)
    obtain ⟨WD, eD⟩ : ∃ WD, w6.alloc (.cells #[.int .i64 T.off, .bool T.save, .string T.name] 46) = WD := ⟨_, rfl⟩
    have hbd := below_al w6 (.cells #[.int .i64 T.off, .bool T.save, .string T.name] 46)
    rw [eD] at hbd
    have HT2 := Lib.hid (ty_box w6 T)
    rw [eD] at HT2
    have HBD := Lib.hid (HB6.out.trans (hbd.mono HB6.out.size))
    obtain ⟨y0, y1, y2⟩ := (HPA.out.below HB6.out).cells
    obtain ⟨x0, x1, x2⟩ := (HXA.out.below HB6.out).cells
    obtain ⟨z0, z1, z2⟩ := HQ6.out.cells
    have hl1 := (HXA.out.below HB6.out).lt
    have hl2 := (HPA.out.below HB6.out).lt
    have hl3 := HQ6.out.lt
    have HPD := Lib.hid (HPA.out.below HBD.out)
    have HQD := Lib.hid (HQ6.out.below hbd)
    have T1 := Lib.hid (And.intro t0 (And.intro t1 t2))
    have HC6 := Lib.hid hbd
    have ED := Lib.hid eD
    clear hb6 hc6 hbd eD t0 t1 t2
    have HTD := Lib.hid (HTE.out WD _ _ HPD.out.2 HQD.out.2)
    have HL6 : Hid (w6.heap.size < WD.heap.size) := by show _ < _; rw [← ED.out]; simp
    go_wp2_with fail
    rw [ED.out]
    refine HTD.out.mono ?_
    rintro e w7 ⟨rfl, hb7⟩
    have HB7 := Lib.hid (HBD.out.trans (hb7.mono HBD.out.size))
    have hc6 := fun o => ((HC6.out.trans (hb7.mono HC6.out.size)).cell (p := ⟨w5.heap.size, o, none⟩) hlt)
    have t0 := (hc6 0).trans T1.out.1
    have t1 := (hc6 1).trans T1.out.2.1
    have t2 := (hc6 2).trans T1.out.2.2
    have hc7 := fun o => hb7.cell (p := ⟨w6.heap.size, o, none⟩) HL6.out
    have s0 := (hc7 0).trans HT2.out.1
    have s1 := (hc7 1).trans HT2.out.2.1
    have s2 := (hc7 2).trans HT2.out.2.2
    obtain ⟨y0, y1, y2⟩ := (HPA.out.below HB7.out).cells
    obtain ⟨x0, x1, x2⟩ := (HXA.out.below HB7.out).cells
    have hl1 := (HXA.out.below HB7.out).lt
    have hl2 := (HPA.out.below HB7.out).lt
    have HEQ := fun W => eql_ty T T W
    simp only [decide_true] at HEQ
    have hn1 : (N.types.length : Int) ≤ t.types.length := by have := HLN.out.1; omega
    have hn2 : (N.chs.length : Int) ≤ t.chs.length := by have := HLN.out.2; omega
    clear hc6 hc7 hb7 z0 z1 z2 hl3
    go_wp2
    go_ret
    exact ⟨rfl, HBA.out.trans (HB7.out.mono HBA.out.size)⟩
  · obtain ⟨rfl, rfl⟩ := hn1 hk
    obtain ⟨K, eK⟩ : ∃ K, chk t = K := ⟨_, rfl⟩
    rw [eK] at hk ⊢
    have hk' : (K == 0) = false := by simpa using hk
    have HTE := Lib.hid (TableEq_any zeroTb zeroTb _ (.agg #[.slice none 0 0, .int .i64 0, .slice none 0 0]) WA HPA.out.2 (zero_atN _))
    simp only [decide_true] at HTE
    clear hk eK ho1 hn1
    go_wp2_with fail
    rw [EA.out]
    refine HTE.out.mono ?_
    rintro e w3 ⟨rfl, hb3⟩
    go_wp2
    go_ret
    exact ⟨rfl, HBA.out.trans (hb3.mono HBA.out.size)⟩
end Go.Proofs.Yteoliifghhlinaa
