/- NormOne. -/
import Derived.Test.YteoliifghhlinaaN1
namespace Go.Proofs.Yteoliifghhlinaa
open Go.RowKit Go.Joins
open Classical
set_option linter.unusedVariables false
set_option linter.unusedSimpArgs false

/-- two boxed tables -/
theorem box_two {w : World} {p1 p2 p3 p4 : Option Addr} {c1 c2 c3 c4 : Nat} {a b : Tab} {W0 : World} (eW : (w.alloc (.cells #[.slice p1 a.types.length c1, .int .i64 a.first, .slice p2 a.chs.length c2] 25)).alloc (.cells #[.slice p3 b.types.length c3, .int .i64 b.first, .slice p4 b.chs.length c4] 25) = W0)
    (hv : TabAt w (.agg #[.slice p1 a.types.length c1, .int .i64 a.first, .slice p2 a.chs.length c2]) a) (hu : TabAt w (.agg #[.slice p3 b.types.length c3, .int .i64 b.first, .slice p4 b.chs.length c4]) b) :
    TBx W0 w.heap.size p1 c1 p2 c2 a ∧ TBx W0 (w.heap.size + 1) p3 c3 p4 c4 b ∧ Below w.heap.size w W0 := by
  subst eW
  refine ⟨(TBx.box hv).below (below_al _ _), ?_, (below_al _ _).alloc (by simp) _⟩
  have := TBx.box (tab_al (o := .cells #[.slice p1 a.types.length c1, .int .i64 a.first, .slice p2 a.chs.length c2] 25) hu)
  simpa using this

theorem chk2_zero {a b : Tab} (h : chk2 a b = 0) : chk a = 0 ∧ chk b = 0 := by
  unfold chk2 at h
  by_cases ha : chk a = 0
  · rw [if_pos ha] at h; exact ⟨ha, h⟩
  · rw [if_neg ha] at h; exact absurd h ha
theorem Norm_any (t : Tab) (v : Value) (w : World) (hv : TabAt w v t) :
    Calls Try.prog 16 #[v] w fun e w' => ∃ p1 c1 p2 c2 E N, e = .returned (.tuple #[.agg #[.slice p1 N.types.length c1, .int .i64 N.first, .slice p2 N.chs.length c2], .int .i64 E]) ∧ TabAt w' (.agg #[.slice p1 N.types.length c1, .int .i64 N.first, .slice p2 N.chs.length c2]) N ∧ Below w.heap.size w w' ∧ (chk t = 0 → E = 0 ∧ N = normT t) ∧ (chk t ≠ 0 → E = chk t ∧ N = zeroTb) := by
  by_cases h : chk t = 0
  · refine (Norm_ok t v w hv h).mono ?_
    rintro e w' ⟨v', rfl, h1, h2⟩
    obtain ⟨p1, c1, p2, c2, rfl⟩ := tabForms h1
    exact ⟨p1, c1, p2, c2, 0, normT t, rfl, h1, h2, fun _ => ⟨rfl, rfl⟩, fun e => absurd h e⟩
  · refine (Norm_no t v w hv h).mono ?_
    rintro e w' ⟨rfl, h2⟩
    exact ⟨none, 0, none, 0, chk t, zeroTb, rfl, zero_atN _, h2, fun e => absurd e h, fun _ => ⟨rfl, rfl⟩⟩

set_option maxRecDepth 100000 in
set_option maxHeartbeats 4000000 in
theorem NormOne_walk (a : Tab) (va : Value) (b : Tab) (vb : Value) (w : World) (hv : TabAt w va a) (hu : TabAt w vb b) :
    Calls Try.prog 4 #[va, vb] w fun e w' => e = .returned (.bool true) ∧ Below w.heap.size w w' := by
  obtain ⟨p1, c1, p2, c2, rfl⟩ := tabForms hv
  obtain ⟨p3, c3, p4, c4, rfl⟩ := tabForms hu
  obtain ⟨W0, eW⟩ : ∃ W0, (w.alloc (.cells #[.slice p1 a.types.length c1, .int .i64 a.first, .slice p2 a.chs.length c2] 25)).alloc (.cells #[.slice p3 b.types.length c3, .int .i64 b.first, .slice p4 b.chs.length c4] 25) = W0 := ⟨_, rfl⟩
  obtain ⟨hX, hY, hB⟩ := box_two eW hv hu
  have HX := Lib.hid hX
  have HY := Lib.hid hY
  have HB := Lib.hid hB
  have HEW := Lib.hid eW
  clear hv hu eW hX hY hB
  go_enter Try.func4, Try.ntmps4
  go_wp2_with fail
  rw [HEW.out]
  refine (normed_any _).mono ?_
  rintro e w1 ⟨rfl, hb1⟩
  have HX1 := Lib.hid (HX.out.below hb1)
  have HY1 := Lib.hid (HY.out.below hb1)
  have HB1 := Lib.hid (HB.out.trans (hb1.mono HB.out.size))
  obtain ⟨x0, x1, x2⟩ := HX1.out.cells
  have hl1 := HX1.out.lt
  clear hb1 HX HY HB
  go_wp2_with fail
  refine (Norm_any a _ w1 HX1.out.2).mono ?_
  rintro e w2 ⟨q1, d1, q2, d2, E1, N1, rfl, hv2, hb2, ho1, hn1⟩
  obtain ⟨WA, eA⟩ : ∃ WA, w2.alloc (.cells #[.slice q1 N1.types.length d1, .int .i64 N1.first, .slice q2 N1.chs.length d2] 25) = WA := ⟨_, rfl⟩
  have HPA := Lib.hid (TBx.box hv2)
  have hba := below_al w2 (.cells #[.slice q1 N1.types.length d1, .int .i64 N1.first, .slice q2 N1.chs.length d2] 25)
  rw [eA] at HPA hba
  have HXA := Lib.hid ((HX1.out.below hb2).below hba)
  have HYA := Lib.hid ((HY1.out.below hb2).below hba)
  have HB2 := HB1.out.trans (hb2.mono HB1.out.size)
  have HBA := Lib.hid (HB2.trans (hba.mono HB2.size))
  obtain ⟨y0, y1, y2⟩ := (HY1.out.below hb2).cells
  have hl2 := (HY1.out.below hb2).lt
  have EA := Lib.hid eA
  have O1 := Lib.hid ho1
  have M1 := Lib.hid hn1
  clear hb2 hv2 x0 x1 x2 hl1 HX1 HY1 HB1 HB2 hba eA ho1 hn1
  go_wp2_with fail
  rw [EA.out]
  refine (Norm_any b _ WA HYA.out.2).mono ?_
  rintro e w3 ⟨r1, e1, r2, e2, E2, N2, rfl, hv3, hb3, ho2, hn2⟩
  obtain ⟨WB, eB⟩ : ∃ WB, w3.alloc (.cells #[.slice r1 N2.types.length e1, .int .i64 N2.first, .slice r2 N2.chs.length e2] 25) = WB := ⟨_, rfl⟩
  have HQB := Lib.hid (TBx.box hv3)
  have hbb := below_al w3 (.cells #[.slice r1 N2.types.length e1, .int .i64 N2.first, .slice r2 N2.chs.length e2] 25)
  rw [eB] at HQB hbb
  have HXB := Lib.hid ((HXA.out.below hb3).below hbb)
  have HYB := Lib.hid ((HYA.out.below hb3).below hbb)
  have HPB := Lib.hid ((HPA.out.below hb3).below hbb)
  have HB3 := HBA.out.trans (hb3.mono HBA.out.size)
  have HBB := Lib.hid (HB3.trans (hbb.mono HB3.size))
  obtain ⟨x0, x1, x2⟩ := (HXA.out.below hb3).cells
  have hl1 := (HXA.out.below hb3).lt
  obtain ⟨z0, z1, z2⟩ := (HYA.out.below hb3).cells
  have hl3 := (HYA.out.below hb3).lt
  have EB := Lib.hid eB
  have O2 := Lib.hid ho2
  have M2 := Lib.hid hn2
  clear hb3 hv3 y0 y1 y2 hl2 HXA HYA HPA HB3 HBA hbb eB ho2 hn2 EA
  by_cases hc : chk2 a b = 0
  · obtain ⟨ha, hb⟩ := chk2_zero hc
    obtain ⟨rfl, rfl⟩ := O1.out ha
    obtain ⟨rfl, rfl⟩ := O2.out hb
    have HS1 := Lib.hid (Same_ok a b _ _ WB HXB.out.2 HYB.out.2 ha hb)
    have HS2 := Lib.hid (fun W (hb' : Below WB.heap.size WB W) => Same_ok b a _ _ W (HYB.out.2.below hb') (HXB.out.2.below hb') hb ha)
    have HTE := Lib.hid (fun W (hb' : Below WB.heap.size WB W) => TableEq_any (normT a) (normT b) _ _ W (HPB.out.2.below hb') (HQB.out.2.below hb'))
    have ec : decide (normT b = normT a) = decide (normT a = normT b) := by rw [decide_eq_decide]; exact eq_comm
    rw [ec] at HS2
    obtain ⟨D, eD⟩ : ∃ D, decide (normT a = normT b) = D := ⟨_, rfl⟩
    rw [eD] at HS1 HS2 HTE
    clear hc ha hb ec eD O1 O2 M1 M2
    go_wp2_with fail
    rw [EB.out]
    refine HS1.out.mono ?_
    rintro e w4 ⟨rfl, hb4⟩
    have HB4 := Lib.hid hb4
    obtain ⟨x0, x1, x2⟩ := (HXB.out.below hb4).cells
    obtain ⟨y0, y1, y2⟩ := (HYB.out.below hb4).cells
    clear hb4
    go_wp2_with fail
    refine (HS2.out _ HB4.out).mono ?_
    rintro e w5 ⟨rfl, hb5⟩
    have HB5 := Lib.hid (HB4.out.trans (hb5.mono HB4.out.size))
    obtain ⟨s0, s1, s2⟩ := (HPB.out.below HB5.out).cells
    obtain ⟨t0, t1, t2⟩ := (HQB.out.below HB5.out).cells
    clear hb5
    go_wp2_with fail
    refine (HTE.out _ HB5.out).mono ?_
    rintro e w6 ⟨rfl, hb6⟩
    have HB6 := Lib.hid (HB5.out.trans (hb6.mono HB5.out.size))
    clear hb6
    cases D
    · go_wp2
      go_ret
      exact ⟨rfl, HBB.out.trans (HB6.out.mono HBB.out.size)⟩
    · go_wp2
      go_ret
      exact ⟨rfl, HBB.out.trans (HB6.out.mono HBB.out.size)⟩
  · have HS1 := Lib.hid (Same_no a b _ _ WB HXB.out.2 HYB.out.2 hc)
    have hE : E1 ≠ 0 ∨ (E1 = 0 ∧ E2 ≠ 0) := by
      by_cases ha : chk a = 0
      · refine .inr ⟨(O1.out ha).1, ?_⟩
        have hb : chk b ≠ 0 := fun hb => hc (by unfold chk2; rw [if_pos ha, hb])
        rw [(M2.out hb).1]; exact hb
      · rw [(M1.out ha).1]; exact .inl ha
    obtain ⟨K, eK⟩ : ∃ K, chk2 a b = K := ⟨_, rfl⟩
    rw [eK] at HS1 hc
    have hc' : (K == 0) = false := by simpa using hc
    clear hc eK O1 O2 M1 M2
    rcases hE with h1 | ⟨rfl, h2⟩
    · have h1' : (E1 == 0) = false := by simpa using h1
      clear h1
      go_wp2_with fail
      rw [EB.out]
      refine HS1.out.mono ?_
      rintro e w4 ⟨rfl, hb4⟩
      go_wp2
      go_ret
      exact ⟨ret_bool' (by simp [bne, hc']), HBB.out.trans (hb4.mono HBB.out.size)⟩
    · have h2' : (E2 == 0) = false := by simpa using h2
      clear h2
      go_wp2_with fail
      rw [EB.out]
      refine HS1.out.mono ?_
      rintro e w4 ⟨rfl, hb4⟩
      go_wp2
      go_ret
      exact ⟨ret_bool' (by simp [bne, hc']), HBB.out.trans (hb4.mono HBB.out.size)⟩
end Go.Proofs.Yteoliifghhlinaa
