/- RiteWeeks: the law's walk. -/
import Derived.Test.YtmjakhageehcoaaDoorRiteW2
namespace Go.Proofs.YtmjakhageehcoaaDoor
open Go.RowKit Go.Joins
set_option linter.unusedVariables false
set_option linter.unusedSimpArgs false

set_option maxRecDepth 100000 in
set_option maxHeartbeats 8000000 in
theorem RiteWeeks_none (p : Px) (y0 : Int) (w : World) (h1 : p.name.size ≤ maxLen) (h2 : p.also.size ≤ maxLen) (ht : Tab10 w) (hn : pxChk p ≠ 0 ∨ p.also.toList = []) :
    Calls Tryd.prog 9 #[pxV p, .int .i64 y0] w fun e w' => e = .returned (.bool true) ∧ Below w.heap.size w w' := by
  obtain ⟨c, hc, hT⟩ : ∃ c : Int, c ≠ 0 ∧ ∀ y W, Calls Tryd.prog 18 #[pxV p, .int .i64 y] W fun e w' => e = .returned (.tuple #[.int .i64 0, .int .i64 0, .int .i64 c]) ∧ Below W.heap.size W w' := by
    by_cases h : pxChk p = 0
    · exact ⟨6, by decide, fun y W => Turns_none p y W h1 h2 h (hn.resolve_left fun h' => h' h)⟩
    · exact ⟨pxChk p, h, fun y W => Turns_bad p y W h1 h2 h⟩
  have hc' : (c == 0) = false := by simpa using hc
  have hc'' : (c != 0) = true := by simpa using hc
  obtain ⟨W0, eW⟩ : ∃ W0, w.alloc (.cells (pxCells p) 51) = W0 := ⟨_, rfl⟩
  have HX : Hid (PxBx W0 w.heap.size p) := by show PxBx _ _ _; rw [← eW]; exact PxBx.box w p
  have HB : Hid (Below w.heap.size w W0) := by show Below _ _ _; rw [← eW]; exact below_al1 _ _
  have HEW := Lib.hid eW
  have HT := Lib.hid ht
  have HTT := Lib.hid hT
  have HR := Lib.hid (fun W => Rest_any y0 800 W (by decide) (by decide))
  have hm0 : 0 ≤ y0 % 800 := by omega
  have hm1 : y0 % 800 < 800 := by omega
  obtain ⟨m, em⟩ : ∃ m, y0 % 800 = m := ⟨_, rfl⟩
  rw [em] at hm0 hm1 HR
  clear eW h1 h2 ht hT hn em hc
  go_enter Tryd.func9, Tryd.ntmps9
  go_wp2_with fail
  rw [HEW.out]
  refine (rited_any _ (HT.out.below HB.out)).mono ?_
  rintro e w1 ⟨rfl, hb1⟩
  have HX1 := Lib.hid (HX.out.below hb1)
  have HB1 := Lib.hid (HB.out.trans (hb1.mono HB.out.size))
  clear hb1 HX HB
  obtain ⟨x0, x1, x2, x3, x4, x5, x6, x7, x8, x9, x10, x11⟩ := HX1.out.cells
  have hl1 := HX1.out.lt
  go_wp2_with fail
  refine (HR.out _).mono ?_
  rintro e w' ⟨rfl, rfl⟩
  go_wp2_with fail
  refine (HTT.out _ _).mono ?_
  rintro e w2 ⟨rfl, hb2⟩
  have HB2 := Lib.hid (HB1.out.trans (hb2.mono HB1.out.size))
  clear hb2
  go_wp2
  go_ret
  exact ⟨rfl, HB2.out⟩

/-- one rite's day, as the law tests it -/
structure WkOk (y : Int) (r : Rt) (D : Int) : Prop where
  b1 : -135140 ≤ D
  b2 : D ≤ 157053
  yy : Civ.yy D = y
  mm : Civ.mm D = r.m
  wd : (D + 4) % 7 = r.d
  w1 : 1 ≤ r.w
  w5 : r.w ≤ 5
  d1 : 1 ≤ Civ.dd D
  d2 : Civ.dd D ≤ 31
  wk : r.w < 5 → (Civ.dd D + 6) / 7 = r.w
  lst : r.w = 5 → Civ.mlen y r.m - 7 < Civ.dd D
  m1 : 1 ≤ r.m
  m2 : r.m ≤ 12
theorem wk_ok (y : Int) (r : Rt) (h1 : 1600 ≤ y) (h2 : y ≤ 2399) (hr : okRt r = true) : WkOk y r (rDay y r) := by
  obtain ⟨d, hv, e, hw, h3, h4⟩ := rDay_in y r h1 h2 hr
  obtain ⟨a1, a2, a3, a4, a5, a6, a7, a8⟩ := okRt_iff.1 hr
  have hb := Civ.days_bd hv
  have hml := Civ.mlen_bd y r.m a1 a2
  obtain ⟨k1, k2, k3⟩ := Civ.date_days hv hb
  rw [← e] at hb k1 k2 k3
  have hv' := hv
  obtain ⟨-, -, -, -, v5, v6⟩ := hv'
  exact ⟨hb.1, hb.2, k1, k2, hw, a3, a4, by omega, by omega, fun h => by rw [k3]; exact h3 h, fun h => by rw [k3]; exact h4 h, a1, a2⟩

set_option maxRecDepth 100000 in
set_option maxHeartbeats 8000000 in
theorem RiteWeeks_ok (p : Px) (y0 : Int) (w : World) (h1 : p.name.size ≤ maxLen) (h2 : p.also.size ≤ maxLen) (ht : Tab10 w) (hp : pxChk p = 0) (ha : p.also.toList ≠ []) :
    Calls Tryd.prog 9 #[pxV p, .int .i64 y0] w fun e w' => e = .returned (.bool true) ∧ Below w.heap.size w w' := by
  obtain ⟨W0, eW⟩ : ∃ W0, w.alloc (.cells (pxCells p) 51) = W0 := ⟨_, rfl⟩
  have HX : Hid (PxBx W0 w.heap.size p) := by show PxBx _ _ _; rw [← eW]; exact PxBx.box w p
  have HB : Hid (Below w.heap.size w W0) := by show Below _ _ _; rw [← eW]; exact below_al1 _ _
  have HEW := Lib.hid eW
  have HT := Lib.hid ht
  have HR := Lib.hid (fun W => Rest_any y0 800 W (by decide) (by decide))
  have hm0 : 0 ≤ y0 % 800 := by omega
  have hm1 : y0 % 800 < 800 := by omega
  obtain ⟨m, em⟩ : ∃ m, y0 % 800 = m := ⟨_, rfl⟩
  rw [em] at hm0 hm1 HR
  have HTT := Lib.hid (fun W => Turns_ok p (m + 1600) W h1 h2 hp ha (by omega) (by omega))
  have ok := px_ok hp ha
  have ks := wk_ok (m + 1600) p.s (by omega) (by omega) ok.s
  have ke := wk_ok (m + 1600) p.e (by omega) (by omega) ok.e
  have q1 := okRt_iff.1 ok.s
  have q2 := okRt_iff.1 ok.e
  have o1 := ok.o1; have o2 := ok.o2; have o3 := ok.a1; have o4 := ok.a2
  have eS : tS p (m + 1600) = 86400 * rDay (m + 1600) p.s + p.s.t - p.off := rfl
  have eE : tE p (m + 1600) = 86400 * rDay (m + 1600) p.e + p.e.t - p.aoff := rfl
  rw [eS, eE] at HTT
  obtain ⟨A, eA⟩ : ∃ A, rDay (m + 1600) p.s = A := ⟨_, rfl⟩
  obtain ⟨B, eB⟩ : ∃ B, rDay (m + 1600) p.e = B := ⟨_, rfl⟩
  rw [eA] at HTT ks
  rw [eB] at HTT ke
  have bA1 := ks.b1
  have bA2 := ks.b2
  have bB1 := ke.b1
  have bB2 := ke.b2
  have t1 : 0 ≤ p.s.t ∧ p.s.t ≤ 86400 := by omega
  have t2 : 0 ≤ p.e.t ∧ p.e.t ≤ 86400 := by omega
  obtain ⟨t11, t12⟩ := t1
  obtain ⟨t21, t22⟩ := t2
  have HKS := Lib.hid ks
  have HKE := Lib.hid ke
  have HDA := Lib.hid (fun W => Date_ok A W bA1 bA2)
  have HWA := Lib.hid (fun W => Weekday_ok A W bA1 bA2)
  have HLA := Lib.hid (fun W => Length_ok (m + 1600) p.s.m W (by omega) (by omega) ks.m1 ks.m2)
  have HDB := Lib.hid (fun W => Date_ok B W bB1 bB2)
  have HWB := Lib.hid (fun W => Weekday_ok B W bB1 bB2)
  have HLB := Lib.hid (fun W => Length_ok (m + 1600) p.e.m W (by omega) (by omega) ke.m1 ke.m2)
  have a1 : 86400 * A + p.s.t - p.off + p.off - p.s.t = 86400 * A := by omega
  have a2 : 86400 * B + p.e.t - p.aoff + p.aoff - p.e.t = 86400 * B := by omega
  have HA1 := Lib.hid a1
  have HA2 := Lib.hid a2
  clear eW h1 h2 ht em ok hp ha eS eE eA eB q1 q2 ks ke a1 a2
  go_enter Tryd.func9, Tryd.ntmps9
  go_wp2_with fail
  rw [HEW.out]
  refine (rited_any _ (HT.out.below HB.out)).mono ?_
  rintro e w1 ⟨rfl, hb1⟩
  have HX1 := Lib.hid (HX.out.below hb1)
  have HB1 := Lib.hid (HB.out.trans (hb1.mono HB.out.size))
  clear hb1 HX HB
  obtain ⟨x0, x1, x2, x3, x4, x5, x6, x7, x8, x9, x10, x11⟩ := HX1.out.cells
  have hl1 := HX1.out.lt
  go_wp2_with fail
  refine (HR.out _).mono ?_
  rintro e w' ⟨rfl, rfl⟩
  go_wp2_with fail
  refine (HTT.out _).mono ?_
  rintro e w2 ⟨rfl, hb2⟩
  have HX2 := Lib.hid (HX1.out.below hb2)
  have HB2 := Lib.hid (HB1.out.trans (hb2.mono HB1.out.size))
  clear hb2 HX1 HB1 x0 x1 x2 x3 x4 x5 x6 x7 x8 x9 x10 x11 hl1
  obtain ⟨x0, x1, x2, x3, x4, x5, x6, x7, x8, x9, x10, x11⟩ := HX2.out.cells
  have hl2 := HX2.out.lt
  go_wp2_with fail
  obtain ⟨W5, e5⟩ : ∃ W5, w2.alloc (.cells #[.int .i64 (86400 * A), .int .i64 (86400 * B)] 3) = W5 := ⟨_, rfl⟩
  rw [e5]
  have g5 : W5.heap[w2.heap.size]? = some (.cells #[.int .i64 (86400 * A), .int .i64 (86400 * B)] 3 (0, 0)) := by rw [← e5]; exact heap_alloc_new w2 _
  have hb5 : Below w2.heap.size w2 W5 := by rw [← e5]; exact below_al1 _ _
  have HX5 := Lib.hid (HX2.out.below hb5)
  have HB5 := Lib.hid (HB2.out.trans (hb5.mono HB2.out.size))
  have G5 := Lib.hid g5
  have hl5 := HX5.out.lt
  have hz5 : w2.heap.size < W5.heap.size := (Array.getElem?_eq_some_iff.mp g5).1
  clear e5 g5 hb5 HX2 HB2 x0 x1 x2 x3 x4 x5 x6 x7 x8 x9 x10 x11 HTT HA1 HA2
  go_loopw [51] (fun i wr => ∃ k : Nat, k ≤ 2 ∧ i = .int .i64 k ∧ Below W5.heap.size W5 wr) (fun i _ => 2 - (intOf i).toNat)
  case atStart => exact ⟨0, by omega, rfl, Below.refl _ _⟩
  case round =>
    obtain ⟨k, hk, rfl, hbr⟩ := hrel
    have HBR := Lib.hid hbr
    have HXR := Lib.hid (HX5.out.below hbr)
    have G6 := Lib.hid ((hbr.block _ hz5).trans G5.out)
    have hzr := hbr.size
    have hlr := HXR.out.lt
    obtain ⟨x0, x1, x2, x3, x4, x5, x6, x7, x8, x9, x10, x11⟩ := HXR.out.cells
    clear x0 x1 x2 x3 hbr
    have hk3 : k = 0 ∨ k = 1 ∨ k = 2 := by omega
    clear hk
    have hw2r : w2.heap.size < wr.heap.size := by omega
    have d0 : wr.cell? ⟨w2.heap.size, 0, none⟩ = some (.int .i64 (86400 * A)) := (cell_of_row wr _ 0 _ _ _ G6.out).trans rfl
    have d1 : wr.cell? ⟨w2.heap.size, 1, none⟩ = some (.int .i64 (86400 * B)) := (cell_of_row wr _ 1 _ _ _ G6.out).trans rfl
    rcases hk3 with rfl | rfl | rfl
    · have hq1 : (86400 * A).tmod 86400 = 0 := Int.mul_tmod_right _ _
      have hq2 : (86400 * A).tdiv 86400 = A := Int.mul_tdiv_cancel_left _ (by decide)
      have kk := HKS.out
      have L1 := Civ.mlen_bd (m + 1600) p.s.m kk.m1 kk.m2
      have hdy := HDA
      have hwd := HWA
      have hln := HLA
      rw [kk.yy, kk.mm] at hdy
      rw [kk.wd] at hwd
      obtain ⟨d, ed⟩ : ∃ d, Civ.dd A = d := ⟨_, rfl⟩
      obtain ⟨L, eL⟩ : ∃ L, Civ.mlen (m + 1600) p.s.m = L := ⟨_, rfl⟩
      have k1 := kk.d1
      have k2 := kk.d2
      have k3 := kk.wk
      have k4 := kk.lst
      have k5 := kk.w1
      have k6 := kk.w5
      rw [ed] at hdy k1 k2 k3 k4
      rw [eL] at hln k4 L1
      obtain ⟨M, eM⟩ : ∃ M, p.s.m = M := ⟨_, rfl⟩
      obtain ⟨K, eK⟩ : ∃ M, p.s.w = M := ⟨_, rfl⟩
      obtain ⟨E, eE⟩ : ∃ M, p.s.d = M := ⟨_, rfl⟩
      rw [eM] at hdy hln
      rw [eE] at hwd
      rw [eK] at k3 k4 k5 k6
      rw [eM] at x4
      rw [eK] at x5
      rw [eE] at x6
      have HDY := Lib.hid hdy.out
      have HWD := Lib.hid hwd.out
      have HLN := Lib.hid hln.out
      obtain ⟨l1, l2⟩ := L1
      obtain ⟨N, eN⟩ : ∃ N, 86400 * A = N := ⟨_, rfl⟩
      have hN1 : -20000000000 ≤ N := by omega
      have hN2 : N ≤ 20000000000 := by omega
      rw [eN] at hq1 hq2 d0
      clear hdy hwd hln kk ed eL eM eK eE eN
      by_cases h5 : K = 5
      · subst h5
        have k4' := k4 rfl
        clear k3 k4 k5 k6
        go_wp2_with fail
        refine (HDY.out _).mono ?_
        rintro e w' ⟨rfl, rfl⟩
        go_wp2_with fail
        refine (HWD.out _).mono ?_
        rintro e w' ⟨rfl, rfl⟩
        go_wp2_with fail
        refine (HLN.out _).mono ?_
        rintro e w' ⟨rfl, rfl⟩
        go_wp2
        go_roundw
        case rel => exact ⟨1, by omega, rfl, (HBR.out.alloc HBR.out.size _).alloc (by have := HBR.out.size; simp; omega) _⟩
        case measure => simp [intOf]
      · have c1 : (K == 5) = false := by simpa using h5
        have c2 : K < 5 := by omega
        have c3 : ((d + 6) / 7 == K) = true := by simpa using k3 c2
        have c4 : ((d + 6) / 7 != K) = false := by simpa using k3 c2
        clear k3 k4 h5
        go_wp2_with fail
        refine (HDY.out _).mono ?_
        rintro e w' ⟨rfl, rfl⟩
        go_wp2_with fail
        refine (HWD.out _).mono ?_
        rintro e w' ⟨rfl, rfl⟩
        go_wp2_with fail
        refine (HLN.out _).mono ?_
        rintro e w' ⟨rfl, rfl⟩
        go_wp2
        go_roundw
        case rel => exact ⟨1, by omega, rfl, (HBR.out.alloc HBR.out.size _).alloc (by have := HBR.out.size; simp; omega) _⟩
        case measure => simp [intOf]
    · have hq1 : (86400 * B).tmod 86400 = 0 := Int.mul_tmod_right _ _
      have hq2 : (86400 * B).tdiv 86400 = B := Int.mul_tdiv_cancel_left _ (by decide)
      have kk := HKE.out
      have L1 := Civ.mlen_bd (m + 1600) p.e.m kk.m1 kk.m2
      have hdy := HDB
      have hwd := HWB
      have hln := HLB
      rw [kk.yy, kk.mm] at hdy
      rw [kk.wd] at hwd
      obtain ⟨d, ed⟩ : ∃ d, Civ.dd B = d := ⟨_, rfl⟩
      obtain ⟨L, eL⟩ : ∃ L, Civ.mlen (m + 1600) p.e.m = L := ⟨_, rfl⟩
      have k1 := kk.d1
      have k2 := kk.d2
      have k3 := kk.wk
      have k4 := kk.lst
      have k5 := kk.w1
      have k6 := kk.w5
      rw [ed] at hdy k1 k2 k3 k4
      rw [eL] at hln k4 L1
      obtain ⟨M, eM⟩ : ∃ M, p.e.m = M := ⟨_, rfl⟩
      obtain ⟨K, eK⟩ : ∃ M, p.e.w = M := ⟨_, rfl⟩
      obtain ⟨E, eE⟩ : ∃ M, p.e.d = M := ⟨_, rfl⟩
      rw [eM] at hdy hln
      rw [eE] at hwd
      rw [eK] at k3 k4 k5 k6
      rw [eM] at x8
      rw [eK] at x9
      rw [eE] at x10
      have HDY := Lib.hid hdy.out
      have HWD := Lib.hid hwd.out
      have HLN := Lib.hid hln.out
      obtain ⟨l1, l2⟩ := L1
      obtain ⟨N, eN⟩ : ∃ N, 86400 * B = N := ⟨_, rfl⟩
      have hN1 : -20000000000 ≤ N := by omega
      have hN2 : N ≤ 20000000000 := by omega
      rw [eN] at hq1 hq2 d1
      clear hdy hwd hln kk ed eL eM eK eE eN
      by_cases h5 : K = 5
      · subst h5
        have k4' := k4 rfl
        clear k3 k4 k5 k6
        go_wp2_with fail
        refine (HDY.out _).mono ?_
        rintro e w' ⟨rfl, rfl⟩
        go_wp2_with fail
        refine (HWD.out _).mono ?_
        rintro e w' ⟨rfl, rfl⟩
        go_wp2_with fail
        refine (HLN.out _).mono ?_
        rintro e w' ⟨rfl, rfl⟩
        go_wp2
        go_roundw
        case rel => exact ⟨2, by omega, rfl, (HBR.out.alloc HBR.out.size _).alloc (by have := HBR.out.size; simp; omega) _⟩
        case measure => simp [intOf]
      · have c1 : (K == 5) = false := by simpa using h5
        have c2 : K < 5 := by omega
        have c3 : ((d + 6) / 7 == K) = true := by simpa using k3 c2
        have c4 : ((d + 6) / 7 != K) = false := by simpa using k3 c2
        clear k3 k4 h5
        go_wp2_with fail
        refine (HDY.out _).mono ?_
        rintro e w' ⟨rfl, rfl⟩
        go_wp2_with fail
        refine (HWD.out _).mono ?_
        rintro e w' ⟨rfl, rfl⟩
        go_wp2_with fail
        refine (HLN.out _).mono ?_
        rintro e w' ⟨rfl, rfl⟩
        go_wp2
        go_roundw
        case rel => exact ⟨2, by omega, rfl, (HBR.out.alloc HBR.out.size _).alloc (by have := HBR.out.size; simp; omega) _⟩
        case measure => simp [intOf]
    · clear HDA HWA HLA HDB HWB HLB d0 d1
      go_wp2
      go_ret
      exact ⟨rfl, HB5.out.trans (HBR.out.mono HB5.out.size)⟩
end Go.Proofs.YtmjakhageehcoaaDoor
