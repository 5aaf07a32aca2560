/- rite.turns, rite.Turns: where the summer begins and ends. -/
import Derived.Test.YtmjakhageehcoaaDoorRite2
import Derived.Deep.RegionHeld3
namespace Go.Proofs.YtmjakhageehcoaaDoor
open Go.RowKit Go.Joins
set_option linter.unusedVariables false
set_option linter.unusedSimpArgs false

def dK (r : Rt) : Int := if r.w = 5 then 2 else 3
def dN (r : Rt) : Int := if r.w = 5 then 0 else 7 * r.w - 6
theorem dayOf_any (r : Rt) (w : World) (h : okRt r = true) :
    Calls Tryd.prog 58 #[rtV r] w fun e w' => e = .returned (dayV (dK r) r.d (dN r)) ∧ Below w.heap.size w w' := by
  obtain ⟨a1, a2, a3, a4, a5, a6, a7, a8⟩ := okRt_iff.1 h
  by_cases h5 : r.w = 5
  · unfold dK dN
    rw [if_pos h5, if_pos h5]
    exact dayOf_last r w h5
  · unfold dK dN
    rw [if_neg h5, if_neg h5]
    exact dayOf_from r w h5 a3 a4
theorem Of_rite (y : Int) (r : Rt) (w : World) (h1 : 1600 ≤ y) (h2 : y ≤ 2399) (h : okRt r = true) :
    Calls Tryd.prog 57 #[.int .i64 y, .int .i64 r.m, dayV (dK r) r.d (dN r)] w fun e w' => e = .returned (.tuple #[.int .i64 (rDay y r), .int .i64 0]) ∧ Below w.heap.size w w' := by
  obtain ⟨a1, a2, a3, a4, a5, a6, a7, a8⟩ := okRt_iff.1 h
  have hml := Civ.mlen_bd y r.m a1 a2
  unfold dK dN rDay
  by_cases h5 : r.w = 5
  · rw [if_pos h5, if_pos h5, if_pos h5]
    exact Of_last y r.m r.d 0 w (by unfold dayB; exact decide_eq_true (by omega)) h1 h2 a1 a2
  · rw [if_neg h5, if_neg h5, if_neg h5]
    refine Of_up y r.m r.d (7 * r.w - 6) w (by unfold dayB; exact decide_eq_true (by omega)) h1 h2 a1 a2 (by omega) ?_
    have hu := upTo_bd (Civ.days y r.m (7 * r.w - 6)) r.d a5 a6
    have v := Civ.days_bd (show Civ.valid y r.m (7 * r.w - 6 + 6) from ⟨h1, h2, a1, a2, by omega, by omega⟩)
    have e1 := days_lin y r.m (7 * r.w - 6 + 6)
    have e2 := days_lin y r.m (7 * r.w - 6)
    omega

theorem ret_3 {a b c a' b' c' : Int} (h : a = a') (h2 : b = b') (h3 : c = c') : Ending.returned (.tuple #[.int .i64 a, .int .i64 b, .int .i64 c]) = .returned (.tuple #[.int .i64 a', .int .i64 b', .int .i64 c']) := by rw [h, h2, h3]

set_option maxRecDepth 100000 in
set_option maxHeartbeats 4000000 in
theorem turns_ok (p : Px) (y : Int) (w : World) (ok : OkPx p) (h1 : 1600 ≤ y) (h2 : y ≤ 2399) :
    Calls Tryd.prog 38 #[pxV p, .int .i64 y] w fun e w' => e = .returned (.tuple #[.int .i64 (tS p y), .int .i64 (tE p y), .int .i64 0]) ∧ Below w.heap.size w w' := by
  obtain ⟨W0, eW⟩ : ∃ W0, w.alloc (.cells (pxCells p) 51) = W0 := ⟨_, rfl⟩
  have HX : Hid (PxBx W0 w.heap.size p) := by show PxBx _ _ _; rw [← eW]; exact PxBx.box w p
  have HB : Hid (Below w.heap.size w W0) := by show Below _ _ _; rw [← eW]; exact (Below.refl _ _).alloc (Nat.le_refl _) _
  have HEW := Lib.hid eW
  have hb1 := rDay_bd y p.s h1 h2 ok.s
  have hb2 := rDay_bd y p.e h1 h2 ok.e
  have q1 := okRt_iff.1 ok.s
  have q2 := okRt_iff.1 ok.e
  have o1 := ok.o1; have o2 := ok.o2; have o3 := ok.a1; have o4 := ok.a2
  have HS : Hid (tS p y = 86400 * rDay y p.s + p.s.t - p.off) := by show _ = _; rfl
  have HE : Hid (tE p y = 86400 * rDay y p.e + p.e.t - p.aoff) := by show _ = _; rfl
  have HD1 := Lib.hid (fun W => dayOf_any p.s W ok.s)
  have HD2 := Lib.hid (fun W => dayOf_any p.e W ok.e)
  have HO1 := Lib.hid (fun W => Of_rite y p.s W h1 h2 ok.s)
  have HO2 := Lib.hid (fun W => Of_rite y p.e W h1 h2 ok.e)
  obtain ⟨nm, off, al, ao, ⟨sm, sw, sd, st⟩, ⟨em, ew, ed, et⟩⟩ := p
  obtain ⟨x0, x1, x2, x3, x4, x5, x6, x7, x8, x9, x10, x11⟩ := HX.out.cells
  have hl0 := HX.out.lt
  simp only at x0 x1 x2 x3 x4 x5 x6 x7 x8 x9 x10 x11 hb1 hb2 q1 q2 o1 o2 o3 o4 HS HE HD1 HD2 HO1 HO2
  obtain ⟨A, eA⟩ : ∃ A, rDay y ⟨sm, sw, sd, st⟩ = A := ⟨_, rfl⟩
  obtain ⟨B, eB⟩ : ∃ B, rDay y ⟨em, ew, ed, et⟩ = B := ⟨_, rfl⟩
  obtain ⟨K1, eK1⟩ : ∃ K, dK ⟨sm, sw, sd, st⟩ = K := ⟨_, rfl⟩
  obtain ⟨K2, eK2⟩ : ∃ K, dK ⟨em, ew, ed, et⟩ = K := ⟨_, rfl⟩
  obtain ⟨N1, eN1⟩ : ∃ K, dN ⟨sm, sw, sd, st⟩ = K := ⟨_, rfl⟩
  obtain ⟨N2, eN2⟩ : ∃ K, dN ⟨em, ew, ed, et⟩ = K := ⟨_, rfl⟩
  rw [eA] at HO1 HS hb1
  rw [eB] at HO2 HE hb2
  rw [eK1, eN1] at HD1 HO1
  rw [eK2, eN2] at HD2 HO2
  obtain ⟨-, -, -, -, -, -, q17, q18⟩ := q1
  obtain ⟨-, -, -, -, -, -, q27, q28⟩ := q2
  have KB : Hid (∀ wx, Below W0.heap.size W0 wx → (Below W0.heap.size W0 wx ∧ wx.cell? ⟨w.heap.size, 4, none⟩ = some (.int .i64 sm) ∧ wx.cell? ⟨w.heap.size, 5, none⟩ = some (.int .i64 sw) ∧ wx.cell? ⟨w.heap.size, 6, none⟩ = some (.int .i64 sd) ∧ wx.cell? ⟨w.heap.size, 7, none⟩ = some (.int .i64 st))) := by
    show ∀ wx, Below W0.heap.size W0 wx → _
    intro wx hb
    exact ⟨hb, (hb.cell (p := ⟨w.heap.size, 4, none⟩) hl0).trans x4, (hb.cell (p := ⟨w.heap.size, 5, none⟩) hl0).trans x5, (hb.cell (p := ⟨w.heap.size, 6, none⟩) hl0).trans x6, (hb.cell (p := ⟨w.heap.size, 7, none⟩) hl0).trans x7⟩
  have KR : Hid (∀ wx, (Below W0.heap.size W0 wx ∧ wx.cell? ⟨w.heap.size, 4, none⟩ = some (.int .i64 sm) ∧ wx.cell? ⟨w.heap.size, 5, none⟩ = some (.int .i64 sw) ∧ wx.cell? ⟨w.heap.size, 6, none⟩ = some (.int .i64 sd) ∧ wx.cell? ⟨w.heap.size, 7, none⟩ = some (.int .i64 st)) → Below W0.heap.size W0 wx) := by
    show ∀ wx, _ → Below W0.heap.size W0 wx
    exact fun wx h => h.1
  clear eW eA eB eK1 eK2 eN1 eN2 ok h1 h2 x0 x1 x2 x3 x8 x9 x10 x11
  go_enter Tryd.func38, Tryd.ntmps38
  go_upto_region 1 with fail
  rw [HEW.out]
  go_cut [7, 8] (fun s7 s8 wx => s7 = .int .i64 A ∧ s8 = .int .i64 0 ∧ Below W0.heap.size W0 wx)
  case first =>
    go_region_held3 (fun wx => Below W0.heap.size W0 wx ∧ wx.cell? ⟨w.heap.size, 4, none⟩ = some (.int .i64 sm) ∧ wx.cell? ⟨w.heap.size, 5, none⟩ = some (.int .i64 sw) ∧ wx.cell? ⟨w.heap.size, 6, none⟩ = some (.int .i64 sd) ∧ wx.cell? ⟨w.heap.size, 7, none⟩ = some (.int .i64 st)) ((refine KB.out _ ?_; repeat (first | (with_reducible exact HB3.out) | (with_reducible exact HB2.out) | (with_reducible exact Below.refl _ _) | (with_reducible refine Below.drew ?_))))
      (first
        | (go_at_call 58; refine (HD1.out _).mono ?_; rintro e w2 ⟨rfl, hb2⟩; have HB2 := Lib.hid ((KR.out _ (by assumption)).trans (hb2.mono (KR.out _ (by assumption)).size)); clear hb2)
        | (go_at_call 57; refine (HO1.out _).mono ?_; rintro e w3 ⟨rfl, hb3⟩; have HB3 := Lib.hid ((KR.out _ (by assumption)).trans (hb3.mono (KR.out _ (by assumption)).size)); clear hb3))
    all_goals go_wp2_with fail
    all_goals go_meet
    all_goals exact ⟨rfl, rfl, KR.out _ (by assumption)⟩
  case rest =>
    obtain ⟨rfl, rfl, hbc⟩ := hcut
    have HXC := Lib.hid (HX.out.below hbc)
    have HBC := Lib.hid (HB.out.trans (hbc.mono HB.out.size))
    obtain ⟨x0, x1, x2, x3, x4, x5, x6, x7, x8, x9, x10, x11⟩ := HXC.out.cells
    have hlc := HXC.out.lt
    simp only at x0 x1 x2 x3 x4 x5 x6 x7 x8 x9 x10 x11
    clear KB KR hbc HX HB HEW hl0
    have KB : Hid (∀ wx, Below wc.heap.size wc wx → (Below wc.heap.size wc wx ∧ wx.cell? ⟨w.heap.size, 8, none⟩ = some (.int .i64 em) ∧ wx.cell? ⟨w.heap.size, 9, none⟩ = some (.int .i64 ew) ∧ wx.cell? ⟨w.heap.size, 10, none⟩ = some (.int .i64 ed) ∧ wx.cell? ⟨w.heap.size, 11, none⟩ = some (.int .i64 et))) := by
      show ∀ wx, Below wc.heap.size wc wx → _
      intro wx hb
      exact ⟨hb, (hb.cell (p := ⟨w.heap.size, 8, none⟩) hlc).trans x8, (hb.cell (p := ⟨w.heap.size, 9, none⟩) hlc).trans x9, (hb.cell (p := ⟨w.heap.size, 10, none⟩) hlc).trans x10, (hb.cell (p := ⟨w.heap.size, 11, none⟩) hlc).trans x11⟩
    have KR : Hid (∀ wx, (Below wc.heap.size wc wx ∧ wx.cell? ⟨w.heap.size, 8, none⟩ = some (.int .i64 em) ∧ wx.cell? ⟨w.heap.size, 9, none⟩ = some (.int .i64 ew) ∧ wx.cell? ⟨w.heap.size, 10, none⟩ = some (.int .i64 ed) ∧ wx.cell? ⟨w.heap.size, 11, none⟩ = some (.int .i64 et)) → Below wc.heap.size wc wx) := by
      show ∀ wx, _ → Below wc.heap.size wc wx
      exact fun wx h => h.1
    clear x0 x1 x2 x3 x4 x5 x6 x7
    go_upto_region 2 with fail
    go_cut [7, 8, 9, 10] (fun s7 s8 s9 s10 wx => s7 = .int .i64 A ∧ s8 = .int .i64 0 ∧ s9 = .int .i64 B ∧ s10 = .int .i64 0 ∧ Below wc.heap.size wc wx)
    case first =>
      go_region_held3 (fun wx => Below wc.heap.size wc wx ∧ wx.cell? ⟨w.heap.size, 8, none⟩ = some (.int .i64 em) ∧ wx.cell? ⟨w.heap.size, 9, none⟩ = some (.int .i64 ew) ∧ wx.cell? ⟨w.heap.size, 10, none⟩ = some (.int .i64 ed) ∧ wx.cell? ⟨w.heap.size, 11, none⟩ = some (.int .i64 et)) ((refine KB.out _ ?_; repeat (first | (with_reducible exact HB3.out) | (with_reducible exact HB2.out) | (with_reducible exact Below.refl _ _) | (with_reducible refine Below.drew ?_))))
        (first
          | (go_at_call 58; refine (HD2.out _).mono ?_; rintro e w2 ⟨rfl, hb2⟩; have HB2 := Lib.hid ((KR.out _ (by assumption)).trans (hb2.mono (KR.out _ (by assumption)).size)); clear hb2)
          | (go_at_call 57; refine (HO2.out _).mono ?_; rintro e w3 ⟨rfl, hb3⟩; have HB3 := Lib.hid ((KR.out _ (by assumption)).trans (hb3.mono (KR.out _ (by assumption)).size)); clear hb3))
      all_goals go_wp2_with fail
      all_goals go_meet
      all_goals exact ⟨rfl, rfl, rfl, rfl, KR.out _ (by assumption)⟩
    case rest =>
      obtain ⟨rfl, rfl, rfl, rfl, hbd⟩ := hcut
      have HXD := Lib.hid (HXC.out.below hbd)
      have HBD := Lib.hid (HBC.out.trans (hbd.mono HBC.out.size))
      obtain ⟨x0, x1, x2, x3, x4, x5, x6, x7, x8, x9, x10, x11⟩ := HXD.out.cells
      have hld := HXD.out.lt
      simp only at x0 x1 x2 x3 x4 x5 x6 x7 x8 x9 x10 x11
      clear KB KR hbd HXC HBC hlc
      go_upto_region 5 with fail
      go_quiet (fail)
      go_wp2
      go_ret3
      exact ⟨ret_3 HS.out.symm HE.out.symm rfl, below_drewN HBD.out _⟩

theorem px_ok {p : Px} (h : pxChk p = 0) (ha : p.also.toList ≠ []) : OkPx p := by
  unfold pxChk at h
  split at h
  · omega
  split at h
  · omega
  split at h
  · omega
  rename_i h3
  split at h
  · omega
  rename_i h4
  split at h
  · omega
  rename_i h5
  split at h
  · omega
  rename_i h6
  split at h
  · omega
  rename_i h7
  have g3 := withinB_iff.1 (by simpa using h3)
  have g4 := withinB_iff.1 (by simpa using h4)
  exact ⟨g3.1, g3.2, g4.1, g4.2, by simpa using h5, by simpa using h6, h7⟩
theorem px_off {p : Px} (h : pxChk p = 0) : -64800 ≤ p.off ∧ p.off ≤ 64800 := by
  unfold pxChk at h
  split at h
  · omega
  split at h
  · omega
  split at h
  · omega
  rename_i h3
  exact withinB_iff.1 (by simpa using h3)

/-- rite.Turns, where it may not be -/
theorem Turns_bad (p : Px) (y : Int) (w : World) (h1 : p.name.size ≤ maxLen) (h2 : p.also.size ≤ maxLen) (h : pxChk p ≠ 0) :
    Calls Tryd.prog 18 #[pxV p, .int .i64 y] w fun e w' => e = .returned (.tuple #[.int .i64 0, .int .i64 0, .int .i64 (pxChk p)]) ∧ Below w.heap.size w w' := by
  obtain ⟨W0, eW⟩ : ∃ W0, w.alloc (.cells (pxCells p) 51) = W0 := ⟨_, rfl⟩
  have HX : Hid (PxBx W0 w.heap.size p) := by show PxBx _ _ _; rw [← eW]; exact PxBx.box w p
  have HB : Hid (Below w.heap.size w W0) := by show Below _ _ _; rw [← eW]; exact (Below.refl _ _).alloc (Nat.le_refl _) _
  have HEW := Lib.hid eW
  have HC := Lib.hid (fun W => rCheck_any p W h1 h2)
  obtain ⟨C, eC⟩ : ∃ C, pxChk p = C := ⟨_, rfl⟩
  rw [eC] at HC h ⊢
  have hc' : (C == 0) = false := by simpa using h
  have hc'' : (C != 0) = true := by simpa using h
  obtain ⟨x0, x1, x2, x3, x4, x5, x6, x7, x8, x9, x10, x11⟩ := HX.out.cells
  have hl0 := HX.out.lt
  clear eW eC h
  go_enter Tryd.func18, Tryd.ntmps18
  go_wp2_with fail
  rw [HEW.out]
  refine (HC.out _).mono ?_
  rintro e w1 ⟨rfl, hb1⟩
  have HB1 := Lib.hid (HB.out.trans (hb1.mono HB.out.size))
  clear hb1
  go_wp2
  go_ret3
  exact ⟨rfl, HB1.out⟩

/-- rite.Turns, where there is no summer -/
theorem Turns_none (p : Px) (y : Int) (w : World) (h1 : p.name.size ≤ maxLen) (h2 : p.also.size ≤ maxLen) (h : pxChk p = 0) (ha : p.also.toList = []) :
    Calls Tryd.prog 18 #[pxV p, .int .i64 y] w fun e w' => e = .returned (.tuple #[.int .i64 0, .int .i64 0, .int .i64 6]) ∧ Below w.heap.size w w' := by
  obtain ⟨W0, eW⟩ : ∃ W0, w.alloc (.cells (pxCells p) 51) = W0 := ⟨_, rfl⟩
  have HX : Hid (PxBx W0 w.heap.size p) := by show PxBx _ _ _; rw [← eW]; exact PxBx.box w p
  have HB : Hid (Below w.heap.size w W0) := by show Below _ _ _; rw [← eW]; exact (Below.refl _ _).alloc (Nat.le_refl _) _
  have HEW := Lib.hid eW
  have HC := Lib.hid (fun W => rCheck_any p W h1 h2)
  rw [h] at HC
  obtain ⟨x0, x1, x2, x3, x4, x5, x6, x7, x8, x9, x10, x11⟩ := HX.out.cells
  have hl0 := HX.out.lt
  have ha2 : p.also.toList.isEmpty = true := by simpa using ha
  clear eW h
  go_enter Tryd.func18, Tryd.ntmps18
  go_wp2_with fail
  rw [HEW.out]
  refine (HC.out _).mono ?_
  rintro e w1 ⟨rfl, hb1⟩
  have HX1 := Lib.hid (HX.out.below hb1)
  have HB1 := Lib.hid (HB.out.trans (hb1.mono HB.out.size))
  clear hb1 HX HB x0 x1 x2 x3 x4 x5 x6 x7 x8 x9 x10 x11 hl0
  obtain ⟨x0, x1, x2, x3, x4, x5, x6, x7, x8, x9, x10, x11⟩ := HX1.out.cells
  have hl1 := HX1.out.lt
  go_wp2
  go_ret3
  exact ⟨rfl, HB1.out⟩

theorem Turns_ok (p : Px) (y : Int) (w : World) (h1 : p.name.size ≤ maxLen) (h2 : p.also.size ≤ maxLen) (h : pxChk p = 0) (ha : p.also.toList ≠ []) (hy1 : 1600 ≤ y) (hy2 : y ≤ 2399) :
    Calls Tryd.prog 18 #[pxV p, .int .i64 y] w fun e w' => e = .returned (.tuple #[.int .i64 (tS p y), .int .i64 (tE p y), .int .i64 0]) ∧ Below w.heap.size w w' := by
  obtain ⟨W0, eW⟩ : ∃ W0, w.alloc (.cells (pxCells p) 51) = W0 := ⟨_, rfl⟩
  have HX : Hid (PxBx W0 w.heap.size p) := by show PxBx _ _ _; rw [← eW]; exact PxBx.box w p
  have HB : Hid (Below w.heap.size w W0) := by show Below _ _ _; rw [← eW]; exact (Below.refl _ _).alloc (Nat.le_refl _) _
  have HEW := Lib.hid eW
  have HC := Lib.hid (fun W => rCheck_any p W h1 h2)
  have HT := Lib.hid (fun W => turns_ok p y W (px_ok h ha) hy1 hy2)
  rw [h] at HC
  obtain ⟨a, ea⟩ : ∃ a, tS p y = a := ⟨_, rfl⟩
  obtain ⟨b, eb⟩ : ∃ a, tE p y = a := ⟨_, rfl⟩
  rw [ea, eb] at HT ⊢
  obtain ⟨x0, x1, x2, x3, x4, x5, x6, x7, x8, x9, x10, x11⟩ := HX.out.cells
  have hl0 := HX.out.lt
  have ha2 : p.also.toList.isEmpty = false := by simpa using ha
  clear eW h ea eb
  go_enter Tryd.func18, Tryd.ntmps18
  go_wp2_with fail
  rw [HEW.out]
  refine (HC.out _).mono ?_
  rintro e w1 ⟨rfl, hb1⟩
  have HX1 := Lib.hid (HX.out.below hb1)
  have HB1 := Lib.hid (HB.out.trans (hb1.mono HB.out.size))
  clear hb1 HX HB x0 x1 x2 x3 x4 x5 x6 x7 x8 x9 x10 x11 hl0
  obtain ⟨x0, x1, x2, x3, x4, x5, x6, x7, x8, x9, x10, x11⟩ := HX1.out.cells
  have hl1 := HX1.out.lt
  go_wp2_with fail
  refine (HT.out _).mono ?_
  rintro e w2 ⟨rfl, hb2⟩
  have HB2 := Lib.hid (HB1.out.trans (hb2.mono HB1.out.size))
  clear hb2
  go_wp2
  go_ret3
  exact ⟨rfl, HB2.out⟩
end Go.Proofs.YtmjakhageehcoaaDoor
