/- TurnsOne: the plain law and the walk. -/
import Derived.Test.YtlgdilpmdoofiaaDoorTuRise
import Derived.Test.YtlgdilpmdoofiaaDoorRest0
namespace Go.Proofs.YtlgdilpmdoofiaaDoor
open Go.RowKit Go.Joins
open Classical
set_option linter.unusedVariables false
set_option linter.unusedSimpArgs false

theorem mkR_one {r : Ru} (o : OkRu r) (h : r.yt = r.yf) (off : Int) : mkR [r] r.nm off = (0, [⟨clkT off 0 (86400 * dayN r r.yf + r.tm, r), r.sv, r.lt⟩]) := by
  refine mkR_0 (by simp) ?_ ?_
  · have : yearsOf [r] r.nm = 1 := by
      unfold yearsOf
      rw [List.filter_cons_of_pos (by simp)]
      simp
      omega
    omega
  · have e1 : (r.yt - r.yf + 1).toNat = 1 := by omega
    have : nomsOf dayN [r] r.nm = [(86400 * dayN r r.yf + r.tm, r)] := by
      unfold nomsOf
      rw [List.filter_cons_of_pos (by simp)]
      show nomOf dayN r ++ [] = _
      unfold nomOf
      rw [e1]
      simp
    rw [this]
    unfold srt
    rw [List.mergeSort_singleton]
    rfl
theorem RuBx.setT {W : World} {B : Nat} {r : Ru} (h : RuBx W B r) (i : Nat) (v : Value) (q : Ru) (e : (ruCells r).setIfInBounds i v = ruCells q) : RuBx (W.setCell ⟨B, i, none⟩ v) B q := by
  unfold RuBx at h ⊢
  rw [← e]
  simp [World.setCell, Array.getElem?_modify, h]

set_option maxRecDepth 100000 in
set_option maxHeartbeats 8000000 in
theorem TurnsOne_walk (MK : MakeSays) (r : Ru) (o0 : Int) (w : World) (hs : SzR r) (hm : MaxLen w) (ht : Tab10 w) :
    Calls Tryd.prog 6 #[ruV r, .int .i64 o0] w fun e w' => e = .returned (.bool true) ∧ Below w.heap.size w w' := by
  obtain ⟨W0, eW⟩ : ∃ W0, w.alloc (.cells (ruCells r) 35) = W0 := ⟨_, rfl⟩
  have hb0 : Below w.heap.size w W0 := by rw [← eW]; exact (Below.refl _ _).alloc (Nat.le_refl _) _
  have hbx : RuBx W0 w.heap.size r := by rw [← eW]; exact RuBx.box w r
  have hl0 : w.heap.size < W0.heap.size := hbx.lt
  have HEW := Lib.hid eW
  have HB0 := Lib.hid hb0
  have HBX := Lib.hid hbx
  have HTU := Lib.hid (turned_any MK W0 (hm.below hb0) (ht.below hb0))
  have HM := Lib.hid hm
  have HT := Lib.hid ht
  have HSZ := Lib.hid hs
  have HRE := Lib.hid (fun W => Rest0_any o0 129601 W (by omega) (by omega))
  have hX1 := Int.emod_nonneg o0 (show (129601 : Int) ≠ 0 by omega)
  have hX2 := Int.emod_lt_of_pos o0 (show (0 : Int) < 129601 by omega)
  clear eW hb0 hbx hm ht hs
  go_enter Tryd.func6, Tryd.ntmps6
  go_upto_region 1 with fail
  rw [HEW.out]
  go_wp2_with fail
  refine HTU.out.mono ?_
  rintro e w1 ⟨rfl, hb1⟩
  have HB1 := Lib.hid (HB0.out.trans (hb1.mono HB0.out.size))
  have HX1 := Lib.hid (HBX.out.below (hb1.mono (Nat.le_refl _)))
  clear hb1 HTU HBX
  obtain ⟨x0, x1, x2, x3, x4, x5, x6, x7, x8, x9, x10⟩ := HX1.out.cells
  have hl1 := HX1.out.lt
  have qf : ∀ i : Nat, _ := fun i => frozen_of_row _ _ i _ _ HX1.out
  obtain ⟨nm, yf, yt, mo, dk, dw, dn, tm, ck, sv, lt⟩ := r
  simp only at x0 x1 x2 x3 x4 x5 x6 x7 x8 x9 x10
  obtain ⟨q, eq⟩ : ∃ q : Ru, q = ⟨nm, yf, yf, mo, dk, dw, dn, tm, ck, sv, lt⟩ := ⟨_, rfl⟩
  obtain ⟨W2, e2⟩ : ∃ W2, w1.setCell ⟨w.heap.size, 2, none⟩ (.int .i64 yf) = W2 := ⟨_, rfl⟩
  have HX2 : Hid (RuBx W2 w.heap.size ⟨nm, yf, yf, mo, dk, dw, dn, tm, ck, sv, lt⟩) := by
    show RuBx _ _ _
    rw [← e2]
    exact HX1.out.setT 2 _ _ rfl
  have HB2 : Hid (Below w.heap.size w W2) := by
    show Below _ _ _
    rw [← e2]
    exact HB1.out.setCell (Nat.le_refl _) _
  have HE2 := Lib.hid e2
  clear e2
  go_upto_region 4 with fail
  rw [HE2.out]
  clear x0 x1 x2 x3 x4 x5 x6 x7 x8 x9 x10 hl1 qf HX1 HE2
  obtain ⟨x0, x1, x2, x3, x4, x5, x6, x7, x8, x9, x10⟩ := HX2.out.cells
  simp only at x0 x1 x2 x3 x4 x5 x6 x7 x8 x9 x10
  have hl2 := HX2.out.lt
  have HCK := Lib.hid (ruCheck_any ⟨nm, yf, yf, mo, dk, dw, dn, tm, ck, sv, lt⟩ W2 (by have := HSZ.out.1; simp only at this; show nm.size ≤ _; unfold maxLen; omega) (by have := HSZ.out.2; simp only at this; show lt.size ≤ _; unfold maxLen; omega))
  go_wp2_with fail
  refine HCK.out.mono ?_
  have HOK := Lib.hid (ru_ok (r := ⟨nm, yf, yf, mo, dk, dw, dn, tm, ck, sv, lt⟩))
  obtain ⟨C, eC⟩ : ∃ C, ruChk ⟨nm, yf, yf, mo, dk, dw, dn, tm, ck, sv, lt⟩ = C := ⟨_, rfl⟩
  rw [eC] at HOK ⊢
  clear eC
  rintro e w3 ⟨rfl, hb3⟩
  have HX3 := Lib.hid (HX2.out.below (hb3.mono (Nat.le_refl _)))
  have HB3 := Lib.hid (HB2.out.trans (hb3.mono HB2.out.size))
  clear hb3 HX2 x0 x1 x2 x3 x4 x5 x6 x7 x8 x9 x10 hl2 HCK
  by_cases hC : C = 0
  case neg =>
    have hz : (C == 0) = false := by simpa using hC
    have hz2 : (!C == 0) = true := by rw [hz]; rfl
    clear hC
    go_wp2_with fail
    go_ret
    exact ⟨rfl, HB3.out⟩
  case pos =>
  subst hC
  have HO := Lib.hid (HOK.out rfl)
  clear HOK
  obtain ⟨x0, x1, x2, x3, x4, x5, x6, x7, x8, x9, x10⟩ := HX3.out.cells
  simp only at x0 x1 x2 x3 x4 x5 x6 x7 x8 x9 x10
  have hl3 := HX3.out.lt
  go_wp2_with fail
  refine (HRE.out _).mono ?_
  rintro e w' ⟨rfl, rfl⟩
  obtain ⟨X, eX⟩ : ∃ X, o0 % 129601 = X := ⟨_, rfl⟩
  rw [eX] at hX1 hX2 ⊢
  clear eX
  obtain ⟨W4, e4⟩ : ∃ W4, w3.alloc (.cells #[.string nm, .int .i64 yf, .int .i64 yf, .int .i64 mo, .int .i64 dk, .int .i64 dw, .int .i64 dn, .int .i64 tm, .int .i64 ck, .int .i64 sv, .string lt] 35) = W4 := ⟨_, rfl⟩
  have hb4 : Below w3.heap.size w3 W4 := by rw [← e4]; exact (Below.refl _ _).alloc (Nat.le_refl _) _
  have hr4 : W4.heap[w3.heap.size]? = some (.cells (ruCells ⟨nm, yf, yf, mo, dk, dw, dn, tm, ck, sv, lt⟩) 35 (0, 0)) := by rw [← e4]; exact heap_alloc_new w3 _
  have hz4 : w3.heap.size < W4.heap.size := by rw [← e4]; simp
  have HB4 := Lib.hid (HB3.out.trans (hb4.mono HB3.out.size))
  have HX4 := Lib.hid (HX3.out.below (hb4.mono (Nat.le_refl _)))
  have hRA : RowsAt (fun r : Ru => (ruCells r).toList) 11 W4.heap.size W4 (.slice (some ⟨w3.heap.size, 0, none⟩) 1 1) [⟨nm, yf, yf, mo, dk, dw, dn, tm, ck, sv, lt⟩] := rows_one hr4 hz4
  have HOF := Lib.hid (Of_book MK ⟨[⟨nm, yf, yf, mo, dk, dw, dn, tm, ck, sv, lt⟩], [], []⟩ _ _ _ nm (X - 64800) W4 (book_rules hRA (fun r hr => by rw [List.mem_singleton.1 hr]; exact HSZ.out)) (HM.out.below HB4.out) (HT.out.below HB4.out))
  have hofr : ofR ⟨[⟨nm, yf, yf, mo, dk, dw, dn, tm, ck, sv, lt⟩], [], []⟩ nm (X - 64800) = (0, [⟨clkT (X - 64800) 0 (86400 * dayN ⟨nm, yf, yf, mo, dk, dw, dn, tm, ck, sv, lt⟩ yf + tm, ⟨nm, yf, yf, mo, dk, dw, dn, tm, ck, sv, lt⟩), sv, lt⟩]) := by
    rw [ofR_mk (chk_rules (by simp) (fun r hr => by rw [List.mem_singleton.1 hr]; exact HO.out)) (by omega)]
    exact mkR_one HO.out rfl _
  have hdb := dayN_bd HO.out (y := yf) (Int.le_refl _) (Int.le_refl _)
  have HDO := Lib.hid (Of_ru ⟨nm, yf, yf, mo, dk, dw, dn, tm, ck, sv, lt⟩ HO.out yf (Int.le_refl _) (Int.le_refl _))
  obtain ⟨N, eN⟩ : ∃ N, dayN ⟨nm, yf, yf, mo, dk, dw, dn, tm, ck, sv, lt⟩ yf = N := ⟨_, rfl⟩
  rw [eN] at hofr hdb HDO
  obtain ⟨t, et⟩ : ∃ t, clkT (X - 64800) 0 (86400 * N + tm, ⟨nm, yf, yf, mo, dk, dw, dn, tm, ck, sv, lt⟩) = t := ⟨_, rfl⟩
  rw [et] at hofr
  rw [hofr] at HOF
  have HET := Lib.hid et
  have HE4 := Lib.hid e4
  obtain ⟨a1, a2, k1, k2⟩ := And.intro HO.out.a1 (And.intro HO.out.a2 (And.intro HO.out.c1 HO.out.c2))
  simp only at a1 a2 k1 k2
  obtain ⟨hN1, hN2⟩ := hdb
  clear hb4 hr4 hRA hofr eN et e4
  have hq : ∀ t W, (binOp .eql 37 (.agg #[.int .i64 t, .int .i64 sv, .string lt]) (.agg #[.int .i64 t, .int .i64 sv, .string lt])).run Tryd.prog W = .ok (.bool true) W := fun t W => by
    rw [eql_tn ⟨t, sv, lt⟩ ⟨t, sv, lt⟩ W, decide_eq_true rfl]
  have HQ := Lib.hid hq
  clear hq x0 x1 x2 x3 x4 x5 x6 x7 x8 x9 x10 hl3
  obtain ⟨x0, x1, x2, x3, x4, x5, x6, x7, x8, x9, x10⟩ := HX3.out.cells
  simp only at x0 x1 x2 x3 x4 x5 x6 x7 x8 x9 x10
  have hl3 := HX3.out.lt
  go_wp2_with fail
  rw [HE4.out]
  refine HOF.out.mono ?_
  rintro e w5 ⟨vo, rfl, hrow, hb5⟩
  have HX5 := Lib.hid (HX4.out.below (hb5.mono (Nat.le_refl _)))
  have HB5 := Lib.hid (HB4.out.trans (hb5.mono HB4.out.size))
  rcases own_cells hrow with ⟨-, h0⟩ | ⟨g, c, rfl, -, hg, hc⟩
  · cases h0
  have HC0 := Lib.hid (hc 0 _ rfl)
  have HC1 := Lib.hid (hc 1 _ rfl)
  have HC2 := Lib.hid (hc 2 _ rfl)
  clear hc hrow hb5 x0 x1 x2 x3 x4 x5 x6 x7 x8 x9 x10 hl3 HOF HX4 HX3 hz4
  obtain ⟨x0, x1, x2, x3, x4, x5, x6, x7, x8, x9, x10⟩ := HX5.out.cells
  simp only at x0 x1 x2 x3 x4 x5 x6 x7 x8 x9 x10
  have hl5 := HX5.out.lt
  go_wp2_with fail
  refine (HDO.out _).mono ?_
  rintro e w6 ⟨rfl, hb6⟩
  have HX6 := Lib.hid (HX5.out.below (hb6.mono (Nat.le_refl _)))
  have HB6 := Lib.hid (HB5.out.trans (hb6.mono HB5.out.size))
  have y0 := (hb6.cell (p := ⟨g, 0, none⟩) hg).trans HC0.out
  have y1 := (hb6.cell (p := ⟨g, 1, none⟩) hg).trans HC1.out
  have y2 := (hb6.cell (p := ⟨g, 2, none⟩) hg).trans HC2.out
  have hg6 : g < w6.heap.size := by have := hb6.size; omega
  clear hb6 x0 x1 x2 x3 x4 x5 x6 x7 x8 x9 x10 hl5 HX5 HDO
  obtain ⟨x0, x1, x2, x3, x4, x5, x6, x7, x8, x9, x10⟩ := HX6.out.cells
  simp only at x0 x1 x2 x3 x4 x5 x6 x7 x8 x9 x10
  have hl6 := HX6.out.lt
  have et := HET.out
  unfold clkT at et
  simp only at et y0 y1 y2
  by_cases hk : ck = 2
  · rw [if_neg (by omega), if_neg (by omega)] at et
    subst et
    subst hk
    have hqq := HQ.out (86400 * N + tm)
    clear HX6 HC0 HC1 HC2 HET
    go_wp2_with fail
    go_quiet (fail)
    go_wp2_with fail
    go_ret
    exact ⟨rfl, below_drewN HB6.out _⟩
  · have et2 : 86400 * N + tm - (X - 64800) = t := by
      by_cases h0 : ck = 0
      · rw [if_pos h0] at et; omega
      · rw [if_neg h0, if_pos (by omega)] at et; exact et
    clear et
    subst et2
    have hz : (ck == 2) = false := by simpa using hk
    have hz2 : (!ck == 2) = true := by rw [hz]; rfl
    have hqq := HQ.out (86400 * N + tm - (X - 64800))
    clear HX6 HC0 HC1 HC2 HET hk
    go_wp2_with fail
    go_quiet (fail)
    go_wp2_with fail
    go_ret
    exact ⟨rfl, below_drewN HB6.out _⟩
end Go.Proofs.YtlgdilpmdoofiaaDoor
