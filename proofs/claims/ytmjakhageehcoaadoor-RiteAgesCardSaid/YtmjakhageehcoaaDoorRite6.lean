/- rite.Text: what it returns; the closed fact 'rited'. -/
import Derived.Test.YtmjakhageehcoaaDoorRite5
import Derived.Test.YtmjakhageehcoaaDoorRite4
namespace Go.Proofs.YtmjakhageehcoaaDoor
open Go.RowKit Go.Joins
set_option linter.unusedVariables false
set_option linter.unusedSimpArgs false

theorem riteT_len {r : Rt} (h : okRt r = true) : (riteT r).length ≤ 21 := by
  obtain ⟨a1, a2, a3, a4, a5, a6, a7, a8⟩ := okRt_iff.1 h
  have l1 := itoa_len (n := r.m) (by omega) (by omega)
  have l2 := itoa_len (n := r.w) (by omega) (by omega)
  have l3 := itoa_len (n := r.d) (by omega) (by omega)
  have l4 := span_len (n := r.t) (by omega) (by omega)
  unfold riteT
  simp only [List.length_append, List.length_cons, List.length_nil]
  omega
theorem word_size {s : ByteArray} (h : wordB s = true) : s.size ≤ 8 := by
  unfold wordB at h
  simp only [Bool.and_eq_true] at h
  exact (abbr_ascii h.2.1).2
theorem px_word {p : Px} (h : pxChk p = 0) : wordB p.name = true := by
  unfold pxChk at h
  split at h
  · omega
  · rename_i h1; simpa using h1
theorem px_word2 {p : Px} (h : pxChk p = 0) (ha : p.also.toList ≠ []) : wordB p.also = true := by
  unfold pxChk at h
  split at h
  · omega
  split at h
  · omega
  · rename_i h1; simpa [ha] using h1

def pxText (p : Px) : ByteArray := p.name ++ txt (spanT (-p.off)) ++ (p.also ++ txt (spanT (-p.aoff)) ++ txt (riteT p.s) ++ txt (riteT p.e))

set_option maxRecDepth 100000 in
set_option maxHeartbeats 4000000 in
theorem Text_ok (p : Px) (w : World) (h : pxChk p = 0) (ha : p.also.toList ≠ []) (ht : Tab10 w) :
    Calls Tryd.prog 31 #[pxV p] w fun e w' => e = .returned (.tuple #[.string (pxText p), .int .i64 0]) ∧ Below w.heap.size w w' := by
  obtain ⟨W0, eW⟩ : ∃ W0, w.alloc (.cells (pxCells p) 51) = W0 := ⟨_, rfl⟩
  have HX : Hid (PxBx W0 w.heap.size p) := by show PxBx _ _ _; rw [← eW]; exact PxBx.box w p
  have HB : Hid (Below w.heap.size w W0) := by show Below _ _ _; rw [← eW]; exact (Below.refl _ _).alloc (Nat.le_refl _) _
  have HEW := Lib.hid eW
  have w1 := word_size (px_word h)
  have w2 := word_size (px_word2 h ha)
  have ok := px_ok h ha
  have o1 := ok.o1; have o2 := ok.o2; have o3 := ok.a1; have o4 := ok.a2
  have HC := Lib.hid (fun W => rCheck_any p W (by unfold maxLen; omega) (by unfold maxLen; omega))
  rw [h] at HC
  have HT1 := Lib.hid (fun W (hb : Tab10 W) => text_any p.name p.off W (by omega) (by omega) (by omega) hb)
  have HT2 := Lib.hid (fun W (hb : Tab10 W) => text_any p.also p.aoff W (by omega) (by omega) (by omega) hb)
  have HR1 := Lib.hid (fun W (hb : Tab10 W) => riteText_any p.s W ok.s hb)
  have HR2 := Lib.hid (fun W (hb : Tab10 W) => riteText_any p.e W ok.e hb)
  have l1 := span_len (n := -p.off) (by omega) (by omega)
  have l2 := span_len (n := -p.aoff) (by omega) (by omega)
  have l3 := riteT_len ok.s
  have l4 := riteT_len ok.e
  have HT := Lib.hid ht
  obtain ⟨A, eA⟩ : ∃ A, p.name ++ txt (spanT (-p.off)) = A := ⟨_, rfl⟩
  obtain ⟨B, eB⟩ : ∃ A, p.also ++ txt (spanT (-p.aoff)) = A := ⟨_, rfl⟩
  obtain ⟨C, eC⟩ : ∃ A, txt (riteT p.s) = A := ⟨_, rfl⟩
  obtain ⟨D, eD⟩ : ∃ A, txt (riteT p.e) = A := ⟨_, rfl⟩
  have HP : Hid (pxText p = A ++ (B ++ C ++ D)) := by show _ = _; unfold pxText; rw [eA, eB, eC, eD]
  have hA : A.size ≤ 18 := by rw [← eA, ByteArray.size_append, txt_size]; omega
  have hB : B.size ≤ 18 := by rw [← eB, ByteArray.size_append, txt_size]; omega
  have hC : C.size ≤ 21 := by rw [← eC, txt_size]; omega
  have hD : D.size ≤ 21 := by rw [← eD, txt_size]; omega
  rw [eA] at HT1
  rw [eB] at HT2
  rw [eC] at HR1
  rw [eD] at HR2
  have ha2 : p.also.toList.isEmpty = false := by simpa using ha
  obtain ⟨nm, off, al, ao, ⟨sm, sw, sd, st⟩, ⟨em, ew, ed, et⟩⟩ := p
  obtain ⟨x0, x1, x2, x3, x4, x5, x6, x7, x8, x9, x10, x11⟩ := HX.out.cells
  have hl0 := HX.out.lt
  simp only at x0 x1 x2 x3 x4 x5 x6 x7 x8 x9 x10 x11 ha ha2 HT1 HT2 HR1 HR2
  clear eW eA eB eC eD w1 w2 ok o1 o2 o3 o4 l1 l2 l3 l4 ht h
  go_enter Tryd.func31, Tryd.ntmps31
  go_wp2_with fail
  rw [HEW.out]
  refine (HC.out _).mono ?_
  rintro e w1 ⟨rfl, hb1⟩
  have HX1 := Lib.hid (HX.out.below hb1)
  have HB1 := Lib.hid (HB.out.trans (hb1.mono HB.out.size))
  clear hb1 HX HB x0 x1 x2 x3 x4 x5 x6 x7 x8 x9 x10 x11 hl0
  obtain ⟨x0, x1, x2, x3, x4, x5, x6, x7, x8, x9, x10, x11⟩ := HX1.out.cells
  have hl1 := HX1.out.lt
  simp only at x0 x1 x2 x3 x4 x5 x6 x7 x8 x9 x10 x11
  go_wp2_with fail
  refine (HT1.out _ (HT.out.below HB1.out)).mono ?_
  rintro e w2 ⟨rfl, hb2⟩
  have HX2 := Lib.hid (HX1.out.below hb2)
  have HB2 := Lib.hid (HB1.out.trans (hb2.mono HB1.out.size))
  clear hb2 HX1 HB1 x0 x1 x2 x3 x4 x5 x6 x7 x8 x9 x10 x11 hl1
  obtain ⟨x0, x1, x2, x3, x4, x5, x6, x7, x8, x9, x10, x11⟩ := HX2.out.cells
  have hl2 := HX2.out.lt
  simp only at x0 x1 x2 x3 x4 x5 x6 x7 x8 x9 x10 x11
  have KB : Hid (∀ wx, Below w2.heap.size w2 wx → (Below w2.heap.size w2 wx ∧ wx.cell? ⟨w.heap.size, 2, none⟩ = some (.string al) ∧ wx.cell? ⟨w.heap.size, 3, none⟩ = some (.int .i64 ao) ∧ wx.cell? ⟨w.heap.size, 4, none⟩ = some (.int .i64 sm) ∧ wx.cell? ⟨w.heap.size, 5, none⟩ = some (.int .i64 sw) ∧ wx.cell? ⟨w.heap.size, 6, none⟩ = some (.int .i64 sd) ∧ wx.cell? ⟨w.heap.size, 7, none⟩ = some (.int .i64 st) ∧ wx.cell? ⟨w.heap.size, 8, none⟩ = some (.int .i64 em) ∧ wx.cell? ⟨w.heap.size, 9, none⟩ = some (.int .i64 ew) ∧ wx.cell? ⟨w.heap.size, 10, none⟩ = some (.int .i64 ed) ∧ wx.cell? ⟨w.heap.size, 11, none⟩ = some (.int .i64 et))) := by
    show ∀ wx, Below w2.heap.size w2 wx → _
    intro wx hb
    obtain ⟨y0, y1, y2, y3, y4, y5, y6, y7, y8, y9, y10, y11⟩ := (HX2.out.below hb).cells
    exact ⟨hb, y2, y3, y4, y5, y6, y7, y8, y9, y10, y11⟩
  have KR : Hid (∀ wx, (Below w2.heap.size w2 wx ∧ wx.cell? ⟨w.heap.size, 2, none⟩ = some (.string al) ∧ wx.cell? ⟨w.heap.size, 3, none⟩ = some (.int .i64 ao) ∧ wx.cell? ⟨w.heap.size, 4, none⟩ = some (.int .i64 sm) ∧ wx.cell? ⟨w.heap.size, 5, none⟩ = some (.int .i64 sw) ∧ wx.cell? ⟨w.heap.size, 6, none⟩ = some (.int .i64 sd) ∧ wx.cell? ⟨w.heap.size, 7, none⟩ = some (.int .i64 st) ∧ wx.cell? ⟨w.heap.size, 8, none⟩ = some (.int .i64 em) ∧ wx.cell? ⟨w.heap.size, 9, none⟩ = some (.int .i64 ew) ∧ wx.cell? ⟨w.heap.size, 10, none⟩ = some (.int .i64 ed) ∧ wx.cell? ⟨w.heap.size, 11, none⟩ = some (.int .i64 et)) → Below w2.heap.size w2 wx) := by
    show ∀ wx, _ → Below w2.heap.size w2 wx
    exact fun wx h => h.1
  have KT : Hid (∀ wx, Below w2.heap.size w2 wx → Tab10 wx) := by
    show ∀ wx, Below w2.heap.size w2 wx → Tab10 wx
    exact fun wx h => HT.out.below (HB2.out.trans (h.mono HB2.out.size))
  go_upto_region 6 with fail
  have r1 := fun W => run_string_add_sum (P := Tryd.prog) W B C (by omega)
  have r2 := fun W => run_string_add_sum (P := Tryd.prog) W (B ++ C) D (by simp only [ByteArray.size_append]; omega)
  have r3 := fun W => run_string_add_sum (P := Tryd.prog) W A (B ++ C ++ D) (by simp only [ByteArray.size_append]; omega)
  clear hA hB hC hD
  go_cut [5] (fun s5 wx => s5 = .string (A ++ (B ++ C ++ D)) ∧ Below w2.heap.size w2 wx)
  case first =>
    go_region_held3 (fun wx => Below w2.heap.size w2 wx ∧ wx.cell? ⟨w.heap.size, 2, none⟩ = some (.string al) ∧ wx.cell? ⟨w.heap.size, 3, none⟩ = some (.int .i64 ao) ∧ wx.cell? ⟨w.heap.size, 4, none⟩ = some (.int .i64 sm) ∧ wx.cell? ⟨w.heap.size, 5, none⟩ = some (.int .i64 sw) ∧ wx.cell? ⟨w.heap.size, 6, none⟩ = some (.int .i64 sd) ∧ wx.cell? ⟨w.heap.size, 7, none⟩ = some (.int .i64 st) ∧ wx.cell? ⟨w.heap.size, 8, none⟩ = some (.int .i64 em) ∧ wx.cell? ⟨w.heap.size, 9, none⟩ = some (.int .i64 ew) ∧ wx.cell? ⟨w.heap.size, 10, none⟩ = some (.int .i64 ed) ∧ wx.cell? ⟨w.heap.size, 11, none⟩ = some (.int .i64 et)) ((refine KB.out _ ?_; repeat (first | (with_reducible assumption) | (with_reducible exact Below.refl _ _) | (with_reducible refine Below.drew ?_))))
      (first
        | (go_at_call 51; refine (HT2.out _ (KT.out _ (KR.out _ (by assumption)))).mono ?_; rintro e w3 ⟨rfl, hb3⟩; have hB3 := ((KR.out _ (by assumption)).trans (hb3.mono (KR.out _ (by assumption)).size)); clear hb3)
        | (go_at_call_of 52 (Value.agg #[.int .i64 sm, .int .i64 sw, .int .i64 sd, .int .i64 st]); refine (HR1.out _ (KT.out _ (KR.out _ (by assumption)))).mono ?_; rintro e w4 ⟨rfl, hb4⟩; have hB4 := ((KR.out _ (by assumption)).trans (hb4.mono (KR.out _ (by assumption)).size)); clear hb4)
        | (go_at_call_of 52 (Value.agg #[.int .i64 em, .int .i64 ew, .int .i64 ed, .int .i64 et]); refine (HR2.out _ (KT.out _ (KR.out _ (by assumption)))).mono ?_; rintro e w5 ⟨rfl, hb5⟩; have hB5 := ((KR.out _ (by assumption)).trans (hb5.mono (KR.out _ (by assumption)).size)); clear hb5))
    all_goals go_wp2_with fail
    all_goals go_meet
    all_goals exact ⟨rfl, KR.out _ (by assumption)⟩
  case rest =>
    obtain ⟨rfl, hbc⟩ := hcut
    have HZ := Lib.hid (HB2.out.trans (hbc.mono HB2.out.size))
    clear hbc r1 r2 r3
    go_wp2
    go_ret2
    exact ⟨ret_v (by rw [HP.out]; rfl), HZ.out⟩

/-! the closed fact -/
def sumP : Px := ⟨⟨#[67, 69, 84]⟩, 3600, ⟨#[67, 69, 83, 84]⟩, 7200, ⟨3, 5, 0, 7200⟩, ⟨10, 5, 0, 10800⟩⟩
theorem sum_also : sumP.also.toList ≠ [] := by rw [ByteArray.toList_eq]; decide
theorem sum_chk : pxChk sumP = 0 := by
  have h1 : wordB sumP.name = true := by decide
  have h2 : wordB sumP.also = true := by decide
  unfold pxChk
  rw [if_neg (by rw [h1]; decide), if_neg (fun h => by rw [h2] at h; exact absurd h.2 (by decide)), if_neg (by decide), if_neg sum_also, if_neg (by decide), if_neg (by decide), if_neg (by decide), if_neg (by decide)]
theorem sum_text : pxText sumP = ⟨#[67, 69, 84, 45, 49, 58, 48, 48, 67, 69, 83, 84, 45, 50, 58, 48, 48, 44, 77, 51, 46, 53, 46, 48, 47, 50, 58, 48, 48, 44, 77, 49, 48, 46, 53, 46, 48, 47, 51, 58, 48, 48]⟩ := by
  have e1 : Lib.itoa (3600 / 3600) = [49] := itoa_small (by decide) (by decide)
  have e2 : Lib.itoa (7200 / 3600) = [50] := itoa_small (by decide) (by decide)
  have e3 : Lib.itoa (10800 / 3600) = [51] := itoa_small (by decide) (by decide)
  have e4 : Lib.itoa 3 = [51] := itoa_small (by decide) (by decide)
  have e5 : Lib.itoa 5 = [53] := itoa_small (by decide) (by decide)
  have e6 : Lib.itoa 0 = [48] := itoa_small (by decide) (by decide)
  have e7 : Lib.itoa 10 = [49, 48] := by
    unfold Lib.itoa
    rw [if_neg (by omega), Lib.decDigits, dif_neg (by omega), Lib.decDigits, dif_pos (by omega)]
    decide
  have s1 : spanT (-3600) = [45, 49, 58, 48, 48] := by unfold spanT spanP; rw [if_pos (by decide), Int.neg_neg, e1]; decide
  have s2 : spanT (-7200) = [45, 50, 58, 48, 48] := by unfold spanT spanP; rw [if_pos (by decide), Int.neg_neg, e2]; decide
  have s3 : spanT 7200 = [50, 58, 48, 48] := by unfold spanT spanP; rw [if_neg (by decide), e2]; decide
  have s4 : spanT 10800 = [51, 58, 48, 48] := by unfold spanT spanP; rw [if_neg (by decide), e3]; decide
  have r1 : riteT sumP.s = [44, 77, 51, 46, 53, 46, 48, 47, 50, 58, 48, 48] := by
    unfold riteT
    show [44, 77] ++ (Lib.itoa 3 ++ ([46] ++ (Lib.itoa 5 ++ ([46] ++ (Lib.itoa 0 ++ ([47] ++ spanT 7200)))))) = _
    rw [e4, e5, e6, s3]; rfl
  have r2 : riteT sumP.e = [44, 77, 49, 48, 46, 53, 46, 48, 47, 51, 58, 48, 48] := by
    unfold riteT
    show [44, 77] ++ (Lib.itoa 10 ++ ([46] ++ (Lib.itoa 5 ++ ([46] ++ (Lib.itoa 0 ++ ([47] ++ spanT 10800)))))) = _
    rw [e7, e5, e6, s4]; rfl
  unfold pxText
  rw [r1, r2]
  show (⟨#[67, 69, 84]⟩ : ByteArray) ++ txt (spanT (-3600)) ++ ((⟨#[67, 69, 83, 84]⟩ : ByteArray) ++ txt (spanT (-7200)) ++ _ ++ _) = _
  rw [s1, s2]
  decide
theorem sum_at : riteR sumP 1793581200 = atV 3600 false ⟨#[67, 69, 84]⟩ 0 := by
  have hs : sumB sumP 1793581200 = false := by decide
  unfold riteR
  rw [if_neg (by rw [sum_chk]; decide), if_neg (by decide), if_neg sum_also, if_neg (by rw [hs]; decide)]
  rfl
theorem summers_any (w : World) : Calls Tryd.prog 32 #[] w fun e w' => e = .returned (pxV sumP) ∧ Below w.heap.size w w' := by
  go_enter Tryd.func32, Tryd.ntmps32
  go_wp2
  refine bodyPost_ret (v := pxV sumP) (by simp [results, Tryd.results32, go_sem, sumP]) rfl ⟨rfl, ?_⟩
  repeat (first | (with_reducible exact Below.refl _ _) | (with_reducible refine Below.drew ?_) | (with_reducible refine Below.alloc ?_ (by go_size) _) | (with_reducible refine Below.setCell ?_ (by go_size) _))

theorem rited_any (w : World) (ht : Tab10 w) : Calls Tryd.prog 14 #[] w fun e w' => e = .returned (.bool true) ∧ Below w.heap.size w w' := by
  have HT := Lib.hid ht
  have HX := Lib.hid (fun W (hb : Tab10 W) => Text_ok sumP W sum_chk sum_also hb)
  have HA := Lib.hid (fun W (hb : Tab10 W) => At_any sumP 1793581200 W (by decide) (by decide) (by decide) (by decide) hb)
  rw [sum_text] at HX
  rw [sum_at] at HA
  clear ht
  go_enter Tryd.func14, Tryd.ntmps14
  go_wp2_with fail
  refine (summers_any _).mono ?_
  rintro e w1 ⟨rfl, hb1⟩
  have HB1 := Lib.hid hb1
  clear hb1
  go_wp2_with fail
  refine (HX.out _ (HT.out.below HB1.out)).mono ?_
  rintro e w2 ⟨rfl, hb2⟩
  have HB2 := Lib.hid (HB1.out.trans (hb2.mono HB1.out.size))
  clear hb2
  go_wp2_with fail
  refine (summers_any _).mono ?_
  rintro e w3 ⟨rfl, hb3⟩
  have HB3 := Lib.hid (HB2.out.trans (hb3.mono HB2.out.size))
  clear hb3
  go_wp2_with fail
  refine (HA.out _ (HT.out.below HB3.out)).mono ?_
  rintro e w4 ⟨rfl, hb4⟩
  have HB4 := Lib.hid (HB3.out.trans (hb4.mono HB3.out.size))
  clear hb4
  go_wp2
  go_ret
  exact ⟨rfl, HB4.out.alloc (by have := HB4.out.size; omega) _⟩
end Go.Proofs.YtmjakhageehcoaaDoor
