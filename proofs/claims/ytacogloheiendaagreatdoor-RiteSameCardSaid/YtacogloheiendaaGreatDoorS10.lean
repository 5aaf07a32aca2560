/- rite.Text: what it returns; the closed fact 'rited'. rite.Book: what it answers, whatever it is asked. RiteSame: rite.At and state.At say the same: plain. timeballref.Rest. BookEq of two empty books. sort.Search (at a function that leaves what lay below), table.Of, table.At, wall.check, wall.Local: what each returns. state: slices.IndexFunc of turns; Which; Within. (Turned).At: which type it is at a time of an era. -/
import Derived.Test.YtacogloheiendaaGreatDoorS09
import Derived.Test.YtacogloheiendaaGreatDoorS08
import Derived.Test.YtacogloheiendaaGreatDoorS02
import Derived.Test.YtacogloheiendaaGreatDoorS01
import Derived.Test.YtacogloheiendaaGreatDoorS07
import Derived.Deep.LoopGhost
import Derived.RegionTactic
import Derived.ChangeAlike
import Derived.BigRegion
import Derived.Sort.Walk0
import Derived.Test.YtacogloheiendaaGreatDoorS03
import Derived.StillTailTactics
namespace Go.Proofs.YtacogloheiendaaGreatDoor
open Go.RowKit Go.Joins
set_option linter.unusedVariables false
set_option linter.unusedSimpArgs false

theorem riteT_len {r : Rt} (h : okRt r = true) : (riteT r).length ≤ 21 := by
  obtain ⟨a1, a2, a3, a4, a5, a6, a7, a8⟩ := okRt_iff.1 h
  have l1 := itoa_len (n := r.m) (by omega) (by omega)
  have l2 := itoa_len (n := r.w) (by omega) (by omega)
  have l3 := itoa_len (n := r.d) (by omega) (by omega)
  have l4 := span_len (n := r.t) (by omega) (by omega)
  unfold riteT
  simp only [List.length_append, List.length_cons, List.length_nil]
  omega
theorem word_size {s : ByteArray} (h : wordB s = true) : s.size ≤ 8 := by
  unfold wordB at h
  simp only [Bool.and_eq_true] at h
  exact (abbr_ascii h.2.1).2
theorem px_word {p : Px} (h : pxChk p = 0) : wordB p.name = true := by
  unfold pxChk at h
  split at h
  · omega
  · rename_i h1; simpa using h1
theorem px_word2 {p : Px} (h : pxChk p = 0) (ha : p.also.toList ≠ []) : wordB p.also = true := by
  unfold pxChk at h
  split at h
  · omega
  split at h
  · omega
  · rename_i h1; simpa [ha] using h1

def pxText (p : Px) : ByteArray := p.name ++ txt (spanT (-p.off)) ++ (p.also ++ txt (spanT (-p.aoff)) ++ txt (riteT p.s) ++ txt (riteT p.e))

set_option maxRecDepth 100000 in
set_option maxHeartbeats 4000000 in
theorem Text_ok (p : Px) (w : World) (h : pxChk p = 0) (ha : p.also.toList ≠ []) (ht : Tab10 w) :
    Calls Tryz.prog 12 #[pxV p] w fun e w' => e = .returned (.tuple #[.string (pxText p), .int .i64 0]) ∧ Below w.heap.size w w' := by
  obtain ⟨W0, eW⟩ : ∃ W0, w.alloc (.cells (pxCells p) 25) = W0 := ⟨_, rfl⟩
  have HX : Hid (PxBx W0 w.heap.size p) := by show PxBx _ _ _; rw [← eW]; exact PxBx.box w p
  have HB : Hid (Below w.heap.size w W0) := by show Below _ _ _; rw [← eW]; exact (Below.refl _ _).alloc (Nat.le_refl _) _
  have HEW := Lib.hid eW
  have w1 := word_size (px_word h)
  have w2 := word_size (px_word2 h ha)
  have ok := px_ok h ha
  have o1 := ok.o1; have o2 := ok.o2; have o3 := ok.a1; have o4 := ok.a2
  have HC := Lib.hid (fun W => rCheck_any p W (by unfold maxLen; omega) (by unfold maxLen; omega))
  rw [h] at HC
  have HT1 := Lib.hid (fun W (hb : Tab10 W) => text_any p.name p.off W (by omega) (by omega) (by omega) hb)
  have HT2 := Lib.hid (fun W (hb : Tab10 W) => text_any p.also p.aoff W (by omega) (by omega) (by omega) hb)
  have HR1 := Lib.hid (fun W (hb : Tab10 W) => riteText_any p.s W ok.s hb)
  have HR2 := Lib.hid (fun W (hb : Tab10 W) => riteText_any p.e W ok.e hb)
  have l1 := span_len (n := -p.off) (by omega) (by omega)
  have l2 := span_len (n := -p.aoff) (by omega) (by omega)
  have l3 := riteT_len ok.s
  have l4 := riteT_len ok.e
  have HT := Lib.hid ht
  obtain ⟨A, eA⟩ : ∃ A, p.name ++ txt (spanT (-p.off)) = A := ⟨_, rfl⟩
  obtain ⟨B, eB⟩ : ∃ A, p.also ++ txt (spanT (-p.aoff)) = A := ⟨_, rfl⟩
  obtain ⟨C, eC⟩ : ∃ A, txt (riteT p.s) = A := ⟨_, rfl⟩
  obtain ⟨D, eD⟩ : ∃ A, txt (riteT p.e) = A := ⟨_, rfl⟩
  have HP : Hid (pxText p = A ++ (B ++ C ++ D)) := by show _ = _; unfold pxText; rw [eA, eB, eC, eD]
  have hA : A.size ≤ 18 := by rw [← eA, ByteArray.size_append, txt_size]; omega
  have hB : B.size ≤ 18 := by rw [← eB, ByteArray.size_append, txt_size]; omega
  have hC : C.size ≤ 21 := by rw [← eC, txt_size]; omega
  have hD : D.size ≤ 21 := by rw [← eD, txt_size]; omega
  rw [eA] at HT1
  rw [eB] at HT2
  rw [eC] at HR1
  rw [eD] at HR2
  have ha2 : p.also.toList.isEmpty = false := by simpa using ha
  obtain ⟨nm, off, al, ao, ⟨sm, sw, sd, st⟩, ⟨em, ew, ed, et⟩⟩ := p
  obtain ⟨x0, x1, x2, x3, x4, x5, x6, x7, x8, x9, x10, x11⟩ := HX.out.cells
  have hl0 := HX.out.lt
  simp only at x0 x1 x2 x3 x4 x5 x6 x7 x8 x9 x10 x11 ha ha2 HT1 HT2 HR1 HR2
  clear eW eA eB eC eD w1 w2 ok o1 o2 o3 o4 l1 l2 l3 l4 ht h
  go_enter Tryz.func12, Tryz.ntmps12
  go_wp2_with fail
  rw [HEW.out]
  refine (HC.out _).mono ?_
  rintro e w1 ⟨rfl, hb1⟩
  have HX1 := Lib.hid (HX.out.below hb1)
  have HB1 := Lib.hid (HB.out.trans (hb1.mono HB.out.size))
  clear hb1 HX HB x0 x1 x2 x3 x4 x5 x6 x7 x8 x9 x10 x11 hl0
  obtain ⟨x0, x1, x2, x3, x4, x5, x6, x7, x8, x9, x10, x11⟩ := HX1.out.cells
  have hl1 := HX1.out.lt
  simp only at x0 x1 x2 x3 x4 x5 x6 x7 x8 x9 x10 x11
  go_wp2_with fail
  refine (HT1.out _ (HT.out.below HB1.out)).mono ?_
  rintro e w2 ⟨rfl, hb2⟩
  have HX2 := Lib.hid (HX1.out.below hb2)
  have HB2 := Lib.hid (HB1.out.trans (hb2.mono HB1.out.size))
  clear hb2 HX1 HB1 x0 x1 x2 x3 x4 x5 x6 x7 x8 x9 x10 x11 hl1
  obtain ⟨x0, x1, x2, x3, x4, x5, x6, x7, x8, x9, x10, x11⟩ := HX2.out.cells
  have hl2 := HX2.out.lt
  simp only at x0 x1 x2 x3 x4 x5 x6 x7 x8 x9 x10 x11
  have KB : Hid (∀ wx, Below w2.heap.size w2 wx → (Below w2.heap.size w2 wx ∧ wx.cell? ⟨w.heap.size, 2, none⟩ = some (.string al) ∧ wx.cell? ⟨w.heap.size, 3, none⟩ = some (.int .i64 ao) ∧ wx.cell? ⟨w.heap.size, 4, none⟩ = some (.int .i64 sm) ∧ wx.cell? ⟨w.heap.size, 5, none⟩ = some (.int .i64 sw) ∧ wx.cell? ⟨w.heap.size, 6, none⟩ = some (.int .i64 sd) ∧ wx.cell? ⟨w.heap.size, 7, none⟩ = some (.int .i64 st) ∧ wx.cell? ⟨w.heap.size, 8, none⟩ = some (.int .i64 em) ∧ wx.cell? ⟨w.heap.size, 9, none⟩ = some (.int .i64 ew) ∧ wx.cell? ⟨w.heap.size, 10, none⟩ = some (.int .i64 ed) ∧ wx.cell? ⟨w.heap.size, 11, none⟩ = some (.int .i64 et))) := by
    show ∀ wx, Below w2.heap.size w2 wx → _
    intro wx hb
    obtain ⟨y0, y1, y2, y3, y4, y5, y6, y7, y8, y9, y10, y11⟩ := (HX2.out.below hb).cells
    exact ⟨hb, y2, y3, y4, y5, y6, y7, y8, y9, y10, y11⟩
  have KR : Hid (∀ wx, (Below w2.heap.size w2 wx ∧ wx.cell? ⟨w.heap.size, 2, none⟩ = some (.string al) ∧ wx.cell? ⟨w.heap.size, 3, none⟩ = some (.int .i64 ao) ∧ wx.cell? ⟨w.heap.size, 4, none⟩ = some (.int .i64 sm) ∧ wx.cell? ⟨w.heap.size, 5, none⟩ = some (.int .i64 sw) ∧ wx.cell? ⟨w.heap.size, 6, none⟩ = some (.int .i64 sd) ∧ wx.cell? ⟨w.heap.size, 7, none⟩ = some (.int .i64 st) ∧ wx.cell? ⟨w.heap.size, 8, none⟩ = some (.int .i64 em) ∧ wx.cell? ⟨w.heap.size, 9, none⟩ = some (.int .i64 ew) ∧ wx.cell? ⟨w.heap.size, 10, none⟩ = some (.int .i64 ed) ∧ wx.cell? ⟨w.heap.size, 11, none⟩ = some (.int .i64 et)) → Below w2.heap.size w2 wx) := by
    show ∀ wx, _ → Below w2.heap.size w2 wx
    exact fun wx h => h.1
  have KT : Hid (∀ wx, Below w2.heap.size w2 wx → Tab10 wx) := by
    show ∀ wx, Below w2.heap.size w2 wx → Tab10 wx
    exact fun wx h => HT.out.below (HB2.out.trans (h.mono HB2.out.size))
  go_upto_region 6 with fail
  have r1 := fun W => run_string_add_sum (P := Tryz.prog) W B C (by omega)
  have r2 := fun W => run_string_add_sum (P := Tryz.prog) W (B ++ C) D (by simp only [ByteArray.size_append]; omega)
  have r3 := fun W => run_string_add_sum (P := Tryz.prog) W A (B ++ C ++ D) (by simp only [ByteArray.size_append]; omega)
  clear hA hB hC hD
  go_cut [5] (fun s5 wx => s5 = .string (A ++ (B ++ C ++ D)) ∧ Below w2.heap.size w2 wx)
  case first =>
    go_region_held3 (fun wx => Below w2.heap.size w2 wx ∧ wx.cell? ⟨w.heap.size, 2, none⟩ = some (.string al) ∧ wx.cell? ⟨w.heap.size, 3, none⟩ = some (.int .i64 ao) ∧ wx.cell? ⟨w.heap.size, 4, none⟩ = some (.int .i64 sm) ∧ wx.cell? ⟨w.heap.size, 5, none⟩ = some (.int .i64 sw) ∧ wx.cell? ⟨w.heap.size, 6, none⟩ = some (.int .i64 sd) ∧ wx.cell? ⟨w.heap.size, 7, none⟩ = some (.int .i64 st) ∧ wx.cell? ⟨w.heap.size, 8, none⟩ = some (.int .i64 em) ∧ wx.cell? ⟨w.heap.size, 9, none⟩ = some (.int .i64 ew) ∧ wx.cell? ⟨w.heap.size, 10, none⟩ = some (.int .i64 ed) ∧ wx.cell? ⟨w.heap.size, 11, none⟩ = some (.int .i64 et)) ((refine KB.out _ ?_; repeat (first | (with_reducible assumption) | (with_reducible exact Below.refl _ _) | (with_reducible refine Below.drew ?_))))
      (first
        | (go_at_call 35; refine (HT2.out _ (KT.out _ (KR.out _ (by assumption)))).mono ?_; rintro e w3 ⟨rfl, hb3⟩; have hB3 := ((KR.out _ (by assumption)).trans (hb3.mono (KR.out _ (by assumption)).size)); clear hb3)
        | (go_at_call_of 36 (Value.agg #[.int .i64 sm, .int .i64 sw, .int .i64 sd, .int .i64 st]); refine (HR1.out _ (KT.out _ (KR.out _ (by assumption)))).mono ?_; rintro e w4 ⟨rfl, hb4⟩; have hB4 := ((KR.out _ (by assumption)).trans (hb4.mono (KR.out _ (by assumption)).size)); clear hb4)
        | (go_at_call_of 36 (Value.agg #[.int .i64 em, .int .i64 ew, .int .i64 ed, .int .i64 et]); refine (HR2.out _ (KT.out _ (KR.out _ (by assumption)))).mono ?_; rintro e w5 ⟨rfl, hb5⟩; have hB5 := ((KR.out _ (by assumption)).trans (hb5.mono (KR.out _ (by assumption)).size)); clear hb5))
    all_goals go_wp2_with fail
    all_goals go_meet
    all_goals exact ⟨rfl, KR.out _ (by assumption)⟩
  case rest =>
    obtain ⟨rfl, hbc⟩ := hcut
    have HZ := Lib.hid (HB2.out.trans (hbc.mono HB2.out.size))
    clear hbc r1 r2 r3
    go_wp2
    go_ret2
    exact ⟨ret_v (by rw [HP.out]; rfl), HZ.out⟩

def sumP : Px := ⟨⟨#[67, 69, 84]⟩, 3600, ⟨#[67, 69, 83, 84]⟩, 7200, ⟨3, 5, 0, 7200⟩, ⟨10, 5, 0, 10800⟩⟩
theorem sum_also : sumP.also.toList ≠ [] := by rw [ByteArray.toList_eq]; decide
theorem sum_chk : pxChk sumP = 0 := by
  have h1 : wordB sumP.name = true := by decide
  have h2 : wordB sumP.also = true := by decide
  unfold pxChk
  rw [if_neg (by rw [h1]; decide), if_neg (fun h => by rw [h2] at h; exact absurd h.2 (by decide)), if_neg (by decide), if_neg sum_also, if_neg (by decide), if_neg (by decide), if_neg (by decide), if_neg (by decide)]
theorem sum_text : pxText sumP = ⟨#[67, 69, 84, 45, 49, 58, 48, 48, 67, 69, 83, 84, 45, 50, 58, 48, 48, 44, 77, 51, 46, 53, 46, 48, 47, 50, 58, 48, 48, 44, 77, 49, 48, 46, 53, 46, 48, 47, 51, 58, 48, 48]⟩ := by
  have e1 : Lib.itoa (3600 / 3600) = [49] := itoa_small (by decide) (by decide)
  have e2 : Lib.itoa (7200 / 3600) = [50] := itoa_small (by decide) (by decide)
  have e3 : Lib.itoa (10800 / 3600) = [51] := itoa_small (by decide) (by decide)
  have e4 : Lib.itoa 3 = [51] := itoa_small (by decide) (by decide)
  have e5 : Lib.itoa 5 = [53] := itoa_small (by decide) (by decide)
  have e6 : Lib.itoa 0 = [48] := itoa_small (by decide) (by decide)
  have e7 : Lib.itoa 10 = [49, 48] := by
    unfold Lib.itoa
    rw [if_neg (by omega), Lib.decDigits, dif_neg (by omega), Lib.decDigits, dif_pos (by omega)]
    decide
  have s1 : spanT (-3600) = [45, 49, 58, 48, 48] := by unfold spanT spanP; rw [if_pos (by decide), Int.neg_neg, e1]; decide
  have s2 : spanT (-7200) = [45, 50, 58, 48, 48] := by unfold spanT spanP; rw [if_pos (by decide), Int.neg_neg, e2]; decide
  have s3 : spanT 7200 = [50, 58, 48, 48] := by unfold spanT spanP; rw [if_neg (by decide), e2]; decide
  have s4 : spanT 10800 = [51, 58, 48, 48] := by unfold spanT spanP; rw [if_neg (by decide), e3]; decide
  have r1 : riteT sumP.s = [44, 77, 51, 46, 53, 46, 48, 47, 50, 58, 48, 48] := by
    unfold riteT
    show [44, 77] ++ (Lib.itoa 3 ++ ([46] ++ (Lib.itoa 5 ++ ([46] ++ (Lib.itoa 0 ++ ([47] ++ spanT 7200)))))) = _
    rw [e4, e5, e6, s3]; rfl
  have r2 : riteT sumP.e = [44, 77, 49, 48, 46, 53, 46, 48, 47, 51, 58, 48, 48] := by
    unfold riteT
    show [44, 77] ++ (Lib.itoa 10 ++ ([46] ++ (Lib.itoa 5 ++ ([46] ++ (Lib.itoa 0 ++ ([47] ++ spanT 10800)))))) = _
    rw [e7, e5, e6, s4]; rfl
  unfold pxText
  rw [r1, r2]
  show (⟨#[67, 69, 84]⟩ : ByteArray) ++ txt (spanT (-3600)) ++ ((⟨#[67, 69, 83, 84]⟩ : ByteArray) ++ txt (spanT (-7200)) ++ _ ++ _) = _
  rw [s1, s2]
  decide
theorem sum_at : riteR sumP 1793581200 = atV 3600 false ⟨#[67, 69, 84]⟩ 0 := by
  have hs : sumB sumP 1793581200 = false := by decide
  unfold riteR
  rw [if_neg (by rw [sum_chk]; decide), if_neg (by decide), if_neg sum_also, if_neg (by rw [hs]; decide)]
  rfl
theorem summers_any (w : World) : Calls Tryz.prog 13 #[] w fun e w' => e = .returned (pxV sumP) ∧ Below w.heap.size w w' := by
  go_enter Tryz.func13, Tryz.ntmps13
  go_wp2
  refine bodyPost_ret (v := pxV sumP) (by simp [results, Tryz.results13, go_sem, sumP]) rfl ⟨rfl, ?_⟩
  repeat (first | (with_reducible exact Below.refl _ _) | (with_reducible refine Below.drew ?_) | (with_reducible refine Below.alloc ?_ (by go_size) _) | (with_reducible refine Below.setCell ?_ (by go_size) _))

theorem rited_any (w : World) (ht : Tab10 w) : Calls Tryz.prog 4 #[] w fun e w' => e = .returned (.bool true) ∧ Below w.heap.size w w' := by
  have HT := Lib.hid ht
  have HX := Lib.hid (fun W (hb : Tab10 W) => Text_ok sumP W sum_chk sum_also hb)
  have HA := Lib.hid (fun W (hb : Tab10 W) => At_any sumP 1793581200 W (by decide) (by decide) (by decide) (by decide) hb)
  rw [sum_text] at HX
  rw [sum_at] at HA
  clear ht
  go_enter Tryz.func4, Tryz.ntmps4
  go_wp2_with fail
  refine (summers_any _).mono ?_
  rintro e w1 ⟨rfl, hb1⟩
  have HB1 := Lib.hid hb1
  clear hb1
  go_wp2_with fail
  refine (HX.out _ (HT.out.below HB1.out)).mono ?_
  rintro e w2 ⟨rfl, hb2⟩
  have HB2 := Lib.hid (HB1.out.trans (hb2.mono HB1.out.size))
  clear hb2
  go_wp2_with fail
  refine (summers_any _).mono ?_
  rintro e w3 ⟨rfl, hb3⟩
  have HB3 := Lib.hid (HB2.out.trans (hb3.mono HB2.out.size))
  clear hb3
  go_wp2_with fail
  refine (HA.out _ (HT.out.below HB3.out)).mono ?_
  rintro e w4 ⟨rfl, hb4⟩
  have HB4 := Lib.hid (HB3.out.trans (hb4.mono HB3.out.size))
  clear hb4
  go_wp2
  go_ret
  exact ⟨rfl, HB4.out.alloc (by have := HB4.out.size; omega) _⟩
end Go.Proofs.YtacogloheiendaaGreatDoor
namespace Go.Proofs.YtacogloheiendaaGreatDoor
open Go.RowKit Go.Joins
open Classical
set_option linter.unusedVariables false
set_option linter.unusedSimpArgs false

theorem RtBook_any (p : Px) (nm : ByteArray) (f t : Int) (w : World) (h1 : p.name.size ≤ maxLen) (h2 : p.also.size ≤ maxLen) (hs : nm.size ≤ 140737488351232) (f1 : 1900 ≤ f) (f2 : f ≤ t) (f3 : t ≤ 2100) :
    Calls Tryz.prog 6 #[pxV p, .string nm, .int .i64 f, .int .i64 t] w fun e w' => Below w.heap.size w w' ∧ ((∃ C : Int, C ≠ 0 ∧ e = .returned (.tuple #[.agg #[.slice none 0 0, .slice none 0 0, .slice none 0 0], .int .i64 C])) ∨
      (pxChk p = 0 ∧ nameB nm = true ∧ (p.also.toList ≠ [] → p.name.size + p.also.size ≤ 11) ∧ ∃ rv zv ev, e = .returned (.tuple #[.agg #[rv, zv, .slice none 0 0], .int .i64 0]) ∧ BookAt w'.heap.size w' rv zv (.slice none 0 0) (rsBk p nm ev f t))) := by
  by_cases hE : rbE p nm = 0
  · have hp : pxChk p = 0 := Classical.byContradiction fun g => by
      unfold rbE at hE
      rw [if_pos g] at hE
      exact g hE
    have hn : nameB nm = true := by
      cases e : nameB nm with
      | true => rfl
      | false =>
        unfold rbE at hE
        rw [if_neg (by omega), if_pos e] at hE
        exact absurd hE (by decide)
    have z1 := word_size (px_word hp)
    obtain ⟨o1, o2⟩ := px_off hp
    by_cases ha : p.also.toList = []
    · refine (RtBook_one p nm f t w h1 h2 hs hp hn f1 f2 f3 ha (by omega) o1 o2).mono ?_
      rintro e w' ⟨hb, rv, zv, ev, rfl, hB⟩
      exact ⟨hb, .inr ⟨hp, hn, fun g => absurd ha g, rv, zv, ev, rfl, hB⟩⟩
    · have z2 := word_size (px_word2 hp ha)
      by_cases hl : p.name.size + 1 + p.also.size ≤ 12
      · refine (RtBook_two p nm f t w z1 z2 hs hp hn f1 f2 f3 ha hl (px_ok hp ha)).mono ?_
        rintro e w' ⟨hb, rv, zv, ev, rfl, hB⟩
        exact ⟨hb, .inr ⟨hp, hn, fun _ => by omega, rv, zv, ev, rfl, hB⟩⟩
      · refine (RtBook_large p nm f t w z1 z2 hs hp hn f1 f2 f3 ha (by omega)).mono ?_
        rintro e w' ⟨rfl, hb⟩
        exact ⟨hb, .inl ⟨2, by decide, rfl⟩⟩
  · refine (RtBook_bad p nm f t w h1 h2 (by simp only [maxLen]; omega) hE).mono ?_
    rintro e w' ⟨rfl, hb⟩
    exact ⟨hb, .inl ⟨_, hE, rfl⟩⟩
end Go.Proofs.YtacogloheiendaaGreatDoor
namespace Go.Proofs.YtacogloheiendaaGreatDoor
open Go.RowKit Go.Joins Go.Maps
open Classical
set_option linter.unusedVariables false
set_option linter.unusedSimpArgs false

/-- the year by its own clock -/
theorem rs_year (p : Px) (f t x : Int) (o1 : -64800 ≤ p.off) (o2 : p.off ≤ 64800) (f1 : 1900 ≤ f) (f2 : f + 1 ≤ t) (f3 : t ≤ 2100) (x1 : 86400 * Civ.jan1 (f + 1) ≤ x) (x2 : x < 86400 * Civ.jan1 t) :
    f ≤ yOf p x ∧ yOf p x ≤ t ∧ 86400 * Civ.jan1 (yOf p x) ≤ x + p.off ∧ x + p.off < 86400 * Civ.jan1 (yOf p x + 1) ∧ stampE x = 0 ∧ okSt x = true ∧ okSt (x + p.off) = true := by
  have j1 := Civ.jan1_mono (show (1600 : Int) ≤ f by omega)
  have j2 := Civ.jan1_mono (show t + 1 ≤ (2400 : Int) by omega)
  have j3 := Civ.jan1_lt (show t < t + 1 by omega)
  have j4 := Civ.jan1_lt (show f < f + 1 by omega)
  have l1 := Civ.lp01 t
  have l2 := Civ.lp01 f
  rw [Civ.jan1_1600] at j1
  rw [Civ.jan1_2400] at j2
  obtain ⟨n, en⟩ : ∃ n, (x + p.off) / 86400 = n := ⟨_, rfl⟩
  have n1 : Civ.jan1 (f + 1) - 1 ≤ n := by omega
  have n2 : n ≤ Civ.jan1 t := by omega
  obtain ⟨hv, hd⟩ := Civ.date_valid n (by omega) (by omega)
  obtain ⟨v1, v2, v3, v4, v5, v6⟩ := hv
  have e := Civ.days_eq (Civ.yy n) (Civ.mm n) (Civ.dd n) v3 v4
  have b := Civ.cum_bd (Civ.yy n) (Civ.mm n) (Civ.dd n) v3 v4 v5 v6
  have s := Civ.jan1_succ (Civ.yy n)
  have eY : yOf p x = Civ.yy n := by unfold yOf; rw [en]
  rw [eY]
  have y1 : f ≤ Civ.yy n := by
    by_cases h : f ≤ Civ.yy n
    · exact h
    · have := Civ.jan1_mono (show Civ.yy n + 1 ≤ f by omega)
      omega
  have y2 : Civ.yy n ≤ t := by
    by_cases h : Civ.yy n ≤ t
    · exact h
    · have := Civ.jan1_mono (show t + 1 ≤ Civ.yy n by omega)
      omega
  refine ⟨y1, y2, by omega, by omega, ?_, okSt_iff.2 (by omega), okSt_iff.2 (by omega)⟩
  unfold stampE
  rw [if_pos (by omega)]
theorem word_abbr {s : ByteArray} (h : wordB s = true) : abbrB s = true := by
  unfold wordB at h
  simp only [Bool.and_eq_true] at h
  exact h.2.1
/-- both say the same -/
theorem rs_same (p : Px) (nm : ByteArray) (ev : Value) (f t x : Int) (hp : pxChk p = 0) (hn : nameB nm = true) (f1 : 1900 ≤ f) (f2 : f + 1 ≤ t) (f3 : t ≤ 2100) (x1 : 86400 * Civ.jan1 (f + 1) ≤ x) (x2 : x < 86400 * Civ.jan1 t)
    (hl : p.also.toList ≠ [] → p.name.size + p.also.size ≤ 11) (hw1 : wordB p.name = true) (hw2 : p.also.toList ≠ [] → wordB p.also = true) (o1 : -64800 ≤ p.off) (o2 : p.off ≤ 64800) (ok : p.also.toList ≠ [] → RsOk p) :
    bkChk (rsBk p nm ev f t) = 0 ∧ ∃ ty : Ty, riteR p x = atV ty.off ty.save ty.name 0 ∧ stR (rsBk p nm ev f t) nm x = (0, ty) := by
  obtain ⟨y1, y2, y3, y4, y5, y6, y7⟩ := rs_year p f t x o1 o2 f1 f2 f3 x1 x2
  have hr : riteR p x = if p.also.toList = [] then atV p.off false p.name 0 else if sumB p x = true then atV p.aoff true p.also 0 else atV p.off false p.name 0 := by
    unfold riteR
    rw [if_neg (by omega), if_neg (by rw [y6, y7]; simp)]
  rw [hr]
  by_cases ha : p.also.toList = []
  · obtain ⟨g1, g2⟩ := rs_one p nm ev f t x ha (word_abbr hw1) hn o1 o2 y5
    exact ⟨g1, ⟨p.off, false, p.name⟩, by rw [if_pos ha], g2⟩
  · have o := ok ha
    obtain ⟨g1, g2⟩ := rs_two p nm ev f t x (yOf p x) ha (word_abbr hw1) (word_abbr (hw2 ha)) (hl ha) hn o.ok f1 f3 (by omega)
    have g3 := g2 o y1 y2 y3 y4 x1 rfl y5
    refine ⟨g1, _, ?_, g3⟩
    rw [if_neg ha]
    by_cases hs : sumB p x = true
    · rw [if_pos hs, if_pos hs]
    · rw [if_neg hs, if_neg hs]
end Go.Proofs.YtacogloheiendaaGreatDoor
namespace Go.Proofs.YtacogloheiendaaGreatDoor
open Go.RowKit
set_option linter.unusedVariables false
set_option linter.unusedSimpArgs false

theorem rest0_neg (n m : Int) (h0 : 0 < m) (h1 : m ≤ 4611686018427387904) (h : n.tmod m < 0) : wrap64 (n.tmod m + m) = n % m := by
  have q := Int.tmod_eq_emod (a := n) (b := m)
  have := Int.emod_nonneg n (show m ≠ 0 by omega)
  have := Int.emod_lt_of_pos n h0
  have e : n.tmod m + m = n % m := by
    split at q
    · omega
    · have : (m.natAbs : Int) = m := by omega
      omega
  rw [e]
  exact IntWalk.wrap64_in _ ⟨by omega, by omega⟩

theorem rest0_pos (n m : Int) (h0 : 0 < m) (h : 0 ≤ n.tmod m) : n.tmod m = n % m := by
  have q := Int.tmod_eq_emod (a := n) (b := m)
  have := Int.emod_lt_of_pos n h0
  split at q
  · omega
  · have : (m.natAbs : Int) = m := by omega
    omega
theorem ret_int0 {k : IntKind} {a b : Int} (h : a = b) : Ending.returned (.int k a) = .returned (.int k b) := by rw [h]
theorem Rest0_any (n m : Int) (w : World) (h0 : 0 < m) (h1 : m ≤ 1099511627776) :
    Calls Tryz.prog 5 #[.int .i64 n, .int .i64 m] w fun e w' => e = .returned (.int .i64 (n % m)) ∧ w = w' := by
  have hh : m ≤ 4611686018427387904 := by omega
  go_enter Tryz.func5, Tryz.ntmps5
  go_wp2
  · go_ret
    exact ⟨ret_int0 (rest0_neg n m h0 hh (by assumption)), rfl⟩
  · go_ret
    exact ⟨ret_int0 (rest0_pos n m h0 (by assumption)), rfl⟩
end Go.Proofs.YtacogloheiendaaGreatDoor
namespace Go.Proofs.YtacogloheiendaaGreatDoor
open Go.RowKit Go.Joins
open Classical
set_option linter.unusedVariables false
set_option linter.unusedSimpArgs false

theorem EqRule_nil (w : World) : Calls Tryz.prog 18 #[.slice none 0 0, .slice none 0 0] w fun e w' => e = .returned (.bool true) ∧ w = w' := by
  go_enter Tryz.func18, Tryz.ntmps18
  go_wp2
  go_loop [14] (fun i => i = .int .i64 0) (fun _ => 0)
  case atStart => rfl
  case round =>
    subst hrel
    go_wp2
    go_ret
    exact ⟨rfl, rfl⟩
theorem EqLink_nil (w : World) : Calls Tryz.prog 19 #[.slice none 0 0, .slice none 0 0] w fun e w' => e = .returned (.bool true) ∧ w = w' := by
  go_enter Tryz.func19, Tryz.ntmps19
  go_wp2
  go_loop [14] (fun i => i = .int .i64 0) (fun _ => 0)
  case atStart => rfl
  case round =>
    subst hrel
    go_wp2
    go_ret
    exact ⟨rfl, rfl⟩
set_option maxRecDepth 100000 in
theorem BookEq_none (w : World) : Calls Tryz.prog 7 #[.agg #[.slice none 0 0, .slice none 0 0, .slice none 0 0], .agg #[.slice none 0 0, .slice none 0 0, .slice none 0 0]] w fun e w' => e = .returned (.bool true) ∧ Below w.heap.size w w' := by
  go_enter Tryz.func7, Tryz.ntmps7
  go_wp2_with fail
  refine (EqRule_nil _).mono ?_
  rintro e w' ⟨rfl, rfl⟩
  go_wp2_with fail
  refine (EqLink_nil _).mono ?_
  rintro e w' ⟨rfl, rfl⟩
  go_wp2
  go_loop [32] (fun i => i = .int .i64 0) (fun _ => 0)
  case atStart => rfl
  case round =>
    subst hrel
    go_wp2
    go_ret
    exact ⟨rfl, ((Below.refl _ _).alloc (Nat.le_refl _) _).alloc (by simp) _⟩
end Go.Proofs.YtacogloheiendaaGreatDoor
namespace Go.Proofs.YtacogloheiendaaGreatDoor
open Go.RowKit
set_option linter.unusedVariables false
set_option linter.unusedSimpArgs false

set_option maxHeartbeats 4000000 in
theorem Search_any (g : Nat) (cb : Array Value) (n : Nat) (p : Nat → Bool) (w : World) (eg : ∀ args w, (callFunc g args).run Tryz.prog w = .ok (.enter g args) w) (hsz : n < 4611686018427387904)
    (hf : ∀ (W : World) (i : Nat), Below w.heap.size w W → i < n → Calls Tryz.prog g (#[.int .i64 i] ++ cb) W fun e w' => e = .returned (.bool (p i)) ∧ Below W.heap.size W w')
    (hmono : ∀ a b, a ≤ b → b < n → p a = true → p b = true) :
    Calls Tryz.prog 50 #[.int .i64 n, .func (.func g) #[] cb] w fun e w' => e = .returned (.int .i64 (cntF p n : Nat)) ∧ Below w.heap.size w w' := by
  have HF := Lib.hid hf
  have M := Lib.hid hmono
  clear hf hmono
  obtain ⟨cnt, hcnt⟩ : ∃ cnt, cntF p n = cnt := ⟨_, rfl⟩
  rw [hcnt]
  have CN := Lib.hid hcnt
  clear hcnt
  go_enter Tryz.func50, Tryz.ntmps50
  go_wp2
  go_loopg [5, 6] n (fun kx s5 s6 wr => ∃ (lo hi : Nat), s5 = .int .i64 lo ∧ s6 = .int .i64 hi ∧ lo ≤ hi ∧ hi ≤ n ∧ hi - lo ≤ kx ∧ Below w.heap.size w wr ∧
    Hid ((∀ t, t < lo → p t = false) ∧ (∀ t, hi ≤ t → t < n → p t = true)))
  case atStart => exact ⟨0, n, rfl, rfl, Nat.zero_le _, Nat.le_refl _, by omega, Below.refl _ _, (⟨fun t ht => absurd ht (Nat.not_lt_zero _), fun t h1 h2 => by omega⟩ : (∀ t, t < 0 → p t = false) ∧ (∀ t, n ≤ t → t < n → p t = true))⟩
  case round =>
    obtain ⟨lo, hi, rfl, rfl, hlh, hin, hg, hbel, I⟩ := hrel
    by_cases hlt : lo < hi
    · have hc := HF.out wr ((lo + hi) / 2) hbel (by omega)
      rw [show (((lo + hi) / 2 : Nat) : Int) = ((lo : Int) + (hi : Int)) / 2 by omega] at hc
      have HB := Lib.hid hbel
      clear hbel
      cases hp : p ((lo + hi) / 2) <;> rw [hp] at hc
      · have HP := Lib.hid hp
        clear hp
        go_wp2_with (go_at_fn g; refine hc.mono ?_; rintro e w' ⟨rfl, hb2⟩)
        go_roundg (hi - ((lo + hi) / 2 + 1))
        case measure => omega
        case rel =>
          have I2 : Hid ((∀ t, t < (lo + hi) / 2 + 1 → p t = false) ∧ (∀ t, hi ≤ t → t < n → p t = true)) := ⟨fun t ht => (by
            cases h : p t with
            | false => rfl
            | true => have := M.out t ((lo + hi) / 2) (by omega) (by omega) h; rw [HP.out] at this; cases this), I.out.2⟩
          exact ⟨(lo + hi) / 2 + 1, hi, by rw [show ((lo : Int) + (hi : Int)) / 2 + 1 = (((lo + hi) / 2 + 1 : Nat) : Int) by omega], rfl, by omega, hin, Nat.le_refl _, HB.out.trans (hb2.mono HB.out.size), I2⟩
      · have HP := Lib.hid hp
        clear hp
        go_wp2_with (go_at_fn g; refine hc.mono ?_; rintro e w' ⟨rfl, hb2⟩)
        go_roundg ((lo + hi) / 2 - lo)
        case measure => omega
        case rel =>
          have I2 : Hid ((∀ t, t < lo → p t = false) ∧ (∀ t, (lo + hi) / 2 ≤ t → t < n → p t = true)) := ⟨I.out.1, fun t ht htn => M.out ((lo + hi) / 2) t ht htn HP.out⟩
          exact ⟨lo, (lo + hi) / 2, rfl, by rw [show ((lo : Int) + (hi : Int)) / 2 = (((lo + hi) / 2 : Nat) : Int) by omega], by omega, by omega, Nat.le_refl _, HB.out.trans (hb2.mono HB.out.size), I2⟩
    · obtain rfl : hi = lo := by omega
      have ecnt : cnt = hi := by rw [← CN.out]; exact cntF_boundary p n hi hin I.out.1 I.out.2
      subst ecnt
      go_wp2
      go_ret
      exact ⟨rfl, hbel⟩

end Go.Proofs.YtacogloheiendaaGreatDoor
namespace Go.Proofs.YtacogloheiendaaGreatDoor
open Go.RowKit Go.Joins
open Classical
set_option linter.unusedVariables false
set_option linter.unusedSimpArgs false

def idxF {α : Type} (p : α → Bool) (l : List α) : Int := if l.any p = true then (l.findIdx p : Nat) else -1
theorem idxF_no {α : Type} (p : α → Bool) (l : List α) (h : l.any p = false) : idxF p l = -1 := by unfold idxF; rw [if_neg (by rw [h]; simp)]
theorem idxF_hit {α : Type} (p : α → Bool) (l : List α) (k : Nat) (hk : k < l.length) (h : (l.take k).any p = false) (hp : p l[k] = true) : idxF p l = (k : Nat) := by
  unfold idxF
  rw [if_pos (any_hit p l k hk hp)]
  congr 1
  rw [List.findIdx_eq hk]
  refine ⟨hp, fun j hj => ?_⟩
  rw [List.any_eq_false] at h
  have := h l[j] (List.mem_take_iff_getElem.2 ⟨j, by omega, rfl⟩)
  simpa using this

set_option maxRecDepth 100000 in
set_option maxHeartbeats 4000000 in
theorem idxTn_any (l : List Tn) (v : Value) (g : Nat) (cb : Array Value) (p : Tn → Bool) (w : World) (eg : ∀ args w, (callFunc g args).run Tryz.prog w = .ok (.enter g args) w) (hv : RowsAt tnC 3 w.heap.size w v l)
    (hp : ∀ W, Below w.heap.size w W → ∀ x ∈ l, Calls Tryz.prog g (#[.agg (tnC x).toArray] ++ cb) W fun e w' => e = .returned (.bool (p x)) ∧ Below W.heap.size W w') :
    Calls Tryz.prog 53 #[v, .func (.func g) #[] cb] w fun e w' => e = .returned (.int .i64 (idxF p l)) ∧ Below w.heap.size w w' := by
  have HP := Lib.hid hp
  have HHIT := Lib.hid (fun k hk h1 h2 => idxF_hit p l k hk h1 h2)
  have HNO := Lib.hid (idxF_no p l)
  obtain ⟨R, eR⟩ : ∃ R, idxF p l = R := ⟨_, rfl⟩
  rw [eR] at HHIT HNO ⊢
  clear eR
  obtain ⟨pp, cap, rfl, hlen, hrow⟩ := hv
  have HRow := Lib.hid hrow
  clear hp hrow
  go_enter Tryz.func53, Tryz.ntmps53
  go_wp2_with fail
  go_loopw [8] (fun i wr => ∃ k : Nat, k ≤ l.length ∧ i = .int .i64 k ∧ Hid (Below w.heap.size w wr) ∧ Hid ((l.take k).any p = false)) (fun i _ => l.length - (intOf i).toNat)
  case atStart => exact ⟨0, Nat.zero_le _, rfl, Lib.hid (Below.refl _ _), Lib.hid rfl⟩
  case round =>
    obtain ⟨k, hk, rfl, HB, HA⟩ := hrel
    have hzr := HB.out.size
    by_cases hlt : k < l.length
    · obtain ⟨b, o, rfl, hbl, hcs⟩ := HRow.out (List.ne_nil_of_length_pos (by omega))
      have hck := hcs k hlt
      have hc := HP.out wr HB.out l[k] (List.getElem_mem hlt)
      have HST := Lib.hid (fun h => any_step p l k hlt HA.out h)
      have HHT := Lib.hid (fun h => HHIT.out k hlt HA.out h)
      obtain ⟨q, eq⟩ : ∃ q, l[k] = q := ⟨_, rfl⟩
      rw [eq] at hck hc HST HHT
      clear eq hcs
      obtain ⟨pv, epv⟩ : ∃ pv, p q = pv := ⟨_, rfl⟩
      rw [epv] at hc HST HHT
      clear epv
      obtain ⟨a, s, lt⟩ := q
      have up : ∀ j u, w.cell? ⟨b, o + k * 3 + j, none⟩ = some u → wr.cell? ⟨b, o + k * 3 + j, none⟩ = some u := fun j u h => (HB.out.cell (p := ⟨b, o + k * 3 + j, none⟩) hbl).trans h
      have z0 := up 0 _ (hck 0 _ rfl)
      have z1 := up 1 _ (hck 1 _ rfl)
      have z2 := up 2 _ (hck 2 _ rfl)
      rw [Nat.add_zero] at z0
      have HC := Lib.hid hc
      clear up hck hc
      cases pv with
      | true =>
        have HT := Lib.hid (HHT.out (by first | rfl | trivial))
        go_wp2_with (go_at_fn g; refine HC.out.mono ?_; rintro e w' ⟨rfl, hb⟩; have HB2 := Lib.hid (HB.out.trans (hb.mono HB.out.size)); clear hb)
        go_ret
        exact ⟨ret_E HT.out.symm, HB2.out⟩
      | false =>
        go_wp2_with (go_at_fn g; refine HC.out.mono ?_; rintro e w' ⟨rfl, hb⟩; have HB2 := Lib.hid (HB.out.trans (hb.mono HB.out.size)); clear hb)
        go_roundw
        case rel => exact ⟨k + 1, by omega, by go_num, HB2, Lib.hid (HST.out (by first | rfl | trivial))⟩
        case measure => simp [intOf]; omega
    · have hkl : ¬ (k : Int) < (l.length : Int) := by omega
      have HT : Hid (R = -1) := by
        show _ = _
        have := HA.out
        rw [List.take_of_length_le (by omega)] at this
        exact HNO.out this
      go_wp2_with fail
      go_ret
      exact ⟨ret_E HT.out.symm, HB.out⟩

set_option maxHeartbeats 1000000 in
theorem Eras1_any (x : Tn) (W : World) : Calls Tryz.prog 54 (#[.agg (tnC x).toArray] ++ #[]) W fun e w' => e = .returned (.bool (decide (x.s = 0))) ∧ Below W.heap.size W w' := by
  obtain ⟨a, s, lt⟩ := x
  show Calls _ _ #[.agg #[.int .i64 a, .int .i64 s, .string lt]] W _
  go_enter Tryz.func54, Tryz.ntmps54
  go_wp2
  go_ret
  exact ⟨rfl, (Below.refl _ _).alloc (Nat.le_refl _) _⟩
/-- the first turn that saves nothing -/
theorem IdxTn_any (l : List Tn) (v : Value) (w : World) (hv : RowsAt tnC 3 w.heap.size w v l) :
    Calls Tryz.prog 53 #[v, .func (.func 54) #[] #[]] w fun e w' => e = .returned (.int .i64 (idxF (fun u : Tn => decide (u.s = 0)) l)) ∧ Below w.heap.size w w' :=
  idxTn_any l v 54 #[] _ w (enters_of Tryz.func54 (by kernel_rfl) rfl) hv fun W _ x _ => Eras1_any x W

set_option maxHeartbeats 1000000 in
theorem Which1_any (bl bt b o n cap : Nat) (x y : Int) (i : Nat) (W : World) (hi : i < n)
    (hl : W.cell? ⟨bl, 0, none⟩ = some (.slice (some ⟨b, o, none⟩) n cap)) (hx : W.cell? ⟨bt, 0, none⟩ = some (.int .i64 x)) (hc : W.cell? ⟨b, o + i * 5 + 4, none⟩ = some (.int .i64 y)) :
    Calls Tryz.prog 51 (#[.int .i64 i] ++ #[.pointer (some ⟨bl, 0, none⟩), .pointer (some ⟨bt, 0, none⟩)]) W fun e w' => e = .returned (.bool (decide (x < y))) ∧ Below W.heap.size W w' := by
  have hiz : (i : Int) < (n : Int) := by omega
  go_enter Tryz.func51, Tryz.ntmps51
  go_wp2
  go_quiet (fail)
  go_wp2
  go_ret
  exact ⟨rfl, below_drewN' (Below.refl _ _) _⟩
set_option maxHeartbeats 2000000 in
theorem Which_any {rules : List Ru} (l : List Er) (v : Value) (t : Int) (B : Nat) (w : World) (hv : RowsAt (fun x : Er => (erCells x).toList) 5 B w v l) (hB : B ≤ w.heap.size) (ho : ErasOk rules l) :
    Calls Tryz.prog 29 #[v, .int .i64 t] w fun e w' => e = .returned (.int .i64 (whichF l t : Nat)) ∧ Below w.heap.size w w' := by
  obtain ⟨p, cap, rfl, ⟨hl, hlc⟩, hat⟩ := hv
  obtain ⟨b, o, rfl, hbl, hcs⟩ := hat ho.ne
  have hp : 0 < l.length := List.length_pos_iff.2 ho.ne
  obtain ⟨W0, hW0⟩ : ∃ W0, (w.alloc (.cells #[.slice (some ⟨b, o, none⟩) l.length cap] 60)).alloc (.cells #[.int .i64 t] 3) = W0 := ⟨_, rfl⟩
  have hB0 : Below w.heap.size w W0 := by rw [← hW0]; exact ((Below.refl _ w).alloc (Nat.le_refl _) _).alloc (by simp) _
  have hS0 : W0.heap.size = w.heap.size + 2 := by rw [← hW0]; simp
  have q0 : W0.cell? ⟨w.heap.size, 0, none⟩ = some (.slice (some ⟨b, o, none⟩) l.length cap) := by rw [← hW0]; simp [go_sem]
  have qx : W0.cell? ⟨w.heap.size + 1, 0, none⟩ = some (.int .i64 t) := by rw [← hW0]; simp [go_sem]
  have eg : ∀ args w, (callFunc 51 args).run Tryz.prog w = .ok (.enter 51 args) w := enters_of Tryz.func51 (by kernel_rfl) rfl
  have hS := Search_any 51 #[.pointer (some ⟨w.heap.size, 0, none⟩), .pointer (some ⟨w.heap.size + 1, 0, none⟩)] (l.length - 1) (fun i => decide (t < (eraAt l i).un)) W0 eg (by omega)
    (fun W i hbW hi => Which1_any w.heap.size (w.heap.size + 1) b o l.length cap t (eraAt l i).un i W (by omega) ((hbW.cell (by show w.heap.size < _; omega)).trans q0) ((hbW.cell (by show w.heap.size + 1 < _; omega)).trans qx)
      ((hbW.cell (by show b < _; omega)).trans ((hB0.cell (by show b < _; omega)).trans (by rw [eraAt_in l i (by omega)]; exact hcs i (by omega) 4 _ rfl))))
    (which_mono ho t)
  have hcd : cntF (fun i => decide (t < (eraAt l i).un)) (l.length - 1) = whichF l t := rfl
  rw [hcd] at hS
  have HS := Lib.hid hS
  have HW0 := Lib.hid hW0
  have HB0 := Lib.hid hB0
  have hcast : ((l.length - 1 : Nat) : Int) = (l.length : Int) - 1 := by omega
  rw [hcast] at HS
  have p1 : IntKind.i64.wrap ((l.length : Int) - 1) = (l.length : Int) - 1 := IntWalk.i64_in _ (by omega)
  obtain ⟨c, hc⟩ : ∃ c, whichF l t = c := ⟨_, rfl⟩
  rw [hc] at HS ⊢
  clear hS hW0 hB0 hat hcs eg hcd hcast hc
  go_enter Tryz.func29, Tryz.ntmps29
  go_wp2_with fail
  rw [HW0.out]
  refine HS.out.mono ?_
  rintro e w1 ⟨rfl, hb1⟩
  go_wp2
  go_ret
  exact ⟨rfl, HB0.out.trans (hb1.mono HB0.out.size)⟩
end Go.Proofs.YtacogloheiendaaGreatDoor
namespace Go.Proofs.YtacogloheiendaaGreatDoor
open Go.RowKit Go.Joins
open Classical
set_option linter.unusedVariables false
set_option linter.unusedSimpArgs false

abbrev tdCells (x : Td) (tv : Value) : Array Value := #[.int .i64 x.er.off, .string x.er.ru, .int .i64 x.er.sv, .string x.er.fm, .int .i64 x.er.un, tv, .string x.fst]
set_option maxHeartbeats 1000000 in
theorem TdAt1_any (bx bt b o n cap : Nat) (t y : Int) (i : Nat) (W : World) (hi : i < n)
    (hl : W.cell? ⟨bx, 5, none⟩ = some (.slice (some ⟨b, o, none⟩) n cap)) (hx : W.cell? ⟨bt, 0, none⟩ = some (.int .i64 t)) (hc : W.cell? ⟨b, o + i * 3, none⟩ = some (.int .i64 y)) :
    Calls Tryz.prog 55 (#[.int .i64 i] ++ #[.pointer (some ⟨bx, 0, none⟩), .pointer (some ⟨bt, 0, none⟩)]) W fun e w' => e = .returned (.bool (decide (t < y))) ∧ Below W.heap.size W w' := by
  have hiz : (i : Int) < (n : Int) := by omega
  go_enter Tryz.func55, Tryz.ntmps55
  go_wp2
  go_quiet (fail)
  go_wp2
  go_ret
  exact ⟨rfl, below_drewN' (Below.refl _ _) _⟩
theorem end_three {W : World} {rb : Nat} {a b c : Value} {T : TypeId} (h : W.heap[rb]? = some (.cells #[a, b, c] T (0, 0))) (x y z : Value) :
    ∃ W', ((W.setCell ⟨rb, 0, none⟩ x).setCell ⟨rb, 1, none⟩ y).setCell ⟨rb, 2, none⟩ z = W' ∧ W'.heap[rb]? = some (.cells #[x, y, z] T (0, 0)) ∧ ∀ B, B ≤ rb → Below B W W' := by
  refine ⟨_, rfl, ?_, fun B hB => (((Below.refl _ _).setCell hB _).setCell hB _).setCell hB _⟩
  simp [World.setCell, Array.getElem?_modify, h]
theorem ret_ty {a b : Ty} (h : a = b) : Ending.returned (tyV a) = .returned (tyV b) := by rw [h]

set_option maxRecDepth 100000 in
set_option maxHeartbeats 8000000 in
theorem TdAt_any (x : Td) (tv : Value) (t : Int) (w : World) (hr : RowsAt tnC 3 w.heap.size w tv x.ts) (hrise : Rises x.ts) (ho1 : -100000 ≤ x.er.off) (ho2 : x.er.off ≤ 100000) (hf : x.er.fm.size ≤ 140737488351232) (hl : (svT x t).2.size ≤ 140737488351232) (hs1 : 0 ≤ (svT x t).1) (hs2 : (svT x t).1 ≤ 10800) (hm : MaxLen w) (hlen : x.ts.length ≤ 100000) :
    Calls Tryz.prog 31 #[.agg (tdCells x tv), .int .i64 t] w fun e w' => e = .returned (tyV (tdTy x t)) ∧ Below w.heap.size w w' := by
  obtain ⟨p, cap, rfl, -, hat⟩ := hr
  obtain ⟨W0, hW0⟩ : ∃ W0, ((w.alloc (.cells (tdCells x (.slice p x.ts.length cap)) 86)).alloc (.cells #[.int .i64 t] 3)).alloc (.cells #[.int .i64 0, .bool false, .string ⟨#[]⟩] 41) = W0 := ⟨_, rfl⟩
  have hB0 : Below w.heap.size w W0 := by rw [← hW0]; exact (((Below.refl _ w).alloc (Nat.le_refl _) _).alloc (by simp) _).alloc (by simp; omega) _
  have hS0 : W0.heap.size = w.heap.size + 3 := by rw [← hW0]; simp
  have hx0 : W0.heap[w.heap.size]? = some (.cells (tdCells x (.slice p x.ts.length cap)) 86 (0, 0)) := by
    rw [← hW0, Below.heap_alloc _ _ _ (by simp; omega), Below.heap_alloc _ _ _ (by simp)]
    exact heap_alloc_new w _
  have hx1 : W0.heap[w.heap.size + 1]? = some (.cells #[.int .i64 t] 3 (0, 0)) := by
    rw [← hW0, Below.heap_alloc _ _ _ (by simp)]
    exact alloc_at _ _ _ (by simp)
  have hx2 : W0.heap[w.heap.size + 1 + 1]? = some (.cells #[.int .i64 0, .bool false, .string ⟨#[]⟩] 41 (0, 0)) := by
    rw [← hW0]
    exact alloc_at _ _ _ (by simp)
  have eg : ∀ args w, (callFunc 55 args).run Tryz.prog w = .ok (.enter 55 args) w := enters_of Tryz.func55 (by kernel_rfl) rfl
  have q5 : W0.cell? ⟨w.heap.size, 5, none⟩ = some (.slice p x.ts.length cap) := (cell_of_row W0 _ 5 _ _ _ hx0).trans rfl
  have qt : W0.cell? ⟨w.heap.size + 1, 0, none⟩ = some (.int .i64 t) := (cell_of_row W0 _ 0 _ _ _ hx1).trans rfl
  have hS : ∀ W1, Below W0.heap.size W0 W1 → Calls Tryz.prog 50 #[.int .i64 x.ts.length, .func (.func 55) #[] #[.pointer (some ⟨w.heap.size, 0, none⟩), .pointer (some ⟨w.heap.size + 1, 0, none⟩)]] W1 fun e w' => e = .returned (.int .i64 (cntT x.ts t : Nat)) ∧ Below W1.heap.size W1 w' := by
    intro W1 hb1
    refine Search_any 55 #[.pointer (some ⟨w.heap.size, 0, none⟩), .pointer (some ⟨w.heap.size + 1, 0, none⟩)] x.ts.length (fun i => decide (t < tnA x.ts i)) W1 eg (by omega) (fun W i hbW hi => ?_) (cntT_mono hrise t)
    obtain ⟨b, o, e, hbl, hcs⟩ := hat (List.ne_nil_of_length_pos (by omega))
    have hbW2 := hb1.trans (hbW.mono hb1.size)
    refine TdAt1_any w.heap.size (w.heap.size + 1) b o x.ts.length cap t (tnA x.ts i) i W hi ?_ ((hbW2.cell (by show w.heap.size + 1 < _; omega)).trans qt) ?_
    · rw [← e]; exact (hbW2.cell (by show w.heap.size < _; omega)).trans q5
    · rw [tnA_at _ i hi]
      exact (hbW2.cell (by show b < _; omega)).trans ((hB0.cell (by exact hbl)).trans (hcs i hi 0 _ rfl))
  have HS := Lib.hid hS
  have HW0 := Lib.hid hW0
  have HB0 := Lib.hid hB0
  have HX0 := Lib.hid hx0
  have HX2 := Lib.hid hx2
  have hle := cntT_le x.ts t
  have HAB : Hid (∀ W, Below w.heap.size w W → Calls Tryz.prog 56 #[.string x.er.fm, .int .i64 (svT x t).1, .string (svT x t).2] W fun e w' => e = .returned (.tuple #[.string (nmT x t), .int .i64 (abbrF x.er.fm.data.toList (svT x t).1 (svT x t).2.data.toList).2]) ∧ Below W.heap.size W w') := by
    show ∀ W, _
    intro W hb
    exact Abbr_any x.er.fm.data.toList (svT x t).2.data.toList (svT x t).1 W (by rw [← Lib.size_eq]; omega) (by rw [← Lib.size_eq]; omega) (hm.below hb)
  have HTY : Hid (∀ s n, s = (svT x t).1 → n = nmT x t → (⟨x.er.off + s, decide (0 < s), n⟩ : Ty) = tdTy x t) := by
    show ∀ s n, _
    rintro s n rfl rfl
    rfl
  have H0 := Lib.hid (fun h => svT_0 (x := x) (t := t) h)
  have H1 := Lib.hid (fun h => svT_s (x := x) (t := t) h)
  obtain ⟨c, hc⟩ : ∃ c, cntT x.ts t = c := ⟨_, rfl⟩
  rw [hc] at HS hle
  have HC := Lib.hid hc
  obtain ⟨s, es⟩ : ∃ s, (svT x t).1 = s := ⟨_, rfl⟩
  obtain ⟨l, el⟩ : ∃ l, (svT x t).2 = l := ⟨_, rfl⟩
  obtain ⟨nm, en⟩ : ∃ nm, nmT x t = nm := ⟨_, rfl⟩
  obtain ⟨T, eT⟩ : ∃ T, tdTy x t = T := ⟨_, rfl⟩
  obtain ⟨E, eE⟩ : ∃ E, (abbrF x.er.fm.data.toList (svT x t).1 (svT x t).2.data.toList).2 = E := ⟨_, rfl⟩
  rw [eE] at HAB
  rw [es, el, en] at HAB
  rw [es, en, eT] at HTY
  rw [es] at hs1 hs2
  rw [eT]
  have hSL : (svT x t) = (s, l) := by rw [← es, ← el]
  have HSL := Lib.hid hSL
  have HAT := Lib.hid hat
  clear hat hS hW0 hB0 hx0 hx2 hx1 eg q5 qt hc es el en eT eE hSL hl hrise hf
  obtain ⟨⟨off, ru, sv, fm, un⟩, ts, fst⟩ := x
  simp only at ho1 ho2 hlen hle HS HX0 HAB HTY H0 H1 HC HAT HW0 HSL ⊢
  have z0 : W0.cell? ⟨w.heap.size, 0, none⟩ = some (.int .i64 off) := (cell_of_row W0 _ 0 _ _ _ HX0.out).trans rfl
  have z2 : W0.cell? ⟨w.heap.size, 2, none⟩ = some (.int .i64 sv) := (cell_of_row W0 _ 2 _ _ _ HX0.out).trans rfl
  have z3 : W0.cell? ⟨w.heap.size, 3, none⟩ = some (.string fm) := (cell_of_row W0 _ 3 _ _ _ HX0.out).trans rfl
  have z5 : W0.cell? ⟨w.heap.size, 5, none⟩ = some (.slice p ts.length cap) := (cell_of_row W0 _ 5 _ _ _ HX0.out).trans rfl
  have z6 : W0.cell? ⟨w.heap.size, 6, none⟩ = some (.string fst) := (cell_of_row W0 _ 6 _ _ _ HX0.out).trans rfl
  go_enter Tryz.func31, Tryz.ntmps31
  go_upto_region 1 with fail
  rw [HW0.out]
  go_quiet (fail)
  go_wp2_with fail
  refine (HS.out _ (below_drewN' (Below.refl _ _) _)).mono ?_
  rintro e w1 ⟨rfl, hb1⟩
  have hb1' : Below W0.heap.size W0 w1 := (below_drewN' (Below.refl W0.heap.size W0) nq).trans (hb1.mono (Nat.le_refl _))
  have HB1 := Lib.hid (HB0.out.trans (hb1'.mono HB0.out.size))
  have hx0 := (hb1'.block w.heap.size (by omega)).trans HX0.out
  have hx2 := (hb1'.block (w.heap.size + 1 + 1) (by omega)).trans HX2.out
  have HY2 := Lib.hid hx2
  have y0 : w1.cell? ⟨w.heap.size, 0, none⟩ = some (.int .i64 off) := (cell_of_row w1 _ 0 _ _ _ hx0).trans rfl
  have y3 : w1.cell? ⟨w.heap.size, 3, none⟩ = some (.string fm) := (cell_of_row w1 _ 3 _ _ _ hx0).trans rfl
  have y5 : w1.cell? ⟨w.heap.size, 5, none⟩ = some (.slice p ts.length cap) := (cell_of_row w1 _ 5 _ _ _ hx0).trans rfl
  have HY0 := Lib.hid hx0
  have hs1z : w.heap.size + 2 < w1.heap.size := by have := hb1'.size; omega
  have p0 : IntKind.i64.wrap (off + s) = off + s := IntWalk.i64_in _ (by omega)
  clear hb1 hb1' hx0 hx2 z0 z2 z3 z5 z6 HS HX0 HX2
  have FIN : Hid (∀ (w2 : World), Below w1.heap.size w1 w2 → ∃ W9, ((w2.setCell ⟨w.heap.size + 1 + 1, 0, none⟩ (.int .i64 (off + s))).setCell ⟨w.heap.size + 1 + 1, 1, none⟩ (.bool (decide (0 < s)))).setCell ⟨w.heap.size + 1 + 1, 2, none⟩ (.string nm) = W9 ∧ W9.cell? ⟨w.heap.size + 1 + 1, 0, none⟩ = some (.int .i64 (off + s)) ∧ W9.cell? ⟨w.heap.size + 1 + 1, 1, none⟩ = some (.bool (decide (0 < s))) ∧ W9.cell? ⟨w.heap.size + 1 + 1, 2, none⟩ = some (.string nm) ∧ Below w.heap.size w W9) := by
    show ∀ w2, _
    intro w2 hb2
    obtain ⟨W9, e9, hh9, hb9⟩ := end_three ((hb2.block (w.heap.size + 1 + 1) (by omega)).trans HY2.out) (.int .i64 (off + s)) (.bool (decide (0 < s))) (.string nm)
    exact ⟨W9, e9, (cell_of_row W9 _ 0 _ _ _ hh9).trans rfl, (cell_of_row W9 _ 1 _ _ _ hh9).trans rfl, (cell_of_row W9 _ 2 _ _ _ hh9).trans rfl, (HB1.out.trans (hb2.mono HB1.out.size)).trans (hb9 _ (by omega))⟩
  have BOX : Hid (∀ (w2 : World), Below w1.heap.size w1 w2 → w2.cell? ⟨w.heap.size, 0, none⟩ = some (.int .i64 off) ∧ w2.cell? ⟨w.heap.size + 1 + 1, 0, none⟩ = some (.int .i64 0) ∧ w2.cell? ⟨w.heap.size + 1 + 1, 1, none⟩ = some (.bool false) ∧ w2.cell? ⟨w.heap.size + 1 + 1, 2, none⟩ = some (.string ⟨#[]⟩) ∧ (∀ o, w2.frozen? ⟨w.heap.size + 1 + 1, o, none⟩ = false)) := by
    show ∀ w2, _
    intro w2 hb2
    have h0 := (hb2.block w.heap.size (by omega)).trans HY0.out
    have h2 := (hb2.block (w.heap.size + 1 + 1) (by omega)).trans HY2.out
    exact ⟨(cell_of_row w2 _ 0 _ _ _ h0).trans rfl, (cell_of_row w2 _ 0 _ _ _ h2).trans rfl, (cell_of_row w2 _ 1 _ _ _ h2).trans rfl, (cell_of_row w2 _ 2 _ _ _ h2).trans rfl, fun o => by simp [World.frozen?, h2]⟩
  have HTT := Lib.hid (HTY.out s nm rfl rfl)
  cases c with
  | zero =>
    have hsl := (H0.out HC.out).symm.trans HSL.out
    injection hsl with e1 e2
    subst e1
    subst e2
    clear HAT H0 H1 HC HSL HTY
    go_wp2_with fail
    refine (HAB.out _ HB1.out).mono ?_
    rintro e w2 ⟨rfl, hb2⟩
    obtain ⟨g0, r0, r1, r2, rf⟩ := BOX.out w2 hb2
    have rf0 := rf 0
    have rf1 := rf 1
    have rf2 := rf 2
    have HF := Lib.hid (FIN.out w2 hb2)
    clear BOX FIN HAB rf y0 y3 y5
    go_wp2_with fail
    obtain ⟨W9, e9, v0, v1, v2, hb9⟩ := HF.out
    rw [e9]
    refine bodyPost_ret (v := .agg #[.int .i64 (off + sv), .bool (decide (0 < sv)), .string nm]) (by simp [results, Tryz.results31, go_sem, v0, v1, v2]) rfl ⟨?_, hb9⟩
    exact ret_ty HTT.out
  | succ c =>
    obtain ⟨hlt, hsl⟩ := H1.out (by rw [HC.out]; omega)
    have hci : cntT ts t - 1 = c := by rw [HC.out]; omega
    have hcl : c < ts.length := by omega
    have hsl2 : (ts[c].s, ts[c].lt) = (s, l) := by
      have h3 := hsl.symm.trans HSL.out
      simp only [hci] at h3
      exact h3
    injection hsl2 with e1 e2
    obtain ⟨b, o, rfl, hbl, hcs⟩ := HAT.out (List.ne_nil_of_length_pos (by omega))
    have k1 := (HB1.out.cell (p := ⟨b, o + c * 3 + 1, none⟩) hbl).trans (hcs c hcl 1 _ rfl)
    have k2 := (HB1.out.cell (p := ⟨b, o + c * 3 + 2, none⟩) hbl).trans (hcs c hcl 2 _ rfl)
    rw [e1] at k1
    rw [e2] at k2
    have p1 : IntKind.i64.wrap ((c : Int) + 1 - 1) = (c : Int) := by rw [show (c : Int) + 1 - 1 = c by omega]; exact IntWalk.i64_in _ (by omega)
    have p2 : (c : Int) < (ts.length : Int) := by omega
    clear hcs hsl e1 e2 hlt hci HAT H0 H1 HC HSL HTY
    rw [show ((c + 1 : Nat) : Int) = (c : Int) + 1 by omega]
    go_wp2_with fail
    go_quiet (fail)
    go_wp2_with fail
    refine (HAB.out _ (below_drewN' HB1.out _)).mono ?_
    rintro e w2 ⟨rfl, hb2⟩
    have hb2' : Below w1.heap.size w1 w2 := (below_drewN' (Below.refl w1.heap.size w1) _).trans (hb2.mono (Nat.le_refl _))
    obtain ⟨g0, r0, r1, r2, rf⟩ := BOX.out w2 hb2'
    have rf0 := rf 0
    have rf1 := rf 1
    have rf2 := rf 2
    have HF := Lib.hid (FIN.out w2 hb2')
    clear BOX FIN HAB rf y0 y3 y5 hb2 hb2'
    go_wp2_with fail
    obtain ⟨W9, e9, v0, v1, v2, hb9⟩ := HF.out
    rw [e9]
    refine bodyPost_ret (v := .agg #[.int .i64 (off + s), .bool (decide (0 < s)), .string nm]) (by simp [results, Tryz.results31, go_sem, v0, v1, v2]) rfl ⟨?_, hb9⟩
    exact ret_ty HTT.out
end Go.Proofs.YtacogloheiendaaGreatDoor
