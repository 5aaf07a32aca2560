/- rite.text, rite.riteText, rite.Text: what each returns; the closed fact 'rited'. -/
import Derived.Test.YtmjakhageehcoaaDoorRite4a
namespace Go.Proofs.YtmjakhageehcoaaDoor
open Go.RowKit Go.Joins
set_option linter.unusedVariables false
set_option linter.unusedSimpArgs false

theorem itoa_len {n : Int} (h0 : 0 ≤ n) (h1 : n < 100) : (Lib.itoa n).length ≤ 2 := by
  by_cases h : n < 10
  · rw [itoa_small h0 h]; simp
  · have : Lib.itoa n = T2 n := by
      unfold Lib.itoa
      rw [if_neg (by omega), Lib.decDigits, dif_neg (by omega), Lib.decDigits, dif_pos (by omega)]
      unfold T2
      rw [show (n / 10).toNat = n.toNat / 10 by omega, show (n % 10).toNat = n.toNat % 10 by omega]
      rfl
    rw [this]; simp [T2]
theorem itoa_lenC {n : Int} (h0 : 0 ≤ n) (h1 : n < 1000) : (Lib.itoa n).length ≤ 3 := by
  by_cases h : n < 100
  · have := itoa_len h0 h; omega
  · unfold Lib.itoa
    rw [if_neg (by omega), Lib.decDigits, dif_neg (by omega), Lib.decDigits, dif_neg (by omega), Lib.decDigits, dif_pos (by omega)]
    simp
theorem span_len {n : Int} (h0 : -604800 ≤ n) (h1 : n ≤ 604800) : (spanT n).length ≤ 10 := by
  unfold spanT spanP
  split
  · have := itoa_lenC (n := -n / 3600) (by omega) (by omega)
    simp only [List.length_cons, List.length_append, T2_length]
    split <;> simp [T2_length] <;> omega
  · have := itoa_lenC (n := n / 3600) (by omega) (by omega)
    simp only [List.length_cons, List.length_append, T2_length]
    split <;> simp [T2_length] <;> omega

theorem text_any (nm : ByteArray) (off : Int) (w : World) (hs : nm.size ≤ 100) (h0 : -604800 ≤ off) (h1 : off ≤ 604800) (ht : Tab10 w) :
    Calls Tryd.prog 51 #[.string nm, .int .i64 off] w fun e w' => e = .returned (.string (nm ++ txt (spanT (-off)))) ∧ Below w.heap.size w w' := by
  have HS := Lib.hid (fun W (hb : Tab10 W) => Span_ok (-off) W (by omega) (by omega) hb)
  have hl := span_len (n := -off) (by omega) (by omega)
  obtain ⟨Y, eY⟩ : ∃ Y, txt (spanT (-off)) = Y := ⟨_, rfl⟩
  have hY : Y.size ≤ 10 := by rw [← eY, txt_size]; exact hl
  rw [eY] at HS ⊢
  have HT := Lib.hid ht
  clear eY hl ht
  go_enter Tryd.func51, Tryd.ntmps51
  go_wp2_with fail
  refine (HS.out _ HT.out).mono ?_
  rintro e w1 ⟨rfl, hb1⟩
  have HB := Lib.hid hb1
  clear hb1
  go_wp2
  go_ret
  exact ⟨rfl, HB.out⟩

def riteT (r : Rt) : List UInt8 := [44, 77] ++ (Lib.itoa r.m ++ ([46] ++ (Lib.itoa r.w ++ ([46] ++ (Lib.itoa r.d ++ ([47] ++ spanT r.t))))))
theorem cat8 (a b c d : List UInt8) : (⟨#[44, 77]⟩ : ByteArray) ++ txt a ++ ⟨#[46]⟩ ++ txt b ++ ⟨#[46]⟩ ++ txt c ++ ⟨#[47]⟩ ++ txt d = txt ([44, 77] ++ (a ++ ([46] ++ (b ++ ([46] ++ (c ++ ([47] ++ d))))))) := by
  rw [show (⟨#[46]⟩ : ByteArray) = txt [46] from rfl, show (⟨#[47]⟩ : ByteArray) = txt [47] from rfl, show (⟨#[44, 77]⟩ : ByteArray) = txt [44, 77] from rfl]
  simp only [txt_append]
  simp

set_option maxRecDepth 100000 in
set_option maxHeartbeats 4000000 in
theorem riteText_any (r : Rt) (w : World) (h : okRt r = true) (ht : Tab10 w) :
    Calls Tryd.prog 52 #[rtV r] w fun e w' => e = .returned (.string (txt (riteT r))) ∧ Below w.heap.size w w' := by
  obtain ⟨a1, a2, a3, a4, a5, a6, a7, a8⟩ := okRt_iff.1 h
  have HS := Lib.hid (fun W (hb : Tab10 W) => Span_ok r.t W (by omega) (by omega) hb)
  have H1 := Lib.hid (fun W (hb : Tab10 W) => itoa_text r.m W (by omega) (by omega) hb)
  have H2 := Lib.hid (fun W (hb : Tab10 W) => itoa_text r.w W (by omega) (by omega) hb)
  have H3 := Lib.hid (fun W (hb : Tab10 W) => itoa_text r.d W (by omega) (by omega) hb)
  have l1 := itoa_len (n := r.m) (by omega) (by omega)
  have l2 := itoa_len (n := r.w) (by omega) (by omega)
  have l3 := itoa_len (n := r.d) (by omega) (by omega)
  have l4 := span_len (n := r.t) (by omega) (by omega)
  have hE : txt (riteT r) = (⟨#[44, 77]⟩ : ByteArray) ++ txt (Lib.itoa r.m) ++ ⟨#[46]⟩ ++ txt (Lib.itoa r.w) ++ ⟨#[46]⟩ ++ txt (Lib.itoa r.d) ++ ⟨#[47]⟩ ++ txt (spanT r.t) := by rw [cat8]; rfl
  obtain ⟨M, eM⟩ : ∃ Y, txt (Lib.itoa r.m) = Y := ⟨_, rfl⟩
  obtain ⟨K, eK⟩ : ∃ Y, txt (Lib.itoa r.w) = Y := ⟨_, rfl⟩
  obtain ⟨D, eD⟩ : ∃ Y, txt (Lib.itoa r.d) = Y := ⟨_, rfl⟩
  obtain ⟨S, eS⟩ : ∃ Y, txt (spanT r.t) = Y := ⟨_, rfl⟩
  have hM : M.size ≤ 2 := by rw [← eM, txt_size]; exact l1
  have hK : K.size ≤ 2 := by rw [← eK, txt_size]; exact l2
  have hD : D.size ≤ 2 := by rw [← eD, txt_size]; exact l3
  have hS : S.size ≤ 10 := by rw [← eS, txt_size]; exact l4
  rw [eM, eK, eD, eS] at hE
  rw [eM] at H1
  rw [eK] at H2
  rw [eD] at H3
  rw [eS] at HS
  have HE := Lib.hid hE
  have HT := Lib.hid ht
  clear eM eK eD eS l1 l2 l3 l4 hE ht h a1 a2 a3 a4 a5 a6 a7 a8
  obtain ⟨m, k, d, t⟩ := r
  simp only at H1 H2 H3 HS
  obtain ⟨W0, eW⟩ : ∃ W0, w.alloc (.cells #[.int .i64 m, .int .i64 k, .int .i64 d, .int .i64 t] 49) = W0 := ⟨_, rfl⟩
  have h0 : W0.heap[w.heap.size]? = some (.cells #[.int .i64 m, .int .i64 k, .int .i64 d, .int .i64 t] 49 (0, 0)) := by rw [← eW]; exact heap_alloc_new w _
  have hb0 : Below w.heap.size w W0 := by rw [← eW]; exact (Below.refl _ _).alloc (Nat.le_refl _) _
  have c3 : W0.cell? ⟨w.heap.size, 3, none⟩ = some (.int .i64 t) := (cell_of_row W0 _ 3 _ _ _ h0).trans rfl
  have hl0 := (Array.getElem?_eq_some_iff.mp h0).1
  have HEW := Lib.hid eW
  have HB0 := Lib.hid hb0
  have H0 := Lib.hid h0
  clear eW hb0 h0
  go_enter Tryd.func52, Tryd.ntmps52
  go_wp2_with fail
  rw [HEW.out]
  refine (HS.out _ (HT.out.below HB0.out)).mono ?_
  rintro e w1 ⟨rfl, hb1⟩
  have G1 := Lib.hid ((hb1.block _ hl0).trans H0.out)
  have HB1 := Lib.hid (HB0.out.trans (hb1.mono HB0.out.size))
  have hl1 := (Array.getElem?_eq_some_iff.mp G1.out).1
  clear hb1 H0 HB0 c3 hl0
  have KB : Hid (∀ wx, Below w1.heap.size w1 wx → (Below w1.heap.size w1 wx ∧ wx.cell? ⟨w.heap.size, 0, none⟩ = some (.int .i64 m) ∧ wx.cell? ⟨w.heap.size, 1, none⟩ = some (.int .i64 k) ∧ wx.cell? ⟨w.heap.size, 2, none⟩ = some (.int .i64 d))) := by
    show ∀ wx, Below w1.heap.size w1 wx → _
    intro wx hb
    have g := (hb.block _ hl1).trans G1.out
    exact ⟨hb, (cell_of_row wx _ 0 _ _ _ g).trans rfl, (cell_of_row wx _ 1 _ _ _ g).trans rfl, (cell_of_row wx _ 2 _ _ _ g).trans rfl⟩
  have KR : Hid (∀ wx, (Below w1.heap.size w1 wx ∧ wx.cell? ⟨w.heap.size, 0, none⟩ = some (.int .i64 m) ∧ wx.cell? ⟨w.heap.size, 1, none⟩ = some (.int .i64 k) ∧ wx.cell? ⟨w.heap.size, 2, none⟩ = some (.int .i64 d)) → Below w1.heap.size w1 wx) := by
    show ∀ wx, _ → Below w1.heap.size w1 wx
    exact fun wx h => h.1
  have KT : Hid (∀ wx, Below w1.heap.size w1 wx → Tab10 wx) := by
    show ∀ wx, Below w1.heap.size w1 wx → Tab10 wx
    exact fun wx h => HT.out.below (HB1.out.trans (h.mono HB1.out.size))
  have r1 := fun W => run_string_add_sum (P := Tryd.prog) W (⟨#[44, 77]⟩ : ByteArray) M (by show 2 + _ ≤ _; omega)
  have r2 := fun W => run_string_add_sum (P := Tryd.prog) W ((⟨#[44, 77]⟩ : ByteArray) ++ M) ⟨#[46]⟩ (by simp only [ByteArray.size_append]; show 2 + _ + 1 ≤ _; omega)
  have r3 := fun W => run_string_add_sum (P := Tryd.prog) W ((⟨#[44, 77]⟩ : ByteArray) ++ M ++ ⟨#[46]⟩) K (by simp only [ByteArray.size_append]; show 2 + _ + 1 + _ ≤ _; omega)
  have r4 := fun W => run_string_add_sum (P := Tryd.prog) W ((⟨#[44, 77]⟩ : ByteArray) ++ M ++ ⟨#[46]⟩ ++ K) ⟨#[46]⟩ (by simp only [ByteArray.size_append]; show 2 + _ + 1 + _ + 1 ≤ _; omega)
  have r5 := fun W => run_string_add_sum (P := Tryd.prog) W ((⟨#[44, 77]⟩ : ByteArray) ++ M ++ ⟨#[46]⟩ ++ K ++ ⟨#[46]⟩) D (by simp only [ByteArray.size_append]; show 2 + _ + 1 + _ + 1 + _ ≤ _; omega)
  have r6 := fun W => run_string_add_sum (P := Tryd.prog) W ((⟨#[44, 77]⟩ : ByteArray) ++ M ++ ⟨#[46]⟩ ++ K ++ ⟨#[46]⟩ ++ D) ⟨#[47]⟩ (by simp only [ByteArray.size_append]; show 2 + _ + 1 + _ + 1 + _ + 1 ≤ _; omega)
  have r7 := fun W => run_string_add_sum (P := Tryd.prog) W ((⟨#[44, 77]⟩ : ByteArray) ++ M ++ ⟨#[46]⟩ ++ K ++ ⟨#[46]⟩ ++ D ++ ⟨#[47]⟩) S (by simp only [ByteArray.size_append]; show 2 + _ + 1 + _ + 1 + _ + 1 + _ ≤ _; omega)
  go_upto_region 2 with fail
  go_cut [2] (fun s2 wx => s2 = .string ((⟨#[44, 77]⟩ : ByteArray) ++ M ++ ⟨#[46]⟩ ++ K ++ ⟨#[46]⟩ ++ D ++ ⟨#[47]⟩ ++ S) ∧ Below w1.heap.size w1 wx)
  case first =>
    go_region_held3 (fun wx => Below w1.heap.size w1 wx ∧ wx.cell? ⟨w.heap.size, 0, none⟩ = some (.int .i64 m) ∧ wx.cell? ⟨w.heap.size, 1, none⟩ = some (.int .i64 k) ∧ wx.cell? ⟨w.heap.size, 2, none⟩ = some (.int .i64 d)) ((refine KB.out _ ?_; repeat (first | (with_reducible assumption) | (with_reducible exact Below.refl _ _) | (with_reducible refine Below.drew ?_))))
      (first
        | (go_at_call_of 48 (Value.int IntKind.i64 m); refine (H1.out _ (KT.out _ (KR.out _ (by assumption)))).mono ?_; rintro e w2 ⟨rfl, hb2⟩; have hB2 := ((KR.out _ (by assumption)).trans (hb2.mono (KR.out _ (by assumption)).size)); clear hb2)
        | (go_at_call_of 48 (Value.int IntKind.i64 k); refine (H2.out _ (KT.out _ (KR.out _ (by assumption)))).mono ?_; rintro e w3 ⟨rfl, hb3⟩; have hB3 := ((KR.out _ (by assumption)).trans (hb3.mono (KR.out _ (by assumption)).size)); clear hb3)
        | (go_at_call_of 48 (Value.int IntKind.i64 d); refine (H3.out _ (KT.out _ (KR.out _ (by assumption)))).mono ?_; rintro e w4 ⟨rfl, hb4⟩; have hB4 := ((KR.out _ (by assumption)).trans (hb4.mono (KR.out _ (by assumption)).size)); clear hb4))
    all_goals go_wp2_with fail
    all_goals go_meet
    all_goals exact ⟨rfl, KR.out _ (by assumption)⟩
  case rest =>
    obtain ⟨rfl, hbc⟩ := hcut
    have HZ := Lib.hid (HB1.out.trans (hbc.mono HB1.out.size))
    clear hbc
    go_wp2
    go_ret
    exact ⟨ret_v (by rw [HE.out]; rfl), HZ.out⟩
end Go.Proofs.YtmjakhageehcoaaDoor
