/- rule.Text: what it returns: the walk. -/
import Derived.Test.YtfocdcdggidboaaGreatDoorRu2
namespace Go.Proofs.YtfocdcdggidboaaGreatDoor
open Go.RowKit Go.Joins
open Classical
set_option linter.unusedVariables false
set_option linter.unusedSimpArgs false

set_option maxRecDepth 100000 in
set_option maxHeartbeats 8000000 in
theorem ruText_ok (r : Ru) (w : World) (o : OkRu r) (ht : Tab10 w) (ha : AscTab w) :
    Calls Tryz.prog 17 #[ruV r] w fun e w' => e = .returned (.tuple #[.string (txt (ruText r)), .int .i64 0]) ∧ Below w.heap.size w w' := by
  have hchk := ok_ru o
  have f1 := o.f1; have f2 := o.f2; have t1 := o.t1; have t2 := o.t2; have m1 := o.m1; have m2 := o.m2; have a1 := o.a1; have a2 := o.a2; have c1 := o.c1; have c2 := o.c2; have s1 := o.s1; have s2 := o.s2
  have n1 := okRu_nm o; have n2 := okRu_lt o
  have HCK : Hid (∀ W : World, Calls Tryz.prog 33 #[ruV r] W fun e w' => e = .returned (.int .i64 0) ∧ Below W.heap.size W w') := by
    show ∀ W : World, _
    intro W
    have := ruCheck_any r W (by unfold maxLen; omega) (by unfold maxLen; omega)
    rw [hchk] at this
    exact this
  have HD := Lib.hid (fun W (hb : Tab10 W) => Text_ok r.dk r.dw r.dn W o.d hb)
  have HAT := Lib.hid (fun W (hb : Tab10 W) => Span_ok r.tm W (by omega) (by omega) hb)
  have HSV := Lib.hid (fun W (hb : Tab10 W) => Span_ok r.sv W (by omega) (by omega) hb)
  have H1 := Lib.hid (fun W (hb : Tab10 W) => itoa_text r.yf W (by omega) (by omega) hb)
  have H2 := Lib.hid (fun W (hb : Tab10 W) => itoa_text r.yt W (by omega) (by omega) hb)
  have H3 := Lib.hid (fun W (hb : Tab10 W) => itoa_text r.mo W (by omega) (by omega) hb)
  obtain ⟨T, hsl, hTr⟩ := trim_one r.ck (by omega) (by omega)
  have HTR := Lib.hid hTr
  have g1 : (txt (Lib.itoa r.yf)).size ≤ 60 := by rw [txt_size]; exact Nat.le_trans (Lib.itoa_length_le _ (by omega) (by omega)) (by decide)
  have g2 : (txt (Lib.itoa r.yt)).size ≤ 60 := by rw [txt_size]; exact Nat.le_trans (Lib.itoa_length_le _ (by omega) (by omega)) (by decide)
  have g3 : (txt (Lib.itoa r.mo)).size ≤ 60 := by rw [txt_size]; exact Nat.le_trans (Lib.itoa_length_le _ (by omega) (by omega)) (by decide)
  have g4 : (txt (dayT r.dk r.dw r.dn)).size ≤ 60 := by rw [txt_size]; exact Nat.le_trans (dayT_len o.d) (by decide)
  have g5 : (txt (spanT r.tm)).size ≤ 10 := by rw [txt_size]; exact spanT_len ⟨a1, a2⟩
  have g6 : (txt (spanT r.sv)).size ≤ 60 := by rw [txt_size]; exact Nat.le_trans (spanT_len ⟨by omega, by omega⟩) (by decide)
  have g7 : (txt (ckT r.ck)).size ≤ 1 := by rw [txt_size]; unfold ckT; split <;> (try split) <;> simp
  have hE : txt (glue [(⟨#[114, 117, 108, 101]⟩ : ByteArray).data.toList, r.nm.data.toList, (txt (Lib.itoa r.yf)).data.toList, (txt (Lib.itoa r.yt)).data.toList, (txt (Lib.itoa r.mo)).data.toList, (txt (dayT r.dk r.dw r.dn)).data.toList, (txt (spanT r.tm) ++ txt (ckT r.ck)).data.toList, (txt (spanT r.sv)).data.toList, r.lt.data.toList]) = txt (ruText r) := by
    rw [txt_append]
    rfl
  obtain ⟨YF, e1⟩ : ∃ Y, txt (Lib.itoa r.yf) = Y := ⟨_, rfl⟩
  obtain ⟨YT, e2⟩ : ∃ Y, txt (Lib.itoa r.yt) = Y := ⟨_, rfl⟩
  obtain ⟨MO, e3⟩ : ∃ Y, txt (Lib.itoa r.mo) = Y := ⟨_, rfl⟩
  obtain ⟨ON, e4⟩ : ∃ Y, txt (dayT r.dk r.dw r.dn) = Y := ⟨_, rfl⟩
  obtain ⟨AT, e5⟩ : ∃ Y, txt (spanT r.tm) = Y := ⟨_, rfl⟩
  obtain ⟨SV, e6⟩ : ∃ Y, txt (spanT r.sv) = Y := ⟨_, rfl⟩
  obtain ⟨CK, e7⟩ : ∃ Y, txt (ckT r.ck) = Y := ⟨_, rfl⟩
  obtain ⟨RES, e8⟩ : ∃ Y, txt (ruText r) = Y := ⟨_, rfl⟩
  rw [e1, e2, e3, e4, e5, e6, e7, e8] at hE
  rw [e1] at H1 g1
  rw [e2] at H2 g2
  rw [e3] at H3 g3
  rw [e4] at HD g4
  rw [e5] at HAT g5
  rw [e6] at HSV g6
  rw [e7] at HTR g7
  rw [e8]
  have HSZ : Hid (∀ x ∈ [(⟨#[114, 117, 108, 101]⟩ : ByteArray), r.nm, YF, YT, MO, ON, AT ++ CK, SV, r.lt], x.size ≤ 60) := by
    show ∀ x ∈ _, _
    intro x hx
    simp only [List.mem_cons, List.not_mem_nil, or_false] at hx
    rcases hx with rfl | rfl | rfl | rfl | rfl | rfl | rfl | rfl | rfl
    · decide
    · omega
    · exact g1
    · exact g2
    · exact g3
    · exact g4
    · rw [ByteArray.size_append]; omega
    · exact g6
    · omega
  have hw1 : IntKind.i64.wrap (r.ck + 1) = r.ck + 1 := by rw [IntKind.wrap_i64]; omega
  have radd := fun W => run_string_add_sum (P := Tryz.prog) W AT CK (by omega)
  have HE := Lib.hid hE
  have HT := Lib.hid ht
  have HA := Lib.hid ha
  clear e1 e2 e3 e4 e5 e6 e7 e8 g1 g2 g3 g4 g5 g6 g7 hE ht ha hTr hchk f1 f2 t1 t2 m1 m2 a1 a2 c1 c2 s1 s2 n1 n2 o
  obtain ⟨W0, eW⟩ : ∃ W0, w.alloc (.cells (ruCells r) 28) = W0 := ⟨_, rfl⟩
  have HX : Hid (RuBx W0 w.heap.size r) := by show RuBx _ _ _; rw [← eW]; exact RuBx.box w r
  have HB : Hid (Below w.heap.size w W0) := by show Below _ _ _; rw [← eW]; exact (Below.refl _ _).alloc (Nat.le_refl _) _
  have HEW := Lib.hid eW
  obtain ⟨nm, yf, yt, mo, dk, dw, dn, tm, ck, sv, lt⟩ := r
  obtain ⟨x0, x1, x2, x3, x4, x5, x6, x7, x8, x9, x10⟩ := HX.out.cells
  have hl0 := HX.out.lt
  simp only at H1 H2 H3 HD HAT HSV HTR HSZ HE hw1 hsl x0 x1 x2 x3 x4 x5 x6 x7 x8 x9 x10
  clear eW
  go_enter Tryz.func17, Tryz.ntmps17
  go_wp2_with fail
  rw [HEW.out]
  refine (HCK.out _).mono ?_
  rintro e w1 ⟨rfl, hb1⟩
  have HX1 := Lib.hid (HX.out.below (hb1.mono (Nat.le_refl _)))
  have HB1 := Lib.hid (HB.out.trans (hb1.mono HB.out.size))
  clear hb1 HX HB x0 x1 x2 x3 x4 x5 x6 x7 x8 x9 x10 hl0
  obtain ⟨x0, x1, x2, x3, x4, x5, x6, x7, x8, x9, x10⟩ := HX1.out.cells
  have hl0 := HX1.out.lt
  simp only at x0 x1 x2 x3 x4 x5 x6 x7 x8 x9 x10
  go_wp2_with fail
  refine (HD.out _ (HT.out.below HB1.out)).mono ?_
  rintro e w2 ⟨rfl, hb2⟩
  have HX2 := Lib.hid (HX1.out.below (hb2.mono (Nat.le_refl _)))
  have HB2 := Lib.hid (HB1.out.trans (hb2.mono HB1.out.size))
  clear hb2 HX1 HB1 x0 x1 x2 x3 x4 x5 x6 x7 x8 x9 x10 hl0
  obtain ⟨x0, x1, x2, x3, x4, x5, x6, x7, x8, x9, x10⟩ := HX2.out.cells
  have hl0 := HX2.out.lt
  simp only at x0 x1 x2 x3 x4 x5 x6 x7 x8 x9 x10
  go_wp2_with fail
  refine (HAT.out _ (HT.out.below HB2.out)).mono ?_
  rintro e w3 ⟨rfl, hb3⟩
  have HX3 := Lib.hid (HX2.out.below (hb3.mono (Nat.le_refl _)))
  have HB3 := Lib.hid (HB2.out.trans (hb3.mono HB2.out.size))
  clear hb3 HX2 HB2 x0 x1 x2 x3 x4 x5 x6 x7 x8 x9 x10 hl0
  obtain ⟨x0, x1, x2, x3, x4, x5, x6, x7, x8, x9, x10⟩ := HX3.out.cells
  have hl0 := HX3.out.lt
  simp only at x0 x1 x2 x3 x4 x5 x6 x7 x8 x9 x10
  go_wp2_with fail
  refine (HSV.out _ (HT.out.below HB3.out)).mono ?_
  rintro e w4 ⟨rfl, hb4⟩
  have HX4 := Lib.hid (HX3.out.below (hb4.mono (Nat.le_refl _)))
  have HB4 := Lib.hid (HB3.out.trans (hb4.mono HB3.out.size))
  clear hb4 HX3 HB3 x0 x1 x2 x3 x4 x5 x6 x7 x8 x9 x10 hl0
  obtain ⟨x0, x1, x2, x3, x4, x5, x6, x7, x8, x9, x10⟩ := HX4.out.cells
  have hl0 := HX4.out.lt
  simp only at x0 x1 x2 x3 x4 x5 x6 x7 x8 x9 x10
  clear x0 x1 x2 x3 x4 x5 x6 x7 x8 x9 x10
  have KB : Hid (∀ wx, Below w4.heap.size w4 wx → (Below w4.heap.size w4 wx ∧ wx.cell? ⟨w.heap.size, 0, none⟩ = some (.string nm) ∧ wx.cell? ⟨w.heap.size, 1, none⟩ = some (.int .i64 yf) ∧ wx.cell? ⟨w.heap.size, 2, none⟩ = some (.int .i64 yt) ∧ wx.cell? ⟨w.heap.size, 3, none⟩ = some (.int .i64 mo) ∧ wx.cell? ⟨w.heap.size, 8, none⟩ = some (.int .i64 ck) ∧ wx.cell? ⟨w.heap.size, 10, none⟩ = some (.string lt))) := by
    show ∀ wx, Below w4.heap.size w4 wx → _
    intro wx hb
    have g := (HX4.out.below hb).cells
    exact ⟨hb, g.1, g.2.1, g.2.2.1, g.2.2.2.1, g.2.2.2.2.2.2.2.2.1, g.2.2.2.2.2.2.2.2.2.2⟩
  have KR : Hid (∀ wx, (Below w4.heap.size w4 wx ∧ wx.cell? ⟨w.heap.size, 0, none⟩ = some (.string nm) ∧ wx.cell? ⟨w.heap.size, 1, none⟩ = some (.int .i64 yf) ∧ wx.cell? ⟨w.heap.size, 2, none⟩ = some (.int .i64 yt) ∧ wx.cell? ⟨w.heap.size, 3, none⟩ = some (.int .i64 mo) ∧ wx.cell? ⟨w.heap.size, 8, none⟩ = some (.int .i64 ck) ∧ wx.cell? ⟨w.heap.size, 10, none⟩ = some (.string lt)) → Below w4.heap.size w4 wx) := by
    show ∀ wx, _ → Below w4.heap.size w4 wx
    exact fun wx h => h.1
  have KT : Hid (∀ wx, Below w4.heap.size w4 wx → Tab10 wx) := by
    show ∀ wx, Below w4.heap.size w4 wx → Tab10 wx
    exact fun wx h => HT.out.below (HB4.out.trans (h.mono HB4.out.size))
  have KA : Hid (∀ wx, Below w4.heap.size w4 wx → AscTab wx) := by
    show ∀ wx, Below w4.heap.size w4 wx → AscTab wx
    exact fun wx h => HA.out.below (HB4.out.trans (h.mono HB4.out.size))
  have KAL : Hid (∀ wx ob, Below w4.heap.size w4 wx → Below w4.heap.size w4 (wx.alloc ob)) := by
    show ∀ wx ob, Below w4.heap.size w4 wx → Below w4.heap.size w4 (wx.alloc ob)
    exact fun wx ob h => h.alloc h.size ob
  go_upto_region 7 with fail
  go_cut [2, 3] (fun s2 s3 wx => s2 = .string RES ∧ s3 = .int .i64 0 ∧ Below w4.heap.size w4 wx)
  case first =>
    go_region_held3 (fun wx => Below w4.heap.size w4 wx ∧ wx.cell? ⟨w.heap.size, 0, none⟩ = some (.string nm) ∧ wx.cell? ⟨w.heap.size, 1, none⟩ = some (.int .i64 yf) ∧ wx.cell? ⟨w.heap.size, 2, none⟩ = some (.int .i64 yt) ∧ wx.cell? ⟨w.heap.size, 3, none⟩ = some (.int .i64 mo) ∧ wx.cell? ⟨w.heap.size, 8, none⟩ = some (.int .i64 ck) ∧ wx.cell? ⟨w.heap.size, 10, none⟩ = some (.string lt)) ((refine KB.out _ ?_; repeat (first | (with_reducible assumption) | (with_reducible exact Below.refl _ _) | (with_reducible refine Below.drew ?_) | (with_reducible refine KAL.out _ _ ?_))))
      (first
        | (go_at_call_of 35 (Value.int IntKind.i64 yf); refine (H1.out _ (KT.out _ (KR.out _ (by assumption)))).mono ?_; rintro e w5 ⟨rfl, hb5⟩; have hB5 := ((KR.out _ (by assumption)).trans (hb5.mono (KR.out _ (by assumption)).size)); clear hb5)
        | (go_at_call_of 35 (Value.int IntKind.i64 yt); refine (H2.out _ (KT.out _ (KR.out _ (by assumption)))).mono ?_; rintro e w6 ⟨rfl, hb6⟩; have hB6 := ((KR.out _ (by assumption)).trans (hb6.mono (KR.out _ (by assumption)).size)); clear hb6)
        | (go_at_call_of 35 (Value.int IntKind.i64 mo); refine (H3.out _ (KT.out _ (KR.out _ (by assumption)))).mono ?_; rintro e w7 ⟨rfl, hb7⟩; have hB7 := ((KR.out _ (by assumption)).trans (hb7.mono (KR.out _ (by assumption)).size)); clear hb7)
        | (go_at_call 36; refine (HTR.out _ (KA.out _ (KR.out _ (by assumption)))).mono ?_; rintro e w8 ⟨rfl, hb8⟩; have hB8 := ((KR.out _ (by assumption)).trans (hb8.mono (KR.out _ (by assumption)).size)); clear hb8)
        | (go_at_call 34; refine (join9 _ _ _ _ _ _ _ _ _ _ _ (by decide) _ (by simp) ⟨_, _, heap_alloc_new _ _⟩ HSZ.out).mono ?_; rintro e w9 ⟨rfl, hb9⟩; have hB9 := ((KR.out _ (by assumption)).trans (hb9.mono (KR.out _ (by assumption)).size)); clear hb9))
    all_goals go_wp2_with fail
    all_goals go_meet
    all_goals exact ⟨congrArg Value.string HE.out, rfl, by assumption⟩
  case rest =>
    obtain ⟨rfl, rfl, hbc⟩ := hcut
    have HZ := Lib.hid (HB4.out.trans (hbc.mono HB4.out.size))
    clear hbc
    go_wp2
    go_ret2
    exact ⟨rfl, HZ.out⟩

end Go.Proofs.YtfocdcdggidboaaGreatDoor
