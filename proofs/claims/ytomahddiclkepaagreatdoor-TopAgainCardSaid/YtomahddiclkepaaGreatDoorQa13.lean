/- rule.Text: what it returns: the walk. rule.Parse: what it returns: the walk. (Tryz.strings_IndexByte) rule.Text of what may not be; rule.Parse: every text. -/
import Derived.Test.YtomahddiclkepaaGreatDoorQa10
import Derived.Test.YtomahddiclkepaaGreatDoorQa12
import Derived.LoopN
import Derived.Deep.MidRow
import Derived.Laws.ResultCell
import Derived.Test.YtomahddiclkepaaGreatDoorQa02
import Derived.Test.YtomahddiclkepaaGreatDoorQa03
namespace Go.Proofs.YtomahddiclkepaaGreatDoor
open Go.RowKit Go.Joins
open Classical
set_option linter.unusedVariables false
set_option linter.unusedSimpArgs false
set_option maxRecDepth 100000 in
set_option maxHeartbeats 8000000 in
theorem ruText_ok (r : Ru) (w : World) (o : OkRu r) (ht : Tab10 w) (ha : AscTab w) :
  Calls Tryz.prog 30 #[ruV r] w fun e w' => e = .returned (.tuple #[.string (txt (ruText r)), .int .i64 0]) ∧ Below w.heap.size w w' := by
 have hchk := ok_ru o
 have f1 := o.f1; have f2 := o.f2; have t1 := o.t1; have t2 := o.t2; have m1 := o.m1; have m2 := o.m2; have a1 := o.a1; have a2 := o.a2; have c1 := o.c1; have c2 := o.c2; have s1 := o.s1; have s2 := o.s2
 have n1 := okRu_nm o; have n2 := okRu_lt o
 have HCK : Hid (∀ W : World, Calls Tryz.prog 33 #[ruV r] W fun e w' => e = .returned (.int .i64 0) ∧ Below W.heap.size W w') := by
  show ∀ W : World, _
  intro W
  have := ruCheck_any r W (by unfold maxLen; omega) (by unfold maxLen; omega)
  rw [hchk] at this
  exact this
 have HD := Lib.hid (fun W (hb : Tab10 W) => Text_ok r.dk r.dw r.dn W o.d hb)
 have HAT := Lib.hid (fun W (hb : Tab10 W) => Span_ok r.tm W (by omega) (by omega) hb)
 have HSV := Lib.hid (fun W (hb : Tab10 W) => Span_ok r.sv W (by omega) (by omega) hb)
 have H1 := Lib.hid (fun W (hb : Tab10 W) => itoa_text r.yf W (by omega) (by omega) hb)
 have H2 := Lib.hid (fun W (hb : Tab10 W) => itoa_text r.yt W (by omega) (by omega) hb)
 have H3 := Lib.hid (fun W (hb : Tab10 W) => itoa_text r.mo W (by omega) (by omega) hb)
 obtain ⟨T, hsl, hTr⟩ := trim_one r.ck (by omega) (by omega)
 have HTR := Lib.hid hTr
 have g1 : (txt (Lib.itoa r.yf)).size ≤ 60 := by rw [txt_size]; exact Nat.le_trans (Lib.itoa_length_le _ (by omega) (by omega)) (by decide)
 have g2 : (txt (Lib.itoa r.yt)).size ≤ 60 := by rw [txt_size]; exact Nat.le_trans (Lib.itoa_length_le _ (by omega) (by omega)) (by decide)
 have g3 : (txt (Lib.itoa r.mo)).size ≤ 60 := by rw [txt_size]; exact Nat.le_trans (Lib.itoa_length_le _ (by omega) (by omega)) (by decide)
 have g4 : (txt (dayT r.dk r.dw r.dn)).size ≤ 60 := by rw [txt_size]; exact Nat.le_trans (dayT_len o.d) (by decide)
 have g5 : (txt (spanT r.tm)).size ≤ 10 := by rw [txt_size]; exact spanT_len ⟨a1, a2⟩
 have g6 : (txt (spanT r.sv)).size ≤ 60 := by rw [txt_size]; exact Nat.le_trans (spanT_len ⟨by omega, by omega⟩) (by decide)
 have g7 : (txt (ckT r.ck)).size ≤ 1 := by rw [txt_size]; unfold ckT; split <;> (try split) <;> simp
 have hE : txt (glue [(⟨#[114, 117, 108, 101]⟩ : ByteArray).data.toList, r.nm.data.toList, (txt (Lib.itoa r.yf)).data.toList, (txt (Lib.itoa r.yt)).data.toList, (txt (Lib.itoa r.mo)).data.toList, (txt (dayT r.dk r.dw r.dn)).data.toList, (txt (spanT r.tm) ++ txt (ckT r.ck)).data.toList, (txt (spanT r.sv)).data.toList, r.lt.data.toList]) = txt (ruText r) := by
  rw [txt_append]
  rfl
 obtain ⟨YF, e1⟩ : ∃ Y, txt (Lib.itoa r.yf) = Y := ⟨_, rfl⟩
 obtain ⟨YT, e2⟩ : ∃ Y, txt (Lib.itoa r.yt) = Y := ⟨_, rfl⟩
 obtain ⟨MO, e3⟩ : ∃ Y, txt (Lib.itoa r.mo) = Y := ⟨_, rfl⟩
 obtain ⟨ON, e4⟩ : ∃ Y, txt (dayT r.dk r.dw r.dn) = Y := ⟨_, rfl⟩
 obtain ⟨AT, e5⟩ : ∃ Y, txt (spanT r.tm) = Y := ⟨_, rfl⟩
 obtain ⟨SV, e6⟩ : ∃ Y, txt (spanT r.sv) = Y := ⟨_, rfl⟩
 obtain ⟨CK, e7⟩ : ∃ Y, txt (ckT r.ck) = Y := ⟨_, rfl⟩
 obtain ⟨RES, e8⟩ : ∃ Y, txt (ruText r) = Y := ⟨_, rfl⟩
 rw [e1, e2, e3, e4, e5, e6, e7, e8] at hE
 rw [e1] at H1 g1
 rw [e2] at H2 g2
 rw [e3] at H3 g3
 rw [e4] at HD g4
 rw [e5] at HAT g5
 rw [e6] at HSV g6
 rw [e7] at HTR g7
 rw [e8]
 have HSZ : Hid (∀ x ∈ [(⟨#[114, 117, 108, 101]⟩ : ByteArray), r.nm, YF, YT, MO, ON, AT ++ CK, SV, r.lt], x.size ≤ 60) := by
  show ∀ x ∈ _, _
  intro x hx
  simp only [List.mem_cons, List.not_mem_nil, or_false] at hx
  rcases hx with rfl | rfl | rfl | rfl | rfl | rfl | rfl | rfl | rfl
  ·decide
  ·omega
  ·exact g1
  ·exact g2
  ·exact g3
  ·exact g4
  ·rw [ByteArray.size_append]; omega
  ·exact g6
  ·omega
 have hw1 : IntKind.i64.wrap (r.ck + 1) = r.ck + 1 := by rw [IntKind.wrap_i64]; omega
 have radd := fun W => run_string_add_sum (P := Tryz.prog) W AT CK (by omega)
 have HE := Lib.hid hE
 have HT := Lib.hid ht
 have HA := Lib.hid ha
 clear e1 e2 e3 e4 e5 e6 e7 e8 g1 g2 g3 g4 g5 g6 g7 hE ht ha hTr hchk f1 f2 t1 t2 m1 m2 a1 a2 c1 c2 s1 s2 n1 n2 o
 obtain ⟨W0, eW⟩ : ∃ W0, w.alloc (.cells (ruCells r) 87) = W0 := ⟨_, rfl⟩
 have HX : Hid (RuBx W0 w.heap.size r) := by show RuBx _ _ _; rw [← eW]; exact RuBx.box w r
 have HB : Hid (Below w.heap.size w W0) := by show Below _ _ _; rw [← eW]; exact (Below.refl _ _).alloc (Nat.le_refl _) _
 have HEW := Lib.hid eW
 obtain ⟨nm, yf, yt, mo, dk, dw, dn, tm, ck, sv, lt⟩ := r
 obtain ⟨x0, x1, x2, x3, x4, x5, x6, x7, x8, x9, x10⟩ := HX.out.cells
 have hl0 := HX.out.lt
 simp only at H1 H2 H3 HD HAT HSV HTR HSZ HE hw1 hsl x0 x1 x2 x3 x4 x5 x6 x7 x8 x9 x10
 clear eW
 go_enter Tryz.func30, Tryz.ntmps30
 go_wp2_with fail
 rw [HEW.out]
 refine (HCK.out _).mono ?_
 rintro e w1 ⟨rfl, hb1⟩
 have HX1 := Lib.hid (HX.out.below (hb1.mono (Nat.le_refl _)))
 have HB1 := Lib.hid (HB.out.trans (hb1.mono HB.out.size))
 clear hb1 HX HB x0 x1 x2 x3 x4 x5 x6 x7 x8 x9 x10 hl0
 obtain ⟨x0, x1, x2, x3, x4, x5, x6, x7, x8, x9, x10⟩ := HX1.out.cells
 have hl0 := HX1.out.lt
 simp only at x0 x1 x2 x3 x4 x5 x6 x7 x8 x9 x10
 go_wp2_with fail
 refine (HD.out _ (HT.out.below HB1.out)).mono ?_
 rintro e w2 ⟨rfl, hb2⟩
 have HX2 := Lib.hid (HX1.out.below (hb2.mono (Nat.le_refl _)))
 have HB2 := Lib.hid (HB1.out.trans (hb2.mono HB1.out.size))
 clear hb2 HX1 HB1 x0 x1 x2 x3 x4 x5 x6 x7 x8 x9 x10 hl0
 obtain ⟨x0, x1, x2, x3, x4, x5, x6, x7, x8, x9, x10⟩ := HX2.out.cells
 have hl0 := HX2.out.lt
 simp only at x0 x1 x2 x3 x4 x5 x6 x7 x8 x9 x10
 go_wp2_with fail
 refine (HAT.out _ (HT.out.below HB2.out)).mono ?_
 rintro e w3 ⟨rfl, hb3⟩
 have HX3 := Lib.hid (HX2.out.below (hb3.mono (Nat.le_refl _)))
 have HB3 := Lib.hid (HB2.out.trans (hb3.mono HB2.out.size))
 clear hb3 HX2 HB2 x0 x1 x2 x3 x4 x5 x6 x7 x8 x9 x10 hl0
 obtain ⟨x0, x1, x2, x3, x4, x5, x6, x7, x8, x9, x10⟩ := HX3.out.cells
 have hl0 := HX3.out.lt
 simp only at x0 x1 x2 x3 x4 x5 x6 x7 x8 x9 x10
 go_wp2_with fail
 refine (HSV.out _ (HT.out.below HB3.out)).mono ?_
 rintro e w4 ⟨rfl, hb4⟩
 have HX4 := Lib.hid (HX3.out.below (hb4.mono (Nat.le_refl _)))
 have HB4 := Lib.hid (HB3.out.trans (hb4.mono HB3.out.size))
 clear hb4 HX3 HB3 x0 x1 x2 x3 x4 x5 x6 x7 x8 x9 x10 hl0
 obtain ⟨x0, x1, x2, x3, x4, x5, x6, x7, x8, x9, x10⟩ := HX4.out.cells
 have hl0 := HX4.out.lt
 simp only at x0 x1 x2 x3 x4 x5 x6 x7 x8 x9 x10
 clear x0 x1 x2 x3 x4 x5 x6 x7 x8 x9 x10
 have KB : Hid (∀ wx, Below w4.heap.size w4 wx → (Below w4.heap.size w4 wx ∧ wx.cell? ⟨w.heap.size, 0, none⟩ = some (.string nm) ∧ wx.cell? ⟨w.heap.size, 1, none⟩ = some (.int .i64 yf) ∧ wx.cell? ⟨w.heap.size, 2, none⟩ = some (.int .i64 yt) ∧ wx.cell? ⟨w.heap.size, 3, none⟩ = some (.int .i64 mo) ∧ wx.cell? ⟨w.heap.size, 8, none⟩ = some (.int .i64 ck) ∧ wx.cell? ⟨w.heap.size, 10, none⟩ = some (.string lt))) := by
  show ∀ wx, Below w4.heap.size w4 wx → _
  intro wx hb
  have g := (HX4.out.below hb).cells
  exact ⟨hb, g.1, g.2.1, g.2.2.1, g.2.2.2.1, g.2.2.2.2.2.2.2.2.1, g.2.2.2.2.2.2.2.2.2.2⟩
 have KR : Hid (∀ wx, (Below w4.heap.size w4 wx ∧ wx.cell? ⟨w.heap.size, 0, none⟩ = some (.string nm) ∧ wx.cell? ⟨w.heap.size, 1, none⟩ = some (.int .i64 yf) ∧ wx.cell? ⟨w.heap.size, 2, none⟩ = some (.int .i64 yt) ∧ wx.cell? ⟨w.heap.size, 3, none⟩ = some (.int .i64 mo) ∧ wx.cell? ⟨w.heap.size, 8, none⟩ = some (.int .i64 ck) ∧ wx.cell? ⟨w.heap.size, 10, none⟩ = some (.string lt)) → Below w4.heap.size w4 wx) := by
  show ∀ wx, _ → Below w4.heap.size w4 wx
  exact fun wx h => h.1
 have KT : Hid (∀ wx, Below w4.heap.size w4 wx → Tab10 wx) := by
  show ∀ wx, Below w4.heap.size w4 wx → Tab10 wx
  exact fun wx h => HT.out.below (HB4.out.trans (h.mono HB4.out.size))
 have KA : Hid (∀ wx, Below w4.heap.size w4 wx → AscTab wx) := by
  show ∀ wx, Below w4.heap.size w4 wx → AscTab wx
  exact fun wx h => HA.out.below (HB4.out.trans (h.mono HB4.out.size))
 have KAL : Hid (∀ wx ob, Below w4.heap.size w4 wx → Below w4.heap.size w4 (wx.alloc ob)) := by
  show ∀ wx ob, Below w4.heap.size w4 wx → Below w4.heap.size w4 (wx.alloc ob)
  exact fun wx ob h => h.alloc h.size ob
 go_upto_region 7 with fail
 go_cut [2, 3] (fun s2 s3 wx => s2 = .string RES ∧ s3 = .int .i64 0 ∧ Below w4.heap.size w4 wx)
 case first =>
  go_region_held3 (fun wx => Below w4.heap.size w4 wx ∧ wx.cell? ⟨w.heap.size, 0, none⟩ = some (.string nm) ∧ wx.cell? ⟨w.heap.size, 1, none⟩ = some (.int .i64 yf) ∧ wx.cell? ⟨w.heap.size, 2, none⟩ = some (.int .i64 yt) ∧ wx.cell? ⟨w.heap.size, 3, none⟩ = some (.int .i64 mo) ∧ wx.cell? ⟨w.heap.size, 8, none⟩ = some (.int .i64 ck) ∧ wx.cell? ⟨w.heap.size, 10, none⟩ = some (.string lt)) ((refine KB.out _ ?_; repeat (first | (with_reducible assumption) | (with_reducible exact Below.refl _ _) | (with_reducible refine Below.drew ?_) | (with_reducible refine KAL.out _ _ ?_))))
   (first
    | (go_at_call_of 73 (Value.int IntKind.i64 yf); refine (H1.out _ (KT.out _ (KR.out _ (by assumption)))).mono ?_; rintro e w5 ⟨rfl, hb5⟩; have hB5 := ((KR.out _ (by assumption)).trans (hb5.mono (KR.out _ (by assumption)).size)); clear hb5)
    | (go_at_call_of 73 (Value.int IntKind.i64 yt); refine (H2.out _ (KT.out _ (KR.out _ (by assumption)))).mono ?_; rintro e w6 ⟨rfl, hb6⟩; have hB6 := ((KR.out _ (by assumption)).trans (hb6.mono (KR.out _ (by assumption)).size)); clear hb6)
    | (go_at_call_of 73 (Value.int IntKind.i64 mo); refine (H3.out _ (KT.out _ (KR.out _ (by assumption)))).mono ?_; rintro e w7 ⟨rfl, hb7⟩; have hB7 := ((KR.out _ (by assumption)).trans (hb7.mono (KR.out _ (by assumption)).size)); clear hb7)
    | (go_at_call 74; refine (HTR.out _ (KA.out _ (KR.out _ (by assumption)))).mono ?_; rintro e w8 ⟨rfl, hb8⟩; have hB8 := ((KR.out _ (by assumption)).trans (hb8.mono (KR.out _ (by assumption)).size)); clear hb8)
    | (go_at_call 32; refine (join9 _ _ _ _ _ _ _ _ _ _ _ (by decide) _ (by simp) ⟨_, _, heap_alloc_new _ _⟩ HSZ.out).mono ?_; rintro e w9 ⟨rfl, hb9⟩; have hB9 := ((KR.out _ (by assumption)).trans (hb9.mono (KR.out _ (by assumption)).size)); clear hb9))
  all_goals go_wp2_with fail
  all_goals go_meet
  all_goals exact ⟨congrArg Value.string HE.out, rfl, by assumption⟩
 case rest =>
  obtain ⟨rfl, rfl, hbc⟩ := hcut
  have HZ := Lib.hid (HB4.out.trans (hbc.mono HB4.out.size))
  clear hbc
  go_wp2
  go_ret2
  exact ⟨rfl, HZ.out⟩
abbrev ru0 : Ru := ⟨⟨#[]⟩, 0, 0, 0, 0, 0, 0, 0, 0, 0, ⟨#[]⟩⟩
def Words (W : World) (A : Nat) (a0 a1 a2 a3 a4 a5 a6 a7 a8 : ByteArray) : Prop :=
 W.cell? ⟨A, 0, none⟩ = some (.string a0) ∧ W.cell? ⟨A, 1, none⟩ = some (.string a1) ∧ W.cell? ⟨A, 2, none⟩ = some (.string a2) ∧ W.cell? ⟨A, 3, none⟩ = some (.string a3) ∧ W.cell? ⟨A, 4, none⟩ = some (.string a4) ∧
 W.cell? ⟨A, 5, none⟩ = some (.string a5) ∧ W.cell? ⟨A, 6, none⟩ = some (.string a6) ∧ W.cell? ⟨A, 7, none⟩ = some (.string a7) ∧ W.cell? ⟨A, 8, none⟩ = some (.string a8)
theorem Words.below {W W' : World} {A : Nat} {a0 a1 a2 a3 a4 a5 a6 a7 a8 : ByteArray} {N : Nat} (h : Words W A a0 a1 a2 a3 a4 a5 a6 a7 a8) (hb : Below N W W') (hA : A < N) : Words W' A a0 a1 a2 a3 a4 a5 a6 a7 a8 := by
 obtain ⟨v0, v1, v2, v3, v4, v5, v6, v7, v8⟩ := h
 exact ⟨(hb.cell hA).trans v0, (hb.cell hA).trans v1, (hb.cell hA).trans v2, (hb.cell hA).trans v3, (hb.cell hA).trans v4, (hb.cell hA).trans v5, (hb.cell hA).trans v6, (hb.cell hA).trans v7, (hb.cell hA).trans v8⟩
structure St (w W : World) (A B P : Nat) (a0 a1 a2 a3 a4 a5 a6 a7 a8 : ByteArray) (r : Ru) : Prop where
 wd : Words W A a0 a1 a2 a3 a4 a5 a6 a7 a8
 pt : ∃ t, W.heap[P]? = some (.cells #[.pointer (some ⟨B, 1, none⟩), .pointer (some ⟨B, 2, none⟩), .pointer (some ⟨B, 3, none⟩)] t (0, 0))
 x : RuBx W B r
 x0 : RuBx W w.heap.size ru0
 b : Below w.heap.size w W
 hA : w.heap.size < A
 hAB : A < B
 hBP : B < P
theorem St.hP {w W : World} {A B P : Nat} {a0 a1 a2 a3 a4 a5 a6 a7 a8 : ByteArray} {r : Ru} (h : St w W A B P a0 a1 a2 a3 a4 a5 a6 a7 a8 r) : P < W.heap.size := by
 obtain ⟨t, h⟩ := h.pt
 exact (Array.getElem?_eq_some_iff.mp h).1
theorem St.below {w W W' : World} {A B P : Nat} {a0 a1 a2 a3 a4 a5 a6 a7 a8 : ByteArray} {r : Ru} (h : St w W A B P a0 a1 a2 a3 a4 a5 a6 a7 a8 r) (hb : Below W.heap.size W W') : St w W' A B P a0 a1 a2 a3 a4 a5 a6 a7 a8 r := by
 have hP := h.hP
 have h1 := h.hA; have h2 := h.hAB; have h3 := h.hBP
 refine ⟨h.wd.below hb (by omega), ?_, h.x.below hb, h.x0.below hb, h.b.trans (hb.mono h.b.size), h1, h2, h3⟩
 obtain ⟨t, e⟩ := h.pt
 exact ⟨t, (hb.block P hP).trans e⟩
theorem St.set {w W : World} {A B P : Nat} {a0 a1 a2 a3 a4 a5 a6 a7 a8 : ByteArray} {r : Ru} (h : St w W A B P a0 a1 a2 a3 a4 a5 a6 a7 a8 r) (k : Nat) (v : Value) (r' : Ru) (e : (ruCells r).setIfInBounds k v = ruCells r') : St w (W.setCell ⟨B, k, none⟩ v) A B P a0 a1 a2 a3 a4 a5 a6 a7 a8 r' := by
 have h1 := h.hA; have h2 := h.hAB; have h3 := h.hBP
 have hb : Below B W (W.setCell ⟨B, k, none⟩ v) := (Below.refl B W).setCell (Nat.le_refl _) v
 refine ⟨h.wd.below hb h2, ?_, ?_, (hb.block _ (by omega)).trans h.x0, h.b.trans (hb.mono (by omega)), h1, h2, h3⟩
 ·obtain ⟨t, e⟩ := h.pt
  exact ⟨t, (Below.heap_setCell W ⟨B, k, none⟩ v P (by show P ≠ B; omega)).trans e⟩
 ·have := h.x
  unfold RuBx at this ⊢
  rw [← e]
  simp [World.setCell, Array.getElem?_modify, this]
theorem St.ptrs {w W : World} {A B P : Nat} {a0 a1 a2 a3 a4 a5 a6 a7 a8 : ByteArray} {r : Ru} (h : St w W A B P a0 a1 a2 a3 a4 a5 a6 a7 a8 r) :
  W.cell? ⟨P, 0, none⟩ = some (.pointer (some ⟨B, 1, none⟩)) ∧ W.cell? ⟨P, 1, none⟩ = some (.pointer (some ⟨B, 2, none⟩)) ∧ W.cell? ⟨P, 2, none⟩ = some (.pointer (some ⟨B, 3, none⟩)) := by
 obtain ⟨t, e⟩ := h.pt
 exact ⟨(cell_of_row W _ 0 _ _ _ e).trans rfl, (cell_of_row W _ 1 _ _ _ e).trans rfl, (cell_of_row W _ 2 _ _ _ e).trans rfl⟩
theorem RuBx.set {W : World} {B : Nat} {r : Ru} (h : RuBx W B r) (k : Nat) (v : Value) (r' : Ru) (e : (ruCells r).setIfInBounds k v = ruCells r') : RuBx (W.setCell ⟨B, k, none⟩ v) B r' := by
 unfold RuBx at h ⊢
 rw [← e]
 simp [World.setCell, Array.getElem?_modify, h]
theorem ruStore {W : World} {B : Nat} {r : Ru} (h : RuBx W B r) (r2 : Ru) : RuBx (((((((((((W.setCell ⟨B, 0, none⟩ (.string r2.nm)).setCell ⟨B, 1, none⟩ (.int .i64 r2.yf)).setCell ⟨B, 2, none⟩ (.int .i64 r2.yt)).setCell ⟨B, 3, none⟩ (.int .i64 r2.mo)).setCell ⟨B, 4, none⟩ (.int .i64 r2.dk)).setCell ⟨B, 5, none⟩ (.int .i64 r2.dw)).setCell ⟨B, 6, none⟩ (.int .i64 r2.dn)).setCell ⟨B, 7, none⟩ (.int .i64 r2.tm)).setCell ⟨B, 8, none⟩ (.int .i64 r2.ck)).setCell ⟨B, 9, none⟩ (.int .i64 r2.sv)).setCell ⟨B, 10, none⟩ (.string r2.lt)) B r2 := by
 have h1 := RuBx.set h 0 (.string r2.nm) ⟨r2.nm, r.yf, r.yt, r.mo, r.dk, r.dw, r.dn, r.tm, r.ck, r.sv, r.lt⟩ rfl
 have h2 := RuBx.set h1 1 (.int .i64 r2.yf) ⟨r2.nm, r2.yf, r.yt, r.mo, r.dk, r.dw, r.dn, r.tm, r.ck, r.sv, r.lt⟩ rfl
 have h3 := RuBx.set h2 2 (.int .i64 r2.yt) ⟨r2.nm, r2.yf, r2.yt, r.mo, r.dk, r.dw, r.dn, r.tm, r.ck, r.sv, r.lt⟩ rfl
 have h4 := RuBx.set h3 3 (.int .i64 r2.mo) ⟨r2.nm, r2.yf, r2.yt, r2.mo, r.dk, r.dw, r.dn, r.tm, r.ck, r.sv, r.lt⟩ rfl
 have h5 := RuBx.set h4 4 (.int .i64 r2.dk) ⟨r2.nm, r2.yf, r2.yt, r2.mo, r2.dk, r.dw, r.dn, r.tm, r.ck, r.sv, r.lt⟩ rfl
 have h6 := RuBx.set h5 5 (.int .i64 r2.dw) ⟨r2.nm, r2.yf, r2.yt, r2.mo, r2.dk, r2.dw, r.dn, r.tm, r.ck, r.sv, r.lt⟩ rfl
 have h7 := RuBx.set h6 6 (.int .i64 r2.dn) ⟨r2.nm, r2.yf, r2.yt, r2.mo, r2.dk, r2.dw, r2.dn, r.tm, r.ck, r.sv, r.lt⟩ rfl
 have h8 := RuBx.set h7 7 (.int .i64 r2.tm) ⟨r2.nm, r2.yf, r2.yt, r2.mo, r2.dk, r2.dw, r2.dn, r2.tm, r.ck, r.sv, r.lt⟩ rfl
 have h9 := RuBx.set h8 8 (.int .i64 r2.ck) ⟨r2.nm, r2.yf, r2.yt, r2.mo, r2.dk, r2.dw, r2.dn, r2.tm, r2.ck, r.sv, r.lt⟩ rfl
 have h10 := RuBx.set h9 9 (.int .i64 r2.sv) ⟨r2.nm, r2.yf, r2.yt, r2.mo, r2.dk, r2.dw, r2.dn, r2.tm, r2.ck, r2.sv, r.lt⟩ rfl
 have h11 := RuBx.set h10 10 (.string r2.lt) ⟨r2.nm, r2.yf, r2.yt, r2.mo, r2.dk, r2.dw, r2.dn, r2.tm, r2.ck, r2.sv, r2.lt⟩ rfl
 exact h11
theorem idx_ck (a6 : List UInt8) (c : UInt8) (h : a6.getLast? = some c) : ∃ idx : Int, (∀ W : World, Calls Tryz.prog 139 #[.string ⟨#[32, 115, 117]⟩, .int .u8 c.toNat] W fun e w' => e = .returned (.int .i64 idx) ∧ W = w') ∧
  ((0 < idx ∧ ckOf a6 = idx ∧ tmOf a6 = a6.dropLast) ∨ (¬ 0 < idx ∧ ckOf a6 = 0 ∧ tmOf a6 = a6)) := by
 refine ⟨Lib.indexByte [32, 115, 117] c, fun W => ?_, ?_⟩
 ·refine (Tryz.strings_IndexByte ⟨#[32, 115, 117]⟩ (c.toNat : Int) W).mono ?_
  rintro e w' ⟨rfl, rfl⟩
  refine ⟨?_, rfl⟩
  have : ((c.toNat : Int).toNat.toUInt8) = c := by simp
  rw [this]
 ·by_cases h1 : c = 115
  ·subst h1
   left
   have hk : ckOf a6 = 1 := by unfold ckOf; rw [h]; rfl
   exact ⟨by decide, by rw [hk]; decide, by unfold tmOf; rw [hk]; rfl⟩
  ·by_cases h2 : c = 117
   ·subst h2
    left
    have hk : ckOf a6 = 2 := by unfold ckOf; rw [h]; rfl
    exact ⟨by decide, by rw [hk]; decide, by unfold tmOf; rw [hk]; rfl⟩
   ·right
    have hk : ckOf a6 = 0 := by
     unfold ckOf; rw [h]
     rw [if_neg (by intro e; injection e with e; exact h1 e), if_neg (by intro e; injection e with e; exact h2 e)]
    refine ⟨?_, hk, by unfold tmOf; rw [hk]; rfl⟩
    by_cases h0 : c = 32
    ·subst h0; decide
    ·rw [show Lib.indexByte [32, 115, 117] c = -1 from by simp [Lib.indexByte, Ne.symm h0, Ne.symm h1, Ne.symm h2]]
     decide
theorem results_mid {P : Program} {fn : Func} {p u : Tmp} {ty : TypeId} (h : fn.results = #[.cell p ty, .tmp u]) (tmps : Array Value) (w : World) (b o : Nat) (cs : List Value) (d : TypeDesc) (hp : tmps.getD p undef = .pointer (some ⟨b, o, none⟩))
  (hc : w.rangeAt b o cs) (hu : P.underlying ty = some d) (hd : d.isRow = true) (hi : (P.info? ty).map (·.size) = some cs.length) :
  (results fn tmps).run P w = .ok (.tuple #[.agg cs.toArray, tmps.getD u undef]) w := by
 rw [results_cell_tmp h, hp]
 simp only [asAddr, Sem.run_pure, Result.andThen_ok, run_loadVar_mid w b o ty cs d hc hu hd hi]
theorem info_rule : (Tryz.prog.info? 87).map (·.size) = some 11 := by kernel_rfl
theorem RuBx.range {W : World} {B : Nat} {r : Ru} (h : RuBx W B r) : W.rangeAt B 0 (ruCells r).toList := World.rangeAt_of_block h 0 11
theorem RuBx.there {W : World} {B : Nat} {r : Ru} (h : RuBx W B r) : W.there B 0 11 := by
 intro j hj
 have hr := h.range
 refine ⟨?_, frozen_of_row _ _ _ _ _ h⟩
 have : j < (ruCells r).toList.length := hj
 have e := hr j _ (List.getElem?_eq_getElem this)
 rw [e]
 rfl
theorem RuBx.stored {W : World} {B : Nat} {r : Ru} (h : RuBx W B r) (r2 : Ru) : RuBx (W.setCells B 0 (ruCells r2).toList) B r2 := ruStore h r2
theorem ru_one (r : Ru) : (ruCells r).all (·.oneCell') = true := by simp [ruCells, Value.oneCell']
theorem below_setCells {B : Nat} {w : World} (b : Nat) (hb : B ≤ b) : ∀ (vs : List Value) (o : Nat) (W : World), Below B w W → Below B w (W.setCells b o vs)
 | [], _, _, h => h
 | v :: r, o, W, h => below_setCells b hb r (o + 1) _ (h.setCell hb v)
set_option maxRecDepth 100000 in
set_option maxHeartbeats 8000000 in
theorem Parse_walk (l a0 a1 a2 a3 a4 a5 a6 a7 a8 : List UInt8) (hw : splitC 32 l = [a0, a1, a2, a3, a4, a5, a6, a7, a8]) (h6 : a6 ≠ []) (w : World) (hl : l.length < 4294967281) (hn : NumErrs w) (hm : MaxLen w)
  (hwl : ∀ x ∈ [a2, a3, a4, a6], x.length ≤ 281474976710656)
  (dk dw dn ed tm ea sv es te : Int) (t : ByteArray)
  (hD : ∀ W, Below w.heap.size w W → Calls Tryz.prog 138 #[.string (txt a5)] W fun e w' => e = .returned (.tuple #[dayV dk dw dn, .int .i64 ed]) ∧ Below W.heap.size W w')
  (hA : ∀ W, Below w.heap.size w W → Calls Tryz.prog 140 #[.string (txt (tmOf a6))] W fun e w' => e = .returned (.tuple #[.int .i64 tm, .int .i64 ea]) ∧ Below W.heap.size W w')
  (hS : ∀ W, Below w.heap.size w W → Calls Tryz.prog 140 #[.string (txt a7)] W fun e w' => e = .returned (.tuple #[.int .i64 sv, .int .i64 es]) ∧ Below W.heap.size W w')
  (hT : ∀ W, Below w.heap.size w W → Calls Tryz.prog 30 #[ruV ⟨txt a1, atoiV a2, atoiV a3, atoiV a4, dk, dw, dn, tm, ckOf a6, sv, txt a8⟩] W fun e w' => e = .returned (.tuple #[.string t, .int .i64 te]) ∧ Below W.heap.size W w')
  (R : Ru) (RE : Int) (hR : (te = 0 ∧ t = txt l ∧ R = ⟨txt a1, atoiV a2, atoiV a3, atoiV a4, dk, dw, dn, tm, ckOf a6, sv, txt a8⟩ ∧ RE = 0) ∨ ((te ≠ 0 ∨ t ≠ txt l) ∧ R = ru0 ∧ RE = 3)) :
  Calls Tryz.prog 90 #[.string (txt l)] w fun e w' => e = .returned (.tuple #[ruV R, .int .i64 RE]) ∧ Below w.heap.size w w' := by
 have HD := Lib.hid hD
 have HA := Lib.hid hA
 have HS := Lib.hid hS
 have HTX := Lib.hid hT
 have HR := Lib.hid hR
 have HN := Lib.hid hn
 have hsp : ∀ W, Below w.heap.size w W → MaxLen W → Calls Tryz.prog 36 #[.string (txt l), .string ⟨#[32]⟩] W fun e w' => ∃ A, e = .returned (.slice (some ⟨A, 0, none⟩) 9 9) ∧ W.heap.size ≤ A ∧ A < w'.heap.size ∧ Words w' A (txt a0) (txt a1) (txt a2) (txt a3) (txt a4) (txt a5) (txt a6) (txt a7) (txt a8) ∧ Below W.heap.size W w' := by
  intro W hb hmW
  refine (splitC_any 32 l W hl hmW).mono ?_
  rintro e w' ⟨A, rfl, h1, h2, h3, h4⟩
  rw [hw] at h3 ⊢
  exact ⟨A, rfl, h1, h2, ⟨h3 0 (by simp), h3 1 (by simp), h3 2 (by simp), h3 3 (by simp), h3 4 (by simp), h3 5 (by simp), h3 6 (by simp), h3 7 (by simp), h3 8 (by simp)⟩, h4⟩
 have HSP := Lib.hid hsp
 have H2 := Lib.hid (fun W (hb : NumErrs W) => Atoi_any a2 W (hwl a2 (by simp)) hb)
 have H3 := Lib.hid (fun W (hb : NumErrs W) => Atoi_any a3 W (hwl a3 (by simp)) hb)
 have H4 := Lib.hid (fun W (hb : NumErrs W) => Atoi_any a4 W (hwl a4 (by simp)) hb)
 have HM := Lib.hid hm
 have HL6 := Lib.hid (hwl a6 (by simp))
 clear hD hA hS hT hR hn hsp hwl hm hw
 obtain ⟨W0, eW⟩ : ∃ W0, w.alloc (.cells (ruCells ru0) 87) = W0 := ⟨_, rfl⟩
 have HX0 : Hid (RuBx W0 w.heap.size ru0) := by show RuBx _ _ _; rw [← eW]; exact RuBx.box w ru0
 have HB0 : Hid (Below w.heap.size w W0) := by show Below _ _ _; rw [← eW]; exact (Below.refl _ _).alloc (Nat.le_refl _) _
 have hM0 : MaxLen W0 := by
  obtain ⟨m, hm⟩ := HM.out
  refine ⟨m, ?_⟩
  rw [← eW]
  exact ((Below.refl w.heap.size w).alloc (Nat.le_refl _) _).cell (show (⟨2, 0, none⟩ : Addr).block < w.heap.size from Lib.lt_of_cell hm) |>.trans hm
 have HM0 := Lib.hid hM0
 have HEW := Lib.hid eW
 clear eW hM0 HM
 have b6 : (txt a6).toList.isEmpty = false := by
  cases a6 with
  | nil => exact absurd rfl h6
  | cons c r => simp [txt]
 go_enter Tryz.func90, Tryz.ntmps90
 go_wp2_with fail
 rw [HEW.out]
 refine (HSP.out W0 HB0.out HM0.out).mono ?_
 rintro e w1 ⟨A, rfl, hA0, hA1, hwords, hb1⟩
 have HX1 := Lib.hid (HX0.out.below (hb1.mono (Nat.le_refl _)))
 have HB1 := Lib.hid (HB0.out.trans (hb1.mono HB0.out.size))
 have hAw : w.heap.size < A := Nat.lt_of_lt_of_le HX0.out.lt hA0
 have HWD := Lib.hid hwords
 obtain ⟨v0, v1, v2, v3, v4, v5, v6, v7, v8⟩ := hwords
 clear hb1 HB0 HX0 HM0 HSP hA0
 go_wp2_with fail
 have KB : Hid (∀ wx, Below w1.heap.size w1 wx → (Below w1.heap.size w1 wx ∧ wx.cell? ⟨A, 1, none⟩ = some (.string (txt a1)) ∧ wx.cell? ⟨A, 8, none⟩ = some (.string (txt a8)))) := by
  show ∀ wx, Below w1.heap.size w1 wx → _
  exact fun wx hb => ⟨hb, (hb.cell hA1).trans v1, (hb.cell hA1).trans v8⟩
 have KR : Hid (∀ wx, (Below w1.heap.size w1 wx ∧ wx.cell? ⟨A, 1, none⟩ = some (.string (txt a1)) ∧ wx.cell? ⟨A, 8, none⟩ = some (.string (txt a8))) → Below w1.heap.size w1 wx) := by
  show ∀ wx, _ → Below w1.heap.size w1 wx
  exact fun wx h => h.1
 have KAL : Hid (∀ wx ob, Below w1.heap.size w1 wx → Below w1.heap.size w1 (wx.alloc ob)) := by
  show ∀ wx ob, Below w1.heap.size w1 wx → Below w1.heap.size w1 (wx.alloc ob)
  exact fun wx ob h => h.alloc h.size ob
 go_upto_region 4 with fail
 go_cut [5] (fun s5 wx => s5 = .pointer (some ⟨w1.heap.size, 0, none⟩) ∧ RuBx wx w1.heap.size { ru0 with nm := txt a1, lt := txt a8 } ∧ Below w1.heap.size w1 wx)
 case first =>
  go_region_held3 (fun wx => Below w1.heap.size w1 wx ∧ wx.cell? ⟨A, 1, none⟩ = some (.string (txt a1)) ∧ wx.cell? ⟨A, 8, none⟩ = some (.string (txt a8))) ((refine KB.out _ ?_; repeat (first | (with_reducible assumption) | (with_reducible exact Below.refl _ _) | (with_reducible refine Below.drew ?_) | (with_reducible refine KAL.out _ _ ?_)))) (fail)
  all_goals go_wp2_with fail
  all_goals go_meet
  all_goals exact ⟨rfl, RuBx.box w1 { ru0 with nm := txt a1, lt := txt a8 }, ((Below.refl _ w1).alloc (Nat.le_refl _) _).drew⟩
 case rest =>
  obtain ⟨rfl, hx, hbx⟩ := hcut
  go_wp2_with fail
  obtain ⟨W2, eW2⟩ : ∃ W2, wc.alloc (.cells #[.pointer (some ⟨w1.heap.size, 1, none⟩), .pointer (some ⟨w1.heap.size, 2, none⟩), .pointer (some ⟨w1.heap.size, 3, none⟩)] 214) = W2 := ⟨_, rfl⟩
  have hs2 : St w W2 A w1.heap.size wc.heap.size (txt a0) (txt a1) (txt a2) (txt a3) (txt a4) (txt a5) (txt a6) (txt a7) (txt a8) { ru0 with nm := txt a1, lt := txt a8 } := by
   have hb2 : Below wc.heap.size wc W2 := by rw [← eW2]; exact (Below.refl _ _).alloc (Nat.le_refl _) _
   have hb3 : Below w1.heap.size w1 W2 := hbx.trans (hb2.mono hbx.size)
   exact ⟨HWD.out.below hb3 hA1, ⟨_, by rw [← eW2]; exact heap_alloc_new _ _⟩, hx.below hb2, HX1.out.below hb3, HB1.out.trans (hb3.mono HB1.out.size), hAw, hA1, hx.lt⟩
  rw [eW2]
  have HS2 := Lib.hid hs2
  generalize wc.heap.size = P at HS2 ⊢
  generalize w1.heap.size = B at HS2 ⊢
  clear hs2 eW2 hx hbx v0 v1 v2 v3 v4 v5 v6 v7 v8 HWD HX1 HB1 hAw hA1
  obtain ⟨v0, v1, v2, v3, v4, v5, v6, v7, v8⟩ := HS2.out.wd
  obtain ⟨p0, p1, p2⟩ := HS2.out.ptrs
  obtain ⟨x0, x1, x2, x3, x4, x5, x6, x7, x8, x9, x10⟩ := HS2.out.x.cells
  have q : ∀ i : Nat, _ := fun i => frozen_of_row _ _ i _ _ HS2.out.x
  have hl0 := HS2.out.hP
  have hl1 := Nat.lt_trans HS2.out.hBP HS2.out.hP
  have hl2 := Nat.lt_trans HS2.out.hAB hl1
  simp only at x0 x1 x2 x3 x4 x5 x6 x7 x8 x9 x10
  refine wp_loop_rounds 4 ?_
  rw [rounds_succ]
  go_wp2_with fail
  refine (H2.out _ (HN.out.below HS2.out.b)).mono ?_
  rintro e u3 ⟨ev, rfl, hb, hev⟩
  have HU3 := Lib.hid (HS2.out.below hb)
  clear hb hev v0 v1 v2 v3 v4 v5 v6 v7 v8 p0 p1 p2 x0 x1 x2 x3 x4 x5 x6 x7 x8 x9 x10 q hl0 hl1 hl2 HS2
  obtain ⟨v0, v1, v2, v3, v4, v5, v6, v7, v8⟩ := HU3.out.wd
  obtain ⟨p0, p1, p2⟩ := HU3.out.ptrs
  obtain ⟨x0, x1, x2, x3, x4, x5, x6, x7, x8, x9, x10⟩ := HU3.out.x.cells
  have q : ∀ i : Nat, _ := fun i => frozen_of_row _ _ i _ _ HU3.out.x
  have hl0 := HU3.out.hP
  have hl1 := Nat.lt_trans HU3.out.hBP HU3.out.hP
  have hl2 := Nat.lt_trans HU3.out.hAB hl1
  simp only at x0 x1 x2 x3 x4 x5 x6 x7 x8 x9 x10
  go_wp2_with fail
  obtain ⟨W3, eW3⟩ : ∃ W3, u3.setCell ⟨B, 1, none⟩ (.int .i64 (atoiV a2)) = W3 := ⟨_, rfl⟩
  have hs3 : St w W3 A B P (txt a0) (txt a1) (txt a2) (txt a3) (txt a4) (txt a5) (txt a6) (txt a7) (txt a8) { ru0 with nm := txt a1, lt := txt a8, yf := atoiV a2 } := by
   rw [← eW3]
   exact HU3.out.set 1 _ _ rfl
  rw [eW3]
  have HS3 := Lib.hid hs3
  clear hs3 eW3 v0 v1 v2 v3 v4 v5 v6 v7 v8 p0 p1 p2 x0 x1 x2 x3 x4 x5 x6 x7 x8 x9 x10 q hl0 hl1 hl2 HU3 u3
  obtain ⟨v0, v1, v2, v3, v4, v5, v6, v7, v8⟩ := HS3.out.wd
  obtain ⟨p0, p1, p2⟩ := HS3.out.ptrs
  obtain ⟨x0, x1, x2, x3, x4, x5, x6, x7, x8, x9, x10⟩ := HS3.out.x.cells
  have q : ∀ i : Nat, _ := fun i => frozen_of_row _ _ i _ _ HS3.out.x
  have hl0 := HS3.out.hP
  have hl1 := Nat.lt_trans HS3.out.hBP HS3.out.hP
  have hl2 := Nat.lt_trans HS3.out.hAB hl1
  simp only at x0 x1 x2 x3 x4 x5 x6 x7 x8 x9 x10
  rw [rounds_succ]
  go_wp2_with fail
  refine (H3.out _ (HN.out.below HS3.out.b)).mono ?_
  rintro e u4 ⟨ev, rfl, hb, hev⟩
  have HU4 := Lib.hid (HS3.out.below hb)
  clear hb hev v0 v1 v2 v3 v4 v5 v6 v7 v8 p0 p1 p2 x0 x1 x2 x3 x4 x5 x6 x7 x8 x9 x10 q hl0 hl1 hl2 HS3
  obtain ⟨v0, v1, v2, v3, v4, v5, v6, v7, v8⟩ := HU4.out.wd
  obtain ⟨p0, p1, p2⟩ := HU4.out.ptrs
  obtain ⟨x0, x1, x2, x3, x4, x5, x6, x7, x8, x9, x10⟩ := HU4.out.x.cells
  have q : ∀ i : Nat, _ := fun i => frozen_of_row _ _ i _ _ HU4.out.x
  have hl0 := HU4.out.hP
  have hl1 := Nat.lt_trans HU4.out.hBP HU4.out.hP
  have hl2 := Nat.lt_trans HU4.out.hAB hl1
  simp only at x0 x1 x2 x3 x4 x5 x6 x7 x8 x9 x10
  go_wp2_with fail
  obtain ⟨W4, eW4⟩ : ∃ W4, u4.setCell ⟨B, 2, none⟩ (.int .i64 (atoiV a3)) = W4 := ⟨_, rfl⟩
  have hs4 : St w W4 A B P (txt a0) (txt a1) (txt a2) (txt a3) (txt a4) (txt a5) (txt a6) (txt a7) (txt a8) { ru0 with nm := txt a1, lt := txt a8, yf := atoiV a2, yt := atoiV a3 } := by
   rw [← eW4]
   exact HU4.out.set 2 _ _ rfl
  rw [eW4]
  have HS4 := Lib.hid hs4
  clear hs4 eW4 v0 v1 v2 v3 v4 v5 v6 v7 v8 p0 p1 p2 x0 x1 x2 x3 x4 x5 x6 x7 x8 x9 x10 q hl0 hl1 hl2 HU4 u4
  obtain ⟨v0, v1, v2, v3, v4, v5, v6, v7, v8⟩ := HS4.out.wd
  obtain ⟨p0, p1, p2⟩ := HS4.out.ptrs
  obtain ⟨x0, x1, x2, x3, x4, x5, x6, x7, x8, x9, x10⟩ := HS4.out.x.cells
  have q : ∀ i : Nat, _ := fun i => frozen_of_row _ _ i _ _ HS4.out.x
  have hl0 := HS4.out.hP
  have hl1 := Nat.lt_trans HS4.out.hBP HS4.out.hP
  have hl2 := Nat.lt_trans HS4.out.hAB hl1
  simp only at x0 x1 x2 x3 x4 x5 x6 x7 x8 x9 x10
  rw [rounds_succ]
  go_wp2_with fail
  refine (H4.out _ (HN.out.below HS4.out.b)).mono ?_
  rintro e u5 ⟨ev, rfl, hb, hev⟩
  have HU5 := Lib.hid (HS4.out.below hb)
  clear hb hev v0 v1 v2 v3 v4 v5 v6 v7 v8 p0 p1 p2 x0 x1 x2 x3 x4 x5 x6 x7 x8 x9 x10 q hl0 hl1 hl2 HS4
  obtain ⟨v0, v1, v2, v3, v4, v5, v6, v7, v8⟩ := HU5.out.wd
  obtain ⟨p0, p1, p2⟩ := HU5.out.ptrs
  obtain ⟨x0, x1, x2, x3, x4, x5, x6, x7, x8, x9, x10⟩ := HU5.out.x.cells
  have q : ∀ i : Nat, _ := fun i => frozen_of_row _ _ i _ _ HU5.out.x
  have hl0 := HU5.out.hP
  have hl1 := Nat.lt_trans HU5.out.hBP HU5.out.hP
  have hl2 := Nat.lt_trans HU5.out.hAB hl1
  simp only at x0 x1 x2 x3 x4 x5 x6 x7 x8 x9 x10
  go_wp2_with fail
  obtain ⟨W5, eW5⟩ : ∃ W5, u5.setCell ⟨B, 3, none⟩ (.int .i64 (atoiV a4)) = W5 := ⟨_, rfl⟩
  have hs5 : St w W5 A B P (txt a0) (txt a1) (txt a2) (txt a3) (txt a4) (txt a5) (txt a6) (txt a7) (txt a8) { ru0 with nm := txt a1, lt := txt a8, yf := atoiV a2, yt := atoiV a3, mo := atoiV a4 } := by
   rw [← eW5]
   exact HU5.out.set 3 _ _ rfl
  rw [eW5]
  have HS5 := Lib.hid hs5
  clear hs5 eW5 v0 v1 v2 v3 v4 v5 v6 v7 v8 p0 p1 p2 x0 x1 x2 x3 x4 x5 x6 x7 x8 x9 x10 q hl0 hl1 hl2 HU5 u5
  obtain ⟨v0, v1, v2, v3, v4, v5, v6, v7, v8⟩ := HS5.out.wd
  obtain ⟨p0, p1, p2⟩ := HS5.out.ptrs
  obtain ⟨x0, x1, x2, x3, x4, x5, x6, x7, x8, x9, x10⟩ := HS5.out.x.cells
  have q : ∀ i : Nat, _ := fun i => frozen_of_row _ _ i _ _ HS5.out.x
  have hl0 := HS5.out.hP
  have hl1 := Nat.lt_trans HS5.out.hBP HS5.out.hP
  have hl2 := Nat.lt_trans HS5.out.hAB hl1
  simp only at x0 x1 x2 x3 x4 x5 x6 x7 x8 x9 x10
  rw [rounds_succ]
  go_wp2_with fail
  refine (HD.out _ HS5.out.b).mono ?_
  rintro e u6 ⟨rfl, hb⟩
  have HU6 := Lib.hid (HS5.out.below hb)
  clear hb v0 v1 v2 v3 v4 v5 v6 v7 v8 p0 p1 p2 x0 x1 x2 x3 x4 x5 x6 x7 x8 x9 x10 q hl0 hl1 hl2 HS5
  obtain ⟨v0, v1, v2, v3, v4, v5, v6, v7, v8⟩ := HU6.out.wd
  obtain ⟨p0, p1, p2⟩ := HU6.out.ptrs
  obtain ⟨x0, x1, x2, x3, x4, x5, x6, x7, x8, x9, x10⟩ := HU6.out.x.cells
  have q : ∀ i : Nat, _ := fun i => frozen_of_row _ _ i _ _ HU6.out.x
  have hl0 := HU6.out.hP
  have hl1 := Nat.lt_trans HU6.out.hBP HU6.out.hP
  have hl2 := Nat.lt_trans HU6.out.hAB hl1
  simp only at x0 x1 x2 x3 x4 x5 x6 x7 x8 x9 x10
  go_upto_region 11 with fail
  obtain ⟨W6, eW6⟩ : ∃ W6, ((u6.setCell ⟨B, 4, none⟩ (.int .i64 dk)).setCell ⟨B, 5, none⟩ (.int .i64 dw)).setCell ⟨B, 6, none⟩ (.int .i64 dn) = W6 := ⟨_, rfl⟩
  have hs6 : St w W6 A B P (txt a0) (txt a1) (txt a2) (txt a3) (txt a4) (txt a5) (txt a6) (txt a7) (txt a8) { ru0 with nm := txt a1, lt := txt a8, yf := atoiV a2, yt := atoiV a3, mo := atoiV a4, dk := dk, dw := dw, dn := dn } := by
   rw [← eW6]
   have g1 := HU6.out.set 4 (.int .i64 dk) { ru0 with nm := txt a1, lt := txt a8, yf := atoiV a2, yt := atoiV a3, mo := atoiV a4, dk := dk } rfl
   have g2 := g1.set 5 (.int .i64 dw) { ru0 with nm := txt a1, lt := txt a8, yf := atoiV a2, yt := atoiV a3, mo := atoiV a4, dk := dk, dw := dw } rfl
   exact g2.set 6 (.int .i64 dn) { ru0 with nm := txt a1, lt := txt a8, yf := atoiV a2, yt := atoiV a3, mo := atoiV a4, dk := dk, dw := dw, dn := dn } rfl
  rw [eW6]
  have HS6 := Lib.hid hs6
  clear hs6 eW6 v0 v1 v2 v3 v4 v5 v6 v7 v8 p0 p1 p2 x0 x1 x2 x3 x4 x5 x6 x7 x8 x9 x10 q hl0 hl1 hl2 HU6 u6
  obtain ⟨v0, v1, v2, v3, v4, v5, v6, v7, v8⟩ := HS6.out.wd
  obtain ⟨p0, p1, p2⟩ := HS6.out.ptrs
  obtain ⟨x0, x1, x2, x3, x4, x5, x6, x7, x8, x9, x10⟩ := HS6.out.x.cells
  have q : ∀ i : Nat, _ := fun i => frozen_of_row _ _ i _ _ HS6.out.x
  have hl0 := HS6.out.hP
  have hl1 := Nat.lt_trans HS6.out.hBP HS6.out.hP
  have hl2 := Nat.lt_trans HS6.out.hAB hl1
  simp only at x0 x1 x2 x3 x4 x5 x6 x7 x8 x9 x10
  obtain ⟨c6, hc6⟩ : ∃ c, a6.getLast? = some c := by
   cases e : a6.getLast? with
   | none => exact absurd (List.getLast?_eq_none_iff.1 e) h6
   | some c => exact ⟨c, rfl⟩
  have hsz : 0 < (txt a6).size := by rw [txt_size]; exact List.length_pos_iff.2 h6
  have hix : ∀ W : World, (Instr.index 9 (.string (txt a6)) (.int .i64 (((txt a6).size : Int) - 1))).run Tryz.prog W = .ok (.int .u8 c6.toNat) W := by
   intro W
   rw [run_index_string (P := Tryz.prog) (w := W) _ _ _ _ Tryz.underlying9, dif_pos (by omega)]
   have : (txt a6)[(((txt a6).size : Int) - 1).toNat]'(by omega) = c6 := by
    rw [List.getLast?_eq_getElem?] at hc6
    have e : (((txt a6).size : Int) - 1).toNat = a6.length - 1 := by rw [txt_size]; omega
    have h2 := List.getElem?_eq_some_iff.1 hc6
    obtain ⟨hh, h2⟩ := h2
    rw [← h2]
    simp only [e]
    rfl
   rw [this]
  have hl6 := HL6.out
  rw [← txt_size] at hl6
  have hwr : IntKind.i64.wrap (((txt a6).size : Int) - 1) = ((txt a6).size : Int) - 1 := by rw [IntKind.wrap_i64]; omega
  have hb1 : (0 : Int) ≤ ((txt a6).size : Int) - 1 := by omega
  have hb2 : ((txt a6).size : Int) - 1 < ((txt a6).size : Int) := by omega
  clear hsz hl6
  go_wp2_with fail
  obtain ⟨idx, hi1, hi2⟩ := idx_ck a6 c6 hc6
  refine (hi1 _).mono ?_
  rintro e w' ⟨rfl, rfl⟩
  clear hi1
  rcases hi2 with ⟨hk, ek, et⟩ | ⟨hk, ek, et⟩
  case' inl =>
   have hsl : ∀ W : World, (Instr.slice 9 (.string (txt a6)) none (some (.int .i64 (((txt a6).size : Int) - 1))) none).run Tryz.prog W = .ok (.string (txt a6.dropLast)) W := by
    intro W
    rw [run_slice_string_h (ht := Tryz.underlying9) (kh := .i64) (h := ((txt a6).size : Int) - 1) (h0 := by omega) (h2 := by omega)]
    congr 2
    apply ByteArray.ext
    apply Array.toList_inj.1
    rw [Lib.extract_data, txt_data, txt_data, List.dropLast_eq_take]
    have : (((txt a6).size : Int) - 1).toNat = a6.length - 1 := by rw [txt_size]; omega
    rw [this]
    simp
   have HA2 : Hid (∀ W, Below w.heap.size w W → Calls Tryz.prog 140 #[.string (txt a6.dropLast)] W fun e w' => e = .returned (.tuple #[.int .i64 tm, .int .i64 ea]) ∧ Below W.heap.size W w') := by
    show ∀ W, _
    rw [← et]
    exact HA.out
   have hs7 : St w (W6.setCell ⟨B, 8, none⟩ (.int .i64 idx)).drew A B P (txt a0) (txt a1) (txt a2) (txt a3) (txt a4) (txt a5) (txt a6) (txt a7) (txt a8) { ru0 with nm := txt a1, lt := txt a8, yf := atoiV a2, yt := atoiV a3, mo := atoiV a4, dk := dk, dw := dw, dn := dn, ck := ckOf a6 } := by
    rw [ek]
    exact (HS6.out.set 8 (.int .i64 idx) { ru0 with nm := txt a1, lt := txt a8, yf := atoiV a2, yt := atoiV a3, mo := atoiV a4, dk := dk, dw := dw, dn := dn, ck := idx } rfl).below (Below.refl _ _).drew
   clear ek et
   go_wp2_with fail
   go_region
   go_wp2_with fail
   obtain ⟨W7, eW7⟩ : ∃ W7, (W6.setCell ⟨B, 8, none⟩ (.int .i64 idx)).drew = W7 := ⟨_, rfl⟩
   rw [eW7] at hs7
   rw [eW7]
  case' inr =>
   have HA2 : Hid (∀ W, Below w.heap.size w W → Calls Tryz.prog 140 #[.string (txt a6)] W fun e w' => e = .returned (.tuple #[.int .i64 tm, .int .i64 ea]) ∧ Below W.heap.size W w') := by
    show ∀ W, _
    rw [et] at HA
    exact HA.out
   have hs7 : St w W6 A B P (txt a0) (txt a1) (txt a2) (txt a3) (txt a4) (txt a5) (txt a6) (txt a7) (txt a8) { ru0 with nm := txt a1, lt := txt a8, yf := atoiV a2, yt := atoiV a3, mo := atoiV a4, dk := dk, dw := dw, dn := dn, ck := ckOf a6 } := by
    rw [ek]
    exact HS6.out
   clear ek et
   go_wp2_with fail
   obtain ⟨W7, eW7⟩ : ∃ W7, W6 = W7 := ⟨_, rfl⟩
   rw [eW7] at hs7
   rw [eW7]
  all_goals
   have HS7 := Lib.hid hs7
   clear hs7 eW7 v0 v1 v2 v3 v4 v5 v6 v7 v8 p0 p1 p2 x0 x1 x2 x3 x4 x5 x6 x7 x8 x9 x10 q hl0 hl1 hl2 HS6 hk
   refine (HA2.out _ HS7.out.b).mono ?_
   rintro e u8 ⟨rfl, hb⟩
   have HU8 := Lib.hid (HS7.out.below hb)
   clear hb HS7
   obtain ⟨v0, v1, v2, v3, v4, v5, v6, v7, v8⟩ := HU8.out.wd
   obtain ⟨p0, p1, p2⟩ := HU8.out.ptrs
   obtain ⟨x0, x1, x2, x3, x4, x5, x6, x7, x8, x9, x10⟩ := HU8.out.x.cells
   have q : ∀ i : Nat, _ := fun i => frozen_of_row _ _ i _ _ HU8.out.x
   have hl0 := HU8.out.hP
   have hl1 := Nat.lt_trans HU8.out.hBP HU8.out.hP
   have hl2 := Nat.lt_trans HU8.out.hAB hl1
   simp only at x0 x1 x2 x3 x4 x5 x6 x7 x8 x9 x10
   go_upto_region 16 with fail
   obtain ⟨W8, eW8⟩ : ∃ W8, u8.setCell ⟨B, 7, none⟩ (.int .i64 tm) = W8 := ⟨_, rfl⟩
   have hs8 : St w W8 A B P (txt a0) (txt a1) (txt a2) (txt a3) (txt a4) (txt a5) (txt a6) (txt a7) (txt a8) { ru0 with nm := txt a1, lt := txt a8, yf := atoiV a2, yt := atoiV a3, mo := atoiV a4, dk := dk, dw := dw, dn := dn, ck := ckOf a6, tm := tm } := by
    rw [← eW8]
    exact HU8.out.set 7 _ _ rfl
   rw [eW8]
   have HS8 := Lib.hid hs8
   clear hs8 eW8 v0 v1 v2 v3 v4 v5 v6 v7 v8 p0 p1 p2 x0 x1 x2 x3 x4 x5 x6 x7 x8 x9 x10 q hl0 hl1 hl2 HU8
   obtain ⟨v0, v1, v2, v3, v4, v5, v6, v7, v8⟩ := HS8.out.wd
   obtain ⟨p0, p1, p2⟩ := HS8.out.ptrs
   obtain ⟨x0, x1, x2, x3, x4, x5, x6, x7, x8, x9, x10⟩ := HS8.out.x.cells
   have q : ∀ i : Nat, _ := fun i => frozen_of_row _ _ i _ _ HS8.out.x
   have hl0 := HS8.out.hP
   have hl1 := Nat.lt_trans HS8.out.hBP HS8.out.hP
   have hl2 := Nat.lt_trans HS8.out.hAB hl1
   simp only at x0 x1 x2 x3 x4 x5 x6 x7 x8 x9 x10
   go_wp2_with fail
   refine (HS.out _ HS8.out.b).mono ?_
   rintro e u9 ⟨rfl, hb⟩
   have HU9 := Lib.hid (HS8.out.below hb)
   clear hb HS8 v0 v1 v2 v3 v4 v5 v6 v7 v8 p0 p1 p2 x0 x1 x2 x3 x4 x5 x6 x7 x8 x9 x10 q hl0 hl1 hl2
   obtain ⟨v0, v1, v2, v3, v4, v5, v6, v7, v8⟩ := HU9.out.wd
   obtain ⟨p0, p1, p2⟩ := HU9.out.ptrs
   obtain ⟨x0, x1, x2, x3, x4, x5, x6, x7, x8, x9, x10⟩ := HU9.out.x.cells
   have q : ∀ i : Nat, _ := fun i => frozen_of_row _ _ i _ _ HU9.out.x
   have hl0 := HU9.out.hP
   have hl1 := Nat.lt_trans HU9.out.hBP HU9.out.hP
   have hl2 := Nat.lt_trans HU9.out.hAB hl1
   simp only at x0 x1 x2 x3 x4 x5 x6 x7 x8 x9 x10
   go_upto_region 17 with fail
   obtain ⟨W9, eW9⟩ : ∃ W9, u9.setCell ⟨B, 9, none⟩ (.int .i64 sv) = W9 := ⟨_, rfl⟩
   have hs9 : St w W9 A B P (txt a0) (txt a1) (txt a2) (txt a3) (txt a4) (txt a5) (txt a6) (txt a7) (txt a8) { ru0 with nm := txt a1, lt := txt a8, yf := atoiV a2, yt := atoiV a3, mo := atoiV a4, dk := dk, dw := dw, dn := dn, ck := ckOf a6, tm := tm, sv := sv } := by
    rw [← eW9]
    exact HU9.out.set 9 _ _ rfl
   rw [eW9]
   have HS9 := Lib.hid hs9
   clear hs9 eW9 v0 v1 v2 v3 v4 v5 v6 v7 v8 p0 p1 p2 x0 x1 x2 x3 x4 x5 x6 x7 x8 x9 x10 q hl0 hl1 hl2 HU9
   obtain ⟨v0, v1, v2, v3, v4, v5, v6, v7, v8⟩ := HS9.out.wd
   obtain ⟨p0, p1, p2⟩ := HS9.out.ptrs
   obtain ⟨x0, x1, x2, x3, x4, x5, x6, x7, x8, x9, x10⟩ := HS9.out.x.cells
   have q : ∀ i : Nat, _ := fun i => frozen_of_row _ _ i _ _ HS9.out.x
   have hl0 := HS9.out.hP
   have hl1 := Nat.lt_trans HS9.out.hBP HS9.out.hP
   have hl2 := Nat.lt_trans HS9.out.hAB hl1
   simp only at x0 x1 x2 x3 x4 x5 x6 x7 x8 x9 x10
   go_wp2_with fail
   refine (HTX.out _ HS9.out.b).mono ?_
   rintro e u10 ⟨rfl, hb⟩
   have HU10 := Lib.hid (HS9.out.below hb)
   clear hb HS9 v0 v1 v2 v3 v4 v5 v6 v7 v8 p0 p1 p2 x0 x1 x2 x3 x4 x5 x6 x7 x8 x9 x10 q hl0 hl1 hl2
   obtain ⟨v0, v1, v2, v3, v4, v5, v6, v7, v8⟩ := HU10.out.wd
   obtain ⟨p0, p1, p2⟩ := HU10.out.ptrs
   obtain ⟨x0, x1, x2, x3, x4, x5, x6, x7, x8, x9, x10⟩ := HU10.out.x.cells
   have q : ∀ i : Nat, _ := fun i => frozen_of_row _ _ i _ _ HU10.out.x
   have hl0 := HU10.out.hP
   have hl1 := Nat.lt_trans HU10.out.hBP HU10.out.hP
   have hl2 := Nat.lt_trans HU10.out.hAB hl1
   simp only at x0 x1 x2 x3 x4 x5 x6 x7 x8 x9 x10
   obtain ⟨y0, y1, y2, y3, y4, y5, y6, y7, y8, y9, y10⟩ := HU10.out.x0.cells
   have q0 : ∀ i : Nat, _ := fun i => frozen_of_row _ _ i _ _ HU10.out.x0
   have hl3 := HU10.out.x0.lt
   simp only at y0 y1 y2 y3 y4 y5 y6 y7 y8 y9 y10
   rcases HR.out with ⟨rfl, rfl, rfl, rfl⟩ | ⟨hne, rfl, rfl⟩
   case' inl =>
    go_upto_region 20 with fail
    clear v0 v1 v2 v3 v4 v5 v6 v7 v8 p0 p1 p2 q x0 x1 x2 x3 x4 x5 x6 x7 x8 x9 x10 y0 y1 y2 y3 y4 y5 y6 y7 y8 y9 y10 q0 hl0 hl1 hl2 hl3
    obtain ⟨RR, eRR⟩ : ∃ RR : Ru, ⟨txt a1, atoiV a2, atoiV a3, atoiV a4, dk, dw, dn, tm, ckOf a6, sv, txt a8⟩ = RR := ⟨_, rfl⟩
    obtain ⟨CS, eCS⟩ : ∃ CS, (ruCells RR).toList = CS := ⟨_, rfl⟩
    have hrB : u10.rangeAt B 0 CS := by rw [← eCS, ← eRR]; exact HU10.out.x.range
    have hth : u10.there w.heap.size 0 CS.toArray.size := by rw [← eCS]; exact HU10.out.x0.there
    have hin : (Tryz.prog.info? 87).map (·.size) = some CS.length := by rw [← eCS]; exact info_rule
    have hin2 : (Tryz.prog.info? 87).map (·.size) = some CS.toArray.size := by rw [← eCS]; exact info_rule
    have h1c : CS.toArray.all (·.oneCell') = true := by rw [← eCS]; exact ru_one RR
    have hst := Lib.hid (HU10.out.x0.stored RR)
    have hbl := Lib.hid (below_setCells w.heap.size (Nat.le_refl _) CS.toArray.toList 0 u10 HU10.out.b)
    rw [eCS] at hst
    go_step
    refine wpList_load_mid rfl 87 _ rfl B 0 rfl CS _ hrB Tryz.underlying87 rfl hin ?_
    refine wpList_store_mid rfl 87 _ _ rfl w.heap.size 0 CS.toArray rfl rfl hth hin2 h1c ?_
    have hst2 : Hid (RuBx (u10.setCells w.heap.size 0 CS.toArray.toList) w.heap.size RR) := hst
    generalize u10.setCells w.heap.size 0 CS.toArray.toList = W10 at hst2 hbl ⊢
    have hres := Lib.hid (show ∀ tm : Array Value, tm.getD 2 undef = .pointer (some ⟨w.heap.size, 0, none⟩) → (results Tryz.f90 tm).run Tryz.prog W10 = .ok (.tuple #[ruV RR, tm.getD 3 undef]) W10 from fun tm hp => results_mid rfl tm W10 w.heap.size 0 (ruCells RR).toList _ hp hst2.out.range Tryz.underlying87 rfl info_rule)
    have ERR := Lib.hid eRR
    clear hrB hth hin hin2 h1c hst hst2 eRR eCS
    repeat go_step
    refine bodyPost_ret (hres.out _ rfl) rfl ⟨by rw [← ERR.out]; rfl, hbl.out⟩
   case' inr =>
    clear v0 v1 v2 v3 v4 v5 v6 v7 v8 p0 p1 p2 q x0 x1 x2 x3 x4 x5 x6 x7 x8 x9 x10 y0 y1 y2 y3 y4 y5 y6 y7 y8 y9 y10 q0 hl0 hl1 hl2 hl3
    have hth := HU10.out.x0.there
    have hst := Lib.hid (HU10.out.x0.stored ru0)
    have hbl := Lib.hid (below_setCells w.heap.size (Nat.le_refl _) (ruCells ru0).toList 0 u10 HU10.out.b)
    have hre : Hid (∀ (W10 : World), RuBx W10 w.heap.size ru0 → ∀ tm : Array Value, tm.getD 2 undef = .pointer (some ⟨w.heap.size, 0, none⟩) → (results Tryz.f90 tm).run Tryz.prog W10 = .ok (.tuple #[ruV ru0, tm.getD 3 undef]) W10) := by
     show ∀ (W10 : World), _
     exact fun W10 h tm hp => results_mid rfl tm W10 w.heap.size 0 (ruCells ru0).toList _ hp h.range Tryz.underlying87 rfl info_rule
    have HTH := Lib.hid hth
    clear hth
    by_cases hte : te = 0
    case' pos =>
     subst hte
     have htl : t.toList ≠ (txt l).toList := by
      intro e
      rcases hne with h | h
      ·exact h rfl
      ·exact h (ByteArray.ext (Array.toList_inj.1 (by simpa [ByteArray.toList_eq] using e)))
     have ht1 : (t.toList == (txt l).toList) = false := by simpa using htl
     have ht2 : (!t.toList == (txt l).toList) = true := by rw [ht1]; rfl
     clear hne htl
     go_upto_region 19 with fail
    case' neg =>
     have hz : (te == 0) = false := by simpa using hte
     have hz2 : (!te == 0) = true := by rw [hz]; rfl
     clear hne
     go_upto_region 19 with fail
    all_goals
     go_step
     go_step
     go_step
     go_step
     refine wpList_store_mid rfl 87 _ _ rfl w.heap.size 0 (ruCells ru0) rfl rfl HTH.out info_rule (ru_one ru0) ?_
     have hst2 : Hid (RuBx (u10.setCells w.heap.size 0 (ruCells ru0).toList) w.heap.size ru0) := hst
     generalize u10.setCells w.heap.size 0 (ruCells ru0).toList = W10 at hst2 hbl ⊢
     clear hst
     repeat go_step
     refine bodyPost_ret (hre.out _ hst2.out _ rfl) rfl ⟨rfl, hbl.out⟩
set_option maxRecDepth 100000 in
set_option maxHeartbeats 2000000 in
theorem ruText_no (r : Ru) (w : World) (hc : ruChk r ≠ 0) (h1 : r.nm.size ≤ maxLen) (h2 : r.lt.size ≤ maxLen) :
  Calls Tryz.prog 30 #[ruV r] w fun e w' => e = .returned (.tuple #[.string ⟨#[]⟩, .int .i64 (ruChk r)]) ∧ Below w.heap.size w w' := by
 have HCK : Hid (∀ W : World, Calls Tryz.prog 33 #[ruV r] W fun e w' => e = .returned (.int .i64 (ruChk r)) ∧ Below W.heap.size W w') := by
  show ∀ W : World, _
  exact fun W => ruCheck_any r W h1 h2
 obtain ⟨C, eC⟩ : ∃ C, ruChk r = C := ⟨_, rfl⟩
 rw [eC] at HCK hc ⊢
 have hz : (C == 0) = false := by simpa using hc
 have hz2 : (!C == 0) = true := by rw [hz]; rfl
 clear hc eC h1 h2
 obtain ⟨W0, eW⟩ : ∃ W0, w.alloc (.cells (ruCells r) 87) = W0 := ⟨_, rfl⟩
 have HX : Hid (RuBx W0 w.heap.size r) := by show RuBx _ _ _; rw [← eW]; exact RuBx.box w r
 have HB : Hid (Below w.heap.size w W0) := by show Below _ _ _; rw [← eW]; exact (Below.refl _ _).alloc (Nat.le_refl _) _
 have HEW := Lib.hid eW
 obtain ⟨nm, yf, yt, mo, dk, dw, dn, tm, ck, sv, lt⟩ := r
 obtain ⟨x0, x1, x2, x3, x4, x5, x6, x7, x8, x9, x10⟩ := HX.out.cells
 have hl0 := HX.out.lt
 simp only at x0 x1 x2 x3 x4 x5 x6 x7 x8 x9 x10
 clear eW
 go_enter Tryz.func30, Tryz.ntmps30
 go_wp2_with fail
 rw [HEW.out]
 refine (HCK.out _).mono ?_
 rintro e w1 ⟨rfl, hb1⟩
 have HB1 := Lib.hid (HB.out.trans (hb1.mono HB.out.size))
 clear hb1 HB HX x0 x1 x2 x3 x4 x5 x6 x7 x8 x9 x10 hl0
 go_wp2
 go_ret2
 exact ⟨rfl, HB1.out⟩
set_option maxRecDepth 100000 in
set_option maxHeartbeats 2000000 in
theorem Parse_short (l : List UInt8) (w : World) (hl : l.length < 4294967281) (hm : MaxLen w) (hs : (splitC 32 l).length ≠ 9 ∨ ∃ h : (splitC 32 l).length = 9, (splitC 32 l)[6] = []) :
  Calls Tryz.prog 90 #[.string (txt l)] w fun e w' => e = .returned (.tuple #[ruV ru0, .int .i64 3]) ∧ Below w.heap.size w w' := by
 have HSP := Lib.hid (fun W hmW => splitC_any 32 l W hl hmW)
 have hlen : (splitC 32 l).length ≤ 4294967281 := by
  rw [splitC_length]
  have := List.count_le_length (a := (32 : UInt8)) (l := l)
  omega
 obtain ⟨W0, eW⟩ : ∃ W0, w.alloc (.cells (ruCells ru0) 87) = W0 := ⟨_, rfl⟩
 have HX0 : Hid (RuBx W0 w.heap.size ru0) := by show RuBx _ _ _; rw [← eW]; exact RuBx.box w ru0
 have HB0 : Hid (Below w.heap.size w W0) := by show Below _ _ _; rw [← eW]; exact (Below.refl _ _).alloc (Nat.le_refl _) _
 have hM0 : MaxLen W0 := by
  obtain ⟨m, hm⟩ := hm
  refine ⟨m, ?_⟩
  rw [← eW]
  exact ((Below.refl w.heap.size w).alloc (Nat.le_refl _) _).cell (show (⟨2, 0, none⟩ : Addr).block < w.heap.size from Lib.lt_of_cell hm) |>.trans hm
 have HM0 := Lib.hid hM0
 have HEW := Lib.hid eW
 obtain ⟨n, en⟩ : ∃ n, (splitC 32 l).length = n := ⟨_, rfl⟩
 have hre : Hid (∀ (W10 : World), RuBx W10 w.heap.size ru0 → ∀ tm : Array Value, tm.getD 2 undef = .pointer (some ⟨w.heap.size, 0, none⟩) → (results Tryz.f90 tm).run Tryz.prog W10 = .ok (.tuple #[ruV ru0, tm.getD 3 undef]) W10) := by
  show ∀ (W10 : World), _
  exact fun W10 h tm hp => results_mid rfl tm W10 w.heap.size 0 (ruCells ru0).toList _ hp h.range Tryz.underlying87 rfl info_rule
 clear eW hM0 hm hl
 go_enter Tryz.func90, Tryz.ntmps90
 go_wp2_with fail
 rw [HEW.out]
 refine (HSP.out W0 HM0.out).mono ?_
 rintro e w1 ⟨A, rfl, hA0, hA1, hcl, hb1⟩
 have HX1 := Lib.hid (HX0.out.below (hb1.mono (Nat.le_refl _)))
 have HB1 := Lib.hid (HB0.out.trans (hb1.mono HB0.out.size))
 rw [en] at hlen ⊢
 rcases hs with hs | ⟨hs, h6⟩
 case' inl =>
  rw [en] at hs
  have hz : ((n : Int) == 9) = false := by simp; omega
  have hz2 : (!(n : Int) == 9) = true := by rw [hz]; rfl
  clear hb1 HX0 HB0 HSP HM0 hA0 hcl
  go_upto_region 3 with fail
 case' inr =>
  have c6 : w1.cell? ⟨A, 6, none⟩ = some (.string (txt [])) := by
   have h := hcl 6 (by omega)
   rw [h, h6]
  obtain rfl : n = 9 := en.symm.trans hs
  clear en
  have b6 : (txt []).toList.isEmpty = true := by rw [bytes_toList_txt]; rfl
  clear hb1 HX0 HB0 HSP HM0 hA0 hcl h6
  go_upto_region 3 with fail
 all_goals
  have hth := HX1.out.there
  have hst := Lib.hid (HX1.out.stored ru0)
  have hbl := Lib.hid (below_setCells w.heap.size (Nat.le_refl _) (ruCells ru0).toList 0 w1 HB1.out)
  have HTH := Lib.hid hth
  clear hth
  go_step
  go_step
  go_step
  go_step
  refine wpList_store_mid rfl 87 _ _ rfl w.heap.size 0 (ruCells ru0) rfl rfl HTH.out info_rule (ru_one ru0) ?_
  have hst2 : Hid (RuBx (w1.setCells w.heap.size 0 (ruCells ru0).toList) w.heap.size ru0) := hst
  generalize w1.setCells w.heap.size 0 (ruCells ru0).toList = W10 at hst2 hbl ⊢
  clear hst
  repeat go_step
  refine bodyPost_ret (hre.out _ hst2.out _ rfl) rfl ⟨rfl, hbl.out⟩
theorem list9 {α : Type} : ∀ (l : List α), l.length = 9 → ∃ a0 a1 a2 a3 a4 a5 a6 a7 a8, l = [a0, a1, a2, a3, a4, a5, a6, a7, a8]
 | [a0, a1, a2, a3, a4, a5, a6, a7, a8], _ => ⟨a0, a1, a2, a3, a4, a5, a6, a7, a8, rfl⟩
 | [], h | [_], h | [_, _], h | [_, _, _], h | [_, _, _, _], h | [_, _, _, _, _], h | [_, _, _, _, _, _], h | [_, _, _, _, _, _, _], h | [_, _, _, _, _, _, _, _], h => by simp at h
 | _ :: _ :: _ :: _ :: _ :: _ :: _ :: _ :: _ :: _ :: _, h => by simp at h
theorem day_res (l : List UInt8) : ∃ dk dw dn ed : Int, (dayB dk dw dn = true ∧ dayT dk dw dn = l ∧ ed = 0) ∨ ((∀ k wd n, dayB k wd n = true → dayT k wd n ≠ l) ∧ dk = 0 ∧ dw = 0 ∧ dn = 0 ∧ ed = 3) := by
 by_cases h : ∃ k wd n, dayB k wd n = true ∧ dayT k wd n = l
 ·obtain ⟨k, wd, n, h1, h2⟩ := h
  exact ⟨k, wd, n, 0, Or.inl ⟨h1, h2, rfl⟩⟩
 ·exact ⟨0, 0, 0, 3, Or.inr ⟨fun k wd n h1 h2 => h ⟨k, wd, n, h1, h2⟩, rfl, rfl, rfl, rfl⟩⟩
theorem span_res (l : List UInt8) : ∃ n e : Int, (inS n ∧ spanT n = l ∧ e = 0) ∨ ((∀ n, inS n → spanT n ≠ l) ∧ n = 0 ∧ e = 3) := by
 by_cases h : ∃ n, inS n ∧ spanT n = l
 ·obtain ⟨n, h1, h2⟩ := h
  exact ⟨n, 0, Or.inl ⟨h1, h2, rfl⟩⟩
 ·exact ⟨0, 3, Or.inr ⟨fun n h1 h2 => h ⟨n, h1, h2⟩, rfl, rfl⟩⟩
theorem itoa_inj' {a b : Int} (ha : 0 ≤ a) (ha2 : a < 1844674407370955162) (hb : 0 ≤ b) (hb2 : b < 1844674407370955162) (e : Lib.itoa a = Lib.itoa b) : a = b := by
 have := congrArg atoiV e
 rwa [atoiV_itoa ha ha2, atoiV_itoa hb hb2] at this
theorem dayT_2 (wd n : Int) : dayT 2 wd n = [108, 97, 115, 116] ++ wordT wd := rfl
theorem dayT_3 (wd n : Int) : dayT 3 wd n = wordT wd ++ ([62, 61] ++ Lib.itoa n) := rfl
theorem dayT_4 (wd n : Int) : dayT 4 wd n = wordT wd ++ ([60, 61] ++ Lib.itoa n) := rfl
theorem word_has {wd : Int} (h0 : 0 ≤ wd) (h6 : wd ≤ 6) : ∃ c, c ∈ wordT wd ∧ isLt c := by
 have hl := wordT_length h0 h6
 cases e : wordT wd with
 | nil => rw [e] at hl; simp at hl
 | cons c r => exact ⟨c, by simp, word_letters h0 h6 c (by rw [e]; simp)⟩
theorem word_inj {a b : Int} (a0 : 0 ≤ a) (a6 : a ≤ 6) (b0 : 0 ≤ b) (b6 : b ≤ 6) (e : wordT a = wordT b) : a = b := by
 have := congrArg wdayV e
 rwa [word_wday a0 a6, word_wday b0 b6] at this
theorem dg_not_lt {l : List UInt8} (hd : ∀ c ∈ l, isDg c) (hl : ∃ c, c ∈ l ∧ isLt c) : False := by
 obtain ⟨c, h1, h2⟩ := hl
 have := hd c h1
 unfold isDg at this
 unfold isLt at h2
 omega
theorem has_app {a b : List UInt8} (h : ∃ c, c ∈ a ∧ isLt c) : ∃ c, c ∈ a ++ b ∧ isLt c := by
 obtain ⟨c, h1, h2⟩ := h
 exact ⟨c, List.mem_append_left _ h1, h2⟩
theorem third {wd : Int} (h0 : 0 ≤ wd) (h6 : wd ≤ 6) (c : UInt8) (r : List UInt8) : (wordT wd ++ c :: r)[3]? = some c := by
 rw [List.getElem?_append_right (by rw [wordT_length h0 h6]; omega), wordT_length h0 h6]
 rfl
theorem dayT_inj {k wd n k' wd' n' : Int} (h : dayB k wd n = true) (h' : dayB k' wd' n' = true) (e : dayT k wd n = dayT k' wd' n') : k = k' ∧ wd = wd' ∧ n = n' := by
 simp only [dayB, decide_eq_true_eq] at h h'
 have last : ∃ c, c ∈ ([108, 97, 115, 116] : List UInt8) ∧ isLt c := ⟨108, by simp, by unfold isLt; decide⟩
 have two : ∀ (a b : Int) (c : UInt8) (x y : Int), 0 ≤ a → a ≤ 6 → 0 ≤ b → b ≤ 6 → 1 ≤ x → x ≤ 31 → 1 ≤ y → y ≤ 31 → wordT a ++ ([c, 61] ++ Lib.itoa x) = wordT b ++ ([c, 61] ++ Lib.itoa y) → a = b ∧ x = y := by
  intro a b c x y a0 a6 b0 b6 x1 x2 y1 y2 e
  have := List.append_inj e (by rw [wordT_length a0 a6, wordT_length b0 b6])
  refine ⟨word_inj a0 a6 b0 b6 this.1, ?_⟩
  have e2 := (List.append_inj this.2 rfl).2
  exact itoa_inj' (by omega) (by omega) (by omega) (by omega) e2
 have t116 : ∀ wd : Int, ([108, 97, 115, 116] ++ wordT wd)[3]? = some 116 := fun _ => rfl
 rcases h with ⟨rfl, rfl, h1, h2⟩ | ⟨rfl, h1, h2, rfl⟩ | ⟨rfl | rfl, h1, h2, h3, h4⟩ <;> rcases h' with ⟨rfl, rfl, g1, g2⟩ | ⟨rfl, g1, g2, rfl⟩ | ⟨rfl | rfl, g1, g2, g3, g4⟩
 ·exact ⟨rfl, rfl, itoa_inj' (by omega) (by omega) (by omega) (by omega) e⟩
 ·exact (dg_not_lt (l := dayT 1 0 n) (itoa_dg (by omega)) (by rw [e]; exact has_app last)).elim
 ·exact (dg_not_lt (l := dayT 1 0 n) (itoa_dg (by omega)) (by rw [e]; exact has_app (word_has g1 g2))).elim
 ·exact (dg_not_lt (l := dayT 1 0 n) (itoa_dg (by omega)) (by rw [e]; exact has_app (word_has g1 g2))).elim
 ·exact (dg_not_lt (l := dayT 1 0 n') (itoa_dg (by omega)) (by rw [← e]; exact has_app last)).elim
 ·exact ⟨rfl, word_inj h1 h2 g1 g2 (List.append_cancel_left e), rfl⟩
 ·have := congrArg (fun l : List UInt8 => l[3]?) e
  simp only [dayT_2, dayT_3, t116] at this
  rw [show ([62, 61] : List UInt8) ++ Lib.itoa n' = 62 :: (61 :: Lib.itoa n') from rfl, third g1 g2] at this
  exact absurd this (by decide)
 ·have := congrArg (fun l : List UInt8 => l[3]?) e
  simp only [dayT_2, dayT_4, t116] at this
  rw [show ([60, 61] : List UInt8) ++ Lib.itoa n' = 60 :: (61 :: Lib.itoa n') from rfl, third g1 g2] at this
  exact absurd this (by decide)
 ·exact (dg_not_lt (l := dayT 1 0 n') (itoa_dg (by omega)) (by rw [← e]; exact has_app (word_has h1 h2))).elim
 ·have := congrArg (fun l : List UInt8 => l[3]?) e
  simp only [dayT_2, dayT_3, t116] at this
  rw [show ([62, 61] : List UInt8) ++ Lib.itoa n = 62 :: (61 :: Lib.itoa n) from rfl, third h1 h2] at this
  exact absurd this (by decide)
 ·have := two wd wd' 62 n n' h1 h2 g1 g2 h3 h4 g3 g4 e
  exact ⟨rfl, this.1, this.2⟩
 ·have := congrArg (fun l : List UInt8 => l[3]?) e
  simp only [dayT_3, dayT_4] at this
  rw [show ([62, 61] : List UInt8) ++ Lib.itoa n = 62 :: (61 :: Lib.itoa n) from rfl, show ([60, 61] : List UInt8) ++ Lib.itoa n' = 60 :: (61 :: Lib.itoa n') from rfl, third h1 h2, third g1 g2] at this
  exact absurd this (by decide)
 ·exact (dg_not_lt (l := dayT 1 0 n') (itoa_dg (by omega)) (by rw [← e]; exact has_app (word_has h1 h2))).elim
 ·have := congrArg (fun l : List UInt8 => l[3]?) e
  simp only [dayT_2, dayT_4, t116] at this
  rw [show ([60, 61] : List UInt8) ++ Lib.itoa n = 60 :: (61 :: Lib.itoa n) from rfl, third h1 h2] at this
  exact absurd this (by decide)
 ·have := congrArg (fun l : List UInt8 => l[3]?) e
  simp only [dayT_3, dayT_4] at this
  rw [show ([60, 61] : List UInt8) ++ Lib.itoa n = 60 :: (61 :: Lib.itoa n) from rfl, show ([62, 61] : List UInt8) ++ Lib.itoa n' = 62 :: (61 :: Lib.itoa n') from rfl, third h1 h2, third g1 g2] at this
  exact absurd this (by decide)
 ·have := two wd wd' 60 n n' h1 h2 g1 g2 h3 h4 g3 g4 e
  exact ⟨rfl, this.1, this.2⟩
theorem Parse_nine (l a0 a1 a2 a3 a4 a5 a6 a7 a8 : List UInt8) (hw : splitC 32 l = [a0, a1, a2, a3, a4, a5, a6, a7, a8]) (h6 : a6 ≠ []) (w : World) (hl : l.length < 4294967281) (ht : Tab10 w) (ha : AscTab w) (hn : NumErrs w) (hm : MaxLen w) :
  ∃ (r : Ru) (R : Ru) (RE : Int), ((ruChk r = 0 ∧ ruText r = l ∧ R = r ∧ RE = 0) ∨ (¬ (ruChk r = 0 ∧ ruText r = l) ∧ R = ru0 ∧ RE = 3)) ∧
  (∀ q, OkRu q → ruText q = l → r = q) ∧
  Calls Tryz.prog 90 #[.string (txt l)] w fun e w' => e = .returned (.tuple #[ruV R, .int .i64 RE]) ∧ Below w.heap.size w w' := by
 have hsm : ∀ x ∈ [a0, a1, a2, a3, a4, a5, a6, a7, a8], x.length ≤ l.length := by rw [← hw]; exact splitC_small 32 l
 obtain ⟨dk, dw, dn, ed, hd⟩ := day_res a5
 obtain ⟨tm, ea, hta⟩ := span_res (tmOf a6)
 obtain ⟨sv, es, hts⟩ := span_res a7
 have e7 := hsm a7 (by simp)
 have e5 := hsm a5 (by simp)
 have e6 := hsm a6 (by simp)
 have e1 := hsm a1 (by simp)
 have e8 := hsm a8 (by simp)
 have etm : (tmOf a6).length ≤ a6.length := by
  unfold tmOf
  split
  ·exact Nat.le_refl _
  ·simp
 obtain ⟨r, er⟩ : ∃ r : Ru, r = ⟨txt a1, atoiV a2, atoiV a3, atoiV a4, dk, dw, dn, tm, ckOf a6, sv, txt a8⟩ := ⟨_, rfl⟩
 have hD : ∀ W, Below w.heap.size w W → Calls Tryz.prog 138 #[.string (txt a5)] W fun e w' => e = .returned (.tuple #[dayV dk dw dn, .int .i64 ed]) ∧ Below W.heap.size W w' := by
  intro W hb
  rcases hd with ⟨h1, rfl, rfl⟩ | ⟨h1, rfl, rfl, rfl, rfl⟩
  ·exact Read_ok dk dw dn W h1 (ht.below hb) (hn.below hb) (hm.below hb)
  ·exact Read_no a5 W (by omega) h1 (ht.below hb) (hn.below hb) (hm.below hb)
 have hsp : ∀ (x : List UInt8) (n e : Int), x.length ≤ l.length → ((inS n ∧ spanT n = x ∧ e = 0) ∨ ((∀ n, inS n → spanT n ≠ x) ∧ n = 0 ∧ e = 3)) → ∀ W, Below w.heap.size w W →
   Calls Tryz.prog 140 #[.string (txt x)] W fun e' w' => e' = .returned (.tuple #[.int .i64 n, .int .i64 e]) ∧ Below W.heap.size W w' := by
  intro x n e hx h W hb
  rcases h with ⟨h1, rfl, rfl⟩ | ⟨h1, rfl, rfl⟩
  ·exact ReadSpan_ok n W h1 (ht.below hb) (hn.below hb) (hm.below hb)
  ·exact ReadSpan_no x W (by omega) h1 (ht.below hb) (hn.below hb) (hm.below hb)
 have hT : ∃ (t : ByteArray) (te : Int), ((ruChk r = 0 ∧ t = txt (ruText r) ∧ te = 0) ∨ (ruChk r ≠ 0 ∧ te ≠ 0)) ∧ ∀ W, Below w.heap.size w W → Calls Tryz.prog 30 #[ruV r] W fun e w' => e = .returned (.tuple #[.string t, .int .i64 te]) ∧ Below W.heap.size W w' := by
  by_cases hc : ruChk r = 0
  ·exact ⟨_, _, Or.inl ⟨hc, rfl, rfl⟩, fun W hb => ruText_ok r W (ru_ok hc) (ht.below hb) (ha.below hb)⟩
  ·exact ⟨_, _, Or.inr ⟨hc, hc⟩, fun W hb => ruText_no r W hc (by rw [er]; simp only [txt_size]; unfold maxLen; omega) (by rw [er]; simp only [txt_size]; unfold maxLen; omega)⟩
 obtain ⟨t, te, hte, hTX⟩ := hT
 have huni : ∀ q, OkRu q → ruText q = l → r = q := by
  intro q oq eq
  have e := ru_split oq
  rw [eq, hw] at e
  unfold ruW at e
  injection e with g0 e; injection e with g1 e; injection e with g2 e; injection e with g3 e; injection e with g4 e; injection e with g5 e; injection e with g6 e; injection e with g7 e; injection e with g8 e
  obtain ⟨k1, k2, k3⟩ := ck_of (n := q.tm) (b := q.ck) ⟨oq.a1, oq.a2⟩ oq.c1 oq.c2
  have f1 := oq.f1; have f2 := oq.f2; have t1 := oq.t1; have t2 := oq.t2; have m1 := oq.m1; have m2 := oq.m2; have s1 := oq.s1; have s2 := oq.s2
  have hday : dk = q.dk ∧ dw = q.dw ∧ dn = q.dn := by
   rcases hd with ⟨h1, h2, _⟩ | ⟨h1, _⟩
   ·exact dayT_inj h1 oq.d (by rw [h2, g5])
   ·exact absurd g5.symm (h1 _ _ _ oq.d)
  have htm : tm = q.tm := by
   rw [g6, k2] at hta
   rcases hta with ⟨h1, h2, _⟩ | ⟨h1, _⟩
   ·have := congrArg rawS h2
    rwa [rawS_span h1, rawS_span ⟨oq.a1, oq.a2⟩] at this
   ·exact absurd rfl (h1 _ ⟨oq.a1, oq.a2⟩)
  have hsv : sv = q.sv := by
   rw [g7] at hts
   rcases hts with ⟨h1, h2, _⟩ | ⟨h1, _⟩
   ·have := congrArg rawS h2
    rwa [rawS_span h1, rawS_span ⟨by omega, by omega⟩] at this
   ·exact absurd rfl (h1 _ ⟨by omega, by omega⟩)
  rw [er, g1, g2, g3, g4, g6, g8, k1, hday.1, hday.2.1, hday.2.2, htm, hsv, atoiV_itoa (by omega) (by omega), atoiV_itoa (by omega) (by omega), atoiV_itoa (by omega) (by omega)]
  rfl
 have hwl : ∀ x ∈ [a2, a3, a4, a6], x.length ≤ 281474976710656 := by
  intro x hx
  have := hsm x (by simp only [List.mem_cons, List.not_mem_nil, or_false] at hx ⊢; rcases hx with rfl | rfl | rfl | rfl <;> simp)
  omega
 by_cases hc : ruChk r = 0 ∧ ruText r = l
 ·refine ⟨r, r, 0, Or.inl ⟨hc.1, hc.2, rfl, rfl⟩, huni, ?_⟩
  refine Parse_walk l a0 a1 a2 a3 a4 a5 a6 a7 a8 hw h6 w hl hn hm hwl dk dw dn ed tm ea sv es te t hD (hsp _ _ _ (by omega) hta) (hsp _ _ _ e7 hts) (by rw [er] at hTX; exact hTX) r 0 (Or.inl ?_)
  rcases hte with ⟨h1, h2, h3⟩ | ⟨h1, _⟩
  ·exact ⟨h3, by rw [h2, hc.2], er, rfl⟩
  ·exact absurd hc.1 h1
 ·refine ⟨r, ru0, 3, Or.inr ⟨hc, rfl, rfl⟩, huni, ?_⟩
  refine Parse_walk l a0 a1 a2 a3 a4 a5 a6 a7 a8 hw h6 w hl hn hm hwl dk dw dn ed tm ea sv es te t hD (hsp _ _ _ (by omega) hta) (hsp _ _ _ e7 hts) (by rw [er] at hTX; exact hTX) ru0 3 (Or.inr ⟨?_, rfl, rfl⟩)
  rcases hte with ⟨h1, h2, h3⟩ | ⟨h1, h2⟩
  ·right
   intro e
   rw [h2] at e
   exact hc ⟨h1, txt_inj e⟩
  ·exact Or.inl h2
theorem Parse_ok (r : Ru) (o : OkRu r) (w : World) (hl : (ruText r).length < 4294967281) (ht : Tab10 w) (ha : AscTab w) (hn : NumErrs w) (hm : MaxLen w) :
  Calls Tryz.prog 90 #[.string (txt (ruText r))] w fun e w' => e = .returned (.tuple #[ruV r, .int .i64 0]) ∧ Below w.heap.size w w' := by
 obtain ⟨q, R, RE, h, hu, hc⟩ := Parse_nine (ruText r) _ _ _ _ _ _ _ _ _ (ru_split o) (ck_of ⟨o.a1, o.a2⟩ o.c1 o.c2).2.2 w hl ht ha hn hm
 have e := hu r o rfl
 subst e
 rcases h with ⟨h1, h2, rfl, rfl⟩ | ⟨h1, _⟩
 ·exact hc
 ·exact absurd ⟨ok_ru o, rfl⟩ h1
theorem Parse_no (l : List UInt8) (hno : ∀ r, OkRu r → ruText r ≠ l) (w : World) (hl : l.length < 4294967281) (ht : Tab10 w) (ha : AscTab w) (hn : NumErrs w) (hm : MaxLen w) :
  Calls Tryz.prog 90 #[.string (txt l)] w fun e w' => e = .returned (.tuple #[ruV ru0, .int .i64 3]) ∧ Below w.heap.size w w' := by
 by_cases h9 : (splitC 32 l).length = 9
 ·obtain ⟨a0, a1, a2, a3, a4, a5, a6, a7, a8, hw⟩ := list9 _ h9
  by_cases h6 : a6 = []
  ·exact Parse_short l w hl hm (Or.inr ⟨h9, by simp [hw, h6]⟩)
  ·obtain ⟨q, R, RE, h, _, hc⟩ := Parse_nine l _ _ _ _ _ _ _ _ _ hw h6 w hl ht ha hn hm
   rcases h with ⟨h1, h2, _⟩ | ⟨_, rfl, rfl⟩
   ·exact absurd h2 (hno q (ru_ok h1))
   ·exact hc
 ·exact Parse_short l w hl hm (Or.inl h9)
end Go.Proofs.YtomahddiclkepaaGreatDoor
