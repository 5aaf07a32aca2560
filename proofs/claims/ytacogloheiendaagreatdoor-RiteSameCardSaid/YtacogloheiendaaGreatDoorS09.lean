/- rite.Book: where there is a summer. clock.Span: what it returns. rite.text, rite.riteText, rite.Text: what each returns; the closed fact 'rited'. rite.At: which type at a time. -/
import Derived.Test.YtacogloheiendaaGreatDoorS08
import Derived.Test.YtacogloheiendaaGreatDoorS01
import Derived.Deep.RegionHeld3
import Derived.Test.YtacogloheiendaaGreatDoorS02
namespace Go.Proofs.YtacogloheiendaaGreatDoor
open Go.RowKit Go.Joins
open Classical
set_option linter.unusedVariables false
set_option linter.unusedSimpArgs false

theorem rows_ofR {α : Type} {cells : α → List Value} {k : Nat} (hk : ∀ x, (cells x).length = k) {W : World} {B : Nat} {T : TypeId} {v : Value} {l : List α} (h : W.ownsRow B T k v l.length (l.flatMap cells)) (hl : l.length ≤ 100000000) : RowsAt cells k W.heap.size W v l := by
  rcases h.2 with ⟨rfl, h0⟩ | ⟨g, cap, cur, rfl, hb, hg, hnc, hcm, hcs, htake⟩
  · have : l = [] := List.eq_nil_of_length_eq_zero h0
    subst this
    exact ⟨none, 0, rfl, ⟨by simp, by simp⟩, fun h => absurd rfl h⟩
  · have hc : ∀ i u, (l.flatMap cells)[i]? = some u → W.cell? ⟨g, i, none⟩ = some u := by
      intro i u hu
      rw [cell_of_row W g i cur _ (0, 0) hg]
      rw [← htake, List.getElem?_take] at hu
      split at hu
      · simpa using hu
      · cases hu
    refine ⟨_, cap, rfl, ⟨by omega, hnc⟩, fun _ => ⟨g, 0, rfl, (Array.getElem?_eq_some_iff.1 hg).1, fun i hi j u hu => ?_⟩⟩
    rw [Nat.zero_add]
    have hj : j < k := by rw [← hk l[i]]; exact (List.getElem?_eq_some_iff.1 hu).1
    exact hc _ _ ((flat_getN hk l i hi j hj).trans hu)
theorem two_setR {W : World} {E : Nat} {a b c d e : Value} {T : TypeId} (h : W.heap[E]? = some (.cells #[a, b, c, d, e] T (0, 0))) (x y : Value) :
    ∃ W', (W.setCell ⟨E, 1, none⟩ x).setCell ⟨E, 3, none⟩ y = W' ∧ (∀ B, B ≤ E → Below B W W') ∧ W'.heap[E]? = some (.cells #[a, x, c, y, e] T (0, 0)) := by
  refine ⟨_, rfl, fun B hB => ((Below.refl _ _).setCell (by exact hB) _).setCell (by exact hB) _, ?_⟩
  rw [heap_setCR (i := 3) (heap_setCR (i := 1) h x) y]
  rfl
/-- what stays while a rule is made -/
structure RbI (W8 : World) (xb eb qb : Nat) (xc ec qc : Array Value) (wx : World) : Prop where
  b : Below W8.heap.size W8 wx
  x : wx.heap[xb]? = some (.cells xc 25 (0, 0))
  e : wx.heap[eb]? = some (.cells ec 54 (0, 0))
  q : wx.heap[qb]? = some (.cells qc 23 (0, 0))
  lx : xb < W8.heap.size
  le : eb < W8.heap.size
  lq : W8.heap.size ≤ qb
section
variable {W8 wx wy : World} {xb eb qb : Nat} {xc ec qc : Array Value}
theorem RbI.lz (h : RbI W8 xb eb qb xc ec qc wx) : qb < wx.heap.size := (Array.getElem?_eq_some_iff.mp h.q).1
theorem RbI.drew (h : RbI W8 xb eb qb xc ec qc wx) : RbI W8 xb eb qb xc ec qc wx.drew := ⟨h.b.drew, h.x, h.e, h.q, h.lx, h.le, h.lq⟩
theorem RbI.below (h : RbI W8 xb eb qb xc ec qc wx) (hb : Below wx.heap.size wx wy) : RbI W8 xb eb qb xc ec qc wy := by
  have h1 := h.lx
  have h2 := h.le
  have h3 := h.lq
  have h4 := h.lz
  exact ⟨h.b.trans (hb.mono (by omega)), (hb.block _ (by omega)).trans h.x, (hb.block _ (by omega)).trans h.e, (hb.block _ h4).trans h.q, h1, h2, h3⟩
theorem RbI.alloc (h : RbI W8 xb eb qb xc ec qc wx) (o : Obj) : RbI W8 xb eb qb xc ec qc (wx.alloc o) := h.below ((Below.refl _ _).alloc (Nat.le_refl _) _)
theorem RbI.grown (h : RbI W8 xb eb qb xc ec qc wx) {row : Option Nat} (hg : wx.grownBy wy row) (hr : ∀ q, row = some q → W8.heap.size ≤ q ∧ q ≠ qb) : RbI W8 xb eb qb xc ec qc wy := by
  have h1 := h.lx
  have h2 := h.le
  have h3 := h.lq
  have h4 := h.lz
  refine ⟨h.b.grown hg (by omega) (fun q e => (hr q e).1), (hg.block xb (by omega) (fun e => ?_)).trans h.x, (hg.block eb (by omega) (fun e => ?_)).trans h.e, (hg.block qb h4 (fun e => ?_)).trans h.q, h1, h2, h3⟩
  · have := (hr xb e.symm).1; omega
  · have := (hr eb e.symm).1; omega
  · exact (hr qb e.symm).2 rfl
end
theorem infoRuB : (Tryz.prog.info? 59).map (fun i => (i.zero, i.size, i.bytes)) = some (some (.agg #[.string ⟨#[]⟩, .int .i64 0, .int .i64 0, .int .i64 0, .int .i64 0, .int .i64 0, .int .i64 0, .int .i64 0, .int .i64 0, .int .i64 0, .string ⟨#[]⟩]), 11, 104) := by kernel_rfl
theorem undRuB : Tryz.prog.underlying 28 = some (.slice 59) := by kernel_rfl
set_option maxRecDepth 100000 in
set_option maxHeartbeats 8000000 in
/-- where the format is too long -/
theorem RtBook_large (p : Px) (nm : ByteArray) (f t : Int) (w : World) (h1 : p.name.size ≤ 8) (h2 : p.also.size ≤ 8) (hs : nm.size ≤ 140737488351232) (h : pxChk p = 0) (hn : nameB nm = true) (f1 : 1900 ≤ f) (f2 : f ≤ t) (f3 : t ≤ 2100) (ha : p.also.toList ≠ []) (hl : 12 < p.name.size + 1 + p.also.size) :
    Calls Tryz.prog 6 #[pxV p, .string nm, .int .i64 f, .int .i64 t] w fun e w' => e = .returned (.tuple #[bkNoneR, .int .i64 2]) ∧ Below w.heap.size w w' := by
  obtain ⟨W0, eW⟩ : ∃ W0, (w.alloc (.cells (pxCells p) 25)).alloc (.cells #[.slice none 0 0, .slice none 0 0, .slice none 0 0] 32) = W0 := ⟨_, rfl⟩
  have HM := Lib.hid (RbM.start eW)
  have HEW := Lib.hid eW
  have HC := Lib.hid (fun W => rCheck_any p W (by simp only [maxLen]; omega) (by simp only [maxLen]; omega))
  have HNM := Lib.hid (fun W => isName_any nm W (by simp only [maxLen]; omega))
  have HW1 := Lib.hid (fun W => rite_within f 1900 2100 W)
  have HW2 := Lib.hid (fun W => rite_within t f 2100 W)
  have e1 : withinB f 1900 2100 = true := by simp [withinB]; omega
  have e2 : withinB t f 2100 = true := by simp [withinB]; omega
  rw [e1] at HW1
  rw [e2] at HW2
  rw [h] at HC
  rw [hn] at HNM
  have ha2 : p.also.toList.isEmpty = false := by simpa using ha
  obtain ⟨x0, x1, x2, x3, x4, x5, x6, x7, x8, x9, x10, x11⟩ := HM.out.px.cells
  obtain ⟨z0, z1, z2, zf0, zf1, zf2⟩ := HM.out.cells
  have hl0 := HM.out.lt
  obtain ⟨F, eF⟩ : ∃ F, p.name ++ ((⟨#[47]⟩ : ByteArray) ++ p.also) = F := ⟨_, rfl⟩
  have HF := Lib.hid eF
  have hF : 12 < F.size := by
    rw [← eF, ByteArray.size_append, ByteArray.size_append]
    show 12 < p.name.size + (1 + p.also.size)
    omega
  clear eW e1 e2 h hn ha eF hl
  go_enter Tryz.func6, Tryz.ntmps6
  go_wp2_with fail
  rw [HEW.out]
  refine (HC.out _).mono ?_
  rintro e w1 ⟨rfl, hb1⟩
  have HM1 := Lib.hid (HM.out.go hb1)
  clear hb1 HM x0 x1 x2 x3 x4 x5 x6 x7 x8 x9 x10 x11 z0 z1 z2 zf0 zf1 zf2 hl0
  obtain ⟨x0, x1, x2, x3, x4, x5, x6, x7, x8, x9, x10, x11⟩ := HM1.out.px.cells
  obtain ⟨z0, z1, z2, zf0, zf1, zf2⟩ := HM1.out.cells
  have hl0 := HM1.out.lt
  go_wp2_with fail
  refine (HNM.out _).mono ?_
  rintro e w' ⟨rfl, rfl⟩
  go_wp2_with fail
  refine (HW1.out _).mono ?_
  rintro e w' ⟨rfl, rfl⟩
  go_wp2_with fail
  refine (HW2.out _).mono ?_
  rintro e w' ⟨rfl, rfl⟩
  obtain ⟨W5, e5⟩ : ∃ W5, w1.alloc (.cells #[.int .i64 p.off, .string ⟨#[]⟩, .int .i64 0, .string p.name, .int .i64 0] 54) = W5 := ⟨_, rfl⟩
  obtain ⟨eb, eeb⟩ : ∃ eb, w1.heap.size = eb := ⟨_, rfl⟩
  have hb5 : Below w1.heap.size w1 W5 := by rw [← e5]; exact (Below.refl _ _).alloc (Nat.le_refl _) _
  have hx5 : W5.heap[eb]? = some (.cells #[.int .i64 p.off, .string ⟨#[]⟩, .int .i64 0, .string p.name, .int .i64 0] 54 (0, 0)) := by rw [← e5]; exact alloc_at _ _ _ eeb.symm
  have hne0 : w.heap.size ≠ eb := by omega
  have hne1 : w.heap.size + 1 ≠ eb := by omega
  have HB5 := Lib.hid hb5
  have HM5 := Lib.hid (HM1.out.go hb5)
  have HE5 := Lib.hid e5
  have HX5 := Lib.hid hx5
  have HEB := Lib.hid eeb
  clear hb5 hx5 e5 eeb
  go_upto_region 9 with fail
  rw [HE5.out, HEB.out]
  have hx5 := HX5.out
  have y0 : W5.cell? ⟨eb, 0, none⟩ = some (.int .i64 p.off) := (cell_of_row W5 _ 0 _ _ _ hx5).trans rfl
  have y1 : W5.cell? ⟨eb, 1, none⟩ = some (.string ⟨#[]⟩) := (cell_of_row W5 _ 1 _ _ _ hx5).trans rfl
  have y2 : W5.cell? ⟨eb, 2, none⟩ = some (.int .i64 0) := (cell_of_row W5 _ 2 _ _ _ hx5).trans rfl
  have y3 : W5.cell? ⟨eb, 3, none⟩ = some (.string p.name) := (cell_of_row W5 _ 3 _ _ _ hx5).trans rfl
  have y4 : W5.cell? ⟨eb, 4, none⟩ = some (.int .i64 0) := (cell_of_row W5 _ 4 _ _ _ hx5).trans rfl
  have yf1 : W5.frozen? ⟨eb, 1, none⟩ = false := by simp [World.frozen?, hx5]
  have yf3 : W5.frozen? ⟨eb, 3, none⟩ = false := by simp [World.frozen?, hx5]
  have hyl : eb < W5.heap.size := (Array.getElem?_eq_some_iff.mp hx5).1
  clear hx5 x0 x1 x2 x3 x4 x5 x6 x7 x8 x9 x10 x11 z0 z1 z2 zf0 zf1 zf2 hl0
  obtain ⟨x0, x1, x2, x3, x4, x5, x6, x7, x8, x9, x10, x11⟩ := HM5.out.px.cells
  obtain ⟨z0, z1, z2, zf0, zf1, zf2⟩ := HM5.out.cells
  have hl0 := HM5.out.lt
  go_upto_region 13 with fail
  rw [HF.out]
  obtain ⟨W7, e7, hb7, hx7⟩ := two_setR HX5.out (.string ⟨#[114, 105, 116, 101]⟩) (.string F)
  rw [e7]
  have hb17 : Below w1.heap.size w1 W7 := HB5.out.trans (hb7 _ (by rw [HEB.out]; exact Nat.le_refl _))
  have HM7 := Lib.hid (HM1.out.go hb17)
  have HX7 := Lib.hid hx7
  clear hb17 e7 hb7 x0 x1 x2 x3 x4 x5 x6 x7 x8 x9 x10 x11 z0 z1 z2 zf0 zf1 zf2 hl0 y0 y1 y2 y3 y4 yf1 yf3 hyl
  obtain ⟨z0, z1, z2, zf0, zf1, zf2⟩ := HM7.out.cells
  have hl0 := HM7.out.lt
  have y3 : W7.cell? ⟨eb, 3, none⟩ = some (.string F) := (cell_of_row W7 _ 3 _ _ _ hx7).trans rfl
  clear hx7
  go_wp2
  obtain ⟨W9, e9, hb9, v0, v1, v2, -⟩ := HM7.out.out (.slice none 0 0) (.slice none 0 0) (.slice none 0 0)
  rw [e9]
  exact bodyPost_ret (v := .tuple #[bkNoneR, .int .i64 2]) (by simp [results, Tryz.results6, go_sem, v0, v1, v2, bkNoneR]) rfl ⟨rfl, hb9⟩
set_option maxRecDepth 100000 in
set_option maxHeartbeats 8000000 in
/-- where there is a summer -/
theorem RtBook_two (p : Px) (nm : ByteArray) (f t : Int) (w : World) (h1 : p.name.size ≤ 8) (h2 : p.also.size ≤ 8) (hs : nm.size ≤ 140737488351232) (h : pxChk p = 0) (hn : nameB nm = true) (f1 : 1900 ≤ f) (f2 : f ≤ t) (f3 : t ≤ 2100) (ha : p.also.toList ≠ []) (hl : p.name.size + 1 + p.also.size ≤ 12) (o : OkPx p) :
    Calls Tryz.prog 6 #[pxV p, .string nm, .int .i64 f, .int .i64 t] w fun e w' => Below w.heap.size w w' ∧ ∃ rv zv ev, e = .returned (.tuple #[.agg #[rv, zv, .slice none 0 0], .int .i64 0]) ∧ BookAt w'.heap.size w' rv zv (.slice none 0 0) (rsBk p nm ev f t) := by
  obtain ⟨W0, eW⟩ : ∃ W0, (w.alloc (.cells (pxCells p) 25)).alloc (.cells #[.slice none 0 0, .slice none 0 0, .slice none 0 0] 32) = W0 := ⟨_, rfl⟩
  have HM := Lib.hid (RbM.start eW)
  have HEW := Lib.hid eW
  have HC := Lib.hid (fun W => rCheck_any p W (by simp only [maxLen]; omega) (by simp only [maxLen]; omega))
  have HNM := Lib.hid (fun W => isName_any nm W (by simp only [maxLen]; omega))
  have HW1 := Lib.hid (fun W => rite_within f 1900 2100 W)
  have HW2 := Lib.hid (fun W => rite_within t f 2100 W)
  have e1 : withinB f 1900 2100 = true := by simp [withinB]; omega
  have e2 : withinB t f 2100 = true := by simp [withinB]; omega
  rw [e1] at HW1
  rw [e2] at HW2
  rw [h] at HC
  rw [hn] at HNM
  have ha2 : p.also.toList.isEmpty = false := by simpa using ha
  obtain ⟨x0, x1, x2, x3, x4, x5, x6, x7, x8, x9, x10, x11⟩ := HM.out.px.cells
  obtain ⟨z0, z1, z2, zf0, zf1, zf2⟩ := HM.out.cells
  have hl0 := HM.out.lt
  obtain ⟨F, eF⟩ : ∃ F, p.name ++ ((⟨#[47]⟩ : ByteArray) ++ p.also) = F := ⟨_, rfl⟩
  have HF := Lib.hid eF
  have hF : F.size ≤ 12 := by
    rw [← eF, ByteArray.size_append, ByteArray.size_append]
    show p.name.size + (1 + p.also.size) ≤ 12
    omega
  have eB : ∀ ev, rsBk p nm ev f t = oneB (rsRules p f t) nm ev [⟨p.off, riteB, 0, F, 0⟩] := fun ev => by unfold rsBk rsEra; rw [if_neg ha, if_neg ha, if_neg ha, eF]
  have EB := Lib.hid eB
  have OK := Lib.hid o
  clear eW e1 e2 h hn ha eF hl eB o
  go_enter Tryz.func6, Tryz.ntmps6
  go_wp2_with fail
  rw [HEW.out]
  refine (HC.out _).mono ?_
  rintro e w1 ⟨rfl, hb1⟩
  have HM1 := Lib.hid (HM.out.go hb1)
  clear hb1 HM x0 x1 x2 x3 x4 x5 x6 x7 x8 x9 x10 x11 z0 z1 z2 zf0 zf1 zf2 hl0
  obtain ⟨x0, x1, x2, x3, x4, x5, x6, x7, x8, x9, x10, x11⟩ := HM1.out.px.cells
  obtain ⟨z0, z1, z2, zf0, zf1, zf2⟩ := HM1.out.cells
  have hl0 := HM1.out.lt
  go_wp2_with fail
  refine (HNM.out _).mono ?_
  rintro e w' ⟨rfl, rfl⟩
  go_wp2_with fail
  refine (HW1.out _).mono ?_
  rintro e w' ⟨rfl, rfl⟩
  go_wp2_with fail
  refine (HW2.out _).mono ?_
  rintro e w' ⟨rfl, rfl⟩
  obtain ⟨W5, e5⟩ : ∃ W5, w1.alloc (.cells #[.int .i64 p.off, .string ⟨#[]⟩, .int .i64 0, .string p.name, .int .i64 0] 54) = W5 := ⟨_, rfl⟩
  obtain ⟨eb, eeb⟩ : ∃ eb, w1.heap.size = eb := ⟨_, rfl⟩
  have hb5 : Below w1.heap.size w1 W5 := by rw [← e5]; exact (Below.refl _ _).alloc (Nat.le_refl _) _
  have hx5 : W5.heap[eb]? = some (.cells #[.int .i64 p.off, .string ⟨#[]⟩, .int .i64 0, .string p.name, .int .i64 0] 54 (0, 0)) := by rw [← e5]; exact alloc_at _ _ _ eeb.symm
  have hne0 : w.heap.size ≠ eb := by omega
  have hne1 : w.heap.size + 1 ≠ eb := by omega
  have HB5 := Lib.hid hb5
  have HM5 := Lib.hid (HM1.out.go hb5)
  have HE5 := Lib.hid e5
  have HX5 := Lib.hid hx5
  have HEB := Lib.hid eeb
  clear hb5 hx5 e5 eeb
  go_upto_region 9 with fail
  rw [HE5.out, HEB.out]
  have hx5 := HX5.out
  have y0 : W5.cell? ⟨eb, 0, none⟩ = some (.int .i64 p.off) := (cell_of_row W5 _ 0 _ _ _ hx5).trans rfl
  have y1 : W5.cell? ⟨eb, 1, none⟩ = some (.string ⟨#[]⟩) := (cell_of_row W5 _ 1 _ _ _ hx5).trans rfl
  have y2 : W5.cell? ⟨eb, 2, none⟩ = some (.int .i64 0) := (cell_of_row W5 _ 2 _ _ _ hx5).trans rfl
  have y3 : W5.cell? ⟨eb, 3, none⟩ = some (.string p.name) := (cell_of_row W5 _ 3 _ _ _ hx5).trans rfl
  have y4 : W5.cell? ⟨eb, 4, none⟩ = some (.int .i64 0) := (cell_of_row W5 _ 4 _ _ _ hx5).trans rfl
  have yf1 : W5.frozen? ⟨eb, 1, none⟩ = false := by simp [World.frozen?, hx5]
  have yf3 : W5.frozen? ⟨eb, 3, none⟩ = false := by simp [World.frozen?, hx5]
  have hyl : eb < W5.heap.size := (Array.getElem?_eq_some_iff.mp hx5).1
  clear hx5 x0 x1 x2 x3 x4 x5 x6 x7 x8 x9 x10 x11 z0 z1 z2 zf0 zf1 zf2 hl0
  obtain ⟨x0, x1, x2, x3, x4, x5, x6, x7, x8, x9, x10, x11⟩ := HM5.out.px.cells
  obtain ⟨z0, z1, z2, zf0, zf1, zf2⟩ := HM5.out.cells
  have hl0 := HM5.out.lt
  go_upto_region 13 with fail
  rw [HF.out]
  obtain ⟨W7, e7, hb7, hx7⟩ := two_setR HX5.out (.string ⟨#[114, 105, 116, 101]⟩) (.string F)
  rw [e7]
  have hb17 : Below w1.heap.size w1 W7 := HB5.out.trans (hb7 _ (by rw [HEB.out]; exact Nat.le_refl _))
  have HM7 := Lib.hid (HM1.out.go hb17)
  have HX7 := Lib.hid hx7
  clear hb17 e7 hb7 x0 x1 x2 x3 x4 x5 x6 x7 x8 x9 x10 x11 z0 z1 z2 zf0 zf1 zf2 hl0 y0 y1 y2 y3 y4 yf1 yf3 hyl
  obtain ⟨x0, x1, x2, x3, x4, x5, x6, x7, x8, x9, x10, x11⟩ := HM7.out.px.cells
  obtain ⟨z0, z1, z2, zf0, zf1, zf2⟩ := HM7.out.cells
  have hl0 := HM7.out.lt
  have y3 : W7.cell? ⟨eb, 3, none⟩ = some (.string F) := (cell_of_row W7 _ 3 _ _ _ hx7).trans rfl
  clear hx7
  obtain ⟨W8, e8⟩ : ∃ W8, W7.alloc (.cells #[.int .i64 p.s.m, .int .i64 p.s.w, .int .i64 p.s.d, .int .i64 p.s.t, .int .i64 p.e.m, .int .i64 p.e.w, .int .i64 p.e.d, .int .i64 p.e.t] 23) = W8 := ⟨_, rfl⟩
  obtain ⟨rb, erb⟩ : ∃ rb, W7.heap.size = rb := ⟨_, rfl⟩
  have hb8 : Below W7.heap.size W7 W8 := by rw [← e8]; exact (Below.refl _ _).alloc (Nat.le_refl _) _
  have hx8 : W8.heap[rb]? = some (.cells #[.int .i64 p.s.m, .int .i64 p.s.w, .int .i64 p.s.d, .int .i64 p.s.t, .int .i64 p.e.m, .int .i64 p.e.w, .int .i64 p.e.d, .int .i64 p.e.t] 23 (0, 0)) := by rw [← e8]; exact alloc_at _ _ _ erb.symm
  have HM8 := Lib.hid (HM7.out.go hb8)
  have HE8 := Lib.hid e8
  have HX8 := Lib.hid hx8
  have HRB := Lib.hid erb
  have hk8 := (hb8.block eb (Array.getElem?_eq_some_iff.mp HX7.out).1).trans HX7.out
  have HK8 := Lib.hid hk8
  clear hb8 hx8 e8 erb hk8
  go_upto_region 16 with fail
  rw [HE8.out, HRB.out]
  go_loopw [12, 64] (fun s12 s64 wr => ∃ k : Nat, k ≤ 2 ∧ s64 = .int .i64 k ∧ wr.ownsRow W8.heap.size 59 11 s12 k (((rsRules p f t).take k).flatMap fun r => (ruCells r).toList) ∧ Below W8.heap.size W8 wr) (fun _ s64 _ => 2 - (intOf s64).toNat)
  case atStart => exact ⟨0, Nat.zero_le _, rfl, World.ownsRow_nil _ _ _ _, Below.refl _ _⟩
  case round =>
    obtain ⟨k, hk, rfl, hrow, hbel⟩ := hrel
    have HROW := Lib.hid hrow
    have HBE := Lib.hid hbel
    have HMR := Lib.hid (HM8.out.go hbel)
    have hxr := (hbel.block rb (Array.getElem?_eq_some_iff.mp HX8.out).1).trans HX8.out
    have hkr := (hbel.block eb (Array.getElem?_eq_some_iff.mp HK8.out).1).trans HK8.out
    obtain ⟨A7, c7, rfl⟩ := own_sliceN hrow
    by_cases hlt : k < 2
    · have hop := OK.out
      have hq : ∃ r : Rt, okRt r = true ∧ wr.cell? ⟨rb, k * 4, none⟩ = some (.int .i64 r.m) ∧ wr.cell? ⟨rb, k * 4 + 1, none⟩ = some (.int .i64 r.w) ∧ wr.cell? ⟨rb, k * 4 + 2, none⟩ = some (.int .i64 r.d) ∧ wr.cell? ⟨rb, k * 4 + 3, none⟩ = some (.int .i64 r.t) ∧
          (rsRules p f t).take (k + 1) = (rsRules p f t).take k ++ [rtRu r f t ((1 - (k : Int)) * (p.aoff - p.off))] := by
        rcases (show k = 0 ∨ k = 1 by omega) with rfl | rfl
        · refine ⟨p.s, hop.s, (cell_of_row wr _ 0 _ _ _ hxr).trans rfl, (cell_of_row wr _ 1 _ _ _ hxr).trans rfl, (cell_of_row wr _ 2 _ _ _ hxr).trans rfl, (cell_of_row wr _ 3 _ _ _ hxr).trans rfl, ?_⟩
          have e : (1 - ((0 : Nat) : Int)) * (p.aoff - p.off) = p.aoff - p.off := by omega
          rw [e]; rfl
        · refine ⟨p.e, hop.e, (cell_of_row wr _ 4 _ _ _ hxr).trans rfl, (cell_of_row wr _ 5 _ _ _ hxr).trans rfl, (cell_of_row wr _ 6 _ _ _ hxr).trans rfl, (cell_of_row wr _ 7 _ _ _ hxr).trans rfl, ?_⟩
          have e : (1 - ((1 : Nat) : Int)) * (p.aoff - p.off) = 0 := by omega
          rw [e]; rfl
      obtain ⟨r, hrk, r0, r1, r2, r3, htk⟩ := hq
      have HTK := Lib.hid htk
      have hrl : rb < wr.heap.size := (Array.getElem?_eq_some_iff.mp hxr).1
      have hwr := HMR.out.lt
      have hel : eb < W8.heap.size := (Array.getElem?_eq_some_iff.mp HK8.out).1
      have hwl : w.heap.size < W8.heap.size := by have := HM8.out.lt; omega
      obtain ⟨sv, esv⟩ : ∃ sv, (1 - (k : Int)) * (p.aoff - p.off) = sv := ⟨_, rfl⟩
      have hsvb : -100000 ≤ sv ∧ sv ≤ 100000 := by
        have d1 := hop.a1
        have d2 := hop.a2
        have d3 := hop.o1
        have d4 := hop.o2
        rcases (show k = 0 ∨ k = 1 by omega) with rfl | rfl
        · have e : (1 - ((0 : Nat) : Int)) * (p.aoff - p.off) = p.aoff - p.off := by omega
          rw [e] at esv
          omega
        · have e : (1 - ((1 : Nat) : Int)) * (p.aoff - p.off) = 0 := by omega
          rw [e] at esv
          omega
      have hw1 : IntKind.i64.wrap (1 - (k : Int)) = 1 - (k : Int) := IntWalk.i64_in _ (by omega)
      have hw2 : IntKind.i64.wrap (p.aoff - p.off) = p.aoff - p.off := IntWalk.i64_in _ (by have d1 := hop.a1; have d2 := hop.a2; have d3 := hop.o1; have d4 := hop.o2; omega)
      have hw3 : IntKind.i64.wrap ((1 - (k : Int)) * (p.aoff - p.off)) = sv := by rw [esv]; exact IntWalk.i64_in _ (by omega)
      have HSV := Lib.hid hsvb
      have HESV := Lib.hid esv
      clear hsvb
      have HDO := Lib.hid (fun W => dayOf_any r W hrk)
      obtain ⟨Wc, ec⟩ : ∃ Wc, wr.alloc (.cells #[.int .i64 r.m, .int .i64 r.w, .int .i64 r.d, .int .i64 r.t] 23) = Wc := ⟨_, rfl⟩
      obtain ⟨qb, eqb⟩ : ∃ qb, wr.heap.size = qb := ⟨_, rfl⟩
      have hbc : Below wr.heap.size wr Wc := by rw [← ec]; exact (Below.refl _ _).alloc (Nat.le_refl _) _
      have hqc : Wc.heap[qb]? = some (.cells #[.int .i64 r.m, .int .i64 r.w, .int .i64 r.d, .int .i64 r.t] 23 (0, 0)) := by rw [← ec]; exact alloc_at _ _ _ eqb.symm
      have hwz := hbel.size
      have HIV : Hid (RbI W8 w.heap.size eb qb (pxCells p) #[.int .i64 p.off, .string ⟨#[114, 105, 116, 101]⟩, .int .i64 0, .string F, .int .i64 0] #[.int .i64 r.m, .int .i64 r.w, .int .i64 r.d, .int .i64 r.t] Wc) := by
        show RbI _ _ _ _ _ _ _ _
        exact ⟨hbel.trans (hbc.mono (by omega)), (hbc.block _ (by omega)).trans HMR.out.px, (hbc.block _ (by omega)).trans hkr, hqc, hwl, hel, by omega⟩
      have HECC := Lib.hid ec
      have HEQB := Lib.hid eqb
      have KS : Hid (∀ wx, RbI W8 w.heap.size eb qb (pxCells p) #[.int .i64 p.off, .string ⟨#[114, 105, 116, 101]⟩, .int .i64 0, .string F, .int .i64 0] #[.int .i64 r.m, .int .i64 r.w, .int .i64 r.d, .int .i64 r.t] wx → (RbI W8 w.heap.size eb qb (pxCells p) #[.int .i64 p.off, .string ⟨#[114, 105, 116, 101]⟩, .int .i64 0, .string F, .int .i64 0] #[.int .i64 r.m, .int .i64 r.w, .int .i64 r.d, .int .i64 r.t] wx ∧ wx.cell? ⟨eb, 1, none⟩ = some (.string ⟨#[114, 105, 116, 101]⟩) ∧ wx.cell? ⟨qb, 0, none⟩ = some (.int .i64 r.m) ∧ wx.cell? ⟨qb, 1, none⟩ = some (.int .i64 r.w) ∧ wx.cell? ⟨qb, 2, none⟩ = some (.int .i64 r.d) ∧ wx.cell? ⟨qb, 3, none⟩ = some (.int .i64 r.t) ∧ wx.cell? ⟨w.heap.size, 3, none⟩ = some (.int .i64 p.aoff) ∧ wx.cell? ⟨w.heap.size, 1, none⟩ = some (.int .i64 p.off))) := by
        show ∀ wx, _
        intro wx h
        exact ⟨h, (cell_of_row wx _ 1 _ _ _ h.e).trans rfl, (cell_of_row wx _ 0 _ _ _ h.q).trans rfl, (cell_of_row wx _ 1 _ _ _ h.q).trans rfl, (cell_of_row wx _ 2 _ _ _ h.q).trans rfl, (cell_of_row wx _ 3 _ _ _ h.q).trans rfl, (cell_of_row wx _ 3 _ _ _ h.x).trans rfl, (cell_of_row wx _ 1 _ _ _ h.x).trans rfl⟩
      have KI : Hid (∀ wx, (RbI W8 w.heap.size eb qb (pxCells p) #[.int .i64 p.off, .string ⟨#[114, 105, 116, 101]⟩, .int .i64 0, .string F, .int .i64 0] #[.int .i64 r.m, .int .i64 r.w, .int .i64 r.d, .int .i64 r.t] wx ∧ wx.cell? ⟨eb, 1, none⟩ = some (.string ⟨#[114, 105, 116, 101]⟩) ∧ wx.cell? ⟨qb, 0, none⟩ = some (.int .i64 r.m) ∧ wx.cell? ⟨qb, 1, none⟩ = some (.int .i64 r.w) ∧ wx.cell? ⟨qb, 2, none⟩ = some (.int .i64 r.d) ∧ wx.cell? ⟨qb, 3, none⟩ = some (.int .i64 r.t) ∧ wx.cell? ⟨w.heap.size, 3, none⟩ = some (.int .i64 p.aoff) ∧ wx.cell? ⟨w.heap.size, 1, none⟩ = some (.int .i64 p.off)) → RbI W8 w.heap.size eb qb (pxCells p) #[.int .i64 p.off, .string ⟨#[114, 105, 116, 101]⟩, .int .i64 0, .string F, .int .i64 0] #[.int .i64 r.m, .int .i64 r.w, .int .i64 r.d, .int .i64 r.t] wx) := by
        show ∀ wx, _
        intro wx h
        exact h.1
      have K0 : Hid (RbI W8 w.heap.size eb qb (pxCells p) #[.int .i64 p.off, .string ⟨#[114, 105, 116, 101]⟩, .int .i64 0, .string F, .int .i64 0] #[.int .i64 r.m, .int .i64 r.w, .int .i64 r.d, .int .i64 r.t] Wc.drew ∧ Wc.drew.cell? ⟨eb, 1, none⟩ = some (.string ⟨#[114, 105, 116, 101]⟩) ∧ Wc.drew.cell? ⟨qb, 0, none⟩ = some (.int .i64 r.m) ∧ Wc.drew.cell? ⟨qb, 1, none⟩ = some (.int .i64 r.w) ∧ Wc.drew.cell? ⟨qb, 2, none⟩ = some (.int .i64 r.d) ∧ Wc.drew.cell? ⟨qb, 3, none⟩ = some (.int .i64 r.t) ∧ Wc.drew.cell? ⟨w.heap.size, 3, none⟩ = some (.int .i64 p.aoff) ∧ Wc.drew.cell? ⟨w.heap.size, 1, none⟩ = some (.int .i64 p.off)) := by
        show _ ∧ _
        exact KS.out _ HIV.out.drew
      have K1 : Hid (∀ wx o', (RbI W8 w.heap.size eb qb (pxCells p) #[.int .i64 p.off, .string ⟨#[114, 105, 116, 101]⟩, .int .i64 0, .string F, .int .i64 0] #[.int .i64 r.m, .int .i64 r.w, .int .i64 r.d, .int .i64 r.t] wx ∧ wx.cell? ⟨eb, 1, none⟩ = some (.string ⟨#[114, 105, 116, 101]⟩) ∧ wx.cell? ⟨qb, 0, none⟩ = some (.int .i64 r.m) ∧ wx.cell? ⟨qb, 1, none⟩ = some (.int .i64 r.w) ∧ wx.cell? ⟨qb, 2, none⟩ = some (.int .i64 r.d) ∧ wx.cell? ⟨qb, 3, none⟩ = some (.int .i64 r.t) ∧ wx.cell? ⟨w.heap.size, 3, none⟩ = some (.int .i64 p.aoff) ∧ wx.cell? ⟨w.heap.size, 1, none⟩ = some (.int .i64 p.off)) → (RbI W8 w.heap.size eb qb (pxCells p) #[.int .i64 p.off, .string ⟨#[114, 105, 116, 101]⟩, .int .i64 0, .string F, .int .i64 0] #[.int .i64 r.m, .int .i64 r.w, .int .i64 r.d, .int .i64 r.t] (wx.alloc o') ∧ (wx.alloc o').cell? ⟨eb, 1, none⟩ = some (.string ⟨#[114, 105, 116, 101]⟩) ∧ (wx.alloc o').cell? ⟨qb, 0, none⟩ = some (.int .i64 r.m) ∧ (wx.alloc o').cell? ⟨qb, 1, none⟩ = some (.int .i64 r.w) ∧ (wx.alloc o').cell? ⟨qb, 2, none⟩ = some (.int .i64 r.d) ∧ (wx.alloc o').cell? ⟨qb, 3, none⟩ = some (.int .i64 r.t) ∧ (wx.alloc o').cell? ⟨w.heap.size, 3, none⟩ = some (.int .i64 p.aoff) ∧ (wx.alloc o').cell? ⟨w.heap.size, 1, none⟩ = some (.int .i64 p.off))) := by
        show ∀ wx o', _
        intro wx o' h
        exact KS.out _ (h.1.alloc o')
      have KB : Hid (∀ wx wy, (RbI W8 w.heap.size eb qb (pxCells p) #[.int .i64 p.off, .string ⟨#[114, 105, 116, 101]⟩, .int .i64 0, .string F, .int .i64 0] #[.int .i64 r.m, .int .i64 r.w, .int .i64 r.d, .int .i64 r.t] wx ∧ wx.cell? ⟨eb, 1, none⟩ = some (.string ⟨#[114, 105, 116, 101]⟩) ∧ wx.cell? ⟨qb, 0, none⟩ = some (.int .i64 r.m) ∧ wx.cell? ⟨qb, 1, none⟩ = some (.int .i64 r.w) ∧ wx.cell? ⟨qb, 2, none⟩ = some (.int .i64 r.d) ∧ wx.cell? ⟨qb, 3, none⟩ = some (.int .i64 r.t) ∧ wx.cell? ⟨w.heap.size, 3, none⟩ = some (.int .i64 p.aoff) ∧ wx.cell? ⟨w.heap.size, 1, none⟩ = some (.int .i64 p.off)) → Below wx.heap.size wx wy → (RbI W8 w.heap.size eb qb (pxCells p) #[.int .i64 p.off, .string ⟨#[114, 105, 116, 101]⟩, .int .i64 0, .string F, .int .i64 0] #[.int .i64 r.m, .int .i64 r.w, .int .i64 r.d, .int .i64 r.t] wy ∧ wy.cell? ⟨eb, 1, none⟩ = some (.string ⟨#[114, 105, 116, 101]⟩) ∧ wy.cell? ⟨qb, 0, none⟩ = some (.int .i64 r.m) ∧ wy.cell? ⟨qb, 1, none⟩ = some (.int .i64 r.w) ∧ wy.cell? ⟨qb, 2, none⟩ = some (.int .i64 r.d) ∧ wy.cell? ⟨qb, 3, none⟩ = some (.int .i64 r.t) ∧ wy.cell? ⟨w.heap.size, 3, none⟩ = some (.int .i64 p.aoff) ∧ wy.cell? ⟨w.heap.size, 1, none⟩ = some (.int .i64 p.off))) := by
        show ∀ wx wy, _
        intro wx wy h hb
        exact KS.out _ (h.1.below hb)
      have KG : Hid (∀ wx wy row, (RbI W8 w.heap.size eb qb (pxCells p) #[.int .i64 p.off, .string ⟨#[114, 105, 116, 101]⟩, .int .i64 0, .string F, .int .i64 0] #[.int .i64 r.m, .int .i64 r.w, .int .i64 r.d, .int .i64 r.t] wx ∧ wx.cell? ⟨eb, 1, none⟩ = some (.string ⟨#[114, 105, 116, 101]⟩) ∧ wx.cell? ⟨qb, 0, none⟩ = some (.int .i64 r.m) ∧ wx.cell? ⟨qb, 1, none⟩ = some (.int .i64 r.w) ∧ wx.cell? ⟨qb, 2, none⟩ = some (.int .i64 r.d) ∧ wx.cell? ⟨qb, 3, none⟩ = some (.int .i64 r.t) ∧ wx.cell? ⟨w.heap.size, 3, none⟩ = some (.int .i64 p.aoff) ∧ wx.cell? ⟨w.heap.size, 1, none⟩ = some (.int .i64 p.off)) → wx.grownBy wy row → (∀ q, row = some q → W8.heap.size ≤ q ∧ q ≠ qb) → (RbI W8 w.heap.size eb qb (pxCells p) #[.int .i64 p.off, .string ⟨#[114, 105, 116, 101]⟩, .int .i64 0, .string F, .int .i64 0] #[.int .i64 r.m, .int .i64 r.w, .int .i64 r.d, .int .i64 r.t] wy ∧ wy.cell? ⟨eb, 1, none⟩ = some (.string ⟨#[114, 105, 116, 101]⟩) ∧ wy.cell? ⟨qb, 0, none⟩ = some (.int .i64 r.m) ∧ wy.cell? ⟨qb, 1, none⟩ = some (.int .i64 r.w) ∧ wy.cell? ⟨qb, 2, none⟩ = some (.int .i64 r.d) ∧ wy.cell? ⟨qb, 3, none⟩ = some (.int .i64 r.t) ∧ wy.cell? ⟨w.heap.size, 3, none⟩ = some (.int .i64 p.aoff) ∧ wy.cell? ⟨w.heap.size, 1, none⟩ = some (.int .i64 p.off))) := by
        show ∀ wx wy row, _
        intro wx wy row h hg hr
        exact KS.out _ (h.1.grown hg hr)
      have KO : Hid (∀ q, Value.ownBlock (.slice A7 k c7) = some q → W8.heap.size ≤ q ∧ q ≠ qb) := by
        show ∀ q, _
        intro q e
        have := World.ownsRow.lt hrow q e
        omega
      have KRW : Hid (∀ wy o', Below Wc.drew.heap.size Wc.drew wy → (wy.alloc o').ownsRow W8.heap.size 59 11 (.slice A7 k c7) k (((rsRules p f t).take k).flatMap fun r => (ruCells r).toList)) := by
        show ∀ wy o', _
        intro wy o' hb
        refine own_keep hrow fun g e => ?_
        have h1 := (World.ownsRow.lt hrow g e).2
        have h2 : Wc.drew.heap.size = wr.heap.size + 1 := by show Wc.heap.size = _; rw [← ec]; simp
        have h3 := hb.size
        rw [Below.heap_alloc _ _ _ (by omega)]
        exact (hb.block g (by omega)).trans (hbc.block g h1)
      have KZ : Hid (∀ wx, (RbI W8 w.heap.size eb qb (pxCells p) #[.int .i64 p.off, .string ⟨#[114, 105, 116, 101]⟩, .int .i64 0, .string F, .int .i64 0] #[.int .i64 r.m, .int .i64 r.w, .int .i64 r.d, .int .i64 r.t] wx ∧ wx.cell? ⟨eb, 1, none⟩ = some (.string ⟨#[114, 105, 116, 101]⟩) ∧ wx.cell? ⟨qb, 0, none⟩ = some (.int .i64 r.m) ∧ wx.cell? ⟨qb, 1, none⟩ = some (.int .i64 r.w) ∧ wx.cell? ⟨qb, 2, none⟩ = some (.int .i64 r.d) ∧ wx.cell? ⟨qb, 3, none⟩ = some (.int .i64 r.t) ∧ wx.cell? ⟨w.heap.size, 3, none⟩ = some (.int .i64 p.aoff) ∧ wx.cell? ⟨w.heap.size, 1, none⟩ = some (.int .i64 p.off)) → W8.heap.size ≤ wx.heap.size) := by
        show ∀ wx, _
        intro wx h
        exact h.1.b.size
      obtain ⟨i1, hi1, hz10, hz11, hz12⟩ := info_parts infoRuB
      have hm1a : k + 1 ≤ maxLen := by simp only [maxLen]; omega
      have hm1b : (k + 1) * 104 ≤ 140737488355328 := by omega
      have HO1 : Hid (∀ u ∈ ([.string ⟨#[114, 105, 116, 101]⟩, .int .i64 f, .int .i64 t, .int .i64 r.m, .int .i64 (dK r), .int .i64 r.d, .int .i64 (dN r), .int .i64 r.t, .int .i64 0, .int .i64 sv, .string ⟨#[45]⟩] : List Value), u.oneCell' = true) := by
        show ∀ u ∈ _, _
        simp [Value.oneCell']
      have HNL : Hid ((((rsRules p f t).take (k + 1)).flatMap fun r => (ruCells r).toList) = (((rsRules p f t).take k).flatMap fun r => (ruCells r).toList) ++ [.string ⟨#[114, 105, 116, 101]⟩, .int .i64 f, .int .i64 t, .int .i64 r.m, .int .i64 (dK r), .int .i64 r.d, .int .i64 (dN r), .int .i64 r.t, .int .i64 0, .int .i64 sv, .string ⟨#[45]⟩]) := by
        show _ = _
        rw [htk, List.flatMap_append, esv]
        congr 1
      clear hrk htk hxr hkr hrow hbel hop hbc hqc ec eqb esv x0 x1 x2 x3 x4 x5 x6 x7 x8 x9 x10 x11 z0 z1 z2 zf0 zf1 zf2 hl0 y3
      go_upto_region 18 with fail
      rw [HECC.out, HEQB.out]
      go_region_held3 (fun wx => (RbI W8 w.heap.size eb qb (pxCells p) #[.int .i64 p.off, .string ⟨#[114, 105, 116, 101]⟩, .int .i64 0, .string F, .int .i64 0] #[.int .i64 r.m, .int .i64 r.w, .int .i64 r.d, .int .i64 r.t] wx ∧ wx.cell? ⟨eb, 1, none⟩ = some (.string ⟨#[114, 105, 116, 101]⟩) ∧ wx.cell? ⟨qb, 0, none⟩ = some (.int .i64 r.m) ∧ wx.cell? ⟨qb, 1, none⟩ = some (.int .i64 r.w) ∧ wx.cell? ⟨qb, 2, none⟩ = some (.int .i64 r.d) ∧ wx.cell? ⟨qb, 3, none⟩ = some (.int .i64 r.t) ∧ wx.cell? ⟨w.heap.size, 3, none⟩ = some (.int .i64 p.aoff) ∧ wx.cell? ⟨w.heap.size, 1, none⟩ = some (.int .i64 p.off))) (first | (with_reducible exact K0.out) | (with_reducible assumption) | (with_reducible exact K1.out _ _ (by assumption))) (first | (go_at_call 17; refine (HDO.out _).mono ?_; rintro e wD ⟨rfl, hbD⟩; have hsD := KB.out _ _ (by assumption) hbD; have HRD := Lib.hid (fun o' => KRW.out _ o' hbD); clear hbD) | (refine step_append_ownA _ (by rfl) _ _ _ (by rfl) W8.heap.size 59 i1 (.agg #[.string ⟨#[]⟩, .int .i64 0, .int .i64 0, .int .i64 0, .int .i64 0, .int .i64 0, .int .i64 0, .int .i64 0, .int .i64 0, .int .i64 0, .string ⟨#[]⟩]) 11 104 undRuB hi1 hz10 hz11 hz12 rfl (by decide) (.slice A7 k c7) k (((rsRules p f t).take k).flatMap fun r => (ruCells r).toList) (by rfl) (HRD.out _) ⟨wD.heap.size, 0, none⟩ 1 1 ([.string ⟨#[114, 105, 116, 101]⟩, .int .i64 f, .int .i64 t, .int .i64 r.m, .int .i64 (dK r), .int .i64 r.d, .int .i64 (dN r), .int .i64 r.t, .int .i64 0, .int .i64 sv, .string ⟨#[45]⟩]) (by rfl) (by rfl) (World.news_of_block (heap_alloc_new wD (.cells #[.string ⟨#[114, 105, 116, 101]⟩, .int .i64 f, .int .i64 t, .int .i64 r.m, .int .i64 (dK r), .int .i64 r.d, .int .i64 (dN r), .int .i64 r.t, .int .i64 0, .int .i64 sv, .string ⟨#[45]⟩] 59))) HO1.out hm1a hm1b (KZ.out _ (by assumption)) ?_; intro v9 w9 hown9 hg9 _; have hs9 := KG.out _ _ _ (by assumption) hg9 KO.out; have HOW9 := Lib.hid hown9; clear hown9 hg9))
      go_wp2_with fail
      go_roundw
      case rel =>
        refine ⟨k + 1, by omega, by go_num, ?_, (KI.out _ hs9).b⟩
        rw [HNL.out]
        exact HOW9.out
      case measure => simp [intOf]; omega
    · obtain rfl : k = 2 := by omega
      have hM6 : RbM w ((wr.alloc (.cells #[.int .i64 p.off, .string ⟨#[114, 105, 116, 101]⟩, .int .i64 0, .string F, .int .i64 0] 54)).alloc (.cells #[.string nm, .slice (some ⟨wr.heap.size, 0, none⟩) 1 1] 62)) p := HMR.out.go (((Below.refl _ _).alloc (Nat.le_refl _) _).alloc (by simp) _)
      have HM6 := Lib.hid hM6
      have HKR := Lib.hid hkr
      obtain ⟨q0, q1, q2, qf0, qf1, qf2⟩ := hM6.cells
      have y0 : wr.cell? ⟨eb, 0, none⟩ = some (.int .i64 p.off) := (cell_of_row wr _ 0 _ _ _ hkr).trans rfl
      have y1 : wr.cell? ⟨eb, 1, none⟩ = some (.string ⟨#[114, 105, 116, 101]⟩) := (cell_of_row wr _ 1 _ _ _ hkr).trans rfl
      have y2 : wr.cell? ⟨eb, 2, none⟩ = some (.int .i64 0) := (cell_of_row wr _ 2 _ _ _ hkr).trans rfl
      have y4 : wr.cell? ⟨eb, 4, none⟩ = some (.int .i64 0) := (cell_of_row wr _ 4 _ _ _ hkr).trans rfl
      have y3 : wr.cell? ⟨eb, 3, none⟩ = some (.string F) := (cell_of_row wr _ 3 _ _ _ hkr).trans rfl
      have hyr : eb < wr.heap.size := (Array.getElem?_eq_some_iff.mp hkr).1
      have hwr := HMR.out.lt
      clear hM6 hkr hxr hrow hbel x0 x1 x2 x3 x4 x5 x6 x7 x8 x9 x10 x11 z0 z1 z2 zf0 zf1 zf2 hl0 hlt hk
      go_wp2
      obtain ⟨W9, e9, hb9, v0, v1, v2, ho⟩ := HM6.out.out (.slice A7 2 c7) (.slice (some ⟨wr.heap.size + 1, 0, none⟩) 1 1) (.slice none 0 0)
      rw [e9]
      have g5 : W9.heap[wr.heap.size]? = some (.cells #[.int .i64 p.off, .string ⟨#[114, 105, 116, 101]⟩, .int .i64 0, .string F, .int .i64 0] 54 (0, 0)) := by
        rw [ho _ (by omega), Below.heap_alloc _ _ _ (by simp)]
        exact heap_alloc_new wr _
      have g6 : W9.heap[wr.heap.size + 1]? = some (.cells #[.string nm, .slice (some ⟨wr.heap.size, 0, none⟩) 1 1] 62 (0, 0)) := by
        rw [ho _ (by omega)]
        exact alloc_at _ _ _ (by simp)
      have hr9 : W9.ownsRow W8.heap.size 59 11 (.slice A7 2 c7) 2 (((rsRules p f t).take 2).flatMap fun r => (ruCells r).toList) := own_keep HROW.out fun g e => by
        have hg := World.ownsRow.lt HROW.out g e
        have hb8s := HM8.out.lt
        rw [ho g (by omega), Below.heap_alloc _ _ _ (by simp; omega), Below.heap_alloc _ _ _ hg.2]
      have hr10 : RowsAt (fun r : Ru => (ruCells r).toList) 11 W9.heap.size W9 (.slice A7 2 c7) (rsRules p f t) := rows_ofR (cells := fun r : Ru => (ruCells r).toList) (k := 11) (l := rsRules p f t) (fun _ => rfl) hr9 (by show (2 : Nat) ≤ _; omega)
      have hop := OK.out
      have hsr : ∀ r ∈ rsRules p f t, SzR r := by
        intro r hr
        unfold rsRules at hr
        rcases List.mem_cons.1 hr with rfl | hr
        · exact ⟨by show 4 ≤ _; omega, by show 1 ≤ _; omega⟩
        · obtain rfl := List.mem_singleton.1 hr
          exact ⟨by show 4 ≤ _; omega, by show 1 ≤ _; omega⟩
      refine bodyPost_ret (v := .tuple #[.agg #[.slice A7 2 c7, .slice (some ⟨wr.heap.size + 1, 0, none⟩) 1 1, .slice none 0 0], .int .i64 0]) (by simp [results, Tryz.results6, go_sem, v0, v1, v2]) rfl ⟨hb9, _, _, rfl, Value.slice (some ⟨wr.heap.size, 0, none⟩) 1 1, ?_⟩
      rw [EB.out]
      exact oneBook_at hr10 hsr g5 g6 ⟨by show 4 ≤ _; omega, by show F.size ≤ _; omega, by have := hop.o1; show _ ≤ p.off; omega, by have := hop.o2; show p.off ≤ _; omega, by show _ ≤ (0 : Int); omega, by show (0 : Int) ≤ _; omega, by show _ ≤ (0 : Int); omega, by show (0 : Int) ≤ _; omega⟩ hs
end Go.Proofs.YtacogloheiendaaGreatDoor
namespace Go.Proofs.YtacogloheiendaaGreatDoor
open Go.RowKit Go.Joins
set_option linter.unusedVariables false
set_option linter.unusedSimpArgs false

set_option maxRecDepth 100000 in
set_option maxHeartbeats 1000000 in
theorem Span_pos (n : Int) (w : World) (h0 : 0 ≤ n) (h1 : n ≤ 604800) (ht : Tab10 w) :
    Calls Tryz.prog 69 #[.int .i64 n] w fun e w' => e = .returned (.tuple #[.string (txt (spanP n)), .int .i64 0]) ∧ Below w.heap.size w w' := by
  have HT := Lib.hid ht
  clear ht
  have ha : ¬ n < -604800 := by omega
  have hb : ¬ 604800 < n := by omega
  go_enter Tryz.func69, Tryz.ntmps69
  go_wp2_with fail
  refine (itoa_text _ _ (by omega) (by omega) HT.out).mono ?_
  have hA := itoa_len3 (n := n / 3600) (by omega) (by omega)
  rw [← txt_size] at hA
  obtain ⟨A, eA⟩ : ∃ A, txt (Lib.itoa (n / 3600)) = A := ⟨_, rfl⟩
  rw [eA] at hA ⊢
  have EA := Lib.hid eA
  clear eA
  rintro e w1 ⟨rfl, hb1⟩
  go_wp2_with fail
  refine (two_any _ _ (by omega) (by omega)).mono ?_
  obtain ⟨B, eB⟩ : ∃ B, txt (T2 (n / 60 % 60)) = B := ⟨_, rfl⟩
  rw [eB]
  have hB2 : B.size ≤ 2 := by rw [← eB, txt_size, T2_length]; omega
  have EB := Lib.hid eB
  clear eB
  rintro e w2 ⟨rfl, hb2⟩
  have b2 := hb1.trans (hb2.mono hb1.size)
  by_cases hz : n % 60 = 0
  · go_wp2_with fail
    go_ret2
    refine ⟨?_, b2⟩
    show Ending.returned (.tuple #[.string (txt [] ++ A ++ ⟨#[58]⟩ ++ B), .int .i64 0]) = _
    rw [← EA.out, ← EB.out, cat1, spanP, if_pos hz]
    rfl
  · go_wp2_with fail
    refine (two_any _ _ (by omega) (by omega)).mono ?_
    obtain ⟨C, eC⟩ : ∃ C, txt (T2 (n % 60)) = C := ⟨_, rfl⟩
    rw [eC]
    have hC2 : C.size ≤ 2 := by rw [← eC, txt_size, T2_length]; omega
    have EC := Lib.hid eC
    clear eC
    rintro e w3 ⟨rfl, hb3⟩
    go_wp2_with fail
    go_ret2
    refine ⟨?_, b2.trans (hb3.mono b2.size)⟩
    show Ending.returned (.tuple #[.string (txt [] ++ A ++ ⟨#[58]⟩ ++ B ++ (⟨#[58]⟩ ++ C)), .int .i64 0]) = _
    rw [← EA.out, ← EB.out, ← EC.out, cat2, spanP, if_neg hz]
    rfl
set_option maxRecDepth 100000 in
set_option maxHeartbeats 1000000 in
theorem Span_neg (n : Int) (w : World) (h0 : 0 < n) (h1 : n ≤ 604800) (ht : Tab10 w) :
    Calls Tryz.prog 69 #[.int .i64 (-n)] w fun e w' => e = .returned (.tuple #[.string (txt (45 :: spanP n)), .int .i64 0]) ∧ Below w.heap.size w w' := by
  have HT := Lib.hid ht
  clear ht
  have ha : ¬ -n < -604800 := by omega
  have hb : ¬ 604800 < -n := by omega
  go_enter Tryz.func69, Tryz.ntmps69
  go_wp2_with fail
  refine (itoa_text _ _ (by omega) (by omega) HT.out).mono ?_
  have hA := itoa_len3 (n := n / 3600) (by omega) (by omega)
  rw [← txt_size] at hA
  obtain ⟨A, eA⟩ : ∃ A, txt (Lib.itoa (n / 3600)) = A := ⟨_, rfl⟩
  rw [eA] at hA ⊢
  have EA := Lib.hid eA
  clear eA
  rintro e w1 ⟨rfl, hb1⟩
  go_wp2_with fail
  refine (two_any _ _ (by omega) (by omega)).mono ?_
  obtain ⟨B, eB⟩ : ∃ B, txt (T2 (n / 60 % 60)) = B := ⟨_, rfl⟩
  rw [eB]
  have hB2 : B.size ≤ 2 := by rw [← eB, txt_size, T2_length]; omega
  have EB := Lib.hid eB
  clear eB
  rintro e w2 ⟨rfl, hb2⟩
  have b2 := hb1.trans (hb2.mono hb1.size)
  by_cases hz : n % 60 = 0
  · go_wp2_with fail
    go_ret2
    refine ⟨?_, b2⟩
    show Ending.returned (.tuple #[.string (txt [45] ++ A ++ ⟨#[58]⟩ ++ B), .int .i64 0]) = _
    rw [← EA.out, ← EB.out, cat1, spanP, if_pos hz]
    rfl
  · go_wp2_with fail
    refine (two_any _ _ (by omega) (by omega)).mono ?_
    obtain ⟨C, eC⟩ : ∃ C, txt (T2 (n % 60)) = C := ⟨_, rfl⟩
    rw [eC]
    have hC2 : C.size ≤ 2 := by rw [← eC, txt_size, T2_length]; omega
    have EC := Lib.hid eC
    clear eC
    rintro e w3 ⟨rfl, hb3⟩
    go_wp2_with fail
    go_ret2
    refine ⟨?_, b2.trans (hb3.mono b2.size)⟩
    show Ending.returned (.tuple #[.string (txt [45] ++ A ++ ⟨#[58]⟩ ++ B ++ (⟨#[58]⟩ ++ C)), .int .i64 0]) = _
    rw [← EA.out, ← EB.out, ← EC.out, cat2, spanP, if_neg hz]
    rfl

theorem Span_ok (n : Int) (w : World) (h0 : -604800 ≤ n) (h1 : n ≤ 604800) (ht : Tab10 w) :
    Calls Tryz.prog 69 #[.int .i64 n] w fun e w' => e = .returned (.tuple #[.string (txt (spanT n)), .int .i64 0]) ∧ Below w.heap.size w w' := by
  unfold spanT
  by_cases h : n < 0
  · rw [if_pos h]
    have := Span_neg (-n) w (by omega) (by omega) ht
    rw [Int.neg_neg] at this
    exact this
  · rw [if_neg h]; exact Span_pos n w (by omega) h1 ht
end Go.Proofs.YtacogloheiendaaGreatDoor
namespace Go.Proofs.YtacogloheiendaaGreatDoor
open Go.RowKit Go.Joins
set_option linter.unusedVariables false
set_option linter.unusedSimpArgs false

theorem itoa_len {n : Int} (h0 : 0 ≤ n) (h1 : n < 100) : (Lib.itoa n).length ≤ 2 := by
  by_cases h : n < 10
  · rw [itoa_small h0 h]; simp
  · have : Lib.itoa n = T2 n := by
      unfold Lib.itoa
      rw [if_neg (by omega), Lib.decDigits, dif_neg (by omega), Lib.decDigits, dif_pos (by omega)]
      unfold T2
      rw [show (n / 10).toNat = n.toNat / 10 by omega, show (n % 10).toNat = n.toNat % 10 by omega]
      rfl
    rw [this]; simp [T2]
theorem itoa_lenC {n : Int} (h0 : 0 ≤ n) (h1 : n < 1000) : (Lib.itoa n).length ≤ 3 := by
  by_cases h : n < 100
  · have := itoa_len h0 h; omega
  · unfold Lib.itoa
    rw [if_neg (by omega), Lib.decDigits, dif_neg (by omega), Lib.decDigits, dif_neg (by omega), Lib.decDigits, dif_pos (by omega)]
    simp
theorem span_len {n : Int} (h0 : -604800 ≤ n) (h1 : n ≤ 604800) : (spanT n).length ≤ 10 := by
  unfold spanT spanP
  split
  · have := itoa_lenC (n := -n / 3600) (by omega) (by omega)
    simp only [List.length_cons, List.length_append, T2_length]
    split <;> simp [T2_length] <;> omega
  · have := itoa_lenC (n := n / 3600) (by omega) (by omega)
    simp only [List.length_cons, List.length_append, T2_length]
    split <;> simp [T2_length] <;> omega

theorem text_any (nm : ByteArray) (off : Int) (w : World) (hs : nm.size ≤ 100) (h0 : -604800 ≤ off) (h1 : off ≤ 604800) (ht : Tab10 w) :
    Calls Tryz.prog 35 #[.string nm, .int .i64 off] w fun e w' => e = .returned (.string (nm ++ txt (spanT (-off)))) ∧ Below w.heap.size w w' := by
  have HS := Lib.hid (fun W (hb : Tab10 W) => Span_ok (-off) W (by omega) (by omega) hb)
  have hl := span_len (n := -off) (by omega) (by omega)
  obtain ⟨Y, eY⟩ : ∃ Y, txt (spanT (-off)) = Y := ⟨_, rfl⟩
  have hY : Y.size ≤ 10 := by rw [← eY, txt_size]; exact hl
  rw [eY] at HS ⊢
  have HT := Lib.hid ht
  clear eY hl ht
  go_enter Tryz.func35, Tryz.ntmps35
  go_wp2_with fail
  refine (HS.out _ HT.out).mono ?_
  rintro e w1 ⟨rfl, hb1⟩
  have HB := Lib.hid hb1
  clear hb1
  go_wp2
  go_ret
  exact ⟨rfl, HB.out⟩

def riteT (r : Rt) : List UInt8 := [44, 77] ++ (Lib.itoa r.m ++ ([46] ++ (Lib.itoa r.w ++ ([46] ++ (Lib.itoa r.d ++ ([47] ++ spanT r.t))))))
theorem cat8 (a b c d : List UInt8) : (⟨#[44, 77]⟩ : ByteArray) ++ txt a ++ ⟨#[46]⟩ ++ txt b ++ ⟨#[46]⟩ ++ txt c ++ ⟨#[47]⟩ ++ txt d = txt ([44, 77] ++ (a ++ ([46] ++ (b ++ ([46] ++ (c ++ ([47] ++ d))))))) := by
  rw [show (⟨#[46]⟩ : ByteArray) = txt [46] from rfl, show (⟨#[47]⟩ : ByteArray) = txt [47] from rfl, show (⟨#[44, 77]⟩ : ByteArray) = txt [44, 77] from rfl]
  simp only [txt_append]
  simp

set_option maxRecDepth 100000 in
set_option maxHeartbeats 4000000 in
theorem riteText_any (r : Rt) (w : World) (h : okRt r = true) (ht : Tab10 w) :
    Calls Tryz.prog 36 #[rtV r] w fun e w' => e = .returned (.string (txt (riteT r))) ∧ Below w.heap.size w w' := by
  obtain ⟨a1, a2, a3, a4, a5, a6, a7, a8⟩ := okRt_iff.1 h
  have HS := Lib.hid (fun W (hb : Tab10 W) => Span_ok r.t W (by omega) (by omega) hb)
  have H1 := Lib.hid (fun W (hb : Tab10 W) => itoa_text r.m W (by omega) (by omega) hb)
  have H2 := Lib.hid (fun W (hb : Tab10 W) => itoa_text r.w W (by omega) (by omega) hb)
  have H3 := Lib.hid (fun W (hb : Tab10 W) => itoa_text r.d W (by omega) (by omega) hb)
  have l1 := itoa_len (n := r.m) (by omega) (by omega)
  have l2 := itoa_len (n := r.w) (by omega) (by omega)
  have l3 := itoa_len (n := r.d) (by omega) (by omega)
  have l4 := span_len (n := r.t) (by omega) (by omega)
  have hE : txt (riteT r) = (⟨#[44, 77]⟩ : ByteArray) ++ txt (Lib.itoa r.m) ++ ⟨#[46]⟩ ++ txt (Lib.itoa r.w) ++ ⟨#[46]⟩ ++ txt (Lib.itoa r.d) ++ ⟨#[47]⟩ ++ txt (spanT r.t) := by rw [cat8]; rfl
  obtain ⟨M, eM⟩ : ∃ Y, txt (Lib.itoa r.m) = Y := ⟨_, rfl⟩
  obtain ⟨K, eK⟩ : ∃ Y, txt (Lib.itoa r.w) = Y := ⟨_, rfl⟩
  obtain ⟨D, eD⟩ : ∃ Y, txt (Lib.itoa r.d) = Y := ⟨_, rfl⟩
  obtain ⟨S, eS⟩ : ∃ Y, txt (spanT r.t) = Y := ⟨_, rfl⟩
  have hM : M.size ≤ 2 := by rw [← eM, txt_size]; exact l1
  have hK : K.size ≤ 2 := by rw [← eK, txt_size]; exact l2
  have hD : D.size ≤ 2 := by rw [← eD, txt_size]; exact l3
  have hS : S.size ≤ 10 := by rw [← eS, txt_size]; exact l4
  rw [eM, eK, eD, eS] at hE
  rw [eM] at H1
  rw [eK] at H2
  rw [eD] at H3
  rw [eS] at HS
  have HE := Lib.hid hE
  have HT := Lib.hid ht
  clear eM eK eD eS l1 l2 l3 l4 hE ht h a1 a2 a3 a4 a5 a6 a7 a8
  obtain ⟨m, k, d, t⟩ := r
  simp only at H1 H2 H3 HS
  obtain ⟨W0, eW⟩ : ∃ W0, w.alloc (.cells #[.int .i64 m, .int .i64 k, .int .i64 d, .int .i64 t] 23) = W0 := ⟨_, rfl⟩
  have h0 : W0.heap[w.heap.size]? = some (.cells #[.int .i64 m, .int .i64 k, .int .i64 d, .int .i64 t] 23 (0, 0)) := by rw [← eW]; exact heap_alloc_new w _
  have hb0 : Below w.heap.size w W0 := by rw [← eW]; exact (Below.refl _ _).alloc (Nat.le_refl _) _
  have c3 : W0.cell? ⟨w.heap.size, 3, none⟩ = some (.int .i64 t) := (cell_of_row W0 _ 3 _ _ _ h0).trans rfl
  have hl0 := (Array.getElem?_eq_some_iff.mp h0).1
  have HEW := Lib.hid eW
  have HB0 := Lib.hid hb0
  have H0 := Lib.hid h0
  clear eW hb0 h0
  go_enter Tryz.func36, Tryz.ntmps36
  go_wp2_with fail
  rw [HEW.out]
  refine (HS.out _ (HT.out.below HB0.out)).mono ?_
  rintro e w1 ⟨rfl, hb1⟩
  have G1 := Lib.hid ((hb1.block _ hl0).trans H0.out)
  have HB1 := Lib.hid (HB0.out.trans (hb1.mono HB0.out.size))
  have hl1 := (Array.getElem?_eq_some_iff.mp G1.out).1
  clear hb1 H0 HB0 c3 hl0
  have KB : Hid (∀ wx, Below w1.heap.size w1 wx → (Below w1.heap.size w1 wx ∧ wx.cell? ⟨w.heap.size, 0, none⟩ = some (.int .i64 m) ∧ wx.cell? ⟨w.heap.size, 1, none⟩ = some (.int .i64 k) ∧ wx.cell? ⟨w.heap.size, 2, none⟩ = some (.int .i64 d))) := by
    show ∀ wx, Below w1.heap.size w1 wx → _
    intro wx hb
    have g := (hb.block _ hl1).trans G1.out
    exact ⟨hb, (cell_of_row wx _ 0 _ _ _ g).trans rfl, (cell_of_row wx _ 1 _ _ _ g).trans rfl, (cell_of_row wx _ 2 _ _ _ g).trans rfl⟩
  have KR : Hid (∀ wx, (Below w1.heap.size w1 wx ∧ wx.cell? ⟨w.heap.size, 0, none⟩ = some (.int .i64 m) ∧ wx.cell? ⟨w.heap.size, 1, none⟩ = some (.int .i64 k) ∧ wx.cell? ⟨w.heap.size, 2, none⟩ = some (.int .i64 d)) → Below w1.heap.size w1 wx) := by
    show ∀ wx, _ → Below w1.heap.size w1 wx
    exact fun wx h => h.1
  have KT : Hid (∀ wx, Below w1.heap.size w1 wx → Tab10 wx) := by
    show ∀ wx, Below w1.heap.size w1 wx → Tab10 wx
    exact fun wx h => HT.out.below (HB1.out.trans (h.mono HB1.out.size))
  have r1 := fun W => run_string_add_sum (P := Tryz.prog) W (⟨#[44, 77]⟩ : ByteArray) M (by show 2 + _ ≤ _; omega)
  have r2 := fun W => run_string_add_sum (P := Tryz.prog) W ((⟨#[44, 77]⟩ : ByteArray) ++ M) ⟨#[46]⟩ (by simp only [ByteArray.size_append]; show 2 + _ + 1 ≤ _; omega)
  have r3 := fun W => run_string_add_sum (P := Tryz.prog) W ((⟨#[44, 77]⟩ : ByteArray) ++ M ++ ⟨#[46]⟩) K (by simp only [ByteArray.size_append]; show 2 + _ + 1 + _ ≤ _; omega)
  have r4 := fun W => run_string_add_sum (P := Tryz.prog) W ((⟨#[44, 77]⟩ : ByteArray) ++ M ++ ⟨#[46]⟩ ++ K) ⟨#[46]⟩ (by simp only [ByteArray.size_append]; show 2 + _ + 1 + _ + 1 ≤ _; omega)
  have r5 := fun W => run_string_add_sum (P := Tryz.prog) W ((⟨#[44, 77]⟩ : ByteArray) ++ M ++ ⟨#[46]⟩ ++ K ++ ⟨#[46]⟩) D (by simp only [ByteArray.size_append]; show 2 + _ + 1 + _ + 1 + _ ≤ _; omega)
  have r6 := fun W => run_string_add_sum (P := Tryz.prog) W ((⟨#[44, 77]⟩ : ByteArray) ++ M ++ ⟨#[46]⟩ ++ K ++ ⟨#[46]⟩ ++ D) ⟨#[47]⟩ (by simp only [ByteArray.size_append]; show 2 + _ + 1 + _ + 1 + _ + 1 ≤ _; omega)
  have r7 := fun W => run_string_add_sum (P := Tryz.prog) W ((⟨#[44, 77]⟩ : ByteArray) ++ M ++ ⟨#[46]⟩ ++ K ++ ⟨#[46]⟩ ++ D ++ ⟨#[47]⟩) S (by simp only [ByteArray.size_append]; show 2 + _ + 1 + _ + 1 + _ + 1 + _ ≤ _; omega)
  go_upto_region 2 with fail
  go_cut [2] (fun s2 wx => s2 = .string ((⟨#[44, 77]⟩ : ByteArray) ++ M ++ ⟨#[46]⟩ ++ K ++ ⟨#[46]⟩ ++ D ++ ⟨#[47]⟩ ++ S) ∧ Below w1.heap.size w1 wx)
  case first =>
    go_region_held3 (fun wx => Below w1.heap.size w1 wx ∧ wx.cell? ⟨w.heap.size, 0, none⟩ = some (.int .i64 m) ∧ wx.cell? ⟨w.heap.size, 1, none⟩ = some (.int .i64 k) ∧ wx.cell? ⟨w.heap.size, 2, none⟩ = some (.int .i64 d)) ((refine KB.out _ ?_; repeat (first | (with_reducible assumption) | (with_reducible exact Below.refl _ _) | (with_reducible refine Below.drew ?_))))
      (first
        | (go_at_call_of 43 (Value.int IntKind.i64 m); refine (H1.out _ (KT.out _ (KR.out _ (by assumption)))).mono ?_; rintro e w2 ⟨rfl, hb2⟩; have hB2 := ((KR.out _ (by assumption)).trans (hb2.mono (KR.out _ (by assumption)).size)); clear hb2)
        | (go_at_call_of 43 (Value.int IntKind.i64 k); refine (H2.out _ (KT.out _ (KR.out _ (by assumption)))).mono ?_; rintro e w3 ⟨rfl, hb3⟩; have hB3 := ((KR.out _ (by assumption)).trans (hb3.mono (KR.out _ (by assumption)).size)); clear hb3)
        | (go_at_call_of 43 (Value.int IntKind.i64 d); refine (H3.out _ (KT.out _ (KR.out _ (by assumption)))).mono ?_; rintro e w4 ⟨rfl, hb4⟩; have hB4 := ((KR.out _ (by assumption)).trans (hb4.mono (KR.out _ (by assumption)).size)); clear hb4))
    all_goals go_wp2_with fail
    all_goals go_meet
    all_goals exact ⟨rfl, KR.out _ (by assumption)⟩
  case rest =>
    obtain ⟨rfl, hbc⟩ := hcut
    have HZ := Lib.hid (HB1.out.trans (hbc.mono HB1.out.size))
    clear hbc
    go_wp2
    go_ret
    exact ⟨ret_v (by rw [HE.out]; rfl), HZ.out⟩
end Go.Proofs.YtacogloheiendaaGreatDoor
namespace Go.Proofs.YtacogloheiendaaGreatDoor
open Go.RowKit Go.Joins
set_option linter.unusedVariables false
set_option linter.unusedSimpArgs false

set_option maxRecDepth 100000 in
set_option maxHeartbeats 8000000 in
theorem At_near (p : Px) (t : Int) (w : World) (h1 : p.name.size ≤ maxLen) (h2 : p.also.size ≤ maxLen) (ht1 : -9223372036854775808 ≤ t) (ht2 : t ≤ 9223372036854775807) (ht : Tab10 w) (hn : pxChk p = 0 → okSt t = true) :
    Calls Tryz.prog 9 #[pxV p, .int .i64 t] w fun e w' => e = .returned (riteR p t) ∧ Below w.heap.size w w' := by
  obtain ⟨W0, eW⟩ : ∃ W0, (w.alloc (.cells (pxCells p) 25)).alloc (.cells #[.int .i64 0, .bool false, .string ⟨#[]⟩] 41) = W0 := ⟨_, rfl⟩
  obtain ⟨hz, g0, g1, hb0⟩ := two_al eW
  have HM : Hid (AtM w W0 p) := by show AtM _ _ _; exact ⟨g0, g1, hb0⟩
  have HT := Lib.hid ht
  have HN0 := Lib.hid hn
  have HEW := Lib.hid eW
  have HC := Lib.hid (fun W => rCheck_any p W h1 h2)
  obtain ⟨C, eC⟩ : ∃ C, pxChk p = C := ⟨_, rfl⟩
  rw [eC] at HC
  have EC := Lib.hid eC
  clear eW eC g0 g1 hb0 h1 h2 ht hn
  go_enter Tryz.func9, Tryz.ntmps9
  go_wp2_with fail
  rw [HEW.out]
  refine (HC.out _).mono ?_
  rintro e w1 ⟨rfl, hb1⟩
  have HM1 := Lib.hid (HM.out.go hb1)
  obtain ⟨z0, z1, z2, zf⟩ := HM1.out.zero
  have zf0 := zf 0
  have zf1 := zf 1
  have zf2 := zf 2
  obtain ⟨x0, x1, x2, x3, x4, x5, x6, x7, x8, x9, x10, x11⟩ := HM1.out.px.cells
  have hl1 := HM1.out.lt
  clear hb1 HM zf hz
  by_cases hc : C = 0
  · subst hc
    have ho := px_off EC.out
    obtain ⟨ho1, ho2⟩ := ho
    have hs := HN0.out EC.out
    · have hs' := okSt_iff.1 hs
      have ht3 : -11676096000 ≤ t := by omega
      have ht4 : t ≤ 13569465599 := by omega
      have HS := Lib.hid hs
      clear hs hs' ht1 ht2
      have HST := Lib.hid (fun W (hb : Tab10 W) => Stamp_ok t W (okSt_iff.1 HS.out).1 (okSt_iff.1 HS.out).2 hb)
      go_wp2_with fail
      obtain ⟨W3, e3⟩ : ∃ W3, w1.alloc (.cells #[.int .i64 t, .int .i64 (t + p.off)] 3) = W3 := ⟨_, rfl⟩
      rw [e3]
      have hz3 : w1.heap.size < W3.heap.size := by rw [← e3]; simp
      have h3 : W3.heap[w1.heap.size]? = some (.cells #[.int .i64 t, .int .i64 (t + p.off)] 3 (0, 0)) := by rw [← e3]; exact heap_alloc_new w1 _
      have hb3 : Below w1.heap.size w1 W3 := by rw [← e3]; exact (Below.refl _ _).alloc (Nat.le_refl _) _
      have HM3 := Lib.hid (HM1.out.go hb3)
      have H3 := Lib.hid h3
      have hl3 := HM3.out.lt
      clear e3 h3 hb3 HM1 z0 z1 z2 zf0 zf1 zf2 x0 x1 x2 x3 x4 x5 x6 x7 x8 x9 x10 x11
      go_loopw [36] (fun i wr => ∃ k : Nat, k ≤ 2 ∧ i = .int .i64 k ∧ (2 ≤ k → okSt (t + p.off) = true) ∧ Below W3.heap.size W3 wr) (fun i _ => 2 - (intOf i).toNat)
      case atStart => exact ⟨0, by omega, rfl, fun h => absurd h (by omega), Below.refl _ _⟩
      case round =>
        obtain ⟨k, hk, rfl, hs2, hbr⟩ := hrel
        have HBR := Lib.hid hbr
        have HMR := Lib.hid (HM3.out.go hbr)
        have HTR := Lib.hid (HT.out.below HMR.out.b)
        have H4 := Lib.hid ((hbr.block _ hz3).trans H3.out)
        have hzr := hbr.size
        clear hbr
        have hk3 : k = 0 ∨ k = 1 ∨ k = 2 := by omega
        clear hk
        have d0 : wr.cell? ⟨w1.heap.size, 0, none⟩ = some (.int .i64 t) := (cell_of_row wr _ 0 _ _ _ H4.out).trans rfl
        have d1 : wr.cell? ⟨w1.heap.size, 1, none⟩ = some (.int .i64 (t + p.off)) := (cell_of_row wr _ 1 _ _ _ H4.out).trans rfl
        rcases hk3 with rfl | rfl | rfl
        · clear hs2 d1
          go_wp2_with fail
          refine (HST.out _ HTR.out).mono ?_
          rintro e w4 ⟨rfl, hb4⟩
          have HZ := Lib.hid (HBR.out.trans (hb4.mono HBR.out.size))
          clear hb4 d0
          go_wp2
          go_roundw
          case rel => exact ⟨1, by omega, rfl, fun h => absurd h (by omega), HZ.out⟩
          case measure => simp [intOf]
        · clear hs2 d0
          by_cases hq : okSt (t + p.off) = true
          · have hq' := okSt_iff.1 hq
            have HQ := Lib.hid hq
            have HSU := Lib.hid (Stamp_ok (t + p.off) wr hq'.1 hq'.2 HTR.out)
            clear hq hq'
            go_wp2_with fail
            refine HSU.out.mono ?_
            rintro e w4 ⟨rfl, hb4⟩
            have HZ := Lib.hid (HBR.out.trans (hb4.mono HBR.out.size))
            clear hb4 d1
            go_wp2
            go_roundw
            case rel => exact ⟨2, by omega, rfl, fun _ => HQ.out, HZ.out⟩
            case measure => simp [intOf]
          · have hq' : ¬ (-135140 ≤ (t + p.off) / 86400 ∧ (t + p.off) / 86400 ≤ 157053) := fun h => hq (okSt_iff.2 h)
            have HSU := Lib.hid (Stamp_no (t + p.off) wr (by omega) (by omega) (by omega))
            have HQ := Lib.hid (eq_false_of_ne_true hq)
            clear hq hq'
            go_wp2_with fail
            refine HSU.out.mono ?_
            rintro e w4 ⟨rfl, hb4⟩
            have HM5 := Lib.hid (HMR.out.go hb4)
            obtain ⟨z0, z1, z2, zf⟩ := HM5.out.zero
            have zf0 := zf 0
            have zf1 := zf 1
            have zf2 := zf 2
            have hl5 := HM5.out.lt
            clear hb4 d1 zf
            go_wp2
            obtain ⟨W9, e9, hb9, v0, v1, v2⟩ := HM5.out.out 0 false ⟨#[]⟩
            rw [e9]
            refine bodyPost_ret (v := atV 0 false ⟨#[]⟩ 1) (by simp [results, Tryz.results9, go_sem, v0, v1, v2]) rfl ⟨ret_v ?_, hb9⟩
            unfold riteR
            rw [if_neg (by rw [EC.out]; simp), if_pos (Or.inr HQ.out)]
        · have HS2 := Lib.hid (hs2 (by omega))
          obtain ⟨z0, z1, z2, zf⟩ := HMR.out.zero
          have zf0 := zf 0
          have zf1 := zf 1
          have zf2 := zf 2
          obtain ⟨x0, x1, x2, x3, x4, x5, x6, x7, x8, x9, x10, x11⟩ := HMR.out.px.cells
          have hlr := HMR.out.lt
          have hlr0 := HMR.out.px.lt
          clear hs2 d0 d1 zf
          go_upto_region 13 with fail
          obtain ⟨W5, e5⟩ : ∃ W5, (wr.alloc (.cells #[.int .i64 p.off, .bool false, .string p.name] 41)).alloc (.cells #[.int .i64 p.aoff, .bool true, .string p.also] 41) = W5 := ⟨_, rfl⟩
          rw [e5]
          obtain ⟨hz5, g1, g2, hb5⟩ := two_al e5
          have HM5 := Lib.hid (HMR.out.go hb5)
          have HG1 := Lib.hid g1
          have HG2 := Lib.hid g2
          have hl5 := HM5.out.lt
          have hl50 := HM5.out.px.lt
          clear e5 g1 g2 hb5 HMR HTR HBR H4 H3 HM3 z0 z1 z2 zf0 zf1 zf2 x0 x1 x2 x3 x4 x5 x6 x7 x8 x9 x10 x11 hlr hlr0 hl3 hz3 hl1
          obtain ⟨z0, z1, z2, zf⟩ := HM5.out.zero
          have zf0 := zf 0
          have zf1 := zf 1
          have zf2 := zf 2
          obtain ⟨x0, x1, x2, x3, x4, x5, x6, x7, x8, x9, x10, x11⟩ := HM5.out.px.cells
          have s0 : W5.cell? ⟨wr.heap.size, 0, none⟩ = some (.int .i64 p.off) := (cell_of_row W5 _ 0 _ _ _ HG1.out).trans rfl
          have s1 : W5.cell? ⟨wr.heap.size, 1, none⟩ = some (.bool false) := (cell_of_row W5 _ 1 _ _ _ HG1.out).trans rfl
          have s2 : W5.cell? ⟨wr.heap.size, 2, none⟩ = some (.string p.name) := (cell_of_row W5 _ 2 _ _ _ HG1.out).trans rfl
          clear zf
          by_cases ha : p.also.toList = []
          · have ha2 : p.also.toList.isEmpty = true := by simpa using ha
            have HA := Lib.hid ha
            go_wp2
            obtain ⟨W9, e9, hb9, v0, v1, v2⟩ := HM5.out.out p.off false p.name
            rw [e9]
            refine bodyPost_ret (v := atV p.off false p.name 0) (by simp [results, Tryz.results9, go_sem, v0, v1, v2]) rfl ⟨ret_v ?_, hb9⟩
            unfold riteR
            rw [if_neg (by rw [EC.out]; simp), if_neg (by rw [HS.out, HS2.out]; simp), if_pos HA.out]
          · have ha2 : p.also.toList.isEmpty = false := by simpa using ha
            have HA := Lib.hid ha
            have hq2 := okSt_iff.1 HS2.out
            obtain ⟨n, en⟩ : ∃ n, (t + p.off) / 86400 = n := ⟨_, rfl⟩
            have HF := Lib.hid (fun W => Floor_any (t + p.off) 86400 W (by decide) (by decide) (by omega) (by omega))
            rw [en] at HF hq2
            have EN := Lib.hid en
            have HDT := Lib.hid (fun W => Date_ok n W hq2.1 hq2.2)
            obtain ⟨hv, -⟩ := Civ.date_valid n hq2.1 hq2.2
            obtain ⟨v1, v2, -, -, -, -⟩ := hv
            obtain ⟨Y, eY⟩ : ∃ Y, Civ.yy n = Y := ⟨_, rfl⟩
            rw [eY] at v1 v2 HDT
            have HTN := Lib.hid (fun W => turns_ok p Y W (px_ok EC.out HA.out) v1 v2)
            have HRR : Hid (riteR p t = if isS (tS p Y) (tE p Y) t = true then atV p.aoff true p.also 0 else atV p.off false p.name 0) := by
              show _ = _
              unfold riteR
              rw [if_neg (by rw [EC.out]; simp), if_neg (by rw [HS.out, HS2.out]; simp), if_neg HA.out]
              unfold sumB yOf
              rw [en, eY]
            obtain ⟨a, ea⟩ : ∃ a, tS p Y = a := ⟨_, rfl⟩
            obtain ⟨b, eb⟩ : ∃ a, tE p Y = a := ⟨_, rfl⟩
            rw [ea, eb] at HTN HRR
            obtain ⟨M, eM⟩ : ∃ M, Civ.mm n = M := ⟨_, rfl⟩
            obtain ⟨D, eD⟩ : ∃ D, Civ.dd n = D := ⟨_, rfl⟩
            rw [eM, eD] at HDT
            clear ha en hq2 eY v1 v2 ea eb eM eD
            go_wp2_with fail
            refine (HF.out _).mono ?_
            rintro e w6 ⟨rfl, hb6⟩
            have HM6 := Lib.hid (HM5.out.go hb6)
            have G1 := Lib.hid ((hb6.block _ (by omega)).trans HG1.out)
            have G2 := Lib.hid ((hb6.block _ (by omega)).trans HG2.out)
            have hz6 := hb6.size
            clear hb6 HM5 HG1 HG2 z0 z1 z2 zf0 zf1 zf2 x0 x1 x2 x3 x4 x5 x6 x7 x8 x9 x10 x11 s0 s1 s2
            go_wp2_with fail
            refine (HDT.out _).mono ?_
            rintro e w' ⟨rfl, rfl⟩
            obtain ⟨x0, x1, x2, x3, x4, x5, x6, x7, x8, x9, x10, x11⟩ := HM6.out.px.cells
            go_wp2_with fail
            refine (HTN.out _).mono ?_
            rintro e w7 ⟨rfl, hb7⟩
            have HM7 := Lib.hid (HM6.out.go hb7)
            have G3 := Lib.hid ((hb7.block _ (by omega)).trans G1.out)
            have G4 := Lib.hid ((hb7.block _ (by omega)).trans G2.out)
            have hz7 := hb7.size
            clear hb7 HM6 G1 G2 x0 x1 x2 x3 x4 x5 x6 x7 x8 x9 x10 x11
            obtain ⟨z0, z1, z2, zf⟩ := HM7.out.zero
            have zf0 := zf 0
            have zf1 := zf 1
            have zf2 := zf 2
            have s0 : w7.cell? ⟨wr.heap.size, 0, none⟩ = some (.int .i64 p.off) := (cell_of_row w7 _ 0 _ _ _ G3.out).trans rfl
            have s1 : w7.cell? ⟨wr.heap.size, 1, none⟩ = some (.bool false) := (cell_of_row w7 _ 1 _ _ _ G3.out).trans rfl
            have s2 : w7.cell? ⟨wr.heap.size, 2, none⟩ = some (.string p.name) := (cell_of_row w7 _ 2 _ _ _ G3.out).trans rfl
            have r0 : w7.cell? ⟨wr.heap.size + 1, 0, none⟩ = some (.int .i64 p.aoff) := (cell_of_row w7 _ 0 _ _ _ G4.out).trans rfl
            have r1 : w7.cell? ⟨wr.heap.size + 1, 1, none⟩ = some (.bool true) := (cell_of_row w7 _ 1 _ _ _ G4.out).trans rfl
            have r2 : w7.cell? ⟨wr.heap.size + 1, 2, none⟩ = some (.string p.also) := (cell_of_row w7 _ 2 _ _ _ G4.out).trans rfl
            clear zf
            have HYES : Hid (isS a b t = true → riteR p t = atV p.aoff true p.also 0) := by
              show _ → _
              intro h
              rw [HRR.out, if_pos h]
            have HNO : Hid (isS a b t = false → riteR p t = atV p.off false p.name 0) := by
              show _ → _
              intro h
              rw [HRR.out, if_neg (by rw [h]; simp)]
            by_cases c1 : a ≤ t
            · by_cases c2 : t < b
              · by_cases c3 : b ≤ a
                · exact absurd (show False by omega) id
                · have hI : isS a b t = true := by unfold isS; exact decide_eq_true (by omega)
                  have HI := Lib.hid hI
                  clear hI
                  go_upto_region 22 with fail
                  go_wp2
                  obtain ⟨W9, e9, hb9, v0, v1, v2⟩ := HM7.out.out p.aoff true p.also
                  rw [e9]
                  exact bodyPost_ret (v := atV p.aoff true p.also 0) (by simp [results, Tryz.results9, go_sem, v0, v1, v2]) rfl ⟨ret_v (HYES.out HI.out).symm, hb9⟩
              · by_cases c3 : b ≤ a
                · have hI : isS a b t = true := by unfold isS; exact decide_eq_true (by omega)
                  have HI := Lib.hid hI
                  clear hI
                  go_upto_region 22 with fail
                  go_wp2
                  obtain ⟨W9, e9, hb9, v0, v1, v2⟩ := HM7.out.out p.aoff true p.also
                  rw [e9]
                  exact bodyPost_ret (v := atV p.aoff true p.also 0) (by simp [results, Tryz.results9, go_sem, v0, v1, v2]) rfl ⟨ret_v (HYES.out HI.out).symm, hb9⟩
                · have hI : isS a b t = false := by unfold isS; exact decide_eq_false (by omega)
                  have HI := Lib.hid hI
                  clear hI
                  go_upto_region 23 with fail
                  go_wp2
                  obtain ⟨W9, e9, hb9, v0, v1, v2⟩ := HM7.out.out p.off false p.name
                  rw [e9]
                  exact bodyPost_ret (v := atV p.off false p.name 0) (by simp [results, Tryz.results9, go_sem, v0, v1, v2]) rfl ⟨ret_v (HNO.out HI.out).symm, hb9⟩
            · by_cases c2 : t < b
              · by_cases c3 : b ≤ a
                · have hI : isS a b t = true := by unfold isS; exact decide_eq_true (by omega)
                  have HI := Lib.hid hI
                  clear hI
                  go_upto_region 22 with fail
                  go_wp2
                  obtain ⟨W9, e9, hb9, v0, v1, v2⟩ := HM7.out.out p.aoff true p.also
                  rw [e9]
                  exact bodyPost_ret (v := atV p.aoff true p.also 0) (by simp [results, Tryz.results9, go_sem, v0, v1, v2]) rfl ⟨ret_v (HYES.out HI.out).symm, hb9⟩
                · have hI : isS a b t = false := by unfold isS; exact decide_eq_false (by omega)
                  have HI := Lib.hid hI
                  clear hI
                  go_upto_region 23 with fail
                  go_wp2
                  obtain ⟨W9, e9, hb9, v0, v1, v2⟩ := HM7.out.out p.off false p.name
                  rw [e9]
                  exact bodyPost_ret (v := atV p.off false p.name 0) (by simp [results, Tryz.results9, go_sem, v0, v1, v2]) rfl ⟨ret_v (HNO.out HI.out).symm, hb9⟩
              · by_cases c3 : b ≤ a
                · have hI : isS a b t = false := by unfold isS; exact decide_eq_false (by omega)
                  have HI := Lib.hid hI
                  clear hI
                  go_upto_region 23 with fail
                  go_wp2
                  obtain ⟨W9, e9, hb9, v0, v1, v2⟩ := HM7.out.out p.off false p.name
                  rw [e9]
                  exact bodyPost_ret (v := atV p.off false p.name 0) (by simp [results, Tryz.results9, go_sem, v0, v1, v2]) rfl ⟨ret_v (HNO.out HI.out).symm, hb9⟩
                · exact absurd (show False by omega) id
  · have hc' : (C == 0) = false := by simpa using hc
    have hc'' : (C != 0) = true := by simpa using hc
    have HN := Lib.hid hc
    clear hc
    go_wp2
    obtain ⟨W9, e9, hb9, v0, v1, v2⟩ := HM1.out.out 0 false ⟨#[]⟩
    rw [e9]
    refine bodyPost_ret (v := atV 0 false ⟨#[]⟩ C) (by simp [results, Tryz.results9, go_sem, v0, v1, v2]) rfl ⟨ret_v ?_, hb9⟩
    unfold riteR
    rw [if_pos (by rw [EC.out]; exact HN.out), EC.out]

theorem At_any (p : Px) (t : Int) (w : World) (h1 : p.name.size ≤ maxLen) (h2 : p.also.size ≤ maxLen) (ht1 : -9223372036854775808 ≤ t) (ht2 : t ≤ 9223372036854775807) (ht : Tab10 w) :
    Calls Tryz.prog 9 #[pxV p, .int .i64 t] w fun e w' => e = .returned (riteR p t) ∧ Below w.heap.size w w' := by
  by_cases h : pxChk p = 0 ∧ okSt t = false
  · exact At_far p t w h1 h2 ht1 ht2 h.1 h.2
  · exact At_near p t w h1 h2 ht1 ht2 ht fun h0 => by
      by_cases hs : okSt t = true
      · exact hs
      · exact absurd ⟨h0, eq_false_of_ne_true hs⟩ h
end Go.Proofs.YtacogloheiendaaGreatDoor
