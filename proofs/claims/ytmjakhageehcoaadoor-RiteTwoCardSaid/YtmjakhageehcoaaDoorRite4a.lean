/- rite.At: its memory; a time that is too far. -/
import Derived.Test.YtmjakhageehcoaaDoorRite3
import Derived.Test.YtmjakhageehcoaaDoorClk2a
namespace Go.Proofs.YtmjakhageehcoaaDoor
open Go.RowKit Go.Joins
set_option linter.unusedVariables false
set_option linter.unusedSimpArgs false

abbrev atV (o : Int) (s : Bool) (n : ByteArray) (c : Int) : Value := .tuple #[.agg #[.int .i64 o, .bool s, .string n], .int .i64 c]
def riteR (p : Px) (t : Int) : Value :=
  if pxChk p ≠ 0 then atV 0 false ⟨#[]⟩ (pxChk p) else
  if okSt t = false ∨ okSt (t + p.off) = false then atV 0 false ⟨#[]⟩ 1 else
  if p.also.toList = [] then atV p.off false p.name 0 else
  if sumB p t = true then atV p.aoff true p.also 0 else atV p.off false p.name 0
theorem ret_v {a b : Value} (h : a = b) : Ending.returned a = .returned b := by rw [h]

theorem heap_setCR {w : World} {R i : Nat} {cs : Array Value} {T : TypeId} {f : Nat × Nat} (h : w.heap[R]? = some (.cells cs T f)) (v : Value) : (w.setCell ⟨R, i, none⟩ v).heap[R]? = some (.cells (cs.setIfInBounds i v) T f) := by
  simp [World.setCell, Array.getElem?_modify, h]
theorem end_cellsR {W : World} {g : Nat} {a b c : Value} {T : TypeId} (h : W.heap[g]? = some (.cells #[a, b, c] T (0, 0))) (x y z : Value) :
    ∃ W', ((W.setCell ⟨g, 0, none⟩ x).setCell ⟨g, 1, none⟩ y).setCell ⟨g, 2, none⟩ z = W' ∧ (∀ B, B ≤ g → Below B W W') ∧ W'.heap[g]? = some (.cells #[x, y, z] T (0, 0)) ∧ ∀ b, b ≠ g → W'.heap[b]? = W.heap[b]? := by
  refine ⟨_, rfl, fun B hB => (((Below.refl _ _).setCell (by exact hB) _).setCell (by exact hB) _).setCell (by exact hB) _, ?_, fun b hb => (Below.heap_setCell _ _ _ _ hb).trans ((Below.heap_setCell _ _ _ _ hb).trans (Below.heap_setCell _ _ _ _ hb))⟩
  rw [heap_setCR (i := 2) (heap_setCR (i := 1) (heap_setCR (i := 0) h x) y) z]
  rfl

theorem two_al {w W : World} {o1 o2 : Obj} (e : (w.alloc o1).alloc o2 = W) : W.heap.size = w.heap.size + 2 ∧ W.heap[w.heap.size]? = some o1 ∧ W.heap[w.heap.size + 1]? = some o2 ∧ Below w.heap.size w W := by
  subst e
  refine ⟨by simp, ?_, ?_, ((Below.refl _ _).alloc (Nat.le_refl _) _).alloc (by simp) _⟩
  · rw [Below.heap_alloc _ _ _ (by simp)]; exact heap_alloc_new w o1
  · have := heap_alloc_new (w.alloc o1) o2
    simpa using this

/-- the memory of a call under way: the argument's box, and the result's -/
structure AtM (w W : World) (p : Px) : Prop where
  px : PxBx W w.heap.size p
  r : W.heap[w.heap.size + 1]? = some (.cells #[.int .i64 0, .bool false, .string ⟨#[]⟩] 45 (0, 0))
  b : Below w.heap.size w W
theorem AtM.lt {w W : World} {p : Px} (h : AtM w W p) : w.heap.size + 1 < W.heap.size := (Array.getElem?_eq_some_iff.mp h.r).1
theorem AtM.go {w W W' : World} {p : Px} (h : AtM w W p) (hb : Below W.heap.size W W') : AtM w W' p :=
  ⟨h.px.below hb, (hb.block _ h.lt).trans h.r, h.b.trans (hb.mono h.b.size)⟩
theorem AtM.out {w W : World} {p : Px} (h : AtM w W p) (o : Int) (s : Bool) (n : ByteArray) :
    ∃ W', ((W.setCell ⟨w.heap.size + 1, 0, none⟩ (.int .i64 o)).setCell ⟨w.heap.size + 1, 1, none⟩ (.bool s)).setCell ⟨w.heap.size + 1, 2, none⟩ (.string n) = W' ∧ Below w.heap.size w W' ∧
      W'.cell? ⟨w.heap.size + 1, 0, none⟩ = some (.int .i64 o) ∧ W'.cell? ⟨w.heap.size + 1, 1, none⟩ = some (.bool s) ∧ W'.cell? ⟨w.heap.size + 1, 2, none⟩ = some (.string n) := by
  obtain ⟨W', e, hb, hr, -⟩ := end_cellsR h.r (.int .i64 o) (.bool s) (.string n)
  exact ⟨W', e, h.b.trans (hb _ (by omega)), (cell_of_row W' _ 0 _ _ _ hr).trans rfl, (cell_of_row W' _ 1 _ _ _ hr).trans rfl, (cell_of_row W' _ 2 _ _ _ hr).trans rfl⟩
theorem AtM.zero {w W : World} {p : Px} (h : AtM w W p) :
      W.cell? ⟨w.heap.size + 1, 0, none⟩ = some (.int .i64 0) ∧ W.cell? ⟨w.heap.size + 1, 1, none⟩ = some (.bool false) ∧ W.cell? ⟨w.heap.size + 1, 2, none⟩ = some (.string ⟨#[]⟩) ∧ ∀ o, W.frozen? ⟨w.heap.size + 1, o, none⟩ = false :=
  ⟨(cell_of_row W _ 0 _ _ _ h.r).trans rfl, (cell_of_row W _ 1 _ _ _ h.r).trans rfl, (cell_of_row W _ 2 _ _ _ h.r).trans rfl, fun o => by simp [World.frozen?, h.r]⟩

set_option maxRecDepth 100000 in
set_option maxHeartbeats 8000000 in
theorem At_far (p : Px) (t : Int) (w : World) (h1 : p.name.size ≤ maxLen) (h2 : p.also.size ≤ maxLen) (ht1 : -9223372036854775808 ≤ t) (ht2 : t ≤ 9223372036854775807) (ec : pxChk p = 0) (hs : okSt t = false) :
    Calls Tryd.prog 17 #[pxV p, .int .i64 t] w fun e w' => e = .returned (riteR p t) ∧ Below w.heap.size w w' := by
  obtain ⟨W0, eW⟩ : ∃ W0, (w.alloc (.cells (pxCells p) 51)).alloc (.cells #[.int .i64 0, .bool false, .string ⟨#[]⟩] 45) = W0 := ⟨_, rfl⟩
  obtain ⟨hz, g0, g1, hb0⟩ := two_al eW
  have HM : Hid (AtM w W0 p) := by show AtM _ _ _; exact ⟨g0, g1, hb0⟩
  have HEW := Lib.hid eW
  have HC := Lib.hid (fun W => rCheck_any p W h1 h2)
  rw [ec] at HC
  have EC := Lib.hid ec
  have HSN := Lib.hid (fun W => Stamp_no t W (by
        have : ¬ (-135140 ≤ t / 86400 ∧ t / 86400 ≤ 157053) := fun h => by rw [okSt_iff.2 h] at hs; cases hs
        omega) ht1 ht2)
  have HQ := Lib.hid hs
  clear eW g0 g1 hb0 h1 h2 ec hs ht1 ht2
  go_enter Tryd.func17, Tryd.ntmps17
  go_wp2_with fail
  rw [HEW.out]
  refine (HC.out _).mono ?_
  rintro e w1 ⟨rfl, hb1⟩
  have HM1 := Lib.hid (HM.out.go hb1)
  obtain ⟨z0, z1, z2, zf⟩ := HM1.out.zero
  have zf0 := zf 0
  have zf1 := zf 1
  have zf2 := zf 2
  obtain ⟨x0, x1, x2, x3, x4, x5, x6, x7, x8, x9, x10, x11⟩ := HM1.out.px.cells
  have hl1 := HM1.out.lt
  clear hb1 HM zf hz
  go_wp2_with fail
  obtain ⟨U, eU⟩ : ∃ U, wrap64 (t + p.off) = U := ⟨_, rfl⟩
  try rw [eU]
  clear eU
  obtain ⟨W3, e3⟩ : ∃ W3, w1.alloc (.cells #[.int .i64 t, .int .i64 U] 3) = W3 := ⟨_, rfl⟩
  rw [e3]
  have h3 : W3.heap[w1.heap.size]? = some (.cells #[.int .i64 t, .int .i64 U] 3 (0, 0)) := by rw [← e3]; exact heap_alloc_new w1 _
  have hb3 : Below w1.heap.size w1 W3 := by rw [← e3]; exact (Below.refl _ _).alloc (Nat.le_refl _) _
  have HM3 := Lib.hid (HM1.out.go hb3)
  have H3 := Lib.hid h3
  have hl3 := HM3.out.lt
  clear e3 h3 hb3 HM1 z0 z1 z2 zf0 zf1 zf2 x0 x1 x2 x3 x4 x5 x6 x7 x8 x9 x10 x11
  go_loopw [36] (fun i wr => i = .int .i64 0 ∧ wr = W3) (fun i _ => 0)
  case atStart => exact ⟨rfl, rfl⟩
  case round =>
    obtain ⟨rfl, rfl⟩ := hrel
    have d0 : wr.cell? ⟨w1.heap.size, 0, none⟩ = some (.int .i64 t) := (cell_of_row wr _ 0 _ _ _ H3.out).trans rfl
    go_wp2_with fail
    refine (HSN.out _).mono ?_
    rintro e w4 ⟨rfl, hb4⟩
    have HM5 := Lib.hid (HM3.out.go hb4)
    obtain ⟨z0, z1, z2, zf⟩ := HM5.out.zero
    have zf0 := zf 0
    have zf1 := zf 1
    have zf2 := zf 2
    have hl5 := HM5.out.lt
    clear hb4 d0 zf
    go_wp2
    obtain ⟨W9, e9, hb9, v0, v1, v2⟩ := HM5.out.out 0 false ⟨#[]⟩
    rw [e9]
    refine bodyPost_ret (v := atV 0 false ⟨#[]⟩ 1) (by simp [results, Tryd.results17, go_sem, v0, v1, v2]) rfl ⟨ret_v ?_, hb9⟩
    unfold riteR
    rw [if_neg (by rw [EC.out]; simp), if_pos (Or.inl HQ.out)]
end Go.Proofs.YtmjakhageehcoaaDoor
