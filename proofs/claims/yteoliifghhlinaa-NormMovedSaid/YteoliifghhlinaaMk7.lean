/- norm.Same on two tables that are good. -/
import Derived.Test.YteoliifghhlinaaMk6
import Derived.Deep.DeepCutAuto
import Derived.Handy
namespace Go.Proofs.Yteoliifghhlinaa
open Go.RowKit Go.Joins
open Classical
set_option linter.unusedVariables false
set_option linter.unusedSimpArgs false

theorem drew_at (w : World) (k : Nat) : (w.drew).heap[k]? = w.heap[k]? := rfl
theorem alloc_at (w : World) (o : Obj) (k : Nat) (h : k = w.heap.size) : (w.alloc o).heap[k]? = some o := by subst h; exact heap_alloc_new w o
theorem set3_at {W : World} {g : Nat} {a b c : Value} {T : TypeId} (h : W.heap[g]? = some (.cells #[a, b, c] T (0, 0))) (x y z : Value) :
    (((W.setCell ⟨g, 0, none⟩ x).setCell ⟨g, 1, none⟩ y).setCell ⟨g, 2, none⟩ z).heap[g]? = some (.cells #[x, y, z] T (0, 0)) := by
  obtain ⟨W', e, -, h2, -⟩ := end_cellsM h x y z
  rw [e]; exact h2
theorem set3_ne {W : World} {g : Nat} (x y z : Value) (k : Nat) (h : k ≠ g) :
    (((W.setCell ⟨g, 0, none⟩ x).setCell ⟨g, 1, none⟩ y).setCell ⟨g, 2, none⟩ z).heap[k]? = W.heap[k]? :=
  (Below.heap_setCell _ _ _ _ h).trans ((Below.heap_setCell _ _ _ _ h).trans (Below.heap_setCell _ _ _ _ h))
theorem tab_al {W : World} {v : Value} {t : Tab} {o : Obj} (h : TabAt W v t) : TabAt (W.alloc o) v t := h.below ((Below.refl _ _).alloc (Nat.le_refl _) _)
theorem tab_s3 {W : World} {g : Nat} {p q : Option Addr} {n1 n2 k1 k2 : Nat} {f : Int} {T : TypeId} {v : Value} {t : Tab} {x y z : Value} (h : W.heap[g]? = some (.cells #[.slice p n1 k1, .int .i64 f, .slice q n2 k2] T (0, 0))) (ht : TabAt W v t) :
    TabAt (((W.setCell ⟨g, 0, none⟩ x).setCell ⟨g, 1, none⟩ y).setCell ⟨g, 2, none⟩ z) v t :=
  tab_far ht h (fun b hb => set3_ne x y z b hb) (by simp)
theorem zfacts {W : World} {g : Nat} (h : W.heap[g]? = some (.cells #[.slice none 0 0, .int .i64 0, .slice none 0 0] 25 (0, 0))) :
    W.cell? ⟨g, 0, none⟩ = some (.slice none 0 0) ∧ W.cell? ⟨g, 1, none⟩ = some (.int .i64 0) ∧ W.cell? ⟨g, 2, none⟩ = some (.slice none 0 0) ∧ W.frozen? ⟨g, 0, none⟩ = false ∧ W.frozen? ⟨g, 1, none⟩ = false ∧ W.frozen? ⟨g, 2, none⟩ = false :=
  ⟨(cell_of_row W _ 0 _ _ _ h).trans rfl, (cell_of_row W _ 1 _ _ _ h).trans rfl, (cell_of_row W _ 2 _ _ _ h).trans rfl, by simp [World.frozen?, h], by simp [World.frozen?, h], by simp [World.frozen?, h]⟩

set_option maxRecDepth 100000 in
set_option maxHeartbeats 4000000 in
theorem Same_ok (a b : Tab) (v u : Value) (w : World) (hv : TabAt w v a) (hu : TabAt w u b) (ha : chk a = 0) (hb : chk b = 0) :
    Calls Try.prog 17 #[v, u] w fun e w' => e = .returned (.tuple #[.bool (decide (normT a = normT b)), .int .i64 0]) ∧ Below w.heap.size w w' := by
  obtain ⟨p1, c1, p2, c2, rfl⟩ := tabForms hv
  obtain ⟨p3, c3, p4, c4, rfl⟩ := tabForms hu
  obtain ⟨W0, eW⟩ : ∃ W0, (w.alloc (.cells #[.slice p1 a.types.length c1, .int .i64 a.first, .slice p2 a.chs.length c2] 25)).alloc (.cells #[.slice p3 b.types.length c3, .int .i64 b.first, .slice p4 b.chs.length c4] 25) = W0 := ⟨_, rfl⟩
  have hW0 : W0.heap.size = w.heap.size + 2 := by rw [← eW]; simp
  have hbW : Below w.heap.size w W0 := by rw [← eW]; exact ((Below.refl _ _).alloc (Nat.le_refl _) _).alloc (by simp) _
  have hX : W0.heap[w.heap.size]? = some (.cells #[.slice p1 a.types.length c1, .int .i64 a.first, .slice p2 a.chs.length c2] 25 (0, 0)) := by
    rw [← eW, Below.heap_alloc _ _ _ (by simp)]; exact heap_alloc_new w _
  have hY : W0.heap[w.heap.size + 1]? = some (.cells #[.slice p3 b.types.length c3, .int .i64 b.first, .slice p4 b.chs.length c4] 25 (0, 0)) := by
    rw [← eW]
    have := heap_alloc_new (w.alloc (.cells #[.slice p1 a.types.length c1, .int .i64 a.first, .slice p2 a.chs.length c2] 25)) (.cells #[.slice p3 b.types.length c3, .int .i64 b.first, .slice p4 b.chs.length c4] 25)
    simpa using this
  have w0 : W0.cell? ⟨w.heap.size, 0, none⟩ = some (.slice p1 a.types.length c1) := (cell_of_row W0 _ 0 _ _ _ hX).trans rfl
  have w0a : W0.cell? ⟨w.heap.size, 1, none⟩ = some (.int .i64 a.first) := (cell_of_row W0 _ 1 _ _ _ hX).trans rfl
  have w0b : W0.cell? ⟨w.heap.size, 2, none⟩ = some (.slice p2 a.chs.length c2) := (cell_of_row W0 _ 2 _ _ _ hX).trans rfl
  have w1' : W0.cell? ⟨w.heap.size + 1, 0, none⟩ = some (.slice p3 b.types.length c3) := (cell_of_row W0 _ 0 _ _ _ hY).trans rfl
  have w1a : W0.cell? ⟨w.heap.size + 1, 1, none⟩ = some (.int .i64 b.first) := (cell_of_row W0 _ 1 _ _ _ hY).trans rfl
  have w1b : W0.cell? ⟨w.heap.size + 1, 2, none⟩ = some (.slice p4 b.chs.length c4) := (cell_of_row W0 _ 2 _ _ _ hY).trans rfl
  have HX := Lib.hid hX
  have HY := Lib.hid hY
  have HBW := Lib.hid hbW
  have HV := Lib.hid (hv.below hbW)
  have HU := Lib.hid (hu.below hbW)
  have HCK := Lib.hid (ncheck_any a b _ _ W0 HV.out HU.out)
  have h0 : chk2 a b = 0 := by unfold chk2; rw [if_pos ha, hb]
  rw [h0] at HCK
  have OKA := Lib.hid (chk_ok a ha)
  have OKB := Lib.hid (chk_ok b hb)
  clear hX hY hbW hv hu h0 ha hb
  go_enter Try.func17, Try.ntmps17
  go_wp2_with fail
  refine HCK.out.mono ?_
  rintro e w1 ⟨rfl, hb1⟩
  clear eW w0 w0a w0b w1' w1a w1b
  have HX1 := Lib.hid ((hb1.block w.heap.size (by omega)).trans HX.out)
  have HY1 := Lib.hid ((hb1.block (w.heap.size + 1) (by omega)).trans HY.out)
  have HV1 := Lib.hid (HV.out.below hb1)
  have HU1 := Lib.hid (HU.out.below hb1)
  have HB1 := Lib.hid (HBW.out.trans (hb1.mono (by omega)))
  have hz1 : w.heap.size + 1 < w1.heap.size := by have := hb1.size; omega
  have x0 : w1.cell? ⟨w.heap.size, 0, none⟩ = some (.slice p1 a.types.length c1) := (cell_of_row w1 _ 0 _ _ _ HX1.out).trans rfl
  have x1 : w1.cell? ⟨w.heap.size, 1, none⟩ = some (.int .i64 a.first) := (cell_of_row w1 _ 1 _ _ _ HX1.out).trans rfl
  have x2 : w1.cell? ⟨w.heap.size, 2, none⟩ = some (.slice p2 a.chs.length c2) := (cell_of_row w1 _ 2 _ _ _ HX1.out).trans rfl
  have y0 : w1.cell? ⟨w.heap.size + 1, 0, none⟩ = some (.slice p3 b.types.length c3) := (cell_of_row w1 _ 0 _ _ _ HY1.out).trans rfl
  have y1 : w1.cell? ⟨w.heap.size + 1, 1, none⟩ = some (.int .i64 b.first) := (cell_of_row w1 _ 1 _ _ _ HY1.out).trans rfl
  have y2 : w1.cell? ⟨w.heap.size + 1, 2, none⟩ = some (.slice p4 b.chs.length c4) := (cell_of_row w1 _ 2 _ _ _ HY1.out).trans rfl
  obtain ⟨S, eS⟩ : ∃ S : World → Prop, S = (fun wx => Below w1.heap.size w1 wx ∧ wx.cell? ⟨w.heap.size, 0, none⟩ = some (.slice p1 a.types.length c1) ∧ wx.cell? ⟨w.heap.size, 1, none⟩ = some (.int .i64 a.first) ∧ wx.cell? ⟨w.heap.size, 2, none⟩ = some (.slice p2 a.chs.length c2) ∧ wx.cell? ⟨w.heap.size + 1, 0, none⟩ = some (.slice p3 b.types.length c3) ∧ wx.cell? ⟨w.heap.size + 1, 1, none⟩ = some (.int .i64 b.first) ∧ wx.cell? ⟨w.heap.size + 1, 2, none⟩ = some (.slice p4 b.chs.length c4)) := ⟨_, rfl⟩
  have KS : Hid (∀ wx, Below w1.heap.size w1 wx → S wx) := by
    show ∀ wx, Below w1.heap.size w1 wx → S wx
    intro wx hb
    rw [eS]
    exact ⟨hb, (hb.cell (p := ⟨w.heap.size, 0, none⟩) (by show w.heap.size < _; omega)).trans x0, (hb.cell (p := ⟨w.heap.size, 1, none⟩) (by show w.heap.size < _; omega)).trans x1, (hb.cell (p := ⟨w.heap.size, 2, none⟩) (by show w.heap.size < _; omega)).trans x2, (hb.cell (p := ⟨w.heap.size + 1, 0, none⟩) hz1).trans y0, (hb.cell (p := ⟨w.heap.size + 1, 1, none⟩) hz1).trans y1, (hb.cell (p := ⟨w.heap.size + 1, 2, none⟩) hz1).trans y2⟩
  have KR : Hid (∀ wx, S wx → Below w1.heap.size w1 wx) := by
    show ∀ wx, S wx → Below w1.heap.size w1 wx
    intro wx hb
    rw [eS] at hb
    exact hb.1
  subst eS
  have KA : Hid (∀ wx, Below w1.heap.size w1 wx → TabAt wx (Value.agg #[.slice p1 a.types.length c1, .int .i64 a.first, .slice p2 a.chs.length c2]) a) := fun wx hb => HV1.out.below hb
  have KB : Hid (∀ wx, Below w1.heap.size w1 wx → TabAt wx (Value.agg #[.slice p3 b.types.length c3, .int .i64 b.first, .slice p4 b.chs.length c4]) b) := fun wx hb => HU1.out.below hb
  have K0 : Hid (Below w1.heap.size w1 w1.drew) := (Below.refl _ _).drew
  clear hb1 x0 x1 x2 y0 y1 y2
  go_upto_region 4 with fail
  go_cut [7, 8] (fun s7 s8 wx => ∃ (M7 M8 : Nat) (q1 q2 r1 r2 : Option Addr) (d1 d2 d3 d4 : Nat), s7 = .pointer (some ⟨M7, 0, none⟩) ∧ s8 = .pointer (some ⟨M8, 0, none⟩) ∧ wx.heap[M7]? = some (.cells #[.slice q1 (normT a).types.length d1, .int .i64 (normT a).first, .slice q2 (normT a).chs.length d2] 25 (0, 0)) ∧ wx.heap[M8]? = some (.cells #[.slice r1 (normT b).types.length d3, .int .i64 (normT b).first, .slice r2 (normT b).chs.length d4] 25 (0, 0)) ∧ TabAt wx (.agg #[.slice q1 (normT a).types.length d1, .int .i64 (normT a).first, .slice q2 (normT a).chs.length d2]) (normT a) ∧ TabAt wx (.agg #[.slice r1 (normT b).types.length d3, .int .i64 (normT b).first, .slice r2 (normT b).chs.length d4]) (normT b) ∧ Below w1.heap.size w1 wx)
  case first =>
    go_region_held3 (fun wx => Below w1.heap.size w1 wx ∧ wx.cell? ⟨w.heap.size, 0, none⟩ = some (.slice p1 a.types.length c1) ∧ wx.cell? ⟨w.heap.size, 1, none⟩ = some (.int .i64 a.first) ∧ wx.cell? ⟨w.heap.size, 2, none⟩ = some (.slice p2 a.chs.length c2) ∧ wx.cell? ⟨w.heap.size + 1, 0, none⟩ = some (.slice p3 b.types.length c3) ∧ wx.cell? ⟨w.heap.size + 1, 1, none⟩ = some (.int .i64 b.first) ∧ wx.cell? ⟨w.heap.size + 1, 2, none⟩ = some (.slice p4 b.chs.length c4)) ((refine KS.out _ ?_; repeat (first | (with_reducible exact HB3.out) | (with_reducible exact HB2.out) | (with_reducible exact K0.out) | (with_reducible exact Below.refl _ _) | (with_reducible refine Below.drew ?_) | (with_reducible refine Below.alloc ?_ (by go_size) _) | (with_reducible refine Below.setCell ?_ (by go_size) _))))
      (first
        | (go_at_call_of 33 (Value.agg #[.slice p1 a.types.length c1, .int .i64 a.first, .slice p2 a.chs.length c2]); refine (NOf_any a _ _ (KA.out _ (KR.out _ (by assumption))) OKA.out).mono ?_; rintro e w2 ⟨v2, rfl, hv2, hb2⟩; obtain ⟨q1, d1, q2, d2, rfl⟩ := tabForms hv2; have HV2 := Lib.hid hv2; have HC2 := Lib.hid hb2; have hz2 := hb2.size; (try simp only [World.size_alloc, World.size_setCell, World.size_drew] at hz2); have HB2 := Lib.hid ((KR.out _ (by assumption)).trans (hb2.mono (KR.out _ (by assumption)).size)); have hs2 := HB2.out.size; (try (have hZ : w2.heap[w1.heap.size]? = some (.cells #[.slice none 0 0, .int .i64 0, .slice none 0 0] 25 (0, 0)) := by (repeat (first | ((with_reducible refine alloc_at _ _ _ ?_); (first | go_size | (simp only [World.size_alloc, World.size_setCell, World.size_drew] at *; omega))) | (with_reducible refine set3_at (a := .slice none 0 0) (b := .int .i64 0) (c := .slice none 0 0) ?_ _ _ _) | ((with_reducible refine (set3_ne _ _ _ _ ?_).trans ?_); · (first | go_size | (simp only [World.size_alloc, World.size_setCell, World.size_drew] at *; omega))) | ((with_reducible refine (Below.heap_alloc _ _ _ ?_).trans ?_); · (first | go_size | (simp only [World.size_alloc, World.size_setCell, World.size_drew] at *; omega))) | (with_reducible refine (drew_at _ _).trans ?_) | ((with_reducible refine (HC3.out.block _ ?_).trans ?_); · (first | go_size | (simp only [World.size_alloc, World.size_setCell, World.size_drew] at *; omega))) | ((with_reducible refine (HC2.out.block _ ?_).trans ?_); · (first | go_size | (simp only [World.size_alloc, World.size_setCell, World.size_drew] at *; omega)))))); obtain ⟨_, _, _, _, _, _⟩ := zfacts hZ; clear hZ); (try (have hZ : w2.heap[(w1.heap.size + 1)]? = some (.cells #[.slice none 0 0, .int .i64 0, .slice none 0 0] 25 (0, 0)) := by (repeat (first | ((with_reducible refine alloc_at _ _ _ ?_); (first | go_size | (simp only [World.size_alloc, World.size_setCell, World.size_drew] at *; omega))) | (with_reducible refine set3_at (a := .slice none 0 0) (b := .int .i64 0) (c := .slice none 0 0) ?_ _ _ _) | ((with_reducible refine (set3_ne _ _ _ _ ?_).trans ?_); · (first | go_size | (simp only [World.size_alloc, World.size_setCell, World.size_drew] at *; omega))) | ((with_reducible refine (Below.heap_alloc _ _ _ ?_).trans ?_); · (first | go_size | (simp only [World.size_alloc, World.size_setCell, World.size_drew] at *; omega))) | (with_reducible refine (drew_at _ _).trans ?_) | ((with_reducible refine (HC3.out.block _ ?_).trans ?_); · (first | go_size | (simp only [World.size_alloc, World.size_setCell, World.size_drew] at *; omega))) | ((with_reducible refine (HC2.out.block _ ?_).trans ?_); · (first | go_size | (simp only [World.size_alloc, World.size_setCell, World.size_drew] at *; omega)))))); obtain ⟨_, _, _, _, _, _⟩ := zfacts hZ; clear hZ); (try have hla : w1.heap.size < w2.heap.size := by go_size); (try have hlb : w1.heap.size + 1 < w2.heap.size := by go_size); clear hb2 hv2)
        | (go_at_call_of 33 (Value.agg #[.slice p3 b.types.length c3, .int .i64 b.first, .slice p4 b.chs.length c4]); refine (NOf_any b _ _ (KB.out _ (KR.out _ (by assumption))) OKB.out).mono ?_; rintro e w3 ⟨v3, rfl, hv3, hb3⟩; obtain ⟨r1, d3, r2, d4, rfl⟩ := tabForms hv3; have HV3 := Lib.hid hv3; have HC3 := Lib.hid hb3; have hz3 := hb3.size; (try simp only [World.size_alloc, World.size_setCell, World.size_drew] at hz3); have HB3 := Lib.hid ((KR.out _ (by assumption)).trans (hb3.mono (KR.out _ (by assumption)).size)); have hs3 := HB3.out.size; (try (have hZ : w3.heap[w1.heap.size]? = some (.cells #[.slice none 0 0, .int .i64 0, .slice none 0 0] 25 (0, 0)) := by (repeat (first | ((with_reducible refine alloc_at _ _ _ ?_); (first | go_size | (simp only [World.size_alloc, World.size_setCell, World.size_drew] at *; omega))) | (with_reducible refine set3_at (a := .slice none 0 0) (b := .int .i64 0) (c := .slice none 0 0) ?_ _ _ _) | ((with_reducible refine (set3_ne _ _ _ _ ?_).trans ?_); · (first | go_size | (simp only [World.size_alloc, World.size_setCell, World.size_drew] at *; omega))) | ((with_reducible refine (Below.heap_alloc _ _ _ ?_).trans ?_); · (first | go_size | (simp only [World.size_alloc, World.size_setCell, World.size_drew] at *; omega))) | (with_reducible refine (drew_at _ _).trans ?_) | ((with_reducible refine (HC3.out.block _ ?_).trans ?_); · (first | go_size | (simp only [World.size_alloc, World.size_setCell, World.size_drew] at *; omega))) | ((with_reducible refine (HC2.out.block _ ?_).trans ?_); · (first | go_size | (simp only [World.size_alloc, World.size_setCell, World.size_drew] at *; omega)))))); obtain ⟨_, _, _, _, _, _⟩ := zfacts hZ; clear hZ); (try (have hZ : w3.heap[(w1.heap.size + 1)]? = some (.cells #[.slice none 0 0, .int .i64 0, .slice none 0 0] 25 (0, 0)) := by (repeat (first | ((with_reducible refine alloc_at _ _ _ ?_); (first | go_size | (simp only [World.size_alloc, World.size_setCell, World.size_drew] at *; omega))) | (with_reducible refine set3_at (a := .slice none 0 0) (b := .int .i64 0) (c := .slice none 0 0) ?_ _ _ _) | ((with_reducible refine (set3_ne _ _ _ _ ?_).trans ?_); · (first | go_size | (simp only [World.size_alloc, World.size_setCell, World.size_drew] at *; omega))) | ((with_reducible refine (Below.heap_alloc _ _ _ ?_).trans ?_); · (first | go_size | (simp only [World.size_alloc, World.size_setCell, World.size_drew] at *; omega))) | (with_reducible refine (drew_at _ _).trans ?_) | ((with_reducible refine (HC3.out.block _ ?_).trans ?_); · (first | go_size | (simp only [World.size_alloc, World.size_setCell, World.size_drew] at *; omega))) | ((with_reducible refine (HC2.out.block _ ?_).trans ?_); · (first | go_size | (simp only [World.size_alloc, World.size_setCell, World.size_drew] at *; omega)))))); obtain ⟨_, _, _, _, _, _⟩ := zfacts hZ; clear hZ); (try (have hZ : w3.heap[w2.heap.size]? = some (.cells #[.slice none 0 0, .int .i64 0, .slice none 0 0] 25 (0, 0)) := by (repeat (first | ((with_reducible refine alloc_at _ _ _ ?_); (first | go_size | (simp only [World.size_alloc, World.size_setCell, World.size_drew] at *; omega))) | (with_reducible refine set3_at (a := .slice none 0 0) (b := .int .i64 0) (c := .slice none 0 0) ?_ _ _ _) | ((with_reducible refine (set3_ne _ _ _ _ ?_).trans ?_); · (first | go_size | (simp only [World.size_alloc, World.size_setCell, World.size_drew] at *; omega))) | ((with_reducible refine (Below.heap_alloc _ _ _ ?_).trans ?_); · (first | go_size | (simp only [World.size_alloc, World.size_setCell, World.size_drew] at *; omega))) | (with_reducible refine (drew_at _ _).trans ?_) | ((with_reducible refine (HC3.out.block _ ?_).trans ?_); · (first | go_size | (simp only [World.size_alloc, World.size_setCell, World.size_drew] at *; omega))) | ((with_reducible refine (HC2.out.block _ ?_).trans ?_); · (first | go_size | (simp only [World.size_alloc, World.size_setCell, World.size_drew] at *; omega)))))); obtain ⟨_, _, _, _, _, _⟩ := zfacts hZ; clear hZ); (try (have hZ : w3.heap[(w2.heap.size + 1)]? = some (.cells #[.slice none 0 0, .int .i64 0, .slice none 0 0] 25 (0, 0)) := by (repeat (first | ((with_reducible refine alloc_at _ _ _ ?_); (first | go_size | (simp only [World.size_alloc, World.size_setCell, World.size_drew] at *; omega))) | (with_reducible refine set3_at (a := .slice none 0 0) (b := .int .i64 0) (c := .slice none 0 0) ?_ _ _ _) | ((with_reducible refine (set3_ne _ _ _ _ ?_).trans ?_); · (first | go_size | (simp only [World.size_alloc, World.size_setCell, World.size_drew] at *; omega))) | ((with_reducible refine (Below.heap_alloc _ _ _ ?_).trans ?_); · (first | go_size | (simp only [World.size_alloc, World.size_setCell, World.size_drew] at *; omega))) | (with_reducible refine (drew_at _ _).trans ?_) | ((with_reducible refine (HC3.out.block _ ?_).trans ?_); · (first | go_size | (simp only [World.size_alloc, World.size_setCell, World.size_drew] at *; omega))) | ((with_reducible refine (HC2.out.block _ ?_).trans ?_); · (first | go_size | (simp only [World.size_alloc, World.size_setCell, World.size_drew] at *; omega)))))); obtain ⟨_, _, _, _, _, _⟩ := zfacts hZ; clear hZ); (try have hlc : w1.heap.size < w3.heap.size := by go_size); (try have hld : w1.heap.size + 1 < w3.heap.size := by go_size); (try have hle : w2.heap.size < w3.heap.size := by go_size); (try have hlf : w2.heap.size + 1 < w3.heap.size := by go_size); clear hb3 hv3))
    all_goals go_wp2_with fail
    all_goals go_meet
    all_goals refine ⟨_, _, q1, q2, r1, r2, d1, d2, d3, d4, rfl, rfl, ?_, ?_, ?_, ?_, KR.out _ (by assumption)⟩
    all_goals (first | ((repeat (first | ((with_reducible refine alloc_at _ _ _ ?_); (first | go_size | (simp only [World.size_alloc, World.size_setCell, World.size_drew] at *; omega))) | (with_reducible refine set3_at (a := .slice none 0 0) (b := .int .i64 0) (c := .slice none 0 0) ?_ _ _ _) | ((with_reducible refine (set3_ne _ _ _ _ ?_).trans ?_); · (first | go_size | (simp only [World.size_alloc, World.size_setCell, World.size_drew] at *; omega))) | ((with_reducible refine (Below.heap_alloc _ _ _ ?_).trans ?_); · (first | go_size | (simp only [World.size_alloc, World.size_setCell, World.size_drew] at *; omega))) | (with_reducible refine (drew_at _ _).trans ?_) | ((with_reducible refine (HC3.out.block _ ?_).trans ?_); · (first | go_size | (simp only [World.size_alloc, World.size_setCell, World.size_drew] at *; omega))) | ((with_reducible refine (HC2.out.block _ ?_).trans ?_); · (first | go_size | (simp only [World.size_alloc, World.size_setCell, World.size_drew] at *; omega))))); done) | ((repeat (first | (with_reducible exact HV2.out) | (with_reducible exact HV3.out) | (with_reducible refine tab_al ?_) | ((with_reducible refine tab_s3 (p := none) (q := none) (n1 := 0) (k1 := 0) (n2 := 0) (k2 := 0) (f := 0) (T := 25) ?_ ?_); · (repeat (first | ((with_reducible refine alloc_at _ _ _ ?_); (first | go_size | (simp only [World.size_alloc, World.size_setCell, World.size_drew] at *; omega))) | (with_reducible refine set3_at (a := .slice none 0 0) (b := .int .i64 0) (c := .slice none 0 0) ?_ _ _ _) | ((with_reducible refine (set3_ne _ _ _ _ ?_).trans ?_); · (first | go_size | (simp only [World.size_alloc, World.size_setCell, World.size_drew] at *; omega))) | ((with_reducible refine (Below.heap_alloc _ _ _ ?_).trans ?_); · (first | go_size | (simp only [World.size_alloc, World.size_setCell, World.size_drew] at *; omega))) | (with_reducible refine (drew_at _ _).trans ?_) | ((with_reducible refine (HC3.out.block _ ?_).trans ?_); · (first | go_size | (simp only [World.size_alloc, World.size_setCell, World.size_drew] at *; omega))) | ((with_reducible refine (HC2.out.block _ ?_).trans ?_); · (first | go_size | (simp only [World.size_alloc, World.size_setCell, World.size_drew] at *; omega)))))) | (refine TabAt.below ?_ HC3.out))); done) | skip)
  case rest =>
    obtain ⟨M7, M8, q1, q2, r1, r2, d1, d2, d3, d4, rfl, rfl, h7, h8, ta, tb, hbc⟩ := hcut
    have z0 : wc.cell? ⟨M7, 0, none⟩ = some (.slice q1 (normT a).types.length d1) := (cell_of_row wc _ 0 _ _ _ h7).trans rfl
    have z2 : wc.cell? ⟨M7, 2, none⟩ = some (.slice q2 (normT a).chs.length d2) := (cell_of_row wc _ 2 _ _ _ h7).trans rfl
    have y0 : wc.cell? ⟨M8, 0, none⟩ = some (.slice r1 (normT b).types.length d3) := (cell_of_row wc _ 0 _ _ _ h8).trans rfl
    have y2 : wc.cell? ⟨M8, 2, none⟩ = some (.slice r2 (normT b).chs.length d4) := (cell_of_row wc _ 2 _ _ _ h8).trans rfl
    obtain ⟨a1, a2, -⟩ := tabOf_slices ta
    obtain ⟨b1, b2, -⟩ := tabOf_slices tb
    have HT := Lib.hid (EqualTy_any (normT a).types (normT b).types _ _ wc a1 b1)
    have H7 := Lib.hid h7
    have H8 := Lib.hid h8
    have l7 := (Array.getElem?_eq_some_iff.mp h7).1
    have l8 := (Array.getElem?_eq_some_iff.mp h8).1
    have A2 := Lib.hid a2
    have B2 := Lib.hid b2
    have HBC := Lib.hid hbc
    obtain ⟨T, eT⟩ : ∃ T, decide ((normT a).types = (normT b).types) = T := ⟨_, rfl⟩
    obtain ⟨C, eC⟩ : ∃ C, decide ((normT a).chs = (normT b).chs) = C := ⟨_, rfl⟩
    have ER : Hid (decide (normT a = normT b) = (T && C)) := by
      show _ = _
      rw [← eT, ← eC, Bool.eq_iff_iff]
      simp only [decide_eq_true_eq, Bool.and_eq_true, tab_eq]
      exact ⟨fun h => ⟨h.1, h.2.2⟩, fun h => ⟨h.1, rfl, h.2⟩⟩
    rw [eT] at HT
    have EC := Lib.hid eC
    clear h7 h8 a1 a2 b1 b2 ta tb hbc eT eC
    go_wp2_with fail
    refine HT.out.mono ?_
    rintro e w4 ⟨rfl, hb4⟩
    have h7 := (hb4.block M7 l7).trans H7.out
    have h8 := (hb4.block M8 l8).trans H8.out
    have z2 : w4.cell? ⟨M7, 2, none⟩ = some (.slice q2 (normT a).chs.length d2) := (cell_of_row w4 _ 2 _ _ _ h7).trans rfl
    have y2 : w4.cell? ⟨M8, 2, none⟩ = some (.slice r2 (normT b).chs.length d4) := (cell_of_row w4 _ 2 _ _ _ h8).trans rfl
    have HC := Lib.hid (EqualCh_any (normT a).chs (normT b).chs _ _ w4 (A2.out.below hb4) (B2.out.below hb4))
    rw [EC.out] at HC
    have b4 := Lib.hid (HB1.out.trans ((HBC.out.trans (hb4.mono HBC.out.size)).mono HB1.out.size))
    clear hb4 h7 h8
    cases T
    · go_wp2
      go_ret2
      exact ⟨by rw [ER.out]; rfl, b4.out⟩
    · go_wp2_with fail
      refine HC.out.mono ?_
      rintro e w5 ⟨rfl, hb5⟩
      go_wp2
      go_ret2
      exact ⟨by rw [ER.out]; rfl, b4.out.trans (hb5.mono b4.out.size)⟩
end Go.Proofs.Yteoliifghhlinaa
