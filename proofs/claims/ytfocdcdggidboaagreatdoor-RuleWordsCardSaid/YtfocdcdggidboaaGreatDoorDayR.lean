/- day.Read: what it returns. -/
import Derived.Test.YtfocdcdggidboaaGreatDoorDayR0
namespace Go.Proofs.YtfocdcdggidboaaGreatDoor
open Go.RowKit Go.Joins Go.Maps
set_option linter.unusedVariables false
set_option linter.unusedSimpArgs false

theorem below_of_grown {B : Nat} {a b c : World} {row : Option Nat} (h : Below B a b) (hg : b.grownBy c row) (hb : B ≤ b.heap.size) (hr : ∀ k, row = some k → B ≤ k) : Below B a c := h.grown hg hb hr
theorem heap_setCd {w : World} {R i : Nat} {cs : Array Value} {T : TypeId} {f : Nat × Nat} (h : w.heap[R]? = some (.cells cs T f)) (v : Value) : (w.setCell ⟨R, i, none⟩ v).heap[R]? = some (.cells (cs.setIfInBounds i v) T f) := by
  simp [World.setCell, Array.getElem?_modify, h]
theorem end_cellsD {W : World} {g : Nat} {a b c : Value} {T : TypeId} (h : W.heap[g]? = some (.cells #[a, b, c] T (0, 0))) (x y z : Value) :
    ∃ W', ((W.setCell ⟨g, 0, none⟩ x).setCell ⟨g, 1, none⟩ y).setCell ⟨g, 2, none⟩ z = W' ∧ (∀ B, B ≤ g → Below B W W') ∧ W'.heap[g]? = some (.cells #[x, y, z] T (0, 0)) ∧ ∀ b, b ≠ g → W'.heap[b]? = W.heap[b]? := by
  refine ⟨_, rfl, fun B hB => (((Below.refl _ _).setCell (by exact hB) _).setCell (by exact hB) _).setCell (by exact hB) _, ?_, fun b hb => (Below.heap_setCell _ _ _ _ hb).trans ((Below.heap_setCell _ _ _ _ hb).trans (Below.heap_setCell _ _ _ _ hb))⟩
  rw [heap_setCd (i := 2) (heap_setCd (i := 1) (heap_setCd (i := 0) h x) y) z]
  rfl
theorem left_off {left : Lit → Bool} {x : Int} (y : Int) (h : x ≠ y) : (left (.int .i64 y) && !(Lit.int .i64 y).sameKey (.int .i64 x)) = left (.int .i64 y) := by
  have : (Lit.int .i64 y).sameKey (.int .i64 x) = false := by simp [Lit.sameKey]; omega
  rw [this]; simp
theorem left_on {left : Lit → Bool} (x : Int) : (left (.int .i64 x) && !(Lit.int .i64 x).sameKey (.int .i64 x)) = false := by simp [Lit.sameKey]

theorem ranges_below {H : Type} {w w' : World} {P : Program} {k : TypeId} {R : Value → Option (DataW H × List MemPlace)} {b r n : Nat} {D : DataW H} {left : Lit → Bool} {cnt : Nat} (h : w.ranges P k R b r n D left cnt) (hb : Below w.heap.size w w') : w'.ranges P k R b r n D left cnt :=
  h.kept (row := none) ⟨hb.os, hb.tape, hb.output, hb.size, fun i hi _ => hb.block i hi⟩ (by simp) (by simp)
theorem ranges_set {H : Type} {w : World} {P : Program} {k : TypeId} {R : Value → Option (DataW H × List MemPlace)} {b r n : Nat} {D : DataW H} {left : Lit → Bool} {cnt : Nat} (h : w.ranges P k R b r n D left cnt) (X i : Nat) (v : Value) (h1 : b ≠ X) (h2 : r ≠ X) : (w.setCell ⟨X, i, none⟩ v).ranges P k R b r n D left cnt :=
  h.kept (row := some X) ⟨rfl, rfl, rfl, by simp [World.setCell], fun j hj hne => Below.heap_setCell _ _ _ j (fun e => hne (by rw [e]))⟩ (by simpa using h1) (by simpa using h2)

set_option maxRecDepth 100000 in
set_option maxHeartbeats 4000000 in
theorem Read_walk (l : List UInt8) (w : World) (hl : l.length ≤ 4294967280) (ht : Tab10 w) (hn : NumErrs w) (hm : MaxLen w)
    (P : Bool → Bool → Int × Int × List UInt8 → Prop) (p0 : P true true (dayS0 l))
    (pA : ∀ b st, P true b st → P false b (dayHit l 3 [62, 61] st)) (pB : ∀ b st, P b true st → P b false (dayHit l 4 [60, 61] st))
    (psm : ∀ a b st, P a b st → st.2.2.length ≤ 281474976710656)
    (R : Int × Int × Int × Int) (hend : ∀ st, P false false st → DayRes l st R) :
    Calls Tryz.prog 14 #[.string (txt l)] w fun e w' => e = .returned (.tuple #[dayV R.1 R.2.1 R.2.2.1, .int .i64 R.2.2.2]) ∧ Below w.heap.size w w' := by
  have HT := Lib.hid ht
  have HN := Lib.hid hn
  have HM := Lib.hid hm
  have HCP := Lib.hid (fun W => cutPrefix_any l [108, 97, 115, 116] W)
  have HWD := Lib.hid (fun W => weekday_any (Lib.trimPrefix l [108, 97, 115, 116]) W)
  rw [show (txt [108, 97, 115, 116] : ByteArray) = ⟨#[108, 97, 115, 116]⟩ from rfl] at HCP
  have HCA := Lib.hid (fun W hW => cut_any l [62, 61] W (by omega) hW)
  have HCB := Lib.hid (fun W hW => cut_any l [60, 61] W (by omega) hW)
  rw [show (txt [62, 61] : ByteArray) = ⟨#[62, 61]⟩ from rfl] at HCA
  rw [show (txt [60, 61] : ByteArray) = ⟨#[60, 61]⟩ from rfl] at HCB
  have P0 := Lib.hid p0
  have PA := Lib.hid pA
  have PB := Lib.hid pB
  have PSM := Lib.hid psm
  have HEND := Lib.hid hend
  obtain ⟨S, eS⟩ : ∃ S, txt l = S := ⟨_, rfl⟩
  rw [eS] at HCP HCA HCB ⊢
  have ES := Lib.hid eS
  clear ht hn hm p0 pA pB psm hend
  go_enter Tryz.func14, Tryz.ntmps14
  go_wp2_with fail
  refine (HCP.out _).mono ?_
  rintro e w1 ⟨rfl, rfl⟩
  cases hpf : Lib.hasPrefix l [108, 97, 115, 116]
  · have eS0 : dayS0 l = (1, 0, l) := by unfold dayS0; rw [hpf]; rfl
    rw [eS0] at P0
    go_wp2_with fail
    obtain ⟨W, eW⟩ : ∃ W, (w.alloc (.cells #[.int .i64 0, .int .i64 0, .int .i64 0] 26)).alloc (.cells #[.int .i64 1, .int .i64 0, .int .i64 0] 26) = W := ⟨_, rfl⟩
    rw [eW]
    have hbW : Below w.heap.size w W := by rw [← eW]; exact ((Below.refl _ _).alloc (Nat.le_refl _) _).alloc (by simp) _
    have hX : W.heap[w.heap.size + 1]? = some (.cells #[.int .i64 1, .int .i64 0, .int .i64 0] 26 (0, 0)) := by
      rw [← eW]
      have := heap_alloc_new (w.alloc (.cells #[.int .i64 0, .int .i64 0, .int .i64 0] 26)) (.cells #[.int .i64 1, .int .i64 0, .int .i64 0] 26)
      simpa using this
    have hZ : W.heap[w.heap.size]? = some (.cells #[.int .i64 0, .int .i64 0, .int .i64 0] 26 (0, 0)) := by
      rw [← eW, Below.heap_alloc _ _ _ (by simp)]
      exact heap_alloc_new w _
    clear eW eS0 hpf
    have HBW := Lib.hid hbW
    have HX := Lib.hid hX
    have HZ := Lib.hid hZ
    have hXlt : w.heap.size + 1 < W.heap.size := (Array.getElem?_eq_some_iff.mp hX).1
    clear hbW hX hZ
    obtain ⟨W1, W2, r1, r2, hown, hgr⟩ := signs_made W W.heap.size rfl
    rw [run_makeMap]
    go_wp2_with (at_range; refine wpList_range_own _ rfl _ 61 rfl 3 9 keyI Tryz.underlying61 _ _ 2 _ rfl hown ?_; intro w0 hrg0 hg0 hs0)
    go_frame
    have hWW : W.heap.size < W2.heap.size := hown.lt
    have hgA := hgr.andThen hg0 (fun j hj => by cases hj)
    have hX0 := (hgA.block _ hXlt (by simp)).trans HX.out
    have hZ0 := (hgA.block w.heap.size (by omega) (by simp)).trans HZ.out
    have hb0 := HBW.out.grown hgA HBW.out.size (fun j hj => by cases hj)
    clear hgr hg0 hgA hs0 hown r1 r2
    go_loopw [5] (fun s5 wr => ∃ (k wd : Int) (rest : List UInt8) (left : Lit → Bool) (cnt : Nat), s5 = .string (txt rest) ∧ wr.heap[w.heap.size + 1]? = some (.cells #[.int .i64 k, .int .i64 wd, .int .i64 0] 26 (0, 0)) ∧ wr.heap[w.heap.size]? = some (.cells #[.int .i64 0, .int .i64 0, .int .i64 0] 26 (0, 0)) ∧
      wr.ranges Tryz.prog 3 (plainElem Tryz.prog 9) W.heap.size W2.heap.size 2 signsD left cnt ∧ P (left (.int .i64 3)) (left (.int .i64 4)) (k, wd, rest) ∧ (∀ kl, left kl = true → kl = .int .i64 3 ∨ kl = .int .i64 4) ∧ Below w.heap.size w wr) (fun _ wr => wr.rangeLeft W.heap.size W2.heap.size)
    case atStart => exact ⟨1, 0, l, _, _, by rw [ES.out], hX0, hZ0, hrg0, by rw [signs_has3, signs_has4]; exact P0.out, signs_has, hb0⟩
    case round =>
      obtain ⟨k, wd, rest, left, cnt, rfl, hXr, hZr, hrg, hP, hle, hbr⟩ := hrel
      have HXR := Lib.hid hXr
      have HZR := Lib.hid hZr
      have HP := Lib.hid hP
      have HLE := Lib.hid hle
      have HBR := Lib.hid hbr
      have hsr : W2.heap.size < wr.heap.size := hrg.lt
      clear hXr hZr hP hle hbr hX0 hZ0 hrg0 hb0
      go_wp2_with (first
        | (at_next; refine wpList_next_ranges_is _ rfl _ rfl 3 9 .i64 keyI Tryz.underlying3 Tryz.underlying9 W.heap.size W2.heap.size 2 _ _ _ rfl hrg ?_ ?_)
        | go_in)
      · intro _ hl0
        have hPe : P false false (k, wd, rest) := by
          have h := HP.out
          rw [hl0, hl0] at h
          exact h
        have hsm := PSM.out _ _ _ hPe
        have hres := HEND.out _ hPe
        unfold DayRes at hres
        simp only at hres hsm
        have hXl : w.heap.size + 1 < wr.heap.size := (Array.getElem?_eq_some_iff.mp HXR.out).1
        clear hl0 hPe hrg
        go_wp2_with fail
        refine (Atoi_any rest _ hsm (HN.out.below HBR.out)).mono ?_
        rintro e w2 ⟨ev, rfl, hb2, -⟩
        have HB2 := Lib.hid (HBR.out.trans (hb2.mono HBR.out.size))
        have HX2 := Lib.hid ((hb2.block _ hXl).trans HXR.out)
        have HZ2 := Lib.hid ((hb2.block w.heap.size (by omega)).trans HZR.out)
        have hX2l : w.heap.size + 1 < w2.heap.size := by have := hb2.size; omega
        clear hb2
        obtain ⟨N, eN⟩ : ∃ N, atoiV rest = N := ⟨_, rfl⟩
        rw [eN] at hres
        rw [eN]
        clear eN
        have c2 : w2.cell? ⟨w.heap.size + 1, 2, none⟩ = some (.int .i64 0) := (cell_of_row w2 _ 2 _ _ _ HX2.out).trans rfl
        have z2 : w2.frozen? ⟨w.heap.size + 1, 2, none⟩ = false := by simp [World.frozen?, HX2.out]
        obtain ⟨w3, ew3⟩ : ∃ w3, w2.setCell ⟨w.heap.size + 1, 2, none⟩ (.int .i64 N) = w3 := ⟨_, rfl⟩
        have hX3 := heap_setCd (i := 2) HX2.out (.int .i64 N)
        have hZ3 : (w2.setCell ⟨w.heap.size + 1, 2, none⟩ (.int .i64 N)).heap[w.heap.size]? = some (.cells #[.int .i64 0, .int .i64 0, .int .i64 0] 26 (0, 0)) := (Below.heap_setCell _ _ _ _ (by show w.heap.size ≠ w.heap.size + 1; omega)).trans HZ2.out
        have hb3 := HB2.out.setCell (p := ⟨w.heap.size + 1, 2, none⟩) (by show w.heap.size ≤ w.heap.size + 1; omega) (.int .i64 N)
        rw [ew3] at hX3 hZ3 hb3
        have hl3 : w.heap.size + 1 < w3.heap.size := (Array.getElem?_eq_some_iff.mp hX3).1
        have d0 : w3.cell? ⟨w.heap.size + 1, 0, none⟩ = some (.int .i64 k) := (cell_of_row w3 _ 0 _ _ _ hX3).trans rfl
        have d1 : w3.cell? ⟨w.heap.size + 1, 1, none⟩ = some (.int .i64 wd) := (cell_of_row w3 _ 1 _ _ _ hX3).trans rfl
        have d2 : w3.cell? ⟨w.heap.size + 1, 2, none⟩ = some (.int .i64 N) := (cell_of_row w3 _ 2 _ _ _ hX3).trans rfl
        go_wp2_with fail
        have HX3 := Lib.hid hX3
        have HZ3 := Lib.hid hZ3
        have HB3 := Lib.hid hb3
        clear hX3 hZ3 hb3
        have hfin : ∀ (w4 : World), Below w3.heap.size w3 w4 → w4.heap[w.heap.size + 1]? = some (.cells #[.int .i64 k, .int .i64 wd, .int .i64 N] 26 (0, 0)) ∧ w4.heap[w.heap.size]? = some (.cells #[.int .i64 0, .int .i64 0, .int .i64 0] 26 (0, 0)) ∧ Below w.heap.size w w4 ∧ w.heap.size + 1 < w4.heap.size := fun w4 hb4 =>
          ⟨(hb4.block _ hl3).trans HX3.out, (hb4.block _ (by omega)).trans HZ3.out, HB3.out.trans (hb4.mono HB3.out.size), by have := hb4.size; omega⟩
        have HFIN := Lib.hid hfin
        clear hfin
        rcases hres with ⟨hB, hT, rfl⟩ | ⟨hB, hT, rfl⟩ | ⟨hB, rfl⟩
        · refine (Text_ok k wd N w3 hB (HT.out.below HB3.out)).mono ?_
          rw [hT, ES.out]
          rintro e w4 ⟨rfl, hb4⟩
          obtain ⟨x4, y4, b4, l4⟩ := HFIN.out w4 hb4
          clear hT hb4
          have e0 : w4.cell? ⟨w.heap.size + 1, 0, none⟩ = some (.int .i64 k) := (cell_of_row w4 _ 0 _ _ _ x4).trans rfl
          have e1 : w4.cell? ⟨w.heap.size + 1, 1, none⟩ = some (.int .i64 wd) := (cell_of_row w4 _ 1 _ _ _ x4).trans rfl
          have e2 : w4.cell? ⟨w.heap.size + 1, 2, none⟩ = some (.int .i64 N) := (cell_of_row w4 _ 2 _ _ _ x4).trans rfl
          have g0 : w4.cell? ⟨w.heap.size, 0, none⟩ = some (.int .i64 0) := (cell_of_row w4 _ 0 _ _ _ y4).trans rfl
          have g1 : w4.cell? ⟨w.heap.size, 1, none⟩ = some (.int .i64 0) := (cell_of_row w4 _ 1 _ _ _ y4).trans rfl
          have g2 : w4.cell? ⟨w.heap.size, 2, none⟩ = some (.int .i64 0) := (cell_of_row w4 _ 2 _ _ _ y4).trans rfl
          have z0 : w4.frozen? ⟨w.heap.size, 0, none⟩ = false := by simp [World.frozen?, y4]
          have z1 : w4.frozen? ⟨w.heap.size, 1, none⟩ = false := by simp [World.frozen?, y4]
          have z2' : w4.frozen? ⟨w.heap.size, 2, none⟩ = false := by simp [World.frozen?, y4]
          go_wp2_with fail
          obtain ⟨W9, e9, hB9, hh9, ho9⟩ := end_cellsD y4 (.int .i64 k) (.int .i64 wd) (.int .i64 N)
          rw [e9]
          have v0 : W9.cell? ⟨w.heap.size, 0, none⟩ = some (.int .i64 k) := (cell_of_row W9 _ 0 _ _ _ hh9).trans rfl
          have v1 : W9.cell? ⟨w.heap.size, 1, none⟩ = some (.int .i64 wd) := (cell_of_row W9 _ 1 _ _ _ hh9).trans rfl
          have v2 : W9.cell? ⟨w.heap.size, 2, none⟩ = some (.int .i64 N) := (cell_of_row W9 _ 2 _ _ _ hh9).trans rfl
          refine bodyPost_ret (v := .tuple #[dayV k wd N, .int .i64 0]) (by simp [results, Tryz.results14, go_sem, v0, v1, v2]) rfl ⟨rfl, b4.trans (hB9 _ (Nat.le_refl _))⟩
        · refine (Text_ok k wd N w3 hB (HT.out.below HB3.out)).mono ?_
          have hne : ((txt (dayT k wd N)).toList == S.toList) = false := by rw [← ES.out]; exact txt_ne hT
          generalize txt (dayT k wd N) = U at hne
          rintro e w4 ⟨rfl, hb4⟩
          obtain ⟨x4, y4, b4, l4⟩ := HFIN.out w4 hb4
          clear hT hb4
          have e0 : w4.cell? ⟨w.heap.size + 1, 0, none⟩ = some (.int .i64 k) := (cell_of_row w4 _ 0 _ _ _ x4).trans rfl
          have e1 : w4.cell? ⟨w.heap.size + 1, 1, none⟩ = some (.int .i64 wd) := (cell_of_row w4 _ 1 _ _ _ x4).trans rfl
          have e2 : w4.cell? ⟨w.heap.size + 1, 2, none⟩ = some (.int .i64 N) := (cell_of_row w4 _ 2 _ _ _ x4).trans rfl
          have g0 : w4.cell? ⟨w.heap.size, 0, none⟩ = some (.int .i64 0) := (cell_of_row w4 _ 0 _ _ _ y4).trans rfl
          have g1 : w4.cell? ⟨w.heap.size, 1, none⟩ = some (.int .i64 0) := (cell_of_row w4 _ 1 _ _ _ y4).trans rfl
          have g2 : w4.cell? ⟨w.heap.size, 2, none⟩ = some (.int .i64 0) := (cell_of_row w4 _ 2 _ _ _ y4).trans rfl
          have z0 : w4.frozen? ⟨w.heap.size, 0, none⟩ = false := by simp [World.frozen?, y4]
          have z1 : w4.frozen? ⟨w.heap.size, 1, none⟩ = false := by simp [World.frozen?, y4]
          have z2' : w4.frozen? ⟨w.heap.size, 2, none⟩ = false := by simp [World.frozen?, y4]
          go_wp2_with fail
          obtain ⟨W9, e9, hB9, hh9, ho9⟩ := end_cellsD y4 (.int .i64 0) (.int .i64 0) (.int .i64 0)
          rw [e9]
          have v0 : W9.cell? ⟨w.heap.size, 0, none⟩ = some (.int .i64 0) := (cell_of_row W9 _ 0 _ _ _ hh9).trans rfl
          have v1 : W9.cell? ⟨w.heap.size, 1, none⟩ = some (.int .i64 0) := (cell_of_row W9 _ 1 _ _ _ hh9).trans rfl
          have v2 : W9.cell? ⟨w.heap.size, 2, none⟩ = some (.int .i64 0) := (cell_of_row W9 _ 2 _ _ _ hh9).trans rfl
          refine bodyPost_ret (v := .tuple #[dayV 0 0 0, .int .i64 3]) (by simp [results, Tryz.results14, go_sem, v0, v1, v2]) rfl ⟨rfl, b4.trans (hB9 _ (Nat.le_refl _))⟩
        · refine (Text_no k wd N w3 hB).mono ?_
          rintro e w4 ⟨rfl, hb4⟩
          obtain ⟨x4, y4, b4, l4⟩ := HFIN.out w4 hb4
          clear hb4
          have e0 : w4.cell? ⟨w.heap.size + 1, 0, none⟩ = some (.int .i64 k) := (cell_of_row w4 _ 0 _ _ _ x4).trans rfl
          have e1 : w4.cell? ⟨w.heap.size + 1, 1, none⟩ = some (.int .i64 wd) := (cell_of_row w4 _ 1 _ _ _ x4).trans rfl
          have e2 : w4.cell? ⟨w.heap.size + 1, 2, none⟩ = some (.int .i64 N) := (cell_of_row w4 _ 2 _ _ _ x4).trans rfl
          have g0 : w4.cell? ⟨w.heap.size, 0, none⟩ = some (.int .i64 0) := (cell_of_row w4 _ 0 _ _ _ y4).trans rfl
          have g1 : w4.cell? ⟨w.heap.size, 1, none⟩ = some (.int .i64 0) := (cell_of_row w4 _ 1 _ _ _ y4).trans rfl
          have g2 : w4.cell? ⟨w.heap.size, 2, none⟩ = some (.int .i64 0) := (cell_of_row w4 _ 2 _ _ _ y4).trans rfl
          have z0 : w4.frozen? ⟨w.heap.size, 0, none⟩ = false := by simp [World.frozen?, y4]
          have z1 : w4.frozen? ⟨w.heap.size, 1, none⟩ = false := by simp [World.frozen?, y4]
          have z2' : w4.frozen? ⟨w.heap.size, 2, none⟩ = false := by simp [World.frozen?, y4]
          go_wp2_with fail
          obtain ⟨W9, e9, hB9, hh9, ho9⟩ := end_cellsD y4 (.int .i64 0) (.int .i64 0) (.int .i64 0)
          rw [e9]
          have v0 : W9.cell? ⟨w.heap.size, 0, none⟩ = some (.int .i64 0) := (cell_of_row W9 _ 0 _ _ _ hh9).trans rfl
          have v1 : W9.cell? ⟨w.heap.size, 1, none⟩ = some (.int .i64 0) := (cell_of_row W9 _ 1 _ _ _ hh9).trans rfl
          have v2 : W9.cell? ⟨w.heap.size, 2, none⟩ = some (.int .i64 0) := (cell_of_row W9 _ 2 _ _ _ hh9).trans rfl
          refine bodyPost_ret (v := .tuple #[dayV 0 0 0, .int .i64 3]) (by simp [results, Tryz.results14, go_sem, v0, v1, v2]) rfl ⟨rfl, b4.trans (hB9 _ (Nat.le_refl _))⟩
      · intro x c w1 cnt1 hwx hwc hlx hat hrg1 hlt hg1 hs1 hen
        have hb1 := HBR.out.grown hg1 HBR.out.size (fun j hj => by cases hj; omega)
        have hX1 := (hg1.block (w.heap.size + 1) (by omega) (by simp; omega)).trans HXR.out
        have hZ1 := (hg1.block w.heap.size (by omega) (by simp; omega)).trans HZR.out
        have HB1 := Lib.hid hb1
        have HX1 := Lib.hid hX1
        have HZ1 := Lib.hid hZ1
        have HRG1 := Lib.hid hrg1
        clear hb1 hX1 hZ1 hrg1 hg1
        rcases HLE.out _ hlx with e | e
        · obtain rfl : x = 3 := by injection e
          have hc := sign3 hat
          subst hc
          clear e hat hwx hwc
          have hPn : P (left (.int .i64 3) && !(Lit.int .i64 3).sameKey (.int .i64 3)) (left (.int .i64 4) && !(Lit.int .i64 4).sameKey (.int .i64 3)) (dayHit l 3 [62, 61] (k, wd, rest)) := by
            have h := HP.out
            rw [left_on, left_off 4 (by decide)]
            rw [hlx] at h
            exact PA.out _ _ h
          have HPN := Lib.hid hPn
          have hLE : ∀ kl, (left kl && !kl.sameKey (.int .i64 3)) = true → kl = .int .i64 3 ∨ kl = .int .i64 4 := fun kl h => HLE.out kl (by simp only [Bool.and_eq_true] at h; exact h.1)
          have HLN := Lib.hid hLE
          have hX1l : w.heap.size + 1 < w1.heap.size := (Array.getElem?_eq_some_iff.mp HX1.out).1
          clear hPn hLE hlx
          go_wp2_with fail
          refine (HCA.out _ (HM.out.below HB1.out)).mono ?_
          obtain ⟨cu, ecu⟩ : ∃ cu, Lib.cut l [62, 61] = cu := ⟨_, rfl⟩
          unfold dayHit at HPN
          rw [ecu] at HPN
          rw [ecu]
          clear ecu
          rintro e w2 ⟨rfl, hb2⟩
          have HB2 := Lib.hid (HB1.out.trans (hb2.mono HB1.out.size))
          have HX2 := Lib.hid ((hb2.block _ hX1l).trans HX1.out)
          have HZ2 := Lib.hid ((hb2.block w.heap.size (by omega)).trans HZ1.out)
          have HRG2 := Lib.hid (ranges_below HRG1.out hb2)
          have hX2l : w.heap.size + 1 < w2.heap.size := by have := hb2.size; omega
          clear hb2
          cases hcu : cu.2.2
          · rw [hcu] at HPN
            go_wp2
            go_roundw
            case rel => exact ⟨k, wd, rest, _, cnt1, rfl, HX2.out, HZ2.out, HRG2.out, HPN.out, HLN.out, HB2.out⟩
            case measure => rw [HRG2.out.left_eq, hrg.left_eq]; exact hlt
          · rw [hcu] at HPN
            go_wp2_with fail
            refine (weekday_any cu.1 _).mono ?_
            rintro e w3 ⟨rfl, hb3⟩
            have HB3 := Lib.hid (HB2.out.trans (hb3.mono HB2.out.size))
            have HX3 := Lib.hid ((hb3.block _ hX2l).trans HX2.out)
            have HZ3 := Lib.hid ((hb3.block w.heap.size (by omega)).trans HZ2.out)
            have HRG3 := Lib.hid (ranges_below HRG2.out hb3)
            have hX3l : w.heap.size + 1 < w3.heap.size := by have := hb3.size; omega
            have c0 : w3.cell? ⟨w.heap.size + 1, 0, none⟩ = some (.int .i64 k) := (cell_of_row w3 _ 0 _ _ _ HX3.out).trans rfl
            have c1 : w3.cell? ⟨w.heap.size + 1, 1, none⟩ = some (.int .i64 wd) := (cell_of_row w3 _ 1 _ _ _ HX3.out).trans rfl
            have z0 : w3.frozen? ⟨w.heap.size + 1, 0, none⟩ = false := by simp [World.frozen?, HX3.out]
            have z1 : w3.frozen? ⟨w.heap.size + 1, 1, none⟩ = false := by simp [World.frozen?, HX3.out]
            have hcc : (w3.setCell ⟨w.heap.size + 1, 0, none⟩ (.int .i64 3)).cell? ⟨w.heap.size + 1, 1, none⟩ = some (.int .i64 wd) := (cell_of_row _ _ 1 _ _ _ (heap_setCd HX3.out _)).trans rfl
            have hzz : (w3.setCell ⟨w.heap.size + 1, 0, none⟩ (.int .i64 3)).frozen? ⟨w.heap.size + 1, 1, none⟩ = false := by simp [World.frozen?, heap_setCd HX3.out]
            clear hb3
            go_wp2
            go_roundw
            case rel =>
              refine ⟨3, wdayV cu.1, cu.2.1, _, cnt1, rfl, (heap_setCd (heap_setCd HX3.out _) _).trans rfl, ?_, ranges_set (ranges_set HRG3.out _ _ _ (by omega) (by omega)) _ _ _ (by omega) (by omega), HPN.out, HLN.out, (HB3.out.setCell (by show w.heap.size ≤ w.heap.size + 1; omega) _).setCell (by show w.heap.size ≤ w.heap.size + 1; omega) _⟩
              rw [Below.heap_setCell _ _ _ _ (by show w.heap.size ≠ w.heap.size + 1; omega), Below.heap_setCell _ _ _ _ (by show w.heap.size ≠ w.heap.size + 1; omega)]
              exact HZ3.out
            case measure =>
              rw [(ranges_set (ranges_set HRG3.out (w.heap.size + 1) 0 (.int .i64 3) (by omega) (by omega)) (w.heap.size + 1) 1 (.int .i64 (wdayV cu.1)) (by omega) (by omega)).left_eq, hrg.left_eq]; exact hlt
        · obtain rfl : x = 4 := by injection e
          have hc := sign4 hat
          subst hc
          clear e hat hwx hwc
          have hPn : P (left (.int .i64 3) && !(Lit.int .i64 3).sameKey (.int .i64 4)) (left (.int .i64 4) && !(Lit.int .i64 4).sameKey (.int .i64 4)) (dayHit l 4 [60, 61] (k, wd, rest)) := by
            have h := HP.out
            rw [left_on, left_off 3 (by decide)]
            rw [hlx] at h
            exact PB.out _ _ h
          have HPN := Lib.hid hPn
          have hLE : ∀ kl, (left kl && !kl.sameKey (.int .i64 4)) = true → kl = .int .i64 3 ∨ kl = .int .i64 4 := fun kl h => HLE.out kl (by simp only [Bool.and_eq_true] at h; exact h.1)
          have HLN := Lib.hid hLE
          have hX1l : w.heap.size + 1 < w1.heap.size := (Array.getElem?_eq_some_iff.mp HX1.out).1
          clear hPn hLE hlx
          go_wp2_with fail
          refine (HCB.out _ (HM.out.below HB1.out)).mono ?_
          obtain ⟨cu, ecu⟩ : ∃ cu, Lib.cut l [60, 61] = cu := ⟨_, rfl⟩
          unfold dayHit at HPN
          rw [ecu] at HPN
          rw [ecu]
          clear ecu
          rintro e w2 ⟨rfl, hb2⟩
          have HB2 := Lib.hid (HB1.out.trans (hb2.mono HB1.out.size))
          have HX2 := Lib.hid ((hb2.block _ hX1l).trans HX1.out)
          have HZ2 := Lib.hid ((hb2.block w.heap.size (by omega)).trans HZ1.out)
          have HRG2 := Lib.hid (ranges_below HRG1.out hb2)
          have hX2l : w.heap.size + 1 < w2.heap.size := by have := hb2.size; omega
          clear hb2
          cases hcu : cu.2.2
          · rw [hcu] at HPN
            go_wp2
            go_roundw
            case rel => exact ⟨k, wd, rest, _, cnt1, rfl, HX2.out, HZ2.out, HRG2.out, HPN.out, HLN.out, HB2.out⟩
            case measure => rw [HRG2.out.left_eq, hrg.left_eq]; exact hlt
          · rw [hcu] at HPN
            go_wp2_with fail
            refine (weekday_any cu.1 _).mono ?_
            rintro e w3 ⟨rfl, hb3⟩
            have HB3 := Lib.hid (HB2.out.trans (hb3.mono HB2.out.size))
            have HX3 := Lib.hid ((hb3.block _ hX2l).trans HX2.out)
            have HZ3 := Lib.hid ((hb3.block w.heap.size (by omega)).trans HZ2.out)
            have HRG3 := Lib.hid (ranges_below HRG2.out hb3)
            have hX3l : w.heap.size + 1 < w3.heap.size := by have := hb3.size; omega
            have c0 : w3.cell? ⟨w.heap.size + 1, 0, none⟩ = some (.int .i64 k) := (cell_of_row w3 _ 0 _ _ _ HX3.out).trans rfl
            have c1 : w3.cell? ⟨w.heap.size + 1, 1, none⟩ = some (.int .i64 wd) := (cell_of_row w3 _ 1 _ _ _ HX3.out).trans rfl
            have z0 : w3.frozen? ⟨w.heap.size + 1, 0, none⟩ = false := by simp [World.frozen?, HX3.out]
            have z1 : w3.frozen? ⟨w.heap.size + 1, 1, none⟩ = false := by simp [World.frozen?, HX3.out]
            have hcc : (w3.setCell ⟨w.heap.size + 1, 0, none⟩ (.int .i64 4)).cell? ⟨w.heap.size + 1, 1, none⟩ = some (.int .i64 wd) := (cell_of_row _ _ 1 _ _ _ (heap_setCd HX3.out _)).trans rfl
            have hzz : (w3.setCell ⟨w.heap.size + 1, 0, none⟩ (.int .i64 4)).frozen? ⟨w.heap.size + 1, 1, none⟩ = false := by simp [World.frozen?, heap_setCd HX3.out]
            clear hb3
            go_wp2
            go_roundw
            case rel =>
              refine ⟨4, wdayV cu.1, cu.2.1, _, cnt1, rfl, (heap_setCd (heap_setCd HX3.out _) _).trans rfl, ?_, ranges_set (ranges_set HRG3.out _ _ _ (by omega) (by omega)) _ _ _ (by omega) (by omega), HPN.out, HLN.out, (HB3.out.setCell (by show w.heap.size ≤ w.heap.size + 1; omega) _).setCell (by show w.heap.size ≤ w.heap.size + 1; omega) _⟩
              rw [Below.heap_setCell _ _ _ _ (by show w.heap.size ≠ w.heap.size + 1; omega), Below.heap_setCell _ _ _ _ (by show w.heap.size ≠ w.heap.size + 1; omega)]
              exact HZ3.out
            case measure =>
              rw [(ranges_set (ranges_set HRG3.out (w.heap.size + 1) 0 (.int .i64 4) (by omega) (by omega)) (w.heap.size + 1) 1 (.int .i64 (wdayV cu.1)) (by omega) (by omega)).left_eq, hrg.left_eq]; exact hlt
  · obtain ⟨wd0, ewd⟩ : ∃ wd0, wdayV (Lib.trimPrefix l [108, 97, 115, 116]) = wd0 := ⟨_, rfl⟩
    have eS0 : dayS0 l = (2, wd0, [48]) := by unfold dayS0; rw [hpf, ewd]; rfl
    rw [eS0] at P0
    rw [ewd] at HWD
    clear ewd eS0 hpf
    go_wp2_with fail
    obtain ⟨W0, eW⟩ : ∃ W0, (w.alloc (.cells #[.int .i64 0, .int .i64 0, .int .i64 0] 26)).alloc (.cells #[.int .i64 1, .int .i64 0, .int .i64 0] 26) = W0 := ⟨_, rfl⟩
    rw [eW]
    have hbW0 : Below w.heap.size w W0 := by rw [← eW]; exact ((Below.refl _ _).alloc (Nat.le_refl _) _).alloc (by simp) _
    have hX00 : W0.heap[w.heap.size + 1]? = some (.cells #[.int .i64 1, .int .i64 0, .int .i64 0] 26 (0, 0)) := by
      rw [← eW]
      have := heap_alloc_new (w.alloc (.cells #[.int .i64 0, .int .i64 0, .int .i64 0] 26)) (.cells #[.int .i64 1, .int .i64 0, .int .i64 0] 26)
      simpa using this
    have hZ00 : W0.heap[w.heap.size]? = some (.cells #[.int .i64 0, .int .i64 0, .int .i64 0] 26 (0, 0)) := by
      rw [← eW, Below.heap_alloc _ _ _ (by simp)]
      exact heap_alloc_new w _
    have hW0l : w.heap.size + 1 < W0.heap.size := (Array.getElem?_eq_some_iff.mp hX00).1
    clear eW
    refine (HWD.out _).mono ?_
    rintro e w5 ⟨rfl, hb5⟩
    have hX5 := (hb5.block _ hW0l).trans hX00
    have hZ5 := (hb5.block w.heap.size (by omega)).trans hZ00
    have hbW5 := hbW0.trans (hb5.mono hbW0.size)
    have hX5l : w.heap.size + 1 < w5.heap.size := (Array.getElem?_eq_some_iff.mp hX5).1
    have c0 : w5.cell? ⟨w.heap.size + 1, 0, none⟩ = some (.int .i64 1) := (cell_of_row w5 _ 0 _ _ _ hX5).trans rfl
    have z0 : w5.frozen? ⟨w.heap.size + 1, 0, none⟩ = false := by simp [World.frozen?, hX5]
    have hcc : (w5.setCell ⟨w.heap.size + 1, 0, none⟩ (.int .i64 2)).cell? ⟨w.heap.size + 1, 1, none⟩ = some (.int .i64 0) := (cell_of_row _ _ 1 _ _ _ (heap_setCd hX5 _)).trans rfl
    have hzz : (w5.setCell ⟨w.heap.size + 1, 0, none⟩ (.int .i64 2)).frozen? ⟨w.heap.size + 1, 1, none⟩ = false := by simp [World.frozen?, heap_setCd hX5]
    have c1 : w5.cell? ⟨w.heap.size + 1, 1, none⟩ = some (.int .i64 0) := (cell_of_row w5 _ 1 _ _ _ hX5).trans rfl
    have z1 : w5.frozen? ⟨w.heap.size + 1, 1, none⟩ = false := by simp [World.frozen?, hX5]
    clear hb5 hbW0 hX00 hZ00
    go_wp2_with fail
    obtain ⟨W, eW⟩ : ∃ W, (w5.setCell ⟨w.heap.size + 1, 0, none⟩ (.int .i64 2)).setCell ⟨w.heap.size + 1, 1, none⟩ (.int .i64 wd0) = W := ⟨_, rfl⟩
    rw [eW]
    have hbW : Below w.heap.size w W := by rw [← eW]; exact (hbW5.setCell (by show w.heap.size ≤ w.heap.size + 1; omega) _).setCell (by show w.heap.size ≤ w.heap.size + 1; omega) _
    have hX : W.heap[w.heap.size + 1]? = some (.cells #[.int .i64 2, .int .i64 wd0, .int .i64 0] 26 (0, 0)) := by
      rw [← eW]; exact (heap_setCd (heap_setCd hX5 _) _).trans rfl
    have hZ : W.heap[w.heap.size]? = some (.cells #[.int .i64 0, .int .i64 0, .int .i64 0] 26 (0, 0)) := by
      rw [← eW, Below.heap_setCell _ _ _ _ (by show w.heap.size ≠ w.heap.size + 1; omega), Below.heap_setCell _ _ _ _ (by show w.heap.size ≠ w.heap.size + 1; omega)]
      exact hZ5
    clear eW hX5 hZ5 hbW5 hX5l c0 z0 hcc hzz c1 z1 hW0l
    have HBW := Lib.hid hbW
    have HX := Lib.hid hX
    have HZ := Lib.hid hZ
    have hXlt : w.heap.size + 1 < W.heap.size := (Array.getElem?_eq_some_iff.mp hX).1
    clear hbW hX hZ
    obtain ⟨W1, W2, r1, r2, hown, hgr⟩ := signs_made W W.heap.size rfl
    rw [run_makeMap]
    go_wp2_with (at_range; refine wpList_range_own _ rfl _ 61 rfl 3 9 keyI Tryz.underlying61 _ _ 2 _ rfl hown ?_; intro w0 hrg0 hg0 hs0)
    go_frame
    have hWW : W.heap.size < W2.heap.size := hown.lt
    have hgA := hgr.andThen hg0 (fun j hj => by cases hj)
    have hX0 := (hgA.block _ hXlt (by simp)).trans HX.out
    have hZ0 := (hgA.block w.heap.size (by omega) (by simp)).trans HZ.out
    have hb0 := HBW.out.grown hgA HBW.out.size (fun j hj => by cases hj)
    clear hgr hg0 hgA hs0 hown r1 r2
    go_loopw [5] (fun s5 wr => ∃ (k wd : Int) (rest : List UInt8) (left : Lit → Bool) (cnt : Nat), s5 = .string (txt rest) ∧ wr.heap[w.heap.size + 1]? = some (.cells #[.int .i64 k, .int .i64 wd, .int .i64 0] 26 (0, 0)) ∧ wr.heap[w.heap.size]? = some (.cells #[.int .i64 0, .int .i64 0, .int .i64 0] 26 (0, 0)) ∧
      wr.ranges Tryz.prog 3 (plainElem Tryz.prog 9) W.heap.size W2.heap.size 2 signsD left cnt ∧ P (left (.int .i64 3)) (left (.int .i64 4)) (k, wd, rest) ∧ (∀ kl, left kl = true → kl = .int .i64 3 ∨ kl = .int .i64 4) ∧ Below w.heap.size w wr) (fun _ wr => wr.rangeLeft W.heap.size W2.heap.size)
    case atStart => exact ⟨2, wd0, [48], _, _, rfl, hX0, hZ0, hrg0, by rw [signs_has3, signs_has4]; exact P0.out, signs_has, hb0⟩
    case round =>
      obtain ⟨k, wd, rest, left, cnt, rfl, hXr, hZr, hrg, hP, hle, hbr⟩ := hrel
      have HXR := Lib.hid hXr
      have HZR := Lib.hid hZr
      have HP := Lib.hid hP
      have HLE := Lib.hid hle
      have HBR := Lib.hid hbr
      have hsr : W2.heap.size < wr.heap.size := hrg.lt
      clear hXr hZr hP hle hbr hX0 hZ0 hrg0 hb0
      go_wp2_with (first
        | (at_next; refine wpList_next_ranges_is _ rfl _ rfl 3 9 .i64 keyI Tryz.underlying3 Tryz.underlying9 W.heap.size W2.heap.size 2 _ _ _ rfl hrg ?_ ?_)
        | go_in)
      · intro _ hl0
        have hPe : P false false (k, wd, rest) := by
          have h := HP.out
          rw [hl0, hl0] at h
          exact h
        have hsm := PSM.out _ _ _ hPe
        have hres := HEND.out _ hPe
        unfold DayRes at hres
        simp only at hres hsm
        have hXl : w.heap.size + 1 < wr.heap.size := (Array.getElem?_eq_some_iff.mp HXR.out).1
        clear hl0 hPe hrg
        go_wp2_with fail
        refine (Atoi_any rest _ hsm (HN.out.below HBR.out)).mono ?_
        rintro e w2 ⟨ev, rfl, hb2, -⟩
        have HB2 := Lib.hid (HBR.out.trans (hb2.mono HBR.out.size))
        have HX2 := Lib.hid ((hb2.block _ hXl).trans HXR.out)
        have HZ2 := Lib.hid ((hb2.block w.heap.size (by omega)).trans HZR.out)
        have hX2l : w.heap.size + 1 < w2.heap.size := by have := hb2.size; omega
        clear hb2
        obtain ⟨N, eN⟩ : ∃ N, atoiV rest = N := ⟨_, rfl⟩
        rw [eN] at hres
        rw [eN]
        clear eN
        have c2 : w2.cell? ⟨w.heap.size + 1, 2, none⟩ = some (.int .i64 0) := (cell_of_row w2 _ 2 _ _ _ HX2.out).trans rfl
        have z2 : w2.frozen? ⟨w.heap.size + 1, 2, none⟩ = false := by simp [World.frozen?, HX2.out]
        obtain ⟨w3, ew3⟩ : ∃ w3, w2.setCell ⟨w.heap.size + 1, 2, none⟩ (.int .i64 N) = w3 := ⟨_, rfl⟩
        have hX3 := heap_setCd (i := 2) HX2.out (.int .i64 N)
        have hZ3 : (w2.setCell ⟨w.heap.size + 1, 2, none⟩ (.int .i64 N)).heap[w.heap.size]? = some (.cells #[.int .i64 0, .int .i64 0, .int .i64 0] 26 (0, 0)) := (Below.heap_setCell _ _ _ _ (by show w.heap.size ≠ w.heap.size + 1; omega)).trans HZ2.out
        have hb3 := HB2.out.setCell (p := ⟨w.heap.size + 1, 2, none⟩) (by show w.heap.size ≤ w.heap.size + 1; omega) (.int .i64 N)
        rw [ew3] at hX3 hZ3 hb3
        have hl3 : w.heap.size + 1 < w3.heap.size := (Array.getElem?_eq_some_iff.mp hX3).1
        have d0 : w3.cell? ⟨w.heap.size + 1, 0, none⟩ = some (.int .i64 k) := (cell_of_row w3 _ 0 _ _ _ hX3).trans rfl
        have d1 : w3.cell? ⟨w.heap.size + 1, 1, none⟩ = some (.int .i64 wd) := (cell_of_row w3 _ 1 _ _ _ hX3).trans rfl
        have d2 : w3.cell? ⟨w.heap.size + 1, 2, none⟩ = some (.int .i64 N) := (cell_of_row w3 _ 2 _ _ _ hX3).trans rfl
        go_wp2_with fail
        have HX3 := Lib.hid hX3
        have HZ3 := Lib.hid hZ3
        have HB3 := Lib.hid hb3
        clear hX3 hZ3 hb3
        have hfin : ∀ (w4 : World), Below w3.heap.size w3 w4 → w4.heap[w.heap.size + 1]? = some (.cells #[.int .i64 k, .int .i64 wd, .int .i64 N] 26 (0, 0)) ∧ w4.heap[w.heap.size]? = some (.cells #[.int .i64 0, .int .i64 0, .int .i64 0] 26 (0, 0)) ∧ Below w.heap.size w w4 ∧ w.heap.size + 1 < w4.heap.size := fun w4 hb4 =>
          ⟨(hb4.block _ hl3).trans HX3.out, (hb4.block _ (by omega)).trans HZ3.out, HB3.out.trans (hb4.mono HB3.out.size), by have := hb4.size; omega⟩
        have HFIN := Lib.hid hfin
        clear hfin
        rcases hres with ⟨hB, hT, rfl⟩ | ⟨hB, hT, rfl⟩ | ⟨hB, rfl⟩
        · refine (Text_ok k wd N w3 hB (HT.out.below HB3.out)).mono ?_
          rw [hT, ES.out]
          rintro e w4 ⟨rfl, hb4⟩
          obtain ⟨x4, y4, b4, l4⟩ := HFIN.out w4 hb4
          clear hT hb4
          have e0 : w4.cell? ⟨w.heap.size + 1, 0, none⟩ = some (.int .i64 k) := (cell_of_row w4 _ 0 _ _ _ x4).trans rfl
          have e1 : w4.cell? ⟨w.heap.size + 1, 1, none⟩ = some (.int .i64 wd) := (cell_of_row w4 _ 1 _ _ _ x4).trans rfl
          have e2 : w4.cell? ⟨w.heap.size + 1, 2, none⟩ = some (.int .i64 N) := (cell_of_row w4 _ 2 _ _ _ x4).trans rfl
          have g0 : w4.cell? ⟨w.heap.size, 0, none⟩ = some (.int .i64 0) := (cell_of_row w4 _ 0 _ _ _ y4).trans rfl
          have g1 : w4.cell? ⟨w.heap.size, 1, none⟩ = some (.int .i64 0) := (cell_of_row w4 _ 1 _ _ _ y4).trans rfl
          have g2 : w4.cell? ⟨w.heap.size, 2, none⟩ = some (.int .i64 0) := (cell_of_row w4 _ 2 _ _ _ y4).trans rfl
          have z0 : w4.frozen? ⟨w.heap.size, 0, none⟩ = false := by simp [World.frozen?, y4]
          have z1 : w4.frozen? ⟨w.heap.size, 1, none⟩ = false := by simp [World.frozen?, y4]
          have z2' : w4.frozen? ⟨w.heap.size, 2, none⟩ = false := by simp [World.frozen?, y4]
          go_wp2_with fail
          obtain ⟨W9, e9, hB9, hh9, ho9⟩ := end_cellsD y4 (.int .i64 k) (.int .i64 wd) (.int .i64 N)
          rw [e9]
          have v0 : W9.cell? ⟨w.heap.size, 0, none⟩ = some (.int .i64 k) := (cell_of_row W9 _ 0 _ _ _ hh9).trans rfl
          have v1 : W9.cell? ⟨w.heap.size, 1, none⟩ = some (.int .i64 wd) := (cell_of_row W9 _ 1 _ _ _ hh9).trans rfl
          have v2 : W9.cell? ⟨w.heap.size, 2, none⟩ = some (.int .i64 N) := (cell_of_row W9 _ 2 _ _ _ hh9).trans rfl
          refine bodyPost_ret (v := .tuple #[dayV k wd N, .int .i64 0]) (by simp [results, Tryz.results14, go_sem, v0, v1, v2]) rfl ⟨rfl, b4.trans (hB9 _ (Nat.le_refl _))⟩
        · refine (Text_ok k wd N w3 hB (HT.out.below HB3.out)).mono ?_
          have hne : ((txt (dayT k wd N)).toList == S.toList) = false := by rw [← ES.out]; exact txt_ne hT
          generalize txt (dayT k wd N) = U at hne
          rintro e w4 ⟨rfl, hb4⟩
          obtain ⟨x4, y4, b4, l4⟩ := HFIN.out w4 hb4
          clear hT hb4
          have e0 : w4.cell? ⟨w.heap.size + 1, 0, none⟩ = some (.int .i64 k) := (cell_of_row w4 _ 0 _ _ _ x4).trans rfl
          have e1 : w4.cell? ⟨w.heap.size + 1, 1, none⟩ = some (.int .i64 wd) := (cell_of_row w4 _ 1 _ _ _ x4).trans rfl
          have e2 : w4.cell? ⟨w.heap.size + 1, 2, none⟩ = some (.int .i64 N) := (cell_of_row w4 _ 2 _ _ _ x4).trans rfl
          have g0 : w4.cell? ⟨w.heap.size, 0, none⟩ = some (.int .i64 0) := (cell_of_row w4 _ 0 _ _ _ y4).trans rfl
          have g1 : w4.cell? ⟨w.heap.size, 1, none⟩ = some (.int .i64 0) := (cell_of_row w4 _ 1 _ _ _ y4).trans rfl
          have g2 : w4.cell? ⟨w.heap.size, 2, none⟩ = some (.int .i64 0) := (cell_of_row w4 _ 2 _ _ _ y4).trans rfl
          have z0 : w4.frozen? ⟨w.heap.size, 0, none⟩ = false := by simp [World.frozen?, y4]
          have z1 : w4.frozen? ⟨w.heap.size, 1, none⟩ = false := by simp [World.frozen?, y4]
          have z2' : w4.frozen? ⟨w.heap.size, 2, none⟩ = false := by simp [World.frozen?, y4]
          go_wp2_with fail
          obtain ⟨W9, e9, hB9, hh9, ho9⟩ := end_cellsD y4 (.int .i64 0) (.int .i64 0) (.int .i64 0)
          rw [e9]
          have v0 : W9.cell? ⟨w.heap.size, 0, none⟩ = some (.int .i64 0) := (cell_of_row W9 _ 0 _ _ _ hh9).trans rfl
          have v1 : W9.cell? ⟨w.heap.size, 1, none⟩ = some (.int .i64 0) := (cell_of_row W9 _ 1 _ _ _ hh9).trans rfl
          have v2 : W9.cell? ⟨w.heap.size, 2, none⟩ = some (.int .i64 0) := (cell_of_row W9 _ 2 _ _ _ hh9).trans rfl
          refine bodyPost_ret (v := .tuple #[dayV 0 0 0, .int .i64 3]) (by simp [results, Tryz.results14, go_sem, v0, v1, v2]) rfl ⟨rfl, b4.trans (hB9 _ (Nat.le_refl _))⟩
        · refine (Text_no k wd N w3 hB).mono ?_
          rintro e w4 ⟨rfl, hb4⟩
          obtain ⟨x4, y4, b4, l4⟩ := HFIN.out w4 hb4
          clear hb4
          have e0 : w4.cell? ⟨w.heap.size + 1, 0, none⟩ = some (.int .i64 k) := (cell_of_row w4 _ 0 _ _ _ x4).trans rfl
          have e1 : w4.cell? ⟨w.heap.size + 1, 1, none⟩ = some (.int .i64 wd) := (cell_of_row w4 _ 1 _ _ _ x4).trans rfl
          have e2 : w4.cell? ⟨w.heap.size + 1, 2, none⟩ = some (.int .i64 N) := (cell_of_row w4 _ 2 _ _ _ x4).trans rfl
          have g0 : w4.cell? ⟨w.heap.size, 0, none⟩ = some (.int .i64 0) := (cell_of_row w4 _ 0 _ _ _ y4).trans rfl
          have g1 : w4.cell? ⟨w.heap.size, 1, none⟩ = some (.int .i64 0) := (cell_of_row w4 _ 1 _ _ _ y4).trans rfl
          have g2 : w4.cell? ⟨w.heap.size, 2, none⟩ = some (.int .i64 0) := (cell_of_row w4 _ 2 _ _ _ y4).trans rfl
          have z0 : w4.frozen? ⟨w.heap.size, 0, none⟩ = false := by simp [World.frozen?, y4]
          have z1 : w4.frozen? ⟨w.heap.size, 1, none⟩ = false := by simp [World.frozen?, y4]
          have z2' : w4.frozen? ⟨w.heap.size, 2, none⟩ = false := by simp [World.frozen?, y4]
          go_wp2_with fail
          obtain ⟨W9, e9, hB9, hh9, ho9⟩ := end_cellsD y4 (.int .i64 0) (.int .i64 0) (.int .i64 0)
          rw [e9]
          have v0 : W9.cell? ⟨w.heap.size, 0, none⟩ = some (.int .i64 0) := (cell_of_row W9 _ 0 _ _ _ hh9).trans rfl
          have v1 : W9.cell? ⟨w.heap.size, 1, none⟩ = some (.int .i64 0) := (cell_of_row W9 _ 1 _ _ _ hh9).trans rfl
          have v2 : W9.cell? ⟨w.heap.size, 2, none⟩ = some (.int .i64 0) := (cell_of_row W9 _ 2 _ _ _ hh9).trans rfl
          refine bodyPost_ret (v := .tuple #[dayV 0 0 0, .int .i64 3]) (by simp [results, Tryz.results14, go_sem, v0, v1, v2]) rfl ⟨rfl, b4.trans (hB9 _ (Nat.le_refl _))⟩
      · intro x c w1 cnt1 hwx hwc hlx hat hrg1 hlt hg1 hs1 hen
        have hb1 := HBR.out.grown hg1 HBR.out.size (fun j hj => by cases hj; omega)
        have hX1 := (hg1.block (w.heap.size + 1) (by omega) (by simp; omega)).trans HXR.out
        have hZ1 := (hg1.block w.heap.size (by omega) (by simp; omega)).trans HZR.out
        have HB1 := Lib.hid hb1
        have HX1 := Lib.hid hX1
        have HZ1 := Lib.hid hZ1
        have HRG1 := Lib.hid hrg1
        clear hb1 hX1 hZ1 hrg1 hg1
        rcases HLE.out _ hlx with e | e
        · obtain rfl : x = 3 := by injection e
          have hc := sign3 hat
          subst hc
          clear e hat hwx hwc
          have hPn : P (left (.int .i64 3) && !(Lit.int .i64 3).sameKey (.int .i64 3)) (left (.int .i64 4) && !(Lit.int .i64 4).sameKey (.int .i64 3)) (dayHit l 3 [62, 61] (k, wd, rest)) := by
            have h := HP.out
            rw [left_on, left_off 4 (by decide)]
            rw [hlx] at h
            exact PA.out _ _ h
          have HPN := Lib.hid hPn
          have hLE : ∀ kl, (left kl && !kl.sameKey (.int .i64 3)) = true → kl = .int .i64 3 ∨ kl = .int .i64 4 := fun kl h => HLE.out kl (by simp only [Bool.and_eq_true] at h; exact h.1)
          have HLN := Lib.hid hLE
          have hX1l : w.heap.size + 1 < w1.heap.size := (Array.getElem?_eq_some_iff.mp HX1.out).1
          clear hPn hLE hlx
          go_wp2_with fail
          refine (HCA.out _ (HM.out.below HB1.out)).mono ?_
          obtain ⟨cu, ecu⟩ : ∃ cu, Lib.cut l [62, 61] = cu := ⟨_, rfl⟩
          unfold dayHit at HPN
          rw [ecu] at HPN
          rw [ecu]
          clear ecu
          rintro e w2 ⟨rfl, hb2⟩
          have HB2 := Lib.hid (HB1.out.trans (hb2.mono HB1.out.size))
          have HX2 := Lib.hid ((hb2.block _ hX1l).trans HX1.out)
          have HZ2 := Lib.hid ((hb2.block w.heap.size (by omega)).trans HZ1.out)
          have HRG2 := Lib.hid (ranges_below HRG1.out hb2)
          have hX2l : w.heap.size + 1 < w2.heap.size := by have := hb2.size; omega
          clear hb2
          cases hcu : cu.2.2
          · rw [hcu] at HPN
            go_wp2
            go_roundw
            case rel => exact ⟨k, wd, rest, _, cnt1, rfl, HX2.out, HZ2.out, HRG2.out, HPN.out, HLN.out, HB2.out⟩
            case measure => rw [HRG2.out.left_eq, hrg.left_eq]; exact hlt
          · rw [hcu] at HPN
            go_wp2_with fail
            refine (weekday_any cu.1 _).mono ?_
            rintro e w3 ⟨rfl, hb3⟩
            have HB3 := Lib.hid (HB2.out.trans (hb3.mono HB2.out.size))
            have HX3 := Lib.hid ((hb3.block _ hX2l).trans HX2.out)
            have HZ3 := Lib.hid ((hb3.block w.heap.size (by omega)).trans HZ2.out)
            have HRG3 := Lib.hid (ranges_below HRG2.out hb3)
            have hX3l : w.heap.size + 1 < w3.heap.size := by have := hb3.size; omega
            have c0 : w3.cell? ⟨w.heap.size + 1, 0, none⟩ = some (.int .i64 k) := (cell_of_row w3 _ 0 _ _ _ HX3.out).trans rfl
            have c1 : w3.cell? ⟨w.heap.size + 1, 1, none⟩ = some (.int .i64 wd) := (cell_of_row w3 _ 1 _ _ _ HX3.out).trans rfl
            have z0 : w3.frozen? ⟨w.heap.size + 1, 0, none⟩ = false := by simp [World.frozen?, HX3.out]
            have z1 : w3.frozen? ⟨w.heap.size + 1, 1, none⟩ = false := by simp [World.frozen?, HX3.out]
            have hcc : (w3.setCell ⟨w.heap.size + 1, 0, none⟩ (.int .i64 3)).cell? ⟨w.heap.size + 1, 1, none⟩ = some (.int .i64 wd) := (cell_of_row _ _ 1 _ _ _ (heap_setCd HX3.out _)).trans rfl
            have hzz : (w3.setCell ⟨w.heap.size + 1, 0, none⟩ (.int .i64 3)).frozen? ⟨w.heap.size + 1, 1, none⟩ = false := by simp [World.frozen?, heap_setCd HX3.out]
            clear hb3
            go_wp2
            go_roundw
            case rel =>
              refine ⟨3, wdayV cu.1, cu.2.1, _, cnt1, rfl, (heap_setCd (heap_setCd HX3.out _) _).trans rfl, ?_, ranges_set (ranges_set HRG3.out _ _ _ (by omega) (by omega)) _ _ _ (by omega) (by omega), HPN.out, HLN.out, (HB3.out.setCell (by show w.heap.size ≤ w.heap.size + 1; omega) _).setCell (by show w.heap.size ≤ w.heap.size + 1; omega) _⟩
              rw [Below.heap_setCell _ _ _ _ (by show w.heap.size ≠ w.heap.size + 1; omega), Below.heap_setCell _ _ _ _ (by show w.heap.size ≠ w.heap.size + 1; omega)]
              exact HZ3.out
            case measure =>
              rw [(ranges_set (ranges_set HRG3.out (w.heap.size + 1) 0 (.int .i64 3) (by omega) (by omega)) (w.heap.size + 1) 1 (.int .i64 (wdayV cu.1)) (by omega) (by omega)).left_eq, hrg.left_eq]; exact hlt
        · obtain rfl : x = 4 := by injection e
          have hc := sign4 hat
          subst hc
          clear e hat hwx hwc
          have hPn : P (left (.int .i64 3) && !(Lit.int .i64 3).sameKey (.int .i64 4)) (left (.int .i64 4) && !(Lit.int .i64 4).sameKey (.int .i64 4)) (dayHit l 4 [60, 61] (k, wd, rest)) := by
            have h := HP.out
            rw [left_on, left_off 3 (by decide)]
            rw [hlx] at h
            exact PB.out _ _ h
          have HPN := Lib.hid hPn
          have hLE : ∀ kl, (left kl && !kl.sameKey (.int .i64 4)) = true → kl = .int .i64 3 ∨ kl = .int .i64 4 := fun kl h => HLE.out kl (by simp only [Bool.and_eq_true] at h; exact h.1)
          have HLN := Lib.hid hLE
          have hX1l : w.heap.size + 1 < w1.heap.size := (Array.getElem?_eq_some_iff.mp HX1.out).1
          clear hPn hLE hlx
          go_wp2_with fail
          refine (HCB.out _ (HM.out.below HB1.out)).mono ?_
          obtain ⟨cu, ecu⟩ : ∃ cu, Lib.cut l [60, 61] = cu := ⟨_, rfl⟩
          unfold dayHit at HPN
          rw [ecu] at HPN
          rw [ecu]
          clear ecu
          rintro e w2 ⟨rfl, hb2⟩
          have HB2 := Lib.hid (HB1.out.trans (hb2.mono HB1.out.size))
          have HX2 := Lib.hid ((hb2.block _ hX1l).trans HX1.out)
          have HZ2 := Lib.hid ((hb2.block w.heap.size (by omega)).trans HZ1.out)
          have HRG2 := Lib.hid (ranges_below HRG1.out hb2)
          have hX2l : w.heap.size + 1 < w2.heap.size := by have := hb2.size; omega
          clear hb2
          cases hcu : cu.2.2
          · rw [hcu] at HPN
            go_wp2
            go_roundw
            case rel => exact ⟨k, wd, rest, _, cnt1, rfl, HX2.out, HZ2.out, HRG2.out, HPN.out, HLN.out, HB2.out⟩
            case measure => rw [HRG2.out.left_eq, hrg.left_eq]; exact hlt
          · rw [hcu] at HPN
            go_wp2_with fail
            refine (weekday_any cu.1 _).mono ?_
            rintro e w3 ⟨rfl, hb3⟩
            have HB3 := Lib.hid (HB2.out.trans (hb3.mono HB2.out.size))
            have HX3 := Lib.hid ((hb3.block _ hX2l).trans HX2.out)
            have HZ3 := Lib.hid ((hb3.block w.heap.size (by omega)).trans HZ2.out)
            have HRG3 := Lib.hid (ranges_below HRG2.out hb3)
            have hX3l : w.heap.size + 1 < w3.heap.size := by have := hb3.size; omega
            have c0 : w3.cell? ⟨w.heap.size + 1, 0, none⟩ = some (.int .i64 k) := (cell_of_row w3 _ 0 _ _ _ HX3.out).trans rfl
            have c1 : w3.cell? ⟨w.heap.size + 1, 1, none⟩ = some (.int .i64 wd) := (cell_of_row w3 _ 1 _ _ _ HX3.out).trans rfl
            have z0 : w3.frozen? ⟨w.heap.size + 1, 0, none⟩ = false := by simp [World.frozen?, HX3.out]
            have z1 : w3.frozen? ⟨w.heap.size + 1, 1, none⟩ = false := by simp [World.frozen?, HX3.out]
            have hcc : (w3.setCell ⟨w.heap.size + 1, 0, none⟩ (.int .i64 4)).cell? ⟨w.heap.size + 1, 1, none⟩ = some (.int .i64 wd) := (cell_of_row _ _ 1 _ _ _ (heap_setCd HX3.out _)).trans rfl
            have hzz : (w3.setCell ⟨w.heap.size + 1, 0, none⟩ (.int .i64 4)).frozen? ⟨w.heap.size + 1, 1, none⟩ = false := by simp [World.frozen?, heap_setCd HX3.out]
            clear hb3
            go_wp2
            go_roundw
            case rel =>
              refine ⟨4, wdayV cu.1, cu.2.1, _, cnt1, rfl, (heap_setCd (heap_setCd HX3.out _) _).trans rfl, ?_, ranges_set (ranges_set HRG3.out _ _ _ (by omega) (by omega)) _ _ _ (by omega) (by omega), HPN.out, HLN.out, (HB3.out.setCell (by show w.heap.size ≤ w.heap.size + 1; omega) _).setCell (by show w.heap.size ≤ w.heap.size + 1; omega) _⟩
              rw [Below.heap_setCell _ _ _ _ (by show w.heap.size ≠ w.heap.size + 1; omega), Below.heap_setCell _ _ _ _ (by show w.heap.size ≠ w.heap.size + 1; omega)]
              exact HZ3.out
            case measure =>
              rw [(ranges_set (ranges_set HRG3.out (w.heap.size + 1) 0 (.int .i64 4) (by omega) (by omega)) (w.heap.size + 1) 1 (.int .i64 (wdayV cu.1)) (by omega) (by omega)).left_eq, hrg.left_eq]; exact hlt
end Go.Proofs.YtfocdcdggidboaaGreatDoor
