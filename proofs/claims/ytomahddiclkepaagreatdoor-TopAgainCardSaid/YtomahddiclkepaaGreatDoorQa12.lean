/- day.Read: what it returns. day.Read of a day's text, and of any other text. rule: its text, split at spaces. rule.Text: what it returns. -/
import Derived.Test.YtomahddiclkepaaGreatDoorQa11
import Derived.Test.YtomahddiclkepaaGreatDoorQa04
import Derived.Lib.ItoaLen
import Derived.Lib.SmallJoins
import Derived.Deep.RegionHeld3
namespace Go.Proofs.YtomahddiclkepaaGreatDoor
open Go.RowKit Go.Joins Go.Maps
set_option linter.unusedVariables false
set_option linter.unusedSimpArgs false
theorem heap_setCd {w : World} {R i : Nat} {cs : Array Value} {T : TypeId} {f : Nat × Nat} (h : w.heap[R]? = some (.cells cs T f)) (v : Value) : (w.setCell ⟨R, i, none⟩ v).heap[R]? = some (.cells (cs.setIfInBounds i v) T f) := by
 simp [World.setCell, Array.getElem?_modify, h]
theorem end_cellsD {W : World} {g : Nat} {a b c : Value} {T : TypeId} (h : W.heap[g]? = some (.cells #[a, b, c] T (0, 0))) (x y z : Value) :
  ∃ W', ((W.setCell ⟨g, 0, none⟩ x).setCell ⟨g, 1, none⟩ y).setCell ⟨g, 2, none⟩ z = W' ∧ (∀ B, B ≤ g → Below B W W') ∧ W'.heap[g]? = some (.cells #[x, y, z] T (0, 0)) ∧ ∀ b, b ≠ g → W'.heap[b]? = W.heap[b]? := by
 refine ⟨_, rfl, fun B hB => (((Below.refl _ _).setCell (by exact hB) _).setCell (by exact hB) _).setCell (by exact hB) _, ?_, fun b hb => (Below.heap_setCell _ _ _ _ hb).trans ((Below.heap_setCell _ _ _ _ hb).trans (Below.heap_setCell _ _ _ _ hb))⟩
 rw [heap_setCd (i := 2) (heap_setCd (i := 1) (heap_setCd (i := 0) h x) y) z]
 rfl
theorem left_off {left : Lit → Bool} {x : Int} (y : Int) (h : x ≠ y) : (left (.int .i64 y) && !(Lit.int .i64 y).sameKey (.int .i64 x)) = left (.int .i64 y) := by
 have : (Lit.int .i64 y).sameKey (.int .i64 x) = false := by simp [Lit.sameKey]; omega
 rw [this]; simp
theorem left_on {left : Lit → Bool} (x : Int) : (left (.int .i64 x) && !(Lit.int .i64 x).sameKey (.int .i64 x)) = false := by simp [Lit.sameKey]
theorem ranges_below {H : Type} {w w' : World} {P : Program} {k : TypeId} {R : Value → Option (DataW H × List MemPlace)} {b r n : Nat} {D : DataW H} {left : Lit → Bool} {cnt : Nat} (h : w.ranges P k R b r n D left cnt) (hb : Below w.heap.size w w') : w'.ranges P k R b r n D left cnt :=
 h.kept (row := none) ⟨hb.os, hb.tape, hb.output, hb.size, fun i hi _ => hb.block i hi⟩ (by simp) (by simp)
theorem ranges_set {H : Type} {w : World} {P : Program} {k : TypeId} {R : Value → Option (DataW H × List MemPlace)} {b r n : Nat} {D : DataW H} {left : Lit → Bool} {cnt : Nat} (h : w.ranges P k R b r n D left cnt) (X i : Nat) (v : Value) (h1 : b ≠ X) (h2 : r ≠ X) : (w.setCell ⟨X, i, none⟩ v).ranges P k R b r n D left cnt :=
 h.kept (row := some X) ⟨rfl, rfl, rfl, by simp [World.setCell], fun j hj hne => Below.heap_setCell _ _ _ j (fun e => hne (by rw [e]))⟩ (by simpa using h1) (by simpa using h2)
set_option maxRecDepth 100000 in
set_option maxHeartbeats 4000000 in
theorem Read_walk (l : List UInt8) (w : World) (hl : l.length ≤ 4294967280) (ht : Tab10 w) (hn : NumErrs w) (hm : MaxLen w)
  (P : Bool → Bool → Int × Int × List UInt8 → Prop) (p0 : P true true (dayS0 l))
  (pA : ∀ b st, P true b st → P false b (dayHit l 3 [62, 61] st)) (pB : ∀ b st, P b true st → P b false (dayHit l 4 [60, 61] st))
  (psm : ∀ a b st, P a b st → st.2.2.length ≤ 281474976710656)
  (R : Int × Int × Int × Int) (hend : ∀ st, P false false st → DayRes l st R) :
  Calls Tryz.prog 138 #[.string (txt l)] w fun e w' => e = .returned (.tuple #[dayV R.1 R.2.1 R.2.2.1, .int .i64 R.2.2.2]) ∧ Below w.heap.size w w' := by
 have HT := Lib.hid ht
 have HN := Lib.hid hn
 have HM := Lib.hid hm
 have HCP := Lib.hid (fun W => cutPrefix_any l [108, 97, 115, 116] W)
 have HWD := Lib.hid (fun W => weekday_any (Lib.trimPrefix l [108, 97, 115, 116]) W)
 rw [show (txt [108, 97, 115, 116] : ByteArray) = ⟨#[108, 97, 115, 116]⟩ from rfl] at HCP
 have HCA := Lib.hid (fun W hW => cut_any l [62, 61] W (by omega) hW)
 have HCB := Lib.hid (fun W hW => cut_any l [60, 61] W (by omega) hW)
 rw [show (txt [62, 61] : ByteArray) = ⟨#[62, 61]⟩ from rfl] at HCA
 rw [show (txt [60, 61] : ByteArray) = ⟨#[60, 61]⟩ from rfl] at HCB
 have P0 := Lib.hid p0
 have PA := Lib.hid pA
 have PB := Lib.hid pB
 have PSM := Lib.hid psm
 have HEND := Lib.hid hend
 obtain ⟨S, eS⟩ : ∃ S, txt l = S := ⟨_, rfl⟩
 rw [eS] at HCP HCA HCB ⊢
 have ES := Lib.hid eS
 clear ht hn hm p0 pA pB psm hend
 go_enter Tryz.func138, Tryz.ntmps138
 go_wp2_with fail
 refine (HCP.out _).mono ?_
 rintro e w1 ⟨rfl, rfl⟩
 cases hpf : Lib.hasPrefix l [108, 97, 115, 116]
 ·have eS0 : dayS0 l = (1, 0, l) := by unfold dayS0; rw [hpf]; rfl
  rw [eS0] at P0
  go_wp2_with fail
  obtain ⟨W, eW⟩ : ∃ W, (w.alloc (.cells #[.int .i64 0, .int .i64 0, .int .i64 0] 85)).alloc (.cells #[.int .i64 1, .int .i64 0, .int .i64 0] 85) = W := ⟨_, rfl⟩
  rw [eW]
  have hbW : Below w.heap.size w W := by rw [← eW]; exact ((Below.refl _ _).alloc (Nat.le_refl _) _).alloc (by simp) _
  have hX : W.heap[w.heap.size + 1]? = some (.cells #[.int .i64 1, .int .i64 0, .int .i64 0] 85 (0, 0)) := by
   rw [← eW]
   have := heap_alloc_new (w.alloc (.cells #[.int .i64 0, .int .i64 0, .int .i64 0] 85)) (.cells #[.int .i64 1, .int .i64 0, .int .i64 0] 85)
   simpa using this
  have hZ : W.heap[w.heap.size]? = some (.cells #[.int .i64 0, .int .i64 0, .int .i64 0] 85 (0, 0)) := by
   rw [← eW, Below.heap_alloc _ _ _ (by simp)]
   exact heap_alloc_new w _
  clear eW eS0 hpf
  have HBW := Lib.hid hbW
  have HX := Lib.hid hX
  have HZ := Lib.hid hZ
  have hXlt : w.heap.size + 1 < W.heap.size := (Array.getElem?_eq_some_iff.mp hX).1
  clear hbW hX hZ
  obtain ⟨W1, W2, r1, r2, hown, hgr⟩ := signs_made W W.heap.size rfl
  rw [run_makeMap]
  go_wp2_with (at_range; refine wpList_range_own _ rfl _ 257 rfl 3 9 keyI Tryz.underlying257 _ _ 2 _ rfl hown ?_; intro w0 hrg0 hg0 hs0)
  go_frame
  have hWW : W.heap.size < W2.heap.size := hown.lt
  have hgA := hgr.andThen hg0 (fun j hj => by cases hj)
  have hX0 := (hgA.block _ hXlt (by simp)).trans HX.out
  have hZ0 := (hgA.block w.heap.size (by omega) (by simp)).trans HZ.out
  have hb0 := HBW.out.grown hgA HBW.out.size (fun j hj => by cases hj)
  clear hgr hg0 hgA hs0 hown r1 r2
  go_loopw [5] (fun s5 wr => ∃ (k wd : Int) (rest : List UInt8) (left : Lit → Bool) (cnt : Nat), s5 = .string (txt rest) ∧ wr.heap[w.heap.size + 1]? = some (.cells #[.int .i64 k, .int .i64 wd, .int .i64 0] 85 (0, 0)) ∧ wr.heap[w.heap.size]? = some (.cells #[.int .i64 0, .int .i64 0, .int .i64 0] 85 (0, 0)) ∧
   wr.ranges Tryz.prog 3 (plainElem Tryz.prog 9) W.heap.size W2.heap.size 2 signsD left cnt ∧ P (left (.int .i64 3)) (left (.int .i64 4)) (k, wd, rest) ∧ (∀ kl, left kl = true → kl = .int .i64 3 ∨ kl = .int .i64 4) ∧ Below w.heap.size w wr) (fun _ wr => wr.rangeLeft W.heap.size W2.heap.size)
  case atStart => exact ⟨1, 0, l, _, _, by rw [ES.out], hX0, hZ0, hrg0, by rw [signs_has3, signs_has4]; exact P0.out, signs_has, hb0⟩
  case round =>
   obtain ⟨k, wd, rest, left, cnt, rfl, hXr, hZr, hrg, hP, hle, hbr⟩ := hrel
   have HXR := Lib.hid hXr
   have HZR := Lib.hid hZr
   have HP := Lib.hid hP
   have HLE := Lib.hid hle
   have HBR := Lib.hid hbr
   have hsr : W2.heap.size < wr.heap.size := hrg.lt
   clear hXr hZr hP hle hbr hX0 hZ0 hrg0 hb0
   go_wp2_with (first
    | (at_next; refine wpList_next_ranges_is _ rfl _ rfl 3 9 .i64 keyI Tryz.underlying3 Tryz.underlying9 W.heap.size W2.heap.size 2 _ _ _ rfl hrg ?_ ?_)
    | go_in)
   ·intro _ hl0
    have hPe : P false false (k, wd, rest) := by
     have h := HP.out
     rw [hl0, hl0] at h
     exact h
    have hsm := PSM.out _ _ _ hPe
    have hres := HEND.out _ hPe
    unfold DayRes at hres
    simp only at hres hsm
    have hXl : w.heap.size + 1 < wr.heap.size := (Array.getElem?_eq_some_iff.mp HXR.out).1
    clear hl0 hPe hrg
    go_wp2_with fail
    refine (Atoi_any rest _ hsm (HN.out.below HBR.out)).mono ?_
    rintro e w2 ⟨ev, rfl, hb2, -⟩
    have HB2 := Lib.hid (HBR.out.trans (hb2.mono HBR.out.size))
    have HX2 := Lib.hid ((hb2.block _ hXl).trans HXR.out)
    have HZ2 := Lib.hid ((hb2.block w.heap.size (by omega)).trans HZR.out)
    have hX2l : w.heap.size + 1 < w2.heap.size := by have := hb2.size; omega
    clear hb2
    obtain ⟨N, eN⟩ : ∃ N, atoiV rest = N := ⟨_, rfl⟩
    rw [eN] at hres
    rw [eN]
    clear eN
    have c2 : w2.cell? ⟨w.heap.size + 1, 2, none⟩ = some (.int .i64 0) := (cell_of_row w2 _ 2 _ _ _ HX2.out).trans rfl
    have z2 : w2.frozen? ⟨w.heap.size + 1, 2, none⟩ = false := by simp [World.frozen?, HX2.out]
    obtain ⟨w3, ew3⟩ : ∃ w3, w2.setCell ⟨w.heap.size + 1, 2, none⟩ (.int .i64 N) = w3 := ⟨_, rfl⟩
    have hX3 := heap_setCd (i := 2) HX2.out (.int .i64 N)
    have hZ3 : (w2.setCell ⟨w.heap.size + 1, 2, none⟩ (.int .i64 N)).heap[w.heap.size]? = some (.cells #[.int .i64 0, .int .i64 0, .int .i64 0] 85 (0, 0)) := (Below.heap_setCell _ _ _ _ (by show w.heap.size ≠ w.heap.size + 1; omega)).trans HZ2.out
    have hb3 := HB2.out.setCell (p := ⟨w.heap.size + 1, 2, none⟩) (by show w.heap.size ≤ w.heap.size + 1; omega) (.int .i64 N)
    rw [ew3] at hX3 hZ3 hb3
    have hl3 : w.heap.size + 1 < w3.heap.size := (Array.getElem?_eq_some_iff.mp hX3).1
    have d0 : w3.cell? ⟨w.heap.size + 1, 0, none⟩ = some (.int .i64 k) := (cell_of_row w3 _ 0 _ _ _ hX3).trans rfl
    have d1 : w3.cell? ⟨w.heap.size + 1, 1, none⟩ = some (.int .i64 wd) := (cell_of_row w3 _ 1 _ _ _ hX3).trans rfl
    have d2 : w3.cell? ⟨w.heap.size + 1, 2, none⟩ = some (.int .i64 N) := (cell_of_row w3 _ 2 _ _ _ hX3).trans rfl
    go_wp2_with fail
    have HX3 := Lib.hid hX3
    have HZ3 := Lib.hid hZ3
    have HB3 := Lib.hid hb3
    clear hX3 hZ3 hb3
    have hfin : ∀ (w4 : World), Below w3.heap.size w3 w4 → w4.heap[w.heap.size + 1]? = some (.cells #[.int .i64 k, .int .i64 wd, .int .i64 N] 85 (0, 0)) ∧ w4.heap[w.heap.size]? = some (.cells #[.int .i64 0, .int .i64 0, .int .i64 0] 85 (0, 0)) ∧ Below w.heap.size w w4 ∧ w.heap.size + 1 < w4.heap.size := fun w4 hb4 =>
     ⟨(hb4.block _ hl3).trans HX3.out, (hb4.block _ (by omega)).trans HZ3.out, HB3.out.trans (hb4.mono HB3.out.size), by have := hb4.size; omega⟩
    have HFIN := Lib.hid hfin
    clear hfin
    rcases hres with ⟨hB, hT, rfl⟩ | ⟨hB, hT, rfl⟩ | ⟨hB, rfl⟩
    ·refine (Text_ok k wd N w3 hB (HT.out.below HB3.out)).mono ?_
     rw [hT, ES.out]
     rintro e w4 ⟨rfl, hb4⟩
     obtain ⟨x4, y4, b4, l4⟩ := HFIN.out w4 hb4
     clear hT hb4
     have e0 : w4.cell? ⟨w.heap.size + 1, 0, none⟩ = some (.int .i64 k) := (cell_of_row w4 _ 0 _ _ _ x4).trans rfl
     have e1 : w4.cell? ⟨w.heap.size + 1, 1, none⟩ = some (.int .i64 wd) := (cell_of_row w4 _ 1 _ _ _ x4).trans rfl
     have e2 : w4.cell? ⟨w.heap.size + 1, 2, none⟩ = some (.int .i64 N) := (cell_of_row w4 _ 2 _ _ _ x4).trans rfl
     have g0 : w4.cell? ⟨w.heap.size, 0, none⟩ = some (.int .i64 0) := (cell_of_row w4 _ 0 _ _ _ y4).trans rfl
     have g1 : w4.cell? ⟨w.heap.size, 1, none⟩ = some (.int .i64 0) := (cell_of_row w4 _ 1 _ _ _ y4).trans rfl
     have g2 : w4.cell? ⟨w.heap.size, 2, none⟩ = some (.int .i64 0) := (cell_of_row w4 _ 2 _ _ _ y4).trans rfl
     have z0 : w4.frozen? ⟨w.heap.size, 0, none⟩ = false := by simp [World.frozen?, y4]
     have z1 : w4.frozen? ⟨w.heap.size, 1, none⟩ = false := by simp [World.frozen?, y4]
     have z2' : w4.frozen? ⟨w.heap.size, 2, none⟩ = false := by simp [World.frozen?, y4]
     go_wp2_with fail
     obtain ⟨W9, e9, hB9, hh9, ho9⟩ := end_cellsD y4 (.int .i64 k) (.int .i64 wd) (.int .i64 N)
     rw [e9]
     have v0 : W9.cell? ⟨w.heap.size, 0, none⟩ = some (.int .i64 k) := (cell_of_row W9 _ 0 _ _ _ hh9).trans rfl
     have v1 : W9.cell? ⟨w.heap.size, 1, none⟩ = some (.int .i64 wd) := (cell_of_row W9 _ 1 _ _ _ hh9).trans rfl
     have v2 : W9.cell? ⟨w.heap.size, 2, none⟩ = some (.int .i64 N) := (cell_of_row W9 _ 2 _ _ _ hh9).trans rfl
     refine bodyPost_ret (v := .tuple #[dayV k wd N, .int .i64 0]) (by simp [results, Tryz.results138, go_sem, v0, v1, v2]) rfl ⟨rfl, b4.trans (hB9 _ (Nat.le_refl _))⟩
    ·refine (Text_ok k wd N w3 hB (HT.out.below HB3.out)).mono ?_
     have hne : ((txt (dayT k wd N)).toList == S.toList) = false := by rw [← ES.out]; exact txt_ne hT
     generalize txt (dayT k wd N) = U at hne
     rintro e w4 ⟨rfl, hb4⟩
     obtain ⟨x4, y4, b4, l4⟩ := HFIN.out w4 hb4
     clear hT hb4
     have e0 : w4.cell? ⟨w.heap.size + 1, 0, none⟩ = some (.int .i64 k) := (cell_of_row w4 _ 0 _ _ _ x4).trans rfl
     have e1 : w4.cell? ⟨w.heap.size + 1, 1, none⟩ = some (.int .i64 wd) := (cell_of_row w4 _ 1 _ _ _ x4).trans rfl
     have e2 : w4.cell? ⟨w.heap.size + 1, 2, none⟩ = some (.int .i64 N) := (cell_of_row w4 _ 2 _ _ _ x4).trans rfl
     have g0 : w4.cell? ⟨w.heap.size, 0, none⟩ = some (.int .i64 0) := (cell_of_row w4 _ 0 _ _ _ y4).trans rfl
     have g1 : w4.cell? ⟨w.heap.size, 1, none⟩ = some (.int .i64 0) := (cell_of_row w4 _ 1 _ _ _ y4).trans rfl
     have g2 : w4.cell? ⟨w.heap.size, 2, none⟩ = some (.int .i64 0) := (cell_of_row w4 _ 2 _ _ _ y4).trans rfl
     have z0 : w4.frozen? ⟨w.heap.size, 0, none⟩ = false := by simp [World.frozen?, y4]
     have z1 : w4.frozen? ⟨w.heap.size, 1, none⟩ = false := by simp [World.frozen?, y4]
     have z2' : w4.frozen? ⟨w.heap.size, 2, none⟩ = false := by simp [World.frozen?, y4]
     go_wp2_with fail
     obtain ⟨W9, e9, hB9, hh9, ho9⟩ := end_cellsD y4 (.int .i64 0) (.int .i64 0) (.int .i64 0)
     rw [e9]
     have v0 : W9.cell? ⟨w.heap.size, 0, none⟩ = some (.int .i64 0) := (cell_of_row W9 _ 0 _ _ _ hh9).trans rfl
     have v1 : W9.cell? ⟨w.heap.size, 1, none⟩ = some (.int .i64 0) := (cell_of_row W9 _ 1 _ _ _ hh9).trans rfl
     have v2 : W9.cell? ⟨w.heap.size, 2, none⟩ = some (.int .i64 0) := (cell_of_row W9 _ 2 _ _ _ hh9).trans rfl
     refine bodyPost_ret (v := .tuple #[dayV 0 0 0, .int .i64 3]) (by simp [results, Tryz.results138, go_sem, v0, v1, v2]) rfl ⟨rfl, b4.trans (hB9 _ (Nat.le_refl _))⟩
    ·refine (Text_no k wd N w3 hB).mono ?_
     rintro e w4 ⟨rfl, hb4⟩
     obtain ⟨x4, y4, b4, l4⟩ := HFIN.out w4 hb4
     clear hb4
     have e0 : w4.cell? ⟨w.heap.size + 1, 0, none⟩ = some (.int .i64 k) := (cell_of_row w4 _ 0 _ _ _ x4).trans rfl
     have e1 : w4.cell? ⟨w.heap.size + 1, 1, none⟩ = some (.int .i64 wd) := (cell_of_row w4 _ 1 _ _ _ x4).trans rfl
     have e2 : w4.cell? ⟨w.heap.size + 1, 2, none⟩ = some (.int .i64 N) := (cell_of_row w4 _ 2 _ _ _ x4).trans rfl
     have g0 : w4.cell? ⟨w.heap.size, 0, none⟩ = some (.int .i64 0) := (cell_of_row w4 _ 0 _ _ _ y4).trans rfl
     have g1 : w4.cell? ⟨w.heap.size, 1, none⟩ = some (.int .i64 0) := (cell_of_row w4 _ 1 _ _ _ y4).trans rfl
     have g2 : w4.cell? ⟨w.heap.size, 2, none⟩ = some (.int .i64 0) := (cell_of_row w4 _ 2 _ _ _ y4).trans rfl
     have z0 : w4.frozen? ⟨w.heap.size, 0, none⟩ = false := by simp [World.frozen?, y4]
     have z1 : w4.frozen? ⟨w.heap.size, 1, none⟩ = false := by simp [World.frozen?, y4]
     have z2' : w4.frozen? ⟨w.heap.size, 2, none⟩ = false := by simp [World.frozen?, y4]
     go_wp2_with fail
     obtain ⟨W9, e9, hB9, hh9, ho9⟩ := end_cellsD y4 (.int .i64 0) (.int .i64 0) (.int .i64 0)
     rw [e9]
     have v0 : W9.cell? ⟨w.heap.size, 0, none⟩ = some (.int .i64 0) := (cell_of_row W9 _ 0 _ _ _ hh9).trans rfl
     have v1 : W9.cell? ⟨w.heap.size, 1, none⟩ = some (.int .i64 0) := (cell_of_row W9 _ 1 _ _ _ hh9).trans rfl
     have v2 : W9.cell? ⟨w.heap.size, 2, none⟩ = some (.int .i64 0) := (cell_of_row W9 _ 2 _ _ _ hh9).trans rfl
     refine bodyPost_ret (v := .tuple #[dayV 0 0 0, .int .i64 3]) (by simp [results, Tryz.results138, go_sem, v0, v1, v2]) rfl ⟨rfl, b4.trans (hB9 _ (Nat.le_refl _))⟩
   ·intro x c w1 cnt1 hwx hwc hlx hat hrg1 hlt hg1 hs1 hen
    have hb1 := HBR.out.grown hg1 HBR.out.size (fun j hj => by cases hj; omega)
    have hX1 := (hg1.block (w.heap.size + 1) (by omega) (by simp; omega)).trans HXR.out
    have hZ1 := (hg1.block w.heap.size (by omega) (by simp; omega)).trans HZR.out
    have HB1 := Lib.hid hb1
    have HX1 := Lib.hid hX1
    have HZ1 := Lib.hid hZ1
    have HRG1 := Lib.hid hrg1
    clear hb1 hX1 hZ1 hrg1 hg1
    rcases HLE.out _ hlx with e | e
    ·obtain rfl : x = 3 := by injection e
     have hc := sign3 hat
     subst hc
     clear e hat hwx hwc
     have hPn : P (left (.int .i64 3) && !(Lit.int .i64 3).sameKey (.int .i64 3)) (left (.int .i64 4) && !(Lit.int .i64 4).sameKey (.int .i64 3)) (dayHit l 3 [62, 61] (k, wd, rest)) := by
      have h := HP.out
      rw [left_on, left_off 4 (by decide)]
      rw [hlx] at h
      exact PA.out _ _ h
     have HPN := Lib.hid hPn
     have hLE : ∀ kl, (left kl && !kl.sameKey (.int .i64 3)) = true → kl = .int .i64 3 ∨ kl = .int .i64 4 := fun kl h => HLE.out kl (by simp only [Bool.and_eq_true] at h; exact h.1)
     have HLN := Lib.hid hLE
     have hX1l : w.heap.size + 1 < w1.heap.size := (Array.getElem?_eq_some_iff.mp HX1.out).1
     clear hPn hLE hlx
     go_wp2_with fail
     refine (HCA.out _ (HM.out.below HB1.out)).mono ?_
     obtain ⟨cu, ecu⟩ : ∃ cu, Lib.cut l [62, 61] = cu := ⟨_, rfl⟩
     unfold dayHit at HPN
     rw [ecu] at HPN
     rw [ecu]
     clear ecu
     rintro e w2 ⟨rfl, hb2⟩
     have HB2 := Lib.hid (HB1.out.trans (hb2.mono HB1.out.size))
     have HX2 := Lib.hid ((hb2.block _ hX1l).trans HX1.out)
     have HZ2 := Lib.hid ((hb2.block w.heap.size (by omega)).trans HZ1.out)
     have HRG2 := Lib.hid (ranges_below HRG1.out hb2)
     have hX2l : w.heap.size + 1 < w2.heap.size := by have := hb2.size; omega
     clear hb2
     cases hcu : cu.2.2
     ·rw [hcu] at HPN
      go_wp2
      go_roundw
      case rel => exact ⟨k, wd, rest, _, cnt1, rfl, HX2.out, HZ2.out, HRG2.out, HPN.out, HLN.out, HB2.out⟩
      case measure => rw [HRG2.out.left_eq, hrg.left_eq]; exact hlt
     ·rw [hcu] at HPN
      go_wp2_with fail
      refine (weekday_any cu.1 _).mono ?_
      rintro e w3 ⟨rfl, hb3⟩
      have HB3 := Lib.hid (HB2.out.trans (hb3.mono HB2.out.size))
      have HX3 := Lib.hid ((hb3.block _ hX2l).trans HX2.out)
      have HZ3 := Lib.hid ((hb3.block w.heap.size (by omega)).trans HZ2.out)
      have HRG3 := Lib.hid (ranges_below HRG2.out hb3)
      have hX3l : w.heap.size + 1 < w3.heap.size := by have := hb3.size; omega
      have c0 : w3.cell? ⟨w.heap.size + 1, 0, none⟩ = some (.int .i64 k) := (cell_of_row w3 _ 0 _ _ _ HX3.out).trans rfl
      have c1 : w3.cell? ⟨w.heap.size + 1, 1, none⟩ = some (.int .i64 wd) := (cell_of_row w3 _ 1 _ _ _ HX3.out).trans rfl
      have z0 : w3.frozen? ⟨w.heap.size + 1, 0, none⟩ = false := by simp [World.frozen?, HX3.out]
      have z1 : w3.frozen? ⟨w.heap.size + 1, 1, none⟩ = false := by simp [World.frozen?, HX3.out]
      have hcc : (w3.setCell ⟨w.heap.size + 1, 0, none⟩ (.int .i64 3)).cell? ⟨w.heap.size + 1, 1, none⟩ = some (.int .i64 wd) := (cell_of_row _ _ 1 _ _ _ (heap_setCd HX3.out _)).trans rfl
      have hzz : (w3.setCell ⟨w.heap.size + 1, 0, none⟩ (.int .i64 3)).frozen? ⟨w.heap.size + 1, 1, none⟩ = false := by simp [World.frozen?, heap_setCd HX3.out]
      clear hb3
      go_wp2
      go_roundw
      case rel =>
       refine ⟨3, wdayV cu.1, cu.2.1, _, cnt1, rfl, (heap_setCd (heap_setCd HX3.out _) _).trans rfl, ?_, ranges_set (ranges_set HRG3.out _ _ _ (by omega) (by omega)) _ _ _ (by omega) (by omega), HPN.out, HLN.out, (HB3.out.setCell (by show w.heap.size ≤ w.heap.size + 1; omega) _).setCell (by show w.heap.size ≤ w.heap.size + 1; omega) _⟩
       rw [Below.heap_setCell _ _ _ _ (by show w.heap.size ≠ w.heap.size + 1; omega), Below.heap_setCell _ _ _ _ (by show w.heap.size ≠ w.heap.size + 1; omega)]
       exact HZ3.out
      case measure =>
       rw [(ranges_set (ranges_set HRG3.out (w.heap.size + 1) 0 (.int .i64 3) (by omega) (by omega)) (w.heap.size + 1) 1 (.int .i64 (wdayV cu.1)) (by omega) (by omega)).left_eq, hrg.left_eq]; exact hlt
    ·obtain rfl : x = 4 := by injection e
     have hc := sign4 hat
     subst hc
     clear e hat hwx hwc
     have hPn : P (left (.int .i64 3) && !(Lit.int .i64 3).sameKey (.int .i64 4)) (left (.int .i64 4) && !(Lit.int .i64 4).sameKey (.int .i64 4)) (dayHit l 4 [60, 61] (k, wd, rest)) := by
      have h := HP.out
      rw [left_on, left_off 3 (by decide)]
      rw [hlx] at h
      exact PB.out _ _ h
     have HPN := Lib.hid hPn
     have hLE : ∀ kl, (left kl && !kl.sameKey (.int .i64 4)) = true → kl = .int .i64 3 ∨ kl = .int .i64 4 := fun kl h => HLE.out kl (by simp only [Bool.and_eq_true] at h; exact h.1)
     have HLN := Lib.hid hLE
     have hX1l : w.heap.size + 1 < w1.heap.size := (Array.getElem?_eq_some_iff.mp HX1.out).1
     clear hPn hLE hlx
     go_wp2_with fail
     refine (HCB.out _ (HM.out.below HB1.out)).mono ?_
     obtain ⟨cu, ecu⟩ : ∃ cu, Lib.cut l [60, 61] = cu := ⟨_, rfl⟩
     unfold dayHit at HPN
     rw [ecu] at HPN
     rw [ecu]
     clear ecu
     rintro e w2 ⟨rfl, hb2⟩
     have HB2 := Lib.hid (HB1.out.trans (hb2.mono HB1.out.size))
     have HX2 := Lib.hid ((hb2.block _ hX1l).trans HX1.out)
     have HZ2 := Lib.hid ((hb2.block w.heap.size (by omega)).trans HZ1.out)
     have HRG2 := Lib.hid (ranges_below HRG1.out hb2)
     have hX2l : w.heap.size + 1 < w2.heap.size := by have := hb2.size; omega
     clear hb2
     cases hcu : cu.2.2
     ·rw [hcu] at HPN
      go_wp2
      go_roundw
      case rel => exact ⟨k, wd, rest, _, cnt1, rfl, HX2.out, HZ2.out, HRG2.out, HPN.out, HLN.out, HB2.out⟩
      case measure => rw [HRG2.out.left_eq, hrg.left_eq]; exact hlt
     ·rw [hcu] at HPN
      go_wp2_with fail
      refine (weekday_any cu.1 _).mono ?_
      rintro e w3 ⟨rfl, hb3⟩
      have HB3 := Lib.hid (HB2.out.trans (hb3.mono HB2.out.size))
      have HX3 := Lib.hid ((hb3.block _ hX2l).trans HX2.out)
      have HZ3 := Lib.hid ((hb3.block w.heap.size (by omega)).trans HZ2.out)
      have HRG3 := Lib.hid (ranges_below HRG2.out hb3)
      have hX3l : w.heap.size + 1 < w3.heap.size := by have := hb3.size; omega
      have c0 : w3.cell? ⟨w.heap.size + 1, 0, none⟩ = some (.int .i64 k) := (cell_of_row w3 _ 0 _ _ _ HX3.out).trans rfl
      have c1 : w3.cell? ⟨w.heap.size + 1, 1, none⟩ = some (.int .i64 wd) := (cell_of_row w3 _ 1 _ _ _ HX3.out).trans rfl
      have z0 : w3.frozen? ⟨w.heap.size + 1, 0, none⟩ = false := by simp [World.frozen?, HX3.out]
      have z1 : w3.frozen? ⟨w.heap.size + 1, 1, none⟩ = false := by simp [World.frozen?, HX3.out]
      have hcc : (w3.setCell ⟨w.heap.size + 1, 0, none⟩ (.int .i64 4)).cell? ⟨w.heap.size + 1, 1, none⟩ = some (.int .i64 wd) := (cell_of_row _ _ 1 _ _ _ (heap_setCd HX3.out _)).trans rfl
      have hzz : (w3.setCell ⟨w.heap.size + 1, 0, none⟩ (.int .i64 4)).frozen? ⟨w.heap.size + 1, 1, none⟩ = false := by simp [World.frozen?, heap_setCd HX3.out]
      clear hb3
      go_wp2
      go_roundw
      case rel =>
       refine ⟨4, wdayV cu.1, cu.2.1, _, cnt1, rfl, (heap_setCd (heap_setCd HX3.out _) _).trans rfl, ?_, ranges_set (ranges_set HRG3.out _ _ _ (by omega) (by omega)) _ _ _ (by omega) (by omega), HPN.out, HLN.out, (HB3.out.setCell (by show w.heap.size ≤ w.heap.size + 1; omega) _).setCell (by show w.heap.size ≤ w.heap.size + 1; omega) _⟩
       rw [Below.heap_setCell _ _ _ _ (by show w.heap.size ≠ w.heap.size + 1; omega), Below.heap_setCell _ _ _ _ (by show w.heap.size ≠ w.heap.size + 1; omega)]
       exact HZ3.out
      case measure =>
       rw [(ranges_set (ranges_set HRG3.out (w.heap.size + 1) 0 (.int .i64 4) (by omega) (by omega)) (w.heap.size + 1) 1 (.int .i64 (wdayV cu.1)) (by omega) (by omega)).left_eq, hrg.left_eq]; exact hlt
 ·obtain ⟨wd0, ewd⟩ : ∃ wd0, wdayV (Lib.trimPrefix l [108, 97, 115, 116]) = wd0 := ⟨_, rfl⟩
  have eS0 : dayS0 l = (2, wd0, [48]) := by unfold dayS0; rw [hpf, ewd]; rfl
  rw [eS0] at P0
  rw [ewd] at HWD
  clear ewd eS0 hpf
  go_wp2_with fail
  obtain ⟨W0, eW⟩ : ∃ W0, (w.alloc (.cells #[.int .i64 0, .int .i64 0, .int .i64 0] 85)).alloc (.cells #[.int .i64 1, .int .i64 0, .int .i64 0] 85) = W0 := ⟨_, rfl⟩
  rw [eW]
  have hbW0 : Below w.heap.size w W0 := by rw [← eW]; exact ((Below.refl _ _).alloc (Nat.le_refl _) _).alloc (by simp) _
  have hX00 : W0.heap[w.heap.size + 1]? = some (.cells #[.int .i64 1, .int .i64 0, .int .i64 0] 85 (0, 0)) := by
   rw [← eW]
   have := heap_alloc_new (w.alloc (.cells #[.int .i64 0, .int .i64 0, .int .i64 0] 85)) (.cells #[.int .i64 1, .int .i64 0, .int .i64 0] 85)
   simpa using this
  have hZ00 : W0.heap[w.heap.size]? = some (.cells #[.int .i64 0, .int .i64 0, .int .i64 0] 85 (0, 0)) := by
   rw [← eW, Below.heap_alloc _ _ _ (by simp)]
   exact heap_alloc_new w _
  have hW0l : w.heap.size + 1 < W0.heap.size := (Array.getElem?_eq_some_iff.mp hX00).1
  clear eW
  refine (HWD.out _).mono ?_
  rintro e w5 ⟨rfl, hb5⟩
  have hX5 := (hb5.block _ hW0l).trans hX00
  have hZ5 := (hb5.block w.heap.size (by omega)).trans hZ00
  have hbW5 := hbW0.trans (hb5.mono hbW0.size)
  have hX5l : w.heap.size + 1 < w5.heap.size := (Array.getElem?_eq_some_iff.mp hX5).1
  have c0 : w5.cell? ⟨w.heap.size + 1, 0, none⟩ = some (.int .i64 1) := (cell_of_row w5 _ 0 _ _ _ hX5).trans rfl
  have z0 : w5.frozen? ⟨w.heap.size + 1, 0, none⟩ = false := by simp [World.frozen?, hX5]
  have hcc : (w5.setCell ⟨w.heap.size + 1, 0, none⟩ (.int .i64 2)).cell? ⟨w.heap.size + 1, 1, none⟩ = some (.int .i64 0) := (cell_of_row _ _ 1 _ _ _ (heap_setCd hX5 _)).trans rfl
  have hzz : (w5.setCell ⟨w.heap.size + 1, 0, none⟩ (.int .i64 2)).frozen? ⟨w.heap.size + 1, 1, none⟩ = false := by simp [World.frozen?, heap_setCd hX5]
  have c1 : w5.cell? ⟨w.heap.size + 1, 1, none⟩ = some (.int .i64 0) := (cell_of_row w5 _ 1 _ _ _ hX5).trans rfl
  have z1 : w5.frozen? ⟨w.heap.size + 1, 1, none⟩ = false := by simp [World.frozen?, hX5]
  clear hb5 hbW0 hX00 hZ00
  go_wp2_with fail
  obtain ⟨W, eW⟩ : ∃ W, (w5.setCell ⟨w.heap.size + 1, 0, none⟩ (.int .i64 2)).setCell ⟨w.heap.size + 1, 1, none⟩ (.int .i64 wd0) = W := ⟨_, rfl⟩
  rw [eW]
  have hbW : Below w.heap.size w W := by rw [← eW]; exact (hbW5.setCell (by show w.heap.size ≤ w.heap.size + 1; omega) _).setCell (by show w.heap.size ≤ w.heap.size + 1; omega) _
  have hX : W.heap[w.heap.size + 1]? = some (.cells #[.int .i64 2, .int .i64 wd0, .int .i64 0] 85 (0, 0)) := by
   rw [← eW]; exact (heap_setCd (heap_setCd hX5 _) _).trans rfl
  have hZ : W.heap[w.heap.size]? = some (.cells #[.int .i64 0, .int .i64 0, .int .i64 0] 85 (0, 0)) := by
   rw [← eW, Below.heap_setCell _ _ _ _ (by show w.heap.size ≠ w.heap.size + 1; omega), Below.heap_setCell _ _ _ _ (by show w.heap.size ≠ w.heap.size + 1; omega)]
   exact hZ5
  clear eW hX5 hZ5 hbW5 hX5l c0 z0 hcc hzz c1 z1 hW0l
  have HBW := Lib.hid hbW
  have HX := Lib.hid hX
  have HZ := Lib.hid hZ
  have hXlt : w.heap.size + 1 < W.heap.size := (Array.getElem?_eq_some_iff.mp hX).1
  clear hbW hX hZ
  obtain ⟨W1, W2, r1, r2, hown, hgr⟩ := signs_made W W.heap.size rfl
  rw [run_makeMap]
  go_wp2_with (at_range; refine wpList_range_own _ rfl _ 257 rfl 3 9 keyI Tryz.underlying257 _ _ 2 _ rfl hown ?_; intro w0 hrg0 hg0 hs0)
  go_frame
  have hWW : W.heap.size < W2.heap.size := hown.lt
  have hgA := hgr.andThen hg0 (fun j hj => by cases hj)
  have hX0 := (hgA.block _ hXlt (by simp)).trans HX.out
  have hZ0 := (hgA.block w.heap.size (by omega) (by simp)).trans HZ.out
  have hb0 := HBW.out.grown hgA HBW.out.size (fun j hj => by cases hj)
  clear hgr hg0 hgA hs0 hown r1 r2
  go_loopw [5] (fun s5 wr => ∃ (k wd : Int) (rest : List UInt8) (left : Lit → Bool) (cnt : Nat), s5 = .string (txt rest) ∧ wr.heap[w.heap.size + 1]? = some (.cells #[.int .i64 k, .int .i64 wd, .int .i64 0] 85 (0, 0)) ∧ wr.heap[w.heap.size]? = some (.cells #[.int .i64 0, .int .i64 0, .int .i64 0] 85 (0, 0)) ∧
   wr.ranges Tryz.prog 3 (plainElem Tryz.prog 9) W.heap.size W2.heap.size 2 signsD left cnt ∧ P (left (.int .i64 3)) (left (.int .i64 4)) (k, wd, rest) ∧ (∀ kl, left kl = true → kl = .int .i64 3 ∨ kl = .int .i64 4) ∧ Below w.heap.size w wr) (fun _ wr => wr.rangeLeft W.heap.size W2.heap.size)
  case atStart => exact ⟨2, wd0, [48], _, _, rfl, hX0, hZ0, hrg0, by rw [signs_has3, signs_has4]; exact P0.out, signs_has, hb0⟩
  case round =>
   obtain ⟨k, wd, rest, left, cnt, rfl, hXr, hZr, hrg, hP, hle, hbr⟩ := hrel
   have HXR := Lib.hid hXr
   have HZR := Lib.hid hZr
   have HP := Lib.hid hP
   have HLE := Lib.hid hle
   have HBR := Lib.hid hbr
   have hsr : W2.heap.size < wr.heap.size := hrg.lt
   clear hXr hZr hP hle hbr hX0 hZ0 hrg0 hb0
   go_wp2_with (first
    | (at_next; refine wpList_next_ranges_is _ rfl _ rfl 3 9 .i64 keyI Tryz.underlying3 Tryz.underlying9 W.heap.size W2.heap.size 2 _ _ _ rfl hrg ?_ ?_)
    | go_in)
   ·intro _ hl0
    have hPe : P false false (k, wd, rest) := by
     have h := HP.out
     rw [hl0, hl0] at h
     exact h
    have hsm := PSM.out _ _ _ hPe
    have hres := HEND.out _ hPe
    unfold DayRes at hres
    simp only at hres hsm
    have hXl : w.heap.size + 1 < wr.heap.size := (Array.getElem?_eq_some_iff.mp HXR.out).1
    clear hl0 hPe hrg
    go_wp2_with fail
    refine (Atoi_any rest _ hsm (HN.out.below HBR.out)).mono ?_
    rintro e w2 ⟨ev, rfl, hb2, -⟩
    have HB2 := Lib.hid (HBR.out.trans (hb2.mono HBR.out.size))
    have HX2 := Lib.hid ((hb2.block _ hXl).trans HXR.out)
    have HZ2 := Lib.hid ((hb2.block w.heap.size (by omega)).trans HZR.out)
    have hX2l : w.heap.size + 1 < w2.heap.size := by have := hb2.size; omega
    clear hb2
    obtain ⟨N, eN⟩ : ∃ N, atoiV rest = N := ⟨_, rfl⟩
    rw [eN] at hres
    rw [eN]
    clear eN
    have c2 : w2.cell? ⟨w.heap.size + 1, 2, none⟩ = some (.int .i64 0) := (cell_of_row w2 _ 2 _ _ _ HX2.out).trans rfl
    have z2 : w2.frozen? ⟨w.heap.size + 1, 2, none⟩ = false := by simp [World.frozen?, HX2.out]
    obtain ⟨w3, ew3⟩ : ∃ w3, w2.setCell ⟨w.heap.size + 1, 2, none⟩ (.int .i64 N) = w3 := ⟨_, rfl⟩
    have hX3 := heap_setCd (i := 2) HX2.out (.int .i64 N)
    have hZ3 : (w2.setCell ⟨w.heap.size + 1, 2, none⟩ (.int .i64 N)).heap[w.heap.size]? = some (.cells #[.int .i64 0, .int .i64 0, .int .i64 0] 85 (0, 0)) := (Below.heap_setCell _ _ _ _ (by show w.heap.size ≠ w.heap.size + 1; omega)).trans HZ2.out
    have hb3 := HB2.out.setCell (p := ⟨w.heap.size + 1, 2, none⟩) (by show w.heap.size ≤ w.heap.size + 1; omega) (.int .i64 N)
    rw [ew3] at hX3 hZ3 hb3
    have hl3 : w.heap.size + 1 < w3.heap.size := (Array.getElem?_eq_some_iff.mp hX3).1
    have d0 : w3.cell? ⟨w.heap.size + 1, 0, none⟩ = some (.int .i64 k) := (cell_of_row w3 _ 0 _ _ _ hX3).trans rfl
    have d1 : w3.cell? ⟨w.heap.size + 1, 1, none⟩ = some (.int .i64 wd) := (cell_of_row w3 _ 1 _ _ _ hX3).trans rfl
    have d2 : w3.cell? ⟨w.heap.size + 1, 2, none⟩ = some (.int .i64 N) := (cell_of_row w3 _ 2 _ _ _ hX3).trans rfl
    go_wp2_with fail
    have HX3 := Lib.hid hX3
    have HZ3 := Lib.hid hZ3
    have HB3 := Lib.hid hb3
    clear hX3 hZ3 hb3
    have hfin : ∀ (w4 : World), Below w3.heap.size w3 w4 → w4.heap[w.heap.size + 1]? = some (.cells #[.int .i64 k, .int .i64 wd, .int .i64 N] 85 (0, 0)) ∧ w4.heap[w.heap.size]? = some (.cells #[.int .i64 0, .int .i64 0, .int .i64 0] 85 (0, 0)) ∧ Below w.heap.size w w4 ∧ w.heap.size + 1 < w4.heap.size := fun w4 hb4 =>
     ⟨(hb4.block _ hl3).trans HX3.out, (hb4.block _ (by omega)).trans HZ3.out, HB3.out.trans (hb4.mono HB3.out.size), by have := hb4.size; omega⟩
    have HFIN := Lib.hid hfin
    clear hfin
    rcases hres with ⟨hB, hT, rfl⟩ | ⟨hB, hT, rfl⟩ | ⟨hB, rfl⟩
    ·refine (Text_ok k wd N w3 hB (HT.out.below HB3.out)).mono ?_
     rw [hT, ES.out]
     rintro e w4 ⟨rfl, hb4⟩
     obtain ⟨x4, y4, b4, l4⟩ := HFIN.out w4 hb4
     clear hT hb4
     have e0 : w4.cell? ⟨w.heap.size + 1, 0, none⟩ = some (.int .i64 k) := (cell_of_row w4 _ 0 _ _ _ x4).trans rfl
     have e1 : w4.cell? ⟨w.heap.size + 1, 1, none⟩ = some (.int .i64 wd) := (cell_of_row w4 _ 1 _ _ _ x4).trans rfl
     have e2 : w4.cell? ⟨w.heap.size + 1, 2, none⟩ = some (.int .i64 N) := (cell_of_row w4 _ 2 _ _ _ x4).trans rfl
     have g0 : w4.cell? ⟨w.heap.size, 0, none⟩ = some (.int .i64 0) := (cell_of_row w4 _ 0 _ _ _ y4).trans rfl
     have g1 : w4.cell? ⟨w.heap.size, 1, none⟩ = some (.int .i64 0) := (cell_of_row w4 _ 1 _ _ _ y4).trans rfl
     have g2 : w4.cell? ⟨w.heap.size, 2, none⟩ = some (.int .i64 0) := (cell_of_row w4 _ 2 _ _ _ y4).trans rfl
     have z0 : w4.frozen? ⟨w.heap.size, 0, none⟩ = false := by simp [World.frozen?, y4]
     have z1 : w4.frozen? ⟨w.heap.size, 1, none⟩ = false := by simp [World.frozen?, y4]
     have z2' : w4.frozen? ⟨w.heap.size, 2, none⟩ = false := by simp [World.frozen?, y4]
     go_wp2_with fail
     obtain ⟨W9, e9, hB9, hh9, ho9⟩ := end_cellsD y4 (.int .i64 k) (.int .i64 wd) (.int .i64 N)
     rw [e9]
     have v0 : W9.cell? ⟨w.heap.size, 0, none⟩ = some (.int .i64 k) := (cell_of_row W9 _ 0 _ _ _ hh9).trans rfl
     have v1 : W9.cell? ⟨w.heap.size, 1, none⟩ = some (.int .i64 wd) := (cell_of_row W9 _ 1 _ _ _ hh9).trans rfl
     have v2 : W9.cell? ⟨w.heap.size, 2, none⟩ = some (.int .i64 N) := (cell_of_row W9 _ 2 _ _ _ hh9).trans rfl
     refine bodyPost_ret (v := .tuple #[dayV k wd N, .int .i64 0]) (by simp [results, Tryz.results138, go_sem, v0, v1, v2]) rfl ⟨rfl, b4.trans (hB9 _ (Nat.le_refl _))⟩
    ·refine (Text_ok k wd N w3 hB (HT.out.below HB3.out)).mono ?_
     have hne : ((txt (dayT k wd N)).toList == S.toList) = false := by rw [← ES.out]; exact txt_ne hT
     generalize txt (dayT k wd N) = U at hne
     rintro e w4 ⟨rfl, hb4⟩
     obtain ⟨x4, y4, b4, l4⟩ := HFIN.out w4 hb4
     clear hT hb4
     have e0 : w4.cell? ⟨w.heap.size + 1, 0, none⟩ = some (.int .i64 k) := (cell_of_row w4 _ 0 _ _ _ x4).trans rfl
     have e1 : w4.cell? ⟨w.heap.size + 1, 1, none⟩ = some (.int .i64 wd) := (cell_of_row w4 _ 1 _ _ _ x4).trans rfl
     have e2 : w4.cell? ⟨w.heap.size + 1, 2, none⟩ = some (.int .i64 N) := (cell_of_row w4 _ 2 _ _ _ x4).trans rfl
     have g0 : w4.cell? ⟨w.heap.size, 0, none⟩ = some (.int .i64 0) := (cell_of_row w4 _ 0 _ _ _ y4).trans rfl
     have g1 : w4.cell? ⟨w.heap.size, 1, none⟩ = some (.int .i64 0) := (cell_of_row w4 _ 1 _ _ _ y4).trans rfl
     have g2 : w4.cell? ⟨w.heap.size, 2, none⟩ = some (.int .i64 0) := (cell_of_row w4 _ 2 _ _ _ y4).trans rfl
     have z0 : w4.frozen? ⟨w.heap.size, 0, none⟩ = false := by simp [World.frozen?, y4]
     have z1 : w4.frozen? ⟨w.heap.size, 1, none⟩ = false := by simp [World.frozen?, y4]
     have z2' : w4.frozen? ⟨w.heap.size, 2, none⟩ = false := by simp [World.frozen?, y4]
     go_wp2_with fail
     obtain ⟨W9, e9, hB9, hh9, ho9⟩ := end_cellsD y4 (.int .i64 0) (.int .i64 0) (.int .i64 0)
     rw [e9]
     have v0 : W9.cell? ⟨w.heap.size, 0, none⟩ = some (.int .i64 0) := (cell_of_row W9 _ 0 _ _ _ hh9).trans rfl
     have v1 : W9.cell? ⟨w.heap.size, 1, none⟩ = some (.int .i64 0) := (cell_of_row W9 _ 1 _ _ _ hh9).trans rfl
     have v2 : W9.cell? ⟨w.heap.size, 2, none⟩ = some (.int .i64 0) := (cell_of_row W9 _ 2 _ _ _ hh9).trans rfl
     refine bodyPost_ret (v := .tuple #[dayV 0 0 0, .int .i64 3]) (by simp [results, Tryz.results138, go_sem, v0, v1, v2]) rfl ⟨rfl, b4.trans (hB9 _ (Nat.le_refl _))⟩
    ·refine (Text_no k wd N w3 hB).mono ?_
     rintro e w4 ⟨rfl, hb4⟩
     obtain ⟨x4, y4, b4, l4⟩ := HFIN.out w4 hb4
     clear hb4
     have e0 : w4.cell? ⟨w.heap.size + 1, 0, none⟩ = some (.int .i64 k) := (cell_of_row w4 _ 0 _ _ _ x4).trans rfl
     have e1 : w4.cell? ⟨w.heap.size + 1, 1, none⟩ = some (.int .i64 wd) := (cell_of_row w4 _ 1 _ _ _ x4).trans rfl
     have e2 : w4.cell? ⟨w.heap.size + 1, 2, none⟩ = some (.int .i64 N) := (cell_of_row w4 _ 2 _ _ _ x4).trans rfl
     have g0 : w4.cell? ⟨w.heap.size, 0, none⟩ = some (.int .i64 0) := (cell_of_row w4 _ 0 _ _ _ y4).trans rfl
     have g1 : w4.cell? ⟨w.heap.size, 1, none⟩ = some (.int .i64 0) := (cell_of_row w4 _ 1 _ _ _ y4).trans rfl
     have g2 : w4.cell? ⟨w.heap.size, 2, none⟩ = some (.int .i64 0) := (cell_of_row w4 _ 2 _ _ _ y4).trans rfl
     have z0 : w4.frozen? ⟨w.heap.size, 0, none⟩ = false := by simp [World.frozen?, y4]
     have z1 : w4.frozen? ⟨w.heap.size, 1, none⟩ = false := by simp [World.frozen?, y4]
     have z2' : w4.frozen? ⟨w.heap.size, 2, none⟩ = false := by simp [World.frozen?, y4]
     go_wp2_with fail
     obtain ⟨W9, e9, hB9, hh9, ho9⟩ := end_cellsD y4 (.int .i64 0) (.int .i64 0) (.int .i64 0)
     rw [e9]
     have v0 : W9.cell? ⟨w.heap.size, 0, none⟩ = some (.int .i64 0) := (cell_of_row W9 _ 0 _ _ _ hh9).trans rfl
     have v1 : W9.cell? ⟨w.heap.size, 1, none⟩ = some (.int .i64 0) := (cell_of_row W9 _ 1 _ _ _ hh9).trans rfl
     have v2 : W9.cell? ⟨w.heap.size, 2, none⟩ = some (.int .i64 0) := (cell_of_row W9 _ 2 _ _ _ hh9).trans rfl
     refine bodyPost_ret (v := .tuple #[dayV 0 0 0, .int .i64 3]) (by simp [results, Tryz.results138, go_sem, v0, v1, v2]) rfl ⟨rfl, b4.trans (hB9 _ (Nat.le_refl _))⟩
   ·intro x c w1 cnt1 hwx hwc hlx hat hrg1 hlt hg1 hs1 hen
    have hb1 := HBR.out.grown hg1 HBR.out.size (fun j hj => by cases hj; omega)
    have hX1 := (hg1.block (w.heap.size + 1) (by omega) (by simp; omega)).trans HXR.out
    have hZ1 := (hg1.block w.heap.size (by omega) (by simp; omega)).trans HZR.out
    have HB1 := Lib.hid hb1
    have HX1 := Lib.hid hX1
    have HZ1 := Lib.hid hZ1
    have HRG1 := Lib.hid hrg1
    clear hb1 hX1 hZ1 hrg1 hg1
    rcases HLE.out _ hlx with e | e
    ·obtain rfl : x = 3 := by injection e
     have hc := sign3 hat
     subst hc
     clear e hat hwx hwc
     have hPn : P (left (.int .i64 3) && !(Lit.int .i64 3).sameKey (.int .i64 3)) (left (.int .i64 4) && !(Lit.int .i64 4).sameKey (.int .i64 3)) (dayHit l 3 [62, 61] (k, wd, rest)) := by
      have h := HP.out
      rw [left_on, left_off 4 (by decide)]
      rw [hlx] at h
      exact PA.out _ _ h
     have HPN := Lib.hid hPn
     have hLE : ∀ kl, (left kl && !kl.sameKey (.int .i64 3)) = true → kl = .int .i64 3 ∨ kl = .int .i64 4 := fun kl h => HLE.out kl (by simp only [Bool.and_eq_true] at h; exact h.1)
     have HLN := Lib.hid hLE
     have hX1l : w.heap.size + 1 < w1.heap.size := (Array.getElem?_eq_some_iff.mp HX1.out).1
     clear hPn hLE hlx
     go_wp2_with fail
     refine (HCA.out _ (HM.out.below HB1.out)).mono ?_
     obtain ⟨cu, ecu⟩ : ∃ cu, Lib.cut l [62, 61] = cu := ⟨_, rfl⟩
     unfold dayHit at HPN
     rw [ecu] at HPN
     rw [ecu]
     clear ecu
     rintro e w2 ⟨rfl, hb2⟩
     have HB2 := Lib.hid (HB1.out.trans (hb2.mono HB1.out.size))
     have HX2 := Lib.hid ((hb2.block _ hX1l).trans HX1.out)
     have HZ2 := Lib.hid ((hb2.block w.heap.size (by omega)).trans HZ1.out)
     have HRG2 := Lib.hid (ranges_below HRG1.out hb2)
     have hX2l : w.heap.size + 1 < w2.heap.size := by have := hb2.size; omega
     clear hb2
     cases hcu : cu.2.2
     ·rw [hcu] at HPN
      go_wp2
      go_roundw
      case rel => exact ⟨k, wd, rest, _, cnt1, rfl, HX2.out, HZ2.out, HRG2.out, HPN.out, HLN.out, HB2.out⟩
      case measure => rw [HRG2.out.left_eq, hrg.left_eq]; exact hlt
     ·rw [hcu] at HPN
      go_wp2_with fail
      refine (weekday_any cu.1 _).mono ?_
      rintro e w3 ⟨rfl, hb3⟩
      have HB3 := Lib.hid (HB2.out.trans (hb3.mono HB2.out.size))
      have HX3 := Lib.hid ((hb3.block _ hX2l).trans HX2.out)
      have HZ3 := Lib.hid ((hb3.block w.heap.size (by omega)).trans HZ2.out)
      have HRG3 := Lib.hid (ranges_below HRG2.out hb3)
      have hX3l : w.heap.size + 1 < w3.heap.size := by have := hb3.size; omega
      have c0 : w3.cell? ⟨w.heap.size + 1, 0, none⟩ = some (.int .i64 k) := (cell_of_row w3 _ 0 _ _ _ HX3.out).trans rfl
      have c1 : w3.cell? ⟨w.heap.size + 1, 1, none⟩ = some (.int .i64 wd) := (cell_of_row w3 _ 1 _ _ _ HX3.out).trans rfl
      have z0 : w3.frozen? ⟨w.heap.size + 1, 0, none⟩ = false := by simp [World.frozen?, HX3.out]
      have z1 : w3.frozen? ⟨w.heap.size + 1, 1, none⟩ = false := by simp [World.frozen?, HX3.out]
      have hcc : (w3.setCell ⟨w.heap.size + 1, 0, none⟩ (.int .i64 3)).cell? ⟨w.heap.size + 1, 1, none⟩ = some (.int .i64 wd) := (cell_of_row _ _ 1 _ _ _ (heap_setCd HX3.out _)).trans rfl
      have hzz : (w3.setCell ⟨w.heap.size + 1, 0, none⟩ (.int .i64 3)).frozen? ⟨w.heap.size + 1, 1, none⟩ = false := by simp [World.frozen?, heap_setCd HX3.out]
      clear hb3
      go_wp2
      go_roundw
      case rel =>
       refine ⟨3, wdayV cu.1, cu.2.1, _, cnt1, rfl, (heap_setCd (heap_setCd HX3.out _) _).trans rfl, ?_, ranges_set (ranges_set HRG3.out _ _ _ (by omega) (by omega)) _ _ _ (by omega) (by omega), HPN.out, HLN.out, (HB3.out.setCell (by show w.heap.size ≤ w.heap.size + 1; omega) _).setCell (by show w.heap.size ≤ w.heap.size + 1; omega) _⟩
       rw [Below.heap_setCell _ _ _ _ (by show w.heap.size ≠ w.heap.size + 1; omega), Below.heap_setCell _ _ _ _ (by show w.heap.size ≠ w.heap.size + 1; omega)]
       exact HZ3.out
      case measure =>
       rw [(ranges_set (ranges_set HRG3.out (w.heap.size + 1) 0 (.int .i64 3) (by omega) (by omega)) (w.heap.size + 1) 1 (.int .i64 (wdayV cu.1)) (by omega) (by omega)).left_eq, hrg.left_eq]; exact hlt
    ·obtain rfl : x = 4 := by injection e
     have hc := sign4 hat
     subst hc
     clear e hat hwx hwc
     have hPn : P (left (.int .i64 3) && !(Lit.int .i64 3).sameKey (.int .i64 4)) (left (.int .i64 4) && !(Lit.int .i64 4).sameKey (.int .i64 4)) (dayHit l 4 [60, 61] (k, wd, rest)) := by
      have h := HP.out
      rw [left_on, left_off 3 (by decide)]
      rw [hlx] at h
      exact PB.out _ _ h
     have HPN := Lib.hid hPn
     have hLE : ∀ kl, (left kl && !kl.sameKey (.int .i64 4)) = true → kl = .int .i64 3 ∨ kl = .int .i64 4 := fun kl h => HLE.out kl (by simp only [Bool.and_eq_true] at h; exact h.1)
     have HLN := Lib.hid hLE
     have hX1l : w.heap.size + 1 < w1.heap.size := (Array.getElem?_eq_some_iff.mp HX1.out).1
     clear hPn hLE hlx
     go_wp2_with fail
     refine (HCB.out _ (HM.out.below HB1.out)).mono ?_
     obtain ⟨cu, ecu⟩ : ∃ cu, Lib.cut l [60, 61] = cu := ⟨_, rfl⟩
     unfold dayHit at HPN
     rw [ecu] at HPN
     rw [ecu]
     clear ecu
     rintro e w2 ⟨rfl, hb2⟩
     have HB2 := Lib.hid (HB1.out.trans (hb2.mono HB1.out.size))
     have HX2 := Lib.hid ((hb2.block _ hX1l).trans HX1.out)
     have HZ2 := Lib.hid ((hb2.block w.heap.size (by omega)).trans HZ1.out)
     have HRG2 := Lib.hid (ranges_below HRG1.out hb2)
     have hX2l : w.heap.size + 1 < w2.heap.size := by have := hb2.size; omega
     clear hb2
     cases hcu : cu.2.2
     ·rw [hcu] at HPN
      go_wp2
      go_roundw
      case rel => exact ⟨k, wd, rest, _, cnt1, rfl, HX2.out, HZ2.out, HRG2.out, HPN.out, HLN.out, HB2.out⟩
      case measure => rw [HRG2.out.left_eq, hrg.left_eq]; exact hlt
     ·rw [hcu] at HPN
      go_wp2_with fail
      refine (weekday_any cu.1 _).mono ?_
      rintro e w3 ⟨rfl, hb3⟩
      have HB3 := Lib.hid (HB2.out.trans (hb3.mono HB2.out.size))
      have HX3 := Lib.hid ((hb3.block _ hX2l).trans HX2.out)
      have HZ3 := Lib.hid ((hb3.block w.heap.size (by omega)).trans HZ2.out)
      have HRG3 := Lib.hid (ranges_below HRG2.out hb3)
      have hX3l : w.heap.size + 1 < w3.heap.size := by have := hb3.size; omega
      have c0 : w3.cell? ⟨w.heap.size + 1, 0, none⟩ = some (.int .i64 k) := (cell_of_row w3 _ 0 _ _ _ HX3.out).trans rfl
      have c1 : w3.cell? ⟨w.heap.size + 1, 1, none⟩ = some (.int .i64 wd) := (cell_of_row w3 _ 1 _ _ _ HX3.out).trans rfl
      have z0 : w3.frozen? ⟨w.heap.size + 1, 0, none⟩ = false := by simp [World.frozen?, HX3.out]
      have z1 : w3.frozen? ⟨w.heap.size + 1, 1, none⟩ = false := by simp [World.frozen?, HX3.out]
      have hcc : (w3.setCell ⟨w.heap.size + 1, 0, none⟩ (.int .i64 4)).cell? ⟨w.heap.size + 1, 1, none⟩ = some (.int .i64 wd) := (cell_of_row _ _ 1 _ _ _ (heap_setCd HX3.out _)).trans rfl
      have hzz : (w3.setCell ⟨w.heap.size + 1, 0, none⟩ (.int .i64 4)).frozen? ⟨w.heap.size + 1, 1, none⟩ = false := by simp [World.frozen?, heap_setCd HX3.out]
      clear hb3
      go_wp2
      go_roundw
      case rel =>
       refine ⟨4, wdayV cu.1, cu.2.1, _, cnt1, rfl, (heap_setCd (heap_setCd HX3.out _) _).trans rfl, ?_, ranges_set (ranges_set HRG3.out _ _ _ (by omega) (by omega)) _ _ _ (by omega) (by omega), HPN.out, HLN.out, (HB3.out.setCell (by show w.heap.size ≤ w.heap.size + 1; omega) _).setCell (by show w.heap.size ≤ w.heap.size + 1; omega) _⟩
       rw [Below.heap_setCell _ _ _ _ (by show w.heap.size ≠ w.heap.size + 1; omega), Below.heap_setCell _ _ _ _ (by show w.heap.size ≠ w.heap.size + 1; omega)]
       exact HZ3.out
      case measure =>
       rw [(ranges_set (ranges_set HRG3.out (w.heap.size + 1) 0 (.int .i64 4) (by omega) (by omega)) (w.heap.size + 1) 1 (.int .i64 (wdayV cu.1)) (by omega) (by omega)).left_eq, hrg.left_eq]; exact hlt
end Go.Proofs.YtomahddiclkepaaGreatDoor
namespace Go.Proofs.YtomahddiclkepaaGreatDoor
open Go.RowKit Go.Joins
set_option linter.unusedVariables false
set_option linter.unusedSimpArgs false
theorem index_no (l t : List UInt8) (s : UInt8) (h : ∀ c ∈ l, c ≠ s) : Lib.index l (s :: t) = -1 := by
 refine Lib.index_none (fun j hj => ?_)
 cases ho : Lib.occAt l (s :: t) j
 ·rfl
 ·have := Lib.occAt_head rfl ho
  exact absurd rfl (h s (List.mem_of_getElem? this))
theorem cut_no (l t : List UInt8) (s : UInt8) (h : ∀ c ∈ l, c ≠ s) : Lib.cut l (s :: t) = (l, [], false) := by
 unfold Lib.cut
 rw [index_no l t s h, if_neg (by omega)]
theorem cut_two (g r : List UInt8) (s t : UInt8) (h : ∀ c ∈ g, c ≠ s) : Lib.cut (g ++ ([s, t] ++ r)) [s, t] = (g, r, true) := by
 have hi : Lib.index (g ++ ([s, t] ++ r)) [s, t] = g.length := by
  refine Lib.index_first (by simp) ?_ ?_
  ·unfold Lib.occAt
   rw [List.drop_append_of_le_length (Nat.le_refl _), List.drop_length]
   simp
  ·intro j hj
   cases ho : Lib.occAt (g ++ ([s, t] ++ r)) [s, t] j
   ·rfl
   ·have := Lib.occAt_head rfl ho
    rw [List.getElem?_append_left hj, List.getElem?_eq_getElem hj] at this
    injection this with this
    exact absurd this (h _ (List.getElem_mem _))
 unfold Lib.cut
 rw [hi, if_pos (by omega)]
 simp [List.drop_append]
theorem cut_small (l sg : List UInt8) : (Lib.cut l sg).2.1.length ≤ l.length := by
 unfold Lib.cut
 split
 ·simp
 ·simp
def isLt (c : UInt8) : Prop := 65 ≤ c.toNat ∧ c.toNat ≤ 122
theorem word_letters {wd : Int} (h0 : 0 ≤ wd) (h6 : wd ≤ 6) : ∀ c ∈ wordT wd, isLt c := by
 rcases wd_cases h0 h6 with rfl | rfl | rfl | rfl | rfl | rfl | rfl <;> (unfold isLt; decide)
theorem word_wday {wd : Int} (h0 : 0 ≤ wd) (h6 : wd ≤ 6) : wdayV (wordT wd) = wd := by
 rcases wd_cases h0 h6 with rfl | rfl | rfl | rfl | rfl | rfl | rfl <;> rfl
theorem word_head {wd : Int} (h0 : 0 ≤ wd) (h6 : wd ≤ 6) (r : List UInt8) : Lib.hasPrefix (wordT wd ++ r) [108, 97, 115, 116] = false := by
 rcases wd_cases h0 h6 with rfl | rfl | rfl | rfl | rfl | rfl | rfl <;> rfl
theorem dg_head (l : List UInt8) (hd : ∀ c ∈ l, isDg c) : Lib.hasPrefix l [108, 97, 115, 116] = false := by
 cases l with
 | nil => rfl
 | cons c r =>
  have hc := hd c (by simp)
  have : c ≠ 108 := dg_ne hc 108 (by decide)
  simp only [Lib.hasPrefix, List.isPrefixOf_cons_cons, Bool.and_eq_false_iff]
  left
  simpa using fun e => this e.symm
theorem lt_ne {c : UInt8} (h : isLt c) (s : UInt8) (hs : s.toNat < 65) : c ≠ s := by
 rintro rfl
 unfold isLt at h
 omega
theorem last_letters : ∀ c ∈ ([108, 97, 115, 116] : List UInt8), isLt c := by unfold isLt; decide
theorem Read_no (l : List UInt8) (w : World) (hl : l.length ≤ 4294967280) (hno : ∀ k wd n, dayB k wd n = true → dayT k wd n ≠ l) (ht : Tab10 w) (hn : NumErrs w) (hm : MaxLen w) :
  Calls Tryz.prog 138 #[.string (txt l)] w fun e w' => e = .returned (.tuple #[dayV 0 0 0, .int .i64 3]) ∧ Below w.heap.size w w' := by
 refine Read_walk l w hl ht hn hm (fun _ _ st => st.2.2.length ≤ l.length + 1) ?_ ?_ ?_ (fun a b st h => by omega) (0, 0, 0, 3) (fun st _ => ?_)
 ·unfold dayS0
  split
  ·simp
  ·exact Nat.le_succ _
 ·intro b st h
  unfold dayHit
  split
  ·have := cut_small l [62, 61]
   show (Lib.cut l [62, 61]).2.1.length ≤ l.length + 1
   omega
  ·exact h
 ·intro b st h
  unfold dayHit
  split
  ·have := cut_small l [60, 61]
   show (Lib.cut l [60, 61]).2.1.length ≤ l.length + 1
   omega
  ·exact h
 ·unfold DayRes
  cases hb : dayB st.1 st.2.1 (atoiV st.2.2)
  ·exact .inr (.inr ⟨rfl, rfl⟩)
  ·exact .inr (.inl ⟨rfl, hno _ _ _ hb, rfl⟩)
theorem dayT_small {k wd n : Int} (h : dayB k wd n = true) : (dayT k wd n).length ≤ 20 := by
 have h' := h
 simp only [dayB, decide_eq_true_eq] at h'
 have h1 := itoa_31 (n := n) (by omega) (by omega)
 unfold dayT
 split
 ·have := wordT_length (wd := wd) (by omega) (by omega)
  simp; omega
 ·split
  ·have := wordT_length (wd := wd) (by omega) (by omega)
   simp; omega
  ·split
   ·have := wordT_length (wd := wd) (by omega) (by omega)
    simp; omega
   ·omega
theorem Read_ok (k wd n : Int) (w : World) (hd : dayB k wd n = true) (ht : Tab10 w) (hn : NumErrs w) (hm : MaxLen w) :
  Calls Tryz.prog 138 #[.string (txt (dayT k wd n))] w fun e w' => e = .returned (.tuple #[dayV k wd n, .int .i64 0]) ∧ Below w.heap.size w w' := by
 have hl := dayT_small hd
 have hd' := hd
 simp only [dayB, decide_eq_true_eq] at hd'
 have hi : 0 ≤ n ∧ n ≤ 31 := by omega
 have hdg := itoa_dg hi.1
 have hil := itoa_31 hi.1 hi.2
 have hat : atoiV (Lib.itoa n) = n := atoiV_itoa hi.1 (by omega)
 rcases hd' with ⟨rfl, rfl, h⟩ | ⟨rfl, h0, h6, rfl⟩ | ⟨rfl | rfl, h0, h6, h⟩
 ·have e : dayT 1 0 n = Lib.itoa n := by simp [dayT]
  rw [e] at hl ⊢
  have h1 := cut_no (Lib.itoa n) [61] 62 (fun c hc => dg_ne (hdg c hc) 62 (by decide))
  have h2 := cut_no (Lib.itoa n) [61] 60 (fun c hc => dg_ne (hdg c hc) 60 (by decide))
  refine Read_walk (Lib.itoa n) w (by omega) ht hn hm (fun _ _ st => st = (1, 0, Lib.itoa n)) ?_ ?_ ?_ (fun a b st h => by subst h; show (Lib.itoa n).length ≤ _; omega) (1, 0, n, 0) (fun st hst => ?_)
  ·unfold dayS0; rw [dg_head _ hdg]; rfl
  ·intro b st hst; unfold dayHit; rw [h1]; exact hst
  ·intro b st hst; unfold dayHit; rw [h2]; exact hst
  ·subst hst
   unfold DayRes
   simp only [hat]
   exact .inl ⟨hd, e, trivial⟩
 ·have e : dayT 2 wd 0 = [108, 97, 115, 116] ++ wordT wd := by simp [dayT]
  rw [e] at hl ⊢
  have hlt : ∀ c ∈ [108, 97, 115, 116] ++ wordT wd, isLt c := fun c hc => (List.mem_append.1 hc).elim (last_letters c) (word_letters h0 h6 c)
  have h1 := cut_no ([108, 97, 115, 116] ++ wordT wd) [61] 62 (fun c hc => lt_ne (hlt c hc) 62 (by decide))
  have h2 := cut_no ([108, 97, 115, 116] ++ wordT wd) [61] 60 (fun c hc => lt_ne (hlt c hc) 60 (by decide))
  have hp : Lib.hasPrefix ([108, 97, 115, 116] ++ wordT wd) [108, 97, 115, 116] = true := by simp [Lib.hasPrefix]
  have htp : Lib.trimPrefix ([108, 97, 115, 116] ++ wordT wd) [108, 97, 115, 116] = wordT wd := by unfold Lib.trimPrefix; rw [hp]; simp
  have h48 : atoiV [48] = 0 := by decide
  refine Read_walk ([108, 97, 115, 116] ++ wordT wd) w (by omega) ht hn hm (fun _ _ st => st = (2, wd, [48])) ?_ ?_ ?_ (fun a b st h => by subst h; show ([48] : List UInt8).length ≤ _; simp) (2, wd, 0, 0) (fun st hst => ?_)
  ·unfold dayS0; rw [hp, htp, word_wday h0 h6]; rfl
  ·intro b st hst; unfold dayHit; rw [h1]; exact hst
  ·intro b st hst; unfold dayHit; rw [h2]; exact hst
  ·subst hst
   unfold DayRes
   simp only [h48]
   exact .inl ⟨hd, e, trivial⟩
 ·have e : dayT 3 wd n = wordT wd ++ ([62, 61] ++ Lib.itoa n) := by simp [dayT]
  rw [e] at hl ⊢
  have h1 := cut_two (wordT wd) (Lib.itoa n) 62 61 (fun c hc => lt_ne (word_letters h0 h6 c hc) 62 (by decide))
  have h2 := cut_no (wordT wd ++ ([62, 61] ++ Lib.itoa n)) [61] 60 (fun c hc => by
   rcases List.mem_append.1 hc with hc | hc
   ·exact lt_ne (word_letters h0 h6 c hc) 60 (by decide)
   ·rcases List.mem_append.1 hc with hc | hc
    ·simp only [List.mem_cons, List.not_mem_nil, or_false] at hc
     rcases hc with rfl | rfl <;> decide
    ·exact dg_ne (hdg c hc) 60 (by decide))
  refine Read_walk (wordT wd ++ ([62, 61] ++ Lib.itoa n)) w (by omega) ht hn hm (fun a _ st => st = if a then (1, 0, wordT wd ++ ([62, 61] ++ Lib.itoa n)) else (3, wd, Lib.itoa n)) ?_ ?_ ?_ (fun a b st h => by subst h; cases a <;> simp <;> simp at hl <;> omega) (3, wd, n, 0) (fun st hst => ?_)
  ·unfold dayS0; rw [word_head h0 h6]; rfl
  ·intro b st hst; unfold dayHit; rw [h1, word_wday h0 h6]; rfl
  ·intro b st hst; unfold dayHit; rw [h2]; exact hst
  ·subst hst
   unfold DayRes
   simp only [Bool.false_eq_true, if_false, hat]
   exact .inl ⟨hd, e, trivial⟩
 ·have e : dayT 4 wd n = wordT wd ++ ([60, 61] ++ Lib.itoa n) := by simp [dayT]
  rw [e] at hl ⊢
  have h1 := cut_two (wordT wd) (Lib.itoa n) 60 61 (fun c hc => lt_ne (word_letters h0 h6 c hc) 60 (by decide))
  have h2 := cut_no (wordT wd ++ ([60, 61] ++ Lib.itoa n)) [61] 62 (fun c hc => by
   rcases List.mem_append.1 hc with hc | hc
   ·exact lt_ne (word_letters h0 h6 c hc) 62 (by decide)
   ·rcases List.mem_append.1 hc with hc | hc
    ·simp only [List.mem_cons, List.not_mem_nil, or_false] at hc
     rcases hc with rfl | rfl <;> decide
    ·exact dg_ne (hdg c hc) 62 (by decide))
  refine Read_walk (wordT wd ++ ([60, 61] ++ Lib.itoa n)) w (by omega) ht hn hm (fun _ b st => st = if b then (1, 0, wordT wd ++ ([60, 61] ++ Lib.itoa n)) else (4, wd, Lib.itoa n)) ?_ ?_ ?_ (fun a b st h => by subst h; cases b <;> simp <;> simp at hl <;> omega) (4, wd, n, 0) (fun st hst => ?_)
  ·unfold dayS0; rw [word_head h0 h6]; rfl
  ·intro b st hst; unfold dayHit; rw [h2]; exact hst
  ·intro b st hst; unfold dayHit; rw [h1, word_wday h0 h6]; rfl
  ·subst hst
   unfold DayRes
   simp only [Bool.false_eq_true, if_false, hat]
   exact .inl ⟨hd, e, trivial⟩
end Go.Proofs.YtomahddiclkepaaGreatDoor
namespace Go.Proofs.YtomahddiclkepaaGreatDoor
open Go.RowKit Go.Joins
open Classical
set_option linter.unusedVariables false
set_option linter.unusedSimpArgs false
theorem spanP_mem {n : Int} (h0 : 0 ≤ n) (h1 : n ≤ 604800) : ∀ c ∈ spanP n, isDg c ∨ c = 58 := by
 intro c hc
 unfold spanP at hc
 simp only [List.mem_append, List.mem_cons, List.not_mem_nil, or_false] at hc
 rcases hc with h | h | h | h
 ·exact Or.inl (itoa_dg (by omega) c h)
 ·exact Or.inr h
 ·exact Or.inl (T2_dg (by omega) (by omega) c h)
 ·split at h
  ·cases h
  ·simp only [List.mem_append, List.mem_cons, List.not_mem_nil, or_false] at h
   rcases h with h | h
   ·exact Or.inr h
   ·exact Or.inl (T2_dg (by omega) (by omega) c h)
theorem spanT_mem {n : Int} (h : inS n) : ∀ c ∈ spanT n, isDg c ∨ c = 58 ∨ c = 45 := by
 obtain ⟨h0, h1⟩ := h
 intro c hc
 unfold spanT at hc
 split at hc
 ·simp only [List.mem_cons] at hc
  rcases hc with h | h
  ·exact Or.inr (Or.inr h)
  ·rcases spanP_mem (n := -n) (by omega) (by omega) c h with h | h
   ·exact Or.inl h
   ·exact Or.inr (Or.inl h)
 ·rcases spanP_mem (n := n) (by omega) (by omega) c hc with h | h
  ·exact Or.inl h
  ·exact Or.inr (Or.inl h)
theorem spanT_ne32 {n : Int} (h : inS n) : ∀ c ∈ spanT n, c ≠ 32 := by
 intro c hc
 rcases spanT_mem h c hc with h | rfl | rfl
 ·exact dg_ne h 32 (Or.inl (by decide))
 ·decide
 ·decide
theorem dayT_ne32 {k wd n : Int} (h : dayB k wd n = true) : ∀ c ∈ dayT k wd n, c ≠ 32 := by
 simp only [dayB, decide_eq_true_eq] at h
 have hl : ∀ c, isLt c → c ≠ 32 := fun c h => lt_ne h 32 (by decide)
 have hd : ∀ c, isDg c → c ≠ 32 := fun c h => dg_ne h 32 (Or.inl (by decide))
 intro c hc
 unfold dayT at hc
 rcases h with ⟨rfl, rfl, h1, h2⟩ | ⟨rfl, h1, h2, rfl⟩ | ⟨rfl | rfl, h1, h2, h3, h4⟩
 ·rw [if_neg (by decide), if_neg (by decide), if_neg (by decide)] at hc
  exact hd c (itoa_dg (by omega) c hc)
 ·rw [if_pos rfl] at hc
  rcases List.mem_append.1 hc with h | h
  ·exact hl c (last_letters c h)
  ·exact hl c (word_letters h1 h2 c h)
 ·rw [if_neg (by decide), if_pos rfl] at hc
  rcases List.mem_append.1 hc with h | h
  ·exact hl c (word_letters h1 h2 c h)
  ·rcases List.mem_append.1 h with h | h
   ·simp only [List.mem_cons, List.not_mem_nil, or_false] at h
    rcases h with rfl | rfl <;> decide
   ·exact hd c (itoa_dg (by omega) c h)
 ·rw [if_neg (by decide), if_neg (by decide), if_pos rfl] at hc
  rcases List.mem_append.1 hc with h | h
  ·exact hl c (word_letters h1 h2 c h)
  ·rcases List.mem_append.1 h with h | h
   ·simp only [List.mem_cons, List.not_mem_nil, or_false] at h
    rcases h with rfl | rfl <;> decide
   ·exact hd c (itoa_dg (by omega) c h)
def ckOf (l : List UInt8) : Int := if l.getLast? = some 115 then 1 else if l.getLast? = some 117 then 2 else 0
def tmOf (l : List UInt8) : List UInt8 := if ckOf l = 0 then l else l.dropLast
theorem spanP_last {n : Int} (h0 : 0 ≤ n) : ∃ p c, spanP n = p ++ [c] ∧ isDg c := by
 by_cases hz : n % 60 = 0
 ·refine ⟨Lib.itoa (n / 3600) ++ ([58] ++ [UInt8.ofNat (48 + (n / 60 % 60 / 10).toNat)]), UInt8.ofNat (48 + (n / 60 % 60 % 10).toNat), ?_, T2_dg (n := n / 60 % 60) (by omega) (by omega) _ (by simp [T2])⟩
  unfold spanP
  rw [if_pos hz]
  simp [T2]
 ·refine ⟨Lib.itoa (n / 3600) ++ ([58] ++ (T2 (n / 60 % 60) ++ ([58] ++ [UInt8.ofNat (48 + (n % 60 / 10).toNat)]))), UInt8.ofNat (48 + (n % 60 % 10).toNat), ?_, T2_dg (n := n % 60) (by omega) (by omega) _ (by simp [T2])⟩
  unfold spanP
  rw [if_neg hz]
  simp [T2]
theorem spanT_last {n : Int} (h : inS n) : ∃ p c, spanT n = p ++ [c] ∧ isDg c := by
 obtain ⟨h0, h1⟩ := h
 unfold spanT
 split
 ·obtain ⟨p, c, e, hc⟩ := spanP_last (n := -n) (by omega)
  exact ⟨45 :: p, c, by rw [e]; rfl, hc⟩
 ·exact spanP_last (by omega)
theorem ck_of {n b : Int} (h : inS n) (h0 : 0 ≤ b) (h2 : b ≤ 2) : ckOf (spanT n ++ ckT b) = b ∧ tmOf (spanT n ++ ckT b) = spanT n ∧ spanT n ++ ckT b ≠ [] := by
 obtain ⟨p, c, e, hc⟩ := spanT_last h
 have hb : b = 0 ∨ b = 1 ∨ b = 2 := by omega
 rcases hb with rfl | rfl | rfl
 ·have e0 : ckT 0 = [] := by decide
  have hk : ckOf (spanT n) = 0 := by
   unfold ckOf
   rw [e]
   simp only [List.getLast?_append, List.getLast?_singleton, Option.some_or]
   rw [if_neg (by intro h; injection h with h; subst h; unfold isDg at hc; exact absurd hc (by decide)), if_neg (by intro h; injection h with h; subst h; unfold isDg at hc; exact absurd hc (by decide))]
  rw [e0, List.append_nil]
  refine ⟨hk, by unfold tmOf; rw [if_pos hk], by rw [e]; simp⟩
 ·have e1 : ckT 1 = [115] := by decide
  have hk : ckOf (spanT n ++ [115]) = 1 := by unfold ckOf; simp
  rw [e1]
  refine ⟨hk, by unfold tmOf; rw [hk, if_neg (by decide)]; simp, by simp⟩
 ·have e2 : ckT 2 = [117] := by decide
  have hk : ckOf (spanT n ++ [117]) = 2 := by unfold ckOf; simp
  rw [e2]
  refine ⟨hk, by unfold tmOf; rw [hk, if_neg (by decide)]; simp, by simp⟩
theorem ruW_ne {r : Ru} (o : OkRu r) : ∀ x ∈ ruW r, ∀ c ∈ x, c ≠ 32 := by
 have hd : ∀ n : Int, 0 ≤ n → ∀ c ∈ Lib.itoa n, c ≠ 32 := fun n h c hc => dg_ne (itoa_dg h c hc) 32 (Or.inl (by decide))
 have f1 := o.f1; have t1 := o.t1; have m1 := o.m1; have s1 := o.s1; have s2 := o.s2
 intro x hx c hc
 simp only [ruW, List.mem_cons, List.not_mem_nil, or_false] at hx
 rcases hx with rfl | rfl | rfl | rfl | rfl | rfl | rfl | rfl | rfl
 ·simp only [List.mem_cons, List.not_mem_nil, or_false] at hc
  rcases hc with rfl | rfl | rfl | rfl <;> decide
 ·have := o.nm
  unfold nameB at this
  simp only [Bool.and_eq_true] at this
  exact sign_ne this.1 (by decide) c hc
 ·exact hd _ (by omega) c hc
 ·exact hd _ (by omega) c hc
 ·exact hd _ (by omega) c hc
 ·exact dayT_ne32 o.d c hc
 ·rcases List.mem_append.1 hc with h | h
  ·exact spanT_ne32 ⟨o.a1, o.a2⟩ c h
  ·unfold ckT at h
   split at h
   ·simp only [List.mem_singleton] at h; subst h; decide
   ·split at h
    ·simp only [List.mem_singleton] at h; subst h; decide
    ·cases h
 ·exact spanT_ne32 ⟨by omega, by omega⟩ c hc
 ·rcases o.lt with h | h
  ·rw [← ByteArray.toList_eq, h] at hc
   simp only [List.mem_singleton] at hc; subst hc; decide
  ·exact sign_ne h (by decide) c hc
theorem ru_split {r : Ru} (o : OkRu r) : splitC 32 (ruText r) = ruW r := split_glue _ (by simp [ruW]) (ruW_ne o)
def AscTab (w : World) : Prop := Lib.TabIs Tryz.prog w "strings.asciiSpace" .u8 Lib.asciiSpaceTab
theorem AscTab.below {w w' : World} (h : AscTab w) (hb : Below w.heap.size w w') : AscTab w' := (Lib.tabBelow_of_tabIs h) w' hb
theorem trim_one (b : Int) (h0 : 0 ≤ b) (h2 : b ≤ 2) : ∃ T : ByteArray,
  (∀ W : World, (Instr.slice 9 (.string ⟨#[32, 115, 117]⟩) (some (.int .i64 b)) (some (.int .i64 (b + 1))) none).run Tryz.prog W = .ok (.string T) W) ∧
  (∀ W : World, AscTab W → Calls Tryz.prog 74 #[.string T] W fun e w' => e = .returned (.string (txt (ckT b))) ∧ Below W.heap.size W w') := by
 have hb : b = 0 ∨ b = 1 ∨ b = 2 := by omega
 have key : ∀ (c : UInt8), c.toNat < 128 → ∀ R, Lib.trimSpace [c] = R → ∀ W : World, AscTab W → Calls Tryz.prog 74 #[.string ⟨#[c]⟩] W fun e w' => e = .returned (.string (txt R)) ∧ Below W.heap.size W w' := by
  intro c hc R hR W ha
  refine (Tryz.strings_TrimSpace ⟨#[c]⟩ W (by show (1 : Nat) ≤ _; omega) (by
   intro j x hx
   cases j with
   | zero => simp at hx; subst hx; exact hc
   | succ j => simp at hx) ha).mono ?_
  rintro e w' ⟨rfl, rfl⟩
  exact ⟨by rw [← hR]; rfl, below_bytesWorld _ _ _ _ (Nat.le_refl _)⟩
 rcases hb with rfl | rfl | rfl
 ·refine ⟨⟨#[32]⟩, fun W => ?_, key 32 (by decide) _ (by decide)⟩
  rw [run_slice_string (P := Tryz.prog) W _ _ _ _ _ _ Tryz.underlying9 (by omega) (by omega) (by show (0 : Int) + 1 ≤ ((3 : Nat) : Int); omega)]
  rfl
 ·refine ⟨⟨#[115]⟩, fun W => ?_, key 115 (by decide) _ (by decide)⟩
  rw [run_slice_string (P := Tryz.prog) W _ _ _ _ _ _ Tryz.underlying9 (by omega) (by omega) (by show (1 : Int) + 1 ≤ ((3 : Nat) : Int); omega)]
  rfl
 ·refine ⟨⟨#[117]⟩, fun W => ?_, key 117 (by decide) _ (by decide)⟩
  rw [run_slice_string (P := Tryz.prog) W _ _ _ _ _ _ Tryz.underlying9 (by omega) (by omega) (by show (2 : Int) + 1 ≤ ((3 : Nat) : Int); omega)]
  rfl
theorem dayT_len {k wd n : Int} (h : dayB k wd n = true) : (dayT k wd n).length ≤ 30 := by
 simp only [dayB, decide_eq_true_eq] at h
 have hw : (wordT wd).length = 3 := wordT_length (by omega) (by omega)
 have hi := Lib.itoa_length_le n (by omega) (by omega)
 unfold dayT
 split
 ·simp only [List.length_append, List.length_cons, List.length_nil]; omega
 ·split
  ·simp only [List.length_append, List.length_cons, List.length_nil]; omega
  ·split
   ·simp only [List.length_append, List.length_cons, List.length_nil]; omega
   ·omega
theorem all_size {s : ByteArray} {most : Int} {o : ByteArray} (h : allB s most o = true) : (s.size : Int) ≤ most := by
 unfold allB at h
 simp only [Bool.and_eq_true, decide_eq_true_eq] at h
 exact h.2
theorem okRu_nm {r : Ru} (o : OkRu r) : r.nm.size ≤ 20 := by
 have := o.nm
 unfold nameB at this
 simp only [Bool.and_eq_true] at this
 have := all_size this.1
 omega
theorem okRu_lt {r : Ru} (o : OkRu r) : r.lt.size ≤ 8 := by
 rcases o.lt with h | h
 ·have : r.lt.data.toList.length = 1 := by rw [← ByteArray.toList_eq, h]; rfl
  simp at this
  omega
 ·have := all_size h
  omega
theorem join9 (a b c d e f g h i : ByteArray) (W : World) (cap : Nat) (hc : 9 ≤ cap) (bk : Nat) (hbk : bk < W.heap.size) (row : ∃ t z, W.heap[bk]? = some (.cells #[.string a, .string b, .string c, .string d, .string e, .string f, .string g, .string h, .string i] t z)) (hs : ∀ x ∈ [a, b, c, d, e, f, g, h, i], x.size ≤ 60) :
  Calls Tryz.prog 32 #[.slice (some ⟨bk, 0, none⟩) 9 cap, .string ⟨#[32]⟩] W fun en w' => en = .returned (.string (txt (glue [a.data.toList, b.data.toList, c.data.toList, d.data.toList, e.data.toList, f.data.toList, g.data.toList, h.data.toList, i.data.toList]))) ∧ Below W.heap.size W w' := by
 obtain ⟨t, z, hrow⟩ := row
 have hj : Lib.join ([a, b, c, d, e, f, g, h, i].map (·.data.toList)) (⟨#[32]⟩ : ByteArray).data.toList = glue [a.data.toList, b.data.toList, c.data.toList, d.data.toList, e.data.toList, f.data.toList, g.data.toList, h.data.toList, i.data.toList] := by
  simp [Lib.join, List.intercalate, glue]
 refine (Tryz.strings_Join bk 0 cap [a, b, c, d, e, f, g, h, i] ⟨#[32]⟩ W ?_ hbk (by simp) (by simpa using hc) ?_).mono ?_
 ·intro j x hx
  have hj9 : j < 9 := by
   have := (List.getElem?_eq_some_iff.mp hx).1
   simpa using this
  rw [show (0 + j) = j from Nat.zero_add j]
  refine (cell_of_row W bk j _ _ _ hrow).trans ?_
  have : j = 0 ∨ j = 1 ∨ j = 2 ∨ j = 3 ∨ j = 4 ∨ j = 5 ∨ j = 6 ∨ j = 7 ∨ j = 8 := by omega
  rcases this with rfl | rfl | rfl | rfl | rfl | rfl | rfl | rfl | rfl <;> (simp at hx; subst hx; rfl)
 ·rw [hj]
  have h1 := hs a (by simp); have h2 := hs b (by simp); have h3 := hs c (by simp); have h4 := hs d (by simp); have h5 := hs e (by simp)
  have h6 := hs f (by simp); have h7 := hs g (by simp); have h8 := hs h (by simp); have h9 := hs i (by simp)
  simp only [glue, List.length_append, List.length_cons, Array.length_toList, ByteArray.size_data]
  omega
 ·rintro en w' ⟨rfl, hb⟩
  exact ⟨by rw [hj]; rfl, hb⟩
end Go.Proofs.YtomahddiclkepaaGreatDoor
