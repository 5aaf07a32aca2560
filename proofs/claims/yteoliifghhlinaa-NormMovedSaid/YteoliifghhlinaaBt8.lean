/- norm.Between where it tells an error. -/
import Derived.Test.YteoliifghhlinaaBt1
namespace Go.Proofs.Yteoliifghhlinaa
open Go.RowKit Go.Joins
open Classical
set_option linter.unusedVariables false
set_option linter.unusedSimpArgs false

set_option maxRecDepth 100000 in
set_option maxHeartbeats 4000000 in
theorem Between_no (a b : Tab) (v u : Value) (f t : Int) (w : World) (hv : TabAt w v a) (hu : TabAt w u b) (h : chk2 a b ≠ 0 ∨ (chk2 a b = 0 ∧ okSpan f t = false)) :
    Calls Try.prog 14 #[v, u, spV (f, t)] w fun e w' => ∃ n : Int, n ≠ 0 ∧ e = .returned (.tuple #[.slice none 0 0, .int .i64 n]) ∧ Below w.heap.size w w' := by
  obtain ⟨p1, c1, p2, c2, rfl⟩ := tabForms hv
  obtain ⟨p3, c3, p4, c4, rfl⟩ := tabForms hu
  obtain ⟨W0, eW⟩ : ∃ W0, (((w.alloc (.cells #[.slice p1 a.types.length c1, .int .i64 a.first, .slice p2 a.chs.length c2] 25)).alloc (.cells #[.slice p3 b.types.length c3, .int .i64 b.first, .slice p4 b.chs.length c4] 25)).alloc (.cells #[.int .i64 f, .int .i64 t] 29)) = W0 := ⟨_, rfl⟩
  have hW0 : W0.heap.size = w.heap.size + 3 := by rw [← eW]; simp
  have hbW : Below w.heap.size w W0 := by rw [← eW]; exact (((Below.refl _ _).alloc (Nat.le_refl _) _).alloc (by simp) _).alloc (by simp; omega) _
  have hX : W0.heap[w.heap.size]? = some (.cells #[.slice p1 a.types.length c1, .int .i64 a.first, .slice p2 a.chs.length c2] 25 (0, 0)) := by
    rw [← eW, Below.heap_alloc _ _ _ (by simp; omega), Below.heap_alloc _ _ _ (by simp)]; exact heap_alloc_new w _
  have hY : W0.heap[w.heap.size + 1]? = some (.cells #[.slice p3 b.types.length c3, .int .i64 b.first, .slice p4 b.chs.length c4] 25 (0, 0)) := by
    rw [← eW, Below.heap_alloc _ _ _ (by simp)]
    exact alloc_at _ _ _ (by simp)
  have hZ : W0.heap[w.heap.size + 2]? = some (.cells #[.int .i64 f, .int .i64 t] 29 (0, 0)) := by
    rw [← eW]
    exact alloc_at _ _ _ (by simp)
  have w0 : W0.cell? ⟨w.heap.size, 0, none⟩ = some (.slice p1 a.types.length c1) := (cell_of_row W0 _ 0 _ _ _ hX).trans rfl
  have w0a : W0.cell? ⟨w.heap.size, 1, none⟩ = some (.int .i64 a.first) := (cell_of_row W0 _ 1 _ _ _ hX).trans rfl
  have w0b : W0.cell? ⟨w.heap.size, 2, none⟩ = some (.slice p2 a.chs.length c2) := (cell_of_row W0 _ 2 _ _ _ hX).trans rfl
  have w1' : W0.cell? ⟨w.heap.size + 1, 0, none⟩ = some (.slice p3 b.types.length c3) := (cell_of_row W0 _ 0 _ _ _ hY).trans rfl
  have w1a : W0.cell? ⟨w.heap.size + 1, 1, none⟩ = some (.int .i64 b.first) := (cell_of_row W0 _ 1 _ _ _ hY).trans rfl
  have w1b : W0.cell? ⟨w.heap.size + 1, 2, none⟩ = some (.slice p4 b.chs.length c4) := (cell_of_row W0 _ 2 _ _ _ hY).trans rfl
  have HX := Lib.hid hX
  have HY := Lib.hid hY
  have HZ := Lib.hid hZ
  have HBW := Lib.hid hbW
  have HV := Lib.hid (hv.below hbW)
  have HU := Lib.hid (hu.below hbW)
  have HCK := Lib.hid (ncheck_any a b _ _ W0 HV.out HU.out)
  clear hX hY hZ hbW hv hu
  obtain ⟨K, eK⟩ : ∃ K, chk2 a b = K := ⟨_, rfl⟩
  rw [eK] at HCK h
  clear eK
  rcases h with hne | ⟨rfl, hs⟩
  · have hne' : (K == 0) = false := by simpa using hne
    have HNE := Lib.hid hne
    clear hne
    go_enter Try.func14, Try.ntmps14
    show Code.wp _ _ _ _ _
    rw [show spV (f, t) = .agg #[.int .i64 f, .int .i64 t] from rfl]
    go_wp2_with fail
    refine HCK.out.mono ?_
    rintro e w1 ⟨rfl, hb1⟩
    clear eW w0 w0a w0b w1' w1a w1b
    go_wp2
    go_ret2
    exact ⟨K, HNE.out, rfl, HBW.out.trans (hb1.mono (by omega))⟩
  have key : okTime f = false ∨ (okTime f = true ∧ okTime t = false) ∨ (okTime f = true ∧ okTime t = true ∧ t < f) := by
    unfold okSpan at hs
    cases e1 : okTime f <;> cases e2 : okTime t <;> simp_all
  have HT1 := Lib.hid (fun W => isTime_any f W)
  have HT2 := Lib.hid (fun W => isTime_any t W)
  clear hs
  rcases key with h1 | ⟨h1, h2⟩ | ⟨h1, h2, h3⟩
  · rw [h1] at HT1
    clear h1
    go_enter Try.func14, Try.ntmps14
    show Code.wp _ _ _ _ _
    rw [show spV (f, t) = .agg #[.int .i64 f, .int .i64 t] from rfl]
    go_wp2_with fail
    refine HCK.out.mono ?_
    rintro e w1 ⟨rfl, hb1⟩
    clear eW w0 w0a w0b w1' w1a w1b
    have HZ1 := Lib.hid ((hb1.block (w.heap.size + 2) (by omega)).trans HZ.out)
    have HB1 := Lib.hid (HBW.out.trans (hb1.mono (by omega)))
    have hz1 : w.heap.size + 1 + 1 < w1.heap.size := by have := hb1.size; omega
    have s0 : w1.cell? ⟨w.heap.size + 1 + 1, 0, none⟩ = some (.int .i64 f) := (cell_of_row w1 _ 0 _ _ _ HZ1.out).trans rfl
    have s1 : w1.cell? ⟨w.heap.size + 1 + 1, 1, none⟩ = some (.int .i64 t) := (cell_of_row w1 _ 1 _ _ _ HZ1.out).trans rfl
    clear hb1
    go_wp2_with (first
      | (go_at_call_of 27 (Value.int .i64 f); refine (HT1.out _).mono ?_; rintro e w' ⟨rfl, rfl⟩)
      | (go_at_call_of 27 (Value.int .i64 t); refine (HT2.out _).mono ?_; rintro e w' ⟨rfl, rfl⟩)
      | fail)
    go_ret2
    exact ⟨1, by decide, rfl, HB1.out⟩
  · rw [h1] at HT1
    rw [h2] at HT2
    clear h1 h2
    go_enter Try.func14, Try.ntmps14
    show Code.wp _ _ _ _ _
    rw [show spV (f, t) = .agg #[.int .i64 f, .int .i64 t] from rfl]
    go_wp2_with fail
    refine HCK.out.mono ?_
    rintro e w1 ⟨rfl, hb1⟩
    clear eW w0 w0a w0b w1' w1a w1b
    have HZ1 := Lib.hid ((hb1.block (w.heap.size + 2) (by omega)).trans HZ.out)
    have HB1 := Lib.hid (HBW.out.trans (hb1.mono (by omega)))
    have hz1 : w.heap.size + 1 + 1 < w1.heap.size := by have := hb1.size; omega
    have s0 : w1.cell? ⟨w.heap.size + 1 + 1, 0, none⟩ = some (.int .i64 f) := (cell_of_row w1 _ 0 _ _ _ HZ1.out).trans rfl
    have s1 : w1.cell? ⟨w.heap.size + 1 + 1, 1, none⟩ = some (.int .i64 t) := (cell_of_row w1 _ 1 _ _ _ HZ1.out).trans rfl
    clear hb1
    go_wp2_with (first
      | (go_at_call_of 27 (Value.int .i64 f); refine (HT1.out _).mono ?_; rintro e w' ⟨rfl, rfl⟩)
      | (go_at_call_of 27 (Value.int .i64 t); refine (HT2.out _).mono ?_; rintro e w' ⟨rfl, rfl⟩)
      | fail)
    go_ret2
    exact ⟨1, by decide, rfl, HB1.out⟩
  · rw [h1] at HT1
    rw [h2] at HT2
    clear h1 h2
    go_enter Try.func14, Try.ntmps14
    show Code.wp _ _ _ _ _
    rw [show spV (f, t) = .agg #[.int .i64 f, .int .i64 t] from rfl]
    go_wp2_with fail
    refine HCK.out.mono ?_
    rintro e w1 ⟨rfl, hb1⟩
    clear eW w0 w0a w0b w1' w1a w1b
    have HZ1 := Lib.hid ((hb1.block (w.heap.size + 2) (by omega)).trans HZ.out)
    have HB1 := Lib.hid (HBW.out.trans (hb1.mono (by omega)))
    have hz1 : w.heap.size + 1 + 1 < w1.heap.size := by have := hb1.size; omega
    have s0 : w1.cell? ⟨w.heap.size + 1 + 1, 0, none⟩ = some (.int .i64 f) := (cell_of_row w1 _ 0 _ _ _ HZ1.out).trans rfl
    have s1 : w1.cell? ⟨w.heap.size + 1 + 1, 1, none⟩ = some (.int .i64 t) := (cell_of_row w1 _ 1 _ _ _ HZ1.out).trans rfl
    clear hb1
    go_wp2_with (first
      | (go_at_call_of 27 (Value.int .i64 f); refine (HT1.out _).mono ?_; rintro e w' ⟨rfl, rfl⟩)
      | (go_at_call_of 27 (Value.int .i64 t); refine (HT2.out _).mono ?_; rintro e w' ⟨rfl, rfl⟩)
      | fail)
    go_ret2
    exact ⟨1, by decide, rfl, HB1.out⟩
end Go.Proofs.Yteoliifghhlinaa
