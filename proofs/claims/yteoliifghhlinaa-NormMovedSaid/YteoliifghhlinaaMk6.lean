/- norm.Same and TableEq: what each returns. -/
import Derived.Test.YteoliifghhlinaaMk5
namespace Go.Proofs.Yteoliifghhlinaa
open Go.RowKit Go.Joins
open Classical
set_option linter.unusedVariables false
set_option linter.unusedSimpArgs false

theorem tab_eq {x y : Tab} : x = y ↔ x.types = y.types ∧ x.first = y.first ∧ x.chs = y.chs := by
  cases x; cases y; simp

set_option maxRecDepth 100000 in
set_option maxHeartbeats 1000000 in
theorem TableEq_any (a b : Tab) (v u : Value) (w : World) (hv : TabAt w v a) (hu : TabAt w u b) :
    Calls Try.prog 18 #[v, u] w fun e w' => e = .returned (.bool (decide (a = b))) ∧ Below w.heap.size w w' := by
  obtain ⟨p1, c1, p2, c2, rfl⟩ := tabForms hv
  obtain ⟨p3, c3, p4, c4, rfl⟩ := tabForms hu
  obtain ⟨a1, a2, -⟩ := tabOf_slices hv
  obtain ⟨b1, b2, -⟩ := tabOf_slices hu
  obtain ⟨W0, eW⟩ : ∃ W0, (w.alloc (.cells #[.slice p1 a.types.length c1, .int .i64 a.first, .slice p2 a.chs.length c2] 25)).alloc (.cells #[.slice p3 b.types.length c3, .int .i64 b.first, .slice p4 b.chs.length c4] 25) = W0 := ⟨_, rfl⟩
  have hW0 : W0.heap.size = w.heap.size + 2 := by rw [← eW]; simp
  have hbW : Below w.heap.size w W0 := by rw [← eW]; exact ((Below.refl _ _).alloc (Nat.le_refl _) _).alloc (by simp) _
  have hX : W0.heap[w.heap.size]? = some (.cells #[.slice p1 a.types.length c1, .int .i64 a.first, .slice p2 a.chs.length c2] 25 (0, 0)) := by
    rw [← eW, Below.heap_alloc _ _ _ (by simp)]; exact heap_alloc_new w _
  have hY : W0.heap[w.heap.size + 1]? = some (.cells #[.slice p3 b.types.length c3, .int .i64 b.first, .slice p4 b.chs.length c4] 25 (0, 0)) := by
    rw [← eW]
    have := heap_alloc_new (w.alloc (.cells #[.slice p1 a.types.length c1, .int .i64 a.first, .slice p2 a.chs.length c2] 25)) (.cells #[.slice p3 b.types.length c3, .int .i64 b.first, .slice p4 b.chs.length c4] 25)
    simpa using this
  have HT := Lib.hid (EqTy_any a.types b.types _ _ W0 (a1.below hbW) (b1.below hbW))
  have w0 : W0.cell? ⟨w.heap.size, 0, none⟩ = some (.slice p1 a.types.length c1) := (cell_of_row W0 _ 0 _ _ _ hX).trans rfl
  have w1' : W0.cell? ⟨w.heap.size + 1, 0, none⟩ = some (.slice p3 b.types.length c3) := (cell_of_row W0 _ 0 _ _ _ hY).trans rfl
  have HX := Lib.hid hX
  have HY := Lib.hid hY
  have HBW := Lib.hid hbW
  have A2 := Lib.hid (a2.below hbW)
  have B2 := Lib.hid (b2.below hbW)
  obtain ⟨R, eR⟩ : ∃ R, decide (a = b) = R := ⟨_, rfl⟩
  rw [eR]
  have ER : Hid (R = (decide (a.types = b.types) && (decide (a.first = b.first) && decide (a.chs = b.chs)))) := by
    show _ = _
    rw [← eR, Bool.eq_iff_iff]
    simp [tab_eq]
  obtain ⟨F, eF⟩ : ∃ F, (a.first == b.first) = F := ⟨_, rfl⟩
  have hF : decide (a.first = b.first) = F := by rw [← eF]; rfl
  rw [hF] at ER
  obtain ⟨T, eT⟩ : ∃ T, decide (a.types = b.types) = T := ⟨_, rfl⟩
  rw [eT] at HT ER
  obtain ⟨C, eC⟩ : ∃ C, decide (a.chs = b.chs) = C := ⟨_, rfl⟩
  rw [eC] at ER
  have EC := Lib.hid eC
  clear hX hY hbW a1 a2 b1 b2 hv hu eR hF eT eC
  go_enter Try.func18, Try.ntmps18
  go_wp2_with fail
  refine HT.out.mono ?_
  rintro e w1 ⟨rfl, hb1⟩
  have hX1 := (hb1.block w.heap.size (by omega)).trans HX.out
  have hY1 := (hb1.block (w.heap.size + 1) (by omega)).trans HY.out
  have b1 := HBW.out.trans (hb1.mono (by omega))
  have x1 : w1.cell? ⟨w.heap.size, 1, none⟩ = some (.int .i64 a.first) := (cell_of_row w1 _ 1 _ _ _ hX1).trans rfl
  have x2 : w1.cell? ⟨w.heap.size, 2, none⟩ = some (.slice p2 a.chs.length c2) := (cell_of_row w1 _ 2 _ _ _ hX1).trans rfl
  have y1 : w1.cell? ⟨w.heap.size + 1, 1, none⟩ = some (.int .i64 b.first) := (cell_of_row w1 _ 1 _ _ _ hY1).trans rfl
  have y2 : w1.cell? ⟨w.heap.size + 1, 2, none⟩ = some (.slice p4 b.chs.length c4) := (cell_of_row w1 _ 2 _ _ _ hY1).trans rfl
  have HC := Lib.hid (EqCh_any a.chs b.chs _ _ w1 (A2.out.below hb1) (B2.out.below hb1))
  rw [EC.out] at HC
  clear hb1 hX1 hY1 eW
  cases T
  · go_wp2
    go_ret
    exact ⟨ret_bool' (by rw [ER.out]; rfl), b1⟩
  · cases F
    · go_wp2
      go_ret
      exact ⟨ret_bool' (by rw [ER.out]; rfl), b1⟩
    · go_wp2_with fail
      refine HC.out.mono ?_
      rintro e w2 ⟨rfl, hb2⟩
      go_wp2
      go_ret
      exact ⟨ret_bool' (by rw [ER.out]; rfl), b1.trans (hb2.mono b1.size)⟩

set_option maxRecDepth 100000 in
set_option maxHeartbeats 1000000 in
theorem Same_no (a b : Tab) (v u : Value) (w : World) (hv : TabAt w v a) (hu : TabAt w u b) (hne : chk2 a b ≠ 0) :
    Calls Try.prog 17 #[v, u] w fun e w' => e = .returned (.tuple #[.bool false, .int .i64 (chk2 a b)]) ∧ Below w.heap.size w w' := by
  obtain ⟨p1, c1, p2, c2, rfl⟩ := tabForms hv
  obtain ⟨p3, c3, p4, c4, rfl⟩ := tabForms hu
  obtain ⟨W0, eW⟩ : ∃ W0, (w.alloc (.cells #[.slice p1 a.types.length c1, .int .i64 a.first, .slice p2 a.chs.length c2] 25)).alloc (.cells #[.slice p3 b.types.length c3, .int .i64 b.first, .slice p4 b.chs.length c4] 25) = W0 := ⟨_, rfl⟩
  have hW0 : W0.heap.size = w.heap.size + 2 := by rw [← eW]; simp
  have hbW : Below w.heap.size w W0 := by rw [← eW]; exact ((Below.refl _ _).alloc (Nat.le_refl _) _).alloc (by simp) _
  have hX : W0.heap[w.heap.size]? = some (.cells #[.slice p1 a.types.length c1, .int .i64 a.first, .slice p2 a.chs.length c2] 25 (0, 0)) := by
    rw [← eW, Below.heap_alloc _ _ _ (by simp)]; exact heap_alloc_new w _
  have hY : W0.heap[w.heap.size + 1]? = some (.cells #[.slice p3 b.types.length c3, .int .i64 b.first, .slice p4 b.chs.length c4] 25 (0, 0)) := by
    rw [← eW]
    have := heap_alloc_new (w.alloc (.cells #[.slice p1 a.types.length c1, .int .i64 a.first, .slice p2 a.chs.length c2] 25)) (.cells #[.slice p3 b.types.length c3, .int .i64 b.first, .slice p4 b.chs.length c4] 25)
    simpa using this
  have w0 : W0.cell? ⟨w.heap.size, 0, none⟩ = some (.slice p1 a.types.length c1) := (cell_of_row W0 _ 0 _ _ _ hX).trans rfl
  have w0a : W0.cell? ⟨w.heap.size, 1, none⟩ = some (.int .i64 a.first) := (cell_of_row W0 _ 1 _ _ _ hX).trans rfl
  have w0b : W0.cell? ⟨w.heap.size, 2, none⟩ = some (.slice p2 a.chs.length c2) := (cell_of_row W0 _ 2 _ _ _ hX).trans rfl
  have w1' : W0.cell? ⟨w.heap.size + 1, 0, none⟩ = some (.slice p3 b.types.length c3) := (cell_of_row W0 _ 0 _ _ _ hY).trans rfl
  have w1a : W0.cell? ⟨w.heap.size + 1, 1, none⟩ = some (.int .i64 b.first) := (cell_of_row W0 _ 1 _ _ _ hY).trans rfl
  have w1b : W0.cell? ⟨w.heap.size + 1, 2, none⟩ = some (.slice p4 b.chs.length c4) := (cell_of_row W0 _ 2 _ _ _ hY).trans rfl
  have HX := Lib.hid hX
  have HY := Lib.hid hY
  have HBW := Lib.hid hbW
  have HV := Lib.hid (hv.below hbW)
  have HU := Lib.hid (hu.below hbW)
  have HCK := Lib.hid (ncheck_any a b _ _ W0 HV.out HU.out)
  obtain ⟨K, eK⟩ : ∃ K, chk2 a b = K := ⟨_, rfl⟩
  rw [eK] at HCK hne ⊢
  have hne' : (K == 0) = false := by simpa using hne
  clear hX hY hbW hv hu eK hne
  go_enter Try.func17, Try.ntmps17
  go_wp2_with fail
  refine HCK.out.mono ?_
  rintro e w1 ⟨rfl, hb1⟩
  clear eW
  go_wp2
  go_ret2
  exact ⟨rfl, HBW.out.trans (hb1.mono (by omega))⟩

end Go.Proofs.Yteoliifghhlinaa
