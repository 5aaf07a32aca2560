/- The maker of a table: Begin, number, Change. -/
import Derived.Test.YtmjakhageehcoaaDoorMk0
namespace Go.Proofs.YtmjakhageehcoaaDoor
open Go.RowKit Go.Joins
open Classical
set_option linter.unusedVariables false
set_option linter.unusedSimpArgs false

theorem undTypesN : Tryd.prog.underlying 22 = some (.slice 45) := by kernel_rfl
theorem undChsN : Tryd.prog.underlying 23 = some (.slice 43) := by kernel_rfl
theorem infoTyN : (Tryd.prog.info? 45).map (fun i => (i.zero, i.size, i.bytes)) = some (some (.agg #[.int .i64 0, .bool false, .string ⟨#[]⟩]), 3, 32) := by kernel_rfl
theorem infoChN : (Tryd.prog.info? 43).map (fun i => (i.zero, i.size, i.bytes)) = some (some (.agg #[.int .i64 0, .int .i64 0]), 2, 16) := by kernel_rfl

structure Mk (W : World) (M b0 : Nat) (sv cv : Value) (s : NS) : Prop where
  blk : W.heap[M]? = some (.cells #[sv, .int .i64 0, cv, .int .i64 s.last.off, .bool s.last.save, .string s.last.name] 100 (0, 0))
  hM : b0 ≤ M
  rowT : W.ownsRow b0 45 3 sv s.types.length (tyCells s.types)
  rowC : W.ownsRow b0 43 2 cv s.chs.length (chCells s.chs)

section
variable {W W' : World} {M b0 : Nat} {sv cv : Value} {s : NS}
theorem Mk.lt (h : Mk W M b0 sv cv s) : M < W.heap.size := (Array.getElem?_eq_some_iff.mp h.blk).1
theorem Mk.neT (h : Mk W M b0 sv cv s) : sv.ownBlock ≠ some M := by
  rcases h.rowT.2 with ⟨e, _⟩ | ⟨g, cap, cur, e, _, hg, _⟩
  · rw [e]; simp [Value.ownBlock]
  · rw [e]
    simp only [Value.ownBlock]
    intro e2
    injection e2 with e2
    subst e2
    rw [h.blk] at hg
    injection hg with hg
    injection hg with _ h2 _
    exact absurd h2 (by decide)
theorem Mk.neC (h : Mk W M b0 sv cv s) : cv.ownBlock ≠ some M := by
  rcases h.rowC.2 with ⟨e, _⟩ | ⟨g, cap, cur, e, _, hg, _⟩
  · rw [e]; simp [Value.ownBlock]
  · rw [e]
    simp only [Value.ownBlock]
    intro e2
    injection e2 with e2
    subst e2
    rw [h.blk] at hg
    injection hg with hg
    injection hg with _ h2 _
    exact absurd h2 (by decide)
/-- nothing of it has turned -/
theorem Mk.keep (h : Mk W M b0 sv cv s) (hk : ∀ b, b < W.heap.size → W'.heap[b]? = W.heap[b]?) : Mk W' M b0 sv cv s :=
  ⟨(hk _ h.lt).trans h.blk, h.hM, own_keep h.rowT fun g e => hk g (World.ownsRow.lt h.rowT g e).2, own_keep h.rowC fun g e => hk g (World.ownsRow.lt h.rowC g e).2⟩
theorem Mk.below (h : Mk W M b0 sv cv s) (hb : Below W.heap.size W W') : Mk W' M b0 sv cv s := h.keep hb.block
theorem Mk.alloc (h : Mk W M b0 sv cv s) (o : Obj) : Mk (W.alloc o) M b0 sv cv s := h.keep fun b hb => Below.heap_alloc _ _ _ hb
end

theorem mkCells {w : World} {M : Nat} {a b c d e f : Value} {T : TypeId} (h : w.heap[M]? = some (.cells #[a, b, c, d, e, f] T (0, 0))) :
    w.cell? ⟨M, 0, none⟩ = some a ∧ w.cell? ⟨M, 1, none⟩ = some b ∧ w.cell? ⟨M, 2, none⟩ = some c ∧ w.cell? ⟨M, 3, none⟩ = some d ∧ w.cell? ⟨M, 4, none⟩ = some e ∧ w.cell? ⟨M, 5, none⟩ = some f ∧
      (∀ o, w.frozen? ⟨M, o, none⟩ = false) :=
  ⟨(cell_of_row w _ 0 _ _ _ h).trans rfl, (cell_of_row w _ 1 _ _ _ h).trans rfl, (cell_of_row w _ 2 _ _ _ h).trans rfl, (cell_of_row w _ 3 _ _ _ h).trans rfl, (cell_of_row w _ 4 _ _ _ h).trans rfl, (cell_of_row w _ 5 _ _ _ h).trans rfl,
    fun o => by simp [World.frozen?, h]⟩

theorem heap_setCm {w : World} {R i : Nat} {cs : Array Value} {T : TypeId} {f : Nat × Nat} (h : w.heap[R]? = some (.cells cs T f)) (v : Value) : (w.setCell ⟨R, i, none⟩ v).heap[R]? = some (.cells (cs.setIfInBounds i v) T f) := by
  simp [World.setCell, Array.getElem?_modify, h]

set_option maxRecDepth 100000 in
set_option maxHeartbeats 2000000 in
theorem number_any (M b0 : Nat) (sv cv : Value) (s : NS) (x : Ty) (w : World) (hm : Mk w M b0 sv cv s) (hl : s.types.length ≤ 20000) (hpos : 0 < s.types.length) (hn : ∀ y ∈ s.types, y.name.size ≤ maxLen) :
    Calls Tryd.prog 62 #[.pointer (some ⟨M, 0, none⟩), tyV x] w fun e w' => e = .returned (.int .i64 (idxTy s.types x : Nat)) ∧
      (∃ sv', Mk w' M b0 sv' cv ⟨addTy s.types x, s.chs, s.last⟩) ∧ w.heap.size ≤ w'.heap.size ∧ (∀ b, b < w.heap.size → b ≠ M → sv.ownBlock ≠ some b → w'.heap[b]? = w.heap[b]?) ∧ Below b0 w w' := by
  obtain ⟨gT, capT, rfl, hgT, hgT2⟩ := World.ownsRow.form hm.rowT hpos
  obtain ⟨m0, m1, m2, m3, m4, m5, mz⟩ := mkCells hm.blk
  have hMl := hm.lt
  have HM := Lib.hid hm
  obtain ⟨W1, eW⟩ : ∃ W1, w.alloc (.cells #[.int .i64 x.off, .bool x.save, .string x.name] 45) = W1 := ⟨_, rfl⟩
  have hm1 : Mk W1 M b0 (.slice (some ⟨gT, 0, none⟩) s.types.length capT) cv s := by rw [← eW]; exact hm.alloc _
  have hX : W1.heap[w.heap.size]? = some (.cells #[.int .i64 x.off, .bool x.save, .string x.name] 45 (0, 0)) := by rw [← eW]; exact heap_alloc_new w _
  have HI := Lib.hid (fun W hW => IndexTy_any s.types x (.slice (some ⟨gT, 0, none⟩) s.types.length capT) W hW (by omega))
  have hT := Lib.hid (own_types hm1.rowT (by omega) hn)
  obtain ⟨q0, q1, q2, q3, q4, q5, qz⟩ := mkCells hm1.blk
  have x0 : W1.cell? ⟨w.heap.size, 0, none⟩ = some (.int .i64 x.off) := (cell_of_row W1 _ 0 _ _ _ hX).trans rfl
  have x1 : W1.cell? ⟨w.heap.size, 1, none⟩ = some (.bool x.save) := (cell_of_row W1 _ 1 _ _ _ hX).trans rfl
  have x2 : W1.cell? ⟨w.heap.size, 2, none⟩ = some (.string x.name) := (cell_of_row W1 _ 2 _ _ _ hX).trans rfl
  have hW1 : W1.heap.size = w.heap.size + 1 := by rw [← eW]; simp
  have hbW1 : Below w.heap.size w W1 := by rw [← eW]; exact (Below.refl _ _).alloc (Nat.le_refl _) _
  have hbM : b0 ≤ w.heap.size := by have := hm.hM; omega
  have HM1 := Lib.hid hm1
  have HX := Lib.hid hX
  have HBW := Lib.hid hbW1
  clear hn m1 m2 m3 m4 m5 q1 q2 q3 q4 q5 hm hm1 hX hbW1
  go_enter Tryd.func62, Tryd.ntmps62
  go_wp2_with fail
  clear eW
  go_region_held3 (fun w' => w'.cell? ⟨M, 0, none⟩ = some (.slice (some ⟨gT, 0, none⟩) s.types.length capT) ∧ w'.cell? ⟨w.heap.size, 0, none⟩ = some (.int .i64 x.off) ∧ w'.cell? ⟨w.heap.size, 1, none⟩ = some (.bool x.save) ∧ w'.cell? ⟨w.heap.size, 2, none⟩ = some (.string x.name))
    (first
      | go_keep
      | (exact ⟨(hb2.cell (p := ⟨M, 0, none⟩) (by simp; omega)).trans q0, (hb2.cell (p := ⟨w.heap.size, 0, none⟩) (by simp; omega)).trans x0, (hb2.cell (p := ⟨w.heap.size, 1, none⟩) (by simp; omega)).trans x1, (hb2.cell (p := ⟨w.heap.size, 2, none⟩) (by simp; omega)).trans x2⟩))
    (first
      | (go_at_call 69; refine (HI.out _ (SlTy.below hT.out (below_drewNm (Below.refl _ _) 1))).mono ?_; rintro e w2 ⟨rfl, hb2⟩))
  have hsz2 : W1.heap.size ≤ w2.heap.size := by have := hb2.size; simpa using this
  have HM2 := Lib.hid (HM1.out.keep (W' := w2) fun b hb => (hb2.block b (by simpa using hb)).trans rfl)
  have HX2 := Lib.hid ((hb2.block w.heap.size (by simp; omega)).trans (show W1.drew.heap[w.heap.size]? = _ from HX.out))
  have HB2 := Lib.hid (HBW.out.trans ((below_drewNm (Below.refl _ W1) 1).mono (by have := HBW.out.size; omega)) |>.trans (hb2.mono (by simp; omega)))
  clear hb2 q0 x0 x1 x2
  by_cases hx : x ∈ s.types
  · have hI : Hid (idxI s.types x = (idxTy s.types x : Int)) := by show _ = _; unfold idxI; rw [if_pos hx]
    have hA : Hid (addTy s.types x = s.types) := by show _ = _; unfold addTy; rw [if_pos hx]
    obtain ⟨I, eI⟩ : ∃ I, idxTy s.types x = I := ⟨_, rfl⟩
    rw [eI] at hI
    rw [hI.out]
    have EI := Lib.hid eI
    clear hx eI
    go_wp2
    go_ret
    refine ⟨ret_int' (by rw [EI.out]), ⟨_, by rw [hA.out]; exact HM2.out⟩, by omega, fun b hb _ _ => HB2.out.block b hb, HB2.out.mono hbM⟩
  · have hI : Hid (idxI s.types x = -1) := by show _ = _; unfold idxI; rw [if_neg hx]
    have hA : Hid (addTy s.types x = s.types ++ [x]) := by show _ = _; unfold addTy; rw [if_neg hx]
    have hJ : Hid (idxTy s.types x = s.types.length) := by show _ = _; exact idx_out hx
    rw [hI.out]
    obtain ⟨i0, hi, hz0, hz1, hz2⟩ := info_parts infoTyN
    obtain ⟨q0, q1, q2, q3, q4, q5, qz⟩ := mkCells HM2.out.blk
    have x0 : w2.cell? ⟨w.heap.size, 0, none⟩ = some (.int .i64 x.off) := (cell_of_row w2 _ 0 _ _ _ HX2.out).trans rfl
    have x1 : w2.cell? ⟨w.heap.size, 1, none⟩ = some (.bool x.save) := (cell_of_row w2 _ 1 _ _ _ HX2.out).trans rfl
    have x2 : w2.cell? ⟨w.heap.size, 2, none⟩ = some (.string x.name) := (cell_of_row w2 _ 2 _ _ _ HX2.out).trans rfl
    have hMg : M ≠ gT := fun e => HM2.out.neT (by rw [e]; rfl)
    have HL1 : Hid (s.types.length + 1 ≤ maxLen) := by show _ ≤ _; simp only [maxLen]; omega
    have HL2 : Hid ((s.types.length + 1) * 32 ≤ 140737488355328) := by show _ ≤ _; omega
    have H1 : Hid (∀ u ∈ [Value.int .i64 x.off, .bool x.save, .string x.name], u.oneCell' = true) := by intro u hu; simp at hu; rcases hu with rfl | rfl | rfl <;> rfl
    have HB3 : Hid (∀ o : Obj, b0 ≤ ((w2.alloc o).drew).heap.size) := fun o => by simp; omega
    have HS3 : Hid (∀ o : Obj, ((w2.alloc o).drew).heap.size = w2.heap.size + 1) := fun o => by simp
    have hw2M : M < w2.heap.size := HM2.out.lt
    clear hx q1 q2 q3 q4 q5
    go_wp2_with fail
    go_region_law (first
        | (refine step_append_lies _ (by rfl) _ _ _ (by rfl) b0 45 i0 _ 3 32 undTypesN hi hz0 hz1 hz2 rfl (by omega) (.slice (some ⟨gT, 0, none⟩) s.types.length capT) s.types.length (tyCells s.types) (by rfl) (World.ownsRow.drew (World.ownsRow.alloc HM2.out.rowT _)) ⟨w2.heap.size, 0, none⟩ 1 1 [.int .i64 x.off, .bool x.save, .string x.name] (by rfl) (by rfl) (World.news_of_block (cs := #[.int .i64 x.off, .bool x.save, .string x.name]) (t := 45) (fr := (0, 0)) (heap_alloc_new w2 _)) H1.out Nat.one_pos HL1.out HL2.out (HB3.out _) (w2.heap.size + 1) (HS3.out _) ?_; intro g5 cap5 w5 hown5 hg5 hat5 hlt5; have hk5 : ∀ b, b < w2.heap.size → b ≠ gT → w5.heap[b]? = w2.heap[b]? := (fun b hb hne => (hg5.block b (by simp; omega) (by simp only [Value.ownBlock]; intro e; injection e with e; exact hne e)).trans (Below.heap_alloc w2 _ b hb)); have y5 := (hk5 M hw2M hMg).trans HM2.out.blk; have z5 := (hk5 w.heap.size (by omega) (by omega)).trans HX2.out; have t0 := (cell_of_row w5 _ 0 _ _ _ y5).trans (show _ = some (Value.slice (some ⟨gT, 0, none⟩) s.types.length capT) from rfl); have t1 := (cell_of_row w5 _ 0 _ _ _ z5).trans (show _ = some (Value.int .i64 x.off) from rfl); have t2 := (cell_of_row w5 _ 1 _ _ _ z5).trans (show _ = some (Value.bool x.save) from rfl); have t3 := (cell_of_row w5 _ 2 _ _ _ z5).trans (show _ = some (Value.string x.name) from rfl); have tz : w5.frozen? ⟨M, 0, none⟩ = false := (by simp [World.frozen?, y5])))
    all_goals
      have hg5M : g5 ≠ M := by
        rcases hat5 with e | e
        · simp only [Value.ownBlock] at e
          injection e with e
          omega
        · omega
      have b5 : Below b0 w w5 := (HB2.out.mono hbM).trans ((((Below.refl b0 w2).alloc (by omega) _).drew).grown hg5 (HB3.out _) (fun k e => by simp only [Value.ownBlock] at e; injection e with e; omega))
      have hC5 : w5.ownsRow b0 43 2 cv s.chs.length (chCells s.chs) := own_keep HM2.out.rowC fun g e => hk5 g (World.ownsRow.lt HM2.out.rowC g e).2 (fun e2 => by
        rcases own_apart HM2.out.rowT HM2.out.rowC (by decide) with h | h
        · simp [Value.ownBlock] at h
        · exact h (by rw [e, e2]; rfl))
      go_wp2
      go_ret
      refine ⟨ret_int' (by rw [hJ.out]), ⟨.slice (some ⟨g5, 0, none⟩) (s.types.length + 1) cap5, ⟨(heap_setCm y5 _).trans rfl, HM2.out.hM, ?_, ?_⟩⟩, by have := hg5.size; simp [World.setCell] at this ⊢; omega, ?_, b5.setCell (by show b0 ≤ M; exact HM2.out.hM) _⟩
      · rw [hA.out, tyCells_snoc, List.length_append]
        exact own_keep hown5 fun g e => Below.heap_setCell _ _ _ _ (by simp only [Value.ownBlock] at e; injection e with e; show g ≠ M; omega)
      · exact own_keep hC5 fun g e => Below.heap_setCell _ _ _ _ (fun e2 => HM2.out.neC (by rw [e, e2]))
      · intro b hb hne1 hne2
        rw [Below.heap_setCell _ _ _ _ (by show b ≠ M; exact hne1), hk5 b (by omega) (fun e => hne2 (by rw [e]; rfl))]
        exact HB2.out.block b hb
end Go.Proofs.YtmjakhageehcoaaDoor
