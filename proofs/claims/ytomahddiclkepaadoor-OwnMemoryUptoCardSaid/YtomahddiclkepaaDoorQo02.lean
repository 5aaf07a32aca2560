/- The maker of a table: Begin, number, Change. The maker of a table: Change. table.Begin; norm.Of: a table's normal form. norm.Of: small facts of boxes and tables. norm.Norm, norm.check, norm.Same, TableEq: what each returns. norm.Norm: what it answers is rows of its own. slices.Equal and the reference's Eq of types and of changes; TableEq. rule.IsName: what it returns. day.Check and day.within: what each returns. rule: what Check returns: the plain mathematics. Times and spans as texts, in plain Lean. clock.two: what it returns. SpanOdd: its walk. SpanHours: its walk. -/
import Derived.Test.YtomahddiclkepaaDoorQo01
import Derived.Lib.Hide
import Derived.Lib.SmallJoins
import Derived.Test.YtomahddiclkepaaDoorCiv0
import Derived.Test.YtomahddiclkepaaDoorCivMath
import Derived.Lib.ItoaNum
import Derived.Test.YtomahddiclkepaaDoorShelf
import Derived.Shelf.Bytes.SlEqualAll
import Derived.Lib.AppendIntMem
import Derived.Lib.IndexMore
import Derived.Lib.Strings
namespace Go.Proofs.YtomahddiclkepaaDoor
open Go.RowKit Go.Joins
open Classical
set_option linter.unusedVariables false
set_option linter.unusedSimpArgs false
theorem undTypesN : Tryd.prog.underlying 27 = some (.slice 37) := by kernel_rfl
theorem undChsN : Tryd.prog.underlying 28 = some (.slice 40) := by kernel_rfl
theorem infoTyN : (Tryd.prog.info? 37).map (fun i => (i.zero, i.size, i.bytes)) = some (some (.agg #[.int .i64 0, .bool false, .string ⟨#[]⟩]), 3, 32) := by kernel_rfl
theorem infoChN : (Tryd.prog.info? 40).map (fun i => (i.zero, i.size, i.bytes)) = some (some (.agg #[.int .i64 0, .int .i64 0]), 2, 16) := by kernel_rfl
structure Mk (W : World) (M b0 : Nat) (sv cv : Value) (s : NS) : Prop where
 blk : W.heap[M]? = some (.cells #[sv, .int .i64 0, cv, .int .i64 s.last.off, .bool s.last.save, .string s.last.name] 80 (0, 0))
 hM : b0 ≤ M
 rowT : W.ownsRow b0 37 3 sv s.types.length (tyCells s.types)
 rowC : W.ownsRow b0 40 2 cv s.chs.length (chCells s.chs)
section
variable {W W' : World} {M b0 : Nat} {sv cv : Value} {s : NS}
theorem Mk.lt (h : Mk W M b0 sv cv s) : M < W.heap.size := (Array.getElem?_eq_some_iff.mp h.blk).1
theorem Mk.neT (h : Mk W M b0 sv cv s) : sv.ownBlock ≠ some M := by
 rcases h.rowT.2 with ⟨e, _⟩ | ⟨g, cap, cur, e, _, hg, _⟩
 ·rw [e]; simp [Value.ownBlock]
 ·rw [e]
  simp only [Value.ownBlock]
  intro e2
  injection e2 with e2
  subst e2
  rw [h.blk] at hg
  injection hg with hg
  injection hg with _ h2 _
  exact absurd h2 (by decide)
theorem Mk.neC (h : Mk W M b0 sv cv s) : cv.ownBlock ≠ some M := by
 rcases h.rowC.2 with ⟨e, _⟩ | ⟨g, cap, cur, e, _, hg, _⟩
 ·rw [e]; simp [Value.ownBlock]
 ·rw [e]
  simp only [Value.ownBlock]
  intro e2
  injection e2 with e2
  subst e2
  rw [h.blk] at hg
  injection hg with hg
  injection hg with _ h2 _
  exact absurd h2 (by decide)
theorem Mk.keep (h : Mk W M b0 sv cv s) (hk : ∀ b, b < W.heap.size → W'.heap[b]? = W.heap[b]?) : Mk W' M b0 sv cv s :=
 ⟨(hk _ h.lt).trans h.blk, h.hM, own_keep h.rowT fun g e => hk g (World.ownsRow.lt h.rowT g e).2, own_keep h.rowC fun g e => hk g (World.ownsRow.lt h.rowC g e).2⟩
theorem Mk.below (h : Mk W M b0 sv cv s) (hb : Below W.heap.size W W') : Mk W' M b0 sv cv s := h.keep hb.block
theorem Mk.alloc (h : Mk W M b0 sv cv s) (o : Obj) : Mk (W.alloc o) M b0 sv cv s := h.keep fun b hb => Below.heap_alloc _ _ _ hb
end
theorem mkCells {w : World} {M : Nat} {a b c d e f : Value} {T : TypeId} (h : w.heap[M]? = some (.cells #[a, b, c, d, e, f] T (0, 0))) :
 w.cell? ⟨M, 0, none⟩ = some a ∧ w.cell? ⟨M, 1, none⟩ = some b ∧ w.cell? ⟨M, 2, none⟩ = some c ∧ w.cell? ⟨M, 3, none⟩ = some d ∧ w.cell? ⟨M, 4, none⟩ = some e ∧ w.cell? ⟨M, 5, none⟩ = some f ∧
  (∀ o, w.frozen? ⟨M, o, none⟩ = false) :=
 ⟨(cell_of_row w _ 0 _ _ _ h).trans rfl, (cell_of_row w _ 1 _ _ _ h).trans rfl, (cell_of_row w _ 2 _ _ _ h).trans rfl, (cell_of_row w _ 3 _ _ _ h).trans rfl, (cell_of_row w _ 4 _ _ _ h).trans rfl, (cell_of_row w _ 5 _ _ _ h).trans rfl,
   fun o => by simp [World.frozen?, h]⟩
theorem heap_setCm {w : World} {R i : Nat} {cs : Array Value} {T : TypeId} {f : Nat × Nat} (h : w.heap[R]? = some (.cells cs T f)) (v : Value) : (w.setCell ⟨R, i, none⟩ v).heap[R]? = some (.cells (cs.setIfInBounds i v) T f) := by
 simp [World.setCell, Array.getElem?_modify, h]
set_option maxRecDepth 100000 in
set_option maxHeartbeats 2000000 in
theorem number_any (M b0 : Nat) (sv cv : Value) (s : NS) (x : Ty) (w : World) (hm : Mk w M b0 sv cv s) (hl : s.types.length ≤ 20000000) (hpos : 0 < s.types.length) (hn : ∀ y ∈ s.types, y.name.size ≤ maxLen) :
 Calls Tryd.prog 30 #[.pointer (some ⟨M, 0, none⟩), tyV x] w fun e w' => e = .returned (.int .i64 (idxTy s.types x : Nat)) ∧
  (∃ sv', Mk w' M b0 sv' cv ⟨addTy s.types x, s.chs, s.last⟩) ∧ w.heap.size ≤ w'.heap.size ∧ (∀ b, b < w.heap.size → b ≠ M → sv.ownBlock ≠ some b → w'.heap[b]? = w.heap[b]?) ∧ Below b0 w w' := by
 obtain ⟨gT, capT, rfl, hgT, hgT2⟩ := World.ownsRow.form hm.rowT hpos
 obtain ⟨m0, m1, m2, m3, m4, m5, mz⟩ := mkCells hm.blk
 have hMl := hm.lt
 have HM := Lib.hid hm
 obtain ⟨W1, eW⟩ : ∃ W1, w.alloc (.cells #[.int .i64 x.off, .bool x.save, .string x.name] 37) = W1 := ⟨_, rfl⟩
 have hm1 : Mk W1 M b0 (.slice (some ⟨gT, 0, none⟩) s.types.length capT) cv s := by rw [← eW]; exact hm.alloc _
 have hX : W1.heap[w.heap.size]? = some (.cells #[.int .i64 x.off, .bool x.save, .string x.name] 37 (0, 0)) := by rw [← eW]; exact heap_alloc_new w _
 have HI := Lib.hid (fun W hW => IndexTy_any s.types x (.slice (some ⟨gT, 0, none⟩) s.types.length capT) W hW (by omega))
 have hT := Lib.hid (own_types hm1.rowT (by omega) hn)
 obtain ⟨q0, q1, q2, q3, q4, q5, qz⟩ := mkCells hm1.blk
 have x0 : W1.cell? ⟨w.heap.size, 0, none⟩ = some (.int .i64 x.off) := (cell_of_row W1 _ 0 _ _ _ hX).trans rfl
 have x1 : W1.cell? ⟨w.heap.size, 1, none⟩ = some (.bool x.save) := (cell_of_row W1 _ 1 _ _ _ hX).trans rfl
 have x2 : W1.cell? ⟨w.heap.size, 2, none⟩ = some (.string x.name) := (cell_of_row W1 _ 2 _ _ _ hX).trans rfl
 have hW1 : W1.heap.size = w.heap.size + 1 := by rw [← eW]; simp
 have hbW1 : Below w.heap.size w W1 := by rw [← eW]; exact (Below.refl _ _).alloc (Nat.le_refl _) _
 have hbM : b0 ≤ w.heap.size := by have := hm.hM; omega
 have HM1 := Lib.hid hm1
 have HX := Lib.hid hX
 have HBW := Lib.hid hbW1
 clear hn m1 m2 m3 m4 m5 q1 q2 q3 q4 q5 hm hm1 hX hbW1
 go_enter Tryd.func30, Tryd.ntmps30
 go_wp2_with fail
 clear eW
 go_region_held3 (fun w' => w'.cell? ⟨M, 0, none⟩ = some (.slice (some ⟨gT, 0, none⟩) s.types.length capT) ∧ w'.cell? ⟨w.heap.size, 0, none⟩ = some (.int .i64 x.off) ∧ w'.cell? ⟨w.heap.size, 1, none⟩ = some (.bool x.save) ∧ w'.cell? ⟨w.heap.size, 2, none⟩ = some (.string x.name))
  (first
    | go_keep
    | (exact ⟨(hb2.cell (p := ⟨M, 0, none⟩) (by simp; omega)).trans q0, (hb2.cell (p := ⟨w.heap.size, 0, none⟩) (by simp; omega)).trans x0, (hb2.cell (p := ⟨w.heap.size, 1, none⟩) (by simp; omega)).trans x1, (hb2.cell (p := ⟨w.heap.size, 2, none⟩) (by simp; omega)).trans x2⟩))
  (first
    | (go_at_call 46; refine (HI.out _ (SlTy.below hT.out (below_drewNm (Below.refl _ _) 1))).mono ?_; rintro e w2 ⟨rfl, hb2⟩))
 have hsz2 : W1.heap.size ≤ w2.heap.size := by have := hb2.size; simpa using this
 have HM2 := Lib.hid (HM1.out.keep (W' := w2) fun b hb => (hb2.block b (by simpa using hb)).trans rfl)
 have HX2 := Lib.hid ((hb2.block w.heap.size (by simp; omega)).trans (show W1.drew.heap[w.heap.size]? = _ from HX.out))
 have HB2 := Lib.hid (HBW.out.trans ((below_drewNm (Below.refl _ W1) 1).mono (by have := HBW.out.size; omega)) |>.trans (hb2.mono (by simp; omega)))
 clear hb2 q0 x0 x1 x2
 by_cases hx : x ∈ s.types
 ·have hI : Hid (idxI s.types x = (idxTy s.types x : Int)) := by show _ = _; unfold idxI; rw [if_pos hx]
  have hA : Hid (addTy s.types x = s.types) := by show _ = _; unfold addTy; rw [if_pos hx]
  obtain ⟨I, eI⟩ : ∃ I, idxTy s.types x = I := ⟨_, rfl⟩
  rw [eI] at hI
  rw [hI.out]
  have EI := Lib.hid eI
  clear hx eI
  go_wp2
  go_ret
  refine ⟨ret_int' (by rw [EI.out]), ⟨_, by rw [hA.out]; exact HM2.out⟩, by omega, fun b hb _ _ => HB2.out.block b hb, HB2.out.mono hbM⟩
 ·have hI : Hid (idxI s.types x = -1) := by show _ = _; unfold idxI; rw [if_neg hx]
  have hA : Hid (addTy s.types x = s.types ++ [x]) := by show _ = _; unfold addTy; rw [if_neg hx]
  have hJ : Hid (idxTy s.types x = s.types.length) := by show _ = _; exact idx_out hx
  rw [hI.out]
  obtain ⟨i0, hi, hz0, hz1, hz2⟩ := info_parts infoTyN
  obtain ⟨q0, q1, q2, q3, q4, q5, qz⟩ := mkCells HM2.out.blk
  have x0 : w2.cell? ⟨w.heap.size, 0, none⟩ = some (.int .i64 x.off) := (cell_of_row w2 _ 0 _ _ _ HX2.out).trans rfl
  have x1 : w2.cell? ⟨w.heap.size, 1, none⟩ = some (.bool x.save) := (cell_of_row w2 _ 1 _ _ _ HX2.out).trans rfl
  have x2 : w2.cell? ⟨w.heap.size, 2, none⟩ = some (.string x.name) := (cell_of_row w2 _ 2 _ _ _ HX2.out).trans rfl
  have hMg : M ≠ gT := fun e => HM2.out.neT (by rw [e]; rfl)
  have HL1 : Hid (s.types.length + 1 ≤ maxLen) := by show _ ≤ _; simp only [maxLen]; omega
  have HL2 : Hid ((s.types.length + 1) * 32 ≤ 140737488355328) := by show _ ≤ _; omega
  have H1 : Hid (∀ u ∈ [Value.int .i64 x.off, .bool x.save, .string x.name], u.oneCell' = true) := by intro u hu; simp at hu; rcases hu with rfl | rfl | rfl <;> rfl
  have HB3 : Hid (∀ o : Obj, b0 ≤ ((w2.alloc o).drew).heap.size) := fun o => by simp; omega
  have HS3 : Hid (∀ o : Obj, ((w2.alloc o).drew).heap.size = w2.heap.size + 1) := fun o => by simp
  have hw2M : M < w2.heap.size := HM2.out.lt
  clear hx q1 q2 q3 q4 q5
  go_wp2_with fail
  go_region_law (first
   | (refine step_append_lies _ (by rfl) _ _ _ (by rfl) b0 37 i0 _ 3 32 undTypesN hi hz0 hz1 hz2 rfl (by omega) (.slice (some ⟨gT, 0, none⟩) s.types.length capT) s.types.length (tyCells s.types) (by rfl) (World.ownsRow.drew (World.ownsRow.alloc HM2.out.rowT _)) ⟨w2.heap.size, 0, none⟩ 1 1 [.int .i64 x.off, .bool x.save, .string x.name] (by rfl) (by rfl) (World.news_of_block (cs := #[.int .i64 x.off, .bool x.save, .string x.name]) (t := 37) (fr := (0, 0)) (heap_alloc_new w2 _)) H1.out Nat.one_pos HL1.out HL2.out (HB3.out _) (w2.heap.size + 1) (HS3.out _) ?_; intro g5 cap5 w5 hown5 hg5 hat5 hlt5; have hk5 : ∀ b, b < w2.heap.size → b ≠ gT → w5.heap[b]? = w2.heap[b]? := (fun b hb hne => (hg5.block b (by simp; omega) (by simp only [Value.ownBlock]; intro e; injection e with e; exact hne e)).trans (Below.heap_alloc w2 _ b hb)); have y5 := (hk5 M hw2M hMg).trans HM2.out.blk; have z5 := (hk5 w.heap.size (by omega) (by omega)).trans HX2.out; have t0 := (cell_of_row w5 _ 0 _ _ _ y5).trans (show _ = some (Value.slice (some ⟨gT, 0, none⟩) s.types.length capT) from rfl); have t1 := (cell_of_row w5 _ 0 _ _ _ z5).trans (show _ = some (Value.int .i64 x.off) from rfl); have t2 := (cell_of_row w5 _ 1 _ _ _ z5).trans (show _ = some (Value.bool x.save) from rfl); have t3 := (cell_of_row w5 _ 2 _ _ _ z5).trans (show _ = some (Value.string x.name) from rfl); have tz : w5.frozen? ⟨M, 0, none⟩ = false := (by simp [World.frozen?, y5])))
  all_goals
   have hg5M : g5 ≠ M := by
    rcases hat5 with e | e
    ·simp only [Value.ownBlock] at e
     injection e with e
     omega
    ·omega
   have b5 : Below b0 w w5 := (HB2.out.mono hbM).trans ((((Below.refl b0 w2).alloc (by omega) _).drew).grown hg5 (HB3.out _) (fun k e => by simp only [Value.ownBlock] at e; injection e with e; omega))
   have hC5 : w5.ownsRow b0 40 2 cv s.chs.length (chCells s.chs) := own_keep HM2.out.rowC fun g e => hk5 g (World.ownsRow.lt HM2.out.rowC g e).2 (fun e2 => by
    rcases own_apart HM2.out.rowT HM2.out.rowC (by decide) with h | h
    ·simp [Value.ownBlock] at h
    ·exact h (by rw [e, e2]; rfl))
   go_wp2
   go_ret
   refine ⟨ret_int' (by rw [hJ.out]), ⟨.slice (some ⟨g5, 0, none⟩) (s.types.length + 1) cap5, ⟨(heap_setCm y5 _).trans rfl, HM2.out.hM, ?_, ?_⟩⟩, by have := hg5.size; simp [World.setCell] at this ⊢; omega, ?_, b5.setCell (by show b0 ≤ M; exact HM2.out.hM) _⟩
   ·rw [hA.out, tyCells_snoc, List.length_append]
    exact own_keep hown5 fun g e => Below.heap_setCell _ _ _ _ (by simp only [Value.ownBlock] at e; injection e with e; show g ≠ M; omega)
   ·exact own_keep hC5 fun g e => Below.heap_setCell _ _ _ _ (fun e2 => HM2.out.neC (by rw [e, e2]))
   ·intro b hb hne1 hne2
    rw [Below.heap_setCell _ _ _ _ (by show b ≠ M; exact hne1), hk5 b (by omega) (fun e => hne2 (by rw [e]; rfl))]
    exact HB2.out.block b hb
end Go.Proofs.YtomahddiclkepaaDoor
namespace Go.Proofs.YtomahddiclkepaaDoor
open Go.RowKit Go.Joins
open Classical
set_option linter.unusedVariables false
set_option linter.unusedSimpArgs false
structure NSm (s : NS) : Prop where
 tl : s.types.length ≤ 2000000
 cl : s.chs.length ≤ 20000000
 pos : 0 < s.types.length
 nm : ∀ y ∈ s.types, y.name.size ≤ maxLen
set_option maxRecDepth 100000 in
set_option maxHeartbeats 2000000 in
theorem Change_same (M b0 : Nat) (sv cv : Value) (s : NS) (t : Int) (x : Ty) (w : World) (hm : Mk w M b0 sv cv s) (hb0 : b0 ≤ w.heap.size) (hx : x = s.last) :
 Calls Tryd.prog 25 #[.pointer (some ⟨M, 0, none⟩), .int .i64 t, tyV x] w fun e w' => e = .returned (.tuple #[]) ∧ Mk w' M b0 sv cv s ∧ Below b0 w w' ∧ ∀ b, b < w.heap.size → b ≠ M → sv.ownBlock ≠ some b → cv.ownBlock ≠ some b → w'.heap[b]? = w.heap[b]? := by
 subst hx
 obtain ⟨m0, m1, m2, m3, m4, m5, mz⟩ := mkCells hm.blk
 have hMl := hm.lt
 have HM := Lib.hid hm
 have hq := neq_tyN s.last s.last
 simp only [decide_true, Bool.not_true] at hq
 obtain ⟨L, eL⟩ : ∃ L, s.last = L := ⟨_, rfl⟩
 rw [eL] at m3 m4 m5 hq
 rw [eL]
 have hm' := hm
 clear hm m0 m1 m2 hm'
 go_enter Tryd.func25, Tryd.ntmps25
 go_wp2
 go_quiet (fail)
 go_wp2
 go_end0
 exact ⟨rfl, (HM.out.alloc _).keep (fun b hb => rfl), below_drewNm ((Below.refl _ _).alloc hb0 _) _, fun b hb _ _ _ => Below.heap_alloc w _ b hb⟩
set_option maxRecDepth 100000 in
set_option maxHeartbeats 4000000 in
theorem Change_other (M b0 : Nat) (sv cv : Value) (s : NS) (t : Int) (x : Ty) (w : World) (hm : Mk w M b0 sv cv s) (hb0 : b0 ≤ w.heap.size) (hs : NSm s) (hx : x ≠ s.last) :
 Calls Tryd.prog 25 #[.pointer (some ⟨M, 0, none⟩), .int .i64 t, tyV x] w fun e w' => e = .returned (.tuple #[]) ∧ (∃ sv' cv', Mk w' M b0 sv' cv' ⟨addTy s.types x, s.chs ++ [⟨t, (idxTy s.types x : Nat)⟩], x⟩) ∧ Below b0 w w' ∧ ∀ b, b < w.heap.size → b ≠ M → sv.ownBlock ≠ some b → cv.ownBlock ≠ some b → w'.heap[b]? = w.heap[b]? := by
 obtain ⟨A, cC, rfl⟩ := own_sliceN hm.rowC
 obtain ⟨m0, m1, m2, m3, m4, m5, mz⟩ := mkCells hm.blk
 have hMl := hm.lt
 have HM := Lib.hid hm
 obtain ⟨W1, eW⟩ : ∃ W1, w.alloc (.cells #[.int .i64 x.off, .bool x.save, .string x.name] 37) = W1 := ⟨_, rfl⟩
 have hm1 : Mk W1 M b0 sv (.slice A s.chs.length cC) s := by rw [← eW]; exact hm.alloc _
 have hX : W1.heap[w.heap.size]? = some (.cells #[.int .i64 x.off, .bool x.save, .string x.name] 37 (0, 0)) := by rw [← eW]; exact heap_alloc_new w _
 have hW1 : W1.heap.size = w.heap.size + 1 := by rw [← eW]; simp
 have HK1 : Hid (∀ b, b < w.heap.size → W1.heap[b]? = w.heap[b]?) := by
  show ∀ b, _
  intro b hb
  rw [← eW]
  exact Below.heap_alloc w _ b hb
 have hbW1 : Below b0 w W1 := by rw [← eW]; exact (Below.refl _ _).alloc hb0 _
 obtain ⟨q0, q1, q2, q3, q4, q5, qz⟩ := mkCells hm1.blk
 have x0 : W1.cell? ⟨w.heap.size, 0, none⟩ = some (.int .i64 x.off) := (cell_of_row W1 _ 0 _ _ _ hX).trans rfl
 have x1 : W1.cell? ⟨w.heap.size, 1, none⟩ = some (.bool x.save) := (cell_of_row W1 _ 1 _ _ _ hX).trans rfl
 have x2 : W1.cell? ⟨w.heap.size, 2, none⟩ = some (.string x.name) := (cell_of_row W1 _ 2 _ _ _ hX).trans rfl
 have hq := neq_tyN x s.last
 have hd : decide (x = s.last) = false := by simpa using hx
 simp only [hd, Bool.not_false] at hq
 have HM1 := Lib.hid hm1
 have HX := Lib.hid hX
 have HBW := Lib.hid hbW1
 have HNM := Lib.hid hs.nm
 have htl := hs.tl
 have hcl := hs.cl
 have hpos := hs.pos
 have hsvX : ∀ g, sv.ownBlock = some g → g < w.heap.size := fun g e => (World.ownsRow.lt hm.rowT g e).2
 have HSV := Lib.hid hsvX
 obtain ⟨i1, hi1, hz10, hz11, hz12⟩ := info_parts infoChN
 have HL1 : Hid (s.chs.length + 1 ≤ maxLen) := by show _ ≤ _; simp only [maxLen]; omega
 have HL2 : Hid ((s.chs.length + 1) * 16 ≤ 140737488355328) := by show _ ≤ _; omega
 have H1 : Hid (∀ u ∈ [Value.int .i64 t, .int .i64 ((idxTy s.types x : Nat) : Int)], u.oneCell' = true) := by intro u hu; simp at hu; rcases hu with rfl | rfl <;> rfl
 obtain ⟨I, eI⟩ : ∃ I, idxTy s.types x = I := ⟨_, rfl⟩
 rw [eI] at H1
 have EI := Lib.hid eI
 clear hx hd hm1 hX hbW1 hs m0 m1 m2 m3 m4 m5 hsvX hm eI
 go_enter Tryd.func25, Tryd.ntmps25
 go_wp2
 go_quiet (fail)
 go_wp2_with fail
 obtain ⟨W2, e2⟩ : ∃ W2, W1.drewN nq = W2 := ⟨_, rfl⟩
 have hh2 : W2.heap = W1.heap := by rw [← e2]; rfl
 have hM2 : Mk W2 M b0 sv (.slice A s.chs.length cC) s := HM1.out.keep fun b hb => by rw [hh2]
 have hX2 : W2.heap[w.heap.size]? = some (.cells #[.int .i64 x.off, .bool x.save, .string x.name] 37 (0, 0)) := by rw [hh2]; exact HX.out
 have hB2 : Below b0 w W2 := by rw [← e2]; exact below_drewNm HBW.out _
 have hW2 : W2.heap.size = w.heap.size + 1 := by rw [hh2]; exact hW1
 have HK2 : Hid (∀ b, b < w.heap.size → W2.heap[b]? = w.heap[b]?) := by
  show ∀ b, _
  intro b hb
  rw [hh2]
  exact HK1.out b hb
 rw [e2]
 clear e2 hh2 q0 q1 q2 q3 q4 q5 x0 x1 x2 qz eW
 obtain ⟨r0, r1, r2, r3, r4, r5, rz⟩ := mkCells hM2.blk
 have y0 : W2.cell? ⟨w.heap.size, 0, none⟩ = some (.int .i64 x.off) := (cell_of_row W2 _ 0 _ _ _ hX2).trans rfl
 have y1 : W2.cell? ⟨w.heap.size, 1, none⟩ = some (.bool x.save) := (cell_of_row W2 _ 1 _ _ _ hX2).trans rfl
 have y2 : W2.cell? ⟨w.heap.size, 2, none⟩ = some (.string x.name) := (cell_of_row W2 _ 2 _ _ _ hX2).trans rfl
 have HM2 := Lib.hid hM2
 have HX2 := Lib.hid hX2
 have HB2 := Lib.hid hB2
 have HMD := Lib.hid (hM2.keep (W' := W2.drew) fun b hb => rfl)
 have HNU := Lib.hid (number_any M b0 sv (.slice A s.chs.length cC) s x W2.drew HMD.out (by omega) hpos HNM.out)
 rw [EI.out] at HNU
 clear hM2 hX2 hB2 r0 r1 r3 r4 r5
 go_region_law (first
  | (refine step_append_lies _ (by rfl) _ _ _ (by rfl) b0 40 i1 _ 2 16 undChsN hi1 hz10 hz11 hz12 rfl (by omega) (.slice A s.chs.length cC) s.chs.length (chCells s.chs) (by rfl) (World.ownsRow.alloc HM4.out.rowC _) ⟨w4.heap.size, 0, none⟩ 1 1 [.int .i64 t, .int .i64 ((I : Nat) : Int)] (by rfl) (by rfl) (World.news_of_block (cs := #[.int .i64 t, .int .i64 ((I : Nat) : Int)]) (t := 40) (fr := (0, 0)) (heap_alloc_new w4 _)) H1.out Nat.one_pos HL1.out HL2.out (HB4.out _) (w4.heap.size + 1) (by simp) ?_; intro g6 cap6 w6 hown6 hg6 hat6 hlt6; have hk6 : ∀ b, b < w4.heap.size → (Value.slice A s.chs.length cC).ownBlock ≠ some b → w6.heap[b]? = w4.heap[b]? := (fun b hb hne => (hg6.block b (by simp; omega) (fun e => hne e.symm)).trans (Below.heap_alloc w4 _ b hb)); have y6 := (hk6 M HM4.out.lt HM4.out.neC).trans HM4.out.blk; have t2 := (cell_of_row w6 _ 2 _ _ _ y6).trans (show _ = some (Value.slice A s.chs.length cC) from rfl); have tz : w6.frozen? ⟨M, 2, none⟩ = false := (by simp [World.frozen?, y6]))
  | (go_simp; go_at_call 30; refine HNU.out.mono ?_; rintro e w4 ⟨rfl, ⟨sv4, hM4⟩, hsz4, hk4, hb4⟩; obtain ⟨p0, p1, p2, p3, p4, p5, pz⟩ := mkCells hM4.blk; have hM4l : M < w4.heap.size := hM4.lt; have HM4 := Lib.hid hM4; have HB4 : Hid (∀ o : Obj, b0 ≤ (w4.alloc o).heap.size) := (fun o => by have := hb4.size; simp at this ⊢; omega)))
 all_goals
  have hXne : (Value.slice A s.chs.length cC).ownBlock ≠ some w.heap.size := fun e => by
   have h1 := (World.ownsRow.lt HM.out.rowC _ e).2
   omega
  have hX4 : w4.heap[w.heap.size]? = some (.cells #[.int .i64 x.off, .bool x.save, .string x.name] 37 (0, 0)) := (hk4 w.heap.size (by simp; omega) (by omega) (fun e => by have := HSV.out _ e; omega)).trans HX2.out
  have hXl4 : w.heap.size < w4.heap.size := (Array.getElem?_eq_some_iff.mp hX4).1
  have hX6 := (hk6 w.heap.size hXl4 hXne).trans hX4
  have hg6M : g6 ≠ M := by
   rcases hat6 with e | e
   ·intro e2; exact HM4.out.neC (by rw [e, e2])
   ·have := HM4.out.lt; omega
  have b6 : Below b0 w w6 := (HB2.out.trans ((below_drewNm (Below.refl b0 W2) 1).trans hb4)).trans (((Below.refl b0 w4).alloc (by have := HM4.out.hM; have := HM4.out.lt; omega) _).grown hg6 (HB4.out _) (fun k e => (World.ownsRow.lt HM4.out.rowC k e).1))
  obtain ⟨W7, e7⟩ : ∃ W7, w6.setCell ⟨M, 2, none⟩ (.slice (some ⟨g6, 0, none⟩) (s.chs.length + 1) cap6) = W7 := ⟨_, rfl⟩
  rw [e7]
  have h7 : W7.heap[M]? = some (.cells #[sv4, .int .i64 0, .slice (some ⟨g6, 0, none⟩) (s.chs.length + 1) cap6, .int .i64 s.last.off, .bool s.last.save, .string s.last.name] 80 (0, 0)) := by rw [← e7]; exact (heap_setCm y6 _).trans rfl
  have k7 : ∀ b, b ≠ M → W7.heap[b]? = w6.heap[b]? := fun b hb => by rw [← e7]; exact Below.heap_setCell _ _ _ _ hb
  have b7 : Below b0 w W7 := by rw [← e7]; exact b6.setCell (by show b0 ≤ M; exact HM4.out.hM) _
  obtain ⟨-, -, -, u3, u4, u5, uz⟩ := mkCells h7
  have hX7 := (k7 w.heap.size (by omega)).trans hX6
  have z0 : W7.cell? ⟨w.heap.size, 0, none⟩ = some (.int .i64 x.off) := (cell_of_row W7 _ 0 _ _ _ hX7).trans rfl
  have z1 : W7.cell? ⟨w.heap.size, 1, none⟩ = some (.bool x.save) := (cell_of_row W7 _ 1 _ _ _ hX7).trans rfl
  have z2 : W7.cell? ⟨w.heap.size, 2, none⟩ = some (.string x.name) := (cell_of_row W7 _ 2 _ _ _ hX7).trans rfl
  have uz3 := uz 3
  have uz4 := uz 4
  have uz5 := uz 5
  have HK6 := Lib.hid hk6
  clear e7 hk6 t2 tz p0 p1 p2 p3 p4 p5 pz
  go_wp2
  go_end0
  have kE : ∀ b, b ≠ M → (((W7.setCell ⟨M, 3, none⟩ (.int .i64 x.off)).setCell ⟨M, 4, none⟩ (.bool x.save)).setCell ⟨M, 5, none⟩ (.string x.name)).heap[b]? = w6.heap[b]? := fun b hb =>
   ((Below.heap_setCell _ _ _ _ hb).trans ((Below.heap_setCell _ _ _ _ hb).trans (Below.heap_setCell _ _ _ _ hb))).trans (k7 b hb)
  refine ⟨rfl, ⟨sv4, .slice (some ⟨g6, 0, none⟩) (s.chs.length + 1) cap6, ⟨(heap_setCm (heap_setCm (heap_setCm h7 _) _) _).trans rfl, HM4.out.hM, ?_, ?_⟩⟩, ((b7.setCell (by show b0 ≤ M; exact HM4.out.hM) _).setCell (by show b0 ≤ M; exact HM4.out.hM) _).setCell (by show b0 ≤ M; exact HM4.out.hM) _, fun b hb n1 n2 n3 => (kE b n1).trans ((HK6.out b (by have := hb4.size; simp at this; omega) n3).trans ((hk4 b (by simp; omega) n1 n2).trans (HK2.out b hb)))⟩
  ·refine own_keep HM4.out.rowT fun g e => (kE g (fun e2 => HM4.out.neT (by rw [e, e2]))).trans ((hg6.block g (by have := (World.ownsRow.lt HM4.out.rowT g e).2; simp; omega) (fun e2 => ?_)).trans (Below.heap_alloc w4 _ g (World.ownsRow.lt HM4.out.rowT g e).2))
   rcases own_apart HM4.out.rowT HM4.out.rowC (by decide) with h | h
   ·rw [h] at e; cases e
   ·exact h (by rw [e, e2])
  ·rw [chCells_snoc, List.length_append, EI.out]
   exact own_keep hown6 fun g e => kE g (by simp only [Value.ownBlock] at e; injection e with e; omega)
theorem ChangeK_any (M b0 : Nat) (sv cv : Value) (s : NS) (t : Int) (x : Ty) (w : World) (hm : Mk w M b0 sv cv s) (hb0 : b0 ≤ w.heap.size) (hs : NSm s) :
 Calls Tryd.prog 25 #[.pointer (some ⟨M, 0, none⟩), .int .i64 t, tyV x] w fun e w' => e = .returned (.tuple #[]) ∧ (∃ sv' cv', Mk w' M b0 sv' cv' (stepN s (t, x))) ∧ Below b0 w w' ∧ ∀ b, b < w.heap.size → b ≠ M → sv.ownBlock ≠ some b → cv.ownBlock ≠ some b → w'.heap[b]? = w.heap[b]? := by
 unfold stepN
 by_cases h : x = s.last
 ·rw [if_pos h]
  exact (Change_same M b0 sv cv s t x w hm hb0 h).mono fun e w' ⟨a, b, c, d⟩ => ⟨a, ⟨_, _, b⟩, c, d⟩
 ·rw [if_neg h]
  exact Change_other M b0 sv cv s t x w hm hb0 hs h
theorem Change_any (M b0 : Nat) (sv cv : Value) (s : NS) (t : Int) (x : Ty) (w : World) (hm : Mk w M b0 sv cv s) (hb0 : b0 ≤ w.heap.size) (hs : NSm s) :
 Calls Tryd.prog 25 #[.pointer (some ⟨M, 0, none⟩), .int .i64 t, tyV x] w fun e w' => e = .returned (.tuple #[]) ∧ (∃ sv' cv', Mk w' M b0 sv' cv' (stepN s (t, x))) ∧ Below b0 w w' :=
 (ChangeK_any M b0 sv cv s t x w hm hb0 hs).mono fun e w' ⟨a, b, c, _⟩ => ⟨a, b, c⟩
theorem mk_begin (W0 : World) (x : Ty) (b0 : Nat) (hb : b0 ≤ W0.heap.size) :
 Mk ((W0.alloc (.cells #[.int .i64 x.off, .bool x.save, .string x.name] 37)).alloc (.cells #[.slice (some ⟨W0.heap.size, 0, none⟩) 1 1, .int .i64 0, .slice none 0 0, .int .i64 x.off, .bool x.save, .string x.name] 80))
  (W0.heap.size + 1) b0 (.slice (some ⟨W0.heap.size, 0, none⟩) 1 1) (.slice none 0 0) (begN x) := by
 refine ⟨?_, by omega, ⟨rfl, .inr ⟨W0.heap.size, 1, _, rfl, hb, (Below.heap_alloc _ _ _ (by simp)).trans (heap_alloc_new W0 _), Nat.le_refl _, by decide, rfl, rfl⟩⟩, World.ownsRow_nil _ _ _ _⟩
 have := heap_alloc_new (W0.alloc (.cells #[.int .i64 x.off, .bool x.save, .string x.name] 37)) (.cells #[.slice (some ⟨W0.heap.size, 0, none⟩) 1 1, .int .i64 0, .slice none 0 0, .int .i64 x.off, .bool x.save, .string x.name] 80)
 simpa [begN] using this
set_option maxHeartbeats 1000000 in
theorem Begin_any (x : Ty) (w : World) :
 Calls Tryd.prog 24 #[tyV x] w fun e w' => ∃ M sv cv, e = .returned (.pointer (some ⟨M, 0, none⟩)) ∧ Mk w' M w.heap.size sv cv (begN x) ∧ Below w.heap.size w w' := by
 go_enter Tryd.func24, Tryd.ntmps24
 go_wp2
 go_ret
 obtain ⟨W0, e0⟩ : ∃ W0, w.alloc (.cells #[.int .i64 x.off, .bool x.save, .string x.name] 37) = W0 := ⟨_, rfl⟩
 have hz0 : W0.heap.size = w.heap.size + 1 := by rw [← e0]; simp
 have hb0 : Below w.heap.size w W0 := by rw [← e0]; exact (Below.refl _ _).alloc (Nat.le_refl _) _
 have h := mk_begin W0 x w.heap.size (by omega)
 rw [hz0, ← e0] at h
 refine ⟨_, _, _, rfl, h, ?_⟩
 exact (((Below.refl _ _).alloc (Nat.le_refl _) _).alloc (by simp) _).alloc (by simp; omega) _
theorem abbr_sizeT (x : Ty) (h : abbrB x.name = true) : x.name.size ≤ 8 := by
 unfold abbrB allB at h
 simp only [Bool.and_eq_true, decide_eq_true_eq] at h
 omega
theorem end_cellsM {W : World} {g : Nat} {a b c : Value} {T : TypeId} (h : W.heap[g]? = some (.cells #[a, b, c] T (0, 0))) (x y z : Value) :
 ∃ W', ((W.setCell ⟨g, 0, none⟩ x).setCell ⟨g, 1, none⟩ y).setCell ⟨g, 2, none⟩ z = W' ∧ (∀ B, B ≤ g → Below B W W') ∧ W'.heap[g]? = some (.cells #[x, y, z] T (0, 0)) ∧ ∀ b, b ≠ g → W'.heap[b]? = W.heap[b]? := by
 refine ⟨_, rfl, fun B hB => (((Below.refl _ _).setCell (by exact hB) _).setCell (by exact hB) _).setCell (by exact hB) _, ?_, fun b hb => (Below.heap_setCell _ _ _ _ hb).trans ((Below.heap_setCell _ _ _ _ hb).trans (Below.heap_setCell _ _ _ _ hb))⟩
 rw [heap_setCm (i := 2) (heap_setCm (i := 1) (heap_setCm (i := 0) h x) y) z]
 rfl
theorem squ_len (l : List (Int × Ty)) (x : Ty) : (squ x l).length ≤ l.length := (squ_sub l x).length_le
theorem make_small (t : Tab) (ok : OkTab t) (k : Nat) : NSm (((resL t).take k).foldl stepN (begN (resH t))) := by
 have inv := makeN_inv ((resL t).take k) (begN (resH t)) (begN_inv (resH t))
 have hty : ∀ y ∈ (((resL t).take k).foldl stepN (begN (resH t))).types, y ∈ t.types := by
  intro y hy
  rcases makeN_types (x := resH t) ((resL t).take k) (begN (resH t)) y hy with h | ⟨c, hc, rfl⟩
  ·simp only [begN, List.mem_singleton] at h
   subst h
   exact tyD_mem _ _ ok.first.1 ok.first.2
  ·obtain ⟨d, hd, rfl⟩ := List.mem_map.1 (List.mem_of_mem_take hc)
   have := ok.ch d hd
   exact tyD_mem _ _ this.2.2.1 this.2.2.2
 have hlen : (((resL t).take k).foldl stepN (begN (resH t))).types.length ≤ t.types.length := length_sub _ _ inv.nodup hty
 have hch : (((resL t).take k).foldl stepN (begN (resH t))).chs.length ≤ t.chs.length := by
  have h := makeN_res ((resL t).take k) (begN (resH t)) (begN_inv (resH t))
  have h2 := congrArg List.length h
  unfold resS at h2
  simp only [List.length_map, List.length_append] at h2
  have h3 := squ_len ((resL t).take k) (begN (resH t)).last
  have h4 : ((resL t).take k).length ≤ t.chs.length := by simp [resL]; omega
  have h5 : (begN (resH t)).chs.length = 0 := rfl
  omega
 refine ⟨by have := ok.many; omega, by have := ok.chs; omega, inv.pos, fun y hy => ?_⟩
 have h := (ok.type y (hty y hy)).2.2
 have := abbr_sizeT y h
 unfold maxLen; omega
theorem tabForms {w : World} {v : Value} {t : Tab} (h : TabAt w v t) : ∃ p1 c1 p2 c2, v = .agg #[.slice p1 t.types.length c1, .int .i64 t.first, .slice p2 t.chs.length c2] := by
 obtain ⟨sv, cv, rfl, h1, h2⟩ := h.val
 obtain ⟨p1, c1, rfl, -⟩ := h1.shape
 obtain ⟨p2, c2, rfl, -⟩ := h2.shape
 exact ⟨_, _, _, _, rfl⟩
theorem tabOf_slices {w : World} {p1 p2 : Option Addr} {n1 c1 n2 c2 : Nat} {f : Int} {t : Tab} (h : TabAt w (.agg #[.slice p1 n1 c1, .int .i64 f, .slice p2 n2 c2]) t) : SlTy w (.slice p1 n1 c1) t.types ∧ SlCh w (.slice p2 n2 c2) t.chs ∧ f = t.first := by
 obtain ⟨sv, cv, e, h1, h2⟩ := h.val
 simp only [Value.agg.injEq, Array.mk.injEq, List.cons.injEq, Value.int.injEq, and_true, true_and] at e
 obtain ⟨rfl, rfl, rfl⟩ := e
 exact ⟨h1, h2, rfl⟩
set_option maxHeartbeats 1000000 in
theorem Norm_no (t : Tab) (v : Value) (w : World) (hv : TabAt w v t) (hok : chk t ≠ 0) :
 Calls Tryd.prog 9 #[v] w fun e w' => e = .returned (.tuple #[.agg #[.slice none 0 0, .int .i64 0, .slice none 0 0], .int .i64 (chk t)]) ∧ Below w.heap.size w w' := by
 have HV := Lib.hid hv
 obtain ⟨p1, c1, p2, c2, rfl⟩ := tabForms hv
 have HK := Lib.hid (fun W h => Check_any t (.agg #[.slice p1 t.types.length c1, .int .i64 t.first, .slice p2 t.chs.length c2]) W h)
 obtain ⟨K, eK⟩ : ∃ K, chk t = K := ⟨_, rfl⟩
 rw [eK] at HK hok ⊢
 have hne : (K == 0) = false := by simpa using hok
 clear hv hok eK
 go_enter Tryd.func9, Tryd.ntmps9
 go_wp2_with fail
 obtain ⟨W0, eW⟩ : ∃ W0, (w.alloc (.cells #[.slice p1 t.types.length c1, .int .i64 t.first, .slice p2 t.chs.length c2] 30)).alloc (.cells #[.slice none 0 0, .int .i64 0, .slice none 0 0] 30) = W0 := ⟨_, rfl⟩
 rw [eW]
 have hW0 : W0.heap.size = w.heap.size + 2 := by rw [← eW]; simp
 have hbW : Below w.heap.size w W0 := by rw [← eW]; exact ((Below.refl _ _).alloc (Nat.le_refl _) _).alloc (by simp) _
 have hR : W0.heap[w.heap.size + 1]? = some (.cells #[.slice none 0 0, .int .i64 0, .slice none 0 0] 30 (0, 0)) := by
  rw [← eW]
  have := heap_alloc_new (w.alloc (.cells #[.slice p1 t.types.length c1, .int .i64 t.first, .slice p2 t.chs.length c2] 30)) (.cells #[.slice none 0 0, .int .i64 0, .slice none 0 0] 30)
  simpa using this
 clear eW
 refine (HK.out _ (HV.out.below hbW)).mono ?_
 rintro e w2 ⟨rfl, hb1⟩
 have hR2 := (hb1.block (w.heap.size + 1) (by omega)).trans hR
 have b2 := hbW.trans (hb1.mono (by omega))
 have g0 : w2.cell? ⟨w.heap.size + 1, 0, none⟩ = some (.slice none 0 0) := (cell_of_row w2 _ 0 _ _ _ hR2).trans rfl
 have g1 : w2.cell? ⟨w.heap.size + 1, 1, none⟩ = some (.int .i64 0) := (cell_of_row w2 _ 1 _ _ _ hR2).trans rfl
 have g2 : w2.cell? ⟨w.heap.size + 1, 2, none⟩ = some (.slice none 0 0) := (cell_of_row w2 _ 2 _ _ _ hR2).trans rfl
 have z0 : w2.frozen? ⟨w.heap.size + 1, 0, none⟩ = false := by simp [World.frozen?, hR2]
 have z1 : w2.frozen? ⟨w.heap.size + 1, 1, none⟩ = false := by simp [World.frozen?, hR2]
 have z2 : w2.frozen? ⟨w.heap.size + 1, 2, none⟩ = false := by simp [World.frozen?, hR2]
 clear hb1 hR hbW
 go_wp2
 obtain ⟨W9, e9, hB9, hh9, ho9⟩ := end_cellsM hR2 (.slice none 0 0) (.int .i64 0) (.slice none 0 0)
 rw [e9]
 have v0 : W9.cell? ⟨w.heap.size + 1, 0, none⟩ = some (.slice none 0 0) := (cell_of_row W9 _ 0 _ _ _ hh9).trans rfl
 have v1 : W9.cell? ⟨w.heap.size + 1, 1, none⟩ = some (.int .i64 0) := (cell_of_row W9 _ 1 _ _ _ hh9).trans rfl
 have v2 : W9.cell? ⟨w.heap.size + 1, 2, none⟩ = some (.slice none 0 0) := (cell_of_row W9 _ 2 _ _ _ hh9).trans rfl
 refine bodyPost_ret (v := .tuple #[.agg #[.slice none 0 0, .int .i64 0, .slice none 0 0], .int .i64 K]) (by simp [results, Tryd.results9, go_sem, v0, v1, v2]) rfl ⟨rfl, b2.trans (hB9 _ (by omega))⟩
def TabOwn (W : World) (B : Nat) (v : Value) (t : Tab) : Prop := ∃ sv cv B', v = .agg #[sv, .int .i64 0, cv] ∧ B ≤ B' ∧ W.ownsRow B' 37 3 sv t.types.length (tyCells t.types) ∧ W.ownsRow B' 40 2 cv t.chs.length (chCells t.chs)
set_option maxRecDepth 100000 in
set_option maxHeartbeats 4000000 in
theorem NOf_own (t : Tab) (v : Value) (w : World) (hv : TabAt w v t) (ok : OkTab t) :
 Calls Tryd.prog 19 #[v] w fun e w' => ∃ v', e = .returned v' ∧ TabOwn w' w.heap.size v' (normT t) ∧ Below w.heap.size w w' := by
 obtain ⟨sv, cv, rfl, ⟨⟨p, cap, rfl, hs⟩, hl1, hnm⟩, ⟨⟨p2, cap2, rfl, hc⟩, hl2⟩⟩ := hv.val
 obtain ⟨b, o, rfl, hb, hty⟩ := hs ok.ne
 have hmany := ok.many
 have hchs := ok.chs
 have hf0 := ok.first.1
 have hf1 := ok.first.2
 have hMS := Lib.hid (make_small t ok)
 have HCH := Lib.hid ok.ch
 have HTY := Lib.hid hty
 have HCC := Lib.hid hc
 -- the first type
 have hfn : t.first.toNat < t.types.length := by omega
 have hH : Hid (t.types[t.first.toNat] = resH t) := by show _ = _; unfold resH tyD; rw [List.getElem?_eq_getElem hfn]; rfl
 have a0 := (hty t.first.toNat hfn)
 obtain ⟨H, eH⟩ : ∃ H, resH t = H := ⟨_, rfl⟩
 have HEH := Lib.hid eH
 rw [hH.out, eH] at a0
 obtain ⟨a1, a2, a3⟩ := a0
 clear hs hc hty hnm ok hl1 hl2 eH
 go_enter Tryd.func19, Tryd.ntmps19
 go_wp2_with fail
 obtain ⟨W0, eW⟩ : ∃ W0, (w.alloc (.cells #[.slice (some ⟨b, o, none⟩) t.types.length cap, .int .i64 t.first, .slice p2 t.chs.length cap2] 30)).alloc (.cells #[.slice none 0 0, .int .i64 0, .slice none 0 0] 30) = W0 := ⟨_, rfl⟩
 rw [eW]
 have hW0 : W0.heap.size = w.heap.size + 2 := by rw [← eW]; simp
 have hbW : Below w.heap.size w W0 := by rw [← eW]; exact ((Below.refl _ _).alloc (Nat.le_refl _) _).alloc (by simp) _
 have hX : W0.heap[w.heap.size]? = some (.cells #[.slice (some ⟨b, o, none⟩) t.types.length cap, .int .i64 t.first, .slice p2 t.chs.length cap2] 30 (0, 0)) := by
  rw [← eW, Below.heap_alloc _ _ _ (by simp)]; exact heap_alloc_new w _
 have hR : W0.heap[w.heap.size + 1]? = some (.cells #[.slice none 0 0, .int .i64 0, .slice none 0 0] 30 (0, 0)) := by
  rw [← eW]
  have := heap_alloc_new (w.alloc (.cells #[.slice (some ⟨b, o, none⟩) t.types.length cap, .int .i64 t.first, .slice p2 t.chs.length cap2] 30)) (.cells #[.slice none 0 0, .int .i64 0, .slice none 0 0] 30)
  simpa using this
 have HX := Lib.hid hX
 have HR := Lib.hid hR
 have HBW := Lib.hid hbW
 clear eW hX hR hbW a1 a2 a3
 refine (Begin_any H W0).mono ?_
 rintro e w1 ⟨M, sv0, cv0, rfl, hmk, hb1⟩
 have HMK := Lib.hid hmk
 have HB1 := Lib.hid hb1
 have hX1 := (hb1.block w.heap.size (by omega)).trans HX.out
 have x1 : w1.cell? ⟨w.heap.size, 2, none⟩ = some (.slice p2 t.chs.length cap2) := (cell_of_row w1 _ 2 _ _ _ hX1).trans rfl
 have hw1 : W0.heap.size ≤ w1.heap.size := hb1.size
 clear hmk hb1 hX1
 go_wp2_with fail
 go_loopw [16] (fun i wr => ∃ (k : Nat) (sv cv : Value), k ≤ t.chs.length ∧ i = .int .i64 k ∧ Mk wr M W0.heap.size sv cv (((resL t).take k).foldl stepN (begN (resH t))) ∧ Below W0.heap.size w1 wr) (fun i _ => t.chs.length - (intOf i).toNat)
 case atStart => exact ⟨0, sv0, cv0, Nat.zero_le _, rfl, by rw [HEH.out]; exact HMK.out, Below.refl _ _⟩
 case round =>
  obtain ⟨k, sv, cv, hk, rfl, hmk, hbr⟩ := hrel
  have HMR := Lib.hid hmk
  have HBR := Lib.hid hbr
  have hwr : w1.heap.size ≤ wr.heap.size := hbr.size
  have hball := HBW.out.trans (((HB1.out.trans hbr)).mono (by omega))
  have HBA := Lib.hid hball
  have hXr : wr.heap[w.heap.size]? = _ := (((HB1.out.trans hbr).block w.heap.size (by omega))).trans HX.out
  have hRr : wr.heap[w.heap.size + 1]? = _ := (((HB1.out.trans hbr).block (w.heap.size + 1) (by omega))).trans HR.out
  have y0 : wr.cell? ⟨w.heap.size, 0, none⟩ = some (.slice (some ⟨b, o, none⟩) t.types.length cap) := (cell_of_row wr _ 0 _ _ _ hXr).trans rfl
  have HRR := Lib.hid hRr
  have hlt0 : w.heap.size < wr.heap.size := by omega
  clear hmk hbr hball hXr hRr x1
  by_cases hkL : k < t.chs.length
  ·have hne : t.chs ≠ [] := by intro e; rw [e] at hkL; simp at hkL
   obtain ⟨cb, co, rfl, hcb, hat⟩ := HCC.out hne
   obtain ⟨c, ec⟩ : ∃ c, t.chs[k] = c := ⟨_, rfl⟩
   have h1 := (hat k hkL).below HBA.out hcb
   have hck := HCH.out c (by rw [← ec]; exact List.getElem_mem _)
   rw [ec] at h1
   obtain ⟨c0, c1⟩ := h1
   have hkn : c.k.toNat < t.types.length := by omega
   have h2 := (HTY.out c.k.toNat hkn).below HBA.out hb
   have hT : Hid (t.types[c.k.toNat] = tyD t.types c.k) := by show _ = _; unfold tyD; rw [List.getElem?_eq_getElem hkn]; rfl
   obtain ⟨y, ey⟩ : ∃ y, tyD t.types c.k = y := ⟨_, rfl⟩
   rw [hT.out, ey] at h2
   obtain ⟨d0, d1, d2⟩ := h2
   have hck1 := hck.2.2.1
   have hck2 := hck.2.2.2
   have HEC : Hid ((((resL t).take (k + 1)).foldl stepN (begN (resH t))) = stepN (((resL t).take k).foldl stepN (begN (resH t))) (c.t, y)) := by
    show _ = _
    have hkr : k < (resL t).length := by simp [resL]; exact hkL
    rw [List.take_succ_eq_append_getElem hkr, List.foldl_append]
    have : (resL t)[k] = (c.t, y) := by simp [resL, ec, ey]
    rw [this]; rfl
   have hcbl := World.block_lt_of_cell? _ _ c0
   have hbl := World.block_lt_of_cell? _ _ d0
   have hMS1 := Lib.hid (hMS.out k)
   generalize ((resL t).take k).foldl stepN (begN (resH t)) = st at HMR HEC hMS1
   have HMA := Lib.hid ((HMR.out.alloc (.cells #[.int .i64 c.t, .int .i64 c.k] 40)).keep (W' := (wr.alloc (.cells #[.int .i64 c.t, .int .i64 c.k] 40)).drew) fun b hb => rfl)
   clear hat hne hck ec ey hT hMS
   go_wp2_with fail
   go_region_law (first
    | (go_simp; go_at_call 25; refine (Change_any M W0.heap.size sv cv st c.t y _ HMA.out (by simp; omega) hMS1.out).mono ?_; rintro e w5 ⟨rfl, ⟨sv5, cv5, hm5⟩, hb5⟩; have HM5 := Lib.hid hm5; have HB5 := Lib.hid hb5))
   all_goals
    go_wp2
    go_roundw
    case rel => exact ⟨k + 1, sv5, cv5, by omega, by go_num, by rw [HEC.out]; exact HM5.out, HBR.out.trans ((((Below.refl W0.heap.size wr).alloc (by omega) _).drew).trans HB5.out)⟩
    case measure => simp [intOf]; omega
  ·obtain rfl : k = t.chs.length := by omega
   have hall : (resL t).take t.chs.length = resL t := List.take_of_length_le (by simp [resL])
   rw [hall] at HMR
   have hms := hMS.out t.chs.length
   rw [hall] at hms
   have hN1 : ((resL t).foldl stepN (begN (resH t))).types = (normT t).types := rfl
   have hN2 : ((resL t).foldl stepN (begN (resH t))).chs = (normT t).chs := rfl
   have HMSS := Lib.hid hms
   obtain ⟨A1, c1, rfl⟩ := own_sliceN HMR.out.rowT
   obtain ⟨A2, c2, rfl⟩ := own_sliceN HMR.out.rowC
   obtain ⟨u0, u1, u2, -, -, -, -⟩ := mkCells HMR.out.blk
   rw [hN1] at u0
   rw [hN2] at u2
   have hMl := HMR.out.lt
   have g0 : wr.cell? ⟨w.heap.size + 1, 0, none⟩ = some (.slice none 0 0) := (cell_of_row wr _ 0 _ _ _ HRR.out).trans rfl
   have g1 : wr.cell? ⟨w.heap.size + 1, 1, none⟩ = some (.int .i64 0) := (cell_of_row wr _ 1 _ _ _ HRR.out).trans rfl
   have g2 : wr.cell? ⟨w.heap.size + 1, 2, none⟩ = some (.slice none 0 0) := (cell_of_row wr _ 2 _ _ _ HRR.out).trans rfl
   have z0 : wr.frozen? ⟨w.heap.size + 1, 0, none⟩ = false := by simp [World.frozen?, HRR.out]
   have z1 : wr.frozen? ⟨w.heap.size + 1, 1, none⟩ = false := by simp [World.frozen?, HRR.out]
   have z2 : wr.frozen? ⟨w.heap.size + 1, 2, none⟩ = false := by simp [World.frozen?, HRR.out]
   clear hN1 hN2 hms hall
   go_wp2
   obtain ⟨W9, e9, hB9, hh9, ho9⟩ := end_cellsM HRR.out (.slice A1 (normT t).types.length c1) (.int .i64 0) (.slice A2 (normT t).chs.length c2)
   rw [e9]
   have v0 : W9.cell? ⟨w.heap.size + 1, 0, none⟩ = some (.slice A1 (normT t).types.length c1) := (cell_of_row W9 _ 0 _ _ _ hh9).trans rfl
   have v1 : W9.cell? ⟨w.heap.size + 1, 1, none⟩ = some (.int .i64 0) := (cell_of_row W9 _ 1 _ _ _ hh9).trans rfl
   have v2 : W9.cell? ⟨w.heap.size + 1, 2, none⟩ = some (.slice A2 (normT t).chs.length c2) := (cell_of_row W9 _ 2 _ _ _ hh9).trans rfl
   refine bodyPost_ret (v := .agg #[.slice A1 (normT t).types.length c1, .int .i64 0, .slice A2 (normT t).chs.length c2]) (by simp [results, Tryd.results19, go_sem, v0, v1, v2]) rfl ⟨_, rfl, ⟨_, _, W0.heap.size, rfl, by omega, own_keep HMR.out.rowT fun g e => ho9 g (by have := (World.ownsRow.lt HMR.out.rowT g e).1; omega), own_keep HMR.out.rowC fun g e => ho9 g (by have := (World.ownsRow.lt HMR.out.rowC g e).1; omega)⟩, HBA.out.trans (hB9 _ (by omega))⟩
set_option maxHeartbeats 1000000 in
theorem Norm_own (t : Tab) (v : Value) (w : World) (hv : TabAt w v t) (hok : chk t = 0) :
 Calls Tryd.prog 9 #[v] w fun e w' => ∃ v', e = .returned (.tuple #[v', .int .i64 0]) ∧ TabOwn w' w.heap.size v' (normT t) ∧ Below w.heap.size w w' := by
 have HV := Lib.hid hv
 have ok := Lib.hid (chk_ok t hok)
 obtain ⟨p1, c1, p2, c2, rfl⟩ := tabForms hv
 have HK := Lib.hid (fun W h => Check_any t (.agg #[.slice p1 t.types.length c1, .int .i64 t.first, .slice p2 t.chs.length c2]) W h)
 rw [hok] at HK
 clear hv hok
 go_enter Tryd.func9, Tryd.ntmps9
 go_wp2_with fail
 obtain ⟨W0, eW⟩ : ∃ W0, (w.alloc (.cells #[.slice p1 t.types.length c1, .int .i64 t.first, .slice p2 t.chs.length c2] 30)).alloc (.cells #[.slice none 0 0, .int .i64 0, .slice none 0 0] 30) = W0 := ⟨_, rfl⟩
 rw [eW]
 have hW0 : W0.heap.size = w.heap.size + 2 := by rw [← eW]; simp
 have hbW : Below w.heap.size w W0 := by rw [← eW]; exact ((Below.refl _ _).alloc (Nat.le_refl _) _).alloc (by simp) _
 have hX : W0.heap[w.heap.size]? = some (.cells #[.slice p1 t.types.length c1, .int .i64 t.first, .slice p2 t.chs.length c2] 30 (0, 0)) := by
  rw [← eW, Below.heap_alloc _ _ _ (by simp)]; exact heap_alloc_new w _
 have hR : W0.heap[w.heap.size + 1]? = some (.cells #[.slice none 0 0, .int .i64 0, .slice none 0 0] 30 (0, 0)) := by
  rw [← eW]
  have := heap_alloc_new (w.alloc (.cells #[.slice p1 t.types.length c1, .int .i64 t.first, .slice p2 t.chs.length c2] 30)) (.cells #[.slice none 0 0, .int .i64 0, .slice none 0 0] 30)
  simpa using this
 clear eW
 refine (HK.out _ (HV.out.below hbW)).mono ?_
 rintro e w1 ⟨rfl, hb1⟩
 have hX1 := (hb1.block w.heap.size (by omega)).trans hX
 have hR1 := (hb1.block (w.heap.size + 1) (by omega)).trans hR
 have b1 := hbW.trans (hb1.mono (by omega))
 have hz1 : w.heap.size + 1 < w1.heap.size := (Array.getElem?_eq_some_iff.mp hR1).1
 have x0 : w1.cell? ⟨w.heap.size, 0, none⟩ = some (.slice p1 t.types.length c1) := (cell_of_row w1 _ 0 _ _ _ hX1).trans rfl
 have x1 : w1.cell? ⟨w.heap.size, 1, none⟩ = some (.int .i64 t.first) := (cell_of_row w1 _ 1 _ _ _ hX1).trans rfl
 have x2 : w1.cell? ⟨w.heap.size, 2, none⟩ = some (.slice p2 t.chs.length c2) := (cell_of_row w1 _ 2 _ _ _ hX1).trans rfl
 clear hb1 hX hR hbW
 go_wp2_with fail
 refine (NOf_own t _ w1 (HV.out.below b1) ok.out).mono ?_
 rintro e w2 ⟨v', rfl, hv', hb2⟩
 obtain ⟨sv', cv', B', rfl, hB', hrT, hrC⟩ := hv'
 obtain ⟨q1, d1, rfl⟩ := own_sliceN hrT
 obtain ⟨q2, d2, rfl⟩ := own_sliceN hrC
 skip
 have hR2 := (hb2.block (w.heap.size + 1) hz1).trans hR1
 have b2 := b1.trans (hb2.mono b1.size)
 have g0 : w2.cell? ⟨w.heap.size + 1, 0, none⟩ = some (.slice none 0 0) := (cell_of_row w2 _ 0 _ _ _ hR2).trans rfl
 have g1 : w2.cell? ⟨w.heap.size + 1, 1, none⟩ = some (.int .i64 0) := (cell_of_row w2 _ 1 _ _ _ hR2).trans rfl
 have g2 : w2.cell? ⟨w.heap.size + 1, 2, none⟩ = some (.slice none 0 0) := (cell_of_row w2 _ 2 _ _ _ hR2).trans rfl
 have z0 : w2.frozen? ⟨w.heap.size + 1, 0, none⟩ = false := by simp [World.frozen?, hR2]
 have z1 : w2.frozen? ⟨w.heap.size + 1, 1, none⟩ = false := by simp [World.frozen?, hR2]
 have z2 : w2.frozen? ⟨w.heap.size + 1, 2, none⟩ = false := by simp [World.frozen?, hR2]
 clear hb2 hX1 hR1 x0 x1 x2
 go_wp2
 obtain ⟨W9, e9, hB9, hh9, ho9⟩ := end_cellsM hR2 (.slice q1 (normT t).types.length d1) (.int .i64 0) (.slice q2 (normT t).chs.length d2)
 rw [e9]
 have v0 : W9.cell? ⟨w.heap.size + 1, 0, none⟩ = some (.slice q1 (normT t).types.length d1) := (cell_of_row W9 _ 0 _ _ _ hh9).trans rfl
 have v1 : W9.cell? ⟨w.heap.size + 1, 1, none⟩ = some (.int .i64 0) := (cell_of_row W9 _ 1 _ _ _ hh9).trans rfl
 have v2 : W9.cell? ⟨w.heap.size + 1, 2, none⟩ = some (.slice q2 (normT t).chs.length d2) := (cell_of_row W9 _ 2 _ _ _ hh9).trans rfl
 refine bodyPost_ret (v := .tuple #[.agg #[.slice q1 (normT t).types.length d1, .int .i64 0, .slice q2 (normT t).chs.length d2], .int .i64 0]) (by simp [results, Tryd.results9, go_sem, v0, v1, v2]) rfl ⟨_, rfl, ⟨_, _, B', rfl, by have := b1.size; omega, own_keep hrT fun g e => ho9 g (by have := (World.ownsRow.lt hrT g e).1; omega), own_keep hrC fun g e => ho9 g (by have := (World.ownsRow.lt hrC g e).1; omega)⟩, b2.trans (hB9 _ (by omega))⟩
theorem list_ne_at {α : Type} {l m : List α} {k : Nat} (h1 : k < l.length) (h2 : k < m.length) (h : l[k] ≠ m[k]) : l ≠ m := by
 intro e; subst e; exact h rfl
theorem list_eq_of {α : Type} {l m : List α} (hl : l.length = m.length) (h : ∀ j (h1 : j < l.length) (h2 : j < m.length), l[j] = m[j]) : l = m :=
 List.ext_getElem hl h
set_option maxRecDepth 100000 in
set_option maxHeartbeats 1000000 in
theorem EqTy_any (l m : List Ty) (v v2 : Value) (w : World) (h1 : SlTy w v l) (h2 : SlTy w v2 m) :
 Calls Tryd.prog 11 #[v, v2] w fun e w' => e = .returned (.bool (decide (l = m))) ∧ Below w.heap.size w w' := by
 obtain ⟨p, cap, rfl, g1⟩ := h1.shape
 have hl := h1.size
 have hl2 := h2.size
 unfold maxLen at hl hl2
 obtain ⟨p2, cap2, rfl, g2⟩ := h2.shape
 have HA := Lib.hid g1
 have HB := Lib.hid g2
 clear h1 h2 g1 g2
 by_cases hlen : l.length = m.length
 ·obtain ⟨R, eR⟩ : ∃ R, decide (l = m) = R := ⟨_, rfl⟩
  rw [eR]
  have ER := Lib.hid eR
  have HLEN := Lib.hid hlen
  rw [← hlen]
  clear eR hlen
  go_enter Tryd.func11, Tryd.ntmps11
  go_wp2
  go_loopw [14] (fun i wr => ∃ k : Nat, k ≤ l.length ∧ i = .int .i64 k ∧ (∀ j (h : j < k) (h1 : j < l.length) (h2 : j < m.length), l[j] = m[j]) ∧ Below w.heap.size w wr) (fun i _ => l.length - (intOf i).toNat)
  case atStart => exact ⟨0, Nat.zero_le _, rfl, fun j h => absurd h (Nat.not_lt_zero j), Below.refl _ _⟩
  case round =>
   obtain ⟨k, hk, rfl, hsame, hbel⟩ := hrel
   have HS := Lib.hid hsame
   clear hsame
   by_cases hlt : k < l.length
   ·have hlt2 : k < m.length := by have := HLEN.out; omega
    obtain ⟨x, ex⟩ : ∃ x, l[k] = x := ⟨_, rfl⟩
    obtain ⟨y, ey⟩ : ∃ y, m[k] = y := ⟨_, rfl⟩
    have hne0 : l ≠ [] := by intro e; rw [e] at hlt; simp at hlt
    have hne1 : m ≠ [] := by intro e; rw [e] at hlt2; simp at hlt2
    obtain ⟨b, o, rfl, hb, ha0⟩ := HA.out hne0
    obtain ⟨b2, o2, rfl, hb2, hc0⟩ := HB.out hne1
    have ha := (ha0 k hlt).below hbel hb
    have hc := (hc0 k hlt2).below hbel hb2
    rw [ex] at ha
    rw [ey] at hc
    obtain ⟨a0, a1, a2⟩ := ha
    obtain ⟨d0, d1, d2⟩ := hc
    have hlb := World.block_lt_of_cell? _ _ a0
    have hlb2 := World.block_lt_of_cell? _ _ d0
    have hq := neq_tyN x y
    have HBL := Lib.hid hbel
    by_cases hxy : x = y
    ·have hd : (!decide (x = y)) = false := by simpa using hxy
     rw [hd] at hq
     have hs2 : ∀ j (h : j < k + 1) (h1 : j < l.length) (h2 : j < m.length), l[j] = m[j] := fun j hj h1 h2 => by
      by_cases e : j = k
      ·subst e; rw [ex, ey, hxy]
      ·exact HS.out j (by omega) h1 h2
     have HS2 := Lib.hid hs2
     clear ex ey hbel ha0 hc0 hne0 hne1 hxy hd hs2
     go_wp2
     go_quiet (fail)
     go_wp2
     go_roundw
     case rel => exact ⟨k + 1, by omega, by go_num, HS2.out, by first | exact below_drewNm HBL.out _ | exact below_drewNm (HBL.out.alloc HBL.out.size _) _⟩
     case measure => simp [intOf]; omega
    ·have hd : (!decide (x = y)) = true := by simpa using hxy
     rw [hd] at hq
     have hR : Hid (R = false) := by
      show _ = _
      rw [← ER.out]
      have : l ≠ m := list_ne_at hlt hlt2 (by rw [ex, ey]; exact hxy)
      simpa using this
     clear ex ey hbel ha0 hc0 hne0 hne1 hxy hd
     go_wp2
     go_quiet (fail)
     go_wp2
     go_ret
     exact ⟨ret_bool' hR.out.symm, by first | exact below_drewNm HBL.out _ | exact below_drewNm (HBL.out.alloc HBL.out.size _) _⟩
   ·obtain rfl : k = l.length := by omega
    have hR : Hid (R = true) := by
     show _ = _
     rw [← ER.out]
     have : l = m := list_eq_of HLEN.out (fun j h1 h2 => HS.out j h1 h1 h2)
     simpa using this
    go_wp2
    go_ret
    exact ⟨ret_bool' hR.out.symm, hbel⟩
 ·have hR : decide (l = m) = false := by simp; intro e; exact hlen (by rw [e])
  rw [hR]
  have hli : ¬ (l.length : Int) = (m.length : Int) := by omega
  clear hR hlen
  go_enter Tryd.func11, Tryd.ntmps11
  go_wp2
  go_ret
  exact ⟨rfl, Below.refl _ _⟩
set_option maxRecDepth 100000 in
set_option maxHeartbeats 1000000 in
theorem EqCh_any (l m : List Ch) (v v2 : Value) (w : World) (h1 : SlCh w v l) (h2 : SlCh w v2 m) :
 Calls Tryd.prog 12 #[v, v2] w fun e w' => e = .returned (.bool (decide (l = m))) ∧ Below w.heap.size w w' := by
 obtain ⟨p, cap, rfl, g1⟩ := h1.shape
 have hl := h1.size
 have hl2 := h2.size
 unfold maxLen at hl hl2
 obtain ⟨p2, cap2, rfl, g2⟩ := h2.shape
 have HA := Lib.hid g1
 have HB := Lib.hid g2
 clear h1 h2 g1 g2
 by_cases hlen : l.length = m.length
 ·obtain ⟨R, eR⟩ : ∃ R, decide (l = m) = R := ⟨_, rfl⟩
  rw [eR]
  have ER := Lib.hid eR
  have HLEN := Lib.hid hlen
  rw [← hlen]
  clear eR hlen
  go_enter Tryd.func12, Tryd.ntmps12
  go_wp2
  go_loopw [14] (fun i wr => ∃ k : Nat, k ≤ l.length ∧ i = .int .i64 k ∧ (∀ j (h : j < k) (h1 : j < l.length) (h2 : j < m.length), l[j] = m[j]) ∧ Below w.heap.size w wr) (fun i _ => l.length - (intOf i).toNat)
  case atStart => exact ⟨0, Nat.zero_le _, rfl, fun j h => absurd h (Nat.not_lt_zero j), Below.refl _ _⟩
  case round =>
   obtain ⟨k, hk, rfl, hsame, hbel⟩ := hrel
   have HS := Lib.hid hsame
   clear hsame
   by_cases hlt : k < l.length
   ·have hlt2 : k < m.length := by have := HLEN.out; omega
    obtain ⟨x, ex⟩ : ∃ x, l[k] = x := ⟨_, rfl⟩
    obtain ⟨y, ey⟩ : ∃ y, m[k] = y := ⟨_, rfl⟩
    have hne0 : l ≠ [] := by intro e; rw [e] at hlt; simp at hlt
    have hne1 : m ≠ [] := by intro e; rw [e] at hlt2; simp at hlt2
    obtain ⟨b, o, rfl, hb, ha0⟩ := HA.out hne0
    obtain ⟨b2, o2, rfl, hb2, hc0⟩ := HB.out hne1
    have ha := (ha0 k hlt).below hbel hb
    have hc := (hc0 k hlt2).below hbel hb2
    rw [ex] at ha
    rw [ey] at hc
    obtain ⟨a0, a1⟩ := ha
    obtain ⟨d0, d1⟩ := hc
    have hlb := World.block_lt_of_cell? _ _ a0
    have hlb2 := World.block_lt_of_cell? _ _ d0
    have hq := neq_chN x y
    have HBL := Lib.hid hbel
    by_cases hxy : x = y
    ·have hd : (!decide (x = y)) = false := by simpa using hxy
     rw [hd] at hq
     have hs2 : ∀ j (h : j < k + 1) (h1 : j < l.length) (h2 : j < m.length), l[j] = m[j] := fun j hj h1 h2 => by
      by_cases e : j = k
      ·subst e; rw [ex, ey, hxy]
      ·exact HS.out j (by omega) h1 h2
     have HS2 := Lib.hid hs2
     clear ex ey hbel ha0 hc0 hne0 hne1 hxy hd hs2
     go_wp2
     go_quiet (fail)
     go_wp2
     go_roundw
     case rel => exact ⟨k + 1, by omega, by go_num, HS2.out, by first | exact below_drewNm HBL.out _ | exact below_drewNm (HBL.out.alloc HBL.out.size _) _⟩
     case measure => simp [intOf]; omega
    ·have hd : (!decide (x = y)) = true := by simpa using hxy
     rw [hd] at hq
     have hR : Hid (R = false) := by
      show _ = _
      rw [← ER.out]
      have : l ≠ m := list_ne_at hlt hlt2 (by rw [ex, ey]; exact hxy)
      simpa using this
     clear ex ey hbel ha0 hc0 hne0 hne1 hxy hd
     go_wp2
     go_quiet (fail)
     go_wp2
     go_ret
     exact ⟨ret_bool' hR.out.symm, by first | exact below_drewNm HBL.out _ | exact below_drewNm (HBL.out.alloc HBL.out.size _) _⟩
   ·obtain rfl : k = l.length := by omega
    have hR : Hid (R = true) := by
     show _ = _
     rw [← ER.out]
     have : l = m := list_eq_of HLEN.out (fun j h1 h2 => HS.out j h1 h1 h2)
     simpa using this
    go_wp2
    go_ret
    exact ⟨ret_bool' hR.out.symm, hbel⟩
 ·have hR : decide (l = m) = false := by simp; intro e; exact hlen (by rw [e])
  rw [hR]
  have hli : ¬ (l.length : Int) = (m.length : Int) := by omega
  clear hR hlen
  go_enter Tryd.func12, Tryd.ntmps12
  go_wp2
  go_ret
  exact ⟨rfl, Below.refl _ _⟩
def nameB (s : ByteArray) : Bool := allB s 20 ⟨#[95, 47, 45]⟩ && decide (∃ c, s.data.toList[0]? = some c ∧ letterB c.toNat = true)
theorem isName_any (s : ByteArray) (w : World) (hs : s.size ≤ maxLen) :
 Calls Tryd.prog 31 #[.string s] w fun e w' => e = .returned (.bool (nameB s)) ∧ w = w' := by
 obtain ⟨A, eA⟩ : ∃ A, allB s 20 ⟨#[95, 47, 45]⟩ = A := ⟨_, rfl⟩
 have HA := Lib.hid eA
 cases A with
 | false =>
  have HN : Hid (nameB s = false) := by show _ = _; unfold nameB; rw [eA]; simp
  clear eA
  go_enter Tryd.func31, Tryd.ntmps31
  go_wp2_with fail
  refine (all_any _ _ _ _ hs).mono ?_
  rw [HA.out]
  rintro e w' ⟨rfl, rfl⟩
  go_wp2
  go_ret
  exact ⟨ret_bool' HN.out.symm, rfl⟩
 | true =>
  have h0 : 0 < s.size := by
   unfold allB at eA
   simp only [Bool.and_eq_true, Bool.not_eq_true', decide_eq_true_eq] at eA
   have h2 := eA.1.2
   rcases Nat.eq_zero_or_pos s.size with h | h
   ·have : s.data.toList = [] := List.eq_nil_of_length_eq_zero (by simpa using h)
    rw [this] at h2; simp at h2
   ·exact h
  obtain ⟨c, ec⟩ : ∃ c, s[0] = c := ⟨_, rfl⟩
  have HN : Hid (nameB s = letterB c.toNat) := by
   show _ = _
   unfold nameB
   rw [eA, Bool.true_and]
   have hc : s.data.toList[0]? = some c := by
    rw [List.getElem?_eq_getElem (by simpa using h0)]
    exact congrArg some ec
   rw [hc]
   cases hl : letterB c.toNat
   ·exact decide_eq_false (by rintro ⟨d, hd, h⟩; injection hd with hd; subst hd; rw [hl] at h; cases h)
   ·exact decide_eq_true ⟨c, rfl, hl⟩
  clear eA
  go_enter Tryd.func31, Tryd.ntmps31
  go_wp2_with fail
  refine (all_any _ _ _ _ hs).mono ?_
  rw [HA.out]
  rintro e w' ⟨rfl, rfl⟩
  go_wp2_with fail
  refine (isLetter_any _ _).mono ?_
  rintro e w' ⟨rfl, rfl⟩
  go_wp2
  go_ret
  exact ⟨ret_bool' (by rw [HN.out, ← ec]), rfl⟩
end Go.Proofs.YtomahddiclkepaaDoor
namespace Go.Proofs.YtomahddiclkepaaDoor
open Go.RowKit
set_option linter.unusedVariables false
set_option linter.unusedSimpArgs false
def withinB (n a b : Int) : Bool := decide (a ≤ n ∧ n ≤ b)
theorem withinB_t {n a b : Int} (h : a ≤ n ∧ n ≤ b) : withinB n a b = true := by simp [withinB, h]
theorem withinB_f {n a b : Int} (h : ¬ (a ≤ n ∧ n ≤ b)) : withinB n a b = false := by unfold withinB; exact decide_eq_false h
theorem withinB_iff {n a b : Int} : withinB n a b = true ↔ a ≤ n ∧ n ≤ b := by simp [withinB]
theorem day_within (n a b : Int) (w : World) :
 Calls Tryd.prog 47 #[.int .i64 n, .int .i64 a, .int .i64 b] w fun e w' => e = .returned (.bool (withinB n a b)) ∧ w = w' := by
 by_cases h1 : a ≤ n <;> by_cases h2 : n ≤ b <;>
 ·go_enter Tryd.func47, Tryd.ntmps47
  go_wp2
  go_ret
  exact ⟨ret_bool (by simp [withinB, h1, h2]), rfl⟩
abbrev dayV (k wd n : Int) : Value := .agg #[.int .i64 k, .int .i64 wd, .int .i64 n]
def dayB (k wd n : Int) : Bool := decide ((k = 1 ∧ wd = 0 ∧ 1 ≤ n ∧ n ≤ 31) ∨ (k = 2 ∧ 0 ≤ wd ∧ wd ≤ 6 ∧ n = 0) ∨ ((k = 3 ∨ k = 4) ∧ 0 ≤ wd ∧ wd ≤ 6 ∧ 1 ≤ n ∧ n ≤ 31))
theorem quiet_left {P : Program} {f : FuncId} {args : Array Value} {w : World} {n : Nat} {v : Value}
 (h : Calls P f args (w.drewN n) fun e w' => e = .returned v ∧ w.drewN n = w') : Calls P f args (w.drewN n) fun e w'' => e = .returned v ∧ ∃ m, w'' = w.drewN m :=
 h.mono fun _ _ ⟨he, hm⟩ => ⟨he, n, hm.symm⟩
theorem below_drewN {B : Nat} {a w : World} (h : Below B a w) (n : Nat) : Below B a (w.drewN n) := ⟨h.os, h.tape, h.output, h.size, h.block⟩
set_option maxHeartbeats 2000000 in
theorem Check_ok (k wd n : Int) (w : World) (h0 : dayB k wd n = true) :
 Calls Tryd.prog 33 #[dayV k wd n] w fun e w' => e = .returned (.int .i64 0) ∧ Below w.heap.size w w' := by
 simp only [dayB, decide_eq_true_eq] at h0
 rcases h0 with ⟨rfl, rfl, h⟩ | ⟨rfl, h, h2, rfl⟩ | ⟨rfl | rfl, h⟩
 ·have t0 : withinB 0 0 6 = true := by decide
  have t2 : withinB n 1 31 = true := withinB_t (by omega)
  clear h
  go_enter Tryd.func33, Tryd.ntmps33
  go_wp2
  go_quiet ((go_at_call 47; exact quiet_left (day_within _ _ _ _)))
  go_wp2
  go_ret
  exact ⟨rfl, below_drewN ((Below.refl _ _).alloc (Nat.le_refl _) _) _⟩
 ·have t2 : withinB 0 1 31 = false := by decide
  have t1 : withinB wd 0 6 = true := withinB_t (by omega)
  clear h
  go_enter Tryd.func33, Tryd.ntmps33
  go_wp2
  go_quiet ((go_at_call 47; exact quiet_left (day_within _ _ _ _)))
  go_wp2
  go_ret
  exact ⟨rfl, below_drewN ((Below.refl _ _).alloc (Nat.le_refl _) _) _⟩
 ·have t1 : withinB wd 0 6 = true := withinB_t (by omega)
  have t2 : withinB n 1 31 = true := withinB_t (by omega)
  clear h
  go_enter Tryd.func33, Tryd.ntmps33
  go_wp2
  go_quiet ((go_at_call 47; exact quiet_left (day_within _ _ _ _)))
  go_wp2
  go_ret
  exact ⟨rfl, below_drewN ((Below.refl _ _).alloc (Nat.le_refl _) _) _⟩
 ·have t1 : withinB wd 0 6 = true := withinB_t (by omega)
  have t2 : withinB n 1 31 = true := withinB_t (by omega)
  clear h
  go_enter Tryd.func33, Tryd.ntmps33
  go_wp2
  go_quiet ((go_at_call 47; exact quiet_left (day_within _ _ _ _)))
  go_wp2
  go_ret
  exact ⟨rfl, below_drewN ((Below.refl _ _).alloc (Nat.le_refl _) _) _⟩
set_option maxHeartbeats 2000000 in
theorem Check_no (k wd n : Int) (w : World) (h0 : dayB k wd n = false) :
 Calls Tryd.prog 33 #[dayV k wd n] w fun e w' => e = .returned (.int .i64 1) ∧ Below w.heap.size w w' := by
 simp only [dayB, decide_eq_false_iff_not] at h0
 have h : (k = 1 ∧ wd ≠ 0) ∨ (k = 1 ∧ wd = 0 ∧ ¬ (1 ≤ n ∧ n ≤ 31)) ∨ (k = 2 ∧ ¬ (0 ≤ wd ∧ wd ≤ 6)) ∨ (k = 2 ∧ (0 ≤ wd ∧ wd ≤ 6) ∧ n ≠ 0) ∨ (k = 3 ∧ ¬ (0 ≤ wd ∧ wd ≤ 6)) ∨ (k = 3 ∧ (0 ≤ wd ∧ wd ≤ 6) ∧ ¬ (1 ≤ n ∧ n ≤ 31)) ∨
  (k = 4 ∧ ¬ (0 ≤ wd ∧ wd ≤ 6)) ∨ (k = 4 ∧ (0 ≤ wd ∧ wd ≤ 6) ∧ ¬ (1 ≤ n ∧ n ≤ 31)) ∨ (k ≠ 1 ∧ k ≠ 2 ∧ k ≠ 3 ∧ k ≠ 4) := by omega
 clear h0
 rcases h with ⟨rfl, h⟩ | ⟨rfl, rfl, h⟩ | ⟨rfl, h⟩ | ⟨rfl, h1, h⟩ | ⟨rfl, h⟩ | ⟨rfl, h1, h⟩ | ⟨rfl, h⟩ | ⟨rfl, h1, h⟩ | h
 ·have t3 : (wd == 0) = false := by simp; omega
  clear h
  go_enter Tryd.func33, Tryd.ntmps33
  go_wp2
  go_quiet ((go_at_call 47; exact quiet_left (day_within _ _ _ _)))
  go_wp2
  go_ret
  exact ⟨rfl, below_drewN ((Below.refl _ _).alloc (Nat.le_refl _) _) _⟩
 ·have t2 : withinB n 1 31 = false := withinB_f (by omega)
  clear h
  go_enter Tryd.func33, Tryd.ntmps33
  go_wp2
  go_quiet ((go_at_call 47; exact quiet_left (day_within _ _ _ _)))
  go_wp2
  go_ret
  exact ⟨rfl, below_drewN ((Below.refl _ _).alloc (Nat.le_refl _) _) _⟩
 ·have t1 : withinB wd 0 6 = false := withinB_f (by omega)
  clear h
  go_enter Tryd.func33, Tryd.ntmps33
  go_wp2
  go_quiet ((go_at_call 47; exact quiet_left (day_within _ _ _ _)))
  go_wp2
  go_ret
  exact ⟨rfl, below_drewN ((Below.refl _ _).alloc (Nat.le_refl _) _) _⟩
 ·have t1 : withinB wd 0 6 = true := withinB_t (by omega)
  have t4 : (n == 0) = false := by simp; omega
  clear h
  go_enter Tryd.func33, Tryd.ntmps33
  go_wp2
  go_quiet ((go_at_call 47; exact quiet_left (day_within _ _ _ _)))
  go_wp2
  go_ret
  exact ⟨rfl, below_drewN ((Below.refl _ _).alloc (Nat.le_refl _) _) _⟩
 ·have t1 : withinB wd 0 6 = false := withinB_f (by omega)
  clear h
  go_enter Tryd.func33, Tryd.ntmps33
  go_wp2
  go_quiet ((go_at_call 47; exact quiet_left (day_within _ _ _ _)))
  go_wp2
  go_ret
  exact ⟨rfl, below_drewN ((Below.refl _ _).alloc (Nat.le_refl _) _) _⟩
 ·have t1 : withinB wd 0 6 = true := withinB_t (by omega)
  have t2 : withinB n 1 31 = false := withinB_f (by omega)
  clear h
  go_enter Tryd.func33, Tryd.ntmps33
  go_wp2
  go_quiet ((go_at_call 47; exact quiet_left (day_within _ _ _ _)))
  go_wp2
  go_ret
  exact ⟨rfl, below_drewN ((Below.refl _ _).alloc (Nat.le_refl _) _) _⟩
 ·have t1 : withinB wd 0 6 = false := withinB_f (by omega)
  clear h
  go_enter Tryd.func33, Tryd.ntmps33
  go_wp2
  go_quiet ((go_at_call 47; exact quiet_left (day_within _ _ _ _)))
  go_wp2
  go_ret
  exact ⟨rfl, below_drewN ((Below.refl _ _).alloc (Nat.le_refl _) _) _⟩
 ·have t1 : withinB wd 0 6 = true := withinB_t (by omega)
  have t2 : withinB n 1 31 = false := withinB_f (by omega)
  clear h
  go_enter Tryd.func33, Tryd.ntmps33
  go_wp2
  go_quiet ((go_at_call 47; exact quiet_left (day_within _ _ _ _)))
  go_wp2
  go_ret
  exact ⟨rfl, below_drewN ((Below.refl _ _).alloc (Nat.le_refl _) _) _⟩
 ·have t5 : (k == 1) = false := by simp; omega
  have t6 : (k == 2) = false := by simp; omega
  have t7 : (k == 3) = false := by simp; omega
  have t8 : (k == 4) = false := by simp; omega
  clear h
  go_enter Tryd.func33, Tryd.ntmps33
  go_wp2
  go_quiet ((go_at_call 47; exact quiet_left (day_within _ _ _ _)))
  go_wp2
  go_ret
  exact ⟨rfl, below_drewN ((Below.refl _ _).alloc (Nat.le_refl _) _) _⟩
end Go.Proofs.YtomahddiclkepaaDoor
namespace Go.Proofs.YtomahddiclkepaaDoor
open Go.RowKit Go.Joins
open Classical
set_option linter.unusedVariables false
set_option linter.unusedSimpArgs false
structure Ru where
 (nm : ByteArray)
 (yf yt mo dk dw dn tm ck sv : Int)
 (lt : ByteArray)
def ruChk (r : Ru) : Int :=
 if nameB r.nm = false then 3 else
 if r.lt.toList ≠ [45] ∧ abbrB r.lt = false then 3 else
 if ¬ (1900 ≤ r.yf ∧ r.yf ≤ 2100) then 1 else
 if ¬ (r.yf ≤ r.yt ∧ r.yt ≤ 2100) then 1 else
 if ¬ (1 ≤ r.mo ∧ r.mo ≤ 12) then 1 else
 if dayB r.dk r.dw r.dn = false then 1 else
 if Civ.mlen 1901 r.mo < r.dn then 1 else
 if ¬ (-604800 ≤ r.tm ∧ r.tm ≤ 604800) then 1 else
 if ¬ (0 ≤ r.ck ∧ r.ck ≤ 2) then 1 else
 if ¬ (0 ≤ r.sv ∧ r.sv ≤ 10800) then 1 else 0
end Go.Proofs.YtomahddiclkepaaDoor
namespace Go.Proofs.YtomahddiclkepaaDoor
open Go
set_option linter.unusedVariables false
def T2 (n : Int) : List UInt8 := [UInt8.ofNat (48 + (n / 10).toNat), UInt8.ofNat (48 + (n % 10).toNat)]
theorem T2_length (n : Int) : (T2 n).length = 2 := rfl
def txt (l : List UInt8) : ByteArray := ⟨l.toArray⟩
theorem txt_append (a b : List UInt8) : txt a ++ txt b = txt (a ++ b) := by
 apply ByteArray.ext
 simp [txt]
theorem txt_data (l : List UInt8) : (txt l).data.toList = l := by simp [txt]
theorem txt_size (l : List UInt8) : (txt l).size = l.length := by simp [txt, ByteArray.size]
def stampT (t : Int) : List UInt8 :=
 Lib.itoa (Civ.yy (t / 86400)) ++ ([45] ++ (T2 (Civ.mm (t / 86400)) ++ ([45] ++ (T2 (Civ.dd (t / 86400)) ++ ([84] ++ (T2 (t % 86400 / 3600) ++ ([58] ++ (T2 (t % 86400 / 60 % 60) ++ ([58] ++ T2 (t % 86400 % 60))))))))))
theorem dec_four (u : Nat) (h0 : 1000 ≤ u) (h1 : u < 10000) : Lib.decDigits u = [UInt8.ofNat (48 + u / 1000), UInt8.ofNat (48 + u / 100 % 10), UInt8.ofNat (48 + u / 10 % 10), UInt8.ofNat (48 + u % 10)] := by
 rw [Lib.decDigits, dif_neg (by omega), Lib.decDigits, dif_neg (by omega), Lib.decDigits, dif_neg (by omega), Lib.decDigits, dif_pos (by omega)]
 simp only [List.cons_append, List.nil_append]
 rw [show u / 10 / 10 / 10 = u / 1000 by omega, show u / 10 / 10 % 10 = u / 100 % 10 by omega]
theorem itoa_four {n : Int} (h0 : 1000 ≤ n) (h1 : n < 10000) : Lib.itoa n = T2 (n / 100) ++ T2 (n % 100) := by
 unfold Lib.itoa
 rw [if_neg (by omega), dec_four _ (by omega) (by omega)]
 have e1 : n.toNat / 1000 = (n / 100 / 10).toNat := by omega
 have e2 : n.toNat / 100 % 10 = (n / 100 % 10).toNat := by omega
 have e3 : n.toNat / 10 % 10 = (n % 100 / 10).toNat := by omega
 have e4 : n.toNat % 10 = (n % 100 % 10).toNat := by omega
 rw [e1, e2, e3, e4]
 rfl
theorem Y4_length {a : Int} (h0 : 1000 ≤ a) (h1 : a < 10000) : (Lib.itoa a).length = 4 := by rw [itoa_four h0 h1]; rfl
def dateT (n : Int) : List UInt8 := Lib.itoa (Civ.yy n) ++ ([45] ++ (T2 (Civ.mm n) ++ ([45] ++ T2 (Civ.dd n))))
def clockT (r : Int) : List UInt8 := [84] ++ (T2 (r / 3600) ++ ([58] ++ (T2 (r / 60 % 60) ++ ([58] ++ T2 (r % 60)))))
theorem stamp_two (t : Int) : stampT t = dateT (t / 86400) ++ clockT (t % 86400) := by simp [stampT, dateT, clockT]
end Go.Proofs.YtomahddiclkepaaDoor
namespace Go.Proofs.YtomahddiclkepaaDoor
open Go.RowKit Go.Joins
set_option linter.unusedVariables false
set_option linter.unusedSimpArgs false
def Tab10 (w : World) : Prop := Lib.TabIs Tryd.prog w "internal/strconv.uint64pow10" .u64 Lib.pow10Tab
theorem Tab10.below {w w' : World} (h : Tab10 w) (hb : Below w.heap.size w w') : Tab10 w' := (Lib.tabBelow_of_tabIs h) w' hb
theorem itoa_text (n : Int) (w : World) (h0 : -9223372036854775808 ≤ n) (h1 : n ≤ 9223372036854775807) (ht : Tab10 w) :
 Calls Tryd.prog 63 #[.int .i64 n] w fun e w' => e = .returned (.string (txt (Lib.itoa n))) ∧ Below w.heap.size w w' :=
 (Tryd.strconv_Itoa n h0 h1 w ht).mono fun e w' ⟨he, k, os, hw⟩ => ⟨he, by rw [hw]; exact Lib.below_grow _ w (Nat.le_refl _) k os⟩
theorem und_bytes : Tryd.prog.underlying 52 = some (.slice 5) := by kernel_rfl
set_option maxHeartbeats 1000000 in
theorem two_any (n : Int) (w : World) (h0 : 0 ≤ n) (h1 : n < 100) :
 Calls Tryd.prog 64 #[.int .i64 n] w fun e w' => e = .returned (.string (txt (T2 n))) ∧ Below w.heap.size w w' := by
 have hcv : (convert 52 9 (.slice (some ⟨w.heap.size, 0, none⟩) 2 2)).run Tryd.prog (w.alloc (.cells #[.int .u8 (48 + n / 10), .int .u8 (48 + n % 10)] 5)) = .ok (.string (strOfNums [48 + n / 10, 48 + n % 10])) (w.alloc (.cells #[.int .u8 (48 + n / 10), .int .u8 (48 + n % 10)] 5)) := by
  refine Lib.BytesIn.convert (xs := [48 + n / 10, 48 + n % 10]) (fun _ => ⟨w.heap.size, 0, rfl, fun i hi => ?_⟩) rfl 2 _ 5 _ und_bytes Tryd.underlying5 (by kernel_rfl)
  have e := heap_alloc_new w (.cells #[.int .u8 (48 + n / 10), .int .u8 (48 + n % 10)] 5)
  rw [cell_of_row _ _ _ _ _ _ e]
  have hi2 : i < 2 := hi
  have : i = 0 ∨ i = 1 := by omega
  rcases this with rfl | rfl <;> rfl
 have hs : strOfNums [48 + n / 10, 48 + n % 10] = txt (T2 n) := by
  simp only [strOfNums, txt, T2, List.map_cons, List.map_nil]
  rw [show (48 + n / 10).toNat = 48 + (n / 10).toNat by omega, show (48 + n % 10).toNat = 48 + (n % 10).toNat by omega]
 rw [hs] at hcv
 clear hs
 go_enter Tryd.func64, Tryd.ntmps64
 go_wp2
 go_ret
 exact ⟨rfl, (Below.refl _ _).alloc (Nat.le_refl _) _⟩
theorem ret_2 {a b c d : Int} (h : a = b) (h2 : c = d) : Ending.returned (.tuple #[.int .i64 a, .int .i64 c]) = .returned (.tuple #[.int .i64 b, .int .i64 d]) := by rw [h, h2]
theorem bytes_toList_txt (l : List UInt8) : (txt l).toList = l := by rw [ByteArray.toList_eq, txt_data]
theorem lt_of_cellM {w : World} {p : Addr} {v : Value} (h : w.cell? p = some v) : p.block < w.heap.size := by
 unfold World.cell? at h
 cases hb : w.heap[p.block]? with
 | none => simp [hb] at h
 | some o => exact (Array.getElem?_eq_some_iff.1 hb).1
def MaxLen (w : World) : Prop := ∃ m, w.cell? ⟨0, 0, none⟩ = some (.int .i64 m)
theorem MaxLen.below {w w' : World} (h : MaxLen w) (hb : Below w.heap.size w w') : MaxLen w' := by
 obtain ⟨m, hm⟩ := h
 exact ⟨m, (hb.cell (show (⟨0, 0, none⟩ : Addr).block < w.heap.size from lt_of_cellM hm)).trans hm⟩
theorem below_drewN0 (w : World) (n : Nat) : Below w.heap.size w (w.drewN n) := below_drewN' (Below.refl _ _) n
theorem cut_any (s p : List UInt8) (w : World) (hs : s.length < 4294967281) (hm : MaxLen w) :
 Calls Tryd.prog 74 #[.string (txt s), .string (txt p)] w fun e w' => e = .returned (.tuple #[.string (txt (Lib.cut s p).1), .string (txt (Lib.cut s p).2.1), .bool (Lib.cut s p).2.2]) ∧ Below w.heap.size w w' := by
 obtain ⟨m, hm⟩ := hm
 have := Tryd.strings_Cut (txt s) (txt p) m w (by rw [txt_size]; exact hs) hm
 rw [txt_data, txt_data] at this
 refine this.mono ?_
 rintro e w' ⟨rfl, n, rfl⟩
 exact ⟨rfl, below_drewN0 w n⟩
end Go.Proofs.YtomahddiclkepaaDoor
