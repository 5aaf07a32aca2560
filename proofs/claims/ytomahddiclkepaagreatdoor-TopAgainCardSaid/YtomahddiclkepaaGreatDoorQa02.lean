/- The maker of a table: Begin, number, Change. The maker of a table: Change. table.Begin; norm.Of: a table's normal form. norm.Of: small facts of boxes and tables. rule.IsName: what it returns. Times and spans as texts, in plain Lean. clock.two: what it returns. clock.Floor: what it returns. clock.Stamp: what it returns. -/
import Derived.Test.YtomahddiclkepaaGreatDoorQa01
import Derived.Lib.Hide
import Derived.Lib.SmallJoins
import Derived.Test.YtomahddiclkepaaGreatDoorCivMath
import Derived.Lib.ItoaNum
import Derived.Test.YtomahddiclkepaaGreatDoorCiv0
import Derived.Test.YtomahddiclkepaaGreatDoorShelf
import Derived.Shelf.Bytes.SlEqualAll
import Derived.Lib.AppendIntMem
import Derived.Test.YtomahddiclkepaaGreatDoorCiv3a
namespace Go.Proofs.YtomahddiclkepaaGreatDoor
open Go.RowKit Go.Joins
open Classical
set_option linter.unusedVariables false
set_option linter.unusedSimpArgs false
theorem undTypesN : Tryz.prog.underlying 55 = some (.slice 51) := by kernel_rfl
theorem undChsN : Tryz.prog.underlying 56 = some (.slice 61) := by kernel_rfl
theorem infoTyN : (Tryz.prog.info? 51).map (fun i => (i.zero, i.size, i.bytes)) = some (some (.agg #[.int .i64 0, .bool false, .string ⟨#[]⟩]), 3, 32) := by kernel_rfl
theorem infoChN : (Tryz.prog.info? 61).map (fun i => (i.zero, i.size, i.bytes)) = some (some (.agg #[.int .i64 0, .int .i64 0]), 2, 16) := by kernel_rfl
structure Mk (W : World) (M b0 : Nat) (sv cv : Value) (s : NS) : Prop where
 blk : W.heap[M]? = some (.cells #[sv, .int .i64 0, cv, .int .i64 s.last.off, .bool s.last.save, .string s.last.name] 133 (0, 0))
 hM : b0 ≤ M
 rowT : W.ownsRow b0 51 3 sv s.types.length (tyCells s.types)
 rowC : W.ownsRow b0 61 2 cv s.chs.length (chCells s.chs)
section
variable {W W' : World} {M b0 : Nat} {sv cv : Value} {s : NS}
theorem Mk.lt (h : Mk W M b0 sv cv s) : M < W.heap.size := (Array.getElem?_eq_some_iff.mp h.blk).1
theorem Mk.neT (h : Mk W M b0 sv cv s) : sv.ownBlock ≠ some M := by
 rcases h.rowT.2 with ⟨e, _⟩ | ⟨g, cap, cur, e, _, hg, _⟩
 ·rw [e]; simp [Value.ownBlock]
 ·rw [e]
  simp only [Value.ownBlock]
  intro e2
  injection e2 with e2
  subst e2
  rw [h.blk] at hg
  injection hg with hg
  injection hg with _ h2 _
  exact absurd h2 (by decide)
theorem Mk.neC (h : Mk W M b0 sv cv s) : cv.ownBlock ≠ some M := by
 rcases h.rowC.2 with ⟨e, _⟩ | ⟨g, cap, cur, e, _, hg, _⟩
 ·rw [e]; simp [Value.ownBlock]
 ·rw [e]
  simp only [Value.ownBlock]
  intro e2
  injection e2 with e2
  subst e2
  rw [h.blk] at hg
  injection hg with hg
  injection hg with _ h2 _
  exact absurd h2 (by decide)
theorem Mk.keep (h : Mk W M b0 sv cv s) (hk : ∀ b, b < W.heap.size → W'.heap[b]? = W.heap[b]?) : Mk W' M b0 sv cv s :=
 ⟨(hk _ h.lt).trans h.blk, h.hM, own_keep h.rowT fun g e => hk g (World.ownsRow.lt h.rowT g e).2, own_keep h.rowC fun g e => hk g (World.ownsRow.lt h.rowC g e).2⟩
theorem Mk.below (h : Mk W M b0 sv cv s) (hb : Below W.heap.size W W') : Mk W' M b0 sv cv s := h.keep hb.block
theorem Mk.alloc (h : Mk W M b0 sv cv s) (o : Obj) : Mk (W.alloc o) M b0 sv cv s := h.keep fun b hb => Below.heap_alloc _ _ _ hb
end
theorem mkCells {w : World} {M : Nat} {a b c d e f : Value} {T : TypeId} (h : w.heap[M]? = some (.cells #[a, b, c, d, e, f] T (0, 0))) :
  w.cell? ⟨M, 0, none⟩ = some a ∧ w.cell? ⟨M, 1, none⟩ = some b ∧ w.cell? ⟨M, 2, none⟩ = some c ∧ w.cell? ⟨M, 3, none⟩ = some d ∧ w.cell? ⟨M, 4, none⟩ = some e ∧ w.cell? ⟨M, 5, none⟩ = some f ∧
   (∀ o, w.frozen? ⟨M, o, none⟩ = false) :=
 ⟨(cell_of_row w _ 0 _ _ _ h).trans rfl, (cell_of_row w _ 1 _ _ _ h).trans rfl, (cell_of_row w _ 2 _ _ _ h).trans rfl, (cell_of_row w _ 3 _ _ _ h).trans rfl, (cell_of_row w _ 4 _ _ _ h).trans rfl, (cell_of_row w _ 5 _ _ _ h).trans rfl,
  fun o => by simp [World.frozen?, h]⟩
theorem heap_setCm {w : World} {R i : Nat} {cs : Array Value} {T : TypeId} {f : Nat × Nat} (h : w.heap[R]? = some (.cells cs T f)) (v : Value) : (w.setCell ⟨R, i, none⟩ v).heap[R]? = some (.cells (cs.setIfInBounds i v) T f) := by
 simp [World.setCell, Array.getElem?_modify, h]
set_option maxRecDepth 100000 in
set_option maxHeartbeats 2000000 in
theorem number_any (M b0 : Nat) (sv cv : Value) (s : NS) (x : Ty) (w : World) (hm : Mk w M b0 sv cv s) (hl : s.types.length ≤ 20000000) (hpos : 0 < s.types.length) (hn : ∀ y ∈ s.types, y.name.size ≤ maxLen) :
  Calls Tryz.prog 114 #[.pointer (some ⟨M, 0, none⟩), tyV x] w fun e w' => e = .returned (.int .i64 (idxTy s.types x : Nat)) ∧
   (∃ sv', Mk w' M b0 sv' cv ⟨addTy s.types x, s.chs, s.last⟩) ∧ w.heap.size ≤ w'.heap.size ∧ (∀ b, b < w.heap.size → b ≠ M → sv.ownBlock ≠ some b → w'.heap[b]? = w.heap[b]?) ∧ Below b0 w w' := by
 obtain ⟨gT, capT, rfl, hgT, hgT2⟩ := World.ownsRow.form hm.rowT hpos
 obtain ⟨m0, m1, m2, m3, m4, m5, mz⟩ := mkCells hm.blk
 have hMl := hm.lt
 have HM := Lib.hid hm
 obtain ⟨W1, eW⟩ : ∃ W1, w.alloc (.cells #[.int .i64 x.off, .bool x.save, .string x.name] 51) = W1 := ⟨_, rfl⟩
 have hm1 : Mk W1 M b0 (.slice (some ⟨gT, 0, none⟩) s.types.length capT) cv s := by rw [← eW]; exact hm.alloc _
 have hX : W1.heap[w.heap.size]? = some (.cells #[.int .i64 x.off, .bool x.save, .string x.name] 51 (0, 0)) := by rw [← eW]; exact heap_alloc_new w _
 have HI := Lib.hid (fun W hW => IndexTy_any s.types x (.slice (some ⟨gT, 0, none⟩) s.types.length capT) W hW (by omega))
 have hT := Lib.hid (own_types hm1.rowT (by omega) hn)
 obtain ⟨q0, q1, q2, q3, q4, q5, qz⟩ := mkCells hm1.blk
 have x0 : W1.cell? ⟨w.heap.size, 0, none⟩ = some (.int .i64 x.off) := (cell_of_row W1 _ 0 _ _ _ hX).trans rfl
 have x1 : W1.cell? ⟨w.heap.size, 1, none⟩ = some (.bool x.save) := (cell_of_row W1 _ 1 _ _ _ hX).trans rfl
 have x2 : W1.cell? ⟨w.heap.size, 2, none⟩ = some (.string x.name) := (cell_of_row W1 _ 2 _ _ _ hX).trans rfl
 have hW1 : W1.heap.size = w.heap.size + 1 := by rw [← eW]; simp
 have hbW1 : Below w.heap.size w W1 := by rw [← eW]; exact (Below.refl _ _).alloc (Nat.le_refl _) _
 have hbM : b0 ≤ w.heap.size := by have := hm.hM; omega
 have HM1 := Lib.hid hm1
 have HX := Lib.hid hX
 have HBW := Lib.hid hbW1
 clear hn m1 m2 m3 m4 m5 q1 q2 q3 q4 q5 hm hm1 hX hbW1
 go_enter Tryz.func114, Tryz.ntmps114
 go_wp2_with fail
 clear eW
 go_region_held3 (fun w' => w'.cell? ⟨M, 0, none⟩ = some (.slice (some ⟨gT, 0, none⟩) s.types.length capT) ∧ w'.cell? ⟨w.heap.size, 0, none⟩ = some (.int .i64 x.off) ∧ w'.cell? ⟨w.heap.size, 1, none⟩ = some (.bool x.save) ∧ w'.cell? ⟨w.heap.size, 2, none⟩ = some (.string x.name))
  (first
   | go_keep
   | (exact ⟨(hb2.cell (p := ⟨M, 0, none⟩) (by simp; omega)).trans q0, (hb2.cell (p := ⟨w.heap.size, 0, none⟩) (by simp; omega)).trans x0, (hb2.cell (p := ⟨w.heap.size, 1, none⟩) (by simp; omega)).trans x1, (hb2.cell (p := ⟨w.heap.size, 2, none⟩) (by simp; omega)).trans x2⟩))
  (first
   | (go_at_call 152; refine (HI.out _ (SlTy.below hT.out (below_drewNm (Below.refl _ _) 1))).mono ?_; rintro e w2 ⟨rfl, hb2⟩))
 have hsz2 : W1.heap.size ≤ w2.heap.size := by have := hb2.size; simpa using this
 have HM2 := Lib.hid (HM1.out.keep (W' := w2) fun b hb => (hb2.block b (by simpa using hb)).trans rfl)
 have HX2 := Lib.hid ((hb2.block w.heap.size (by simp; omega)).trans (show W1.drew.heap[w.heap.size]? = _ from HX.out))
 have HB2 := Lib.hid (HBW.out.trans ((below_drewNm (Below.refl _ W1) 1).mono (by have := HBW.out.size; omega)) |>.trans (hb2.mono (by simp; omega)))
 clear hb2 q0 x0 x1 x2
 by_cases hx : x ∈ s.types
 ·have hI : Hid (idxI s.types x = (idxTy s.types x : Int)) := by show _ = _; unfold idxI; rw [if_pos hx]
  have hA : Hid (addTy s.types x = s.types) := by show _ = _; unfold addTy; rw [if_pos hx]
  obtain ⟨I, eI⟩ : ∃ I, idxTy s.types x = I := ⟨_, rfl⟩
  rw [eI] at hI
  rw [hI.out]
  have EI := Lib.hid eI
  clear hx eI
  go_wp2
  go_ret
  refine ⟨ret_int' (by rw [EI.out]), ⟨_, by rw [hA.out]; exact HM2.out⟩, by omega, fun b hb _ _ => HB2.out.block b hb, HB2.out.mono hbM⟩
 ·have hI : Hid (idxI s.types x = -1) := by show _ = _; unfold idxI; rw [if_neg hx]
  have hA : Hid (addTy s.types x = s.types ++ [x]) := by show _ = _; unfold addTy; rw [if_neg hx]
  have hJ : Hid (idxTy s.types x = s.types.length) := by show _ = _; exact idx_out hx
  rw [hI.out]
  obtain ⟨i0, hi, hz0, hz1, hz2⟩ := info_parts infoTyN
  obtain ⟨q0, q1, q2, q3, q4, q5, qz⟩ := mkCells HM2.out.blk
  have x0 : w2.cell? ⟨w.heap.size, 0, none⟩ = some (.int .i64 x.off) := (cell_of_row w2 _ 0 _ _ _ HX2.out).trans rfl
  have x1 : w2.cell? ⟨w.heap.size, 1, none⟩ = some (.bool x.save) := (cell_of_row w2 _ 1 _ _ _ HX2.out).trans rfl
  have x2 : w2.cell? ⟨w.heap.size, 2, none⟩ = some (.string x.name) := (cell_of_row w2 _ 2 _ _ _ HX2.out).trans rfl
  have hMg : M ≠ gT := fun e => HM2.out.neT (by rw [e]; rfl)
  have HL1 : Hid (s.types.length + 1 ≤ maxLen) := by show _ ≤ _; simp only [maxLen]; omega
  have HL2 : Hid ((s.types.length + 1) * 32 ≤ 140737488355328) := by show _ ≤ _; omega
  have H1 : Hid (∀ u ∈ [Value.int .i64 x.off, .bool x.save, .string x.name], u.oneCell' = true) := by intro u hu; simp at hu; rcases hu with rfl | rfl | rfl <;> rfl
  have HB3 : Hid (∀ o : Obj, b0 ≤ ((w2.alloc o).drew).heap.size) := fun o => by simp; omega
  have HS3 : Hid (∀ o : Obj, ((w2.alloc o).drew).heap.size = w2.heap.size + 1) := fun o => by simp
  have hw2M : M < w2.heap.size := HM2.out.lt
  clear hx q1 q2 q3 q4 q5
  go_wp2_with fail
  go_region_law (first
    | (refine step_append_lies _ (by rfl) _ _ _ (by rfl) b0 51 i0 _ 3 32 undTypesN hi hz0 hz1 hz2 rfl (by omega) (.slice (some ⟨gT, 0, none⟩) s.types.length capT) s.types.length (tyCells s.types) (by rfl) (World.ownsRow.drew (World.ownsRow.alloc HM2.out.rowT _)) ⟨w2.heap.size, 0, none⟩ 1 1 [.int .i64 x.off, .bool x.save, .string x.name] (by rfl) (by rfl) (World.news_of_block (cs := #[.int .i64 x.off, .bool x.save, .string x.name]) (t := 51) (fr := (0, 0)) (heap_alloc_new w2 _)) H1.out Nat.one_pos HL1.out HL2.out (HB3.out _) (w2.heap.size + 1) (HS3.out _) ?_; intro g5 cap5 w5 hown5 hg5 hat5 hlt5; have hk5 : ∀ b, b < w2.heap.size → b ≠ gT → w5.heap[b]? = w2.heap[b]? := (fun b hb hne => (hg5.block b (by simp; omega) (by simp only [Value.ownBlock]; intro e; injection e with e; exact hne e)).trans (Below.heap_alloc w2 _ b hb)); have y5 := (hk5 M hw2M hMg).trans HM2.out.blk; have z5 := (hk5 w.heap.size (by omega) (by omega)).trans HX2.out; have t0 := (cell_of_row w5 _ 0 _ _ _ y5).trans (show _ = some (Value.slice (some ⟨gT, 0, none⟩) s.types.length capT) from rfl); have t1 := (cell_of_row w5 _ 0 _ _ _ z5).trans (show _ = some (Value.int .i64 x.off) from rfl); have t2 := (cell_of_row w5 _ 1 _ _ _ z5).trans (show _ = some (Value.bool x.save) from rfl); have t3 := (cell_of_row w5 _ 2 _ _ _ z5).trans (show _ = some (Value.string x.name) from rfl); have tz : w5.frozen? ⟨M, 0, none⟩ = false := (by simp [World.frozen?, y5])))
  all_goals
   have hg5M : g5 ≠ M := by
    rcases hat5 with e | e
    ·simp only [Value.ownBlock] at e
     injection e with e
     omega
    ·omega
   have b5 : Below b0 w w5 := (HB2.out.mono hbM).trans ((((Below.refl b0 w2).alloc (by omega) _).drew).grown hg5 (HB3.out _) (fun k e => by simp only [Value.ownBlock] at e; injection e with e; omega))
   have hC5 : w5.ownsRow b0 61 2 cv s.chs.length (chCells s.chs) := own_keep HM2.out.rowC fun g e => hk5 g (World.ownsRow.lt HM2.out.rowC g e).2 (fun e2 => by
    rcases own_apart HM2.out.rowT HM2.out.rowC (by decide) with h | h
    ·simp [Value.ownBlock] at h
    ·exact h (by rw [e, e2]; rfl))
   go_wp2
   go_ret
   refine ⟨ret_int' (by rw [hJ.out]), ⟨.slice (some ⟨g5, 0, none⟩) (s.types.length + 1) cap5, ⟨(heap_setCm y5 _).trans rfl, HM2.out.hM, ?_, ?_⟩⟩, by have := hg5.size; simp [World.setCell] at this ⊢; omega, ?_, b5.setCell (by show b0 ≤ M; exact HM2.out.hM) _⟩
   ·rw [hA.out, tyCells_snoc, List.length_append]
    exact own_keep hown5 fun g e => Below.heap_setCell _ _ _ _ (by simp only [Value.ownBlock] at e; injection e with e; show g ≠ M; omega)
   ·exact own_keep hC5 fun g e => Below.heap_setCell _ _ _ _ (fun e2 => HM2.out.neC (by rw [e, e2]))
   ·intro b hb hne1 hne2
    rw [Below.heap_setCell _ _ _ _ (by show b ≠ M; exact hne1), hk5 b (by omega) (fun e => hne2 (by rw [e]; rfl))]
    exact HB2.out.block b hb
end Go.Proofs.YtomahddiclkepaaGreatDoor
namespace Go.Proofs.YtomahddiclkepaaGreatDoor
open Go.RowKit Go.Joins
open Classical
set_option linter.unusedVariables false
set_option linter.unusedSimpArgs false
structure NSm (s : NS) : Prop where
 tl : s.types.length ≤ 2000000
 cl : s.chs.length ≤ 20000000
 pos : 0 < s.types.length
 nm : ∀ y ∈ s.types, y.name.size ≤ maxLen
set_option maxRecDepth 100000 in
set_option maxHeartbeats 2000000 in
theorem Change_same (M b0 : Nat) (sv cv : Value) (s : NS) (t : Int) (x : Ty) (w : World) (hm : Mk w M b0 sv cv s) (hb0 : b0 ≤ w.heap.size) (hx : x = s.last) :
  Calls Tryz.prog 57 #[.pointer (some ⟨M, 0, none⟩), .int .i64 t, tyV x] w fun e w' => e = .returned (.tuple #[]) ∧ Mk w' M b0 sv cv s ∧ Below b0 w w' ∧ ∀ b, b < w.heap.size → b ≠ M → sv.ownBlock ≠ some b → cv.ownBlock ≠ some b → w'.heap[b]? = w.heap[b]? := by
 subst hx
 obtain ⟨m0, m1, m2, m3, m4, m5, mz⟩ := mkCells hm.blk
 have hMl := hm.lt
 have HM := Lib.hid hm
 have hq := neq_tyN s.last s.last
 simp only [decide_true, Bool.not_true] at hq
 obtain ⟨L, eL⟩ : ∃ L, s.last = L := ⟨_, rfl⟩
 rw [eL] at m3 m4 m5 hq
 rw [eL]
 have hm' := hm
 clear hm m0 m1 m2 hm'
 go_enter Tryz.func57, Tryz.ntmps57
 go_wp2
 go_quiet (fail)
 go_wp2
 go_end0
 exact ⟨rfl, (HM.out.alloc _).keep (fun b hb => rfl), below_drewNm ((Below.refl _ _).alloc hb0 _) _, fun b hb _ _ _ => Below.heap_alloc w _ b hb⟩
set_option maxRecDepth 100000 in
set_option maxHeartbeats 4000000 in
theorem Change_other (M b0 : Nat) (sv cv : Value) (s : NS) (t : Int) (x : Ty) (w : World) (hm : Mk w M b0 sv cv s) (hb0 : b0 ≤ w.heap.size) (hs : NSm s) (hx : x ≠ s.last) :
  Calls Tryz.prog 57 #[.pointer (some ⟨M, 0, none⟩), .int .i64 t, tyV x] w fun e w' => e = .returned (.tuple #[]) ∧ (∃ sv' cv', Mk w' M b0 sv' cv' ⟨addTy s.types x, s.chs ++ [⟨t, (idxTy s.types x : Nat)⟩], x⟩) ∧ Below b0 w w' ∧ ∀ b, b < w.heap.size → b ≠ M → sv.ownBlock ≠ some b → cv.ownBlock ≠ some b → w'.heap[b]? = w.heap[b]? := by
 obtain ⟨A, cC, rfl⟩ := own_sliceN hm.rowC
 obtain ⟨m0, m1, m2, m3, m4, m5, mz⟩ := mkCells hm.blk
 have hMl := hm.lt
 have HM := Lib.hid hm
 obtain ⟨W1, eW⟩ : ∃ W1, w.alloc (.cells #[.int .i64 x.off, .bool x.save, .string x.name] 51) = W1 := ⟨_, rfl⟩
 have hm1 : Mk W1 M b0 sv (.slice A s.chs.length cC) s := by rw [← eW]; exact hm.alloc _
 have hX : W1.heap[w.heap.size]? = some (.cells #[.int .i64 x.off, .bool x.save, .string x.name] 51 (0, 0)) := by rw [← eW]; exact heap_alloc_new w _
 have hW1 : W1.heap.size = w.heap.size + 1 := by rw [← eW]; simp
 have HK1 : Hid (∀ b, b < w.heap.size → W1.heap[b]? = w.heap[b]?) := by
  show ∀ b, _
  intro b hb
  rw [← eW]
  exact Below.heap_alloc w _ b hb
 have hbW1 : Below b0 w W1 := by rw [← eW]; exact (Below.refl _ _).alloc hb0 _
 obtain ⟨q0, q1, q2, q3, q4, q5, qz⟩ := mkCells hm1.blk
 have x0 : W1.cell? ⟨w.heap.size, 0, none⟩ = some (.int .i64 x.off) := (cell_of_row W1 _ 0 _ _ _ hX).trans rfl
 have x1 : W1.cell? ⟨w.heap.size, 1, none⟩ = some (.bool x.save) := (cell_of_row W1 _ 1 _ _ _ hX).trans rfl
 have x2 : W1.cell? ⟨w.heap.size, 2, none⟩ = some (.string x.name) := (cell_of_row W1 _ 2 _ _ _ hX).trans rfl
 have hq := neq_tyN x s.last
 have hd : decide (x = s.last) = false := by simpa using hx
 simp only [hd, Bool.not_false] at hq
 have HM1 := Lib.hid hm1
 have HX := Lib.hid hX
 have HBW := Lib.hid hbW1
 have HNM := Lib.hid hs.nm
 have htl := hs.tl
 have hcl := hs.cl
 have hpos := hs.pos
 have hsvX : ∀ g, sv.ownBlock = some g → g < w.heap.size := fun g e => (World.ownsRow.lt hm.rowT g e).2
 have HSV := Lib.hid hsvX
 obtain ⟨i1, hi1, hz10, hz11, hz12⟩ := info_parts infoChN
 have HL1 : Hid (s.chs.length + 1 ≤ maxLen) := by show _ ≤ _; simp only [maxLen]; omega
 have HL2 : Hid ((s.chs.length + 1) * 16 ≤ 140737488355328) := by show _ ≤ _; omega
 have H1 : Hid (∀ u ∈ [Value.int .i64 t, .int .i64 ((idxTy s.types x : Nat) : Int)], u.oneCell' = true) := by intro u hu; simp at hu; rcases hu with rfl | rfl <;> rfl
 obtain ⟨I, eI⟩ : ∃ I, idxTy s.types x = I := ⟨_, rfl⟩
 rw [eI] at H1
 have EI := Lib.hid eI
 clear hx hd hm1 hX hbW1 hs m0 m1 m2 m3 m4 m5 hsvX hm eI
 go_enter Tryz.func57, Tryz.ntmps57
 go_wp2
 go_quiet (fail)
 go_wp2_with fail
 obtain ⟨W2, e2⟩ : ∃ W2, W1.drewN nq = W2 := ⟨_, rfl⟩
 have hh2 : W2.heap = W1.heap := by rw [← e2]; rfl
 have hM2 : Mk W2 M b0 sv (.slice A s.chs.length cC) s := HM1.out.keep fun b hb => by rw [hh2]
 have hX2 : W2.heap[w.heap.size]? = some (.cells #[.int .i64 x.off, .bool x.save, .string x.name] 51 (0, 0)) := by rw [hh2]; exact HX.out
 have hB2 : Below b0 w W2 := by rw [← e2]; exact below_drewNm HBW.out _
 have hW2 : W2.heap.size = w.heap.size + 1 := by rw [hh2]; exact hW1
 have HK2 : Hid (∀ b, b < w.heap.size → W2.heap[b]? = w.heap[b]?) := by
  show ∀ b, _
  intro b hb
  rw [hh2]
  exact HK1.out b hb
 rw [e2]
 clear e2 hh2 q0 q1 q2 q3 q4 q5 x0 x1 x2 qz eW
 obtain ⟨r0, r1, r2, r3, r4, r5, rz⟩ := mkCells hM2.blk
 have y0 : W2.cell? ⟨w.heap.size, 0, none⟩ = some (.int .i64 x.off) := (cell_of_row W2 _ 0 _ _ _ hX2).trans rfl
 have y1 : W2.cell? ⟨w.heap.size, 1, none⟩ = some (.bool x.save) := (cell_of_row W2 _ 1 _ _ _ hX2).trans rfl
 have y2 : W2.cell? ⟨w.heap.size, 2, none⟩ = some (.string x.name) := (cell_of_row W2 _ 2 _ _ _ hX2).trans rfl
 have HM2 := Lib.hid hM2
 have HX2 := Lib.hid hX2
 have HB2 := Lib.hid hB2
 have HMD := Lib.hid (hM2.keep (W' := W2.drew) fun b hb => rfl)
 have HNU := Lib.hid (number_any M b0 sv (.slice A s.chs.length cC) s x W2.drew HMD.out (by omega) hpos HNM.out)
 rw [EI.out] at HNU
 clear hM2 hX2 hB2 r0 r1 r3 r4 r5
 go_region_law (first
  | (refine step_append_lies _ (by rfl) _ _ _ (by rfl) b0 61 i1 _ 2 16 undChsN hi1 hz10 hz11 hz12 rfl (by omega) (.slice A s.chs.length cC) s.chs.length (chCells s.chs) (by rfl) (World.ownsRow.alloc HM4.out.rowC _) ⟨w4.heap.size, 0, none⟩ 1 1 [.int .i64 t, .int .i64 ((I : Nat) : Int)] (by rfl) (by rfl) (World.news_of_block (cs := #[.int .i64 t, .int .i64 ((I : Nat) : Int)]) (t := 61) (fr := (0, 0)) (heap_alloc_new w4 _)) H1.out Nat.one_pos HL1.out HL2.out (HB4.out _) (w4.heap.size + 1) (by simp) ?_; intro g6 cap6 w6 hown6 hg6 hat6 hlt6; have hk6 : ∀ b, b < w4.heap.size → (Value.slice A s.chs.length cC).ownBlock ≠ some b → w6.heap[b]? = w4.heap[b]? := (fun b hb hne => (hg6.block b (by simp; omega) (fun e => hne e.symm)).trans (Below.heap_alloc w4 _ b hb)); have y6 := (hk6 M HM4.out.lt HM4.out.neC).trans HM4.out.blk; have t2 := (cell_of_row w6 _ 2 _ _ _ y6).trans (show _ = some (Value.slice A s.chs.length cC) from rfl); have tz : w6.frozen? ⟨M, 2, none⟩ = false := (by simp [World.frozen?, y6]))
  | (go_simp; go_at_call 114; refine HNU.out.mono ?_; rintro e w4 ⟨rfl, ⟨sv4, hM4⟩, hsz4, hk4, hb4⟩; obtain ⟨p0, p1, p2, p3, p4, p5, pz⟩ := mkCells hM4.blk; have hM4l : M < w4.heap.size := hM4.lt; have HM4 := Lib.hid hM4; have HB4 : Hid (∀ o : Obj, b0 ≤ (w4.alloc o).heap.size) := (fun o => by have := hb4.size; simp at this ⊢; omega)))
 all_goals
  have hXne : (Value.slice A s.chs.length cC).ownBlock ≠ some w.heap.size := fun e => by
   have h1 := (World.ownsRow.lt HM.out.rowC _ e).2
   omega
  have hX4 : w4.heap[w.heap.size]? = some (.cells #[.int .i64 x.off, .bool x.save, .string x.name] 51 (0, 0)) := (hk4 w.heap.size (by simp; omega) (by omega) (fun e => by have := HSV.out _ e; omega)).trans HX2.out
  have hXl4 : w.heap.size < w4.heap.size := (Array.getElem?_eq_some_iff.mp hX4).1
  have hX6 := (hk6 w.heap.size hXl4 hXne).trans hX4
  have hg6M : g6 ≠ M := by
   rcases hat6 with e | e
   ·intro e2; exact HM4.out.neC (by rw [e, e2])
   ·have := HM4.out.lt; omega
  have b6 : Below b0 w w6 := (HB2.out.trans ((below_drewNm (Below.refl b0 W2) 1).trans hb4)).trans (((Below.refl b0 w4).alloc (by have := HM4.out.hM; have := HM4.out.lt; omega) _).grown hg6 (HB4.out _) (fun k e => (World.ownsRow.lt HM4.out.rowC k e).1))
  obtain ⟨W7, e7⟩ : ∃ W7, w6.setCell ⟨M, 2, none⟩ (.slice (some ⟨g6, 0, none⟩) (s.chs.length + 1) cap6) = W7 := ⟨_, rfl⟩
  rw [e7]
  have h7 : W7.heap[M]? = some (.cells #[sv4, .int .i64 0, .slice (some ⟨g6, 0, none⟩) (s.chs.length + 1) cap6, .int .i64 s.last.off, .bool s.last.save, .string s.last.name] 133 (0, 0)) := by rw [← e7]; exact (heap_setCm y6 _).trans rfl
  have k7 : ∀ b, b ≠ M → W7.heap[b]? = w6.heap[b]? := fun b hb => by rw [← e7]; exact Below.heap_setCell _ _ _ _ hb
  have b7 : Below b0 w W7 := by rw [← e7]; exact b6.setCell (by show b0 ≤ M; exact HM4.out.hM) _
  obtain ⟨-, -, -, u3, u4, u5, uz⟩ := mkCells h7
  have hX7 := (k7 w.heap.size (by omega)).trans hX6
  have z0 : W7.cell? ⟨w.heap.size, 0, none⟩ = some (.int .i64 x.off) := (cell_of_row W7 _ 0 _ _ _ hX7).trans rfl
  have z1 : W7.cell? ⟨w.heap.size, 1, none⟩ = some (.bool x.save) := (cell_of_row W7 _ 1 _ _ _ hX7).trans rfl
  have z2 : W7.cell? ⟨w.heap.size, 2, none⟩ = some (.string x.name) := (cell_of_row W7 _ 2 _ _ _ hX7).trans rfl
  have uz3 := uz 3
  have uz4 := uz 4
  have uz5 := uz 5
  have HK6 := Lib.hid hk6
  clear e7 hk6 t2 tz p0 p1 p2 p3 p4 p5 pz
  go_wp2
  go_end0
  have kE : ∀ b, b ≠ M → (((W7.setCell ⟨M, 3, none⟩ (.int .i64 x.off)).setCell ⟨M, 4, none⟩ (.bool x.save)).setCell ⟨M, 5, none⟩ (.string x.name)).heap[b]? = w6.heap[b]? := fun b hb =>
   ((Below.heap_setCell _ _ _ _ hb).trans ((Below.heap_setCell _ _ _ _ hb).trans (Below.heap_setCell _ _ _ _ hb))).trans (k7 b hb)
  refine ⟨rfl, ⟨sv4, .slice (some ⟨g6, 0, none⟩) (s.chs.length + 1) cap6, ⟨(heap_setCm (heap_setCm (heap_setCm h7 _) _) _).trans rfl, HM4.out.hM, ?_, ?_⟩⟩, ((b7.setCell (by show b0 ≤ M; exact HM4.out.hM) _).setCell (by show b0 ≤ M; exact HM4.out.hM) _).setCell (by show b0 ≤ M; exact HM4.out.hM) _, fun b hb n1 n2 n3 => (kE b n1).trans ((HK6.out b (by have := hb4.size; simp at this; omega) n3).trans ((hk4 b (by simp; omega) n1 n2).trans (HK2.out b hb)))⟩
  ·refine own_keep HM4.out.rowT fun g e => (kE g (fun e2 => HM4.out.neT (by rw [e, e2]))).trans ((hg6.block g (by have := (World.ownsRow.lt HM4.out.rowT g e).2; simp; omega) (fun e2 => ?_)).trans (Below.heap_alloc w4 _ g (World.ownsRow.lt HM4.out.rowT g e).2))
   rcases own_apart HM4.out.rowT HM4.out.rowC (by decide) with h | h
   ·rw [h] at e; cases e
   ·exact h (by rw [e, e2])
  ·rw [chCells_snoc, List.length_append, EI.out]
   exact own_keep hown6 fun g e => kE g (by simp only [Value.ownBlock] at e; injection e with e; omega)
theorem ChangeK_any (M b0 : Nat) (sv cv : Value) (s : NS) (t : Int) (x : Ty) (w : World) (hm : Mk w M b0 sv cv s) (hb0 : b0 ≤ w.heap.size) (hs : NSm s) :
  Calls Tryz.prog 57 #[.pointer (some ⟨M, 0, none⟩), .int .i64 t, tyV x] w fun e w' => e = .returned (.tuple #[]) ∧ (∃ sv' cv', Mk w' M b0 sv' cv' (stepN s (t, x))) ∧ Below b0 w w' ∧ ∀ b, b < w.heap.size → b ≠ M → sv.ownBlock ≠ some b → cv.ownBlock ≠ some b → w'.heap[b]? = w.heap[b]? := by
 unfold stepN
 by_cases h : x = s.last
 ·rw [if_pos h]
  exact (Change_same M b0 sv cv s t x w hm hb0 h).mono fun e w' ⟨a, b, c, d⟩ => ⟨a, ⟨_, _, b⟩, c, d⟩
 ·rw [if_neg h]
  exact Change_other M b0 sv cv s t x w hm hb0 hs h
theorem Change_any (M b0 : Nat) (sv cv : Value) (s : NS) (t : Int) (x : Ty) (w : World) (hm : Mk w M b0 sv cv s) (hb0 : b0 ≤ w.heap.size) (hs : NSm s) :
  Calls Tryz.prog 57 #[.pointer (some ⟨M, 0, none⟩), .int .i64 t, tyV x] w fun e w' => e = .returned (.tuple #[]) ∧ (∃ sv' cv', Mk w' M b0 sv' cv' (stepN s (t, x))) ∧ Below b0 w w' :=
 (ChangeK_any M b0 sv cv s t x w hm hb0 hs).mono fun e w' ⟨a, b, c, _⟩ => ⟨a, b, c⟩
theorem mk_begin (W0 : World) (x : Ty) (b0 : Nat) (hb : b0 ≤ W0.heap.size) :
  Mk ((W0.alloc (.cells #[.int .i64 x.off, .bool x.save, .string x.name] 51)).alloc (.cells #[.slice (some ⟨W0.heap.size, 0, none⟩) 1 1, .int .i64 0, .slice none 0 0, .int .i64 x.off, .bool x.save, .string x.name] 133))
   (W0.heap.size + 1) b0 (.slice (some ⟨W0.heap.size, 0, none⟩) 1 1) (.slice none 0 0) (begN x) := by
 refine ⟨?_, by omega, ⟨rfl, .inr ⟨W0.heap.size, 1, _, rfl, hb, (Below.heap_alloc _ _ _ (by simp)).trans (heap_alloc_new W0 _), Nat.le_refl _, by decide, rfl, rfl⟩⟩, World.ownsRow_nil _ _ _ _⟩
 have := heap_alloc_new (W0.alloc (.cells #[.int .i64 x.off, .bool x.save, .string x.name] 51)) (.cells #[.slice (some ⟨W0.heap.size, 0, none⟩) 1 1, .int .i64 0, .slice none 0 0, .int .i64 x.off, .bool x.save, .string x.name] 133)
 simpa [begN] using this
set_option maxHeartbeats 1000000 in
theorem Begin_any (x : Ty) (w : World) :
  Calls Tryz.prog 55 #[tyV x] w fun e w' => ∃ M sv cv, e = .returned (.pointer (some ⟨M, 0, none⟩)) ∧ Mk w' M w.heap.size sv cv (begN x) ∧ Below w.heap.size w w' := by
 go_enter Tryz.func55, Tryz.ntmps55
 go_wp2
 go_ret
 obtain ⟨W0, e0⟩ : ∃ W0, w.alloc (.cells #[.int .i64 x.off, .bool x.save, .string x.name] 51) = W0 := ⟨_, rfl⟩
 have hz0 : W0.heap.size = w.heap.size + 1 := by rw [← e0]; simp
 have hb0 : Below w.heap.size w W0 := by rw [← e0]; exact (Below.refl _ _).alloc (Nat.le_refl _) _
 have h := mk_begin W0 x w.heap.size (by omega)
 rw [hz0, ← e0] at h
 refine ⟨_, _, _, rfl, h, ?_⟩
 exact (((Below.refl _ _).alloc (Nat.le_refl _) _).alloc (by simp) _).alloc (by simp; omega) _
theorem abbr_sizeT (x : Ty) (h : abbrB x.name = true) : x.name.size ≤ 8 := by
 unfold abbrB allB at h
 simp only [Bool.and_eq_true, decide_eq_true_eq] at h
 omega
theorem end_cellsM {W : World} {g : Nat} {a b c : Value} {T : TypeId} (h : W.heap[g]? = some (.cells #[a, b, c] T (0, 0))) (x y z : Value) :
  ∃ W', ((W.setCell ⟨g, 0, none⟩ x).setCell ⟨g, 1, none⟩ y).setCell ⟨g, 2, none⟩ z = W' ∧ (∀ B, B ≤ g → Below B W W') ∧ W'.heap[g]? = some (.cells #[x, y, z] T (0, 0)) ∧ ∀ b, b ≠ g → W'.heap[b]? = W.heap[b]? := by
 refine ⟨_, rfl, fun B hB => (((Below.refl _ _).setCell (by exact hB) _).setCell (by exact hB) _).setCell (by exact hB) _, ?_, fun b hb => (Below.heap_setCell _ _ _ _ hb).trans ((Below.heap_setCell _ _ _ _ hb).trans (Below.heap_setCell _ _ _ _ hb))⟩
 rw [heap_setCm (i := 2) (heap_setCm (i := 1) (heap_setCm (i := 0) h x) y) z]
 rfl
theorem squ_len (l : List (Int × Ty)) (x : Ty) : (squ x l).length ≤ l.length := (squ_sub l x).length_le
theorem make_small (t : Tab) (ok : OkTab t) (k : Nat) : NSm (((resL t).take k).foldl stepN (begN (resH t))) := by
 have inv := makeN_inv ((resL t).take k) (begN (resH t)) (begN_inv (resH t))
 have hty : ∀ y ∈ (((resL t).take k).foldl stepN (begN (resH t))).types, y ∈ t.types := by
  intro y hy
  rcases makeN_types (x := resH t) ((resL t).take k) (begN (resH t)) y hy with h | ⟨c, hc, rfl⟩
  ·simp only [begN, List.mem_singleton] at h
   subst h
   exact tyD_mem _ _ ok.first.1 ok.first.2
  ·obtain ⟨d, hd, rfl⟩ := List.mem_map.1 (List.mem_of_mem_take hc)
   have := ok.ch d hd
   exact tyD_mem _ _ this.2.2.1 this.2.2.2
 have hlen : (((resL t).take k).foldl stepN (begN (resH t))).types.length ≤ t.types.length := length_sub _ _ inv.nodup hty
 have hch : (((resL t).take k).foldl stepN (begN (resH t))).chs.length ≤ t.chs.length := by
  have h := makeN_res ((resL t).take k) (begN (resH t)) (begN_inv (resH t))
  have h2 := congrArg List.length h
  unfold resS at h2
  simp only [List.length_map, List.length_append] at h2
  have h3 := squ_len ((resL t).take k) (begN (resH t)).last
  have h4 : ((resL t).take k).length ≤ t.chs.length := by simp [resL]; omega
  have h5 : (begN (resH t)).chs.length = 0 := rfl
  omega
 refine ⟨by have := ok.many; omega, by have := ok.chs; omega, inv.pos, fun y hy => ?_⟩
 have h := (ok.type y (hty y hy)).2.2
 have := abbr_sizeT y h
 unfold maxLen; omega
set_option maxRecDepth 100000 in
set_option maxHeartbeats 4000000 in
theorem NOf_any (t : Tab) (v : Value) (w : World) (hv : TabAt w v t) (ok : OkTab t) :
  Calls Tryz.prog 65 #[v] w fun e w' => ∃ v', e = .returned v' ∧ TabAt w' v' (normT t) ∧ Below w.heap.size w w' := by
 obtain ⟨sv, cv, rfl, ⟨⟨p, cap, rfl, hs⟩, hl1, hnm⟩, ⟨⟨p2, cap2, rfl, hc⟩, hl2⟩⟩ := hv.val
 obtain ⟨b, o, rfl, hb, hty⟩ := hs ok.ne
 have hmany := ok.many
 have hchs := ok.chs
 have hf0 := ok.first.1
 have hf1 := ok.first.2
 have hMS := Lib.hid (make_small t ok)
 have HCH := Lib.hid ok.ch
 have HTY := Lib.hid hty
 have HCC := Lib.hid hc
 -- the first type
 have hfn : t.first.toNat < t.types.length := by omega
 have hH : Hid (t.types[t.first.toNat] = resH t) := by show _ = _; unfold resH tyD; rw [List.getElem?_eq_getElem hfn]; rfl
 have a0 := (hty t.first.toNat hfn)
 obtain ⟨H, eH⟩ : ∃ H, resH t = H := ⟨_, rfl⟩
 have HEH := Lib.hid eH
 rw [hH.out, eH] at a0
 obtain ⟨a1, a2, a3⟩ := a0
 clear hs hc hty hnm ok hl1 hl2 eH
 go_enter Tryz.func65, Tryz.ntmps65
 go_wp2_with fail
 obtain ⟨W0, eW⟩ : ∃ W0, (w.alloc (.cells #[.slice (some ⟨b, o, none⟩) t.types.length cap, .int .i64 t.first, .slice p2 t.chs.length cap2] 58)).alloc (.cells #[.slice none 0 0, .int .i64 0, .slice none 0 0] 58) = W0 := ⟨_, rfl⟩
 rw [eW]
 have hW0 : W0.heap.size = w.heap.size + 2 := by rw [← eW]; simp
 have hbW : Below w.heap.size w W0 := by rw [← eW]; exact ((Below.refl _ _).alloc (Nat.le_refl _) _).alloc (by simp) _
 have hX : W0.heap[w.heap.size]? = some (.cells #[.slice (some ⟨b, o, none⟩) t.types.length cap, .int .i64 t.first, .slice p2 t.chs.length cap2] 58 (0, 0)) := by
  rw [← eW, Below.heap_alloc _ _ _ (by simp)]; exact heap_alloc_new w _
 have hR : W0.heap[w.heap.size + 1]? = some (.cells #[.slice none 0 0, .int .i64 0, .slice none 0 0] 58 (0, 0)) := by
  rw [← eW]
  have := heap_alloc_new (w.alloc (.cells #[.slice (some ⟨b, o, none⟩) t.types.length cap, .int .i64 t.first, .slice p2 t.chs.length cap2] 58)) (.cells #[.slice none 0 0, .int .i64 0, .slice none 0 0] 58)
  simpa using this
 have HX := Lib.hid hX
 have HR := Lib.hid hR
 have HBW := Lib.hid hbW
 clear eW hX hR hbW a1 a2 a3
 refine (Begin_any H W0).mono ?_
 rintro e w1 ⟨M, sv0, cv0, rfl, hmk, hb1⟩
 have HMK := Lib.hid hmk
 have HB1 := Lib.hid hb1
 have hX1 := (hb1.block w.heap.size (by omega)).trans HX.out
 have x1 : w1.cell? ⟨w.heap.size, 2, none⟩ = some (.slice p2 t.chs.length cap2) := (cell_of_row w1 _ 2 _ _ _ hX1).trans rfl
 have hw1 : W0.heap.size ≤ w1.heap.size := hb1.size
 clear hmk hb1 hX1
 go_wp2_with fail
 go_loopw [16] (fun i wr => ∃ (k : Nat) (sv cv : Value), k ≤ t.chs.length ∧ i = .int .i64 k ∧ Mk wr M W0.heap.size sv cv (((resL t).take k).foldl stepN (begN (resH t))) ∧ Below W0.heap.size w1 wr) (fun i _ => t.chs.length - (intOf i).toNat)
 case atStart => exact ⟨0, sv0, cv0, Nat.zero_le _, rfl, by rw [HEH.out]; exact HMK.out, Below.refl _ _⟩
 case round =>
  obtain ⟨k, sv, cv, hk, rfl, hmk, hbr⟩ := hrel
  have HMR := Lib.hid hmk
  have HBR := Lib.hid hbr
  have hwr : w1.heap.size ≤ wr.heap.size := hbr.size
  have hball := HBW.out.trans (((HB1.out.trans hbr)).mono (by omega))
  have HBA := Lib.hid hball
  have hXr : wr.heap[w.heap.size]? = _ := (((HB1.out.trans hbr).block w.heap.size (by omega))).trans HX.out
  have hRr : wr.heap[w.heap.size + 1]? = _ := (((HB1.out.trans hbr).block (w.heap.size + 1) (by omega))).trans HR.out
  have y0 : wr.cell? ⟨w.heap.size, 0, none⟩ = some (.slice (some ⟨b, o, none⟩) t.types.length cap) := (cell_of_row wr _ 0 _ _ _ hXr).trans rfl
  have HRR := Lib.hid hRr
  have hlt0 : w.heap.size < wr.heap.size := by omega
  clear hmk hbr hball hXr hRr x1
  by_cases hkL : k < t.chs.length
  ·have hne : t.chs ≠ [] := by intro e; rw [e] at hkL; simp at hkL
   obtain ⟨cb, co, rfl, hcb, hat⟩ := HCC.out hne
   obtain ⟨c, ec⟩ : ∃ c, t.chs[k] = c := ⟨_, rfl⟩
   have h1 := (hat k hkL).below HBA.out hcb
   have hck := HCH.out c (by rw [← ec]; exact List.getElem_mem _)
   rw [ec] at h1
   obtain ⟨c0, c1⟩ := h1
   have hkn : c.k.toNat < t.types.length := by omega
   have h2 := (HTY.out c.k.toNat hkn).below HBA.out hb
   have hT : Hid (t.types[c.k.toNat] = tyD t.types c.k) := by show _ = _; unfold tyD; rw [List.getElem?_eq_getElem hkn]; rfl
   obtain ⟨y, ey⟩ : ∃ y, tyD t.types c.k = y := ⟨_, rfl⟩
   rw [hT.out, ey] at h2
   obtain ⟨d0, d1, d2⟩ := h2
   have hck1 := hck.2.2.1
   have hck2 := hck.2.2.2
   have HEC : Hid ((((resL t).take (k + 1)).foldl stepN (begN (resH t))) = stepN (((resL t).take k).foldl stepN (begN (resH t))) (c.t, y)) := by
    show _ = _
    have hkr : k < (resL t).length := by simp [resL]; exact hkL
    rw [List.take_succ_eq_append_getElem hkr, List.foldl_append]
    have : (resL t)[k] = (c.t, y) := by simp [resL, ec, ey]
    rw [this]; rfl
   have hcbl := World.block_lt_of_cell? _ _ c0
   have hbl := World.block_lt_of_cell? _ _ d0
   have hMS1 := Lib.hid (hMS.out k)
   generalize ((resL t).take k).foldl stepN (begN (resH t)) = st at HMR HEC hMS1
   have HMA := Lib.hid ((HMR.out.alloc (.cells #[.int .i64 c.t, .int .i64 c.k] 61)).keep (W' := (wr.alloc (.cells #[.int .i64 c.t, .int .i64 c.k] 61)).drew) fun b hb => rfl)
   clear hat hne hck ec ey hT hMS
   go_wp2_with fail
   go_region_law (first
    | (go_simp; go_at_call 57; refine (Change_any M W0.heap.size sv cv st c.t y _ HMA.out (by simp; omega) hMS1.out).mono ?_; rintro e w5 ⟨rfl, ⟨sv5, cv5, hm5⟩, hb5⟩; have HM5 := Lib.hid hm5; have HB5 := Lib.hid hb5))
   all_goals
    go_wp2
    go_roundw
    case rel => exact ⟨k + 1, sv5, cv5, by omega, by go_num, by rw [HEC.out]; exact HM5.out, HBR.out.trans ((((Below.refl W0.heap.size wr).alloc (by omega) _).drew).trans HB5.out)⟩
    case measure => simp [intOf]; omega
  ·obtain rfl : k = t.chs.length := by omega
   have hall : (resL t).take t.chs.length = resL t := List.take_of_length_le (by simp [resL])
   rw [hall] at HMR
   have hms := hMS.out t.chs.length
   rw [hall] at hms
   have hN1 : ((resL t).foldl stepN (begN (resH t))).types = (normT t).types := rfl
   have hN2 : ((resL t).foldl stepN (begN (resH t))).chs = (normT t).chs := rfl
   have HMSS := Lib.hid hms
   obtain ⟨A1, c1, rfl⟩ := own_sliceN HMR.out.rowT
   obtain ⟨A2, c2, rfl⟩ := own_sliceN HMR.out.rowC
   obtain ⟨u0, u1, u2, -, -, -, -⟩ := mkCells HMR.out.blk
   rw [hN1] at u0
   rw [hN2] at u2
   have hMl := HMR.out.lt
   have g0 : wr.cell? ⟨w.heap.size + 1, 0, none⟩ = some (.slice none 0 0) := (cell_of_row wr _ 0 _ _ _ HRR.out).trans rfl
   have g1 : wr.cell? ⟨w.heap.size + 1, 1, none⟩ = some (.int .i64 0) := (cell_of_row wr _ 1 _ _ _ HRR.out).trans rfl
   have g2 : wr.cell? ⟨w.heap.size + 1, 2, none⟩ = some (.slice none 0 0) := (cell_of_row wr _ 2 _ _ _ HRR.out).trans rfl
   have z0 : wr.frozen? ⟨w.heap.size + 1, 0, none⟩ = false := by simp [World.frozen?, HRR.out]
   have z1 : wr.frozen? ⟨w.heap.size + 1, 1, none⟩ = false := by simp [World.frozen?, HRR.out]
   have z2 : wr.frozen? ⟨w.heap.size + 1, 2, none⟩ = false := by simp [World.frozen?, HRR.out]
   clear hN1 hN2 hms hall
   go_wp2
   obtain ⟨W9, e9, hB9, hh9, ho9⟩ := end_cellsM HRR.out (.slice A1 (normT t).types.length c1) (.int .i64 0) (.slice A2 (normT t).chs.length c2)
   rw [e9]
   have v0 : W9.cell? ⟨w.heap.size + 1, 0, none⟩ = some (.slice A1 (normT t).types.length c1) := (cell_of_row W9 _ 0 _ _ _ hh9).trans rfl
   have v1 : W9.cell? ⟨w.heap.size + 1, 1, none⟩ = some (.int .i64 0) := (cell_of_row W9 _ 1 _ _ _ hh9).trans rfl
   have v2 : W9.cell? ⟨w.heap.size + 1, 2, none⟩ = some (.slice A2 (normT t).chs.length c2) := (cell_of_row W9 _ 2 _ _ _ hh9).trans rfl
   refine bodyPost_ret (v := .agg #[.slice A1 (normT t).types.length c1, .int .i64 0, .slice A2 (normT t).chs.length c2]) (by simp [results, Tryz.results65, go_sem, v0, v1, v2]) rfl ⟨_, rfl, ⟨_, _, rfl, ?_, ?_⟩, HBA.out.trans (hB9 _ (by omega))⟩
   ·exact own_types (l := (normT t).types) (own_keep HMR.out.rowT fun g e => ho9 g (by have := (World.ownsRow.lt HMR.out.rowT g e).1; omega)) (by have := HMSS.out.tl; exact Nat.le_trans this (by decide)) HMSS.out.nm
   ·exact own_chs (l := (normT t).chs) (own_keep HMR.out.rowC fun g e => ho9 g (by have := (World.ownsRow.lt HMR.out.rowC g e).1; omega)) (by have := HMSS.out.cl; exact Nat.le_trans this (by decide))
theorem tabForms {w : World} {v : Value} {t : Tab} (h : TabAt w v t) : ∃ p1 c1 p2 c2, v = .agg #[.slice p1 t.types.length c1, .int .i64 t.first, .slice p2 t.chs.length c2] := by
 obtain ⟨sv, cv, rfl, h1, h2⟩ := h.val
 obtain ⟨p1, c1, rfl, -⟩ := h1.shape
 obtain ⟨p2, c2, rfl, -⟩ := h2.shape
 exact ⟨_, _, _, _, rfl⟩
theorem tabOf_slices {w : World} {p1 p2 : Option Addr} {n1 c1 n2 c2 : Nat} {f : Int} {t : Tab} (h : TabAt w (.agg #[.slice p1 n1 c1, .int .i64 f, .slice p2 n2 c2]) t) : SlTy w (.slice p1 n1 c1) t.types ∧ SlCh w (.slice p2 n2 c2) t.chs ∧ f = t.first := by
 obtain ⟨sv, cv, e, h1, h2⟩ := h.val
 simp only [Value.agg.injEq, Array.mk.injEq, List.cons.injEq, Value.int.injEq, and_true, true_and] at e
 obtain ⟨rfl, rfl, rfl⟩ := e
 exact ⟨h1, h2, rfl⟩
theorem tab_far {w W : World} {v : Value} {t : Tab} {X : Nat} {f : Int} {T : TypeId} {p q : Option Addr} {n1 n2 k1 k2 : Nat} (h : TabAt w v t) (hX : w.heap[X]? = some (.cells #[.slice p n1 k1, .int .i64 f, .slice q n2 k2] T (0, 0))) (hk : ∀ b, b ≠ X → W.heap[b]? = w.heap[b]?) (hsz : w.heap.size ≤ W.heap.size) : TabAt W v t := by
 have hno : ∀ o b, w.cell? ⟨X, o, none⟩ = some (.bool b) → False := fun o b hc => by
  rw [cell_of_row w _ o _ _ _ hX] at hc
  match o with
  | 0 => cases hc
  | 1 => cases hc
  | 2 => cases hc
  | o + 3 => simp at hc
 have hni : ∀ o a b, w.cell? ⟨X, o, none⟩ = some (.int .i64 a) → w.cell? ⟨X, o + 1, none⟩ = some (.int .i64 b) → False := fun o a b hc hc2 => by
  rw [cell_of_row w _ _ _ _ _ hX] at hc hc2
  match o with
  | 0 => cases hc
  | 1 => cases hc2
  | 2 => cases hc
  | o + 3 => simp at hc
 obtain ⟨sv, cv, hv, ⟨⟨p1, c1, e1, g1⟩, l1, m1⟩, ⟨⟨p2, c2, e2, g2⟩, l2⟩⟩ := h.val
 refine ⟨sv, cv, hv, ⟨⟨p1, c1, e1, fun hne => ?_⟩, l1, m1⟩, ⟨⟨p2, c2, e2, fun hne => ?_⟩, l2⟩⟩
 ·obtain ⟨b, o, e, hb, hat⟩ := g1 hne
  have hbX : b ≠ X := fun e2 => by
   subst e2
   have := (hat 0 (List.length_pos_iff.2 hne)).2.1
   exact hno _ _ this
  refine ⟨b, o, e, Nat.lt_of_lt_of_le hb hsz, fun i hi => ?_⟩
  have hc : ∀ j, W.cell? ⟨b, j, none⟩ = w.cell? ⟨b, j, none⟩ := fun j => World.cell?_of_block (a := ⟨b, j, none⟩) (hk b hbX)
  obtain ⟨a1, a2, a3⟩ := hat i hi
  exact ⟨(hc _).trans a1, (hc _).trans a2, (hc _).trans a3⟩
 ·obtain ⟨b, o, e, hb, hat⟩ := g2 hne
  have hbX : b ≠ X := fun e2 => by
   subst e2
   have := hat 0 (List.length_pos_iff.2 hne)
   exact hni _ _ _ this.1 this.2
  refine ⟨b, o, e, Nat.lt_of_lt_of_le hb hsz, fun i hi => ?_⟩
  have hc : ∀ j, W.cell? ⟨b, j, none⟩ = w.cell? ⟨b, j, none⟩ := fun j => World.cell?_of_block (a := ⟨b, j, none⟩) (hk b hbX)
  obtain ⟨a1, a2⟩ := hat i hi
  exact ⟨(hc _).trans a1, (hc _).trans a2⟩
def nameB (s : ByteArray) : Bool := allB s 20 ⟨#[95, 47, 45]⟩ && decide (∃ c, s.data.toList[0]? = some c ∧ letterB c.toNat = true)
theorem isName_any (s : ByteArray) (w : World) (hs : s.size ≤ maxLen) :
  Calls Tryz.prog 64 #[.string s] w fun e w' => e = .returned (.bool (nameB s)) ∧ w = w' := by
 obtain ⟨A, eA⟩ : ∃ A, allB s 20 ⟨#[95, 47, 45]⟩ = A := ⟨_, rfl⟩
 have HA := Lib.hid eA
 cases A with
 | false =>
  have HN : Hid (nameB s = false) := by show _ = _; unfold nameB; rw [eA]; simp
  clear eA
  go_enter Tryz.func64, Tryz.ntmps64
  go_wp2_with fail
  refine (all_any _ _ _ _ hs).mono ?_
  rw [HA.out]
  rintro e w' ⟨rfl, rfl⟩
  go_wp2
  go_ret
  exact ⟨ret_bool' HN.out.symm, rfl⟩
 | true =>
  have h0 : 0 < s.size := by
   unfold allB at eA
   simp only [Bool.and_eq_true, Bool.not_eq_true', decide_eq_true_eq] at eA
   have h2 := eA.1.2
   rcases Nat.eq_zero_or_pos s.size with h | h
   ·have : s.data.toList = [] := List.eq_nil_of_length_eq_zero (by simpa using h)
    rw [this] at h2; simp at h2
   ·exact h
  obtain ⟨c, ec⟩ : ∃ c, s[0] = c := ⟨_, rfl⟩
  have HN : Hid (nameB s = letterB c.toNat) := by
   show _ = _
   unfold nameB
   rw [eA, Bool.true_and]
   have hc : s.data.toList[0]? = some c := by
    rw [List.getElem?_eq_getElem (by simpa using h0)]
    exact congrArg some ec
   rw [hc]
   cases hl : letterB c.toNat
   ·exact decide_eq_false (by rintro ⟨d, hd, h⟩; injection hd with hd; subst hd; rw [hl] at h; cases h)
   ·exact decide_eq_true ⟨c, rfl, hl⟩
  clear eA
  go_enter Tryz.func64, Tryz.ntmps64
  go_wp2_with fail
  refine (all_any _ _ _ _ hs).mono ?_
  rw [HA.out]
  rintro e w' ⟨rfl, rfl⟩
  go_wp2_with fail
  refine (isLetter_any _ _).mono ?_
  rintro e w' ⟨rfl, rfl⟩
  go_wp2
  go_ret
  exact ⟨ret_bool' (by rw [HN.out, ← ec]), rfl⟩
end Go.Proofs.YtomahddiclkepaaGreatDoor
namespace Go.Proofs.YtomahddiclkepaaGreatDoor
open Go
set_option linter.unusedVariables false
def T2 (n : Int) : List UInt8 := [UInt8.ofNat (48 + (n / 10).toNat), UInt8.ofNat (48 + (n % 10).toNat)]
theorem T2_length (n : Int) : (T2 n).length = 2 := rfl
def txt (l : List UInt8) : ByteArray := ⟨l.toArray⟩
theorem txt_append (a b : List UInt8) : txt a ++ txt b = txt (a ++ b) := by
 apply ByteArray.ext
 simp [txt]
theorem txt_data (l : List UInt8) : (txt l).data.toList = l := by simp [txt]
theorem txt_size (l : List UInt8) : (txt l).size = l.length := by simp [txt, ByteArray.size]
theorem txt_inj {a b : List UInt8} (h : txt a = txt b) : a = b := by
 have := congrArg (fun s : ByteArray => s.data.toList) h
 simpa [txt] using this
def spanP (n : Int) : List UInt8 := Lib.itoa (n / 3600) ++ ([58] ++ (T2 (n / 60 % 60) ++ (if n % 60 = 0 then [] else [58] ++ T2 (n % 60))))
def spanT (n : Int) : List UInt8 := if n < 0 then 45 :: spanP (-n) else spanP n
def stampT (t : Int) : List UInt8 :=
 Lib.itoa (Civ.yy (t / 86400)) ++ ([45] ++ (T2 (Civ.mm (t / 86400)) ++ ([45] ++ (T2 (Civ.dd (t / 86400)) ++ ([84] ++ (T2 (t % 86400 / 3600) ++ ([58] ++ (T2 (t % 86400 / 60 % 60) ++ ([58] ++ T2 (t % 86400 % 60))))))))))
theorem dec_four (u : Nat) (h0 : 1000 ≤ u) (h1 : u < 10000) : Lib.decDigits u = [UInt8.ofNat (48 + u / 1000), UInt8.ofNat (48 + u / 100 % 10), UInt8.ofNat (48 + u / 10 % 10), UInt8.ofNat (48 + u % 10)] := by
 rw [Lib.decDigits, dif_neg (by omega), Lib.decDigits, dif_neg (by omega), Lib.decDigits, dif_neg (by omega), Lib.decDigits, dif_pos (by omega)]
 simp only [List.cons_append, List.nil_append]
 rw [show u / 10 / 10 / 10 = u / 1000 by omega, show u / 10 / 10 % 10 = u / 100 % 10 by omega]
theorem itoa_four {n : Int} (h0 : 1000 ≤ n) (h1 : n < 10000) : Lib.itoa n = T2 (n / 100) ++ T2 (n % 100) := by
 unfold Lib.itoa
 rw [if_neg (by omega), dec_four _ (by omega) (by omega)]
 have e1 : n.toNat / 1000 = (n / 100 / 10).toNat := by omega
 have e2 : n.toNat / 100 % 10 = (n / 100 % 10).toNat := by omega
 have e3 : n.toNat / 10 % 10 = (n % 100 / 10).toNat := by omega
 have e4 : n.toNat % 10 = (n % 100 % 10).toNat := by omega
 rw [e1, e2, e3, e4]
 rfl
theorem stamp_length (t : Int) (h1 : -135140 ≤ t / 86400) (h2 : t / 86400 ≤ 157053) : (stampT t).length = 19 := by
 obtain ⟨hv, _⟩ := Civ.date_valid (t / 86400) h1 h2
 obtain ⟨y1, y2, _⟩ := hv
 unfold stampT
 rw [itoa_four (by omega) (by omega)]
 simp [T2_length]
theorem digit_lt {a b : Nat} (ha : a < 10) (hb : b < 10) : UInt8.ofNat (48 + a) < UInt8.ofNat (48 + b) ↔ a < b := by
 rw [UInt8.lt_iff_toNat_lt]
 simp only [UInt8.toNat_ofNat']
 omega
theorem digit_inj {a b : Nat} (ha : a < 10) (hb : b < 10) (h : UInt8.ofNat (48 + a) = UInt8.ofNat (48 + b)) : a = b := by
 have := congrArg UInt8.toNat h
 simp only [UInt8.toNat_ofNat'] at this
 omega
theorem lex_append {a b c d : List UInt8} (hl : a.length = b.length) : a ++ c < b ++ d ↔ a < b ∨ a = b ∧ c < d := by
 induction a generalizing b with
 | nil =>
  cases b with
  | nil => simp
  | cons y s => simp at hl
 | cons x r ih =>
  cases b with
  | nil => simp at hl
  | cons y s =>
   have := ih (b := s) (by simpa using hl)
   simp only [List.cons_append, List.cons_lt_cons_iff, this, List.cons.injEq]
   constructor
   ·rintro (h | ⟨rfl, h | ⟨rfl, h⟩⟩)
    ·exact .inl (.inl h)
    ·exact .inl (.inr ⟨rfl, h⟩)
    ·exact .inr ⟨⟨rfl, rfl⟩, h⟩
   ·rintro ((h | ⟨rfl, h⟩) | ⟨⟨rfl, rfl⟩, h⟩)
    ·exact .inl h
    ·exact .inr ⟨rfl, .inl h⟩
    ·exact .inr ⟨rfl, .inr ⟨rfl, h⟩⟩
theorem T2_app (a b : Int) (c d : List UInt8) : T2 a ++ c < T2 b ++ d ↔ T2 a < T2 b ∨ T2 a = T2 b ∧ c < d := lex_append rfl
theorem same_head {a b c : List UInt8} : c ++ a < c ++ b ↔ a < b := by
 rw [lex_append rfl]
 constructor
 ·rintro (h | ⟨_, h⟩)
  ·exact absurd h (List.lt_irrefl c)
  ·exact h
 ·exact fun h => .inr ⟨rfl, h⟩
theorem T2_lt {a b : Int} (h0 : 0 ≤ a) (h1 : a < 100) (h2 : 0 ≤ b) (h3 : b < 100) : T2 a < T2 b ↔ a < b := by
 unfold T2
 simp only [List.cons_lt_cons_iff]
 rw [digit_lt (by omega) (by omega), digit_lt (by omega) (by omega)]
 constructor
 ·rintro (h | ⟨h, h' | ⟨_, h'⟩⟩)
  ·omega
  ·have := digit_inj (by omega) (by omega) h; omega
  ·exact absurd h' (by simp)
 ·intro h
  by_cases e : a / 10 = b / 10
  ·exact .inr ⟨by rw [e], .inl (by omega)⟩
  ·exact .inl (by omega)
theorem T2_inj {a b : Int} (h0 : 0 ≤ a) (h1 : a < 100) (h2 : 0 ≤ b) (h3 : b < 100) (h : T2 a = T2 b) : a = b := by
 unfold T2 at h
 injection h with h4 h5
 injection h5 with h5 _
 have := digit_inj (by omega) (by omega) h4
 have := digit_inj (by omega) (by omega) h5
 omega
theorem T2_eq {a b : Int} (h0 : 0 ≤ a) (h1 : a < 100) (h2 : 0 ≤ b) (h3 : b < 100) : T2 a = T2 b ↔ a = b := ⟨T2_inj h0 h1 h2 h3, fun h => by rw [h]⟩
theorem Y4_lt {a b : Int} (h0 : 1000 ≤ a) (h1 : a < 10000) (h2 : 1000 ≤ b) (h3 : b < 10000) : Lib.itoa a < Lib.itoa b ↔ a < b := by
 rw [itoa_four h0 h1, itoa_four h2 h3, T2_app, T2_lt (by omega) (by omega) (by omega) (by omega), T2_lt (by omega) (by omega) (by omega) (by omega), T2_eq (by omega) (by omega) (by omega) (by omega)]
 omega
theorem Y4_eq {a b : Int} (h0 : 1000 ≤ a) (h1 : a < 10000) (h2 : 1000 ≤ b) (h3 : b < 10000) : Lib.itoa a = Lib.itoa b ↔ a = b := by
 constructor
 ·intro h
  rw [itoa_four h0 h1, itoa_four h2 h3] at h
  have e := List.append_inj h rfl
  have := T2_inj (by omega) (by omega) (by omega) (by omega) e.1
  have := T2_inj (by omega) (by omega) (by omega) (by omega) e.2
  omega
 ·intro h; rw [h]
theorem Y4_length {a : Int} (h0 : 1000 ≤ a) (h1 : a < 10000) : (Lib.itoa a).length = 4 := by rw [itoa_four h0 h1]; rfl
def dateT (n : Int) : List UInt8 := Lib.itoa (Civ.yy n) ++ ([45] ++ (T2 (Civ.mm n) ++ ([45] ++ T2 (Civ.dd n))))
def clockT (r : Int) : List UInt8 := [84] ++ (T2 (r / 3600) ++ ([58] ++ (T2 (r / 60 % 60) ++ ([58] ++ T2 (r % 60)))))
theorem stamp_two (t : Int) : stampT t = dateT (t / 86400) ++ clockT (t % 86400) := by simp [stampT, dateT, clockT]
theorem dateT_length (n : Int) (h1 : -135140 ≤ n) (h2 : n ≤ 157053) : (dateT n).length = 10 := by
 obtain ⟨hv, _⟩ := Civ.date_valid n h1 h2
 obtain ⟨y1, y2, _⟩ := hv
 unfold dateT
 rw [List.length_append, Y4_length (by omega) (by omega)]
 rfl
theorem dateT_lt (n m : Int) (h1 : -135140 ≤ n) (h2 : n ≤ 157053) (h3 : -135140 ≤ m) (h4 : m ≤ 157053) : dateT n < dateT m ↔ n < m := by
 obtain ⟨hv, e⟩ := Civ.date_valid n h1 h2
 obtain ⟨hw, e'⟩ := Civ.date_valid m h3 h4
 have key := Civ.days_lt_iff hv hw
 rw [e, e'] at key
 rw [key]
 have b1 := Civ.mlen_bd (Civ.yy n) (Civ.mm n) hv.2.2.1 hv.2.2.2.1
 have b2 := Civ.mlen_bd (Civ.yy m) (Civ.mm m) hw.2.2.1 hw.2.2.2.1
 obtain ⟨v1, v2, v3, v4, v5, v6⟩ := hv
 obtain ⟨u1, u2, u3, u4, u5, u6⟩ := hw
 unfold dateT Civ.less
 rw [lex_append (by rw [Y4_length (by omega) (by omega), Y4_length (by omega) (by omega)]), same_head, T2_app, same_head, Y4_lt (by omega) (by omega) (by omega) (by omega), Y4_eq (by omega) (by omega) (by omega) (by omega),
  T2_lt (by omega) (by omega) (by omega) (by omega), T2_lt (by omega) (by omega) (by omega) (by omega), T2_eq (by omega) (by omega) (by omega) (by omega)]
theorem dateT_eq (n m : Int) (h1 : -135140 ≤ n) (h2 : n ≤ 157053) (h3 : -135140 ≤ m) (h4 : m ≤ 157053) : dateT n = dateT m ↔ n = m := by
 constructor
 ·intro h
  rcases Int.lt_trichotomy n m with h' | h' | h'
  ·have := (dateT_lt n m h1 h2 h3 h4).2 h'
   rw [h] at this
   exact absurd this (List.lt_irrefl _)
  ·exact h'
  ·have := (dateT_lt m n h3 h4 h1 h2).2 h'
   rw [h] at this
   exact absurd this (List.lt_irrefl _)
 ·intro h; rw [h]
theorem clockT_lt (r s : Int) (h1 : 0 ≤ r) (h2 : r < 86400) (h3 : 0 ≤ s) (h4 : s < 86400) : clockT r < clockT s ↔ r < s := by
 unfold clockT
 rw [same_head, T2_app, same_head, T2_app, same_head, T2_lt (by omega) (by omega) (by omega) (by omega), T2_lt (by omega) (by omega) (by omega) (by omega), T2_lt (by omega) (by omega) (by omega) (by omega),
  T2_eq (by omega) (by omega) (by omega) (by omega), T2_eq (by omega) (by omega) (by omega) (by omega)]
 omega
theorem stampT_lt (t u : Int) (h1 : -135140 ≤ t / 86400) (h2 : t / 86400 ≤ 157053) (h3 : -135140 ≤ u / 86400) (h4 : u / 86400 ≤ 157053) : stampT t < stampT u ↔ t < u := by
 rw [stamp_two, stamp_two, lex_append (by rw [dateT_length _ h1 h2, dateT_length _ h3 h4]), dateT_lt _ _ h1 h2 h3 h4, dateT_eq _ _ h1 h2 h3 h4, clockT_lt _ _ (by omega) (by omega) (by omega) (by omega)]
 omega
end Go.Proofs.YtomahddiclkepaaGreatDoor
namespace Go.Proofs.YtomahddiclkepaaGreatDoor
open Go.RowKit Go.Joins
set_option linter.unusedVariables false
set_option linter.unusedSimpArgs false
def Tab10 (w : World) : Prop := Lib.TabIs Tryz.prog w "internal/strconv.uint64pow10" .u64 Lib.pow10Tab
theorem Tab10.below {w w' : World} (h : Tab10 w) (hb : Below w.heap.size w w') : Tab10 w' := (Lib.tabBelow_of_tabIs h) w' hb
theorem itoa_text (n : Int) (w : World) (h0 : -9223372036854775808 ≤ n) (h1 : n ≤ 9223372036854775807) (ht : Tab10 w) :
  Calls Tryz.prog 73 #[.int .i64 n] w fun e w' => e = .returned (.string (txt (Lib.itoa n))) ∧ Below w.heap.size w w' :=
 (Tryz.strconv_Itoa n h0 h1 w ht).mono fun e w' ⟨he, k, os, hw⟩ => ⟨he, by rw [hw]; exact Lib.below_grow _ w (Nat.le_refl _) k os⟩
theorem und_bytes : Tryz.prog.underlying 73 = some (.slice 5) := by kernel_rfl
set_option maxHeartbeats 1000000 in
theorem two_any (n : Int) (w : World) (h0 : 0 ≤ n) (h1 : n < 100) :
  Calls Tryz.prog 102 #[.int .i64 n] w fun e w' => e = .returned (.string (txt (T2 n))) ∧ Below w.heap.size w w' := by
 have hcv : (convert 73 9 (.slice (some ⟨w.heap.size, 0, none⟩) 2 2)).run Tryz.prog (w.alloc (.cells #[.int .u8 (48 + n / 10), .int .u8 (48 + n % 10)] 5)) = .ok (.string (strOfNums [48 + n / 10, 48 + n % 10])) (w.alloc (.cells #[.int .u8 (48 + n / 10), .int .u8 (48 + n % 10)] 5)) := by
  refine Lib.BytesIn.convert (xs := [48 + n / 10, 48 + n % 10]) (fun _ => ⟨w.heap.size, 0, rfl, fun i hi => ?_⟩) rfl 2 _ 5 _ und_bytes Tryz.underlying5 (by kernel_rfl)
  have e := heap_alloc_new w (.cells #[.int .u8 (48 + n / 10), .int .u8 (48 + n % 10)] 5)
  rw [cell_of_row _ _ _ _ _ _ e]
  have hi2 : i < 2 := hi
  have : i = 0 ∨ i = 1 := by omega
  rcases this with rfl | rfl <;> rfl
 have hs : strOfNums [48 + n / 10, 48 + n % 10] = txt (T2 n) := by
  simp only [strOfNums, txt, T2, List.map_cons, List.map_nil]
  rw [show (48 + n / 10).toNat = 48 + (n / 10).toNat by omega, show (48 + n % 10).toNat = 48 + (n % 10).toNat by omega]
 rw [hs] at hcv
 clear hs
 go_enter Tryz.func102, Tryz.ntmps102
 go_wp2
 go_ret
 exact ⟨rfl, (Below.refl _ _).alloc (Nat.le_refl _) _⟩
theorem ret_2 {a b c d : Int} (h : a = b) (h2 : c = d) : Ending.returned (.tuple #[.int .i64 a, .int .i64 c]) = .returned (.tuple #[.int .i64 b, .int .i64 d]) := by rw [h, h2]
theorem itoa_len3 {n : Int} (h0 : 0 ≤ n) (h1 : n < 1000) : (Lib.itoa n).length ≤ 3 := by
 unfold Lib.itoa
 rw [if_neg (by omega), Lib.decDigits_length]
 by_cases a : n.toNat < 10
 ·rw [Lib.nDigits_small a]; omega
 ·rw [Lib.nDigits_big a]
  by_cases b : n.toNat / 10 < 10
  ·rw [Lib.nDigits_small b]; omega
  ·rw [Lib.nDigits_big b, Lib.nDigits_small (by omega)]; omega
theorem cat1 (p a b : List UInt8) : txt p ++ txt a ++ ⟨#[58]⟩ ++ txt b = txt (p ++ (a ++ ([58] ++ (b ++ [])))) := by
 rw [show (⟨#[58]⟩ : ByteArray) = txt [58] from rfl, txt_append, txt_append, txt_append]; simp
theorem cat2 (p a b c : List UInt8) : txt p ++ txt a ++ ⟨#[58]⟩ ++ txt b ++ (⟨#[58]⟩ ++ txt c) = txt (p ++ (a ++ ([58] ++ (b ++ ([58] ++ c))))) := by
 rw [show (⟨#[58]⟩ : ByteArray) = txt [58] from rfl, txt_append, txt_append, txt_append, txt_append, txt_append]; simp
theorem floor_div (n m : Int) (h0 : 0 < m) (h : n.tmod m < 0) : n.tdiv m - 1 = n / m := by
 have q := Int.tmod_eq_emod (a := n) (b := m)
 have e1 := Int.tdiv_mul_add_tmod n m
 have e2 := Int.ediv_mul_add_emod n m
 have h3 : (m.natAbs : Int) = m := by omega
 split at q
 ·have := Int.emod_nonneg n (show m ≠ 0 by omega); omega
 ·have e3 : (n.tdiv m - 1 - n / m) * m = 0 := by
   rw [Int.sub_mul, Int.sub_mul, Int.one_mul]; omega
  rcases Int.mul_eq_zero.1 e3 with h | h <;> omega
theorem floor_div' (n m : Int) (h0 : 0 < m) (h : 0 ≤ n.tmod m) : n.tdiv m = n / m := by
 have q := rest_pos n m h0 h
 have e1 := Int.tdiv_mul_add_tmod n m
 have e2 := Int.ediv_mul_add_emod n m
 have e3 : (n.tdiv m - n / m) * m = 0 := by
  rw [Int.sub_mul]; omega
 rcases Int.mul_eq_zero.1 e3 with h | h <;> omega
theorem tdiv_small (n m : Int) (h0 : 1 < m) (h1 : -9223372036854775808 ≤ n) (h2 : n ≤ 9223372036854775807) : -4611686018427387904 ≤ n.tdiv m ∧ n.tdiv m ≤ 4611686018427387904 := by
 have e1 := Int.natAbs_tdiv_le_natAbs n m
 have e2 := Int.tdiv_mul_add_tmod n m
 have e3 : n.natAbs / m.natAbs = (n.tdiv m).natAbs := (Int.natAbs_tdiv n m).symm
 have e4 : n.natAbs / m.natAbs ≤ n.natAbs / 2 := Nat.div_le_div_left (by omega) (by omega)
 omega
theorem Floor_any (n m : Int) (w : World) (h0 : 1 < m) (h1 : m ≤ 1099511627776) (hn1 : -9223372036854775808 ≤ n) (hn2 : n ≤ 9223372036854775807) :
  Calls Tryz.prog 42 #[.int .i64 n, .int .i64 m] w fun e w' => e = .returned (.tuple #[.int .i64 (n / m), .int .i64 (n % m)]) ∧ Below w.heap.size w w' := by
 have hh : m ≤ 4611686018427387904 := by omega
 have hz : (m == 0) = false := by simp; omega
 have hz2 : m ≠ 0 := by omega
 have hz3 : m ≠ -1 := by omega
 have ht := tdiv_small n m h0 hn1 hn2
 have e0 : wrap64 (n.tdiv m) = n.tdiv m := IntWalk.wrap64_in _ ⟨by omega, by omega⟩
 have e1 : wrap64 (n.tdiv m - 1) = n.tdiv m - 1 := IntWalk.wrap64_in _ ⟨by omega, by omega⟩
 go_enter Tryz.func42, Tryz.ntmps42
 go_wp2
 go_quiet (fail)
 go_wp2
 ·go_ret2
  exact ⟨ret_2 (floor_div n m (by omega) (by assumption)) (rest_neg n m (by omega) hh (by assumption)), below_drewN' (Below.refl _ _) _⟩
 ·go_ret2
  exact ⟨ret_2 (floor_div' n m (by omega) (by assumption)) (rest_pos n m (by omega) (by assumption)), below_drewN' (Below.refl _ _) _⟩
theorem cat9 (y m d p q r : List UInt8) : txt y ++ ⟨#[45]⟩ ++ txt m ++ ⟨#[45]⟩ ++ txt d ++ ⟨#[84]⟩ ++ txt p ++ ⟨#[58]⟩ ++ txt q ++ ⟨#[58]⟩ ++ txt r = txt (y ++ ([45] ++ (m ++ ([45] ++ (d ++ ([84] ++ (p ++ ([58] ++ (q ++ ([58] ++ r)))))))))) := by
 rw [show (⟨#[45]⟩ : ByteArray) = txt [45] from rfl, show (⟨#[58]⟩ : ByteArray) = txt [58] from rfl, show (⟨#[84]⟩ : ByteArray) = txt [84] from rfl]
 simp only [txt_append]
 simp
set_option maxRecDepth 100000 in
set_option maxHeartbeats 1000000 in
theorem Stamp_ok (t : Int) (w : World) (h1 : -135140 ≤ t / 86400) (h2 : t / 86400 ≤ 157053) (ht : Tab10 w) :
  Calls Tryz.prog 46 #[.int .i64 t] w fun e w' => e = .returned (.tuple #[.string (txt (stampT t)), .int .i64 0]) ∧ Below w.heap.size w w' := by
 have HT := Lib.hid ht
 clear ht
 have hn1 : -9223372036854775808 ≤ t := by omega
 have hn2 : t ≤ 9223372036854775807 := by omega
 have hF := fun W => Floor_any t 86400 W (by decide) (by decide) hn1 hn2
 clear hn1 hn2
 have hr0 : 0 ≤ t % 86400 := by omega
 have hr1 : t % 86400 < 86400 := by omega
 have hst : stampT t = dateT (t / 86400) ++ clockT (t % 86400) := stamp_two t
 obtain ⟨n, en⟩ : ∃ n, t / 86400 = n := ⟨_, rfl⟩
 obtain ⟨r, er⟩ : ∃ r, t % 86400 = r := ⟨_, rfl⟩
 simp only [en] at h1 h2 hF hst
 simp only [er] at hr0 hr1 hF hst
 have HST := Lib.hid hst
 have HF := Lib.hid hF
 clear hst en er hF
 obtain ⟨hv, -⟩ := Civ.date_valid n h1 h2
 have hb := Civ.mlen_bd (Civ.yy n) (Civ.mm n) hv.2.2.1 hv.2.2.2.1
 obtain ⟨v1, v2, v3, v4, v5, v6⟩ := hv
 have v7 : Civ.dd n ≤ 31 := by omega
 go_enter Tryz.func46, Tryz.ntmps46
 go_wp2_with fail
 refine (HF.out _).mono ?_
 rintro e w1 ⟨rfl, hb1⟩
 go_wp2_with fail
 refine (Date_ok n _ h1 h2).mono ?_
 rintro e w2 ⟨rfl, rfl⟩
 have b2 := hb1
 clear v6 hb
 go_wp2_with fail
 refine (itoa_text _ _ (by omega) (by omega) (HT.out.below b2)).mono ?_
 obtain ⟨Y, eY⟩ : ∃ Y, txt (Lib.itoa (Civ.yy n)) = Y := ⟨_, rfl⟩
 rw [eY]
 have hY : Y.size ≤ 4 := by rw [← eY, txt_size, Y4_length (by omega) (by omega)]; omega
 have EY := Lib.hid eY
 clear eY
 rintro e w3 ⟨rfl, hb3⟩
 have c0 := b2.trans (hb3.mono b2.size)
 go_wp2_with fail
 refine (two_any _ _ (by omega) (by omega)).mono ?_
 obtain ⟨M, eM⟩ : ∃ M, txt (T2 (Civ.mm n)) = M := ⟨_, rfl⟩
 rw [eM]
 have hM : M.size ≤ 2 := by rw [← eM, txt_size, T2_length]; omega
 have EM := Lib.hid eM
 clear eM
 rintro e x0 ⟨rfl, hx0⟩
 have c1 := c0.trans (hx0.mono c0.size)
 go_wp2_with fail
 refine (two_any _ _ (by omega) (by omega)).mono ?_
 obtain ⟨D, eD⟩ : ∃ D, txt (T2 (Civ.dd n)) = D := ⟨_, rfl⟩
 rw [eD]
 have hD : D.size ≤ 2 := by rw [← eD, txt_size, T2_length]; omega
 have ED := Lib.hid eD
 clear eD
 rintro e x1 ⟨rfl, hx1⟩
 have c2 := c1.trans (hx1.mono c1.size)
 go_wp2_with fail
 refine (two_any _ _ (by omega) (by omega)).mono ?_
 obtain ⟨P, eP⟩ : ∃ P, txt (T2 (r / 3600)) = P := ⟨_, rfl⟩
 rw [eP]
 have hP : P.size ≤ 2 := by rw [← eP, txt_size, T2_length]; omega
 have EP := Lib.hid eP
 clear eP
 rintro e x2 ⟨rfl, hx2⟩
 have c3 := c2.trans (hx2.mono c2.size)
 go_wp2_with fail
 refine (two_any _ _ (by omega) (by omega)).mono ?_
 obtain ⟨Q, eQ⟩ : ∃ Q, txt (T2 (r / 60 % 60)) = Q := ⟨_, rfl⟩
 rw [eQ]
 have hQ : Q.size ≤ 2 := by rw [← eQ, txt_size, T2_length]; omega
 have EQ := Lib.hid eQ
 clear eQ
 rintro e x3 ⟨rfl, hx3⟩
 have c4 := c3.trans (hx3.mono c3.size)
 go_wp2_with fail
 refine (two_any _ _ (by omega) (by omega)).mono ?_
 obtain ⟨R, eR⟩ : ∃ R, txt (T2 (r % 60)) = R := ⟨_, rfl⟩
 rw [eR]
 have hR : R.size ≤ 2 := by rw [← eR, txt_size, T2_length]; omega
 have ER := Lib.hid eR
 clear eR
 rintro e x4 ⟨rfl, hx4⟩
 have c5 := c4.trans (hx4.mono c4.size)
 go_wp2_with fail
 go_ret2
 refine ⟨?_, c5⟩
 show Ending.returned (.tuple #[.string (Y ++ ⟨#[45]⟩ ++ M ++ ⟨#[45]⟩ ++ D ++ ⟨#[84]⟩ ++ P ++ ⟨#[58]⟩ ++ Q ++ ⟨#[58]⟩ ++ R), .int .i64 0]) = _
 rw [← EY.out, ← EM.out, ← ED.out, ← EP.out, ← EQ.out, ← ER.out, cat9, HST.out]
 simp [dateT, clockT]
set_option maxHeartbeats 1000000 in
theorem Stamp_no (t : Int) (w : World) (h : t / 86400 < -135140 ∨ 157053 < t / 86400) (hn1 : -9223372036854775808 ≤ t) (hn2 : t ≤ 9223372036854775807) :
  Calls Tryz.prog 46 #[.int .i64 t] w fun e w' => e = .returned (.tuple #[.string ⟨#[]⟩, .int .i64 1]) ∧ Below w.heap.size w w' := by
 have HN1 := Lib.hid hn1
 have HN2 := Lib.hid hn2
 clear hn1 hn2
 go_enter Tryz.func46, Tryz.ntmps46
 go_wp2_with fail
 refine (Floor_any t 86400 _ (by decide) (by decide) HN1.out HN2.out).mono ?_
 rintro e w1 ⟨rfl, hb1⟩
 go_wp2_with fail
 refine (Date_no (t / 86400) _ h).mono ?_
 rintro e w2 ⟨rfl, rfl⟩
 go_wp2_with fail
 go_ret2
 exact ⟨rfl, hb1⟩
end Go.Proofs.YtomahddiclkepaaGreatDoor
