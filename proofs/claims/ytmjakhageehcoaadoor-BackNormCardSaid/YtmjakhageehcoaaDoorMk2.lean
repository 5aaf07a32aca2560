/- The maker of a table: Change. -/
import Derived.Test.YtmjakhageehcoaaDoorMk1
namespace Go.Proofs.YtmjakhageehcoaaDoor
open Go.RowKit Go.Joins
open Classical
set_option linter.unusedVariables false
set_option linter.unusedSimpArgs false

theorem own_sliceN {W : World} {B : Nat} {e : TypeId} {s n : Nat} {v : Value} {xs : List Value} (h : W.ownsRow B e s v n xs) : ∃ A c, v = .slice A n c := by
  rcases h.2 with ⟨rfl, rfl⟩ | ⟨g, cap, cur, rfl, _⟩
  · exact ⟨_, _, rfl⟩
  · exact ⟨_, _, rfl⟩

/-- the facts of names and sizes that the maker's types bear -/
structure NSm (s : NS) : Prop where
  tl : s.types.length ≤ 2000
  cl : s.chs.length ≤ 20000
  pos : 0 < s.types.length
  nm : ∀ y ∈ s.types, y.name.size ≤ maxLen

set_option maxRecDepth 100000 in
set_option maxHeartbeats 2000000 in
theorem Change_same (M b0 : Nat) (sv cv : Value) (s : NS) (t : Int) (x : Ty) (w : World) (hm : Mk w M b0 sv cv s) (hb0 : b0 ≤ w.heap.size) (hx : x = s.last) :
    Calls Tryd.prog 47 #[.pointer (some ⟨M, 0, none⟩), .int .i64 t, tyV x] w fun e w' => e = .returned (.tuple #[]) ∧ Mk w' M b0 sv cv s ∧ Below b0 w w' := by
  subst hx
  obtain ⟨m0, m1, m2, m3, m4, m5, mz⟩ := mkCells hm.blk
  have hMl := hm.lt
  have HM := Lib.hid hm
  have hq := neq_tyN s.last s.last
  simp only [decide_true, Bool.not_true] at hq
  obtain ⟨L, eL⟩ : ∃ L, s.last = L := ⟨_, rfl⟩
  rw [eL] at m3 m4 m5 hq
  rw [eL]
  have hm' := hm
  clear hm m0 m1 m2 hm'
  go_enter Tryd.func47, Tryd.ntmps47
  go_wp2
  go_quiet (fail)
  go_wp2
  go_end0
  exact ⟨rfl, (HM.out.alloc _).keep (fun b hb => rfl), below_drewNm ((Below.refl _ _).alloc hb0 _) _⟩

set_option maxRecDepth 100000 in
set_option maxHeartbeats 4000000 in
theorem Change_other (M b0 : Nat) (sv cv : Value) (s : NS) (t : Int) (x : Ty) (w : World) (hm : Mk w M b0 sv cv s) (hb0 : b0 ≤ w.heap.size) (hs : NSm s) (hx : x ≠ s.last) :
    Calls Tryd.prog 47 #[.pointer (some ⟨M, 0, none⟩), .int .i64 t, tyV x] w fun e w' => e = .returned (.tuple #[]) ∧ (∃ sv' cv', Mk w' M b0 sv' cv' ⟨addTy s.types x, s.chs ++ [⟨t, (idxTy s.types x : Nat)⟩], x⟩) ∧ Below b0 w w' := by
  obtain ⟨A, cC, rfl⟩ := own_sliceN hm.rowC
  obtain ⟨m0, m1, m2, m3, m4, m5, mz⟩ := mkCells hm.blk
  have hMl := hm.lt
  have HM := Lib.hid hm
  obtain ⟨W1, eW⟩ : ∃ W1, w.alloc (.cells #[.int .i64 x.off, .bool x.save, .string x.name] 45) = W1 := ⟨_, rfl⟩
  have hm1 : Mk W1 M b0 sv (.slice A s.chs.length cC) s := by rw [← eW]; exact hm.alloc _
  have hX : W1.heap[w.heap.size]? = some (.cells #[.int .i64 x.off, .bool x.save, .string x.name] 45 (0, 0)) := by rw [← eW]; exact heap_alloc_new w _
  have hW1 : W1.heap.size = w.heap.size + 1 := by rw [← eW]; simp
  have hbW1 : Below b0 w W1 := by rw [← eW]; exact (Below.refl _ _).alloc hb0 _
  obtain ⟨q0, q1, q2, q3, q4, q5, qz⟩ := mkCells hm1.blk
  have x0 : W1.cell? ⟨w.heap.size, 0, none⟩ = some (.int .i64 x.off) := (cell_of_row W1 _ 0 _ _ _ hX).trans rfl
  have x1 : W1.cell? ⟨w.heap.size, 1, none⟩ = some (.bool x.save) := (cell_of_row W1 _ 1 _ _ _ hX).trans rfl
  have x2 : W1.cell? ⟨w.heap.size, 2, none⟩ = some (.string x.name) := (cell_of_row W1 _ 2 _ _ _ hX).trans rfl
  have hq := neq_tyN x s.last
  have hd : decide (x = s.last) = false := by simpa using hx
  simp only [hd, Bool.not_false] at hq
  have HM1 := Lib.hid hm1
  have HX := Lib.hid hX
  have HBW := Lib.hid hbW1
  have HNM := Lib.hid hs.nm
  have htl := hs.tl
  have hcl := hs.cl
  have hpos := hs.pos
  have hsvX : ∀ g, sv.ownBlock = some g → g < w.heap.size := fun g e => (World.ownsRow.lt hm.rowT g e).2
  have HSV := Lib.hid hsvX
  obtain ⟨i1, hi1, hz10, hz11, hz12⟩ := info_parts infoChN
  have HL1 : Hid (s.chs.length + 1 ≤ maxLen) := by show _ ≤ _; simp only [maxLen]; omega
  have HL2 : Hid ((s.chs.length + 1) * 16 ≤ 140737488355328) := by show _ ≤ _; omega
  have H1 : Hid (∀ u ∈ [Value.int .i64 t, .int .i64 ((idxTy s.types x : Nat) : Int)], u.oneCell' = true) := by intro u hu; simp at hu; rcases hu with rfl | rfl <;> rfl
  obtain ⟨I, eI⟩ : ∃ I, idxTy s.types x = I := ⟨_, rfl⟩
  rw [eI] at H1
  have EI := Lib.hid eI
  clear hx hd hm1 hX hbW1 hs m0 m1 m2 m3 m4 m5 hsvX hm eI
  go_enter Tryd.func47, Tryd.ntmps47
  go_wp2
  go_quiet (fail)
  go_wp2_with fail
  obtain ⟨W2, e2⟩ : ∃ W2, W1.drewN nq = W2 := ⟨_, rfl⟩
  have hh2 : W2.heap = W1.heap := by rw [← e2]; rfl
  have hM2 : Mk W2 M b0 sv (.slice A s.chs.length cC) s := HM1.out.keep fun b hb => by rw [hh2]
  have hX2 : W2.heap[w.heap.size]? = some (.cells #[.int .i64 x.off, .bool x.save, .string x.name] 45 (0, 0)) := by rw [hh2]; exact HX.out
  have hB2 : Below b0 w W2 := by rw [← e2]; exact below_drewNm HBW.out _
  have hW2 : W2.heap.size = w.heap.size + 1 := by rw [hh2]; exact hW1
  rw [e2]
  clear e2 hh2 q0 q1 q2 q3 q4 q5 x0 x1 x2 qz eW
  obtain ⟨r0, r1, r2, r3, r4, r5, rz⟩ := mkCells hM2.blk
  have y0 : W2.cell? ⟨w.heap.size, 0, none⟩ = some (.int .i64 x.off) := (cell_of_row W2 _ 0 _ _ _ hX2).trans rfl
  have y1 : W2.cell? ⟨w.heap.size, 1, none⟩ = some (.bool x.save) := (cell_of_row W2 _ 1 _ _ _ hX2).trans rfl
  have y2 : W2.cell? ⟨w.heap.size, 2, none⟩ = some (.string x.name) := (cell_of_row W2 _ 2 _ _ _ hX2).trans rfl
  have HM2 := Lib.hid hM2
  have HX2 := Lib.hid hX2
  have HB2 := Lib.hid hB2
  have HMD := Lib.hid (hM2.keep (W' := W2.drew) fun b hb => rfl)
  have HNU := Lib.hid (number_any M b0 sv (.slice A s.chs.length cC) s x W2.drew HMD.out (by omega) hpos HNM.out)
  rw [EI.out] at HNU
  clear hM2 hX2 hB2 r0 r1 r3 r4 r5
  go_region_law (first
    | (refine step_append_lies _ (by rfl) _ _ _ (by rfl) b0 43 i1 _ 2 16 undChsN hi1 hz10 hz11 hz12 rfl (by omega) (.slice A s.chs.length cC) s.chs.length (chCells s.chs) (by rfl) (World.ownsRow.alloc HM4.out.rowC _) ⟨w4.heap.size, 0, none⟩ 1 1 [.int .i64 t, .int .i64 ((I : Nat) : Int)] (by rfl) (by rfl) (World.news_of_block (cs := #[.int .i64 t, .int .i64 ((I : Nat) : Int)]) (t := 43) (fr := (0, 0)) (heap_alloc_new w4 _)) H1.out Nat.one_pos HL1.out HL2.out (HB4.out _) (w4.heap.size + 1) (by simp) ?_; intro g6 cap6 w6 hown6 hg6 hat6 hlt6; have hk6 : ∀ b, b < w4.heap.size → (Value.slice A s.chs.length cC).ownBlock ≠ some b → w6.heap[b]? = w4.heap[b]? := (fun b hb hne => (hg6.block b (by simp; omega) (fun e => hne e.symm)).trans (Below.heap_alloc w4 _ b hb)); have y6 := (hk6 M HM4.out.lt HM4.out.neC).trans HM4.out.blk; have t2 := (cell_of_row w6 _ 2 _ _ _ y6).trans (show _ = some (Value.slice A s.chs.length cC) from rfl); have tz : w6.frozen? ⟨M, 2, none⟩ = false := (by simp [World.frozen?, y6]))
    | (go_simp; go_at_call 62; refine HNU.out.mono ?_; rintro e w4 ⟨rfl, ⟨sv4, hM4⟩, hsz4, hk4, hb4⟩; obtain ⟨p0, p1, p2, p3, p4, p5, pz⟩ := mkCells hM4.blk; have hM4l : M < w4.heap.size := hM4.lt; have HM4 := Lib.hid hM4; have HB4 : Hid (∀ o : Obj, b0 ≤ (w4.alloc o).heap.size) := (fun o => by have := hb4.size; simp at this ⊢; omega)))
  all_goals
    have hXne : (Value.slice A s.chs.length cC).ownBlock ≠ some w.heap.size := fun e => by
      have h1 := (World.ownsRow.lt HM.out.rowC _ e).2
      omega
    have hX4 : w4.heap[w.heap.size]? = some (.cells #[.int .i64 x.off, .bool x.save, .string x.name] 45 (0, 0)) := (hk4 w.heap.size (by simp; omega) (by omega) (fun e => by have := HSV.out _ e; omega)).trans HX2.out
    have hXl4 : w.heap.size < w4.heap.size := (Array.getElem?_eq_some_iff.mp hX4).1
    have hX6 := (hk6 w.heap.size hXl4 hXne).trans hX4
    have hg6M : g6 ≠ M := by
      rcases hat6 with e | e
      · intro e2; exact HM4.out.neC (by rw [e, e2])
      · have := HM4.out.lt; omega
    have b6 : Below b0 w w6 := (HB2.out.trans ((below_drewNm (Below.refl b0 W2) 1).trans hb4)).trans (((Below.refl b0 w4).alloc (by have := HM4.out.hM; have := HM4.out.lt; omega) _).grown hg6 (HB4.out _) (fun k e => (World.ownsRow.lt HM4.out.rowC k e).1))
    obtain ⟨W7, e7⟩ : ∃ W7, w6.setCell ⟨M, 2, none⟩ (.slice (some ⟨g6, 0, none⟩) (s.chs.length + 1) cap6) = W7 := ⟨_, rfl⟩
    rw [e7]
    have h7 : W7.heap[M]? = some (.cells #[sv4, .int .i64 0, .slice (some ⟨g6, 0, none⟩) (s.chs.length + 1) cap6, .int .i64 s.last.off, .bool s.last.save, .string s.last.name] 100 (0, 0)) := by rw [← e7]; exact (heap_setCm y6 _).trans rfl
    have k7 : ∀ b, b ≠ M → W7.heap[b]? = w6.heap[b]? := fun b hb => by rw [← e7]; exact Below.heap_setCell _ _ _ _ hb
    have b7 : Below b0 w W7 := by rw [← e7]; exact b6.setCell (by show b0 ≤ M; exact HM4.out.hM) _
    obtain ⟨-, -, -, u3, u4, u5, uz⟩ := mkCells h7
    have hX7 := (k7 w.heap.size (by omega)).trans hX6
    have z0 : W7.cell? ⟨w.heap.size, 0, none⟩ = some (.int .i64 x.off) := (cell_of_row W7 _ 0 _ _ _ hX7).trans rfl
    have z1 : W7.cell? ⟨w.heap.size, 1, none⟩ = some (.bool x.save) := (cell_of_row W7 _ 1 _ _ _ hX7).trans rfl
    have z2 : W7.cell? ⟨w.heap.size, 2, none⟩ = some (.string x.name) := (cell_of_row W7 _ 2 _ _ _ hX7).trans rfl
    have uz3 := uz 3
    have uz4 := uz 4
    have uz5 := uz 5
    clear e7 hk6 t2 tz p0 p1 p2 p3 p4 p5 pz
    go_wp2
    go_end0
    have kE : ∀ b, b ≠ M → (((W7.setCell ⟨M, 3, none⟩ (.int .i64 x.off)).setCell ⟨M, 4, none⟩ (.bool x.save)).setCell ⟨M, 5, none⟩ (.string x.name)).heap[b]? = w6.heap[b]? := fun b hb =>
      ((Below.heap_setCell _ _ _ _ hb).trans ((Below.heap_setCell _ _ _ _ hb).trans (Below.heap_setCell _ _ _ _ hb))).trans (k7 b hb)
    refine ⟨rfl, ⟨sv4, .slice (some ⟨g6, 0, none⟩) (s.chs.length + 1) cap6, ⟨(heap_setCm (heap_setCm (heap_setCm h7 _) _) _).trans rfl, HM4.out.hM, ?_, ?_⟩⟩, ((b7.setCell (by show b0 ≤ M; exact HM4.out.hM) _).setCell (by show b0 ≤ M; exact HM4.out.hM) _).setCell (by show b0 ≤ M; exact HM4.out.hM) _⟩
    · refine own_keep HM4.out.rowT fun g e => (kE g (fun e2 => HM4.out.neT (by rw [e, e2]))).trans ((hg6.block g (by have := (World.ownsRow.lt HM4.out.rowT g e).2; simp; omega) (fun e2 => ?_)).trans (Below.heap_alloc w4 _ g (World.ownsRow.lt HM4.out.rowT g e).2))
      rcases own_apart HM4.out.rowT HM4.out.rowC (by decide) with h | h
      · rw [h] at e; cases e
      · exact h (by rw [e, e2])
    · rw [chCells_snoc, List.length_append, EI.out]
      exact own_keep hown6 fun g e => kE g (by simp only [Value.ownBlock] at e; injection e with e; omega)

/-- a change to a type -/
theorem Change_any (M b0 : Nat) (sv cv : Value) (s : NS) (t : Int) (x : Ty) (w : World) (hm : Mk w M b0 sv cv s) (hb0 : b0 ≤ w.heap.size) (hs : NSm s) :
    Calls Tryd.prog 47 #[.pointer (some ⟨M, 0, none⟩), .int .i64 t, tyV x] w fun e w' => e = .returned (.tuple #[]) ∧ (∃ sv' cv', Mk w' M b0 sv' cv' (stepN s (t, x))) ∧ Below b0 w w' := by
  unfold stepN
  by_cases h : x = s.last
  · rw [if_pos h]
    exact (Change_same M b0 sv cv s t x w hm hb0 h).mono fun e w' ⟨a, b, c⟩ => ⟨a, ⟨_, _, b⟩, c⟩
  · rw [if_neg h]
    exact Change_other M b0 sv cv s t x w hm hb0 hs h
end Go.Proofs.YtmjakhageehcoaaDoor
