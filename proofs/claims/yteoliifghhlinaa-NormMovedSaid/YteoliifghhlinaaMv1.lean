/- moved: the table whose changes are all so much later. -/
import Derived.Test.YteoliifghhlinaaN2
import Derived.Test.YteoliifghhlinaaMoveMath
import Derived.Handy
namespace Go.Proofs.Yteoliifghhlinaa
open Go.RowKit Go.Joins
open Classical
set_option linter.unusedVariables false
set_option linter.unusedSimpArgs false

theorem own_chsW {W : World} {B : Nat} {v : Value} {l : List Ch} (h : W.ownsRow B 42 2 v l.length (chCells l)) (hl : l.length ≤ maxLen) : SlCh W v l := by
  refine ⟨?_, hl⟩
  rcases own_cells h with ⟨rfl, h0⟩ | ⟨g, cap, rfl, hb, hg, hc⟩
  · have : l = [] := List.eq_nil_of_length_eq_zero h0
    subst this
    exact ⟨none, 0, rfl, fun h => absurd rfl h⟩
  · refine ⟨_, cap, rfl, fun _ => ⟨g, 0, rfl, hg, fun i hi => ?_⟩⟩
    obtain ⟨k1, k2⟩ := chCells_get l i hi
    exact ⟨by rw [Nat.zero_add]; exact hc _ _ k1, by rw [Nat.zero_add]; exact hc _ _ k2⟩

/-- the block under way, and its row of changes -/
structure Vb (W : World) (U b0 : Nat) (F : Int) (sv cv : Value) (C : List Ch) : Prop where
  blk : W.heap[U]? = some (.cells #[sv, .int .i64 F, cv] 25 (0, 0))
  rowC : W.ownsRow b0 42 2 cv C.length (chCells C)
section
variable {W W' : World} {U b0 : Nat} {F : Int} {sv cv : Value} {C : List Ch}
theorem Vb.lt (h : Vb W U b0 F sv cv C) : U < W.heap.size := (Array.getElem?_eq_some_iff.mp h.blk).1
theorem Vb.neC (h : Vb W U b0 F sv cv C) : cv.ownBlock ≠ some U := by
  rcases h.rowC.2 with ⟨e, _⟩ | ⟨g, cap, cur, e, _, hg, _⟩
  · rw [e]; simp [Value.ownBlock]
  · rw [e]
    simp only [Value.ownBlock]
    intro e2
    injection e2 with e2
    subst e2
    rw [h.blk] at hg
    injection hg with hg
    injection hg with _ h2 _
    exact absurd h2 (by decide)
theorem Vb.keep (h : Vb W U b0 F sv cv C) (hk : ∀ b, b < W.heap.size → W'.heap[b]? = W.heap[b]?) : Vb W' U b0 F sv cv C :=
  ⟨(hk _ h.lt).trans h.blk, own_keep h.rowC fun g e => hk g (World.ownsRow.lt h.rowC g e).2⟩
theorem Vb.cells (h : Vb W U b0 F sv cv C) : W.cell? ⟨U, 0, none⟩ = some sv ∧ W.cell? ⟨U, 1, none⟩ = some (.int .i64 F) ∧ W.cell? ⟨U, 2, none⟩ = some cv ∧ (∀ o, W.frozen? ⟨U, o, none⟩ = false) :=
  ⟨(cell_of_row W _ 0 _ _ _ h.blk).trans rfl, (cell_of_row W _ 1 _ _ _ h.blk).trans rfl, (cell_of_row W _ 2 _ _ _ h.blk).trans rfl, fun o => by simp [World.frozen?, h.blk]⟩
end

theorem vb_old {W w6 : World} {U b0 : Nat} {F : Int} {A : Option Addr} {cS : Nat} {sv : Value} {C : List Ch} {o o' : Obj} (h : Vb W U b0 F sv (.slice A C.length cS) C) (hg : ((W.alloc o).alloc o').grownBy w6 (Value.slice A C.length cS).ownBlock) :
    w6.heap[U]? = some (.cells #[sv, .int .i64 F, .slice A C.length cS] 25 (0, 0)) := by
  have := h.lt
  exact ((hg.block U (by simp; omega) (fun e => h.neC e.symm)).trans ((Below.heap_alloc _ _ _ (by simp; omega)).trans (Below.heap_alloc _ _ _ this))).trans h.blk
/-- one more change -/
theorem vb_chs {W w6 : World} {U b0 : Nat} {F : Int} {A : Option Addr} {cS : Nat} {sv v' : Value} {C : List Ch} {x : Ch} {o o' : Obj} (h : Vb W U b0 F sv (.slice A C.length cS) C) (hb : b0 ≤ W.heap.size) (hU : b0 ≤ U)
    (hown : w6.ownsRow b0 42 2 v' (C.length + 1) (chCells C ++ [.int .i64 x.t, .int .i64 x.k]))
    (hg : ((W.alloc o).alloc o').grownBy w6 (Value.slice A C.length cS).ownBlock) (y6 : w6.heap[U]? = some (.cells #[sv, .int .i64 F, .slice A C.length cS] 25 (0, 0))) :
    Vb (w6.setCell ⟨U, 2, none⟩ v') U b0 F sv v' (C ++ [x]) ∧ Below b0 W (w6.setCell ⟨U, 2, none⟩ v') := by
  have hne : v'.ownBlock ≠ some U := by
    rcases hown.2 with ⟨e, _⟩ | ⟨g, cap, cur, e, _, hg, _⟩
    · rw [e]; simp [Value.ownBlock]
    · rw [e]
      simp only [Value.ownBlock]
      intro e2
      injection e2 with e2
      subst e2
      rw [y6] at hg
      injection hg with hg
      injection hg with _ h2 _
      exact absurd h2 (by decide)
  refine ⟨⟨(heap_setCm y6 _).trans rfl, ?_⟩, ?_⟩
  · rw [chCells_snoc, List.length_append]
    exact own_keep hown fun g e => Below.heap_setCell _ _ _ _ (by show g ≠ U; exact fun e2 => hne (by rw [e, e2]))
  · exact ((((Below.refl b0 W).alloc hb _).alloc (by simp; omega) _).grown hg (by simp; omega) (fun g e => (World.ownsRow.lt h.rowC g e).1)).setCell (by exact hU) _

theorem three_al {w W3 : World} {o1 o2 : Obj} {o3 : Array Value} {T : TypeId} (e : ((w.alloc o1).alloc o2).alloc (.cells o3 T) = W3) :
    W3.heap.size = w.heap.size + 3 ∧ W3.heap[w.heap.size + 1]? = some o2 ∧ W3.heap[w.heap.size + 1 + 1]? = some (.cells o3 T (0, 0)) ∧ Below w.heap.size w W3 := by
  subst e
  refine ⟨by simp, ?_, ?_, ((below_al _ _).alloc (by simp) _).alloc (by simp; omega) _⟩
  · rw [Below.heap_alloc _ _ _ (by simp)]
    have := heap_alloc_new (w.alloc o1) o2
    simpa using this
  · have := heap_alloc_new ((w.alloc o1).alloc o2) (.cells o3 T)
    simpa using this

set_option maxRecDepth 100000 in
set_option maxHeartbeats 8000000 in
theorem moved_any (t : Tab) (v : Value) (b : Int) (w : World) (hv : TabAt w v t) (hlen : t.chs.length * 16 ≤ 140737488355328) :
    Calls Try.prog 22 #[v, .int .i64 b] w fun e w' => ∃ p1 c1 p2 c2, e = .returned (.agg #[.slice p1 (shW b t).types.length c1, .int .i64 (shW b t).first, .slice p2 (shW b t).chs.length c2]) ∧
      TabAt w' (.agg #[.slice p1 (shW b t).types.length c1, .int .i64 (shW b t).first, .slice p2 (shW b t).chs.length c2]) (shW b t) ∧ Below w.heap.size w w' := by
  obtain ⟨sv, cv, rfl, HT, ⟨⟨p2, cap2, rfl, hc⟩, hl2⟩⟩ := hv.val
  obtain ⟨p1, cap1, rfl, -⟩ := HT.shape
  have HTT := Lib.hid HT
  have HCC := Lib.hid hc
  obtain ⟨i1, hi1, hz10, hz11, hz12⟩ := info_parts infoChN
  have hl2' := hl2
  clear hv HT hc
  go_enter Try.func22, Try.ntmps22
  go_wp2_with fail
  obtain ⟨W3, e3⟩ : ∃ W3, ((w.alloc (.cells #[.slice p1 t.types.length cap1, .int .i64 t.first, .slice p2 t.chs.length cap2] 25)).alloc (.cells #[.slice none 0 0, .int .i64 0, .slice none 0 0] 25)).alloc (.cells #[.slice p1 t.types.length cap1, .int .i64 t.first, .slice none 0 0] 25) = W3 := ⟨_, rfl⟩
  rw [e3]
  obtain ⟨hz3, hR3, hU3, hB3⟩ := three_al e3
  have HR3 := Lib.hid hR3
  have HB3 := Lib.hid hB3
  have HV3 : Hid (Vb W3 (w.heap.size + 1 + 1) (w.heap.size + 1 + 1) t.first (.slice p1 t.types.length cap1) (.slice none 0 0) []) := by
    show Vb _ _ _ _ _ _ _
    exact ⟨hU3, World.ownsRow_nil _ _ _ _⟩
  have hlx : t.chs.length ≤ 8796093022208 := by omega
  clear e3 hR3 hU3 hB3 hlen
  go_loopw [16] (fun i wr => ∃ (j : Nat) (cv : Value), j ≤ t.chs.length ∧ i = .int .i64 j ∧ Vb wr (w.heap.size + 1 + 1) (w.heap.size + 1 + 1) t.first (.slice p1 t.types.length cap1) cv ((t.chs.take j).map (shCW b)) ∧ Below (w.heap.size + 1 + 1) W3 wr) (fun i _ => t.chs.length - (intOf i).toNat)
  case atStart => exact ⟨0, _, Nat.zero_le _, rfl, HV3.out, Below.refl _ _⟩
  case round =>
    obtain ⟨j, cv, hj, rfl, hu, hbr⟩ := hrel
    have HVR := Lib.hid hu
    have HBR := Lib.hid hbr
    have hwr : w.heap.size + 3 ≤ wr.heap.size := by have := hbr.size; omega
    have HBW := Lib.hid (HB3.out.trans (hbr.mono (by omega)))
    clear hu hbr
    by_cases hjn : j < t.chs.length
    · have hne : t.chs ≠ [] := fun e => by rw [e] at hjn; exact absurd hjn (Nat.not_lt_zero _)
      obtain ⟨cb, co, rfl, hcb, hat⟩ := HCC.out hne
      obtain ⟨c, ec⟩ : ∃ c, t.chs[j] = c := ⟨_, rfl⟩
      have h1 := (hat j hjn).below HBW.out hcb
      rw [ec] at h1
      obtain ⟨d0, d1⟩ := h1
      have hs : Hid ((t.chs.take (j + 1)).map (shCW b) = (t.chs.take j).map (shCW b) ++ [shCW b c]) := by
        show _ = _
        rw [List.take_succ_eq_append_getElem hjn, ec, List.map_append]
        rfl
      have hLn : ((t.chs.take j).map (shCW b)).length = j := by rw [List.length_map, List.length_take, Nat.min_eq_left (Nat.le_of_lt hjn)]
      obtain ⟨L, eL⟩ : ∃ L, (t.chs.take j).map (shCW b) = L := ⟨_, rfl⟩
      rw [eL] at HVR hs hLn
      obtain ⟨y, ey⟩ : ∃ y, wrap64 (c.t + b) = y := ⟨_, rfl⟩
      have HSC : Hid (shCW b c = ⟨y, c.k⟩) := by show _ = _; unfold shCW; rw [ey]
      obtain ⟨A, cS, rfl⟩ := own_sliceN HVR.out.rowC
      have HML : L.length + 1 ≤ maxLen := by simp only [maxLen]; omega
      have HMB : (L.length + 1) * 16 ≤ 140737488355328 := by omega
      have HROW : ((wr.alloc (.cells #[.int .i64 y, .int .i64 c.k] 42)).alloc (.cells #[.int .i64 y, .int .i64 c.k] 42)).ownsRow (w.heap.size + 1 + 1) 42 2 (.slice A L.length cS) L.length (chCells L) := World.ownsRow.alloc (World.ownsRow.alloc HVR.out.rowC _) _
      have HNEW := World.news_of_block (cs := #[.int .i64 y, .int .i64 c.k]) (t := 42) (fr := (0, 0)) (alloc_at (wr.alloc (.cells #[.int .i64 y, .int .i64 c.k] 42)) (.cells #[.int .i64 y, .int .i64 c.k] 42) (wr.heap.size + 1) (by simp))
      have HSZ : w.heap.size + 1 + 1 ≤ ((wr.alloc (.cells #[.int .i64 y, .int .i64 c.k] 42)).alloc (.cells #[.int .i64 y, .int .i64 c.k] 42)).heap.size := by simp; omega
      have HROWH := Lib.hid HROW
      have HNEWH := Lib.hid HNEW
      obtain ⟨s0, s1, s2, s3⟩ := HVR.out.cells
      have hlu := HVR.out.lt
      clear hat hne ec eL hLn HROW HNEW
      go_wp2_with (at_builtin; refine wpList_append_own _ rfl _ _ 23 rfl (w.heap.size + 1 + 1) 42 i1 (.agg #[.int .i64 0, .int .i64 0]) 2 16 undChsN hi1 hz10 hz11 hz12 rfl (by decide) _ _ _ rfl HROWH.out ⟨wr.heap.size + 1, 0, none⟩ 1 1 [.int .i64 y, .int .i64 c.k] rfl rfl HNEWH.out (by simp [Value.oneCell']) HML HMB HSZ ?_; intro v' w10 hown10 hgrow10 _; obtain ⟨A', c', rfl⟩ := own_sliceN hown10; have y6 := vb_old HVR.out hgrow10; have t2 := (cell_of_row w10 _ 2 _ _ _ y6).trans (show _ = some (Value.slice A L.length cS) from rfl); have tz : w10.frozen? ⟨w.heap.size + 1 + 1, 2, none⟩ = false := (by simp [World.frozen?, y6]))
      have HR := Lib.hid (vb_chs (x := ⟨y, c.k⟩) HVR.out (by omega) (Nat.le_refl _) hown10 hgrow10 y6)
      go_roundw
      case rel => exact ⟨j + 1, _, hjn, by go_num, by rw [hs.out, HSC.out]; exact HR.out.1, HBR.out.trans HR.out.2⟩
      case measure => simp [intOf]; omega
    · obtain rfl : j = t.chs.length := by omega
      rw [List.take_length] at HVR
      have hml : (t.chs.map (shCW b)).length = t.chs.length := List.length_map _
      obtain ⟨L, eL⟩ : ∃ L, t.chs.map (shCW b) = L := ⟨_, rfl⟩
      rw [eL] at HVR hml
      obtain ⟨A, cS, rfl⟩ := own_sliceN HVR.out.rowC
      have HRR : Hid (wr.heap[w.heap.size + 1]? = some (.cells #[.slice none 0 0, .int .i64 0, .slice none 0 0] 25 (0, 0))) := by
        show _ = _
        rw [HBR.out.block _ (by omega)]
        exact HR3.out
      obtain ⟨s0, s1, s2, s3⟩ := HVR.out.cells
      have hlu := HVR.out.lt
      have g0 : wr.cell? ⟨w.heap.size + 1, 0, none⟩ = some (.slice none 0 0) := (cell_of_row wr _ 0 _ _ _ HRR.out).trans rfl
      have g1 : wr.cell? ⟨w.heap.size + 1, 1, none⟩ = some (.int .i64 0) := (cell_of_row wr _ 1 _ _ _ HRR.out).trans rfl
      have g2 : wr.cell? ⟨w.heap.size + 1, 2, none⟩ = some (.slice none 0 0) := (cell_of_row wr _ 2 _ _ _ HRR.out).trans rfl
      have z0 : wr.frozen? ⟨w.heap.size + 1, 0, none⟩ = false := by simp [World.frozen?, HRR.out]
      have z1 : wr.frozen? ⟨w.heap.size + 1, 1, none⟩ = false := by simp [World.frozen?, HRR.out]
      have z2 : wr.frozen? ⟨w.heap.size + 1, 2, none⟩ = false := by simp [World.frozen?, HRR.out]
      have HLE : Hid (L.length = (shW b t).chs.length) := by show _ = _; rw [← eL]; rfl
      have HLM : Hid (L.length ≤ maxLen) := by show _ ≤ _; omega
      have EL := Lib.hid eL
      clear hml eL
      go_wp2
      obtain ⟨W9, e9, hB9, hh9, ho9⟩ := end_cellsM HRR.out (.slice p1 t.types.length cap1) (.int .i64 t.first) (.slice A L.length cS)
      rw [e9]
      have v0 : W9.cell? ⟨w.heap.size + 1, 0, none⟩ = some (.slice p1 t.types.length cap1) := (cell_of_row W9 _ 0 _ _ _ hh9).trans rfl
      have v1 : W9.cell? ⟨w.heap.size + 1, 1, none⟩ = some (.int .i64 t.first) := (cell_of_row W9 _ 1 _ _ _ hh9).trans rfl
      have v2 : W9.cell? ⟨w.heap.size + 1, 2, none⟩ = some (.slice A L.length cS) := (cell_of_row W9 _ 2 _ _ _ hh9).trans rfl
      have HB9 := HBW.out.trans (hB9 w.heap.size (by omega))
      refine bodyPost_ret (v := .agg #[.slice p1 t.types.length cap1, .int .i64 t.first, .slice A L.length cS]) (by simp [results, Try.results22, go_sem, v0, v1, v2]) rfl ⟨p1, cap1, A, cS, by rw [HLE.out]; rfl, ?_, HB9⟩
      have hown := own_keep HVR.out.rowC (W' := W9) fun g e => ho9 g (by have := (World.ownsRow.lt HVR.out.rowC g e).1; omega)
      have h2 := own_chsW hown HLM.out
      rw [← HLE.out]
      refine ⟨_, _, rfl, HTT.out.below HB9, ?_⟩
      show SlCh W9 _ (t.chs.map (shCW b))
      rw [EL.out]
      exact h2
end Go.Proofs.Yteoliifghhlinaa
