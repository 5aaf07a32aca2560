/- wall.Long: how long a day is. -/
import Derived.Test.YtddkedghpapepaaWallMath
import Derived.Test.YtddkedghpapepaaQuietR
namespace Go.Proofs.Ytddkedghpapepaa
open Go.RowKit Go.Shelf
set_option linter.unusedVariables false
set_option linter.unusedSimpArgs false

attribute [local go_sem] Oper.semAt_some

def lngStep (d : Int) (m : Int) (x : Pc) : Int := wrap64 (m + max 0 (wrap64 (min x.b (wrap64 (86400 * (d + 1) - x.off)) - max x.a (wrap64 (86400 * d - x.off)))))
def lng (d : Int) (ps : List Pc) : Int := ps.foldl (lngStep d) 0
theorem lng_snoc (d : Int) (pre : List Pc) (x : Pc) : lng d (pre ++ [x]) = lngStep d (lng d pre) x := by simp [lng]

theorem KpT.setBox {W : World} {n₀ B : Nat} {t : TypeId} {v : Value} (hv : Boxed W B t v) (hB : n₀ ≤ B) (h1 : t ≠ 25) (h2 : t ≠ 36) (u : Value) : KpT n₀ W (W.setCell ⟨B, 0, none⟩ u) := by
  have hb : Below n₀ W (W.setCell ⟨B, 0, none⟩ u) := (Below.refl _ W).setCell (p := ⟨B, 0, none⟩) hB u
  refine ⟨hb.size, fun k hk => hb.block k hk, fun k cs T hk hT => ?_⟩
  have hkB : k ≠ B := by
    rintro rfl
    have := (show W.heap[k]? = _ from hv).symm.trans hk
    simp only [Option.some.injEq, Obj.cells.injEq] at this
    obtain ⟨_, rfl, _⟩ := this
    rcases hT with h | h
    · exact h1 h
    · exact h2 h
  rw [Below.heap_setCell _ _ _ k hkB]
  exact hk

set_option maxRecDepth 100000 in
set_option maxHeartbeats 4000000 in
theorem Long_ok (t : Tab) (v : Value) (d : Int) (w : World) (hv : TabAt w v t) (h0 : chk t = 0) (hx1 : -10000000 ≤ d) (hx2 : d ≤ 10000000) :
    Calls Try.prog 21 #[v, .int .i64 d] w fun e w' => e = .returned (.tuple #[.int .i64 (lng d (uptoP t (t.chs.length + 1))), .int .i64 0]) ∧ Below w.heap.size w w' := by
  have ok := chk_ok t h0
  obtain ⟨sv, cv, rfl, hs, hc⟩ := hv.val
  obtain ⟨W0, hW0⟩ : ∃ W0, w.alloc (.cells #[sv, .int .i64 t.first, cv] 25) = W0 := ⟨_, rfl⟩
  obtain ⟨hB, hS, q0, q1, q2⟩ := box3 hW0
  have hB2 : Below w.heap.size w (W0.alloc (.cells #[.int .i64 d] 3)) := hB.alloc (by omega) _
  have HCC := Lib.hid (Check_any t _ _ (hv.below hB2))
  have HH := Lib.hid h0
  have HW0 := Lib.hid hW0
  have HS := Lib.hid hS
  have HB2 := Lib.hid hB2
  have HVS := Lib.hid hs
  have HVC := Lib.hid hc
  have OK := Lib.hid ok
  clear hv h0 hW0 hS hB hs hc ok hB2
  refine (callsIn_wide (n := 4)).1 ?_
  refine callsIn_of_wp_marks Try.func21 rfl trivial ?_ rfl
  simp only [Try.ntmps21, List.size_toArray, List.length_cons, List.length_nil, Nat.reduceAdd, Nat.reduceSub, Array.replicate_succ, Array.replicate_zero, List.push_toArray, List.append_toArray, List.nil_append, List.cons_append]
  gi_wp2
  refine ⟨trivial, ?_⟩
  rw [HW0.out]
  refine (callsIn_wide.2 HCC.out).mono ?_
  rw [HH.out]
  rintro e w1 ⟨rfl, hb1⟩
  have hs2 : (W0.alloc (.cells #[.int .i64 d] 3)).heap.size = w.heap.size + 2 := by have := HS.out; simp; omega
  rw [hs2] at hb1
  have hsz1 := hb1.size
  rw [hs2] at hsz1
  have c0 := (hb1.cell (p := ⟨w.heap.size, 0, none⟩) (by show w.heap.size < _; omega)).trans ((World.cell?_alloc_lt W0 _ _ (by show w.heap.size < _; have := HS.out; omega)).trans q0)
  have c1 := (hb1.cell (p := ⟨w.heap.size, 1, none⟩) (by show w.heap.size < _; omega)).trans ((World.cell?_alloc_lt W0 _ _ (by show w.heap.size < _; have := HS.out; omega)).trans q1)
  have c2 := (hb1.cell (p := ⟨w.heap.size, 2, none⟩) (by show w.heap.size < _; omega)).trans ((World.cell?_alloc_lt W0 _ _ (by show w.heap.size < _; have := HS.out; omega)).trans q2)
  have hl0 : w.heap.size < w1.heap.size := by omega
  have hl1 : w.heap.size + 1 < w1.heap.size := by omega
  have bL : Boxed w1 (w.heap.size + 1) 3 (.int .i64 d) := by
    have e1 : w1.heap[w.heap.size + 1]? = (W0.alloc (.cells #[.int .i64 d] 3)).heap[w.heap.size + 1]? := hb1.block _ (by omega)
    have e2 := World.alloc_heap_new W0 (.cells #[.int .i64 d] 3)
    rw [HS.out] at e2
    exact e1.trans e2
  have cL := bL.cell
  gi_wp2
  refine ⟨trivial, ?_⟩
  refine (callsIn_wide.2 (pieces_any _ _ _ _)).mono ?_
  rintro e w2 ⟨rfl, hw2⟩
  rw [World.size_alloc]
  have bO : Boxed w2 w1.heap.size 3 (.int .i64 0) := by rw [← hw2]; exact (Boxed.new w1 _ _).alloc _
  have bL2 : Boxed w2 (w.heap.size + 1) 3 (.int .i64 d) := by rw [← hw2]; exact (bL.alloc _).alloc _
  have hq : w2.heap[w1.heap.size + 1]? = some (Obj.cells #[sv, .int .i64 t.first, cv] 25 (0, 0)) := by
    have e2 := World.alloc_heap_new (w1.alloc (.cells #[.int .i64 0] 3)) (.cells #[sv, .int .i64 t.first, cv] 25)
    rw [World.size_alloc, hw2] at e2
    exact e2
  have hb2 : Below w.heap.size w w2 := by
    rw [← hw2]
    exact ((HB2.out.trans (hb1.mono (by omega))).alloc (by omega) _).alloc (by simp; omega) _
  have hsz2 : w2.heap.size = w1.heap.size + 2 := by rw [← hw2]; simp
  have hl2 : w1.heap.size < w2.heap.size := by omega
  have OKK := OK.out
  gi_wp2
  clear hw2 hb1 hs2 q0 q1 q2 c0 c1 c2 bL HCC HW0 HB2 HH cL
  refine wpIn_rangeFunc_ownH rfl (by decide) (gf := 40) (lb := #[.pointer (some ⟨w1.heap.size + 1, 0, none⟩)]) rfl trivial (enters_of Try.func40 (by kernel_rfl) rfl)
    (pieces_stops 3 (w1.heap.size + 1) w.heap.size t sv cv (by decide) w2 (by omega) (by omega) w rfl HVS.out HVC.out hb2 hq OKK)
    (fun h k => h.trans k) (fun W l o o' h1 h2 h3 _ => KpT.putObj W l o o' (by omega) h2 h3) (Below.refl _ _) (fun _ => rfl)
    (fun pre W => Boxed W w1.heap.size 3 (.int .i64 (lng d pre)) ∧ Below w1.heap.size w2 W)
    (fun _ _ _ => False)
    (OwnFrom.and (Own.from (boxed_own w1.heap.size 3 (fun pre => Value.int .i64 (lng d pre))) _) (ownFrom_below (by omega) (by omega)))
    (fun _ _ _ _ _ hs _ _ => hs)
    ⟨bO, Below.refl _ _⟩
    (fun x a' W => ∃ Bx, w1.heap.size < Bx ∧ W.heap[Bx]? = some (Obj.cells #[.int .i64 x.a, .int .i64 x.b] 65 (0, 0)) ∧ a' = { tmps := #[.agg #[sv, .int .i64 t.first, cv], .int .i64 d, .pointer (some ⟨w.heap.size, 0, none⟩), .pointer (some ⟨w.heap.size + 1, 0, none⟩), .int .i64 0, .int .i64 0, .int .i64 0, .pointer (some ⟨w1.heap.size, 0, none⟩), .pointer (some ⟨Bx, 0, none⟩), .int .i64 x.off, undef, undef, .agg #[sv, .int .i64 t.first, cv], .int .i64 0, .int .i64 0, .bool false, undef, .int .i64 d, .bool (decide (d < -10000000)), .bool (decide (d < -10000000)), .int .i64 d, .bool (decide (10000000 < d)), .bool (decide (d < -10000000) || decide (10000000 < d)), .agg #[sv, .int .i64 t.first, cv], .func (.func 40) #[] #[.pointer (some ⟨w1.heap.size + 1, 0, none⟩)], .agg #[.int .i64 x.a, .int .i64 x.b], .int .i64 x.off, undef, undef, undef, undef, undef, undef, undef, undef, undef, undef, undef, undef, undef, undef, undef, undef, undef, undef, undef, undef, undef, undef], defers := [] })
    ?_ ?assign ?body ?done ?stop
  · intro x a' _ X Y row hs hg hr
    obtain ⟨Bx, h1, h2, h3⟩ := hs
    refine ⟨Bx, h1, (hg.block Bx (Array.getElem?_eq_some_iff.1 h2).1 (fun e' => ?_)).trans h2, h3⟩
    obtain ⟨_, o, ho, hcx⟩ := hr Bx e'.symm
    rw [h2] at ho; cases ho; cases hcx
  case assign =>
    rintro l' pre x W K ⟨hv, hB1⟩ hK
    have hszW := hB1.size
    gi_wp2
    exact hK _ _ ((KeepsOthers.alloc _ _).from _) (KpT.alloc W (by omega) _) ⟨hv.alloc _, hB1.alloc (by omega) _⟩ ⟨W.heap.size, hv.lt, World.alloc_heap_new _ _, rfl⟩
  case body =>
    rintro l' pre x a' W hl _ ⟨hv, hB1⟩ ⟨Bx, hBx, hX, rfl⟩ hlt
    have hszW := hB1.size
    have cO := hv.cell
    have fO := hv.frozen
    have cL : W.cell? ⟨w.heap.size + 1, 0, none⟩ = some (.int .i64 d) := (hB1.cell (p := ⟨w.heap.size + 1, 0, none⟩) hl1).trans bL2.cell
    obtain ⟨cX0, cX1⟩ := cells2 hX
    have hBxlt : Bx < W.heap.size := (Array.getElem?_eq_some_iff.1 hX).1
    have hlW : w.heap.size + 1 < W.heap.size := by omega
    have hoW := hv.lt
    have hn := lng_snoc d pre x
    unfold lngStep at hn
    obtain ⟨M, eM⟩ : ∃ M, lng d pre = M := ⟨_, rfl⟩
    obtain ⟨M', eM'⟩ : ∃ M', lng d (pre ++ [x]) = M' := ⟨_, rfl⟩
    rw [eM, eM'] at hn
    rw [eM] at cO
    have HN := Lib.hid hn
    have EM := Lib.hid eM
    have EM' := Lib.hid eM'
    clear hX hn eM eM'
    gi_wp2
    refine wpIn_region_quietR_lit (by kernel_rfl) (by kernel_rfl) (by kernel_rfl) ?_
    repeat (gi_big_quiet_step (fail))
    refine wpQuietIn_nil ?_
    rintro _ ⟨nq, rfl⟩
    gi_wp2
    have hv1 : Boxed (W.drewN nq) w1.heap.size 3 (.int .i64 (lng d pre)) := hv
    have hk1 : KpT w.heap.size W (W.drewN nq) := ⟨Nat.le_refl _, fun _ _ => rfl, fun _ _ _ h _ => h⟩
    have hb1 : Below w1.heap.size w2 (W.drewN nq) := below_drewN' hB1 nq
    have hkf : KeepsFrom w2.heap.size W (W.drewN nq) := (KeepsOthers.of_grownBy (grownBy_drewN W nq) (fun r _ e _ => by cases e)).from _
    exact ⟨hkf.trans ((KeepsOthers.setCell _ _ _).from _), hk1.trans (KpT.setBox hv1 (by omega) (by decide) (by decide) _), ⟨by rw [EM'.out, HN.out]; exact hv1.set _, hb1.setCell (p := ⟨w1.heap.size, 0, none⟩) (Nat.le_refl _) _⟩⟩
  case done =>
    rintro D ys W hD rfl ⟨hv, hB1⟩ hK
    have hc := hv.cell
    have hszW := hB1.size
    gi_wp2
    refine ⟨by simp, .inl ⟨_, _, rfl, run_takeDeferred hK, ?_⟩⟩
    exact ⟨_, results_tmp2 rfl _ _ _, rfl, hb2.trans ((hB1.mono (by omega)).trans (belowK_b (w := w) (Nat.le_refl _) W D _ _ (by omega) hK rfl rfl))⟩
  case stop =>
    rintro D c pre W _ _ h _
    exact h.elim

end Go.Proofs.Ytddkedghpapepaa
