/- wall.Find: the times at which clocks show a local time. -/
import Derived.Test.YteoliifghhlinaaPieces2
namespace Go.Proofs.Yteoliifghhlinaa
open Go.RowKit Go.Shelf
set_option linter.unusedVariables false
set_option linter.unusedSimpArgs false

attribute [local go_sem] Oper.semAt_some

theorem undInts : Try.prog.underlying 55 = some (.slice 3) := by kernel_rfl
theorem infoInt : (Try.prog.info? 3).map (fun i => (i.zero, i.size, i.bytes)) = some (some (.int .i64 0), 1, 8) := by kernel_rfl

def hit (l : Int) (x : Pc) : Bool := decide (x.a ≤ wrap64 (l - x.off) ∧ wrap64 (l - x.off) < x.b)
/-- the times found in some pieces -/
def fnd (l : Int) (ps : List Pc) : List Int := (ps.filter (hit l)).map fun x => wrap64 (l - x.off)
theorem fnd_hit {l : Int} (pre : List Pc) {x : Pc} (h : hit l x = true) : fnd l (pre ++ [x]) = fnd l pre ++ [wrap64 (l - x.off)] := by simp [fnd, h]
theorem fnd_miss {l : Int} (pre : List Pc) {x : Pc} (h : hit l x = false) : fnd l (pre ++ [x]) = fnd l pre := by simp [fnd, h]
theorem fnd_length (l : Int) (ps : List Pc) : (fnd l ps).length ≤ ps.length := by simp only [fnd, List.length_map]; exact List.length_filter_le _ _

theorem KpT.alloc {n₀ : Nat} (W : World) (hn : n₀ ≤ W.heap.size) (o : Obj) : KpT n₀ W (W.alloc o) := KpT.of_below ((Below.refl _ W).alloc (Nat.le_refl _) o) hn

/-- a round that appends to a slice in a box keeps the tables' and changes' boxes -/
theorem KpT.appended {W w1 : World} {n₀ n₁ B : Nat} {t e : TypeId} {size : Nat} {v v' : Value} {k : Nat} {xs : List Value} {tmp : Obj}
    (hv : Boxed W B t v) (hrow : W.ownsRow n₁ e size v k xs) (hgrow : (W.alloc tmp).grownBy w1 v.ownBlock)
    (hb : Below n₀ W (w1.setCell ⟨B, 0, none⟩ v')) (h1 : t ≠ 25) (h2 : t ≠ 42) (h3 : e ≠ 25) (h4 : e ≠ 42) :
    KpT n₀ W (w1.setCell ⟨B, 0, none⟩ v') := by
  refine ⟨hb.size, fun k hk => hb.block k hk, fun k cs T hk hT => ?_⟩
  have hlt : k < W.heap.size := (Array.getElem?_eq_some_iff.1 hk).1
  have hkB : k ≠ B := by
    rintro rfl
    have := (show W.heap[k]? = _ from hv).symm.trans hk
    simp only [Option.some.injEq, Obj.cells.injEq] at this
    obtain ⟨_, rfl, _⟩ := this
    rcases hT with h | h
    · exact h1 h
    · exact h2 h
  have hkr : some k ≠ v.ownBlock := by
    rcases hrow.2 with ⟨rfl, _⟩ | ⟨g, cap, cur, rfl, _, hgb, _⟩
    · simp [Value.ownBlock]
    · intro e'
      obtain rfl : k = g := by simpa [Value.ownBlock] using e'
      rw [hgb] at hk
      simp only [Option.some.injEq, Obj.cells.injEq] at hk
      obtain ⟨_, rfl, _⟩ := hk
      rcases hT with h | h
      · exact h3 h
      · exact h4 h
  have e1 : (w1.setCell ⟨B, 0, none⟩ v').heap[k]? = w1.heap[k]? := Below.heap_setCell _ _ _ k hkB
  have e2 : w1.heap[k]? = (W.alloc tmp).heap[k]? := hgrow.block k (by simp; omega) hkr
  rw [e1, e2, Below.heap_alloc W tmp k hlt]
  exact hk

theorem ownsRow_weaken {W : World} {base base' : Nat} {e : TypeId} {size : Nat} {v : Value} {k : Nat} {xs : List Value} (hb : base' ≤ base) (h : W.ownsRow base e size v k xs) : W.ownsRow base' e size v k xs := by
  obtain ⟨h1, h2⟩ := h
  refine ⟨h1, ?_⟩
  rcases h2 with h2 | ⟨g, cap, cur, h3, h4, h5⟩
  · exact .inl h2
  · exact .inr ⟨g, cap, cur, h3, Nat.le_trans hb h4, h5⟩

set_option maxRecDepth 100000 in
set_option maxHeartbeats 4000000 in
theorem Find_ok (t : Tab) (v : Value) (l : Int) (w : World) (hv : TabAt w v t) (h : chkW t l = 0) :
    Calls Try.prog 24 #[v, .int .i64 l] w fun e w' => ∃ u, e = .returned (.tuple #[u, .int .i64 0]) ∧ w'.ownsRow w.heap.size 3 1 u (fnd l (uptoP t (t.chs.length + 1))).length ((fnd l (uptoP t (t.chs.length + 1))).map (Value.int .i64)) ∧ Below w.heap.size w w' := by
  obtain ⟨h0, hx1, hx2⟩ := chkW_zero h
  have ok := chk_ok t h0
  obtain ⟨sv, cv, rfl, hs, hc⟩ := hv.val
  obtain ⟨i0, hi, hz0, hz1, hz2⟩ := info_parts infoInt
  obtain ⟨W0, hW0⟩ : ∃ W0, w.alloc (.cells #[sv, .int .i64 t.first, cv] 25) = W0 := ⟨_, rfl⟩
  obtain ⟨hB, hS, q0, q1, q2⟩ := box3 hW0
  have hB2 : Below w.heap.size w (W0.alloc (.cells #[.int .i64 l] 3)) := hB.alloc (by omega) _
  have HCC := Lib.hid (wcheck_any t _ l _ (hv.below hB2))
  have HH := Lib.hid h
  have HW0 := Lib.hid hW0
  have HS := Lib.hid hS
  have HB := Lib.hid hB
  have HB2 := Lib.hid hB2
  have HVS := Lib.hid hs
  have HVC := Lib.hid hc
  have OK := Lib.hid ok
  have H0 := Lib.hid h0
  clear hv h hW0 hS hB hs hc ok h0 hB2
  refine (callsIn_wide (n := 4)).1 ?_
  refine callsIn_of_wp_marks Try.func24 rfl trivial ?_ rfl
  simp only [Try.ntmps24, List.size_toArray, List.length_cons, List.length_nil, Nat.reduceAdd, Nat.reduceSub, Array.replicate_succ, Array.replicate_zero, List.push_toArray, List.append_toArray, List.nil_append, List.cons_append]
  gi_wp2
  refine ⟨trivial, ?_⟩
  rw [HW0.out]
  refine (callsIn_wide.2 HCC.out).mono ?_
  rw [HH.out]
  rintro e w1 ⟨rfl, hb1⟩
  have hs2 : (W0.alloc (.cells #[.int .i64 l] 3)).heap.size = w.heap.size + 2 := by have := HS.out; simp; omega
  rw [hs2] at hb1
  have hsz1 := hb1.size
  rw [hs2] at hsz1
  have c0 := (hb1.cell (p := ⟨w.heap.size, 0, none⟩) (by show w.heap.size < _; omega)).trans ((World.cell?_alloc_lt W0 _ _ (by show w.heap.size < _; have := HS.out; omega)).trans q0)
  have c1 := (hb1.cell (p := ⟨w.heap.size, 1, none⟩) (by show w.heap.size < _; omega)).trans ((World.cell?_alloc_lt W0 _ _ (by show w.heap.size < _; have := HS.out; omega)).trans q1)
  have c2 := (hb1.cell (p := ⟨w.heap.size, 2, none⟩) (by show w.heap.size < _; omega)).trans ((World.cell?_alloc_lt W0 _ _ (by show w.heap.size < _; have := HS.out; omega)).trans q2)
  have hl0 : w.heap.size < w1.heap.size := by omega
  have hl1 : w.heap.size + 1 < w1.heap.size := by omega
  have bL : Boxed w1 (w.heap.size + 1) 3 (.int .i64 l) := by
    have e1 : w1.heap[w.heap.size + 1]? = (W0.alloc (.cells #[.int .i64 l] 3)).heap[w.heap.size + 1]? := hb1.block _ (by omega)
    have e2 := World.alloc_heap_new W0 (.cells #[.int .i64 l] 3)
    rw [HS.out] at e2
    exact e1.trans e2
  gi_wp2
  refine ⟨trivial, ?_⟩
  refine (callsIn_wide.2 (pieces_any _ _ _ _)).mono ?_
  rintro e w2 ⟨rfl, hw2⟩
  rw [World.size_alloc]
  have bO : Boxed w2 w1.heap.size 55 (.slice none 0 0) := by rw [← hw2]; exact (Boxed.new w1 _ _).alloc _
  have bL2 : Boxed w2 (w.heap.size + 1) 3 (.int .i64 l) := by rw [← hw2]; exact (bL.alloc _).alloc _
  have hq : w2.heap[w1.heap.size + 1]? = some (Obj.cells #[sv, .int .i64 t.first, cv] 25 (0, 0)) := by
    have e2 := World.alloc_heap_new (w1.alloc (.cells #[.slice none 0 0] 55)) (.cells #[sv, .int .i64 t.first, cv] 25)
    rw [World.size_alloc, hw2] at e2
    exact e2
  have hb2 : Below w.heap.size w w2 := by
    rw [← hw2]
    exact ((HB2.out.trans (hb1.mono (by omega))).alloc (by omega) _).alloc (by simp; omega) _
  have hsz2 : w2.heap.size = w1.heap.size + 2 := by rw [← hw2]; simp
  have hl2 : w1.heap.size < w2.heap.size := by omega
  have OKK := OK.out
  have hmany := OKK.many
  have hchs := OKK.chs
  gi_wp2
  have HSZ1 := Lib.hid hsz1
  have HSZ2 := Lib.hid hsz2
  have HBB := Lib.hid hb2
  clear hw2 hb1 hs2 q0 q1 q2 c0 c1 c2 bL HCC HW0 HB2 HH
  refine wpIn_rangeFunc_ownH rfl (by decide) (gf := 49) (lb := #[.pointer (some ⟨w1.heap.size + 1, 0, none⟩)]) rfl trivial (enters_of Try.func49 (by kernel_rfl) rfl)
    (pieces_stops 3 (w1.heap.size + 1) w.heap.size t sv cv (by decide) w2 (by omega) (by omega) w rfl HVS.out HVC.out hb2 hq OKK)
    (fun h k => h.trans k) (fun W l o o' h1 h2 h3 _ => KpT.putObj W l o o' (by omega) h2 h3) (Below.refl _ _) (fun _ => rfl)
    (fun pre W => (∃ v, Boxed W w1.heap.size 55 v ∧ W.ownsRow w1.heap.size 3 1 v (fnd l pre).length ((fnd l pre).map (Value.int .i64)) ∧ True) ∧ Below w1.heap.size w2 W)
    (fun _ _ _ => False)
    (OwnFrom.and (Own.from (holdsRow_own w1.heap.size w1.heap.size 55 3 1 (fun pre => (fnd l pre).length) (fun pre => (fnd l pre).map (Value.int .i64)) (fun pre v => True)) _) (ownFrom_below (by omega) (by omega)))
    (fun _ _ _ _ _ hs _ _ => hs)
    ⟨⟨_, bO, World.ownsRow_nil _ _ _ _, trivial⟩, Below.refl _ _⟩
    (fun x a' W => ∃ Bx, w1.heap.size < Bx ∧ W.heap[Bx]? = some (Obj.cells #[.int .i64 x.a, .int .i64 x.b] 29 (0, 0)) ∧ a' = { tmps := #[.agg #[sv, .int .i64 t.first, cv], .int .i64 l, .pointer (some ⟨w.heap.size, 0, none⟩), .pointer (some ⟨w.heap.size + 1, 0, none⟩), .slice none 0 0, .int .i64 0, .int .i64 0, .pointer (some ⟨w1.heap.size, 0, none⟩), .pointer (some ⟨Bx, 0, none⟩), .int .i64 x.off, undef, .agg #[sv, .int .i64 t.first, cv], .int .i64 l, .int .i64 0, .int .i64 0, .bool false, undef, .agg #[sv, .int .i64 t.first, cv], .func (.func 49) #[] #[.pointer (some ⟨w1.heap.size + 1, 0, none⟩)], .agg #[.int .i64 x.a, .int .i64 x.b], .int .i64 x.off, undef, undef, undef, undef, undef, undef, undef, undef, undef, undef, undef, undef, undef, undef, undef, undef, undef, undef], defers := [] })
    ?_ ?assign ?body ?done ?stop
  · intro x a' _ X Y row hs hg hr
    obtain ⟨Bx, h1, h2, h3⟩ := hs
    refine ⟨Bx, h1, (hg.block Bx (Array.getElem?_eq_some_iff.1 h2).1 (fun e' => ?_)).trans h2, h3⟩
    obtain ⟨_, o, ho, hcx⟩ := hr Bx e'.symm
    rw [h2] at ho; cases ho; cases hcx
  case assign =>
    rintro l' pre x W K ⟨⟨v, hv, hrow, _⟩, hB1⟩ hK
    have hszW := hB1.size
    gi_wp2
    exact hK _ _ ((KeepsOthers.alloc _ _).from _) (KpT.alloc W (by omega) _) ⟨⟨v, hv.alloc _, hrow.alloc _, trivial⟩, hB1.alloc (by omega) _⟩ ⟨W.heap.size, hv.lt, World.alloc_heap_new _ _, rfl⟩
  case body =>
    rintro l' pre x a' W hl _ ⟨⟨v, hv, hrow, _⟩, hB1⟩ ⟨Bx, hBx, hX, rfl⟩ hlt
    have hszW := hB1.size
    have cO := hv.cell
    have cL : W.cell? ⟨w.heap.size + 1, 0, none⟩ = some (.int .i64 l) := (hB1.cell (p := ⟨w.heap.size + 1, 0, none⟩) hl1).trans bL2.cell
    obtain ⟨cX0, cX1⟩ := cells2 hX
    have hlen := fnd_length l pre
    have hBxlt : Bx < W.heap.size := (Array.getElem?_eq_some_iff.1 hX).1
    have hlW : w.heap.size + 1 < W.heap.size := by omega
    have hoW := hv.lt
    have hfl : (fnd l pre).length + 1 ≤ maxLen := by unfold maxLen; omega
    have hfb : ((fnd l pre).length + 1) * 8 ≤ 140737488355328 := by omega
    have hfs : ∀ o : Obj, w1.heap.size ≤ (W.alloc o).heap.size := by intro o; simp; omega
    have hfw : w1.heap.size ≤ W.heap.size := by omega
    have hfw2 : w.heap.size ≤ w1.heap.size := by omega
    clear hX
    gi_wp2_with (gi_at_builtin; refine wpListIn_append_own _ rfl _ _ 55 rfl w1.heap.size 3 i0 (.int .i64 0) 1 8 undInts hi hz0 hz1 hz2 rfl (by decide) _ _ _ rfl (hrow.alloc _) ⟨W.heap.size, 0, none⟩ 1 1 [.int .i64 (wrap64 (l - x.off))] rfl rfl (cell_one_new _ _ _) (by simp [Value.oneCell']) hfl hfb (hfs _) ?_; intro v' w3 hown' hgrow _; obtain ⟨g', cap', rfl⟩ := ownsRow_succ hown'; obtain ⟨hv1, hv2, hr2, hk2, hb2⟩ := hv.appended (by decide) hrow hfw (Nat.le_refl _) hown' hgrow; have hc1 := hv1.cell; have hf1 := hv1.frozen)
    · have hx : hit l x = true := by simp only [hit, decide_eq_true_eq]; constructor <;> assumption
      have hkp:= KpT.appended (n₀ := w.heap.size) hv hrow hgrow (hb2.mono hfw2) (by decide) (by decide) (by decide) (by decide)
      exact ⟨hk2.from _, hkp, ⟨_, hv2, by rw [fnd_hit pre hx]; simpa using hr2, trivial⟩, hB1.trans hb2⟩
    · have hx : hit l x = false := by simp only [hit, decide_eq_false_iff_not]; omega
      exact ⟨KeepsFrom.refl _ _, KpT.refl _ _, ⟨v, hv, by rw [fnd_miss pre hx]; exact hrow, trivial⟩, hB1⟩
    · have hx : hit l x = false := by simp only [hit, decide_eq_false_iff_not]; omega
      exact ⟨KeepsFrom.refl _ _, KpT.refl _ _, ⟨v, hv, by rw [fnd_miss pre hx]; exact hrow⟩, hB1⟩
  case done =>
    rintro D ys W hD rfl ⟨⟨v, hv, hrow, _⟩, hB1⟩ hK
    have hc := hv.cell
    have hszW := hB1.size
    gi_wp2
    refine ⟨by simp, .inl ⟨_, _, rfl, run_takeDeferred hK, ?_⟩⟩
    exact ⟨_, results_tmp2 rfl _ _ _, v, rfl, ownsRow_weaken (by omega) (ownsRow_putObj hrow _ hK rfl), hb2.trans ((hB1.mono (by omega)).trans (belowK_b (w := w) (Nat.le_refl _) W D _ _ (by omega) hK rfl rfl))⟩
  case stop =>
    rintro D c pre W _ _ h _
    exact h.elim

end Go.Proofs.Yteoliifghhlinaa
