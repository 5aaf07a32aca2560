/- wall.Next: the next time at which clocks show a second of the day. -/
import Derived.Test.YtddkedghpapepaaWallMath
import Derived.Test.YtddkedghpapepaaInts
import Derived.Test.YtddkedghpapepaaQuietR
import Derived.Test.YtddkedghpapepaaLongMath
namespace Go.Proofs.Ytddkedghpapepaa
open Go.RowKit Go.Shelf
set_option linter.unusedVariables false
set_option linter.unusedSimpArgs false

attribute [local go_sem] Oper.semAt_some

def nfr (af : Int) (x : Pc) : Int := max x.a (af + 1)
def nwt (af sec : Int) (x : Pc) : Int := (sec - wrap64 (nfr af x + x.off) % 86400) % 86400
def nval (af sec : Int) (x : Pc) : Int := wrap64 (nfr af x + nwt af sec x)
def nhit (af sec : Int) (x : Pc) : Bool := decide (nfr af x < x.b ∧ nval af sec x < x.b)

theorem wrap64_rng (n : Int) : -9223372036854775808 ≤ wrap64 n ∧ wrap64 n ≤ 9223372036854775807 := by unfold wrap64; omega

theorem last_hit (t : Tab) (ok : OkTab t) (af sec : Int) (h1 : -1099511627776 ≤ af) (h2 : af ≤ 1099511627776) : nhit af sec (pcAt t t.chs.length) = true := by
  have hp := pcAt_ok t ok t.chs.length (Nat.le_refl _)
  obtain ⟨o1, o2, p1, p2, p3, p4⟩ := hp
  have hb : (pcAt t t.chs.length).b = 4611686018427387903 := by simp only [pcAt, toAt]; rw [if_neg (Nat.lt_irrefl _)]
  have hf : nfr af (pcAt t t.chs.length) ≤ 1099511627777 := by unfold nfr; omega
  have hf2 : -1099511627776 ≤ nfr af (pcAt t t.chs.length) := by unfold nfr; omega
  have hw : 0 ≤ nwt af sec (pcAt t t.chs.length) ∧ nwt af sec (pcAt t t.chs.length) < 86400 := by unfold nwt; omega
  have hv : nval af sec (pcAt t t.chs.length) = nfr af (pcAt t t.chs.length) + nwt af sec (pcAt t t.chs.length) := IntWalk.wrap64_in _ ⟨by omega, by omega⟩
  simp only [nhit, decide_eq_true_eq]
  rw [hv, hb]
  omega

structure NMem (w W : World) (sv cv : Value) (f af sec : Int) : Prop where
  size : W.heap.size = w.heap.size + 5
  below : Below w.heap.size w W
  tb : W.heap[w.heap.size]? = some (Obj.cells #[sv, .int .i64 f, cv] 25 (0, 0))
  ba : Boxed W (w.heap.size + 1) 3 (.int .i64 af)
  bs : Boxed W (w.heap.size + 1 + 1) 3 (.int .i64 sec)
  br : Boxed W (w.heap.size + 1 + 1 + 1) 3 (.int .i64 0)
  be : Boxed W (w.heap.size + 1 + 1 + 1 + 1) 28 (.int .i64 0)

theorem NMem.mk' (w : World) (sv cv : Value) (f af sec : Int) : NMem w (((((w.alloc (.cells #[sv, .int .i64 f, cv] 25)).alloc (.cells #[.int .i64 af] 3)).alloc (.cells #[.int .i64 sec] 3)).alloc (.cells #[.int .i64 0] 3)).alloc (.cells #[.int .i64 0] 28)) sv cv f af sec := by
  obtain ⟨W0, e0⟩ : ∃ W0, w.alloc (.cells #[sv, .int .i64 f, cv] 25) = W0 := ⟨_, rfl⟩
  have n0 := World.alloc_heap_new w (.cells #[sv, .int .i64 f, cv] 25)
  have b0 : Below w.heap.size w W0 := by rw [← e0]; exact (Below.refl _ _).alloc (Nat.le_refl _) _
  have s0 : W0.heap.size = w.heap.size + 1 := by rw [← e0]; simp
  rw [e0] at n0 ⊢
  have b1 := Boxed.new W0 3 (.int .i64 af)
  have b2 := Boxed.new (W0.alloc (.cells #[.int .i64 af] 3)) 3 (.int .i64 sec)
  have b3 := Boxed.new ((W0.alloc (.cells #[.int .i64 af] 3)).alloc (.cells #[.int .i64 sec] 3)) 3 (.int .i64 0)
  have b4 := Boxed.new (((W0.alloc (.cells #[.int .i64 af] 3)).alloc (.cells #[.int .i64 sec] 3)).alloc (.cells #[.int .i64 0] 3)) 28 (.int .i64 0)
  simp only [World.size_alloc, s0] at b1 b2 b3 b4
  refine ⟨by simp; omega, (((b0.alloc (by omega) _).alloc (by simp; omega) _).alloc (by simp; omega) _).alloc (by simp; omega) _, ?_, ((b1.alloc _).alloc _).alloc _, (b2.alloc _).alloc _, b3.alloc _, b4⟩
  have hlt : w.heap.size < W0.heap.size := by omega
  rw [Below.heap_alloc _ _ _ (by simp; omega), Below.heap_alloc _ _ _ (by simp; omega), Below.heap_alloc _ _ _ (by simp; omega), Below.heap_alloc _ _ _ hlt]
  exact n0

def lastV (af sec : Int) (pre : List Pc) : Int := match pre.getLast? with
  | some x => nval af sec x
  | none => 0

set_option maxRecDepth 100000 in
set_option maxHeartbeats 4000000 in
theorem Next_ok (t : Tab) (v : Value) (af sec : Int) (w : World) (hv : TabAt w v t) (h : chkW t af = 0) (hs1 : 0 ≤ sec) (hs2 : sec < 86400) :
    Calls Try.prog 20 #[v, .int .i64 af, .int .i64 sec] w fun e w' => (∃ k, k ≤ t.chs.length ∧ (∀ j, j < k → nhit af sec (pcAt t j) = false) ∧ nhit af sec (pcAt t k) = true ∧ e = .returned (.tuple #[.int .i64 (nval af sec (pcAt t k)), .int .i64 0])) ∧ Below w.heap.size w w' := by
  obtain ⟨h0, hx1, hx2⟩ := chkW_zero h
  have ok := chk_ok t h0
  obtain ⟨sv, cv, rfl, hs, hc⟩ := hv.val
  have hm := NMem.mk' w sv cv t.first af sec
  obtain ⟨W, hW⟩ : ∃ W, (((((w.alloc (.cells #[sv, .int .i64 t.first, cv] 25)).alloc (.cells #[.int .i64 af] 3)).alloc (.cells #[.int .i64 sec] 3)).alloc (.cells #[.int .i64 0] 3)).alloc (.cells #[.int .i64 0] 28)) = W := ⟨_, rfl⟩
  rw [hW] at hm
  have HCC := wcheck_any t _ af _ (hv.below hm.below)
  rw [h] at HCC
  have HC := Lib.hid HCC
  have HW := Lib.hid hW
  have HM := Lib.hid hm
  have HVS := Lib.hid hs
  have HVC := Lib.hid hc
  have OK := Lib.hid ok
  clear hv h h0 hs hc ok hW hm HCC
  refine (callsIn_wide (n := 4)).1 ?_
  refine callsIn_of_wp_marks Try.func20 rfl trivial ?_ rfl
  simp only [Try.ntmps20, List.size_toArray, List.length_cons, List.length_nil, Nat.reduceAdd, Nat.reduceSub, Array.replicate_succ, Array.replicate_zero, List.push_toArray, List.append_toArray, List.nil_append, List.cons_append]
  gi_wp2
  refine ⟨trivial, ?_⟩
  rw [HW.out]
  refine (callsIn_wide.2 HC.out).mono ?_
  rintro e w1 ⟨rfl, hb1⟩
  have hsz1 := hb1.size
  rw [HM.out.size] at hb1 hsz1
  have tb := (hb1.block w.heap.size (by omega)).trans HM.out.tb
  have ba : Boxed w1 (w.heap.size + 1) 3 (.int .i64 af) := (hb1.block _ (by omega)).trans HM.out.ba
  have bs : Boxed w1 (w.heap.size + 1 + 1) 3 (.int .i64 sec) := (hb1.block _ (by omega)).trans HM.out.bs
  have br : Boxed w1 (w.heap.size + 1 + 1 + 1) 3 (.int .i64 0) := (hb1.block _ (by omega)).trans HM.out.br
  have be : Boxed w1 (w.heap.size + 1 + 1 + 1 + 1) 28 (.int .i64 0) := (hb1.block _ (by omega)).trans HM.out.be
  have bw1 : Below w.heap.size w w1 := HM.out.below.trans (hb1.mono (by omega))
  obtain ⟨c0, c1, c2⟩ := cells3 tb
  have ca := ba.cell
  have cs := bs.cell
  gi_wp2
  refine ⟨trivial, ?_⟩
  refine (callsIn_wide.2 (pieces_any _ _ _ _)).mono ?_
  rintro e w2 ⟨rfl, hw2⟩
  have hq : w2.heap[w1.heap.size]? = some (Obj.cells #[sv, .int .i64 t.first, cv] 25 (0, 0)) := by
    have e2 := World.alloc_heap_new w1 (.cells #[sv, .int .i64 t.first, cv] 25)
    rw [hw2] at e2
    exact e2
  have bb2 : Below w1.heap.size w1 w2 := by rw [← hw2]; exact (Below.refl _ _).alloc (Nat.le_refl _) _
  have hb2 : Below w.heap.size w w2 := bw1.trans (bb2.mono (by omega))
  have hsz2 : w2.heap.size = w1.heap.size + 1 := by rw [← hw2]; simp
  have OKK := OK.out
  gi_wp2
  have HQ := Lib.hid hq
  have BB2 := Lib.hid bb2
  have HB2 := Lib.hid hb2
  clear tb c0 c1 c2 ca cs hb1 bw1 HC HW HM hw2
  refine wpIn_rangeFunc_ownH rfl (by decide) (gf := 40) (lb := #[.pointer (some ⟨w1.heap.size, 0, none⟩)]) rfl trivial (enters_of Try.func40 (by kernel_rfl) rfl)
    (pieces_stops 3 w1.heap.size w.heap.size t sv cv (by decide) w2 (by omega) (by omega) w rfl HVS.out HVC.out HB2.out HQ.out OKK)
    (fun h k => h.trans k) (fun W l o o' h1 h2 h3 _ => KpT.putObj W l o o' (by omega) h2 h3) (Below.refl _ _) (fun _ => rfl)
    (fun pre W => (∀ y ∈ pre, nhit af sec y = false) ∧ Below w1.heap.size w2 W)
    (fun c pre W => (c = .ret ∧ (∃ q x, pre = q ++ [x] ∧ (∀ y ∈ q, nhit af sec y = false) ∧ nhit af sec x = true) ∧ pre.length ≤ t.chs.length + 1) ∧ ((Boxed W (w.heap.size + 1 + 1 + 1) 3 (.int .i64 (lastV af sec pre)) ∧ Boxed W (w.heap.size + 1 + 1 + 1 + 1) 28 (.int .i64 0)) ∧ Below w.heap.size w W))
    (OwnFrom.and (fun _ _ _ _ hs _ _ => hs) (ownFrom_below (by omega) (by omega)))
    (fun c => OwnFrom.and (fun _ _ _ _ hs _ _ => hs) (OwnFrom.and (OwnFrom.and (Own.from (boxed_own (w.heap.size + 1 + 1 + 1) 3 (fun pre => Value.int .i64 (lastV af sec pre))) _) (Own.from (boxed_own _ _ _) _)) (ownFrom_below (Nat.le_refl _) (by omega))))
    ⟨fun _ h => by simp at h, Below.refl _ _⟩
    (fun x a' W => ∃ Bx, w1.heap.size < Bx ∧ W.heap[Bx]? = some (Obj.cells #[.int .i64 x.a, .int .i64 x.b] 65 (0, 0)) ∧ a' = { tmps := #[.agg #[sv, .int .i64 t.first, cv], .int .i64 af, .int .i64 sec, .pointer (some ⟨w.heap.size, 0, none⟩), .pointer (some ⟨w.heap.size + 1, 0, none⟩), .pointer (some ⟨w.heap.size + 1 + 1, 0, none⟩), .pointer (some ⟨w.heap.size + 1 + 1 + 1, 0, none⟩), .pointer (some ⟨w.heap.size + 1 + 1 + 1 + 1, 0, none⟩), .int .i64 0, .pointer (some ⟨Bx, 0, none⟩), .int .i64 x.off, undef, undef, undef, undef, undef, .agg #[sv, .int .i64 t.first, cv], .int .i64 af, .int .i64 0, .int .i64 0, .bool false, undef, .int .i64 sec, .bool (decide (sec < 0)), .bool (decide (sec < 0)), .int .i64 sec, .bool (decide (86400 ≤ sec)), .bool (decide (sec < 0) || decide (86400 ≤ sec)), .agg #[sv, .int .i64 t.first, cv], .func (.func 40) #[] #[.pointer (some ⟨w1.heap.size, 0, none⟩)], .agg #[.int .i64 x.a, .int .i64 x.b], .int .i64 x.off, undef, undef, undef, undef, undef, undef, undef, undef, undef, undef, undef, undef, undef, undef, undef, undef, undef, undef, undef, undef, undef, undef, undef, undef, undef, undef, undef, undef, undef, undef, undef, undef, undef, undef], defers := [] })
    ?_ ?assign ?body ?done ?stop
  · intro x a' _ X Y row hs hg hr
    obtain ⟨Bx, h1, h2, h3⟩ := hs
    refine ⟨Bx, h1, (hg.block Bx (Array.getElem?_eq_some_iff.1 h2).1 (fun e' => ?_)).trans h2, h3⟩
    obtain ⟨_, o, ho, hcx⟩ := hr Bx e'.symm
    rw [h2] at ho; cases ho; cases hcx
  case assign =>
    rintro l' pre x W K ⟨hv, hB1⟩ hK
    have hszW := hB1.size
    gi_wp2
    exact hK _ _ ((KeepsOthers.alloc _ _).from _) (KpT.alloc W (by omega) _) ⟨hv, hB1.alloc (by omega) _⟩ ⟨W.heap.size, by omega, World.alloc_heap_new _ _, rfl⟩
  case body =>
    rintro l' pre x a' W hl _ ⟨hno, hB1⟩ ⟨Bx, hBx, hX, rfl⟩ hlt
    have hszW := hB1.size
    have bW : Below w1.heap.size w1 W := BB2.out.trans hB1
    have ba' : Boxed W (w.heap.size + 1) 3 (.int .i64 af) := (bW.block _ (by omega)).trans ba
    have bs' : Boxed W (w.heap.size + 1 + 1) 3 (.int .i64 sec) := (bW.block _ (by omega)).trans bs
    have ca := ba'.cell
    have cs := bs'.cell
    obtain ⟨cX0, cX1⟩ := cells2 hX
    have hBxlt : Bx < W.heap.size := (Array.getElem?_eq_some_iff.1 hX).1
    have hr1 := wrap64_rng (nfr af x + x.off)
    have hm1 : 0 ≤ wrap64 (nfr af x + x.off) % 86400 := by omega
    have hm2 : wrap64 (nfr af x + x.off) % 86400 < 86400 := by omega
    have hN : max x.a (af + 1) = nfr af x := rfl
    have hWt : (sec - wrap64 (nfr af x + x.off) % 86400) % 86400 = nwt af sec x := rfl
    have hV : wrap64 (nfr af x + nwt af sec x) = nval af sec x := rfl
    have hH : nhit af sec x = decide (nfr af x < x.b ∧ nval af sec x < x.b) := rfl
    obtain ⟨N, eN⟩ : ∃ N, nfr af x = N := ⟨_, rfl⟩
    obtain ⟨T, eT⟩ : ∃ T, nwt af sec x = T := ⟨_, rfl⟩
    obtain ⟨V, eV⟩ : ∃ V, nval af sec x = V := ⟨_, rfl⟩
    rw [eN] at hN hWt hV hH hr1 hm1 hm2
    rw [eT] at hWt hV
    rw [eV] at hV hH
    obtain ⟨M, eM⟩ : ∃ M, wrap64 (N + x.off) = M := ⟨_, rfl⟩
    have EV := Lib.hid eV
    have HH := Lib.hid hH
    have HX := Lib.hid hX
    rw [eM] at hr1 hm1 hm2 hWt
    have EM := Lib.hid eM
    have HN := Lib.hid hN
    have HT := Lib.hid hWt
    have HVV := Lib.hid hV
    have HBW := Lib.hid bW
    clear hN hWt hV hH eN eT eV eM hX bW
    gi_wp2_with fail
    refine ⟨trivial, ?_⟩
    rw [HN.out, EM.out]
    refine (CallsIn.inRound l' (callsIn_wide.2 (Floor_any M 86400 W (by omega) (by omega) hr1.1 hr1.2))).mono ?_
    rintro e w3 ⟨rfl, hb3⟩
    have ca3 := (hb3.cell (p := ⟨w.heap.size + 1, 0, none⟩) (by show w.heap.size + 1 < _; omega)).trans ca
    have cs3 := (hb3.cell (p := ⟨w.heap.size + 1 + 1, 0, none⟩) (by show w.heap.size + 1 + 1 < _; omega)).trans cs
    gi_wp2_with fail
    refine ⟨trivial, ?_⟩
    refine (CallsIn.inRound l' (callsIn_wide.2 (Floor_any _ 86400 w3 (by omega) (by omega) (by omega) (by omega)))).mono ?_
    rw [HT.out]
    rintro e w4 ⟨rfl, hb4⟩
    have hb34 : Below W.heap.size W w4 := hb3.trans (hb4.mono hb3.size)
    have e0 := (hb34.cell (p := ⟨Bx, 0, none⟩) hBxlt).trans cX0
    have e1 := (hb34.cell (p := ⟨Bx, 1, none⟩) hBxlt).trans cX1
    have br4 : Boxed w4 (w.heap.size + 1 + 1 + 1) 3 (.int .i64 0) := (hb34.block _ (by omega)).trans ((HBW.out.block _ (by omega)).trans br)
    have be4 : Boxed w4 (w.heap.size + 1 + 1 + 1 + 1) 28 (.int .i64 0) := (hb34.block _ (by omega)).trans ((HBW.out.block _ (by omega)).trans be)
    have cr4 := br4.cell
    have fr4 := br4.frozen
    have ce4 := be4.cell
    have fe4 := be4.frozen
    have hko : KeepsOthers W w4 := ⟨hb34.size, fun k o hk _ => (hb34.block k (Array.getElem?_eq_some_iff.1 hk).1).trans hk⟩
    have hkp : KpT w.heap.size W w4 := KpT.of_below hb34 (by omega)
    have hI : Below w1.heap.size w2 w4 := hB1.trans (hb34.mono (by omega))
    have HB34 := Lib.hid hb34
    have HKO := Lib.hid hko
    have HKP := Lib.hid hkp
    have HI := Lib.hid hI
    have HB4W := Lib.hid (HB2.out.trans (hI.mono (by omega)))
    clear hb3 hb4 hb34 hko hkp hI
    by_cases g1 : N < x.b
    · by_cases g2 : V < x.b
      · have hx : nhit af sec x = true := by rw [HH.out]; simp [g1, g2]
        have g2' : wrap64 (N + T) < x.b := by rw [HVV.out]; exact g2
        have hlv : lastV af sec (pre ++ [x]) = wrap64 (N + T) := by rw [HVV.out, ← EV.out]; simp [lastV]
        have HLV := Lib.hid hlv
        clear hlv
        gi_wp2_with fail
        have b3 := br4.set (.int .i64 (wrap64 (N + T)))
        have b4 : Boxed (w4.setCell ⟨w.heap.size + 1 + 1 + 1, 0, none⟩ (.int .i64 (wrap64 (N + T)))) (w.heap.size + 1 + 1 + 1 + 1) 28 (.int .i64 0) := be4.other (by omega) _
        exact ⟨(HKO.out.from _).trans (((KeepsOthers.setCell _ _ _).from _).trans ((KeepsOthers.setCell _ _ _).from _)), ⟨rfl, ⟨pre, x, rfl, hno, hx⟩, by simp; omega⟩, ⟨by rw [HLV.out]; exact b3.other (by omega) _, b4.set _⟩, (HB4W.out.setCell (p := ⟨w.heap.size + 1 + 1 + 1, 0, none⟩) (by show w.heap.size ≤ w.heap.size + 1 + 1 + 1; omega) _).setCell (p := ⟨w.heap.size + 1 + 1 + 1 + 1, 0, none⟩) (by show w.heap.size ≤ w.heap.size + 1 + 1 + 1 + 1; omega) _⟩
      · have hx : nhit af sec x = false := by rw [HH.out]; simp; intro _; omega
        have g2' : ¬ wrap64 (N + T) < x.b := by rw [HVV.out]; exact g2
        gi_wp2_with fail
        exact ⟨HKO.out.from _, HKP.out, fun y hy => (List.mem_append.1 hy).elim (hno y) (fun h => by simp at h; rw [h]; exact hx), HI.out⟩
    · have hx : nhit af sec x = false := by rw [HH.out]; simp; intro h; omega
      gi_wp2_with fail
      exact ⟨HKO.out.from _, HKP.out, fun y hy => (List.mem_append.1 hy).elim (hno y) (fun h => by simp at h; rw [h]; exact hx), HI.out⟩
  case done =>
    rintro D ys W hD rfl ⟨hv, hB1⟩ hK
    exfalso
    have h1 := hv (pcAt t t.chs.length) ((mem_uptoP _ _ _).2 ⟨_, by omega, rfl⟩)
    rw [last_hit t OKK af sec hx1 hx2] at h1
    cases h1
  case stop =>
    rintro D c pre W hD ⟨k, rfl⟩ ⟨⟨rfl, ⟨q, x, hqx, hq1, hq2⟩, hlen⟩, ⟨⟨hbr, hbe⟩, hBW⟩⟩ hK
    have hk : k ≤ t.chs.length + 1 := by rw [uptoP_length] at hlen; exact hlen
    obtain ⟨k', rfl⟩ : ∃ k', k = k' + 1 := by
      cases k with
      | zero => simp [uptoP] at hqx
      | succ k' => exact ⟨k', rfl⟩
    rw [uptoP_succ] at hqx
    obtain ⟨hq3, hq4⟩ := List.append_inj' hqx rfl
    obtain rfl : pcAt t k' = x := by simpa using hq4
    subst hq3
    have hlv : lastV af sec (uptoP t (k' + 1)) = nval af sec (pcAt t k') := by rw [uptoP_succ]; simp [lastV]
    rw [hlv] at hbr
    gi_wp2
    refine ⟨by simp, .inl ⟨_, _, rfl, run_takeDeferred hK, ?_⟩⟩
    have hc5 := cell_kept hbr.cell (grownBy_putObj' _ D (.deferred none)) (fun r e => by cases e; exact ⟨_, hK, rfl⟩)
    have hc6 := cell_kept hbe.cell (grownBy_putObj' _ D (.deferred none)) (fun r e => by cases e; exact ⟨_, hK, rfl⟩)
    refine ⟨.tuple #[.int .i64 (nval af sec (pcAt t k')), .int .i64 0], ?_, ⟨k', by omega, fun j hj => hq1 _ ((mem_uptoP _ _ _).2 ⟨j, hj, rfl⟩), hq2, rfl⟩, hBW.trans (belowK_b (w := w) (Nat.le_refl _) W D _ _ (by omega) hK rfl rfl)⟩
    simp [results, Try.f20, go_sem, hc5, hc6]

end Go.Proofs.Ytddkedghpapepaa
