/- Part of the proof. -/
import Derived.Test.YtomahddiclkepaaGreatDoorQw00
import Derived.Test.YtomahddiclkepaaGreatDoorQw13
import Derived.Deep.RegionLaw
import Derived.Deep.RegionHeld3
import Derived.Deep.AppendLies
import Derived.Deep.DeepCutAuto
import Derived.BigQuiet
import Derived.Handy
set_option maxHeartbeats 20000000
set_option maxRecDepth 1000000
set_option linter.unusedVariables false
set_option linter.unusedSimpArgs false
namespace Go.Proofs.YtomahddiclkepaaGreatDoor
open Go.RowKit Go.Joins
open Classical
def StrKeep (w w' : World) : Prop := ∀ (K : Nat) (cs : Array Value) (fr : Nat × Nat), w.heap[K]? = some (.cells cs 9 fr) -> w'.heap[K]? = w.heap[K]?
theorem StrKeep.of {w w' : World} (h : ∀ b, b < w.heap.size -> w'.heap[b]? = w.heap[b]?) : StrKeep w w' := fun K cs fr hk => h K (Array.getElem?_eq_some_iff.mp hk).1
theorem StrKeep.below {w w' : World} (h : Below w.heap.size w w') : StrKeep w w' := StrKeep.of fun b hb => h.block b hb
theorem StrKeep.trans {a b c : World} (h1 : StrKeep a b) (h2 : StrKeep b c) : StrKeep a c := fun K cs fr hk => (h2 K cs fr ((h1 K cs fr hk).trans hk)).trans (h1 K cs fr hk)
theorem StrKeep.set {w : World} {R : Nat} {cs : Array Value} {T : TypeId} {fr : Nat × Nat} (h : w.heap[R]? = some (.cells cs T fr)) (hT : T ≠ 9) (i : Nat) (v : Value) : StrKeep w (w.setCell ⟨R, i, none⟩ v) := fun K cs' fr' hk =>
 Below.heap_setCell _ _ _ _ (fun e => by
  have e : K = R := e
  subst e
  rw [h] at hk
  injection hk with hk
  injection hk with _ h2 _
  exact hT h2)
theorem StrKeep.row {B : Nat} {W w6 : World} {v : Value} {e : TypeId} {s n : Nat} {xs : List Value} {o : Obj} (ho : W.ownsRow B e s v n xs) (hne : e ≠ 9) (hg : (W.drew.alloc o).grownBy w6 v.ownBlock) : StrKeep W w6 := fun K cs fr hk => by
 have hl := (Array.getElem?_eq_some_iff.mp hk).1
 refine (hg.block K (by simp; omega) (fun e0 => ?_)).trans (Below.heap_alloc W.drew _ K hl)
 rcases ho.2 with ⟨rfl, _⟩ | ⟨g, cap, cur, rfl, _, hgg, _⟩
 ·simp [Value.ownBlock] at e0
 ·simp only [Value.ownBlock] at e0
  injection e0 with e0
  subst e0
  rw [hk] at hgg
  injection hgg with hgg
  injection hgg with _ h2 _
  exact hne h2.symm
def LnPost (B R : Nat) (res : Option RdS) (w : World) (e : Ending) (w' : World) : Prop := e = .returned (.bool res.isSome) /\ Below B w w' /\ StrKeep w w' /\ ∀ st', res = some st' -> ∃ rv zv lv evs, RdM B w' R rv zv lv evs st'
structure RdSz (st : RdS) : Prop where
 r : st.rules.length <= 100000
 z : st.zones.length <= 100000
 l : st.links.length <= 100000
 e : ∀ i, (zD st.zones i).2.length <= 100000
 n : st.stage = 2 -> st.zones ≠ []
theorem getD_in (l : List (List UInt8)) (k : Nat) (h : k < l.length) : l.getD k [] = l[k] := by simp [h]
theorem getD_out (l : List (List UInt8)) (k : Nat) (h : l.length <= k) : l.getD k [] = [] := by simp [h]
theorem set_erE {W : World} {eb : Nat} {cs : Array Value} {T : TypeId} (h : W.heap[eb]? = some (.cells cs T (0, 0))) (i : Nat) (hi : i < cs.size) (v : Value) : ∃ W', W.setCell ⟨eb, i, none⟩ v = W' /\ W'.heap[eb]? = some (.cells (cs.setIfInBounds i v) T (0, 0)) /\ ∀ B, B <= eb -> Below B W W' :=
 ⟨_, rfl, heap_setCell_same W eb i _ _ v h, fun B hB => (Below.refl _ _).setCell hB _⟩
theorem alB (w : World) (o : Obj) : Below w.heap.size w (w.alloc o) := (Below.refl _ _).alloc (Nat.le_refl _) _
theorem undErP : Tryz.prog.underlying 44 = some (.slice 43) := by kernel_rfl
theorem infoErP : (Tryz.prog.info? 43).map (fun i => (i.zero, i.size, i.bytes)) = some (some (.agg #[.int .i64 0, .string ⟨#[]⟩, .int .i64 0, .string ⟨#[]⟩, .int .i64 0]), 5, 56) := by kernel_rfl
noncomputable def uOf (w4 : Option (List UInt8)) : Int × Int := match w4 with | none => (0, 0) | some x => rdStamp x
noncomputable def eraU (w1 w2 w3 : List UInt8) (u : Int × Int) : Option Er :=
 if (rdSpan w1).2 ≠ 0 then none else
 if Lib.hasPrefix w2 [45] = true then (if (rdSpan (Lib.trimPrefix w2 [45])).2 ≠ 0 \/ u.2 ≠ 0 then none else some ⟨(rdSpan w1).1, ⟨#[]⟩, (rdSpan (Lib.trimPrefix w2 [45])).1, txt w3, u.1⟩) else
 if nameB (txt w2) = false \/ u.2 ≠ 0 then none else some ⟨(rdSpan w1).1, txt w2, 0, txt w3, u.1⟩
theorem eraL_res {x1 x2 x3 : List UInt8} {w4 : Option (List UInt8)} {o1 f1 o2 f2 un f3 : Int} {ru : ByteArray} {D : Bool} (h1 : (rdSpan x1).1 = o1) (h2 : (rdSpan x1).2 = f1) (hD : Lib.hasPrefix x2 [45] = D)
 (hu : uOf w4 = (un, f3)) (hr : (D = true -> ru = ⟨#[]⟩ /\ rdSpan (Lib.trimPrefix x2 [45]) = (o2, f2)) /\ (D = false -> ru = txt x2 /\ nameB (txt x2) = true /\ o2 = 0 /\ f2 = 0)) :
 eraL x1 x2 x3 w4 = if f1 = 0 /\ f2 = 0 /\ f3 = 0 then some ⟨o1, ru, o2, txt x3, un⟩ else none := by
 have e0 : eraL x1 x2 x3 w4 = eraU x1 x2 x3 (uOf w4) := rfl
 rw [e0, hu]
 unfold eraU
 rw [h1, h2, hD]
 try dsimp only
 by_cases g1 : f1 = 0
 ·rw [if_neg (fun h => h g1)]
  cases D with
  | true =>
   obtain ⟨hr1, hr2⟩ := hr.1 rfl
   rw [if_pos rfl, hr2, hr1]
   try dsimp only
   by_cases g : f2 ≠ 0 \/ f3 ≠ 0
   ·rw [if_pos g, if_neg (by omega)]
   ·rw [if_neg g, if_pos (by omega)]
  | false =>
   obtain ⟨hr1, hr2, hr3, hr4⟩ := hr.2 rfl
   rw [if_neg (by decide), hr2, hr1, hr3, hr4]
   try dsimp only
   by_cases g : f3 = 0
   ·rw [if_neg (by simp [g]), if_pos ⟨g1, rfl, g⟩]
   ·rw [if_pos (.inr g), if_neg (fun h => g h.2.2)]
 ·rw [if_pos g1, if_neg (fun h => g1 h.1)]
theorem rdEra_any (B R A : Nat) (rv zv lv : Value) (evs : List Value) (st : RdS) (ws : List (List UInt8)) (w : World) (h : RdM B w R rv zv lv evs st) (hs : RdSz st) (hA : A < w.heap.size) (hB : B <= w.heap.size)
 (hc : ∀ j (hj : j < ws.length), w.cell? ⟨A, j, none⟩ = some (.string (txt ws[j]))) (hw : ∀ x ∈ ws, x.length <= 60000) (hn : ws.length <= 100000) (ht : Tab10 w) (he : NumErrs w) (hm : MaxLen w) :
 Calls Tryz.prog 91 #[.pointer (some ⟨R, 0, none⟩), .slice (some ⟨A, 0, none⟩) ws.length ws.length] w (LnPost B R (eraF st ws) w) := by
 obtain ⟨c0, c1, c2, c3, cf⟩ := h.cells
 have hlt := h.lt
 have HM := qH h
 have HSZ := qH hs
 have HT := qH ht
 have HE := qH he
 have HX := qH hm
 have HC := qH hc
 have HW := qH hw
 clear h hs ht he hm hc hw
 by_cases hst : st.stage = 2
 case neg =>
  have hsb : (st.stage != 2) = true := by simpa using hst
  have hsc : (st.stage == 2) = false := by simpa using hst
  have er : eraF st ws = none := by unfold eraF; rw [if_pos (.inl hst)]
  rw [er]
  go_enter Tryz.func91, Tryz.ntmps91
  go_wp2_with fail
  go_ret
  exact ⟨rfl, Below.refl _ _, StrKeep.of fun _ _ => rfl, fun st' e => by cases e⟩
 by_cases h45 : ws.length = 4 \/ ws.length = 5
 case neg =>
  have h4 : ¬ (ws.length : Int) = 4 := by omega
  have h5 : ¬ (ws.length : Int) = 5 := by omega
  have h4b : ((ws.length : Int) != 4) = true := by simpa using h4
  have h5b : ((ws.length : Int) != 5) = true := by simpa using h5
  have er : eraF st ws = none := by unfold eraF; rw [if_pos (.inr ⟨fun e => h45 (.inl e), fun e => h45 (.inr e)⟩)]
  rw [er]
  rw [hst] at c3
  go_enter Tryz.func91, Tryz.ntmps91
  go_wp2_with fail
  go_ret
  exact ⟨rfl, Below.refl _ _, StrKeep.of fun _ _ => rfl, fun st' e => by cases e⟩
 have hl1 : (1 : Int) < (ws.length : Int) := by omega
 have hl2 : (2 : Int) < (ws.length : Int) := by omega
 have hl3 : (3 : Int) < (ws.length : Int) := by omega
 have g1 : w.cell? ⟨A, 1, none⟩ = some (.string (txt (ws.getD 1 []))) := by rw [getD_in _ _ (by omega)]; exact HC.out 1 (by omega)
 have g2 : w.cell? ⟨A, 2, none⟩ = some (.string (txt (ws.getD 2 []))) := by rw [getD_in _ _ (by omega)]; exact HC.out 2 (by omega)
 have g3 : w.cell? ⟨A, 3, none⟩ = some (.string (txt (ws.getD 3 []))) := by rw [getD_in _ _ (by omega)]; exact HC.out 3 (by omega)
 have g4 : ws.length = 5 -> w.cell? ⟨A, 4, none⟩ = some (.string (txt (ws.getD 4 []))) := fun g => by rw [getD_in _ _ (by omega)]; exact HC.out 4 (by omega)
 have sm : ∀ k, (ws.getD k []).length <= 60000 := fun k => by
  by_cases g : k < ws.length
  ·rw [getD_in _ _ g]; exact HW.out _ (List.getElem_mem g)
  ·rw [getD_out _ _ (by omega)]; exact Nat.zero_le _
 have s1 := sm 1
 have s2 := sm 2
 have s3 := sm 3
 have s4 := sm 4
 have HER : Hid (eraF st ws = match eraL (ws.getD 1 []) (ws.getD 2 []) (ws.getD 3 []) (if ws.length = 5 then some (ws.getD 4 []) else none) with
  | none => none
  | some x => some ⟨st.rules, addEra st.zones x, st.links, if ws.length = 5 then 2 else 1⟩) := by
  show _ = _
  unfold eraF
  rw [if_neg (by rintro (g | g) <;> omega)]
  rfl
 obtain ⟨x1, e1⟩ : ∃ x, ws.getD 1 [] = x := ⟨_, rfl⟩
 obtain ⟨x2, e2⟩ : ∃ x, ws.getD 2 [] = x := ⟨_, rfl⟩
 obtain ⟨x3, e3⟩ : ∃ x, ws.getD 3 [] = x := ⟨_, rfl⟩
 obtain ⟨x4, e4⟩ : ∃ x, ws.getD 4 [] = x := ⟨_, rfl⟩
 rw [e1] at g1 s1 HER
 rw [e2] at g2 s2 HER
 rw [e3] at g3 s3 HER
 rw [e4] at g4 s4 HER
 have HG4 := qH g4
 obtain ⟨RES, eres⟩ : ∃ R, eraF st ws = R := ⟨_, rfl⟩
 rw [eres] at HER ⊢
 rw [hst] at c3
 obtain ⟨n, en⟩ : ∃ n, ws.length = n := ⟨_, rfl⟩
 rw [en] at hl1 hl2 hl3 HER HG4 h45 ⊢
 clear e1 e2 e3 e4 eres sm HC HW hn g4 en
 obtain ⟨W0, e0⟩ : ∃ W0, w.alloc (.cells #[.int .i64 0, .string ⟨#[]⟩, .int .i64 0, .string ⟨#[]⟩, .int .i64 0] 43) = W0 := ⟨_, rfl⟩
 obtain ⟨eb, eeb⟩ : ∃ eb, w.heap.size = eb := ⟨_, rfl⟩
 have hx0 : W0.heap[eb]? = some (.cells #[.int .i64 0, .string ⟨#[]⟩, .int .i64 0, .string ⟨#[]⟩, .int .i64 0] 43 (0, 0)) := by rw [<- e0]; exact alloc_at _ _ _ eeb.symm
 have hb0 : Below eb w W0 := by rw [<- e0, <- eeb]; exact alB _ _
 have hz0 : eb < W0.heap.size := (Array.getElem?_eq_some_iff.mp hx0).1
 rw [eeb] at hA hlt hB
 have HOLD : Hid (∀ W, Below eb w W -> W.cell? ⟨A, 1, none⟩ = some (.string (txt x1)) /\ W.cell? ⟨A, 2, none⟩ = some (.string (txt x2)) /\ W.cell? ⟨A, 3, none⟩ = some (.string (txt x3)) /\ (n = 5 -> W.cell? ⟨A, 4, none⟩ = some (.string (txt x4))) /\ MaxLen W /\ Tab10 W /\ NumErrs W /\ RdM B W R rv zv lv evs st) := by
  show ∀ W, _
  intro W hb
  exact ⟨(hb.cell (p := ⟨A, 1, none⟩) hA).trans g1, (hb.cell (p := ⟨A, 2, none⟩) hA).trans g2, (hb.cell (p := ⟨A, 3, none⟩) hA).trans g3, fun g => (hb.cell (p := ⟨A, 4, none⟩) hA).trans (HG4.out g),
   HX.out.below (by rw [eeb]; exact hb), HT.out.below (by rw [eeb]; exact hb), HE.out.below (by rw [eeb]; exact hb), HM.out.below (by rw [eeb]; exact hb)⟩
 have HE0 := qH e0
 have HB0 := qH hb0
 have HX0 := qH hx0
 have HR1 := qH (rdSpan_any x1 W0 (by omega) (HOLD.out W0 hb0).2.2.2.2.2.1 (HOLD.out W0 hb0).2.2.2.2.2.2.1 (HOLD.out W0 hb0).2.2.2.2.1)
 obtain ⟨o1, eo1⟩ : ∃ o, (rdSpan x1).1 = o := ⟨_, rfl⟩
 obtain ⟨f1, ef1⟩ : ∃ o, (rdSpan x1).2 = o := ⟨_, rfl⟩
 rw [eo1, ef1] at HR1
 have EO1 := qH eo1
 have EF1 := qH ef1
 clear eo1 ef1 g1 g2 g3 c0 c1 c2 e0 hb0 hx0
 go_enter Tryz.func91, Tryz.ntmps91
 go_upto_region 1 with fail
 go_cut [26] from 12 to 25 (fun s26 wx => s26 = .bool false /\ wx = w)
 case first =>
  rcases h45 with rfl | rfl
  all_goals
   go_wp2_with fail
   go_meet
   exact ⟨rfl, rfl⟩
 case rest =>
 obtain ⟨rfl, hwc⟩ := hcut
 rw [hwc]
 clear hwc wc
 go_upto_region 5 with fail
 rw [HE0.out]
 obtain ⟨g1, -, -, -, -, -, -, -⟩ := HOLD.out W0 HB0.out
 have hA0 : A < W0.heap.size := by omega
 go_wp2_with fail
 refine HR1.out.mono ?_
 rintro e w1 ⟨rfl, hb1⟩
 have hx1 := (hb1.block eb hz0).trans HX0.out
 have HB1 := qH (HB0.out.trans (hb1.mono (by omega)))
 obtain ⟨W2, e2, hx2, hb2⟩ := set_erE hx1 0 (by decide) (.int .i64 o1)
 have HB2 := qH (HB1.out.trans (hb2 eb (Nat.le_refl _)))
 have HE2 := qH e2
 have HX2 := qH hx2
 have y0 : w1.cell? ⟨eb, 0, none⟩ = some (.int .i64 0) := (cell_of_row w1 _ 0 _ _ _ hx1).trans rfl
 have y1 : w1.frozen? ⟨eb, 0, none⟩ = false := by simp [World.frozen?, hx1]
 clear hb1 hx1 e2 hx2 hb2 HR1 g1 hA0
 go_upto_region 6 with fail
 rw [HE2.out]
 obtain ⟨g1, g2, g3, g4, gm, gt, gn, gr⟩ := HOLD.out W2 HB2.out
 have hz2 : eb < W2.heap.size := (Array.getElem?_eq_some_iff.mp HX2.out).1
 have hA2 : A < W2.heap.size := by omega
 have hx2 := HX2.out
 have t1 : W2.cell? ⟨eb, 1, none⟩ = some (.string ⟨#[]⟩) := (cell_of_row W2 _ 1 _ _ _ hx2).trans rfl
 have t3 : W2.cell? ⟨eb, 3, none⟩ = some (.string ⟨#[]⟩) := (cell_of_row W2 _ 3 _ _ _ hx2).trans rfl
 have tf1 : W2.frozen? ⟨eb, 1, none⟩ = false := by simp [World.frozen?, hx2]
 have tf3 : W2.frozen? ⟨eb, 3, none⟩ = false := by simp [World.frozen?, hx2]
 obtain ⟨W3, e3, hx3, hb3⟩ := set_erE hx2 1 (by simp) (.string (txt x2))
 obtain ⟨W4, e4, hx4, hb4⟩ := set_erE hx3 3 (by simp) (.string (txt x3))
 rw [<- e3] at e4
 have HE4 := qH e4
 have HX4 := qH hx4
 have HB4 := qH ((HB2.out.trans (hb3 eb (Nat.le_refl _) |>.mono (Nat.le_refl _))).trans (hb4 eb (Nat.le_refl _)))
 clear e3 e4 hx3 hx4 hb3 hb4 hx2
 go_cut [] from 35 to 42 (fun wx => Hid (wx.heap[eb]? = some (.cells #[.int .i64 o1, .string (txt x2), .int .i64 0, .string (txt x3), .int .i64 0] 43 (0, 0))) /\ Hid (Below eb w wx))
 case first =>
  go_region_law (fail)
  all_goals rw [HE4.out]
  all_goals go_wp2_with fail
  all_goals go_meet
  all_goals exact ⟨HX4, qH HB4.out.drew⟩
 case rest =>
 obtain ⟨HX5, HB5⟩ := hcut
 obtain ⟨W5, eW5⟩ : ∃ W5, wc = W5 := ⟨_, rfl⟩
 rw [eW5] at HX5 HB5 ⊢
 clear eW5 wc HX4 HB4 HE4 HX2 HB2 HE2 t1 t3 tf1 tf3 g1 g2 g3 g4 gm gt gn gr hz2 hA2 y0 y1
 obtain ⟨g1, g2, g3, g4, gm, gt, gn, gr⟩ := HOLD.out W5 HB5.out
 have hz5 : eb < W5.heap.size := (Array.getElem?_eq_some_iff.mp HX5.out).1
 have hA5 : A < W5.heap.size := by omega
 obtain ⟨D, eD⟩ : ∃ D, Lib.hasPrefix x2 [45] = D := ⟨_, rfl⟩
 have HCP := qH (cutPrefix_any x2 [45] W5)
 rw [eD] at HCP
 have HDD := qH eD
 clear eD
 go_step
 go_step
 go_cut [7, 9, 10] from 43 to 62 (fun s7 s9 s10 wx => ∃ (ru : ByteArray) (o2 f2 : Int), s7 = .int .i64 f2 /\ Hid (wx.heap[eb]? = some (.cells #[.int .i64 o1, .string ru, .int .i64 o2, .string (txt x3), .int .i64 0] 43 (0, 0))) /\ Hid (Below eb w wx) /\ Hid ((D = true -> ru = ⟨#[]⟩ /\ rdSpan (Lib.trimPrefix x2 [45]) = (o2, f2)) /\ (D = false -> ru = txt x2 /\ nameB (txt x2) = true /\ o2 = 0 /\ f2 = 0)))
 case first =>
  go_wp2_with fail
  refine HCP.out.mono ?_
  rintro e w' ⟨rfl, hw'⟩
  rw [hw']
  clear hw' w'
  have hx5 := HX5.out
  cases D with
  | true =>
   have t1 : W5.cell? ⟨eb, 1, none⟩ = some (.string (txt x2)) := (cell_of_row W5 _ 1 _ _ _ hx5).trans rfl
   have tf1 : W5.frozen? ⟨eb, 1, none⟩ = false := by simp [World.frozen?, hx5]
   obtain ⟨W6, e6, hx6, hb6⟩ := set_erE hx5 1 (by simp) (.string ⟨#[]⟩)
   have HE6 := qH e6
   have HB6 := qH (HB5.out.trans (hb6 eb (Nat.le_refl _)))
   have hz6 : eb < W6.heap.size := (Array.getElem?_eq_some_iff.mp hx6).1
   obtain ⟨-, -, -, -, gm, gt, gn, -⟩ := HOLD.out W6 HB6.out
   have htl : (Lib.trimPrefix x2 [45]).length <= x2.length := by unfold Lib.trimPrefix; split <;> simp
   have HR2 := qH (rdSpan_any (Lib.trimPrefix x2 [45]) W6 (by omega) gt gn gm)
   obtain ⟨o2, eo2⟩ : ∃ o, (rdSpan (Lib.trimPrefix x2 [45])).1 = o := ⟨_, rfl⟩
   obtain ⟨f2, ef2⟩ : ∃ o, (rdSpan (Lib.trimPrefix x2 [45])).2 = o := ⟨_, rfl⟩
   rw [eo2, ef2] at HR2
   have HX6 := qH hx6
   have ER2 : Hid (rdSpan (Lib.trimPrefix x2 [45]) = (o2, f2)) := by show _ = _; rw [<- eo2, <- ef2]
   obtain ⟨tr, etr⟩ : ∃ tr, Lib.trimPrefix x2 [45] = tr := ⟨_, rfl⟩
   rw [etr] at HR2 ⊢
   clear e6 hb6 gm gt gn eo2 ef2 hx6 htl etr
   go_upto_region 10 with fail
   rw [HE6.out]
   go_wp2_with fail
   refine HR2.out.mono ?_
   rintro e w7 ⟨rfl, hb7⟩
   have hx7 := (hb7.block eb hz6).trans HX6.out
   have t2 : w7.cell? ⟨eb, 2, none⟩ = some (.int .i64 0) := (cell_of_row w7 _ 2 _ _ _ hx7).trans rfl
   have tf2 : w7.frozen? ⟨eb, 2, none⟩ = false := by simp [World.frozen?, hx7]
   obtain ⟨W8, e8, hx8, hb8⟩ := set_erE hx7 2 (by simp) (.int .i64 o2)
   have HE8 := qH e8
   have HX8 := qH hx8
   have HB8 := qH ((HB6.out.trans (hb7.mono (by omega))).trans (hb8 eb (Nat.le_refl _)))
   clear hb7 e8 hx8 hb8 hx7
   go_wp2_with fail
   rw [HE8.out]
   go_meet
   exact ⟨_, o2, f2, rfl, HX8, HB8, qH ⟨fun _ => ⟨rfl, ER2.out⟩, fun e => by cases e⟩⟩
  | false =>
   have HNM := qH (isName_any (txt x2) W5 (by rw [txt_size]; simp only [maxLen]; omega))
   cases hnm : nameB (txt x2) with
   | true =>
    rw [hnm] at HNM
    go_wp2_with fail
    refine HNM.out.mono ?_
    rintro e w' ⟨rfl, rfl⟩
    go_wp2_with fail
    go_meet
    exact ⟨_, 0, 0, rfl, HX5, HB5, qH ⟨(fun e => by cases e), fun _ => ⟨rfl, hnm, rfl, rfl⟩⟩⟩
   | false =>
    rw [hnm] at HNM
    have hno : RES = none := by
     have e : ∀ u, eraL x1 x2 x3 u = none := fun u => by
      unfold eraL
      dsimp only
      split
      ·rfl
      ·rw [HDD.out, if_neg (by decide), if_pos (.inl hnm)]
     rw [HER.out, e]
    subst hno
    go_wp2_with fail
    refine HNM.out.mono ?_
    rintro e w' ⟨rfl, rfl⟩
    go_wp2_with fail
    go_ret
    exact ⟨rfl, HB5.out.mono hB, StrKeep.below (by rw [eeb]; exact HB5.out), fun st' e => by cases e⟩
 case rest =>
 obtain ⟨ru, o2, f2, rfl, HX8, HB8, HRU⟩ := hcut
 obtain ⟨W8, eW8⟩ : ∃ W8, wc = W8 := ⟨_, rfl⟩
 rw [eW8] at HX8 HB8 ⊢
 clear eW8 wc HX5 HB5 HCP g1 g2 g3 g4 gm gt gn gr hz5 hA5
 obtain ⟨g1, g2, g3, g4, gm, gt, gn, gr⟩ := HOLD.out W8 HB8.out
 have hz8 : eb < W8.heap.size := (Array.getElem?_eq_some_iff.mp HX8.out).1
 have hA8 : A < W8.heap.size := by omega
 have hR8 : R < W8.heap.size := by omega
 have HU : Hid (∃ un f3 : Int, (match (if n = 5 then some x4 else none : Option (List UInt8)) with | none => ((0 : Int), (0 : Int)) | some x => rdStamp x) = (un, f3)) := ⟨_, _, rfl⟩
 go_step
 go_step
 go_cut [8] from 63 to 76 (fun s8 wx => ∃ un f3 : Int, s8 = .int .i64 f3 /\ Hid ((match (if n = 5 then some x4 else none : Option (List UInt8)) with | none => ((0 : Int), (0 : Int)) | some x => rdStamp x) = (un, f3)) /\ Hid (wx.heap[eb]? = some (.cells #[.int .i64 o1, .string ru, .int .i64 o2, .string (txt x3), .int .i64 un] 43 (0, 0))) /\ Hid (Below B w wx /\ StrKeep w wx) /\ Hid (RdM B wx R rv zv lv evs ⟨st.rules, st.zones, st.links, if n = 5 then 2 else 1⟩))
 case first =>
  have hBR : B <= R := gr.hR
  have hx8 := HX8.out
  obtain ⟨-, -, -, r3, rf⟩ := gr.cells
  rw [hst] at r3
  rcases h45 with rfl | rfl
  ·have rf3 := rf 3
   have hs1 := gr.stage 1
   have hxe : (W8.setCell ⟨R, 3, none⟩ (.int .i64 1)).heap[eb]? = some (.cells #[.int .i64 o1, .string ru, .int .i64 o2, .string (txt x3), .int .i64 0] 43 (0, 0)) := (Below.heap_setCell _ _ _ _ (by show eb ≠ R; omega)).trans hx8
   have hbb : Below B w (W8.setCell ⟨R, 3, none⟩ (.int .i64 1)) /\ StrKeep w (W8.setCell ⟨R, 3, none⟩ (.int .i64 1)) := ⟨(HB8.out.mono hB).setCell hBR _, (StrKeep.below (by rw [eeb]; exact HB8.out)).trans (StrKeep.set gr.blk (by decide) 3 _)⟩
   obtain ⟨W9, e9⟩ : ∃ W9, W8.setCell ⟨R, 3, none⟩ (.int .i64 1) = W9 := ⟨_, rfl⟩
   rw [e9] at hs1 hxe hbb
   have HE9 := qH e9
   have HS1 := qH hs1
   have HXE := qH hxe
   have HBB := qH hbb
   clear hs1 hxe hbb e9 hx8 gr rf
   go_wp2_with fail
   rw [HE9.out]
   go_meet
   exact ⟨0, 0, rfl, qH rfl, HXE, HBB, HS1⟩
  ·have z4 := g4 rfl
   have HR4 := qH (rdStamp_any x4 W8 (by omega) gt gn)
   have hl4 : (4 : Int) < (5 : Int) := by decide
   clear hx8 gr rf gm gt gn g1 g2 g3 g4
   go_wp2_with fail
   refine HR4.out.mono ?_
   rintro e w9 ⟨rfl, hb9⟩
   have hx9 := (hb9.block eb hz8).trans HX8.out
   have t4 : w9.cell? ⟨eb, 4, none⟩ = some (.int .i64 0) := (cell_of_row w9 _ 4 _ _ _ hx9).trans rfl
   have tf4 : w9.frozen? ⟨eb, 4, none⟩ = false := by simp [World.frozen?, hx9]
   obtain ⟨W10, e10, hx10, hb10⟩ := set_erE hx9 4 (by simp) (.int .i64 (rdStamp x4).1)
   have HE10 := qH e10
   have HX10 := qH hx10
   have HB10 := qH ((HB8.out.trans (hb9.mono (by omega))).trans (hb10 eb (Nat.le_refl _)))
   have hrd := (HOLD.out W10 HB10.out).2.2.2.2.2.2.2
   have est : st = ⟨st.rules, st.zones, st.links, 2⟩ := by cases st; simp only at hst; subst hst; rfl
   rw [est] at hrd
   have HRD := qH hrd
   clear hb9 hx9 e10 hx10 hb10 hrd est HR4
   go_wp2_with fail
   rw [HE10.out]
   go_meet
   exact ⟨(rdStamp x4).1, (rdStamp x4).2, rfl, qH rfl, HX10, qH ⟨HB10.out.mono hB, StrKeep.below (by rw [eeb]; exact HB10.out)⟩, HRD⟩
 case rest =>
 obtain ⟨un, f3, rfl, HUN, HX11, HBS11, HRD⟩ := hcut
 have HB11 := qH HBS11.out.1
 have HSK11 := qH HBS11.out.2
 obtain ⟨W11, eW11⟩ : ∃ W11, wc = W11 := ⟨_, rfl⟩
 rw [eW11] at HX11 HB11 HSK11 HRD ⊢
 clear HBS11
 clear eW11 wc HX8 HB8 gr gm gt gn g1 g2 g3 g4 hz8 hA8 hR8 HU
 have hrd := HRD.out
 have hnz : 0 < st.zones.length := List.length_pos_iff.2 (HSZ.out.n hst)
 have hnz2 := HSZ.out.z
 have hek := HSZ.out.e (st.zones.length - 1)
 have hel := hrd.el
 simp only at hel
 obtain ⟨nz, enz⟩ : ∃ nz, st.zones.length = nz := ⟨_, rfl⟩
 have ENZ := qH enz
 have hzr := hrd.zr
 simp only at hzr
 rcases own_cells hzr with ⟨-, h0⟩ | ⟨g, cap, rfl, hgB, hgl, hgc⟩
 ·omega
 have hkk : nz - 1 < evs.length := by omega
 have her := hrd.er (nz - 1) hkk
 simp only at her
 obtain ⟨ev, eev⟩ : ∃ ev, evs[nz - 1]'hkk = ev := ⟨_, rfl⟩
 have EEV := qH eev
 rw [eev] at her
 obtain ⟨A17, c17, rfl⟩ := own_sliceN her
 have z17 := hgc ((nz - 1) * 2 + 1) (.slice A17 (zD st.zones (nz - 1)).2.length c17) (by rw [(zoCs_get st.zones evs hel (nz - 1) hkk).2, eev])
 have HER2 := qH her
 obtain ⟨-, c1, -, -, -⟩ := hrd.cells
 have hR11 := hrd.lt
 have hw16 : IntKind.i64.wrap ((nz : Int) - 1) = (nz : Int) - 1 := IntWalk.i64_in _ (by omega)
 have hi0 : (0 : Int) <= (nz : Int) - 1 := by omega
 have hi1 : (nz : Int) - 1 < (nz : Int) := by omega
 have hi2 : ((nz : Int) - 1).toNat = nz - 1 := by omega
 have hi4 : (1 : Int) <= (nz : Int) := by omega
 have hi5 : (nz : Int) < (nz : Int) + 1 := by omega
 have hi6 : 1 <= nz := by omega
 simp only [enz] at c1
 clear hrd hzr her hgc eev enz hel
 go_upto_region 16 with fail
 go_quiet (fail)
 go_upto_region 17 with fail
 obtain ⟨W12, e12⟩ : ∃ W12, W11.drewN nq = W12 := ⟨_, rfl⟩
 have hb12 : ∀ b : Nat, W12.heap[b]? = W11.heap[b]? := fun b => by rw [<- e12]; rfl
 have hs12 : W12.heap.size = W11.heap.size := by rw [<- e12]; rfl
 have hbl12 : Below B w W12 := by rw [<- e12]; exact below_drewN' HB11.out nq
 rw [e12]
 have HSK12 := qH (HSK11.out.trans (StrKeep.of (w' := W12) fun b _ => hb12 b))
 have HRD12 := qH (HRD.out.keep (W' := W12) fun b _ => hb12 b)
 have HX12 := qH ((hb12 eb).trans HX11.out)
 have HER12 := qH (own_keep HER2.out fun b _ => hb12 b)
 have HBL12 := qH hbl12
 have hg12 : g < W12.heap.size := by rw [hs12]; exact hgl
 have z17' : W12.cell? ⟨g, (nz - 1) * 2 + 1, none⟩ = some (.slice A17 (zD st.zones (nz - 1)).2.length c17) := (World.cell?_of_block (a := ⟨g, (nz - 1) * 2 + 1, none⟩) (hb12 g)).trans z17
 clear e12 hb12 hs12 hbl12 HRD HX11 HER2 HB11 z17 c1 hR11 hgl
 have hx12 := HX12.out
 have q0 : W12.cell? ⟨eb, 0, none⟩ = some (.int .i64 o1) := (cell_of_row W12 _ 0 _ _ _ hx12).trans rfl
 have q1 : W12.cell? ⟨eb, 1, none⟩ = some (.string ru) := (cell_of_row W12 _ 1 _ _ _ hx12).trans rfl
 have q2 : W12.cell? ⟨eb, 2, none⟩ = some (.int .i64 o2) := (cell_of_row W12 _ 2 _ _ _ hx12).trans rfl
 have q3 : W12.cell? ⟨eb, 3, none⟩ = some (.string (txt x3)) := (cell_of_row W12 _ 3 _ _ _ hx12).trans rfl
 have q4 : W12.cell? ⟨eb, 4, none⟩ = some (.int .i64 un) := (cell_of_row W12 _ 4 _ _ _ hx12).trans rfl
 have hez : eb < W12.heap.size := (Array.getElem?_eq_some_iff.mp hx12).1
 obtain ⟨i1, hi1, hz10, hz11, hz12⟩ := info_parts infoErP
 obtain ⟨L, eL⟩ : ∃ L, (zD st.zones (nz - 1)).2 = L := ⟨_, rfl⟩
 have HLn : L.length <= 100000 := by
  have := HSZ.out.e (nz - 1)
  rw [eL] at this
  exact this
 have EL := qH eL
 rw [eL] at z17' HER12
 have HEO := qH (World.ownsRow.drew HER12.out)
 have HL1 : Hid (L.length + 1 <= maxLen) := by show _ <= _; simp only [maxLen]; omega
 have HL2 : Hid ((L.length + 1) * 56 <= 140737488355328) := by show _ <= _; omega
 have H1 : Hid (∀ u ∈ [Value.int .i64 o1, .string ru, .int .i64 o2, .string (txt x3), .int .i64 un], u.oneCell' = true) := by intro u hu; simp at hu; rcases hu with rfl | rfl | rfl | rfl | rfl <;> rfl
 have HBS : Hid (∀ o : Obj, B <= (W12.drew.alloc o).heap.size) := by
  show ∀ o : Obj, _
  intro o
  have : B <= W12.heap.size := by omega
  simp; omega
 have hgne : (Value.slice A17 L.length c17).ownBlock ≠ some g := fun e => by
  rcases own_apart HER12.out HRD12.out.zr (by decide) with e2 | e2
  ·rw [e] at e2; cases e2
  ·exact e2 (by rw [e]; rfl)
 have HGN := qH hgne
 have HQ4 : Hid (un = un) := rfl
 clear eL hx12 hgne
 have KG : Hid (∀ (o : Obj) (w6 : World), (W12.drew.alloc o).grownBy w6 (Value.slice A17 L.length c17).ownBlock -> (∀ b, b < W12.heap.size -> (Value.slice A17 L.length c17).ownBlock ≠ some b -> w6.heap[b]? = W12.heap[b]?) /\ w6.cell? ⟨g, (nz - 1) * 2 + 1, none⟩ = some (.slice A17 L.length c17) /\ w6.frozen? ⟨g, (nz - 1) * 2 + 1, none⟩ = false /\ g < w6.heap.size) := by
  show ∀ o w6, _
  intro o w6 hg
  have hk : ∀ b, b < W12.heap.size -> (Value.slice A17 L.length c17).ownBlock ≠ some b -> w6.heap[b]? = W12.heap[b]? := fun b hb hne => (hg.block b (by simp; omega) (fun e => hne e.symm)).trans (Below.heap_alloc W12.drew _ b hb)
  have hgb := hk g hg12 HGN.out
  obtain ⟨cur, hcur⟩ : ∃ cur, W12.heap[g]? = some (.cells cur 46 (0, 0)) := by
   have hzr := HRD12.out.zr
   rcases hzr.2 with ⟨h', _⟩ | ⟨g', cap', cur, h', _, hg', _⟩
   ·simp at h'
   ·simp only [Value.slice.injEq, Option.some.injEq, Addr.mk.injEq, and_true, true_and] at h'
    obtain ⟨rfl, rfl⟩ := h'
    exact ⟨cur, hg'⟩
  exact ⟨hk, (World.cell?_of_block (a := ⟨g, (nz - 1) * 2 + 1, none⟩) hgb).trans z17', by simp [World.frozen?, hgb, hcur], (Array.getElem?_eq_some_iff.mp (hgb.trans hcur)).1⟩
 go_region_law (first
  | (refine step_append_lies _ (by rfl) _ _ _ (by rfl) B 43 i1 _ 5 56 undErP hi1 hz10 hz11 hz12 rfl (by omega) (.slice A17 L.length c17) L.length (erCs L) (by rfl) (World.ownsRow.alloc HEO.out _) ⟨W12.heap.size, 0, none⟩ 1 1 [.int .i64 o1, .string ru, .int .i64 o2, .string (txt x3), .int .i64 un] (by rfl) (by rfl) (World.news_of_block (cs := #[.int .i64 o1, .string ru, .int .i64 o2, .string (txt x3), .int .i64 un]) (t := 43) (fr := (0, 0)) (heap_alloc_new W12.drew _)) H1.out Nat.one_pos HL1.out HL2.out (HBS.out _) (W12.heap.size + 1) (by simp) ?_; intro g6 cap6 w6 hown6 hg6 hat6 hlt6; obtain ⟨hk6, t6c, t6f, t6l⟩ := KG.out _ _ hg6))
 all_goals
  obtain ⟨W7, e7⟩ : ∃ W7, w6.setCell ⟨g, (nz - 1) * 2 + 1, none⟩ (.slice (some ⟨g6, 0, none⟩) (L.length + 1) cap6) = W7 := ⟨_, rfl⟩
  rw [e7]
  have hb6 : Below B w w6 := (HBL12.out.drew.alloc (by have := hgB; have := hg12; simp; omega) _).grown hg6 (HBS.out _) (fun q hq => (World.ownsRow.lt HER12.out q hq).1)
  have hb7 : Below B w W7 := by rw [<- e7]; exact hb6.setCell hgB _
  have hgg : g6 ≠ g := by
   rcases hat6 with e | e
   ·intro e2; exact HGN.out (by rw [e, e2])
   ·omega
  have hzr6 := own_keep (W' := w6) HRD12.out.zr fun b e => by
   simp only [Value.ownBlock] at e
   injection e with e
   subst e
   exact hk6 _ hg12 HGN.out
  have hst := (hzr6.stored ((nz - 1) * 2 + 1) (.slice (some ⟨g6, 0, none⟩) (L.length + 1) cap6)).1
  have hset : ∀ b, b ≠ g -> W7.heap[b]? = w6.heap[b]? := fun b hb => by rw [<- e7]; exact Below.heap_setCell _ _ _ _ hb
  have hown7 := own_keep (W' := W7) hown6 fun b e => hset b (by simp only [Value.ownBlock] at e; injection e with e; omega)
  rw [e7] at hst
  have hrd := RdM.era (W7 := W7) (x := ⟨o1, ru, o2, txt x3, un⟩) (e' := .slice (some ⟨g6, 0, none⟩) (L.length + 1) cap6) HRD12.out hkk (by have := ENZ.out; show nz - 1 = st.zones.length - 1; omega) EEV.out rfl
   (fun b hb h1 h2 => (hset b h2).trans (hk6 b hb (by rw [EL.out] at h1; exact h1))) hst (by show World.ownsRow _ _ _ _ _ ((zD st.zones (nz - 1)).2.length + 1) (erCs (zD st.zones (nz - 1)).2 ++ _); rw [EL.out]; exact hown7)
   (by
     rcases hat6 with e | e
     ·exact .inl (by rw [EL.out]; exact e.symm)
     ·exact .inr fun b eb => by simp only [Value.ownBlock] at eb; injection eb with eb; omega)
  have HRD7 := qH hrd
  have HB7 := qH hb7
  have hzb6 : ∃ cur, w6.heap[g]? = some (.cells cur 46 (0, 0)) := by
   rcases hzr6.2 with ⟨h', _⟩ | ⟨g', cap', cur, h', _, hg', _⟩
   ·simp at h'
   ·simp only [Value.slice.injEq, Option.some.injEq, Addr.mk.injEq, and_true, true_and] at h'
    obtain ⟨rfl, rfl⟩ := h'
    exact ⟨cur, hg'⟩
  obtain ⟨cur6, hcur6⟩ := hzb6
  have HSK7 : Hid (StrKeep w W7) := by
   show StrKeep w W7
   rw [<- e7]
   exact (HSK12.out.trans (StrKeep.row HER12.out (by decide) hg6)).trans (StrKeep.set hcur6 (by decide) _ _)
  clear hcur6
  have hres := HER.out.trans (by rw [eraL_res EO1.out EF1.out HDD.out HUN.out HRU.out])
  have HRES := qH hres
  obtain ⟨sgn, esgn⟩ : ∃ s : Int, (if n = 5 then (2 : Int) else 1) = s := ⟨_, rfl⟩
  rw [esgn] at HRES HRD7
  clear hrd hb7 hb6 hst hset hown7 hzr6 e7 hk6 t6c t6f t6l hown6 hg6 hat6 hlt6 hres esgn
  by_cases hf1 : f1 = 0
  case neg =>
   have hno : RES = none := by rw [HRES.out, if_neg (fun h => hf1 h.1)]
   have hfb : (f1 == 0) = false := by simpa using hf1
   rw [hno]
   clear hf1
   go_wp2_with fail
   go_ret
   exact ⟨rfl, HB7.out, HSK7.out, fun st' e => by cases e⟩
  by_cases hf2 : f2 = 0
  case neg =>
   have hno : RES = none := by rw [HRES.out, if_neg (fun h => hf2 h.2.1)]
   have hfb : (f2 == 0) = false := by simpa using hf2
   subst hf1
   rw [hno]
   clear hf2
   go_wp2_with fail
   go_ret
   exact ⟨rfl, HB7.out, HSK7.out, fun st' e => by cases e⟩
  by_cases hf3 : f3 = 0
  case neg =>
   have hno : RES = none := by rw [HRES.out, if_neg (fun h => hf3 h.2.2)]
   have hfb : (f3 == 0) = false := by simpa using hf3
   subst hf1
   subst hf2
   rw [hno]
   clear hf3
   go_wp2_with fail
   go_ret
   exact ⟨rfl, HB7.out, HSK7.out, fun st' e => by cases e⟩
  have hyes : RES = some ⟨st.rules, addEra st.zones ⟨o1, ru, o2, txt x3, un⟩, st.links, sgn⟩ := by rw [HRES.out, if_pos ⟨hf1, hf2, hf3⟩]
  subst hf1
  subst hf2
  subst hf3
  rw [hyes]
  go_wp2_with fail
  go_ret
  exact ⟨rfl, HB7.out, HSK7.out, fun st' e => by injection e with e; subst e; exact ⟨_, _, _, _, HRD7.out⟩⟩
theorem undRuP : Tryz.prog.underlying 22 = some (.slice 87) := by kernel_rfl
theorem infoRuP : (Tryz.prog.info? 87).map (fun i => (i.zero, i.size, i.bytes)) = some (some (.agg #[.string ⟨#[]⟩, .int .i64 0, .int .i64 0, .int .i64 0, .int .i64 0, .int .i64 0, .int .i64 0, .int .i64 0, .int .i64 0, .int .i64 0, .string ⟨#[]⟩]), 11, 104) := by kernel_rfl
theorem undZoP : Tryz.prog.underlying 23 = some (.slice 46) := by kernel_rfl
theorem infoZoP : (Tryz.prog.info? 46).map (fun i => (i.zero, i.size, i.bytes)) = some (some (.agg #[.string ⟨#[]⟩, .slice none 0 0]), 2, 40) := by kernel_rfl
theorem undLkP : Tryz.prog.underlying 24 = some (.slice 91) := by kernel_rfl
theorem infoLkP : (Tryz.prog.info? 91).map (fun i => (i.zero, i.size, i.bytes)) = some (some (.agg #[.string ⟨#[]⟩, .string ⟨#[]⟩]), 2, 32) := by kernel_rfl
theorem rd_grow {B R : Nat} {W w6 : World} {rv zv lv v : Value} {evs : List Value} {st : RdS} {e : TypeId} {s n : Nat} {xs : List Value} {o : Obj} (h : RdM B W R rv zv lv evs st) (ho : W.ownsRow B e s v n xs) (hne : e ≠ 100)
 (hg : (W.drew.alloc o).grownBy w6 v.ownBlock) : (∀ b, b < W.heap.size -> v.ownBlock ≠ some b -> w6.heap[b]? = W.heap[b]?) /\ w6.heap[R]? = W.heap[R]? /\ w6.cell? ⟨R, 0, none⟩ = some rv /\ w6.cell? ⟨R, 1, none⟩ = some zv /\ w6.cell? ⟨R, 2, none⟩ = some lv /\ w6.cell? ⟨R, 3, none⟩ = some (.int .i64 st.stage) /\ (∀ o, w6.frozen? ⟨R, o, none⟩ = false) /\ R < w6.heap.size := by
 have hk : ∀ b, b < W.heap.size -> v.ownBlock ≠ some b -> w6.heap[b]? = W.heap[b]? := fun b hb hn => (hg.block b (by simp; omega) (fun e => hn e.symm)).trans (Below.heap_alloc W.drew _ b hb)
 have hR := hk R h.lt (own_neT ho h.blk hne)
 have hb := hR.trans h.blk
 exact ⟨hk, hR, (cell_of_row w6 _ 0 _ _ _ hb).trans rfl, (cell_of_row w6 _ 1 _ _ _ hb).trans rfl, (cell_of_row w6 _ 2 _ _ _ hb).trans rfl, (cell_of_row w6 _ 3 _ _ _ hb).trans rfl, fun o => by simp [World.frozen?, hb], (Array.getElem?_eq_some_iff.mp hb).1⟩
theorem row_in {B : Nat} {W : World} {v : Value} {e : TypeId} {s n : Nat} {xs : List Value} {o : Obj} (ho : W.ownsRow B e s v n xs) : (W.drew.alloc o).ownsRow B e s v n xs := World.ownsRow.alloc (World.ownsRow.drew ho) _
theorem below_row {B : Nat} {w W w6 : World} {v : Value} {e : TypeId} {s n : Nat} {xs : List Value} {o : Obj} (hb : Below B w W) (hB : B <= W.heap.size) (ho : W.ownsRow B e s v n xs) (hg : (W.drew.alloc o).grownBy w6 v.ownBlock) : Below B w w6 :=
 (hb.drew.alloc hB _).grown hg (by simp; omega) (fun q hq => (World.ownsRow.lt ho q hq).1)
theorem eraF_of {st : RdS} {l : List UInt8} (h1 : (splitC 32 l).getD 0 [] = eraW) : lineF st l = eraF st (splitC 32 l) := by
 unfold lineF
 rw [if_neg (by rw [h1]; rintro ⟨h, _⟩; exact absurd h (by decide)), if_neg (by rw [h1]; rintro ⟨h, _⟩; exact absurd h (by decide)), if_pos h1]
theorem rdLine_any (B R : Nat) (rv zv lv : Value) (evs : List Value) (st : RdS) (l : List UInt8) (w : World) (h : RdM B w R rv zv lv evs st) (hs : RdSz st) (hB : B <= w.heap.size)
 (hl : l.length <= 60000) (ht : Tab10 w) (ha : AscTab w) (he : NumErrs w) (hm : MaxLen w) :
 Calls Tryz.prog 37 #[.pointer (some ⟨R, 0, none⟩), .string (txt l)] w (LnPost B R (lineF st l) w) := by
 have HM := qH h
 have HSZ := qH hs
 have HT := qH ht
 have HA := qH ha
 have HE := qH he
 have HX := qH hm
 have HSP := qH (splitC_any 32 l w (by omega) hm)
 have hne := splitC_ne 32 l
 have hsm := splitC_small 32 l
 have hcnt := splitC_length 32 l
 have hcl : l.count 32 <= l.length := List.count_le_length
 obtain ⟨LN, eLN⟩ : ∃ LN, lineF st l = LN := ⟨_, rfl⟩
 have HLN : Hid (lineF st l = LN) := eLN
 have HRU := qH (fun W ht ha hn hm => rdRule_any l W (by omega) ht ha hn hm)
 rw [eLN]
 obtain ⟨ws, ews⟩ : ∃ ws, splitC 32 l = ws := ⟨_, rfl⟩
 have EWS := qH ews
 rw [ews] at HSP hne hsm hcnt
 have hw0 : 0 < ws.length := List.length_pos_iff.2 hne
 have hwn : ws.length <= 60001 := by omega
 have HWS := qH hsm
 clear h hs ht ha he hm eLN ews hne hsm hcnt hcl
 go_enter Tryz.func37, Tryz.ntmps37
 go_wp2_with fail
 refine HSP.out.mono ?_
 rintro e w1 ⟨A, rfl, hA1, hA2, hcs, hb1⟩
 have HB1 := qH (hb1.mono hB)
 have HB1w := qH hb1
 have HM1 := qH (HM.out.below hb1)
 have HCS := qH hcs
 have hB1 : B <= w1.heap.size := Nat.le_trans hB hb1.size
 obtain ⟨c0, c1, c2, c3, cf⟩ := HM1.out.cells
 have hR1 := HM1.out.lt
 have z0 : w1.cell? ⟨A, 0, none⟩ = some (.string (txt (ws.getD 0 []))) := by rw [getD_in _ _ hw0]; exact hcs 0 hw0
 have hi0 : (0 : Int) < (ws.length : Int) := by omega
 obtain ⟨s0, es0⟩ : ∃ s0, txt (ws.getD 0 []) = s0 := ⟨_, rfl⟩
 have hs0 : s0.toList = ws.getD 0 [] := by rw [<- es0, ByteArray.toList_eq, txt_data]
 have ES0 := qH hs0
 rw [es0] at z0
 clear hb1 hcs HSP HM hs0 es0
 have HK : Hid (∀ k : List UInt8, (s0.toList == k) = decide (ws.getD 0 [] = k)) := by
  show ∀ k, _
  intro k
  rw [ES0.out]
  by_cases g : ws.getD 0 [] = k
  ·rw [g, decide_eq_true rfl]; exact beq_self_eq_true _
  ·rw [decide_eq_false g]; simpa using g
 obtain ⟨sg, esg⟩ : ∃ sg, st.stage = sg := ⟨_, rfl⟩
 have ESG := qH esg
 rw [esg] at c3
 clear esg
 go_upto_region 2 with fail
 go_cut [10] from 11 to 21 (fun s10 wx => s10 = .bool (decide (ws.getD 0 [] = ruleW /\ sg = 0)) /\ wx = w1)
 case first =>
  have q0 := HK.out [114, 117, 108, 101]
  by_cases g0 : ws.getD 0 [] = ruleW
  ·rw [decide_eq_true (show ws.getD 0 [] = [114, 117, 108, 101] from g0)] at q0
   by_cases g1 : sg = 0
   ·have g1b : (sg == 0) = true := by simpa using g1
    have hD := decide_eq_true (And.intro g0 g1)
    clear g0 g1
    go_wp2_with fail
    go_meet
    exact ⟨congrArg Value.bool hD.symm, rfl⟩
   ·have g1b : (sg == 0) = false := by simpa using g1
    have hD : decide (ws.getD 0 [] = ruleW /\ sg = 0) = false := decide_eq_false (fun h => g1 h.2)
    clear g0 g1
    go_wp2_with fail
    go_meet
    exact ⟨congrArg Value.bool hD.symm, rfl⟩
  ·rw [decide_eq_false (show ¬ ws.getD 0 [] = [114, 117, 108, 101] from g0)] at q0
   have hD : decide (ws.getD 0 [] = ruleW /\ sg = 0) = false := decide_eq_false (fun h => g0 h.1)
   clear g0
   go_wp2_with fail
   go_meet
   exact ⟨congrArg Value.bool hD.symm, rfl⟩
 case rest =>
 obtain ⟨rfl, hwc⟩ := hcut
 rw [hwc]
 clear hwc wc
 by_cases hr : ws.getD 0 [] = ruleW /\ sg = 0
 ·rw [decide_eq_true hr]
  have hln : LN = if (rdRule l).2 = 0 then some ⟨st.rules ++ [(rdRule l).1], st.zones, st.links, st.stage⟩ else none := by
   rw [<- HLN.out]
   unfold lineF
   rw [EWS.out, ESG.out, if_pos hr]
  have HLR := qH hln
  have HPR := qH (HRU.out w1 (HT.out.below HB1w.out) (HA.out.below HB1w.out) (HE.out.below HB1w.out) (HX.out.below HB1w.out))
  obtain ⟨r, er⟩ : ∃ r, (rdRule l).1 = r := ⟨_, rfl⟩
  obtain ⟨C, eC⟩ : ∃ r, (rdRule l).2 = r := ⟨_, rfl⟩
  rw [er, eC] at HLR HPR
  clear hln er eC hr
  obtain ⟨nm, yf, yt, mo, dk, dw, dn, tm, ck, sv, lt⟩ := r
  go_wp2_with fail
  refine HPR.out.mono ?_
  rintro e w2 ⟨rfl, hb2⟩
  have HB2 := qH (HB1.out.trans (hb2.mono hB1))
  have HM2 := qH (HM1.out.below hb2)
  obtain ⟨W3, e3⟩ : ∃ W3, w2.alloc (.cells #[.string nm, .int .i64 yf, .int .i64 yt, .int .i64 mo, .int .i64 dk, .int .i64 dw, .int .i64 dn, .int .i64 tm, .int .i64 ck, .int .i64 sv, .string lt] 87) = W3 := ⟨_, rfl⟩
  obtain ⟨tb, etb⟩ : ∃ tb, w2.heap.size = tb := ⟨_, rfl⟩
  have hx3 : W3.heap[tb]? = some (.cells #[.string nm, .int .i64 yf, .int .i64 yt, .int .i64 mo, .int .i64 dk, .int .i64 dw, .int .i64 dn, .int .i64 tm, .int .i64 ck, .int .i64 sv, .string lt] 87 (0, 0)) := by rw [<- e3]; exact alloc_at _ _ _ etb.symm
  have hb3 : Below w2.heap.size w2 W3 := by rw [<- e3]; exact alB _ _
  have HE3 := qH e3
  have HTB := qH etb
  have HM3 := qH (HM2.out.below hb3)
  have HX3 := qH hx3
  have hB2 : B <= w2.heap.size := Nat.le_trans hB1 hb2.size
  have HB3 := qH (HB2.out.trans (hb3.mono hB2))
  have hB3 : B <= W3.heap.size := Nat.le_trans hB2 hb3.size
  have HSK3 := qH (StrKeep.below (HB1w.out.trans ((hb2.trans (hb3.mono hb2.size)).mono HB1w.out.size)))
  have htb3 : tb < W3.heap.size := (Array.getElem?_eq_some_iff.mp hx3).1
  have y0 : W3.cell? ⟨tb, 0, none⟩ = some (.string nm) := (cell_of_row W3 _ 0 _ _ _ hx3).trans rfl
  have y1 : W3.cell? ⟨tb, 1, none⟩ = some (.int .i64 yf) := (cell_of_row W3 _ 1 _ _ _ hx3).trans rfl
  have y2 : W3.cell? ⟨tb, 2, none⟩ = some (.int .i64 yt) := (cell_of_row W3 _ 2 _ _ _ hx3).trans rfl
  have y3 : W3.cell? ⟨tb, 3, none⟩ = some (.int .i64 mo) := (cell_of_row W3 _ 3 _ _ _ hx3).trans rfl
  have y4 : W3.cell? ⟨tb, 4, none⟩ = some (.int .i64 dk) := (cell_of_row W3 _ 4 _ _ _ hx3).trans rfl
  have y5 : W3.cell? ⟨tb, 5, none⟩ = some (.int .i64 dw) := (cell_of_row W3 _ 5 _ _ _ hx3).trans rfl
  have y6 : W3.cell? ⟨tb, 6, none⟩ = some (.int .i64 dn) := (cell_of_row W3 _ 6 _ _ _ hx3).trans rfl
  have y7 : W3.cell? ⟨tb, 7, none⟩ = some (.int .i64 tm) := (cell_of_row W3 _ 7 _ _ _ hx3).trans rfl
  have y8 : W3.cell? ⟨tb, 8, none⟩ = some (.int .i64 ck) := (cell_of_row W3 _ 8 _ _ _ hx3).trans rfl
  have y9 : W3.cell? ⟨tb, 9, none⟩ = some (.int .i64 sv) := (cell_of_row W3 _ 9 _ _ _ hx3).trans rfl
  have y10 : W3.cell? ⟨tb, 10, none⟩ = some (.string lt) := (cell_of_row W3 _ 10 _ _ _ hx3).trans rfl
  have hR3 := HM3.out.lt
  obtain ⟨A3, cA, rfl⟩ := own_sliceN HM3.out.rr
  clear c0 c1 c2 c3 cf z0
  obtain ⟨c0, c1, c2, c3, cf⟩ := HM3.out.cells
  have hrn := HSZ.out.r
  obtain ⟨n, en⟩ : ∃ n, st.rules.length = n := ⟨_, rfl⟩
  have hrr := HM3.out.rr
  rw [en] at hrn hrr c0
  have HRR := qH hrr
  have EN := qH en
  obtain ⟨i1, hi1, hz10, hz11, hz12⟩ := info_parts infoRuP
  have HL1 : Hid (n + 1 <= maxLen) := by show _ <= _; simp only [maxLen]; omega
  have HL2 : Hid ((n + 1) * 104 <= 140737488355328) := by show _ <= _; omega
  have H1 : Hid (∀ u ∈ ([.string nm, .int .i64 yf, .int .i64 yt, .int .i64 mo, .int .i64 dk, .int .i64 dw, .int .i64 dn, .int .i64 tm, .int .i64 ck, .int .i64 sv, .string lt] : List Value), u.oneCell' = true) := by intro u hu; simp at hu; rcases hu with rfl | rfl | rfl | rfl | rfl | rfl | rfl | rfl | rfl | rfl | rfl <;> rfl
  have HBS : Hid (∀ o : Obj, B <= (W3.drew.alloc o).heap.size) := by
   show ∀ o : Obj, _
   intro o
   simp; omega
  have KG : Hid (∀ (o : Obj) (w6 : World), (W3.drew.alloc o).grownBy w6 (Value.slice A3 n cA).ownBlock -> w6.cell? ⟨R, 0, none⟩ = some (.slice A3 n cA) /\ w6.frozen? ⟨R, 0, none⟩ = false /\ R < w6.heap.size) := by
   show ∀ o w6, _
   intro o w6 hg
   have hrd := HM3.out
   rw [en] at hrd
   have hg2 := rd_grow hrd HRR.out (by decide) hg
   exact ⟨hg2.2.2.1, hg2.2.2.2.2.2.2.1 0, hg2.2.2.2.2.2.2.2⟩
  clear e3 etb hb2 hb3 hx3 hrr en HPR HM2 HB2
  go_upto_region 4 with fail
  rw [HE3.out, HTB.out]
  go_region_law (first
   | (refine step_append_lies _ (by rfl) _ _ _ (by rfl) B 87 i1 _ 11 104 undRuP hi1 hz10 hz11 hz12 rfl (by omega) (.slice A3 n cA) n (ruCs st.rules) (by rfl) (row_in HRR.out) ⟨W3.heap.size, 0, none⟩ 1 1 [.string nm, .int .i64 yf, .int .i64 yt, .int .i64 mo, .int .i64 dk, .int .i64 dw, .int .i64 dn, .int .i64 tm, .int .i64 ck, .int .i64 sv, .string lt] (by rfl) (by rfl) (World.news_of_block (cs := #[.string nm, .int .i64 yf, .int .i64 yt, .int .i64 mo, .int .i64 dk, .int .i64 dw, .int .i64 dn, .int .i64 tm, .int .i64 ck, .int .i64 sv, .string lt]) (t := 87) (fr := (0, 0)) (heap_alloc_new W3.drew _)) H1.out Nat.one_pos HL1.out HL2.out (HBS.out _) (W3.heap.size + 1) (by simp) ?_; intro g6 cap6 w6 hown6 hg6 hat6 hlt6; obtain ⟨t6c, t6f, t6l⟩ := KG.out _ _ hg6))
  all_goals
   obtain ⟨W7, e7⟩ : ∃ W7, w6.setCell ⟨R, 0, none⟩ (.slice (some ⟨g6, 0, none⟩) (n + 1) cap6) = W7 := ⟨_, rfl⟩
   rw [e7]
   have hgr := rd_grow HM3.out HRR.out (by decide) hg6
   have hb6 := below_row HB3.out hB3 HRR.out hg6
   have hb7 : Below B w W7 := by rw [<- e7]; exact hb6.setCell HM3.out.hR _
   have hgR : g6 ≠ R := by
    rcases hat6 with e | e
    ·intro e2; exact own_neT HRR.out HM3.out.blk (by decide) (by rw [e, e2])
    ·omega
   have hset : ∀ b, b ≠ R -> W7.heap[b]? = w6.heap[b]? := fun b hb => by rw [<- e7]; exact Below.heap_setCell _ _ _ _ hb
   have hbk : W7.heap[R]? = some (.cells #[.slice (some ⟨g6, 0, none⟩) (n + 1) cap6, zv, lv, .int .i64 st.stage] 100 (0, 0)) := by
    rw [<- e7, heap_setCell_same w6 R 0 _ _ _ (hgr.2.1.trans HM3.out.blk)]; rfl
   have hown7 := own_keep (W' := W7) hown6 fun b e => hset b (by simp only [Value.ownBlock] at e; injection e with e; omega)
   have hrd := RdM.rule (W7 := W7) (r := ⟨nm, yf, yt, mo, dk, dw, dn, tm, ck, sv, lt⟩) HM3.out (fun b hb h1 h2 => (hset b h2).trans (hgr.1 b hb (by rw [EN.out] at h1; exact h1))) hbk (by rw [EN.out]; exact hown7)
   have HRD := qH hrd
   have HB7 := qH hb7
   have HSK : Hid (StrKeep w W7) := by
    show StrKeep w W7
    rw [<- e7]
    exact (HSK3.out.trans (StrKeep.row HRR.out (by decide) hg6)).trans (StrKeep.set (hgr.2.1.trans HM3.out.blk) (by decide) _ _)
   clear hrd hb7 hb6 hown7 hset hbk hgr e7 t6c t6f t6l hown6 hg6 hat6 hlt6 hgR
   by_cases hC : C = 0
   ·have hl1 : LN = some ⟨st.rules ++ [⟨nm, yf, yt, mo, dk, dw, dn, tm, ck, sv, lt⟩], st.zones, st.links, st.stage⟩ := by rw [HLR.out, if_pos hC]
    subst hl1
    subst hC
    go_wp2_with fail
    go_ret
    exact ⟨rfl, HB7.out, HSK.out, fun st' e => by injection e with e; subst e; exact ⟨_, _, _, _, HRD.out⟩⟩
   ·have hl1 : LN = none := by rw [HLR.out, if_neg hC]
    have hCb : (C == 0) = false := by simpa using hC
    subst hl1
    clear hC
    go_wp2_with fail
    go_ret
    exact ⟨rfl, HB7.out, HSK.out, fun st' e => by cases e⟩
 rw [decide_eq_false hr]
 have HR1 := qH hr
 clear hr
 have Z1 : Hid (1 < ws.length -> w1.cell? ⟨A, 1, none⟩ = some (.string (txt (ws.getD 1 [])))) := by
  show _ -> _
  intro h; rw [getD_in _ _ h]; exact HCS.out 1 h
 have Z2 : Hid (2 < ws.length -> w1.cell? ⟨A, 2, none⟩ = some (.string (txt (ws.getD 2 [])))) := by
  show _ -> _
  intro h; rw [getD_in _ _ h]; exact HCS.out 2 h
 go_upto_region 6 with fail
 go_cut [41] from 42 to 57 (fun s41 wx => s41 = .bool (decide (ws.getD 0 [] = zoneW /\ sg <= 1 /\ ws.length = 2)) /\ wx = w1)
 case first =>
  have q0 := HK.out [122, 111, 110, 101]
  by_cases g0 : ws.getD 0 [] = zoneW
  ·rw [decide_eq_true (show ws.getD 0 [] = [122, 111, 110, 101] from g0)] at q0
   by_cases g1 : sg <= 1
   ·by_cases g2 : ws.length = 2
    ·have g2b : ((ws.length : Int) == 2) = true := by rw [g2]; rfl
     have HD : Hid (decide (ws.getD 0 [] = zoneW /\ sg <= 1 /\ ws.length = 2) = true) := decide_eq_true ⟨g0, g1, g2⟩
     clear g0 g2
     go_wp2_with fail
     go_meet
     exact ⟨congrArg Value.bool HD.out.symm, rfl⟩
    ·have g2n : ¬ (ws.length : Int) = 2 := by omega
     have g2b : ((ws.length : Int) == 2) = false := by simpa using g2n
     clear g2n
     have HD : Hid (decide (ws.getD 0 [] = zoneW /\ sg <= 1 /\ ws.length = 2) = false) := decide_eq_false fun h => g2 h.2.2
     clear g0 g2
     go_wp2_with fail
     go_meet
     exact ⟨congrArg Value.bool HD.out.symm, rfl⟩
   ·have HD : Hid (decide (ws.getD 0 [] = zoneW /\ sg <= 1 /\ ws.length = 2) = false) := decide_eq_false fun h => g1 h.2.1
    clear g0
    go_wp2_with fail
    go_meet
    exact ⟨congrArg Value.bool HD.out.symm, rfl⟩
  ·rw [decide_eq_false (show ¬ ws.getD 0 [] = [122, 111, 110, 101] from g0)] at q0
   have HD : Hid (decide (ws.getD 0 [] = zoneW /\ sg <= 1 /\ ws.length = 2) = false) := decide_eq_false fun h => g0 h.1
   clear g0
   go_wp2_with fail
   go_meet
   exact ⟨congrArg Value.bool HD.out.symm, rfl⟩
 case rest =>
 obtain ⟨rfl, hwc⟩ := hcut
 rw [hwc]
 clear hwc wc
 by_cases hz : ws.getD 0 [] = zoneW /\ sg <= 1 /\ ws.length = 2
 ·rw [decide_eq_true hz]
  have hln : LN = some ⟨st.rules, st.zones ++ [(txt (ws.getD 1 []), [])], st.links, 2⟩ := by
   rw [<- HLN.out]
   unfold lineF
   rw [EWS.out, ESG.out, if_neg HR1.out, if_pos hz]
  have hl1 : 1 < ws.length := by omega
  have z1 := Z1.out hl1
  have hi1 : (1 : Int) < (ws.length : Int) := by omega
  obtain ⟨nm, enm⟩ : ∃ nm, txt (ws.getD 1 []) = nm := ⟨_, rfl⟩
  rw [enm] at z1 hln
  subst hln
  clear enm hz hl1 z0
  obtain ⟨A3, cA, eV⟩ := own_sliceN HM1.out.zr
  subst eV
  have hrn := HSZ.out.z
  obtain ⟨n, en⟩ : ∃ n, st.zones.length = n := ⟨_, rfl⟩
  have hrr := HM1.out.zr
  rw [en] at hrn hrr c1
  have HRR := qH hrr
  have EN := qH en
  obtain ⟨i1, hi1', hz10, hz11, hz12⟩ := info_parts infoZoP
  have HL1 : Hid (n + 1 <= maxLen) := by show _ <= _; simp only [maxLen]; omega
  have HL2 : Hid ((n + 1) * 40 <= 140737488355328) := by show _ <= _; omega
  have H1 : Hid (∀ u ∈ ([.string nm, .slice none 0 0] : List Value), u.oneCell' = true) := by intro u hu; simp at hu; rcases hu with rfl | rfl <;> rfl
  have HBS : Hid (∀ o : Obj, B <= (w1.drew.alloc o).heap.size) := by
   show ∀ o : Obj, _
   intro o
   simp; omega
  have KG : Hid (∀ (o : Obj) (w6 : World), (w1.drew.alloc o).grownBy w6 (Value.slice A3 n cA).ownBlock -> w6.cell? ⟨R, 1, none⟩ = some (.slice A3 n cA) /\ w6.frozen? ⟨R, 1, none⟩ = false /\ w6.cell? ⟨R, 3, none⟩ = some (.int .i64 sg) /\ w6.frozen? ⟨R, 3, none⟩ = false /\ R < w6.heap.size) := by
   show ∀ o w6, _
   intro o w6 hg
   have hrd := HM1.out
   rw [en] at hrd
   have hg2 := rd_grow hrd HRR.out (by decide) hg
   have h3 := hg2.2.2.2.2.2.1
   rw [ESG.out] at h3
   exact ⟨hg2.2.2.2.1, hg2.2.2.2.2.2.2.1 1, h3, hg2.2.2.2.2.2.2.1 3, hg2.2.2.2.2.2.2.2⟩
  clear hrr en
  go_upto_region 7 with fail
  go_region_law (first
   | (refine step_append_lies _ (by rfl) _ _ _ (by rfl) B 46 i1 _ 2 40 undZoP hi1' hz10 hz11 hz12 rfl (by omega) (.slice A3 n cA) n (zoCs st.zones evs) (by rfl) (row_in HRR.out) ⟨w1.heap.size, 0, none⟩ 1 1 [.string nm, .slice none 0 0] (by rfl) (by rfl) (World.news_of_block (cs := #[.string nm, .slice none 0 0]) (t := 46) (fr := (0, 0)) (heap_alloc_new w1.drew _)) H1.out Nat.one_pos HL1.out HL2.out (HBS.out _) (w1.heap.size + 1) (by simp) ?_; intro g6 cap6 w6 hown6 hg6 hat6 hlt6; obtain ⟨t6a, t6b, t6c, t6d, t6l⟩ := KG.out _ _ hg6))
  all_goals
   obtain ⟨W7, e7⟩ : ∃ W7, (w6.setCell ⟨R, 1, none⟩ (.slice (some ⟨g6, 0, none⟩) (n + 1) cap6)).setCell ⟨R, 3, none⟩ (.int .i64 2) = W7 := ⟨_, rfl⟩
   rw [e7]
   have hgr := rd_grow HM1.out HRR.out (by decide) hg6
   have hb6 := below_row HB1.out hB1 HRR.out hg6
   have hb7 : Below B w W7 := by rw [<- e7]; exact (hb6.setCell HM1.out.hR _).setCell HM1.out.hR _
   have hgR : g6 ≠ R := by
    rcases hat6 with e | e
    ·intro e2; exact own_neT HRR.out HM1.out.blk (by decide) (by rw [e, e2])
    ·omega
   have hset : ∀ b, b ≠ R -> W7.heap[b]? = w6.heap[b]? := fun b hb => by rw [<- e7]; exact (Below.heap_setCell _ _ _ _ hb).trans (Below.heap_setCell _ _ _ _ hb)
   have hbk : W7.heap[R]? = some (.cells #[rv, .slice (some ⟨g6, 0, none⟩) (n + 1) cap6, lv, .int .i64 2] 100 (0, 0)) := by
    have h1 := heap_setCell_same w6 R 1 _ _ (.slice (some ⟨g6, 0, none⟩) (n + 1) cap6) (hgr.2.1.trans HM1.out.blk)
    rw [<- e7, heap_setCell_same _ R 3 _ _ _ h1]; rfl
   have hown7 := own_keep (W' := W7) hown6 fun b e => hset b (by simp only [Value.ownBlock] at e; injection e with e; omega)
   have hrd := RdM.zone (W7 := W7) (nm := nm) HM1.out (fun b hb h1 h2 => (hset b h2).trans (hgr.1 b hb (by rw [EN.out] at h1; exact h1))) hbk (by rw [EN.out]; exact hown7)
   have HRD := qH hrd
   have HB7 := qH hb7
   have HSK : Hid (StrKeep w W7) := by
    show StrKeep w W7
    have hx6 := hgr.2.1.trans HM1.out.blk
    have h1 := heap_setCell_same w6 R 1 _ _ (.slice (some ⟨g6, 0, none⟩) (n + 1) cap6) hx6
    rw [<- e7]
    exact (((StrKeep.below HB1w.out).trans (StrKeep.row HRR.out (by decide) hg6)).trans (StrKeep.set hx6 (by decide) _ _)).trans (StrKeep.set h1 (by decide) _ _)
   clear hrd hb7 hb6 hown7 hset hbk hgr e7 t6a t6b t6c t6d t6l hown6 hg6 hat6 hlt6 hgR
   go_wp2_with fail
   go_ret
   exact ⟨rfl, HB7.out, HSK.out, fun st' e => by injection e with e; subst e; exact ⟨_, _, _, _, HRD.out⟩⟩
 rw [decide_eq_false hz]
 have HR2 := qH hz
 clear hz
 by_cases he : ws.getD 0 [] = eraW
 ·have q0 := HK.out [101, 114, 97]
  rw [decide_eq_true (show ws.getD 0 [] = [101, 114, 97] from he)] at q0
  have hln : LN = eraF st ws := by
   rw [<- HLN.out, <- EWS.out]
   exact eraF_of (by rw [EWS.out]; exact he)
  have HER := qH (rdEra_any B R A rv zv lv evs st ws w1 HM1.out HSZ.out hA2 hB1 HCS.out (fun x hx => Nat.le_trans (HWS.out x hx) hl) (by omega) (HT.out.below HB1w.out) (HE.out.below HB1w.out) (HX.out.below HB1w.out))
  subst hln
  clear he c0 c1 c2 c3 cf
  go_wp2_with fail
  refine HER.out.mono ?_
  rintro e w2 ⟨rfl, hb2, hsk, hst⟩
  have HPO : Hid (Below B w w2 /\ StrKeep w w2 /\ ∀ st', eraF st ws = some st' -> ∃ rv zv lv evs, RdM B w2 R rv zv lv evs st') := ⟨HB1.out.trans hb2, (StrKeep.below HB1w.out).trans hsk, hst⟩
  clear hb2 hsk hst HER
  go_wp2_with fail
  go_ret
  exact ⟨rfl, HPO.out.1, HPO.out.2.1, HPO.out.2.2⟩
 have q0 := HK.out [101, 114, 97]
 rw [decide_eq_false (show ¬ ws.getD 0 [] = [101, 114, 97] from he)] at q0
 have HR3 := qH he
 clear he
 go_upto_region 11 with fail
 go_cut [84] from 85 to 100 (fun s84 wx => s84 = .bool (decide (ws.getD 0 [] = linkW /\ sg ≠ 2 /\ ws.length = 3)) /\ wx = w1)
 case first =>
  clear q0
  have q0 := HK.out [108, 105, 110, 107]
  by_cases g0 : ws.getD 0 [] = linkW
  ·rw [decide_eq_true (show ws.getD 0 [] = [108, 105, 110, 107] from g0)] at q0
   by_cases g1 : sg = 2
   ·have g1b : (sg != 2) = false := by simpa using g1
    have g1c : (sg == 2) = true := by simpa using g1
    have HD : Hid (decide (ws.getD 0 [] = linkW /\ sg ≠ 2 /\ ws.length = 3) = false) := decide_eq_false fun h => h.2.1 g1
    clear g0 g1
    go_wp2_with fail
    go_meet
    exact ⟨congrArg Value.bool HD.out.symm, rfl⟩
   ·have g1b : (sg != 2) = true := by simpa using g1
    have g1c : (sg == 2) = false := by simpa using g1
    by_cases g2 : ws.length = 3
    ·have g2b : ((ws.length : Int) == 3) = true := by rw [g2]; rfl
     have HD : Hid (decide (ws.getD 0 [] = linkW /\ sg ≠ 2 /\ ws.length = 3) = true) := decide_eq_true ⟨g0, g1, g2⟩
     clear g0 g1 g2
     go_wp2_with fail
     go_meet
     exact ⟨congrArg Value.bool HD.out.symm, rfl⟩
    ·have g2n : ¬ (ws.length : Int) = 3 := by omega
     have g2b : ((ws.length : Int) == 3) = false := by simpa using g2n
     clear g2n
     have HD : Hid (decide (ws.getD 0 [] = linkW /\ sg ≠ 2 /\ ws.length = 3) = false) := decide_eq_false fun h => g2 h.2.2
     clear g0 g1 g2
     go_wp2_with fail
     go_meet
     exact ⟨congrArg Value.bool HD.out.symm, rfl⟩
  ·rw [decide_eq_false (show ¬ ws.getD 0 [] = [108, 105, 110, 107] from g0)] at q0
   have HD : Hid (decide (ws.getD 0 [] = linkW /\ sg ≠ 2 /\ ws.length = 3) = false) := decide_eq_false fun h => g0 h.1
   clear g0
   go_wp2_with fail
   go_meet
   exact ⟨congrArg Value.bool HD.out.symm, rfl⟩
 case rest =>
 obtain ⟨rfl, hwc⟩ := hcut
 rw [hwc]
 clear hwc wc q0
 by_cases hk : ws.getD 0 [] = linkW /\ sg ≠ 2 /\ ws.length = 3
 ·rw [decide_eq_true hk]
  have hln : LN = some ⟨st.rules, st.zones, st.links ++ [⟨txt (ws.getD 1 []), txt (ws.getD 2 [])⟩], 3⟩ := by
   rw [<- HLN.out]
   unfold lineF
   rw [EWS.out, ESG.out, if_neg HR1.out, if_neg HR2.out, if_neg HR3.out, if_pos hk]
  have hl1 : 2 < ws.length := by omega
  have z1 := Z1.out (by omega)
  have z2 := Z2.out hl1
  have hi1 : (1 : Int) < (ws.length : Int) := by omega
  have hi2 : (2 : Int) < (ws.length : Int) := by omega
  obtain ⟨nm, enm⟩ : ∃ nm, txt (ws.getD 1 []) = nm := ⟨_, rfl⟩
  obtain ⟨tg, etg⟩ : ∃ nm, txt (ws.getD 2 []) = nm := ⟨_, rfl⟩
  rw [enm] at z1 hln
  rw [etg] at z2 hln
  subst hln
  clear enm etg hk hl1 z0
  obtain ⟨A3, cA, eV⟩ := own_sliceN HM1.out.lr
  subst eV
  have hrn := HSZ.out.l
  obtain ⟨n, en⟩ : ∃ n, st.links.length = n := ⟨_, rfl⟩
  have hrr := HM1.out.lr
  rw [en] at hrn hrr c2
  have HRR := qH hrr
  have EN := qH en
  obtain ⟨i1, hi1', hz10, hz11, hz12⟩ := info_parts infoLkP
  have HL1 : Hid (n + 1 <= maxLen) := by show _ <= _; simp only [maxLen]; omega
  have HL2 : Hid ((n + 1) * 32 <= 140737488355328) := by show _ <= _; omega
  have H1 : Hid (∀ u ∈ ([.string nm, .string tg] : List Value), u.oneCell' = true) := by intro u hu; simp at hu; rcases hu with rfl | rfl <;> rfl
  have HBS : Hid (∀ o : Obj, B <= (w1.drew.alloc o).heap.size) := by
   show ∀ o : Obj, _
   intro o
   simp; omega
  have KG : Hid (∀ (o : Obj) (w6 : World), (w1.drew.alloc o).grownBy w6 (Value.slice A3 n cA).ownBlock -> w6.cell? ⟨R, 2, none⟩ = some (.slice A3 n cA) /\ w6.frozen? ⟨R, 2, none⟩ = false /\ w6.cell? ⟨R, 3, none⟩ = some (.int .i64 sg) /\ w6.frozen? ⟨R, 3, none⟩ = false /\ R < w6.heap.size) := by
   show ∀ o w6, _
   intro o w6 hg
   have hrd := HM1.out
   rw [en] at hrd
   have hg2 := rd_grow hrd HRR.out (by decide) hg
   have h3 := hg2.2.2.2.2.2.1
   rw [ESG.out] at h3
   exact ⟨hg2.2.2.2.2.1, hg2.2.2.2.2.2.2.1 2, h3, hg2.2.2.2.2.2.2.1 3, hg2.2.2.2.2.2.2.2⟩
  clear hrr en
  go_upto_region 12 with fail
  go_region_law (first
   | (refine step_append_lies _ (by rfl) _ _ _ (by rfl) B 91 i1 _ 2 32 undLkP hi1' hz10 hz11 hz12 rfl (by omega) (.slice A3 n cA) n (lkCs st.links) (by rfl) (row_in HRR.out) ⟨w1.heap.size, 0, none⟩ 1 1 [.string nm, .string tg] (by rfl) (by rfl) (World.news_of_block (cs := #[.string nm, .string tg]) (t := 91) (fr := (0, 0)) (heap_alloc_new w1.drew _)) H1.out Nat.one_pos HL1.out HL2.out (HBS.out _) (w1.heap.size + 1) (by simp) ?_; intro g6 cap6 w6 hown6 hg6 hat6 hlt6; obtain ⟨t6a, t6b, t6c, t6d, t6l⟩ := KG.out _ _ hg6))
  all_goals
   obtain ⟨W7, e7⟩ : ∃ W7, (w6.setCell ⟨R, 2, none⟩ (.slice (some ⟨g6, 0, none⟩) (n + 1) cap6)).setCell ⟨R, 3, none⟩ (.int .i64 3) = W7 := ⟨_, rfl⟩
   rw [e7]
   have hgr := rd_grow HM1.out HRR.out (by decide) hg6
   have hb6 := below_row HB1.out hB1 HRR.out hg6
   have hb7 : Below B w W7 := by rw [<- e7]; exact (hb6.setCell HM1.out.hR _).setCell HM1.out.hR _
   have hgR : g6 ≠ R := by
    rcases hat6 with e | e
    ·intro e2; exact own_neT HRR.out HM1.out.blk (by decide) (by rw [e, e2])
    ·omega
   have hset : ∀ b, b ≠ R -> W7.heap[b]? = w6.heap[b]? := fun b hb => by rw [<- e7]; exact (Below.heap_setCell _ _ _ _ hb).trans (Below.heap_setCell _ _ _ _ hb)
   have hbk : W7.heap[R]? = some (.cells #[rv, zv, .slice (some ⟨g6, 0, none⟩) (n + 1) cap6, .int .i64 3] 100 (0, 0)) := by
    have h1 := heap_setCell_same w6 R 2 _ _ (.slice (some ⟨g6, 0, none⟩) (n + 1) cap6) (hgr.2.1.trans HM1.out.blk)
    rw [<- e7, heap_setCell_same _ R 3 _ _ _ h1]; rfl
   have hown7 := own_keep (W' := W7) hown6 fun b e => hset b (by simp only [Value.ownBlock] at e; injection e with e; omega)
   have hrd := RdM.link (W7 := W7) (x := ⟨nm, tg⟩) (s := 3) HM1.out (fun b hb h1 h2 => (hset b h2).trans (hgr.1 b hb (by rw [EN.out] at h1; exact h1))) hbk (by rw [EN.out]; exact hown7)
   have HRD := qH hrd
   have HB7 := qH hb7
   have HSK : Hid (StrKeep w W7) := by
    show StrKeep w W7
    have hx6 := hgr.2.1.trans HM1.out.blk
    have h1 := heap_setCell_same w6 R 2 _ _ (.slice (some ⟨g6, 0, none⟩) (n + 1) cap6) hx6
    rw [<- e7]
    exact (((StrKeep.below HB1w.out).trans (StrKeep.row HRR.out (by decide) hg6)).trans (StrKeep.set hx6 (by decide) _ _)).trans (StrKeep.set h1 (by decide) _ _)
   clear hrd hb7 hb6 hown7 hset hbk hgr e7 t6a t6b t6c t6d t6l hown6 hg6 hat6 hlt6 hgR
   go_wp2_with fail
   go_ret
   exact ⟨rfl, HB7.out, HSK.out, fun st' e => by injection e with e; subst e; exact ⟨_, _, _, _, HRD.out⟩⟩
 rw [decide_eq_false hk]
 have hln : LN = none := by
  rw [<- HLN.out]
  unfold lineF
  rw [EWS.out, ESG.out, if_neg HR1.out, if_neg HR2.out, if_neg HR3.out, if_neg hk]
 subst hln
 clear hk
 go_wp2_with fail
 go_ret
 exact ⟨rfl, HB1.out, StrKeep.below HB1w.out, fun st' e => by cases e⟩
end Go.Proofs.YtomahddiclkepaaGreatDoor
