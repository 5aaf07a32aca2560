/- Part of the proof. -/
import Derived.Test.YtomahddiclkepaaGreatDoorQw00
import Derived.Test.YtomahddiclkepaaGreatDoorQw20
import Derived.Test.YtomahddiclkepaaGreatDoorQw17
import Derived.Test.YtomahddiclkepaaGreatDoorQw18
import Derived.Deep.DeepCutAuto
import Derived.Test.YtomahddiclkepaaGreatDoorQw16
import Derived.Test.YtomahddiclkepaaGreatDoorQw04
set_option maxHeartbeats 20000000
set_option maxRecDepth 1000000
set_option linter.unusedVariables false
set_option linter.unusedSimpArgs false
namespace Go.Proofs.YtomahddiclkepaaGreatDoor
open Go.RowKit Go.Joins
open Classical
theorem tab_eq {x y : Tab} : x = y ↔ x.types = y.types /\ x.first = y.first /\ x.chs = y.chs := by
 cases x; cases y; simp
theorem TableEq_any (a b : Tab) (v u : Value) (w : World) (hv : TabAt w v a) (hu : TabAt w u b) :
 Calls Tryz.prog 25 #[v, u] w fun e w' => e = .returned (.bool (decide (a = b))) /\ Below w.heap.size w w' := by
 obtain ⟨p1, c1, p2, c2, rfl⟩ := tabForms hv
 obtain ⟨p3, c3, p4, c4, rfl⟩ := tabForms hu
 obtain ⟨a1, a2, -⟩ := tabOf_slices hv
 obtain ⟨b1, b2, -⟩ := tabOf_slices hu
 obtain ⟨W0, eW⟩ : ∃ W0, (w.alloc (.cells #[.slice p1 a.types.length c1, .int .i64 a.first, .slice p2 a.chs.length c2] 58)).alloc (.cells #[.slice p3 b.types.length c3, .int .i64 b.first, .slice p4 b.chs.length c4] 58) = W0 := ⟨_, rfl⟩
 have hW0 : W0.heap.size = w.heap.size + 2 := by rw [<- eW]; simp
 have hbW : Below w.heap.size w W0 := by rw [<- eW]; exact ((Below.refl _ _).alloc (Nat.le_refl _) _).alloc (by simp) _
 have hX : W0.heap[w.heap.size]? = some (.cells #[.slice p1 a.types.length c1, .int .i64 a.first, .slice p2 a.chs.length c2] 58 (0, 0)) := by
  rw [<- eW, Below.heap_alloc _ _ _ (by simp)]; exact heap_alloc_new w _
 have hY : W0.heap[w.heap.size + 1]? = some (.cells #[.slice p3 b.types.length c3, .int .i64 b.first, .slice p4 b.chs.length c4] 58 (0, 0)) := by
  rw [<- eW]
  have := heap_alloc_new (w.alloc (.cells #[.slice p1 a.types.length c1, .int .i64 a.first, .slice p2 a.chs.length c2] 58)) (.cells #[.slice p3 b.types.length c3, .int .i64 b.first, .slice p4 b.chs.length c4] 58)
  simpa using this
 have HT := qH (EqTy_any a.types b.types _ _ W0 (a1.below hbW) (b1.below hbW))
 have w0 : W0.cell? ⟨w.heap.size, 0, none⟩ = some (.slice p1 a.types.length c1) := (cell_of_row W0 _ 0 _ _ _ hX).trans rfl
 have w1' : W0.cell? ⟨w.heap.size + 1, 0, none⟩ = some (.slice p3 b.types.length c3) := (cell_of_row W0 _ 0 _ _ _ hY).trans rfl
 have HX := qH hX
 have HY := qH hY
 have HBW := qH hbW
 have A2 := qH (a2.below hbW)
 have B2 := qH (b2.below hbW)
 obtain ⟨R, eR⟩ : ∃ R, decide (a = b) = R := ⟨_, rfl⟩
 rw [eR]
 have ER : Hid (R = (decide (a.types = b.types) && (decide (a.first = b.first) && decide (a.chs = b.chs)))) := by
  show _ = _
  rw [<- eR, Bool.eq_iff_iff]
  simp [tab_eq]
 obtain ⟨F, eF⟩ : ∃ F, (a.first == b.first) = F := ⟨_, rfl⟩
 have hF : decide (a.first = b.first) = F := by rw [<- eF]; rfl
 rw [hF] at ER
 obtain ⟨T, eT⟩ : ∃ T, decide (a.types = b.types) = T := ⟨_, rfl⟩
 rw [eT] at HT ER
 obtain ⟨C, eC⟩ : ∃ C, decide (a.chs = b.chs) = C := ⟨_, rfl⟩
 rw [eC] at ER
 have EC := qH eC
 clear hX hY hbW a1 a2 b1 b2 hv hu eR hF eT eC
 go_enter Tryz.func25, Tryz.ntmps25
 go_wp2_with fail
 refine HT.out.mono ?_
 rintro e w1 ⟨rfl, hb1⟩
 have hX1 := (hb1.block w.heap.size (by omega)).trans HX.out
 have hY1 := (hb1.block (w.heap.size + 1) (by omega)).trans HY.out
 have b1 := HBW.out.trans (hb1.mono (by omega))
 have x1 : w1.cell? ⟨w.heap.size, 1, none⟩ = some (.int .i64 a.first) := (cell_of_row w1 _ 1 _ _ _ hX1).trans rfl
 have x2 : w1.cell? ⟨w.heap.size, 2, none⟩ = some (.slice p2 a.chs.length c2) := (cell_of_row w1 _ 2 _ _ _ hX1).trans rfl
 have y1 : w1.cell? ⟨w.heap.size + 1, 1, none⟩ = some (.int .i64 b.first) := (cell_of_row w1 _ 1 _ _ _ hY1).trans rfl
 have y2 : w1.cell? ⟨w.heap.size + 1, 2, none⟩ = some (.slice p4 b.chs.length c4) := (cell_of_row w1 _ 2 _ _ _ hY1).trans rfl
 have HC := qH (EqCh_any a.chs b.chs _ _ w1 (A2.out.below hb1) (B2.out.below hb1))
 rw [EC.out] at HC
 clear hb1 hX1 hY1 eW
 cases T
 ·go_wp2
  go_ret
  exact ⟨ret_bool' (by rw [ER.out]; rfl), b1⟩
 ·cases F
  ·go_wp2
   go_ret
   exact ⟨ret_bool' (by rw [ER.out]; rfl), b1⟩
  ·go_wp2_with fail
   refine HC.out.mono ?_
   rintro e w2 ⟨rfl, hb2⟩
   go_wp2
   go_ret
   exact ⟨ret_bool' (by rw [ER.out]; rfl), b1.trans (hb2.mono b1.size)⟩
end Go.Proofs.YtomahddiclkepaaGreatDoor
namespace Go.Proofs.YtomahddiclkepaaGreatDoor
open Go.RowKit Go.Joins Go.Maps
open Classical
theorem mkT_small (b : Bk) (nm : ByteArray) (fr te : Int) : (mkT b nm fr te).2.first = 0 /\ (mkT b nm fr te).2.types.length <= 250 /\ (mkT b nm fr te).2.chs.length <= 1000 /\ (∀ x ∈ (mkT b nm fr te).2.types, x.name.size <= maxLen) /\ ∀ c ∈ (mkT b nm fr te).2.chs, -1099511627776 <= c.t /\ c.t <= 1099511627776 := by
 by_cases h : (mkT b nm fr te).1 = 0
 ·obtain ⟨z, hz, -, -, m⟩ := mkT_zero h
  refine ⟨?_, m.ok.many, m.ok.chs, fun x hx => ?_, fun c hc => ⟨(m.ok.ch c hc).1, (m.ok.ch c hc).2.1⟩⟩
  ·rw [m.eq]; rfl
  ·have := abbr_sizeT _ (m.ok.type x hx).2.2
   simp only [maxLen]; omega
 ·rw [mkT_bad h]
  exact ⟨rfl, by decide, by decide, (fun x hx => by cases hx), (fun c hc => by cases hc)⟩
def TbV (R : Int × Tab) (w : World) (e : Ending) (w' : World) : Prop := ∃ p1 c1 p2 c2, e = .returned (.tuple #[.agg #[.slice p1 R.2.types.length c1, .int .i64 0, .slice p2 R.2.chs.length c2], .int .i64 R.1]) /\ TabAt w' (.agg #[.slice p1 R.2.types.length c1, .int .i64 0, .slice p2 R.2.chs.length c2]) R.2 /\ Below w.heap.size w w'
theorem Make_tab (MK : MakeSays) (b : Bk) (rv zv lv : Value) (nm : ByteArray) (fr te : Int) (w : World) (hB : BookAt w.heap.size w rv zv lv b) (hn : nm.size <= 140737488351232) (hf1 : -4611686018427387904 <= fr) (hf2 : fr <= 4611686018427387904) (ht1 : -4611686018427387904 <= te) (ht2 : te <= 4611686018427387904) (hm : MaxLen w) (ht : Tab10 w) :
 Calls Tryz.prog 24 #[.agg #[rv, zv, lv], .string nm, .agg #[.int .i64 fr, .int .i64 te]] w (TbV (mkT b nm fr te) w) := by
 refine (MakeT_any MK b rv zv lv nm fr te w hB hn hf1 hf2 ht1 ht2 hm ht).mono ?_
 rintro e w' ⟨sv, cv, rfl, hs, hc, hb⟩
 obtain ⟨f0, f1, f2, f3, -⟩ := mkT_small b nm fr te
 have h1 := own_types hs (by omega) f3
 have h2 := own_chs hc (by omega)
 obtain ⟨p1, c1, rfl⟩ := own_sliceN hs
 obtain ⟨p2, c2, rfl⟩ := own_sliceN hc
 exact ⟨p1, c1, p2, c2, rfl, ⟨_, _, by rw [f0], h1, h2⟩, hb⟩
section
variable {W W' w : World} {B c1 c2 : Nat} {p1 p2 : Option Addr} {t : Tab}
end
theorem alBelow (w : World) (o : Obj) : Below w.heap.size w (w.alloc o) := (Below.refl _ _).alloc (Nat.le_refl _) _
theorem zTab_at (w : World) : TabAt w (.agg #[.slice none 0 0, .int .i64 0, .slice none 0 0]) zTab := zero_atN w
structure BkBox (w W0 : World) (p1 p2 p3 : Option Addr) (c1 c2 c3 : Nat) (b : Bk) : Prop where
 hB : BookAt w.heap.size w (.slice p1 b.rules.length c1) (.slice p2 b.zones.length c2) (.slice p3 b.links.length c3) b
 hb : Below w.heap.size w W0
 hx : W0.heap[w.heap.size]? = some (.cells #[.slice p1 b.rules.length c1, .slice p2 b.zones.length c2, .slice p3 b.links.length c3] 26 (0, 0))
 hm : MaxLen w
 ht : Tab10 w
section
variable {w W0 W : World} {p1 p2 p3 : Option Addr} {c1 c2 c3 : Nat} {b : Bk}
theorem BkBox.lt (h : BkBox w W0 p1 p2 p3 c1 c2 c3 b) : w.heap.size < W0.heap.size := (Array.getElem?_eq_some_iff.mp h.hx).1
theorem BkBox.cells (h : BkBox w W0 p1 p2 p3 c1 c2 c3 b) (hb : Below W0.heap.size W0 W) : W.cell? ⟨w.heap.size, 0, none⟩ = some (.slice p1 b.rules.length c1) /\ W.cell? ⟨w.heap.size, 1, none⟩ = some (.slice p2 b.zones.length c2) /\ W.cell? ⟨w.heap.size, 2, none⟩ = some (.slice p3 b.links.length c3) := by
 have hx := (hb.block w.heap.size h.lt).trans h.hx
 exact ⟨(cell_of_row W _ 0 _ _ _ hx).trans rfl, (cell_of_row W _ 1 _ _ _ hx).trans rfl, (cell_of_row W _ 2 _ _ _ hx).trans rfl⟩
theorem BkBox.make (h : BkBox w W0 p1 p2 p3 c1 c2 c3 b) (MK : MakeSays) (nm : ByteArray) (hn : nm.size <= 140737488351232) (fr te : Int) (hb : Below W0.heap.size W0 W) (hf1 : -4611686018427387904 <= fr) (hf2 : fr <= 4611686018427387904) (ht1 : -4611686018427387904 <= te) (ht2 : te <= 4611686018427387904) :
 Calls Tryz.prog 24 #[.agg #[.slice p1 b.rules.length c1, .slice p2 b.zones.length c2, .slice p3 b.links.length c3], .string nm, .agg #[.int .i64 fr, .int .i64 te]] W (TbV (mkT b nm fr te) W) :=
 have hw : Below w.heap.size w W := h.hb.trans (hb.mono h.hb.size)
 Make_tab MK b _ _ _ nm fr te W ((h.hB.below hw (Nat.le_refl _)).baseN hw.size) hn hf1 hf2 ht1 ht2 (h.hm.below hw) (h.ht.below hw)
theorem BkBox.at (h : BkBox w W0 p1 p2 p3 c1 c2 c3 b) (MK : MakeSays) (nm : ByteArray) (hn : nm.size <= 140737488351232) (t : Int) (hb : Below W0.heap.size W0 W) (h1 : -4611686018427387904 <= t) (h2 : t <= 4611686018427387904) :
 Calls Tryz.prog 18 #[.agg #[.slice p1 b.rules.length c1, .slice p2 b.zones.length c2, .slice p3 b.links.length c3], .string nm, .int .i64 t] W (StPost (stR b nm t) W) :=
 have hw : Below w.heap.size w W := h.hb.trans (hb.mono h.hb.size)
 StAt_any MK b _ _ _ nm t W ((h.hB.below hw (Nat.le_refl _)).baseN hw.size) hn (by omega) (by omega) (h.hm.below hw) (h.ht.below hw)
end
theorem bk_box {w : World} {rv zv lv : Value} {b : Bk} (hB : BookAt w.heap.size w rv zv lv b) (hm : MaxLen w) (ht : Tab10 w) : ∃ p1 c1 p2 c2 p3 c3 W0, rv = .slice p1 b.rules.length c1 /\ zv = .slice p2 b.zones.length c2 /\ lv = .slice p3 b.links.length c3 /\ w.alloc (.cells #[.slice p1 b.rules.length c1, .slice p2 b.zones.length c2, .slice p3 b.links.length c3] 26) = W0 /\ BkBox w W0 p1 p2 p3 c1 c2 c3 b := by
 have hB' := hB
 obtain ⟨p1, c1, rfl, -, -⟩ := hB'.r
 obtain ⟨p2, c2, rfl, -, -⟩ := hB'.z
 obtain ⟨p3, c3, rfl, -, -⟩ := hB'.l
 exact ⟨p1, c1, p2, c2, p3, c3, _, rfl, rfl, rfl, rfl, hB, alBelow _ _, heap_alloc_new w _, hm, ht⟩
theorem sp_box {w W : World} {x y : Int} (e : w.alloc (.cells #[.int .i64 x, .int .i64 y] 68) = W) : Below w.heap.size w W /\ w.heap.size < W.heap.size /\ ∀ W', Below W.heap.size W W' -> W'.cell? ⟨w.heap.size, 0, none⟩ = some (.int .i64 x) /\ W'.cell? ⟨w.heap.size, 1, none⟩ = some (.int .i64 y) := by
 subst e
 refine ⟨alBelow _ _, by simp, fun W' hb => ?_⟩
 have hx := (hb.block w.heap.size (by simp)).trans (heap_alloc_new w _)
 exact ⟨(cell_of_row W' _ 0 _ _ _ hx).trans rfl, (cell_of_row W' _ 1 _ _ _ hx).trans rfl⟩
end Go.Proofs.YtomahddiclkepaaGreatDoor
namespace Go.Proofs.YtomahddiclkepaaGreatDoor
open Go.RowKit Go.Joins Go.Maps
open Classical
theorem one_post {nm : ByteArray} {L : List Er} {sg : Int} {w w' : World} {e : Ending} (h : PsPost (⟨[], [(nm, L)], [], sg⟩, 0, 0) w e w') : Below w.heap.size w w' /\ ∃ p1 c1 p2 c2 p3 c3 ev, e = .returned (.tuple #[.agg #[.slice p1 0 c1, .slice p2 1 c2, .slice p3 0 c3], .int .i64 0, .int .i64 0]) /\ BookAt w'.heap.size w' (.slice p1 0 c1) (.slice p2 1 c2) (.slice p3 0 c3) (oneB [] nm ev L) := by
 obtain ⟨hb, rv, zv, lv, evs, rfl, hel, hbk⟩ := h
 obtain ⟨ev, rfl⟩ : ∃ ev, evs = [ev] := by
  cases evs with
  | nil => simp at hel
  | cons x r =>
   cases r with
   | nil => exact ⟨x, rfl⟩
   | cons y r => simp at hel
 obtain ⟨p1, c1, e1, -, -⟩ := hbk.r
 obtain ⟨p2, c2, e2, -, -⟩ := hbk.z
 obtain ⟨p3, c3, e3, -, -⟩ := hbk.l
 subst e1; subst e2; subst e3
 exact ⟨hb, p1, c1, p2, c2, p3, c3, ev, rfl, hbk⟩
theorem wk_tab {w w' : World} {e : Ending} (h : TbV (0, wkT) w e w') : Below w.heap.size w w' /\ ∃ p1 c1 bb o c2, e = .returned (.tuple #[.agg #[.slice p1 2 c1, .int .i64 0, .slice (some ⟨bb, o, none⟩) 1 c2], .int .i64 0]) /\ bb < w'.heap.size /\ w'.cell? ⟨bb, o, none⟩ = some (.int .i64 0) := by
 obtain ⟨p1, c1, p2, c2, rfl, htb, hb⟩ := h
 obtain ⟨W1, e1⟩ : ∃ W1, w'.alloc (.cells #[.slice p1 wkT.types.length c1, .int .i64 0, .slice p2 wkT.chs.length c2] 58) = W1 := ⟨_, rfl⟩
 obtain ⟨sv, cv, e, -, h2⟩ := htb.val
 obtain ⟨p, cap, e2, h3⟩ := h2.shape
 simp only [Value.agg.injEq, Array.mk.injEq, List.cons.injEq, and_true] at e
 obtain ⟨-, -, e3⟩ := e
 rw [e2, Value.slice.injEq] at e3
 obtain ⟨bb, o, rfl, hbb, hc⟩ := h3 (by intro h; cases h)
 obtain ⟨e4, -, -⟩ := e3
 subst e4
 have h0 := (hc 0 (by show 0 < 1; decide)).1
 rw [Nat.zero_mul, Nat.add_zero] at h0
 exact ⟨hb, p1, c1, bb, o, c2, rfl, hbb, h0⟩
theorem works_any (MK : MakeSays) (w : World) (ht : Tab10 w) (ha : AscTab w) (he : NumErrs w) (hm : MaxLen w) :
 Calls Tryz.prog 13 #[] w fun e w' => e = .returned (.bool true) /\ Below w.heap.size w w' := by
 obtain ⟨sg, hpf⟩ := wk_parse w ht ha he hm
 have hp := bookParse_any wkL w (by decide) ht ha he hm
 rw [hpf] at hp
 have HP : Hid (Calls Tryz.prog 11 #[.string ⟨#[122, 111, 110, 101, 32, 65, 10, 101, 114, 97, 32, 49, 58, 48, 48, 32, 45, 48, 58, 48, 48, 32, 67, 69, 84, 32, 49, 57, 55, 48, 45, 48, 49, 45, 48, 49, 84, 48, 48, 58, 48, 48, 58, 48, 48, 10, 101, 114, 97, 32, 48, 58, 48, 48, 32, 45, 48, 58, 48, 48, 32, 71, 77, 84]⟩] w (PsPost (⟨[], [(wkA, bErs wkT)], [], sg⟩, 0, 0) w)) := hp
 have HM := qH hm
 have HT := qH ht
 clear hp ht ha he hm hpf
 go_enter Tryz.func13, Tryz.ntmps13
 go_wp2_with fail
 refine HP.out.mono ?_
 intro e w1 hpost
 obtain ⟨hb1, p1, c1, p2, c2, p3, c3, ev, rfl, hbk⟩ := one_post hpost
 obtain ⟨W2, e2⟩ : ∃ W2, w1.alloc (.cells #[.slice p1 0 c1, .slice p2 1 c2, .slice p3 0 c3] 26) = W2 := ⟨_, rfl⟩
 have hb2 : Below w1.heap.size w1 W2 := by rw [<- e2]; exact alBelow _ _
 have hx2 : W2.heap[w1.heap.size]? = some (.cells #[.slice p1 0 c1, .slice p2 1 c2, .slice p3 0 c3] 26 (0, 0)) := by rw [<- e2]; exact heap_alloc_new w1 _
 have y0 : W2.cell? ⟨w1.heap.size, 0, none⟩ = some (.slice p1 0 c1) := (cell_of_row W2 _ 0 _ _ _ hx2).trans rfl
 have y1 : W2.cell? ⟨w1.heap.size, 1, none⟩ = some (.slice p2 1 c2) := (cell_of_row W2 _ 1 _ _ _ hx2).trans rfl
 have y2 : W2.cell? ⟨w1.heap.size, 2, none⟩ = some (.slice p3 0 c3) := (cell_of_row W2 _ 2 _ _ _ hx2).trans rfl
 have HB2 := qH (hb1.trans (hb2.mono hb1.size))
 have hbk2 := (hbk.below hb2 (Nat.le_refl _)).baseN hb2.size
 have hmk := Make_tab MK _ _ _ _ wkA (-5) 5 W2 hbk2 (by decide) (by decide) (by decide) (by decide) (by decide) (HM.out.below HB2.out) (HT.out.below HB2.out)
 rw [wk_made ev] at hmk
 have HMK : Hid (Calls Tryz.prog 24 #[.agg #[.slice p1 0 c1, .slice p2 1 c2, .slice p3 0 c3], .string ⟨#[65]⟩, .agg #[.int .i64 (-5), .int .i64 5]] W2 (TbV (0, wkT) W2)) := hmk
 have HE2 := qH e2
 clear hb1 hpost hb2 hx2 e2 HP hbk hbk2 hmk
 go_upto_region 2 with fail
 rw [HE2.out]
 go_wp2_with fail
 refine HMK.out.mono ?_
 intro e w3 hpost
 obtain ⟨hb3, q1, d1, bb, o, d2, rfl, hbb, hc⟩ := wk_tab hpost
 obtain ⟨W4, e4⟩ : ∃ W4, w3.alloc (.cells #[.slice q1 2 d1, .int .i64 0, .slice (some ⟨bb, o, none⟩) 1 d2] 58) = W4 := ⟨_, rfl⟩
 have hb4 : Below w3.heap.size w3 W4 := by rw [<- e4]; exact alBelow _ _
 have hx4 : W4.heap[w3.heap.size]? = some (.cells #[.slice q1 2 d1, .int .i64 0, .slice (some ⟨bb, o, none⟩) 1 d2] 58 (0, 0)) := by rw [<- e4]; exact heap_alloc_new w3 _
 have z2 : W4.cell? ⟨w3.heap.size, 2, none⟩ = some (.slice (some ⟨bb, o, none⟩) 1 d2) := (cell_of_row W4 _ 2 _ _ _ hx4).trans rfl
 have zc : W4.cell? ⟨bb, o, none⟩ = some (.int .i64 0) := (hb4.cell (p := ⟨bb, o, none⟩) hbb).trans hc
 have HB4 := qH (HB2.out.trans ((hb3.trans (hb4.mono hb3.size)).mono HB2.out.size))
 have HE4 := qH e4
 clear hb3 hpost hb4 hx4 e4 HMK hc y0 y1 y2
 go_upto_region 3 with fail
 rw [HE4.out]
 go_wp2_with fail
 go_ret
 exact ⟨rfl, HB4.out⟩
def sF (a : Int) : Int := a % 25056000000 + 86400 * (-135140)
def sE (a b : Int) : Int := sF a + 1 + b % 70000000
theorem s_bd (a b : Int) : -11676096000 <= sF a /\ sF a < sE a b /\ sE a b <= 13449904000 := by
 unfold sE sF
 have := Int.emod_nonneg a (show (25056000000 : Int) ≠ 0 by decide)
 have := Int.emod_lt_of_pos a (show (0 : Int) < 25056000000 by decide)
 have := Int.emod_nonneg b (show (70000000 : Int) ≠ 0 by decide)
 have := Int.emod_lt_of_pos b (show (0 : Int) < 70000000 by decide)
 omega
theorem s_stamp (a b : Int) : stampE (sF a) = 0 /\ stampE (sE a b) = 0 := by
 have := s_bd a b
 unfold stampE
 rw [if_pos (by omega), if_pos (by omega)]
 exact ⟨rfl, rfl⟩
theorem d1600 : Civ.days 1600 1 1 = -135140 := by decide +kernel
theorem spanT_any (a b : Int) (w : World) :
 Calls Tryz.prog 23 #[.int .i64 a, .int .i64 b] w fun e w' => e = .returned (.agg #[.int .i64 (sF a), .int .i64 (sE a b)]) /\ Below w.heap.size w w' := by
 obtain ⟨W0, eW⟩ : ∃ W0, w.alloc (.cells #[.int .i64 0, .int .i64 0] 68) = W0 := ⟨_, rfl⟩
 have hb0 : Below w.heap.size w W0 := by rw [<- eW]; exact alBelow _ _
 have hz0 : W0.heap.size = w.heap.size + 1 := by rw [<- eW]; simp
 have hrx : W0.heap[w.heap.size]? = some (.cells #[.int .i64 0, .int .i64 0] 68 (0, 0)) := by rw [<- eW]; exact heap_alloc_new w _
 have HEW := qH eW
 have HB0 := qH hb0
 have HRX := qH hrx
 have HDY := qH (RDays_any 1600 1 1 W0 (by unfold Civ.valid; decide))
 rw [d1600] at HDY
 have h1 := Int.emod_nonneg a (show (25056000000 : Int) ≠ 0 by decide)
 have h2 := Int.emod_lt_of_pos a (show (0 : Int) < 25056000000 by decide)
 have h3 := Int.emod_nonneg b (show (70000000 : Int) ≠ 0 by decide)
 have h4 := Int.emod_lt_of_pos b (show (0 : Int) < 70000000 by decide)
 have HR1 := qH (fun W => Rest0_any a 25056000000 W (by decide) (by decide))
 have HR2 := qH (fun W => Rest0_any b 70000000 W (by decide) (by decide))
 have HS1 : Hid (sF a = a % 25056000000 + 86400 * (-135140)) := rfl
 have HS2 : Hid (sE a b = sF a + 1 + b % 70000000) := rfl
 generalize sE a b = S2 at *
 generalize sF a = S1 at *
 generalize a % 25056000000 = A at *
 generalize b % 70000000 = B at *
 have hw0 : IntKind.i64.wrap (86400 * (-135140)) = -11676096000 := by decide
 have hw1 : IntKind.i64.wrap (A + -11676096000) = S1 := by rw [IntWalk.i64_in _ (by omega), HS1.out]; omega
 have hw2 : IntKind.i64.wrap (S1 + 1) = S1 + 1 := IntWalk.i64_in _ (by rw [HS1.out]; omega)
 have hw3 : IntKind.i64.wrap (S1 + 1 + B) = S2 := by rw [HS2.out]; exact IntWalk.i64_in _ (by rw [HS1.out]; omega)
 clear eW hb0 hrx
 go_enter Tryz.func23, Tryz.ntmps23
 go_upto_region 1 with fail
 rw [HEW.out]
 go_wp2_with fail
 refine HDY.out.mono ?_
 rintro e w1 ⟨rfl, hb1⟩
 go_wp2_with fail
 refine (HR1.out w1).mono ?_
 rintro e w' ⟨rfl, rfl⟩
 go_upto_region 3 with fail
 obtain ⟨sb, esb⟩ : ∃ sb, w1.heap.size = sb := ⟨_, rfl⟩
 obtain ⟨w2, e2⟩ : ∃ w2, w1.alloc (.cells #[.int .i64 S1, .int .i64 0] 68) = w2 := ⟨_, rfl⟩
 have hb2 : Below w1.heap.size w1 w2 := by rw [<- e2]; exact alBelow _ _
 have hx2 : w2.heap[sb]? = some (.cells #[.int .i64 S1, .int .i64 0] 68 (0, 0)) := by rw [<- e2]; exact alloc_at _ _ _ esb.symm
 have hs2 : sb < w2.heap.size := (Array.getElem?_eq_some_iff.mp hx2).1
 have hs1 : W0.heap.size <= sb := by have := hb1.size; omega
 have HB2 := qH (hb1.trans (hb2.mono hb1.size))
 have HX2 := qH hx2
 rw [esb, e2]
 have s0 : w2.cell? ⟨sb, 0, none⟩ = some (.int .i64 S1) := (cell_of_row w2 _ 0 _ _ _ hx2).trans rfl
 have f1 : w2.frozen? ⟨sb, 1, none⟩ = false := by simp [World.frozen?, hx2]
 have f1d : w2.drew.frozen? ⟨sb, 1, none⟩ = false := f1
 have f0d : w2.drew.frozen? ⟨sb, 0, none⟩ = false := by show w2.frozen? _ = false; simp [World.frozen?, hx2]
 have s0d : w2.drew.cell? ⟨sb, 0, none⟩ = some (.int .i64 S1) := s0
 have s1d : w2.drew.cell? ⟨sb, 1, none⟩ = some (.int .i64 0) := (cell_of_row w2 _ 1 _ _ _ hx2).trans rfl
 have s1 : w2.cell? ⟨sb, 1, none⟩ = some (.int .i64 0) := s1d
 clear hb1 hb2 e2 esb hx2 HR1
 go_region_law (first
  | (go_simp; go_at_call 14; refine (HR2.out _).mono ?_; rintro e w' ⟨rfl, rfl⟩))
 all_goals
  obtain ⟨w5, e5, hh5, hb5⟩ := set_oneS HX2.out (.int .i64 S2)
  rw [e5]
  obtain ⟨w6, e6⟩ : ∃ w6, w5.drew = w6 := ⟨_, rfl⟩
  rw [e6]
  have hB5 : Below W0.heap.size W0 w6 := by rw [<- e6]; exact (HB2.out.trans (hb5 _ hs1)).drew
  have hr5 : w6.heap[w.heap.size]? = _ := (hB5.block w.heap.size (by omega)).trans HRX.out
  have hh5d : w6.heap[sb]? = some (.cells #[.int .i64 S1, .int .i64 S2] 68 (0, 0)) := by rw [<- e6]; exact hh5
  have t0 : w6.cell? ⟨sb, 0, none⟩ = some (.int .i64 S1) := (cell_of_row _ _ 0 _ _ _ hh5d).trans rfl
  have t1 : w6.cell? ⟨sb, 1, none⟩ = some (.int .i64 S2) := (cell_of_row _ _ 1 _ _ _ hh5d).trans rfl
  have r0 : w6.cell? ⟨w.heap.size, 0, none⟩ = some (.int .i64 0) := (cell_of_row _ _ 0 _ _ _ hr5).trans rfl
  have r1 : w6.cell? ⟨w.heap.size, 1, none⟩ = some (.int .i64 0) := (cell_of_row _ _ 1 _ _ _ hr5).trans rfl
  have f0 : w6.frozen? ⟨w.heap.size, 0, none⟩ = false := by simp [World.frozen?, hr5]
  have f1 : w6.frozen? ⟨w.heap.size, 1, none⟩ = false := by simp [World.frozen?, hr5]
  obtain ⟨w9, e9, hh9, hb9⟩ := end_twoS hr5 (.int .i64 S1) (.int .i64 S2)
  have v0 : w9.cell? ⟨w.heap.size, 0, none⟩ = some (.int .i64 S1) := (cell_of_row w9 _ 0 _ _ _ hh9).trans rfl
  have v1 : w9.cell? ⟨w.heap.size, 1, none⟩ = some (.int .i64 S2) := (cell_of_row w9 _ 1 _ _ _ hh9).trans rfl
  have hP : Below w.heap.size w w9 := (HB0.out.trans (hB5.mono HB0.out.size)).trans (hb9 _ (Nat.le_refl _))
  clear e6 hh5 hh5d hb5 hB5 hr5 e5 s0 s1 s0d s1d hh9 hb9 f1d f0d
  go_wp2_with fail
  try rw [e9]
  exact bodyPost_ret (v := .agg #[.int .i64 S1, .int .i64 S2]) (by simp [results, Tryz.results23, go_sem, v0, v1]) rfl ⟨rfl, hP⟩
end Go.Proofs.YtomahddiclkepaaGreatDoor
namespace Go.Proofs.YtomahddiclkepaaGreatDoor.BB
open Go.RowKit Go.Joins
open Classical
theorem bk_no {t : Tab} {nm : ByteArray} {w w' : World} {c : Int} (h : backC t nm = c) (hc : c ≠ 0) (hb : Below w.heap.size w w') : BkPost t nm w (.returned (.tuple #[bkNone, .int .i64 c])) w' :=
 ⟨hb, Or.inl ⟨by rw [h]; exact hc, by rw [h]⟩⟩
theorem undErB : Tryz.prog.underlying 44 = some (.slice 43) := by kernel_rfl
theorem infoErB : (Tryz.prog.info? 43).map (fun i => (i.zero, i.size, i.bytes)) = some (some (.agg #[.int .i64 0, .string ⟨#[]⟩, .int .i64 0, .string ⟨#[]⟩, .int .i64 0]), 5, 56) := by kernel_rfl
structure Vz (W : World) (U : Nat) (nm : ByteArray) (cv : Value) (L : List Er) : Prop where
 blk : W.heap[U]? = some (.cells #[.string nm, cv] 46 (0, 0))
 row : W.ownsRow U 43 5 cv L.length (erCells L)
section
variable {W W' : World} {U : Nat} {nm : ByteArray} {cv : Value} {L : List Er}
theorem Vz.lt (h : Vz W U nm cv L) : U < W.heap.size := (Array.getElem?_eq_some_iff.mp h.blk).1
theorem Vz.ne (h : Vz W U nm cv L) : cv.ownBlock ≠ some U := by
 rcases h.row.2 with ⟨e, _⟩ | ⟨g, cap, cur, e, _, hg, _⟩
 ·rw [e]; simp [Value.ownBlock]
 ·rw [e]
  simp only [Value.ownBlock]
  intro e2
  injection e2 with e2
  subst e2
  rw [h.blk] at hg
  injection hg with hg
  injection hg with _ h2 _
  exact absurd h2 (by decide)
theorem Vz.keep (h : Vz W U nm cv L) (hk : ∀ b, b < W.heap.size -> W'.heap[b]? = W.heap[b]?) : Vz W' U nm cv L :=
 ⟨(hk _ h.lt).trans h.blk, own_keep h.row fun g e => hk g (World.ownsRow.lt h.row g e).2⟩
theorem Vz.below (h : Vz W U nm cv L) (hb : Below W.heap.size W W') : Vz W' U nm cv L := h.keep fun b hlt => hb.block b hlt
theorem Vz.cells (h : Vz W U nm cv L) : W.cell? ⟨U, 0, none⟩ = some (.string nm) /\ W.cell? ⟨U, 1, none⟩ = some cv /\ (∀ o, W.frozen? ⟨U, o, none⟩ = false) :=
 ⟨(cell_of_row W _ 0 _ _ _ h.blk).trans rfl, (cell_of_row W _ 1 _ _ _ h.blk).trans rfl, fun o => by simp [World.frozen?, h.blk]⟩
end
theorem vz_old {W w6 : World} {U : Nat} {nm : ByteArray} {A : Option Addr} {cS : Nat} {L : List Er} {o : Obj} (h : Vz W U nm (.slice A L.length cS) L) (hg : (W.alloc o).grownBy w6 (Value.slice A L.length cS).ownBlock) :
 w6.heap[U]? = some (.cells #[.string nm, .slice A L.length cS] 46 (0, 0)) := by
 have := h.lt
 exact ((hg.block U (by simp; omega) (fun e => h.ne e.symm)).trans (Below.heap_alloc _ _ _ this)).trans h.blk
theorem vz_snoc {W w6 : World} {U : Nat} {nm : ByteArray} {A : Option Addr} {cS : Nat} {v' : Value} {L : List Er} {x : Er} {o : Obj} (h : Vz W U nm (.slice A L.length cS) L)
 (hown : w6.ownsRow U 43 5 v' (L.length + 1) (erCells L ++ erC x))
 (hg : (W.alloc o).grownBy w6 (Value.slice A L.length cS).ownBlock) (y6 : w6.heap[U]? = some (.cells #[.string nm, .slice A L.length cS] 46 (0, 0))) :
 Vz (w6.setCell ⟨U, 1, none⟩ v') U nm v' (L ++ [x]) /\ Below U W (w6.setCell ⟨U, 1, none⟩ v') := by
 have hne : v'.ownBlock ≠ some U := by
  rcases hown.2 with ⟨e, _⟩ | ⟨g, cap, cur, e, _, hg, _⟩
  ·rw [e]; simp [Value.ownBlock]
  ·rw [e]
   simp only [Value.ownBlock]
   intro e2
   injection e2 with e2
   subst e2
   rw [y6] at hg
   injection hg with hg
   injection hg with _ h2 _
   exact absurd h2 (by decide)
 have hlt := h.lt
 refine ⟨⟨(heap_setCB y6 _).trans rfl, ?_⟩, ?_⟩
 ·rw [erCells_snoc, List.length_append]
  exact own_keep hown fun g e => Below.heap_setCell _ _ _ _ (by show g ≠ U; exact fun e2 => hne (by rw [e, e2]))
 ·exact (((Below.refl U W).alloc (by omega) _).grown hg (by simp; omega) (fun g e => (World.ownsRow.lt h.row g e).1)).setCell (Nat.le_refl _) _
theorem seg_in {N : Tab} (ok : OkTab N) (i : Nat) (hi : i <= N.chs.length) : 0 <= segK N i /\ segK N i < N.types.length := by
 unfold segK
 split
 ·exact ok.first
 ·have h : i - 1 < N.chs.length := by omega
  have := ok.ch N.chs[i - 1] (List.getElem_mem h)
  unfold kAt
  rw [List.getElem?_eq_getElem h]
  simp only [Option.map_some, Option.getD_some]
  omega
theorem Book_any (t : Tab) (v : Value) (nm : ByteArray) (w : World) (hv : TabAt w v t) (hs : nm.size <= maxLen) (ht : Tab10 w) :
 Calls Tryz.prog 28 #[v, .string nm] w (BkPost t nm w) := by
 obtain ⟨p1, c1, p2, c2, rfl⟩ := tabForms hv
 obtain ⟨W0, eW⟩ : ∃ W0, (w.alloc (.cells #[.slice p1 t.types.length c1, .int .i64 t.first, .slice p2 t.chs.length c2] 58)).alloc (.cells #[.slice none 0 0, .slice none 0 0, .slice none 0 0] 26) = W0 := ⟨_, rfl⟩
 obtain ⟨hz, g0, g1, hb0⟩ := two_alB eW
 have HM : Hid (BkM w W0 p1 c1 p2 c2 t) := by show BkM _ _ _ _ _ _ _; exact ⟨g0, g1, hv.below hb0, hb0⟩
 have HEW := qH eW
 have HT := qH ht
 have HC := qH (fun W v (hb : TabAt W v t) => Check_any t v W hb)
 obtain ⟨C, eC⟩ : ∃ C, chk t = C := ⟨_, rfl⟩
 rw [eC] at HC
 have EC := qH eC
 have HNM := qH (fun W => isName_any nm W hs)
 obtain ⟨B, eB⟩ : ∃ B, nameB nm = B := ⟨_, rfl⟩
 rw [eB] at HNM
 have EB := qH eB
 obtain ⟨x0, x1, x2, xf0, xf1, xf2, hl0⟩ := HM.out.cells
 clear eW g0 g1 hb0 hv eC eB hs ht hz
 go_enter Tryz.func28, Tryz.ntmps28
 go_wp2_with fail
 rw [HEW.out]
 refine (HC.out _ _ HM.out.tb).mono ?_
 rintro e w1 ⟨rfl, hb1⟩
 have HM1 := qH (HM.out.go hb1)
 clear hb1 HM x0 x1 x2 xf0 xf1 xf2 hl0
 obtain ⟨x0, x1, x2, xf0, xf1, xf2, hl1⟩ := HM1.out.cells
 obtain ⟨z0, z1, z2, zf0, zf1, zf2⟩ := HM1.out.zero
 have hr1 := HM1.out.lt
 by_cases hc : C = 0
 ·subst hc
  cases B with
  | false =>
   go_wp2_with fail
   refine (HNM.out _).mono ?_
   rintro e w' ⟨rfl, rfl⟩
   go_wp2
   obtain ⟨W9, e9, hb9, v0, v1, v2, -⟩ := HM1.out.out (.slice none 0 0) (.slice none 0 0) (.slice none 0 0)
   rw [e9]
   refine bodyPost_ret (v := .tuple #[bkNone, .int .i64 3]) (by simp [results, Tryz.results28, go_sem, v0, v1, v2]) rfl (bk_no ?_ (by decide) hb9)
   unfold backC
   rw [if_neg (by rw [EC.out]; simp), if_pos EB.out]
  | true =>
   have ok := chk_ok t EC.out
   have OK := qH ok
   have nok := norm_ok t ok
   have NOK := qH nok
   have HN := qH (fun W v (hb : TabAt W v t) => NOf_any t v W hb ok)
   have HP : Hid (∀ r : Int, (if 700 <= (normT t).chs.length then 2 else if (∃ c ∈ (normT t).chs, okSB c.t = false) then 1 else if (∃ i, i <= (normT t).chs.length /\ erOk (segT (normT t) i) = false) then 1 else 0) = r -> backC t nm = r) := by
    show ∀ r : Int, _ -> _
    intro r h
    unfold backC
    rw [if_neg (by rw [EC.out]; simp), if_neg (by rw [EB.out]; simp)]
    exact h
   obtain ⟨N, eN⟩ : ∃ N, normT t = N := ⟨_, rfl⟩
   rw [eN] at HN HP NOK
   have HPO : Hid (∀ e w', BkPost t nm w e w' ↔ Below w.heap.size w w' /\ ((backC t nm ≠ 0 /\ e = .returned (.tuple #[bkNone, .int .i64 (backC t nm)])) \/ (backC t nm = 0 /\ ∃ Z cz p ce, e = .returned (.tuple #[bkV Z cz, .int .i64 0]) /\ BkAt w' Z cz p ce nm (ersOf N)))) := by
    show ∀ e w', _ ↔ _
    intro e w'
    unfold BkPost
    rw [eN]
   clear ok nok eN
   go_wp2_with fail
   refine (HNM.out _).mono ?_
   rintro e w' ⟨rfl, rfl⟩
   go_wp2_with fail
   refine (HN.out _ _ HM1.out.tb).mono ?_
   rintro e w2 ⟨v2, rfl, hv2, hb2⟩
   obtain ⟨q1, d1, q2, d2, rfl⟩ := tabForms hv2
   have HM2 := qH (HM1.out.go hb2)
   have HV2 := qH hv2
   clear hb2 hv2 HM1 x0 x1 x2 xf0 xf1 xf2 hl1 z0 z1 z2 zf0 zf1 zf2 hr1
   obtain ⟨x0, x1, x2, xf0, xf1, xf2, hl2⟩ := HM2.out.cells
   go_upto_region 7 with fail
   obtain ⟨W3, e3, hB3, hh3, ho3⟩ := end_cells3 HM2.out.px (.slice q1 N.types.length d1) (.int .i64 N.first) (.slice q2 N.chs.length d2)
   rw [e3]
   have hsz3 : w2.heap.size <= W3.heap.size := (hB3 0 (Nat.zero_le _)).size
   have HM3 : Hid (BkM w W3 q1 d1 q2 d2 N) := by
    show BkM _ _ _ _ _ _ _
    exact ⟨hh3, (ho3 _ (by omega)).trans HM2.out.r, tab_far HV2.out HM2.out.px ho3 hsz3, HM2.out.b.trans (hB3 _ (Nat.le_refl _))⟩
   clear e3 hB3 hh3 ho3 HM2 HV2 x0 x1 x2 xf0 xf1 xf2 hl2 hsz3
   obtain ⟨x0, x1, x2, xf0, xf1, xf2, hl3⟩ := HM3.out.cells
   have hr3 := HM3.out.lt
   by_cases h7 : 700 <= N.chs.length
   ·obtain ⟨z0, z1, z2, zf0, zf1, zf2⟩ := HM3.out.zero
    have H7 := qH h7
    have h7' : (700 : Int) <= (N.chs.length : Int) := by omega
    clear h7
    go_wp2
    obtain ⟨W9, e9, hb9, v0, v1, v2, -⟩ := HM3.out.out (.slice none 0 0) (.slice none 0 0) (.slice none 0 0)
    rw [e9]
    refine bodyPost_ret (v := .tuple #[bkNone, .int .i64 2]) (by simp [results, Tryz.results28, go_sem, v0, v1, v2]) rfl (bk_no (HP.out 2 (if_pos H7.out)) (by decide) hb9)
   have h7' : (N.chs.length : Int) < 700 := by omega
   have H7 := qH h7
   clear h7
   have hsc := (tabOf_slices HM3.out.tb).2.1
   have hst := (tabOf_slices HM3.out.tb).1
   obtain ⟨p, cap, he, hcc⟩ := hsc.shape
   injection he with he1 _ he2
   subst he1 he2
   obtain ⟨p, cap, he, htt⟩ := hst.shape
   injection he with he1 _ he2
   subst he1 he2
   have HCC := qH hcc
   have HTT := qH htt
   clear hsc hst hcc htt
   go_wp2_with fail
   go_loopw [36] (fun i wr => ∃ k : Nat, k <= N.chs.length /\ i = .int .i64 k /\ (∀ j (h : j < N.chs.length), j < k -> okSB N.chs[j].t = true) /\ Below W3.heap.size W3 wr) (fun i _ => N.chs.length - (intOf i).toNat)
   case atStart => exact ⟨0, Nat.zero_le _, rfl, fun j h h2 => absurd h2 (Nat.not_lt_zero _), Below.refl _ _⟩
   case round =>
    obtain ⟨k, hk, rfl, hall, hbr⟩ := hrel
    have HBR := qH hbr
    have HMR := qH (HM3.out.go hbr)
    have HAL := qH hall
    have hzr := hbr.size
    clear hbr hall x0 x1 x2 xf0 xf1 xf2 hl3
    obtain ⟨x0, x1, x2, xf0, xf1, xf2, hlr⟩ := HMR.out.cells
    by_cases hkn : k < N.chs.length
    ·have hne : N.chs ≠ [] := fun e => by rw [e] at hkn; exact absurd hkn (Nat.not_lt_zero _)
     obtain ⟨cb, co, rfl, hcb, hat⟩ := HCC.out hne
     obtain ⟨c, ec⟩ : ∃ c, N.chs[k] = c := ⟨_, rfl⟩
     have h1 := (hat k hkn).below HBR.out hcb
     have hcin := NOK.out.ch N.chs[k] (List.getElem_mem hkn)
     rw [ec] at h1 hcin
     obtain ⟨a0, a1⟩ := h1
     have EC2 := qH ec
     obtain ⟨ci1, ci2, -, -⟩ := hcin
     clear hat hne ec
     by_cases hok : okSB c.t = true
     ·have hok' := hok
      simp only [okSB, decide_eq_true_eq] at hok'
      have HSt := qH (fun W (hb : Tab10 W) => Stamp_ok c.t W hok'.1 hok'.2 hb)
      have HOK := qH hok
      clear hok hok'
      go_wp2_with fail
      refine (HSt.out _ (HT.out.below (HMR.out.b.alloc HMR.out.b.size _))).mono ?_
      rintro e w4 ⟨rfl, hb4⟩
      have HZ := qH (HBR.out.trans ((((Below.refl _ _).alloc (Nat.le_refl _) _).trans (hb4.mono (by simp))).mono HBR.out.size))
      clear hb4 a0 a1 x0 x1 x2 xf0 xf1 xf2
      go_wp2
      go_roundw
      case rel =>
       refine ⟨k + 1, hkn, by go_num, fun j h h2 => ?_, HZ.out⟩
       rcases Nat.lt_or_ge j k with h3 | h3
       ·exact HAL.out j h h3
       ·have : j = k := by omega
        subst this
        rw [EC2.out]; exact HOK.out
      case measure => simp [intOf]; omega
     ·have HSt := qH (fun W => Stamp_no c.t W (by
       have : ¬ (-135140 <= c.t / 86400 /\ c.t / 86400 <= 157053) := fun h => hok (by unfold okSB; exact decide_eq_true h)
       omega) (by omega) (by omega))
      have HOK := qH (eq_false_of_ne_true hok)
      clear hok
      go_wp2_with fail
      refine (HSt.out _).mono ?_
      rintro e w4 ⟨rfl, hb4⟩
      have HM5 := qH ((HMR.out.go ((Below.refl _ _).alloc (Nat.le_refl _) _)).go hb4)
      obtain ⟨z0, z1, z2, zf0, zf1, zf2⟩ := HM5.out.zero
      have hl5 := HM5.out.lt
      clear hb4 a0 a1 x0 x1 x2 xf0 xf1 xf2
      go_wp2
      obtain ⟨W9, e9, hb9, v0, v1, v2, -⟩ := HM5.out.out (.slice none 0 0) (.slice none 0 0) (.slice none 0 0)
      rw [e9]
      refine bodyPost_ret (v := .tuple #[bkNone, .int .i64 1]) (by simp [results, Tryz.results28, go_sem, v0, v1, v2]) rfl (bk_no (HP.out 1 ?_) (by decide) hb9)
      rw [if_neg H7.out, if_pos ⟨c, by rw [<- EC2.out]; exact List.getElem_mem hkn, HOK.out⟩]
    ·obtain rfl : k = N.chs.length := by omega
     have HAA : Hid (¬ ∃ c ∈ N.chs, okSB c.t = false) := by
      show ¬ _
      rintro ⟨c, hc, h⟩
      obtain ⟨j, hj, rfl⟩ := List.mem_iff_getElem.1 hc
      rw [HAL.out j hj hj] at h
      cases h
     clear HAL hk hkn
     go_upto_region 18 with fail
     obtain ⟨wq, rfl⟩ : ∃ wq, wq = wr := ⟨wr, rfl⟩
     obtain ⟨W5, e5⟩ : ∃ W5, wq.alloc (.cells #[.string nm, .slice none 0 0] 46) = W5 := ⟨_, rfl⟩
     rw [e5]
     have g5 : W5.heap[wq.heap.size]? = some (.cells #[.string nm, .slice none 0 0] 46 (0, 0)) := by rw [<- e5]; exact heap_alloc_new wq _
     have hb5 : Below wq.heap.size wq W5 := by rw [<- e5]; exact (Below.refl _ _).alloc (Nat.le_refl _) _
     have HV5 : Hid (Vz W5 wq.heap.size nm (.slice none 0 0) (ersUp N 0)) := by
      show Vz _ _ _ _ _
      exact ⟨g5, World.ownsRow_nil _ _ _ _⟩
     have HB5 := qH hb5
     obtain ⟨U, eU⟩ : ∃ U, wq.heap.size = U := ⟨_, rfl⟩
     have EU := qH eU
     rw [eU] at HV5 HB5 hlr ⊢
     have hz5 : U < W5.heap.size := by have := (Array.getElem?_eq_some_iff.mp g5).1; omega
     have hM5 := HMR.out.go (W' := W5) (by rw [eU]; exact HB5.out)
     clear x0 x1 x2 xf0 xf1 xf2
     obtain ⟨x0, x1, x2, xf0, xf1, xf2, hl5⟩ := hM5.cells
     obtain ⟨i1, hi1, hz10, hz11, hz12⟩ := info_parts infoErB
     clear e5 g5 hb5 eU hM5
     go_wp2_with fail
     go_loopw [12, 59] (fun f i wr => ∃ (k : Nat) (sv : Value) (fk : Int), k <= N.chs.length + 1 /\ i = .int .i64 k /\ f = .int .i64 fk /\ (k <= N.chs.length -> fk = segK N k) /\ (∀ j, j < k -> erOk (segT N j) = true) /\ Vz wr U nm sv (ersUp N k) /\ Below U wq wr) (fun _ i _ => N.chs.length + 1 - (intOf i).toNat)
     case atStart => exact ⟨0, _, _, Nat.zero_le _, rfl, rfl, fun _ => rfl, fun j h => absurd h (Nat.not_lt_zero _), HV5.out, HB5.out⟩
     case round =>
      obtain ⟨k, sv, fk, hk, rfl, rfl, hfk, hall, hvz, hbw⟩ := hrel
      have HVR := qH hvz
      have HBW := qH hbw
      have HMK := qH (HMR.out.go (W' := wr) (by rw [EU.out]; exact hbw))
      have HAL := qH hall
      clear hvz hbw hall x0 x1 x2 xf0 xf1 xf2 hl5
      obtain ⟨x0, x1, x2, xf0, xf1, xf2, hlk⟩ := HMK.out.cells
      have hUr := HVR.out.lt
      by_cases hkn : k <= N.chs.length
      ·obtain rfl := hfk hkn
       have sg := seg_in NOK.out k hkn
       obtain ⟨K, eK⟩ : ∃ K, segK N k = K := ⟨_, rfl⟩
       rw [eK] at sg ⊢
       obtain ⟨sg1, sg2⟩ := sg
       have hKn : K.toNat < N.types.length := by omega
       have hne : N.types ≠ [] := NOK.out.ne
       obtain ⟨ub, uo, rfl, htb, hat⟩ := HTT.out hne
       have hb3k : Below W3.heap.size W3 wr := HBR.out.trans (HBW.out.mono (by rw [<- EU.out]; exact HBR.out.size))
       have h1 := (hat K.toNat hKn).below hb3k htb
       have hxt : N.types[K.toNat] = segT N k := by unfold segT tyD; rw [eK, List.getElem?_eq_getElem hKn]; rfl
       have hxo := NOK.out.type _ (List.getElem_mem hKn)
       rw [hxt] at h1 hxo
       obtain ⟨x, ex⟩ : ∃ x, segT N k = x := ⟨_, rfl⟩
       rw [ex] at h1 hxo
       obtain ⟨a0, a1, a2⟩ := h1
       obtain ⟨o1, o2, -⟩ := hxo
       have HER := qH (fun W => era_any x W o1 o2)
       obtain ⟨O, eO⟩ : ∃ O, erOk x = O := ⟨_, rfl⟩
       rw [eO] at HER
       obtain ⟨E, eE⟩ : ∃ E, erOf x 0 = E := ⟨_, rfl⟩
       rw [eE] at HER
       have HEV : Hid (erAt N k = ⟨E.off, E.rul, E.save, E.fmt, segU N k⟩) := by
        show _ = _
        unfold erAt
        rw [ex, <- eE]
        rfl
       have hE0 : E.til = 0 := by rw [<- eE]; rfl
       have EO := qH eO
       have EX := qH ex
       have EK := qH eK
       have htbr : ub < wr.heap.size := Nat.lt_of_lt_of_le htb hb3k.size
       clear hat hne hxt hb3k ex eO eK hfk o1 o2 eE
       have HE0 := qH hE0
       clear hE0
       go_wp2_with fail
       refine (HER.out _).mono ?_
       rintro e w6 ⟨rfl, hb6⟩
       have HV6 := qH (HVR.out.below hb6)
       have HB6 := qH (HBW.out.trans (hb6.mono (Nat.le_of_lt hUr)))
       have HM6 := qH (HMK.out.go hb6)
       have hz6 := hb6.size
       clear hb6 a0 a1 a2 x0 x1 x2 xf0 xf1 xf2 hlk HVR HBW HMK
       obtain ⟨x0, x1, x2, xf0, xf1, xf2, hl6⟩ := HM6.out.cells
       have hU6 := HV6.out.lt
       cases O with
       | false =>
        go_upto_region 22 with fail
        obtain ⟨W7, e7⟩ : ∃ W7, w6.alloc (.cells #[.int .i64 E.off, .string E.rul, .int .i64 E.save, .string E.fmt, .int .i64 E.til] 43) = W7 := ⟨_, rfl⟩
        rw [e7]
        have HM7 : Hid (BkM w W7 (some ⟨ub, uo, none⟩) d1 q2 d2 N) := by
         show BkM _ _ _ _ _ _ _
         rw [<- e7]
         exact HM6.out.go ((Below.refl _ _).alloc (Nat.le_refl _) _)
        clear e7 x0 x1 x2 xf0 xf1 xf2 hl6
        obtain ⟨z0, z1, z2, zf0, zf1, zf2⟩ := HM7.out.zero
        have hr7 := HM7.out.lt
        go_wp2
        obtain ⟨W9, e9, hb9, v0, v1, v2, -⟩ := HM7.out.out (.slice none 0 0) (.slice none 0 0) (.slice none 0 0)
        rw [e9]
        refine bodyPost_ret (v := .tuple #[bkNone, .int .i64 1]) (by simp [results, Tryz.results28, go_sem, v0, v1, v2]) rfl (bk_no (HP.out 1 ?_) (by decide) hb9)
        rw [if_neg H7.out, if_neg HAA.out, if_pos ⟨k, hkn, by rw [EX.out]; exact EO.out⟩]
       | true =>
        go_upto_if 78 with fail
        obtain ⟨W7, e7⟩ : ∃ W7, w6.alloc (.cells #[.int .i64 E.off, .string E.rul, .int .i64 E.save, .string E.fmt, .int .i64 E.til] 43) = W7 := ⟨_, rfl⟩
        rw [e7]
        have g7 : W7.heap[w6.heap.size]? = some (.cells #[.int .i64 E.off, .string E.rul, .int .i64 E.save, .string E.fmt, .int .i64 E.til] 43 (0, 0)) := by rw [<- e7]; exact heap_alloc_new w6 _
        have hb7 : Below w6.heap.size w6 W7 := by rw [<- e7]; exact (Below.refl _ _).alloc (Nat.le_refl _) _
        have HM7 := qH (HM6.out.go hb7)
        have HB7 := qH hb7
        have G7 := qH g7
        have hz7 : w6.heap.size < W7.heap.size := (Array.getElem?_eq_some_iff.mp g7).1
        clear e7 g7 hb7 x0 x1 x2 xf0 xf1 xf2 hl6
        go_cut [12] (fun s12 wx => ∃ fk2 : Int, s12 = .int .i64 fk2 /\ (k + 1 <= N.chs.length -> fk2 = segK N (k + 1)) /\ wx.heap[w6.heap.size]? = some (.cells #[.int .i64 E.off, .string E.rul, .int .i64 E.save, .string E.fmt, .int .i64 (segU N k)] 43 (0, 0)) /\ Below w6.heap.size w6 wx)
        case first =>
         by_cases hlt : k < N.chs.length
         ·have hne : N.chs ≠ [] := fun e => by rw [e] at hlt; exact absurd hlt (Nat.not_lt_zero _)
          obtain ⟨cb, co, rfl, hcb, hat⟩ := HCC.out hne
          have hb37 : Below W3.heap.size W3 W7 := HBR.out.trans ((HB6.out.trans (HB7.out.mono (Nat.le_of_lt hU6))).mono (by rw [<- EU.out]; exact HBR.out.size))
          have h1 := (hat k hlt).below hb37 hcb
          obtain ⟨a0, a1⟩ := h1
          have hcb7 : cb < W7.heap.size := Nat.lt_of_lt_of_le hcb hb37.size
          have hcbne : cb ≠ w6.heap.size := by
           have := HBR.out.size
           have := EU.out
           omega
          obtain ⟨c, ec⟩ : ∃ c, N.chs[k] = c := ⟨_, rfl⟩
          rw [ec] at a0 a1
          have HU : Hid (segU N k = c.t) := by
           show _ = _
           unfold segU tAt
           rw [if_pos hlt, List.getElem?_eq_getElem hlt, ec]
           rfl
          have HK2 : Hid (c.k = segK N (k + 1)) := by
           show _ = _
           unfold segK kAt
           rw [if_neg (by omega), show k + 1 - 1 = k by omega, List.getElem?_eq_getElem hlt, ec]
           rfl
          obtain ⟨x0, x1, x2, xf0, xf1, xf2, hl7⟩ := HM7.out.cells
          obtain ⟨y0, y1, y2, y3, y4, yf⟩ := cells5 G7.out
          have yf4 := yf 4
          clear hat hne hb37 ec yf
          go_upto_region 25 with fail
          go_region
          all_goals go_wp2_with fail
          all_goals go_meet
          all_goals refine ⟨_, rfl, fun _ => HK2.out, ?_, ?_⟩
          ·rw [HU.out]
           exact (heap_setCB G7.out _).trans rfl
          ·have hq := HB7.out
           repeat (first | (with_reducible exact hq) | (with_reducible refine Below.drew ?_) | (with_reducible refine Below.setCell ?_ (by simp only [Nat.le_refl]) _))
         ·have HU : Hid (segU N k = 0) := by show _ = _; unfold segU; rw [if_neg hlt]
          have hlt' : ¬ ((k : Int) < (N.chs.length : Int)) := by omega
          go_wp2_with fail
          go_meet
          exact ⟨_, rfl, fun h => absurd h (by omega), by rw [HU.out, <- HE0.out]; exact G7.out, HB7.out⟩
        case rest =>
         obtain ⟨fk2, rfl, hfk2, hgc, hbc⟩ := hcut
         have HVC := qH (HV6.out.below hbc)
         have HBC := qH (HB6.out.trans (hbc.mono (Nat.le_of_lt hU6)))
         have HF := qH hfk2
         obtain ⟨A, cS, rfl⟩ := own_sliceN HVC.out.row
         have hLn := ersUp_length N k
         obtain ⟨L, eL⟩ : ∃ L, ersUp N k = L := ⟨_, rfl⟩
         rw [eL] at HVC hLn
         have hUc := HVC.out.lt
         have hgl : w6.heap.size < wc.heap.size := (Array.getElem?_eq_some_iff.mp hgc).1
         obtain ⟨y0, y1, y2, y3, y4, yf⟩ := cells5 hgc
         obtain ⟨s0, s1, sf⟩ := HVC.out.cells
         have sf1 := sf 1
         obtain ⟨u, eu⟩ : ∃ u, segU N k = u := ⟨_, rfl⟩
         rw [eu] at y4
         have HML : L.length + 1 <= maxLen := by simp only [maxLen]; omega
         have HMB : (L.length + 1) * 56 <= 140737488355328 := by omega
         have HROWH := qH (World.ownsRow.alloc HVC.out.row (.cells #[.int .i64 E.off, .string E.rul, .int .i64 E.save, .string E.fmt, .int .i64 u] 43))
         have HNEWH := qH (World.news_of_block (cs := #[.int .i64 E.off, .string E.rul, .int .i64 E.save, .string E.fmt, .int .i64 u]) (t := 43) (fr := (0, 0)) (heap_alloc_new wc (.cells #[.int .i64 E.off, .string E.rul, .int .i64 E.save, .string E.fmt, .int .i64 u] 43)))
         have HSZ : U <= (wc.alloc (.cells #[.int .i64 E.off, .string E.rul, .int .i64 E.save, .string E.fmt, .int .i64 u] 43)).heap.size := by simp; omega
         have HEV2 : Hid (ersUp N (k + 1) = L ++ [⟨E.off, E.rul, E.save, E.fmt, u⟩]) := by
          show _ = _
          rw [ersUp_snoc, HEV.out, eL, eu]
         have hbc1 : ∀ v ∈ [Value.int .i64 E.off, .string E.rul, .int .i64 E.save, .string E.fmt, .int .i64 u], v.oneCell' = true := by
          intro v hv
          simp at hv
          rcases hv with rfl | rfl | rfl | rfl | rfl <;> rfl
         have HONE := qH hbc1
         clear hfk2 hgc hbc eL yf sf eu hbc1 hLn
         go_wp2_with (at_builtin; refine wpList_append_own _ rfl _ _ 44 rfl U 43 i1 (.agg #[.int .i64 0, .string ⟨#[]⟩, .int .i64 0, .string ⟨#[]⟩, .int .i64 0]) 5 56 undErB hi1 hz10 hz11 hz12 rfl (by decide) _ _ _ rfl HROWH.out ⟨wc.heap.size, 0, none⟩ 1 1 [.int .i64 E.off, .string E.rul, .int .i64 E.save, .string E.fmt, .int .i64 u] rfl rfl HNEWH.out HONE.out HML HMB HSZ ?_; intro v' w10 hown10 hgrow10 _; obtain ⟨A', c', rfl⟩ := own_sliceN hown10; have y6 := vz_old HVC.out hgrow10; have t2 := (cell_of_row w10 _ 1 _ _ _ y6).trans (show _ = some (Value.slice A L.length cS) from rfl); have tz : w10.frozen? ⟨U, 1, none⟩ = false := (by simp [World.frozen?, y6]))
         have HR := qH (vz_snoc (x := ⟨E.off, E.rul, E.save, E.fmt, u⟩) HVC.out hown10 hgrow10 y6)
         go_roundw
         case rel =>
          refine ⟨k + 1, _, fk2, by omega, by go_num, rfl, HF.out, fun j hj => ?_, by rw [HEV2.out]; exact HR.out.1, HBC.out.trans HR.out.2⟩
          rcases Nat.lt_or_ge j k with h3 | h3
          ·exact HAL.out j h3
          ·have : j = k := by omega
           subst this
           rw [EX.out]; exact EO.out
         case measure => simp [intOf]; omega
      ·obtain rfl : k = N.chs.length + 1 := by omega
       have HBE : Hid (¬ ∃ i, i <= N.chs.length /\ erOk (segT N i) = false) := by
        show ¬ _
        rintro ⟨i, hi, h⟩
        rw [HAL.out i (by omega)] at h
        cases h
       have HZ0 : Hid (backC t nm = 0) := by
        show _ = _
        exact HP.out 0 (by rw [if_neg H7.out, if_neg HAA.out, if_neg HBE.out])
       obtain ⟨A, cS, rfl⟩ := own_sliceN HVR.out.row
       have hLn := ersUp_length N (N.chs.length + 1)
       have hLm : (ersUp N (N.chs.length + 1)).length <= maxLen := by simp only [maxLen]; omega
       have HLM := qH hLm
       obtain ⟨L, eL⟩ : ∃ L, ersUp N (N.chs.length + 1) = L := ⟨_, rfl⟩
       rw [eL] at HVR HLM
       have EL := qH eL
       obtain ⟨s0, s1, -⟩ := HVR.out.cells
       have hRU : w.heap.size + 1 < U := by have := HMR.out.lt; have := EU.out; omega
       clear hLn hLm eL hfk x0 x1 x2 xf0 xf1 xf2 hlk
       obtain ⟨z0, z1, z2, zf0, zf1, zf2⟩ := HMK.out.zero
       have hr8 := HMK.out.lt
       go_wp2
       obtain ⟨W8, e8, hb8, v0, v1, v2, ho8⟩ := HMK.out.out (.slice none 0 0) (.slice (some ⟨wr.heap.size, 0, none⟩) 1 1) (.slice none 0 0)
       have hs8 : W8.heap.size = wr.heap.size := by rw [<- e8]; simp
       rw [e8]
       obtain ⟨W9, e9⟩ : ∃ W9, W8.alloc (.cells #[.string nm, .slice A L.length cS] 46) = W9 := ⟨_, rfl⟩
       rw [e9]
       have hk9 : ∀ b, b < W8.heap.size -> W9.heap[b]? = W8.heap[b]? := fun b hb => by rw [<- e9]; exact Below.heap_alloc _ _ _ hb
       have hR8 : w.heap.size + 1 < W8.heap.size := by rw [hs8]; exact hr8
       have hc9 : ∀ o, W9.cell? ⟨w.heap.size + 1, o, none⟩ = W8.cell? ⟨w.heap.size + 1, o, none⟩ := fun o => World.cell?_of_block (a := ⟨w.heap.size + 1, o, none⟩) (hk9 _ hR8)
       have u0 := (hc9 0).trans v0
       have u1 := (hc9 1).trans v1
       have u2 := (hc9 2).trans v2
       have g9 : W9.heap[wr.heap.size]? = some (.cells #[.string nm, .slice A L.length cS] 46 (0, 0)) := by rw [<- e9, <- hs8]; exact heap_alloc_new W8 _
       have hb9 : Below w.heap.size w W9 := by rw [<- e9]; exact hb8.alloc (by rw [hs8]; omega) _
       have hown : W9.ownsRow U 43 5 (.slice A L.length cS) L.length (erCells L) := own_keep HVR.out.row fun g e => by
        have hg := World.ownsRow.lt HVR.out.row g e
        exact (hk9 g (by rw [hs8]; exact hg.2)).trans (ho8 g (by omega))
       have hbk : BkAt W9 wr.heap.size 1 A cS nm L := ⟨g9, own_ers hown HLM.out, own_cap hown, Nat.le_refl _⟩
       refine bodyPost_ret (v := .tuple #[bkV wr.heap.size 1, .int .i64 0]) (by simp [results, Tryz.results28, go_sem, u0, u1, u2]) rfl ((HPO.out _ _).2 ⟨hb9, Or.inr ⟨HZ0.out, wr.heap.size, 1, A, cS, rfl, by show BkAt _ _ _ _ _ _ (ersUp N (N.chs.length + 1)); rw [EL.out]; exact hbk⟩⟩)
 ·have hc' : (C == 0) = false := by simpa using hc
  have hc'' : (C != 0) = true := by simpa using hc
  have HN := qH hc
  clear hc
  go_wp2
  obtain ⟨W9, e9, hb9, v0, v1, v2, -⟩ := HM1.out.out (.slice none 0 0) (.slice none 0 0) (.slice none 0 0)
  rw [e9]
  refine bodyPost_ret (v := .tuple #[bkNone, .int .i64 C]) (by simp [results, Tryz.results28, go_sem, v0, v1, v2]) rfl (bk_no ?_ HN.out hb9)
  unfold backC
  rw [if_pos (by rw [EC.out]; exact HN.out), EC.out]
end Go.Proofs.YtomahddiclkepaaGreatDoor.BB
namespace Go.Proofs.YtomahddiclkepaaGreatDoor
open Go.RowKit Go.Joins Go.Maps
open Classical
theorem bErs_map (N : Tab) : bErs N = (BB.ersOf N).map toEr := by
 show _ = List.map toEr ((List.range _).map _)
 rw [List.map_map]
 rfl
theorem bErs_get (N : Tab) (i : Nat) (h : i < (bErs N).length) (h2 : i < (BB.ersOf N).length) : (bErs N)[i] = toEr (BB.ersOf N)[i] := by
 rw [List.getElem_of_eq (bErs_map N) h, List.getElem_map]
theorem rows_nilS {α : Type} {cells : α -> List Value} {k B : Nat} {W : World} : RowsAt cells k B W (.slice none 0 0) [] := ⟨none, 0, rfl, ⟨Nat.zero_le _, Nat.le_refl _⟩, fun h => absurd rfl h⟩
theorem bBookAt {W : World} {Z cz ce : Nat} {p : Option Addr} {nm : ByteArray} {N : Tab} (h : BB.BkAt W Z cz p ce nm (BB.ersOf N)) (hk : Bkd N nm) (hn : nm.size <= 140737488351232) :
 BookAt W.heap.size W (.slice none 0 0) (.slice (some ⟨Z, 0, none⟩) 1 cz) (.slice none 0 0) (oneB [] nm (.slice p (BB.ersOf N).length ce) (bErs N)) := by
 have hl1 : (BB.ersOf N).length = N.chs.length + 1 := BB.ersUp_length _ _
 have hl2 := bErs_len N
 have hlk := hk.len
 refine ⟨rows_nilS, ?_, ?_, rows_nilS, fun r hr => absurd hr (List.not_mem_nil), ?_, fun x hx => absurd hx (List.not_mem_nil)⟩
 ·refine ⟨_, cz, rfl, ⟨(by show 1 <= 140737488351232; decide), h.cap.2⟩, fun _ => ⟨Z, 0, rfl, (Array.getElem?_eq_some_iff.mp h.blk).1, fun i hi j u hu => ?_⟩⟩
  obtain rfl : i = 0 := by
   have : i < 1 := hi
   omega
  obtain ⟨z0, z1, -⟩ := h.cells
  match j, hu with
  | 0, hu => injection hu with hu; subst hu; exact z0
  | 1, hu => injection hu with hu; subst hu; exact z1
  | j + 2, hu => simp [zoCells] at hu
 ·intro z hz
  obtain rfl := List.mem_singleton.1 hz
  obtain ⟨p', cap, e, hat⟩ := h.ers.shape
  rw [Value.slice.injEq] at e
  obtain ⟨rfl, -, rfl⟩ := e
  refine ⟨p, ce, by rw [hl1, <- hl2], ⟨(by show (bErs N).length <= _; omega), (by show (bErs N).length <= _; have := h.cap.1; omega)⟩, fun _ => ?_⟩
  obtain ⟨b, o, rfl, hb, hc⟩ := hat (List.ne_nil_of_length_pos (by omega))
  refine ⟨b, o, rfl, hb, fun i hi j u hu => ?_⟩
  have hi2 : i < (BB.ersOf N).length := by
   have : i < (bErs N).length := hi
   omega
  obtain ⟨y0, y1, y2, y3, y4⟩ := hc i hi2
  have hu : (erCells (bErs N)[i]).toList[j]? = some u := hu
  rw [bErs_get N i hi hi2] at hu
  match j, hu with
  | 0, hu => injection hu with hu; subst hu; exact y0
  | 1, hu => injection hu with hu; subst hu; exact y1
  | 2, hu => injection hu with hu; subst hu; exact y2
  | 3, hu => injection hu with hu; subst hu; exact y3
  | 4, hu => injection hu with hu; subst hu; exact y4
  | j + 5, hu => simp [erCells] at hu
 ·intro z hz
  obtain rfl := List.mem_singleton.1 hz
  refine ⟨hn, fun x hx => ?_⟩
  obtain ⟨i, hi, rfl⟩ := List.mem_iff_getElem.1 hx
  have hi : i < (bErs N).length := hi
  rw [hl2] at hi
  have e := bErs_ok hk i hi
  have hx : (bErs N)[i]'(by omega) = eraAt (bErs N) i := by unfold eraAt; rw [List.getElem?_eq_getElem (by omega)]; rfl
  show SzE ((bErs N)[i]'(by omega))
  rw [hx, bErs_at N i hi]
  rw [bErs_at N i hi] at e
  have hm := segT_mem hk.ok i (by omega)
  have hsz := abbr_sizeT _ (hk.ok.type _ hm).2.2
  refine ⟨(by show ByteArray.size ⟨#[]⟩ <= _; decide), (by show (BB.segT N i).name.size <= _; omega), by have := e.o1; omega, by have := e.o2; omega, by have := e.s1; omega, by have := e.s2; omega, ?_, ?_⟩
  all_goals
   show _ <= _
   have hu : -1099511627776 <= BB.segU N i /\ BB.segU N i <= 1099511627776 := by
    unfold BB.segU
    split
    ·obtain ⟨c, hc, ec⟩ := tAt_memB N.chs i (by assumption)
     have := stampE_bd (hk.st c hc)
     rw [ec]; exact this
    ·omega
   first
    | exact Int.le_trans (by decide) hu.1
    | exact Int.le_trans hu.2 (by decide)
end Go.Proofs.YtomahddiclkepaaGreatDoor
namespace Go.Proofs.YtomahddiclkepaaGreatDoor
open Go.RowKit Go.Joins
open Classical
abbrev stL (s : ByteArray) : List Value := [.string s]
theorem stL_at {W : World} {b o : Nat} {l : List ByteArray} (h : ∀ i (h : i < l.length) (j : Nat) (u : Value), (stL l[i])[j]? = some u -> W.cell? ⟨b, o + i * 1 + j, none⟩ = some u) (i : Nat) (hi : i < l.length) : W.cell? ⟨b, o + i, none⟩ = some (.string l[i]) := by
 have := h i hi 0 _ rfl
 simpa using this
end Go.Proofs.YtomahddiclkepaaGreatDoor
