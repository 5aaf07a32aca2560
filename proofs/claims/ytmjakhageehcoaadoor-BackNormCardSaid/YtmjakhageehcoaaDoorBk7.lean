/- BackNorm: the law's walk. -/
import Derived.Test.YtmjakhageehcoaaDoorBk6
namespace Go.Proofs.YtmjakhageehcoaaDoor
open Go.RowKit Go.Joins
open Classical
set_option linter.unusedVariables false
set_option linter.unusedSimpArgs false

/-- a table that lies in a block of its own -/
def TBk (w : World) (B : Nat) (p1 : Option Addr) (c1 : Nat) (p2 : Option Addr) (c2 : Nat) (t : Tab) : Prop :=
  w.heap[B]? = some (.cells #[.slice p1 t.types.length c1, .int .i64 t.first, .slice p2 t.chs.length c2] 25 (0, 0)) ∧ TabAt w (.agg #[.slice p1 t.types.length c1, .int .i64 t.first, .slice p2 t.chs.length c2]) t
theorem TBk.lt {w : World} {B c1 c2 : Nat} {p1 p2 : Option Addr} {t : Tab} (h : TBk w B p1 c1 p2 c2 t) : B < w.heap.size := (Array.getElem?_eq_some_iff.mp h.1).1
theorem TBk.below {w w' : World} {B c1 c2 : Nat} {p1 p2 : Option Addr} {t : Tab} (h : TBk w B p1 c1 p2 c2 t) (hb : Below w.heap.size w w') : TBk w' B p1 c1 p2 c2 t :=
  ⟨(hb.block B h.lt).trans h.1, h.2.below hb⟩
theorem TBk.cells {w : World} {B c1 c2 : Nat} {p1 p2 : Option Addr} {t : Tab} (h : TBk w B p1 c1 p2 c2 t) :
    w.cell? ⟨B, 0, none⟩ = some (.slice p1 t.types.length c1) ∧ w.cell? ⟨B, 1, none⟩ = some (.int .i64 t.first) ∧ w.cell? ⟨B, 2, none⟩ = some (.slice p2 t.chs.length c2) :=
  ⟨(cell_of_row w _ 0 _ _ _ h.1).trans rfl, (cell_of_row w _ 1 _ _ _ h.1).trans rfl, (cell_of_row w _ 2 _ _ _ h.1).trans rfl⟩
theorem TBk.box {w : World} {c1 c2 : Nat} {p1 p2 : Option Addr} {t : Tab} (h : TabAt w (.agg #[.slice p1 t.types.length c1, .int .i64 t.first, .slice p2 t.chs.length c2]) t) :
    TBk (w.alloc (.cells #[.slice p1 t.types.length c1, .int .i64 t.first, .slice p2 t.chs.length c2] 25)) w.heap.size p1 c1 p2 c2 t :=
  ⟨heap_alloc_new w _, h.below ((Below.refl _ _).alloc (Nat.le_refl _) _)⟩
theorem below_al7 (w : World) (o : Obj) : Below w.heap.size w (w.alloc o) := (Below.refl _ _).alloc (Nat.le_refl _) _

/-- norm.Norm, either way -/
theorem Norm_any7 (t : Tab) (v : Value) (w : World) (hv : TabAt w v t) :
    Calls Tryd.prog 12 #[v] w fun e w' => ∃ p1 c1 p2 c2 E N, e = .returned (.tuple #[.agg #[.slice p1 N.types.length c1, .int .i64 N.first, .slice p2 N.chs.length c2], .int .i64 E]) ∧ TabAt w' (.agg #[.slice p1 N.types.length c1, .int .i64 N.first, .slice p2 N.chs.length c2]) N ∧ Below w.heap.size w w' ∧ E = chk t ∧ (chk t = 0 → N = normT t) := by
  by_cases h : chk t = 0
  · refine (Norm_ok t v w hv h).mono ?_
    rintro e w' ⟨v', rfl, h1, h2⟩
    obtain ⟨p1, c1, p2, c2, rfl⟩ := tabForms h1
    exact ⟨p1, c1, p2, c2, 0, normT t, rfl, h1, h2, h.symm, fun _ => rfl⟩
  · refine (Norm_no t v w hv h).mono ?_
    rintro e w' ⟨rfl, h2⟩
    exact ⟨none, 0, none, 0, chk t, zeroTb, rfl, zero_atN _, h2, rfl, fun e => absurd e h⟩

/-- what a call of Book left -/
def BkIs (c : Int) (nm : ByteArray) (L : List Er) (v : Value) (w : World) : Prop :=
  (c ≠ 0 ∧ v = bkNone) ∨ (c = 0 ∧ ∃ Z cz p ce, v = bkV Z cz ∧ BkAt w Z cz p ce nm L)
theorem BkIs.below {c : Int} {nm : ByteArray} {L : List Er} {v : Value} {w w' : World} (h : BkIs c nm L v w) (hb : Below w.heap.size w w') : BkIs c nm L v w' := by
  rcases h with h | ⟨h0, Z, cz, p, ce, e, h⟩
  · exact Or.inl h
  · exact Or.inr ⟨h0, Z, cz, p, ce, e, h.below hb⟩
theorem Book_is (t : Tab) (v : Value) (nm : ByteArray) (w : World) (hv : TabAt w v t) (hs : nm.size ≤ maxLen) (ht : Tab10 w) :
    Calls Tryd.prog 11 #[v, .string nm] w fun e w' => ∃ q n m, e = .returned (.tuple #[.agg #[.slice none 0 0, .slice q n m, .slice none 0 0], .int .i64 (backC t nm)]) ∧ BkIs (backC t nm) nm (ersOf (normT t)) (.agg #[.slice none 0 0, .slice q n m, .slice none 0 0]) w' ∧ Below w.heap.size w w' := by
  refine (Book_any t v nm w hv hs ht).mono ?_
  rintro e w' ⟨hb, ⟨hne, rfl⟩ | ⟨h0, Z, cz, p, ce, rfl, hk⟩⟩
  · exact ⟨_, _, _, rfl, Or.inl ⟨hne, rfl⟩, hb⟩
  · exact ⟨_, _, _, by rw [h0], Or.inr ⟨h0, Z, cz, p, ce, rfl, hk⟩, hb⟩
theorem BookEq_is (c : Int) (nm : ByteArray) (L : List Er) (u v : Value) (w : World) (h1 : BkIs c nm L u w) (h2 : BkIs c nm L v w) :
    Calls Tryd.prog 13 #[u, v] w fun e w' => e = .returned (.bool true) ∧ Below w.heap.size w w' := by
  rcases h1 with ⟨a, rfl⟩ | ⟨a, Z1, z1, p1, c1, rfl, k1⟩ <;> rcases h2 with ⟨b, rfl⟩ | ⟨b, Z2, z2, p2, c2, rfl, k2⟩
  · exact BookEq_none w
  · exact absurd b a
  · exact absurd a b
  · exact BookEq_same nm L Z1 z1 p1 c1 Z2 z2 p2 c2 w k1 k2

set_option maxRecDepth 100000 in
set_option maxHeartbeats 8000000 in
theorem BackNorm_walk (t : Tab) (v : Value) (nm : ByteArray) (w : World) (hv : TabAt w v t) (hs : nm.size ≤ maxLen) (ht : Tab10 w) :
    Calls Tryd.prog 4 #[v, .string nm] w fun e w' => e = .returned (.bool true) ∧ Below w.heap.size w w' := by
  obtain ⟨p1, c1, p2, c2, rfl⟩ := tabForms hv
  obtain ⟨W0, eW⟩ : ∃ W0, w.alloc (.cells #[.slice p1 t.types.length c1, .int .i64 t.first, .slice p2 t.chs.length c2] 25) = W0 := ⟨_, rfl⟩
  have HX : Hid (TBk W0 w.heap.size p1 c1 p2 c2 t) := by show TBk _ _ _ _ _ _ _; rw [← eW]; exact TBk.box hv
  have HB : Hid (Below w.heap.size w W0) := by show Below _ _ _; rw [← eW]; exact below_al7 _ _
  have HEW := Lib.hid eW
  have HT := Lib.hid ht
  have HK := Lib.hid (fun t W v (hb : TabAt W v t) (h : Tab10 W) => Book_is t v nm W hb hs h)
  have HNM := Lib.hid (fun W v (hb : TabAt W v t) => Norm_any7 t v W hb)
  clear eW hv ht hs
  go_enter Tryd.func4, Tryd.ntmps4
  go_wp2_with fail
  rw [HEW.out]
  refine (backed_any _ (HT.out.below HB.out)).mono ?_
  rintro e w1 ⟨rfl, hb1⟩
  have HX1 := Lib.hid (HX.out.below hb1)
  have HB1 := Lib.hid (HB.out.trans (hb1.mono HB.out.size))
  clear hb1 HX HB
  obtain ⟨x0, x1, x2⟩ := HX1.out.cells
  have hl1 := HX1.out.lt
  go_wp2_with fail
  refine (HNM.out _ _ HX1.out.2).mono ?_
  rintro e w2 ⟨q1, d1, q2, d2, E, N, rfl, hv2, hb2, hE, hN⟩
  obtain ⟨V2, e2⟩ : ∃ V2, w2.alloc (.cells #[.slice q1 N.types.length d1, .int .i64 N.first, .slice q2 N.chs.length d2] 25) = V2 := ⟨_, rfl⟩
  have hY : TBk V2 w2.heap.size q1 d1 q2 d2 N := by rw [← e2]; exact TBk.box hv2
  have hb22 : Below w2.heap.size w2 V2 := by rw [← e2]; exact below_al7 _ _
  have HY := Lib.hid hY
  have HX2 := Lib.hid ((HX1.out.below hb2).below hb22)
  have HB2a := HB1.out.trans (hb2.mono HB1.out.size)
  have HB2 := Lib.hid (HB2a.trans (hb22.mono HB2a.size))
  have HE := Lib.hid hE
  have HN := Lib.hid hN
  have E2 := Lib.hid e2
  clear hY hb2 hb22 HB2a hE hN hv2 x0 x1 x2 HX1 HB1 hl1
  obtain ⟨x0, x1, x2⟩ := HX2.out.cells
  have hl2 := HX2.out.lt
  go_upto_region 4 with fail
  clear E2 e2
  go_wp2_with fail
  refine (HK.out t _ _ HX2.out.2 (HT.out.below HB2.out)).mono ?_
  rintro e w3 ⟨bq, bn, bm, rfl, hbk0, hb30⟩
  have HBK0 := Lib.hid hbk0
  have HB30 := Lib.hid hb30
  have hl23 : w2.heap.size < w3.heap.size := Nat.lt_of_lt_of_le HY.out.lt hb30.size
  clear hbk0 hb30
  go_upto_region 5 with fail
  have hbk := HBK0.out
  have hb3 := HB30.out
  clear HBK0 HB30
  obtain ⟨V3, e3⟩ : ∃ V3, w3.alloc (.cells #[.slice none 0 0, .slice bq bn bm, .slice none 0 0] 31) = V3 := ⟨_, rfl⟩
  have g3 : V3.heap[w3.heap.size]? = some (.cells #[.slice none 0 0, .slice bq bn bm, .slice none 0 0] 31 (0, 0)) := by rw [← e3]; exact heap_alloc_new w3 _
  have hb33 : Below w3.heap.size w3 V3 := by rw [← e3]; exact below_al7 _ _
  have HY3 := Lib.hid ((HY.out.below hb3).below hb33)
  have HB3a := HB2.out.trans (hb3.mono HB2.out.size)
  have HB3 := Lib.hid (HB3a.trans (hb33.mono HB3a.size))
  have G3 := Lib.hid g3
  have hl3 := (Array.getElem?_eq_some_iff.mp g3).1
  have HBK := Lib.hid (hbk.below hb33)
  rw [e3]
  clear e3
  clear hbk hb3 hb33 HB3a g3 x0 x1 x2 hl2 HX2 HB2 HY
  obtain ⟨y0, y1, y2⟩ := HY3.out.cells
  have hly := HY3.out.lt
  go_wp2_with fail
  refine (HK.out N _ _ HY3.out.2 (HT.out.below HB3.out)).mono ?_
  rintro e w4 ⟨cq, cn, cm, rfl, hbk40, hb40⟩
  have HBK40 := Lib.hid hbk40
  have HB40 := Lib.hid hb40
  clear hbk40 hb40 y0 y1 y2 hly
  go_upto_region 6 with fail
  have hbk4 := HBK40.out
  have hb4 := HB40.out
  clear HBK40 HB40
  obtain ⟨V4, e4⟩ : ∃ V4, w4.alloc (.cells #[.slice none 0 0, .slice cq cn cm, .slice none 0 0] 31) = V4 := ⟨_, rfl⟩
  have g4 : V4.heap[w4.heap.size]? = some (.cells #[.slice none 0 0, .slice cq cn cm, .slice none 0 0] 31 (0, 0)) := by rw [← e4]; exact heap_alloc_new w4 _
  have hb44 : Below w4.heap.size w4 V4 := by rw [← e4]; exact below_al7 _ _
  have hb34 : Below V3.heap.size V3 V4 := hb4.trans (hb44.mono hb4.size)
  have G34 := Lib.hid ((hb34.block _ hl3).trans G3.out)
  have HBK3 := Lib.hid (HBK.out.below hb34)
  have HBK4 := Lib.hid (hbk4.below hb44)
  have HB4 := Lib.hid (HB3.out.trans (hb34.mono HB3.out.size))
  have G4 := Lib.hid g4
  rw [e4]
  clear e4
  clear hbk4 hb4 hb44 hb34 g4 HY3 HB3 G3 HBK hl3 HK HNM
  have u0 : V4.cell? ⟨w3.heap.size, 0, none⟩ = some (.slice none 0 0) := (cell_of_row V4 _ 0 _ _ _ G34.out).trans rfl
  have u1 : V4.cell? ⟨w3.heap.size, 1, none⟩ = some (.slice bq bn bm) := (cell_of_row V4 _ 1 _ _ _ G34.out).trans rfl
  have u2 : V4.cell? ⟨w3.heap.size, 2, none⟩ = some (.slice none 0 0) := (cell_of_row V4 _ 2 _ _ _ G34.out).trans rfl
  have v0 : V4.cell? ⟨w4.heap.size, 0, none⟩ = some (.slice none 0 0) := (cell_of_row V4 _ 0 _ _ _ G4.out).trans rfl
  have v1 : V4.cell? ⟨w4.heap.size, 1, none⟩ = some (.slice cq cn cm) := (cell_of_row V4 _ 1 _ _ _ G4.out).trans rfl
  have v2 : V4.cell? ⟨w4.heap.size, 2, none⟩ = some (.slice none 0 0) := (cell_of_row V4 _ 2 _ _ _ G4.out).trans rfl
  by_cases hc : chk t = 0
  · have hEN : E = 0 := by rw [HE.out]; exact hc
    have hNN := HN.out hc
    have hbc : backC N nm = backC t nm := by rw [hNN]; exact backC_norm t nm hc
    have hnn : normT N = normT t := by rw [hNN]; exact normT_norm t
    have k4 := HBK4.out
    rw [hbc, hnn] at k4
    have HQ := Lib.hid (BookEq_is _ nm _ _ _ V4 HBK3.out k4)
    rw [hbc]
    obtain ⟨C, eC⟩ : ∃ C, backC t nm = C := ⟨_, rfl⟩
    rw [eC]
    subst hEN
    clear hNN hbc hnn k4 eC hc HE HN HBK3 HBK4
    go_wp2_with fail
    refine HQ.out.mono ?_
    rintro e w5 ⟨rfl, hb5⟩
    have HB5 := Lib.hid (HB4.out.trans (hb5.mono HB4.out.size))
    clear hb5
    go_wp2
    go_ret
    exact ⟨rfl, HB5.out⟩
  · have hbc : backC t nm = E := by rw [HE.out]; unfold backC; rw [if_pos hc]
    have hE0 : E ≠ 0 := by rw [HE.out]; exact hc
    have hc' : (E == 0) = false := by simpa using hE0
    have hc'' : (E != 0) = true := by simpa using hE0
    rw [hbc]
    clear hbc hE0 hc HE HN HBK3 HBK4
    go_wp2
    go_ret
    exact ⟨rfl, HB4.out⟩
end Go.Proofs.YtmjakhageehcoaaDoor
