/- norm.Between: a round with a further difference. -/
import Derived.Test.YteoliifghhlinaaBt1
namespace Go.Proofs.Yteoliifghhlinaa
open Go.RowKit Go.Joins
open Classical
set_option linter.unusedVariables false
set_option linter.unusedSimpArgs false

set_option maxRecDepth 100000 in
set_option maxHeartbeats 4000000 in
theorem Bt_r5 (a b : Tab) (p1 p2 p3 p4 : Option Addr) (c1 c2 c3 c4 : Nat) (B n1 g M cap k : Nat) (L : List Int) (x y : Int) (init : List (Int × Int)) (p : Int × Int) (vo : Value) (wr : World) (z0 z1 z2 z5 z6 z7 z8 z10 z11 z14 z15 z16 z17 z18 z19 z20 z21 z22 z23 z24 z25 z26 z27 z28 z29 z30 z31 z32 z33 z34 z35 z36 z37 z38 z39 z40 z41 z42 z43 z44 z45 z46 z47 z48 z49 z50 z51 z52 z53 z54 z55 z56 z57 z58 z59 z60 z61 z62 z63 z64 z65 z66 z67 z68 z69 z70 z71 z72 z73 z74 z75 z76 z77 z78 z79 z80 z81 z82 z83 z84 z85 z86 z87 z88 z89 z90 z91 z92 z93 z94 z95 z96 z97 z98 z99 z100 z101 z102 z103 z104 z105 z106 z107 z108 z109 z110 z111 z112 z113 z114 z115 z116 z117 z118 z119 z120 z121 z122 z123 z124 z125 z126 z127 z128 : Value) (K : Act → World → Prop) (Q0 : Exit → Act → World → Prop)
    (HA : Hid (chk a = 0)) (HB : Hid (chk b = 0)) (hB : B + 1 < n1) (hwr : n1 ≤ wr.heap.size)
    (HAT : Hid (wr.ownsRow n1 3 1 (.slice (some ⟨g, 0, none⟩) M cap) M (L.map (Value.int .i64))))
    (HOUT : Hid (wr.ownsRow n1 29 2 vo (init ++ [p]).length (spCells (init ++ [p]))))
    (hxs : wr.cell? ⟨g, k, none⟩ = some (.int .i64 x)) (hys : wr.cell? ⟨g, k + 1, none⟩ = some (.int .i64 y))
    (x0 : wr.cell? ⟨B, 0, none⟩ = some (.slice p1 a.types.length c1)) (x1 : wr.cell? ⟨B, 1, none⟩ = some (.int .i64 a.first)) (x2 : wr.cell? ⟨B, 2, none⟩ = some (.slice p2 a.chs.length c2))
    (y0 : wr.cell? ⟨B + 1, 0, none⟩ = some (.slice p3 b.types.length c3)) (y1 : wr.cell? ⟨B + 1, 1, none⟩ = some (.int .i64 b.first)) (y2 : wr.cell? ⟨B + 1, 2, none⟩ = some (.slice p4 b.chs.length c4))
    (HVZ : Hid (TabAt wr (Value.agg #[.slice p1 a.types.length c1, .int .i64 a.first, .slice p2 a.chs.length c2]) a)) (HUZ : Hid (TabAt wr (Value.agg #[.slice p3 b.types.length c3, .int .i64 b.first, .slice p4 b.chs.length c4]) b))
    (hkM : k + 1 < M) (hM : M ≤ 2002) (HOL : Hid ((init ++ [p]).length ≤ k))
    (HK : Hid (∀ (u12 u14 u15 u16 u76 u77 u78 u79 u80 u81 u82 u83 u84 u85 u86 u87 u88 u89 u90 u91 u92 u93 u94 u95 u96 u97 u98 u99 u100 u101 u102 u103 u104 u105 u106 u107 u108 u109 u110 u111 u112 u113 u114 u115 u116 u117 u118 u119 u120 u121 u122 u123 u124 u125 u126 u127 : Value) (w' : World), w'.ownsRow n1 3 1 (.slice (some ⟨g, 0, none⟩) M cap) M (L.map (Value.int .i64)) → w'.ownsRow n1 29 2 u12 (stepB (eqB a b) (init ++ [p]) x y).length (spCells (stepB (eqB a b) (init ++ [p]) x y)) → Below wr.heap.size wr w' ∨ Below n1 wr w' → K ⟨#[z0, z1, z2, .pointer (some ⟨B, 0, none⟩), .pointer (some ⟨B + 1, 0, none⟩), z5, z6, z7, z8, .slice (some ⟨g, 0, none⟩) M cap, z10, z11, u12, .int .i64 ((k : Int) + 1 + 1), u14, u15, u16, z17, z18, z19, z20, z21, z22, z23, z24, z25, z26, z27, z28, z29, z30, z31, z32, z33, z34, z35, z36, z37, z38, z39, z40, z41, z42, z43, z44, z45, z46, z47, z48, z49, z50, z51, z52, z53, z54, z55, z56, z57, z58, z59, z60, z61, z62, z63, z64, z65, z66, z67, z68, z69, z70, z71, z72, z73, z74, z75, u76, u77, u78, u79, u80, u81, u82, u83, u84, u85, u86, u87, u88, u89, u90, u91, u92, u93, u94, u95, u96, u97, u98, u99, u100, u101, u102, u103, u104, u105, u106, u107, u108, u109, u110, u111, u112, u113, u114, u115, u116, u117, u118, u119, u120, u121, u122, u123, u124, u125, u126, u127, z128], []⟩ w')) (hxy : x ≠ y) (hD : ¬ tyOf a x = tyOf b x) (hp : p.2 ≠ x) :
    Code.wp Try.prog (loopAt Try.f14 1) (Exit.then K Q0) ⟨#[z0, z1, z2, .pointer (some ⟨B, 0, none⟩), .pointer (some ⟨B + 1, 0, none⟩), z5, z6, z7, z8, .slice (some ⟨g, 0, none⟩) M cap, z10, z11, vo, .int .i64 ((k : Int) + 1), z14, z15, z16, z17, z18, z19, z20, z21, z22, z23, z24, z25, z26, z27, z28, z29, z30, z31, z32, z33, z34, z35, z36, z37, z38, z39, z40, z41, z42, z43, z44, z45, z46, z47, z48, z49, z50, z51, z52, z53, z54, z55, z56, z57, z58, z59, z60, z61, z62, z63, z64, z65, z66, z67, z68, z69, z70, z71, z72, z73, z74, z75, z76, z77, z78, z79, z80, z81, z82, z83, z84, z85, z86, z87, z88, z89, z90, z91, z92, z93, z94, z95, z96, z97, z98, z99, z100, z101, z102, z103, z104, z105, z106, z107, z108, z109, z110, z111, z112, z113, z114, z115, z116, z117, z118, z119, z120, z121, z122, z123, z124, z125, z126, z127, z128], []⟩ wr := by
  obtain ⟨i1, hi1, hq0, hq1, hq2⟩ := info_parts infoSpB
  have hxy2 : (x == y) = false := by simpa using hxy
  have hgw : g < wr.heap.size := World.block_lt_of_cell? _ _ hxs
  have hk63 : wrap64 (k : Int) = (k : Int) := wrapN k (by omega)
  have hk64 : IntKind.i64.wrap (k : Int) = (k : Int) := wrapN2 k (by omega)
  have hkn : k < M := Nat.lt_of_succ_lt hkM
  obtain ⟨hk1, hk2⟩ := natlt1 hkM
  have hk3 : (0 : Int) ≤ (k : Int) := Int.natCast_nonneg _
  have hk4 : (0 : Int) ≤ (k : Int) + 1 := Int.le_trans hk3 (Int.le_add_one (Int.le_refl _))
  have hzr1 : B < wr.heap.size := by omega
  have hzr2 : B + 1 < wr.heap.size := by omega
  have KS : Hid (∀ wx, Below wr.heap.size wr wx → Below wr.heap.size wr wx ∧ wx.cell? ⟨B, 0, none⟩ = some (.slice p1 a.types.length c1) ∧ wx.cell? ⟨B, 1, none⟩ = some (.int .i64 a.first) ∧ wx.cell? ⟨B, 2, none⟩ = some (.slice p2 a.chs.length c2) ∧ wx.cell? ⟨B + 1, 0, none⟩ = some (.slice p3 b.types.length c3) ∧ wx.cell? ⟨B + 1, 1, none⟩ = some (.int .i64 b.first) ∧ wx.cell? ⟨B + 1, 2, none⟩ = some (.slice p4 b.chs.length c4)) := fun wx hb =>
    ⟨hb, (hb.cell (p := ⟨B, 0, none⟩) hzr1).trans x0, (hb.cell (p := ⟨B, 1, none⟩) hzr1).trans x1, (hb.cell (p := ⟨B, 2, none⟩) hzr1).trans x2, (hb.cell (p := ⟨B + 1, 0, none⟩) hzr2).trans y0, (hb.cell (p := ⟨B + 1, 1, none⟩) hzr2).trans y1, (hb.cell (p := ⟨B + 1, 2, none⟩) hzr2).trans y2⟩
  have KA : Hid (∀ wx, Below wr.heap.size wr wx → TabAt wx (Value.agg #[.slice p1 a.types.length c1, .int .i64 a.first, .slice p2 a.chs.length c2]) a) := fun wx hb => HVZ.out.below hb
  have KB : Hid (∀ wx, Below wr.heap.size wr wx → TabAt wx (Value.agg #[.slice p3 b.types.length c3, .int .i64 b.first, .slice p4 b.chs.length c4]) b) := fun wx hb => HUZ.out.below hb
  have K0 : Hid (Below wr.heap.size wr wr.drew.drew) := (Below.refl _ _).drew.drew
  have HOA := Lib.hid (fun W hW => Of_any a (Value.agg #[.slice p1 a.types.length c1, .int .i64 a.first, .slice p2 a.chs.length c2]) x W hW HA.out)
  have HOB := Lib.hid (fun W hW => Of_any b (Value.agg #[.slice p3 b.types.length c3, .int .i64 b.first, .slice p4 b.chs.length c4]) x W hW HB.out)
  obtain ⟨X, eX⟩ : ∃ X, tyOf a x = X := ⟨_, rfl⟩
  rw [eX] at HOA
  obtain ⟨Y, eY⟩ : ∃ Y, tyOf b x = Y := ⟨_, rfl⟩
  rw [eY] at HOB
  rw [eX, eY] at hD
  have HD : Hid (eqB a b x = false) := by show _ = _; unfold eqB; rw [eX, eY]; exact decide_eq_false hD
  have HEQ := fun W => eql_ty X Y W
  have hXY : decide (X = Y) = false := by exact decide_eq_false hD
  rw [hXY] at HEQ
  clear eX eY hXY
  clear x0 x1 x2 y0 y1 y2
  conv => arg 2; whnf
  go_wp2_with fail
  go_region_held3 (fun wx => wx.cell? ⟨g, k, none⟩ = some (.int .i64 x) ∧ wx.cell? ⟨g, k + 1, none⟩ = some (.int .i64 y)) (exact ⟨hxs, hys⟩) (first | fail)
  clear hxs hys
  go_wp2_with fail
  go_region_held3 (fun wx => Below wr.heap.size wr wx ∧ wx.cell? ⟨B, 0, none⟩ = some (.slice p1 a.types.length c1) ∧ wx.cell? ⟨B, 1, none⟩ = some (.int .i64 a.first) ∧ wx.cell? ⟨B, 2, none⟩ = some (.slice p2 a.chs.length c2) ∧ wx.cell? ⟨B + 1, 0, none⟩ = some (.slice p3 b.types.length c3) ∧ wx.cell? ⟨B + 1, 1, none⟩ = some (.int .i64 b.first) ∧ wx.cell? ⟨B + 1, 2, none⟩ = some (.slice p4 b.chs.length c4)) ((refine KS.out _ ?_; first | (with_reducible exact HB9.out) | (with_reducible exact HB8.out) | (with_reducible exact K0.out)))
    (first
      | (go_at_call_of 30 (Value.agg #[.slice p1 a.types.length c1, .int .i64 a.first, .slice p2 a.chs.length c2]); refine (HOA.out _ (KA.out _ (by assumption))).mono ?_; rintro e w8 ⟨rfl, hb8⟩; have HB8 := Lib.hid (Below.trans (by assumption) (hb8.mono (Below.size (by assumption)))); clear hb8)
      | (go_at_call_of 30 (Value.agg #[.slice p3 b.types.length c3, .int .i64 b.first, .slice p4 b.chs.length c4]); refine (HOB.out _ (KB.out _ (by assumption))).mono ?_; rintro e w9 ⟨rfl, hb9⟩; have HB9 := Lib.hid (Below.trans (by assumption) (hb9.mono (Below.size (by assumption)))); clear hb9))
  have HW := HB9
  have k1 := own_keep HAT.out fun g' e' => HW.out.block g' (World.ownsRow.lt HAT.out g' e').2
  have k2 := own_keep HOUT.out fun g' e' => HW.out.block g' (World.ownsRow.lt HOUT.out g' e').2
  obtain ⟨A, c9, rfl⟩ := own_sliceN k2
  obtain ⟨n, en⟩ : ∃ n, init.length = n := ⟨_, rfl⟩
  have hlen : (init ++ [p]).length = n + 1 := by rw [List.length_append, en]; rfl
  have hol := HOL.out
  rw [hlen] at k2 hol ⊢
  obtain ⟨G, hG⟩ : ∃ G, A = some ⟨G, 0, none⟩ := by
    rcases k2.2 with ⟨_, h0⟩ | ⟨g', cap', cur', e', _⟩
    · exact absurd h0 (Nat.succ_ne_zero _)
    · injection e' with e1
      exact ⟨g', e1⟩
  subst hG
  have hlc := World.ownsRow.cellAt k2 (n * 2 + 1) (nlast n)
  rw [← en, spCells_last init p, en] at hlc
  obtain ⟨px, py⟩ := p
  dsimp only at hlc hp
  have hGw : G < w9.heap.size := World.block_lt_of_cell? _ _ hlc
  obtain ⟨hn1, hn63, hn64, hn2, hn3, hn4⟩ := nfacts hol hkM hM
  have HEN := Lib.hid en
  have HLN := Lib.hid hlen
  clear en hlen hol
  have hpx : (py == x) = false := by simpa using hp
  have HP := Lib.hid hp
  clear hp hn64
  have hol : n + 1 ≤ k := by have := HOL.out; rw [HLN.out] at this; exact this
  have HROW2 : (w9.alloc (.cells #[.int .i64 x, .int .i64 y] 29)).ownsRow n1 29 2 (.slice (some ⟨G, 0, none⟩) (n + 1) c9) (n + 1) (spCells (init ++ [(px, py)])) := World.ownsRow.alloc k2 _
  have HNEW2 := World.news_of_block (cs := #[.int .i64 x, .int .i64 y]) (t := 29) (fr := (0, 0)) (heap_alloc_new w9 (.cells #[.int .i64 x, .int .i64 y] 29))
  have hz9 : n1 ≤ w9.heap.size := Nat.le_trans hwr HW.out.size
  have HSZ2 : n1 ≤ (w9.alloc (.cells #[.int .i64 x, .int .i64 y] 29)).heap.size   := Nat.le_trans hz9 (by simp)
  have HL2 : (n + 1) + 1 ≤ maxLen := nmax1 (nmax0 hol hkM hM)
  have HLB2 : ((n + 1) + 1) * 16 ≤ 140737488355328 := nmax2 (nmax0 hol hkM hM)
  have HK2 := Lib.hid k2
  have HK1 := Lib.hid k1
  clear k1 k2
  go_wp2_with (at_builtin; refine wpList_append_own _ rfl _ _ 30 rfl n1 29 i1 (.agg #[.int .i64 0, .int .i64 0]) 2 16 undSpsB hi1 hq0 hq1 hq2 rfl (by decide) _ _ _ rfl HROW2 ⟨w9.heap.size, 0, none⟩ 1 1 [.int .i64 x, .int .i64 y] rfl rfl HNEW2 (by simp [Value.oneCell']) HL2 HLB2 HSZ2 ?_; intro v' w10 hown10 hgrow10 _)
  have kB : Below n1 wr w10 := ((HW.out.mono hwr).alloc hz9 _).grown hgrow10 HSZ2 fun q hq => (World.ownsRow.lt HROW2 q hq).1
  refine HK.out _ _ _ _ _ _ _ _ _ _ _ _ _ _ _ _ _ _ _ _ _ _ _ _ _ _ _ _ _ _ _ _ _ _ _ _ _ _ _ _ _ _ _ _ _ _ _ _ _ _ _ _ _ _ _ _ _ (own_kept2 (World.ownsRow.alloc HK1.out _) HROW2 (by decide) hgrow10) ?_ (.inr kB)
  rw [stepB_more hxy HD.out HP.out, List.length_append, HLN.out, spCells_snoc]
  exact hown10
end Go.Proofs.Yteoliifghhlinaa
