/- norm.Between: a round with the first difference. norm.Between: a round that lengthens the last difference. norm.Between: a round with a further difference. norm.Between of two tables that are right, and of a span that is right. TopAgain: the walk. What a row's list of package-level variables gives: strconv's table of powers of ten. What a row's list of package-level variables gives, and bytealg's MaxLen. What a row's list of package-level variables gives: strconv's two errors lie there. What a row's list of package-level variables gives: strings' table of white space. -/
import Derived.Test.YtomahddiclkepaaGreatDoorQa21
import Derived.Test.YtomahddiclkepaaGreatDoorQa17
import Derived.Test.YtomahddiclkepaaGreatDoorQa20
import Derived.Deep.DeepCutAuto
import Derived.Test.YtomahddiclkepaaGreatDoorCards
import Derived.Test.YtomahddiclkepaaGreatDoorTie
import Derived.Test.YtomahddiclkepaaGreatDoorQa02
import Derived.LaidMore
import Derived.Deep.DeepHandedRow
import Derived.Deep.DeepWitnessRowRef
import Derived.Lib.LaidTab
import Derived.Stop.LaidErr
import Derived.Test.YtomahddiclkepaaGreatDoorQa03
import Derived.Test.YtomahddiclkepaaGreatDoorQa10
import Derived.Lay
import Derived.Test.YtomahddiclkepaaGreatDoorQa12
namespace Go.Proofs.YtomahddiclkepaaGreatDoor
open Go.RowKit Go.Joins
open Classical
set_option linter.unusedVariables false
set_option linter.unusedSimpArgs false
set_option maxRecDepth 100000 in
set_option maxHeartbeats 4000000 in
theorem Bt_r3 (a b : Tab) (p1 p2 p3 p4 : Option Addr) (c1 c2 c3 c4 : Nat) (B n1 g M cap k : Nat) (L : List Int) (x y : Int) (vo : Value) (wr : World) (z0 z1 z2 z5 z6 z7 z8 z10 z11 z14 z15 z16 z17 z18 z19 z20 z21 z22 z23 z24 z25 z26 z27 z28 z29 z30 z31 z32 z33 z34 z35 z36 z37 z38 z39 z40 z41 z42 z43 z44 z45 z46 z47 z48 z49 z50 z51 z52 z53 z54 z55 z56 z57 z58 z59 z60 z61 z62 z63 z64 z65 z66 z67 z68 z69 z70 z71 z72 z73 z74 z75 z76 z77 z78 z79 z80 z81 z82 z83 z84 z85 z86 z87 z88 z89 z90 z91 z92 z93 z94 z95 z96 z97 z98 z99 z100 z101 z102 z103 z104 z105 z106 z107 z108 z109 z110 z111 z112 z113 z114 z115 z116 z117 z118 z119 z120 z121 z122 z123 z124 z125 z126 z127 z128 : Value) (K : Act → World → Prop) (Q0 : Exit → Act → World → Prop)
  (HA : Hid (chk a = 0)) (HB : Hid (chk b = 0)) (hB : B + 1 < n1) (hwr : n1 ≤ wr.heap.size)
  (HAT : Hid (wr.ownsRow n1 3 1 (.slice (some ⟨g, 0, none⟩) M cap) M (L.map (Value.int .i64))))
  (HOUT : Hid (wr.ownsRow n1 68 2 vo ([] : List (Int × Int)).length (spCells ([] : List (Int × Int)))))
  (hxs : wr.cell? ⟨g, k, none⟩ = some (.int .i64 x)) (hys : wr.cell? ⟨g, k + 1, none⟩ = some (.int .i64 y))
  (x0 : wr.cell? ⟨B, 0, none⟩ = some (.slice p1 a.types.length c1)) (x1 : wr.cell? ⟨B, 1, none⟩ = some (.int .i64 a.first)) (x2 : wr.cell? ⟨B, 2, none⟩ = some (.slice p2 a.chs.length c2))
  (y0 : wr.cell? ⟨B + 1, 0, none⟩ = some (.slice p3 b.types.length c3)) (y1 : wr.cell? ⟨B + 1, 1, none⟩ = some (.int .i64 b.first)) (y2 : wr.cell? ⟨B + 1, 2, none⟩ = some (.slice p4 b.chs.length c4))
  (HVZ : Hid (TabAt wr (Value.agg #[.slice p1 a.types.length c1, .int .i64 a.first, .slice p2 a.chs.length c2]) a)) (HUZ : Hid (TabAt wr (Value.agg #[.slice p3 b.types.length c3, .int .i64 b.first, .slice p4 b.chs.length c4]) b))
  (hkM : k + 1 < M) (hM : M ≤ 2002) (HOL : Hid (([] : List (Int × Int)).length ≤ k))
  (HK : Hid (∀ (u12 u14 u15 u16 u76 u77 u78 u79 u80 u81 u82 u83 u84 u85 u86 u87 u88 u89 u90 u91 u92 u93 u94 u95 u96 u97 u98 u99 u100 u101 u102 u103 u104 u105 u106 u107 u108 u109 u110 u111 u112 u113 u114 u115 u116 u117 u118 u119 u120 u121 u122 u123 u124 u125 u126 u127 : Value) (w' : World), w'.ownsRow n1 3 1 (.slice (some ⟨g, 0, none⟩) M cap) M (L.map (Value.int .i64)) → w'.ownsRow n1 68 2 u12 (stepB (eqB a b) ([] : List (Int × Int)) x y).length (spCells (stepB (eqB a b) ([] : List (Int × Int)) x y)) → Below wr.heap.size wr w' ∨ Below n1 wr w' → K ⟨#[z0, z1, z2, .pointer (some ⟨B, 0, none⟩), .pointer (some ⟨B + 1, 0, none⟩), z5, z6, z7, z8, .slice (some ⟨g, 0, none⟩) M cap, z10, z11, u12, .int .i64 ((k : Int) + 1 + 1), u14, u15, u16, z17, z18, z19, z20, z21, z22, z23, z24, z25, z26, z27, z28, z29, z30, z31, z32, z33, z34, z35, z36, z37, z38, z39, z40, z41, z42, z43, z44, z45, z46, z47, z48, z49, z50, z51, z52, z53, z54, z55, z56, z57, z58, z59, z60, z61, z62, z63, z64, z65, z66, z67, z68, z69, z70, z71, z72, z73, z74, z75, u76, u77, u78, u79, u80, u81, u82, u83, u84, u85, u86, u87, u88, u89, u90, u91, u92, u93, u94, u95, u96, u97, u98, u99, u100, u101, u102, u103, u104, u105, u106, u107, u108, u109, u110, u111, u112, u113, u114, u115, u116, u117, u118, u119, u120, u121, u122, u123, u124, u125, u126, u127, z128], []⟩ w')) (hxy : x ≠ y) (hD : ¬ tyOf a x = tyOf b x) :
  Code.wp Tryz.prog (loopAt Tryz.f29 1) (Exit.then K Q0) ⟨#[z0, z1, z2, .pointer (some ⟨B, 0, none⟩), .pointer (some ⟨B + 1, 0, none⟩), z5, z6, z7, z8, .slice (some ⟨g, 0, none⟩) M cap, z10, z11, vo, .int .i64 ((k : Int) + 1), z14, z15, z16, z17, z18, z19, z20, z21, z22, z23, z24, z25, z26, z27, z28, z29, z30, z31, z32, z33, z34, z35, z36, z37, z38, z39, z40, z41, z42, z43, z44, z45, z46, z47, z48, z49, z50, z51, z52, z53, z54, z55, z56, z57, z58, z59, z60, z61, z62, z63, z64, z65, z66, z67, z68, z69, z70, z71, z72, z73, z74, z75, z76, z77, z78, z79, z80, z81, z82, z83, z84, z85, z86, z87, z88, z89, z90, z91, z92, z93, z94, z95, z96, z97, z98, z99, z100, z101, z102, z103, z104, z105, z106, z107, z108, z109, z110, z111, z112, z113, z114, z115, z116, z117, z118, z119, z120, z121, z122, z123, z124, z125, z126, z127, z128], []⟩ wr := by
 obtain ⟨i1, hi1, hq0, hq1, hq2⟩ := info_parts infoSpB
 have hxy2 : (x == y) = false := by simpa using hxy
 have hgw : g < wr.heap.size := World.block_lt_of_cell? _ _ hxs
 have hk63 : wrap64 (k : Int) = (k : Int) := wrapN k (by omega)
 have hk64 : IntKind.i64.wrap (k : Int) = (k : Int) := wrapN2 k (by omega)
 have hkn : k < M := Nat.lt_of_succ_lt hkM
 obtain ⟨hk1, hk2⟩ := natlt1 hkM
 have hk3 : (0 : Int) ≤ (k : Int) := Int.natCast_nonneg _
 have hk4 : (0 : Int) ≤ (k : Int) + 1 := Int.le_trans hk3 (Int.le_add_one (Int.le_refl _))
 have hzr1 : B < wr.heap.size := by omega
 have hzr2 : B + 1 < wr.heap.size := by omega
 have KS : Hid (∀ wx, Below wr.heap.size wr wx → Below wr.heap.size wr wx ∧ wx.cell? ⟨B, 0, none⟩ = some (.slice p1 a.types.length c1) ∧ wx.cell? ⟨B, 1, none⟩ = some (.int .i64 a.first) ∧ wx.cell? ⟨B, 2, none⟩ = some (.slice p2 a.chs.length c2) ∧ wx.cell? ⟨B + 1, 0, none⟩ = some (.slice p3 b.types.length c3) ∧ wx.cell? ⟨B + 1, 1, none⟩ = some (.int .i64 b.first) ∧ wx.cell? ⟨B + 1, 2, none⟩ = some (.slice p4 b.chs.length c4)) := fun wx hb =>
  ⟨hb, (hb.cell (p := ⟨B, 0, none⟩) hzr1).trans x0, (hb.cell (p := ⟨B, 1, none⟩) hzr1).trans x1, (hb.cell (p := ⟨B, 2, none⟩) hzr1).trans x2, (hb.cell (p := ⟨B + 1, 0, none⟩) hzr2).trans y0, (hb.cell (p := ⟨B + 1, 1, none⟩) hzr2).trans y1, (hb.cell (p := ⟨B + 1, 2, none⟩) hzr2).trans y2⟩
 have KA : Hid (∀ wx, Below wr.heap.size wr wx → TabAt wx (Value.agg #[.slice p1 a.types.length c1, .int .i64 a.first, .slice p2 a.chs.length c2]) a) := fun wx hb => HVZ.out.below hb
 have KB : Hid (∀ wx, Below wr.heap.size wr wx → TabAt wx (Value.agg #[.slice p3 b.types.length c3, .int .i64 b.first, .slice p4 b.chs.length c4]) b) := fun wx hb => HUZ.out.below hb
 have K0 : Hid (Below wr.heap.size wr wr.drew.drew) := (Below.refl _ _).drew.drew
 have HOA := Lib.hid (fun W hW => Of_any a (Value.agg #[.slice p1 a.types.length c1, .int .i64 a.first, .slice p2 a.chs.length c2]) x W hW HA.out)
 have HOB := Lib.hid (fun W hW => Of_any b (Value.agg #[.slice p3 b.types.length c3, .int .i64 b.first, .slice p4 b.chs.length c4]) x W hW HB.out)
 obtain ⟨X, eX⟩ : ∃ X, tyOf a x = X := ⟨_, rfl⟩
 rw [eX] at HOA
 obtain ⟨Y, eY⟩ : ∃ Y, tyOf b x = Y := ⟨_, rfl⟩
 rw [eY] at HOB
 rw [eX, eY] at hD
 have HD : Hid (eqB a b x = false) := by show _ = _; unfold eqB; rw [eX, eY]; exact decide_eq_false hD
 have HEQ := fun W => eql_ty X Y W
 have hXY : decide (X = Y) = false := by exact decide_eq_false hD
 rw [hXY] at HEQ
 clear eX eY hXY
 clear x0 x1 x2 y0 y1 y2
 conv => arg 2; whnf
 go_wp2_with fail
 go_region_held3 (fun wx => wx.cell? ⟨g, k, none⟩ = some (.int .i64 x) ∧ wx.cell? ⟨g, k + 1, none⟩ = some (.int .i64 y)) (exact ⟨hxs, hys⟩) (first | fail)
 clear hxs hys
 go_wp2_with fail
 go_region_held3 (fun wx => Below wr.heap.size wr wx ∧ wx.cell? ⟨B, 0, none⟩ = some (.slice p1 a.types.length c1) ∧ wx.cell? ⟨B, 1, none⟩ = some (.int .i64 a.first) ∧ wx.cell? ⟨B, 2, none⟩ = some (.slice p2 a.chs.length c2) ∧ wx.cell? ⟨B + 1, 0, none⟩ = some (.slice p3 b.types.length c3) ∧ wx.cell? ⟨B + 1, 1, none⟩ = some (.int .i64 b.first) ∧ wx.cell? ⟨B + 1, 2, none⟩ = some (.slice p4 b.chs.length c4)) ((refine KS.out _ ?_; first | (with_reducible exact HB9.out) | (with_reducible exact HB8.out) | (with_reducible exact K0.out)))
  (first
   | (go_at_call_of 52 (Value.agg #[.slice p1 a.types.length c1, .int .i64 a.first, .slice p2 a.chs.length c2]); refine (HOA.out _ (KA.out _ (by assumption))).mono ?_; rintro e w8 ⟨rfl, hb8⟩; have HB8 := Lib.hid (Below.trans (by assumption) (hb8.mono (Below.size (by assumption)))); clear hb8)
   | (go_at_call_of 52 (Value.agg #[.slice p3 b.types.length c3, .int .i64 b.first, .slice p4 b.chs.length c4]); refine (HOB.out _ (KB.out _ (by assumption))).mono ?_; rintro e w9 ⟨rfl, hb9⟩; have HB9 := Lib.hid (Below.trans (by assumption) (hb9.mono (Below.size (by assumption)))); clear hb9))
 have HW := HB9
 have k1 := own_keep HAT.out fun g' e' => HW.out.block g' (World.ownsRow.lt HAT.out g' e').2
 have k2 := own_keep HOUT.out fun g' e' => HW.out.block g' (World.ownsRow.lt HOUT.out g' e').2
 obtain ⟨A, c9, rfl⟩ := own_sliceN k2
 rw [List.length_nil] at k2 ⊢
 have HROW2 : (w9.alloc (.cells #[.int .i64 x, .int .i64 y] 68)).ownsRow n1 68 2 (.slice A 0 c9) 0 (spCells ([])) := World.ownsRow.alloc k2 _
 have HNEW2 := World.news_of_block (cs := #[.int .i64 x, .int .i64 y]) (t := 68) (fr := (0, 0)) (heap_alloc_new w9 (.cells #[.int .i64 x, .int .i64 y] 68))
 have hz9 : n1 ≤ w9.heap.size := Nat.le_trans hwr HW.out.size
 have HSZ2 : n1 ≤ (w9.alloc (.cells #[.int .i64 x, .int .i64 y] 68)).heap.size   := Nat.le_trans hz9 (by simp)
 have HL2 : 0 + 1 ≤ maxLen := nmax1 (by decide)
 have HLB2 : (0 + 1) * 16 ≤ 140737488355328 := nmax2 (by decide)
 have HK2 := Lib.hid k2
 have HK1 := Lib.hid k1
 clear k1 k2
 go_wp2_with (at_builtin; refine wpList_append_own _ rfl _ _ 80 rfl n1 68 i1 (.agg #[.int .i64 0, .int .i64 0]) 2 16 undSpsB hi1 hq0 hq1 hq2 rfl (by decide) _ _ _ rfl HROW2 ⟨w9.heap.size, 0, none⟩ 1 1 [.int .i64 x, .int .i64 y] rfl rfl HNEW2 (by simp [Value.oneCell']) HL2 HLB2 HSZ2 ?_; intro v' w10 hown10 hgrow10 _)
 have kB : Below n1 wr w10 := ((HW.out.mono hwr).alloc hz9 _).grown hgrow10 HSZ2 fun q hq => (World.ownsRow.lt HROW2 q hq).1
 refine HK.out _ _ _ _ _ _ _ _ _ _ _ _ _ _ _ _ _ _ _ _ _ _ _ _ _ _ _ _ _ _ _ _ _ _ _ _ _ _ _ _ _ _ _ _ _ _ _ _ _ _ _ _ _ _ _ _ _ (own_kept2 (World.ownsRow.alloc HK1.out _) HROW2 (by decide) hgrow10) ?_ (.inr kB)
 rw [stepB_none hxy HD.out, show [(x, y)] = [] ++ [(x, y)] from rfl, List.length_append, spCells_snoc]
 exact hown10
set_option maxRecDepth 100000 in
set_option maxHeartbeats 4000000 in
theorem Bt_r4 (a b : Tab) (p1 p2 p3 p4 : Option Addr) (c1 c2 c3 c4 : Nat) (B n1 g M cap k : Nat) (L : List Int) (x y : Int) (init : List (Int × Int)) (p : Int × Int) (vo : Value) (wr : World) (z0 z1 z2 z5 z6 z7 z8 z10 z11 z14 z15 z16 z17 z18 z19 z20 z21 z22 z23 z24 z25 z26 z27 z28 z29 z30 z31 z32 z33 z34 z35 z36 z37 z38 z39 z40 z41 z42 z43 z44 z45 z46 z47 z48 z49 z50 z51 z52 z53 z54 z55 z56 z57 z58 z59 z60 z61 z62 z63 z64 z65 z66 z67 z68 z69 z70 z71 z72 z73 z74 z75 z76 z77 z78 z79 z80 z81 z82 z83 z84 z85 z86 z87 z88 z89 z90 z91 z92 z93 z94 z95 z96 z97 z98 z99 z100 z101 z102 z103 z104 z105 z106 z107 z108 z109 z110 z111 z112 z113 z114 z115 z116 z117 z118 z119 z120 z121 z122 z123 z124 z125 z126 z127 z128 : Value) (K : Act → World → Prop) (Q0 : Exit → Act → World → Prop)
  (HA : Hid (chk a = 0)) (HB : Hid (chk b = 0)) (hB : B + 1 < n1) (hwr : n1 ≤ wr.heap.size)
  (HAT : Hid (wr.ownsRow n1 3 1 (.slice (some ⟨g, 0, none⟩) M cap) M (L.map (Value.int .i64))))
  (HOUT : Hid (wr.ownsRow n1 68 2 vo (init ++ [p]).length (spCells (init ++ [p]))))
  (hxs : wr.cell? ⟨g, k, none⟩ = some (.int .i64 x)) (hys : wr.cell? ⟨g, k + 1, none⟩ = some (.int .i64 y))
  (x0 : wr.cell? ⟨B, 0, none⟩ = some (.slice p1 a.types.length c1)) (x1 : wr.cell? ⟨B, 1, none⟩ = some (.int .i64 a.first)) (x2 : wr.cell? ⟨B, 2, none⟩ = some (.slice p2 a.chs.length c2))
  (y0 : wr.cell? ⟨B + 1, 0, none⟩ = some (.slice p3 b.types.length c3)) (y1 : wr.cell? ⟨B + 1, 1, none⟩ = some (.int .i64 b.first)) (y2 : wr.cell? ⟨B + 1, 2, none⟩ = some (.slice p4 b.chs.length c4))
  (HVZ : Hid (TabAt wr (Value.agg #[.slice p1 a.types.length c1, .int .i64 a.first, .slice p2 a.chs.length c2]) a)) (HUZ : Hid (TabAt wr (Value.agg #[.slice p3 b.types.length c3, .int .i64 b.first, .slice p4 b.chs.length c4]) b))
  (hkM : k + 1 < M) (hM : M ≤ 2002) (HOL : Hid ((init ++ [p]).length ≤ k))
  (HK : Hid (∀ (u12 u14 u15 u16 u76 u77 u78 u79 u80 u81 u82 u83 u84 u85 u86 u87 u88 u89 u90 u91 u92 u93 u94 u95 u96 u97 u98 u99 u100 u101 u102 u103 u104 u105 u106 u107 u108 u109 u110 u111 u112 u113 u114 u115 u116 u117 u118 u119 u120 u121 u122 u123 u124 u125 u126 u127 : Value) (w' : World), w'.ownsRow n1 3 1 (.slice (some ⟨g, 0, none⟩) M cap) M (L.map (Value.int .i64)) → w'.ownsRow n1 68 2 u12 (stepB (eqB a b) (init ++ [p]) x y).length (spCells (stepB (eqB a b) (init ++ [p]) x y)) → Below wr.heap.size wr w' ∨ Below n1 wr w' → K ⟨#[z0, z1, z2, .pointer (some ⟨B, 0, none⟩), .pointer (some ⟨B + 1, 0, none⟩), z5, z6, z7, z8, .slice (some ⟨g, 0, none⟩) M cap, z10, z11, u12, .int .i64 ((k : Int) + 1 + 1), u14, u15, u16, z17, z18, z19, z20, z21, z22, z23, z24, z25, z26, z27, z28, z29, z30, z31, z32, z33, z34, z35, z36, z37, z38, z39, z40, z41, z42, z43, z44, z45, z46, z47, z48, z49, z50, z51, z52, z53, z54, z55, z56, z57, z58, z59, z60, z61, z62, z63, z64, z65, z66, z67, z68, z69, z70, z71, z72, z73, z74, z75, u76, u77, u78, u79, u80, u81, u82, u83, u84, u85, u86, u87, u88, u89, u90, u91, u92, u93, u94, u95, u96, u97, u98, u99, u100, u101, u102, u103, u104, u105, u106, u107, u108, u109, u110, u111, u112, u113, u114, u115, u116, u117, u118, u119, u120, u121, u122, u123, u124, u125, u126, u127, z128], []⟩ w')) (hxy : x ≠ y) (hD : ¬ tyOf a x = tyOf b x) (hp : p.2 = x) :
  Code.wp Tryz.prog (loopAt Tryz.f29 1) (Exit.then K Q0) ⟨#[z0, z1, z2, .pointer (some ⟨B, 0, none⟩), .pointer (some ⟨B + 1, 0, none⟩), z5, z6, z7, z8, .slice (some ⟨g, 0, none⟩) M cap, z10, z11, vo, .int .i64 ((k : Int) + 1), z14, z15, z16, z17, z18, z19, z20, z21, z22, z23, z24, z25, z26, z27, z28, z29, z30, z31, z32, z33, z34, z35, z36, z37, z38, z39, z40, z41, z42, z43, z44, z45, z46, z47, z48, z49, z50, z51, z52, z53, z54, z55, z56, z57, z58, z59, z60, z61, z62, z63, z64, z65, z66, z67, z68, z69, z70, z71, z72, z73, z74, z75, z76, z77, z78, z79, z80, z81, z82, z83, z84, z85, z86, z87, z88, z89, z90, z91, z92, z93, z94, z95, z96, z97, z98, z99, z100, z101, z102, z103, z104, z105, z106, z107, z108, z109, z110, z111, z112, z113, z114, z115, z116, z117, z118, z119, z120, z121, z122, z123, z124, z125, z126, z127, z128], []⟩ wr := by
 have hxy2 : (x == y) = false := by simpa using hxy
 have hgw : g < wr.heap.size := World.block_lt_of_cell? _ _ hxs
 have hk63 : wrap64 (k : Int) = (k : Int) := wrapN k (by omega)
 have hk64 : IntKind.i64.wrap (k : Int) = (k : Int) := wrapN2 k (by omega)
 have hkn : k < M := Nat.lt_of_succ_lt hkM
 obtain ⟨hk1, hk2⟩ := natlt1 hkM
 have hk3 : (0 : Int) ≤ (k : Int) := Int.natCast_nonneg _
 have hk4 : (0 : Int) ≤ (k : Int) + 1 := Int.le_trans hk3 (Int.le_add_one (Int.le_refl _))
 have hzr1 : B < wr.heap.size := by omega
 have hzr2 : B + 1 < wr.heap.size := by omega
 have KS : Hid (∀ wx, Below wr.heap.size wr wx → Below wr.heap.size wr wx ∧ wx.cell? ⟨B, 0, none⟩ = some (.slice p1 a.types.length c1) ∧ wx.cell? ⟨B, 1, none⟩ = some (.int .i64 a.first) ∧ wx.cell? ⟨B, 2, none⟩ = some (.slice p2 a.chs.length c2) ∧ wx.cell? ⟨B + 1, 0, none⟩ = some (.slice p3 b.types.length c3) ∧ wx.cell? ⟨B + 1, 1, none⟩ = some (.int .i64 b.first) ∧ wx.cell? ⟨B + 1, 2, none⟩ = some (.slice p4 b.chs.length c4)) := fun wx hb =>
  ⟨hb, (hb.cell (p := ⟨B, 0, none⟩) hzr1).trans x0, (hb.cell (p := ⟨B, 1, none⟩) hzr1).trans x1, (hb.cell (p := ⟨B, 2, none⟩) hzr1).trans x2, (hb.cell (p := ⟨B + 1, 0, none⟩) hzr2).trans y0, (hb.cell (p := ⟨B + 1, 1, none⟩) hzr2).trans y1, (hb.cell (p := ⟨B + 1, 2, none⟩) hzr2).trans y2⟩
 have KA : Hid (∀ wx, Below wr.heap.size wr wx → TabAt wx (Value.agg #[.slice p1 a.types.length c1, .int .i64 a.first, .slice p2 a.chs.length c2]) a) := fun wx hb => HVZ.out.below hb
 have KB : Hid (∀ wx, Below wr.heap.size wr wx → TabAt wx (Value.agg #[.slice p3 b.types.length c3, .int .i64 b.first, .slice p4 b.chs.length c4]) b) := fun wx hb => HUZ.out.below hb
 have K0 : Hid (Below wr.heap.size wr wr.drew.drew) := (Below.refl _ _).drew.drew
 have HOA := Lib.hid (fun W hW => Of_any a (Value.agg #[.slice p1 a.types.length c1, .int .i64 a.first, .slice p2 a.chs.length c2]) x W hW HA.out)
 have HOB := Lib.hid (fun W hW => Of_any b (Value.agg #[.slice p3 b.types.length c3, .int .i64 b.first, .slice p4 b.chs.length c4]) x W hW HB.out)
 obtain ⟨X, eX⟩ : ∃ X, tyOf a x = X := ⟨_, rfl⟩
 rw [eX] at HOA
 obtain ⟨Y, eY⟩ : ∃ Y, tyOf b x = Y := ⟨_, rfl⟩
 rw [eY] at HOB
 rw [eX, eY] at hD
 have HD : Hid (eqB a b x = false) := by show _ = _; unfold eqB; rw [eX, eY]; exact decide_eq_false hD
 have HEQ := fun W => eql_ty X Y W
 have hXY : decide (X = Y) = false := by exact decide_eq_false hD
 rw [hXY] at HEQ
 clear eX eY hXY
 clear x0 x1 x2 y0 y1 y2
 conv => arg 2; whnf
 go_wp2_with fail
 go_region_held3 (fun wx => wx.cell? ⟨g, k, none⟩ = some (.int .i64 x) ∧ wx.cell? ⟨g, k + 1, none⟩ = some (.int .i64 y)) (exact ⟨hxs, hys⟩) (first | fail)
 clear hxs hys
 go_wp2_with fail
 go_region_held3 (fun wx => Below wr.heap.size wr wx ∧ wx.cell? ⟨B, 0, none⟩ = some (.slice p1 a.types.length c1) ∧ wx.cell? ⟨B, 1, none⟩ = some (.int .i64 a.first) ∧ wx.cell? ⟨B, 2, none⟩ = some (.slice p2 a.chs.length c2) ∧ wx.cell? ⟨B + 1, 0, none⟩ = some (.slice p3 b.types.length c3) ∧ wx.cell? ⟨B + 1, 1, none⟩ = some (.int .i64 b.first) ∧ wx.cell? ⟨B + 1, 2, none⟩ = some (.slice p4 b.chs.length c4)) ((refine KS.out _ ?_; first | (with_reducible exact HB9.out) | (with_reducible exact HB8.out) | (with_reducible exact K0.out)))
  (first
   | (go_at_call_of 52 (Value.agg #[.slice p1 a.types.length c1, .int .i64 a.first, .slice p2 a.chs.length c2]); refine (HOA.out _ (KA.out _ (by assumption))).mono ?_; rintro e w8 ⟨rfl, hb8⟩; have HB8 := Lib.hid (Below.trans (by assumption) (hb8.mono (Below.size (by assumption)))); clear hb8)
   | (go_at_call_of 52 (Value.agg #[.slice p3 b.types.length c3, .int .i64 b.first, .slice p4 b.chs.length c4]); refine (HOB.out _ (KB.out _ (by assumption))).mono ?_; rintro e w9 ⟨rfl, hb9⟩; have HB9 := Lib.hid (Below.trans (by assumption) (hb9.mono (Below.size (by assumption)))); clear hb9))
 have HW := HB9
 have k1 := own_keep HAT.out fun g' e' => HW.out.block g' (World.ownsRow.lt HAT.out g' e').2
 have k2 := own_keep HOUT.out fun g' e' => HW.out.block g' (World.ownsRow.lt HOUT.out g' e').2
 obtain ⟨A, c9, rfl⟩ := own_sliceN k2
 obtain ⟨n, en⟩ : ∃ n, init.length = n := ⟨_, rfl⟩
 have hlen : (init ++ [p]).length = n + 1 := by rw [List.length_append, en]; rfl
 have hol := HOL.out
 rw [hlen] at k2 hol ⊢
 obtain ⟨G, hG⟩ : ∃ G, A = some ⟨G, 0, none⟩ := by
  rcases k2.2 with ⟨_, h0⟩ | ⟨g', cap', cur', e', _⟩
  ·exact absurd h0 (Nat.succ_ne_zero _)
  ·injection e' with e1
   exact ⟨g', e1⟩
 subst hG
 have hlc := World.ownsRow.cellAt k2 (n * 2 + 1) (nlast n)
 rw [← en, spCells_last init p, en] at hlc
 obtain ⟨px, py⟩ := p
 dsimp only at hlc hp
 have hGw : G < w9.heap.size := World.block_lt_of_cell? _ _ hlc
 obtain ⟨hn1, hn63, hn64, hn2, hn3, hn4⟩ := nfacts hol hkM hM
 have HEN := Lib.hid en
 have HLN := Lib.hid hlen
 clear en hlen hol
 have hpx : (py == x) = true := by simpa using hp
 obtain ⟨cur, hGn, hGb⟩ : ∃ cur, n1 ≤ G ∧ w9.heap[G]? = some (.cells cur 68 (0, 0)) := by
  rcases k2.2 with ⟨_, h0⟩ | ⟨g', cap', cur', e', hb', hg', _⟩
  ·exact absurd h0 (Nat.succ_ne_zero _)
  ·injection e' with e1
   injection e1 with e2
   injection e2 with e3
   subst e3
   exact ⟨cur', hb', hg'⟩
 have hfr : w9.frozen? ⟨G, n * 2 + 1, none⟩ = false := by simp [World.frozen?, hGb]
 have hap : g ≠ G := by
  rcases own_apart k1 k2 (by decide) with h3 | h3
  ·cases h3
  ·exact fun e => h3 (by rw [e]; rfl)
 have HK2 := Lib.hid k2
 have HK1 := Lib.hid k1
 have HP := Lib.hid hp
 clear k1 k2 hGb hp
 go_wp2_with fail
 have hol := HOL.out
 have j1 := own_keep (W' := w9.setCell ⟨G, n * 2 + 1, none⟩ (.int .i64 y)) HK1.out fun g' e' => by
  simp only [Value.ownBlock, Option.some.injEq] at e'
  subst e'
  exact Below.heap_setCell _ _ _ _ hap
 have j2 := own_setAt HK2.out (n * 2 + 1) (nlast n) (.int .i64 y)
 have kB : Below n1 wr (w9.setCell ⟨G, n * 2 + 1, none⟩ (.int .i64 y)) := (HW.out.mono hwr).setCell hGn _
 refine HK.out _ _ _ _ _ _ _ _ _ _ _ _ _ _ _ _ _ _ _ _ _ _ _ _ _ _ _ _ _ _ _ _ _ _ _ _ _ _ _ _ _ _ _ _ _ _ _ _ _ _ _ _ _ _ _ _ _ j1 ?_ (.inr kB)
 rw [stepB_join hxy HD.out HP.out, List.length_append]
 have e5 := spCells_set init (px, py) y
 rw [HEN.out] at e5 ⊢
 rw [e5] at j2
 exact j2
set_option maxRecDepth 100000 in
set_option maxHeartbeats 4000000 in
theorem Bt_r5 (a b : Tab) (p1 p2 p3 p4 : Option Addr) (c1 c2 c3 c4 : Nat) (B n1 g M cap k : Nat) (L : List Int) (x y : Int) (init : List (Int × Int)) (p : Int × Int) (vo : Value) (wr : World) (z0 z1 z2 z5 z6 z7 z8 z10 z11 z14 z15 z16 z17 z18 z19 z20 z21 z22 z23 z24 z25 z26 z27 z28 z29 z30 z31 z32 z33 z34 z35 z36 z37 z38 z39 z40 z41 z42 z43 z44 z45 z46 z47 z48 z49 z50 z51 z52 z53 z54 z55 z56 z57 z58 z59 z60 z61 z62 z63 z64 z65 z66 z67 z68 z69 z70 z71 z72 z73 z74 z75 z76 z77 z78 z79 z80 z81 z82 z83 z84 z85 z86 z87 z88 z89 z90 z91 z92 z93 z94 z95 z96 z97 z98 z99 z100 z101 z102 z103 z104 z105 z106 z107 z108 z109 z110 z111 z112 z113 z114 z115 z116 z117 z118 z119 z120 z121 z122 z123 z124 z125 z126 z127 z128 : Value) (K : Act → World → Prop) (Q0 : Exit → Act → World → Prop)
  (HA : Hid (chk a = 0)) (HB : Hid (chk b = 0)) (hB : B + 1 < n1) (hwr : n1 ≤ wr.heap.size)
  (HAT : Hid (wr.ownsRow n1 3 1 (.slice (some ⟨g, 0, none⟩) M cap) M (L.map (Value.int .i64))))
  (HOUT : Hid (wr.ownsRow n1 68 2 vo (init ++ [p]).length (spCells (init ++ [p]))))
  (hxs : wr.cell? ⟨g, k, none⟩ = some (.int .i64 x)) (hys : wr.cell? ⟨g, k + 1, none⟩ = some (.int .i64 y))
  (x0 : wr.cell? ⟨B, 0, none⟩ = some (.slice p1 a.types.length c1)) (x1 : wr.cell? ⟨B, 1, none⟩ = some (.int .i64 a.first)) (x2 : wr.cell? ⟨B, 2, none⟩ = some (.slice p2 a.chs.length c2))
  (y0 : wr.cell? ⟨B + 1, 0, none⟩ = some (.slice p3 b.types.length c3)) (y1 : wr.cell? ⟨B + 1, 1, none⟩ = some (.int .i64 b.first)) (y2 : wr.cell? ⟨B + 1, 2, none⟩ = some (.slice p4 b.chs.length c4))
  (HVZ : Hid (TabAt wr (Value.agg #[.slice p1 a.types.length c1, .int .i64 a.first, .slice p2 a.chs.length c2]) a)) (HUZ : Hid (TabAt wr (Value.agg #[.slice p3 b.types.length c3, .int .i64 b.first, .slice p4 b.chs.length c4]) b))
  (hkM : k + 1 < M) (hM : M ≤ 2002) (HOL : Hid ((init ++ [p]).length ≤ k))
  (HK : Hid (∀ (u12 u14 u15 u16 u76 u77 u78 u79 u80 u81 u82 u83 u84 u85 u86 u87 u88 u89 u90 u91 u92 u93 u94 u95 u96 u97 u98 u99 u100 u101 u102 u103 u104 u105 u106 u107 u108 u109 u110 u111 u112 u113 u114 u115 u116 u117 u118 u119 u120 u121 u122 u123 u124 u125 u126 u127 : Value) (w' : World), w'.ownsRow n1 3 1 (.slice (some ⟨g, 0, none⟩) M cap) M (L.map (Value.int .i64)) → w'.ownsRow n1 68 2 u12 (stepB (eqB a b) (init ++ [p]) x y).length (spCells (stepB (eqB a b) (init ++ [p]) x y)) → Below wr.heap.size wr w' ∨ Below n1 wr w' → K ⟨#[z0, z1, z2, .pointer (some ⟨B, 0, none⟩), .pointer (some ⟨B + 1, 0, none⟩), z5, z6, z7, z8, .slice (some ⟨g, 0, none⟩) M cap, z10, z11, u12, .int .i64 ((k : Int) + 1 + 1), u14, u15, u16, z17, z18, z19, z20, z21, z22, z23, z24, z25, z26, z27, z28, z29, z30, z31, z32, z33, z34, z35, z36, z37, z38, z39, z40, z41, z42, z43, z44, z45, z46, z47, z48, z49, z50, z51, z52, z53, z54, z55, z56, z57, z58, z59, z60, z61, z62, z63, z64, z65, z66, z67, z68, z69, z70, z71, z72, z73, z74, z75, u76, u77, u78, u79, u80, u81, u82, u83, u84, u85, u86, u87, u88, u89, u90, u91, u92, u93, u94, u95, u96, u97, u98, u99, u100, u101, u102, u103, u104, u105, u106, u107, u108, u109, u110, u111, u112, u113, u114, u115, u116, u117, u118, u119, u120, u121, u122, u123, u124, u125, u126, u127, z128], []⟩ w')) (hxy : x ≠ y) (hD : ¬ tyOf a x = tyOf b x) (hp : p.2 ≠ x) :
  Code.wp Tryz.prog (loopAt Tryz.f29 1) (Exit.then K Q0) ⟨#[z0, z1, z2, .pointer (some ⟨B, 0, none⟩), .pointer (some ⟨B + 1, 0, none⟩), z5, z6, z7, z8, .slice (some ⟨g, 0, none⟩) M cap, z10, z11, vo, .int .i64 ((k : Int) + 1), z14, z15, z16, z17, z18, z19, z20, z21, z22, z23, z24, z25, z26, z27, z28, z29, z30, z31, z32, z33, z34, z35, z36, z37, z38, z39, z40, z41, z42, z43, z44, z45, z46, z47, z48, z49, z50, z51, z52, z53, z54, z55, z56, z57, z58, z59, z60, z61, z62, z63, z64, z65, z66, z67, z68, z69, z70, z71, z72, z73, z74, z75, z76, z77, z78, z79, z80, z81, z82, z83, z84, z85, z86, z87, z88, z89, z90, z91, z92, z93, z94, z95, z96, z97, z98, z99, z100, z101, z102, z103, z104, z105, z106, z107, z108, z109, z110, z111, z112, z113, z114, z115, z116, z117, z118, z119, z120, z121, z122, z123, z124, z125, z126, z127, z128], []⟩ wr := by
 obtain ⟨i1, hi1, hq0, hq1, hq2⟩ := info_parts infoSpB
 have hxy2 : (x == y) = false := by simpa using hxy
 have hgw : g < wr.heap.size := World.block_lt_of_cell? _ _ hxs
 have hk63 : wrap64 (k : Int) = (k : Int) := wrapN k (by omega)
 have hk64 : IntKind.i64.wrap (k : Int) = (k : Int) := wrapN2 k (by omega)
 have hkn : k < M := Nat.lt_of_succ_lt hkM
 obtain ⟨hk1, hk2⟩ := natlt1 hkM
 have hk3 : (0 : Int) ≤ (k : Int) := Int.natCast_nonneg _
 have hk4 : (0 : Int) ≤ (k : Int) + 1 := Int.le_trans hk3 (Int.le_add_one (Int.le_refl _))
 have hzr1 : B < wr.heap.size := by omega
 have hzr2 : B + 1 < wr.heap.size := by omega
 have KS : Hid (∀ wx, Below wr.heap.size wr wx → Below wr.heap.size wr wx ∧ wx.cell? ⟨B, 0, none⟩ = some (.slice p1 a.types.length c1) ∧ wx.cell? ⟨B, 1, none⟩ = some (.int .i64 a.first) ∧ wx.cell? ⟨B, 2, none⟩ = some (.slice p2 a.chs.length c2) ∧ wx.cell? ⟨B + 1, 0, none⟩ = some (.slice p3 b.types.length c3) ∧ wx.cell? ⟨B + 1, 1, none⟩ = some (.int .i64 b.first) ∧ wx.cell? ⟨B + 1, 2, none⟩ = some (.slice p4 b.chs.length c4)) := fun wx hb =>
  ⟨hb, (hb.cell (p := ⟨B, 0, none⟩) hzr1).trans x0, (hb.cell (p := ⟨B, 1, none⟩) hzr1).trans x1, (hb.cell (p := ⟨B, 2, none⟩) hzr1).trans x2, (hb.cell (p := ⟨B + 1, 0, none⟩) hzr2).trans y0, (hb.cell (p := ⟨B + 1, 1, none⟩) hzr2).trans y1, (hb.cell (p := ⟨B + 1, 2, none⟩) hzr2).trans y2⟩
 have KA : Hid (∀ wx, Below wr.heap.size wr wx → TabAt wx (Value.agg #[.slice p1 a.types.length c1, .int .i64 a.first, .slice p2 a.chs.length c2]) a) := fun wx hb => HVZ.out.below hb
 have KB : Hid (∀ wx, Below wr.heap.size wr wx → TabAt wx (Value.agg #[.slice p3 b.types.length c3, .int .i64 b.first, .slice p4 b.chs.length c4]) b) := fun wx hb => HUZ.out.below hb
 have K0 : Hid (Below wr.heap.size wr wr.drew.drew) := (Below.refl _ _).drew.drew
 have HOA := Lib.hid (fun W hW => Of_any a (Value.agg #[.slice p1 a.types.length c1, .int .i64 a.first, .slice p2 a.chs.length c2]) x W hW HA.out)
 have HOB := Lib.hid (fun W hW => Of_any b (Value.agg #[.slice p3 b.types.length c3, .int .i64 b.first, .slice p4 b.chs.length c4]) x W hW HB.out)
 obtain ⟨X, eX⟩ : ∃ X, tyOf a x = X := ⟨_, rfl⟩
 rw [eX] at HOA
 obtain ⟨Y, eY⟩ : ∃ Y, tyOf b x = Y := ⟨_, rfl⟩
 rw [eY] at HOB
 rw [eX, eY] at hD
 have HD : Hid (eqB a b x = false) := by show _ = _; unfold eqB; rw [eX, eY]; exact decide_eq_false hD
 have HEQ := fun W => eql_ty X Y W
 have hXY : decide (X = Y) = false := by exact decide_eq_false hD
 rw [hXY] at HEQ
 clear eX eY hXY
 clear x0 x1 x2 y0 y1 y2
 conv => arg 2; whnf
 go_wp2_with fail
 go_region_held3 (fun wx => wx.cell? ⟨g, k, none⟩ = some (.int .i64 x) ∧ wx.cell? ⟨g, k + 1, none⟩ = some (.int .i64 y)) (exact ⟨hxs, hys⟩) (first | fail)
 clear hxs hys
 go_wp2_with fail
 go_region_held3 (fun wx => Below wr.heap.size wr wx ∧ wx.cell? ⟨B, 0, none⟩ = some (.slice p1 a.types.length c1) ∧ wx.cell? ⟨B, 1, none⟩ = some (.int .i64 a.first) ∧ wx.cell? ⟨B, 2, none⟩ = some (.slice p2 a.chs.length c2) ∧ wx.cell? ⟨B + 1, 0, none⟩ = some (.slice p3 b.types.length c3) ∧ wx.cell? ⟨B + 1, 1, none⟩ = some (.int .i64 b.first) ∧ wx.cell? ⟨B + 1, 2, none⟩ = some (.slice p4 b.chs.length c4)) ((refine KS.out _ ?_; first | (with_reducible exact HB9.out) | (with_reducible exact HB8.out) | (with_reducible exact K0.out)))
  (first
   | (go_at_call_of 52 (Value.agg #[.slice p1 a.types.length c1, .int .i64 a.first, .slice p2 a.chs.length c2]); refine (HOA.out _ (KA.out _ (by assumption))).mono ?_; rintro e w8 ⟨rfl, hb8⟩; have HB8 := Lib.hid (Below.trans (by assumption) (hb8.mono (Below.size (by assumption)))); clear hb8)
   | (go_at_call_of 52 (Value.agg #[.slice p3 b.types.length c3, .int .i64 b.first, .slice p4 b.chs.length c4]); refine (HOB.out _ (KB.out _ (by assumption))).mono ?_; rintro e w9 ⟨rfl, hb9⟩; have HB9 := Lib.hid (Below.trans (by assumption) (hb9.mono (Below.size (by assumption)))); clear hb9))
 have HW := HB9
 have k1 := own_keep HAT.out fun g' e' => HW.out.block g' (World.ownsRow.lt HAT.out g' e').2
 have k2 := own_keep HOUT.out fun g' e' => HW.out.block g' (World.ownsRow.lt HOUT.out g' e').2
 obtain ⟨A, c9, rfl⟩ := own_sliceN k2
 obtain ⟨n, en⟩ : ∃ n, init.length = n := ⟨_, rfl⟩
 have hlen : (init ++ [p]).length = n + 1 := by rw [List.length_append, en]; rfl
 have hol := HOL.out
 rw [hlen] at k2 hol ⊢
 obtain ⟨G, hG⟩ : ∃ G, A = some ⟨G, 0, none⟩ := by
  rcases k2.2 with ⟨_, h0⟩ | ⟨g', cap', cur', e', _⟩
  ·exact absurd h0 (Nat.succ_ne_zero _)
  ·injection e' with e1
   exact ⟨g', e1⟩
 subst hG
 have hlc := World.ownsRow.cellAt k2 (n * 2 + 1) (nlast n)
 rw [← en, spCells_last init p, en] at hlc
 obtain ⟨px, py⟩ := p
 dsimp only at hlc hp
 have hGw : G < w9.heap.size := World.block_lt_of_cell? _ _ hlc
 obtain ⟨hn1, hn63, hn64, hn2, hn3, hn4⟩ := nfacts hol hkM hM
 have HEN := Lib.hid en
 have HLN := Lib.hid hlen
 clear en hlen hol
 have hpx : (py == x) = false := by simpa using hp
 have HP := Lib.hid hp
 clear hp hn64
 have hol : n + 1 ≤ k := by have := HOL.out; rw [HLN.out] at this; exact this
 have HROW2 : (w9.alloc (.cells #[.int .i64 x, .int .i64 y] 68)).ownsRow n1 68 2 (.slice (some ⟨G, 0, none⟩) (n + 1) c9) (n + 1) (spCells (init ++ [(px, py)])) := World.ownsRow.alloc k2 _
 have HNEW2 := World.news_of_block (cs := #[.int .i64 x, .int .i64 y]) (t := 68) (fr := (0, 0)) (heap_alloc_new w9 (.cells #[.int .i64 x, .int .i64 y] 68))
 have hz9 : n1 ≤ w9.heap.size := Nat.le_trans hwr HW.out.size
 have HSZ2 : n1 ≤ (w9.alloc (.cells #[.int .i64 x, .int .i64 y] 68)).heap.size   := Nat.le_trans hz9 (by simp)
 have HL2 : (n + 1) + 1 ≤ maxLen := nmax1 (nmax0 hol hkM hM)
 have HLB2 : ((n + 1) + 1) * 16 ≤ 140737488355328 := nmax2 (nmax0 hol hkM hM)
 have HK2 := Lib.hid k2
 have HK1 := Lib.hid k1
 clear k1 k2
 go_wp2_with (at_builtin; refine wpList_append_own _ rfl _ _ 80 rfl n1 68 i1 (.agg #[.int .i64 0, .int .i64 0]) 2 16 undSpsB hi1 hq0 hq1 hq2 rfl (by decide) _ _ _ rfl HROW2 ⟨w9.heap.size, 0, none⟩ 1 1 [.int .i64 x, .int .i64 y] rfl rfl HNEW2 (by simp [Value.oneCell']) HL2 HLB2 HSZ2 ?_; intro v' w10 hown10 hgrow10 _)
 have kB : Below n1 wr w10 := ((HW.out.mono hwr).alloc hz9 _).grown hgrow10 HSZ2 fun q hq => (World.ownsRow.lt HROW2 q hq).1
 refine HK.out _ _ _ _ _ _ _ _ _ _ _ _ _ _ _ _ _ _ _ _ _ _ _ _ _ _ _ _ _ _ _ _ _ _ _ _ _ _ _ _ _ _ _ _ _ _ _ _ _ _ _ _ _ _ _ _ _ (own_kept2 (World.ownsRow.alloc HK1.out _) HROW2 (by decide) hgrow10) ?_ (.inr kB)
 rw [stepB_more hxy HD.out HP.out, List.length_append, HLN.out, spCells_snoc]
 exact hown10
set_option maxRecDepth 100000 in
set_option maxHeartbeats 4000000 in
theorem Between_ok (a b : Tab) (v u : Value) (f t : Int) (w : World) (hv : TabAt w v a) (hu : TabAt w u b) (ha : chk a = 0) (hb : chk b = 0) (hs : okSpan f t = true) :
  Calls Tryz.prog 29 #[v, u, spV (f, t)] w fun e w' => ∃ vo, e = .returned (.tuple #[vo, .int .i64 0]) ∧ w'.ownsRow w.heap.size 68 2 vo (outB a b f t).length (spCells (outB a b f t)) ∧ Below w.heap.size w w' := by
 obtain ⟨p1, c1, p2, c2, rfl⟩ := tabForms hv
 obtain ⟨p3, c3, p4, c4, rfl⟩ := tabForms hu
 obtain ⟨W0, eW⟩ : ∃ W0, (((w.alloc (.cells #[.slice p1 a.types.length c1, .int .i64 a.first, .slice p2 a.chs.length c2] 58)).alloc (.cells #[.slice p3 b.types.length c3, .int .i64 b.first, .slice p4 b.chs.length c4] 58)).alloc (.cells #[.int .i64 f, .int .i64 t] 68)) = W0 := ⟨_, rfl⟩
 have hW0 : W0.heap.size = w.heap.size + 3 := by rw [← eW]; simp
 have hbW : Below w.heap.size w W0 := by rw [← eW]; exact (((Below.refl _ _).alloc (Nat.le_refl _) _).alloc (by simp) _).alloc (by simp; omega) _
 have hX : W0.heap[w.heap.size]? = some (.cells #[.slice p1 a.types.length c1, .int .i64 a.first, .slice p2 a.chs.length c2] 58 (0, 0)) := by
  rw [← eW, Below.heap_alloc _ _ _ (by simp; omega), Below.heap_alloc _ _ _ (by simp)]; exact heap_alloc_new w _
 have hY : W0.heap[w.heap.size + 1]? = some (.cells #[.slice p3 b.types.length c3, .int .i64 b.first, .slice p4 b.chs.length c4] 58 (0, 0)) := by
  rw [← eW, Below.heap_alloc _ _ _ (by simp)]
  exact alloc_at _ _ _ (by simp)
 have hZ : W0.heap[w.heap.size + 2]? = some (.cells #[.int .i64 f, .int .i64 t] 68 (0, 0)) := by
  rw [← eW]
  exact alloc_at _ _ _ (by simp)
 have w0 : W0.cell? ⟨w.heap.size, 0, none⟩ = some (.slice p1 a.types.length c1) := (cell_of_row W0 _ 0 _ _ _ hX).trans rfl
 have w0a : W0.cell? ⟨w.heap.size, 1, none⟩ = some (.int .i64 a.first) := (cell_of_row W0 _ 1 _ _ _ hX).trans rfl
 have w0b : W0.cell? ⟨w.heap.size, 2, none⟩ = some (.slice p2 a.chs.length c2) := (cell_of_row W0 _ 2 _ _ _ hX).trans rfl
 have w1' : W0.cell? ⟨w.heap.size + 1, 0, none⟩ = some (.slice p3 b.types.length c3) := (cell_of_row W0 _ 0 _ _ _ hY).trans rfl
 have w1a : W0.cell? ⟨w.heap.size + 1, 1, none⟩ = some (.int .i64 b.first) := (cell_of_row W0 _ 1 _ _ _ hY).trans rfl
 have w1b : W0.cell? ⟨w.heap.size + 1, 2, none⟩ = some (.slice p4 b.chs.length c4) := (cell_of_row W0 _ 2 _ _ _ hY).trans rfl
 have HX := Lib.hid hX
 have HY := Lib.hid hY
 have HZ := Lib.hid hZ
 have HBW := Lib.hid hbW
 have HV := Lib.hid (hv.below hbW)
 have HU := Lib.hid (hu.below hbW)
 have HCK := Lib.hid (ncheck_any a b _ _ W0 HV.out HU.out)
 have h0 : chk2 a b = 0 := by unfold chk2; rw [if_pos ha, hb]
 rw [h0] at HCK
 have HA := Lib.hid ha
 have HB := Lib.hid hb
 unfold okSpan at hs
 simp only [Bool.and_eq_true, decide_eq_true_eq] at hs
 obtain ⟨⟨hs1, hs2⟩, hs3⟩ := hs
 have HT1 := Lib.hid (fun W => isTime_any f W)
 rw [hs1] at HT1
 have HT2 := Lib.hid (fun W => isTime_any t W)
 rw [hs2] at HT2
 have hs4 : ¬ t < f := by omega
 obtain ⟨G, eG⟩ : ∃ G, outB a b f t = G := ⟨_, rfl⟩
 rw [eG]
 have EG := Lib.hid eG
 clear hX hY hZ hbW hv hu h0 ha hb hs1 hs2 eG
 go_enter Tryz.func29, Tryz.ntmps29
 show Code.wp _ _ _ _ _
 rw [show spV (f, t) = .agg #[.int .i64 f, .int .i64 t] from rfl]
 go_wp2_with fail
 refine HCK.out.mono ?_
 rintro e w1 ⟨rfl, hb1⟩
 clear eW w0 w0a w0b w1' w1a w1b
 have HX1 := Lib.hid ((hb1.block w.heap.size (by omega)).trans HX.out)
 have HY1 := Lib.hid ((hb1.block (w.heap.size + 1) (by omega)).trans HY.out)
 have HZ1 := Lib.hid ((hb1.block (w.heap.size + 2) (by omega)).trans HZ.out)
 have HV1 := Lib.hid (HV.out.below hb1)
 have HU1 := Lib.hid (HU.out.below hb1)
 have HB1 := Lib.hid (HBW.out.trans (hb1.mono (by omega)))
 have hz1 : w.heap.size + 1 + 1 < w1.heap.size := by have := hb1.size; omega
 have hz1a : w.heap.size < w1.heap.size := by omega
 have hz1b : w.heap.size + 1 < w1.heap.size := by omega
 have x2 : w1.cell? ⟨w.heap.size, 2, none⟩ = some (.slice p2 a.chs.length c2) := (cell_of_row w1 _ 2 _ _ _ HX1.out).trans rfl
 have y2 : w1.cell? ⟨w.heap.size + 1, 2, none⟩ = some (.slice p4 b.chs.length c4) := (cell_of_row w1 _ 2 _ _ _ HY1.out).trans rfl
 have s0 : w1.cell? ⟨w.heap.size + 1 + 1, 0, none⟩ = some (.int .i64 f) := (cell_of_row w1 _ 0 _ _ _ HZ1.out).trans rfl
 have s1 : w1.cell? ⟨w.heap.size + 1 + 1, 1, none⟩ = some (.int .i64 t) := (cell_of_row w1 _ 1 _ _ _ HZ1.out).trans rfl
 clear hb1
 go_wp2_with (first
  | (go_at_call_of 68 (Value.int .i64 f); refine (HT1.out _).mono ?_; rintro e w' ⟨rfl, rfl⟩)
  | (go_at_call_of 68 (Value.int .i64 t); refine (HT2.out _).mono ?_; rintro e w' ⟨rfl, rfl⟩)
  | fail)
 have HS := Lib.hid (And.intro hs3 hs4)
 clear hs3 hs4
 obtain ⟨-, a2, -⟩ := tabOf_slices HV1.out
 obtain ⟨-, b2, -⟩ := tabOf_slices HU1.out
 obtain ⟨W2, e2⟩ : ∃ W2, (w1.alloc (.cells #[.int .i64 f, .int .i64 t] 3)).alloc (.cells #[.slice p2 a.chs.length c2, .slice p4 b.chs.length c4] 56) = W2 := ⟨_, rfl⟩
 rw [e2]
 have hb2 : Below w1.heap.size w1 W2 := by rw [← e2]; exact ((Below.refl _ _).alloc (Nat.le_refl _) _).alloc (by simp) _
 have hW2 : W2.heap.size = w1.heap.size + 2 := by rw [← e2]; simp
 have hP : W2.heap[w1.heap.size + 1]? = some (.cells #[.slice p2 a.chs.length c2, .slice p4 b.chs.length c4] 56 (0, 0)) := by rw [← e2]; exact alloc_at _ _ _ (by simp)
 have hat : W2.ownsRow w1.heap.size 3 1 (.slice (some ⟨w1.heap.size, 0, none⟩) 2 2) 2 [.int .i64 f, .int .i64 t] := by
  rw [← e2]
  exact World.ownsRow.alloc (World.ownsRow_lit w1 #[.int .i64 f, .int .i64 t] 2 (Nat.le_refl _) (by decide) rfl) _
 have okA := chk_ok a HA.out
 have okB := chk_ok b HB.out
 have hlA := okA.chs
 have hlB := okB.chs
 have HCN := Lib.hid (Concat_any a.chs b.chs _ _ (w1.heap.size + 1) 2 W2 (a2.below hb2) (b2.below hb2) hlA hlB ((cell_of_row W2 _ 0 _ _ _ hP).trans rfl) ((cell_of_row W2 _ 1 _ _ _ hP).trans rfl))
 refine HCN.out.mono ?_
 obtain ⟨C, eC⟩ : ∃ C, a.chs ++ b.chs = C := ⟨_, rfl⟩
 have hCl : C.length ≤ 2000 := by rw [← eC, List.length_append]; omega
 rw [eC]
 have EC := Lib.hid eC
 have hatk := fun (W : World) (hb : Below W2.heap.size W2 W) => own_keep (W' := W) hat (fun g' e' => hb.block g' (by simp only [Value.ownBlock, Option.some.injEq] at e'; omega))
 have HATK := Lib.hid hatk
 have HB2 := Lib.hid hb2
 have HOKA := Lib.hid okA
 have HOKB := Lib.hid okB
 clear hat hatk hP e2 a2 b2 x2 y2 HCN eC hb2 okA okB hlA hlB
 rintro e w3 ⟨vC, rfl, hvC, hb3⟩
 rw [hW2] at hvC
 obtain ⟨AC, capC, rfl⟩ := own_sliceN hvC
 have HAT3 := Lib.hid (HATK.out w3 hb3)
 have HVC := Lib.hid hvC
 have HB3 := Lib.hid (HB2.out.trans (hb3.mono (by omega)))
 have hz3 : w1.heap.size + 2 ≤ w3.heap.size := by have := hb3.size; omega
 have s0 := (HB3.out.cell (p := ⟨w.heap.size + 1 + 1, 0, none⟩) hz1).trans s0
 have s1 := (HB3.out.cell (p := ⟨w.heap.size + 1 + 1, 1, none⟩) hz1).trans s1
 have HS0 := Lib.hid s0
 have HS1 := Lib.hid s1
 clear hvC hb3 s0 s1 HATK hW2
 obtain ⟨i0, hi, hzz0, hzz1, hzz2⟩ := info_parts infoIntB
 go_wp2_with fail
 go_loopw [9, 52] (fun s9 s52 wr => ∃ k : Nat, k ≤ C.length ∧ s52 = .int .i64 k ∧ wr.ownsRow w1.heap.size 3 1 s9 (ptsB (C.take k) f t).length ((ptsB (C.take k) f t).map (Value.int .i64)) ∧ wr.ownsRow (w1.heap.size + 2) 61 2 (.slice AC C.length capC) C.length (chCells C) ∧ Below w1.heap.size w1 wr) (fun _ s52 _ => C.length - (intOf s52).toNat)
 case atStart => exact ⟨0, Nat.zero_le _, rfl, HAT3.out, HVC.out, HB3.out⟩
 case round =>
  obtain ⟨k, hk, rfl, hat, hvc, hbr⟩ := hrel
  have HAT := Lib.hid hat
  have HVR := Lib.hid hvc
  have HBR := Lib.hid hbr
  have hwr : w1.heap.size ≤ wr.heap.size := hbr.size
  have hl0 : w.heap.size + 1 + 1 < wr.heap.size := by omega
  have s0 : wr.cell? ⟨w.heap.size + 1 + 1, 0, none⟩ = some (.int .i64 f) := (hbr.cell (p := ⟨w.heap.size + 1 + 1, 0, none⟩) hz1).trans ((HB3.out.cell (p := ⟨w.heap.size + 1 + 1, 0, none⟩) hz1).symm.trans HS0.out)
  have s1 : wr.cell? ⟨w.heap.size + 1 + 1, 1, none⟩ = some (.int .i64 t) := (hbr.cell (p := ⟨w.heap.size + 1 + 1, 1, none⟩) hz1).trans ((HB3.out.cell (p := ⟨w.heap.size + 1 + 1, 1, none⟩) hz1).symm.trans HS1.out)
  clear hat hvc hbr
  by_cases hkL : k < C.length
  ·obtain ⟨⟨pp, cc, ep, hsh⟩, -⟩ := own_chs HVR.out (by omega)
   obtain ⟨cb, co, rfl, hcb, hcat⟩ := hsh (by intro e; rw [e] at hkL; simp at hkL)
   injection ep with ep1 ep2 ep3
   subst ep1
   subst ep3
   obtain ⟨c, ec⟩ : ∃ c, C[k] = c := ⟨_, rfl⟩
   have h1 := hcat k hkL
   rw [ec] at h1
   obtain ⟨g0, g1⟩ := h1
   have hpl : (ptsB (C.take k) f t).length ≤ k + 2 := by
    have e1 := List.length_filter_le (inSB f t) (C.take k)
    have e2 : (C.take k).length ≤ k := List.length_take_le _ _
    simp only [ptsB, List.length_cons, List.length_map]
    omega
   have HEC : Hid (∀ hk : k < C.length, C.take (k + 1) = C.take k ++ [c]) := fun hk => by rw [List.take_succ_eq_append_getElem hk, ec]
   have HML : (ptsB (C.take k) f t).length + 1 ≤ maxLen := by simp only [maxLen]; omega
   have HMB : ((ptsB (C.take k) f t).length + 1) * 8 ≤ 140737488355328 := by omega
   have HROW : ((wr.alloc (.cells #[.int .i64 c.t, .int .i64 c.k] 61)).alloc (.cells #[.int .i64 c.t] 3)).ownsRow w1.heap.size 3 1 u9 (ptsB (C.take k) f t).length ((ptsB (C.take k) f t).map (Value.int .i64)) := World.ownsRow.alloc (World.ownsRow.alloc HAT.out _) _
   have HNEW := World.news_of_block (cs := #[.int .i64 c.t]) (t := 3) (fr := (0, 0)) (alloc_at (wr.alloc (.cells #[.int .i64 c.t, .int .i64 c.k] 61)) (.cells #[.int .i64 c.t] 3) (wr.heap.size + 1) (by simp))
   have HSZ : w1.heap.size ≤ ((wr.alloc (.cells #[.int .i64 c.t, .int .i64 c.k] 61)).alloc (.cells #[.int .i64 c.t] 3)).heap.size := by simp; omega
   clear hcat hsh ec
   by_cases h1 : f < c.t
   ·by_cases h2 : c.t < t
    ·go_wp2_with (at_builtin; refine wpList_append_own _ rfl _ _ 127 rfl w1.heap.size 3 i0 (.int .i64 0) 1 8 undIntsB hi hzz0 hzz1 hzz2 rfl (by decide) _ _ _ rfl HROW ⟨wr.heap.size + 1, 0, none⟩ 1 1 [.int .i64 c.t] rfl rfl HNEW (by simp [Value.oneCell']) HML HMB HSZ ?_; intro v' w5 hown5 hgrow5 _)
     go_roundw
     case rel =>
      refine ⟨k + 1, hkL, by go_num, ?_, chs_kept (World.ownsRow.alloc (World.ownsRow.alloc HVR.out _) _) HROW hgrow5, ((HBR.out.alloc hwr _).alloc (by simp; omega) _).grown hgrow5 HSZ fun q hq => (World.ownsRow.lt HROW q hq).1⟩
      rw [HEC.out hkL, ptsB_hit (by simp [inSB, h1, h2]), List.length_append, List.map_append]
      exact hown5
     case measure => simp [intOf]; omega
    ·go_wp2_with fail
     go_roundw
     case rel =>
      refine ⟨k + 1, hkL, by go_num, ?_, World.ownsRow.alloc HVR.out _, HBR.out.alloc hwr _⟩
      rw [HEC.out hkL, ptsB_miss (by simp [inSB, h2])]
      exact World.ownsRow.alloc HAT.out _
     case measure => simp [intOf]; omega
   ·go_wp2_with fail
    go_roundw
    case rel =>
     refine ⟨k + 1, hkL, by go_num, ?_, World.ownsRow.alloc HVR.out _, HBR.out.alloc hwr _⟩
     rw [HEC.out hkL, ptsB_miss (by simp [inSB, h1])]
     exact World.ownsRow.alloc HAT.out _
    case measure => simp [intOf]; omega
  ·obtain rfl : k = C.length := by omega
   rw [List.take_length] at HAT
   have hPn : (ptsB C f t).length = (C.filter (inSB f t)).length + 2 := by simp [ptsB]
   have hPl : (ptsB C f t).length ≤ 2002 := by
    have := List.length_filter_le (inSB f t) C
    omega
   obtain ⟨hx1, hx2⟩ := HAT.out
   rcases hx2 with ⟨_, h0⟩ | ⟨g, cap, cur, rfl, hbg, hg, hnc, hcm, hcs, htake⟩
   ·omega
   have hH : Sort.Holds (Value.int .i64) wr g 0 (ptsB C f t).toArray := holds_of_blockI hg (by simpa using htake)
   have hgl : g < wr.heap.size := (Array.getElem?_eq_some_iff.1 hg).1
   have HSO := Lib.hid (Tryz.slices_Sort_int g 0 cap (ptsB C f t) wr hH hgl (by omega))
   have HG := Lib.hid hg
   have HCS := Lib.hid hcs
   have HPN := Lib.hid hPn
   clear hx1 hH hg hcs htake s0 s1 hPn
   go_wp2_with fail
   refine HSO.out.mono ?_
   rintro e w6 ⟨rfl, nn, os, e6⟩
   have hgr6 := grownBy_sortedI (w := wr) (g := g) (n := nn) (os := os) ((ptsB C f t).mergeSort fun x y => decide (x ≤ y)).toArray
   have hl6 : ((ptsB C f t).mergeSort fun x y => decide (x ≤ y)).length = (ptsB C f t).length := List.length_mergeSort _
   have hro := ownsRow_sortedI (base := w1.heap.size) (n := nn) (os := os) (ts := (ptsB C f t).mergeSort fun x y => decide (x ≤ y)) hl6 hbg HG.out hnc hcm HCS.out
   rw [← e6] at hgr6 hro
   have HB6 := Lib.hid (HBR.out.grown hgr6 hwr fun q hq => by cases hq; exact hbg)
   have EGL : Hid (G = outN (eqB a b) ((ptsB C f t).mergeSort fun x y => decide (x ≤ y)) ((ptsB C f t).length - 1)) := by
    show _ = _
    rw [← EG.out, ← hl6]
    unfold outB srtB
    rw [EC.out]
   obtain ⟨L, eL⟩ : ∃ L, ((ptsB C f t).mergeSort fun x y => decide (x ≤ y)) = L := ⟨_, rfl⟩
   obtain ⟨M, eM⟩ : ∃ M, (ptsB C f t).length = M := ⟨_, rfl⟩
   rw [eL] at hl6 hro EGL
   have hPn := HPN.out
   rw [eM] at hl6 hro EGL hPn hPl ⊢
   have HRO := Lib.hid hro
   have HLM := Lib.hid hl6
   have hM2 : 2 ≤ M := by omega
   clear hgr6 hro e6 eL eM HSO hl6 hPn HPN HG HCS HAT HBR hnc hcm HVR HVC HAT3 EG EC
   obtain ⟨E, eE⟩ : ∃ E, eqB a b = E := ⟨_, rfl⟩
   rw [eE] at EGL
   have EE := Lib.hid eE
   clear eE
   go_wp2_with fail
   go_loopw [12, 13] (fun s12 s13 w7 => ∃ k : Nat, k + 1 ≤ M ∧ s13 = .int .i64 ((k : Int) + 1) ∧ w7.ownsRow w1.heap.size 3 1 (.slice (some ⟨g, 0, none⟩) M cap) M (L.map (Value.int .i64)) ∧ w7.ownsRow w1.heap.size 68 2 s12 (outN E L k).length (spCells (outN E L k)) ∧ Below w1.heap.size w1 w7) (fun _ s13 _ => M - (intOf s13).toNat)
   case atStart => exact ⟨0, by omega, rfl, HRO.out, World.ownsRow_nil _ _ _ _, HB6.out⟩
   case round =>
    obtain ⟨k, hk, rfl, hat, hout, hb7⟩ := hrel
    have HAT := Lib.hid hat
    have HOUT := Lib.hid hout
    have HB7 := Lib.hid hb7
    have hw7 : w1.heap.size ≤ wr.heap.size := hb7.size
    clear hat hout hb7
    by_cases hkM : k + 1 < M
    ·have hxs := HAT.out.cellAt k (by rw [Nat.mul_one]; exact Nat.lt_of_succ_lt hkM)
     have hys := HAT.out.cellAt (k + 1) (by rw [Nat.mul_one]; exact hkM)
     have hLM := HLM.out
     have ex : (L.map (Value.int .i64))[k]? = some (.int .i64 (L.getD k 0)) := by simp [List.getD, List.getElem?_eq_getElem (show k < L.length by rw [hLM]; exact Nat.lt_of_succ_lt hkM)]
     have ey : (L.map (Value.int .i64))[k + 1]? = some (.int .i64 (L.getD (k + 1) 0)) := by simp [List.getD, List.getElem?_eq_getElem (show k + 1 < L.length by rw [hLM]; exact hkM)]
     rw [ex] at hxs
     rw [ey] at hys
     have HST : Hid (outN E L (k + 1) = stepB E (outN E L k) (L.getD k 0) (L.getD (k + 1) 0)) := rfl
     have HOL : (outN E L k).length ≤ k := outN_len E L k
     generalize L.getD k 0 = x at hxs HST
     generalize L.getD (k + 1) 0 = y at hys HST
     obtain ⟨O, eO⟩ : ∃ O, outN E L k = O := ⟨_, rfl⟩
     rw [eO] at HST HOL HOUT
     clear ex ey hLM
     have h7 := HB7.out
     have HX7 := (h7.block w.heap.size (by omega)).trans HX1.out
     have HY7 := (h7.block (w.heap.size + 1) (by omega)).trans HY1.out
     have x0 : wr.cell? ⟨w.heap.size, 0, none⟩ = some (.slice p1 a.types.length c1) := (cell_of_row wr _ 0 _ _ _ HX7).trans rfl
     have x1 : wr.cell? ⟨w.heap.size, 1, none⟩ = some (.int .i64 a.first) := (cell_of_row wr _ 1 _ _ _ HX7).trans rfl
     have x2 : wr.cell? ⟨w.heap.size, 2, none⟩ = some (.slice p2 a.chs.length c2) := (cell_of_row wr _ 2 _ _ _ HX7).trans rfl
     have y0 : wr.cell? ⟨w.heap.size + 1, 0, none⟩ = some (.slice p3 b.types.length c3) := (cell_of_row wr _ 0 _ _ _ HY7).trans rfl
     have y1 : wr.cell? ⟨w.heap.size + 1, 1, none⟩ = some (.int .i64 b.first) := (cell_of_row wr _ 1 _ _ _ HY7).trans rfl
     have y2 : wr.cell? ⟨w.heap.size + 1, 2, none⟩ = some (.slice p4 b.chs.length c4) := (cell_of_row wr _ 2 _ _ _ HY7).trans rfl
     have HVZ := Lib.hid (HV1.out.below (h7.mono (Nat.le_refl _)))
     have HUZ := Lib.hid (HU1.out.below (h7.mono (Nat.le_refl _)))
     have HREC : Hid (∀ w', Below wr.heap.size wr w' ∨ Below w1.heap.size wr w' → Below w1.heap.size w1 w') := fun w' h => h.elim (fun h => HB7.out.trans (h.mono hw7)) (fun h => HB7.out.trans h)
     have ee := EE.out
     subst ee
     clear h7 HX7 HY7
     by_cases hxy : x = y
     ·refine Bt_r1 a b p1 p2 p3 p4 c1 c2 c3 c4 w.heap.size w1.heap.size g M cap k L x y O _ wr _ _ _ _ _ _ _ _ _ _ _ _ _ _ _ _ _ _ _ _ _ _ _ _ _ _ _ _ _ _ _ _ _ _ _ _ _ _ _ _ _ _ _ _ _ _ _ _ _ _ _ _ _ _ _ _ _ _ _ _ _ _ _ _ _ _ _ _ _ _ _ _ _ _ _ _ _ _ _ _ _ _ _ _ _ _ _ _ _ _ _ _ _ _ _ _ _ _ _ _ _ _ _ _ _ _ _ _ _ _ _ _ _ _ _ _ _ _ _ _ _ _ _ _ _ _ HA HB hz1b hw7 HAT HOUT hxs hys x0 x1 x2 y0 y1 y2 HVZ HUZ hkM hPl (Lib.hid HOL) (Lib.hid ?_) hxy
      intro u_0 u_1 u_2 u_3 u_4 u_5 u_6 u_7 u_8 u_9 u_10 u_11 u_12 u_13 u_14 u_15 u_16 u_17 u_18 u_19 u_20 u_21 u_22 u_23 u_24 u_25 u_26 u_27 u_28 u_29 u_30 u_31 u_32 u_33 u_34 u_35 u_36 u_37 u_38 u_39 u_40 u_41 u_42 u_43 u_44 u_45 u_46 u_47 u_48 u_49 u_50 u_51 u_52 u_53 u_54 u_55 wz k1 k2 k3
      dsimp only
      go_roundw
      case rel => exact ⟨k + 1, hkM, by go_num, k1, by rw [HST.out]; exact k2, HREC.out wz k3⟩
      case measure => simp [intOf]; omega
     ·by_cases hD : tyOf a x = tyOf b x
      ·refine Bt_r2 a b p1 p2 p3 p4 c1 c2 c3 c4 w.heap.size w1.heap.size g M cap k L x y O _ wr _ _ _ _ _ _ _ _ _ _ _ _ _ _ _ _ _ _ _ _ _ _ _ _ _ _ _ _ _ _ _ _ _ _ _ _ _ _ _ _ _ _ _ _ _ _ _ _ _ _ _ _ _ _ _ _ _ _ _ _ _ _ _ _ _ _ _ _ _ _ _ _ _ _ _ _ _ _ _ _ _ _ _ _ _ _ _ _ _ _ _ _ _ _ _ _ _ _ _ _ _ _ _ _ _ _ _ _ _ _ _ _ _ _ _ _ _ _ _ _ _ _ _ _ _ _ HA HB hz1b hw7 HAT HOUT hxs hys x0 x1 x2 y0 y1 y2 HVZ HUZ hkM hPl (Lib.hid HOL) (Lib.hid ?_) hxy hD
       intro u_0 u_1 u_2 u_3 u_4 u_5 u_6 u_7 u_8 u_9 u_10 u_11 u_12 u_13 u_14 u_15 u_16 u_17 u_18 u_19 u_20 u_21 u_22 u_23 u_24 u_25 u_26 u_27 u_28 u_29 u_30 u_31 u_32 u_33 u_34 u_35 u_36 u_37 u_38 u_39 u_40 u_41 u_42 u_43 u_44 u_45 u_46 u_47 u_48 u_49 u_50 u_51 u_52 u_53 u_54 u_55 wz k1 k2 k3
       dsimp only
       go_roundw
       case rel => exact ⟨k + 1, hkM, by go_num, k1, by rw [HST.out]; exact k2, HREC.out wz k3⟩
       case measure => simp [intOf]; omega
      ·rcases List.eq_nil_or_concat O with eN | ⟨init, p, eN⟩
       ·subst eN
        refine Bt_r3 a b p1 p2 p3 p4 c1 c2 c3 c4 w.heap.size w1.heap.size g M cap k L x y _ wr _ _ _ _ _ _ _ _ _ _ _ _ _ _ _ _ _ _ _ _ _ _ _ _ _ _ _ _ _ _ _ _ _ _ _ _ _ _ _ _ _ _ _ _ _ _ _ _ _ _ _ _ _ _ _ _ _ _ _ _ _ _ _ _ _ _ _ _ _ _ _ _ _ _ _ _ _ _ _ _ _ _ _ _ _ _ _ _ _ _ _ _ _ _ _ _ _ _ _ _ _ _ _ _ _ _ _ _ _ _ _ _ _ _ _ _ _ _ _ _ _ _ _ _ _ _ HA HB hz1b hw7 HAT HOUT hxs hys x0 x1 x2 y0 y1 y2 HVZ HUZ hkM hPl (Lib.hid HOL) (Lib.hid ?_) hxy hD
        intro u_0 u_1 u_2 u_3 u_4 u_5 u_6 u_7 u_8 u_9 u_10 u_11 u_12 u_13 u_14 u_15 u_16 u_17 u_18 u_19 u_20 u_21 u_22 u_23 u_24 u_25 u_26 u_27 u_28 u_29 u_30 u_31 u_32 u_33 u_34 u_35 u_36 u_37 u_38 u_39 u_40 u_41 u_42 u_43 u_44 u_45 u_46 u_47 u_48 u_49 u_50 u_51 u_52 u_53 u_54 u_55 wz k1 k2 k3
        dsimp only
        go_roundw
        case rel => exact ⟨k + 1, hkM, by go_num, k1, by rw [HST.out]; exact k2, HREC.out wz k3⟩
        case measure => simp [intOf]; omega
       ·rw [List.concat_eq_append] at eN
        subst eN
        by_cases hp : p.2 = x
        ·refine Bt_r4 a b p1 p2 p3 p4 c1 c2 c3 c4 w.heap.size w1.heap.size g M cap k L x y init p _ wr _ _ _ _ _ _ _ _ _ _ _ _ _ _ _ _ _ _ _ _ _ _ _ _ _ _ _ _ _ _ _ _ _ _ _ _ _ _ _ _ _ _ _ _ _ _ _ _ _ _ _ _ _ _ _ _ _ _ _ _ _ _ _ _ _ _ _ _ _ _ _ _ _ _ _ _ _ _ _ _ _ _ _ _ _ _ _ _ _ _ _ _ _ _ _ _ _ _ _ _ _ _ _ _ _ _ _ _ _ _ _ _ _ _ _ _ _ _ _ _ _ _ _ _ _ _ HA HB hz1b hw7 HAT HOUT hxs hys x0 x1 x2 y0 y1 y2 HVZ HUZ hkM hPl (Lib.hid HOL) (Lib.hid ?_) hxy hD hp
         intro u_0 u_1 u_2 u_3 u_4 u_5 u_6 u_7 u_8 u_9 u_10 u_11 u_12 u_13 u_14 u_15 u_16 u_17 u_18 u_19 u_20 u_21 u_22 u_23 u_24 u_25 u_26 u_27 u_28 u_29 u_30 u_31 u_32 u_33 u_34 u_35 u_36 u_37 u_38 u_39 u_40 u_41 u_42 u_43 u_44 u_45 u_46 u_47 u_48 u_49 u_50 u_51 u_52 u_53 u_54 u_55 wz k1 k2 k3
         dsimp only
         go_roundw
         case rel => exact ⟨k + 1, hkM, by go_num, k1, by rw [HST.out]; exact k2, HREC.out wz k3⟩
         case measure => simp [intOf]; omega
        ·refine Bt_r5 a b p1 p2 p3 p4 c1 c2 c3 c4 w.heap.size w1.heap.size g M cap k L x y init p _ wr _ _ _ _ _ _ _ _ _ _ _ _ _ _ _ _ _ _ _ _ _ _ _ _ _ _ _ _ _ _ _ _ _ _ _ _ _ _ _ _ _ _ _ _ _ _ _ _ _ _ _ _ _ _ _ _ _ _ _ _ _ _ _ _ _ _ _ _ _ _ _ _ _ _ _ _ _ _ _ _ _ _ _ _ _ _ _ _ _ _ _ _ _ _ _ _ _ _ _ _ _ _ _ _ _ _ _ _ _ _ _ _ _ _ _ _ _ _ _ _ _ _ _ _ _ _ HA HB hz1b hw7 HAT HOUT hxs hys x0 x1 x2 y0 y1 y2 HVZ HUZ hkM hPl (Lib.hid HOL) (Lib.hid ?_) hxy hD hp
         intro u_0 u_1 u_2 u_3 u_4 u_5 u_6 u_7 u_8 u_9 u_10 u_11 u_12 u_13 u_14 u_15 u_16 u_17 u_18 u_19 u_20 u_21 u_22 u_23 u_24 u_25 u_26 u_27 u_28 u_29 u_30 u_31 u_32 u_33 u_34 u_35 u_36 u_37 u_38 u_39 u_40 u_41 u_42 u_43 u_44 u_45 u_46 u_47 u_48 u_49 u_50 u_51 u_52 u_53 u_54 u_55 wz k1 k2 k3
         dsimp only
         go_roundw
         case rel => exact ⟨k + 1, hkM, by go_num, k1, by rw [HST.out]; exact k2, HREC.out wz k3⟩
         case measure => simp [intOf]; omega
    ·obtain rfl : M = k + 1 := by omega
     go_wp2_with fail
     go_ret2
     rw [EGL.out]
     exact ⟨_, rfl, own_base HOUT.out (by omega), HB1.out.trans (HB7.out.mono (by omega))⟩
end Go.Proofs.YtomahddiclkepaaGreatDoor
namespace Go.Proofs.YtomahddiclkepaaGreatDoor
open Go.RowKit Go.Joins Go.Maps
open Classical
set_option linter.unusedVariables false
set_option linter.unusedSimpArgs false
theorem text_ev (nm : ByteArray) (ev ev2 : Value) (L : List Er) : bkText (oneB [] nm ev L) = bkText (oneB [] nm ev2 L) := rfl
theorem bk3_box {w W : World} {x y z : Value} (e : w.alloc (.cells #[x, y, z] 26) = W) {bb : Nat} (eb : w.heap.size = bb) : Below w.heap.size w W ∧ bb < W.heap.size ∧ ∀ W', Below W.heap.size W W' → W'.cell? ⟨bb, 0, none⟩ = some x ∧ W'.cell? ⟨bb, 1, none⟩ = some y ∧ W'.cell? ⟨bb, 2, none⟩ = some z := by
 subst e
 subst eb
 refine ⟨alBelow _ _, by simp, fun W' hb => ?_⟩
 have hx := (hb.block w.heap.size (by simp)).trans (heap_alloc_new w _)
 exact ⟨(cell_of_row W' _ 0 _ _ _ hx).trans rfl, (cell_of_row W' _ 1 _ _ _ hx).trans rfl, (cell_of_row W' _ 2 _ _ _ hx).trans rfl⟩
set_option maxRecDepth 100000 in
set_option maxHeartbeats 20000000 in
theorem TopAgain_walk (MK : MakeSays) (t : Tab) (v : Value) (a1 a2 : Int) (w : World) (hv : TabAt w v t) (ht : Tab10 w) (ha : AscTab w) (he : NumErrs w) (hm : MaxLen w) :
  Calls Tryz.prog 7 #[v, .int .i64 a1, .int .i64 a2] w fun e w' => e = .returned (.bool true) ∧ Below w.heap.size w w' := by
 have HWK := Lib.hid (fun W (h : Below w.heap.size w W) => works_any MK W (ht.below h) (ha.below h) (he.below h) (hm.below h))
 have HFA := Lib.hid (fun W (h : Below w.heap.size w W) => And.intro (ht.below h) (And.intro (ha.below h) (And.intro (he.below h) (hm.below h))))
 have HSP := Lib.hid (fun W => spanT_any a1 a2 W)
 have HPT := Lib.hid (fun (b : Bk) h1 h2 => parse_text (b := b) h1 h2 w ht ha he hm)
 obtain ⟨p1, c1, p2, c2, rfl⟩ := tabForms hv
 obtain ⟨W0, eW⟩ : ∃ W0, w.alloc (.cells #[.slice p1 t.types.length c1, .int .i64 t.first, .slice p2 t.chs.length c2] 58) = W0 := ⟨_, rfl⟩
 have hb0 : Below w.heap.size w W0 := by rw [← eW]; exact alBelow _ _
 have hx0 : W0.heap[w.heap.size]? = some (.cells #[.slice p1 t.types.length c1, .int .i64 t.first, .slice p2 t.chs.length c2] 58 (0, 0)) := by rw [← eW]; exact heap_alloc_new w _
 have hz0 : w.heap.size < W0.heap.size := (Array.getElem?_eq_some_iff.mp hx0).1
 have hv0 := hv.below hb0
 have HTX : Hid (∀ W, Below W0.heap.size W0 W → Below w.heap.size w W ∧ TabAt W (.agg #[.slice p1 t.types.length c1, .int .i64 t.first, .slice p2 t.chs.length c2]) t ∧ W.cell? ⟨w.heap.size, 0, none⟩ = some (.slice p1 t.types.length c1) ∧ W.cell? ⟨w.heap.size, 1, none⟩ = some (.int .i64 t.first) ∧ W.cell? ⟨w.heap.size, 2, none⟩ = some (.slice p2 t.chs.length c2)) := by
  show ∀ W, _
  intro W hb
  have hx := (hb.block w.heap.size hz0).trans hx0
  exact ⟨hb0.trans (hb.mono hb0.size), hv0.below hb, (cell_of_row W _ 0 _ _ _ hx).trans rfl, (cell_of_row W _ 1 _ _ _ hx).trans rfl, (cell_of_row W _ 2 _ _ _ hx).trans rfl⟩
 have HEW := Lib.hid eW
 have HB0 := Lib.hid hb0
 clear eW hb0 hx0 hv hv0 hm ht ha he
 obtain ⟨nm, enm⟩ : ∃ nm : ByteArray, (⟨#[83, 111, 109, 101, 47, 87, 104, 101, 114, 101]⟩ : ByteArray) = nm := ⟨_, rfl⟩
 have hn : nm.size ≤ 140737488351232 := by rw [← enm]; decide
 have hn2 : nm.size ≤ maxLen := by rw [← enm]; decide
 have HNM := Lib.hid enm
 clear enm
 go_enter Tryz.func7, Tryz.ntmps7
 rw [HNM.out]
 go_upto_region 1 with fail
 rw [HEW.out]
 go_wp2_with fail
 refine (HWK.out W0 HB0.out).mono ?_
 rintro e w1 ⟨rfl, hb1⟩
 have HA1 := Lib.hid hb1
 clear hb1 HWK
 obtain ⟨hw1, ht1, g0, g1, g2⟩ := HTX.out w1 HA1.out
 have HBK := Lib.hid (BB.Book_any t _ nm w1 ht1 hn2 (HFA.out w1 hw1).1)
 clear hw1 ht1
 go_wp2_with fail
 refine HBK.out.mono ?_
 rintro e w2 ⟨hb2, ⟨hC, rfl⟩ | ⟨hC, Z, cz, p, ce, rfl, hbk⟩⟩
 ·obtain ⟨C, eC⟩ : ∃ C, BB.backC t nm = C := ⟨_, rfl⟩
  rw [eC] at hC ⊢
  have hz : (C == 0) = false := by simpa using hC
  have hzn : (C != 0) = true := by simpa using hC
  have HA2 := Lib.hid (HA1.out.trans (hb2.mono HA1.out.size))
  have HA3 := Lib.hid (HA2.out.alloc HA2.out.size (.cells #[.slice none 0 0, .slice none 0 0, .slice none 0 0] 26))
  clear hb2 eC hC HBK
  go_wp2_with fail
  go_ret
  exact ⟨rfl, HB0.out.trans (HA3.out.mono HB0.out.size)⟩
 obtain ⟨hkd, hct⟩ := bkd_of hC
 have HA2 := Lib.hid (HA1.out.trans (hb2.mono HA1.out.size))
 have hba := bBookAt hbk hkd hn
 obtain ⟨N, eN⟩ : ∃ N, normT t = N := ⟨_, rfl⟩
 rw [eN] at hkd hba
 obtain ⟨W3, e3⟩ : ∃ W3, w2.alloc (.cells #[.slice none 0 0, .slice (some ⟨Z, 0, none⟩) 1 cz, .slice none 0 0] 26) = W3 := ⟨_, rfl⟩
 obtain ⟨bb, ebb⟩ : ∃ bb, w2.heap.size = bb := ⟨_, rfl⟩
 obtain ⟨hb3, hz3, hx3⟩ := bk3_box e3 ebb
 have HA3 := Lib.hid (HA2.out.trans (hb3.mono HA2.out.size))
 obtain ⟨x0, x1, x2⟩ := hx3 W3 (Below.refl _ _)
 have hfa3 := HFA.out W3 (HTX.out W3 HA3.out).1
 obtain ⟨ev, eev⟩ : ∃ ev, (Value.slice p (BB.ersOf N).length ce) = ev := ⟨_, rfl⟩
 have htx := bookText_any _ _ _ _ W3 ((hba.below hb3 (Nat.le_refl _)).baseN hb3.size) hfa3.1 hfa3.2.1 hfa3.2.2.2
 have hck := bBk_chk hkd
 rw [hck, if_pos rfl] at htx
 have htv := text_ev nm (.slice p (BB.ersOf N).length ce) undef (bErs N)
 rw [htv] at htx
 obtain ⟨T, eT⟩ : ∃ T, bkText (oneB [] nm undef (bErs N)) = T := ⟨_, rfl⟩
 rw [eT] at htx
 have HTXT := Lib.hid htx
 have HPF := Lib.hid (fun h2 => HPT.out (oneB [] nm undef (bErs N)) (hck undef) h2)
 rw [eT] at HPF
 have HMD := Lib.hid (fun ev fr te h1 h2 h3 => bErs_made hkd ev (fr := fr) (te := te) h1 h2 h3)
 have HAG := Lib.hid (fun ev fr te U h1 h2 h3 hu => again_law (U := U) hct eN hkd ev (fr := fr) (te := te) h1 h2 h3 hu)
 have hTs := txt_size T
 have HE3 := Lib.hid e3
 have HBB := Lib.hid ebb
 have HCT := Lib.hid hct
 clear hb2 hC hbk hkd hct hba eN e3 ebb hb3 hx3 hfa3 eev htx hck htv eT HBK HPT g0 g1 g2
 go_upto_region 6 with fail
 rw [HBB.out, HE3.out]
 go_wp2_with fail
 refine HTXT.out.mono ?_
 rintro e w4 ⟨rfl, hb4⟩
 have HA4 := Lib.hid (HA3.out.trans (hb4.mono HA3.out.size))
 clear hb4 HTXT x0 x1 x2
 by_cases hl : T.length ≤ 60000
 case neg =>
  have hl1 : (60000 : Int) < ((txt T).size : Int) := by omega
  go_wp2_with fail
  go_ret
  exact ⟨rfl, HB0.out.trans (HA4.out.mono HB0.out.size)⟩
 have hl1 : ¬ (60000 : Int) < ((txt T).size : Int) := by omega
 obtain ⟨sg, hpf⟩ := HPF.out hl
 obtain ⟨hw4, -, -, -, -⟩ := HTX.out w4 HA4.out
 have hps := bookParse_any T w4 (by omega) (HFA.out w4 hw4).1 (HFA.out w4 hw4).2.1 (HFA.out w4 hw4).2.2.1 (HFA.out w4 hw4).2.2.2
 rw [hpf] at hps
 have hps : Calls Tryz.prog 11 #[.string (txt T)] w4 (PsPost (⟨[], [(nm, bErs N)], [], sg⟩, 0, 0) w4) := hps
 have HPS := Lib.hid hps
 clear hps hpf HPF hw4
 go_wp2_with fail
 refine HPS.out.mono ?_
 intro e w5 hpost
 obtain ⟨hb5, q1, d1, q2, d2, q3, d3, ev2, rfl, hbk5⟩ := one_post hpost
 obtain ⟨W6, e6⟩ : ∃ W6, w5.alloc (.cells #[.slice q1 0 d1, .slice q2 1 d2, .slice q3 0 d3] 26) = W6 := ⟨_, rfl⟩
 obtain ⟨b6, eb6⟩ : ∃ b6, w5.heap.size = b6 := ⟨_, rfl⟩
 obtain ⟨hb6, hz6, hx6⟩ := bk3_box e6 eb6
 have HA6 := Lib.hid (HA4.out.trans ((hb5.trans (hb6.mono hb5.size)).mono HA4.out.size))
 have HBK6 := Lib.hid ((hbk5.below hb6 (Nat.le_refl _)).baseN hb6.size)
 have HX6 := Lib.hid hx6
 have HE6 := Lib.hid e6
 have HB6 := Lib.hid eb6
 clear hpost hb5 hbk5 hb6 hx6 e6 eb6 HPS
 go_upto_region 12 with fail
 rw [HB6.out, HE6.out]
 go_wp2_with fail
 refine (HSP.out W6).mono ?_
 rintro e w7 ⟨rfl, hb7⟩
 obtain ⟨hs1, hs2, hs3⟩ := s_bd a1 a2
 obtain ⟨hs4, hs5⟩ := s_stamp a1 a2
 generalize sF a1 = fr at *
 generalize sE a1 a2 = te at *
 obtain ⟨W8, e8⟩ : ∃ W8, w7.alloc (.cells #[.int .i64 fr, .int .i64 te] 68) = W8 := ⟨_, rfl⟩
 obtain ⟨hb8, hz8, hx8⟩ := sp_box e8
 obtain ⟨sb, esb⟩ : ∃ sb, w7.heap.size = sb := ⟨_, rfl⟩
 rw [esb] at hz8 hx8
 have hb68 := hb7.trans (hb8.mono hb7.size)
 have HA8 := Lib.hid (HA6.out.trans (hb68.mono HA6.out.size))
 obtain ⟨s0, s1⟩ := hx8 W8 (Below.refl _ _)
 obtain ⟨x0, x1, x2⟩ := HX6.out W8 hb68
 obtain ⟨hw8, -, -, -, -⟩ := HTX.out W8 HA8.out
 obtain ⟨U, hU⟩ := HMD.out ev2 fr te hs4 hs5 hs2
 have hmk := Make_tab MK _ _ _ _ nm fr te W8 ((HBK6.out.below hb68 (Nat.le_refl _)).baseN hb68.size) hn (by omega) (by omega) (by omega) (by omega) (HFA.out W8 hw8).2.2.2 (HFA.out W8 hw8).1
 rw [hU] at hmk
 obtain ⟨hout, hcu⟩ := HAG.out ev2 fr te U hs4 hs5 hs2 hU
 have HMK := Lib.hid hmk
 have HX8 := Lib.hid hx8
 have HE8 := Lib.hid e8
 have HSB := Lib.hid esb
 have hz68 : b6 < W8.heap.size := by have := hb68.size; omega
 have HOU := Lib.hid hout
 have HCU := Lib.hid hcu
 clear hb7 hb8 hx8 e8 esb hb68 hw8 hU hmk hout hcu HSP HMD HAG
 go_upto_region 13 with fail
 rw [HSB.out, HE8.out]
 go_wp2_with fail
 refine HMK.out.mono ?_
 rintro e w9 ⟨r1, l1, r2, l2, rfl, htb, hb9⟩
 simp only at htb ⊢
 obtain ⟨W10, e10⟩ : ∃ W10, w9.alloc (.cells #[.slice r1 U.types.length l1, .int .i64 0, .slice r2 U.chs.length l2] 58) = W10 := ⟨_, rfl⟩
 obtain ⟨ub, eub⟩ : ∃ ub, w9.heap.size = ub := ⟨_, rfl⟩
 have hbx := TBz.box htb e10
 rw [eub] at hbx
 have hb10 : Below w9.heap.size w9 W10 := by rw [← e10]; exact alBelow _ _
 have hb810 := hb9.trans (hb10.mono hb9.size)
 have HA10 := Lib.hid (HA8.out.trans (hb810.mono HA8.out.size))
 obtain ⟨u0, u1, u2⟩ := hbx.cells
 have hzu := hbx.lt
 clear s0 s1 x0 x1 x2
 obtain ⟨s0, s1⟩ := HX8.out W10 hb810
 have hzs : sb < W10.heap.size := by have := hb810.size; omega
 obtain ⟨hw10, ht10, g0, g1, g2⟩ := HTX.out W10 HA10.out
 have hbt := Between_ok t U _ _ fr te W10 ht10 hbx.2 HCT.out HCU.out (by unfold okSpan okTime; simp; omega)
 rw [HOU.out] at hbt
 have HBT := Lib.hid hbt
 have HE10 := Lib.hid e10
 have HUB := Lib.hid eub
 have hzw : w.heap.size < W10.heap.size := by have := HA10.out.size; omega
 clear htb hb9 hb10 hb810 hbx e10 eub hw10 ht10 hbt HMK
 go_upto_region 14 with fail
 rw [HUB.out, HE10.out]
 go_wp2_with fail
 refine HBT.out.mono ?_
 rintro e w11 ⟨vo, rfl, hrow, hb11⟩
 obtain ⟨A, cA, rfl⟩ := own_sliceN hrow
 have HA11 := Lib.hid (HA10.out.trans (hb11.mono HA10.out.size))
 simp only [List.length_nil]
 clear hrow hb11 HBT
 go_wp2_with fail
 go_ret
 exact ⟨rfl, HB0.out.trans (HA11.out.mono HB0.out.size)⟩
end Go.Proofs.YtomahddiclkepaaGreatDoor
namespace Go.Proofs.YtomahddiclkepaaGreatDoor
open Go.ChangeShapes Go.WideShapes Go.ChangeAt Go.RowKit
set_option linter.unusedVariables false
theorem gPow : Tryz.prog.globalNamed "internal/strconv.uint64pow10" = some 3 := by kernel_rfl
theorem gPowType : (Tryz.prog.globals[3]?).map (·.type) = some 297 := by kernel_rfl
theorem tab10_of {W : World} {a b : String × DataW Unit} {rest : List (String × DataW Unit)} (h : laidMet Tryz.prog (a :: b :: ("internal/strconv.uint64pow10", Rows.laid_internal_strconv_uint64pow10) :: rest) W) : Tab10 W :=
 Lib.tabIs_of_head (rest := rest) gPow gPowType Tryz.underlying297 Tryz.underlying137 (by kernel_rfl) (by kernel_rfl) h.tail.tail
theorem maxLen_of {W : World} (h : W.ShapedOpen Tryz.prog) : MaxLen W :=
 Go.Proofs.cell_of_shapedOpen_int (zero := #[.int .i64 0]) (t := 3) h (of_decide_eq_true (by kernel_rfl)) (by kernel_rfl) rfl (by kernel_rfl) (by kernel_rfl) Tryz.underlying3
theorem star : "*" ++ "errors.errorString" = "*errors.errorString" := by decide
theorem rowErr (u : TypeId) (h : Tryz.prog.typeName? 3 u = some "*errors.errorString") : u = 312 :=
 typeName_ptr_named (nm := "errors.errorString") (by rw [star]; kernel_rfl) (by kernel_rfl) (by decide) u (by rw [star]; exact h)
theorem gSyn : Tryz.prog.globalNamed "strconv.ErrSyntax" = some 6 := by kernel_rfl
theorem gRan : Tryz.prog.globalNamed "strconv.ErrRange" = some 7 := by kernel_rfl
theorem gSynType : (Tryz.prog.globals[6]?).map (·.type) = some 159 := by kernel_rfl
theorem gRanType : (Tryz.prog.globals[7]?).map (·.type) = some 159 := by kernel_rfl
theorem cellsES : Tryz.prog.cellsOf 314 = 1 := by kernel_rfl
theorem cellsStr : Tryz.prog.cellsOf 9 = 1 := by kernel_rfl
theorem ifaceV_of {W : World} {n : String} {g : Nat} {p : Value} {tp : TypeId} (hg : Tryz.prog.globalNamed n = some g) (h : W.var? Tryz.prog n = some #[.iface tp p]) : IfaceV W g :=
 ⟨_, by have h0 := World.var?_cell hg h 0; simpa using h0, .inr ⟨_, _, rfl⟩⟩
theorem numErrs_of {W : World} {rest : List (String × DataW Unit)} (h : laidMet Tryz.prog (("strconv.ErrRange", Rows.laid_strconv_ErrRange) :: ("strconv.ErrSyntax", Rows.laid_strconv_ErrSyntax) :: rest) W) : NumErrs W := by
 obtain ⟨a0, s0, hv0, _⟩ := laid_sentinel h gRan gRanType Tryz.underlying159 rowErr Tryz.underlying312 Tryz.underlying314 rfl rfl Tryz.underlying9 cellsES cellsStr
 obtain ⟨a1, s1, hv1, _⟩ := laid_sentinel h.tail gSyn gSynType Tryz.underlying159 rowErr Tryz.underlying312 Tryz.underlying314 rfl rfl Tryz.underlying9 cellsES cellsStr
 exact ⟨ifaceV_of gSyn hv1, ifaceV_of gRan hv0⟩
section
variable {H : Type} {enc : TypeId × Value → H}
theorem witness_row_lay {C : Checked} {os : Os} {f : FuncId} {fn : Func} {s : OpenSpec} {conds : List PathCond} {apart : Bool} {laid : List (String × DataW Unit)} (modest : Bool) (w0 : World) (args : Array Value) (hos : w0.os = os)
  (hsh : (w0.forCall (fun _ _ => 0) ⟨#[], args, []⟩).Shaped C.prog)
  (hok : Input.okWideB C.prog (w0.forCall (fun _ _ => 0) ⟨#[], args, []⟩) f ⟨#[], args, []⟩ = true)
  (hrow : s.preRow enc C.prog fn conds apart laid (w0.forCall (fun _ _ => 0) ⟨#[], args, []⟩).memory args) :
  ∃ (w : World) (tape : Tape) (i : Input), w.os = os ∧ (w.forCall tape i).Shaped C.prog ∧ i.vars = [] ∧ Input.okWide C.prog (w.forCall tape i) .any w.heap.size f i ∧
   s.preRow enc C.prog fn conds apart laid (w.forCall tape i).memory i.args ∧ ({ modest := modest } : Assume).holds C.prog (lone (Frame.enter C.prog f i.args .normal) [] (w.forCall tape i)) :=
 ⟨w0, fun _ _ => 0, ⟨#[], args, []⟩, hos, hsh, (Input.okWide_of_okWideB (base := 0) hok).1, (Input.okWide_of_okWideB hok).2, hrow, by
  simp only [Assume.holds]
  exact ⟨by simp, by simp, fun _ => Modest.zero, by simp, by simp⟩⟩
end
end Go.Proofs.YtomahddiclkepaaGreatDoor
namespace Go.Proofs.YtomahddiclkepaaGreatDoor
open Go.ChangeShapes Go.WideShapes Go.ChangeAt Go.RowKit
set_option linter.unusedVariables false
theorem gAsc : Tryz.prog.globalNamed "strings.asciiSpace" = some 0 := by kernel_rfl
theorem gAscType : (Tryz.prog.globals[0]?).map (·.type) = some 205 := by kernel_rfl
theorem laidAsc : (Rows.laid_strings_asciiSpace : DataW Unit) = Lib.tabData .u8 Lib.asciiSpaceTab := by kernel_rfl
theorem ascTab_of {W : World} {rest : List (String × DataW Unit)} (h : laidMet Tryz.prog (("strings.asciiSpace", Rows.laid_strings_asciiSpace) :: rest) W) : AscTab W := by
 rw [laidAsc] at h
 exact Lib.tabIs_of_head (rest := rest) gAsc gAscType Tryz.underlying205 Tryz.underlying5 (by kernel_rfl) (by kernel_rfl) h
end Go.Proofs.YtomahddiclkepaaGreatDoor
