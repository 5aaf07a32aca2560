/- norm.Between: a round at one and the same time. -/
import Derived.Test.YteoliifghhlinaaBt1
namespace Go.Proofs.Yteoliifghhlinaa
open Go.RowKit Go.Joins
open Classical
set_option linter.unusedVariables false
set_option linter.unusedSimpArgs false

set_option maxRecDepth 100000 in
set_option maxHeartbeats 4000000 in
theorem Bt_r1 (a b : Tab) (p1 p2 p3 p4 : Option Addr) (c1 c2 c3 c4 : Nat) (B n1 g M cap k : Nat) (L : List Int) (x y : Int) (O : List (Int × Int)) (vo : Value) (wr : World) (z0 z1 z2 z5 z6 z7 z8 z10 z11 z14 z15 z16 z17 z18 z19 z20 z21 z22 z23 z24 z25 z26 z27 z28 z29 z30 z31 z32 z33 z34 z35 z36 z37 z38 z39 z40 z41 z42 z43 z44 z45 z46 z47 z48 z49 z50 z51 z52 z53 z54 z55 z56 z57 z58 z59 z60 z61 z62 z63 z64 z65 z66 z67 z68 z69 z70 z71 z72 z73 z74 z75 z76 z77 z78 z79 z80 z81 z82 z83 z84 z85 z86 z87 z88 z89 z90 z91 z92 z93 z94 z95 z96 z97 z98 z99 z100 z101 z102 z103 z104 z105 z106 z107 z108 z109 z110 z111 z112 z113 z114 z115 z116 z117 z118 z119 z120 z121 z122 z123 z124 z125 z126 z127 z128 : Value) (K : Act → World → Prop) (Q0 : Exit → Act → World → Prop)
    (HA : Hid (chk a = 0)) (HB : Hid (chk b = 0)) (hB : B + 1 < n1) (hwr : n1 ≤ wr.heap.size)
    (HAT : Hid (wr.ownsRow n1 3 1 (.slice (some ⟨g, 0, none⟩) M cap) M (L.map (Value.int .i64))))
    (HOUT : Hid (wr.ownsRow n1 29 2 vo O.length (spCells O)))
    (hxs : wr.cell? ⟨g, k, none⟩ = some (.int .i64 x)) (hys : wr.cell? ⟨g, k + 1, none⟩ = some (.int .i64 y))
    (x0 : wr.cell? ⟨B, 0, none⟩ = some (.slice p1 a.types.length c1)) (x1 : wr.cell? ⟨B, 1, none⟩ = some (.int .i64 a.first)) (x2 : wr.cell? ⟨B, 2, none⟩ = some (.slice p2 a.chs.length c2))
    (y0 : wr.cell? ⟨B + 1, 0, none⟩ = some (.slice p3 b.types.length c3)) (y1 : wr.cell? ⟨B + 1, 1, none⟩ = some (.int .i64 b.first)) (y2 : wr.cell? ⟨B + 1, 2, none⟩ = some (.slice p4 b.chs.length c4))
    (HVZ : Hid (TabAt wr (Value.agg #[.slice p1 a.types.length c1, .int .i64 a.first, .slice p2 a.chs.length c2]) a)) (HUZ : Hid (TabAt wr (Value.agg #[.slice p3 b.types.length c3, .int .i64 b.first, .slice p4 b.chs.length c4]) b))
    (hkM : k + 1 < M) (hM : M ≤ 2002) (HOL : Hid (O.length ≤ k))
    (HK : Hid (∀ (u12 u14 u15 u16 u76 u77 u78 u79 u80 u81 u82 u83 u84 u85 u86 u87 u88 u89 u90 u91 u92 u93 u94 u95 u96 u97 u98 u99 u100 u101 u102 u103 u104 u105 u106 u107 u108 u109 u110 u111 u112 u113 u114 u115 u116 u117 u118 u119 u120 u121 u122 u123 u124 u125 u126 u127 : Value) (w' : World), w'.ownsRow n1 3 1 (.slice (some ⟨g, 0, none⟩) M cap) M (L.map (Value.int .i64)) → w'.ownsRow n1 29 2 u12 (stepB (eqB a b) O x y).length (spCells (stepB (eqB a b) O x y)) → Below wr.heap.size wr w' ∨ Below n1 wr w' → K ⟨#[z0, z1, z2, .pointer (some ⟨B, 0, none⟩), .pointer (some ⟨B + 1, 0, none⟩), z5, z6, z7, z8, .slice (some ⟨g, 0, none⟩) M cap, z10, z11, u12, .int .i64 ((k : Int) + 1 + 1), u14, u15, u16, z17, z18, z19, z20, z21, z22, z23, z24, z25, z26, z27, z28, z29, z30, z31, z32, z33, z34, z35, z36, z37, z38, z39, z40, z41, z42, z43, z44, z45, z46, z47, z48, z49, z50, z51, z52, z53, z54, z55, z56, z57, z58, z59, z60, z61, z62, z63, z64, z65, z66, z67, z68, z69, z70, z71, z72, z73, z74, z75, u76, u77, u78, u79, u80, u81, u82, u83, u84, u85, u86, u87, u88, u89, u90, u91, u92, u93, u94, u95, u96, u97, u98, u99, u100, u101, u102, u103, u104, u105, u106, u107, u108, u109, u110, u111, u112, u113, u114, u115, u116, u117, u118, u119, u120, u121, u122, u123, u124, u125, u126, u127, z128], []⟩ w')) (hxy : x = y) :
    Code.wp Try.prog (loopAt Try.f14 1) (Exit.then K Q0) ⟨#[z0, z1, z2, .pointer (some ⟨B, 0, none⟩), .pointer (some ⟨B + 1, 0, none⟩), z5, z6, z7, z8, .slice (some ⟨g, 0, none⟩) M cap, z10, z11, vo, .int .i64 ((k : Int) + 1), z14, z15, z16, z17, z18, z19, z20, z21, z22, z23, z24, z25, z26, z27, z28, z29, z30, z31, z32, z33, z34, z35, z36, z37, z38, z39, z40, z41, z42, z43, z44, z45, z46, z47, z48, z49, z50, z51, z52, z53, z54, z55, z56, z57, z58, z59, z60, z61, z62, z63, z64, z65, z66, z67, z68, z69, z70, z71, z72, z73, z74, z75, z76, z77, z78, z79, z80, z81, z82, z83, z84, z85, z86, z87, z88, z89, z90, z91, z92, z93, z94, z95, z96, z97, z98, z99, z100, z101, z102, z103, z104, z105, z106, z107, z108, z109, z110, z111, z112, z113, z114, z115, z116, z117, z118, z119, z120, z121, z122, z123, z124, z125, z126, z127, z128], []⟩ wr := by
  subst hxy
  have hxy2 : (x == x) = true := by simp
  have hgw : g < wr.heap.size := World.block_lt_of_cell? _ _ hxs
  have hk63 : wrap64 (k : Int) = (k : Int) := wrapN k (by omega)
  have hk64 : IntKind.i64.wrap (k : Int) = (k : Int) := wrapN2 k (by omega)
  have hkn : k < M := Nat.lt_of_succ_lt hkM
  obtain ⟨hk1, hk2⟩ := natlt1 hkM
  have hk3 : (0 : Int) ≤ (k : Int) := Int.natCast_nonneg _
  have hk4 : (0 : Int) ≤ (k : Int) + 1 := Int.le_trans hk3 (Int.le_add_one (Int.le_refl _))
  have hzr1 : B < wr.heap.size := by omega
  have hzr2 : B + 1 < wr.heap.size := by omega
  have KS : Hid (∀ wx, Below wr.heap.size wr wx → Below wr.heap.size wr wx ∧ wx.cell? ⟨B, 0, none⟩ = some (.slice p1 a.types.length c1) ∧ wx.cell? ⟨B, 1, none⟩ = some (.int .i64 a.first) ∧ wx.cell? ⟨B, 2, none⟩ = some (.slice p2 a.chs.length c2) ∧ wx.cell? ⟨B + 1, 0, none⟩ = some (.slice p3 b.types.length c3) ∧ wx.cell? ⟨B + 1, 1, none⟩ = some (.int .i64 b.first) ∧ wx.cell? ⟨B + 1, 2, none⟩ = some (.slice p4 b.chs.length c4)) := fun wx hb =>
    ⟨hb, (hb.cell (p := ⟨B, 0, none⟩) hzr1).trans x0, (hb.cell (p := ⟨B, 1, none⟩) hzr1).trans x1, (hb.cell (p := ⟨B, 2, none⟩) hzr1).trans x2, (hb.cell (p := ⟨B + 1, 0, none⟩) hzr2).trans y0, (hb.cell (p := ⟨B + 1, 1, none⟩) hzr2).trans y1, (hb.cell (p := ⟨B + 1, 2, none⟩) hzr2).trans y2⟩
  have KA : Hid (∀ wx, Below wr.heap.size wr wx → TabAt wx (Value.agg #[.slice p1 a.types.length c1, .int .i64 a.first, .slice p2 a.chs.length c2]) a) := fun wx hb => HVZ.out.below hb
  have KB : Hid (∀ wx, Below wr.heap.size wr wx → TabAt wx (Value.agg #[.slice p3 b.types.length c3, .int .i64 b.first, .slice p4 b.chs.length c4]) b) := fun wx hb => HUZ.out.below hb
  have K0 : Hid (Below wr.heap.size wr wr.drew.drew) := (Below.refl _ _).drew.drew
  have HOA := Lib.hid (fun W hW => Of_any a (Value.agg #[.slice p1 a.types.length c1, .int .i64 a.first, .slice p2 a.chs.length c2]) x W hW HA.out)
  have HOB := Lib.hid (fun W hW => Of_any b (Value.agg #[.slice p3 b.types.length c3, .int .i64 b.first, .slice p4 b.chs.length c4]) x W hW HB.out)
  obtain ⟨X, eX⟩ : ∃ X, tyOf a x = X := ⟨_, rfl⟩
  rw [eX] at HOA
  obtain ⟨Y, eY⟩ : ∃ Y, tyOf b x = Y := ⟨_, rfl⟩
  rw [eY] at HOB
  clear x0 x1 x2 y0 y1 y2
  conv => arg 2; whnf
  go_wp2_with fail
  go_region_held3 (fun wx => wx.cell? ⟨g, k, none⟩ = some (.int .i64 x) ∧ wx.cell? ⟨g, k + 1, none⟩ = some (.int .i64 x)) (exact ⟨hxs, hys⟩) (first | fail)
  clear hxs hys
  go_wp2_with fail
  go_quiet (fail)
  go_wp2_with fail
  have HW := Lib.hid (below_drewN (Below.refl wr.heap.size wr) (1 + nq))
  have k1 := own_keep HAT.out fun g' e' => HW.out.block g' (World.ownsRow.lt HAT.out g' e').2
  have k2 := own_keep HOUT.out fun g' e' => HW.out.block g' (World.ownsRow.lt HOUT.out g' e').2
  refine HK.out _ _ _ _ _ _ _ _ _ _ _ _ _ _ _ _ _ _ _ _ _ _ _ _ _ _ _ _ _ _ _ _ _ _ _ _ _ _ _ _ _ _ _ _ _ _ _ _ _ _ _ _ _ _ _ _ _ k1 ?_ (.inl HW.out)
  rw [stepB, if_pos (.inl rfl)]; exact k2
end Go.Proofs.Yteoliifghhlinaa
