/- NormSpans: a round of its loop (the first). -/
import Derived.Test.YteoliifghhlinaaN6
import Derived.Test.YteoliifghhlinaaCut
import Derived.BigQuiet
namespace Go.Proofs.Yteoliifghhlinaa
open Go.RowKit Go.Joins
open Classical
set_option linter.unusedVariables false
set_option linter.unusedSimpArgs false

set_option maxRecDepth 100000 in
set_option maxHeartbeats 4000000 in
theorem Sp_r0 (X P Q : Int) (S cb co cap N : Nat) (c : Ch) (I : Bool) (wr : World) (z0 z1 z2 z3 z5 z6 z7 z8 z9 z10 z13 z14 z15 z17 z18 z19 z20 z21 z22 z23 z24 z25 z26 z27 z28 z29 z30 z31 z32 z33 z34 z35 z36 z37 z38 z39 z40 z41 z42 z43 z44 z45 z46 z47 z48 z49 z50 z51 z52 z53 z54 z55 z56 z57 z58 z59 z60 z61 z62 z63 z64 z65 z66 z67 z68 z69 z70 z71 z72 z73 z74 z75 z79 z80 z81 z82 z83 z84 z85 z86 z87 z88 z89 z90 z91 z92 z93 z94 z95 z96 z97 z98 z99 z100 z101 z102 z103 z104 z105 z106 z107 z108 z109 z110 z111 z112 z113 z114 z115 z116 z117 z118 z119 z120 z121 z122 z123 z124 z125 z126 z127 z128 z129 z130 z131 z132 z133 z134 z135 z136 z137 z138 z139 z140 z141 z142 z143 z144 z145 z146 z147 z148 z149 z150 z151 z152 z153 z154 z155 : Value) (K : Act → World → Prop) (Q0 : Exit → Act → World → Prop)
    (g0 : wr.cell? ⟨cb, co, none⟩ = some (.int .i64 c.t)) (g1 : wr.cell? ⟨cb, co + 1, none⟩ = some (.int .i64 c.k))
    (s0 : wr.cell? ⟨S, 0, none⟩ = some (.int .i64 P)) (s1 : wr.cell? ⟨S, 1, none⟩ = some (.int .i64 Q))
    (n1 : ¬ c.k ≤ c.t) (n2 : ¬ c.t < P) (n3 : ¬ Q < c.k) (hkL : 0 < N) (hml : N ≤ 2002)
    (HK : Hid (∀ (u10 u17 u18 u79 u80 u81 u82 u83 u84 u85 u86 u87 u88 u89 u90 u91 u92 u93 u94 u95 u96 u97 u98 u99 u100 u101 u102 u103 u104 u105 u106 u107 u108 u109 u110 u111 u112 u113 u114 u115 u116 u117 u118 u119 u120 u121 u122 u123 u124 u125 u126 u127 u128 u129 u130 : Value) (w' : World), Below wr.heap.size wr w' → K ⟨#[z0, z1, z2, z3, .int .i64 X, z5, z6, z7, z8, z9, u10, .pointer (some ⟨S, 0, none⟩), .slice (some ⟨cb, co, none⟩) N cap, z13, z14, z15, .bool (I || inC X c), u17, u18, z19, z20, z21, z22, z23, z24, z25, z26, z27, z28, z29, z30, z31, z32, z33, z34, z35, z36, z37, z38, z39, z40, z41, z42, z43, z44, z45, z46, z47, z48, z49, z50, z51, z52, z53, z54, z55, z56, z57, z58, z59, z60, z61, z62, z63, z64, z65, z66, z67, z68, z69, z70, z71, z72, z73, z74, z75, .slice (some ⟨cb, co, none⟩) N cap, .int .i64 (N : Int), .int .i64 1, u79, u80, u81, u82, u83, u84, u85, u86, u87, u88, u89, u90, u91, u92, u93, u94, u95, u96, u97, u98, u99, u100, u101, u102, u103, u104, u105, u106, u107, u108, u109, u110, u111, u112, u113, u114, u115, u116, u117, u118, u119, u120, u121, u122, u123, u124, u125, u126, u127, u128, u129, u130, z131, z132, z133, z134, z135, z136, z137, z138, z139, z140, z141, z142, z143, z144, z145, z146, z147, z148, z149, z150, z151, z152, z153, z154, z155], []⟩ w')) :
    Code.wp Try.prog (loopAt Try.f6 0) (Exit.then K Q0) ⟨#[z0, z1, z2, z3, .int .i64 X, z5, z6, z7, z8, z9, z10, .pointer (some ⟨S, 0, none⟩), .slice (some ⟨cb, co, none⟩) N cap, z13, z14, z15, .bool I, z17, z18, z19, z20, z21, z22, z23, z24, z25, z26, z27, z28, z29, z30, z31, z32, z33, z34, z35, z36, z37, z38, z39, z40, z41, z42, z43, z44, z45, z46, z47, z48, z49, z50, z51, z52, z53, z54, z55, z56, z57, z58, z59, z60, z61, z62, z63, z64, z65, z66, z67, z68, z69, z70, z71, z72, z73, z74, z75, .slice (some ⟨cb, co, none⟩) N cap, .int .i64 (N : Int), .int .i64 0, z79, z80, z81, z82, z83, z84, z85, z86, z87, z88, z89, z90, z91, z92, z93, z94, z95, z96, z97, z98, z99, z100, z101, z102, z103, z104, z105, z106, z107, z108, z109, z110, z111, z112, z113, z114, z115, z116, z117, z118, z119, z120, z121, z122, z123, z124, z125, z126, z127, z128, z129, z130, z131, z132, z133, z134, z135, z136, z137, z138, z139, z140, z141, z142, z143, z144, z145, z146, z147, z148, z149, z150, z151, z152, z153, z154, z155], []⟩ wr := by
  have hsw : S < wr.heap.size := World.block_lt_of_cell? _ _ s0
  have hcw : cb < wr.heap.size := World.block_lt_of_cell? _ _ g0
  have HBR := Lib.hid (Below.refl wr.heap.size wr)
  have b1 : decide (c.k ≤ c.t) = false := decide_eq_false n1
  have b2 : decide (c.t < P) = false := decide_eq_false n2
  have b3 : decide (Q < c.k) = false := decide_eq_false n3
  have hji2 : (0 : Int) < N := by omega
  conv => arg 2; whnf
  go_wp2_with fail
  go_big_quiet (fail)
  go_upto_region 18 with fail
  cases I
  · by_cases q1 : c.t ≤ X
    · by_cases q2 : X < c.k
      · have hic : inC X c = true := by unfold inC; exact decide_eq_true (⟨q1, q2⟩)
        rw [hic] at HK
        go_wp2_with fail
        refine HK.out _ _ _ _ _ _ _ _ _ _ _ _ _ _ _ _ _ _ _ _ _ _ _ _ _ _ _ _ _ _ _ _ _ _ _ _ _ _ _ _ _ _ _ _ _ _ _ _ _ _ _ _ _ _ _ _ ?_
        first | exact HBR.out.alloc (Nat.le_refl _) _ | exact (HBR.out.alloc (Nat.le_refl _) _).drew | exact below_drewNm (HBR.out.alloc (Nat.le_refl _) _) _
      · have hic : inC X c = false := by unfold inC; exact decide_eq_false (fun h => q2 h.2)
        rw [hic] at HK
        go_wp2_with fail
        refine HK.out _ _ _ _ _ _ _ _ _ _ _ _ _ _ _ _ _ _ _ _ _ _ _ _ _ _ _ _ _ _ _ _ _ _ _ _ _ _ _ _ _ _ _ _ _ _ _ _ _ _ _ _ _ _ _ _ ?_
        first | exact HBR.out.alloc (Nat.le_refl _) _ | exact (HBR.out.alloc (Nat.le_refl _) _).drew | exact below_drewNm (HBR.out.alloc (Nat.le_refl _) _) _
    · have hic : inC X c = false := by unfold inC; exact decide_eq_false (fun h => q1 h.1)
      rw [hic] at HK
      go_wp2_with fail
      refine HK.out _ _ _ _ _ _ _ _ _ _ _ _ _ _ _ _ _ _ _ _ _ _ _ _ _ _ _ _ _ _ _ _ _ _ _ _ _ _ _ _ _ _ _ _ _ _ _ _ _ _ _ _ _ _ _ _ ?_
      first | exact HBR.out.alloc (Nat.le_refl _) _ | exact (HBR.out.alloc (Nat.le_refl _) _).drew | exact below_drewNm (HBR.out.alloc (Nat.le_refl _) _) _
  · rw [Bool.true_or] at HK
    go_wp2_with fail
    refine HK.out _ _ _ _ _ _ _ _ _ _ _ _ _ _ _ _ _ _ _ _ _ _ _ _ _ _ _ _ _ _ _ _ _ _ _ _ _ _ _ _ _ _ _ _ _ _ _ _ _ _ _ _ _ _ _ _ ?_
    first | exact HBR.out.alloc (Nat.le_refl _) _ | exact (HBR.out.alloc (Nat.le_refl _) _).drew | exact below_drewNm (HBR.out.alloc (Nat.le_refl _) _) _
end Go.Proofs.Yteoliifghhlinaa
