/- Part of the proof. -/
import Derived.Test.YtomahddiclkepaaGreatDoorQw00
import Derived.Test.YtomahddiclkepaaGreatDoorQw19
import Derived.Test.YtomahddiclkepaaGreatDoorQw18
import Derived.Test.YtomahddiclkepaaGreatDoorQw15
import Derived.Test.YtomahddiclkepaaGreatDoorQw16
set_option maxHeartbeats 20000000
set_option maxRecDepth 1000000
set_option linter.unusedVariables false
set_option linter.unusedSimpArgs false
namespace Go.Proofs.YtomahddiclkepaaGreatDoor
open Go.RowKit Go.Joins Go.Maps
open Classical
theorem own_less {W : World} {B B' : Nat} {e : TypeId} {s n : Nat} {v : Value} {xs : List Value} (h : W.ownsRow B e s v n xs) (hb : B' <= B) : W.ownsRow B' e s v n xs :=
 ⟨h.1, h.2.imp id fun ⟨g, cap, cur, a, b, c⟩ => ⟨g, cap, cur, a, Nat.le_trans hb b, c⟩⟩
structure TJ (W5 : World) (M b0 : Nat) (s : NS) (c : Int × Ty) (wx : World) : Prop where
 b : Below W5.heap.size W5 wx
 j : ∃ s' sv cv, (s' = s \/ s' = stepN s c) /\ NSm s' /\ Mk wx M b0 sv cv s'
def MkD (M b0 : Nat) (s : NS) (c : Int × Ty) (w : World) : Prop := ∃ sv cv, Mk w M b0 sv cv (stepN s c)
theorem TJ.drew {W5 : World} {M b0 : Nat} {s : NS} {c : Int × Ty} {wx : World} (h : TJ W5 M b0 s c wx) : TJ W5 M b0 s c wx.drew := by
 obtain ⟨s', sv, cv, a, n, m⟩ := h.j
 exact ⟨h.b.drew, s', sv, cv, a, n, m.keep fun b hb => rfl⟩
theorem TJ.next {W5 : World} {M b0 : Nat} {s : NS} {c : Int × Ty} {wx w' : World} (h : TJ W5 M b0 s c wx) (hb : Below wx.heap.size wx w') : TJ W5 M b0 s c w' := by
 obtain ⟨s', sv, cv, a, n, m⟩ := h.j
 exact ⟨h.b.trans (hb.mono h.b.size), s', sv, cv, a, n, m.keep fun b hl => hb.block b hl⟩
theorem stepN_twice (s : NS) (c : Int × Ty) : stepN (stepN s c) c = stepN s c := by
 by_cases h : c.2 = s.last
 ·have e : stepN s c = s := by unfold stepN; rw [if_pos h]
  rw [e, e]
 ·have e : (stepN s c).last = c.2 := by unfold stepN; rw [if_neg h]
  show (if c.2 = (stepN s c).last then stepN s c else _) = _
  rw [if_pos e.symm]
theorem TJ.change {W5 : World} {M b0 : Nat} {s : NS} {t : Int} {x : Ty} {wx : World} (h : TJ W5 M b0 s (t, x) wx) (hn : NSm (stepN s (t, x))) (hb : W5.heap.size <= b0) :
 Calls Tryz.prog 57 #[.pointer (some ⟨M, 0, none⟩), .int .i64 t, tyV x] wx fun e w' => e = .returned (.tuple #[]) /\ TJ W5 M b0 s (t, x) w' /\ MkD M b0 s (t, x) w' := by
 obtain ⟨s', sv, cv, a, n, m⟩ := h.j
 refine (Change_any M b0 sv cv s' t x wx m (by have h1 := m.hM; have h2 := m.lt; omega) n).mono fun e w' h => ?_
 obtain ⟨h1, ⟨sv2, cv2, h2⟩, h3⟩ := h
 have e2 : stepN s' (t, x) = stepN s (t, x) := by
  rcases a with rfl | rfl
  ·rfl
  ·exact stepN_twice _ _
 rw [e2] at h2
 exact ⟨h1, ⟨‹TJ W5 M b0 s (t, x) wx›.b.trans (h3.mono hb), _, sv2, cv2, .inr rfl, hn, h2⟩, sv2, cv2, h2⟩
def tailAt : Code -> Nat -> Code
 | c, 0 => c
 | .seq _ b, n + 1 => tailAt b n
 | c, _ + 1 => c
def tailOf (f : Func) (n : Nat) : Code := tailAt (f.body.getD .skip) n
theorem Tm_tail (rules : List Ru) (l : List Er) (fr te : Int) (F : NS) (S : Int × Tab) (x0 : Ty) (w W5 w8 : World) (sp rb g cap M b0 k0 : Nat) (P : Nat -> Option Addr × Nat × Nat) (sv cv : Value) (z0 z1 z2 z3 z4 z7 z9 z10 z11 z12 z13 z14 z18 z19 z20 z21 z22 z23 z24 z25 z26 z27 z28 z29 z30 z31 z32 z33 z34 z35 z36 z37 z38 z39 z40 z41 z42 z43 z44 z45 z46 z47 z48 z49 z50 z51 z52 z53 z54 z55 z56 z57 z58 z59 z60 z61 z62 z63 z64 z65 z66 z67 z68 z69 z70 z71 z72 z73 z74 z75 z76 z77 z78 z79 z80 z81 z82 z83 z84 z85 z86 z87 z88 z89 z90 z91 z92 z93 z94 z95 z96 z97 z98 z99 z100 z101 z102 z103 z104 z105 z106 z107 z108 z109 z110 z111 z112 z113 z114 z115 z116 z117 z118 z119 z120 z121 z122 z123 z124 z125 z126 z127 z128 z129 z130 z131 z132 z133 z134 z135 z136 z137 z138 z139 z140 z141 z142 z143 z144 z145 z146 z147 z148 z149 z150 z151 z152 z153 z154 z155 z156 z157 z158 z159 z160 z161 z162 z163 z164 z165 z166 z167 z168 z169 z170 z171 z172 z173 z174 z175 z176 z177 z178 z179 z180 z181 z182 z183 z184 z185 z186 z187 z188 z189 z190 z191 z192 z193 z194 z195 z196 z197 z198 z199 z200 z201 z202 z203 z204 z205 z206 z207 : Value)
 (hf1 : -4611686018427387904 <= fr) (hf2 : fr <= 4611686018427387904) (ht1 : -4611686018427387904 <= te) (ht2 : te <= 4611686018427387904)
 (HE0 : Hid (ErasOk rules l)) (hcap : l.length <= cap) (hg5 : g < W5.heap.size) (hk0 : k0 < l.length) (hb05 : W5.heap.size <= b0) (hb08 : b0 <= w8.heap.size)
 (HUSE : Hid (∀ W', Below W5.heap.size W5 W' -> ∀ k, k < l.length -> EraUse rules l W' g k (P k).1 (P k).2.1 (P k).2.2))
 (HMI : Hid (MInv F (begN x0) (candF rules l te (l.length - k0) (fr + 1) k0))) (HMK : Hid (Mk w8 M b0 sv cv (begN x0))) (HB58 : Hid (Below W5.heap.size W5 w8))
 (SPAN : Hid (∀ W', Below W5.heap.size W5 W' -> W'.cell? ⟨sp, 0, none⟩ = some (.int .i64 fr) /\ W'.cell? ⟨sp, 1, none⟩ = some (.int .i64 te)))
 (RES : Hid (∀ W', Below W5.heap.size W5 W' -> W'.cell? ⟨rb, 0, none⟩ = some (.slice none 0 0) /\ W'.cell? ⟨rb, 1, none⟩ = some (.int .i64 0) /\ W'.cell? ⟨rb, 2, none⟩ = some (.slice none 0 0) /\ W'.frozen? ⟨rb, 0, none⟩ = false /\ W'.frozen? ⟨rb, 1, none⟩ = false /\ W'.frozen? ⟨rb, 2, none⟩ = false))
 (FIN : Hid (∀ (W' : World) (R : Int × Tab) (u v : Value), Below W5.heap.size W5 W' -> S = R -> W'.ownsRow W5.heap.size 51 3 u R.2.types.length (tyCells R.2.types) -> W'.ownsRow W5.heap.size 61 2 v R.2.chs.length (chCells R.2.chs) -> ∃ W9, ((W'.setCell ⟨rb, 0, none⟩ u).setCell ⟨rb, 1, none⟩ (.int .i64 0)).setCell ⟨rb, 2, none⟩ v = W9 /\ W9.cell? ⟨rb, 0, none⟩ = some u /\ W9.cell? ⟨rb, 1, none⟩ = some (.int .i64 0) /\ W9.cell? ⟨rb, 2, none⟩ = some v /\ MkTPost S w (.returned (.tuple #[.agg #[u, .int .i64 0, v], .int .i64 R.1])) W9))
 (HSF : Hid (S = if 250 < F.types.length \/ 1000 < F.chs.length then (2, zTab) else (0, ⟨F.types, 0, F.chs⟩))) :
 Code.wp Tryz.prog (tailOf Tryz.f24 10) (bodyPost Tryz.prog Tryz.f24 (MkTPost S w)) ⟨#[z0, z1, z2, z3, z4, .pointer (some ⟨sp, 0, none⟩), .pointer (some ⟨rb, 0, none⟩), z7, .func (.func 54) #[] #[], z9, z10, z11, z12, z13, z14, .slice (some ⟨g, 0, none⟩) l.length cap, .int .i64 (k0 : Nat), .pointer (some ⟨M, 0, none⟩), z18, z19, z20, z21, z22, z23, z24, z25, z26, z27, z28, z29, z30, z31, z32, z33, z34, z35, z36, z37, z38, z39, z40, z41, z42, z43, z44, z45, z46, z47, z48, z49, z50, z51, z52, z53, z54, z55, z56, z57, z58, z59, z60, z61, z62, z63, z64, z65, z66, z67, z68, z69, z70, z71, z72, z73, z74, z75, z76, z77, z78, z79, z80, z81, z82, z83, z84, z85, z86, z87, z88, z89, z90, z91, z92, z93, z94, z95, z96, z97, z98, z99, z100, z101, z102, z103, z104, z105, z106, z107, z108, z109, z110, z111, z112, z113, z114, z115, z116, z117, z118, z119, z120, z121, z122, z123, z124, z125, z126, z127, z128, z129, z130, z131, z132, z133, z134, z135, z136, z137, z138, z139, z140, z141, z142, z143, z144, z145, z146, z147, z148, z149, z150, z151, z152, z153, z154, z155, z156, z157, z158, z159, z160, z161, z162, z163, z164, z165, z166, z167, z168, z169, z170, z171, z172, z173, z174, z175, z176, z177, z178, z179, z180, z181, z182, z183, z184, z185, z186, z187, z188, z189, z190, z191, z192, z193, z194, z195, z196, z197, z198, z199, z200, z201, z202, z203, z204, z205, z206, z207], []⟩ w8 := by
 obtain ⟨g3, g4⟩ := SPAN.out w8 HB58.out
 show Code.wp _ (Code.seq _ _) _ _ _
 dsimp only [tailOf, Tryz.f24, Option.getD, tailAt]
 go_wp2_with fail
 have hfr1 : IntKind.i64.wrap (fr + 1) = fr + 1 := IntWalk.i64_in _ (by omega)
 try rw [hfr1]
 go_loopw [16, 18] (fun v16 v18 wr => ∃ (k : Nat) (f : Int) (s : NS) (sv cv : Value), k < l.length /\ v16 = .int .i64 k /\ v18 = .int .i64 f /\ Hid (MInv F s (candF rules l te (l.length - k) f k)) /\ Hid (Mk wr M b0 sv cv s) /\ Hid (Below W5.heap.size W5 wr)) (fun v16 _ _ => l.length - (intOf v16).toNat)
 case atStart => exact ⟨k0, fr + 1, begN x0, sv, cv, hk0, rfl, rfl, HMI, HMK, HB58⟩
 case round =>
  clear HMI HMK HB58 hb08 g3 g4
  obtain ⟨k, f, s, sv, cv, hk, rfl, rfl, HMI, HMK, HBR⟩ := hrel
  have hkz : (k : Int) < (l.length : Int) := by omega
  have hkp : (0 : Int) <= (k : Int) := Int.natCast_nonneg _
  have hl7 : l.length <= 700 := HE0.out.le
  have hzr := HBR.out.size
  have hgr : g < wr.heap.size := by omega
  obtain ⟨R, hin, hr1, hr2⟩ := minv_in hk HMI.out
  have HIN := qH hin
  have HR1 := qH hr1
  have HR2 := qH hr2
  clear hin hr1 hr2
  obtain ⟨u0, u1, u2, u3, u4, u5, u6, -, -⟩ := HUSE.out wr HBR.out k hk
  obtain ⟨g3, g4⟩ := SPAN.out wr HBR.out
  have hlw : IntKind.i64.wrap ((l.length : Int) - 1) = (l.length : Int) - 1 := IntWalk.i64_in _ (by omega)
  have htw : IntKind.i64.wrap (te - 1) = te - 1 := IntWalk.i64_in _ (by omega)
  have HUN := HE0.out.un k
  have her : (tdA rules l k).er.un = (eraAt l k).un := by unfold tdA; rw [tdR_er]
  have HER := qH her
  rw [<- her] at HUN
  clear her
  by_cases hlast : k + 1 < l.length
  ·have hl1 : (k : Int) < (l.length : Int) - 1 := by omega
   obtain ⟨hu1, hu2, -⟩ := HUN hlast
   have huw : IntKind.i64.wrap ((tdA rules l k).er.un - 1) = (tdA rules l k).er.un - 1 := IntWalk.i64_in _ (by omega)
   have HLF : Hid (lastF l k te = min (te - 1) ((tdA rules l k).er.un - 1)) := by show _ = _; unfold lastF; rw [if_pos hlast, <- HER.out]
   go_upto_region 25 with fail
   have HWI := qH ((HUSE.out wr HBR.out k hk).win f (lastF l k te))
   have HLE := qH ((HUSE.out wr HBR.out k hk).len)
   rw [HLF.out] at HWI
   go_wp2_with fail
   refine HWI.out.mono ?_
   rintro e w4 ⟨vo, rfl, hrow, hb4⟩
   have hwl := winL_le (tdA rules l k).ts f (lastF l k te)
   rw [HLF.out] at hwl
   have hle := HLE.out
   obtain ⟨WL, eWL⟩ : ∃ WL, winL (tdA rules l k).ts f (min (te - 1) ((tdA rules l k).er.un - 1)) = WL := ⟨_, rfl⟩
   rw [eWL] at hrow hwl
   dsimp only
   have HMI4 := qH HIN.out
   have eWL2 : winL (tdA rules l k).ts f (lastF l k te) = WL := by rw [HLF.out]; exact eWL
   rw [eWL2] at HMI4
   have hn15 : WL.length <= 1500 := by omega
   obtain ⟨A, cA, rfl⟩ := own_sliceN hrow
   have HROW := qH hrow
   have HMK4 := qH (HMK.out.keep fun b hb => hb4.block b hb)
   have HB4 := qH (HBR.out.trans (hb4.mono hzr))
   clear hrow hb4 eWL eWL2 hle hwl HLE HWI HIN HMI HMK u0 u1 u2 u3 u4 u5 u6 g3 g4
   obtain ⟨w3, rfl⟩ : ∃ x, x = wr := ⟨_, rfl⟩
   go_wp2_with fail
   go_loopw [127] (fun v127 wr => ∃ (j : Nat) (s : NS) (sv cv : Value), j <= WL.length /\ v127 = .int .i64 j /\ Hid (MInv F s ((WL.drop j).map (fun t => (t, tdTy (tdA rules l k) t)) ++ R)) /\ Hid (Mk wr M b0 sv cv s) /\ Hid (Below W5.heap.size W5 wr) /\ Hid (KeepI w4 wr)) (fun v127 _ => WL.length - (intOf v127).toNat)
   case atStart => exact ⟨0, s, sv, cv, Nat.zero_le _, rfl, HMI4, HMK4, HB4, qH (KeepI.refl _)⟩
   case round =>
    clear HMI4 HMK4
    obtain ⟨j, s, sv, cv, hj, rfl, HMI, HMK, HBR, HKI⟩ := hrel
    have hzr := HBR.out.size
    have hgr : g < wr.heap.size := by omega
    by_cases hjn : j < WL.length
    ·obtain ⟨hns, HM2⟩ := minv_next (X := tdTy (tdA rules l k)) hjn HMI.out
     have HNS := qH hns
     have HM3 := qH HM2
     obtain ⟨g2, rfl, hc2, hg2, hx⟩ := int_cell (int_row HROW.out HKI.out) hjn
     obtain ⟨a, ea⟩ : ∃ a, WL[j] = a := ⟨_, rfl⟩
     rw [ea] at hx HM3
     have HTA := qH ((HUSE.out wr HBR.out k hk).tdat a)
     obtain ⟨x1, ex1⟩ : ∃ x1, tdTy (tdA rules l k) a = x1 := ⟨_, rfl⟩
     rw [ex1] at HM3 HTA
     obtain ⟨u0, u1, u2, u3, u4, u5, u6, -, -⟩ := HUSE.out wr HBR.out k hk
     have hjz : (j : Int) < (WL.length : Int) := by omega
     have hjp : (0 : Int) <= (j : Int) := Int.natCast_nonneg _
     clear hns HM2 ea ex1 HMI
     go_wp2_with fail
     refine HTA.out.mono ?_
     rintro e w5 ⟨rfl, hb5⟩
     have HMK5 := qH (HMK.out.keep fun b hb => hb5.block b hb)
     have HB5 := qH (HBR.out.trans (hb5.mono hzr))
     have HKI5 := qH (HKI.out.trans (KeepI.below hb5))
     have hb05w : b0 <= w5.heap.size := by have h1 := HMK5.out.hM; have h2 := HMK5.out.lt; omega
     have HCH := qH (ChangeK_any M b0 sv cv s a x1 w5 HMK5.out hb05w HNS.out)
     clear HTA HMK hb5 hx HKI u0 u1 u2 u3 u4 u5 u6
     go_wp2_with fail
     refine HCH.out.mono ?_
     rintro e w6 ⟨rfl, ⟨sv6, cv6, hm6⟩, hb6, hk6⟩
     have HM6 := qH hm6
     have HB6 := qH (HB5.out.trans (hb6.mono hb05))
     have HKI6 := qH (HKI5.out.trans (change_int HMK5.out hk6))
     clear hm6 hb6 hk6 HCH
     go_wp2_with fail
     go_roundw
     case rel => exact ⟨j + 1, _, sv6, cv6, hjn, by go_num, HM3, HM6, HB6, HKI6⟩
     case measure => simp [intOf]; omega
    ·obtain rfl : j = WL.length := by omega
     have HR0 := qH (minv_rest (X := tdTy (tdA rules l k)) hjn HMI.out)
     clear HMI HROW HKI hjn HB4
     obtain ⟨u0, u1, u2, u3, u4, u5, u6, -, -⟩ := HUSE.out wr HBR.out k hk
     obtain ⟨g3, g4⟩ := SPAN.out wr HBR.out
     have hke : ¬ (k : Int) = (l.length : Int) - 1 := by omega
     by_cases hge : te <= (tdA rules l k).er.un
     ·go_wp2_with fail
      go_quiet (fail)
      obtain ⟨w7, e7⟩ : ∃ w7, wr.drewN nq = w7 := ⟨_, rfl⟩
      have HB7 : Hid (Below W5.heap.size W5 w7) := by rw [<- e7]; exact below_drewNm HBR.out _
      have HMK7 : Hid (Mk w7 M b0 sv cv s) := by rw [<- e7]; exact HMK.out.keep fun b hb => rfl
      rw [e7]
      have hz7 := HB7.out.size
      clear e7 HMK HBR
      have hR := HR1.out (.inr (by rw [<- HER.out]; exact hge))
      rw [hR] at HR0
      have hsF := HR0.out.done
      rw [hsF] at HMK7
      clear hsF
      have hMl : M < w7.heap.size := HMK7.out.lt
      have HRT := qH HMK7.out.rowT
      have HRC := qH HMK7.out.rowC
      obtain ⟨A1, C1, rfl⟩ := own_sliceN HRT.out
      obtain ⟨A2, C2, rfl⟩ := own_sliceN HRC.out
      obtain ⟨m0, m1, m2, -, -, -, mz⟩ := mkCells HMK7.out.blk
      clear hR HR0 HR1 HR2 u0 u1 u2 u3 u4 u5 u6 g3 g4 HMK7
      by_cases h1 : 250 < F.types.length
      ·have h1z : (250 : Int) < (F.types.length : Int) := by omega
       have hS : S = (2, zTab) := by rw [HSF.out, if_pos (by omega)]
       have HS1 := qH hS
       clear hS HSF
       go_wp2_with fail
       refine (MakeNone_any 2 _).mono ?_
       rintro e w9 ⟨rfl, hb9⟩
       have HB9 := qH (HB7.out.trans (hb9.mono hz7))
       obtain ⟨r0, r1, r2, f0, f1, f2⟩ := RES.out w9 HB9.out
       clear hb9 m0 m1 m2
       go_wp2_with fail
       obtain ⟨W9, e9, v0, v1, v2, hP⟩ := FIN.out w9 (2, zTab) (.slice none 0 0) (.slice none 0 0) HB9.out HS1.out (World.ownsRow_nil _ _ _ _) (World.ownsRow_nil _ _ _ _)
       rw [e9]
       exact bodyPost_ret (v := .tuple #[.agg #[.slice none 0 0, .int .i64 0, .slice none 0 0], .int .i64 2]) (by simp [results, Tryz.results24, go_sem, v0, v1, v2]) rfl hP
      ·have h1z : ¬ (250 : Int) < (F.types.length : Int) := by omega
       by_cases h2 : 1000 < F.chs.length
       ·have h2z : (1000 : Int) < (F.chs.length : Int) := by omega
        have hS : S = (2, zTab) := by rw [HSF.out, if_pos (by omega)]
        have HS1 := qH hS
        clear hS HSF
        go_wp2_with fail
        refine (MakeNone_any 2 _).mono ?_
        rintro e w9 ⟨rfl, hb9⟩
        have HB9 := qH (HB7.out.trans (hb9.mono hz7))
        obtain ⟨r0, r1, r2, f0, f1, f2⟩ := RES.out w9 HB9.out
        clear hb9 m0 m1 m2
        go_wp2_with fail
        obtain ⟨W9, e9, v0, v1, v2, hP⟩ := FIN.out w9 (2, zTab) (.slice none 0 0) (.slice none 0 0) HB9.out HS1.out (World.ownsRow_nil _ _ _ _) (World.ownsRow_nil _ _ _ _)
        rw [e9]
        exact bodyPost_ret (v := .tuple #[.agg #[.slice none 0 0, .int .i64 0, .slice none 0 0], .int .i64 2]) (by simp [results, Tryz.results24, go_sem, v0, v1, v2]) rfl hP
       ·have h2z : ¬ (1000 : Int) < (F.chs.length : Int) := by omega
        have hS : S = (0, ⟨F.types, 0, F.chs⟩) := by rw [HSF.out, if_neg (by omega)]
        have HS1 := qH hS
        obtain ⟨r0, r1, r2, f0, f1, f2⟩ := RES.out w7 HB7.out
        clear hS HSF
        go_wp2_with fail
        obtain ⟨W9, e9, v0, v1, v2, hP⟩ := FIN.out w7 (0, ⟨F.types, 0, F.chs⟩) (.slice A1 F.types.length C1) (.slice A2 F.chs.length C2) HB7.out HS1.out (own_less HRT.out hb05) (own_less HRC.out hb05)
        rw [e9]
        exact bodyPost_ret (v := .tuple #[.agg #[.slice A1 F.types.length C1, .int .i64 0, .slice A2 F.chs.length C2], .int .i64 0]) (by simp [results, Tryz.results24, go_sem, v0, v1, v2]) rfl hP
     ·go_wp2_with fail
      go_quiet (fail)
      obtain ⟨w7, e7⟩ : ∃ w7, wr.drewN nq = w7 := ⟨_, rfl⟩
      have HB7 : Hid (Below W5.heap.size W5 w7) := by rw [<- e7]; exact below_drewNm HBR.out _
      have HMK7 : Hid (Mk w7 M b0 sv cv s) := by rw [<- e7]; exact HMK.out.keep fun b hb => rfl
      rw [e7]
      have hz7 := HB7.out.size
      clear e7 HMK HBR
      have hR := HR2.out (by rw [<- HER.out]; omega)
      rw [hR, <- HER.out] at HR0
      have hnm0 := HR0.out.small
      have HST := qH HR0.out.step
      obtain ⟨x1, ex1⟩ : ∃ x1, tdTy (tdA rules l (k + 1)) (tdA rules l k).er.un = x1 := ⟨_, rfl⟩
      rw [ex1] at HST
      have HSN := qH HST.out.small
      have HTJ : Hid (TJ W5 M b0 s ((tdA rules l k).er.un, x1) w7) := ⟨HB7.out, s, sv, cv, .inl rfl, hnm0, HMK7.out⟩
      have KS : Hid (∀ wx, TJ W5 M b0 s ((tdA rules l k).er.un, x1) wx -> TJ W5 M b0 s ((tdA rules l k).er.un, x1) wx /\ wx.cell? ⟨g, k * 7 + 4, none⟩ = some (.int .i64 (tdA rules l k).er.un) /\ wx.cell? ⟨g, (k + 1) * 7, none⟩ = some (.int .i64 (tdA rules l (k + 1)).er.off) /\ wx.cell? ⟨g, (k + 1) * 7 + 1, none⟩ = some (.string (tdA rules l (k + 1)).er.ru) /\ wx.cell? ⟨g, (k + 1) * 7 + 2, none⟩ = some (.int .i64 (tdA rules l (k + 1)).er.sv) /\ wx.cell? ⟨g, (k + 1) * 7 + 3, none⟩ = some (.string (tdA rules l (k + 1)).er.fm) /\ wx.cell? ⟨g, (k + 1) * 7 + 4, none⟩ = some (.int .i64 (tdA rules l (k + 1)).er.un) /\ wx.cell? ⟨g, (k + 1) * 7 + 5, none⟩ = some (.slice (P (k + 1)).1 (P (k + 1)).2.1 (P (k + 1)).2.2) /\ wx.cell? ⟨g, (k + 1) * 7 + 6, none⟩ = some (.string (tdA rules l (k + 1)).fst)) := by
       show ∀ wx, _
       intro wx hb
       obtain ⟨-, -, -, -, v4, -, -, -, -⟩ := HUSE.out wx hb.b k hk
       obtain ⟨y0, y1, y2, y3, y4, y5, y6, -, -⟩ := HUSE.out wx hb.b (k + 1) hlast
       exact ⟨hb, v4, y0, y1, y2, y3, y4, y5, y6⟩
      have KR : Hid (∀ wx, TJ W5 M b0 s ((tdA rules l k).er.un, x1) wx /\ wx.cell? ⟨g, k * 7 + 4, none⟩ = some (.int .i64 (tdA rules l k).er.un) /\ wx.cell? ⟨g, (k + 1) * 7, none⟩ = some (.int .i64 (tdA rules l (k + 1)).er.off) /\ wx.cell? ⟨g, (k + 1) * 7 + 1, none⟩ = some (.string (tdA rules l (k + 1)).er.ru) /\ wx.cell? ⟨g, (k + 1) * 7 + 2, none⟩ = some (.int .i64 (tdA rules l (k + 1)).er.sv) /\ wx.cell? ⟨g, (k + 1) * 7 + 3, none⟩ = some (.string (tdA rules l (k + 1)).er.fm) /\ wx.cell? ⟨g, (k + 1) * 7 + 4, none⟩ = some (.int .i64 (tdA rules l (k + 1)).er.un) /\ wx.cell? ⟨g, (k + 1) * 7 + 5, none⟩ = some (.slice (P (k + 1)).1 (P (k + 1)).2.1 (P (k + 1)).2.2) /\ wx.cell? ⟨g, (k + 1) * 7 + 6, none⟩ = some (.string (tdA rules l (k + 1)).fst) -> TJ W5 M b0 s ((tdA rules l k).er.un, x1) wx) := fun wx h => h.1
      have HTA : Hid (∀ wx, TJ W5 M b0 s ((tdA rules l k).er.un, x1) wx -> Calls Tryz.prog 49 #[.agg (tdCells (tdA rules l (k + 1)) (.slice (P (k + 1)).1 (P (k + 1)).2.1 (P (k + 1)).2.2)), .int .i64 (tdA rules l k).er.un] wx fun e w' => e = .returned (tyV x1) /\ TJ W5 M b0 s ((tdA rules l k).er.un, x1) w') := by
       show ∀ wx, _
       intro wx hb
       refine ((HUSE.out wx hb.b (k + 1) hlast).tdat (tdA rules l k).er.un).mono fun e w' h => ?_
       rw [ex1] at h
       exact ⟨h.1, hb.next h.2⟩
      have HCA : Hid (∀ wx, TJ W5 M b0 s ((tdA rules l k).er.un, x1) wx -> Calls Tryz.prog 57 #[.pointer (some ⟨M, 0, none⟩), .int .i64 (tdA rules l k).er.un, tyV x1] wx fun e w' => e = .returned (.tuple #[]) /\ TJ W5 M b0 s ((tdA rules l k).er.un, x1) w' /\ MkD M b0 s ((tdA rules l k).er.un, x1) w') := by
       show ∀ wx, _
       intro wx hb
       exact hb.change HSN.out hb05
      obtain ⟨-, v4, y0, y1, y2, y3, y4, y5, y6⟩ := KS.out w7 HTJ.out
      have huw2 : IntKind.i64.wrap ((tdA rules l k).er.un + 1) = (tdA rules l k).er.un + 1 := IntWalk.i64_in _ (by omega)
      have hkw : IntKind.i64.wrap ((k : Int) + 1) = (k : Int) + 1 := IntWalk.i64_in _ (by omega)
      have hkz1 : (k : Int) + 1 < (l.length : Int) := by omega
      have hkp1 : (0 : Int) <= (k : Int) + 1 := by omega
      have hgr7 : g < w7.heap.size := by omega
      have hkb : ((k : Int) == (l.length : Int) - 1) = false := by simpa using hke
      clear hR HR0 HR1 HR2 u0 u1 u2 u3 u4 u5 u6 g3 g4 HMK7 hnm0 HB7 ex1 HER HLF hl1 huw HUN
      go_wp2_with fail
      all_goals try (exfalso; first | omega | (rename _ \/ _ => hh; rcases hh with hh | hh <;> first | omega | (rw [hkb] at hh; cases hh)))
      go_region_held3 (fun wx => TJ W5 M b0 s ((tdA rules l k).er.un, x1) wx /\ wx.cell? ⟨g, k * 7 + 4, none⟩ = some (.int .i64 (tdA rules l k).er.un) /\ wx.cell? ⟨g, (k + 1) * 7, none⟩ = some (.int .i64 (tdA rules l (k + 1)).er.off) /\ wx.cell? ⟨g, (k + 1) * 7 + 1, none⟩ = some (.string (tdA rules l (k + 1)).er.ru) /\ wx.cell? ⟨g, (k + 1) * 7 + 2, none⟩ = some (.int .i64 (tdA rules l (k + 1)).er.sv) /\ wx.cell? ⟨g, (k + 1) * 7 + 3, none⟩ = some (.string (tdA rules l (k + 1)).er.fm) /\ wx.cell? ⟨g, (k + 1) * 7 + 4, none⟩ = some (.int .i64 (tdA rules l (k + 1)).er.un) /\ wx.cell? ⟨g, (k + 1) * 7 + 5, none⟩ = some (.slice (P (k + 1)).1 (P (k + 1)).2.1 (P (k + 1)).2.2) /\ wx.cell? ⟨g, (k + 1) * 7 + 6, none⟩ = some (.string (tdA rules l (k + 1)).fst)) ((refine KS.out _ ?_; repeat (first | (with_reducible assumption) | (with_reducible exact HTJ.out) | (with_reducible refine TJ.drew ?_)))) (first
       | (go_at_call 49; refine (HTA.out _ (KR.out _ (by assumption))).mono ?_; rintro e w8 ⟨rfl, hj8⟩)
       | (go_at_call 57; refine (HCA.out _ (KR.out _ (by assumption))).mono ?_; rintro e w9 ⟨rfl, hj9, hd9⟩))
      go_wp2_with fail
      obtain ⟨sv9, cv9, hm9⟩ := hd9
      go_roundw
      case rel => exact ⟨k + 1, (tdA rules l k).er.un + 1, _, sv9, cv9, hlast, by go_num, rfl, HST, qH hm9, qH hj9.b⟩
      case measure => simp [intOf]; omega
  ·have hl1 : ¬ (k : Int) < (l.length : Int) - 1 := by omega
   have HLF : Hid (lastF l k te = te - 1) := by show _ = _; unfold lastF; rw [if_neg hlast]
   go_upto_region 25 with fail
   have HWI := qH ((HUSE.out wr HBR.out k hk).win f (lastF l k te))
   have HLE := qH ((HUSE.out wr HBR.out k hk).len)
   rw [HLF.out] at HWI
   go_wp2_with fail
   refine HWI.out.mono ?_
   rintro e w4 ⟨vo, rfl, hrow, hb4⟩
   have hwl := winL_le (tdA rules l k).ts f (lastF l k te)
   rw [HLF.out] at hwl
   have hle := HLE.out
   obtain ⟨WL, eWL⟩ : ∃ WL, winL (tdA rules l k).ts f (te - 1) = WL := ⟨_, rfl⟩
   rw [eWL] at hrow hwl
   dsimp only
   have HMI4 := qH HIN.out
   have eWL2 : winL (tdA rules l k).ts f (lastF l k te) = WL := by rw [HLF.out]; exact eWL
   rw [eWL2] at HMI4
   have hn15 : WL.length <= 1500 := by omega
   obtain ⟨A, cA, rfl⟩ := own_sliceN hrow
   have HROW := qH hrow
   have HMK4 := qH (HMK.out.keep fun b hb => hb4.block b hb)
   have HB4 := qH (HBR.out.trans (hb4.mono hzr))
   clear hrow hb4 eWL eWL2 hle hwl HLE HWI HIN HMI HMK u0 u1 u2 u3 u4 u5 u6 g3 g4
   obtain ⟨w3, rfl⟩ : ∃ x, x = wr := ⟨_, rfl⟩
   go_wp2_with fail
   go_loopw [127] (fun v127 wr => ∃ (j : Nat) (s : NS) (sv cv : Value), j <= WL.length /\ v127 = .int .i64 j /\ Hid (MInv F s ((WL.drop j).map (fun t => (t, tdTy (tdA rules l k) t)) ++ R)) /\ Hid (Mk wr M b0 sv cv s) /\ Hid (Below W5.heap.size W5 wr) /\ Hid (KeepI w4 wr)) (fun v127 _ => WL.length - (intOf v127).toNat)
   case atStart => exact ⟨0, s, sv, cv, Nat.zero_le _, rfl, HMI4, HMK4, HB4, qH (KeepI.refl _)⟩
   case round =>
    clear HMI4 HMK4
    obtain ⟨j, s, sv, cv, hj, rfl, HMI, HMK, HBR, HKI⟩ := hrel
    have hzr := HBR.out.size
    have hgr : g < wr.heap.size := by omega
    by_cases hjn : j < WL.length
    ·obtain ⟨hns, HM2⟩ := minv_next (X := tdTy (tdA rules l k)) hjn HMI.out
     have HNS := qH hns
     have HM3 := qH HM2
     obtain ⟨g2, rfl, hc2, hg2, hx⟩ := int_cell (int_row HROW.out HKI.out) hjn
     obtain ⟨a, ea⟩ : ∃ a, WL[j] = a := ⟨_, rfl⟩
     rw [ea] at hx HM3
     have HTA := qH ((HUSE.out wr HBR.out k hk).tdat a)
     obtain ⟨x1, ex1⟩ : ∃ x1, tdTy (tdA rules l k) a = x1 := ⟨_, rfl⟩
     rw [ex1] at HM3 HTA
     obtain ⟨u0, u1, u2, u3, u4, u5, u6, -, -⟩ := HUSE.out wr HBR.out k hk
     have hjz : (j : Int) < (WL.length : Int) := by omega
     have hjp : (0 : Int) <= (j : Int) := Int.natCast_nonneg _
     clear hns HM2 ea ex1 HMI
     go_wp2_with fail
     refine HTA.out.mono ?_
     rintro e w5 ⟨rfl, hb5⟩
     have HMK5 := qH (HMK.out.keep fun b hb => hb5.block b hb)
     have HB5 := qH (HBR.out.trans (hb5.mono hzr))
     have HKI5 := qH (HKI.out.trans (KeepI.below hb5))
     have hb05w : b0 <= w5.heap.size := by have h1 := HMK5.out.hM; have h2 := HMK5.out.lt; omega
     have HCH := qH (ChangeK_any M b0 sv cv s a x1 w5 HMK5.out hb05w HNS.out)
     clear HTA HMK hb5 hx HKI u0 u1 u2 u3 u4 u5 u6
     go_wp2_with fail
     refine HCH.out.mono ?_
     rintro e w6 ⟨rfl, ⟨sv6, cv6, hm6⟩, hb6, hk6⟩
     have HM6 := qH hm6
     have HB6 := qH (HB5.out.trans (hb6.mono hb05))
     have HKI6 := qH (HKI5.out.trans (change_int HMK5.out hk6))
     clear hm6 hb6 hk6 HCH
     go_wp2_with fail
     go_roundw
     case rel => exact ⟨j + 1, _, sv6, cv6, hjn, by go_num, HM3, HM6, HB6, HKI6⟩
     case measure => simp [intOf]; omega
    ·obtain rfl : j = WL.length := by omega
     have HR0 := qH (minv_rest (X := tdTy (tdA rules l k)) hjn HMI.out)
     clear HMI HROW HKI hjn HB4
     obtain ⟨u0, u1, u2, u3, u4, u5, u6, -, -⟩ := HUSE.out wr HBR.out k hk
     obtain ⟨g3, g4⟩ := SPAN.out wr HBR.out
     have hke : (k : Int) = (l.length : Int) - 1 := by omega
     go_wp2_with fail
     go_quiet (fail)
     obtain ⟨w7, e7⟩ : ∃ w7, wr.drewN nq = w7 := ⟨_, rfl⟩
     have HB7 : Hid (Below W5.heap.size W5 w7) := by rw [<- e7]; exact below_drewNm HBR.out _
     have HMK7 : Hid (Mk w7 M b0 sv cv s) := by rw [<- e7]; exact HMK.out.keep fun b hb => rfl
     rw [e7]
     have hz7 := HB7.out.size
     clear e7 HMK HBR
     have hR := HR1.out (.inl (by omega))
     rw [hR] at HR0
     have hsF := HR0.out.done
     rw [hsF] at HMK7
     clear hsF
     have hMl : M < w7.heap.size := HMK7.out.lt
     have HRT := qH HMK7.out.rowT
     have HRC := qH HMK7.out.rowC
     obtain ⟨A1, C1, rfl⟩ := own_sliceN HRT.out
     obtain ⟨A2, C2, rfl⟩ := own_sliceN HRC.out
     obtain ⟨m0, m1, m2, -, -, -, mz⟩ := mkCells HMK7.out.blk
     clear hR HR0 HR1 HR2 u0 u1 u2 u3 u4 u5 u6 g3 g4 HMK7
     by_cases h1 : 250 < F.types.length
     ·have h1z : (250 : Int) < (F.types.length : Int) := by omega
      have hS : S = (2, zTab) := by rw [HSF.out, if_pos (by omega)]
      have HS1 := qH hS
      clear hS HSF
      go_wp2_with fail
      refine (MakeNone_any 2 _).mono ?_
      rintro e w9 ⟨rfl, hb9⟩
      have HB9 := qH (HB7.out.trans (hb9.mono hz7))
      obtain ⟨r0, r1, r2, f0, f1, f2⟩ := RES.out w9 HB9.out
      clear hb9 m0 m1 m2
      go_wp2_with fail
      obtain ⟨W9, e9, v0, v1, v2, hP⟩ := FIN.out w9 (2, zTab) (.slice none 0 0) (.slice none 0 0) HB9.out HS1.out (World.ownsRow_nil _ _ _ _) (World.ownsRow_nil _ _ _ _)
      rw [e9]
      exact bodyPost_ret (v := .tuple #[.agg #[.slice none 0 0, .int .i64 0, .slice none 0 0], .int .i64 2]) (by simp [results, Tryz.results24, go_sem, v0, v1, v2]) rfl hP
     ·have h1z : ¬ (250 : Int) < (F.types.length : Int) := by omega
      by_cases h2 : 1000 < F.chs.length
      ·have h2z : (1000 : Int) < (F.chs.length : Int) := by omega
       have hS : S = (2, zTab) := by rw [HSF.out, if_pos (by omega)]
       have HS1 := qH hS
       clear hS HSF
       go_wp2_with fail
       refine (MakeNone_any 2 _).mono ?_
       rintro e w9 ⟨rfl, hb9⟩
       have HB9 := qH (HB7.out.trans (hb9.mono hz7))
       obtain ⟨r0, r1, r2, f0, f1, f2⟩ := RES.out w9 HB9.out
       clear hb9 m0 m1 m2
       go_wp2_with fail
       obtain ⟨W9, e9, v0, v1, v2, hP⟩ := FIN.out w9 (2, zTab) (.slice none 0 0) (.slice none 0 0) HB9.out HS1.out (World.ownsRow_nil _ _ _ _) (World.ownsRow_nil _ _ _ _)
       rw [e9]
       exact bodyPost_ret (v := .tuple #[.agg #[.slice none 0 0, .int .i64 0, .slice none 0 0], .int .i64 2]) (by simp [results, Tryz.results24, go_sem, v0, v1, v2]) rfl hP
      ·have h2z : ¬ (1000 : Int) < (F.chs.length : Int) := by omega
       have hS : S = (0, ⟨F.types, 0, F.chs⟩) := by rw [HSF.out, if_neg (by omega)]
       have HS1 := qH hS
       obtain ⟨r0, r1, r2, f0, f1, f2⟩ := RES.out w7 HB7.out
       clear hS HSF
       go_wp2_with fail
       obtain ⟨W9, e9, v0, v1, v2, hP⟩ := FIN.out w7 (0, ⟨F.types, 0, F.chs⟩) (.slice A1 F.types.length C1) (.slice A2 F.chs.length C2) HB7.out HS1.out (own_less HRT.out hb05) (own_less HRC.out hb05)
       rw [e9]
       exact bodyPost_ret (v := .tuple #[.agg #[.slice A1 F.types.length C1, .int .i64 0, .slice A2 F.chs.length C2], .int .i64 0]) (by simp [results, Tryz.results24, go_sem, v0, v1, v2]) rfl hP
theorem MakeT_any (MK : MakeSays) (b : Bk) (rv zv lv : Value) (nm : ByteArray) (fr te : Int) (w : World) (hB : BookAt w.heap.size w rv zv lv b) (hn : nm.size <= 140737488351232) (hf1 : -4611686018427387904 <= fr) (hf2 : fr <= 4611686018427387904) (ht1 : -4611686018427387904 <= te) (ht2 : te <= 4611686018427387904) (hm : MaxLen w) (ht : Tab10 w) :
 Calls Tryz.prog 24 #[.agg #[rv, zv, lv], .string nm, .agg #[.int .i64 fr, .int .i64 te]] w (MkTPost (mkT b nm fr te) w) := by
 have HBK := qH hB
 obtain ⟨p1, c1, rfl, -, -⟩ := hB.r
 obtain ⟨p2, c2, rfl, -, -⟩ := hB.z
 obtain ⟨p3, c3, rfl, -, -⟩ := hB.l
 obtain ⟨W0, eW⟩ : ∃ W0, ((w.alloc (.cells #[.slice p1 b.rules.length c1, .slice p2 b.zones.length c2, .slice p3 b.links.length c3] 26)).alloc (.cells #[.int .i64 fr, .int .i64 te] 68)).alloc (.cells #[.slice none 0 0, .int .i64 0, .slice none 0 0] 58) = W0 := ⟨_, rfl⟩
 have hb0 : Below w.heap.size w W0 := by rw [<- eW]; exact (((Below.refl _ _).alloc (Nat.le_refl _) _).alloc (by simp) _).alloc (by simp; omega) _
 have hz0 : W0.heap.size = w.heap.size + 3 := by rw [<- eW]; simp
 have hbx : W0.heap[w.heap.size]? = some (.cells #[.slice p1 b.rules.length c1, .slice p2 b.zones.length c2, .slice p3 b.links.length c3] 26 (0, 0)) := by
  rw [<- eW, Below.heap_alloc _ _ _ (by simp; omega), Below.heap_alloc _ _ _ (by simp)]
  exact heap_alloc_new w _
 have hsx : W0.heap[w.heap.size + 1]? = some (.cells #[.int .i64 fr, .int .i64 te] 68 (0, 0)) := by
  rw [<- eW, Below.heap_alloc _ _ _ (by simp)]
  exact alloc_at _ _ _ (by simp)
 have hrx : W0.heap[w.heap.size + 1 + 1]? = some (.cells #[.slice none 0 0, .int .i64 0, .slice none 0 0] 58 (0, 0)) := by
  rw [<- eW]
  exact alloc_at _ _ _ (by simp)
 have hl0 : w.heap.size + 1 + 1 < W0.heap.size := by omega
 have HEW := qH eW
 have HRX := qH hrx
 have HB0 := qH hb0
 have HM := qH hm
 have HT := qH ht
 have HRS := qH (Resolve_any b _ _ _ nm W0 ((hB.below hb0 (Nat.le_refl _)).baseN hb0.size) hn (hm.below hb0) (ht.below hb0))
 have HNO := qH (fun c h => mkT_none (b := b) (nm := nm) (c := c) h fr te)
 have HSO := qH (fun z c h => mkT_of (b := b) (nm := nm) (z := z) (c := c) h fr te)
 have HRV := qH (fun z c h => rsv_zero (b := b) (nm := nm) (z := z) (c := c) h)
 have HRN := qH (fun c h => rsv_not0 (b := b) (nm := nm) (c := c) h)
 obtain ⟨S, eS⟩ : ∃ S, mkT b nm fr te = S := ⟨_, rfl⟩
 rw [eS] at HNO HSO ⊢
 obtain ⟨R, eR⟩ : ∃ R, rsv b nm = R := ⟨_, rfl⟩
 rw [eR] at HRS HNO HSO HRV HRN
 -- an error's end
 have FIN : Hid (∀ (W' : World) (c : Int), Below W0.heap.size W0 W' -> S = (c, zTab) -> ∃ W9, ((W'.setCell ⟨w.heap.size + 1 + 1, 0, none⟩ (.slice none 0 0)).setCell ⟨w.heap.size + 1 + 1, 1, none⟩ (.int .i64 0)).setCell ⟨w.heap.size + 1 + 1, 2, none⟩ (.slice none 0 0) = W9 /\ W9.cell? ⟨w.heap.size + 1 + 1, 0, none⟩ = some (.slice none 0 0) /\ W9.cell? ⟨w.heap.size + 1 + 1, 1, none⟩ = some (.int .i64 0) /\ W9.cell? ⟨w.heap.size + 1 + 1, 2, none⟩ = some (.slice none 0 0) /\ MkTPost S w (.returned (.tuple #[.agg #[.slice none 0 0, .int .i64 0, .slice none 0 0], .int .i64 c])) W9) := by
  show ∀ W' c, _
  intro W' c hb hS
  obtain ⟨W9, e9, hh9, hb9⟩ := end_three ((hb.block (w.heap.size + 1 + 1) hl0).trans hrx) (.slice none 0 0) (.int .i64 0) (.slice none 0 0)
  exact ⟨W9, e9, (cell_of_row W9 _ 0 _ _ _ hh9).trans rfl, (cell_of_row W9 _ 1 _ _ _ hh9).trans rfl, (cell_of_row W9 _ 2 _ _ _ hh9).trans rfl, MkTPost.bad hS ((HB0.out.trans (hb.mono HB0.out.size)).trans (hb9 _ (by omega)))⟩
 have RES : Hid (∀ (W' : World), Below W0.heap.size W0 W' -> W'.cell? ⟨w.heap.size + 1 + 1, 0, none⟩ = some (.slice none 0 0) /\ W'.cell? ⟨w.heap.size + 1 + 1, 1, none⟩ = some (.int .i64 0) /\ W'.cell? ⟨w.heap.size + 1 + 1, 2, none⟩ = some (.slice none 0 0) /\ W'.frozen? ⟨w.heap.size + 1 + 1, 0, none⟩ = false /\ W'.frozen? ⟨w.heap.size + 1 + 1, 1, none⟩ = false /\ W'.frozen? ⟨w.heap.size + 1 + 1, 2, none⟩ = false) := by
  show ∀ W', _
  intro W' hb
  have h2 := (hb.block (w.heap.size + 1 + 1) hl0).trans hrx
  exact ⟨(cell_of_row W' _ 0 _ _ _ h2).trans rfl, (cell_of_row W' _ 1 _ _ _ h2).trans rfl, (cell_of_row W' _ 2 _ _ _ h2).trans rfl, by simp [World.frozen?, h2], by simp [World.frozen?, h2], by simp [World.frozen?, h2]⟩
 have BOX : Hid (∀ (W' : World), Below W0.heap.size W0 W' -> W'.cell? ⟨w.heap.size, 0, none⟩ = some (.slice p1 b.rules.length c1) /\ W'.cell? ⟨w.heap.size, 1, none⟩ = some (.slice p2 b.zones.length c2) /\ W'.cell? ⟨w.heap.size, 2, none⟩ = some (.slice p3 b.links.length c3) /\ W'.cell? ⟨w.heap.size + 1, 0, none⟩ = some (.int .i64 fr) /\ W'.cell? ⟨w.heap.size + 1, 1, none⟩ = some (.int .i64 te)) := by
  show ∀ W', _
  intro W' hb
  have h2 := (hb.block w.heap.size (by omega)).trans hbx
  have h3 := (hb.block (w.heap.size + 1) (by omega)).trans hsx
  exact ⟨(cell_of_row W' _ 0 _ _ _ h2).trans rfl, (cell_of_row W' _ 1 _ _ _ h2).trans rfl, (cell_of_row W' _ 2 _ _ _ h2).trans rfl, (cell_of_row W' _ 0 _ _ _ h3).trans rfl, (cell_of_row W' _ 1 _ _ _ h3).trans rfl⟩
 have HNN := qH (fun c W => MakeNone_any c W)
 obtain ⟨x0, x1, x2, -, -⟩ := BOX.out W0 (Below.refl _ _)
 clear eW hb0 hbx hsx hrx hB hm ht eS eR
 go_enter Tryz.func24, Tryz.ntmps24
 go_upto_region 2 with fail
 rw [HEW.out]
 go_wp2_with fail
 refine HRS.out.mono ?_
 obtain ⟨Z, C⟩ := R
 rintro e w1 ⟨vo, rfl, hrow, hb1⟩
 simp only at hrow ⊢
 obtain ⟨A, cA, rfl⟩ := own_sliceN hrow
 obtain ⟨W2, e2⟩ : ∃ W2, w1.alloc (.cells #[.string (zNm Z), .slice A (zEr Z).length cA] 46) = W2 := ⟨_, rfl⟩
 obtain ⟨zb, ezb⟩ : ∃ zb, w1.heap.size = zb := ⟨_, rfl⟩
 have hzb : W0.heap.size <= zb := by rw [<- ezb]; exact hb1.size
 have hx2 : W2.heap[zb]? = some (.cells #[.string (zNm Z), .slice A (zEr Z).length cA] 46 (0, 0)) := by rw [<- e2]; exact alloc_at _ _ _ ezb.symm
 have hb2 : Below w1.heap.size w1 W2 := by rw [<- e2]; exact (Below.refl _ _).alloc (Nat.le_refl _) _
 have hz2 : zb < W2.heap.size := by rw [<- e2]; simp; omega
 have HB2 := qH (hb1.trans (hb2.mono hb1.size))
 have HX2 := qH hx2
 have HE2 := qH e2
 have HRW2 := qH (own_keep hrow fun g e => hb2.block g (World.ownsRow.lt hrow g e).2)
 clear hrow hb1 hb2 hx2 HRS x0 x1 x2 e2
 go_upto_region 3 with fail
 rw [HE2.out]
 cases Z with
 | none =>
  have hC := HRN.out C rfl
  have hS := HNO.out C rfl
  have hz : (C == 0) = false := by simpa using hC
  have hzz : (!C == 0) = true := by rw [hz]; rfl
  have HFI := qH (fun W' hb => FIN.out W' C hb hS)
  clear hC hS HNO HSO HRV HRN FIN BOX HRW2 HX2
  go_wp2_with fail
  refine (HNN.out C _).mono ?_
  rintro e w3 ⟨rfl, hb3⟩
  have HB3 := qH (HB2.out.trans (hb3.mono HB2.out.size))
  obtain ⟨r0, r1, r2, f0, f1, f2⟩ := RES.out w3 HB3.out
  clear hb3 RES
  go_wp2_with fail
  obtain ⟨W9, e9, v0, v1, v2, hP⟩ := HFI.out w3 HB3.out
  rw [e9]
  exact bodyPost_ret (v := .tuple #[.agg #[.slice none 0 0, .int .i64 0, .slice none 0 0], .int .i64 C]) (by simp [results, Tryz.results24, go_sem, v0, v1, v2]) rfl hP
 | some z =>
  obtain ⟨hC, hzz, hbk⟩ := HRV.out z C rfl
  subst hC
  have hS := HSO.out z 0 rfl
  have hE0 := bk_eras hbk hzz
  have HE0 := qH hE0
  have HBKC := qH hbk
  have HSS := qH hS
  have hel := hE0.le
  simp only [zNm, zEr] at HX2 HE2 HRW2 ⊢
  clear hS hzz hbk HNO HSO HRV HRN hE0
  obtain ⟨g0, g1, g2, g3, g4⟩ := BOX.out W2 HB2.out
  obtain ⟨W3, e3⟩ : ∃ W3, W2.alloc (.cells #[.int .i64 fr, .int .i64 te] 3) = W3 := ⟨_, rfl⟩
  obtain ⟨ib, eib⟩ : ∃ ib, W2.heap.size = ib := ⟨_, rfl⟩
  have hb3 : Below W2.heap.size W2 W3 := by rw [<- e3]; exact (Below.refl _ _).alloc (Nat.le_refl _) _
  have hi3 : W3.heap[ib]? = some (.cells #[.int .i64 fr, .int .i64 te] 3 (0, 0)) := by rw [<- e3]; exact alloc_at _ _ _ eib.symm
  have hz3 : ib < W3.heap.size := by rw [<- e3]; simp; omega
  have HB3 := qH (HB2.out.trans (hb3.mono HB2.out.size))
  have HX3 := qH ((hb3.block zb hz2).trans HX2.out)
  have hzb3 : zb < W3.heap.size := by omega
  have HRW3 := qH (own_keep HRW2.out fun g e => hb3.block g (World.ownsRow.lt HRW2.out g e).2)
  have HI3 := qH hi3
  have HE3 := qH e3
  have HST : Hid (∀ (W : World) (t : Int), Below w.heap.size w W -> -4611686018427387904 <= t -> t <= 4611686018427387904 -> Calls Tryz.prog 46 #[.int .i64 t] W fun e w' => (∃ s, e = .returned (.tuple #[.string s, .int .i64 (stampE t)])) /\ Below W.heap.size W w') := by
   show ∀ W t, _
   intro W t hb h1 h2
   exact Stamp_any t W (by omega) (by omega) (HT.out.below hb)
  have HS1 : Hid (stampE fr ≠ 0 -> S = (stampE fr, zTab)) := by
   show _ -> _
   intro h
   rw [HSS.out]; unfold mkE; rw [if_pos h]
  have HS2 : Hid (stampE fr = 0 -> stampE te ≠ 0 -> S = (stampE te, zTab)) := by
   show _ -> _ -> _
   intro h h2
   rw [HSS.out]; unfold mkE; rw [if_neg (fun g => g h), if_pos h2]
  clear hb3 hi3 e3 HX2 HRW2
  have HIB := qH eib
  clear eib
  go_upto_region 5 with fail
  go_wp2_with fail
  rw [HE3.out, HIB.out]
  have HBW3 := qH (HB0.out.trans (HB3.out.mono HB0.out.size))
  go_loopw [41] (fun i wr => ∃ k : Nat, k <= 2 /\ i = .int .i64 k /\ (0 < k -> stampE fr = 0) /\ (1 < k -> stampE te = 0) /\ Hid (Below W3.heap.size W3 wr)) (fun i _ => 2 - (intOf i).toNat)
  case atStart => exact ⟨0, by omega, rfl, fun h => absurd h (by omega), fun h => absurd h (by omega), qH (Below.refl _ _)⟩
  case round =>
   obtain ⟨k, hk, rfl, hs1, hs2, HBR⟩ := hrel
   have hzr := HBR.out.size
   have HBWr := qH (HBW3.out.trans (HBR.out.mono HBW3.out.size))
   have hi := (HBR.out.block ib hz3).trans HI3.out
   have i0 : wr.cell? ⟨ib, 0, none⟩ = some (.int .i64 fr) := (cell_of_row wr _ 0 _ _ _ hi).trans rfl
   have i1 : wr.cell? ⟨ib, 1, none⟩ = some (.int .i64 te) := (cell_of_row wr _ 1 _ _ _ hi).trans rfl
   clear hi
   by_cases hk0 : k = 0
   ·subst hk0
    have HSC := qH (HST.out wr fr HBWr.out hf1 hf2)
    obtain ⟨E, eE⟩ : ∃ E, stampE fr = E := ⟨_, rfl⟩
    rw [eE] at HSC
    have HEE := qH eE
    clear eE
    go_wp2_with fail
    refine HSC.out.mono ?_
    rintro e w4 ⟨⟨s4, rfl⟩, hb4⟩
    have HB4 := qH (HBR.out.trans (hb4.mono hzr))
    clear hb4 HSC
    by_cases hE : E = 0
    ·subst hE
     go_wp2_with fail
     go_roundw
     case rel => exact ⟨0 + 1, by omega, by go_num, fun _ => HEE.out, fun h => absurd h (by omega), HB4⟩
     case measure => simp [intOf]
    ·have hz : (E == 0) = false := by simpa using hE
     have hzz : (!E == 0) = true := by rw [hz]; rfl
     have HSE : Hid (S = (E, zTab)) := by show _ = _; have := HS1.out (by rw [HEE.out]; exact hE); rwa [HEE.out] at this
     have HB5 := qH (HB3.out.trans (HB4.out.mono HB3.out.size))
     clear hE
     have HFI := qH (fun W' hb => FIN.out W' E hb HSE.out)
     clear FIN BOX HSS HS1 HS2 HRW3 HX3 HI3 HE0
     go_wp2_with fail
     refine (HNN.out E _).mono ?_
     rintro e w9 ⟨rfl, hb9⟩
     have HB9 := qH (HB5.out.trans (hb9.mono HB5.out.size))
     obtain ⟨r0, r1, r2, f0, f1, f2⟩ := RES.out w9 HB9.out
     clear hb9 RES
     go_wp2_with fail
     obtain ⟨W9, e9, v0, v1, v2, hP⟩ := HFI.out w9 HB9.out
     rw [e9]
     exact bodyPost_ret (v := .tuple #[.agg #[.slice none 0 0, .int .i64 0, .slice none 0 0], .int .i64 (E)]) (by simp [results, Tryz.results24, go_sem, v0, v1, v2]) rfl hP
   ·by_cases hk1 : k = 1
    ·subst hk1
     have HS0 := qH (hs1 (by omega))
     have HSC := qH (HST.out wr te HBWr.out ht1 ht2)
     obtain ⟨E, eE⟩ : ∃ E, stampE te = E := ⟨_, rfl⟩
     rw [eE] at HSC
     have HEE := qH eE
     clear eE
     go_wp2_with fail
     refine HSC.out.mono ?_
     rintro e w4 ⟨⟨s4, rfl⟩, hb4⟩
     have HB4 := qH (HBR.out.trans (hb4.mono hzr))
     clear hb4 HSC
     by_cases hE : E = 0
     ·subst hE
      go_wp2_with fail
      go_roundw
      case rel => exact ⟨1 + 1, by omega, by go_num, fun _ => HS0.out, fun _ => HEE.out, HB4⟩
      case measure => simp [intOf]
     ·have hz : (E == 0) = false := by simpa using hE
      have hzz : (!E == 0) = true := by rw [hz]; rfl
      have HSE : Hid (S = (E, zTab)) := by show _ = _; have := HS2.out HS0.out (by rw [HEE.out]; exact hE); rwa [HEE.out] at this
      have HB5 := qH (HB3.out.trans (HB4.out.mono HB3.out.size))
      clear hE
      have HFI := qH (fun W' hb => FIN.out W' E hb HSE.out)
      clear FIN BOX HSS HS1 HS2 HRW3 HX3 HI3 HE0
      go_wp2_with fail
      refine (HNN.out E _).mono ?_
      rintro e w9 ⟨rfl, hb9⟩
      have HB9 := qH (HB5.out.trans (hb9.mono HB5.out.size))
      obtain ⟨r0, r1, r2, f0, f1, f2⟩ := RES.out w9 HB9.out
      clear hb9 RES
      go_wp2_with fail
      obtain ⟨W9, e9, v0, v1, v2, hP⟩ := HFI.out w9 HB9.out
      rw [e9]
      exact bodyPost_ret (v := .tuple #[.agg #[.slice none 0 0, .int .i64 0, .slice none 0 0], .int .i64 (E)]) (by simp [results, Tryz.results24, go_sem, v0, v1, v2]) rfl hP
    ·obtain rfl : k = 2 := by omega
     have HSA := qH (hs1 (by omega))
     have HSB := qH (hs2 (by omega))
     have HB4 := qH (HB3.out.trans (HBR.out.mono HB3.out.size))
     have HX4 := qH ((HBR.out.block zb hzb3).trans HX3.out)
     have hzb4 : zb < wr.heap.size := by omega
     have HRW4 := qH (own_keep HRW3.out fun g e => HBR.out.block g (World.ownsRow.lt HRW3.out g e).2)
     obtain ⟨w4, e4⟩ : ∃ w4, wr = w4 := ⟨_, rfl⟩
     rw [e4] at HB4 HX4 hzb4 HRW4 ⊢
     obtain ⟨g0, g1, g2, g3, g4⟩ := BOX.out w4 HB4.out
     clear e4 HBR hzr HBWr i0 i1 hs1 hs2 hk0 hk1 HS1 HS2 HRW3 HX3 HI3
     go_upto_region 12 with fail
     have hWB := HB0.out.trans (HB4.out.mono HB0.out.size)
     by_cases hle : te <= fr
     ·have hS1 : S = (1, zTab) := by rw [HSS.out]; unfold mkE; rw [if_neg (fun h => h HSA.out), if_neg (fun h => h HSB.out), if_pos hle]
      have HS1 := qH hS1
      clear hS1 hWB
      have HFI := qH (fun W' hb => FIN.out W' 1 hb HS1.out)
      clear FIN BOX HSS HSA HSB HRW4 HX4 HE0
      go_wp2_with fail
      refine (HNN.out 1 _).mono ?_
      rintro e w9 ⟨rfl, hb9⟩
      have HB9 := qH (HB4.out.trans (hb9.mono HB4.out.size))
      obtain ⟨r0, r1, r2, f0, f1, f2⟩ := RES.out w9 HB9.out
      clear hb9 RES
      go_wp2_with fail
      obtain ⟨W9, e9, v0, v1, v2, hP⟩ := HFI.out w9 HB9.out
      rw [e9]
      exact bodyPost_ret (v := .tuple #[.agg #[.slice none 0 0, .int .i64 0, .slice none 0 0], .int .i64 (1)]) (by simp [results, Tryz.results24, go_sem, v0, v1, v2]) rfl hP
     ·have hnle : (decide (te <= fr)) = false := by simpa using hle
      have HER : Hid (∀ W, Below w4.heap.size w4 W -> Calls Tryz.prog 48 #[.agg #[.slice p1 b.rules.length c1, .slice p2 b.zones.length c2, .slice p3 b.links.length c3], .agg #[.string z.nm, .slice A z.eras.length cA]] W (ErasPost b.rules z.eras W)) := by
       show ∀ W, _
       intro W hb
       have hbw := hWB.trans (hb.mono hWB.size)
       refine Eras_any MK b.rules _ _ _ _ z.eras _ W ((HBK.out.r.below hbw (Nat.le_refl _)).mono hbw.size) (bk_rules HBKC.out).2 (bk_rules HBKC.out).1 (RowsAt.mono (RowsAt.below (own_rowsG (cells := fun x : Er => (erCells x).toList) (k := 5) (fun _ => rfl) HRW4.out (by have := HE0.out.le; omega)) hb (Nat.le_refl _)) hb.size) (fun y hy => ?_) (by have := HE0.out.le; omega) ⟨_, _, _, rfl⟩ ⟨_, _, _, rfl⟩
       have h1 := (HE0.out.ok y hy).o1
       have h2 := (HE0.out.ok y hy).o2
       omega
      have x0 : w4.cell? ⟨zb, 0, none⟩ = some (.string z.nm) := (cell_of_row w4 _ 0 _ _ _ HX4.out).trans rfl
      have x1 : w4.cell? ⟨zb, 1, none⟩ = some (.slice A z.eras.length cA) := (cell_of_row w4 _ 1 _ _ _ HX4.out).trans rfl
      have HSS2 : Hid (S = if firstE (tdE b.rules) z.eras ≠ 0 then (firstE (tdE b.rules) z.eras, zTab) else
       if 250 < (normR (stF b.rules z.eras fr) (candsF b.rules z.eras fr te)).types.length \/ 1000 < (normR (stF b.rules z.eras fr) (candsF b.rules z.eras fr te)).chs.length then (2, zTab) else (0, normR (stF b.rules z.eras fr) (candsF b.rules z.eras fr te))) := by
       show S = _
       rw [HSS.out]
       unfold mkE
       rw [if_neg (fun h => h HSA.out), if_neg (fun h => h HSB.out), if_neg hle]
      have HW4 := qH (HER.out w4 (Below.refl _ _))
      clear HER HSS HSA HSB hWB
      go_wp2_with fail
      refine HW4.out.mono ?_
      rintro e w5 ⟨hb5, hbad, hgood⟩
      have HB5 := qH (HB4.out.trans (hb5.mono HB4.out.size))
      have HX5 := qH ((hb5.block zb hzb4).trans HX4.out)
      have hzb5 : zb < w5.heap.size := by have := hb5.size; omega
      have HRW5 := qH (own_keep HRW4.out fun g e => hb5.block g (World.ownsRow.lt HRW4.out g e).2)
      clear HW4 g0 g1 g2 g3 g4 x0 x1
      by_cases hE : firstE (tdE b.rules) z.eras = 0
      case neg =>
       obtain rfl := hbad hE
       have hS1 := HSS2.out
       rw [if_pos hE] at hS1
       have HS1 := qH hS1
       obtain ⟨E, eE⟩ : ∃ E, firstE (tdE b.rules) z.eras = E := ⟨_, rfl⟩
       rw [eE] at HS1 hE ⊢
       have hz : (E == 0) = false := by simpa using hE
       have hzz : (!E == 0) = true := by rw [hz]; rfl
       clear hE hS1 hbad hgood HSS2 hb5 eE
       have HFI := qH (fun W' hb => FIN.out W' E hb HS1.out)
       clear FIN BOX HRW4 HX4 HRW5 HX5 HE0
       go_wp2_with fail
       refine (HNN.out E _).mono ?_
       rintro e w9 ⟨rfl, hb9⟩
       have HB9 := qH (HB5.out.trans (hb9.mono HB5.out.size))
       obtain ⟨r0, r1, r2, f0, f1, f2⟩ := RES.out w9 HB9.out
       clear hb9 RES
       go_wp2_with fail
       obtain ⟨W9, e9, v0, v1, v2, hP⟩ := HFI.out w9 HB9.out
       rw [e9]
       exact bodyPost_ret (v := .tuple #[.agg #[.slice none 0 0, .int .i64 0, .slice none 0 0], .int .i64 (E)]) (by simp [results, Tryz.results24, go_sem, v0, v1, v2]) rfl hP
      case pos =>
       obtain ⟨tv, ms, rfl, hms, hts⟩ := hgood hE
       have hlen : ms.length = z.eras.length := by have := congrArg List.length hms; simpa using this
       have HSS3 : Hid (S = if 250 < (normR (stF b.rules z.eras fr) (candsF b.rules z.eras fr te)).types.length \/ 1000 < (normR (stF b.rules z.eras fr) (candsF b.rules z.eras fr te)).chs.length then (2, zTab) else (0, normR (stF b.rules z.eras fr) (candsF b.rules z.eras fr te))) := by
        show S = _
        have := HSS2.out
        rwa [if_neg (fun h => h hE)] at this
       have HMS := qH hms
       have HTS := qH hts
       have HOK := qH (tdsOk_of HE0.out hE)
       clear hms hts hbad hgood hb5 HSS2 hE
       have hw05 : W0.heap.size <= w5.heap.size := HB5.out.size
       have hl5 : z.eras.length <= 1000 := by have := HE0.out.le; omega
       obtain ⟨wh1, wh2, wh3⟩ := which_spec HE0.out fr
       have hRU := (bk_rules HBKC.out).2
       obtain ⟨g, cap, P, rfl, hcap, hg5, huse⟩ := tds_use HOK.out hRU HMS.out HTS.out (List.length_pos_iff.2 HE0.out.ne) (HM.out.below (HB0.out.trans (HB5.out.mono HB0.out.size)))
       have HUSE := qH huse
       have HWH := qH (Which_any (rules := b.rules) z.eras (.slice A z.eras.length cA) fr w5.heap.size w5 ((own_rowsG (cells := fun x : Er => (erCells x).toList) (k := 5) (fun _ => rfl) HRW5.out (by omega)).mono (by omega)) (Nat.le_refl _) HE0.out)
       have HMI := qH (minv_start HOK.out hRU hl5 fr te)
       obtain ⟨F, eF⟩ : ∃ F, makeN (stF b.rules z.eras fr) (candsF b.rules z.eras fr te) = F := ⟨_, rfl⟩
       have HSF : Hid (S = if 250 < F.types.length \/ 1000 < F.chs.length then (2, zTab) else (0, ⟨F.types, 0, F.chs⟩)) := by
        show S = _
        have := HSS3.out
        unfold normR at this
        rwa [eF] at this
       rw [eF] at HMI
       obtain ⟨k0, ek⟩ : ∃ k0, whichF z.eras fr = k0 := ⟨_, rfl⟩
       have hst : stF b.rules z.eras fr = tdTy (tdA b.rules z.eras k0) fr := by unfold stF; rw [ek]
       have hpos := List.length_pos_iff.2 HE0.out.ne
       rw [ek] at HWH HMI wh1
       have hk0 : k0 < z.eras.length := by omega
       rw [hst] at HMI
       have x1 : w5.cell? ⟨zb, 1, none⟩ = some (.slice A z.eras.length cA) := (cell_of_row w5 _ 1 _ _ _ HX5.out).trans rfl
       obtain ⟨g0, g1, g2, g3, g4⟩ := BOX.out w5 HB5.out
       clear huse wh2 wh3 HMS HTS HSS3 eF ek hst hRU hlen HX4 HRW4 HRW5 HOK hw05 g4
       go_wp2_with fail
       refine HWH.out.mono ?_
       rintro e w6 ⟨rfl, hb6⟩
       have HB56 := qH hb6
       have HB6 := qH (HB5.out.trans (hb6.mono HB5.out.size))
       obtain ⟨g0, g1, g2, g3, g4⟩ := BOX.out w6 HB6.out
       have hu6 := HUSE.out w6 hb6 k0 hk0
       clear hb6 HWH HX5 x1 hzb4 hzb5
       have HU6 := qH hu6
       have hk0z : (k0 : Int) < (z.eras.length : Int) := by omega
       have hk0p : (0 : Int) <= (k0 : Int) := Int.natCast_nonneg _
       have hg6 : g < w6.heap.size := by have := HB56.out.size; omega
       have hw56 : w5.heap.size <= w6.heap.size := HB56.out.size
       have hw06 : W0.heap.size <= w6.heap.size := HB6.out.size
       have hTA : ∀ wx, Below w6.heap.size w6 wx -> Calls Tryz.prog 49 #[.agg (tdCells (tdA b.rules z.eras k0) (.slice (P k0).1 (P k0).2.1 (P k0).2.2)), .int .i64 fr] wx fun e w' => e = .returned (tyV (tdTy (tdA b.rules z.eras k0) fr)) /\ Below wx.heap.size wx w' := by
        intro wx hb
        exact (HUSE.out wx (HB56.out.trans (hb.mono hw56)) k0 hk0).tdat fr
       have KS : Hid (∀ wx, Below w6.heap.size w6 wx -> Below w6.heap.size w6 wx /\ wx.cell? ⟨g, k0 * 7, none⟩ = some (.int .i64 (tdA b.rules z.eras k0).er.off) /\ wx.cell? ⟨g, k0 * 7 + 1, none⟩ = some (.string (tdA b.rules z.eras k0).er.ru) /\ wx.cell? ⟨g, k0 * 7 + 2, none⟩ = some (.int .i64 (tdA b.rules z.eras k0).er.sv) /\ wx.cell? ⟨g, k0 * 7 + 3, none⟩ = some (.string (tdA b.rules z.eras k0).er.fm) /\ wx.cell? ⟨g, k0 * 7 + 4, none⟩ = some (.int .i64 (tdA b.rules z.eras k0).er.un) /\ wx.cell? ⟨g, k0 * 7 + 5, none⟩ = some (.slice (P k0).1 (P k0).2.1 (P k0).2.2) /\ wx.cell? ⟨g, k0 * 7 + 6, none⟩ = some (.string (tdA b.rules z.eras k0).fst) /\ wx.cell? ⟨w.heap.size + 1, 0, none⟩ = some (.int .i64 fr)) := by
        show ∀ wx, _
        intro wx hb
        obtain ⟨v0, v1, v2, v3, v4, v5, v6, -, -⟩ := HUSE.out wx (HB56.out.trans (hb.mono hw56)) k0 hk0
        obtain ⟨-, -, -, q3, -⟩ := BOX.out wx (HB6.out.trans (hb.mono hw06))
        exact ⟨hb, v0, v1, v2, v3, v4, v5, v6, q3⟩
       have KR : Hid (∀ wx, Below w6.heap.size w6 wx /\ wx.cell? ⟨g, k0 * 7, none⟩ = some (.int .i64 (tdA b.rules z.eras k0).er.off) /\ wx.cell? ⟨g, k0 * 7 + 1, none⟩ = some (.string (tdA b.rules z.eras k0).er.ru) /\ wx.cell? ⟨g, k0 * 7 + 2, none⟩ = some (.int .i64 (tdA b.rules z.eras k0).er.sv) /\ wx.cell? ⟨g, k0 * 7 + 3, none⟩ = some (.string (tdA b.rules z.eras k0).er.fm) /\ wx.cell? ⟨g, k0 * 7 + 4, none⟩ = some (.int .i64 (tdA b.rules z.eras k0).er.un) /\ wx.cell? ⟨g, k0 * 7 + 5, none⟩ = some (.slice (P k0).1 (P k0).2.1 (P k0).2.2) /\ wx.cell? ⟨g, k0 * 7 + 6, none⟩ = some (.string (tdA b.rules z.eras k0).fst) /\ wx.cell? ⟨w.heap.size + 1, 0, none⟩ = some (.int .i64 fr) -> Below w6.heap.size w6 wx) := fun wx h => h.1
       obtain ⟨u0, u1, u2, u3, u4, u5, u6, -, -⟩ := hu6
       obtain ⟨x0, ex0⟩ : ∃ x0, tdTy (tdA b.rules z.eras k0) fr = x0 := ⟨_, rfl⟩
       rw [ex0] at hTA HMI
       have HTA := qH hTA
       clear hTA
       go_wp2_with fail
       go_region_held3 (fun wx => Below w6.heap.size w6 wx /\ wx.cell? ⟨g, k0 * 7, none⟩ = some (.int .i64 (tdA b.rules z.eras k0).er.off) /\ wx.cell? ⟨g, k0 * 7 + 1, none⟩ = some (.string (tdA b.rules z.eras k0).er.ru) /\ wx.cell? ⟨g, k0 * 7 + 2, none⟩ = some (.int .i64 (tdA b.rules z.eras k0).er.sv) /\ wx.cell? ⟨g, k0 * 7 + 3, none⟩ = some (.string (tdA b.rules z.eras k0).er.fm) /\ wx.cell? ⟨g, k0 * 7 + 4, none⟩ = some (.int .i64 (tdA b.rules z.eras k0).er.un) /\ wx.cell? ⟨g, k0 * 7 + 5, none⟩ = some (.slice (P k0).1 (P k0).2.1 (P k0).2.2) /\ wx.cell? ⟨g, k0 * 7 + 6, none⟩ = some (.string (tdA b.rules z.eras k0).fst) /\ wx.cell? ⟨w.heap.size + 1, 0, none⟩ = some (.int .i64 fr)) ((refine KS.out _ ?_; repeat (first | (with_reducible assumption) | (with_reducible exact Below.refl _ _) | (with_reducible refine Below.drew ?_)))) (first
        | (go_at_call 49; refine (HTA.out _ (KR.out _ (by assumption))).mono ?_; rintro e w7 ⟨rfl, hb7⟩; have hB7 := ((KR.out _ (by assumption)).trans (hb7.mono (KR.out _ (by assumption)).size)); clear hb7)
        | (go_at_call 55; refine (Begin_any x0 _).mono ?_; rintro e w8 ⟨M, sv, cv, rfl, hmk, hb8⟩; have hB8 := (hB7.trans (hb8.mono hB7.size)); clear hb8))
       have hb08 : w7.heap.size <= w8.heap.size := by have h1 := hmk.hM; have h2 := hmk.lt; omega
       have hb07 : w5.heap.size <= w7.heap.size := by have := hB7.size; omega
       have hl8 : W0.heap.size <= w5.heap.size := HB5.out.size
       have HB58 := HB56.out.trans (hB8.mono hw56)
       have UP : ∀ W', Below w5.heap.size w5 W' -> Below W0.heap.size W0 W' := fun W' hb => HB5.out.trans (hb.mono hl8)
       rename ∀ (a : Act) (w : World), Code.wp _ _ _ a w -> _ => hcont
       refine hcont _ _ ?_
       refine Tm_tail b.rules z.eras fr te F S x0 w w5 w8 (w.heap.size + 1) (w.heap.size + 1 + 1) g cap M w7.heap.size k0 P sv cv _ _ _ _ _ _ _ _ _ _ _ _ _ _ _ _ _ _ _ _ _ _ _ _ _ _ _ _ _ _ _ _ _ _ _ _ _ _ _ _ _ _ _ _ _ _ _ _ _ _ _ _ _ _ _ _ _ _ _ _ _ _ _ _ _ _ _ _ _ _ _ _ _ _ _ _ _ _ _ _ _ _ _ _ _ _ _ _ _ _ _ _ _ _ _ _ _ _ _ _ _ _ _ _ _ _ _ _ _ _ _ _ _ _ _ _ _ _ _ _ _ _ _ _ _ _ _ _ _ _ _ _ _ _ _ _ _ _ _ _ _ _ _ _ _ _ _ _ _ _ _ _ _ _ _ _ _ _ _ _ _ _ _ _ _ _ _ _ _ _ _ _ _ _ _ _ _ _ _ _ _ _ _ _ _ _ _ _ _ _ _ _ _ _ _ _ _ _ _ _ _ _ hf1 hf2 ht1 ht2 HE0 hcap hg5 hk0 hb07 hb08 HUSE HMI (qH hmk) (qH HB58) (qH ?_) (qH ?_) (qH ?_) HSF
       ·intro W' hb
        obtain ⟨-, -, -, q3, q4⟩ := BOX.out W' (UP W' hb)
        exact ⟨q3, q4⟩
       ·intro W' hb
        exact RES.out W' (UP W' hb)
       ·intro W' R u v hb hS hu hv
        obtain ⟨W9, e9, hb9, hh9, hk9⟩ := end_cellsM (((UP W' hb).block (w.heap.size + 1 + 1) hl0).trans HRX.out) u (.int .i64 0) v
        subst hS
        refine ⟨W9, e9, (cell_of_row W9 _ 0 _ _ _ hh9).trans rfl, (cell_of_row W9 _ 1 _ _ _ hh9).trans rfl, (cell_of_row W9 _ 2 _ _ _ hh9).trans rfl, u, v, rfl, ?_, ?_, (HB0.out.trans ((UP W' hb).mono HB0.out.size)).trans (hb9 _ (by omega))⟩
        ·exact own_keep (own_less hu (by omega)) fun g e => hk9 g (by have := (World.ownsRow.lt hu g e).1; omega)
        ·exact own_keep (own_less hv (by omega)) fun g e => hk9 g (by have := (World.ownsRow.lt hv g e).1; omega)
end Go.Proofs.YtomahddiclkepaaGreatDoor
namespace Go.Proofs.YtomahddiclkepaaGreatDoor
open Go.RowKit Go.Joins
open Classical
theorem end_twoS {W : World} {rb : Nat} {a b : Value} {T : TypeId} (h : W.heap[rb]? = some (.cells #[a, b] T (0, 0))) (x y : Value) :
 ∃ W', ((W.setCell ⟨rb, 0, none⟩ x).setCell ⟨rb, 1, none⟩ y) = W' /\ W'.heap[rb]? = some (.cells #[x, y] T (0, 0)) /\ ∀ B, B <= rb -> Below B W W' := by
 refine ⟨_, rfl, ?_, fun B hB => ((Below.refl _ _).setCell hB _).setCell hB _⟩
 simp [World.setCell, Array.getElem?_modify, h]
theorem set_oneS {W : World} {rb : Nat} {a b : Value} {T : TypeId} (h : W.heap[rb]? = some (.cells #[a, b] T (0, 0))) (y : Value) :
 ∃ W', W.setCell ⟨rb, 1, none⟩ y = W' /\ W'.heap[rb]? = some (.cells #[a, y] T (0, 0)) /\ ∀ B, B <= rb -> Below B W W' := by
 refine ⟨_, rfl, ?_, fun B hB => (Below.refl _ _).setCell hB _⟩
 simp [World.setCell, Array.getElem?_modify, h]
theorem list_ne_at {α : Type} {l m : List α} {k : Nat} (h1 : k < l.length) (h2 : k < m.length) (h : l[k] ≠ m[k]) : l ≠ m := by
 intro e; subst e; exact h rfl
theorem list_eq_of {α : Type} {l m : List α} (hl : l.length = m.length) (h : ∀ j (h1 : j < l.length) (h2 : j < m.length), l[j] = m[j]) : l = m :=
 List.ext_getElem hl h
theorem EqTy_any (l m : List Ty) (v v2 : Value) (w : World) (h1 : SlTy w v l) (h2 : SlTy w v2 m) :
 Calls Tryz.prog 58 #[v, v2] w fun e w' => e = .returned (.bool (decide (l = m))) /\ Below w.heap.size w w' := by
 obtain ⟨p, cap, rfl, g1⟩ := h1.shape
 have hl := h1.size
 have hl2 := h2.size
 unfold maxLen at hl hl2
 obtain ⟨p2, cap2, rfl, g2⟩ := h2.shape
 have HA := qH g1
 have HB := qH g2
 clear h1 h2 g1 g2
 by_cases hlen : l.length = m.length
 ·obtain ⟨R, eR⟩ : ∃ R, decide (l = m) = R := ⟨_, rfl⟩
  rw [eR]
  have ER := qH eR
  have HLEN := qH hlen
  rw [<- hlen]
  clear eR hlen
  go_enter Tryz.func58, Tryz.ntmps58
  go_wp2
  go_loopw [14] (fun i wr => ∃ k : Nat, k <= l.length /\ i = .int .i64 k /\ (∀ j (h : j < k) (h1 : j < l.length) (h2 : j < m.length), l[j] = m[j]) /\ Below w.heap.size w wr) (fun i _ => l.length - (intOf i).toNat)
  case atStart => exact ⟨0, Nat.zero_le _, rfl, fun j h => absurd h (Nat.not_lt_zero j), Below.refl _ _⟩
  case round =>
   obtain ⟨k, hk, rfl, hsame, hbel⟩ := hrel
   have HS := qH hsame
   clear hsame
   by_cases hlt : k < l.length
   ·have hlt2 : k < m.length := by have := HLEN.out; omega
    obtain ⟨x, ex⟩ : ∃ x, l[k] = x := ⟨_, rfl⟩
    obtain ⟨y, ey⟩ : ∃ y, m[k] = y := ⟨_, rfl⟩
    have hne0 : l ≠ [] := by intro e; rw [e] at hlt; simp at hlt
    have hne1 : m ≠ [] := by intro e; rw [e] at hlt2; simp at hlt2
    obtain ⟨b, o, rfl, hb, ha0⟩ := HA.out hne0
    obtain ⟨b2, o2, rfl, hb2, hc0⟩ := HB.out hne1
    have ha := (ha0 k hlt).below hbel hb
    have hc := (hc0 k hlt2).below hbel hb2
    rw [ex] at ha
    rw [ey] at hc
    obtain ⟨a0, a1, a2⟩ := ha
    obtain ⟨d0, d1, d2⟩ := hc
    have hlb := World.block_lt_of_cell? _ _ a0
    have hlb2 := World.block_lt_of_cell? _ _ d0
    have hq := neq_tyN x y
    have HBL := qH hbel
    by_cases hxy : x = y
    ·have hd : (!decide (x = y)) = false := by simpa using hxy
     rw [hd] at hq
     have hs2 : ∀ j (h : j < k + 1) (h1 : j < l.length) (h2 : j < m.length), l[j] = m[j] := fun j hj h1 h2 => by
      by_cases e : j = k
      ·subst e; rw [ex, ey, hxy]
      ·exact HS.out j (by omega) h1 h2
     have HS2 := qH hs2
     clear ex ey hbel ha0 hc0 hne0 hne1 hxy hd hs2
     go_wp2
     go_quiet (fail)
     go_wp2
     go_roundw
     case rel => exact ⟨k + 1, by omega, by go_num, HS2.out, by first | exact below_drewNm HBL.out _ | exact below_drewNm (HBL.out.alloc HBL.out.size _) _⟩
     case measure => simp [intOf]; omega
    ·have hd : (!decide (x = y)) = true := by simpa using hxy
     rw [hd] at hq
     have hR : Hid (R = false) := by
      show _ = _
      rw [<- ER.out]
      have : l ≠ m := list_ne_at hlt hlt2 (by rw [ex, ey]; exact hxy)
      simpa using this
     clear ex ey hbel ha0 hc0 hne0 hne1 hxy hd
     go_wp2
     go_quiet (fail)
     go_wp2
     go_ret
     exact ⟨ret_bool' hR.out.symm, by first | exact below_drewNm HBL.out _ | exact below_drewNm (HBL.out.alloc HBL.out.size _) _⟩
   ·obtain rfl : k = l.length := by omega
    have hR : Hid (R = true) := by
     show _ = _
     rw [<- ER.out]
     have : l = m := list_eq_of HLEN.out (fun j h1 h2 => HS.out j h1 h1 h2)
     simpa using this
    go_wp2
    go_ret
    exact ⟨ret_bool' hR.out.symm, hbel⟩
 ·have hR : decide (l = m) = false := by simp; intro e; exact hlen (by rw [e])
  rw [hR]
  have hli : ¬ (l.length : Int) = (m.length : Int) := by omega
  clear hR hlen
  go_enter Tryz.func58, Tryz.ntmps58
  go_wp2
  go_ret
  exact ⟨rfl, Below.refl _ _⟩
theorem EqCh_any (l m : List Ch) (v v2 : Value) (w : World) (h1 : SlCh w v l) (h2 : SlCh w v2 m) :
 Calls Tryz.prog 59 #[v, v2] w fun e w' => e = .returned (.bool (decide (l = m))) /\ Below w.heap.size w w' := by
 obtain ⟨p, cap, rfl, g1⟩ := h1.shape
 have hl := h1.size
 have hl2 := h2.size
 unfold maxLen at hl hl2
 obtain ⟨p2, cap2, rfl, g2⟩ := h2.shape
 have HA := qH g1
 have HB := qH g2
 clear h1 h2 g1 g2
 by_cases hlen : l.length = m.length
 ·obtain ⟨R, eR⟩ : ∃ R, decide (l = m) = R := ⟨_, rfl⟩
  rw [eR]
  have ER := qH eR
  have HLEN := qH hlen
  rw [<- hlen]
  clear eR hlen
  go_enter Tryz.func59, Tryz.ntmps59
  go_wp2
  go_loopw [14] (fun i wr => ∃ k : Nat, k <= l.length /\ i = .int .i64 k /\ (∀ j (h : j < k) (h1 : j < l.length) (h2 : j < m.length), l[j] = m[j]) /\ Below w.heap.size w wr) (fun i _ => l.length - (intOf i).toNat)
  case atStart => exact ⟨0, Nat.zero_le _, rfl, fun j h => absurd h (Nat.not_lt_zero j), Below.refl _ _⟩
  case round =>
   obtain ⟨k, hk, rfl, hsame, hbel⟩ := hrel
   have HS := qH hsame
   clear hsame
   by_cases hlt : k < l.length
   ·have hlt2 : k < m.length := by have := HLEN.out; omega
    obtain ⟨x, ex⟩ : ∃ x, l[k] = x := ⟨_, rfl⟩
    obtain ⟨y, ey⟩ : ∃ y, m[k] = y := ⟨_, rfl⟩
    have hne0 : l ≠ [] := by intro e; rw [e] at hlt; simp at hlt
    have hne1 : m ≠ [] := by intro e; rw [e] at hlt2; simp at hlt2
    obtain ⟨b, o, rfl, hb, ha0⟩ := HA.out hne0
    obtain ⟨b2, o2, rfl, hb2, hc0⟩ := HB.out hne1
    have ha := (ha0 k hlt).below hbel hb
    have hc := (hc0 k hlt2).below hbel hb2
    rw [ex] at ha
    rw [ey] at hc
    obtain ⟨a0, a1⟩ := ha
    obtain ⟨d0, d1⟩ := hc
    have hlb := World.block_lt_of_cell? _ _ a0
    have hlb2 := World.block_lt_of_cell? _ _ d0
    have hq := neq_chN x y
    have HBL := qH hbel
    by_cases hxy : x = y
    ·have hd : (!decide (x = y)) = false := by simpa using hxy
     rw [hd] at hq
     have hs2 : ∀ j (h : j < k + 1) (h1 : j < l.length) (h2 : j < m.length), l[j] = m[j] := fun j hj h1 h2 => by
      by_cases e : j = k
      ·subst e; rw [ex, ey, hxy]
      ·exact HS.out j (by omega) h1 h2
     have HS2 := qH hs2
     clear ex ey hbel ha0 hc0 hne0 hne1 hxy hd hs2
     go_wp2
     go_quiet (fail)
     go_wp2
     go_roundw
     case rel => exact ⟨k + 1, by omega, by go_num, HS2.out, by first | exact below_drewNm HBL.out _ | exact below_drewNm (HBL.out.alloc HBL.out.size _) _⟩
     case measure => simp [intOf]; omega
    ·have hd : (!decide (x = y)) = true := by simpa using hxy
     rw [hd] at hq
     have hR : Hid (R = false) := by
      show _ = _
      rw [<- ER.out]
      have : l ≠ m := list_ne_at hlt hlt2 (by rw [ex, ey]; exact hxy)
      simpa using this
     clear ex ey hbel ha0 hc0 hne0 hne1 hxy hd
     go_wp2
     go_quiet (fail)
     go_wp2
     go_ret
     exact ⟨ret_bool' hR.out.symm, by first | exact below_drewNm HBL.out _ | exact below_drewNm (HBL.out.alloc HBL.out.size _) _⟩
   ·obtain rfl : k = l.length := by omega
    have hR : Hid (R = true) := by
     show _ = _
     rw [<- ER.out]
     have : l = m := list_eq_of HLEN.out (fun j h1 h2 => HS.out j h1 h1 h2)
     simpa using this
    go_wp2
    go_ret
    exact ⟨ret_bool' hR.out.symm, hbel⟩
 ·have hR : decide (l = m) = false := by simp; intro e; exact hlen (by rw [e])
  rw [hR]
  have hli : ¬ (l.length : Int) = (m.length : Int) := by omega
  clear hR hlen
  go_enter Tryz.func59, Tryz.ntmps59
  go_wp2
  go_ret
  exact ⟨rfl, Below.refl _ _⟩
end Go.Proofs.YtomahddiclkepaaGreatDoor
