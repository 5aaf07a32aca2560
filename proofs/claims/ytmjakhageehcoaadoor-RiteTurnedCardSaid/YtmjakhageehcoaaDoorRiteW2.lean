/- RiteTurned: the law's walk. -/
import Derived.Test.YtmjakhageehcoaaDoorRiteW
namespace Go.Proofs.YtmjakhageehcoaaDoor
open Go.RowKit Go.Joins
set_option linter.unusedVariables false
set_option linter.unusedSimpArgs false

theorem riteR_sum {p : Px} {t : Int} (h : pxChk p = 0) (ha : p.also.toList ≠ []) (h1 : okSt t = true) (h2 : okSt (t + p.off) = true) (b : Bool) (hb : sumB p t = b) :
    riteR p t = if b = true then atV p.aoff true p.also 0 else atV p.off false p.name 0 := by
  unfold riteR
  rw [if_neg (by rw [h]; simp), if_neg (by rw [h1, h2]; simp), if_neg ha, hb]

set_option maxRecDepth 100000 in
set_option maxHeartbeats 8000000 in
theorem RiteTurned_none (p : Px) (y0 : Int) (w : World) (h1 : p.name.size ≤ maxLen) (h2 : p.also.size ≤ maxLen) (ht : Tab10 w) (hn : pxChk p ≠ 0 ∨ p.also.toList = []) :
    Calls Tryd.prog 7 #[pxV p, .int .i64 y0] w fun e w' => e = .returned (.bool true) ∧ Below w.heap.size w w' := by
  obtain ⟨c, hc, hT⟩ : ∃ c : Int, c ≠ 0 ∧ ∀ y W, Calls Tryd.prog 18 #[pxV p, .int .i64 y] W fun e w' => e = .returned (.tuple #[.int .i64 0, .int .i64 0, .int .i64 c]) ∧ Below W.heap.size W w' := by
    by_cases h : pxChk p = 0
    · exact ⟨6, by decide, fun y W => Turns_none p y W h1 h2 h (hn.resolve_left fun h' => h' h)⟩
    · exact ⟨pxChk p, h, fun y W => Turns_bad p y W h1 h2 h⟩
  have hc' : (c == 0) = false := by simpa using hc
  have hc'' : (c != 0) = true := by simpa using hc
  obtain ⟨W0, eW⟩ : ∃ W0, w.alloc (.cells (pxCells p) 51) = W0 := ⟨_, rfl⟩
  have HX : Hid (PxBx W0 w.heap.size p) := by show PxBx _ _ _; rw [← eW]; exact PxBx.box w p
  have HB : Hid (Below w.heap.size w W0) := by show Below _ _ _; rw [← eW]; exact below_al1 _ _
  have HEW := Lib.hid eW
  have HT := Lib.hid ht
  have HTT := Lib.hid hT
  have HR := Lib.hid (fun W => Rest_any y0 797 W (by decide) (by decide))
  have hm0 : 0 ≤ y0 % 797 := by omega
  have hm1 : y0 % 797 < 797 := by omega
  obtain ⟨m, em⟩ : ∃ m, y0 % 797 = m := ⟨_, rfl⟩
  rw [em] at hm0 hm1 HR
  clear eW h1 h2 ht hT hn em hc
  go_enter Tryd.func7, Tryd.ntmps7
  go_wp2_with fail
  rw [HEW.out]
  refine (rited_any _ (HT.out.below HB.out)).mono ?_
  rintro e w1 ⟨rfl, hb1⟩
  have HX1 := Lib.hid (HX.out.below hb1)
  have HB1 := Lib.hid (HB.out.trans (hb1.mono HB.out.size))
  clear hb1 HX HB
  obtain ⟨x0, x1, x2, x3, x4, x5, x6, x7, x8, x9, x10, x11⟩ := HX1.out.cells
  have hl1 := HX1.out.lt
  go_wp2_with fail
  refine (HR.out _).mono ?_
  rintro e w' ⟨rfl, rfl⟩
  go_wp2_with fail
  refine (HTT.out _ _).mono ?_
  rintro e w2 ⟨rfl, hb2⟩
  have HB2 := Lib.hid (HB1.out.trans (hb2.mono HB1.out.size))
  clear hb2
  go_wp2
  go_ret
  exact ⟨rfl, HB2.out⟩

set_option maxRecDepth 100000 in
set_option maxHeartbeats 8000000 in
theorem RiteTurned_ok (p : Px) (y0 : Int) (w : World) (h1 : p.name.size ≤ maxLen) (h2 : p.also.size ≤ maxLen) (ht : Tab10 w) (hp : pxChk p = 0) (ha : p.also.toList ≠ []) :
    Calls Tryd.prog 7 #[pxV p, .int .i64 y0] w fun e w' => e = .returned (.bool true) ∧ Below w.heap.size w w' := by
  obtain ⟨W0, eW⟩ : ∃ W0, w.alloc (.cells (pxCells p) 51) = W0 := ⟨_, rfl⟩
  have HX : Hid (PxBx W0 w.heap.size p) := by show PxBx _ _ _; rw [← eW]; exact PxBx.box w p
  have HB : Hid (Below w.heap.size w W0) := by show Below _ _ _; rw [← eW]; exact below_al1 _ _
  have HEW := Lib.hid eW
  have HT := Lib.hid ht
  have HR := Lib.hid (fun W => Rest_any y0 797 W (by decide) (by decide))
  have hm0 : 0 ≤ y0 % 797 := by omega
  have hm1 : y0 % 797 < 797 := by omega
  obtain ⟨m, em⟩ : ∃ m, y0 % 797 = m := ⟨_, rfl⟩
  rw [em] at hm0 hm1 HR
  have HTT := Lib.hid (fun W => Turns_ok p (m + 1601) W h1 h2 hp ha (by omega) (by omega))
  have ok := px_ok hp ha
  have HL := Lib.hid (turned_law p ok (m + 1601) (by omega) (by omega))
  have bs := rDay_bd (m + 1601) p.s (by omega) (by omega) ok.s
  have be := rDay_bd (m + 1601) p.e (by omega) (by omega) ok.e
  have q1 := okRt_iff.1 ok.s
  have q2 := okRt_iff.1 ok.e
  have o1 := ok.o1; have o2 := ok.o2; have o3 := ok.a1; have o4 := ok.a2
  have eS : tS p (m + 1601) = 86400 * rDay (m + 1601) p.s + p.s.t - p.off := rfl
  have eE : tE p (m + 1601) = 86400 * rDay (m + 1601) p.e + p.e.t - p.aoff := rfl
  obtain ⟨a, ea⟩ : ∃ a, tS p (m + 1601) = a := ⟨_, rfl⟩
  obtain ⟨b, eb⟩ : ∃ a, tE p (m + 1601) = a := ⟨_, rfl⟩
  rw [ea, eb] at HTT HL
  have ba1 : -20000000000 ≤ a := by omega
  have ba2 : a ≤ 20000000000 := by omega
  have bb1 : -20000000000 ≤ b := by omega
  have bb2 : b ≤ 20000000000 := by omega
  have HA := Lib.hid (fun (x : Int) (hx1 : -30000000000 ≤ x) (hx2 : x ≤ 30000000000) W (hb : Tab10 W) => At_any p x W h1 h2 (by omega) (by omega) hb)
  have OK := Lib.hid ok
  have HRS := Lib.hid (fun (x : Int) h1 h2 b hb => riteR_sum (t := x) hp ha h1 h2 b hb)
  clear q1
  clear eW h1 h2 ht em ok hp ha eS eE ea eb bs be q2
  go_enter Tryd.func7, Tryd.ntmps7
  go_wp2_with fail
  rw [HEW.out]
  refine (rited_any _ (HT.out.below HB.out)).mono ?_
  rintro e w1 ⟨rfl, hb1⟩
  have HX1 := Lib.hid (HX.out.below hb1)
  have HB1 := Lib.hid (HB.out.trans (hb1.mono HB.out.size))
  clear hb1 HX HB
  obtain ⟨x0, x1, x2, x3, x4, x5, x6, x7, x8, x9, x10, x11⟩ := HX1.out.cells
  have hl1 := HX1.out.lt
  go_wp2_with fail
  refine (HR.out _).mono ?_
  rintro e w' ⟨rfl, rfl⟩
  go_wp2_with fail
  refine (HTT.out _).mono ?_
  rintro e w2 ⟨rfl, hb2⟩
  have HX2 := Lib.hid (HX1.out.below hb2)
  have HB2 := Lib.hid (HB1.out.trans (hb2.mono HB1.out.size))
  clear hb2 HX1 HB1 x0 x1 x2 x3 x4 x5 x6 x7 x8 x9 x10 x11 hl1
  obtain ⟨x0, x1, x2, x3, x4, x5, x6, x7, x8, x9, x10, x11⟩ := HX2.out.cells
  have hl2 := HX2.out.lt
  by_cases m1 : p.s.m = 1
  · go_wp2
    go_ret
    exact ⟨rfl, HB2.out⟩
  by_cases m2 : p.s.m = 12
  · have m1' : (p.s.m == 1) = false := by simpa using m1
    have m2' : (p.s.m == 12) = true := by simpa using m2
    clear m1 m2
    go_wp2
    go_ret
    exact ⟨rfl, HB2.out⟩
  by_cases m3 : p.e.m = 1
  · have m1' : (p.s.m == 1) = false := by simpa using m1
    have m2' : (p.s.m == 12) = false := by simpa using m2
    have m3' : (p.e.m == 1) = true := by simpa using m3
    clear m1 m2 m3
    go_wp2
    go_ret
    exact ⟨rfl, HB2.out⟩
  by_cases m4 : p.e.m = 12
  · have m1' : (p.s.m == 1) = false := by simpa using m1
    have m2' : (p.s.m == 12) = false := by simpa using m2
    have m3' : (p.e.m == 1) = false := by simpa using m3
    have m4' : (p.e.m == 12) = true := by simpa using m4
    clear m1 m2 m3 m4
    go_wp2
    go_ret
    exact ⟨rfl, HB2.out⟩
  have m1' : (p.s.m == 1) = false := by simpa using m1
  have m2' : (p.s.m == 12) = false := by simpa using m2
  have m3' : (p.e.m == 1) = false := by simpa using m3
  have m4' : (p.e.m == 12) = false := by simpa using m4
  have M1 := Lib.hid m1
  have M2 := Lib.hid m2
  have M3 := Lib.hid m3
  have M4 := Lib.hid m4
  clear m1 m2 m3 m4
  by_cases hd : b - a < p.aoff - p.off ∧ -(p.aoff - p.off) < b - a
  · obtain ⟨d1, d2⟩ := hd
    go_wp2
    go_ret
    exact ⟨rfl, HB2.out⟩
  have hcase : p.aoff - p.off ≤ b - a ∨ b - a ≤ -(p.aoff - p.off) := by omega
  have q1 := okRt_iff.1 OK.out.s
  have q2 := okRt_iff.1 OK.out.e
  have HLL := HL.out (by have := M1.out; omega) (by have := M2.out; omega) (by have := M3.out; omega) (by have := M4.out; omega) hd
  have R1 : riteR p (a - 1) = atV p.off false p.name 0 := by
    obtain ⟨g1, g2, g3⟩ := HLL (a - 1) (Or.inl rfl)
    exact (HRS.out (a - 1) g1 g2 false (by rw [g3]; exact decide_eq_false (by omega))).trans (if_neg (by simp))
  have R2 : riteR p a = atV p.aoff true p.also 0 := by
    obtain ⟨g1, g2, g3⟩ := HLL a (Or.inr (Or.inl rfl))
    exact (HRS.out a g1 g2 true (by rw [g3]; exact decide_eq_true (by omega))).trans (if_pos rfl)
  have R3 : riteR p (b - 1) = atV p.aoff true p.also 0 := by
    obtain ⟨g1, g2, g3⟩ := HLL (b - 1) (Or.inr (Or.inr (Or.inl rfl)))
    exact (HRS.out (b - 1) g1 g2 true (by rw [g3]; exact decide_eq_true (by omega))).trans (if_pos rfl)
  have R4 : riteR p b = atV p.off false p.name 0 := by
    obtain ⟨g1, g2, g3⟩ := HLL b (Or.inr (Or.inr (Or.inr rfl)))
    exact (HRS.out b g1 g2 false (by rw [g3]; exact decide_eq_false (by omega))).trans (if_neg (by simp))
  have A1 := HA.out (a - 1) (by omega) (by omega)
  have A2 := HA.out a (by omega) (by omega)
  have A3 := HA.out (b - 1) (by omega) (by omega)
  have A4 := HA.out b (by omega) (by omega)
  rw [R1] at A1
  rw [R2] at A2
  rw [R3] at A3
  rw [R4] at A4
  have H1 := Lib.hid A1
  have H2 := Lib.hid A2
  have H3 := Lib.hid A3
  have H4 := Lib.hid A4
  clear hd HLL R1 R2 R3 R4 A1 A2 A3 A4 q1 q2 HL HRS HA M1 M2 M3 M4
  rcases hcase with d | d
  rotate_left 1
  have e1 : b - a < p.aoff - p.off := by omega
  rotate_left 1
  all_goals
    go_upto_region 13 with fail
    clear d
    go_wp2_with fail
    refine (H1.out _ (HT.out.below HB2.out)).mono ?_
    rintro e w3 ⟨rfl, hb3⟩
    have HX3 := Lib.hid (HX2.out.below hb3)
    have HB3 := Lib.hid (HB2.out.trans (hb3.mono HB2.out.size))
    clear hb3 x0 x1 x2 x3 x4 x5 x6 x7 x8 x9 x10 x11 hl2
    obtain ⟨x0, x1, x2, x3, x4, x5, x6, x7, x8, x9, x10, x11⟩ := HX3.out.cells
    have hl3 := HX3.out.lt
    go_wp2_with fail
    obtain ⟨V4, e4⟩ : ∃ V, w3.alloc (.cells #[.int .i64 p.off, .bool false, .string p.name] 45) = V := ⟨_, rfl⟩
    rw [e4]
    have g4 : V4.heap[w3.heap.size]? = some (.cells #[.int .i64 p.off, .bool false, .string p.name] 45 (0, 0)) := by rw [← e4]; exact heap_alloc_new w3 _
    have hb4 : Below w3.heap.size w3 V4 := by rw [← e4]; exact below_al1 _ _
    have hz4 := (Array.getElem?_eq_some_iff.mp g4).1
    have HY4 := Lib.hid (HX3.out.below hb4)
    have HC4 := Lib.hid (HB3.out.trans (hb4.mono HB3.out.size))
    have K4_v := Lib.hid g4
    clear e4 g4
    refine (H2.out _ (HT.out.below HC4.out)).mono ?_
    rintro e w4 ⟨rfl, hc4⟩
    have HX4 := Lib.hid (HY4.out.below hc4)
    have HB4 := Lib.hid (HC4.out.trans (hc4.mono HC4.out.size))
    have K4_4 := Lib.hid ((hc4.block _ hz4).trans K4_v.out)
    have z4_4 := (Array.getElem?_eq_some_iff.mp K4_4.out).1
    clear hb4 hc4 hz4 x0 x1 x2 x3 x4 x5 x6 x7 x8 x9 x10 x11
    obtain ⟨x0, x1, x2, x3, x4, x5, x6, x7, x8, x9, x10, x11⟩ := HX4.out.cells
    have hl4 := HX4.out.lt
    go_wp2_with fail
    obtain ⟨V5, e5⟩ : ∃ V, w4.alloc (.cells #[.int .i64 p.aoff, .bool true, .string p.also] 45) = V := ⟨_, rfl⟩
    rw [e5]
    have g5 : V5.heap[w4.heap.size]? = some (.cells #[.int .i64 p.aoff, .bool true, .string p.also] 45 (0, 0)) := by rw [← e5]; exact heap_alloc_new w4 _
    have hb5 : Below w4.heap.size w4 V5 := by rw [← e5]; exact below_al1 _ _
    have hz5 := (Array.getElem?_eq_some_iff.mp g5).1
    have HY5 := Lib.hid (HX4.out.below hb5)
    have HC5 := Lib.hid (HB4.out.trans (hb5.mono HB4.out.size))
    have K4_5 := Lib.hid ((hb5.block _ z4_4).trans K4_4.out)
    have K5_v := Lib.hid g5
    clear e5 g5
    refine (H3.out _ (HT.out.below HC5.out)).mono ?_
    rintro e w5 ⟨rfl, hc5⟩
    have HX5 := Lib.hid (HY5.out.below hc5)
    have HB5 := Lib.hid (HC5.out.trans (hc5.mono HC5.out.size))
    have y4_5 := (Array.getElem?_eq_some_iff.mp K4_5.out).1
    have J4_5 := Lib.hid ((hc5.block _ y4_5).trans K4_5.out)
    clear K4_5 y4_5
    have K4_5 := J4_5
    have z4_5 := (Array.getElem?_eq_some_iff.mp K4_5.out).1
    have K5_5 := Lib.hid ((hc5.block _ hz5).trans K5_v.out)
    have z5_5 := (Array.getElem?_eq_some_iff.mp K5_5.out).1
    clear hb5 hc5 hz5 x0 x1 x2 x3 x4 x5 x6 x7 x8 x9 x10 x11
    obtain ⟨x0, x1, x2, x3, x4, x5, x6, x7, x8, x9, x10, x11⟩ := HX5.out.cells
    have hl5 := HX5.out.lt
    go_wp2_with fail
    obtain ⟨V6, e6⟩ : ∃ V, w5.alloc (.cells #[.int .i64 p.aoff, .bool true, .string p.also] 45) = V := ⟨_, rfl⟩
    rw [e6]
    have g6 : V6.heap[w5.heap.size]? = some (.cells #[.int .i64 p.aoff, .bool true, .string p.also] 45 (0, 0)) := by rw [← e6]; exact heap_alloc_new w5 _
    have hb6 : Below w5.heap.size w5 V6 := by rw [← e6]; exact below_al1 _ _
    have hz6 := (Array.getElem?_eq_some_iff.mp g6).1
    have HY6 := Lib.hid (HX5.out.below hb6)
    have HC6 := Lib.hid (HB5.out.trans (hb6.mono HB5.out.size))
    have K4_6 := Lib.hid ((hb6.block _ z4_5).trans K4_5.out)
    have K5_6 := Lib.hid ((hb6.block _ z5_5).trans K5_5.out)
    have K6_v := Lib.hid g6
    clear e6 g6
    refine (H4.out _ (HT.out.below HC6.out)).mono ?_
    rintro e w6 ⟨rfl, hc6⟩
    have HX6 := Lib.hid (HY6.out.below hc6)
    have HB6 := Lib.hid (HC6.out.trans (hc6.mono HC6.out.size))
    have y4_6 := (Array.getElem?_eq_some_iff.mp K4_6.out).1
    have J4_6 := Lib.hid ((hc6.block _ y4_6).trans K4_6.out)
    clear K4_6 y4_6
    have K4_6 := J4_6
    have z4_6 := (Array.getElem?_eq_some_iff.mp K4_6.out).1
    have y5_6 := (Array.getElem?_eq_some_iff.mp K5_6.out).1
    have J5_6 := Lib.hid ((hc6.block _ y5_6).trans K5_6.out)
    clear K5_6 y5_6
    have K5_6 := J5_6
    have z5_6 := (Array.getElem?_eq_some_iff.mp K5_6.out).1
    have K6_6 := Lib.hid ((hc6.block _ hz6).trans K6_v.out)
    have z6_6 := (Array.getElem?_eq_some_iff.mp K6_6.out).1
    clear hb6 hc6 hz6 x0 x1 x2 x3 x4 x5 x6 x7 x8 x9 x10 x11
    obtain ⟨x0, x1, x2, x3, x4, x5, x6, x7, x8, x9, x10, x11⟩ := HX6.out.cells
    have hl6 := HX6.out.lt
    have s4 : w6.cell? ⟨w3.heap.size, 1, none⟩ = some (.bool false) := (cell_of_row w6 _ 1 _ _ _ K4_6.out).trans rfl
    have s5 : w6.cell? ⟨w4.heap.size, 1, none⟩ = some (.bool true) := (cell_of_row w6 _ 1 _ _ _ K5_6.out).trans rfl
    have s6 : w6.cell? ⟨w5.heap.size, 1, none⟩ = some (.bool true) := (cell_of_row w6 _ 1 _ _ _ K6_6.out).trans rfl
    have HBz := HB6
    go_wp2
    go_ret
    exact ⟨rfl, HBz.out.alloc HBz.out.size _⟩

end Go.Proofs.YtmjakhageehcoaaDoor
