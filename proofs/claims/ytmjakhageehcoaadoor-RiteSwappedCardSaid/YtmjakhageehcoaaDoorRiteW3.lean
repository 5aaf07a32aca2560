/- RiteSwapped: the law's walk. -/
import Derived.Test.YtmjakhageehcoaaDoorRiteW2
namespace Go.Proofs.YtmjakhageehcoaaDoor
open Go.RowKit Go.Joins
set_option linter.unusedVariables false
set_option linter.unusedSimpArgs false

theorem px_mk {p : Px} (h1 : wordB p.name = true) (h2 : wordB p.also = true) (ha : p.also.toList ≠ []) (ok : OkPx p) : pxChk p = 0 := by
  unfold pxChk
  rw [if_neg (by rw [h1]; simp), if_neg (by rw [h2]; simp), if_neg (by rw [withinB_t ⟨ok.o1, ok.o2⟩]; simp), if_neg ha, if_neg (by rw [withinB_t ⟨ok.a1, ok.a2⟩]; simp), if_neg (by rw [ok.s]; simp), if_neg (by rw [ok.e]; simp), if_neg ok.ne]

def swp (p : Px) : Px := ⟨p.name, p.off, p.also, p.aoff, p.e, p.s⟩
theorem swp_chk {p : Px} (h : pxChk p = 0) (ha : p.also.toList ≠ []) : pxChk (swp p) = 0 := by
  have ok := px_ok h ha
  exact px_mk (p := swp p) (px_word (p := p) h) (px_word2 (p := p) h ha) ha ⟨ok.o1, ok.o2, ok.a1, ok.a2, ok.e, ok.s, fun e => ok.ne e.symm⟩

theorem set4 {W : World} {B : Nat} {cs : Array Value} {T : TypeId} {f : Nat × Nat} (h : W.heap[B]? = some (.cells cs T f)) (i j k l : Nat) (a b c d : Value) :
    ((((W.setCell ⟨B, i, none⟩ a).setCell ⟨B, j, none⟩ b).setCell ⟨B, k, none⟩ c).setCell ⟨B, l, none⟩ d).heap[B]? = some (.cells ((((cs.setIfInBounds i a).setIfInBounds j b).setIfInBounds k c).setIfInBounds l d) T f) :=
  heap_setCR (heap_setCR (heap_setCR (heap_setCR h a) b) c) d
theorem PxBx.drew {W : World} {B : Nat} {p : Px} (h : PxBx W B p) : PxBx W.drew B p := h
theorem swp_cells (p : Px) : ((((((((pxCells p).setIfInBounds 4 (.int .i64 p.e.m)).setIfInBounds 5 (.int .i64 p.e.w)).setIfInBounds 6 (.int .i64 p.e.d)).setIfInBounds 7 (.int .i64 p.e.t)).setIfInBounds 8 (.int .i64 p.s.m)).setIfInBounds 9 (.int .i64 p.s.w)).setIfInBounds 10 (.int .i64 p.s.d)).setIfInBounds 11 (.int .i64 p.s.t) = pxCells (swp p) := by simp only [pxCells, List.setIfInBounds_toArray, List.set_cons_zero, List.set_cons_succ, swp]
theorem swp_cells2 (p : Px) : ((((((((pxCells p).setIfInBounds 8 (.int .i64 p.s.m)).setIfInBounds 9 (.int .i64 p.s.w)).setIfInBounds 10 (.int .i64 p.s.d)).setIfInBounds 11 (.int .i64 p.s.t)).setIfInBounds 4 (.int .i64 p.e.m)).setIfInBounds 5 (.int .i64 p.e.w)).setIfInBounds 6 (.int .i64 p.e.d)).setIfInBounds 7 (.int .i64 p.e.t) = pxCells (swp p) := by simp only [pxCells, List.setIfInBounds_toArray, List.set_cons_zero, List.set_cons_succ, swp]
theorem swp_box {W : World} {B : Nat} {p : Px} (h : PxBx W B p) :
    PxBx ((((((((W.setCell ⟨B, 4, none⟩ (.int .i64 p.e.m)).setCell ⟨B, 5, none⟩ (.int .i64 p.e.w)).setCell ⟨B, 6, none⟩ (.int .i64 p.e.d)).setCell ⟨B, 7, none⟩ (.int .i64 p.e.t)).setCell ⟨B, 8, none⟩ (.int .i64 p.s.m)).setCell ⟨B, 9, none⟩ (.int .i64 p.s.w)).setCell ⟨B, 10, none⟩ (.int .i64 p.s.d)).setCell ⟨B, 11, none⟩ (.int .i64 p.s.t)) B (swp p) := by
  have := set4 (set4 h 4 5 6 7 (.int .i64 p.e.m) (.int .i64 p.e.w) (.int .i64 p.e.d) (.int .i64 p.e.t)) 8 9 10 11 (.int .i64 p.s.m) (.int .i64 p.s.w) (.int .i64 p.s.d) (.int .i64 p.s.t)
  rw [swp_cells] at this
  exact this
theorem swp_box2 {W : World} {B : Nat} {p : Px} (h : PxBx W B p) :
    PxBx ((((((((W.setCell ⟨B, 8, none⟩ (.int .i64 p.s.m)).setCell ⟨B, 9, none⟩ (.int .i64 p.s.w)).setCell ⟨B, 10, none⟩ (.int .i64 p.s.d)).setCell ⟨B, 11, none⟩ (.int .i64 p.s.t)).setCell ⟨B, 4, none⟩ (.int .i64 p.e.m)).setCell ⟨B, 5, none⟩ (.int .i64 p.e.w)).setCell ⟨B, 6, none⟩ (.int .i64 p.e.d)).setCell ⟨B, 7, none⟩ (.int .i64 p.e.t)) B (swp p) := by
  have := set4 (set4 h 8 9 10 11 (.int .i64 p.s.m) (.int .i64 p.s.w) (.int .i64 p.s.d) (.int .i64 p.s.t)) 4 5 6 7 (.int .i64 p.e.m) (.int .i64 p.e.w) (.int .i64 p.e.d) (.int .i64 p.e.t)
  rw [swp_cells2] at this
  exact this

set_option maxRecDepth 100000 in
set_option maxHeartbeats 8000000 in
theorem RiteSwapped_none (p : Px) (y0 t0 : Int) (w : World) (h1 : p.name.size ≤ maxLen) (h2 : p.also.size ≤ maxLen) (ht : Tab10 w) (hn : pxChk p ≠ 0 ∨ p.also.toList = []) :
    Calls Tryd.prog 8 #[pxV p, .int .i64 y0, .int .i64 t0] w fun e w' => e = .returned (.bool true) ∧ Below w.heap.size w w' := by
  obtain ⟨c, hc, hT⟩ : ∃ c : Int, c ≠ 0 ∧ ∀ y W, Calls Tryd.prog 18 #[pxV p, .int .i64 y] W fun e w' => e = .returned (.tuple #[.int .i64 0, .int .i64 0, .int .i64 c]) ∧ Below W.heap.size W w' := by
    by_cases h : pxChk p = 0
    · exact ⟨6, by decide, fun y W => Turns_none p y W h1 h2 h (hn.resolve_left fun h' => h' h)⟩
    · exact ⟨pxChk p, h, fun y W => Turns_bad p y W h1 h2 h⟩
  have hc' : (c == 0) = false := by simpa using hc
  have hc'' : (c != 0) = true := by simpa using hc
  obtain ⟨W0, eW⟩ : ∃ W0, w.alloc (.cells (pxCells p) 51) = W0 := ⟨_, rfl⟩
  have HX : Hid (PxBx W0 w.heap.size p) := by show PxBx _ _ _; rw [← eW]; exact PxBx.box w p
  have HB : Hid (Below w.heap.size w W0) := by show Below _ _ _; rw [← eW]; exact below_al1 _ _
  have HEW := Lib.hid eW
  have HT := Lib.hid ht
  have HTT := Lib.hid hT
  have HR := Lib.hid (fun W => Rest_any y0 790 W (by decide) (by decide))
  have hm0 : 0 ≤ y0 % 790 := by omega
  have hm1 : y0 % 790 < 790 := by omega
  obtain ⟨m, em⟩ : ∃ m, y0 % 790 = m := ⟨_, rfl⟩
  rw [em] at hm0 hm1 HR
  clear eW h1 h2 ht hT hn em hc
  go_enter Tryd.func8, Tryd.ntmps8
  go_wp2_with fail
  rw [HEW.out]
  refine (rited_any _ (HT.out.below HB.out)).mono ?_
  rintro e w1 ⟨rfl, hb1⟩
  have HX1 := Lib.hid (HX.out.below hb1)
  have HB1 := Lib.hid (HB.out.trans (hb1.mono HB.out.size))
  clear hb1 HX HB
  obtain ⟨x0, x1, x2, x3, x4, x5, x6, x7, x8, x9, x10, x11⟩ := HX1.out.cells
  have hl1 := HX1.out.lt
  go_wp2_with fail
  refine (HR.out _).mono ?_
  rintro e w' ⟨rfl, rfl⟩
  go_wp2_with fail
  refine (HTT.out _ _).mono ?_
  rintro e w2 ⟨rfl, hb2⟩
  have HB2 := Lib.hid (HB1.out.trans (hb2.mono HB1.out.size))
  clear hb2
  go_wp2
  go_ret
  exact ⟨rfl, HB2.out⟩

set_option maxRecDepth 100000 in
set_option maxHeartbeats 8000000 in
theorem RiteSwapped_ok (p : Px) (y0 t0 : Int) (w : World) (h1 : p.name.size ≤ maxLen) (h2 : p.also.size ≤ maxLen) (ht : Tab10 w) (hp : pxChk p = 0) (ha : p.also.toList ≠ []) :
    Calls Tryd.prog 8 #[pxV p, .int .i64 y0, .int .i64 t0] w fun e w' => e = .returned (.bool true) ∧ Below w.heap.size w w' := by
  obtain ⟨W0, eW⟩ : ∃ W0, w.alloc (.cells (pxCells p) 51) = W0 := ⟨_, rfl⟩
  have HX : Hid (PxBx W0 w.heap.size p) := by show PxBx _ _ _; rw [← eW]; exact PxBx.box w p
  have HB : Hid (Below w.heap.size w W0) := by show Below _ _ _; rw [← eW]; exact below_al1 _ _
  have HEW := Lib.hid eW
  have HT := Lib.hid ht
  have HR := Lib.hid (fun W => Rest_any y0 790 W (by decide) (by decide))
  have hm0 : 0 ≤ y0 % 790 := by omega
  have hm1 : y0 % 790 < 790 := by omega
  obtain ⟨m, em⟩ : ∃ m, y0 % 790 = m := ⟨_, rfl⟩
  rw [em] at hm0 hm1 HR
  have HTT := Lib.hid (fun W => Turns_ok p (m + 1605) W h1 h2 hp ha (by omega) (by omega))
  have ok := px_ok hp ha
  have v1 : Civ.valid (m + 1605) 1 10 := ⟨by omega, by omega, by omega, by omega, by omega, by simp [Civ.mlen]⟩
  have v2 : Civ.valid (m + 1605) 12 20 := ⟨by omega, by omega, by omega, by omega, by omega, by simp [Civ.mlen]⟩
  have HD1 := Lib.hid (fun W => RDays_any (m + 1605) 1 10 W v1)
  have HD2 := Lib.hid (fun W => RDays_any (m + 1605) 12 20 W v2)
  have HL := Lib.hid (fun t => swapped_law p (swp p) ok rfl (m + 1605) t (by omega) (by omega))
  have b1 := Civ.days_bd v1
  have b2 := Civ.days_bd v2
  have b3 : Civ.days (m + 1605) 1 10 + 344 ≤ Civ.days (m + 1605) 12 20 ∧ Civ.days (m + 1605) 12 20 ≤ Civ.days (m + 1605) 1 10 + 345 := by
    rw [Civ.days_eq _ 1 10 (by omega) (by omega), Civ.days_eq _ 12 20 (by omega) (by omega)]
    have := Civ.lp01 (m + 1605)
    have c1 : Civ.cum (m + 1605) 1 = 0 := by simp [Civ.cum]
    have c2 : Civ.cum (m + 1605) 12 = Civ.lp (m + 1605) + 334 := by simp [Civ.cum]; omega
    omega
  have bs := rDay_bd (m + 1605) p.s (by omega) (by omega) ok.s
  have be := rDay_bd (m + 1605) p.e (by omega) (by omega) ok.e
  have q1 := okRt_iff.1 ok.s
  have q2 := okRt_iff.1 ok.e
  have o1 := ok.o1; have o2 := ok.o2; have o3 := ok.a1; have o4 := ok.a2
  have eS : tS p (m + 1605) = 86400 * rDay (m + 1605) p.s + p.s.t - p.off := rfl
  have eE : tE p (m + 1605) = 86400 * rDay (m + 1605) p.e + p.e.t - p.aoff := rfl
  obtain ⟨a, ea⟩ : ∃ a, tS p (m + 1605) = a := ⟨_, rfl⟩
  obtain ⟨b, eb⟩ : ∃ a, tE p (m + 1605) = a := ⟨_, rfl⟩
  obtain ⟨A, eA⟩ : ∃ a, Civ.days (m + 1605) 1 10 = a := ⟨_, rfl⟩
  obtain ⟨Z, eZ⟩ : ∃ a, Civ.days (m + 1605) 12 20 = a := ⟨_, rfl⟩
  rw [ea, eb] at HTT HL
  rw [eA] at HD1 HL b1 b3
  rw [eZ] at HD2 HL b2 b3
  have hr0 := Int.emod_nonneg t0 (show 86400 * (Z - A) ≠ 0 by omega)
  have hr1 := Int.emod_lt_of_pos t0 (show 0 < 86400 * (Z - A) by omega)
  have HR2 := Lib.hid (fun W => Rest_any t0 (86400 * (Z - A)) W (by omega) (by omega))
  obtain ⟨r, er⟩ : ∃ r, t0 % (86400 * (Z - A)) = r := ⟨_, rfl⟩
  rw [er] at hr0 hr1 HR2
  have ba1 : -20000000000 ≤ a := by omega
  have ba2 : a ≤ 20000000000 := by omega
  have bb1 : -20000000000 ≤ b := by omega
  have bb2 : b ≤ 20000000000 := by omega
  have HLL := Lib.hid (HL.out (86400 * A + r) (by omega) (by omega))
  have HA1 := Lib.hid (fun W (hb : Tab10 W) => At_any p (86400 * A + r) W h1 h2 (by omega) (by omega) hb)
  have HA2 := Lib.hid (fun W (hb : Tab10 W) => At_any (swp p) (86400 * A + r) W h1 h2 (by omega) (by omega) hb)
  have HRS1 := Lib.hid (fun h1 h2 b hb => riteR_sum (t := 86400 * A + r) hp ha h1 h2 b hb)
  have HRS2 := Lib.hid (fun h1 h2 b hb => riteR_sum (p := swp p) (t := 86400 * A + r) (swp_chk hp ha) ha h1 h2 b hb)
  clear eW h1 h2 ht em ok hp ha eS eE ea eb bs be q1 q2 v1 v2 eA eZ er HL
  go_enter Tryd.func8, Tryd.ntmps8
  go_wp2_with fail
  rw [HEW.out]
  refine (rited_any _ (HT.out.below HB.out)).mono ?_
  rintro e w1 ⟨rfl, hb1⟩
  have HX1 := Lib.hid (HX.out.below hb1)
  have HB1 := Lib.hid (HB.out.trans (hb1.mono HB.out.size))
  clear hb1 HX HB
  obtain ⟨x0, x1, x2, x3, x4, x5, x6, x7, x8, x9, x10, x11⟩ := HX1.out.cells
  have hl1 := HX1.out.lt
  go_wp2_with fail
  refine (HR.out _).mono ?_
  rintro e w' ⟨rfl, rfl⟩
  go_wp2_with fail
  refine (HTT.out _).mono ?_
  rintro e w2 ⟨rfl, hb2⟩
  have HX2 := Lib.hid (HX1.out.below hb2)
  have HB2 := Lib.hid (HB1.out.trans (hb2.mono HB1.out.size))
  clear hb2 HX1 HB1 x0 x1 x2 x3 x4 x5 x6 x7 x8 x9 x10 x11 hl1
  go_wp2_with fail
  refine (HD1.out _).mono ?_
  rintro e w3 ⟨rfl, hb3⟩
  have HX3 := Lib.hid (HX2.out.below hb3)
  have HB3 := Lib.hid (HB2.out.trans (hb3.mono HB2.out.size))
  clear hb3 HX2 HB2
  go_wp2_with fail
  refine (HD2.out _).mono ?_
  rintro e w4 ⟨rfl, hb4⟩
  have HX4 := Lib.hid (HX3.out.below hb4)
  have HB4 := Lib.hid (HB3.out.trans (hb4.mono HB3.out.size))
  clear hb4 HX3 HB3
  go_wp2_with fail
  refine (HR2.out _).mono ?_
  rintro e w' ⟨rfl, rfl⟩
  go_upto_region 10 with fail
  obtain ⟨T, eT⟩ : ∃ T, 86400 * A + r = T := ⟨_, rfl⟩
  have hT1 : -20000000000 ≤ T := by omega
  have hT2 : T ≤ 20000000000 := by omega
  rw [eT] at HLL HA1 HA2 HRS1 HRS2 ⊢
  clear eT hr0 hr1 b1 b2 b3
  go_wp2_with fail
  obtain ⟨W5, e5⟩ : ∃ W5, w4.alloc (.cells #[.int .i64 a, .int .i64 b] 3) = W5 := ⟨_, rfl⟩
  rw [e5]
  have g5 : W5.heap[w4.heap.size]? = some (.cells #[.int .i64 a, .int .i64 b] 3 (0, 0)) := by rw [← e5]; exact heap_alloc_new w4 _
  have hb5 : Below w4.heap.size w4 W5 := by rw [← e5]; exact below_al1 _ _
  have HX5 := Lib.hid (HX4.out.below hb5)
  have HB5 := Lib.hid (HB4.out.trans (hb5.mono HB4.out.size))
  have hl5 := HX5.out.lt
  have d0 : W5.cell? ⟨w4.heap.size, 0, none⟩ = some (.int .i64 a) := (cell_of_row W5 _ 0 _ _ _ g5).trans rfl
  have d1 : W5.cell? ⟨w4.heap.size, 1, none⟩ = some (.int .i64 b) := (cell_of_row W5 _ 1 _ _ _ g5).trans rfl
  clear e5 g5 hb5 HX4 HB4
  go_loop [59] (fun i => ∃ k : Nat, k ≤ 2 ∧ i = .int .i64 k ∧ (1 ≤ k → ¬ (a - 90000 < T ∧ T < a + 90000)) ∧ (2 ≤ k → ¬ (b - 90000 < T ∧ T < b + 90000))) (fun i => 2 - (intOf i).toNat)
  case atStart => exact ⟨0, by omega, rfl, fun h => absurd h (by omega), fun h => absurd h (by omega)⟩
  case round =>
    obtain ⟨k, hk, rfl, hn1, hn2⟩ := hrel
    have hk3 : k = 0 ∨ k = 1 ∨ k = 2 := by omega
    clear hk
    rcases hk3 with rfl | rfl | rfl
    · clear hn1 hn2 d1
      by_cases c1 : a - 90000 < T
      · by_cases c2 : T < a + 90000
        · go_wp2
          go_ret
          exact ⟨rfl, HB5.out⟩
        · go_wp2
          go_round
          case rel => exact ⟨1, by omega, rfl, fun _ h => c2 h.2, fun h => absurd h (by omega)⟩
          case measure => simp [intOf]
      · go_wp2
        go_round
        case rel => exact ⟨1, by omega, rfl, fun _ h => c1 h.1, fun h => absurd h (by omega)⟩
        case measure => simp [intOf]
    · have N1 := Lib.hid (hn1 (by omega))
      clear hn1 hn2 d0
      by_cases c1 : b - 90000 < T
      · by_cases c2 : T < b + 90000
        · go_wp2
          go_ret
          exact ⟨rfl, HB5.out⟩
        · go_wp2
          go_round
          case rel => exact ⟨2, by omega, rfl, fun _ => N1.out, fun _ h => c2 h.2⟩
          case measure => simp [intOf]
      · go_wp2
        go_round
        case rel => exact ⟨2, by omega, rfl, fun _ => N1.out, fun _ h => c1 h.1⟩
        case measure => simp [intOf]
    · have N1 := Lib.hid (hn1 (by omega))
      have N2 := Lib.hid (hn2 (by omega))
      clear hn1 hn2 d0 d1
      obtain ⟨x0, x1, x2, x3, x4, x5, x6, x7, x8, x9, x10, x11⟩ := HX5.out.cells
      by_cases hd : a - b < 90000 ∧ -90000 < a - b
      · obtain ⟨f1, f2⟩ := hd
        go_wp2
        go_ret
        exact ⟨rfl, HB5.out⟩
      have hcase : 90000 ≤ a - b ∨ a - b ≤ -90000 := by omega
      obtain ⟨S1, S2, S3, S4⟩ := HLL.out N1.out N2.out hd
      obtain ⟨s, es⟩ : ∃ s, sumB (swp p) T = s := ⟨_, rfl⟩
      rw [es] at S4
      have R1 := HRS1.out S1 S2 (!s) S4
      have R2 := HRS2.out S1 S3 s es
      rw [R1] at HA1
      rw [R2] at HA2
      clear hd S1 S2 S3 S4 es R1 R2 HLL HRS1 HRS2 N1 N2
      obtain ⟨W6, e6⟩ : ∃ W6, W5.alloc (.cells (pxCells p) 51) = W6 := ⟨_, rfl⟩
      have g6 : PxBx W6 W5.heap.size p := by rw [← e6]; exact PxBx.box W5 p
      have hb6 : Below W5.heap.size W5 W6 := by rw [← e6]; exact below_al1 _ _
      have E6 := Lib.hid e6
      have HX6 := Lib.hid (HX5.out.below hb6)
      have HB6 := Lib.hid (HB5.out.trans (hb6.mono HB5.out.size))
      have G6 := Lib.hid g6
      have hz6 := g6.lt
      have hl6 := HX6.out.lt
      have fz6 : ∀ o, W6.frozen? ⟨W5.heap.size, o, none⟩ = false := fun o => by simp [World.frozen?, (show W6.heap[W5.heap.size]? = some _ from g6)]
      have hsw : w.heap.size < W5.heap.size := HX5.out.lt
      have HBW := Lib.hid hb6
      clear e6 g6 hb6
      rcases hcase with d | d
      rotate_left 1
      have e1 : a - b < 90000 := by omega
      rotate_left 1
      all_goals
        go_upto_region 20 with fail
        rw [E6.out]
        clear d x0 x1 x2 x3 x4 x5 x6 x7 x8 x9 x10 x11
        go_cut [17] (fun s17 wx => s17 = .pointer (some ⟨W5.heap.size, 0, none⟩) ∧ PxBx wx W5.heap.size (swp p) ∧ Below W5.heap.size W5 wx)
        case first =>
          obtain ⟨x0, x1, x2, x3, x4, x5, x6, x7, x8, x9, x10, x11⟩ := HX6.out.cells
          obtain ⟨y0, y1, y2, y3, y4, y5, y6, y7, y8, y9, y10, y11⟩ := G6.out.cells
          clear x0 x1 x2 x3 y0 y1 y2 y3
          have f4 := fz6 4
          have f5 := fz6 5
          have f6 := fz6 6
          have f7 := fz6 7
          have f8 := fz6 8
          have f9 := fz6 9
          have f10 := fz6 10
          have f11 := fz6 11
          clear fz6
          go_region
          all_goals go_wp2_with fail
          all_goals go_meet
          all_goals refine ⟨rfl, ?_, ?_⟩
          · first | exact PxBx.drew (swp_box G6.out) | exact PxBx.drew (swp_box2 G6.out)
          · have hq := HBW.out
            repeat (first | (with_reducible exact hq) | (with_reducible refine Below.drew ?_) | (with_reducible refine Below.setCell ?_ (by simp only [Nat.le_refl]) _))
        case rest =>
          obtain ⟨rfl, hq, hbc⟩ := hcut
          have HQ := Lib.hid hq
          have HXC := Lib.hid (HX5.out.below hbc)
          have HBC := Lib.hid (HB5.out.trans (hbc.mono HB5.out.size))
          obtain ⟨x0, x1, x2, x3, x4, x5, x6, x7, x8, x9, x10, x11⟩ := HXC.out.cells
          have hlc := HXC.out.lt
          clear hq hbc
          go_wp2_with fail
          refine (HA1.out _ (HT.out.below HBC.out)).mono ?_
          rintro e w7 ⟨rfl, hb7⟩
          have HQ7 := Lib.hid (HQ.out.below hb7)
          have HB7 := Lib.hid (HBC.out.trans (hb7.mono HBC.out.size))
          clear hb7 x0 x1 x2 x3 x4 x5 x6 x7 x8 x9 x10 x11 hlc HQ HXC HBC
          obtain ⟨x0, x1, x2, x3, x4, x5, x6, x7, x8, x9, x10, x11⟩ := HQ7.out.cells
          have hl7 := HQ7.out.lt
          cases s
          · simp only [Bool.not_false, Bool.not_true, if_true, Bool.false_eq_true, if_false]
            go_wp2_with fail
            obtain ⟨V, e8⟩ : ∃ V, w7.alloc (.cells #[.int .i64 p.aoff, .bool true, .string p.also] 45) = V := ⟨_, rfl⟩
            rw [e8]
            have g8 : V.heap[w7.heap.size]? = some (.cells #[.int .i64 p.aoff, .bool true, .string p.also] 45 (0, 0)) := by rw [← e8]; exact heap_alloc_new w7 _
            have hb8 : Below w7.heap.size w7 V := by rw [← e8]; exact below_al1 _ _
            have hz8 := (Array.getElem?_eq_some_iff.mp g8).1
            have HB8 := Lib.hid (HB7.out.trans (hb8.mono HB7.out.size))
            have G8 := Lib.hid g8
            clear e8 g8 hb8
            refine (HA2.out _ (HT.out.below HB8.out)).mono ?_
            simp only [Bool.not_false, Bool.not_true, if_true, Bool.false_eq_true, if_false]
            rintro e w9 ⟨rfl, hb9⟩
            have g9 := (hb9.block _ hz8).trans G8.out
            have hz9 := (Array.getElem?_eq_some_iff.mp g9).1
            have s9 : w9.cell? ⟨w7.heap.size, 1, none⟩ = some (.bool true) := (cell_of_row w9 _ 1 _ _ _ g9).trans rfl
            have HB9 := Lib.hid (HB8.out.trans (hb9.mono HB8.out.size))
            clear hb9 g9
            go_wp2
            go_ret
            exact ⟨rfl, HB9.out.alloc HB9.out.size _⟩
          · simp only [Bool.not_false, Bool.not_true, if_true, Bool.false_eq_true, if_false]
            go_wp2_with fail
            obtain ⟨V, e8⟩ : ∃ V, w7.alloc (.cells #[.int .i64 p.off, .bool false, .string p.name] 45) = V := ⟨_, rfl⟩
            rw [e8]
            have g8 : V.heap[w7.heap.size]? = some (.cells #[.int .i64 p.off, .bool false, .string p.name] 45 (0, 0)) := by rw [← e8]; exact heap_alloc_new w7 _
            have hb8 : Below w7.heap.size w7 V := by rw [← e8]; exact below_al1 _ _
            have hz8 := (Array.getElem?_eq_some_iff.mp g8).1
            have HB8 := Lib.hid (HB7.out.trans (hb8.mono HB7.out.size))
            have G8 := Lib.hid g8
            clear e8 g8 hb8
            refine (HA2.out _ (HT.out.below HB8.out)).mono ?_
            simp only [Bool.not_false, Bool.not_true, if_true, Bool.false_eq_true, if_false]
            rintro e w9 ⟨rfl, hb9⟩
            have g9 := (hb9.block _ hz8).trans G8.out
            have hz9 := (Array.getElem?_eq_some_iff.mp g9).1
            have s9 : w9.cell? ⟨w7.heap.size, 1, none⟩ = some (.bool false) := (cell_of_row w9 _ 1 _ _ _ g9).trans rfl
            have HB9 := Lib.hid (HB8.out.trans (hb9.mono HB8.out.size))
            clear hb9 g9
            go_wp2
            go_ret
            exact ⟨rfl, HB9.out.alloc HB9.out.size _⟩
end Go.Proofs.YtmjakhageehcoaaDoor
