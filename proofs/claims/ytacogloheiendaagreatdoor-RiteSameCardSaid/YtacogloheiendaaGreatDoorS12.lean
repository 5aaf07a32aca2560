/- RiteSame: the walk. What a row's list of package-level variables gives: strconv's table of powers of ten. What a row's list of package-level variables gives, and bytealg's MaxLen. The bounds of an int that came in. A law's argument of type Posix, as it comes in. turns.Make: what it returns. -/
import Derived.Test.YtacogloheiendaaGreatDoorS10
import Derived.Test.YtacogloheiendaaGreatDoorS11
import Derived.Test.YtacogloheiendaaGreatDoorS04
import Derived.Test.YtacogloheiendaaGreatDoorS07
import Derived.Test.YtacogloheiendaaGreatDoorCards
import Derived.Test.YtacogloheiendaaGreatDoorTie
import Derived.Test.YtacogloheiendaaGreatDoorS01
import Derived.LaidMore
import Derived.Deep.DeepHandedRow
import Derived.Deep.DeepWitnessRowRef
import Derived.Lib.LaidTab
import Derived.Stop.LaidErr
import Derived.Test.YtacogloheiendaaGreatDoorS02
import Derived.WalkKit
import Derived.Deep.Slices
import Derived.Deep.Fields
import Derived.ChangeSame
import Derived.Lib.SmallJoins
import Derived.Test.YtacogloheiendaaGreatDoorS06
import Derived.Deep.DeepCutAuto
import Derived.Deep.CutRange
import Derived.Deep.CutBlock
namespace Go.Proofs.YtacogloheiendaaGreatDoor
open Go.RowKit Go.Joins
open Classical
set_option linter.unusedVariables false
set_option linter.unusedSimpArgs false

theorem px_m {p : Px} (h : pxChk p = 0) : 0 ≤ p.s.m ∧ p.s.m ≤ 12 ∧ 0 ≤ p.e.m ∧ p.e.m ≤ 12 := by
  by_cases ha : p.also.toList = []
  · have hz : rtZ p.s = true ∧ rtZ p.e = true := by
      unfold pxChk at h
      split at h
      · exact absurd h (by decide)
      split at h
      · exact absurd h (by decide)
      split at h
      · exact absurd h (by decide)
      split at h
      · next g => exact g.2
      · exact absurd h (by decide)
    have g1 := of_decide_eq_true hz.1
    have g2 := of_decide_eq_true hz.2
    omega
  · have o := px_ok h ha
    obtain ⟨a1, a2, -⟩ := okRt_iff.1 o.s
    obtain ⟨b1, b2, -⟩ := okRt_iff.1 o.e
    omega
theorem rs_ap {p : Px} (h : pxChk p = 0) (ha : p.also.toList ≠ []) (h1 : 3 ≤ p.s.m ∧ p.s.m ≤ 10) (h2 : 3 ≤ p.e.m ∧ p.e.m ≤ 10) (h3 : p.s.m - p.e.m ≠ 1) (h4 : p.s.m - p.e.m ≠ -1) : RsOk p := by
  have o := px_ok h ha
  have := o.ne
  exact ⟨o, h1.1, h1.2, h2.1, h2.2, by omega⟩
set_option maxRecDepth 100000 in
set_option maxHeartbeats 16000000 in
theorem RiteSame_walk (MK : MakeSays) (p : Px) (nm : ByteArray) (f0 t0 x0 : Int) (w : World) (h1 : p.name.size ≤ maxLen) (h2 : p.also.size ≤ maxLen) (hn : nm.size ≤ 140737488351232) (hf1 : -9223372036854775808 ≤ f0) (hf2 : f0 ≤ 9223372036854775807) (ht1 : -9223372036854775808 ≤ t0) (ht2 : t0 ≤ 9223372036854775807) (hx1 : -9223372036854775808 ≤ x0) (hx2 : x0 ≤ 9223372036854775807) (hm : MaxLen w) (ht : Tab10 w) :
    Calls Tryz.prog 3 #[pxV p, .string nm, .int .i64 f0, .int .i64 t0, .int .i64 x0] w fun e w' => e = .returned (.bool true) ∧ Below w.heap.size w w' := by
  obtain ⟨W0, eW⟩ : ∃ W0, w.alloc (.cells (pxCells p) 25) = W0 := ⟨_, rfl⟩
  have hb0 : Below w.heap.size w W0 := by rw [← eW]; exact (Below.refl _ _).alloc (Nat.le_refl _) _
  have hx0 : PxBx W0 w.heap.size p := by rw [← eW]; exact PxBx.box w p
  have hz0 : w.heap.size < W0.heap.size := hx0.lt
  have HEW := Lib.hid eW
  have HB0 := Lib.hid hb0
  have HPX : Hid (∀ W, Below W0.heap.size W0 W → PxBx W w.heap.size p) := by
    show ∀ W, _
    intro W hb
    exact hx0.below hb
  have HMT : Hid (∀ W, Below W0.heap.size W0 W → MaxLen W ∧ Tab10 W) := by
    show ∀ W, _
    intro W hb
    exact ⟨(hm.below hb0).below hb, (ht.below hb0).below hb⟩
  obtain ⟨f, ef⟩ : ∃ f, f0 % 190 + 1900 = f := ⟨_, rfl⟩
  have hfa : 1900 ≤ f := by omega
  have hfb : f ≤ 2089 := by omega
  obtain ⟨t, et⟩ : ∃ t, f + 2 + t0 % 8 = t := ⟨_, rfl⟩
  have hta : f + 2 ≤ t := by omega
  have htb : t ≤ f + 9 := by omega
  have HR1 := Lib.hid (fun W => Rest0_any f0 190 W (by omega) (by omega))
  have HR2 := Lib.hid (fun W => Rest0_any t0 8 W (by omega) (by omega))
  have hwf : IntKind.i64.wrap (f0 % 190 + 1900) = f := by rw [ef]; exact IntWalk.i64_in _ (by omega)
  have hwf2 : IntKind.i64.wrap (f + 2) = f + 2 := IntWalk.i64_in _ (by omega)
  have hwt : IntKind.i64.wrap (f + 2 + t0 % 8) = t := by rw [et]; exact IntWalk.i64_in _ (by omega)
  have HBK := Lib.hid (fun W => RtBook_any p nm f t W h1 h2 hn hfa (by omega) (by omega))
  clear eW hb0 hx0 ef et hm ht
  go_enter Tryz.func3, Tryz.ntmps3
  go_wp2_with fail
  rw [HEW.out]
  refine (rited_any W0 (HMT.out W0 (Below.refl _ _)).2).mono ?_
  rintro e w1 ⟨rfl, hb1⟩
  have HA1 := Lib.hid hb1
  clear hb1
  go_wp2_with fail
  refine (HR1.out _).mono ?_
  rintro e w' ⟨rfl, rfl⟩
  go_wp2_with fail
  refine (HR2.out _).mono ?_
  rintro e w' ⟨rfl, rfl⟩
  obtain ⟨x1, x2, x3, x4, x5, x6, x7, x8, x9, x10, x11, x12⟩ := (HPX.out w1 HA1.out).cells
  have hl1 : w.heap.size < w1.heap.size := by have := HA1.out.size; omega
  go_wp2_with fail
  refine (HBK.out _).mono ?_
  rintro e w2 ⟨hb2, hpost⟩
  have HA2 := Lib.hid (HA1.out.trans (hb2.mono HA1.out.size))
  clear hb2 HR1 HR2 HBK hwf hwf2 hwt x1 x2 x3 x4 x5 x6 x7 x8 x9 x10 x11 x12
  rcases hpost with ⟨C, hC, rfl⟩ | ⟨hp, hnb, hll, rv, zv, ev, rfl, hB⟩
  · have hz : (C == 0) = false := by simpa using hC
    have hzn : (C != 0) = true := by simpa using hC
    obtain ⟨W3, e3⟩ : ∃ W3, w2.alloc (.cells #[.slice none 0 0, .slice none 0 0, .slice none 0 0] 32) = W3 := ⟨_, rfl⟩
    have hx3 : W3.heap[w2.heap.size]? = some (.cells #[.slice none 0 0, .slice none 0 0, .slice none 0 0] 32 (0, 0)) := by rw [← e3]; exact heap_alloc_new w2 _
    have hb3 : Below w2.heap.size w2 W3 := by rw [← e3]; exact (Below.refl _ _).alloc (Nat.le_refl _) _
    have HA3 := Lib.hid (HA2.out.trans (hb3.mono HA2.out.size))
    have hz3 : w2.heap.size < W3.heap.size := (Array.getElem?_eq_some_iff.mp hx3).1
    have y0 : W3.cell? ⟨w2.heap.size, 0, none⟩ = some (.slice none 0 0) := (cell_of_row W3 _ 0 _ _ _ hx3).trans rfl
    have y1 : W3.cell? ⟨w2.heap.size, 1, none⟩ = some (.slice none 0 0) := (cell_of_row W3 _ 1 _ _ _ hx3).trans rfl
    have y2 : W3.cell? ⟨w2.heap.size, 2, none⟩ = some (.slice none 0 0) := (cell_of_row W3 _ 2 _ _ _ hx3).trans rfl
    have HE3 := Lib.hid e3
    have HEQ := Lib.hid (BookEq_none W3)
    clear hb3 hx3 e3 hC
    go_upto_region 6 with fail
    rw [HE3.out]
    go_wp2_with fail
    refine HEQ.out.mono ?_
    rintro e w4 ⟨rfl, hb4⟩
    have HA4 := Lib.hid (HA3.out.trans (hb4.mono HA3.out.size))
    clear hb4 HEQ
    go_wp2_with fail
    go_ret
    exact ⟨rfl, HB0.out.trans (HA4.out.mono HB0.out.size)⟩
  · obtain ⟨p1, c1, rfl, -, -⟩ := hB.r
    obtain ⟨p2, c2, rfl, -, -⟩ := hB.z
    obtain ⟨n1, en1⟩ : ∃ n1, (rsBk p nm ev f t).rules.length = n1 := ⟨_, rfl⟩
    obtain ⟨n2, en2⟩ : ∃ n2, (rsBk p nm ev f t).zones.length = n2 := ⟨_, rfl⟩
    rw [en1, en2] at hB ⊢
    obtain ⟨W3, e3⟩ : ∃ W3, w2.alloc (.cells #[.slice p1 n1 c1, .slice p2 n2 c2, .slice none 0 0] 32) = W3 := ⟨_, rfl⟩
    obtain ⟨bb, ebb⟩ : ∃ bb, w2.heap.size = bb := ⟨_, rfl⟩
    have hx3 : W3.heap[bb]? = some (.cells #[.slice p1 n1 c1, .slice p2 n2 c2, .slice none 0 0] 32 (0, 0)) := by rw [← e3]; exact alloc_at _ _ _ ebb.symm
    have hb3 : Below w2.heap.size w2 W3 := by rw [← e3]; exact (Below.refl _ _).alloc (Nat.le_refl _) _
    have HA3 := Lib.hid (HA2.out.trans (hb3.mono HA2.out.size))
    have hz3 : bb < W3.heap.size := (Array.getElem?_eq_some_iff.mp hx3).1
    have HBX : Hid (∀ W, Below W3.heap.size W3 W → (W.cell? ⟨bb, 0, none⟩ = some (.slice p1 n1 c1) ∧ W.cell? ⟨bb, 1, none⟩ = some (.slice p2 n2 c2) ∧ W.cell? ⟨bb, 2, none⟩ = some (.slice none 0 0)) ∧ BookAt W.heap.size W (.slice p1 n1 c1) (.slice p2 n2 c2) (.slice none 0 0) (rsBk p nm ev f t)) := by
      show ∀ W, _
      intro W hb
      have hx := (hb.block _ hz3).trans hx3
      have hbw := hb3.trans (hb.mono hb3.size)
      exact ⟨⟨(cell_of_row W _ 0 _ _ _ hx).trans rfl, (cell_of_row W _ 1 _ _ _ hx).trans rfl, (cell_of_row W _ 2 _ _ _ hx).trans rfl⟩, (hB.below hbw (Nat.le_refl _)).baseN hbw.size⟩
    have HE3 := Lib.hid e3
    have HEB := Lib.hid ebb
    have HP := Lib.hid hp
    have HNB := Lib.hid hnb
    have HLL := Lib.hid hll
    clear hb3 hx3 e3 ebb hp hnb hll hB en1 en2
    go_upto_region 6 with fail
    rw [HE3.out, HEB.out]
    obtain ⟨x1, x2, x3, x4, x5, x6, x7, x8, x9, x10, x11, x12⟩ := (HPX.out W3 HA3.out).cells
    have hl3 : w.heap.size < W3.heap.size := by have := HA3.out.size; omega
    obtain ⟨W4, e4⟩ : ∃ W4, W3.alloc (.cells #[.int .i64 p.s.m, .int .i64 p.s.w, .int .i64 p.s.d, .int .i64 p.s.t, .int .i64 p.e.m, .int .i64 p.e.w, .int .i64 p.e.d, .int .i64 p.e.t] 23) = W4 := ⟨_, rfl⟩
    obtain ⟨rb, erb⟩ : ∃ rb, W3.heap.size = rb := ⟨_, rfl⟩
    have hx4 : W4.heap[rb]? = some (.cells #[.int .i64 p.s.m, .int .i64 p.s.w, .int .i64 p.s.d, .int .i64 p.s.t, .int .i64 p.e.m, .int .i64 p.e.w, .int .i64 p.e.d, .int .i64 p.e.t] 23 (0, 0)) := by rw [← e4]; exact alloc_at _ _ _ erb.symm
    have hb4 : Below W3.heap.size W3 W4 := by rw [← e4]; exact (Below.refl _ _).alloc (Nat.le_refl _) _
    have HB4 := Lib.hid hb4
    have HX4 := Lib.hid hx4
    have HE4 := Lib.hid e4
    have HRB := Lib.hid erb
    have hl4 : rb < W4.heap.size := (Array.getElem?_eq_some_iff.mp hx4).1
    clear hb4 hx4 e4 erb
    go_upto_region 9 with fail
    rw [HE4.out, HRB.out]
    clear x1 x2 x3 x4 x5 x6 x7 x8 x9 x10 x11 x12
    go_loopw [53] (fun i wr => ∃ k : Nat, k ≤ 2 ∧ i = .int .i64 k ∧ Hid ((0 < k → p.also.toList ≠ [] → 3 ≤ p.s.m ∧ p.s.m ≤ 10) ∧ (1 < k → p.also.toList ≠ [] → 3 ≤ p.e.m ∧ p.e.m ≤ 10)) ∧ Hid (Below W4.heap.size W4 wr)) (fun i _ => 2 - (intOf i).toNat)
    case atStart => exact ⟨0, Nat.zero_le _, rfl, Lib.hid ⟨fun g => absurd g (by omega), fun g => absurd g (by omega)⟩, Lib.hid (Below.refl _ _)⟩
    case round =>
      obtain ⟨k, hk, rfl, HK, HBR⟩ := hrel
      have HA5 := Lib.hid (HA3.out.trans ((HB4.out.trans (HBR.out.mono HB4.out.size)).mono HA3.out.size))
      have HB5 := Lib.hid (HB4.out.trans (HBR.out.mono HB4.out.size))
      have hxr := (HBR.out.block rb hl4).trans HX4.out
      have hlr : rb < wr.heap.size := (Array.getElem?_eq_some_iff.mp hxr).1
      have hlw : w.heap.size < wr.heap.size := by have := HA5.out.size; omega
      obtain ⟨x1, x2, x3, x4, x5, x6, x7, x8, x9, x10, x11, x12⟩ := (HPX.out wr HA5.out).cells
      by_cases hlt : k < 2
      · have hq : ∃ r : Rt, wr.cell? ⟨rb, k * 4, none⟩ = some (.int .i64 r.m) ∧ wr.cell? ⟨rb, k * 4 + 1, none⟩ = some (.int .i64 r.w) ∧ wr.cell? ⟨rb, k * 4 + 2, none⟩ = some (.int .i64 r.d) ∧ wr.cell? ⟨rb, k * 4 + 3, none⟩ = some (.int .i64 r.t) ∧
            Hid ((p.also.toList ≠ [] → 3 ≤ r.m ∧ r.m ≤ 10) → (0 < k + 1 → p.also.toList ≠ [] → 3 ≤ p.s.m ∧ p.s.m ≤ 10) ∧ (1 < k + 1 → p.also.toList ≠ [] → 3 ≤ p.e.m ∧ p.e.m ≤ 10)) := by
          have hK := HK.out
          rcases (show k = 0 ∨ k = 1 by omega) with rfl | rfl
          · exact ⟨p.s, (cell_of_row wr _ 0 _ _ _ hxr).trans rfl, (cell_of_row wr _ 1 _ _ _ hxr).trans rfl, (cell_of_row wr _ 2 _ _ _ hxr).trans rfl, (cell_of_row wr _ 3 _ _ _ hxr).trans rfl, Lib.hid fun g => ⟨fun _ => g, fun g => absurd g (by omega)⟩⟩
          · exact ⟨p.e, (cell_of_row wr _ 4 _ _ _ hxr).trans rfl, (cell_of_row wr _ 5 _ _ _ hxr).trans rfl, (cell_of_row wr _ 6 _ _ _ hxr).trans rfl, (cell_of_row wr _ 7 _ _ _ hxr).trans rfl, Lib.hid fun g => ⟨fun _ => hK.1 (by omega), fun _ => g⟩⟩
        obtain ⟨r, r0, r1, r2, r3, HQ⟩ := hq
        obtain ⟨W6, e6⟩ : ∃ W6, wr.alloc (.cells #[.int .i64 r.m, .int .i64 r.w, .int .i64 r.d, .int .i64 r.t] 23) = W6 := ⟨_, rfl⟩
        obtain ⟨qb, eqb⟩ : ∃ qb, wr.heap.size = qb := ⟨_, rfl⟩
        have hx6 : W6.heap[qb]? = some (.cells #[.int .i64 r.m, .int .i64 r.w, .int .i64 r.d, .int .i64 r.t] 23 (0, 0)) := by rw [← e6]; exact alloc_at _ _ _ eqb.symm
        have hb6 : Below wr.heap.size wr W6 := by rw [← e6]; exact (Below.refl _ _).alloc (Nat.le_refl _) _
        have HB6 := Lib.hid (HBR.out.trans (hb6.mono HBR.out.size))
        have HA6 := Lib.hid (HA5.out.trans (hb6.mono HA5.out.size))
        have v0 : W6.cell? ⟨qb, 0, none⟩ = some (.int .i64 r.m) := (cell_of_row W6 _ 0 _ _ _ hx6).trans rfl
        have hl6 : qb < W6.heap.size := (Array.getElem?_eq_some_iff.mp hx6).1
        have v2 : W6.cell? ⟨w.heap.size, 2, none⟩ = some (.string p.also) := (HPX.out W6 HA6.out).cells.2.2.1
        have HE6 := Lib.hid e6
        have HQB := Lib.hid eqb
        clear e6 eqb hx6 hb6 hxr
        go_upto_region 11 with fail
        rw [HE6.out, HQB.out]
        clear x1 x2 x3 x4 x5 x6 x7 x8 x9 x10 x11 x12 r0 r1 r2 r3
        by_cases ha : p.also.toList = []
        · have ha2 : p.also.toList.isEmpty = true := by simpa using ha
          have HAA := Lib.hid ha
          clear ha
          go_wp2_with fail
          go_roundw
          case rel => exact ⟨k + 1, by omega, by go_num, Lib.hid (HQ.out fun g => absurd HAA.out g), HB6⟩
          case measure => simp [intOf]; omega
        · have ha2 : p.also.toList.isEmpty = false := by simpa using ha
          clear ha
          by_cases hm1 : r.m < 3
          · go_wp2_with fail
            go_ret
            exact ⟨rfl, HB0.out.trans (HA6.out.mono HB0.out.size)⟩
          · by_cases hm2 : 10 < r.m
            · go_wp2_with fail
              go_ret
              exact ⟨rfl, HB0.out.trans (HA6.out.mono HB0.out.size)⟩
            · go_wp2_with fail
              go_roundw
              case rel => exact ⟨k + 1, by omega, by go_num, Lib.hid (HQ.out fun _ => by omega), HB6⟩
              case measure => simp [intOf]; omega
      · obtain rfl : k = 2 := by omega
        have hK := HK.out
        obtain ⟨m1, m2, m3, m4⟩ := px_m HP.out
        obtain ⟨d, ed⟩ : ∃ d, p.s.m - p.e.m = d := ⟨_, rfl⟩
        have hwd : IntKind.i64.wrap (p.s.m - p.e.m) = d := by rw [ed]; exact IntWalk.i64_in _ (by omega)
        have HED := Lib.hid ed
        clear hlt hk hxr ed m1 m2 m3 m4 hK
        by_cases hd1 : d = 1
        · subst hd1
          go_wp2_with fail
          go_ret
          exact ⟨rfl, HB0.out.trans (HA5.out.mono HB0.out.size)⟩
        by_cases hd2 : d = -1
        · subst hd2
          go_wp2_with fail
          go_ret
          exact ⟨rfl, HB0.out.trans (HA5.out.mono HB0.out.size)⟩
        have hde1 : (d == 1) = false := by simpa using hd1
        have hde2 : (d == -1) = false := by simpa using hd2
        have HD1 := Lib.hid hd1
        have HD2 := Lib.hid hd2
        clear hd1 hd2
        -- the time
        obtain ⟨a, ea⟩ : ∃ a, Civ.jan1 (f + 1) = a := ⟨_, rfl⟩
        obtain ⟨z, ez⟩ : ∃ z, Civ.jan1 t = z := ⟨_, rfl⟩
        have j1 := Civ.jan1_mono (show (1600 : Int) ≤ f + 1 by omega)
        have j2 := Civ.jan1_mono (show t ≤ (2400 : Int) by omega)
        have j3 := Civ.jan1_lt (show f + 1 < t by omega)
        have j4 := Civ.lp01 (f + 1)
        rw [Civ.jan1_1600, ea] at j1
        rw [Civ.jan1_2400, ez] at j2
        rw [ea, ez] at j3
        obtain ⟨y, ey⟩ : ∃ y, 86400 * a + x0 % (86400 * (z - a)) = y := ⟨_, rfl⟩
        have hmp : 0 < 86400 * (z - a) := by omega
        have q1 := Int.emod_nonneg x0 (show 86400 * (z - a) ≠ 0 by omega)
        have q2 := Int.emod_lt_of_pos x0 hmp
        have hy1 : 86400 * a ≤ y := by rw [← ey]; clear ey; generalize x0 % (86400 * (z - a)) = v at q1 q2 ⊢; omega
        have hy2 : y < 86400 * z := by rw [← ey]; clear ey; generalize x0 % (86400 * (z - a)) = v at q1 q2 ⊢; omega
        have hwy1 : IntKind.i64.wrap (86400 * a) = 86400 * a := IntWalk.i64_in _ (by omega)
        have hwy2 : IntKind.i64.wrap (z - a) = z - a := IntWalk.i64_in _ (by omega)
        have hwy3 : IntKind.i64.wrap (86400 * (z - a)) = 86400 * (z - a) := IntWalk.i64_in _ (by omega)
        have hwy4 : IntKind.i64.wrap (86400 * a + x0 % (86400 * (z - a))) = y := by rw [ey]; exact IntWalk.i64_in _ (by omega)
        have hwf1 : IntKind.i64.wrap (f + 1) = f + 1 := IntWalk.i64_in _ (by omega)
        have hsame : ∃ ty : Ty, Hid (bkChk (rsBk p nm ev f t) = 0 ∧ riteR p y = atV ty.off ty.save ty.name 0 ∧ stR (rsBk p nm ev f t) nm y = (0, ty)) := by
          have hp := HP.out
          obtain ⟨o1, o2⟩ := px_off hp
          have hK := HK.out
          have hed := HED.out
          have g1 := HD1.out
          have g2 := HD2.out
          obtain ⟨b0, ty, b1, b2⟩ := rs_same p nm ev f t y hp HNB.out hfa (by omega) (by omega) (by rw [ea]; exact hy1) (by rw [ez]; exact hy2) HLL.out (px_word hp) (fun g => px_word2 hp g) o1 o2 (fun g => rs_ap hp g (hK.1 (by omega) g) (hK.2 (by omega) g) (by omega) (by omega))
          exact ⟨ty, Lib.hid ⟨b0, b1, b2⟩⟩
        obtain ⟨⟨o, sv, nn⟩, HSM⟩ := hsame
        have HDY1 : Hid (∀ W, Calls Tryz.prog 8 #[.int .i64 (f + 1), .int .i64 1, .int .i64 1] W fun e w' => e = .returned (.tuple #[.int .i64 a, .int .i64 0]) ∧ Below W.heap.size W w') := by
          show ∀ W, _
          intro W
          rw [← ea]
          exact RDays_jan1 _ W (by omega) (by omega)
        have HDY2 : Hid (∀ W, Calls Tryz.prog 8 #[.int .i64 t, .int .i64 1, .int .i64 1] W fun e w' => e = .returned (.tuple #[.int .i64 z, .int .i64 0]) ∧ Below W.heap.size W w') := by
          show ∀ W, _
          intro W
          rw [← ez]
          exact RDays_jan1 _ W (by omega) (by omega)
        have HR3 := Lib.hid (fun W => Rest0_any x0 (86400 * (z - a)) W hmp (by omega))
        have HAT : Hid (∀ W, Below W0.heap.size W0 W → Calls Tryz.prog 9 #[pxV p, .int .i64 y] W fun e w' => e = .returned (.tuple #[.agg #[.int .i64 o, .bool sv, .string nn], .int .i64 0]) ∧ Below W.heap.size W w') := by
          show ∀ W, _
          intro W hb
          refine (At_any p y W h1 h2 (by omega) (by omega) (HMT.out W hb).2).mono ?_
          rintro e w' ⟨rfl, hb'⟩
          rw [HSM.out.2.1]
          exact ⟨rfl, hb'⟩
        have HST : Hid (∀ W, Below W3.heap.size W3 W → Calls Tryz.prog 10 #[.agg #[.slice p1 n1 c1, .slice p2 n2 c2, .slice none 0 0], .string nm, .int .i64 y] W fun e w' => e = .returned (.tuple #[.agg #[.int .i64 o, .bool sv, .string nn], .int .i64 0]) ∧ Below W.heap.size W w') := by
          show ∀ W, _
          intro W hb
          have hmt := HMT.out W (HA3.out.trans (hb.mono HA3.out.size))
          refine (StAt_any MK _ _ _ _ nm y W (HBX.out W hb).2 hn (by omega) (by omega) hmt.1 hmt.2).mono ?_
          rintro e w' ⟨rfl, hb'⟩
          rw [HSM.out.2.2]
          exact ⟨rfl, hb'⟩
        have HCK : Hid (∀ W, Below W3.heap.size W3 W → Calls Tryz.prog 11 #[.agg #[.slice p1 n1 c1, .slice p2 n2 c2, .slice none 0 0]] W fun e w' => e = .returned (.int .i64 0) ∧ Below W.heap.size W w') := by
          show ∀ W, _
          intro W hb
          have hmt := HMT.out W (HA3.out.trans (hb.mono HA3.out.size))
          refine (bkCheck_any _ _ _ _ W (HBX.out W hb).2 hmt.1 hmt.2).mono ?_
          rintro e w' ⟨rfl, hb'⟩
          rw [HSM.out.1]
          exact ⟨rfl, hb'⟩
        have hEQ := fun W => eql_tySelf o sv nn W
        clear ea ez j1 j2 j3 j4 ey hmp q1 q2 hy1 hy2
        go_wp2_with fail
        refine (HDY1.out _).mono ?_
        rintro e w6 ⟨rfl, hb6⟩
        have HB6 := Lib.hid (HB5.out.trans (hb6.mono HB5.out.size))
        clear hb6 x1 x2 x3 x4 x5 x6 x7 x8 x9 x10 x11 x12
        go_wp2_with fail
        refine (HDY2.out _).mono ?_
        rintro e w7 ⟨rfl, hb7⟩
        have HB7 := Lib.hid (HB6.out.trans (hb7.mono HB6.out.size))
        have HA7 := Lib.hid (HA3.out.trans (HB7.out.mono HA3.out.size))
        clear hb7
        go_wp2_with fail
        refine (HR3.out _).mono ?_
        rintro e w' ⟨rfl, rfl⟩
        obtain ⟨x1, x2, x3, x4, x5, x6, x7, x8, x9, x10, x11, x12⟩ := (HPX.out w7 HA7.out).cells
        have hl7 : w.heap.size < w7.heap.size := by have := HA7.out.size; omega
        go_wp2_with fail
        refine (HAT.out _ HA7.out).mono ?_
        rintro e w8 ⟨rfl, hb8⟩
        have HB8 := Lib.hid (HB7.out.trans (hb8.mono HB7.out.size))
        clear hb8 x1 x2 x3 x4 x5 x6 x7 x8 x9 x10 x11 x12
        obtain ⟨W9, e9⟩ : ∃ W9, w8.alloc (.cells #[.int .i64 o, .bool sv, .string nn] 41) = W9 := ⟨_, rfl⟩
        obtain ⟨b9, eb9⟩ : ∃ b9, w8.heap.size = b9 := ⟨_, rfl⟩
        have hx9 : W9.heap[b9]? = some (.cells #[.int .i64 o, .bool sv, .string nn] 41 (0, 0)) := by rw [← e9]; exact alloc_at _ _ _ eb9.symm
        have hb9 : Below w8.heap.size w8 W9 := by rw [← e9]; exact (Below.refl _ _).alloc (Nat.le_refl _) _
        have HB9 := Lib.hid (HB8.out.trans (hb9.mono HB8.out.size))
        have HX9 := Lib.hid hx9
        have HE9 := Lib.hid e9
        have HEB9 := Lib.hid eb9
        obtain ⟨⟨y0, y1, y2⟩, -⟩ := HBX.out W9 HB9.out
        have hlb : bb < W9.heap.size := by have := HB9.out.size; omega
        clear e9 eb9 hx9 hb9
        go_upto_region 21 with fail
        rw [HE9.out, HEB9.out]
        go_wp2_with fail
        refine (HST.out _ HB9.out).mono ?_
        rintro e w10 ⟨rfl, hb10⟩
        have HB10 := Lib.hid (HB9.out.trans (hb10.mono HB9.out.size))
        have hx10 := (hb10.block b9 (Array.getElem?_eq_some_iff.mp HX9.out).1).trans HX9.out
        have HX10 := Lib.hid hx10
        clear hb10 hx10 y0 y1 y2 hlb
        obtain ⟨W11, e11⟩ : ∃ W11, w10.alloc (.cells #[.int .i64 o, .bool sv, .string nn] 41) = W11 := ⟨_, rfl⟩
        obtain ⟨b11, eb11⟩ : ∃ b11, w10.heap.size = b11 := ⟨_, rfl⟩
        have hx11 : W11.heap[b11]? = some (.cells #[.int .i64 o, .bool sv, .string nn] 41 (0, 0)) := by rw [← e11]; exact alloc_at _ _ _ eb11.symm
        have hb11 : Below w10.heap.size w10 W11 := by rw [← e11]; exact (Below.refl _ _).alloc (Nat.le_refl _) _
        have HB11 := Lib.hid (HB10.out.trans (hb11.mono HB10.out.size))
        have HX11 := Lib.hid hx11
        have HX9b := Lib.hid ((hb11.block b9 (Array.getElem?_eq_some_iff.mp HX10.out).1).trans HX10.out)
        have HE11 := Lib.hid e11
        have HEB11 := Lib.hid eb11
        obtain ⟨⟨y0, y1, y2⟩, -⟩ := HBX.out W11 HB11.out
        have hlb : bb < W11.heap.size := by have := HB11.out.size; omega
        clear e11 eb11 hx11 hb11
        go_upto_region 22 with fail
        rw [HE11.out, HEB11.out]
        go_wp2_with fail
        refine (HCK.out _ HB11.out).mono ?_
        rintro e w12 ⟨rfl, hb12⟩
        have HB12 := Lib.hid (HB11.out.trans (hb12.mono HB11.out.size))
        have hx9 := (hb12.block b9 (Array.getElem?_eq_some_iff.mp HX9b.out).1).trans HX9b.out
        have hx11 := (hb12.block b11 (Array.getElem?_eq_some_iff.mp HX11.out).1).trans HX11.out
        have u0 : w12.cell? ⟨b9, 0, none⟩ = some (.int .i64 o) := (cell_of_row w12 _ 0 _ _ _ hx9).trans rfl
        have u1 : w12.cell? ⟨b9, 1, none⟩ = some (.bool sv) := (cell_of_row w12 _ 1 _ _ _ hx9).trans rfl
        have u2 : w12.cell? ⟨b9, 2, none⟩ = some (.string nn) := (cell_of_row w12 _ 2 _ _ _ hx9).trans rfl
        have v0 : w12.cell? ⟨b11, 0, none⟩ = some (.int .i64 o) := (cell_of_row w12 _ 0 _ _ _ hx11).trans rfl
        have v1 : w12.cell? ⟨b11, 1, none⟩ = some (.bool sv) := (cell_of_row w12 _ 1 _ _ _ hx11).trans rfl
        have v2 : w12.cell? ⟨b11, 2, none⟩ = some (.string nn) := (cell_of_row w12 _ 2 _ _ _ hx11).trans rfl
        clear hb12 hx9 hx11 y0 y1 y2 hlb
        go_wp2_with fail
        go_ret
        exact ⟨rfl, HB0.out.trans ((HA3.out.trans (HB12.out.mono HA3.out.size)).mono HB0.out.size)⟩
end Go.Proofs.YtacogloheiendaaGreatDoor
namespace Go.Proofs.YtacogloheiendaaGreatDoor
open Go.ChangeShapes Go.WideShapes Go.ChangeAt Go.RowKit
set_option linter.unusedVariables false

theorem gPow : Tryz.prog.globalNamed "internal/strconv.uint64pow10" = some 1 := by kernel_rfl
theorem gPowType : (Tryz.prog.globals[1]?).map (·.type) = some 171 := by kernel_rfl
theorem tab10_of {W : World} {a b : String × DataW Unit} {rest : List (String × DataW Unit)} (h : laidMet Tryz.prog (a :: b :: ("internal/strconv.uint64pow10", Rows.laid_internal_strconv_uint64pow10) :: rest) W) : Tab10 W :=
  Lib.tabIs_of_head (rest := rest) gPow gPowType Tryz.underlying171 Tryz.underlying160 (by kernel_rfl) (by kernel_rfl) h.tail.tail
end Go.Proofs.YtacogloheiendaaGreatDoor
namespace Go.Proofs.YtacogloheiendaaGreatDoor
open Go.ChangeShapes Go.WideShapes Go.ChangeAt Go.RowKit
set_option linter.unusedVariables false

theorem maxLen_of {W : World} (h : W.ShapedOpen Tryz.prog) : MaxLen W :=
  Go.Proofs.cell_of_shapedOpen_int (zero := #[.int .i64 0]) (t := 3) h (of_decide_eq_true (by kernel_rfl)) (by kernel_rfl) rfl (by kernel_rfl) (by kernel_rfl) Tryz.underlying3
end Go.Proofs.YtacogloheiendaaGreatDoor
namespace Go.Proofs.YtacogloheiendaaGreatDoor

theorem int_bd {n : Int} (h : (Lit.int .i64 n).wf = true) : -9223372036854775808 ≤ n ∧ n ≤ 9223372036854775807 := by
  simp only [Lit.wf, Bool.and_eq_true, decide_eq_true_eq] at h
  exact h
end Go.Proofs.YtacogloheiendaaGreatDoor
namespace Go.Proofs.YtacogloheiendaaGreatDoor
open Go.ChangeShapes Go.WideShapes Go.Deep Go.RowKit Go.Joins
set_option linter.unusedVariables false
set_option linter.unusedSimpArgs false

theorem list12 {α : Type} (l : List α) (h : l.length = 12) : ∃ a b c d e f g h' i j k m, l = [a, b, c, d, e, f, g, h', i, j, k, m] := by
  match l, h with
  | [a, b, c, d, e, f, g, h', i, j, k, m], _ => exact ⟨a, b, c, d, e, f, g, h', i, j, k, m, rfl⟩

section
variable {H : Type} {enc : TypeId × Value → H} {w : World} {base : Nat} {spare : Nat → Bool} {held : Bool}
theorem trod_i {fuel : Nat} {v : Value} {x : DataW H × List MemPlace} (h : DataW.trod enc Tryz.prog w base spare held fuel 3 [v] = some x) : ∃ n, v = .int .i64 n := by
  obtain ⟨b, e, _, _⟩ := DataW.trod_int Tryz.underlying3 h
  simp only [List.cons.injEq, and_true] at e
  exact ⟨b, e⟩
theorem trod_s {fuel : Nat} {v : Value} {x : DataW H × List MemPlace} (h : DataW.trod enc Tryz.prog w base spare held fuel 9 [v] = some x) : ∃ s, v = .string s ∧ s.size ≤ maxLen := by
  obtain ⟨b, e, _, hs⟩ := DataW.trod_string Tryz.underlying9 h
  simp only [List.cons.injEq, and_true] at e
  exact ⟨b, e, hs⟩
set_option maxRecDepth 100000 in
theorem Rt_open {fuel : Nat} {a b c d : Value} {x : DataW H × List MemPlace} (h : DataW.trod enc Tryz.prog w base spare held fuel 23 [a, b, c, d] = some x) : ∃ r : Rt, a = .int .i64 r.m ∧ b = .int .i64 r.w ∧ c = .int .i64 r.d ∧ d = .int .i64 r.t := by
  obtain ⟨xs, n, _, _, _, hl, hf⟩ := DataW.trod_struct Tryz.underlying23 h
  have hl4 : xs.length = 4 := hl
  have h0 := hf 0 _ rfl
  have h1 := hf 1 _ rfl
  have h2 := hf 2 _ rfl
  have h3 := hf 3 _ rfl
  rw [List.getElem?_eq_getElem (by omega)] at h0 h1 h2 h3
  obtain ⟨m, rfl⟩ := trod_i (v := a) h0
  obtain ⟨k, rfl⟩ := trod_i (v := b) h1
  obtain ⟨e, rfl⟩ := trod_i (v := c) h2
  obtain ⟨t, rfl⟩ := trod_i (v := d) h3
  exact ⟨⟨m, k, e, t⟩, rfl, rfl, rfl, rfl⟩

theorem cellsPx : Tryz.prog.cellsOf 25 = 12 := by kernel_rfl
set_option maxRecDepth 100000 in
theorem Px_open {r : Reach} {b0 : Nat} {v : Value} {d : DataW H} {p : List MemPlace} (hv : Value.okWide Tryz.prog w r b0 25 v) (h : DataW.Trod enc Tryz.prog w base spare held 25 v d p) :
    ∃ q : Px, v = pxV q ∧ q.name.size ≤ maxLen ∧ q.also.size ≤ maxLen := by
  obtain ⟨cs, rfl, hsz⟩ := okWide_struct Tryz.underlying25 hv
  obtain ⟨l⟩ := cs
  obtain ⟨c0, c1, c2, c3, c4, c5, c6, c7, c8, c9, c10, c11, rfl⟩ := list12 l (hsz.trans cellsPx)
  obtain ⟨fuel, hf⟩ := h
  obtain ⟨xs, n, _, _, _, hl, hf⟩ := DataW.trod_struct Tryz.underlying25 hf
  have hl6 : xs.length = 6 := hl
  have h0 := hf 0 _ rfl
  have h1 := hf 1 _ rfl
  have h2 := hf 2 _ rfl
  have h3 := hf 3 _ rfl
  have h4 := hf 4 _ rfl
  have h5 := hf 5 _ rfl
  rw [List.getElem?_eq_getElem (by omega)] at h0 h1 h2 h3 h4 h5
  obtain ⟨nm, rfl, s1⟩ := trod_s (v := c0) h0
  obtain ⟨off, rfl⟩ := trod_i (v := c1) h1
  obtain ⟨al, rfl, s2⟩ := trod_s (v := c2) h2
  obtain ⟨ao, rfl⟩ := trod_i (v := c3) h3
  obtain ⟨rs, rfl, rfl, rfl, rfl⟩ := Rt_open (a := c4) (b := c5) (c := c6) (d := c7) (h4 : DataW.trod enc Tryz.prog w base spare held n 23 [c4, c5, c6, c7] = _)
  obtain ⟨re, rfl, rfl, rfl, rfl⟩ := Rt_open (a := c8) (b := c9) (c := c10) (d := c11) (h5 : DataW.trod enc Tryz.prog w base spare held n 23 [c8, c9, c10, c11] = _)
  exact ⟨⟨nm, off, al, ao, rs, re⟩, rfl, s1, s2⟩
end
end Go.Proofs.YtacogloheiendaaGreatDoor
namespace Go.Proofs.YtacogloheiendaaGreatDoor
open Go.RowKit Go.Joins
open Classical
set_option linter.unusedVariables false
set_option linter.unusedSimpArgs false

set_option maxRecDepth 100000 in
set_option maxHeartbeats 8000000 in
theorem Make_any (rules : List Ru) (nm : ByteArray) (off : Int) (rv : Value) (w : World) (hR : RowsAt (fun r : Ru => (ruCells r).toList) 11 w.heap.size w rv rules) (ho : ∀ r ∈ rules, OkRu r) (hl : rules.length ≤ 40) (hf1 : -75600 ≤ off) (hf2 : off ≤ 75600) :
    Calls Tryz.prog 52 #[rv, .string nm, .int .i64 off] w (MakePost rules nm off w) := by
  obtain ⟨i1, hi1, hz10, hz11, hz12⟩ := info_parts infoNb
  obtain ⟨p, cap, rfl, hlen, hrow⟩ := hR
  have HRow := Lib.hid hrow
  have HO := Lib.hid ho
  clear hrow ho
  go_enter Tryz.func52, Tryz.ntmps52
  go_wp2_with fail
  go_loopw [8, 9, 10, 23] (fun v8 v9 v10 i wr => ∃ (k : Nat) (Y : Int) (is : Bool) (l : List Nb), k ≤ rules.length ∧ i = .int .i64 k ∧ v9 = .int .i64 Y ∧ v10 = .bool is ∧ 0 ≤ Y ∧ Y ≤ 201 * k ∧ l.length ≤ 1500 ∧ Hid (MkR rules nm k Y is l) ∧ Hid (NbAt wr w.heap.size v8 l) ∧ Hid (Below w.heap.size w wr)) (fun _ _ _ i _ => rules.length - (intOf i).toNat)
  case atStart => exact ⟨0, 0, false, [], Nat.zero_le _, rfl, rfl, rfl, by omega, by omega, by simp, MkR.zero _ _, ⟨World.ownsRow_nil _ _ _ _, fun x hx => absurd hx (List.not_mem_nil)⟩, Lib.hid (Below.refl _ _)⟩
  case round =>
    obtain ⟨k, Y, is, l, hk, rfl, rfl, rfl, hY0, hY1, hll, HM, HN, HB⟩ := hrel
    have hzr := HB.out.size
    by_cases hlt : k < rules.length
    · obtain ⟨b, o, rfl, hbl, hcs⟩ := HRow.out (List.ne_nil_of_length_pos (by omega))
      have hck := hcs k hlt
      have HOK := Lib.hid (HO.out rules[k] (List.getElem_mem hlt))
      have HSK := Lib.hid (HM.out.skip hlt)
      have HLA := Lib.hid (HM.out.large hlt)
      have HMO := Lib.hid (HM.out.more hlt)
      obtain ⟨q, eq⟩ : ∃ q, rules[k] = q := ⟨_, rfl⟩
      rw [eq] at hck HOK HSK HLA HMO
      obtain ⟨B0, eB0⟩ : ∃ B0, w.heap.size = B0 := ⟨_, rfl⟩
      rw [eB0] at hzr HN
      have HB00 := Lib.hid eB0
      have up : ∀ j u, w.cell? ⟨b, o + k * 11 + j, none⟩ = some u → wr.cell? ⟨b, o + k * 11 + j, none⟩ = some u := fun j u h => (HB.out.cell (p := ⟨b, o + k * 11 + j, none⟩) hbl).trans h
      clear eq hcs eB0
      obtain ⟨nm2, yf, yt, mo, dk, dw, dn, tm, ck, sv, lt⟩ := q
      have z0 := up 0 _ (hck 0 _ rfl)
      have z1 := up 1 _ (hck 1 _ rfl)
      have z2 := up 2 _ (hck 2 _ rfl)
      have z3 := up 3 _ (hck 3 _ rfl)
      have z4 := up 4 _ (hck 4 _ rfl)
      have z5 := up 5 _ (hck 5 _ rfl)
      have z6 := up 6 _ (hck 6 _ rfl)
      have z7 := up 7 _ (hck 7 _ rfl)
      have z8 := up 8 _ (hck 8 _ rfl)
      have z9 := up 9 _ (hck 9 _ rfl)
      have z10 := up 10 _ (hck 10 _ rfl)
      clear up hck
      rw [Nat.add_zero] at z0
      simp only at HSK HLA HMO
      obtain ⟨W1, eW1⟩ : ∃ W1, wr.alloc (.cells #[.string nm2, .int .i64 yf, .int .i64 yt, .int .i64 mo, .int .i64 dk, .int .i64 dw, .int .i64 dn, .int .i64 tm, .int .i64 ck, .int .i64 sv, .string lt] 59) = W1 := ⟨_, rfl⟩
      have hbx : RuBx W1 wr.heap.size ⟨nm2, yf, yt, mo, dk, dw, dn, tm, ck, sv, lt⟩ := by rw [← eW1]; exact heap_alloc_new wr _
      have HN1 : Hid (NbAt W1 B0 u8 l) := by rw [← eW1]; exact HN.out.alloc _
      have HB1 : Hid (Below w.heap.size w W1) := by rw [← eW1]; exact HB.out.alloc HB.out.size _
      have hw1 : wr.heap.size < W1.heap.size := hbx.lt
      have HX1 := Lib.hid hbx
      have HEW := Lib.hid eW1
      obtain ⟨bx, ebx⟩ : ∃ bx, wr.heap.size = bx := ⟨_, rfl⟩
      rw [ebx] at HX1 hw1 hzr
      have HBX := Lib.hid ebx
      obtain ⟨x0, x1, x2, x3, x4, x5, x6, x7, x8, x9, x10⟩ := HX1.out.cells
      obtain ⟨f1, f2, t1, t2⟩ := And.intro HOK.out.f1 (And.intro HOK.out.f2 (And.intro HOK.out.t1 HOK.out.t2))
      simp only at x0 x1 x2 x3 x4 x5 x6 x7 x8 x9 x10 f1 f2 t1 t2
      clear ebx eW1 hbx
      by_cases hnm : nm2 = nm
      · have t0 : (nm2.toList == nm.toList) = true := by rw [hnm]; exact beq_self_eq_true _
        have t0n : (!(nm2.toList == nm.toList)) = false := by rw [t0]; rfl
        by_cases hy : 1500 < Y + (yt - yf + 1)
        · have HLA2 := Lib.hid (HLA.out hnm hy)
          clear HLA HMO HSK hnm
          go_upto_region 6 with fail
          rw [HEW.out, HBX.out]
          go_wp2_with fail
          go_roundw
          case rel => exact ⟨k + 1, Y + (yt - yf + 1), true, l, by omega, by go_num, by go_num, rfl, by omega, by omega, hll, HLA2, by rw [HB00.out]; exact HN1, HB1⟩
          case measure => simp [intOf]; omega
        · obtain ⟨C, hC⟩ : ∃ C : Nat, (C : Int) = yt - yf + 1 := ⟨(yt - yf + 1).toNat, by omega⟩
          have HMO2 := Lib.hid (HMO.out hnm t1 bx C hC)
          have hlen2 : l.length + C ≤ 1500 := by have := HM.out.len HO.out (by omega); omega
          clear HLA HMO HSK hnm
          go_upto_region 6 with fail
          rw [HEW.out, HBX.out]
          go_wp2_with fail
          go_loopw [8, 13] (fun v8 v13 wx => ∃ j : Nat, j ≤ C ∧ v13 = .int .i64 (yf + j) ∧ Hid (NbAt wx B0 v8 (l ++ nomB ⟨nm2, yf, yt, mo, dk, dw, dn, tm, ck, sv, lt⟩ bx j)) ∧ Hid (RuBx wx bx ⟨nm2, yf, yt, mo, dk, dw, dn, tm, ck, sv, lt⟩) ∧ Hid (Below w.heap.size w wx)) (fun _ v13 _ => (yt + 1 - intOf v13).toNat)
          case atStart => exact ⟨0, Nat.zero_le _, by go_num, by show NbAt _ _ _ _; rw [show nomB _ bx 0 = [] from rfl, List.append_nil]; exact HN1.out, HX1, HB1⟩
          case round =>
            obtain ⟨j, hj, rfl, HNJ, HXJ, HBJ⟩ := hrel
            have hzj := HBJ.out.size
            rw [HB00.out] at hzj
            obtain ⟨L, eL⟩ : ∃ L, l ++ nomB ⟨nm2, yf, yt, mo, dk, dw, dn, tm, ck, sv, lt⟩ bx j = L := ⟨_, rfl⟩
            have hLl : L.length ≤ 1500 := by rw [← eL, List.length_append, nomB_len]; omega
            have HSN : Hid (l ++ nomB ⟨nm2, yf, yt, mo, dk, dw, dn, tm, ck, sv, lt⟩ bx (j + 1) = L ++ [(86400 * dayN ⟨nm2, yf, yt, mo, dk, dw, dn, tm, ck, sv, lt⟩ (yf + j) + tm, ⟨nm2, yf, yt, mo, dk, dw, dn, tm, ck, sv, lt⟩, bx)]) := by show _ = _; rw [nomB_snoc, ← List.append_assoc, eL]
            rw [eL] at HNJ
            have EL := Lib.hid eL
            clear eL
            have hbj : bx < wr.heap.size := HXJ.out.lt
            have hxs := HXJ.out.cells
            simp only at hxs
            obtain ⟨y0, y1, y2, y3, y4, y5, y6, y7, y8, y9, y10⟩ := hxs
            by_cases hjc : j < C
            · have hyb : yf + (j : Int) ≤ yt := by omega
              have hyb2 : yf ≤ yf + (j : Int) := by omega
              have HOF := Lib.hid (Of_ru ⟨nm2, yf, yt, mo, dk, dw, dn, tm, ck, sv, lt⟩ HOK.out (yf + j) hyb2 hyb wr)
              have hbd := dayN_bd HOK.out (y := yf + j) hyb2 hyb
              obtain ⟨N, eN⟩ : ∃ N, dayN ⟨nm2, yf, yt, mo, dk, dw, dn, tm, ck, sv, lt⟩ (yf + j) = N := ⟨_, rfl⟩
              rw [eN] at HOF HSN hbd
              obtain ⟨hN1, hN2⟩ := hbd
              have ha1 := HOK.out.a1
              have ha2 := HOK.out.a2
              simp only at ha1 ha2
              have HY7 := Lib.hid y7
              clear eN
              go_wp2_with fail
              refine HOF.out.mono ?_
              rintro e w8 ⟨rfl, hb8⟩
              have HB8 := Lib.hid hb8
              have hz8 := hb8.size
              have y7 := (hb8.cell (p := ⟨bx, 7, none⟩) hbj).trans HY7.out
              have HN8 := Lib.hid (HNJ.out.below hb8)
              have HX8 := Lib.hid (HXJ.out.below hb8)
              have hbx8 : bx < w8.heap.size := by omega
              clear hb8 HOF
              obtain ⟨A, cS, rfl⟩ := own_sliceN HN8.out.row
              have HML : L.length + 1 ≤ maxLen := by simp only [maxLen]; omega
              have HMB : (L.length + 1) * 16 ≤ 140737488355328 := by omega
              have HROW := Lib.hid (World.ownsRow.alloc HN8.out.row (.cells #[.int .i64 (86400 * N + tm), .pointer (some ⟨bx, 0, none⟩)] 136))
              have HNEW := Lib.hid (World.news_of_block (cs := #[.int .i64 (86400 * N + tm), .pointer (some ⟨bx, 0, none⟩)]) (t := 136) (fr := (0, 0)) (heap_alloc_new w8 (.cells #[.int .i64 (86400 * N + tm), .pointer (some ⟨bx, 0, none⟩)] 136)))
              have HSZ : B0 ≤ (w8.alloc (.cells #[.int .i64 (86400 * N + tm), .pointer (some ⟨bx, 0, none⟩)] 136)).heap.size := by simp; omega
              go_wp2_with (at_builtin; refine wpList_append_own _ rfl _ _ 133 rfl B0 136 i1 (.agg #[.int .i64 0, .pointer none]) 2 16 undNb hi1 hz10 hz11 hz12 rfl (by decide) _ _ _ rfl HROW.out ⟨w8.heap.size, 0, none⟩ 1 1 [.int .i64 (86400 * N + tm), .pointer (some ⟨bx, 0, none⟩)] rfl rfl HNEW.out (by simp [Value.oneCell']) HML HMB HSZ ?_; intro v' w10 hown10 hgrow10 _)
              have HR := Lib.hid (NbAt.snoc (x := (86400 * N + tm, ⟨nm2, yf, yt, mo, dk, dw, dn, tm, ck, sv, lt⟩, bx)) HN8.out HX8.out hown10 hgrow10)
              have HXE := Lib.hid (box_kept HROW.out (HX8.out.alloc _) (by decide) hgrow10)
              go_roundw
              case rel =>
                refine ⟨j + 1, hjc, by go_num, by rw [HSN.out]; exact HR, HXE, ?_⟩
                obtain rfl := HB00.out
                exact (((HBJ.out.trans (HB8.out.mono HBJ.out.size)).alloc (by omega) _).grown hgrow10 HSZ fun q hq => (World.ownsRow.lt HROW.out q hq).1)
              case measure => simp [intOf]; omega
            · obtain rfl : j = C := by omega
              have hyb : ¬ yf + (j : Int) ≤ yt := by omega
              go_wp2_with fail
              go_roundw
              case rel => exact ⟨k + 1, Y + (yt - yf + 1), true, L, by omega, by go_num, by go_num, rfl, by omega, by omega, by omega, by rw [← EL.out]; exact HMO2, by rw [HB00.out]; exact HNJ, HBJ⟩
              case measure => simp [intOf]; omega
      · have t0 : (nm2.toList == nm.toList) = false := by
          cases e : nm2.toList == nm.toList
          · rfl
          · exact absurd (ByteArray.ext (Array.toList_inj.1 (by rw [← ByteArray.toList_eq, ← ByteArray.toList_eq]; simpa using e))) hnm
        have t0n : (!(nm2.toList == nm.toList)) = true := by rw [t0]; rfl
        have HSK2 := Lib.hid (HSK.out hnm)
        clear HSK hnm
        go_upto_region 6 with fail
        rw [HEW.out, HBX.out]
        go_wp2_with fail
        go_roundw
        case rel => exact ⟨k + 1, Y, is, l, by omega, by go_num, rfl, rfl, hY0, by omega, hll, HSK2, by rw [HB00.out]; exact HN1, HB1⟩
        case measure => simp [intOf]; omega
    · obtain rfl : k = rules.length := by omega
      obtain ⟨hMy, hMs, hMl⟩ := HM.out
      rw [List.take_length] at hMy hMs hMl
      have hmb := HO.out
      have HBE := HB
      cases is with
      | false =>
        have HE := Lib.hid (mkR_6 (off := off) hMs.symm)
        clear hMy hMs hMl hmb
        go_wp2_with fail
        go_ret2
        exact MakePost.bad HE.out HBE.out
      | true =>
      by_cases hy : 1500 < Y
      · have HE := Lib.hid (mkR_2 (off := off) hMs.symm (by rw [← hMy]; exact hy))
        clear hMy hMs hMl hmb
        go_wp2_with fail
        go_ret2
        exact MakePost.bad HE.out HBE.out
      · have hlen : (l.length : Int) = Y := HM.out.len HO.out (by omega)
        have hpos := yearsOf_pos nm rules hmb hMs.symm
        rw [← hMy] at hpos
        have hne : 0 < l.length := by omega
        have hSl := hMl (by omega)
        rcases own_cells HN.out.row with ⟨-, h0⟩ | ⟨g, cS, rfl, hg1, hg2, -⟩
        · omega
        have HSO := Lib.hid (SortStable_any (ptL l) wr g cS l.length (by omega) (tagged (l.map (·.1))).toArray wr (nbAt_so HN.out) (by simp [tagged]) (by have := tagged_inc (l.map (·.1)); rwa [List.length_map] at this))
        obtain ⟨S, eS⟩ : ∃ S, srt (nomsOf dayN rules nm) = S := ⟨_, rfl⟩
        have h5 : outF off 0 none S = none → mkR rules nm off = (5, []) := fun h => mkR_5 hMs.symm (by rw [← hMy]; exact hy) (by rw [eS]; exact h)
        have h0 : ∀ o, outF off 0 none S = some o → mkR rules nm off = (0, o) := fun o h => mkR_0 hMs.symm (by rw [← hMy]; exact hy) (by rw [eS]; exact h)
        obtain ⟨T, eT⟩ : ∃ T, nbT l = T := ⟨_, rfl⟩
        have hTS : nbM T = S := by rw [← eT, nbT_M, ← eS, ← hSl]; rfl
        have hTl : T.length = l.length := by rw [← eT, nbT_len]
        have hTb : ∀ x ∈ T, OkRu x.2.1 ∧ -3000000000 ≤ x.1 ∧ x.1 ≤ 5000000000 := by
          intro x hx
          have hm : (x.1, x.2.1) ∈ nomsOf dayN rules nm := by
            have : (x.1, x.2.1) ∈ srt (nomsOf dayN rules nm) := by rw [eS, ← hTS]; exact List.mem_map_of_mem hx
            exact List.mem_mergeSort.1 this
          exact nomsOf_bd hmb nm _ hm
        have H5 := Lib.hid h5
        have H0 := Lib.hid h0
        have HTS := Lib.hid hTS
        have HTB := Lib.hid hTb
        have HTL := Lib.hid hTl
        have hTl2 : T.length ≤ 1500 := by omega
        have ET := Lib.hid eT
        have hgw : w.heap.size ≤ wr.heap.size := HB.out.size
        clear hMy hMs hMl hmb hpos hSl eS h5 h0 hTS hTl hTb eT HM hlen hll
        go_wp2_with fail
        refine HSO.out.mono ?_
        rintro e W2 ⟨rfl, d', hS, hn, hp, ho⟩
        have hT := so_nbRd HN.out hS hp ho
        rw [ET.out] at hT
        have HT := Lib.hid hT
        have HB6 := Lib.hid (HBE.out.grown hS.g hgw (fun q hq => by injection hq with hq; omega))
        clear hS hn hp ho hT HSO HN HB HBE ET
        go_wp2_with fail
        go_loopw [16, 17, 78] (fun v16 v17 i wx => ∃ (k : Nat) (sv : Int) (out : List Tn), k ≤ l.length ∧ i = .int .i64 k ∧ v17 = .int .i64 sv ∧ 0 ≤ sv ∧ sv ≤ 10800 ∧ Hid (OutR off S k sv out) ∧ Hid (wx.ownsRow W2.heap.size 113 3 v16 k (tnCells out)) ∧ Hid (Below W2.heap.size W2 wx)) (fun _ _ i _ => l.length - (intOf i).toNat)
        case atStart => exact ⟨0, 0, [], Nat.zero_le _, rfl, rfl, by omega, by omega, OutR.zero _ _, World.ownsRow_nil _ _ _ _, Lib.hid (Below.refl _ _)⟩
        case round =>
          obtain ⟨k, sv, out, hk, rfl, rfl, hs0, hs1, HOR, HNR, HBR⟩ := hrel
          by_cases hkn : k < l.length
          · have hkt : k < T.length := by rw [HTL.out]; exact hkn
            have hks : k < S.length := by rw [← HTS.out]; unfold nbM; rw [List.length_map]; exact hkt
            have hSk : S[k]'hks = (T[k].1, T[k].2.1) := by
              have e : (nbM T)[k]? = some (T[k].1, T[k].2.1) := by unfold nbM; rw [List.getElem?_map, List.getElem?_eq_getElem hkt]; rfl
              rw [HTS.out, List.getElem?_eq_getElem hks] at e
              injection e
            have HOB := Lib.hid (HOR.out.bad hks)
            have HOM := Lib.hid (HOR.out.more hks)
            rw [hSk] at HOB HOM
            have HTW := HT.out.below HBR.out
            have hgr : g < wr.heap.size := HTW.lt
            have a0 := HTW.k k hkt
            have a1 := HTW.p k hkt
            have hX := HTW.bx T[k] (List.getElem_mem hkt)
            have hB := HTB.out T[k] (List.getElem_mem hkt)
            obtain ⟨x, ex⟩ : ∃ x, T[k] = x := ⟨_, rfl⟩
            rw [ex] at a0 a1 hX hB HOB HOM
            clear hSk HTW ex hks
            obtain ⟨at1, q, bx⟩ := x
            obtain ⟨nm2, yf, yt, mo, dk, dw, dn, tm, ck, sv2, lt⟩ := q
            obtain ⟨o, hA1, hA2⟩ := hB
            have hbxr : bx < wr.heap.size := hX.lt
            have hxs := hX.cells
            have c1 := o.c1
            have c2 := o.c2
            have s1 := o.s1
            have s2 := o.s2
            simp only at a0 a1 hX hA1 hA2 hbxr hxs c1 c2 s1 s2 HOB HOM
            obtain ⟨x0, x1, x2, x3, x4, x5, x6, x7, x8, x9, x10⟩ := hxs
            clear x0 x1 x2 x3 x4 x5 x6 x7 o
            have HX := Lib.hid hX
            have hs20 := s1
            have hs21 := s2
            clear hX
            obtain ⟨t, et⟩ : ∃ t, clkT off sv (at1, ⟨nm2, yf, yt, mo, dk, dw, dn, tm, ck, sv2, lt⟩) = t := ⟨_, rfl⟩
            rw [et] at HOB HOM
            have ET := Lib.hid et
            clear et
            obtain ⟨W5, eW5⟩ : ∃ W5, wr.alloc (.cells #[.int .i64 at1, .pointer (some ⟨bx, 0, none⟩)] 136) = W5 := ⟨_, rfl⟩
            have hb5 : Below wr.heap.size wr W5 := by rw [← eW5]; exact (Below.refl _ _).alloc (Nat.le_refl _) _
            have hn5 : W5.heap[wr.heap.size]? = some (.cells #[.int .i64 at1, .pointer (some ⟨bx, 0, none⟩)] 136 (0, 0)) := by rw [← eW5]; exact heap_alloc_new wr _
            have hz5 : W5.heap.size = wr.heap.size + 1 := by rw [← eW5]; simp
            have n0 : W5.cell? ⟨wr.heap.size, 0, none⟩ = some (.int .i64 at1) := (cell_of_row W5 _ 0 _ _ _ hn5).trans rfl
            have n1 : W5.cell? ⟨wr.heap.size, 1, none⟩ = some (.pointer (some ⟨bx, 0, none⟩)) := (cell_of_row W5 _ 1 _ _ _ hn5).trans rfl
            have b9 : W5.cell? ⟨bx, 9, none⟩ = some (.int .i64 sv2) := (hb5.cell (p := ⟨bx, 9, none⟩) hbxr).trans x9
            have b10 : W5.cell? ⟨bx, 10, none⟩ = some (.string lt) := (hb5.cell (p := ⟨bx, 10, none⟩) hbxr).trans x10
            have b8 : W5.cell? ⟨bx, 8, none⟩ = some (.int .i64 ck) := (hb5.cell (p := ⟨bx, 8, none⟩) hbxr).trans x8
            have hl5 : wr.heap.size < W5.heap.size := by omega
            have hbx5 : bx < W5.heap.size := by omega
            have KS : Hid (∀ wx, Below W5.heap.size W5 wx → Below W5.heap.size W5 wx ∧ wx.cell? ⟨wr.heap.size, 0, none⟩ = some (.int .i64 at1) ∧ wx.cell? ⟨wr.heap.size, 1, none⟩ = some (.pointer (some ⟨bx, 0, none⟩)) ∧ wx.cell? ⟨bx, 9, none⟩ = some (.int .i64 sv2) ∧ wx.cell? ⟨bx, 10, none⟩ = some (.string lt)) := by
              show ∀ wx, _
              exact fun wx hb => ⟨hb, (hb.cell (p := ⟨wr.heap.size, 0, none⟩) hl5).trans n0, (hb.cell (p := ⟨wr.heap.size, 1, none⟩) hl5).trans n1, (hb.cell (p := ⟨bx, 9, none⟩) hbx5).trans b9, (hb.cell (p := ⟨bx, 10, none⟩) hbx5).trans b10⟩
            have KAL : Hid (∀ wx ob, Below W5.heap.size W5 wx → Below W5.heap.size W5 (wx.alloc ob)) := by
              show ∀ wx ob, _
              exact fun wx ob h => h.alloc h.size ob
            have HB5 := Lib.hid hb5
            have HN5 := Lib.hid hn5
            have HZ5 := Lib.hid hz5
            have HEW5 := Lib.hid eW5
            clear eW5 hb5 hn5 hz5
            go_upto_region 26 with fail
            rw [HEW5.out]
            go_cut [20] from 83 to 95 (fun sx wx => sx = .pointer (some ⟨W5.heap.size, 0, none⟩) ∧ wx = (W5.alloc (.cells #[.int .i64 at1, .int .i64 sv2, .string lt] 113)).drew)
            case first =>
              clear x8 x9 x10 b8 a0 a1
              go_region_held3 (fun wx => Below W5.heap.size W5 wx ∧ wx.cell? ⟨wr.heap.size, 0, none⟩ = some (.int .i64 at1) ∧ wx.cell? ⟨wr.heap.size, 1, none⟩ = some (.pointer (some ⟨bx, 0, none⟩)) ∧ wx.cell? ⟨bx, 9, none⟩ = some (.int .i64 sv2) ∧ wx.cell? ⟨bx, 10, none⟩ = some (.string lt)) ((refine KS.out _ ?_; repeat (first | (with_reducible assumption) | (with_reducible exact Below.refl _ _) | (with_reducible refine Below.drew ?_) | (with_reducible refine KAL.out _ _ ?_)))) (fail)
              all_goals go_wp2_with fail
              all_goals go_meet
              all_goals exact ⟨rfl, rfl⟩
            case rest =>
            obtain ⟨rfl, rfl⟩ := hcut
            clear KS KAL b10 n0 x8 x9 x10 a0 a1
            go_upto_block 7 with fail
            go_cut [108] from 97 to 116 (fun sx wx => wx = (W5.alloc (.cells #[.int .i64 t, .int .i64 sv2, .string lt] 113)).drew)
            case first =>
              have et := ET.out
              unfold clkT at et
              simp only at et
              by_cases hc0 : ck = 0
              · rw [if_pos hc0] at et
                subst hc0
                subst et
                go_wp2_with fail
                go_meet
                exact rfl
              · rw [if_neg hc0] at et
                have z0 : (ck == 0) = false := by simpa using hc0
                by_cases hc1 : ck = 1
                · rw [if_pos hc1] at et
                  subst hc1
                  subst et
                  go_wp2_with fail
                  go_meet
                  exact rfl
                · rw [if_neg hc1] at et
                  have z1 : (ck == 1) = false := by simpa using hc1
                  subst et
                  go_wp2_with fail
                  go_meet
                  exact rfl
            case rest =>
            obtain ⟨W3, eW3⟩ : ∃ W3, (W5.alloc (.cells #[.int .i64 t, .int .i64 sv2, .string lt] 113)).drew = W3 := ⟨_, rfl⟩
            rw [eW3] at hcut
            have hb35 : Below W5.heap.size W5 W3 := by rw [← eW3]; exact ((Below.refl _ _).alloc (Nat.le_refl _) _).drew
            have hb3 : Below wr.heap.size wr W3 := HB5.out.trans (hb35.mono (by have := HZ5.out; omega))
            have hN3 : W3.heap[wr.heap.size]? = some (.cells #[.int .i64 at1, .pointer (some ⟨bx, 0, none⟩)] 136 (0, 0)) := (hb35.block _ hl5).trans HN5.out
            have hT3 : W3.heap[wr.heap.size + 1]? = some (.cells #[.int .i64 t, .int .i64 sv2, .string lt] 113 (0, 0)) := by
              rw [← eW3]
              exact alloc_at _ _ _ (by have := HZ5.out; omega)
            have hz3 : wr.heap.size + 2 ≤ W3.heap.size := by rw [← eW3]; have := HZ5.out; simp [World.drew]; omega
            have p1 : W3.cell? ⟨wr.heap.size, 1, none⟩ = some (.pointer (some ⟨bx, 0, none⟩)) := (cell_of_row W3 _ 1 _ _ _ hN3).trans rfl
            have q0 : W3.cell? ⟨wr.heap.size + 1, 0, none⟩ = some (.int .i64 t) := (cell_of_row W3 _ 0 _ _ _ hT3).trans rfl
            have q1 : W3.cell? ⟨wr.heap.size + 1, 1, none⟩ = some (.int .i64 sv2) := (cell_of_row W3 _ 1 _ _ _ hT3).trans rfl
            have q2 : W3.cell? ⟨wr.heap.size + 1, 2, none⟩ = some (.string lt) := (cell_of_row W3 _ 2 _ _ _ hT3).trans rfl
            have y9 : W3.cell? ⟨bx, 9, none⟩ = some (.int .i64 sv2) := (hb35.cell (p := ⟨bx, 9, none⟩) hbx5).trans b9
            obtain ⟨A, cO, rfl⟩ := own_sliceN HNR.out
            have HNR3 : Hid (W3.ownsRow W2.heap.size 113 3 (.slice A k cO) k (tnCells out)) := own_keep HNR.out fun g' e' => hb3.block g' (World.ownsRow.lt HNR.out g' e').2
            have hz2 : W2.heap.size ≤ W3.heap.size := by have := HBR.out.size; omega
            have HB3 : Hid (Below W2.heap.size W2 W3) := HBR.out.trans (hb3.mono HBR.out.size)
            rw [HZ5.out]
            obtain ⟨nb, enb⟩ : ∃ nb, wr.heap.size = nb := ⟨_, rfl⟩
            rw [enb] at p1 q0 q1 q2 hz3 hbxr hgr ⊢
            have hol := HOR.out.1
            have HLA : Hid (0 < k → ∃ g2 c2 m, (Value.slice A k cO) = .slice (some ⟨g2, 0, none⟩) k c2 ∧ g2 < W3.heap.size ∧ out[k - 1]? = some m ∧ W3.cell? ⟨g2, (k - 1) * 3, none⟩ = some (.int .i64 m.a)) := by
              show 0 < k → _
              intro h0
              rcases own_cells HNR3.out with ⟨-, h1⟩ | ⟨g2, c2, e2, -, h2, h3⟩
              · omega
              · have hl : k - 1 < out.length := by omega
                exact ⟨g2, c2, out[k - 1], e2, h2, List.getElem?_eq_getElem hl, h3 _ _ (tnCells_get out (k - 1) hl).1⟩
            obtain ⟨BB, hBB0, hBB1⟩ : ∃ BB : Bool, (k = 0 → BB = false) ∧ (∀ m, 0 < k → out[k - 1]? = some m → BB = decide (t ≤ m.a)) := by
              by_cases h0 : 0 < k
              · obtain ⟨g2, c2, m, -, -, e3, -⟩ := HLA.out h0
                exact ⟨decide (t ≤ m.a), fun h => by omega, fun m2 _ e4 => by rw [e3] at e4; injection e4 with e4; rw [e4]⟩
              · exact ⟨false, fun _ => rfl, fun m h => absurd h h0⟩
            have HBT : Hid (BB = true → outF off 0 none S = none) := by
              show BB = true → _
              intro hb
              by_cases h0 : 0 < k
              · obtain ⟨g2, c2, m, -, -, e3, -⟩ := HLA.out h0
                refine HOB.out h0 m e3 ?_
                have := hBB1 m h0 e3
                rw [hb] at this
                exact of_decide_eq_true this.symm
              · rw [hBB0 (by omega)] at hb; cases hb
            have HBF : Hid (BB = false → OutR off S (k + 1) sv2 (out ++ [⟨t, sv2, lt⟩])) := by
              show BB = false → _
              intro hb
              refine HOM.out fun m h0 e3 => ?_
              have := hBB1 m h0 e3
              rw [hb] at this
              have := of_decide_eq_false this.symm
              omega
            have HBB0 := Lib.hid hBB0
            have HBB1 := Lib.hid hBB1
            have hol1 : out.length ≤ 1500 := by omega
            have HOL := Lib.hid hol
            have HENB := Lib.hid enb
            clear hBB0 hBB1 hb3 hb35 hN3 hT3 eW3 HNR HOR HOM HOB ET HTB HTS hol enb HBR s1 s2 n1 b8 hl5 hbx5 HB5 HN5 HZ5 HEW5 b9
            subst hcut
            go_upto_region 32 with fail
            go_cut [129] from 117 to 129 (fun sx wx => sx = .bool BB ∧ ∃ nq, wx = wc.drewN nq)
            case first =>
              by_cases h0 : 0 < k
              · obtain ⟨g2, c2, m, e2, hg2, e3, hc⟩ := HLA.out h0
                simp only [Value.slice.injEq, true_and] at e2
                obtain ⟨rfl, rfl⟩ := e2
                have hBB := HBB1.out m h0 e3
                clear e3
                have hk1 : (0 : Int) < (k : Int) := by omega
                have hk2 : (0 : Int) ≤ (k : Int) - 1 := by omega
                have hk3 : (k : Int) - 1 < (k : Int) := by omega
                have hk4 : ((k : Int) - 1).toNat = k - 1 := by omega
                have hk5 : k - 1 < k := by omega
                by_cases hle : t ≤ m.a
                · rw [decide_eq_true hle] at hBB
                  subst hBB
                  go_quiet (fail)
                  go_wp2_with fail
                  go_meet
                  exact ⟨rfl, _, rfl⟩
                · rw [decide_eq_false hle] at hBB
                  subst hBB
                  go_quiet (fail)
                  go_wp2_with fail
                  go_meet
                  exact ⟨rfl, _, rfl⟩
              · have hBB := HBB0.out (by omega)
                subst hBB
                have hk0 : ¬ (0 : Int) < (k : Int) := by omega
                go_quiet (fail)
                go_wp2_with fail
                go_meet
                exact ⟨rfl, _, rfl⟩
            case rest =>
            obtain ⟨rfl, nq, rfl⟩ := hcut
            cases BB with
            | true =>
              have HE := Lib.hid (H5.out (HBT.out rfl))
              have HBD := Lib.hid (HB6.out.trans (HB3.out.mono HB6.out.size))
              go_wp2_with fail
              go_ret2
              exact MakePost.bad HE.out (below_drewN HBD.out nq)
            | false =>
              have HRF := Lib.hid (HBF.out rfl)
              obtain ⟨W4, e4⟩ : ∃ W4, wc.drewN nq = W4 := ⟨_, rfl⟩
              rw [e4]
              have HNR4 : Hid (W4.ownsRow W2.heap.size 113 3 (.slice A k cO) k (tnCells out)) := by rw [← e4]; exact HNR3
              have HB4 : Hid (Below W2.heap.size W2 W4) := by rw [← e4]; exact below_drewN HB3.out nq
              have p1 : W4.cell? ⟨nb, 1, none⟩ = some (.pointer (some ⟨bx, 0, none⟩)) := by rw [← e4]; exact p1
              have q0 : W4.cell? ⟨nb + 1, 0, none⟩ = some (.int .i64 t) := by rw [← e4]; exact q0
              have q1 : W4.cell? ⟨nb + 1, 1, none⟩ = some (.int .i64 sv2) := by rw [← e4]; exact q1
              have q2 : W4.cell? ⟨nb + 1, 2, none⟩ = some (.string lt) := by rw [← e4]; exact q2
              have y9 : W4.cell? ⟨bx, 9, none⟩ = some (.int .i64 sv2) := by rw [← e4]; exact y9
              have hz4 : wc.heap.size ≤ W4.heap.size := by rw [← e4]; exact Nat.le_refl _
              have hbxw : bx < W4.heap.size := by omega
              have hnbw : nb < W4.heap.size := by omega
              have hnbw1 : nb + 1 < W4.heap.size := by omega
              have hz24 : W2.heap.size ≤ W4.heap.size := by omega
              clear e4
              obtain ⟨i2, hi2, hz20, hz21, hz22⟩ := info_parts infoTn
              have HROW := Lib.hid (World.ownsRow.alloc HNR4.out (.cells #[.int .i64 t, .int .i64 sv2, .string lt] 113))
              have HNEW := Lib.hid (World.news_of_block (cs := #[.int .i64 t, .int .i64 sv2, .string lt]) (t := 113) (fr := (0, 0)) (heap_alloc_new W4 (.cells #[.int .i64 t, .int .i64 sv2, .string lt] 113)))
              have HSZ : W2.heap.size ≤ (W4.alloc (.cells #[.int .i64 t, .int .i64 sv2, .string lt] 113)).heap.size := by simp; omega
              have HML : k + 1 ≤ maxLen := by simp only [maxLen]; omega
              have HMB : (k + 1) * 32 ≤ 140737488355328 := by omega
              go_wp2_with (at_builtin; refine wpList_append_own _ rfl _ _ 84 rfl W2.heap.size 113 i2 (.agg #[.int .i64 0, .int .i64 0, .string ⟨#[]⟩]) 3 32 undTn hi2 hz20 hz21 hz22 rfl (by decide) _ _ _ rfl HROW.out ⟨W4.heap.size, 0, none⟩ 1 1 [.int .i64 t, .int .i64 sv2, .string lt] rfl rfl HNEW.out (by simp [Value.oneCell']) HML HMB HSZ ?_; intro v' w10 hown10 hgrow10 _)
              go_roundw
              case rel =>
                refine ⟨k + 1, sv2, out ++ [⟨t, sv2, lt⟩], hkn, by go_num, rfl, hs20, hs21, HRF, by show World.ownsRow _ _ _ _ _ _ _; rw [tnCells_snoc]; exact hown10, ?_⟩
                exact ((HB4.out.alloc hz24 _).grown hgrow10 HSZ fun q hq => (World.ownsRow.lt HROW.out q hq).1)
              case measure => simp [intOf]; omega
          · obtain rfl : k = l.length := by omega
            have HE := Lib.hid (H0.out out (HOR.out.done (by rw [← HTS.out]; unfold nbM; rw [List.length_map, HTL.out]; exact Nat.le_refl _)))
            have hol := HOR.out.1
            have HRW : Hid (wr.ownsRow w.heap.size 113 3 u16 out.length (tnCells out)) := by show World.ownsRow _ _ _ _ _ _ _; rw [hol]; exact own_base HNR.out HB6.out.size
            have HBD := Lib.hid (HB6.out.trans (HBR.out.mono HB6.out.size))
            clear hol
            go_wp2_with fail
            go_ret2
            exact MakePost.ok HE.out HRW.out HBD.out
end Go.Proofs.YtacogloheiendaaGreatDoor
