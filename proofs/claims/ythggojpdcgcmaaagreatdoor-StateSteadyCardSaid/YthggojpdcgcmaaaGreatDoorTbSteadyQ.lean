/- StateSteady: the walk. -/
import Derived.Test.YthggojpdcgcmaaaGreatDoorQ14
import Derived.Test.YthggojpdcgcmaaaGreatDoorQ13
import Derived.Test.YthggojpdcgcmaaaGreatDoorQ15
namespace Go.Proofs.YthggojpdcgcmaaaGreatDoor
open Go.RowKit Go.Joins Go.Maps
open Classical
set_option linter.unusedVariables false
set_option linter.unusedSimpArgs false

set_option maxRecDepth 100000 in
set_option maxHeartbeats 20000000 in
theorem StateSteady_walk (MK : MakeSays) (b : Bk) (rv zv lv : Value) (nm : ByteArray) (f0 l0 x0 y0 : Int) (w : World) (hB : BookAt w.heap.size w rv zv lv b) (hn : nm.size ≤ 140737488351232) (hm : MaxLen w) (ht : Tab10 w) :
    Calls Tryz.prog 4 #[.agg #[rv, zv, lv], .string nm, .int .i64 f0, .int .i64 l0, .int .i64 x0, .int .i64 y0] w fun e w' => e = .returned (.bool true) ∧ Below w.heap.size w w' := by
  obtain ⟨p1, c1, p2, c2, p3, c3, W0, rfl, rfl, rfl, eW, hBX⟩ := bk_box hB hm ht
  have HEW := Lib.hid eW
  have HBX := Lib.hid hBX
  have HTD := Lib.hid (tabled_any MK W0 (hm.below hBX.hb) (ht.below hBX.hb))
  have hs1 := tD_bd2 f0
  have hs2 := spTo_bd f0 l0
  have hst := Lib.hid (sp_stamp f0 l0)
  obtain ⟨fr, efr⟩ : ∃ fr, tD f0 = fr := ⟨_, rfl⟩
  obtain ⟨te, ete⟩ : ∃ te, spTo f0 l0 = te := ⟨_, rfl⟩
  have HSP : Hid (∀ W : World, Calls Tryz.prog 18 #[.int .i64 f0, .int .i64 l0] W fun e w' => e = .returned (.agg #[.int .i64 fr, .int .i64 te]) ∧ Below W.heap.size W w') := by
    show ∀ W, _
    intro W; rw [← efr, ← ete]; exact span_any f0 l0 W
  rw [efr] at hs1 hs2 hst
  rw [ete] at hs2 hst
  have HMK : Hid (∀ (W : World) (x y : Int), Below W0.heap.size W0 W → -4611686018427387904 ≤ x → x ≤ 4611686018427387904 → -4611686018427387904 ≤ y → y ≤ 4611686018427387904 → Calls Tryz.prog 19 #[.agg #[.slice p1 b.rules.length c1, .slice p2 b.zones.length c2, .slice p3 b.links.length c3], .string nm, .agg #[.int .i64 x, .int .i64 y]] W (TbV (mkT b nm x y) W)) := by
    show ∀ W x y, _
    intro W x y hb h1 h2 h3 h4
    exact HBX.out.make MK nm hn x y hb h1 h2 h3 h4
  have HSA : Hid (∀ (W : World) (t : Int), Below W0.heap.size W0 W → -4611686018427387904 ≤ t → t ≤ 4611686018427387904 → Calls Tryz.prog 16 #[.agg #[.slice p1 b.rules.length c1, .slice p2 b.zones.length c2, .slice p3 b.links.length c3], .string nm, .int .i64 t] W (StPost (stR b nm t) W)) := by
    show ∀ W t, _
    intro W t hb h1 h2
    exact HBX.out.at MK nm hn t hb h1 h2
  have HFIN : Hid (∀ W, Below W0.heap.size W0 W → Below w.heap.size w W) := by
    show ∀ W, _
    intro W hb
    exact HBX.out.hb.trans (hb.mono HBX.out.hb.size)
  have hl0 := hBX.lt
  clear eW hB hm ht efr ete hBX
  obtain ⟨S, eS⟩ : ∃ S, mkT b nm fr te = S := ⟨_, rfl⟩
  obtain ⟨C, T⟩ := S
  have eS4 := Lib.hid eS
  clear eS
  have HLAW := Lib.hid (fun h => mk_chg (b := b) (nm := nm) (fr := fr) (te := te) (T := T) h)
  have hTl : T.chs.length ≤ 1000 := by have := (mkT_small b nm fr te).2.2.1; rwa [eS4.out] at this
  go_enter Tryz.func4, Tryz.ntmps4
  go_upto_region 1 with fail
  rw [HEW.out]
  go_wp2_with fail
  refine HTD.out.mono ?_
  rintro e w1 ⟨rfl, hb1⟩
  have HB1 := Lib.hid hb1
  have HS1 := Lib.hid (HSP.out w1)
  clear hb1 HTD HSP
  go_wp2_with fail
  refine HS1.out.mono ?_
  rintro e w2 ⟨rfl, hb2⟩
  obtain ⟨W3, e3⟩ : ∃ W3, w2.alloc (.cells #[.int .i64 fr, .int .i64 te] 47) = W3 := ⟨_, rfl⟩
  obtain ⟨hb3, hz3, hsx⟩ := sp_box e3
  obtain ⟨sb, esb⟩ : ∃ sb, w2.heap.size = sb := ⟨_, rfl⟩
  have HA3 := Lib.hid (HB1.out.trans ((hb2.trans (hb3.mono hb2.size)).mono HB1.out.size))
  have HSB := Lib.hid esb
  have HE3 := Lib.hid e3
  rw [esb] at hz3 hsx
  have HSX := Lib.hid hsx
  have HB3 := Lib.hid (Below.refl W3.heap.size W3)
  obtain ⟨g0, g1, g2⟩ := HBX.out.cells HA3.out
  obtain ⟨s0, s1⟩ := HSX.out W3 HB3.out
  have hl3 : w.heap.size < W3.heap.size := by have := HA3.out.size; omega
  clear hb2 hb3 hsx esb e3 HS1
  go_upto_region 4 with fail
  rw [HE3.out, HSB.out]
  have HC4 := Lib.hid (HMK.out W3 fr te HA3.out (by omega) (by omega) (by omega) (by omega))
  rw [eS4.out] at HC4
  go_wp2_with fail
  refine HC4.out.mono ?_
  rintro e v4 ⟨q4, d4, q'4, d'4, rfl, htb, hb⟩
  simp only at htb ⊢
  obtain ⟨W4, e4⟩ : ∃ W4, v4.alloc (.cells #[.slice q4 T.types.length d4, .int .i64 0, .slice q'4 T.chs.length d'4] 52) = W4 := ⟨_, rfl⟩
  have hbx := TBz.box htb e4
  have hb2 : Below v4.heap.size v4 W4 := by rw [← e4]; exact alBelow _ _
  have hb3 : Below W3.heap.size W3 W4 := hb.trans (hb2.mono hb.size)
  have HA4 := Lib.hid (HA3.out.trans (hb3.mono HA3.out.size))
  have HB4 := Lib.hid (HB3.out.trans (hb3.mono HB3.out.size))
  have HS4 := Lib.hid hb3
  obtain ⟨tb4, etb4⟩ : ∃ tb4, v4.heap.size = tb4 := ⟨_, rfl⟩
  have HE4 := Lib.hid e4
  have HTE4 := Lib.hid etb4
  rw [etb4] at hbx
  have HT4 := Lib.hid hbx
  have hz4 := hbx.lt
  obtain ⟨a4, b4, f4⟩ := hbx.cells
  clear hb hb2 hb3 htb hbx HC4 e4 etb4 g0 g1 g2 s0 s1 
  obtain ⟨g0, g1, g2⟩ := HBX.out.cells HA4.out
  obtain ⟨s0, s1⟩ := HSX.out W4 HB4.out
  go_upto_region 5 with fail
  rw [HE4.out, HTE4.out]
  by_cases hC : C = 0
  case neg =>
    have hz : (C == 0) = false := by simpa using hC
    have hzn : (C != 0) = true := by simpa using hC
    go_wp2_with fail
    go_ret
    exact ⟨rfl, HFIN.out _ HA4.out⟩
  have HC0 := Lib.hid hC
  subst hC
  obtain ⟨l1, l2, l3, l4⟩ := HLAW.out eS4.out
  have HIN := Lib.hid l3
  have HCK := Lib.hid l2
  have HSAY := Lib.hid (fun x y h1 h2 h3 h4 => mk_steady (x := x) (y := y) eS4.out h1 h2 h3 h4)
  have hw1 : IntKind.i64.wrap (te - fr) = te - fr := IntWalk.i64_in _ (by omega)
  have hx1 := Int.emod_nonneg x0 (show te - fr ≠ 0 by omega)
  have hx2 := Int.emod_lt_of_pos x0 (show 0 < te - fr by omega)
  have hy1 := Int.emod_nonneg y0 (show te - fr ≠ 0 by omega)
  have hy2 := Int.emod_lt_of_pos y0 (show 0 < te - fr by omega)
  have HRX := Lib.hid (fun W => Rest0_any x0 (te - fr) W (by omega) (by omega))
  have HRY := Lib.hid (fun W => Rest0_any y0 (te - fr) W (by omega) (by omega))
  have hw4 : IntKind.i64.wrap (fr + x0 % (te - fr)) = fr + x0 % (te - fr) := IntWalk.i64_in _ (by omega)
  have hw5 : IntKind.i64.wrap (fr + y0 % (te - fr)) = fr + y0 % (te - fr) := IntWalk.i64_in _ (by omega)
  obtain ⟨xa, exa⟩ : ∃ xa, x0 % (te - fr) = xa := ⟨_, rfl⟩
  rw [exa] at HRX hx1 hx2 hw4
  obtain ⟨ya, eya⟩ : ∃ ya, y0 % (te - fr) = ya := ⟨_, rfl⟩
  rw [eya] at HRY hy1 hy2 hw5
  clear exa eya l1 l2 l3 HLAW
  go_upto_region 7 with fail
  go_quiet (first
    | (go_at_call_of 13 (Value.int .i64 x0); exact Calls.quiet_of_same ((HRX.out _).mono fun _ _ h => ⟨h.1, h.2.symm⟩))
    | (go_at_call_of 13 (Value.int .i64 y0); exact Calls.quiet_of_same ((HRY.out _).mono fun _ _ h => ⟨h.1, h.2.symm⟩)))
  clear hw1
  obtain ⟨W5, e5⟩ : ∃ W5, W4.drewN nq = W5 := ⟨_, rfl⟩
  have hbq : Below W4.heap.size W4 W5 := by rw [← e5]; exact below_drewN' (Below.refl _ _) nq
  rw [e5]
  have HA5 := Lib.hid (HA4.out.trans (hbq.mono HA4.out.size))
  have HB5 := Lib.hid (HB4.out.trans (hbq.mono HB4.out.size))
  have HS5 := Lib.hid hbq
  have HT4 := Lib.hid (HT4.out.below hbq)
  have hz4 := HT4.out.lt
  clear e5 hbq g0 g1 g2 s0 s1 a4 b4 f4
  obtain ⟨a4, b4, f4⟩ := HT4.out.cells
  obtain ⟨g0, g1, g2⟩ := HBX.out.cells HA5.out
  obtain ⟨s0, s1⟩ := HSX.out W5 HB5.out
  obtain ⟨x, ex⟩ : ∃ x, fr + xa = x := ⟨_, rfl⟩
  obtain ⟨y, ey⟩ : ∃ y, fr + ya = y := ⟨_, rfl⟩
  rw [ex, ey]
  have hxt : fr ≤ x ∧ x < te := by omega
  have hyt : fr ≤ y ∧ y < te := by omega
  clear ex ey hw4 hw5 hx1 hx2 hy1 hy2
  go_wp2_with fail
  go_loopw [59] (fun i wr => ∃ k : Nat, k ≤ T.chs.length ∧ i = .int .i64 k ∧ Hid (∀ j (h : j < T.chs.length), j < k → ¬ (min x y < T.chs[j].t ∧ T.chs[j].t ≤ max x y)) ∧ Hid (Below W5.heap.size W5 wr)) (fun i _ => T.chs.length - (intOf i).toNat)
  case atStart => exact ⟨0, Nat.zero_le _, rfl, Lib.hid (fun j h g => absurd g (Nat.not_lt_zero _)), Lib.hid (Below.refl _ _)⟩
  case round =>
    obtain ⟨k, hk, rfl, HNO, HBR⟩ := hrel
    have hzr := HBR.out.size
    have HAr := Lib.hid (HA5.out.trans (HBR.out.mono HA5.out.size))
    have HBr := Lib.hid (HB5.out.trans (HBR.out.mono HB5.out.size))
    by_cases hkl : k < T.chs.length
    ·
      have HTL := HT4.out.below HBR.out
      have hck := List.getElem_mem hkl
      have hin : ¬ (min x y < T.chs[k].t ∧ T.chs[k].t ≤ max x y) → ∀ j (h : j < T.chs.length), j < k + 1 → ¬ (min x y < T.chs[j].t ∧ T.chs[j].t ≤ max x y) := by
        intro g j h hj
        by_cases e : j = k
        · subst e; exact g
        · exact HNO.out j h (by omega)
      obtain ⟨bb, o, rfl, hbb, x0, x1⟩ := HTL.chs k hkl
      obtain ⟨q, eq⟩ : ∃ q, T.chs[k] = q := ⟨_, rfl⟩
      rw [eq] at x0 x1 hin
      obtain ⟨ct, ckk⟩ := q
      simp only at x0 x1 hin
      obtain ⟨W8, e8⟩ : ∃ W8, wr.alloc (.cells #[.int .i64 ct, .int .i64 ckk] 56) = W8 := ⟨_, rfl⟩
      have hx8 : W8.heap[wr.heap.size]? = some (.cells #[.int .i64 ct, .int .i64 ckk] 56 (0, 0)) := by rw [← e8]; exact heap_alloc_new wr _
      have hb8 : Below wr.heap.size wr W8 := by rw [← e8]; exact alBelow _ _
      have hz8 : wr.heap.size < W8.heap.size := by rw [← e8]; simp
      have HR8 := Lib.hid (HBR.out.trans (hb8.mono hzr))
      have HB8 := Lib.hid (HBr.out.trans (hb8.mono HBr.out.size))
      obtain ⟨s0, s1⟩ := HSX.out W8 HB8.out
      obtain ⟨lb, elb⟩ : ∃ lb, wr.heap.size = lb := ⟨_, rfl⟩
      have HE8 := Lib.hid e8
      have HLB := Lib.hid elb
      have hrl := hzr
      rw [elb] at hx8 hz8 hrl
      have y0 : W8.cell? ⟨lb, 0, none⟩ = some (.int .i64 ct) := (cell_of_row W8 _ 0 _ _ _ hx8).trans rfl
      clear hx8 hb8 e8 elb eq hck
      have HIN2 := Lib.hid hin
      clear hin HTL s0 s1
      go_upto_region 11 with fail
      rw [HE8.out, HLB.out]
      by_cases h1 : min x y < ct
      · by_cases h2 : ct ≤ max x y
        · go_wp2_with fail
          go_ret
          exact ⟨rfl, HFIN.out _ (HA5.out.trans (HR8.out.mono HA5.out.size))⟩
        · go_wp2_with fail
          go_roundw
          case rel => exact ⟨k + 1, by omega, by go_num, Lib.hid (HIN2.out fun g => h2 g.2), HR8⟩
          case measure => simp [intOf]; omega
      · go_wp2_with fail
        go_roundw
        case rel => exact ⟨k + 1, by omega, by go_num, Lib.hid (HIN2.out fun g => h1 g.1), HR8⟩
        case measure => simp [intOf]; omega
    · obtain rfl : k = T.chs.length := by omega
      have hxy : stR b nm x = stR b nm y ∧ (stR b nm x).1 = 0 := by
        have hno : ∀ c ∈ T.chs, ¬ (min x y < c.t ∧ c.t ≤ max x y) := fun c hc => by
          obtain ⟨j, hj, rfl⟩ := List.mem_iff_getElem.1 hc
          exact HNO.out j hj hj
        rcases Int.le_total x y with g | g
        · rw [Int.min_eq_left g, Int.max_eq_right g] at hno
          exact HSAY.out x y hxt.1 hyt.2 g hno
        · rw [Int.min_eq_right g, Int.max_eq_left g] at hno
          have := HSAY.out y x hyt.1 hxt.2 g hno
          exact ⟨this.1.symm, by rw [← this.1]; exact this.2⟩
      obtain ⟨S, eS⟩ : ∃ S, stR b nm x = S := ⟨_, rfl⟩
      obtain ⟨C, ⟨so, ss, sn⟩⟩ := S
      rw [eS] at hxy
      obtain ⟨h1, h2⟩ := hxy
      simp only at h2
      subst h2
      have HX1 := Lib.hid (HSA.out wr x HAr.out (by omega) (by omega))
      rw [eS] at HX1
      have HY1 : Hid (∀ W, Below W0.heap.size W0 W → Calls Tryz.prog 16 #[.agg #[.slice p1 b.rules.length c1, .slice p2 b.zones.length c2, .slice p3 b.links.length c3], .string nm, .int .i64 y] W (StPost (0, ⟨so, ss, sn⟩) W)) := by
        show ∀ W, _
        intro W hb
        have := HSA.out W y hb (by omega) (by omega)
        rwa [← h1] at this
      obtain ⟨g0, g1, g2⟩ := HBX.out.cells HAr.out
      clear eS h1 HNO HSAY HSA
      go_wp2_with fail
      refine HX1.out.mono ?_
      rintro e w8 ⟨rfl, hb8⟩
      simp only [tyV]
      obtain ⟨W9, e9⟩ : ∃ W9, w8.alloc (.cells #[.int .i64 so, .bool ss, .string sn] 40) = W9 := ⟨_, rfl⟩
      have hx9 : W9.heap[w8.heap.size]? = some (.cells #[.int .i64 so, .bool ss, .string sn] 40 (0, 0)) := by rw [← e9]; exact heap_alloc_new w8 _
      have hb9 : Below w8.heap.size w8 W9 := by rw [← e9]; exact alBelow _ _
      have hz9 : w8.heap.size < W9.heap.size := by rw [← e9]; simp
      have hbr9 := hb8.trans (hb9.mono hb8.size)
      have HA9 := Lib.hid (HAr.out.trans (hbr9.mono HAr.out.size))
      have HE9 := Lib.hid e9
      obtain ⟨xb, exb⟩ : ∃ xb, w8.heap.size = xb := ⟨_, rfl⟩
      have HXB := Lib.hid exb
      rw [exb] at hx9 hz9
      have HX9 := Lib.hid hx9
      clear g0 g1 g2
      obtain ⟨g0, g1, g2⟩ := HBX.out.cells HA9.out
      have HA2 := Lib.hid (HY1.out W9 HA9.out)
      clear e9 hx9 hb9 hbr9 hb8 exb HX1 HY1
      go_upto_region 15 with fail
      rw [HE9.out, HXB.out]
      go_wp2_with fail
      refine HA2.out.mono ?_
      rintro e w10 ⟨rfl, hb10⟩
      simp only [tyV]
      have hx10 := (hb10.block xb hz9).trans HX9.out
      have hz10 : xb < w10.heap.size := Nat.lt_of_lt_of_le hz9 hb10.size
      have q0 : w10.cell? ⟨xb, 0, none⟩ = some (.int .i64 so) := (cell_of_row w10 _ 0 _ _ _ hx10).trans rfl
      have q1 : w10.cell? ⟨xb, 1, none⟩ = some (.bool ss) := (cell_of_row w10 _ 1 _ _ _ hx10).trans rfl
      have q2 : w10.cell? ⟨xb, 2, none⟩ = some (.string sn) := (cell_of_row w10 _ 2 _ _ _ hx10).trans rfl
      have heql := fun W => eql_tySelf so ss sn W
      have HA10 := Lib.hid (HA9.out.trans (hb10.mono HA9.out.size))
      clear hb10 hx10 HA2 g0 g1 g2
      go_wp2_with fail
      go_ret
      exact ⟨rfl, HFIN.out _ (HA10.out.alloc HA10.out.size _)⟩
end Go.Proofs.YthggojpdcgcmaaaGreatDoor
