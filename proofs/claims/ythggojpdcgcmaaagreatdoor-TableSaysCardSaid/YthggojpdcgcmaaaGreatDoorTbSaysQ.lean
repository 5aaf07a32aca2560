/- TableSays: the walk. -/
import Derived.Test.YthggojpdcgcmaaaGreatDoorQ14
import Derived.Test.YthggojpdcgcmaaaGreatDoorQ13
import Derived.Test.YthggojpdcgcmaaaGreatDoorQ15
namespace Go.Proofs.YthggojpdcgcmaaaGreatDoor
open Go.RowKit Go.Joins Go.Maps
open Classical
set_option linter.unusedVariables false
set_option linter.unusedSimpArgs false
theorem infoIntS : (Tryz.prog.info? 3).map (fun i => (i.zero, i.size, i.bytes)) = some (some (.int .i64 0), 1, 8) := by kernel_rfl
theorem undIntsS : Tryz.prog.underlying 62 = some (.slice 3) := by kernel_rfl
/-- the times that are looked at: an own row -/
def TimesL (T : Tab) (fr te : Int) (B : Nat) (v : Value) (k : Nat) (W : World) : Prop := ∃ L : List Int, W.ownsRow B 3 1 v L.length (L.map (Value.int .i64)) ∧ L.length ≤ 3 + 2 * k ∧ 3 ≤ L.length ∧ ∀ x ∈ L, fr ≤ x ∧ x < te
theorem TimesL.start {T : Tab} {fr te xt : Int} {B : Nat} {v : Value} {W : World} (h : W.ownsRow B 3 1 v 3 [.int .i64 fr, .int .i64 (te - 1), .int .i64 xt]) (h1 : fr ≤ xt) (h2 : xt < te) : TimesL T fr te B v 0 W :=
  ⟨[fr, te - 1, xt], h, Nat.le_refl _, Nat.le_refl _, fun x hx => by
    simp only [List.mem_cons, List.not_mem_nil, or_false] at hx
    omega⟩
theorem TimesL.slice {T : Tab} {fr te : Int} {B : Nat} {v : Value} {k : Nat} {W : World} (h : TimesL T fr te B v k W) : ∃ A n c, v = .slice A n c := by
  obtain ⟨L, h, -⟩ := h
  obtain ⟨A, c, rfl⟩ := own_sliceN h
  exact ⟨_, _, _, rfl⟩
theorem TimesL.more {T : Tab} {fr te a c : Int} {B : Nat} {v : Value} {k : Nat} {L : List Int} {W : World} (h : W.ownsRow B 3 1 v (L.length + 2) (L.map (Value.int .i64) ++ [.int .i64 a, .int .i64 c])) (h1 : L.length ≤ 3 + 2 * k) (h0 : 3 ≤ L.length) (h2 : ∀ x ∈ L, fr ≤ x ∧ x < te) (h3 : fr ≤ a ∧ a < te) (h4 : fr ≤ c ∧ c < te) : TimesL T fr te B v (k + 1) W :=
  ⟨L ++ [a, c], by rw [List.length_append, List.map_append]; exact h, by rw [List.length_append]; simp only [List.length_cons, List.length_nil]; omega, by rw [List.length_append]; omega, fun x hx => by
    rcases List.mem_append.1 hx with hx | hx
    · exact h2 x hx
    · simp only [List.mem_cons, List.not_mem_nil, or_false] at hx
      rcases hx with rfl | rfl
      · exact h3
      · exact h4⟩
theorem TimesL.same {T : Tab} {fr te : Int} {B : Nat} {v : Value} {k : Nat} {L : List Int} {W W' : World} (h : W.ownsRow B 3 1 v L.length (L.map (Value.int .i64))) (h1 : L.length ≤ 3 + 2 * k) (h0 : 3 ≤ L.length) (h2 : ∀ x ∈ L, fr ≤ x ∧ x < te) (hb : Below W.heap.size W W') : TimesL T fr te B v (k + 1) W' :=
  ⟨L, own_keep h fun g e => hb.block g (World.ownsRow.lt h g e).2, by omega, h0, h2⟩

set_option maxRecDepth 100000 in
set_option maxHeartbeats 20000000 in
theorem TableSays_walk (MK : MakeSays) (b : Bk) (rv zv lv : Value) (nm : ByteArray) (f0 l0 x0 : Int) (w : World) (hB : BookAt w.heap.size w rv zv lv b) (hn : nm.size ≤ 140737488351232) (hm : MaxLen w) (ht : Tab10 w) :
    Calls Tryz.prog 9 #[.agg #[rv, zv, lv], .string nm, .int .i64 f0, .int .i64 l0, .int .i64 x0] w fun e w' => e = .returned (.bool true) ∧ Below w.heap.size w w' := by
  obtain ⟨p1, c1, p2, c2, p3, c3, W0, rfl, rfl, rfl, eW, hBX⟩ := bk_box hB hm ht
  have HEW := Lib.hid eW
  have HBX := Lib.hid hBX
  have HTD := Lib.hid (tabled_any MK W0 (hm.below hBX.hb) (ht.below hBX.hb))
  have hs1 := tD_bd2 f0
  have hs2 := spTo_bd f0 l0
  have hst := Lib.hid (sp_stamp f0 l0)
  obtain ⟨fr, efr⟩ : ∃ fr, tD f0 = fr := ⟨_, rfl⟩
  obtain ⟨te, ete⟩ : ∃ te, spTo f0 l0 = te := ⟨_, rfl⟩
  have HSP : Hid (∀ W : World, Calls Tryz.prog 18 #[.int .i64 f0, .int .i64 l0] W fun e w' => e = .returned (.agg #[.int .i64 fr, .int .i64 te]) ∧ Below W.heap.size W w') := by
    show ∀ W, _
    intro W; rw [← efr, ← ete]; exact span_any f0 l0 W
  rw [efr] at hs1 hs2 hst
  rw [ete] at hs2 hst
  have HMK : Hid (∀ (W : World) (x y : Int), Below W0.heap.size W0 W → -4611686018427387904 ≤ x → x ≤ 4611686018427387904 → -4611686018427387904 ≤ y → y ≤ 4611686018427387904 → Calls Tryz.prog 19 #[.agg #[.slice p1 b.rules.length c1, .slice p2 b.zones.length c2, .slice p3 b.links.length c3], .string nm, .agg #[.int .i64 x, .int .i64 y]] W (TbV (mkT b nm x y) W)) := by
    show ∀ W x y, _
    intro W x y hb h1 h2 h3 h4
    exact HBX.out.make MK nm hn x y hb h1 h2 h3 h4
  have HSA : Hid (∀ (W : World) (t : Int), Below W0.heap.size W0 W → -4611686018427387904 ≤ t → t ≤ 4611686018427387904 → Calls Tryz.prog 16 #[.agg #[.slice p1 b.rules.length c1, .slice p2 b.zones.length c2, .slice p3 b.links.length c3], .string nm, .int .i64 t] W (StPost (stR b nm t) W)) := by
    show ∀ W t, _
    intro W t hb h1 h2
    exact HBX.out.at MK nm hn t hb h1 h2
  have HFIN : Hid (∀ W, Below W0.heap.size W0 W → Below w.heap.size w W) := by
    show ∀ W, _
    intro W hb
    exact HBX.out.hb.trans (hb.mono HBX.out.hb.size)
  have hl0 := hBX.lt
  clear eW hB hm ht efr ete hBX
  obtain ⟨S, eS⟩ : ∃ S, mkT b nm fr te = S := ⟨_, rfl⟩
  obtain ⟨C, T⟩ := S
  have eS4 := Lib.hid eS
  clear eS
  have HLAW := Lib.hid (fun h => mk_chg (b := b) (nm := nm) (fr := fr) (te := te) (T := T) h)
  have hTl : T.chs.length ≤ 1000 := by have := (mkT_small b nm fr te).2.2.1; rwa [eS4.out] at this
  go_enter Tryz.func9, Tryz.ntmps9
  go_upto_region 1 with fail
  rw [HEW.out]
  go_wp2_with fail
  refine HTD.out.mono ?_
  rintro e w1 ⟨rfl, hb1⟩
  have HB1 := Lib.hid hb1
  have HS1 := Lib.hid (HSP.out w1)
  clear hb1 HTD HSP
  go_wp2_with fail
  refine HS1.out.mono ?_
  rintro e w2 ⟨rfl, hb2⟩
  obtain ⟨W3, e3⟩ : ∃ W3, w2.alloc (.cells #[.int .i64 fr, .int .i64 te] 47) = W3 := ⟨_, rfl⟩
  obtain ⟨hb3, hz3, hsx⟩ := sp_box e3
  obtain ⟨sb, esb⟩ : ∃ sb, w2.heap.size = sb := ⟨_, rfl⟩
  have HA3 := Lib.hid (HB1.out.trans ((hb2.trans (hb3.mono hb2.size)).mono HB1.out.size))
  have HSB := Lib.hid esb
  have HE3 := Lib.hid e3
  rw [esb] at hz3 hsx
  have HSX := Lib.hid hsx
  have HB3 := Lib.hid (Below.refl W3.heap.size W3)
  obtain ⟨g0, g1, g2⟩ := HBX.out.cells HA3.out
  obtain ⟨s0, s1⟩ := HSX.out W3 HB3.out
  have hl3 : w.heap.size < W3.heap.size := by have := HA3.out.size; omega
  clear hb2 hb3 hsx esb e3 HS1
  go_upto_region 4 with fail
  rw [HE3.out, HSB.out]
  have HC4 := Lib.hid (HMK.out W3 fr te HA3.out (by omega) (by omega) (by omega) (by omega))
  rw [eS4.out] at HC4
  go_wp2_with fail
  refine HC4.out.mono ?_
  rintro e v4 ⟨q4, d4, q'4, d'4, rfl, htb, hb⟩
  simp only at htb ⊢
  obtain ⟨W4, e4⟩ : ∃ W4, v4.alloc (.cells #[.slice q4 T.types.length d4, .int .i64 0, .slice q'4 T.chs.length d'4] 52) = W4 := ⟨_, rfl⟩
  have hbx := TBz.box htb e4
  have hb2 : Below v4.heap.size v4 W4 := by rw [← e4]; exact alBelow _ _
  have hb3 : Below W3.heap.size W3 W4 := hb.trans (hb2.mono hb.size)
  have HA4 := Lib.hid (HA3.out.trans (hb3.mono HA3.out.size))
  have HB4 := Lib.hid (HB3.out.trans (hb3.mono HB3.out.size))
  have HS4 := Lib.hid hb3
  obtain ⟨tb4, etb4⟩ : ∃ tb4, v4.heap.size = tb4 := ⟨_, rfl⟩
  have HE4 := Lib.hid e4
  have HTE4 := Lib.hid etb4
  rw [etb4] at hbx
  have HT4 := Lib.hid hbx
  have hz4 := hbx.lt
  obtain ⟨a4, b4, f4⟩ := hbx.cells
  clear hb hb2 hb3 htb hbx HC4 e4 etb4 g0 g1 g2 s0 s1 
  obtain ⟨g0, g1, g2⟩ := HBX.out.cells HA4.out
  obtain ⟨s0, s1⟩ := HSX.out W4 HB4.out
  go_upto_region 5 with fail
  rw [HE4.out, HTE4.out]
  by_cases hC : C = 0
  case neg =>
    have hz : (C == 0) = false := by simpa using hC
    have hzn : (C != 0) = true := by simpa using hC
    obtain rfl := mk_none eS4.out hC
    have HEQ := Lib.hid (TableEq_any zTab zTab _ _ W4 HT4.out.2 (zTab_at W4))
    rw [decide_eq_true rfl] at HEQ
    go_wp2_with fail
    refine HEQ.out.mono ?_
    rintro e w5 ⟨rfl, hb5⟩
    have HA5 := Lib.hid (HA4.out.trans (hb5.mono HA4.out.size))
    clear hb5 HEQ
    go_wp2_with fail
    go_ret
    exact ⟨rfl, HFIN.out _ HA5.out⟩
  subst hC
  obtain ⟨l1, l2, l3, l4⟩ := HLAW.out eS4.out
  have HIN := Lib.hid l3
  have HCK := Lib.hid l2
  have HSAY := Lib.hid (fun y h1 h2 => mk_says (y := y) eS4.out h1 h2)
  have hw1 : IntKind.i64.wrap (te - fr) = te - fr := IntWalk.i64_in _ (by omega)
  have hw2 : IntKind.i64.wrap (te - 1) = te - 1 := IntWalk.i64_in _ (by omega)
  have hx1 := Int.emod_nonneg x0 (show te - fr ≠ 0 by omega)
  have hx2 := Int.emod_lt_of_pos x0 (show 0 < te - fr by omega)
  have HRE := Lib.hid (fun W => Rest0_any x0 (te - fr) W (by omega) (by omega))
  have hw4 : IntKind.i64.wrap (fr + x0 % (te - fr)) = fr + x0 % (te - fr) := IntWalk.i64_in _ (by omega)
  obtain ⟨xa, exa⟩ : ∃ xa, x0 % (te - fr) = xa := ⟨_, rfl⟩
  rw [exa] at HRE hx1 hx2 hw4
  clear exa l1 l2 l3 HLAW
  go_upto_region 7 with fail
  go_quiet (first | (go_at_call 13; exact Calls.quiet_of_same ((HRE.out _).mono fun _ _ h => ⟨h.1, h.2.symm⟩)))
  clear hw1
  obtain ⟨W5, e5⟩ : ∃ W5, W4.drewN nq = W5 := ⟨_, rfl⟩
  have hbq : Below W4.heap.size W4 W5 := by rw [← e5]; exact below_drewN' (Below.refl _ _) nq
  rw [e5]
  have HA5 := Lib.hid (HA4.out.trans (hbq.mono HA4.out.size))
  have HB5 := Lib.hid (HB4.out.trans (hbq.mono HB4.out.size))
  have HS5 := Lib.hid hbq
  have HT4 := Lib.hid (HT4.out.below hbq)
  have hz4 := HT4.out.lt
  clear e5 hbq g0 g1 g2 s0 s1 a4 b4 f4
  obtain ⟨a4, b4, f4⟩ := HT4.out.cells
  obtain ⟨g0, g1, g2⟩ := HBX.out.cells HA5.out
  obtain ⟨s0, s1⟩ := HSX.out W5 HB5.out
  obtain ⟨xt, ext⟩ : ∃ xt, fr + xa = xt := ⟨_, rfl⟩
  rw [ext]
  have hxt : fr ≤ xt ∧ xt < te := by omega
  clear ext hw4 hx1 hx2
  obtain ⟨W6, e6⟩ : ∃ W6, W5.alloc (.cells #[.int .i64 fr, .int .i64 (te - 1), .int .i64 xt] 3) = W6 := ⟨_, rfl⟩
  have hb6 : Below W5.heap.size W5 W6 := by rw [← e6]; exact alBelow _ _
  have hat : W6.ownsRow W5.heap.size 3 1 (.slice (some ⟨W5.heap.size, 0, none⟩) 3 3) 3 [.int .i64 fr, .int .i64 (te - 1), .int .i64 xt] := by
    rw [← e6]
    exact World.ownsRow_lit W5 #[.int .i64 fr, .int .i64 (te - 1), .int .i64 xt] 3 (Nat.le_refl _) (by decide) rfl
  have HA6 := Lib.hid (HA5.out.trans (hb6.mono HA5.out.size))
  have HB6 := Lib.hid (HB5.out.trans (hb6.mono HB5.out.size))
  have HS6 := Lib.hid hb6
  have HE6 := Lib.hid e6
  have HAT := Lib.hid hat
  clear e6 hb6 hat g0 g1 g2
  obtain ⟨ib, eib⟩ : ∃ ib, W5.heap.size = ib := ⟨_, rfl⟩
  have HIB := Lib.hid eib
  rw [eib] at HAT
  have hib : ib ≤ W5.heap.size := by omega
  clear eib
  go_upto_region 9 with fail
  rw [HE6.out, HIB.out]
  clear s0 s1
  have h46 := HT4.out.below HS6.out
  have hz46 := h46.lt
  clear a4 b4 f4
  obtain ⟨a4, b4, f4⟩ := h46.cells
  clear h46
  obtain ⟨i0, hi, hzz0, hzz1, hzz2⟩ := info_parts infoIntS
  go_wp2_with fail
  go_loopw [14, 60] (fun v14 i wr => ∃ k : Nat, k ≤ T.chs.length ∧ i = .int .i64 k ∧ Hid (TimesL T fr te ib v14 k wr) ∧ Hid (Below W5.heap.size W5 wr)) (fun _ i _ => T.chs.length - (intOf i).toNat)
  case atStart => exact ⟨0, Nat.zero_le _, rfl, Lib.hid (TimesL.start HAT.out hxt.1 hxt.2), HS6⟩
  case round =>
    obtain ⟨k, hk, rfl, HTI, HBR⟩ := hrel
    have hzr := HBR.out.size
    have HAr := Lib.hid (HA5.out.trans (HBR.out.mono HA5.out.size))
    have HBr := Lib.hid (HB5.out.trans (HBR.out.mono HB5.out.size))
    by_cases hkl : k < T.chs.length
    ·
      have HTL := HT4.out.below HBR.out
      have hck := List.getElem_mem hkl
      have hin := HIN.out _ hck
      obtain ⟨bb, o, rfl, hbb, x0, x1⟩ := HTL.chs k hkl
      obtain ⟨q, eq⟩ : ∃ q, T.chs[k] = q := ⟨_, rfl⟩
      rw [eq] at x0 x1 hin
      obtain ⟨ct, ckk⟩ := q
      simp only at x0 x1 hin
      obtain ⟨W8, e8⟩ : ∃ W8, wr.alloc (.cells #[.int .i64 ct, .int .i64 ckk] 56) = W8 := ⟨_, rfl⟩
      have hx8 : W8.heap[wr.heap.size]? = some (.cells #[.int .i64 ct, .int .i64 ckk] 56 (0, 0)) := by rw [← e8]; exact heap_alloc_new wr _
      have hb8 : Below wr.heap.size wr W8 := by rw [← e8]; exact alBelow _ _
      have hz8 : wr.heap.size < W8.heap.size := by rw [← e8]; simp
      have HR8 := Lib.hid (HBR.out.trans (hb8.mono hzr))
      have HB8 := Lib.hid (HBr.out.trans (hb8.mono HBr.out.size))
      obtain ⟨s0, s1⟩ := HSX.out W8 HB8.out
      obtain ⟨lb, elb⟩ : ∃ lb, wr.heap.size = lb := ⟨_, rfl⟩
      have HE8 := Lib.hid e8
      have HLB := Lib.hid elb
      have hrl := hzr
      rw [elb] at hx8 hz8 hrl
      have y0 : W8.cell? ⟨lb, 0, none⟩ = some (.int .i64 ct) := (cell_of_row W8 _ 0 _ _ _ hx8).trans rfl
      clear hx8 hb8 e8 elb eq hck
      obtain ⟨L, hown, hL1, hL0, hL2⟩ := HTI.out
      obtain ⟨A14, n14, c14, rfl⟩ := HTI.out.slice
      have hwc : IntKind.i64.wrap (ct - 1) = ct - 1 := IntWalk.i64_in _ (by omega)
      have hL3 : L.length ≤ 2003 := by omega
      have hib8 : ib ≤ W8.heap.size := by omega
      have hibr : ib ≤ wr.heap.size := by omega
      clear HTL s0 s1
      by_cases h6 : (k : Int) < 6
      · obtain ⟨W9, e9⟩ : ∃ W9, W8.alloc (.cells #[.int .i64 ct, .int .i64 (ct - 1)] 3) = W9 := ⟨_, rfl⟩
        have HROW : W9.ownsRow ib 3 1 (.slice A14 n14 c14) L.length (L.map (Value.int .i64)) := by
          rw [← e9, ← HE8.out]; exact World.ownsRow.alloc (World.ownsRow.alloc hown _) _
        have HNEW := World.news_of_block (cs := #[.int .i64 ct, .int .i64 (ct - 1)]) (t := 3) (fr := (0, 0)) (show W9.heap[W8.heap.size]? = some _ from by rw [← e9]; exact alloc_at _ _ _ rfl)
        have HSZ : ib ≤ W9.heap.size := by rw [← e9]; simp; omega
        have HML : L.length + 2 ≤ maxLen := by simp only [maxLen]; omega
        have HMB : (L.length + 2) * 8 ≤ 140737488355328 := by omega
        have HE9 := Lib.hid e9
        have HB9 := Lib.hid (HR8.out.trans ((by rw [← e9]; exact alBelow _ _ : Below W8.heap.size W8 W9).mono HR8.out.size))
        clear e9 hown
        go_upto_region 12 with fail
        rw [HE8.out, HLB.out]
        go_wp2_with (at_builtin; rw [HE9.out]; refine wpList_append_own _ rfl _ _ 62 rfl ib 3 i0 (.int .i64 0) 1 8 undIntsS hi hzz0 hzz1 hzz2 rfl (by decide) _ _ _ rfl HROW ⟨W8.heap.size, 0, none⟩ 2 2 [.int .i64 ct, .int .i64 (ct - 1)] rfl rfl HNEW (by simp [Value.oneCell']) HML HMB HSZ ?_; intro v' w5 hown5 hgrow5 _)
        go_roundw
        case rel =>
          exact ⟨k + 1, hkl, by go_num, Lib.hid (TimesL.more hown5 hL1 hL0 hL2 (by omega) (by omega)), Lib.hid (HB9.out.grown hgrow5 (by have := HIB.out; omega) fun q hq => by have := (World.ownsRow.lt HROW q hq).1; have := HIB.out; omega)⟩
        case measure => simp [intOf]; omega
      · clear hi hzz0 hzz1 hzz2
        go_upto_region 12 with fail
        rw [HE8.out, HLB.out]
        go_wp2_with fail
        go_roundw
        case rel => exact ⟨k + 1, hkl, by go_num, Lib.hid (TimesL.same hown hL1 hL0 hL2 (by rw [← HE8.out]; exact alBelow _ _)), HR8⟩
        case measure => simp [intOf]; omega
    · obtain rfl : k = T.chs.length := by omega
      clear hi hzz0 hzz1 hzz2
      obtain ⟨L, hown, hL1, hL0, hL2⟩ := HTI.out
      obtain ⟨W7, e7⟩ : ∃ W7, wr = W7 := ⟨_, rfl⟩
      rw [e7] at HBR hzr HAr HBr HTI hown ⊢
      have HA7 := HAr
      have HB7 := HBr
      have HT7 := Lib.hid (HT4.out.below HBR.out)
      have hib7 : ib ≤ W7.heap.size := by omega
      have hL3 : L.length ≤ 2003 := by omega
      rcases own_cells hown with ⟨-, h0⟩ | ⟨lg, lcap, rfl, hlg, hlb, hlc⟩
      · omega
      have HLC := Lib.hid hlc
      have HL2 := Lib.hid hL2
      clear e7 hlc hL1 hL2 hown HTI HBR hzr HAr HBr
      go_wp2_with fail
      go_loopw [78] (fun i wr => ∃ k : Nat, k ≤ L.length ∧ i = .int .i64 k ∧ Hid (Below W7.heap.size W7 wr)) (fun i _ => L.length - (intOf i).toNat)
      case atStart => exact ⟨0, Nat.zero_le _, rfl, Lib.hid (Below.refl _ _)⟩
      case round =>
        obtain ⟨k, hk, rfl, HBR⟩ := hrel
        have hzr := HBR.out.size
        by_cases hkl : k < L.length
        · have x0 := (HBR.out.cell (p := ⟨lg, k, none⟩) hlb).trans (HLC.out k (.int .i64 L[k]) (by simp [hkl]))
          have hxy := HL2.out L[k] (List.getElem_mem hkl)
          obtain ⟨y, ey⟩ : ∃ y, L[k] = y := ⟨_, rfl⟩
          rw [ey] at x0 hxy
          have hsy := HSAY.out y hxy.1 hxy.2
          have ht := HT7.out.below HBR.out
          obtain ⟨a4, b4, f4⟩ := ht.cells
          have HA1 := Lib.hid (At_ok T _ y wr ht.2 HCK.out)
          have HAr := Lib.hid (HA7.out.trans (HBR.out.mono HA7.out.size))
          obtain ⟨⟨ox, sx, nx⟩, ex⟩ : ∃ X, tyOf T y = X := ⟨_, rfl⟩
          rw [ex] at HA1 hsy
          have HSY := Lib.hid hsy
          simp only [tyV] at HA1
          clear ey ht ex hsy
          go_wp2_with fail
          refine HA1.out.mono ?_
          rintro e w8 ⟨rfl, hb8⟩
          obtain ⟨W9, e9⟩ : ∃ W9, w8.alloc (.cells #[.int .i64 ox, .bool sx, .string nx] 40) = W9 := ⟨_, rfl⟩
          have hx9 : W9.heap[w8.heap.size]? = some (.cells #[.int .i64 ox, .bool sx, .string nx] 40 (0, 0)) := by rw [← e9]; exact heap_alloc_new w8 _
          have hb9 : Below w8.heap.size w8 W9 := by rw [← e9]; exact alBelow _ _
          have hz9 : w8.heap.size < W9.heap.size := by rw [← e9]; simp
          have hbr9 := hb8.trans (hb9.mono hb8.size)
          have HR9 := Lib.hid (HBR.out.trans (hbr9.mono hzr))
          have HA9 := Lib.hid (HAr.out.trans (hbr9.mono HAr.out.size))
          have HE9 := Lib.hid e9
          obtain ⟨xb, exb⟩ : ∃ xb, w8.heap.size = xb := ⟨_, rfl⟩
          have HXB := Lib.hid exb
          rw [exb] at hx9 hz9
          have HX9 := Lib.hid hx9
          obtain ⟨g0, g1, g2⟩ := HBX.out.cells HA9.out
          have HA2 := Lib.hid (HSA.out W9 y HA9.out (by omega) (by omega))
          rw [HSY.out] at HA2
          clear e9 hx9 hb9 hbr9 hb8 exb HA1 a4 b4 f4 x0
          go_upto_region 19 with fail
          rw [HE9.out, HXB.out]
          go_wp2_with fail
          refine HA2.out.mono ?_
          rintro e w10 ⟨rfl, hb10⟩
          simp only [tyV]
          have hx10 := (hb10.block xb hz9).trans HX9.out
          have hz10 : xb < w10.heap.size := Nat.lt_of_lt_of_le hz9 hb10.size
          have q0 : w10.cell? ⟨xb, 0, none⟩ = some (.int .i64 ox) := (cell_of_row w10 _ 0 _ _ _ hx10).trans rfl
          have q1 : w10.cell? ⟨xb, 1, none⟩ = some (.bool sx) := (cell_of_row w10 _ 1 _ _ _ hx10).trans rfl
          have q2 : w10.cell? ⟨xb, 2, none⟩ = some (.string nx) := (cell_of_row w10 _ 2 _ _ _ hx10).trans rfl
          have hneq := fun W => neq_tySelf ox sx nx W
          have HR10 := Lib.hid (HR9.out.trans (hb10.mono HR9.out.size))
          clear hb10 hx10 HA2 g0 g1 g2
          go_wp2_with fail
          go_roundw
          case rel => exact ⟨k + 1, by omega, by go_num, Lib.hid (HR10.out.alloc HR10.out.size _)⟩
          case measure => simp [intOf]; omega
        · obtain rfl : k = L.length := by omega
          go_wp2_with fail
          go_ret
          exact ⟨rfl, HFIN.out _ (HA7.out.trans (HBR.out.mono HA7.out.size))⟩
end Go.Proofs.YthggojpdcgcmaaaGreatDoor
