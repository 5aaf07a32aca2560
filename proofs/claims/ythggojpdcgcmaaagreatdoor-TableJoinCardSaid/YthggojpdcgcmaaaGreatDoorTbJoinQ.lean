/- TableJoin: the walk. -/
import Derived.Test.YthggojpdcgcmaaaGreatDoorQ14
import Derived.Test.YthggojpdcgcmaaaGreatDoorQ13
import Derived.Test.YthggojpdcgcmaaaGreatDoorQ15
namespace Go.Proofs.YthggojpdcgcmaaaGreatDoor
open Go.RowKit Go.Joins Go.Maps
open Classical
set_option linter.unusedVariables false
set_option linter.unusedSimpArgs false
theorem take_succC {α : Type} (l : List α) (k : Nat) (h : k < l.length) : l.take (k + 1) = l.take k ++ [l[k]] := List.take_succ_eq_append_getElem h
/-- does one of these changes lie there? -/
def metC (a : Int) (m : List Ch) : Int := if m.any (fun c => decide (c.t = a)) = true then 1 else 0
theorem metC_snoc (a : Int) (m : List Ch) (c : Ch) : metC a (m ++ [c]) = if c.t = a then 1 else metC a m := by
  unfold metC
  rw [List.any_append]
  by_cases h : c.t = a
  · rw [if_pos h]; simp [h]
  · rw [if_neg h]; simp [h]
theorem metC_chg (a : Int) (T : Tab) [inst : Decidable (a ∈ chgT T)] : (if a ∈ chgT T then (1 : Nat) else 0 : Nat) = (metC a T.chs).toNat := by
  unfold metC
  by_cases h : a ∈ chgT T
  · obtain ⟨c, hc, e⟩ := List.mem_map.1 h
    rw [if_pos h, if_pos (List.any_eq_true.2 ⟨c, hc, decide_eq_true e⟩)]; rfl
  · rw [if_neg h, if_neg]
    · rfl
    · intro g
      obtain ⟨c, hc, e⟩ := List.any_eq_true.1 g
      exact h (List.mem_map.2 ⟨c, hc, of_decide_eq_true e⟩)
theorem metC_bd (a : Int) (m : List Ch) : 0 ≤ metC a m ∧ metC a m ≤ 1 := by unfold metC; split <;> omega

set_option maxRecDepth 100000 in
set_option maxHeartbeats 20000000 in
theorem TableJoin_walk (MK : MakeSays) (b : Bk) (rv zv lv : Value) (nm : ByteArray) (f0 l0 x0 : Int) (w : World) (hB : BookAt w.heap.size w rv zv lv b) (hn : nm.size ≤ 140737488351232) (hm : MaxLen w) (ht : Tab10 w) :
    Calls Tryz.prog 7 #[.agg #[rv, zv, lv], .string nm, .int .i64 f0, .int .i64 l0, .int .i64 x0] w fun e w' => e = .returned (.bool true) ∧ Below w.heap.size w w' := by
  obtain ⟨p1, c1, p2, c2, p3, c3, W0, rfl, rfl, rfl, eW, hBX⟩ := bk_box hB hm ht
  have HEW := Lib.hid eW
  have HBX := Lib.hid hBX
  have HTD := Lib.hid (tabled_any MK W0 (hm.below hBX.hb) (ht.below hBX.hb))
  have hs1 := tD_bd2 f0
  have hs2 := spTo_bd f0 l0
  have hst := Lib.hid (sp_stamp f0 l0)
  obtain ⟨fr, efr⟩ : ∃ fr, tD f0 = fr := ⟨_, rfl⟩
  obtain ⟨te, ete⟩ : ∃ te, spTo f0 l0 = te := ⟨_, rfl⟩
  have HSP : Hid (∀ W : World, Calls Tryz.prog 18 #[.int .i64 f0, .int .i64 l0] W fun e w' => e = .returned (.agg #[.int .i64 fr, .int .i64 te]) ∧ Below W.heap.size W w') := by
    show ∀ W, _
    intro W; rw [← efr, ← ete]; exact span_any f0 l0 W
  rw [efr] at hs1 hs2 hst
  rw [ete] at hs2 hst
  have HMK : Hid (∀ (W : World) (x y : Int), Below W0.heap.size W0 W → -4611686018427387904 ≤ x → x ≤ 4611686018427387904 → -4611686018427387904 ≤ y → y ≤ 4611686018427387904 → Calls Tryz.prog 19 #[.agg #[.slice p1 b.rules.length c1, .slice p2 b.zones.length c2, .slice p3 b.links.length c3], .string nm, .agg #[.int .i64 x, .int .i64 y]] W (TbV (mkT b nm x y) W)) := by
    show ∀ W x y, _
    intro W x y hb h1 h2 h3 h4
    exact HBX.out.make MK nm hn x y hb h1 h2 h3 h4
  have HSA : Hid (∀ (W : World) (t : Int), Below W0.heap.size W0 W → -4611686018427387904 ≤ t → t ≤ 4611686018427387904 → Calls Tryz.prog 16 #[.agg #[.slice p1 b.rules.length c1, .slice p2 b.zones.length c2, .slice p3 b.links.length c3], .string nm, .int .i64 t] W (StPost (stR b nm t) W)) := by
    show ∀ W t, _
    intro W t hb h1 h2
    exact HBX.out.at MK nm hn t hb h1 h2
  have HFIN : Hid (∀ W, Below W0.heap.size W0 W → Below w.heap.size w W) := by
    show ∀ W, _
    intro W hb
    exact HBX.out.hb.trans (hb.mono HBX.out.hb.size)
  have hl0 := hBX.lt
  clear eW hB hm ht efr ete hBX
  go_enter Tryz.func7, Tryz.ntmps7
  go_upto_region 1 with fail
  rw [HEW.out]
  go_wp2_with fail
  refine HTD.out.mono ?_
  rintro e w1 ⟨rfl, hb1⟩
  have HB1 := Lib.hid hb1
  have HS1 := Lib.hid (HSP.out w1)
  clear hb1 HTD HSP
  go_wp2_with fail
  refine HS1.out.mono ?_
  rintro e w2 ⟨rfl, hb2⟩
  obtain ⟨W3, e3⟩ : ∃ W3, w2.alloc (.cells #[.int .i64 fr, .int .i64 te] 47) = W3 := ⟨_, rfl⟩
  obtain ⟨hb3, hz3, hsx⟩ := sp_box e3
  obtain ⟨sb, esb⟩ : ∃ sb, w2.heap.size = sb := ⟨_, rfl⟩
  have HA3 := Lib.hid (HB1.out.trans ((hb2.trans (hb3.mono hb2.size)).mono HB1.out.size))
  have HSB := Lib.hid esb
  have HE3 := Lib.hid e3
  rw [esb] at hz3 hsx
  have HSX := Lib.hid hsx
  have HB3 := Lib.hid (Below.refl W3.heap.size W3)
  obtain ⟨g0, g1, g2⟩ := HBX.out.cells HA3.out
  obtain ⟨s0, s1⟩ := HSX.out W3 HB3.out
  have hl3 : w.heap.size < W3.heap.size := by have := HA3.out.size; omega
  clear hb2 hb3 hsx esb e3 HS1
  go_upto_region 4 with fail
  rw [HE3.out, HSB.out]
  by_cases h2 : te - fr < 2
  · have hw1 : IntKind.i64.wrap (te - fr) = te - fr := IntWalk.i64_in _ (by omega)
    go_wp2_with fail
    go_ret
    exact ⟨rfl, HFIN.out _ HA3.out⟩
  have hw1 : IntKind.i64.wrap (te - fr) = te - fr := IntWalk.i64_in _ (by omega)
  have hw2 : IntKind.i64.wrap (te - fr - 1) = te - fr - 1 := IntWalk.i64_in _ (by omega)
  have hw3 : IntKind.i64.wrap (fr + 1) = fr + 1 := IntWalk.i64_in _ (by omega)
  have hx1 := Int.emod_nonneg x0 (show te - fr - 1 ≠ 0 by omega)
  have hx2 := Int.emod_lt_of_pos x0 (show 0 < te - fr - 1 by omega)
  have HRE := Lib.hid (fun W => Rest0_any x0 (te - fr - 1) W (by omega) (by omega))
  have hw4 : IntKind.i64.wrap (fr + 1 + x0 % (te - fr - 1)) = fr + 1 + x0 % (te - fr - 1) := IntWalk.i64_in _ (by omega)
  obtain ⟨xa, exa⟩ : ∃ xa, x0 % (te - fr - 1) = xa := ⟨_, rfl⟩
  rw [exa] at HRE hx1 hx2 hw4
  obtain ⟨aa, eaa⟩ : ∃ aa, fr + 1 + xa = aa := ⟨_, rfl⟩
  have ha1 : fr < aa := by omega
  have ha2 : aa < te := by omega
  replace hw4 : IntKind.i64.wrap (fr + 1 + xa) = aa := by rw [hw4]; exact eaa
  clear exa eaa

  obtain ⟨S, eS⟩ : ∃ S, mkT b nm fr te = S := ⟨_, rfl⟩
  obtain ⟨C, T⟩ := S
  have eS6 := Lib.hid eS
  clear eS
  obtain ⟨S, eS⟩ : ∃ S, mkT b nm fr aa = S := ⟨_, rfl⟩
  obtain ⟨D, U⟩ := S
  have eS7 := Lib.hid eS
  clear eS
  obtain ⟨S, eS⟩ : ∃ S, mkT b nm aa te = S := ⟨_, rfl⟩
  obtain ⟨E, V⟩ := S
  have eS8 := Lib.hid eS
  clear eS
  have hj := join_law (b := b) (nm := nm) hst.out.1 hst.out.2 ha1 ha2
  rw [eS6.out, eS7.out, eS8.out] at hj
  simp only [metC_chg] at hj
  have HJ := Lib.hid hj
  have hTl : T.chs.length ≤ 1000 := by have := (mkT_small b nm fr te).2.2.1; rwa [eS6.out] at this
  have hUl : U.chs.length ≤ 1000 := by have := (mkT_small b nm fr aa).2.2.1; rwa [eS7.out] at this
  have hVl : V.chs.length ≤ 1000 := by have := (mkT_small b nm aa te).2.2.1; rwa [eS8.out] at this
  clear hj
  go_upto_region 6 with fail
  go_quiet (first | (go_at_call 13; exact Calls.quiet_of_same ((HRE.out _).mono fun _ _ h => ⟨h.1, h.2.symm⟩)))
  clear hx1 hx2 hw1 hw2 hw3
  obtain ⟨W5, e5⟩ : ∃ W5, W3.drewN nq = W5 := ⟨_, rfl⟩
  have hbq : Below W3.heap.size W3 W5 := by rw [← e5]; exact below_drewN' (Below.refl _ _) nq
  rw [e5]
  have HA5 := Lib.hid (HA3.out.trans (hbq.mono HA3.out.size))
  have HB5 := Lib.hid (HB3.out.trans (hbq.mono HB3.out.size))
  have HS5 := Lib.hid hbq
  clear e5 hbq g0 g1 g2 s0 s1
  obtain ⟨g0, g1, g2⟩ := HBX.out.cells HA5.out
  obtain ⟨s0, s1⟩ := HSX.out W5 HB5.out
  have HC6 := Lib.hid (HMK.out W5 fr te HA5.out (by omega) (by omega) (by omega) (by omega))
  rw [eS6.out] at HC6
  go_wp2_with fail
  refine HC6.out.mono ?_
  rintro e v6 ⟨q6, d6, q'6, d'6, rfl, htb, hb⟩
  simp only at htb ⊢
  obtain ⟨W6, e6⟩ : ∃ W6, v6.alloc (.cells #[.slice q6 T.types.length d6, .int .i64 0, .slice q'6 T.chs.length d'6] 52) = W6 := ⟨_, rfl⟩
  have hbx := TBz.box htb e6
  have hb2 : Below v6.heap.size v6 W6 := by rw [← e6]; exact alBelow _ _
  have hb3 : Below W5.heap.size W5 W6 := hb.trans (hb2.mono hb.size)
  have HA6 := Lib.hid (HA5.out.trans (hb3.mono HA5.out.size))
  have HB6 := Lib.hid (HB5.out.trans (hb3.mono HB5.out.size))
  have HS6 := Lib.hid hb3
  obtain ⟨tb6, etb6⟩ : ∃ tb6, v6.heap.size = tb6 := ⟨_, rfl⟩
  have HE6 := Lib.hid e6
  have HTE6 := Lib.hid etb6
  rw [etb6] at hbx
  have HT6 := Lib.hid hbx
  have hz6 := hbx.lt
  obtain ⟨a6, b6, f6⟩ := hbx.cells
  clear hb hb2 hb3 htb hbx HC6 e6 etb6 g0 g1 g2 s0 s1 
  obtain ⟨g0, g1, g2⟩ := HBX.out.cells HA6.out
  obtain ⟨s0, s1⟩ := HSX.out W6 HB6.out
  go_upto_region 8 with fail
  rw [HE6.out, HTE6.out]
  have HC7 := Lib.hid (HMK.out W6 fr aa HA6.out (by omega) (by omega) (by omega) (by omega))
  rw [eS7.out] at HC7
  go_wp2_with fail
  refine HC7.out.mono ?_
  rintro e v7 ⟨q7, d7, q'7, d'7, rfl, htb, hb⟩
  simp only at htb ⊢
  obtain ⟨W7, e7⟩ : ∃ W7, v7.alloc (.cells #[.slice q7 U.types.length d7, .int .i64 0, .slice q'7 U.chs.length d'7] 52) = W7 := ⟨_, rfl⟩
  have hbx := TBz.box htb e7
  have hb2 : Below v7.heap.size v7 W7 := by rw [← e7]; exact alBelow _ _
  have hb3 : Below W6.heap.size W6 W7 := hb.trans (hb2.mono hb.size)
  have HA7 := Lib.hid (HA6.out.trans (hb3.mono HA6.out.size))
  have HB7 := Lib.hid (HB6.out.trans (hb3.mono HB6.out.size))
  have HS7 := Lib.hid hb3
  obtain ⟨tb7, etb7⟩ : ∃ tb7, v7.heap.size = tb7 := ⟨_, rfl⟩
  have HE7 := Lib.hid e7
  have HTE7 := Lib.hid etb7
  rw [etb7] at hbx
  have HT7 := Lib.hid hbx
  have hz7 := hbx.lt
  obtain ⟨a7, b7, f7⟩ := hbx.cells
  clear hb hb2 hb3 htb hbx HC7 e7 etb7 g0 g1 g2 s0 s1 
  obtain ⟨g0, g1, g2⟩ := HBX.out.cells HA7.out
  obtain ⟨s0, s1⟩ := HSX.out W7 HB7.out
  go_upto_region 9 with fail
  rw [HE7.out, HTE7.out]
  have HT6 := Lib.hid (HT6.out.below HS7.out)
  have hz6 := HT6.out.lt
  clear a6 b6 f6
  obtain ⟨a6, b6, f6⟩ := HT6.out.cells
  have HC8 := Lib.hid (HMK.out W7 aa te HA7.out (by omega) (by omega) (by omega) (by omega))
  rw [eS8.out] at HC8
  go_wp2_with fail
  refine HC8.out.mono ?_
  rintro e v8 ⟨q8, d8, q'8, d'8, rfl, htb, hb⟩
  simp only at htb ⊢
  obtain ⟨W8, e8⟩ : ∃ W8, v8.alloc (.cells #[.slice q8 V.types.length d8, .int .i64 0, .slice q'8 V.chs.length d'8] 52) = W8 := ⟨_, rfl⟩
  have hbx := TBz.box htb e8
  have hb2 : Below v8.heap.size v8 W8 := by rw [← e8]; exact alBelow _ _
  have hb3 : Below W7.heap.size W7 W8 := hb.trans (hb2.mono hb.size)
  have HA8 := Lib.hid (HA7.out.trans (hb3.mono HA7.out.size))
  have HB8 := Lib.hid (HB7.out.trans (hb3.mono HB7.out.size))
  have HS8 := Lib.hid hb3
  obtain ⟨tb8, etb8⟩ : ∃ tb8, v8.heap.size = tb8 := ⟨_, rfl⟩
  have HE8 := Lib.hid e8
  have HTE8 := Lib.hid etb8
  rw [etb8] at hbx
  have HT8 := Lib.hid hbx
  have hz8 := hbx.lt
  obtain ⟨a8, b8, f8⟩ := hbx.cells
  clear hb hb2 hb3 htb hbx HC8 e8 etb8 g0 g1 g2 s0 s1 
  obtain ⟨g0, g1, g2⟩ := HBX.out.cells HA8.out
  obtain ⟨s0, s1⟩ := HSX.out W8 HB8.out
  go_upto_region 10 with fail
  rw [HE8.out, HTE8.out]
  have HT6 := Lib.hid (HT6.out.below HS8.out)
  have hz6 := HT6.out.lt
  clear a6 b6 f6
  obtain ⟨a6, b6, f6⟩ := HT6.out.cells
  have HT7 := Lib.hid (HT7.out.below HS8.out)
  have hz7 := HT7.out.lt
  clear a7 b7 f7
  obtain ⟨a7, b7, f7⟩ := HT7.out.cells
  by_cases h0 : C = 0 ∧ D = 0 ∧ E = 0
  case neg =>
    have hj := HJ.out
    rw [if_neg h0] at hj
    clear HJ
    rcases hj with ⟨rfl, rfl⟩ | rfl
    · have hC : C ≠ 0 := fun e => h0 ⟨e, e, e⟩
      have hz : (C == 0) = false := by simpa using hC
      have hzn : (C != 0) = true := by simpa using hC
      have hcc : (C == C) = true := by simp
      clear h0 hC
      go_wp2_with fail
      go_ret
      exact ⟨rfl, HFIN.out _ HA8.out⟩
    · clear h0
      cases hd : ((2 : Int) == D) <;> cases he : (D == E)
      all_goals
        go_wp2_with fail
        go_ret
        exact ⟨rfl, HFIN.out _ HA8.out⟩
  obtain ⟨rfl, rfl, rfl⟩ := h0
  have hj := HJ.out
  rw [if_pos ⟨rfl, rfl, rfl⟩] at hj
  have HJ2 := Lib.hid hj
  clear hj HJ
  go_wp2_with fail
  go_loopw [18, 96] (fun v18 i wr => ∃ k : Nat, k ≤ T.chs.length ∧ i = .int .i64 k ∧ v18 = .int .i64 (metC aa (T.chs.take k)) ∧ Hid (Below W8.heap.size W8 wr)) (fun _ i _ => T.chs.length - (intOf i).toNat)
  case atStart => exact ⟨0, Nat.zero_le _, rfl, rfl, Lib.hid (Below.refl _ _)⟩
  case round =>
    obtain ⟨k, hk, rfl, rfl, HBR⟩ := hrel
    have hzr := HBR.out.size
    have HAr := Lib.hid (HA8.out.trans (HBR.out.mono HA8.out.size))
    have HBr := Lib.hid (HB8.out.trans (HBR.out.mono HB8.out.size))
    by_cases hkl : k < T.chs.length
    ·
      have HTL := HT6.out.below HBR.out
      have hck := List.getElem_mem hkl
      have hsn := metC_snoc aa (T.chs.take k) T.chs[k]
      rw [← take_succC _ _ hkl] at hsn
      obtain ⟨bb, o, rfl, hbb, x0, x1⟩ := HTL.chs k hkl
      obtain ⟨q, eq⟩ : ∃ q, T.chs[k] = q := ⟨_, rfl⟩
      rw [eq] at x0 x1 hsn
      obtain ⟨ct, ckk⟩ := q
      simp only at x0 x1 hsn
      obtain ⟨W8, e8⟩ : ∃ W8, wr.alloc (.cells #[.int .i64 ct, .int .i64 ckk] 56) = W8 := ⟨_, rfl⟩
      have hx8 : W8.heap[wr.heap.size]? = some (.cells #[.int .i64 ct, .int .i64 ckk] 56 (0, 0)) := by rw [← e8]; exact heap_alloc_new wr _
      have hb8 : Below wr.heap.size wr W8 := by rw [← e8]; exact alBelow _ _
      have hz8 : wr.heap.size < W8.heap.size := by rw [← e8]; simp
      have HR8 := Lib.hid (HBR.out.trans (hb8.mono hzr))
      have HB8 := Lib.hid (HBr.out.trans (hb8.mono HBr.out.size))
      obtain ⟨s0, s1⟩ := HSX.out W8 HB8.out
      obtain ⟨lb, elb⟩ : ∃ lb, wr.heap.size = lb := ⟨_, rfl⟩
      have HE8 := Lib.hid e8
      have HLB := Lib.hid elb
      have hrl := hzr
      rw [elb] at hx8 hz8 hrl
      have y0 : W8.cell? ⟨lb, 0, none⟩ = some (.int .i64 ct) := (cell_of_row W8 _ 0 _ _ _ hx8).trans rfl
      clear hx8 hb8 e8 elb eq hck
      have HSN := Lib.hid hsn
      clear hsn HTL
      go_upto_region 16 with fail
      rw [HE8.out, HLB.out]
      by_cases hca : ct = aa
      · have hcb : (ct == aa) = true := by simpa using hca
        go_wp2_with fail
        go_roundw
        case rel => exact ⟨k + 1, by omega, by go_num, by have := HSN.out; rw [if_pos hca] at this; rw [this], HR8⟩
        case measure => simp [intOf]; omega
      · have hcb : (ct == aa) = false := by simpa using hca
        go_wp2_with fail
        go_roundw
        case rel => exact ⟨k + 1, by omega, by go_num, by have := HSN.out; rw [if_neg hca] at this; rw [this], HR8⟩
        case measure => simp [intOf]; omega
    · obtain rfl : k = T.chs.length := by omega
      rw [List.take_length]
      obtain ⟨mb1, mb2⟩ := metC_bd aa T.chs
      obtain ⟨m, em⟩ : ∃ m, metC aa T.chs = m := ⟨_, rfl⟩
      have hj := HJ2.out
      rw [em] at hj mb1 mb2 ⊢
      have h6 := HT6.out.below HBR.out
      have h7 := HT7.out.below HBR.out
      have h8 := HT8.out.below HBR.out
      obtain ⟨a6, b6, f6⟩ := h6.cells
      obtain ⟨a7, b7, f7⟩ := h7.cells
      obtain ⟨a8, b8, f8⟩ := h8.cells
      have hw8 : IntKind.i64.wrap ((U.chs.length : Int) + m) = (U.chs.length : Int) + m := IntWalk.i64_in _ (by omega)
      have hw9 : IntKind.i64.wrap ((U.chs.length : Int) + m + (V.chs.length : Int)) = (T.chs.length : Int) := by rw [IntWalk.i64_in _ (by omega)]; omega
      clear h6 h7 h8 em hj HJ2
      go_wp2_with fail
      go_ret
      exact ⟨ret_bool' (by simp), HFIN.out _ HAr.out⟩
end Go.Proofs.YthggojpdcgcmaaaGreatDoor
