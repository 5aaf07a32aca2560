/- TableParts: the walk. -/
import Derived.Test.YthggojpdcgcmaaaGreatDoorQ14
import Derived.Test.YthggojpdcgcmaaaGreatDoorQ13
import Derived.Test.YthggojpdcgcmaaaGreatDoorQ15
import Derived.Test.YthggojpdcgcmaaaGreatDoorQ17
namespace Go.Proofs.YthggojpdcgcmaaaGreatDoor
open Go.RowKit Go.Joins Go.Maps
open Classical
set_option linter.unusedVariables false
set_option linter.unusedSimpArgs false
theorem infoIntP : (Tryz.prog.info? 3).map (fun i => (i.zero, i.size, i.bytes)) = some (some (.int .i64 0), 1, 8) := by kernel_rfl
theorem undIntsP : Tryz.prog.underlying 62 = some (.slice 3) := by kernel_rfl
/-- the changes up to the k-th that lie in the part -/
def inP (T : Tab) (p q : Int) (k : Nat) : List Int := ((T.chs.take k).map (·.t)).filter fun z => decide (p < z ∧ z < q)
theorem inP_len (T : Tab) (p q : Int) (k : Nat) : (inP T p q k).length ≤ k := by
  unfold inP
  have h1 := List.length_filter_le (fun z => decide (p < z ∧ z < q)) ((T.chs.take k).map (·.t))
  rw [List.length_map, List.length_take] at h1
  omega
theorem inP_step (T : Tab) (p q : Int) (k : Nat) (h : k < T.chs.length) : inP T p q (k + 1) = if p < T.chs[k].t ∧ T.chs[k].t < q then inP T p q k ++ [T.chs[k].t] else inP T p q k := by
  unfold inP
  rw [List.take_succ_eq_append_getElem h, List.map_append, List.filter_append]
  by_cases g : p < T.chs[k].t ∧ T.chs[k].t < q
  · rw [if_pos g]; simp [g]
  · rw [if_neg g]; simp [g]
theorem inP_all (T : Tab) (p q : Int) : inP T p q T.chs.length = (chgT T).filter fun z => decide (p < z ∧ z < q) := by unfold inP chgT; rw [List.take_length]

set_option maxRecDepth 100000 in
set_option maxHeartbeats 40000000 in
theorem TableParts_walk (MK : MakeSays) (b : Bk) (rv zv lv : Value) (nm : ByteArray) (f0 l0 x0 y0 : Int) (w : World) (hB : BookAt w.heap.size w rv zv lv b) (hn : nm.size ≤ 140737488351232) (hm : MaxLen w) (ht : Tab10 w) :
    Calls Tryz.prog 10 #[.agg #[rv, zv, lv], .string nm, .int .i64 f0, .int .i64 l0, .int .i64 x0, .int .i64 y0] w fun e w' => e = .returned (.bool true) ∧ Below w.heap.size w w' := by
  obtain ⟨p1, c1, p2, c2, p3, c3, W0, rfl, rfl, rfl, eW, hBX⟩ := bk_box hB hm ht
  have HEW := Lib.hid eW
  have HBX := Lib.hid hBX
  have HTD := Lib.hid (tabled_any MK W0 (hm.below hBX.hb) (ht.below hBX.hb))
  have hs1 := tD_bd2 f0
  have hs2 := spTo_bd f0 l0
  have hst := Lib.hid (sp_stamp f0 l0)
  obtain ⟨fr, efr⟩ : ∃ fr, tD f0 = fr := ⟨_, rfl⟩
  obtain ⟨te, ete⟩ : ∃ te, spTo f0 l0 = te := ⟨_, rfl⟩
  have HSP : Hid (∀ W : World, Calls Tryz.prog 18 #[.int .i64 f0, .int .i64 l0] W fun e w' => e = .returned (.agg #[.int .i64 fr, .int .i64 te]) ∧ Below W.heap.size W w') := by
    show ∀ W, _
    intro W; rw [← efr, ← ete]; exact span_any f0 l0 W
  rw [efr] at hs1 hs2 hst
  rw [ete] at hs2 hst
  have HMK : Hid (∀ (W : World) (x y : Int), Below W0.heap.size W0 W → -4611686018427387904 ≤ x → x ≤ 4611686018427387904 → -4611686018427387904 ≤ y → y ≤ 4611686018427387904 → Calls Tryz.prog 19 #[.agg #[.slice p1 b.rules.length c1, .slice p2 b.zones.length c2, .slice p3 b.links.length c3], .string nm, .agg #[.int .i64 x, .int .i64 y]] W (TbV (mkT b nm x y) W)) := by
    show ∀ W x y, _
    intro W x y hb h1 h2 h3 h4
    exact HBX.out.make MK nm hn x y hb h1 h2 h3 h4
  have HSA : Hid (∀ (W : World) (t : Int), Below W0.heap.size W0 W → -4611686018427387904 ≤ t → t ≤ 4611686018427387904 → Calls Tryz.prog 16 #[.agg #[.slice p1 b.rules.length c1, .slice p2 b.zones.length c2, .slice p3 b.links.length c3], .string nm, .int .i64 t] W (StPost (stR b nm t) W)) := by
    show ∀ W t, _
    intro W t hb h1 h2
    exact HBX.out.at MK nm hn t hb h1 h2
  have HFIN : Hid (∀ W, Below W0.heap.size W0 W → Below w.heap.size w W) := by
    show ∀ W, _
    intro W hb
    exact HBX.out.hb.trans (hb.mono HBX.out.hb.size)
  have hl0 := hBX.lt
  clear eW hB hm ht efr ete hBX
  obtain ⟨S, eS⟩ : ∃ S, mkT b nm fr te = S := ⟨_, rfl⟩
  obtain ⟨C, T⟩ := S
  have eS4 := Lib.hid eS
  clear eS
  have HLAW := Lib.hid (fun h => mk_chg (b := b) (nm := nm) (fr := fr) (te := te) (T := T) h)
  have hTl : T.chs.length ≤ 1000 := by have := (mkT_small b nm fr te).2.2.1; rwa [eS4.out] at this
  go_enter Tryz.func10, Tryz.ntmps10
  go_upto_region 1 with fail
  rw [HEW.out]
  go_wp2_with fail
  refine HTD.out.mono ?_
  rintro e w1 ⟨rfl, hb1⟩
  have HB1 := Lib.hid hb1
  have HS1 := Lib.hid (HSP.out w1)
  clear hb1 HTD HSP
  go_wp2_with fail
  refine HS1.out.mono ?_
  rintro e w2 ⟨rfl, hb2⟩
  obtain ⟨W3, e3⟩ : ∃ W3, w2.alloc (.cells #[.int .i64 fr, .int .i64 te] 47) = W3 := ⟨_, rfl⟩
  obtain ⟨hb3, hz3, hsx⟩ := sp_box e3
  obtain ⟨sb, esb⟩ : ∃ sb, w2.heap.size = sb := ⟨_, rfl⟩
  have HA3 := Lib.hid (HB1.out.trans ((hb2.trans (hb3.mono hb2.size)).mono HB1.out.size))
  have HSB := Lib.hid esb
  have HE3 := Lib.hid e3
  rw [esb] at hz3 hsx
  have HSX := Lib.hid hsx
  have HB3 := Lib.hid (Below.refl W3.heap.size W3)
  obtain ⟨g0, g1, g2⟩ := HBX.out.cells HA3.out
  obtain ⟨s0, s1⟩ := HSX.out W3 HB3.out
  have hl3 : w.heap.size < W3.heap.size := by have := HA3.out.size; omega
  clear hb2 hb3 hsx esb e3 HS1
  go_upto_region 4 with fail
  rw [HE3.out, HSB.out]
  have HC4 := Lib.hid (HMK.out W3 fr te HA3.out (by omega) (by omega) (by omega) (by omega))
  rw [eS4.out] at HC4
  go_wp2_with fail
  refine HC4.out.mono ?_
  rintro e v4 ⟨q4, d4, q'4, d'4, rfl, htb, hb⟩
  simp only at htb ⊢
  obtain ⟨W4, e4⟩ : ∃ W4, v4.alloc (.cells #[.slice q4 T.types.length d4, .int .i64 0, .slice q'4 T.chs.length d'4] 52) = W4 := ⟨_, rfl⟩
  have hbx := TBz.box htb e4
  have hb2 : Below v4.heap.size v4 W4 := by rw [← e4]; exact alBelow _ _
  have hb3 : Below W3.heap.size W3 W4 := hb.trans (hb2.mono hb.size)
  have HA4 := Lib.hid (HA3.out.trans (hb3.mono HA3.out.size))
  have HB4 := Lib.hid (HB3.out.trans (hb3.mono HB3.out.size))
  have HS4 := Lib.hid hb3
  obtain ⟨tb4, etb4⟩ : ∃ tb4, v4.heap.size = tb4 := ⟨_, rfl⟩
  have HE4 := Lib.hid e4
  have HTE4 := Lib.hid etb4
  rw [etb4] at hbx
  have HT4 := Lib.hid hbx
  have hz4 := hbx.lt
  obtain ⟨a4, b4, f4⟩ := hbx.cells
  clear hb hb2 hb3 htb hbx HC4 e4 etb4 g0 g1 g2 s0 s1 
  obtain ⟨g0, g1, g2⟩ := HBX.out.cells HA4.out
  obtain ⟨s0, s1⟩ := HSX.out W4 HB4.out
  go_upto_region 5 with fail
  rw [HE4.out, HTE4.out]
  by_cases hC : C = 0
  case neg =>
    have hz : (C == 0) = false := by simpa using hC
    have hzn : (C != 0) = true := by simpa using hC
    go_wp2_with fail
    go_ret
    exact ⟨rfl, HFIN.out _ HA4.out⟩
  have HC0 := Lib.hid hC
  subst hC
  obtain ⟨l1, l2, l3, l4⟩ := HLAW.out eS4.out
  have HIN := Lib.hid l3
  have HCK := Lib.hid l2
  have hw1 : IntKind.i64.wrap (te - fr) = te - fr := IntWalk.i64_in _ (by omega)
  have hx1 := Int.emod_nonneg x0 (show te - fr ≠ 0 by omega)
  have hx2 := Int.emod_lt_of_pos x0 (show 0 < te - fr by omega)
  have HRX := Lib.hid (fun W => Rest0_any x0 (te - fr) W (by omega) (by omega))
  obtain ⟨xa, exa⟩ : ∃ xa, x0 % (te - fr) = xa := ⟨_, rfl⟩
  rw [exa] at HRX hx1 hx2
  obtain ⟨p, ep⟩ : ∃ p, fr + xa = p := ⟨_, rfl⟩
  have hp1 : fr ≤ p ∧ p < te := by omega
  have hw4 : IntKind.i64.wrap (fr + xa) = p := by rw [IntWalk.i64_in _ (by omega)]; exact ep
  have hw5 : IntKind.i64.wrap (te - p) = te - p := IntWalk.i64_in _ (by omega)
  have hw6 : IntKind.i64.wrap (p + 1) = p + 1 := IntWalk.i64_in _ (by omega)
  have hy1 := Int.emod_nonneg y0 (show te - p ≠ 0 by omega)
  have hy2 := Int.emod_lt_of_pos y0 (show 0 < te - p by omega)
  have HRY := Lib.hid (fun W => Rest0_any y0 (te - p) W (by omega) (by omega))
  obtain ⟨ya, eya⟩ : ∃ ya, y0 % (te - p) = ya := ⟨_, rfl⟩
  rw [eya] at HRY hy1 hy2
  obtain ⟨qe, eq⟩ : ∃ qe, p + 1 + ya = qe := ⟨_, rfl⟩
  have hq1 : p < qe ∧ qe ≤ te := by omega
  have hw7 : IntKind.i64.wrap (p + 1 + ya) = qe := by rw [IntWalk.i64_in _ (by omega)]; exact eq
  obtain ⟨U, eU, hO, hcT, hcU, hF⟩ := mk_parts eS4.out hp1.1 hq1.1 hq1.2
  have hUl : U.chs.length ≤ 1000 := by have := (mkT_small b nm p qe).2.2.1; rwa [eU] at this
  have EU := Lib.hid eU
  have HO := Lib.hid hO
  have HCT := Lib.hid (And.intro hcT hcU)
  have HF := Lib.hid hF
  clear exa ep eya eq hx1 hx2 hy1 hy2 eU hO hcT hcU hF l1 l2 l3 l4 HLAW
  have KS : Hid (∀ wx, Below W4.heap.size W4 wx → Below W4.heap.size W4 wx ∧ wx.cell? ⟨sb, 0, none⟩ = some (.int .i64 fr) ∧ wx.cell? ⟨sb, 1, none⟩ = some (.int .i64 te)) := by
    show ∀ wx, _
    exact fun wx hb => ⟨hb, HSX.out wx (HB4.out.trans (hb.mono HB4.out.size))⟩
  have KAL : Hid (∀ wx ob, Below W4.heap.size W4 wx → Below W4.heap.size W4 (wx.alloc ob)) := by
    show ∀ wx ob, _
    exact fun wx ob h => h.alloc h.size ob
  go_upto_region 7 with fail
  go_cut [16] from 40 to 50 (fun s16 wx => s16 = .pointer (some ⟨W4.heap.size, 0, none⟩) ∧ wx = (W4.alloc (.cells #[.int .i64 p, .int .i64 0] 47)).drew)
  case first =>
    clear g0 g1 g2 a4 b4 f4 s0 s1
    go_region_held3 (fun wx => Below W4.heap.size W4 wx ∧ wx.cell? ⟨sb, 0, none⟩ = some (.int .i64 fr) ∧ wx.cell? ⟨sb, 1, none⟩ = some (.int .i64 te)) ((refine KS.out _ ?_; repeat (first | (with_reducible assumption) | (with_reducible exact Below.refl _ _) | (with_reducible refine Below.drew ?_) | (with_reducible refine KAL.out _ _ ?_)))) (first | (go_at_call 13; refine (HRX.out _).mono ?_; rintro e w' ⟨rfl, rfl⟩))
    all_goals go_wp2_with fail
    all_goals go_meet
    all_goals exact ⟨rfl, rfl⟩
  case rest =>
  obtain ⟨rfl, rfl⟩ := hcut
  obtain ⟨W5, e5⟩ : ∃ W5, (W4.alloc (.cells #[.int .i64 p, .int .i64 0] 47)).drew = W5 := ⟨_, rfl⟩
  rw [e5]
  obtain ⟨pb, epb⟩ : ∃ pb, W4.heap.size = pb := ⟨_, rfl⟩
  have hx5 : W5.heap[pb]? = some (.cells #[.int .i64 p, .int .i64 0] 47 (0, 0)) := by rw [← e5]; exact alloc_at _ _ _ epb.symm
  have hb5 : Below W4.heap.size W4 W5 := by rw [← e5]; exact (alBelow _ _).drew
  have hz5 : pb < W5.heap.size := (Array.getElem?_eq_some_iff.mp hx5).1
  have HB45 := Lib.hid hb5
  have HX5 := Lib.hid hx5
  have HPB := Lib.hid epb
  have k1 : W5.cell? ⟨sb, 1, none⟩ = some (.int .i64 te) := (HSX.out W5 (HB4.out.trans (hb5.mono HB4.out.size))).2
  have k2 : W5.cell? ⟨pb, 0, none⟩ = some (.int .i64 p) := (cell_of_row W5 _ 0 _ _ _ hx5).trans rfl
  have k3 : W5.cell? ⟨pb, 1, none⟩ = some (.int .i64 0) := (cell_of_row W5 _ 1 _ _ _ hx5).trans rfl
  have k4 : W5.frozen? ⟨pb, 1, none⟩ = false := by simp [World.frozen?, hx5]
  obtain ⟨W6, e6, hx6, hb6⟩ := set_oneS hx5 (.int .i64 qe)
  have hb46 : Below W4.heap.size W4 W6 := hb5.trans (hb6 _ (by omega))
  rw [epb]
  have KT : Hid (∀ wx, wx = W5 ∨ wx = W5.drew ∨ wx = W5.setCell ⟨pb, 1, none⟩ (.int .i64 qe) ∨ wx = (W5.setCell ⟨pb, 1, none⟩ (.int .i64 qe)).drew → wx.cell? ⟨sb, 1, none⟩ = some (.int .i64 te) ∧ wx.cell? ⟨pb, 0, none⟩ = some (.int .i64 p)) := by
    show ∀ wx, _
    have k5 : W6.cell? ⟨sb, 1, none⟩ = some (.int .i64 te) := (HSX.out W6 (HB4.out.trans (hb46.mono HB4.out.size))).2
    have k6 : W6.cell? ⟨pb, 0, none⟩ = some (.int .i64 p) := (cell_of_row W6 _ 0 _ _ _ hx6).trans rfl
    rintro wx (rfl | rfl | rfl | rfl)
    · exact ⟨k1, k2⟩
    · exact ⟨k1, k2⟩
    · rw [e6]; exact ⟨k5, k6⟩
    · rw [e6]; exact ⟨k5, k6⟩
  have HX6 := Lib.hid hx6
  have HE6 := Lib.hid e6
  have HS6 := Lib.hid hb46
  clear e5 e6 hx5 hx6 hb5 hb6 hb46 epb KS KAL k1 k2 g0 g1 g2 a4 b4 f4 s0 s1
  go_upto_region 8 with fail
  go_cut [] from 51 to 62 (fun wx => wx = W6.drew)
  case first =>
    go_region_held3 (fun wx => wx.cell? ⟨sb, 1, none⟩ = some (.int .i64 te) ∧ wx.cell? ⟨pb, 0, none⟩ = some (.int .i64 p)) ((refine KT.out _ ?_; first | (with_reducible exact Or.inl rfl) | (with_reducible exact Or.inr (Or.inl rfl)) | (with_reducible exact Or.inr (Or.inr (Or.inl rfl))) | (with_reducible exact Or.inr (Or.inr (Or.inr rfl))))) (first | (go_at_call 13; refine (HRY.out _).mono ?_; rintro e w' ⟨rfl, rfl⟩))
    all_goals rw [HE6.out]
    all_goals go_wp2_with fail
    all_goals go_meet
    all_goals exact rfl
  case rest =>
  obtain rfl := hcut
  clear k3 k4 KT HE6
  obtain ⟨W7, e7⟩ : ∃ W7, W6.drew = W7 := ⟨_, rfl⟩
  have hb7 : Below W4.heap.size W4 W7 := by rw [← e7]; exact HS6.out.drew
  have hx7 : W7.heap[pb]? = some (.cells #[.int .i64 p, .int .i64 qe] 47 (0, 0)) := by rw [← e7]; exact HX6.out
  rw [e7]
  clear e7
  have hz7 : pb < W7.heap.size := (Array.getElem?_eq_some_iff.mp hx7).1
  have HA7 := Lib.hid (HA4.out.trans (hb7.mono HA4.out.size))
  have HB7 := Lib.hid (HB4.out.trans (hb7.mono HB4.out.size))
  have HT7 := Lib.hid (HT4.out.below hb7)
  have HPX : Hid (∀ W, Below W7.heap.size W7 W → W.cell? ⟨pb, 0, none⟩ = some (.int .i64 p) ∧ W.cell? ⟨pb, 1, none⟩ = some (.int .i64 qe)) := by
    show ∀ W, _
    intro W hb
    have hx := (hb.block pb hz7).trans hx7
    exact ⟨(cell_of_row W _ 0 _ _ _ hx).trans rfl, (cell_of_row W _ 1 _ _ _ hx).trans rfl⟩
  have hst7 : HSX.out W7 HB7.out = HSX.out W7 HB7.out := rfl
  obtain ⟨g0, g1, g2⟩ := HBX.out.cells HA7.out
  obtain ⟨s0, s1⟩ := HPX.out W7 (Below.refl _ _)
  clear hb7 hx7 hst7
  have HC := Lib.hid (HMK.out W7 p qe HA7.out (by omega) (by omega) (by omega) (by omega))
  rw [EU.out] at HC
  clear HMK HSA
  go_wp2_with fail
  refine HC.out.mono ?_
  rintro e v8 ⟨q8, d8, q8', d8', rfl, htb, hb⟩
  simp only at htb ⊢
  obtain ⟨W8, e8⟩ : ∃ W8, v8.alloc (.cells #[.slice q8 U.types.length d8, .int .i64 0, .slice q8' U.chs.length d8'] 52) = W8 := ⟨_, rfl⟩
  have hbx := TBz.box htb e8
  have hb2 : Below v8.heap.size v8 W8 := by rw [← e8]; exact alBelow _ _
  have hb3 : Below W7.heap.size W7 W8 := hb.trans (hb2.mono hb.size)
  have HA8 := Lib.hid (HA7.out.trans (hb3.mono HA7.out.size))
  obtain ⟨ub, eub⟩ : ∃ ub, v8.heap.size = ub := ⟨_, rfl⟩
  have HE8 := Lib.hid e8
  have HUB := Lib.hid eub
  rw [eub] at hbx
  have HU8 := Lib.hid hbx
  have HT8 := Lib.hid (HT7.out.below hb3)
  have HS8 := Lib.hid hb3
  have hzu8 := hbx.lt
  have hzt8 := HT8.out.lt
  have hzp8 : pb < W8.heap.size := by have := hb3.size; omega
  obtain ⟨a8, b8, f8⟩ := hbx.cells
  obtain ⟨a4, b4, f4⟩ := HT8.out.cells
  have HBT := Lib.hid (Between_ok T U _ _ p qe W8 HT8.out.2 hbx.2 HCT.out.1 HCT.out.2 (by unfold okSpan okTime; simp; omega))
  rw [HO.out] at HBT
  clear hb hb2 hb3 htb hbx HC e8 eub g0 g1 g2 s0 s1
  obtain ⟨s0, s1⟩ := HPX.out W8 HS8.out
  go_upto_region 10 with fail
  rw [HE8.out, HUB.out]
  go_wp2_with fail
  refine HBT.out.mono ?_
  rintro e w9 ⟨vo, rfl, hvo, hb9⟩
  obtain ⟨A9, c9, rfl⟩ := own_sliceN hvo
  simp only [List.length_nil] at hvo ⊢
  have HA9 := Lib.hid (HA8.out.trans (hb9.mono HA8.out.size))
  have HT9 := Lib.hid (HT8.out.below hb9)
  have HU9 := Lib.hid (HU8.out.below hb9)
  have HS9 := Lib.hid (HS8.out.trans (hb9.mono HS8.out.size))
  have hzu9 := HU9.out.lt
  have hzt9 := HT9.out.lt
  obtain ⟨W9, e9⟩ : ∃ W9, w9 = W9 := ⟨_, rfl⟩
  rw [e9] at HA9 HT9 HU9 HS9 hzu9 hzt9 ⊢
  clear e9 hvo hb9 HBT a4 b4 f4 a8 b8 f8 s0 s1
  obtain ⟨a4, b4, f4⟩ := HT9.out.cells
  obtain ⟨i0, hi, hzz0, hzz1, hzz2⟩ := info_parts infoIntP
  go_wp2_with fail
  go_loopw [21, 80] (fun v21 i wr => ∃ k : Nat, k ≤ T.chs.length ∧ i = .int .i64 k ∧ Hid (wr.ownsRow W9.heap.size 3 1 v21 (inP T p qe k).length ((inP T p qe k).map (Value.int .i64))) ∧ Hid (Below W9.heap.size W9 wr)) (fun _ i _ => T.chs.length - (intOf i).toNat)
  case atStart => exact ⟨0, Nat.zero_le _, rfl, Lib.hid (World.ownsRow_nil _ _ _ _), Lib.hid (Below.refl _ _)⟩
  case round =>
    obtain ⟨k, hk, rfl, HOW, HBR⟩ := hrel
    have hzr := HBR.out.size
    have HAr := Lib.hid (HA9.out.trans (HBR.out.mono HA9.out.size))
    have hpl := inP_len T p qe k
    obtain ⟨A21, c21, rfl⟩ := own_sliceN HOW.out
    by_cases hkl : k < T.chs.length
    · have HTL := HT9.out.below HBR.out
      have hst := inP_step T p qe k hkl
      obtain ⟨bb, o, rfl, hbb, x0, x1⟩ := HTL.chs k hkl
      obtain ⟨q, eq⟩ : ∃ q, T.chs[k] = q := ⟨_, rfl⟩
      rw [eq] at x0 x1 hst
      obtain ⟨ct, ckk⟩ := q
      simp only at x0 x1 hst
      obtain ⟨W8, e8⟩ : ∃ W8, wr.alloc (.cells #[.int .i64 ct, .int .i64 ckk] 56) = W8 := ⟨_, rfl⟩
      have hx8 : W8.heap[wr.heap.size]? = some (.cells #[.int .i64 ct, .int .i64 ckk] 56 (0, 0)) := by rw [← e8]; exact heap_alloc_new wr _
      have hb8 : Below wr.heap.size wr W8 := by rw [← e8]; exact alBelow _ _
      have hz8 : wr.heap.size < W8.heap.size := by rw [← e8]; simp
      have HR8 := Lib.hid (HBR.out.trans (hb8.mono hzr))
      obtain ⟨s0, s1⟩ := HPX.out W8 (HS9.out.trans (HR8.out.mono HS9.out.size))
      have HST := Lib.hid hst
      obtain ⟨lb, elb⟩ : ∃ lb, wr.heap.size = lb := ⟨_, rfl⟩
      have HE8 := Lib.hid e8
      have HLB := Lib.hid elb
      have hrl := hzr
      rw [elb] at hx8 hz8 hrl
      have y0 : W8.cell? ⟨lb, 0, none⟩ = some (.int .i64 ct) := (cell_of_row W8 _ 0 _ _ _ hx8).trans rfl
      clear hx8 hb8 e8 elb eq hst HTL
      go_upto_region 15 with fail
      rw [HE8.out, HLB.out]
      by_cases h1 : p < ct
      · by_cases h2 : ct < qe
        · have HROW : (W8.alloc (.cells #[.int .i64 ct] 3)).ownsRow W9.heap.size 3 1 (.slice A21 (inP T p qe k).length c21) (inP T p qe k).length ((inP T p qe k).map (Value.int .i64)) := by
            rw [← HE8.out]; exact World.ownsRow.alloc (World.ownsRow.alloc HOW.out _) _
          have HNEW := World.news_of_block (cs := #[.int .i64 ct]) (t := 3) (fr := (0, 0)) (alloc_at W8 (.cells #[.int .i64 ct] 3) W8.heap.size rfl)
          have HSZ : W9.heap.size ≤ (W8.alloc (.cells #[.int .i64 ct] 3)).heap.size := by simp; omega
          have HML : (inP T p qe k).length + 1 ≤ maxLen := by simp only [maxLen]; omega
          have HMB : ((inP T p qe k).length + 1) * 8 ≤ 140737488355328 := by omega
          go_wp2_with (at_builtin; refine wpList_append_own _ rfl _ _ 62 rfl W9.heap.size 3 i0 (.int .i64 0) 1 8 undIntsP hi hzz0 hzz1 hzz2 rfl (by decide) _ _ _ rfl HROW ⟨W8.heap.size, 0, none⟩ 1 1 [.int .i64 ct] rfl rfl HNEW (by simp [Value.oneCell']) HML HMB HSZ ?_; intro v' w5 hown5 hgrow5 _)
          go_roundw
          case rel =>
            refine ⟨k + 1, hkl, by go_num, Lib.hid ?_, Lib.hid ((HR8.out.alloc (by omega) _).grown hgrow5 HSZ fun q hq => (World.ownsRow.lt HROW q hq).1)⟩
            have e := HST.out
            rw [if_pos ⟨h1, h2⟩] at e
            rw [e, List.length_append, List.map_append]
            exact hown5
          case measure => simp [intOf]; omega
        · go_wp2_with fail
          go_roundw
          case rel =>
            refine ⟨k + 1, hkl, by go_num, Lib.hid ?_, HR8⟩
            have e := HST.out
            rw [if_neg (fun g => h2 g.2)] at e
            rw [e, ← HE8.out]
            exact World.ownsRow.alloc HOW.out _
          case measure => simp [intOf]; omega
      · go_wp2_with fail
        go_roundw
        case rel =>
          refine ⟨k + 1, hkl, by go_num, Lib.hid ?_, HR8⟩
          have e := HST.out
          rw [if_neg (fun g => h1 g.1)] at e
          rw [e, ← HE8.out]
          exact World.ownsRow.alloc HOW.out _
        case measure => simp [intOf]; omega
    · obtain rfl : k = T.chs.length := by omega
      have how := HOW.out
      have hF := HF.out
      rw [inP_all, ← hF] at how
      have e : (inP T p qe T.chs.length).length = U.chs.length := by rw [inP_all, ← hF]; unfold chgT; simp
      have e' : (chgT U).length = U.chs.length := by unfold chgT; simp
      rw [e]
      rw [e'] at how
      have hUr := HU9.out.below HBR.out
      obtain ⟨a8, b8, f8⟩ := hUr.cells
      have hzr8 := hUr.lt
      have HOW2 := Lib.hid how
      have HU10 := Lib.hid hUr
      obtain ⟨W10, e10⟩ : ∃ W10, wr = W10 := ⟨_, rfl⟩
      rw [e10] at HAr HOW2 HU10 a8 b8 f8 hzr8 ⊢
      have hneU : ((U.chs.length : Int) != (U.chs.length : Int)) = false := by simp
      clear how hF e e' hUr e10 hi hzz0 hzz1 hzz2 HOW HF HBR hzr hpl a4 b4 f4
      go_wp2_with fail
      go_loopw [124] (fun i wr => ∃ k : Nat, k ≤ U.chs.length ∧ i = .int .i64 k ∧ Hid (Below W10.heap.size W10 wr)) (fun i _ => U.chs.length - (intOf i).toNat)
      case atStart => exact ⟨0, Nat.zero_le _, rfl, Lib.hid (Below.refl _ _)⟩
      case round =>
        obtain ⟨k, hk, rfl, HBR⟩ := hrel
        have hzr := HBR.out.size
        by_cases hkl : k < U.chs.length
        · have HTL := HU10.out.below HBR.out
          obtain ⟨bb, o, rfl, hbb, x0, x1⟩ := HTL.chs k hkl
          rcases own_cells HOW2.out with ⟨-, h0⟩ | ⟨lg, lcap, e, hlg, hlb, hlc⟩
          · omega
          have z0 := (HBR.out.cell (p := ⟨lg, k, none⟩) hlb).trans (hlc k (.int .i64 U.chs[k].t) (by unfold chgT; simp [hkl]))
          rw [Value.slice.injEq] at e
          obtain ⟨rfl, -, rfl⟩ := e
          obtain ⟨q, eq⟩ : ∃ q, U.chs[k] = q := ⟨_, rfl⟩
          rw [eq] at x0 x1 z0
          obtain ⟨ct, ckk⟩ := q
          simp only at x0 x1 z0
          obtain ⟨W8, e8⟩ : ∃ W8, wr.alloc (.cells #[.int .i64 ct, .int .i64 ckk] 56) = W8 := ⟨_, rfl⟩
          have hx8 : W8.heap[wr.heap.size]? = some (.cells #[.int .i64 ct, .int .i64 ckk] 56 (0, 0)) := by rw [← e8]; exact heap_alloc_new wr _
          have hb8 : Below wr.heap.size wr W8 := by rw [← e8]; exact alBelow _ _
          have hz8 : wr.heap.size < W8.heap.size := by rw [← e8]; simp
          have HR8 := Lib.hid (HBR.out.trans (hb8.mono hzr))
          have hlr : lg < wr.heap.size := by omega
          have z1 := (hb8.cell (p := ⟨lg, k, none⟩) hlr).trans z0
          obtain ⟨lb, elb⟩ : ∃ lb, wr.heap.size = lb := ⟨_, rfl⟩
          have HE8 := Lib.hid e8
          have HLB := Lib.hid elb
          rw [elb] at hx8 hz8
          have y0 : W8.cell? ⟨lb, 0, none⟩ = some (.int .i64 ct) := (cell_of_row W8 _ 0 _ _ _ hx8).trans rfl
          have hcc : (ct != ct) = false := by simp
          clear hx8 hb8 e8 elb eq HTL hlc z0
          go_upto_region 23 with fail
          rw [HE8.out, HLB.out]
          go_quiet (fail)
          have hbq : Below W8.heap.size W8 (W8.drewN nq) := below_drewN' (Below.refl _ _) nq
          have HQ := Lib.hid (HR8.out.trans (hbq.mono HR8.out.size))
          clear hbq
          go_wp2_with fail
          go_roundw
          case rel => exact ⟨k + 1, hkl, by go_num, HQ⟩
          case measure => simp [intOf]; omega
        · obtain rfl : k = U.chs.length := by omega
          go_wp2_with fail
          go_ret
          exact ⟨rfl, HFIN.out _ (HAr.out.trans (HBR.out.mono HAr.out.size))⟩
end Go.Proofs.YthggojpdcgcmaaaGreatDoor
