/- TableChanges: the walk. -/
import Derived.Test.YthggojpdcgcmaaaGreatDoorQ14
import Derived.Test.YthggojpdcgcmaaaGreatDoorQ13
import Derived.Test.YthggojpdcgcmaaaGreatDoorQ15
namespace Go.Proofs.YthggojpdcgcmaaaGreatDoor
open Go.RowKit Go.Joins Go.Maps
open Classical
set_option linter.unusedVariables false
set_option linter.unusedSimpArgs false

set_option maxRecDepth 100000 in
set_option maxHeartbeats 8000000 in
theorem TableChanges_walk (MK : MakeSays) (b : Bk) (rv zv lv : Value) (nm : ByteArray) (f0 l0 : Int) (w : World) (hB : BookAt w.heap.size w rv zv lv b) (hn : nm.size ≤ 140737488351232) (hm : MaxLen w) (ht : Tab10 w) :
    Calls Tryz.prog 8 #[.agg #[rv, zv, lv], .string nm, .int .i64 f0, .int .i64 l0] w fun e w' => e = .returned (.bool true) ∧ Below w.heap.size w w' := by
  obtain ⟨p1, c1, p2, c2, p3, c3, W0, rfl, rfl, rfl, eW, hBX⟩ := bk_box hB hm ht
  have HEW := Lib.hid eW
  have HBX := Lib.hid hBX
  have HTD := Lib.hid (tabled_any MK W0 (hm.below hBX.hb) (ht.below hBX.hb))
  have hs1 := tD_bd2 f0
  have hs2 := spTo_bd f0 l0
  have hst := Lib.hid (sp_stamp f0 l0)
  obtain ⟨fr, efr⟩ : ∃ fr, tD f0 = fr := ⟨_, rfl⟩
  obtain ⟨te, ete⟩ : ∃ te, spTo f0 l0 = te := ⟨_, rfl⟩
  have HSP : Hid (∀ W : World, Calls Tryz.prog 18 #[.int .i64 f0, .int .i64 l0] W fun e w' => e = .returned (.agg #[.int .i64 fr, .int .i64 te]) ∧ Below W.heap.size W w') := by
    show ∀ W, _
    intro W; rw [← efr, ← ete]; exact span_any f0 l0 W
  rw [efr] at hs1 hs2 hst
  rw [ete] at hs2 hst
  have HMK : Hid (∀ (W : World) (x y : Int), Below W0.heap.size W0 W → -4611686018427387904 ≤ x → x ≤ 4611686018427387904 → -4611686018427387904 ≤ y → y ≤ 4611686018427387904 → Calls Tryz.prog 19 #[.agg #[.slice p1 b.rules.length c1, .slice p2 b.zones.length c2, .slice p3 b.links.length c3], .string nm, .agg #[.int .i64 x, .int .i64 y]] W (TbV (mkT b nm x y) W)) := by
    show ∀ W x y, _
    intro W x y hb h1 h2 h3 h4
    exact HBX.out.make MK nm hn x y hb h1 h2 h3 h4
  have HSA : Hid (∀ (W : World) (t : Int), Below W0.heap.size W0 W → -4611686018427387904 ≤ t → t ≤ 4611686018427387904 → Calls Tryz.prog 16 #[.agg #[.slice p1 b.rules.length c1, .slice p2 b.zones.length c2, .slice p3 b.links.length c3], .string nm, .int .i64 t] W (StPost (stR b nm t) W)) := by
    show ∀ W t, _
    intro W t hb h1 h2
    exact HBX.out.at MK nm hn t hb h1 h2
  have HFIN : Hid (∀ W, Below W0.heap.size W0 W → Below w.heap.size w W) := by
    show ∀ W, _
    intro W hb
    exact HBX.out.hb.trans (hb.mono HBX.out.hb.size)
  have hl0 := hBX.lt
  clear eW hB hm ht efr ete hBX
  obtain ⟨S, eS⟩ : ∃ S, mkT b nm fr te = S := ⟨_, rfl⟩
  obtain ⟨C, T⟩ := S
  have eS4 := Lib.hid eS
  clear eS
  have HLAW := Lib.hid (fun h => mk_chg (b := b) (nm := nm) (fr := fr) (te := te) (T := T) h)
  have hT0 : T.first = 0 := by have := (mkT_small b nm fr te).1; rwa [eS4.out] at this
  have hTl : T.chs.length ≤ 1000 := by have := (mkT_small b nm fr te).2.2.1; rwa [eS4.out] at this
  go_enter Tryz.func8, Tryz.ntmps8
  go_upto_region 1 with fail
  rw [HEW.out]
  go_wp2_with fail
  refine HTD.out.mono ?_
  rintro e w1 ⟨rfl, hb1⟩
  have HB1 := Lib.hid hb1
  have HS1 := Lib.hid (HSP.out w1)
  clear hb1 HTD HSP
  go_wp2_with fail
  refine HS1.out.mono ?_
  rintro e w2 ⟨rfl, hb2⟩
  obtain ⟨W3, e3⟩ : ∃ W3, w2.alloc (.cells #[.int .i64 fr, .int .i64 te] 47) = W3 := ⟨_, rfl⟩
  obtain ⟨hb3, hz3, hsx⟩ := sp_box e3
  obtain ⟨sb, esb⟩ : ∃ sb, w2.heap.size = sb := ⟨_, rfl⟩
  have HA3 := Lib.hid (HB1.out.trans ((hb2.trans (hb3.mono hb2.size)).mono HB1.out.size))
  have HSB := Lib.hid esb
  have HE3 := Lib.hid e3
  rw [esb] at hz3 hsx
  have HSX := Lib.hid hsx
  have HB3 := Lib.hid (Below.refl W3.heap.size W3)
  obtain ⟨g0, g1, g2⟩ := HBX.out.cells HA3.out
  obtain ⟨s0, s1⟩ := HSX.out W3 HB3.out
  have hl3 : w.heap.size < W3.heap.size := by have := HA3.out.size; omega
  clear hb2 hb3 hsx esb e3 HS1
  go_upto_region 4 with fail
  rw [HE3.out, HSB.out]
  have HC4 := Lib.hid (HMK.out W3 fr te HA3.out (by omega) (by omega) (by omega) (by omega))
  rw [eS4.out] at HC4
  go_wp2_with fail
  refine HC4.out.mono ?_
  rintro e v4 ⟨q4, d4, q'4, d'4, rfl, htb, hb⟩
  simp only at htb ⊢
  obtain ⟨W4, e4⟩ : ∃ W4, v4.alloc (.cells #[.slice q4 T.types.length d4, .int .i64 0, .slice q'4 T.chs.length d'4] 52) = W4 := ⟨_, rfl⟩
  have hbx := TBz.box htb e4
  have hb2 : Below v4.heap.size v4 W4 := by rw [← e4]; exact alBelow _ _
  have hb3 : Below W3.heap.size W3 W4 := hb.trans (hb2.mono hb.size)
  have HA4 := Lib.hid (HA3.out.trans (hb3.mono HA3.out.size))
  have HB4 := Lib.hid (HB3.out.trans (hb3.mono HB3.out.size))
  have HS4 := Lib.hid hb3
  obtain ⟨tb4, etb4⟩ : ∃ tb4, v4.heap.size = tb4 := ⟨_, rfl⟩
  have HE4 := Lib.hid e4
  have HTE4 := Lib.hid etb4
  rw [etb4] at hbx
  have HT4 := Lib.hid hbx
  have hz4 := hbx.lt
  obtain ⟨a4, b4, f4⟩ := hbx.cells
  clear hb hb2 hb3 htb hbx HC4 e4 etb4 g0 g1 g2 s0 s1 
  obtain ⟨g0, g1, g2⟩ := HBX.out.cells HA4.out
  obtain ⟨s0, s1⟩ := HSX.out W4 HB4.out
  go_upto_region 5 with fail
  rw [HE4.out, HTE4.out]
  by_cases hC : C = 0
  case neg =>
    have hz : (C == 0) = false := by simpa using hC
    have hzn : (C != 0) = true := by simpa using hC
    go_wp2_with fail
    go_ret
    exact ⟨rfl, HFIN.out _ HA4.out⟩
  subst hC
  obtain ⟨l1, l2, l3, l4⟩ := HLAW.out eS4.out
  have HN := Lib.hid (Norm_ok T _ W4 HT4.out.2 l2)
  rw [l1] at HN
  have HIN := Lib.hid l3
  have HCK := Lib.hid l2
  clear l1 l2 l3 l4 HLAW
  go_wp2_with fail
  refine HN.out.mono ?_
  rintro e w5 ⟨v5, rfl, htb, hb5⟩
  obtain ⟨q1, d1, q2, d2, rfl⟩ := tabForms htb
  rw [hT0] at htb ⊢
  obtain ⟨W6, e6⟩ : ∃ W6, w5.alloc (.cells #[.slice q1 T.types.length d1, .int .i64 0, .slice q2 T.chs.length d2] 52) = W6 := ⟨_, rfl⟩
  have hbx := TBz.box htb e6
  have hb6 : Below w5.heap.size w5 W6 := by rw [← e6]; exact alBelow _ _
  have hb46 : Below W4.heap.size W4 W6 := hb5.trans (hb6.mono hb5.size)
  have HA6 := Lib.hid (HA4.out.trans (hb46.mono HA4.out.size))
  have HB6 := Lib.hid (HB4.out.trans (hb46.mono HB4.out.size))
  obtain ⟨nb, enb⟩ : ∃ nb, w5.heap.size = nb := ⟨_, rfl⟩
  have HE6 := Lib.hid e6
  have HNB := Lib.hid enb
  rw [enb] at hbx
  have HN6 := Lib.hid hbx
  have HT6 := Lib.hid (HT4.out.below hb46)
  have hz6 := hbx.lt
  have hz6' := HT6.out.lt
  obtain ⟨t0, t1, t2⟩ := HT6.out.cells
  clear hb5 hb6 hb46 htb hbx HN e6 enb g0 g1 g2 s0 s1 a4 b4 f4
  go_upto_region 8 with fail
  rw [HE6.out, HNB.out]
  go_wp2_with fail
  go_loopw [38] (fun i wr => ∃ k : Nat, k ≤ T.chs.length ∧ i = .int .i64 k ∧ Hid (Below W6.heap.size W6 wr)) (fun i _ => T.chs.length - (intOf i).toNat)
  case atStart => exact ⟨0, Nat.zero_le _, rfl, Lib.hid (Below.refl _ _)⟩
  case round =>
    obtain ⟨k, hk, rfl, HBR⟩ := hrel
    have hzr := HBR.out.size
    have HAr := Lib.hid (HA6.out.trans (HBR.out.mono HA6.out.size))
    have HBr := Lib.hid (HB6.out.trans (HBR.out.mono HB6.out.size))
    have HTL := HT6.out.below HBR.out
    by_cases hkl : k < T.chs.length
    ·
      have hck := List.getElem_mem hkl
      have hin := HIN.out _ hck
      obtain ⟨bb, o, rfl, hbb, x0, x1⟩ := HTL.chs k hkl
      obtain ⟨q, eq⟩ : ∃ q, T.chs[k] = q := ⟨_, rfl⟩
      rw [eq] at x0 x1 hin
      obtain ⟨ct, ckk⟩ := q
      simp only at x0 x1 hin
      obtain ⟨W8, e8⟩ : ∃ W8, wr.alloc (.cells #[.int .i64 ct, .int .i64 ckk] 56) = W8 := ⟨_, rfl⟩
      have hx8 : W8.heap[wr.heap.size]? = some (.cells #[.int .i64 ct, .int .i64 ckk] 56 (0, 0)) := by rw [← e8]; exact heap_alloc_new wr _
      have hb8 : Below wr.heap.size wr W8 := by rw [← e8]; exact alBelow _ _
      have hz8 : wr.heap.size < W8.heap.size := by rw [← e8]; simp
      have HR8 := Lib.hid (HBR.out.trans (hb8.mono hzr))
      have HB8 := Lib.hid (HBr.out.trans (hb8.mono HBr.out.size))
      obtain ⟨s0, s1⟩ := HSX.out W8 HB8.out
      obtain ⟨lb, elb⟩ : ∃ lb, wr.heap.size = lb := ⟨_, rfl⟩
      have HE8 := Lib.hid e8
      have HLB := Lib.hid elb
      have hrl := hzr
      rw [elb] at hx8 hz8 hrl
      have y0 : W8.cell? ⟨lb, 0, none⟩ = some (.int .i64 ct) := (cell_of_row W8 _ 0 _ _ _ hx8).trans rfl
      clear hx8 hb8 e8 elb eq hck
      obtain ⟨h1, h2⟩ := hin
      have h3 : ¬ ct ≤ fr := by omega
      have h4 : ¬ te ≤ ct := by omega
      go_upto_region 11 with fail
      rw [HE8.out, HLB.out]
      go_wp2_with fail
      go_roundw
      case rel => exact ⟨k + 1, by omega, by go_num, HR8⟩
      case measure => simp [intOf]; omega
    · obtain rfl : k = T.chs.length := by omega
      have HCA := Lib.hid (Check_any T _ wr HTL.2)
      rw [HCK.out] at HCA
      obtain ⟨t0, t1, t2⟩ := HTL.cells
      have HTr := Lib.hid HTL
      have HNr := Lib.hid (HN6.out.below HBR.out)
      clear HTL
      go_wp2_with fail
      refine HCA.out.mono ?_
      rintro e w9 ⟨rfl, hb9⟩
      have HA9 := Lib.hid (HAr.out.trans (hb9.mono HAr.out.size))
      have ht9 := HTr.out.below hb9
      have hn9 := HNr.out.below hb9
      obtain ⟨t0, t1, t2⟩ := ht9.cells
      obtain ⟨n0, n1, n2⟩ := hn9.cells
      have HEQ := Lib.hid (TableEq_any T T _ _ w9 ht9.2 hn9.2)
      rw [decide_eq_true rfl] at HEQ
      clear hb9 ht9 hn9 HCA
      go_wp2_with fail
      refine HEQ.out.mono ?_
      rintro e w10 ⟨rfl, hb10⟩
      have HA10 := Lib.hid (HA9.out.trans (hb10.mono HA9.out.size))
      clear hb10 HEQ
      go_wp2_with fail
      go_ret
      exact ⟨rfl, HFIN.out _ HA10.out⟩
end Go.Proofs.YthggojpdcgcmaaaGreatDoor
