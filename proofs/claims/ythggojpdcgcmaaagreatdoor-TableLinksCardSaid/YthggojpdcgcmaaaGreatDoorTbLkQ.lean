/- TableLinks: the walk. -/
import Derived.Test.YthggojpdcgcmaaaGreatDoorQ14
import Derived.Test.YthggojpdcgcmaaaGreatDoorQ13
namespace Go.Proofs.YthggojpdcgcmaaaGreatDoor
open Go.RowKit Go.Joins Go.Maps
open Classical
set_option linter.unusedVariables false
set_option linter.unusedSimpArgs false

set_option maxRecDepth 100000 in
set_option maxHeartbeats 8000000 in
theorem TableLinks_walk (MK : MakeSays) (b : Bk) (rv zv lv : Value) (f0 l0 : Int) (w : World) (hB : BookAt w.heap.size w rv zv lv b) (hm : MaxLen w) (ht : Tab10 w) :
    Calls Tryz.prog 5 #[.agg #[rv, zv, lv], .int .i64 f0, .int .i64 l0] w fun e w' => e = .returned (.bool true) ∧ Below w.heap.size w w' := by
  have hls := hB.ls
  have hrows := hB.l
  obtain ⟨p1, c1, p2, c2, p3, c3, W0, rfl, rfl, rfl, eW, hBX⟩ := bk_box hB hm ht
  obtain ⟨p3', c3', e3, ⟨hlen3, -⟩, hat⟩ := hrows
  rw [Value.slice.injEq] at e3
  obtain ⟨rfl, -, rfl⟩ := e3
  have HEW := Lib.hid eW
  have HBX := Lib.hid hBX
  have HTB := Lib.hid (tabled_any MK W0 (hm.below hBX.hb) (ht.below hBX.hb))
  have HAT := Lib.hid hat
  have HLS := Lib.hid hls
  have HLAW := Lib.hid (fun x hx => mk_links (b := b) (x := x) hx (tD f0) (spTo f0 l0))
  have hs1 := tD_bd2 f0
  have hs2 := spTo_bd f0 l0
  obtain ⟨fr, efr⟩ : ∃ fr, tD f0 = fr := ⟨_, rfl⟩
  obtain ⟨te, ete⟩ : ∃ te, spTo f0 l0 = te := ⟨_, rfl⟩
  have HSP : Hid (∀ W : World, Calls Tryz.prog 18 #[.int .i64 f0, .int .i64 l0] W fun e w' => e = .returned (.agg #[.int .i64 fr, .int .i64 te]) ∧ Below W.heap.size W w') := by
    show ∀ W, _
    intro W; rw [← efr, ← ete]; exact span_any f0 l0 W
  rw [efr, ete] at HLAW
  rw [efr] at hs1 hs2
  rw [ete] at hs2
  have HMK : Hid (∀ (W : World) (nm : ByteArray), Below W0.heap.size W0 W → nm.size ≤ 140737488351232 → Calls Tryz.prog 19 #[.agg #[.slice p1 b.rules.length c1, .slice p2 b.zones.length c2, .slice p3 b.links.length c3], .string nm, .agg #[.int .i64 fr, .int .i64 te]] W (TbV (mkT b nm fr te) W)) := by
    show ∀ W nm, _
    intro W nm hb hn
    exact HBX.out.make MK nm hn fr te hb (by omega) (by omega) (by omega) (by omega)
  have hl0 := hBX.lt
  clear eW hB hm ht hat hls efr ete hBX
  go_enter Tryz.func5, Tryz.ntmps5
  go_upto_region 1 with fail
  rw [HEW.out]
  go_wp2_with fail
  refine HTB.out.mono ?_
  rintro e w1 ⟨rfl, hb1⟩
  have HB1 := Lib.hid hb1
  have HS1 := Lib.hid (HSP.out w1)
  clear hb1 HTB HSP
  go_wp2_with fail
  refine HS1.out.mono ?_
  rintro e w2 ⟨rfl, hb2⟩
  obtain ⟨W3, e3⟩ : ∃ W3, w2.alloc (.cells #[.int .i64 fr, .int .i64 te] 47) = W3 := ⟨_, rfl⟩
  obtain ⟨hb3, hz3, hsx⟩ := sp_box e3
  obtain ⟨sb, esb⟩ : ∃ sb, w2.heap.size = sb := ⟨_, rfl⟩
  have HB3 := Lib.hid (HB1.out.trans ((hb2.trans (hb3.mono hb2.size)).mono HB1.out.size))
  have HSB := Lib.hid esb
  have HE3 := Lib.hid e3
  rw [esb] at hz3 hsx
  have HSX := Lib.hid hsx
  obtain ⟨g0, g1, g2⟩ := HBX.out.cells HB3.out
  have hl3 : w.heap.size < W3.heap.size := by have := HB3.out.size; omega
  clear hb2 hb3 hsx esb e3 HS1
  go_upto_region 4 with fail
  rw [HE3.out, HSB.out]
  go_wp2_with fail
  go_loopw [22] (fun i wr => ∃ k : Nat, k ≤ b.links.length ∧ i = .int .i64 k ∧ Hid (Below W3.heap.size W3 wr)) (fun i _ => b.links.length - (intOf i).toNat)
  case atStart => exact ⟨0, Nat.zero_le _, rfl, Lib.hid (Below.refl _ _)⟩
  case round =>
    obtain ⟨k, hk, rfl, HBR⟩ := hrel
    have hzr := HBR.out.size
    have HBWr := Lib.hid (HB3.out.trans (HBR.out.mono HB3.out.size))
    by_cases hkl : k < b.links.length
    · obtain ⟨bb, o, rfl, hbl, hcs⟩ := HAT.out (List.ne_nil_of_length_pos (by omega))
      have hck := hcs k hkl
      have hxm := List.getElem_mem hkl
      have hss := HLS.out _ hxm
      have hlaw := HLAW.out _ hxm
      obtain ⟨q, eq⟩ : ∃ q, b.links[k] = q := ⟨_, rfl⟩
      rw [eq] at hck hss hlaw
      obtain ⟨nm, tt⟩ := q
      simp only at hss hlaw
      have HBWx := Lib.hid (HBX.out.hb.trans (HBWr.out.mono HBX.out.hb.size))
      have z0 := (HBWx.out.cell (p := ⟨bb, o + k * 2 + 0, none⟩) hbl).trans (hck 0 _ rfl)
      have z1 := (HBWx.out.cell (p := ⟨bb, o + k * 2 + 1, none⟩) hbl).trans (hck 1 _ rfl)
      simp only at z0 z1
      rw [Nat.add_zero] at z0
      obtain ⟨W4, e4⟩ : ∃ W4, wr.alloc (.cells #[.string nm, .string tt] 59) = W4 := ⟨_, rfl⟩
      have hx4 : W4.heap[wr.heap.size]? = some (.cells #[.string nm, .string tt] 59 (0, 0)) := by rw [← e4]; exact heap_alloc_new wr _
      have hb4 : Below wr.heap.size wr W4 := by rw [← e4]; exact alBelow _ _
      have hz4 : wr.heap.size < W4.heap.size := by rw [← e4]; simp
      have HB4 := Lib.hid (HBR.out.trans (hb4.mono hzr))
      have HX4 := Lib.hid hx4
      have HE4 := Lib.hid e4
      obtain ⟨lb, elb⟩ : ∃ lb, wr.heap.size = lb := ⟨_, rfl⟩
      have HLB := Lib.hid elb
      rw [elb] at hz4 HX4
      have y0 : W4.cell? ⟨lb, 0, none⟩ = some (.string nm) := (cell_of_row W4 _ 0 _ _ _ HX4.out).trans rfl
      have HBB4 := Lib.hid (HB3.out.trans (HB4.out.mono HB3.out.size))
      obtain ⟨g0, g1, g2⟩ := HBX.out.cells HBB4.out
      obtain ⟨s0, s1⟩ := HSX.out W4 HB4.out
      have HA1 := Lib.hid (HMK.out W4 nm HBB4.out hss.1)
      have HA2' : Hid (∀ (W : World), Below W0.heap.size W0 W → Calls Tryz.prog 19 #[.agg #[.slice p1 b.rules.length c1, .slice p2 b.zones.length c2, .slice (some ⟨bb, o, none⟩) b.links.length c3], .string tt, .agg #[.int .i64 fr, .int .i64 te]] W (TbV (mkT b nm fr te) W)) := by
        show ∀ W, _
        intro W hb
        have := HMK.out W tt hb hss.2
        rwa [← hlaw] at this
      obtain ⟨S, eS⟩ : ∃ S, mkT b nm fr te = S := ⟨_, rfl⟩
      rw [eS] at HA1 HA2'
      obtain ⟨C, T⟩ := S
      clear e4 hx4 eq hcs hck hb4 hxm elb hss hlaw eS
      go_upto_region 7 with fail
      rw [HE4.out, HLB.out]
      clear z0 z1
      go_wp2_with fail
      refine HA1.out.mono ?_
      rintro e w5 ⟨q1, d1, q2, d2, rfl, htb, hb5⟩
      simp only at htb ⊢
      obtain ⟨W6, e6⟩ : ∃ W6, w5.alloc (.cells #[.slice q1 T.types.length d1, .int .i64 0, .slice q2 T.chs.length d2] 52) = W6 := ⟨_, rfl⟩
      have hbx6 := TBz.box htb e6
      have hb6 : Below w5.heap.size w5 W6 := by rw [← e6]; exact alBelow _ _
      have hb46 : Below W4.heap.size W4 W6 := hb5.trans (hb6.mono hb5.size)
      have HB6 := Lib.hid (HB4.out.trans (hb46.mono HB4.out.size))
      have HBB6 := Lib.hid (HB3.out.trans (HB6.out.mono HB3.out.size))
      have y1 : W6.cell? ⟨lb, 1, none⟩ = some (.string tt) := (cell_of_row W6 _ 1 _ _ _ ((hb46.block lb hz4).trans HX4.out)).trans rfl
      obtain ⟨tb, etb⟩ : ∃ tb, w5.heap.size = tb := ⟨_, rfl⟩
      have HTB := Lib.hid etb
      rw [etb] at hbx6
      have HT6 := Lib.hid hbx6
      have hz6 := hbx6.lt
      have HE6 := Lib.hid e6
      obtain ⟨g0, g1, g2⟩ := HBX.out.cells HBB6.out
      obtain ⟨s0, s1⟩ := HSX.out W6 HB6.out
      have HA2 := Lib.hid (HA2'.out W6 HBB6.out)
      clear hb5 hb6 hb46 e6 etb HA1 HA2' y0 htb hbx6
      go_upto_region 8 with fail
      rw [HE6.out, HTB.out]
      go_wp2_with fail
      refine HA2.out.mono ?_
      rintro e w7 ⟨q3, d3, q4, d4, rfl, htb, hb7⟩
      simp only at htb ⊢
      obtain ⟨W8, e8⟩ : ∃ W8, w7.alloc (.cells #[.slice q3 T.types.length d3, .int .i64 0, .slice q4 T.chs.length d4] 52) = W8 := ⟨_, rfl⟩
      have hbx8 := TBz.box htb e8
      have hb8 : Below w7.heap.size w7 W8 := by rw [← e8]; exact alBelow _ _
      have hb68 : Below W6.heap.size W6 W8 := hb7.trans (hb8.mono hb7.size)
      have HB8 := Lib.hid (HB6.out.trans (hb68.mono HB6.out.size))
      have ht8 := HT6.out.below hb68
      obtain ⟨ub, eub⟩ : ∃ ub, w7.heap.size = ub := ⟨_, rfl⟩
      have HUB := Lib.hid eub
      rw [eub] at hbx8
      have hz8 := hbx8.lt
      have hz8' := ht8.lt
      have HE8 := Lib.hid e8
      obtain ⟨t0, t1, t2⟩ := ht8.cells
      obtain ⟨u0, u1, u2⟩ := hbx8.cells
      have HEQ := Lib.hid (TableEq_any T T _ _ W8 ht8.2 hbx8.2)
      have hcz : (C == C) = true := by simp
      have hcn : (C != C) = false := by simp
      rw [decide_eq_true rfl] at HEQ
      clear hb7 hb8 hb68 e8 eub HA2 y1 htb hbx8 ht8
      go_upto_region 9 with fail
      rw [HE8.out, HUB.out]
      go_wp2_with fail
      refine HEQ.out.mono ?_
      rintro e w9 ⟨rfl, hb9⟩
      have HB9 := Lib.hid (HB8.out.trans (hb9.mono HB8.out.size))
      clear hb9 HEQ t0 t1 t2 u0 u1 u2 s0 s1 g0 g1 g2
      go_wp2_with fail
      go_roundw
      case rel => exact ⟨k + 1, by omega, by go_num, HB9⟩
      case measure => simp [intOf]; omega
    · obtain rfl : k = b.links.length := by omega
      go_wp2_with fail
      go_ret
      exact ⟨rfl, HBX.out.hb.trans (HBWr.out.mono HBX.out.hb.size)⟩
end Go.Proofs.YthggojpdcgcmaaaGreatDoor
