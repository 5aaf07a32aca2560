/- TableFixed: the walk. -/
import Derived.Test.YthggojpdcgcmaaaGreatDoorQ14
import Derived.Test.YthggojpdcgcmaaaGreatDoorQ13
import Derived.Test.YthggojpdcgcmaaaGreatDoorQ15
import Derived.Test.YthggojpdcgcmaaaGreatDoorIntsQ
namespace Go.Proofs.YthggojpdcgcmaaaGreatDoor
open Go.RowKit Go.Joins Go.Maps
open Classical
set_option linter.unusedVariables false
set_option linter.unusedSimpArgs false
theorem infoIntF : (Tryz.prog.info? 3).map (fun i => (i.zero, i.size, i.bytes)) = some (some (.int .i64 0), 1, 8) := by kernel_rfl
theorem undIntsF : Tryz.prog.underlying 62 = some (.slice 3) := by kernel_rfl
def ruF (l : List Er) : Bool := l.any fun x => !(x.ru.data.toList == [])
theorem ruF_snoc (l : List Er) (x : Er) : ruF (l ++ [x]) = (ruF l || !(x.ru.data.toList == [])) := by unfold ruF; rw [List.any_append]; simp
theorem ruF_none {l : List Er} (h : ruF l = false) : ∀ x ∈ l, x.ru.data.toList = [] := by
  intro x hx
  have := List.any_eq_false.1 h x hx
  simpa using this
def unF (l : List Er) : List Int := l.map (·.un)

set_option maxRecDepth 100000 in
set_option maxHeartbeats 40000000 in
theorem TableFixed_walk (MK : MakeSays) (b : Bk) (rv zv lv : Value) (f0 l0 : Int) (w : World) (hB : BookAt w.heap.size w rv zv lv b) (hm : MaxLen w) (ht : Tab10 w) :
    Calls Tryz.prog 6 #[.agg #[rv, zv, lv], .int .i64 f0, .int .i64 l0] w fun e w' => e = .returned (.bool true) ∧ Below w.heap.size w w' := by
  obtain ⟨p1, c1, p2, c2, p3, c3, W0, rfl, rfl, rfl, eW, hBX⟩ := bk_box hB hm ht
  have HEW := Lib.hid eW
  have HBX := Lib.hid hBX
  have HTD := Lib.hid (tabled_any MK W0 (hm.below hBX.hb) (ht.below hBX.hb))
  have hs1 := tD_bd2 f0
  have hs2 := spTo_bd f0 l0
  have hst := Lib.hid (sp_stamp f0 l0)
  obtain ⟨fr, efr⟩ : ∃ fr, tD f0 = fr := ⟨_, rfl⟩
  obtain ⟨te, ete⟩ : ∃ te, spTo f0 l0 = te := ⟨_, rfl⟩
  have HSP : Hid (∀ W : World, Calls Tryz.prog 18 #[.int .i64 f0, .int .i64 l0] W fun e w' => e = .returned (.agg #[.int .i64 fr, .int .i64 te]) ∧ Below W.heap.size W w') := by
    show ∀ W, _
    intro W; rw [← efr, ← ete]; exact span_any f0 l0 W
  rw [efr] at hs1 hs2 hst
  rw [ete] at hs2 hst
  have HMK : Hid (∀ (W : World) (nm : ByteArray), Below W0.heap.size W0 W → nm.size ≤ 140737488351232 → Calls Tryz.prog 19 #[.agg #[.slice p1 b.rules.length c1, .slice p2 b.zones.length c2, .slice p3 b.links.length c3], .string nm, .agg #[.int .i64 fr, .int .i64 te]] W (TbV (mkT b nm fr te) W)) := by
    show ∀ W nm, _
    intro W nm hb hn
    exact HBX.out.make MK nm hn fr te hb (by omega) (by omega) (by omega) (by omega)
  have HZS := Lib.hid hB.zs
  have HZE := Lib.hid hB.e
  obtain ⟨p2', c2', e2, ⟨hlen2, -⟩, hat⟩ := hB.z
  rw [Value.slice.injEq] at e2
  obtain ⟨rfl, -, rfl⟩ := e2
  have HAT := Lib.hid hat
  clear hat
  have HFIN : Hid (∀ W, Below W0.heap.size W0 W → Below w.heap.size w W) := by
    show ∀ W, _
    intro W hb
    exact HBX.out.hb.trans (hb.mono HBX.out.hb.size)
  have hl0 := hBX.lt
  clear eW hB hm ht efr ete hBX
  go_enter Tryz.func6, Tryz.ntmps6
  go_upto_region 1 with fail
  rw [HEW.out]
  go_wp2_with fail
  refine HTD.out.mono ?_
  rintro e w1 ⟨rfl, hb1⟩
  have HB1 := Lib.hid hb1
  have HS1 := Lib.hid (HSP.out w1)
  clear hb1 HTD HSP
  go_wp2_with fail
  refine HS1.out.mono ?_
  rintro e w2 ⟨rfl, hb2⟩
  obtain ⟨W3, e3⟩ : ∃ W3, w2.alloc (.cells #[.int .i64 fr, .int .i64 te] 47) = W3 := ⟨_, rfl⟩
  obtain ⟨hb3, hz3, hsx⟩ := sp_box e3
  obtain ⟨sb, esb⟩ : ∃ sb, w2.heap.size = sb := ⟨_, rfl⟩
  have HA3 := Lib.hid (HB1.out.trans ((hb2.trans (hb3.mono hb2.size)).mono HB1.out.size))
  have HSB := Lib.hid esb
  have HE3 := Lib.hid e3
  rw [esb] at hz3 hsx
  have HSX := Lib.hid hsx
  have HB3 := Lib.hid (Below.refl W3.heap.size W3)
  obtain ⟨g0, g1, g2⟩ := HBX.out.cells HA3.out
  obtain ⟨s0, s1⟩ := HSX.out W3 HB3.out
  have hl3 : w.heap.size < W3.heap.size := by have := HA3.out.size; omega
  clear hb2 hb3 hsx esb e3 HS1
  go_upto_region 4 with fail
  rw [HE3.out, HSB.out]
  go_wp2_with fail
  go_loopw [26] (fun i wr => ∃ k : Nat, k ≤ b.zones.length ∧ i = .int .i64 k ∧ Hid (Below W3.heap.size W3 wr)) (fun i _ => b.zones.length - (intOf i).toNat)
  case atStart => exact ⟨0, Nat.zero_le _, rfl, Lib.hid (Below.refl _ _)⟩
  case round =>
    obtain ⟨k, hk, rfl, HBR⟩ := hrel
    have hzr := HBR.out.size
    have HAr := Lib.hid (HA3.out.trans (HBR.out.mono HA3.out.size))
    by_cases hkl : k < b.zones.length
    · obtain ⟨bb, o, rfl, hbl, hcs⟩ := HAT.out (List.ne_nil_of_length_pos (by omega))
      have hck := hcs k hkl
      have hxm := List.getElem_mem hkl
      have hss := HZS.out _ hxm
      have hee := HZE.out _ hxm
      have hfix := fun hc T h hn => mk_fixed (b := b) (fr := fr) (te := te) (T := T) hc hxm h hn
      have hel := fun h => (bk_eras (b := b) h hxm).le
      obtain ⟨q, eq⟩ : ∃ q, b.zones[k] = q := ⟨_, rfl⟩
      rw [eq] at hck hss hee hfix hel
      obtain ⟨nm, ev, ers⟩ := q
      simp only at hss hee hfix hel
      have HEL := Lib.hid hel
      clear hel
      obtain ⟨pe, ce, rfl, ⟨hle1, hle2⟩, hate⟩ := hee
      have HBWx := Lib.hid (HBX.out.hb.trans (HAr.out.mono HBX.out.hb.size))
      have z0 := (HBWx.out.cell (p := ⟨bb, o + k * 2 + 0, none⟩) hbl).trans (hck 0 _ rfl)
      have z1 := (HBWx.out.cell (p := ⟨bb, o + k * 2 + 1, none⟩) hbl).trans (hck 1 _ rfl)
      simp only at z0 z1
      rw [Nat.add_zero] at z0
      obtain ⟨W4, e4⟩ : ∃ W4, wr.alloc (.cells #[.string nm, .slice pe ers.length ce] 38) = W4 := ⟨_, rfl⟩
      have hx4 : W4.heap[wr.heap.size]? = some (.cells #[.string nm, .slice pe ers.length ce] 38 (0, 0)) := by rw [← e4]; exact heap_alloc_new wr _
      have hb4 : Below wr.heap.size wr W4 := by rw [← e4]; exact alBelow _ _
      have hz4 : wr.heap.size < W4.heap.size := by rw [← e4]; simp
      have HB4 := Lib.hid (HBR.out.trans (hb4.mono hzr))
      have HX4 := Lib.hid hx4
      have HE4 := Lib.hid e4
      obtain ⟨lb, elb⟩ : ∃ lb, wr.heap.size = lb := ⟨_, rfl⟩
      have HLB := Lib.hid elb
      rw [elb] at hz4 HX4
      have y0 : W4.cell? ⟨lb, 0, none⟩ = some (.string nm) := (cell_of_row W4 _ 0 _ _ _ HX4.out).trans rfl
      have HA4 := Lib.hid (HA3.out.trans (HB4.out.mono HA3.out.size))
      clear g0 g1 g2 s0 s1
      obtain ⟨g0, g1, g2⟩ := HBX.out.cells HA4.out
      obtain ⟨s0, s1⟩ := HSX.out W4 HB4.out
      have HC := Lib.hid (HMK.out W4 nm HA4.out hss.1)
      have HSM := Lib.hid (mkT_small b nm fr te)
      have HFX := Lib.hid hfix
      have HMD := Lib.hid (fun T h => mk_made (b := b) (nm := nm) (fr := fr) (te := te) (T := T) h)
      obtain ⟨S, eS⟩ : ∃ S, mkT b nm fr te = S := ⟨_, rfl⟩
      have ES := Lib.hid eS
      rw [eS] at HC HSM
      obtain ⟨C, T⟩ := S
      have hTl : T.chs.length ≤ 1000 := HSM.out.2.2.1
      have HATE := Lib.hid hate
      clear e4 hx4 eq hcs hck hb4 hxm elb hss eS hfix hate
      go_upto_region 7 with fail
      rw [HE4.out, HLB.out]
      clear z0 z1
      go_wp2_with fail
      refine HC.out.mono ?_
      rintro e w5 ⟨q1, d1, q2, d2, rfl, htb, hb5⟩
      simp only at htb ⊢
      obtain ⟨W6, e6⟩ : ∃ W6, w5.alloc (.cells #[.slice q1 T.types.length d1, .int .i64 0, .slice q2 T.chs.length d2] 52) = W6 := ⟨_, rfl⟩
      have hbx6 := TBz.box htb e6
      have hb6 : Below w5.heap.size w5 W6 := by rw [← e6]; exact alBelow _ _
      have hb46 : Below W4.heap.size W4 W6 := hb5.trans (hb6.mono hb5.size)
      have HB6 := Lib.hid (HB4.out.trans (hb46.mono HB4.out.size))
      have HA6 := Lib.hid (HA3.out.trans (HB6.out.mono HA3.out.size))
      have y1 : W6.cell? ⟨lb, 1, none⟩ = some (.slice pe ers.length ce) := (cell_of_row W6 _ 1 _ _ _ ((hb46.block lb hz4).trans HX4.out)).trans rfl
      have hzl6 : lb < W6.heap.size := by have := hb46.size; omega
      obtain ⟨tb, etb⟩ : ∃ tb, w5.heap.size = tb := ⟨_, rfl⟩
      have HTB := Lib.hid etb
      rw [etb] at hbx6
      have HT6 := Lib.hid hbx6
      have hz6 := hbx6.lt
      have HE6 := Lib.hid e6
      clear hb5 hb6 hb46 e6 etb HC y0 htb hbx6 g0 g1 g2 s0 s1
      go_upto_region 8 with fail
      rw [HE6.out, HTB.out]
      by_cases hC : C = 0
      case neg =>
        have hz : (C == 0) = false := by simpa using hC
        have hzn : (C != 0) = true := by simpa using hC
        go_wp2_with fail
        go_roundw
        case rel => exact ⟨k + 1, by omega, by go_num, HB6⟩
        case measure => simp [intOf]; omega
      subst hC
      have hbc : bkChk b = 0 := by
        obtain ⟨z, -, -, h, -⟩ := HMD.out T ES.out
        exact h
      have HFX2 := Lib.hid (fun hn => HFX.out hbc T ES.out hn)
      have hel7 := HEL.out hbc
      clear HFX HMD HSM
      obtain ⟨i0, hi, hzz0, hzz1, hzz2⟩ := info_parts infoIntF
      go_wp2_with fail
      go_loopw [12, 13, 43] (fun v12 v13 i wx => ∃ k2 : Nat, k2 ≤ ers.length ∧ i = .int .i64 k2 ∧ v13 = .bool (ruF (ers.take k2)) ∧ Hid (wx.ownsRow W6.heap.size 3 1 v12 k2 ((unF (ers.take k2)).map (Value.int .i64))) ∧ Hid (Below W6.heap.size W6 wx)) (fun _ _ i _ => ers.length - (intOf i).toNat)
      case atStart => exact ⟨0, Nat.zero_le _, rfl, rfl, Lib.hid (World.ownsRow_nil _ _ _ _), Lib.hid (Below.refl _ _)⟩
      case round =>
        obtain ⟨k2, hk2, rfl, rfl, HOW, HBX2⟩ := hrel
        have hzx := HBX2.out.size
        by_cases hkl2 : k2 < ers.length
        · obtain ⟨be, oe, rfl, hbe, hce⟩ := HATE.out (List.ne_nil_of_length_pos (by omega))
          have hHW := HBX.out.hb.trans ((HA6.out.trans (HBX2.out.mono HA6.out.size)).mono HBX.out.hb.size)
          have hcc := hce k2 hkl2
          have HTK : Hid (unF (ers.take (k2 + 1)) = unF (ers.take k2) ++ [ers[k2].un]) := by
            show _ = _
            rw [List.take_succ_eq_append_getElem hkl2]; unfold unF; rw [List.map_append]; rfl
          have HRK : Hid (ruF (ers.take (k2 + 1)) = (ruF (ers.take k2) || !(ers[k2].ru.data.toList == []))) := by
            show _ = _
            rw [List.take_succ_eq_append_getElem hkl2, ruF_snoc]
          obtain ⟨x, ex⟩ : ∃ x, ers[k2] = x := ⟨_, rfl⟩
          rw [ex] at hcc HTK HRK
          obtain ⟨off, ru, sv, fm, un⟩ := x
          have w0 := (hHW.cell (p := ⟨be, oe + k2 * 5 + 0, none⟩) hbe).trans (hcc 0 _ rfl)
          have w1 := (hHW.cell (p := ⟨be, oe + k2 * 5 + 1, none⟩) hbe).trans (hcc 1 _ rfl)
          have w2 := (hHW.cell (p := ⟨be, oe + k2 * 5 + 2, none⟩) hbe).trans (hcc 2 _ rfl)
          have w3 := (hHW.cell (p := ⟨be, oe + k2 * 5 + 3, none⟩) hbe).trans (hcc 3 _ rfl)
          have w4 := (hHW.cell (p := ⟨be, oe + k2 * 5 + 4, none⟩) hbe).trans (hcc 4 _ rfl)
          rw [Nat.add_zero] at w0
          simp only at w0 w1 w2 w3 w4 HTK HRK
          obtain ⟨A12, c12, rfl⟩ := own_sliceN HOW.out
          obtain ⟨W8, e8⟩ : ∃ W8, wr.alloc (.cells #[.int .i64 off, .string ru, .int .i64 sv, .string fm, .int .i64 un] 35) = W8 := ⟨_, rfl⟩
          have hx8 : W8.heap[wr.heap.size]? = some (.cells #[.int .i64 off, .string ru, .int .i64 sv, .string fm, .int .i64 un] 35 (0, 0)) := by rw [← e8]; exact heap_alloc_new wr _
          have hb8 : Below wr.heap.size wr W8 := by rw [← e8]; exact alBelow _ _
          have hz8 : wr.heap.size < W8.heap.size := by rw [← e8]; simp
          have HR8 := Lib.hid (HBX2.out.trans (hb8.mono hzx))
          have HOW8 := Lib.hid (show W8.ownsRow W6.heap.size 3 1 (.slice A12 k2 c12) k2 ((unF (ers.take k2)).map (Value.int .i64)) by rw [← e8]; exact World.ownsRow.alloc HOW.out _)
          have hown1 : (Value.slice A12 k2 c12).ownBlock ≠ some wr.heap.size := fun e => by have := (World.ownsRow.lt HOW.out _ e).2; omega
          obtain ⟨eb, eeb⟩ : ∃ eb, wr.heap.size = eb := ⟨_, rfl⟩
          have hrl := hzx
          rw [eeb] at hx8 hz8 hrl hown1
          have HE8 := Lib.hid e8
          have HEB := Lib.hid eeb
          have HX8 := Lib.hid hx8
          have HNO := Lib.hid hown1
          have KS : Hid (∀ wy : World, wy.heap[eb]? = W8.heap[eb]? → wy.cell? ⟨eb, 4, none⟩ = some (.int .i64 un) ∧ wy.cell? ⟨eb, 1, none⟩ = some (.string ru)) := by
            show ∀ wy : World, _
            intro wy h
            have h := h.trans HX8.out
            exact ⟨(cell_of_row wy _ 4 _ _ _ h).trans rfl, (cell_of_row wy _ 1 _ _ _ h).trans rfl⟩
          have hk2b : k2 ≤ 140737488351232 := by omega
          clear hHW hcc ex hb8 hx8 e8 eeb hown1 hce
          go_upto_region 14 with fail
          rw [HE8.out, HEB.out]
          clear w0 w1 w2 w3 w4
          cases er : ruF (ers.take k2) with
          | true =>
            refine wp_region_held_drew (S := fun wx => wx.cell? ⟨eb, 4, none⟩ = some (.int .i64 un) ∧ wx.cell? ⟨eb, 1, none⟩ = some (.string ru)) (by kernel_rfl) (KS.out _ rfl) (fun hHeld => ?_)
            refine' wpAnyH_take (i := 0) (oi := _) (v := _) ?zia0 (by kernel_rfl) ?zfa0 ?zra0 ?zQa0 ?zya0 (by assumption) ?zsa0
            case zia0 => (simp only [List.getElem?_toArray, List.getElem?_cons_zero, List.getElem?_cons_succ]; try rfl)
            case zfa0 => kernel_rfl
            case zra0 => kernel_rfl
            case zQa0 => exact fun _ _ _ h => h
            case zya0 => (refine Or.inl ⟨by rfl, ?_⟩; intro w hSw; (try dsimp only at hSw); go_simp; (try with_reducible rfl))
            try simp only [Act.put, List.setIfInBounds_toArray, List.set_cons_zero, List.set_cons_succ]
            refine' wpAnyH_take (i := 1) (oi := _) (v := _) ?zia1 (by kernel_rfl) ?zfa1 ?zra1 ?zQa1 ?zya1 (by assumption) ?zsa1
            case zia1 => (simp only [List.getElem?_toArray, List.getElem?_cons_zero, List.getElem?_cons_succ]; try rfl)
            case zfa1 => kernel_rfl
            case zra1 => kernel_rfl
            case zQa1 => exact fun _ _ _ h => h
            case zya1 => (refine Or.inl ⟨by rfl, ?_⟩; intro w hSw; (try dsimp only at hSw); go_simp; (try with_reducible rfl))
            try simp only [Act.put, List.setIfInBounds_toArray, List.set_cons_zero, List.set_cons_succ]
            refine' wpAnyH_take (i := 2) (oi := _) (v := _) ?zia2 (by kernel_rfl) ?zfa2 ?zra2 ?zQa2 ?zya2 (by assumption) ?zsa2
            case zia2 => (simp only [List.getElem?_toArray, List.getElem?_cons_zero, List.getElem?_cons_succ]; try rfl)
            case zfa2 => kernel_rfl
            case zra2 => kernel_rfl
            case zQa2 => exact fun _ _ _ h => h
            case zya2 => (refine Or.inl ⟨by rfl, ?_⟩; intro w hSw; (try dsimp only at hSw); go_simp; (try with_reducible rfl))
            try simp only [Act.put, List.setIfInBounds_toArray, List.set_cons_zero, List.set_cons_succ]
            refine' wpAnyH_take (i := 5) (oi := _) (v := _) ?zia5 (by kernel_rfl) ?zfa5 ?zra5 ?zQa5 ?zya5 (by assumption) ?zsa5
            case zia5 => (simp only [List.getElem?_toArray, List.getElem?_cons_zero, List.getElem?_cons_succ]; try rfl)
            case zfa5 => kernel_rfl
            case zra5 => kernel_rfl
            case zQa5 => exact fun _ _ _ h => h
            case zya5 => (refine Or.inl ⟨by rfl, ?_⟩; intro w hSw; (try dsimp only at hSw); go_simp; (try with_reducible rfl))
            try simp only [Act.put, List.setIfInBounds_toArray, List.set_cons_zero, List.set_cons_succ]
            refine wpAnyH_ready (rs := [3]) (by kernel_rfl) (by simp) ?_
            refine AllReadyH.cons (by simp only [List.getElem?_toArray, List.getElem?_cons_zero, List.getElem?_cons_succ]; rfl) (fun K hK => ?_) AllReadyH.nil
            go_simp
            refine hK.out _ _ (KS.out _ (by first | (exact Below.heap_alloc _ _ _ hz8))) (fun hHeld3 => ?_)
            clear hK K
            try simp only [Act.put, List.setIfInBounds_toArray, List.set_cons_zero, List.set_cons_succ]
            refine wpAnyH_ready (rs := [4]) (by kernel_rfl) (by simp) ?_
            refine AllReadyH.cons (by simp only [List.getElem?_toArray, List.getElem?_cons_zero, List.getElem?_cons_succ]; rfl) (fun K hK => ?_) AllReadyH.nil
            refine step_append_lies _ (by rfl) _ _ _ (by rfl) W6.heap.size 3 i0 _ 1 8 undIntsF hi hzz0 hzz1 hzz2 rfl (by decide) (.slice A12 k2 c12) k2 ((unF (ers.take k2)).map (Value.int .i64)) (by rfl) (World.ownsRow.alloc (World.ownsRow.drew HOW8.out) _) ⟨W8.heap.size, 0, none⟩ 1 1 [.int .i64 un] (by rfl) (by rfl) (World.news_of_block (cs := #[.int .i64 un]) (t := 3) (fr := (0, 0)) (heap_alloc_new W8.drew _)) (by simp [Value.oneCell']) Nat.one_pos (by simp only [maxLen]; omega) (by omega) (by simp; omega) _ rfl ?_
            intro g6 cap6 w6 hown6 hg6 hat6 hlt6
            refine hK.out _ _ (KS.out _ ((hg6.block eb (by simp; omega) (fun e => HNO.out e.symm)).trans (Below.heap_alloc _ _ _ hz8))) (fun hHeld4 => ?_)
            clear hK K
            try simp only [Act.put, List.setIfInBounds_toArray, List.set_cons_zero, List.set_cons_succ]
            refine' wpAnyH_take (i := 6) (oi := _) (v := _) ?zia6 (by kernel_rfl) ?zfa6 ?zra6 ?zQa6 ?zya6 (by assumption) ?zsa6
            case zia6 => (simp only [List.getElem?_toArray, List.getElem?_cons_zero, List.getElem?_cons_succ]; try rfl)
            case zfa6 => kernel_rfl
            case zra6 => kernel_rfl
            case zQa6 => exact fun _ _ _ h => h
            case zya6 => (refine Or.inl ⟨by rfl, ?_⟩; intro w hSw; (try dsimp only at hSw); go_simp; (try with_reducible rfl))
            try simp only [Act.put, List.setIfInBounds_toArray, List.set_cons_zero, List.set_cons_succ]
            refine' wpAnyH_take (i := 7) (oi := _) (v := undef) ?zia7 (by kernel_rfl) ?zfa7 ?zra7 ?zQa7 ?zya7 (by assumption) ?zsa7
            case zia7 => (simp only [List.getElem?_toArray, List.getElem?_cons_zero, List.getElem?_cons_succ]; try rfl)
            case zfa7 => kernel_rfl
            case zra7 => kernel_rfl
            case zQa7 => exact fun _ _ _ h => h
            case zya7 => exact Or.inr ⟨by rfl, rfl⟩
            try simp only [Act.put, List.setIfInBounds_toArray, List.set_cons_zero, List.set_cons_succ]
            refine' wpAnyH_take (i := 8) (oi := _) (v := undef) ?zia8 (by kernel_rfl) ?zfa8 ?zra8 ?zQa8 ?zya8 (by assumption) ?zsa8
            case zia8 => (simp only [List.getElem?_toArray, List.getElem?_cons_zero, List.getElem?_cons_succ]; try rfl)
            case zfa8 => kernel_rfl
            case zra8 => kernel_rfl
            case zQa8 => exact fun _ _ _ h => h
            case zya8 => exact Or.inr ⟨by rfl, rfl⟩
            try simp only [Act.put, List.setIfInBounds_toArray, List.set_cons_zero, List.set_cons_succ]
            refine' wpAnyH_take (i := 9) (oi := _) (v := undef) ?zia9 (by kernel_rfl) ?zfa9 ?zra9 ?zQa9 ?zya9 (by assumption) ?zsa9
            case zia9 => (simp only [List.getElem?_toArray, List.getElem?_cons_zero, List.getElem?_cons_succ]; try rfl)
            case zfa9 => kernel_rfl
            case zra9 => kernel_rfl
            case zQa9 => exact fun _ _ _ h => h
            case zya9 => exact Or.inr ⟨by rfl, rfl⟩
            try simp only [Act.put, List.setIfInBounds_toArray, List.set_cons_zero, List.set_cons_succ]
            refine' wpAnyH_take (i := 10) (oi := _) (v := _) ?zia10 (by kernel_rfl) ?zfa10 ?zra10 ?zQa10 ?zya10 (by assumption) ?zsa10
            case zia10 => (simp only [List.getElem?_toArray, List.getElem?_cons_zero, List.getElem?_cons_succ]; try rfl)
            case zfa10 => kernel_rfl
            case zra10 => kernel_rfl
            case zQa10 => exact fun _ _ _ h => h
            case zya10 => (refine Or.inl ⟨by rfl, ?_⟩; intro w hSw; (try dsimp only at hSw); go_simp; (try with_reducible rfl))
            try simp only [Act.put, List.setIfInBounds_toArray, List.set_cons_zero, List.set_cons_succ]
            refine' wpAnyH_take (i := 11) (oi := _) (v := _) ?zia11 (by kernel_rfl) ?zfa11 ?zra11 ?zQa11 ?zya11 (by assumption) ?zsa11
            case zia11 => (simp only [List.getElem?_toArray, List.getElem?_cons_zero, List.getElem?_cons_succ]; try rfl)
            case zfa11 => kernel_rfl
            case zra11 => kernel_rfl
            case zQa11 => exact fun _ _ _ h => h
            case zya11 => (refine Or.inl ⟨by rfl, ?_⟩; intro w hSw; (try dsimp only at hSw); go_simp; (try with_reducible rfl))
            try simp only [Act.put, List.setIfInBounds_toArray, List.set_cons_zero, List.set_cons_succ]
            refine' wpAnyH_take (i := 12) (oi := _) (v := _) ?zia12 (by kernel_rfl) ?zfa12 ?zra12 ?zQa12 ?zya12 (by assumption) ?zsa12
            case zia12 => (simp only [List.getElem?_toArray, List.getElem?_cons_zero, List.getElem?_cons_succ]; try rfl)
            case zfa12 => kernel_rfl
            case zra12 => kernel_rfl
            case zQa12 => exact fun _ _ _ h => h
            case zya12 => (refine Or.inl ⟨by rfl, ?_⟩; intro w hSw; (try dsimp only at hSw); go_simp; (try with_reducible rfl))
            try simp only [Act.put, List.setIfInBounds_toArray, List.set_cons_zero, List.set_cons_succ]
            refine wpAnyH_done (by kernel_rfl) ?_ _
            go_wp2_with fail
            go_roundw
            case rel =>
              refine ⟨k2 + 1, by omega, by go_num, ?_, Lib.hid ?_, Lib.hid (((HR8.out.drew).alloc (by simp; omega) _).grown hg6 (by simp; omega) fun q hq => (World.ownsRow.lt HOW8.out q hq).1)⟩
              · rw [HRK.out, er]; simp [← ByteArray.toList_eq]
              · rw [HTK.out, List.map_append]; exact hown6
            case measure => simp [intOf]; omega
          | false =>
            refine wp_region_held_drew (S := fun wx => wx.cell? ⟨eb, 4, none⟩ = some (.int .i64 un) ∧ wx.cell? ⟨eb, 1, none⟩ = some (.string ru)) (by kernel_rfl) (KS.out _ rfl) (fun hHeld => ?_)
            refine' wpAnyH_take (i := 0) (oi := _) (v := _) ?zib0 (by kernel_rfl) ?zfb0 ?zrb0 ?zQb0 ?zyb0 (by assumption) ?zsb0
            case zib0 => (simp only [List.getElem?_toArray, List.getElem?_cons_zero, List.getElem?_cons_succ]; try rfl)
            case zfb0 => kernel_rfl
            case zrb0 => kernel_rfl
            case zQb0 => exact fun _ _ _ h => h
            case zyb0 => (refine Or.inl ⟨by rfl, ?_⟩; intro w hSw; (try dsimp only at hSw); go_simp; (try with_reducible rfl))
            try simp only [Act.put, List.setIfInBounds_toArray, List.set_cons_zero, List.set_cons_succ]
            refine' wpAnyH_take (i := 1) (oi := _) (v := _) ?zib1 (by kernel_rfl) ?zfb1 ?zrb1 ?zQb1 ?zyb1 (by assumption) ?zsb1
            case zib1 => (simp only [List.getElem?_toArray, List.getElem?_cons_zero, List.getElem?_cons_succ]; try rfl)
            case zfb1 => kernel_rfl
            case zrb1 => kernel_rfl
            case zQb1 => exact fun _ _ _ h => h
            case zyb1 => (refine Or.inl ⟨by rfl, ?_⟩; intro w hSw; (try dsimp only at hSw); go_simp; (try with_reducible rfl))
            try simp only [Act.put, List.setIfInBounds_toArray, List.set_cons_zero, List.set_cons_succ]
            refine' wpAnyH_take (i := 2) (oi := _) (v := _) ?zib2 (by kernel_rfl) ?zfb2 ?zrb2 ?zQb2 ?zyb2 (by assumption) ?zsb2
            case zib2 => (simp only [List.getElem?_toArray, List.getElem?_cons_zero, List.getElem?_cons_succ]; try rfl)
            case zfb2 => kernel_rfl
            case zrb2 => kernel_rfl
            case zQb2 => exact fun _ _ _ h => h
            case zyb2 => (refine Or.inl ⟨by rfl, ?_⟩; intro w hSw; (try dsimp only at hSw); go_simp; (try with_reducible rfl))
            try simp only [Act.put, List.setIfInBounds_toArray, List.set_cons_zero, List.set_cons_succ]
            refine' wpAnyH_take (i := 5) (oi := _) (v := _) ?zib5 (by kernel_rfl) ?zfb5 ?zrb5 ?zQb5 ?zyb5 (by assumption) ?zsb5
            case zib5 => (simp only [List.getElem?_toArray, List.getElem?_cons_zero, List.getElem?_cons_succ]; try rfl)
            case zfb5 => kernel_rfl
            case zrb5 => kernel_rfl
            case zQb5 => exact fun _ _ _ h => h
            case zyb5 => (refine Or.inl ⟨by rfl, ?_⟩; intro w hSw; (try dsimp only at hSw); go_simp; (try with_reducible rfl))
            try simp only [Act.put, List.setIfInBounds_toArray, List.set_cons_zero, List.set_cons_succ]
            refine wpAnyH_ready (rs := [3]) (by kernel_rfl) (by simp) ?_
            refine AllReadyH.cons (by simp only [List.getElem?_toArray, List.getElem?_cons_zero, List.getElem?_cons_succ]; rfl) (fun K hK => ?_) AllReadyH.nil
            go_simp
            refine hK.out _ _ (KS.out _ (by first | (exact Below.heap_alloc _ _ _ hz8))) (fun hHeld3 => ?_)
            clear hK K
            try simp only [Act.put, List.setIfInBounds_toArray, List.set_cons_zero, List.set_cons_succ]
            refine wpAnyH_ready (rs := [4]) (by kernel_rfl) (by simp) ?_
            refine AllReadyH.cons (by simp only [List.getElem?_toArray, List.getElem?_cons_zero, List.getElem?_cons_succ]; rfl) (fun K hK => ?_) AllReadyH.nil
            refine step_append_lies _ (by rfl) _ _ _ (by rfl) W6.heap.size 3 i0 _ 1 8 undIntsF hi hzz0 hzz1 hzz2 rfl (by decide) (.slice A12 k2 c12) k2 ((unF (ers.take k2)).map (Value.int .i64)) (by rfl) (World.ownsRow.alloc (World.ownsRow.drew HOW8.out) _) ⟨W8.heap.size, 0, none⟩ 1 1 [.int .i64 un] (by rfl) (by rfl) (World.news_of_block (cs := #[.int .i64 un]) (t := 3) (fr := (0, 0)) (heap_alloc_new W8.drew _)) (by simp [Value.oneCell']) Nat.one_pos (by simp only [maxLen]; omega) (by omega) (by simp; omega) _ rfl ?_
            intro g6 cap6 w6 hown6 hg6 hat6 hlt6
            refine hK.out _ _ (KS.out _ ((hg6.block eb (by simp; omega) (fun e => HNO.out e.symm)).trans (Below.heap_alloc _ _ _ hz8))) (fun hHeld4 => ?_)
            clear hK K
            try simp only [Act.put, List.setIfInBounds_toArray, List.set_cons_zero, List.set_cons_succ]
            refine' wpAnyH_take (i := 6) (oi := _) (v := _) ?zib6 (by kernel_rfl) ?zfb6 ?zrb6 ?zQb6 ?zyb6 (by assumption) ?zsb6
            case zib6 => (simp only [List.getElem?_toArray, List.getElem?_cons_zero, List.getElem?_cons_succ]; try rfl)
            case zfb6 => kernel_rfl
            case zrb6 => kernel_rfl
            case zQb6 => exact fun _ _ _ h => h
            case zyb6 => (refine Or.inl ⟨by rfl, ?_⟩; intro w hSw; (try dsimp only at hSw); go_simp; (try with_reducible rfl))
            try simp only [Act.put, List.setIfInBounds_toArray, List.set_cons_zero, List.set_cons_succ]
            refine' wpAnyH_take (i := 7) (oi := _) (v := _) ?zib7 (by kernel_rfl) ?zfb7 ?zrb7 ?zQb7 ?zyb7 (by assumption) ?zsb7
            case zib7 => (simp only [List.getElem?_toArray, List.getElem?_cons_zero, List.getElem?_cons_succ]; try rfl)
            case zfb7 => kernel_rfl
            case zrb7 => kernel_rfl
            case zQb7 => exact fun _ _ _ h => h
            case zyb7 => (refine Or.inl ⟨by rfl, ?_⟩; intro w hSw; (try dsimp only at hSw); go_simp; (try with_reducible rfl))
            try simp only [Act.put, List.setIfInBounds_toArray, List.set_cons_zero, List.set_cons_succ]
            refine' wpAnyH_take (i := 8) (oi := _) (v := _) ?zib8 (by kernel_rfl) ?zfb8 ?zrb8 ?zQb8 ?zyb8 (by assumption) ?zsb8
            case zib8 => (simp only [List.getElem?_toArray, List.getElem?_cons_zero, List.getElem?_cons_succ]; try rfl)
            case zfb8 => kernel_rfl
            case zrb8 => kernel_rfl
            case zQb8 => exact fun _ _ _ h => h
            case zyb8 => (refine Or.inl ⟨by rfl, ?_⟩; intro w hSw; (try dsimp only at hSw); go_simp; (try with_reducible rfl))
            try simp only [Act.put, List.setIfInBounds_toArray, List.set_cons_zero, List.set_cons_succ]
            refine' wpAnyH_take (i := 9) (oi := _) (v := _) ?zib9 (by kernel_rfl) ?zfb9 ?zrb9 ?zQb9 ?zyb9 (by assumption) ?zsb9
            case zib9 => (simp only [List.getElem?_toArray, List.getElem?_cons_zero, List.getElem?_cons_succ]; try rfl)
            case zfb9 => kernel_rfl
            case zrb9 => kernel_rfl
            case zQb9 => exact fun _ _ _ h => h
            case zyb9 => (refine Or.inl ⟨by rfl, ?_⟩; intro w hSw; (try dsimp only at hSw); go_simp; (try with_reducible rfl))
            try simp only [Act.put, List.setIfInBounds_toArray, List.set_cons_zero, List.set_cons_succ]
            refine' wpAnyH_take (i := 10) (oi := _) (v := _) ?zib10 (by kernel_rfl) ?zfb10 ?zrb10 ?zQb10 ?zyb10 (by assumption) ?zsb10
            case zib10 => (simp only [List.getElem?_toArray, List.getElem?_cons_zero, List.getElem?_cons_succ]; try rfl)
            case zfb10 => kernel_rfl
            case zrb10 => kernel_rfl
            case zQb10 => exact fun _ _ _ h => h
            case zyb10 => (refine Or.inl ⟨by rfl, ?_⟩; intro w hSw; (try dsimp only at hSw); go_simp; (try with_reducible rfl))
            try simp only [Act.put, List.setIfInBounds_toArray, List.set_cons_zero, List.set_cons_succ]
            refine' wpAnyH_take (i := 11) (oi := _) (v := _) ?zib11 (by kernel_rfl) ?zfb11 ?zrb11 ?zQb11 ?zyb11 (by assumption) ?zsb11
            case zib11 => (simp only [List.getElem?_toArray, List.getElem?_cons_zero, List.getElem?_cons_succ]; try rfl)
            case zfb11 => kernel_rfl
            case zrb11 => kernel_rfl
            case zQb11 => exact fun _ _ _ h => h
            case zyb11 => (refine Or.inl ⟨by rfl, ?_⟩; intro w hSw; (try dsimp only at hSw); go_simp; (try with_reducible rfl))
            try simp only [Act.put, List.setIfInBounds_toArray, List.set_cons_zero, List.set_cons_succ]
            refine' wpAnyH_take (i := 12) (oi := _) (v := _) ?zib12 (by kernel_rfl) ?zfb12 ?zrb12 ?zQb12 ?zyb12 (by assumption) ?zsb12
            case zib12 => (simp only [List.getElem?_toArray, List.getElem?_cons_zero, List.getElem?_cons_succ]; try rfl)
            case zfb12 => kernel_rfl
            case zrb12 => kernel_rfl
            case zQb12 => exact fun _ _ _ h => h
            case zyb12 => (refine Or.inl ⟨by rfl, ?_⟩; intro w hSw; (try dsimp only at hSw); go_simp; (try with_reducible rfl))
            try simp only [Act.put, List.setIfInBounds_toArray, List.set_cons_zero, List.set_cons_succ]
            refine wpAnyH_done (by kernel_rfl) ?_ _
            go_wp2_with fail
            go_roundw
            case rel =>
              refine ⟨k2 + 1, by omega, by go_num, ?_, Lib.hid ?_, Lib.hid (((HR8.out.drew).alloc (by simp; omega) _).grown hg6 (by simp; omega) fun q hq => (World.ownsRow.lt HOW8.out q hq).1)⟩
              · rw [HRK.out, er]; simp [← ByteArray.toList_eq]
              · rw [HTK.out, List.map_append]; exact hown6
            case measure => simp [intOf]; omega
        · obtain rfl : k2 = ers.length := by omega
          have how := HOW.out
          rw [List.take_length] at how ⊢
          obtain ⟨W10, e10⟩ : ∃ W10, wr = W10 := ⟨_, rfl⟩
          rw [e10] at how HBX2 hzx ⊢
          have HOW10 := Lib.hid how
          have HT10 := Lib.hid (HT6.out.below HBX2.out)
          have HB10 := Lib.hid (HB6.out.trans (HBX2.out.mono HB6.out.size))
          obtain ⟨a4, b4, f4⟩ := HT10.out.cells
          have hz10 := HT10.out.lt
          clear how HOW e10 hi hzz0 hzz1 hzz2
          have HLW : Hid (ruF ers = false → ∀ c ∈ T.chs, decide (c.t ∈ unF ers) = true) := by
            show _ → _
            intro h c hc
            obtain ⟨x, hx, e⟩ := HFX2.out (ruF_none h) c hc
            exact decide_eq_true (List.mem_map.2 ⟨x, hx, e⟩)
          obtain ⟨R, eR⟩ : ∃ R, ruF ers = R := ⟨_, rfl⟩
          rw [eR] at HLW ⊢
          clear eR HFX2
          go_wp2_with fail
          go_loopw [62] (fun i wz => ∃ k3 : Nat, k3 ≤ T.chs.length ∧ i = .int .i64 k3 ∧ Hid (Below W10.heap.size W10 wz)) (fun i _ => T.chs.length - (intOf i).toNat)
          case atStart => exact ⟨0, Nat.zero_le _, rfl, Lib.hid (Below.refl _ _)⟩
          case round =>
            obtain ⟨k3, hk3, rfl, HBZ⟩ := hrel
            have hzz := HBZ.out.size
            by_cases hkl3 : k3 < T.chs.length
            · have HTL := HT10.out.below HBZ.out
              have hlw := fun h => HLW.out h _ (List.getElem_mem hkl3)
              obtain ⟨b3, o3, rfl, hbb3, x0, x1⟩ := HTL.chs k3 hkl3
              obtain ⟨q, eq⟩ : ∃ q, T.chs[k3] = q := ⟨_, rfl⟩
              rw [eq] at x0 x1 hlw
              obtain ⟨ct, ckk⟩ := q
              simp only at x0 x1 hlw
              obtain ⟨W8, e8⟩ : ∃ W8, wr.alloc (.cells #[.int .i64 ct, .int .i64 ckk] 56) = W8 := ⟨_, rfl⟩
              have hx8 : W8.heap[wr.heap.size]? = some (.cells #[.int .i64 ct, .int .i64 ckk] 56 (0, 0)) := by rw [← e8]; exact heap_alloc_new wr _
              have hb8 : Below wr.heap.size wr W8 := by rw [← e8]; exact alBelow _ _
              have hz8 : wr.heap.size < W8.heap.size := by rw [← e8]; simp
              have HR8 := Lib.hid (HBZ.out.trans (hb8.mono hzz))
              obtain ⟨eb, eeb⟩ : ∃ eb, wr.heap.size = eb := ⟨_, rfl⟩
              have HE8 := Lib.hid e8
              have HEB := Lib.hid eeb
              rw [eeb] at hx8 hz8
              have y0 : W8.cell? ⟨eb, 0, none⟩ = some (.int .i64 ct) := (cell_of_row W8 _ 0 _ _ _ hx8).trans rfl
              have HHS := Lib.hid (Has_any (unF ers) ct _ W8 (SlInt.of_own (own_keep HOW10.out fun g e => HR8.out.block g (World.ownsRow.lt HOW10.out g e).2) (by simp only [maxLen]; omega)))
              have HLW8 := Lib.hid hlw
              clear hx8 hb8 e8 eeb eq HTL hlw
              go_upto_region 19 with fail
              rw [HE8.out, HEB.out]
              cases R with
              | true =>
                go_wp2_with fail
                go_roundw
                case rel => exact ⟨k3 + 1, by omega, by go_num, HR8⟩
                case measure => simp [intOf]; omega
              | false =>
                rw [HLW8.out rfl] at HHS
                go_wp2_with fail
                refine HHS.out.mono ?_
                rintro e w' ⟨rfl, rfl⟩
                go_wp2_with fail
                go_roundw
                case rel => exact ⟨k3 + 1, by omega, by go_num, HR8⟩
                case measure => simp [intOf]; omega
            · obtain rfl : k3 = T.chs.length := by omega
              have HBF := Lib.hid (HB10.out.trans (HBZ.out.mono HB10.out.size))
              go_wp2_with fail
              go_roundw
              case rel => exact ⟨k + 1, by omega, by go_num, HBF⟩
              case measure => simp [intOf]; omega
    · obtain rfl : k = b.zones.length := by omega
      go_wp2_with fail
      go_ret
      exact ⟨rfl, HFIN.out _ HAr.out⟩
end Go.Proofs.YthggojpdcgcmaaaGreatDoor
