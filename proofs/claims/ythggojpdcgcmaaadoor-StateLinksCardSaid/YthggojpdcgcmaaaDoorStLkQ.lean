/- StateLinks: the walk. -/
import Derived.Test.YthggojpdcgcmaaaDoorQ10
namespace Go.Proofs.YthggojpdcgcmaaaDoor
open Go.RowKit Go.Joins Go.Maps
open Classical
set_option linter.unusedVariables false
set_option linter.unusedSimpArgs false

set_option maxRecDepth 100000 in
set_option maxHeartbeats 8000000 in
theorem StateLinks_walk (MK : MakeSays) (b : Bk) (rv zv lv : Value) (t : Int) (w : World) (hB : BookAt w.heap.size w rv zv lv b) (ht1 : -9223372036854775808 ≤ t) (ht2 : t ≤ 9223372036854775807) (hm : MaxLen w) (ht : Tab10 w) :
    Calls Tryd.prog 4 #[.agg #[rv, zv, lv], .int .i64 t] w fun e w' => e = .returned (.bool true) ∧ Below w.heap.size w w' := by
  have HBK := Lib.hid hB
  have hls := hB.ls
  have hrows := hB.l
  obtain ⟨p1, c1, rfl, -, -⟩ := hB.r
  obtain ⟨p2, c2, rfl, -, -⟩ := hB.z
  obtain ⟨p3, c3, rfl, ⟨hlen3, -⟩, hat⟩ := hB.l
  obtain ⟨W0, eW⟩ : ∃ W0, w.alloc (.cells #[.slice p1 b.rules.length c1, .slice p2 b.zones.length c2, .slice p3 b.links.length c3] 26) = W0 := ⟨_, rfl⟩
  have hb0 : Below w.heap.size w W0 := by rw [← eW]; exact (Below.refl _ _).alloc (Nat.le_refl _) _
  have hbx : W0.heap[w.heap.size]? = some (.cells #[.slice p1 b.rules.length c1, .slice p2 b.zones.length c2, .slice p3 b.links.length c3] 26 (0, 0)) := by rw [← eW]; exact heap_alloc_new w _
  have hl0 : w.heap.size < W0.heap.size := by rw [← eW]; simp
  have HEW := Lib.hid eW
  have HB0 := Lib.hid hb0
  have HST := Lib.hid (stated_any MK W0 (hm.below hb0) (ht.below hb0))
  have HAT := Lib.hid hat
  have HLS := Lib.hid hls
  have HLAW := Lib.hid (fun x hx => st_links (b := b) (x := x) hx t)
  have HSA : Hid (∀ (W : World) (nm : ByteArray), Below w.heap.size w W → nm.size ≤ 140737488351232 → Calls Tryd.prog 7 #[.agg #[.slice p1 b.rules.length c1, .slice p2 b.zones.length c2, .slice p3 b.links.length c3], .string nm, .int .i64 t] W (StPost (stR b nm t) W)) := by
    show ∀ W nm, _
    intro W nm hb hn
    exact StAt_any MK b _ _ _ nm t W ((HBK.out.below hb (Nat.le_refl _)).baseN hb.size) hn ht1 ht2 (hm.below hb) (ht.below hb)
  have HBOX : Hid (∀ (W : World), Below W0.heap.size W0 W → W.cell? ⟨w.heap.size, 0, none⟩ = some (.slice p1 b.rules.length c1) ∧ W.cell? ⟨w.heap.size, 1, none⟩ = some (.slice p2 b.zones.length c2) ∧ W.cell? ⟨w.heap.size, 2, none⟩ = some (.slice p3 b.links.length c3)) := by
    show ∀ W, _
    intro W hb
    have hx := (hb.block w.heap.size hl0).trans hbx
    exact ⟨(cell_of_row W _ 0 _ _ _ hx).trans rfl, (cell_of_row W _ 1 _ _ _ hx).trans rfl, (cell_of_row W _ 2 _ _ _ hx).trans rfl⟩
  clear eW hb0 hbx hB hm ht hat hls hrows
  go_enter Tryd.func4, Tryd.ntmps4
  go_upto_region 1 with fail
  rw [HEW.out]
  go_wp2_with fail
  refine HST.out.mono ?_
  rintro e w1 ⟨rfl, hb1⟩
  have HB1 := Lib.hid hb1
  have HBW1 := Lib.hid (HB0.out.trans (hb1.mono HB0.out.size))
  have hl1 : w.heap.size < w1.heap.size := by have := hb1.size; omega
  obtain ⟨g0, g1, g2⟩ := HBOX.out w1 hb1
  clear hb1 HST
  go_wp2_with fail
  go_loopw [16] (fun i wr => ∃ k : Nat, k ≤ b.links.length ∧ i = .int .i64 k ∧ Hid (Below w1.heap.size w1 wr)) (fun i _ => b.links.length - (intOf i).toNat)
  case atStart => exact ⟨0, Nat.zero_le _, rfl, Lib.hid (Below.refl _ _)⟩
  case round =>
    obtain ⟨k, hk, rfl, HBR⟩ := hrel
    have hzr := HBR.out.size
    have HBWr := Lib.hid (HBW1.out.trans (HBR.out.mono (Nat.le_of_lt hl1)))
    by_cases hkl : k < b.links.length
    · obtain ⟨bb, o, rfl, hbl, hcs⟩ := HAT.out (List.ne_nil_of_length_pos (by omega))
      have hck := hcs k hkl
      have hxm := List.getElem_mem hkl
      have hss := HLS.out _ hxm
      have hlaw := HLAW.out _ hxm
      obtain ⟨q, eq⟩ : ∃ q, b.links[k] = q := ⟨_, rfl⟩
      rw [eq] at hck hss hlaw
      obtain ⟨nm, tt⟩ := q
      simp only at hss hlaw
      have z0 := (HBWr.out.cell (p := ⟨bb, o + k * 2 + 0, none⟩) hbl).trans (hck 0 _ rfl)
      have z1 := (HBWr.out.cell (p := ⟨bb, o + k * 2 + 1, none⟩) hbl).trans (hck 1 _ rfl)
      simp only at z0 z1
      rw [Nat.add_zero] at z0
      obtain ⟨W3, e3⟩ : ∃ W3, wr.alloc (.cells #[.string nm, .string tt] 46) = W3 := ⟨_, rfl⟩
      have hx3 : W3.heap[wr.heap.size]? = some (.cells #[.string nm, .string tt] 46 (0, 0)) := by rw [← e3]; exact heap_alloc_new wr _
      have hb3 : Below wr.heap.size wr W3 := by rw [← e3]; exact (Below.refl _ _).alloc (Nat.le_refl _) _
      have hz3 : wr.heap.size < W3.heap.size := by rw [← e3]; simp
      have HB3 := Lib.hid (HBR.out.trans (hb3.mono hzr))
      have HBW3 := Lib.hid (HBW1.out.trans (HB3.out.mono (Nat.le_of_lt hl1)))
      have HX3 := Lib.hid hx3
      have HE3 := Lib.hid e3
      obtain ⟨lb, elb⟩ : ∃ lb, wr.heap.size = lb := ⟨_, rfl⟩
      have HLB := Lib.hid elb
      rw [elb] at hz3 HX3
      have y0 : W3.cell? ⟨lb, 0, none⟩ = some (.string nm) := (cell_of_row W3 _ 0 _ _ _ HX3.out).trans rfl
      obtain ⟨g0, g1, g2⟩ := HBOX.out W3 (HB1.out.trans (HB3.out.mono HB1.out.size))
      have HA1 := Lib.hid (HSA.out W3 nm HBW3.out hss.1)
      have HSA2 : Hid (∀ (W : World), Below w.heap.size w W → Calls Tryd.prog 7 #[.agg #[.slice p1 b.rules.length c1, .slice p2 b.zones.length c2, .slice (some ⟨bb, o, none⟩) b.links.length c3], .string tt, .int .i64 t] W (StPost (stR b nm t) W)) := by
        show ∀ W, _
        intro W hb
        have := HSA.out W tt hb hss.2
        rwa [← hlaw] at this
      obtain ⟨S, eS⟩ : ∃ S, stR b nm t = S := ⟨_, rfl⟩
      rw [eS] at HA1 HSA2
      obtain ⟨C, ⟨so, ss, sn⟩⟩ := S
      clear e3 hx3 eq hcs hck hb3 hxm elb hss hlaw eS
      go_upto_region 6 with fail
      rw [HE3.out, HLB.out]
      clear z0 z1
      go_wp2_with fail
      refine HA1.out.mono ?_
      rintro e w4 ⟨rfl, hb4⟩
      obtain ⟨W5, e5⟩ : ∃ W5, w4.alloc (.cells #[.int .i64 so, .bool ss, .string sn] 29) = W5 := ⟨_, rfl⟩
      have hb5 : Below w4.heap.size w4 W5 := by rw [← e5]; exact (Below.refl _ _).alloc (Nat.le_refl _) _
      have hx5 : W5.heap[w4.heap.size]? = some (.cells #[.int .i64 so, .bool ss, .string sn] 29 (0, 0)) := by rw [← e5]; exact heap_alloc_new w4 _
      have hz5 : w4.heap.size < W5.heap.size := by rw [← e5]; simp
      have hb35 : Below W3.heap.size W3 W5 := hb4.trans (hb5.mono hb4.size)
      have HB5 := Lib.hid (HB3.out.trans (hb35.mono HB3.out.size))
      have HBW5 := Lib.hid (HBW1.out.trans (HB5.out.mono (Nat.le_of_lt hl1)))
      have y1 : W5.cell? ⟨lb, 1, none⟩ = some (.string tt) := (cell_of_row W5 _ 1 _ _ _ ((hb35.block lb hz3).trans HX3.out)).trans rfl
      obtain ⟨tb, etb⟩ : ∃ tb, w4.heap.size = tb := ⟨_, rfl⟩
      have HTB := Lib.hid etb
      rw [etb] at hx5 hz5
      have HX5 := Lib.hid hx5
      have HE5 := Lib.hid e5
      obtain ⟨g0, g1, g2⟩ := HBOX.out W5 (HB1.out.trans (HB5.out.mono HB1.out.size))
      have HA2 := Lib.hid (HSA2.out W5 HBW5.out)
      clear hb4 hb5 hb35 hx5 e5 etb HA1 HSA2 y0
      go_upto_region 7 with fail
      rw [HE5.out, HTB.out]
      go_wp2_with fail
      refine HA2.out.mono ?_
      rintro e w6 ⟨rfl, hb6⟩
      have HB6 := Lib.hid (HB5.out.trans (hb6.mono HB5.out.size))
      have hx6 := (hb6.block tb hz5).trans HX5.out
      have hz6 : tb < w6.heap.size := Nat.lt_of_lt_of_le hz5 hb6.size
      have q0 : w6.cell? ⟨tb, 0, none⟩ = some (.int .i64 so) := (cell_of_row w6 _ 0 _ _ _ hx6).trans rfl
      have q1 : w6.cell? ⟨tb, 1, none⟩ = some (.bool ss) := (cell_of_row w6 _ 1 _ _ _ hx6).trans rfl
      have q2 : w6.cell? ⟨tb, 2, none⟩ = some (.string sn) := (cell_of_row w6 _ 2 _ _ _ hx6).trans rfl
      have hneq := fun W => neq_tySelf so ss sn W
      have hcz : (C == C) = true := by simp
      clear hb6 hx6 HA2 y1
      go_wp2_with fail
      go_roundw
      case rel => exact ⟨k + 1, by omega, by go_num, Lib.hid (HB6.out.alloc HB6.out.size _)⟩
      case measure => simp [intOf]; omega
    · obtain rfl : k = b.links.length := by omega
      go_wp2_with fail
      go_ret
      exact ⟨rfl, HBWr.out⟩
end Go.Proofs.YthggojpdcgcmaaaDoor
