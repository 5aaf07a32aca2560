/- WallBack: its walk. -/
import Derived.Test.YtddkedghpapepaaWallA
import Derived.Test.YtddkedghpapepaaWallMath
namespace Go.Proofs.Ytddkedghpapepaa
open Go.RowKit Go.Shelf
set_option linter.unusedVariables false
set_option linter.unusedSimpArgs false

/-- what the found times are -/
structure FT (t : Tab) (l : Int) (L : List Int) : Prop where
  loc : ∀ i (h : i < L.length), L[i] + (tyOf t L[i]).off = l ∧ chkW t L[i] = 0
  rise : ∀ i (h : i + 1 < L.length), L[i] < L[i + 1]
  many : L.length ≤ t.types.length
  size : L.length ≤ 1001

theorem FT.mk' (t : Tab) (h0 : chk t = 0) (l : Int) (h1 : -1000000000 ≤ l) (h2 : l ≤ 1000000000) : FT t l (fndT t l) := by
  have ok := chk_ok t h0
  refine ⟨fun i hi => ?_, fun i hi => List.pairwise_iff_getElem.1 (fndT_rise t ok l) i (i + 1) (by omega) hi (by omega), fndT_many t ok l (by omega) (by omega), ?_⟩
  · have hm := (mem_fndT t ok l (by omega) (by omega) (fndT t l)[i]).1 (List.getElem_mem hi)
    have ho := tyOf_off t (fndT t l)[i] ok
    exact ⟨hm, by rw [chkW_small t _ (by omega) (by omega)]; exact h0⟩
  · have := fnd_length l (uptoP t (t.chs.length + 1))
    rw [uptoP_length] at this
    have := ok.chs
    unfold fndT
    omega

set_option maxRecDepth 100000 in
set_option maxHeartbeats 8000000 in
theorem WallBack_walk (t : Tab) (v : Value) (a1 a2 : Int) (w : World) (hv : TabAt w v t) :
    Calls Try.prog 5 #[v, .int .i64 a1, .int .i64 a2] w fun e w' => e = .returned (.bool true) ∧ Below w.heap.size w w' := by
  have hx1 : (-200000 : Int) ≤ a1 % 400000 - 200000 := by omega
  have hx2 : a1 % 400000 - 200000 < 200000 := by omega
  have hy1 : (-200000 : Int) ≤ a2 % 400000 - 200000 := by omega
  have hy2 : a2 % 400000 - 200000 < 200000 := by omega
  have hq1 : chkW t (a1 % 400000 - 200000) = chk t := chkW_small t _ (by omega) (by omega)
  have hq2 : chkW t (a2 % 400000 - 200000) = chk t := chkW_small t _ (by omega) (by omega)
  obtain ⟨sv, cv, rfl, hs, hc⟩ := hv.val
  obtain ⟨W0, hW0⟩ : ∃ W0, w.alloc (.cells #[sv, .int .i64 t.first, cv] 25) = W0 := ⟨_, rfl⟩
  obtain ⟨hB, hS, q0, q1, q2⟩ := box3 hW0
  have HB := Lib.hid hB
  have HS := Lib.hid hS
  have HV := Lib.hid hv
  have HSV := Lib.hid hs
  have Q0 := Lib.hid q0
  have Q1 := Lib.hid q1
  have Q2 := Lib.hid q2
  have HW0 := Lib.hid hW0
  obtain ⟨K, eK⟩ : ∃ K : Int, chk t = K := ⟨_, rfl⟩
  rw [eK] at hq1 hq2
  have EK := Lib.hid eK
  have HQ1 := Lib.hid hq1
  have HQ2 := Lib.hid hq2
  clear hB hS hv hs hc q0 q1 q2 hW0 hq1 hq2 eK
  go_enter Try.func5, Try.ntmps5
  go_wp2_with fail
  rw [HW0.out]
  refine (walled_any _).mono ?_
  rintro e w1 ⟨rfl, hb1⟩
  have hsz1 := hb1.size
  have hz0 : w.heap.size < w1.heap.size := by have := HS.out; omega
  have c0 := (hb1.cell (p := ⟨w.heap.size, 0, none⟩) (by show w.heap.size < _; have := HS.out; omega)).trans Q0.out
  have c1 := (hb1.cell (p := ⟨w.heap.size, 1, none⟩) (by show w.heap.size < _; have := HS.out; omega)).trans Q1.out
  have c2 := (hb1.cell (p := ⟨w.heap.size, 2, none⟩) (by show w.heap.size < _; have := HS.out; omega)).trans Q2.out
  have b1 : Below w.heap.size w w1 := HB.out.trans (hb1.mono HB.out.size)
  have bb1 : Below w1.heap.size w1 w1 := Below.refl _ _
  go_wp2_with fail
  refine (Rest_any _ _ _ (by omega) (by omega)).mono ?_
  rintro e w' ⟨rfl, rfl⟩
  go_wp2_with fail
  refine (Rest_any _ _ _ (by omega) (by omega)).mono ?_
  rintro e w' ⟨rfl, rfl⟩
  by_cases hk : K = 0
  · subst hk
    have ok := chk_ok t EK.out
    have ho1 := tyOf_off t (a1 % 400000 - 200000) ok
    have HL1 := Lib.hid (Local_ok t _ _ _ (HV.out.below b1) HQ1.out)
    obtain ⟨O1, e1⟩ : ∃ O1, (tyOf t (a1 % 400000 - 200000)).off = O1 := ⟨_, rfl⟩
    rw [e1] at ho1 HL1
    have hq3 : chkW t (a1 % 400000 - 200000 + O1) = 0 := by rw [chkW_small t _ (by omega) (by omega)]; exact EK.out
    have hF1 := Lib.hid (fun W (hb : Below w.heap.size w W) => Find_int t _ _ W (HV.out.below hb) hq3)
    have hF2 := Lib.hid (fun W (hb : Below w.heap.size w W) => Find_int t _ _ W (HV.out.below hb) HQ2.out)
    have hLL := Lib.hid (fun W (hb : Below w.heap.size w W) (x : Int) (hx : chkW t x = 0) => Local_ok t _ x W (HV.out.below hb) hx)
    have hin : (a1 % 400000 - 200000) ∈ fndT t (a1 % 400000 - 200000 + O1) := by
      rw [mem_fndT t ok _ (by omega) (by omega), e1]
    have hft := FT.mk' t EK.out (a2 % 400000 - 200000) (by omega) (by omega)
    unfold fndT at hin hft
    obtain ⟨L1, eL1⟩ : ∃ L, fnd (a1 % 400000 - 200000 + O1) (uptoP t (t.chs.length + 1)) = L := ⟨_, rfl⟩
    obtain ⟨L2, eL2⟩ : ∃ L, fnd (a2 % 400000 - 200000) (uptoP t (t.chs.length + 1)) = L := ⟨_, rfl⟩
    rw [eL1] at hin hF1
    rw [eL2] at hft hF2
    obtain ⟨X, eX⟩ : ∃ X, a1 % 400000 = X := ⟨_, rfl⟩
    obtain ⟨Y, eY⟩ : ∃ Y, a2 % 400000 = Y := ⟨_, rfl⟩
    rw [eX] at hx1 hx2 HL1 hin hF1 ⊢
    rw [eY] at hy1 hy2 hft hF2 ⊢
    have HFT := Lib.hid hft
    have HIN := Lib.hid (decide_eq_true hin)
    clear e1 HQ1 HQ2 eX eY eL1 eL2 hft hin hq3
    obtain ⟨⟨p2, cap2, rfl, -⟩, -⟩ := HSV.out
    have htl := ok.many
    clear ok
    go_wp2_with fail
    refine HL1.out.mono ?_
    rintro e w2 ⟨rfl, hb2⟩
    have d0 := (hb2.cell (p := ⟨w.heap.size, 0, none⟩) hz0).trans c0
    have d1 := (hb2.cell (p := ⟨w.heap.size, 1, none⟩) hz0).trans c1
    have d2 := (hb2.cell (p := ⟨w.heap.size, 2, none⟩) hz0).trans c2
    have b2 : Below w.heap.size w w2 := b1.trans (hb2.mono b1.size)
    have bb2 : Below w1.heap.size w1 w2 := hb2
    have hz2 : w.heap.size < w2.heap.size := by have := hb2.size; omega
    go_wp2_with fail
    refine (hF1.out _ b2).mono ?_
    rintro e w3 ⟨u1, rfl, hu1, hb3⟩
    have f0 := (hb3.cell (p := ⟨w.heap.size, 0, none⟩) hz2).trans d0
    have f1 := (hb3.cell (p := ⟨w.heap.size, 1, none⟩) hz2).trans d1
    have f2 := (hb3.cell (p := ⟨w.heap.size, 2, none⟩) hz2).trans d2
    have b3 : Below w.heap.size w w3 := b2.trans (hb3.mono b2.size)
    have bb3 : Below w1.heap.size w1 w3 := bb2.trans (hb3.mono bb2.size)
    have hz3 : w.heap.size < w3.heap.size := by have := hb3.size; omega
    go_wp2_with fail
    refine (hF2.out _ b3).mono ?_
    rintro e w4 ⟨u2, rfl, hu2, hb4⟩
    have b4 : Below w.heap.size w w4 := b3.trans (hb4.mono b3.size)
    have bb4 : Below w1.heap.size w1 w4 := bb3.trans (hb4.mono bb3.size)
    have hu1' := hu1.below hb4
    go_wp2_with fail
    refine (Has_any L1 _ u1 _ hu1').mono ?_
    rw [HIN.out]
    rintro e w' ⟨rfl, rfl⟩
    obtain ⟨⟨p3, cap3, rfl, hu3⟩, hu4⟩ := hu2
    have g0 := (hb4.cell (p := ⟨w.heap.size, 0, none⟩) hz3).trans f0
    have HU3 := Lib.hid hu3
    have HB4 := Lib.hid b4
    have BB4 := Lib.hid bb4
    have hL2s := HFT.out.size
    have C0 := Lib.hid c0
    have C1 := Lib.hid c1
    have C2 := Lib.hid c2
    clear hu3 hu1 hu1' hb1 hb2 hb3 hb4 b1 b2 b3 b4 bb1 bb2 bb3 bb4 c0 c1 c2 d0 d1 d2 f0 f1 f2 g0 hF1 hF2
    go_wp2
    go_loopw [61] (fun s61 wr => ∃ k : Nat, k ≤ L2.length ∧ s61 = .int .i64 k ∧ Below w4.heap.size w4 wr) (fun s61 _ => L2.length - (intOf s61).toNat)
    case atStart => exact ⟨0, Nat.zero_le _, rfl, Below.refl _ _⟩
    case round =>
      obtain ⟨k, hk, rfl, hbel⟩ := hrel
      have hw1 : w1.heap.size ≤ w4.heap.size := BB4.out.size
      have bw1 : Below w1.heap.size w1 wr := BB4.out.trans (hbel.mono hw1)
      have c0 := (bw1.cell (p := ⟨w.heap.size, 0, none⟩) hz0).trans C0.out
      have c1 := (bw1.cell (p := ⟨w.heap.size, 1, none⟩) hz0).trans C1.out
      have c2 := (bw1.cell (p := ⟨w.heap.size, 2, none⟩) hz0).trans C2.out
      have BW := Lib.hid (HB4.out.trans (hbel.mono HB4.out.size))
      have HBEL := Lib.hid hbel
      by_cases hlt : k < L2.length
      · obtain ⟨bb, oo, rfl, hbl, hat⟩ := HU3.out (fun h => by rw [h] at hlt; simp at hlt)
        obtain ⟨y, ey⟩ : ∃ y, L2[k] = y := ⟨_, rfl⟩
        have a0 := (hbel.cell (p := ⟨bb, oo + k, none⟩) hbl).trans (hat k hlt)
        obtain ⟨hloc, hcw⟩ := HFT.out.loc k hlt
        rw [ey] at a0 hloc hcw
        have HL := Lib.hid (hLL.out wr BW.out y hcw)
        rw [hloc] at HL
        cases k with
        | zero =>
          have a0' : wr.cell? ⟨bb, oo, none⟩ = some (.int .i64 y) := a0
          clear hat hbel bw1 hloc hcw ey
          go_wp2_with fail
          refine HL.out.mono ?_
          rintro e w5 ⟨rfl, hb5⟩
          go_wp2
          go_roundw
          case rel => exact ⟨0 + 1, by omega, by go_num, HBEL.out.trans (hb5.mono HBEL.out.size)⟩
          case measure => simp [intOf]; omega
        | succ j =>
          obtain ⟨z, ez⟩ : ∃ z, L2[j] = z := ⟨_, rfl⟩
          have a1 := (hbel.cell (p := ⟨bb, oo + j, none⟩) hbl).trans (hat j (by omega))
          have hr := HFT.out.rise j hlt
          rw [ez] at a1 hr
          rw [ey] at hr
          have hblr : bb < wr.heap.size := by have := hbel.size; omega
          clear hat hbel bw1 hloc hcw ey ez
          go_wp2_with fail
          refine HL.out.mono ?_
          rintro e w5 ⟨rfl, hb5⟩
          have a1' := (hb5.cell (p := ⟨bb, oo + j, none⟩) hblr).trans a1
          go_wp2
          go_roundw
          case rel => exact ⟨j + 1 + 1, by omega, by go_num, HBEL.out.trans (hb5.mono HBEL.out.size)⟩
          case measure => simp [intOf]; omega
      · obtain rfl : k = L2.length := by omega
        have hmm := HFT.out.many
        have hmi : (L2.length : Int) ≤ t.types.length := by omega
        go_wp2
        go_ret
        exact ⟨rfl, BW.out⟩
  · have hkb : (K == 0) = false := by simpa using hk
    go_wp2_with fail
    refine (Local_no t _ _ _ (HV.out.below b1) (by rw [HQ1.out]; exact hk)).mono ?_
    rw [HQ1.out]
    rintro e w2 ⟨rfl, hb2⟩
    have b2 : Below w.heap.size w w2 := b1.trans (hb2.mono b1.size)
    go_wp2
    go_ret
    exact ⟨rfl, b2⟩

end Go.Proofs.Ytddkedghpapepaa
