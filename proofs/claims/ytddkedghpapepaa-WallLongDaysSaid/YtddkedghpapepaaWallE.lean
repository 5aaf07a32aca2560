/- WallLongDays: its walk. -/
import Derived.Test.YtddkedghpapepaaWallD
namespace Go.Proofs.Ytddkedghpapepaa
open Go.RowKit Go.Shelf
set_option linter.unusedVariables false
set_option linter.unusedSimpArgs false

theorem Long_no (t : Tab) (v : Value) (d : Int) (w : World) (hv : TabAt w v t) (h : chk t ≠ 0) :
    Calls Try.prog 21 #[v, .int .i64 d] w fun e w' => e = .returned (.tuple #[.int .i64 0, .int .i64 (chk t)]) ∧ Below w.heap.size w w' := by
  obtain ⟨sv, cv, rfl⟩ := hv.parts
  obtain ⟨W0, hW0⟩ : ∃ W0, w.alloc (.cells #[sv, .int .i64 t.first, cv] 25) = W0 := ⟨_, rfl⟩
  obtain ⟨hB, hS, q0, q1, q2⟩ := box3 hW0
  have hB2 : Below w.heap.size w (W0.alloc (.cells #[.int .i64 d] 3)) := hB.alloc (by omega) _
  have HC := Check_any t _ _ (hv.below hB2)
  obtain ⟨K, eK⟩ : ∃ K : Int, chk t = K := ⟨_, rfl⟩
  rw [eK] at HC h
  rw [eK]
  have hkb : (K == 0) = false := by simpa using h
  have HCC := Lib.hid HC
  have HW0 := Lib.hid hW0
  have HB2 := Lib.hid hB2
  clear HC hW0 hv h eK q0 q1 q2 hB hB2
  go_enter Try.func21, Try.ntmps21
  go_wp2_with fail
  rw [HW0.out]
  refine HCC.out.mono ?_
  rintro e w1 ⟨rfl, hb1⟩
  go_wp2
  go_ret2
  exact ⟨rfl, HB2.out.trans (hb1.mono HB2.out.size)⟩

set_option maxRecDepth 100000 in
set_option maxHeartbeats 8000000 in
theorem WallLongDays_walk (t : Tab) (v : Value) (a1 a2 : Int) (w : World) (hv : TabAt w v t) :
    Calls Try.prog 8 #[v, .int .i64 a1, .int .i64 a2] w fun e w' => e = .returned (.bool true) ∧ Below w.heap.size w w' := by
  have hx1 : (0 : Int) ≤ a1 % 9 := by omega
  have hx2 : a1 % 9 < 9 := by omega
  have hy1 : (0 : Int) ≤ a2 % 9 := by omega
  have hy2 : a2 % 9 < 9 := by omega
  obtain ⟨sv, cv, rfl, hs, hc⟩ := hv.val
  obtain ⟨W0, hW0⟩ : ∃ W0, w.alloc (.cells #[sv, .int .i64 t.first, cv] 25) = W0 := ⟨_, rfl⟩
  obtain ⟨hB, hS, q0, q1, q2⟩ := box3 hW0
  have HB := Lib.hid hB
  have HS := Lib.hid hS
  have HV := Lib.hid hv
  have HSV := Lib.hid hs
  have HCV := Lib.hid hc
  have Q0 := Lib.hid q0
  have Q1 := Lib.hid q1
  have Q2 := Lib.hid q2
  have HW0 := Lib.hid hW0
  clear hB hS hv hs hc q0 q1 q2 hW0
  go_enter Try.func8, Try.ntmps8
  go_wp2_with fail
  rw [HW0.out]
  refine (walled_any _).mono ?_
  rintro e w1 ⟨rfl, hb1⟩
  have hsz1 := hb1.size
  have hz0 : w.heap.size < w1.heap.size := by have := HS.out; omega
  have C0 := Lib.hid ((hb1.cell (p := ⟨w.heap.size, 0, none⟩) (by show w.heap.size < _; have := HS.out; omega)).trans Q0.out)
  have C1 := Lib.hid ((hb1.cell (p := ⟨w.heap.size, 1, none⟩) (by show w.heap.size < _; have := HS.out; omega)).trans Q1.out)
  have C2 := Lib.hid ((hb1.cell (p := ⟨w.heap.size, 2, none⟩) (by show w.heap.size < _; have := HS.out; omega)).trans Q2.out)
  have B1 := Lib.hid (HB.out.trans (hb1.mono HB.out.size))
  clear hb1 hsz1
  go_wp2_with fail
  refine (Rest_any _ _ _ (by omega) (by omega)).mono ?_
  rintro e w' ⟨rfl, rfl⟩
  go_wp2_with fail
  refine (Rest_any _ _ _ (by omega) (by omega)).mono ?_
  rintro e w' ⟨rfl, rfl⟩
  obtain ⟨F, eF⟩ : ∃ F, a1 % 9 = F := ⟨_, rfl⟩
  obtain ⟨G, eG⟩ : ∃ G, a2 % 9 = G := ⟨_, rfl⟩
  rw [eF] at hx1 hx2 ⊢
  rw [eG] at hy1 hy2 ⊢
  clear eF eG
  by_cases hk : chk t = 0
  · have ok := chk_ok t hk
    have HL := Lib.hid (fun W (hb : Below w.heap.size w W) (d : Int) (h1 : -10000000 ≤ d) (h2 : d ≤ 10000000) => Long_ok t _ d W (HV.out.below hb) hk h1 h2)
    have HA := Lib.hid (fun W (hb : Below w.heap.size w W) (x : Int) => At_ok t _ x W (HV.out.below hb) hk)
    have OK := Lib.hid ok
    have hnt := ok.many
    have hnc := ok.chs
    obtain ⟨m, em⟩ := Int.eq_ofNat_of_zero_le (show 0 ≤ G + 1 by omega)
    obtain rfl : G = (m : Int) - 1 := by omega
    have hm9 : m ≤ 9 := by omega
    clear ok hk em
    obtain ⟨⟨p1, cap1, rfl, -⟩, -⟩ := HSV.out
    obtain ⟨⟨p2, cap2, rfl, hcs⟩, -⟩ := HCV.out
    have HCS := Lib.hid hcs
    clear hcs
    go_wp2
    go_loopw [7, 8] (fun s7 s8 wr => ∃ j : Nat, j ≤ m ∧ s7 = .int .i64 (sumL t (F - 4) j) ∧ s8 = .int .i64 (F - 4 + j) ∧ Below w1.heap.size w1 wr) (fun _ s8 _ => (F - 4 + m - intOf s8).toNat)
    case atStart => exact ⟨0, Nat.zero_le _, by rw [sumL_zero], by simp, Below.refl _ _⟩
    case round =>
      obtain ⟨j, hj, rfl, rfl, hbel⟩ := hrel
      have c0 := (hbel.cell (p := ⟨w.heap.size, 0, none⟩) hz0).trans C0.out
      have c1 := (hbel.cell (p := ⟨w.heap.size, 1, none⟩) hz0).trans C1.out
      have c2 := (hbel.cell (p := ⟨w.heap.size, 2, none⟩) hz0).trans C2.out
      have hzr : w.heap.size < wr.heap.size := by have := hbel.size; omega
      have HBEL := Lib.hid hbel
      clear hbel
      have hsb := sumL_bound t (F - 4) j (by omega) hnc
      by_cases hlt : j < m
      · have hcall := Lib.hid (HL.out wr (B1.out.trans (HBEL.out.mono B1.out.size)) (F - 4 + j) (by omega) (by omega))
        have hle := lngT_le t OK.out (F - 4 + j) (by omega) (by omega)
        have hsu := sumL_succ t OK.out (F - 4) j (by omega) (by omega) (by omega)
        unfold lngT at hle hsu
        obtain ⟨L, eL⟩ : ∃ L, lng (F - 4 + j) (uptoP t (t.chs.length + 1)) = L := ⟨_, rfl⟩
        obtain ⟨S, eS⟩ : ∃ S, sumL t (F - 4) j = S := ⟨_, rfl⟩
        rw [eL] at hle hsu hcall
        rw [eS] at hsb hsu ⊢
        have HSU := Lib.hid hsu
        have hlt' : F - 4 + (j : Int) < F - 4 + (m - 1 + 1) := by omega
        clear eL eS hsu
        go_wp2_with fail
        refine hcall.out.mono ?_
        rintro e w2 ⟨rfl, hb2⟩
        have d0 := (hb2.cell (p := ⟨w.heap.size, 0, none⟩) hzr).trans c0
        have d1 := (hb2.cell (p := ⟨w.heap.size, 1, none⟩) hzr).trans c1
        have d2 := (hb2.cell (p := ⟨w.heap.size, 2, none⟩) hzr).trans c2
        go_wp2
        go_roundw
        case rel => exact ⟨j + 1, by omega, by rw [HSU.out], by go_num, HBEL.out.trans (hb2.mono HBEL.out.size)⟩
        case measure => simp [intOf]; omega
      · obtain rfl : j = m := by omega
        have hnlt : ¬ F - 4 + (j : Int) < F - 4 + (j - 1 + 1) := by omega
        have hB0 : Below w1.heap.size w1 wr := HBEL.out
        go_wp2
        go_loopw [13, 14, 69] (fun s13 s14 s69 w3 => ∃ k : Nat, k ≤ t.chs.length + 1 ∧ s13 = .int .i64 (giveAll (86400 * (F - 4)) (86400 * (F - 4 + j)) (uptoP t k)) ∧ (∃ x, s14 = .int .i64 x ∧ (k ≤ t.chs.length → x = atOf t k)) ∧ s69 = .int .i64 k ∧ Below w1.heap.size w1 w3) (fun _ _ s69 _ => t.chs.length + 1 - (intOf s69).toNat)
        case atStart => exact ⟨0, Nat.zero_le _, by simp [uptoP, giveAll], ⟨_, rfl, fun _ => rfl⟩, rfl, hB0⟩
        case round =>
          obtain ⟨k, hk, rfl, ⟨ax, rfl, hax⟩, rfl, hbel⟩ := hrel
          have c0 := (hbel.cell (p := ⟨w.heap.size, 0, none⟩) hz0).trans C0.out
          have c1 := (hbel.cell (p := ⟨w.heap.size, 1, none⟩) hz0).trans C1.out
          have c2 := (hbel.cell (p := ⟨w.heap.size, 2, none⟩) hz0).trans C2.out
          have hzr3 : w.heap.size < wr.heap.size := by have := hbel.size; omega
          have HB3 := Lib.hid hbel
          have HW3 := Lib.hid (B1.out.trans (hbel.mono B1.out.size))
          clear hbel
          have hgb := giveAll_bound (86400 * (F - 4)) (86400 * (F - 4 + j)) (by omega) (uptoP t k)
          rw [uptoP_length] at hgb
          have hgb2 : (86400 * (F - 4 + j) - 86400 * (F - 4)) * (k : Int) ≤ (86400 * 9) * 1001 := Int.mul_le_mul (by omega) (by omega) (by omega) (by omega)
          have hgs := giveAll_succ (86400 * (F - 4)) (86400 * (F - 4 + j)) t k
          by_cases hlt : k < t.chs.length + 1
          · obtain rfl := hax (by omega)
            have hgc := give_cnt t OK.out k (by omega) (86400 * (F - 4)) (86400 * (F - 4 + j)) (by omega) (by omega) (by omega) (by omega)
            have hof := tyOf_off t (atOf t k) OK.out
            have hcall := Lib.hid (HA.out wr HW3.out (atOf t k))
            have hat : -1099511627776 ≤ atOf t k ∧ atOf t k ≤ 1099511627776 := by
              cases k with
              | zero => simp [atOf]
              | succ i =>
                have := OK.out.ch t.chs[i] (List.getElem_mem (by omega))
                simp only [atOf]
                rw [tAt_in _ _ (by omega)]
                omega
            have hend : -1099511627776 ≤ endOf t k ∧ endOf t k ≤ 1099511627776 := by
              unfold endOf
              split
              · rename_i h
                have := OK.out.ch t.chs[k] (List.getElem_mem h)
                rw [tAt_in _ _ h]
                omega
              · omega
            have hnext : endOf t k = atOf t (k + 1) ∨ k = t.chs.length := by
              by_cases e : k < t.chs.length
              · left; simp [endOf, e, atOf]
              · right; omega
            obtain ⟨T, eT⟩ : ∃ T, tyOf t (atOf t k) = T := ⟨_, rfl⟩
            obtain ⟨A, eA⟩ : ∃ A, atOf t k = A := ⟨_, rfl⟩
            obtain ⟨g, eg⟩ : ∃ g, give (86400 * (F - 4)) (86400 * (F - 4 + j)) (pcAt t k) = g := ⟨_, rfl⟩
            obtain ⟨C, eC⟩ : ∃ C, giveAll (86400 * (F - 4)) (86400 * (F - 4 + j)) (uptoP t k) = C := ⟨_, rfl⟩
            obtain ⟨C', eC'⟩ : ∃ C', giveAll (86400 * (F - 4)) (86400 * (F - 4 + j)) (uptoP t (k + 1)) = C' := ⟨_, rfl⟩
            rw [eT] at hgc hof hcall
            rw [eA] at hgc hcall hat eT ⊢
            rw [eg] at hgc hgs
            rw [eC] at hgs hgb ⊢
            rw [eC'] at hgs
            obtain ⟨TO, TS, TN⟩ := T
            dsimp only at hgc hof
            have EC' := Lib.hid eC'
            have HGS := Lib.hid hgs
            have HNX := Lib.hid hnext
            have hC : 0 ≤ C ∧ C ≤ 1000000000 := by omega
            clear eC eC' eg hgs hnext hgb hgb2 eA eT
            by_cases hkn : k < t.chs.length
            · obtain ⟨bb, oo, rfl, hbl, hatc⟩ := HCS.out (fun h => by rw [h] at hkn; simp at hkn)
              have hac := (hatc k hkn).below HW3.out hbl
              have hec : endOf t k = t.chs[k].t := by unfold endOf; rw [if_pos hkn, tAt_in _ _ hkn]
              obtain ⟨y, ey⟩ : ∃ y, t.chs[k] = y := ⟨_, rfl⟩
              rw [ey] at hac hec
              obtain ⟨k0, k1⟩ := hac
              rw [hec] at hgc hend
              have HGC := Lib.hid hgc
              have HEC := Lib.hid hec
              clear hatc ey hgc hec
              go_wp2_with fail
              refine hcall.out.mono ?_
              rintro e w4 ⟨rfl, hb4⟩
              go_wp2
              go_roundw
              case rel => exact ⟨k + 1, by omega, by rw [EC'.out, HGC.out, HGS.out], ⟨_, rfl, fun _ => by rw [← HEC.out]; rcases HNX.out with h | h; exact h; omega⟩, by go_num, (HB3.out.trans (hb4.mono HB3.out.size)).alloc (by have := HB3.out.size; have := hb4.size; omega) _⟩
              case measure => simp [intOf]; omega
            · have hec : endOf t k = 1099511627776 := by unfold endOf; rw [if_neg hkn]
              rw [hec] at hgc
              have hge : (t.chs.length : Int) ≤ k := by omega
              have HGC := Lib.hid hgc
              clear hgc hec hend
              go_wp2_with fail
              refine hcall.out.mono ?_
              rintro e w4 ⟨rfl, hb4⟩
              go_wp2
              go_roundw
              case rel => exact ⟨k + 1, by omega, by rw [EC'.out, HGC.out, HGS.out], ⟨_, rfl, fun h => by omega⟩, by go_num, (HB3.out.trans (hb4.mono HB3.out.size)).alloc (by have := HB3.out.size; have := hb4.size; omega) _⟩
              case measure => simp [intOf]; omega
          · obtain rfl : k = t.chs.length + 1 := by omega
            have hnlt2 : ¬ ((t.chs.length + 1 : Nat) : Int) < (t.chs.length : Int) + 1 := by omega
            have heq : sumL t (F - 4) j = giveAll (86400 * (F - 4)) (86400 * (F - 4 + j)) (uptoP t (t.chs.length + 1)) := rfl
            rw [← heq]
            go_wp2
            go_ret
            exact ⟨rfl, HW3.out⟩
  · obtain ⟨K, eK⟩ : ∃ K : Int, chk t = K := ⟨_, rfl⟩
    have HL := Lib.hid (fun W (hb : Below w.heap.size w W) (d : Int) => Long_no t _ d W (HV.out.below hb) hk)
    rw [eK] at hk HL
    have hkb : (K == 0) = false := by simpa using hk
    clear eK hk
    go_wp2
    go_loopw [7, 8] (fun s7 s8 wr => s7 = .int .i64 0 ∧ s8 = .int .i64 (F - 4) ∧ w1 = wr) (fun _ _ _ => 0)
    case atStart => exact ⟨rfl, rfl, rfl⟩
    case round =>
      obtain ⟨rfl, rfl, rfl⟩ := hrel
      have c0 := C0.out
      have c1 := C1.out
      have c2 := C2.out
      go_wp2_with fail
      refine (HL.out _ B1.out _).mono ?_
      rintro e w2 ⟨rfl, hb2⟩
      go_wp2
      go_ret
      exact ⟨rfl, B1.out.trans (hb2.mono B1.out.size)⟩

end Go.Proofs.Ytddkedghpapepaa
