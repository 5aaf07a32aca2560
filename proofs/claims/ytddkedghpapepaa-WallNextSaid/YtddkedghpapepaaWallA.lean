/- WallRises: its walk. -/
import Derived.Test.YtddkedghpapepaaWalled
namespace Go.Proofs.Ytddkedghpapepaa
open Go.RowKit Go.Shelf
set_option linter.unusedVariables false
set_option linter.unusedSimpArgs false

theorem cntF_congr (p q : Nat → Bool) (n : Nat) (h : ∀ i, i < n → p i = q i) : cntF p n = cntF q n := by
  unfold cntF
  refine List.countP_congr fun i hi => ?_
  rw [h i (List.mem_range.1 hi)]

theorem tAt_get (m : List Ch) (i : Nat) (h : i < m.length) : tAt m i = m[i].t := by simp [tAt, h]

theorem tyOf_step (t : Tab) (x : Int) (h : ∀ c ∈ t.chs, c.t ≠ x + 1) : tyOf t (x + 1) = tyOf t x := by
  have e : cntOf t.chs (x + 1) = cntOf t.chs x := by
    refine cntF_congr _ _ _ fun i hi => ?_
    rw [tAt_get _ _ hi]
    have := h _ (List.getElem_mem hi)
    simp only [decide_eq_decide]
    omega
  simp only [tyOf, kOf, e]

theorem chkW_small (t : Tab) (x : Int) (h1 : -1099511627776 ≤ x) (h2 : x ≤ 1099511627776) : chkW t x = chk t := by
  unfold chkW
  split
  · rename_i h; rw [if_pos (by simp [okTime]; omega), h]
  · rfl

def anyAt (y : Int) (m : List Ch) : Bool := m.any fun c => decide (c.t = y)
theorem anyAt_no {y : Int} {m : List Ch} (h : anyAt y m = false) : ∀ c ∈ m, c.t ≠ y := by simpa [anyAt] using h
theorem anyAt_succ (y : Int) (m : List Ch) (k : Nat) (h : k < m.length) : anyAt y (m.take (k + 1)) = (anyAt y (m.take k) || decide (m[k].t = y)) := by
  unfold anyAt
  rw [List.take_add_one, List.getElem?_eq_getElem h, List.any_append]
  simp only [Option.toList_some, List.any_cons, List.any_nil, Bool.or_false]

set_option maxHeartbeats 4000000 in
theorem WallRises_walk (t : Tab) (v : Value) (a1 : Int) (w : World) (hv : TabAt w v t) :
    Calls Try.prog 6 #[v, .int .i64 a1] w fun e w' => e = .returned (.bool true) ∧ Below w.heap.size w w' := by
  have hx1 : (-200000 : Int) ≤ a1 % 400000 - 200000 := by omega
  have hx2 : a1 % 400000 - 200000 < 200000 := by omega
  have hq1 : chkW t (a1 % 400000 - 200000) = chk t := chkW_small t _ (by omega) (by omega)
  have hq2 : chkW t (a1 % 400000 - 200000 + 1) = chk t := chkW_small t _ (by omega) (by omega)
  have hxe : Hid (a1 % 400000 - 200000 = a1 % 400000 - 200000) := rfl
  obtain ⟨sv, cv, rfl, hs, hc⟩ := hv.val
  obtain ⟨W0, hW0⟩ : ∃ W0, w.alloc (.cells #[sv, .int .i64 t.first, cv] 25) = W0 := ⟨_, rfl⟩
  obtain ⟨hB, hS, q0, q1, q2⟩ := box3 hW0
  have HB := Lib.hid hB
  have HS := Lib.hid hS
  have HV := Lib.hid hv
  have HC := Lib.hid hc
  have Q0 := Lib.hid q0
  have Q1 := Lib.hid q1
  have Q2 := Lib.hid q2
  have HW0 := Lib.hid hW0
  obtain ⟨K, eK⟩ : ∃ K : Int, chk t = K := ⟨_, rfl⟩
  rw [eK] at hq1 hq2
  have EK := Lib.hid eK
  have HQ1 := Lib.hid hq1
  have HQ2 := Lib.hid hq2
  clear hB hS hv hs hc q0 q1 q2 hW0 hq1 hq2 eK hxe
  go_enter Try.func6, Try.ntmps6
  go_wp2_with fail
  rw [HW0.out]
  refine (walled_any _).mono ?_
  rintro e w1 ⟨rfl, hb1⟩
  have hsz1 := hb1.size
  have hz0 : w.heap.size < w1.heap.size := by have := HS.out; omega
  have c0 := (hb1.cell (p := ⟨w.heap.size, 0, none⟩) (by show w.heap.size < _; have := HS.out; omega)).trans Q0.out
  have c1 := (hb1.cell (p := ⟨w.heap.size, 1, none⟩) (by show w.heap.size < _; have := HS.out; omega)).trans Q1.out
  have c2 := (hb1.cell (p := ⟨w.heap.size, 2, none⟩) (by show w.heap.size < _; have := HS.out; omega)).trans Q2.out
  have b1 : Below w.heap.size w w1 := HB.out.trans (hb1.mono HB.out.size)
  go_wp2_with fail
  refine (Rest_any _ _ _ (by omega) (by omega)).mono ?_
  rintro e w' ⟨rfl, rfl⟩
  by_cases hk : K = 0
  · subst hk
    have ok := chk_ok t EK.out
    have hch := ok.chs
    have ho1 := tyOf_off t (a1 % 400000 - 200000) ok
    have ho2 := tyOf_off t (a1 % 400000 - 200000 + 1) ok
    have hstep : anyAt (a1 % 400000 - 200000 + 1) t.chs = false → (tyOf t (a1 % 400000 - 200000 + 1)).off = (tyOf t (a1 % 400000 - 200000)).off := fun h => by rw [tyOf_step t _ (anyAt_no h)]
    have HL1 := Lib.hid (Local_ok t _ _ _ (HV.out.below b1) HQ1.out)
    have HL2 := Lib.hid (fun W (hb : Below w.heap.size w W) => Local_ok t _ _ _ (HV.out.below hb) HQ2.out)
    obtain ⟨O1, e1⟩ : ∃ O1, (tyOf t (a1 % 400000 - 200000)).off = O1 := ⟨_, rfl⟩
    obtain ⟨O2, e2⟩ : ∃ O2, (tyOf t (a1 % 400000 - 200000 + 1)).off = O2 := ⟨_, rfl⟩
    rw [e1] at ho1 HL1 hstep
    rw [e2] at ho2 HL2 hstep
    obtain ⟨X, eX⟩ : ∃ X, a1 % 400000 = X := ⟨_, rfl⟩
    rw [eX] at hx1 hx2 HL1 HL2 hstep ⊢
    have HST := Lib.hid hstep
    clear hstep e1 e2 ok HQ1 HQ2 eX
    obtain ⟨⟨p2, cap2, rfl, hcs⟩, -⟩ := HC.out
    have HCS := Lib.hid hcs
    clear hcs HC
    go_wp2_with fail
    refine HL1.out.mono ?_
    rintro e w2 ⟨rfl, hb2⟩
    have d0 := (hb2.cell (p := ⟨w.heap.size, 0, none⟩) hz0).trans c0
    have d1 := (hb2.cell (p := ⟨w.heap.size, 1, none⟩) hz0).trans c1
    have d2 := (hb2.cell (p := ⟨w.heap.size, 2, none⟩) hz0).trans c2
    have b2 : Below w.heap.size w w2 := b1.trans (hb2.mono b1.size)
    have hz2 : w.heap.size < w2.heap.size := by have := hb2.size; omega
    go_wp2_with fail
    refine (HL2.out _ b2).mono ?_
    rintro e w3 ⟨rfl, hb3⟩
    have b3 : Below w.heap.size w w3 := b2.trans (hb3.mono b2.size)
    have f2 := (hb3.cell (p := ⟨w.heap.size, 2, none⟩) hz2).trans d2
    have HB3 := Lib.hid b3
    clear b1 b2 b3 hb1 hb2 hb3
    go_wp2
    go_loopw [42, 9] (fun s42 s9 wr => ∃ k : Nat, k ≤ t.chs.length ∧ s42 = .int .i64 k ∧ s9 = .bool (anyAt (X - 200000 + 1) (t.chs.take k)) ∧ Below w.heap.size w wr) (fun s42 _ _ => t.chs.length - (intOf s42).toNat)
    case atStart => exact ⟨0, Nat.zero_le _, rfl, rfl, HB3.out⟩
    case round =>
      obtain ⟨k, hk, rfl, rfl, hbel⟩ := hrel
      by_cases hlt : k < t.chs.length
      · obtain ⟨bb, oo, rfl, hbl, hat⟩ := HCS.out (fun h => by rw [h] at hlt; simp at hlt)
        obtain ⟨y, ey⟩ : ∃ y, t.chs[k] = y := ⟨_, rfl⟩
        have hat' := (hat k hlt).below hbel hbl
        have hnx := anyAt_succ (X - 200000 + 1) t.chs k hlt
        rw [ey] at hat' hnx
        obtain ⟨k0, k1⟩ := hat'
        obtain ⟨S, eS⟩ : ∃ S, anyAt (X - 200000 + 1) (t.chs.take k) = S := ⟨_, rfl⟩
        rw [eS] at hnx ⊢
        have HNX := Lib.hid hnx
        have HBEL := Lib.hid hbel
        clear hat hnx eS ey hbel
        cases S
        · by_cases hy : y.t = X - 200000 + 1
          · have hyb : (y.t == X - 200000 + 1) = true := by simpa using hy
            go_wp2
            go_roundw
            case rel => exact ⟨k + 1, by omega, by go_num, by rw [HNX.out]; simp [hy], HBEL.out.alloc (HBEL.out.size) _⟩
            case measure => simp [intOf]; omega
          · have hyb : (y.t == X - 200000 + 1) = false := by simpa using hy
            go_wp2
            go_roundw
            case rel => exact ⟨k + 1, by omega, by go_num, by rw [HNX.out]; simp [hy], HBEL.out.alloc (HBEL.out.size) _⟩
            case measure => simp [intOf]; omega
        · go_wp2
          go_roundw
          case rel => exact ⟨k + 1, by omega, by go_num, by rw [HNX.out]; simp, HBEL.out.alloc (HBEL.out.size) _⟩
          case measure => simp [intOf]; omega
      · obtain rfl : k = t.chs.length := by omega
        have hst2 := HST.out
        rw [List.take_length]
        obtain ⟨S, eS⟩ : ∃ S, anyAt (X - 200000 + 1) t.chs = S := ⟨_, rfl⟩
        rw [eS] at hst2 ⊢
        cases S
        · obtain rfl := hst2 rfl
          have hne : (X - 200000 + 1 + O2 == X - 200000 + O2 + 1) = true := by simp; omega
          go_wp2
          go_ret
          exact ⟨rfl, hbel⟩
        · go_wp2
          go_ret
          exact ⟨rfl, hbel⟩
  · have hkb : (K == 0) = false := by simpa using hk
    go_wp2_with fail
    refine (Local_no t _ _ _ (HV.out.below b1) (by rw [HQ1.out]; exact hk)).mono ?_
    rw [HQ1.out]
    rintro e w2 ⟨rfl, hb2⟩
    have d0 := (hb2.cell (p := ⟨w.heap.size, 0, none⟩) hz0).trans c0
    have d1 := (hb2.cell (p := ⟨w.heap.size, 1, none⟩) hz0).trans c1
    have d2 := (hb2.cell (p := ⟨w.heap.size, 2, none⟩) hz0).trans c2
    have b2 : Below w.heap.size w w2 := b1.trans (hb2.mono b1.size)
    go_wp2_with fail
    refine (Local_no t _ _ _ (HV.out.below b2) (by rw [HQ2.out]; exact hk)).mono ?_
    rw [HQ2.out]
    rintro e w3 ⟨rfl, hb3⟩
    have b3 : Below w.heap.size w w3 := b2.trans (hb3.mono b2.size)
    go_wp2
    go_ret
    exact ⟨rfl, b3⟩

end Go.Proofs.Ytddkedghpapepaa
