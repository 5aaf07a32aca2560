/- normed; NormOrder. -/
import Derived.Test.YteoliifghhlinaaN0
namespace Go.Proofs.Yteoliifghhlinaa
open Go.RowKit Go.Joins
open Classical
set_option linter.unusedVariables false
set_option linter.unusedSimpArgs false

theorem field_types (p : Option Addr) (n c : Nat) (f : Int) (q : Option Addr) (m d : Nat) (W : World) : (Instr.field 25 (.agg #[.slice p n c, .int .i64 f, .slice q m d]) 0).run Try.prog W = .ok (.slice p n c) W := by kernel_rfl

set_option maxRecDepth 100000 in
set_option maxHeartbeats 4000000 in
theorem normed_any (w : World) :
    Calls Try.prog 11 #[] w fun e w' => e = .returned (.bool true) ∧ Below w.heap.size w w' := by
  go_enter Try.func11, Try.ntmps11
  go_wp2_with fail
  refine (sample_any _).mono ?_
  rintro e w1 ⟨v1, rfl, ht1, hb1⟩
  go_wp2_with fail
  refine (sample_any _).mono ?_
  rintro e w2 ⟨v2, rfl, ht2, hb2⟩
  go_wp2_with fail
  refine (Same_ok samT samT _ _ _ (ht1.below hb2) ht2 sam_chk0 sam_chk0).mono ?_
  rw [show decide (normT samT = normT samT) = true from by simp]
  rintro e w3 ⟨rfl, hb3⟩
  go_wp2_with fail
  refine (sample_any _).mono ?_
  rintro e w4 ⟨v4, rfl, ht4, hb4⟩
  go_wp2_with fail
  refine (sample_any _).mono ?_
  rintro e w5 ⟨v5, rfl, ht5, hb5⟩
  obtain ⟨p1, c1, p2, c2, rfl⟩ := tabForms ht5
  have hfd := fun W => field_types p1 samT.types.length c1 samT.first p2 samT.chs.length c2 W
  have hU : TabAt w5 (.agg #[.slice p1 samU.types.length c1, .int .i64 samU.first, .slice none samU.chs.length 0]) samU :=
    ⟨_, _, rfl, (tabOf_slices ht5).1, ⟨none, 0, rfl, fun h => absurd rfl h⟩, by decide⟩
  have HT4 := Lib.hid (ht4.below hb5)
  have HU := Lib.hid hU
  have HB5 : Hid (Below w.heap.size w w5) := hb1.trans ((hb2.trans ((hb3.trans ((hb4.trans (hb5.mono hb4.size)).mono hb3.size)).mono hb2.size)).mono hb1.size)
  clear hb1 hb2 hb3 hb4 hb5 ht1 ht2 ht4 ht5 hU
  go_wp2_with fail
  refine (Between_ok samT samU _ _ 0 15000 _ HT4.out HU.out sam_chk0 samU_chk0 (by decide)).mono ?_
  rw [sam_out]
  rintro e w6 ⟨vo, rfl, ho, hb6⟩
  have hs := own_sp ho (by decide)
  obtain ⟨p, c, rfl, -⟩ := hs.shape
  have HS := Lib.hid (hs.below (below_al w6 (.cells #[.int .i64 10000, .int .i64 15000] 29)))
  have HB6 := Lib.hid (HB5.out.trans (hb6.mono HB5.out.size))
  have hn := World.alloc_heap_new w6 (Obj.cells #[.int .i64 10000, .int .i64 15000] 29)
  have HL : Hid (SlCh (w6.alloc (.cells #[.int .i64 10000, .int .i64 15000] 29)) (.slice (some ⟨w6.heap.size, 0, none⟩) 1 1) (spL [(10000, 15000)])) := by
    refine ⟨⟨_, 1, rfl, fun _ => ⟨w6.heap.size, 0, rfl, by simp, fun i hi => ?_⟩⟩, by decide⟩
    have : i < 1 := hi
    obtain rfl : i = 0 := by omega
    exact ⟨(cells2 hn).1, (cells2 hn).2⟩
  clear hs ho hb6 hn
  go_wp2_with fail
  refine (EqSp_any (spL [(10000, 15000)]) (spL [(10000, 15000)]) _ _ _ HS.out HL.out).mono ?_
  rw [show decide (spL [(10000, 15000)] = spL [(10000, 15000)]) = true from by simp]
  rintro e w7 ⟨rfl, hb7⟩
  go_wp2
  go_ret
  exact ⟨rfl, (HB6.out.trans ((below_al _ _).mono HB6.out.size)).trans (hb7.mono (Nat.le_trans HB6.out.size (by simp)))⟩

theorem runO_cons {n l : Int} {c : Ch} {r : List Ch} {p : Int × Int} (h : runO n l (c :: r) = some p) : ¬ n < c.k ∧ ¬ c.k = l ∧ runO (if c.k = n then n + 1 else n) c.k r = some p := by
  unfold runO at h
  split at h
  · cases h
  · next hn => exact ⟨fun e => hn (.inl e), fun e => hn (.inr e), h⟩

set_option maxRecDepth 100000 in
set_option maxHeartbeats 4000000 in
theorem NormOrder_walk (t : Tab) (v : Value) (w : World) (hv : TabAt w v t) :
    Calls Try.prog 5 #[v] w fun e w' => e = .returned (.bool true) ∧ Below w.heap.size w w' := by
  obtain ⟨p1, c1, p2, c2, rfl⟩ := tabForms hv
  obtain ⟨W0, eW⟩ : ∃ W0, w.alloc (.cells #[.slice p1 t.types.length c1, .int .i64 t.first, .slice p2 t.chs.length c2] 25) = W0 := ⟨_, rfl⟩
  have HX : Hid (TBx W0 w.heap.size p1 c1 p2 c2 t) := by show TBx _ _ _ _ _ _ _; rw [← eW]; exact TBx.box hv
  have HB : Hid (Below w.heap.size w W0) := by show Below _ _ _; rw [← eW]; exact below_al _ _
  have HEW := Lib.hid eW
  clear hv eW
  go_enter Try.func5, Try.ntmps5
  go_wp2_with fail
  rw [HEW.out]
  refine (normed_any _).mono ?_
  rintro e w1 ⟨rfl, hb1⟩
  have HX1 := Lib.hid (HX.out.below hb1)
  have HB1 := Lib.hid (HB.out.trans (hb1.mono HB.out.size))
  obtain ⟨x0, x1, x2⟩ := HX1.out.cells
  clear hb1
  by_cases hk : chk t = 0
  · have HN := Lib.hid (Norm_ok t _ w1 HX1.out.2 hk)
    have hR := norm_order t
    have HOK := Lib.hid (norm_ok t (chk_ok t hk))
    have HF : Hid ((normT t).first = 0) := rfl
    obtain ⟨N, eN⟩ : ∃ N, normT t = N := ⟨_, rfl⟩
    rw [eN] at HN hR HOK HF
    obtain ⟨LL, hR⟩ := hR
    have HR := Lib.hid hR
    clear hk hR eN
    go_wp2_with fail
    refine HN.out.mono ?_
    rintro e w2 ⟨v2, rfl, hv2, hb2⟩
    obtain ⟨q1, d1, q2, d2, rfl⟩ := tabForms hv2
    have HB2 := Lib.hid (HB1.out.trans (hb2.mono HB1.out.size))
    have HY := Lib.hid (TBx.box hv2)
    obtain ⟨W3, e3⟩ : ∃ W3, w2.alloc (.cells #[.slice q1 N.types.length d1, .int .i64 N.first, .slice q2 N.chs.length d2] 25) = W3 := ⟨_, rfl⟩
    have HB3 : Hid (Below w.heap.size w W3) := by show Below _ _ _; rw [← e3]; exact HB2.out.alloc HB2.out.size _
    rw [e3] at HY
    have HY2 := Lib.hid (tabOf_slices HY.out.2).2.1
    have E3 := Lib.hid e3
    have hcl : N.chs.length ≤ 1000 := HOK.out.chs
    clear hb2 x0 x1 x2 hv2 e3
    go_wp2_with fail
    rw [E3.out]
    go_loopw [5, 6, 21] (fun s5 s6 s21 wr => ∃ (k : Nat) (n l : Int), k ≤ N.chs.length ∧ s21 = .int .i64 k ∧ s5 = .int .i64 n ∧ s6 = .int .i64 l ∧ runO n l (N.chs.drop k) = some ((N.types.length : Int), LL) ∧ 1 ≤ n ∧ n ≤ k + 1 ∧ Below W3.heap.size W3 wr) (fun _ _ s21 _ => N.chs.length - (intOf s21).toNat)
    case atStart => exact ⟨0, 1, 0, Nat.zero_le _, rfl, rfl, rfl, HR.out, by omega, by omega, Below.refl _ _⟩
    case round =>
      obtain ⟨k, n, l, hk, rfl, rfl, rfl, hrun, hn1, hn2, hbr⟩ := hrel
      have HBR := Lib.hid hbr
      by_cases hkL : k < N.chs.length
      · obtain ⟨⟨pp, cc, ep, hsh⟩, -⟩ := HY2.out
        obtain ⟨cb, co, rfl, hcb, hcat⟩ := hsh (by intro e; rw [e] at hkL; simp at hkL)
        injection ep with ep1 ep2 ep3
        subst ep1
        subst ep3
        have h1 := (hcat k hkL).below hbr hcb
        rw [List.drop_eq_getElem_cons hkL] at hrun
        obtain ⟨c, ec⟩ : ∃ c, N.chs[k] = c := ⟨_, rfl⟩
        rw [ec] at h1 hrun
        obtain ⟨g0, g1⟩ := h1
        obtain ⟨hr1, hr2, hr3⟩ := runO_cons hrun
        have HR3 := Lib.hid hr3
        have HR1 := Lib.hid hr1
        have hcw : cb < wr.heap.size := World.block_lt_of_cell? _ _ g0
        have hw1 : wrap64 (n + 1) = n + 1 := by unfold wrap64; omega
        clear hsh hcat ec hrun hr3 hbr hcb
        by_cases hcn : c.k = n
        · go_wp2
          go_roundw
          case rel => exact ⟨k + 1, n + 1, n, hkL, by go_num, rfl, rfl, by have := HR3.out; rw [if_pos hcn, hcn] at this; exact this, by omega, by omega, HBR.out.alloc HBR.out.size _⟩
          case measure => simp [intOf]; omega
        · go_wp2
          go_roundw
          case rel => exact ⟨k + 1, n, c.k, hkL, by go_num, rfl, rfl, by have := HR3.out; rw [if_neg hcn] at this; exact this, by omega, by omega, HBR.out.alloc HBR.out.size _⟩
          case measure => simp [intOf]; omega
      · obtain rfl : k = N.chs.length := by omega
        rw [List.drop_length] at hrun
        simp only [runO, Option.some.injEq, Prod.mk.injEq] at hrun
        obtain ⟨rfl, rfl⟩ := hrun
        obtain ⟨y0, y1, y2⟩ := (HY.out.below hbr).cells
        rw [HF.out] at y1
        have hyl := (HY.out.below hbr).lt
        go_wp2
        go_ret
        exact ⟨rfl, HB3.out.trans (HBR.out.mono HB3.out.size)⟩
  · have HN := Lib.hid (Norm_no t _ w1 HX1.out.2 hk)
    obtain ⟨K, eK⟩ : ∃ K, chk t = K := ⟨_, rfl⟩
    rw [eK] at HN hk
    have hk' : (K == 0) = false := by simpa using hk
    clear hk eK
    go_wp2_with fail
    refine HN.out.mono ?_
    rintro e w2 ⟨rfl, hb2⟩
    go_wp2
    go_ret
    exact ⟨rfl, (HB1.out.trans (hb2.mono HB1.out.size)).alloc (Nat.le_trans HB1.out.size hb2.size) _⟩
end Go.Proofs.Yteoliifghhlinaa
