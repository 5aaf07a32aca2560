/- backed, BackEras: the closed fact and the law's walk. -/
import Derived.Test.YtmjakhageehcoaaDoorBk3
import Derived.Test.YtmjakhageehcoaaDoorSam
namespace Go.Proofs.YtmjakhageehcoaaDoor
open Go.RowKit Go.Joins
open Classical
set_option linter.unusedVariables false
set_option linter.unusedSimpArgs false

theorem sam_norm : normT samT = samT := by
  have h1 : (⟨3600, false, ⟨#[66]⟩⟩ : Ty) ≠ ⟨0, false, ⟨#[65]⟩⟩ := by
    intro h
    injection h with h _ _
    exact absurd h (by decide)
  have h2 : (⟨0, false, ⟨#[65]⟩⟩ : Ty) ≠ ⟨3600, false, ⟨#[66]⟩⟩ := fun h => h1 h.symm
  unfold normT normR makeN
  have e1 : resH samT = ⟨0, false, ⟨#[65]⟩⟩ := rfl
  have e2 : resL samT = [(10000, ⟨3600, false, ⟨#[66]⟩⟩), (20000, ⟨0, false, ⟨#[65]⟩⟩)] := rfl
  rw [e1, e2]
  simp only [List.foldl_cons, List.foldl_nil]
  have s1 : stepN (begN ⟨0, false, ⟨#[65]⟩⟩) (10000, ⟨3600, false, ⟨#[66]⟩⟩) = ⟨[⟨0, false, ⟨#[65]⟩⟩, ⟨3600, false, ⟨#[66]⟩⟩], [⟨10000, 1⟩], ⟨3600, false, ⟨#[66]⟩⟩⟩ := by
    simp [stepN, begN, addTy, idxTy, h1, h2, List.findIdx_cons]
  rw [s1]
  have s2 : stepN ⟨[⟨0, false, ⟨#[65]⟩⟩, ⟨3600, false, ⟨#[66]⟩⟩], [⟨10000, 1⟩], ⟨3600, false, ⟨#[66]⟩⟩⟩ (20000, ⟨0, false, ⟨#[65]⟩⟩) = ⟨[⟨0, false, ⟨#[65]⟩⟩, ⟨3600, false, ⟨#[66]⟩⟩], [⟨10000, 1⟩, ⟨20000, 0⟩], ⟨0, false, ⟨#[65]⟩⟩⟩ := by
    simp [stepN, addTy, idxTy, h1, h2, List.findIdx_cons]
  rw [s2]
  rfl
theorem sam_back : backC samT ⟨#[65]⟩ = 0 := by
  have hn : nameB ⟨#[65]⟩ = true := by
    have h1 : allB ⟨#[65]⟩ 20 ⟨#[95, 47, 45]⟩ = true := by decide
    unfold nameB
    rw [h1, Bool.true_and]
    exact decide_eq_true ⟨65, rfl, by decide⟩
  unfold backC
  rw [if_neg (by rw [sam_chkZ]; simp), if_neg (by rw [hn]; simp), sam_norm, if_neg (by decide), if_neg, if_neg]
  · rintro ⟨i, hi, h⟩
    have : i = 0 ∨ i = 1 ∨ i = 2 := by have : i ≤ 2 := hi; omega
    rcases this with rfl | rfl | rfl <;> exact absurd h (by decide)
  · rintro ⟨c, hc, h⟩
    have : c = ⟨10000, 1⟩ ∨ c = ⟨20000, 0⟩ := by simpa [samT] using hc
    rcases this with rfl | rfl <;> exact absurd h (by decide)

set_option maxRecDepth 100000 in
set_option maxHeartbeats 4000000 in
theorem backed_any (w : World) (ht : Tab10 w) : Calls Tryd.prog 10 #[] w fun e w' => e = .returned (.bool true) ∧ Below w.heap.size w w' := by
  have HT := Lib.hid ht
  have HK := Lib.hid (fun W v (hb : TabAt W v samT) (h : Tab10 W) => Book_any samT v ⟨#[65]⟩ W hb (by decide) h)
  have hu : Hid (tAt samT.chs 0 = 10000) := by show _ = _; rfl
  clear ht
  go_enter Tryd.func10, Tryd.ntmps10
  go_wp2_with fail
  refine (sample_any _).mono ?_
  rintro e w1 ⟨v, rfl, hv, hb1⟩
  have HB1 := Lib.hid hb1
  have HV := Lib.hid hv
  clear hb1 hv
  go_wp2_with fail
  refine (HK.out _ _ HV.out (HT.out.below HB1.out)).mono ?_
  rintro e w2 ⟨hb2, ⟨h, -⟩ | ⟨-, Z, cz, p, ce, rfl, hbk⟩⟩
  · exact absurd sam_back h
  rw [sam_norm] at hbk
  have HB2 := Lib.hid (HB1.out.trans (hb2.mono HB1.out.size))
  obtain ⟨s0, s1, hZ⟩ := hbk.cells
  obtain ⟨p', cap', he, hc⟩ := hbk.ers.shape
  injection he with he1 _ he2
  subst he1 he2
  obtain ⟨b, o, rfl, hbl, hat⟩ := hc (by decide)
  have h0 := hat 0 (by decide)
  have hu0 : (ersOf samT)[0].til = 10000 := rfl
  obtain ⟨-, -, -, -, e4⟩ := h0
  rw [hu0, show o + 0 * 5 + 4 = o + 4 by omega] at e4
  have hl3 : (ersOf samT).length = 3 := rfl
  rw [hl3] at s1
  clear hb2 hbk hc hat hl3 hu0
  go_wp2
  go_ret
  exact ⟨rfl, HB2.out.alloc HB2.out.size _⟩

theorem backC_zero {t : Tab} {nm : ByteArray} (h : backC t nm = 0) : chk t = 0 := by
  unfold backC at h
  by_cases hc : chk t = 0
  · exact hc
  · rw [if_pos hc] at h
    exact absurd h hc
theorem Norm_exists (t : Tab) (v : Value) (w : World) (hv : TabAt w v t) :
    Calls Tryd.prog 12 #[v] w fun e w' => ∃ E q1 n1 d1 f q2 n2 d2, e = .returned (.tuple #[.agg #[.slice q1 n1 d1, .int .i64 f, .slice q2 n2 d2], .int .i64 E]) ∧ Below w.heap.size w w' := by
  by_cases h : chk t = 0
  · refine (Norm_ok t v w hv h).mono ?_
    rintro e w' ⟨v', rfl, h1, h2⟩
    obtain ⟨p1, c1, p2, c2, rfl⟩ := tabForms h1
    exact ⟨_, _, _, _, _, _, _, _, rfl, h2⟩
  · refine (Norm_no t v w hv h).mono ?_
    rintro e w' ⟨rfl, h2⟩
    exact ⟨_, _, _, _, _, _, _, _, rfl, h2⟩

/-- the law's walk, behind its book and its normal table -/
theorem er_same (x : Ty) : erOff x + erSave x = x.off := by
  unfold erOff erSave
  split <;> omega
theorem er_save (x : Ty) : decide (0 < erSave x) = x.save := by
  unfold erSave
  cases x.save <;> simp

set_option maxRecDepth 100000 in
set_option maxHeartbeats 8000000 in
theorem BackEras_walk (t : Tab) (v : Value) (nm : ByteArray) (w : World) (hv : TabAt w v t) (hs : nm.size ≤ maxLen) (ht : Tab10 w) :
    Calls Tryd.prog 3 #[v, .string nm] w fun e w' => e = .returned (.bool true) ∧ Below w.heap.size w w' := by
  obtain ⟨p1, c1, p2, c2, rfl⟩ := tabForms hv
  obtain ⟨W0, eW⟩ : ∃ W0, w.alloc (.cells #[.slice p1 t.types.length c1, .int .i64 t.first, .slice p2 t.chs.length c2] 25) = W0 := ⟨_, rfl⟩
  have g0 : W0.heap[w.heap.size]? = some (.cells #[.slice p1 t.types.length c1, .int .i64 t.first, .slice p2 t.chs.length c2] 25 (0, 0)) := by rw [← eW]; exact heap_alloc_new w _
  have hb0 : Below w.heap.size w W0 := by rw [← eW]; exact (Below.refl _ _).alloc (Nat.le_refl _) _
  have hl0 := (Array.getElem?_eq_some_iff.mp g0).1
  have HEW := Lib.hid eW
  have HT := Lib.hid ht
  have HV := Lib.hid (hv.below hb0)
  have HB := Lib.hid hb0
  have G0 := Lib.hid g0
  have HK := Lib.hid (fun W v (hb : TabAt W v t) (h : Tab10 W) => Book_any t v nm W hb hs h)
  clear eW g0 hb0 hv ht hs
  go_enter Tryd.func3, Tryd.ntmps3
  go_wp2_with fail
  rw [HEW.out]
  refine (backed_any _ (HT.out.below HB.out)).mono ?_
  rintro e w1 ⟨rfl, hb1⟩
  have HV1 := Lib.hid (HV.out.below hb1)
  have HB1 := Lib.hid (HB.out.trans (hb1.mono HB.out.size))
  have G1 := Lib.hid ((hb1.block _ hl0).trans G0.out)
  have hl1 := (Array.getElem?_eq_some_iff.mp G1.out).1
  have x0 : w1.cell? ⟨w.heap.size, 0, none⟩ = some (.slice p1 t.types.length c1) := (cell_of_row w1 _ 0 _ _ _ G1.out).trans rfl
  have x1 : w1.cell? ⟨w.heap.size, 1, none⟩ = some (.int .i64 t.first) := (cell_of_row w1 _ 1 _ _ _ G1.out).trans rfl
  have x2 : w1.cell? ⟨w.heap.size, 2, none⟩ = some (.slice p2 t.chs.length c2) := (cell_of_row w1 _ 2 _ _ _ G1.out).trans rfl
  clear hb1 HV HB G0 hl0
  go_wp2_with fail
  refine (HK.out _ _ HV1.out (HT.out.below HB1.out)).mono ?_
  rintro e w2 ⟨hb2, hcase⟩
  have HV2 := Lib.hid (HV1.out.below hb2)
  have HB2 := Lib.hid (HB1.out.trans (hb2.mono HB1.out.size))
  have G2 := Lib.hid ((hb2.block _ hl1).trans G1.out)
  have hl2 := (Array.getElem?_eq_some_iff.mp G2.out).1
  have HCS := Lib.hid hcase
  clear hb2 HV1 HB1 G1 hl1 x0 x1 x2 hcase
  have x0 : w2.cell? ⟨w.heap.size, 0, none⟩ = some (.slice p1 t.types.length c1) := (cell_of_row w2 _ 0 _ _ _ G2.out).trans rfl
  have x1 : w2.cell? ⟨w.heap.size, 1, none⟩ = some (.int .i64 t.first) := (cell_of_row w2 _ 1 _ _ _ G2.out).trans rfl
  have x2 : w2.cell? ⟨w.heap.size, 2, none⟩ = some (.slice p2 t.chs.length c2) := (cell_of_row w2 _ 2 _ _ _ G2.out).trans rfl
  rcases HCS.out with ⟨hne, rfl⟩ | ⟨h0, Z, cz, p, ce, rfl, hbk⟩
  · obtain ⟨C, eC⟩ : ∃ C, backC t nm = C := ⟨_, rfl⟩
    rw [eC] at hne ⊢
    have hc' : (C == 0) = false := by simpa using hne
    have hc'' : (C != 0) = true := by simpa using hne
    clear hne eC HCS HK
    have HNM := Lib.hid (fun W v (hb : TabAt W v t) => Norm_exists t v W hb)
    go_wp2_with fail
    obtain ⟨V3, e3⟩ : ∃ V3, w2.alloc (.cells #[.slice none 0 0, .slice none 0 0, .slice none 0 0] 31) = V3 := ⟨_, rfl⟩
    rw [e3]
    have hb3 : Below w2.heap.size w2 V3 := by rw [← e3]; exact (Below.refl _ _).alloc (Nat.le_refl _) _
    refine (HNM.out _ _ (HV2.out.below hb3)).mono ?_
    rintro e w4 ⟨E, q1, n1, d1, f, q2, n2, d2, rfl, hb4⟩
    have HB4 := Lib.hid (HB2.out.trans ((hb3.trans (hb4.mono hb3.size)).mono HB2.out.size))
    clear hb3 hb4 e3 x0 x1 x2
    go_wp2
    go_ret
    exact ⟨rfl, HB4.out.alloc HB4.out.size _⟩
  · have HC0 : Hid (chk t = 0) := by show _ = _; exact backC_zero h0
    have HNM := Lib.hid (fun W v (hb : TabAt W v t) => Norm_ok t v W hb HC0.out)
    have HNK := Lib.hid (norm_ok t (chk_ok t HC0.out))
    have hL : (ersOf (normT t)).length = (normT t).chs.length + 1 := ersUp_length _ _
    have HEL : Hid (∀ k (h : k < (ersOf (normT t)).length), (ersOf (normT t))[k] = erAt (normT t) k) := by
      show ∀ k h, _ = _
      intro k h
      simp [ersUp]
    obtain ⟨N, eN⟩ : ∃ N, normT t = N := ⟨_, rfl⟩
    rw [eN] at HNM HNK hbk hL HEL
    obtain ⟨L, eL⟩ : ∃ L, ersOf N = L := ⟨_, rfl⟩
    rw [eL] at hbk hL HEL
    have HBK := Lib.hid hbk
    clear h0 eN eL hbk HCS HK
    go_wp2_with fail
    obtain ⟨V3, e3⟩ : ∃ V3, w2.alloc (.cells #[.slice none 0 0, .slice (some ⟨Z, 0, none⟩) 1 cz, .slice none 0 0] 31) = V3 := ⟨_, rfl⟩
    rw [e3]
    have hb3 : Below w2.heap.size w2 V3 := by rw [← e3]; exact (Below.refl _ _).alloc (Nat.le_refl _) _
    have g3 : V3.heap[w2.heap.size]? = some (.cells #[.slice none 0 0, .slice (some ⟨Z, 0, none⟩) 1 cz, .slice none 0 0] 31 (0, 0)) := by rw [← e3]; exact heap_alloc_new w2 _
    have hl3 := (Array.getElem?_eq_some_iff.mp g3).1
    refine (HNM.out _ _ (HV2.out.below hb3)).mono ?_
    rintro e w4 ⟨v4, rfl, hv4, hb4⟩
    obtain ⟨q1, d1, q2, d2, rfl⟩ := tabForms hv4
    obtain ⟨V5, e5⟩ : ∃ V5, w4.alloc (.cells #[.slice q1 N.types.length d1, .int .i64 N.first, .slice q2 N.chs.length d2] 25) = V5 := ⟨_, rfl⟩
    have hb5 : Below w4.heap.size w4 V5 := by rw [← e5]; exact (Below.refl _ _).alloc (Nat.le_refl _) _
    have g5 : V5.heap[w4.heap.size]? = some (.cells #[.slice q1 N.types.length d1, .int .i64 N.first, .slice q2 N.chs.length d2] 25 (0, 0)) := by rw [← e5]; exact heap_alloc_new w4 _
    have h35 : Below V3.heap.size V3 V5 := hb4.trans (hb5.mono hb4.size)
    have HBK5 := Lib.hid ((HBK.out.below hb3).below h35)
    have HV5 := Lib.hid (hv4.below hb5)
    have HB5 := Lib.hid ((HB2.out.trans (hb3.mono HB2.out.size)).trans (h35.mono (HB2.out.trans (hb3.mono HB2.out.size)).size))
    have G3 := Lib.hid ((h35.block _ hl3).trans g3)
    have G5 := Lib.hid g5
    have E5 := Lib.hid e5
    have hz1 := (Array.getElem?_eq_some_iff.mp G3.out).1
    have hz2 := (Array.getElem?_eq_some_iff.mp G5.out).1
    have hz3 := hb3.size
    have hz4 := hb4.size
    clear e3 hb3 g3 hl3 hv4 hb4 e5 hb5 g5 h35 x0 x1 x2 HBK HV2 HB2 G2 HNM
    go_upto_region 7 with fail
    rw [E5.out]
    have b0 : V5.cell? ⟨w2.heap.size, 0, none⟩ = some (.slice none 0 0) := (cell_of_row V5 _ 0 _ _ _ G3.out).trans rfl
    have b1 : V5.cell? ⟨w2.heap.size, 1, none⟩ = some (.slice (some ⟨Z, 0, none⟩) 1 cz) := (cell_of_row V5 _ 1 _ _ _ G3.out).trans rfl
    have b2 : V5.cell? ⟨w2.heap.size, 2, none⟩ = some (.slice none 0 0) := (cell_of_row V5 _ 2 _ _ _ G3.out).trans rfl
    have n0 : V5.cell? ⟨w4.heap.size, 0, none⟩ = some (.slice q1 N.types.length d1) := (cell_of_row V5 _ 0 _ _ _ G5.out).trans rfl
    have n1 : V5.cell? ⟨w4.heap.size, 1, none⟩ = some (.int .i64 N.first) := (cell_of_row V5 _ 1 _ _ _ G5.out).trans rfl
    have n2 : V5.cell? ⟨w4.heap.size, 2, none⟩ = some (.slice q2 N.chs.length d2) := (cell_of_row V5 _ 2 _ _ _ G5.out).trans rfl
    obtain ⟨s0, s1, hZ⟩ := HBK5.out.cells
    rw [hL] at s1
    have hcm := HNK.out.chs
    have HLL := Lib.hid hL
    clear hL
    go_quiet (fail)
    go_wp2_with fail
    clear b0 b1 b2 n0 n1 n2 s0 s1 hZ
    go_loopw [65] (fun i wr => ∃ k : Nat, k ≤ N.chs.length + 1 ∧ i = .int .i64 k ∧ Below V5.heap.size V5 wr) (fun i _ => N.chs.length + 1 - (intOf i).toNat)
    case atStart => exact ⟨0, Nat.zero_le _, rfl, below_drewN' (Below.refl _ _) _⟩
    case round =>
      obtain ⟨k, hk, rfl, hbr⟩ := hrel
      have HBR := Lib.hid hbr
      have HBKR := Lib.hid (HBK5.out.below hbr)
      have HVR := Lib.hid (HV5.out.below hbr)
      have HBF := Lib.hid (HB5.out.trans (hbr.mono HB5.out.size))
      have G5R := Lib.hid ((hbr.block _ hz2).trans G5.out)
      have hzr := hbr.size
      have n0 : wr.cell? ⟨w4.heap.size, 0, none⟩ = some (.slice q1 N.types.length d1) := (cell_of_row wr _ 0 _ _ _ G5R.out).trans rfl
      have n1 : wr.cell? ⟨w4.heap.size, 1, none⟩ = some (.int .i64 N.first) := (cell_of_row wr _ 1 _ _ _ G5R.out).trans rfl
      have n2 : wr.cell? ⟨w4.heap.size, 2, none⟩ = some (.slice q2 N.chs.length d2) := (cell_of_row wr _ 2 _ _ _ G5R.out).trans rfl
      have hwr4 : w4.heap.size < wr.heap.size := by omega
      clear hbr
      by_cases hkn : k < N.chs.length + 1
      · have hkL : k < L.length := by have := HLL.out; omega
        obtain ⟨p', cap', he, hc⟩ := HBKR.out.ers.shape
        injection he with he1 _ he2
        subst he1 he2
        obtain ⟨b, o, rfl, hbl, hat⟩ := hc (fun e => by rw [e] at hkL; exact absurd hkL (Nat.not_lt_zero _))
        have hE := hat k hkL
        rw [HEL.out] at hE
        have sg := seg_in HNK.out k (by omega)
        obtain ⟨sg1, sg2⟩ := sg
        have hKn : (segK N k).toNat < N.types.length := by omega
        obtain ⟨p', cap', he, htt⟩ := (tabOf_slices HVR.out).1.shape
        injection he with he1 _ he2
        subst he1 he2
        obtain ⟨ub, uo, rfl, htb, hat2⟩ := htt HNK.out.ne
        have h1 := hat2 _ hKn
        have hxt : N.types[(segK N k).toNat] = segT N k := by unfold segT tyD; rw [List.getElem?_eq_getElem hKn]; rfl
        have hxo := HNK.out.type _ (List.getElem_mem hKn)
        rw [hxt] at h1 hxo
        have hE1 : erAtW wr b (o + k * 5) (erOf (segT N k) (segU N k)) := hE
        obtain ⟨x, ex⟩ : ∃ x, segT N k = x := ⟨_, rfl⟩
        obtain ⟨u, eu⟩ : ∃ u, segU N k = u := ⟨_, rfl⟩
        rw [ex, eu] at hE1
        rw [ex] at h1 hxo
        obtain ⟨off, sv, xn⟩ := x
        obtain ⟨e0, e1, e2, e3, e4⟩ := hE1
        obtain ⟨a0, a1, a2⟩ := h1
        obtain ⟨ox1, ox2, -⟩ := hxo
        simp only [erOf, erOff, erSave] at e0 e1 e2 e3 e4 a0 a1 a2 ox1 ox2
        have hK : Hid (k ≠ 0 → ∃ hh : k - 1 < N.chs.length, N.chs[k - 1].k = segK N k) := by
          show _ → _
          intro h0
          refine ⟨by omega, ?_⟩
          unfold segK kAt
          rw [if_neg h0, List.getElem?_eq_getElem (by omega)]
          rfl
        have hK0 : Hid (k = 0 → segK N k = N.first) := by
          show _ → _
          intro h0
          unfold segK
          rw [if_pos h0]
        obtain ⟨K, eK⟩ : ∃ K, segK N k = K := ⟨_, rfl⟩
        rw [eK] at sg1 sg2 a0 a1 a2 hK hK0 hKn
        have hbl' : b < wr.heap.size := hbl
        clear hat hc hE hat2 htt hxt ex eu eK
        cases sv
        all_goals
          simp only [Bool.false_eq_true, if_false, if_true] at e0 e2
          by_cases h0 : k = 0
          · obtain rfl := h0
            have hKF := hK0.out rfl
            subst hKF
            simp only [Nat.zero_mul, Nat.add_zero] at e0 e1 e2 e3 e4
            go_wp2
            go_roundw
            case rel => exact ⟨1, by omega, rfl, (HBR.out.alloc HBR.out.size _).alloc (by have := HBR.out.size; simp; omega) _⟩
            case measure => simp [intOf]
          · obtain ⟨hh, hKF⟩ := hK.out h0
            obtain ⟨p', cap', he, hcc⟩ := (tabOf_slices HVR.out).2.1.shape
            injection he with he1 _ he2
            subst he1 he2
            obtain ⟨cb, co, rfl, hcb, hat3⟩ := hcc (fun e => by rw [e] at hh; exact absurd hh (Nat.not_lt_zero _))
            obtain ⟨-, c1⟩ := hat3 _ hh
            rw [hKF] at c1
            have hk0 : 0 < k := Nat.pos_of_ne_zero h0
            have hk1 : (0 : Int) < (k : Int) := by omega
            have hk2 : ((k : Int) - 1).toNat = k - 1 := by omega
            have hk3 : (0 : Int) ≤ (k : Int) - 1 := by omega
            have hk4 : (k : Int) - 1 < (N.chs.length : Int) := by omega
            clear hat3 hcc hKF h0
            go_wp2
            go_roundw
            case rel => exact ⟨k + 1, by omega, by go_num, (HBR.out.alloc HBR.out.size _).alloc (by have := HBR.out.size; simp; omega) _⟩
            case measure => simp [intOf]; omega
      · obtain rfl : k = N.chs.length + 1 := by omega
        go_wp2
        go_ret
        exact ⟨rfl, HBF.out⟩
end Go.Proofs.YtmjakhageehcoaaDoor
