/- BookMore: the walk. -/
import Derived.Test.YtmhfhmhjaecoaaaGreatDoorBkTwWQ
import Derived.Test.YtmhfhmhjaecoaaaGreatDoorRowLitQ
namespace Go.Proofs.YtmhfhmhjaecoaaaGreatDoor
open Go.RowKit Go.Joins
open Classical
set_option linter.unusedVariables false
set_option linter.unusedSimpArgs false

theorem bytes_neM {a b : ByteArray} (h : a ≠ b) : (a.toList == b.toList) = false := by
  rw [beq_eq_false_iff_ne]
  intro e
  apply h
  rw [ByteArray.toList_eq, ByteArray.toList_eq] at e
  cases a; cases b
  simp at e
  rw [e]
set_option maxRecDepth 100000 in
set_option maxHeartbeats 20000000 in
theorem BookMore_walk (b : Bk) (rv zv lv : Value) (nm : ByteArray) (x : Er) (w : World) (hB : BookAt w.heap.size w rv zv lv b) (hnm : nm.size ≤ 140737488351232) (hx : SzE x) (ht : Tab10 w) (ha : AscTab w) (hn : NumErrs w) (hm : MaxLen w) :
    Calls Tryz.prog 5 #[.agg #[rv, zv, lv], .string nm, .agg (erCells x)] w fun e w' => e = .returned (.bool true) ∧ Below w.heap.size w w' := by
  obtain ⟨off, ru, sv, fm, un⟩ := x
  have HSX : Hid (SzE ⟨off, ru, sv, fm, 0⟩) := by
    obtain ⟨h1, h2, h3, h4, h5, h6, -, -⟩ := hx
    exact ⟨h1, h2, h3, h4, h5, h6, (show (-9223372036854775808 : Int) ≤ 0 by decide), (show (0 : Int) ≤ 9223372036854775807 by decide)⟩
  have hr := hB.r
  have hz := hB.z
  have hl := hB.l
  obtain ⟨p1, c1, rfl, hlen1, hrow1⟩ := hr
  obtain ⟨p2, c2, rfl, hlen2, hrow2⟩ := hz
  obtain ⟨p3, c3, rfl, hlen3, hrow3⟩ := hl
  obtain ⟨Wz, eWz⟩ : ∃ Wz, w.alloc (.cells #[.slice p1 b.rules.length c1, .slice p2 b.zones.length c2, .slice p3 b.links.length c3] 31) = Wz := ⟨_, rfl⟩
  obtain ⟨b0, eb0⟩ : ∃ b0, w.heap.size = b0 := ⟨_, rfl⟩
  obtain ⟨hbz, hb0z, hl0z⟩ := box_atT eWz eb0
  obtain ⟨W0, eW⟩ : ∃ W0, Wz.alloc (.cells #[.int .i64 off, .string ru, .int .i64 sv, .string fm, .int .i64 un] 46) = W0 := ⟨_, rfl⟩
  obtain ⟨be, ebe⟩ : ∃ be, b0 + 1 = be := ⟨_, rfl⟩
  have hsz : Wz.heap.size = be := by rw [← eWz, ← ebe, ← eb0]; simp
  obtain ⟨hxe, hb1z, hle⟩ := box_atT eW hsz
  have hbx := (hb1z.block b0 (by omega)).trans hbz
  have hb0 : Below b0 w W0 := hb0z.trans (hb1z.mono (by omega))
  have hb0' : Below w.heap.size w W0 := by rw [eb0]; exact hb0
  have HTU := Lib.hid (booked_any W0 (ht.below hb0') (ha.below hb0') (hn.below hb0') (hm.below hb0'))
  have HEW : Hid ((w.alloc (.cells #[.slice p1 b.rules.length c1, .slice p2 b.zones.length c2, .slice p3 b.links.length c3] 31)).alloc (.cells #[.int .i64 off, .string ru, .int .i64 sv, .string fm, .int .i64 un] 46) = W0) := by show _ = _; rw [eWz, eW]
  have HEB := Lib.hid eb0
  have HEE := Lib.hid ebe
  have HXE := Lib.hid hxe
  have HBK : Hid (∀ W, Below b0 w W → BookAt W.heap.size W (.slice p1 b.rules.length c1) (.slice p2 b.zones.length c2) (.slice p3 b.links.length c3) b) := by
    show ∀ W, _
    intro W hb
    have hb' : Below w.heap.size w W := by rw [eb0]; exact hb
    exact (hB.below hb' (Nat.le_refl _)).baseN hb'.size
  have HTM : Hid (∀ W, Below b0 w W → MaxLen W ∧ Tab10 W) := by
    show ∀ W, _
    intro W hb
    have hb' : Below w.heap.size w W := by rw [eb0]; exact hb
    exact ⟨hm.below hb', ht.below hb'⟩
  have HBX : Hid (∀ W, Below (b0 + 1) W0 W → W.cell? ⟨b0, 0, none⟩ = some (.slice p1 b.rules.length c1) ∧ W.cell? ⟨b0, 1, none⟩ = some (.slice p2 b.zones.length c2) ∧ W.cell? ⟨b0, 2, none⟩ = some (.slice p3 b.links.length c3)) := by
    show ∀ W, _
    intro W hb
    have hx := (hb.block b0 (Nat.lt_succ_self _)).trans hbx
    exact ⟨(cell_of_row W _ 0 _ _ _ hx).trans rfl, (cell_of_row W _ 1 _ _ _ hx).trans rfl, (cell_of_row W _ 2 _ _ _ hx).trans rfl⟩
  have HB0 := Lib.hid hb0
  have HZROW := Lib.hid hrow2
  have HLROW := Lib.hid hrow3
  have HSZ : Hid ((∀ r ∈ b.rules, SzR r) ∧ (∀ z ∈ b.zones, z.nm.size ≤ 140737488351232 ∧ ∀ x ∈ z.eras, SzE x) ∧ ∀ x ∈ b.links, x.nm.size ≤ 140737488351232 ∧ x.tg.size ≤ 140737488351232) := ⟨hB.rs, hB.zs, hB.ls⟩
  have hb0e : b0 < be := by omega
  have HIN := Lib.hid (fun W => isName_any nm W (by simp only [maxLen]; omega))
  have hml := hlen2.1
  have hml3 := hlen3.1
  clear eW eWz hbz hb0z hl0z hb1z hsz hb0 hb0' hbx hB ht ha hn hm hrow1 hrow2 hrow3 eb0 ebe hxe hlen1 hlen2 hlen3 hx
  go_enter Tryz.func5, Tryz.ntmps5
  go_upto_region 1 with fail
  rw [HEW.out, HEB.out, HEE.out]
  go_wp2_with fail
  refine HTU.out.mono ?_
  rintro e w1 ⟨rfl, hb1⟩
  have HA1 := Lib.hid (hb1.mono (show b0 + 1 ≤ W0.heap.size by omega))
  have HX1 := Lib.hid ((hb1.block be hle).trans HXE.out)
  have hl1 : be < w1.heap.size := by have := hb1.size; omega
  have HB1 := Lib.hid (HB0.out.trans (HA1.out.mono (Nat.le_succ _)))
  obtain ⟨g0, g1, g2⟩ := HBX.out w1 HA1.out
  have HCK := Lib.hid (bkCheck_any b _ _ _ w1 (HBK.out w1 HB1.out) (HTM.out w1 HB1.out).1 (HTM.out w1 HB1.out).2)
  clear hb1 HTU
  obtain ⟨NB, eNB⟩ : ∃ NB, nameB nm = NB := ⟨_, rfl⟩
  rw [eNB] at HIN
  go_upto_region 3 with fail
  go_cut [29] from 16 to 28 (fun s29 wx => s29 = .bool (decide (bkChk b ≠ 0 ∨ 19 < b.zones.length ∨ NB = false)) ∧ Hid (Below w1.heap.size w1 wx))
  case first =>
    obtain ⟨C, eC⟩ : ∃ C, bkChk b = C := ⟨_, rfl⟩
    have HDX : Hid (∀ P : Bool, ((C ≠ 0 ∨ 19 < b.zones.length ∨ NB = false) ↔ P = true) → decide (bkChk b ≠ 0 ∨ 19 < b.zones.length ∨ NB = false) = P) := by
      show ∀ P, _
      intro P h
      rw [← eC] at h
      cases P with
      | true => exact decide_eq_true (h.2 rfl)
      | false => exact decide_eq_false (fun g => by have := h.1 g; cases this)
    rw [eC] at HCK
    clear eC eNB
    go_wp2_with fail
    refine HCK.out.mono ?_
    rintro e w2 ⟨rfl, hb2⟩
    have HB2 := Lib.hid hb2
    obtain ⟨x0, x1, x2⟩ := HBX.out w2 (HA1.out.trans (hb2.mono (by omega)))
    clear hb2 g0 g1 g2
    by_cases hC : C = 0
    · subst hC
      by_cases h1 : 19 < b.zones.length
      · have h1b : (19 : Int) < (b.zones.length : Int) := by omega
        have HD := Lib.hid (HDX.out true ⟨fun _ => rfl, fun _ => Or.inr (Or.inl h1)⟩)
        go_wp2_with fail
        go_meet
        exact ⟨congrArg Value.bool HD.out.symm, HB2⟩
      · have h1b : ¬ (19 : Int) < (b.zones.length : Int) := by omega
        cases NB with
        | false =>
          have HD := Lib.hid (HDX.out true ⟨fun _ => rfl, fun _ => Or.inr (Or.inr rfl)⟩)
          go_wp2_with fail
          refine (HIN.out w2).mono ?_
          rintro e w' ⟨rfl, rfl⟩
          go_wp2_with fail
          go_meet
          exact ⟨congrArg Value.bool HD.out.symm, HB2⟩
        | true =>
          have HD := Lib.hid (HDX.out false ⟨fun g => by simp at g; omega, fun g => by cases g⟩)
          go_wp2_with fail
          refine (HIN.out w2).mono ?_
          rintro e w' ⟨rfl, rfl⟩
          go_wp2_with fail
          go_meet
          exact ⟨congrArg Value.bool ((decide_eq_false (show ¬ (19 : Int) < (b.zones.length : Int) by omega)).trans HD.out.symm), HB2⟩
    · have hz : (C == 0) = false := by simpa using hC
      have hzn : (C != 0) = true := by simpa using hC
      have hz2 : (!C == 0) = true := by rw [hz]; rfl
      have HD := Lib.hid (HDX.out true ⟨fun _ => rfl, fun _ => Or.inl hC⟩)
      clear hC
      go_wp2_with fail
      go_meet
      exact ⟨congrArg Value.bool HD.out.symm, HB2⟩
  case rest =>
  obtain ⟨rfl, HB2⟩ := hcut
  obtain ⟨w2, ew2⟩ : ∃ w2, wc = w2 := ⟨_, rfl⟩
  rw [ew2] at HB2 ⊢
  have HA2 := Lib.hid (HA1.out.trans (HB2.out.mono (show b0 + 1 ≤ w1.heap.size by omega)))
  have HX2 := Lib.hid ((HB2.out.block be hl1).trans HX1.out)
  have HW2 := Lib.hid (HB0.out.trans (HA2.out.mono (Nat.le_succ _)))
  have hl2 : be < w2.heap.size := by have := HB2.out.size; omega
  clear ew2 wc g0 g1 g2 HCK HA1 HB1 HB2 HX1 hl1
  by_cases hcd : bkChk b ≠ 0 ∨ 19 < b.zones.length ∨ NB = false
  case pos =>
    rw [decide_eq_true hcd]
    have hfin := HW2.out
    rw [← HEB.out] at hfin
    go_wp2_with fail
    go_ret
    exact ⟨rfl, hfin⟩
  rw [decide_eq_false hcd]
  have hchk : bkChk b = 0 := by apply Classical.byContradiction; intro h; exact hcd (.inl h)
  have hn19 : b.zones.length ≤ 19 := by omega
  have HMORE := Lib.hid (fun z h1 h2 => more_law hchk hn19 z h1 h2)
  have hl20 : b.links.length ≤ 20 := (bk_len hchk).2.2
  obtain ⟨W3, e3, hx3, hb3⟩ : ∃ W', w2.setCell ⟨be, 4, none⟩ (.int .i64 0) = W' ∧ W'.heap[be]? = some (.cells #[.int .i64 off, .string ru, .int .i64 sv, .string fm, .int .i64 0] 46 (0, 0)) ∧ ∀ B, B ≤ be → Below B w2 W' :=
    ⟨_, rfl, (by rw [heap_setCell_same w2 be 4 _ _ _ HX2.out]; rfl), fun B hB => (Below.refl _ _).setCell hB _⟩
  have HE3 := Lib.hid e3
  have HA3 := Lib.hid (HA2.out.trans (hb3 (b0 + 1) (by omega)))
  have y4 : w2.cell? ⟨be, 4, none⟩ = some (.int .i64 un) := (cell_of_row w2 _ 4 _ _ _ HX2.out).trans rfl
  have yf4 : w2.frozen? ⟨be, 4, none⟩ = false := by simp [World.frozen?, HX2.out]
  have hl3 : be < W3.heap.size := (Array.getElem?_eq_some_iff.mp hx3).1
  obtain ⟨Wq, eq1⟩ : ∃ Wq, W3.alloc (.cells #[.int .i64 off, .string ru, .int .i64 sv, .string fm, .int .i64 0] 46) = Wq := ⟨_, rfl⟩
  obtain ⟨e1, ee1⟩ : ∃ e1, W3.heap.size = e1 := ⟨_, rfl⟩
  obtain ⟨hxq, hbq, hlq⟩ := box_atT eq1 ee1
  obtain ⟨W4, e4⟩ : ∃ W4, Wq.alloc (.cells #[.string nm, .slice (some ⟨e1, 0, none⟩) 1 1] 50) = W4 := ⟨_, rfl⟩
  obtain ⟨b7, eb7⟩ : ∃ b7, e1 + 1 = b7 := ⟨_, rfl⟩
  have hsq : Wq.heap.size = b7 := by rw [← eq1, ← eb7, ← ee1]; simp
  obtain ⟨hx4, hb4, hl4⟩ := box_atT e4 hsq
  have hxe4 := (hb4.block e1 (by omega)).trans hxq
  have hb34 : Below e1 W3 W4 := hbq.trans (hb4.mono (by omega))
  have he1 : be < e1 := by omega
  have HE4 : Hid ((W3.alloc (.cells #[.int .i64 off, .string ru, .int .i64 sv, .string fm, .int .i64 0] 46)).alloc (.cells #[.string nm, .slice (some ⟨e1, 0, none⟩) 1 1] 50) = W4) := by show _ = _; rw [eq1, e4]
  have HEE1 := Lib.hid ee1
  have HEB7 := Lib.hid eb7
  have h17 : e1 < b7 := by omega
  have HXE4 := Lib.hid hxe4
  have HX4 := Lib.hid hx4
  have HA4 := Lib.hid (HA3.out.trans (hb34.mono (show b0 + 1 ≤ e1 by omega)))
  obtain ⟨W5, e5⟩ : ∃ W5, W4.alloc (.cells #[.string nm, .slice (some ⟨e1, 0, none⟩) 1 1] 50) = W5 := ⟨_, rfl⟩
  obtain ⟨z1, ez1⟩ : ∃ z1, W4.heap.size = z1 := ⟨_, rfl⟩
  obtain ⟨hx5, hb5, hl5⟩ := box_atT e5 ez1
  have HE5 := Lib.hid e5
  have HEZ := Lib.hid ez1
  have h7z : b7 < z1 := by omega
  have HA5 := Lib.hid (HA4.out.trans (hb5.mono (show b0 + 1 ≤ z1 by omega)))
  have HW5 := Lib.hid (HB0.out.trans (HA5.out.mono (Nat.le_succ _)))
  have HXE5 := Lib.hid ((hb5.block e1 (by omega)).trans hxe4)
  have HX75 := Lib.hid ((hb5.block b7 h7z).trans hx4)
  have HER : Hid (∀ W : World, W.heap[e1]? = some (.cells #[.int .i64 off, .string ru, .int .i64 sv, .string fm, .int .i64 0] 46 (0, 0)) → RowsAt (fun x : Er => (erCells x).toList) 5 W.heap.size W (.slice (some ⟨e1, 0, none⟩) 1 1) [⟨off, ru, sv, fm, 0⟩]) := by
    show ∀ W : World, _
    intro W h
    exact rows_lit (cells := fun x : Er => (erCells x).toList) (k := 5) (l := [(⟨off, ru, sv, fm, 0⟩ : Er)]) (fun _ => rfl) h rfl rfl (by decide) (Array.getElem?_eq_some_iff.mp h).1
  have hbk5 : BookAt W5.heap.size W5 (.slice p1 b.rules.length c1) (.slice (some ⟨z1, 0, none⟩) 1 1) (.slice none 0 0) ⟨b.rules, [⟨nm, .slice (some ⟨e1, 0, none⟩) 1 1, [⟨off, ru, sv, fm, 0⟩]⟩], []⟩ := by
    refine ⟨(HBK.out W5 HW5.out).r, rows_lit (cells := zoCells) (k := 2) (l := [(⟨nm, .slice (some ⟨e1, 0, none⟩) 1 1, [⟨off, ru, sv, fm, 0⟩]⟩ : Zo)]) (fun _ => rfl) hx5 rfl rfl (by decide) hl5, ?_, rows_nilN, HSZ.out.1, ?_, fun x hx => absurd hx (List.not_mem_nil)⟩
    · intro z hz
      rw [List.mem_singleton.1 hz]; exact HER.out W5 HXE5.out
    · intro z hz
      rw [List.mem_singleton.1 hz]
      exact ⟨hnm, fun x hx => by rw [List.mem_singleton.1 hx]; exact HSX.out⟩
  have HCA := Lib.hid (bkCheck_any _ _ _ _ W5 hbk5 (HTM.out W5 HW5.out).1 (HTM.out W5 HW5.out).2)
  obtain ⟨CA, eCA⟩ : ∃ CA, bkChk ⟨b.rules, [⟨nm, .slice (some ⟨e1, 0, none⟩) 1 1, [⟨off, ru, sv, fm, 0⟩]⟩], []⟩ = CA := ⟨_, rfl⟩
  rw [eCA] at HCA
  have HCAE := Lib.hid eCA
  obtain ⟨u0, u1, u2⟩ := HBX.out W4 HA4.out
  have v0 : W4.cell? ⟨b7, 0, none⟩ = some (.string nm) := (cell_of_row W4 _ 0 _ _ _ hx4).trans rfl
  have v1 : W4.cell? ⟨b7, 1, none⟩ = some (.slice (some ⟨e1, 0, none⟩) 1 1) := (cell_of_row W4 _ 1 _ _ _ hx4).trans rfl
  have t0 : W3.cell? ⟨be, 0, none⟩ = some (.int .i64 off) := (cell_of_row W3 _ 0 _ _ _ hx3).trans rfl
  have t1 : W3.cell? ⟨be, 1, none⟩ = some (.string ru) := (cell_of_row W3 _ 1 _ _ _ hx3).trans rfl
  have t2 : W3.cell? ⟨be, 2, none⟩ = some (.int .i64 sv) := (cell_of_row W3 _ 2 _ _ _ hx3).trans rfl
  have t3 : W3.cell? ⟨be, 3, none⟩ = some (.string fm) := (cell_of_row W3 _ 3 _ _ _ hx3).trans rfl
  have t4 : W3.cell? ⟨be, 4, none⟩ = some (.int .i64 0) := (cell_of_row W3 _ 4 _ _ _ hx3).trans rfl
  clear hcd hchk e3 hx3 hb3 eq1 ee1 hxq hbq hlq e4 eb7 hsq hx4 hb4 hxe4 hb34 e5 ez1 hx5 hb5 hbk5 eCA eNB
  go_upto_region 6 with fail
  rw [HE3.out]
  clear y4 yf4
  go_upto_region 7 with fail
  rw [HEE1.out, HEB7.out, HE4.out]
  clear t0 t1 t2 t3 t4
  go_wp2_with fail
  rw [HEZ.out, HE5.out]
  refine HCA.out.mono ?_
  rintro e w6 ⟨rfl, hb6⟩
  have HA6 := Lib.hid (HA5.out.trans (hb6.mono (show b0 + 1 ≤ W5.heap.size by omega)))
  have HW6 := Lib.hid (HB0.out.trans (HA6.out.mono (Nat.le_succ _)))
  have HXE6 := Lib.hid ((hb6.block e1 (by omega)).trans HXE5.out)
  have HX76 := Lib.hid ((hb6.block b7 (by omega)).trans HX75.out)
  have hl6 : b7 < w6.heap.size := by have := hb6.size; omega
  clear hb6 u0 u1 u2 v0 v1 HCA
  obtain ⟨g0, g1, g2⟩ := HBX.out w6 HA6.out
  go_wp2_with fail
  go_loopw [44] (fun i wr => ∃ k : Nat, k ≤ b.zones.length ∧ i = .int .i64 k ∧ Hid (∀ j (hj : j < b.zones.length), j < k → b.zones[j].nm ≠ nm) ∧ Hid (Below w6.heap.size w6 wr)) (fun i _ => b.zones.length - (intOf i).toNat)
  case atStart => exact ⟨0, Nat.zero_le _, rfl, Lib.hid (fun j hj h => absurd h (Nat.not_lt_zero _)), Lib.hid (Below.refl _ _)⟩
  case round =>
    obtain ⟨k, hk, rfl, HALL, HBR⟩ := hrel
    have hzr := HBR.out.size
    have HWr := Lib.hid (HW6.out.trans (HBR.out.mono (show b0 ≤ w6.heap.size by omega)))
    by_cases hkl : k < b.zones.length
    · obtain ⟨lb, lo, rfl, hlb, hlc⟩ := HZROW.out (List.ne_nil_of_length_pos (by omega))
      have hbl : lb < b0 := by rw [← HEB.out]; exact hlb
      have h0 := (HWr.out.cell (p := ⟨lb, lo + k * 2 + 0, none⟩) hbl).trans (hlc k hkl 0 _ rfl)
      have h1 := (HWr.out.cell (p := ⟨lb, lo + k * 2 + 1, none⟩) hbl).trans (hlc k hkl 1 _ rfl)
      rw [Nat.add_zero] at h0
      obtain ⟨pe, ce, hev, -, -⟩ := (HBK.out wr HWr.out).e _ (List.getElem_mem hkl)
      have hstep : b.zones[k].nm ≠ nm → ∀ j (hj : j < b.zones.length), j < k + 1 → b.zones[j].nm ≠ nm := fun hne j hj h => by
        by_cases e : j = k
        · subst e; exact hne
        · exact HALL.out j hj (by omega)
      have HSTEP := Lib.hid hstep
      obtain ⟨q, eq⟩ : ∃ q, b.zones[k] = q := ⟨_, rfl⟩
      rw [eq] at h0 h1 hev HSTEP
      obtain ⟨qn, qe, qs⟩ := q
      simp only at h0 h1 hev HSTEP
      subst hev
      obtain ⟨L, eL⟩ : ∃ L, qs.length = L := ⟨_, rfl⟩
      rw [eL] at h1
      have hik : (k : Int) < (b.zones.length : Int) := by omega
      have HNX := Lib.hid (HBR.out.alloc hzr (.cells #[.string qn, .slice pe L ce] 50))
      clear eq eL hlc hstep HALL
      by_cases hne : qn = nm
      · have tq : (qn.toList == nm.toList) = true := by rw [hne]; exact beq_self_eq_true _
        have hfin := HW6.out.trans (HNX.out.mono (show b0 ≤ w6.heap.size by omega))
        rw [← HEB.out] at hfin
        have HFN := Lib.hid hfin
        clear hne HSTEP hfin
        go_wp2_with fail
        go_ret
        exact ⟨rfl, HFN.out⟩
      · have tq : (qn.toList == nm.toList) = false := bytes_neM hne
        have HS2 := Lib.hid (HSTEP.out hne)
        clear hne HSTEP
        go_wp2_with fail
        go_roundw
        case rel => exact ⟨k + 1, by omega, by go_num, HS2, HNX⟩
        case measure => simp [intOf]; omega
    · obtain rfl : k = b.zones.length := by omega
      have HZN : Hid (∀ y ∈ b.zones, y.nm ≠ nm) := by
        show ∀ y ∈ _, _
        intro y hy
        obtain ⟨j, hj, rfl⟩ := List.mem_iff_getElem.1 hy
        exact HALL.out j hj hj
      have HAr := Lib.hid (HA6.out.trans (HBR.out.mono (show b0 + 1 ≤ w6.heap.size by omega)))
      have HXEr := Lib.hid ((HBR.out.block e1 (by omega)).trans HXE6.out)
      have HX7r := Lib.hid ((HBR.out.block b7 (by omega)).trans HX76.out)
      obtain ⟨W8, eW8⟩ : ∃ W8, wr = W8 := ⟨_, rfl⟩
      rw [eW8] at hzr HWr HAr HXEr HX7r ⊢
      clear eW8 HBR HALL g0 g1 g2 HXE6 HX76 HA6 HXE5 HX75
      obtain ⟨g0, g1, g2⟩ := HBX.out W8 HAr.out
      have hl8 : b7 < W8.heap.size := by omega
      go_wp2_with fail
      go_loopw [56] (fun i wr => ∃ k : Nat, k ≤ b.links.length ∧ i = .int .i64 k ∧ Hid (∀ j (hj : j < b.links.length), j < k → b.links[j].nm ≠ nm) ∧ Hid (Below W8.heap.size W8 wr)) (fun i _ => b.links.length - (intOf i).toNat)
      case atStart => exact ⟨0, Nat.zero_le _, rfl, Lib.hid (fun j hj h => absurd h (Nat.not_lt_zero _)), Lib.hid (Below.refl _ _)⟩
      case round =>
        obtain ⟨k, hk, rfl, HALL, HBR⟩ := hrel
        have hzr2 := HBR.out.size
        have HWs := Lib.hid (HWr.out.trans (HBR.out.mono (show b0 ≤ W8.heap.size by omega)))
        by_cases hkl : k < b.links.length
        · obtain ⟨lb, lo, rfl, hlb, hlc⟩ := HLROW.out (List.ne_nil_of_length_pos (by omega))
          have hbl : lb < b0 := by rw [← HEB.out]; exact hlb
          have h0 := (HWs.out.cell (p := ⟨lb, lo + k * 2 + 0, none⟩) hbl).trans (hlc k hkl 0 _ rfl)
          have h1 := (HWs.out.cell (p := ⟨lb, lo + k * 2 + 1, none⟩) hbl).trans (hlc k hkl 1 _ rfl)
          rw [Nat.add_zero] at h0
          have hstep : b.links[k].nm ≠ nm → ∀ j (hj : j < b.links.length), j < k + 1 → b.links[j].nm ≠ nm := fun hne j hj h => by
            by_cases e : j = k
            · subst e; exact hne
            · exact HALL.out j hj (by omega)
          have HSTEP := Lib.hid hstep
          obtain ⟨q, eq⟩ : ∃ q, b.links[k] = q := ⟨_, rfl⟩
          rw [eq] at h0 h1 HSTEP
          obtain ⟨qn, qt⟩ := q
          simp only at h0 h1 HSTEP
          have hik : (k : Int) < (b.links.length : Int) := by omega
          have HNX := Lib.hid (HBR.out.alloc hzr2 (.cells #[.string qn, .string qt] 52))
          clear eq hlc hstep HALL
          by_cases hne : qn = nm
          · have tq : (qn.toList == nm.toList) = true := by rw [hne]; exact beq_self_eq_true _
            have hfin := HWr.out.trans (HNX.out.mono (show b0 ≤ W8.heap.size by omega))
            rw [← HEB.out] at hfin
            have HFN := Lib.hid hfin
            clear hne HSTEP hfin
            go_wp2_with fail
            go_ret
            exact ⟨rfl, HFN.out⟩
          · have tq : (qn.toList == nm.toList) = false := bytes_neM hne
            have HS2 := Lib.hid (HSTEP.out hne)
            clear hne HSTEP
            go_wp2_with fail
            go_roundw
            case rel => exact ⟨k + 1, by omega, by go_num, HS2, HNX⟩
            case measure => simp [intOf]; omega
        · obtain rfl : k = b.links.length := by omega
          have HLNo : Hid (∀ y ∈ b.links, y.nm ≠ nm) := by
            show ∀ y ∈ _, _
            intro y hy
            obtain ⟨j, hj, rfl⟩ := List.mem_iff_getElem.1 hy
            exact HALL.out j hj hj
          have HAs := Lib.hid (HAr.out.trans (HBR.out.mono (show b0 + 1 ≤ W8.heap.size by omega)))
          have hxEs := (HBR.out.block e1 (by omega)).trans HXEr.out
          have hx7s := (HBR.out.block b7 (by omega)).trans HX7r.out
          obtain ⟨W9, eW9⟩ : ∃ W9, wr = W9 := ⟨_, rfl⟩
          rw [eW9] at hzr2 HWs HAs hxEs hx7s ⊢
          clear eW9 HBR HALL g0 g1 g2
          obtain ⟨g0, g1, g2⟩ := HBX.out W9 HAs.out
          obtain ⟨W7, e7⟩ : ∃ W7, W9.alloc (.cells #[.slice p1 b.rules.length c1, .slice p2 b.zones.length c2, .slice p3 b.links.length c3] 31) = W7 := ⟨_, rfl⟩
          obtain ⟨cb, ecb⟩ : ∃ cb, W9.heap.size = cb := ⟨_, rfl⟩
          obtain ⟨hx77, hb7, hl7⟩ := box_atT e7 ecb
          have HE7 := Lib.hid e7
          have HECB := Lib.hid ecb
          have HXCcb := Lib.hid hx77
          have h7c : b7 < cb := by omega
          have HX77 := Lib.hid ((hb7.block b7 h7c).trans hx7s)
          have HXE7 := Lib.hid ((hb7.block e1 (by omega)).trans hxEs)
          have HA7 := Lib.hid (HAs.out.trans (hb7.mono (show b0 + 1 ≤ cb by omega)))
          have h0cb : b0 + 1 ≤ cb := by omega
          have HMR := Lib.hid ((HMORE.out ⟨nm, .slice (some ⟨e1, 0, none⟩) 1 1, [⟨off, ru, sv, fm, 0⟩]⟩ HZN.out HLNo.out).trans HCAE.out)
          clear e7 ecb hx77 hb7 hx7s hxEs
          go_upto_region 21 with fail
          rw [HE7.out, HECB.out]
          clear g0 g1 g2
          go_upto_region 21 with fail
          go_cut [] from 66 to 72 (fun wx => ∃ v3, Hid (wx.ownsRow W7.heap.size 50 2 v3 (b.zones.length + 1) (b.zones.flatMap zoCells ++ [.string nm, .slice (some ⟨e1, 0, none⟩) 1 1])) ∧ Hid (wx.heap[cb]? = some (.cells #[.slice p1 b.rules.length c1, v3, .slice p3 b.links.length c3] 31 (0, 0))) ∧ Hid ((∀ b, b < W7.heap.size → b ≠ cb → wx.heap[b]? = W7.heap[b]?) ∧ Below cb W7 wx ∧ W7.heap.size ≤ wx.heap.size))
          case first =>
            obtain ⟨i1, hi1, hz10, hz11, hz12⟩ := info_parts infoZoT
            have HL1 : Hid ((b.zones.flatMap zoCells).length = b.zones.length * 2) := flat_lenT (cells := zoCells) (k := 2) (fun _ => rfl) b.zones
            have HO1 := Lib.hid (zo_one fun z hz => by obtain ⟨p, c, e, -, -⟩ := (HBK.out w2 HW2.out).e z hz; exact ⟨p, _, c, e⟩)
            have HO2 : Hid (∀ u ∈ ([.string nm, .slice (some ⟨e1, 0, none⟩) 1 1] : List Value), u.oneCell' = true) := by
              show ∀ u ∈ _, _
              intro u hu; simp at hu; rcases hu with rfl | rfl <;> rfl
            have hm1a : b.zones.length ≤ maxLen := by simp only [maxLen]; omega
            have hm1b : b.zones.length * 40 ≤ 140737488355328 := by omega
            have hm2a : b.zones.length + 1 ≤ maxLen := by simp only [maxLen]; omega
            have hm2b : (b.zones.length + 1) * 40 ≤ 140737488355328 := by omega
            have KN1 : Hid (∀ wx, TwInv W7 cb wx → b.zones.length = 0 ∨ ∃ ad, p2 = some ad ∧ ∀ j u, (b.zones.flatMap zoCells)[j]? = some u → wx.cell? (ad.add j) = some u) := by
              show ∀ wx, _
              intro wx hi
              by_cases hn : b.zones = []
              · exact .inl (by rw [hn]; rfl)
              · obtain ⟨lb, lo, rfl, hlb, hlc⟩ := HZROW.out hn
                refine .inr ⟨_, rfl, rows_allT (cells := zoCells) (k := 2) (fun _ => rfl) (by decide) fun i hi2 j u hu => ?_⟩
                exact ((HB0.out.trans ((HA7.out.trans (hi.b.mono (by omega))).mono (Nat.le_succ _))).cell (p := ⟨lb, lo + i * 2 + j, none⟩) (by rw [← HEB.out]; exact hlb)).trans (hlc i hi2 j u hu)
            have KS : Hid (∀ wx, TwInv W7 cb wx → (TwInv W7 cb wx ∧ wx.cell? ⟨b0, 1, none⟩ = some (.slice p2 b.zones.length c2) ∧ wx.cell? ⟨b7, 0, none⟩ = some (.string nm) ∧ wx.cell? ⟨b7, 1, none⟩ = some (.slice (some ⟨e1, 0, none⟩) 1 1))) := by
              show ∀ wx, _
              intro wx hi
              have hb := HA7.out.trans (hi.b.mono (by omega))
              have hx := (hi.b.block b7 (by omega)).trans HX77.out
              exact ⟨hi, (HBX.out wx hb).2.1, (cell_of_row wx _ 0 _ _ _ hx).trans rfl, (cell_of_row wx _ 1 _ _ _ hx).trans rfl⟩
            have KI : Hid (∀ wx, (TwInv W7 cb wx ∧ wx.cell? ⟨b0, 1, none⟩ = some (.slice p2 b.zones.length c2) ∧ wx.cell? ⟨b7, 0, none⟩ = some (.string nm) ∧ wx.cell? ⟨b7, 1, none⟩ = some (.slice (some ⟨e1, 0, none⟩) 1 1)) → TwInv W7 cb wx) := by
              show ∀ wx, _
              intro wx h
              exact h.1
            have KZ : Hid (∀ wx, (TwInv W7 cb wx ∧ wx.cell? ⟨b0, 1, none⟩ = some (.slice p2 b.zones.length c2) ∧ wx.cell? ⟨b7, 0, none⟩ = some (.string nm) ∧ wx.cell? ⟨b7, 1, none⟩ = some (.slice (some ⟨e1, 0, none⟩) 1 1)) → W7.heap.size ≤ wx.heap.size) := by
              show ∀ wx, _
              intro wx h
              exact h.1.z
            have K0 : Hid (TwInv W7 cb (World.drew W7) ∧ (World.drew W7).cell? ⟨b0, 1, none⟩ = some (.slice p2 b.zones.length c2) ∧ (World.drew W7).cell? ⟨b7, 0, none⟩ = some (.string nm) ∧ (World.drew W7).cell? ⟨b7, 1, none⟩ = some (.slice (some ⟨e1, 0, none⟩) 1 1)) := by
              show _ ∧ _
              exact KS.out _ (TwInv.start HXCcb.out)
            have K0d : Hid (∀ o' : Obj, (TwInv W7 cb (World.drew (World.alloc W7 o')) ∧ (World.drew (World.alloc W7 o')).cell? ⟨b0, 1, none⟩ = some (.slice p2 b.zones.length c2) ∧ (World.drew (World.alloc W7 o')).cell? ⟨b7, 0, none⟩ = some (.string nm) ∧ (World.drew (World.alloc W7 o')).cell? ⟨b7, 1, none⟩ = some (.slice (some ⟨e1, 0, none⟩) 1 1))) := by
              show ∀ o' : Obj, _
              intro o'
              have h := (TwInv.start HXCcb.out).alloc o'
              exact KS.out _ ⟨⟨h.b.os, h.b.tape, h.b.output, h.b.size, h.b.block⟩, h.z, h.c, h.k, h.lt⟩
            have K1 : Hid (∀ (wx : World) (o' : Obj), (TwInv W7 cb wx ∧ wx.cell? ⟨b0, 1, none⟩ = some (.slice p2 b.zones.length c2) ∧ wx.cell? ⟨b7, 0, none⟩ = some (.string nm) ∧ wx.cell? ⟨b7, 1, none⟩ = some (.slice (some ⟨e1, 0, none⟩) 1 1)) → (TwInv W7 cb (World.alloc wx o') ∧ (World.alloc wx o').cell? ⟨b0, 1, none⟩ = some (.slice p2 b.zones.length c2) ∧ (World.alloc wx o').cell? ⟨b7, 0, none⟩ = some (.string nm) ∧ (World.alloc wx o').cell? ⟨b7, 1, none⟩ = some (.slice (some ⟨e1, 0, none⟩) 1 1))) := by
              show ∀ wx o', _
              intro wx o' h
              exact KS.out _ ((KI.out _ h).alloc o')
            have K2 : Hid (∀ (wx : World) (v : Value), (TwInv W7 cb wx ∧ wx.cell? ⟨b0, 1, none⟩ = some (.slice p2 b.zones.length c2) ∧ wx.cell? ⟨b7, 0, none⟩ = some (.string nm) ∧ wx.cell? ⟨b7, 1, none⟩ = some (.slice (some ⟨e1, 0, none⟩) 1 1)) → (TwInv W7 cb (World.setCell wx ⟨cb, 1, none⟩ v) ∧ (World.setCell wx ⟨cb, 1, none⟩ v).cell? ⟨b0, 1, none⟩ = some (.slice p2 b.zones.length c2) ∧ (World.setCell wx ⟨cb, 1, none⟩ v).cell? ⟨b7, 0, none⟩ = some (.string nm) ∧ (World.setCell wx ⟨cb, 1, none⟩ v).cell? ⟨b7, 1, none⟩ = some (.slice (some ⟨e1, 0, none⟩) 1 1))) := by
              show ∀ wx v, _
              intro wx v h
              exact KS.out _ ((KI.out _ h).set 1 v (by omega))
            have K3 : Hid (∀ (wx wy : World) (row : Option Nat), (TwInv W7 cb wx ∧ wx.cell? ⟨b0, 1, none⟩ = some (.slice p2 b.zones.length c2) ∧ wx.cell? ⟨b7, 0, none⟩ = some (.string nm) ∧ wx.cell? ⟨b7, 1, none⟩ = some (.slice (some ⟨e1, 0, none⟩) 1 1)) → wx.grownBy wy row → (∀ q, row = some q → W7.heap.size ≤ q) → (TwInv W7 cb wy ∧ wy.cell? ⟨b0, 1, none⟩ = some (.slice p2 b.zones.length c2) ∧ wy.cell? ⟨b7, 0, none⟩ = some (.string nm) ∧ wy.cell? ⟨b7, 1, none⟩ = some (.slice (some ⟨e1, 0, none⟩) 1 1))) := by
              show ∀ wx wy row, _
              intro wx wy row h hg hr
              exact KS.out _ ((KI.out _ h).grown hg hr)
            have KO : Hid (∀ (wx : World) (v : Value) (c : Nat) (xs : List Value), wx.ownsRow W7.heap.size 50 2 v c xs → ∀ q, v.ownBlock = some q → W7.heap.size ≤ q) := by
              show ∀ wx v c xs, _
              intro wx v c xs h q e
              exact (World.ownsRow.lt h q e).1
            have KF : Hid (∀ wx, (TwInv W7 cb wx ∧ wx.cell? ⟨b0, 1, none⟩ = some (.slice p2 b.zones.length c2) ∧ wx.cell? ⟨b7, 0, none⟩ = some (.string nm) ∧ wx.cell? ⟨b7, 1, none⟩ = some (.slice (some ⟨e1, 0, none⟩) 1 1)) → wx.frozen? ⟨cb, 1, none⟩ = false) := by
              show ∀ wx, _
              intro wx h
              obtain ⟨x, y, z, hc⟩ := h.1.c
              simp [World.frozen?, hc]
            have KC : Hid (∀ wx, (TwInv W7 cb wx ∧ wx.cell? ⟨b0, 1, none⟩ = some (.slice p2 b.zones.length c2) ∧ wx.cell? ⟨b7, 0, none⟩ = some (.string nm) ∧ wx.cell? ⟨b7, 1, none⟩ = some (.slice (some ⟨e1, 0, none⟩) 1 1)) → ∃ x, wx.cell? ⟨cb, 1, none⟩ = some x) := by
              show ∀ wx, _
              intro wx h
              obtain ⟨x, y, z, hc⟩ := h.1.c
              exact ⟨_, (cell_of_row wx _ 1 _ _ _ hc).trans rfl⟩
            have KFIN : Hid (∀ (w3 : World) (v3 : Value), (TwInv W7 cb w3 ∧ w3.cell? ⟨b0, 1, none⟩ = some (.slice p2 b.zones.length c2) ∧ w3.cell? ⟨b7, 0, none⟩ = some (.string nm) ∧ w3.cell? ⟨b7, 1, none⟩ = some (.slice (some ⟨e1, 0, none⟩) 1 1)) → w3.heap[cb]? = W7.heap[cb]? → w3.ownsRow W7.heap.size 50 2 v3 (b.zones.length + 1) (b.zones.flatMap zoCells ++ [.string nm, .slice (some ⟨e1, 0, none⟩) 1 1]) → (w3.setCell ⟨cb, 1, none⟩ v3).ownsRow W7.heap.size 50 2 v3 (b.zones.length + 1) (b.zones.flatMap zoCells ++ [.string nm, .slice (some ⟨e1, 0, none⟩) 1 1]) ∧ (w3.setCell ⟨cb, 1, none⟩ v3).heap[cb]? = some (.cells #[.slice p1 b.rules.length c1, v3, .slice p3 b.links.length c3] 31 (0, 0)) ∧ ((∀ b, b < W7.heap.size → b ≠ cb → (w3.setCell ⟨cb, 1, none⟩ v3).heap[b]? = W7.heap[b]?) ∧ Below cb W7 (w3.setCell ⟨cb, 1, none⟩ v3) ∧ W7.heap.size ≤ (w3.setCell ⟨cb, 1, none⟩ v3).heap.size)) := by
              show ∀ w3 v3, _
              intro w3 v3 h hcb hown
              have hc := hcb.trans HXCcb.out
              have hs := (h.1).set 1 v3 (by omega)
              refine ⟨own_keep hown fun g e => Below.heap_setCell _ _ _ _ (fun e2 => ?_), ?_, hs.k, hs.b, hs.z⟩
              · have h1 := (World.ownsRow.lt hown g e).1
                have h2 := h.1.lt
                have e2 : g = cb := e2
                omega
              · rw [heap_setCell_same w3 cb 1 _ _ _ hc]; rfl
            go_region_held3 (fun wx => (TwInv W7 cb wx ∧ wx.cell? ⟨b0, 1, none⟩ = some (.slice p2 b.zones.length c2) ∧ wx.cell? ⟨b7, 0, none⟩ = some (.string nm) ∧ wx.cell? ⟨b7, 1, none⟩ = some (.slice (some ⟨e1, 0, none⟩) 1 1))) (first | (with_reducible exact K0.out) | (with_reducible exact K0d.out _) | (with_reducible assumption) | (with_reducible exact K1.out _ _ (by assumption)) | (with_reducible exact K2.out _ _ (by assumption))) (first | (refine step_append_rowT _ (by rfl) _ _ _ (by rfl) W7.heap.size 50 i1 (.agg #[.string ⟨#[]⟩, .slice none 0 0]) 2 40 undZoT hi1 hz10 hz11 hz12 rfl (by decide) (by rfl) p2 b.zones.length c2 (b.zones.flatMap zoCells) (by rfl) HL1.out (KN1.out _ (KI.out _ (by assumption))) HO1.out hm1a hm1b (KZ.out _ (by assumption)) ?_; intro v1 w1x hown1 hg1; have hs1 := K3.out _ _ _ (by assumption) hg1 (fun q e => by cases e); have HOW1 := Lib.hid hown1; clear hown1; have hnb := World.news_of_block ((hg1.block W7.heap.size (by simp) (fun e => by cases e)).trans (heap_alloc_new W7 (.cells #[.string nm, .slice (some ⟨e1, 0, none⟩) 1 1] 50))); have HNB := Lib.hid hnb; clear hnb) | (refine step_append_rowT _ (by rfl) _ _ _ (by rfl) W7.heap.size 50 i1 (.agg #[.string ⟨#[]⟩, .slice none 0 0]) 2 40 undZoT hi1 hz10 hz11 hz12 rfl (by decide) (by rfl) p2 b.zones.length c2 (b.zones.flatMap zoCells) (by rfl) HL1.out (KN1.out _ (KI.out _ (by assumption))) HO1.out hm1a hm1b (KZ.out _ (by assumption)) ?_; intro v1 w1x hown1 hg1; have hs1 := K3.out _ _ _ (by assumption) hg1 (fun q e => by cases e); have HOW1 := Lib.hid hown1; clear hown1) | (refine step_append_ownA _ (by rfl) _ _ _ (by rfl) W7.heap.size 50 i1 (.agg #[.string ⟨#[]⟩, .slice none 0 0]) 2 40 undZoT hi1 hz10 hz11 hz12 rfl (by decide) v1 b.zones.length (b.zones.flatMap zoCells) (by rfl) (HOW1.out) ⟨W7.heap.size, 0, none⟩ 1 1 [.string nm, .slice (some ⟨e1, 0, none⟩) 1 1] (by rfl) (by rfl) (HNB.out) HO2.out hm2a hm2b (KZ.out _ (by assumption)) ?_; intro v2 w2x hown2 hg2 _; obtain ⟨A9, c9, rfl⟩ := own_sliceN hown2; have hs2 := K3.out _ _ _ (by assumption) hg2 (KO.out _ _ _ _ HOW1.out); have HOW2 := Lib.hid hown2; have hf2 := KF.out _ hs2; obtain ⟨x3, hc3⟩ := KC.out _ hs2; clear hown2) | (refine step_append_ownA _ (by rfl) _ _ _ (by rfl) W7.heap.size 50 i1 (.agg #[.string ⟨#[]⟩, .slice none 0 0]) 2 40 undZoT hi1 hz10 hz11 hz12 rfl (by decide) v1 b.zones.length (b.zones.flatMap zoCells) (by rfl) (World.ownsRow.alloc HOW1.out _) ⟨w1x.heap.size, 0, none⟩ 1 1 [.string nm, .slice (some ⟨e1, 0, none⟩) 1 1] (by rfl) (by rfl) (World.news_of_block (heap_alloc_new w1x (.cells #[.string nm, .slice (some ⟨e1, 0, none⟩) 1 1] 50))) HO2.out hm2a hm2b (KZ.out _ (by assumption)) ?_; intro v2 w2x hown2 hg2 _; obtain ⟨A9, c9, rfl⟩ := own_sliceN hown2; have hs2 := K3.out _ _ _ (by assumption) hg2 (KO.out _ _ _ _ HOW1.out); have HOW2 := Lib.hid hown2; have hf2 := KF.out _ hs2; obtain ⟨x3, hc3⟩ := KC.out _ hs2; clear hown2))
            all_goals go_wp2_with fail
            all_goals go_meet
            all_goals
              obtain ⟨f1, f2, f3⟩ := KFIN.out _ _ hs2 (by first | exact ((hg2.block _ (by have := (KI.out _ hs1).lt; have := (KI.out _ hs1).z; omega) (fun e => by have := (World.ownsRow.lt HOW1.out _ e.symm).1; have := (KI.out _ hs1).lt; omega)).trans ((hg1.block _ (by have := (KI.out _ hs1).lt; simp; omega) (fun e => by cases e)).trans (Below.heap_alloc _ _ _ (KI.out _ hs1).lt))) | exact ((hg2.block _ (by have := (KI.out _ hs1).lt; have := (KI.out _ hs1).z; simp; omega) (fun e => by have := (World.ownsRow.lt HOW1.out _ e.symm).1; have := (KI.out _ hs1).lt; omega)).trans ((Below.heap_alloc _ _ _ (by have := (KI.out _ hs1).lt; have := (KI.out _ hs1).z; omega)).trans (hg1.block _ (by have := (KI.out _ hs1).lt; simp; omega) (fun e => by cases e))))) HOW2.out
              exact ⟨_, Lib.hid f1, Lib.hid f2, Lib.hid f3⟩
          case rest =>
          obtain ⟨v3, HOW7, HXC7, HK7⟩ := hcut
          obtain ⟨WA, eWA⟩ : ∃ WA, wc = WA := ⟨_, rfl⟩
          rw [eWA] at HOW7 HXC7 HK7 ⊢
          clear eWA wc
          have hzA : W7.heap.size ≤ WA.heap.size := HK7.out.2.2
          have HAA := Lib.hid (HA7.out.trans (HK7.out.2.1.mono h0cb))
          have HWA := Lib.hid (HB0.out.trans (HAA.out.mono (Nat.le_succ _)))
          have hown7 := HOW7.out
          obtain ⟨A3, a3, e3v⟩ := own_sliceN hown7
          subst e3v
          have hzrA : RowsAt zoCells 2 WA.heap.size WA (.slice A3 (b.zones.length + 1) a3) (b.zones ++ [⟨nm, .slice (some ⟨e1, 0, none⟩) 1 1, [⟨off, ru, sv, fm, 0⟩]⟩]) := by
            refine own_rowsG (cells := zoCells) (k := 2) (fun _ => rfl) (B := W7.heap.size) (T := 50) ?_ ?_
            · rw [List.length_append, List.flatMap_append]; exact hown7
            · rw [List.length_append, List.length_singleton]; omega
          have hbkA : BookAt WA.heap.size WA (.slice p1 b.rules.length c1) (.slice A3 (b.zones.length + 1) a3) (.slice p3 b.links.length c3) ⟨b.rules, b.zones ++ [⟨nm, .slice (some ⟨e1, 0, none⟩) 1 1, [⟨off, ru, sv, fm, 0⟩]⟩], b.links⟩ := by
            have h := HBK.out WA HWA.out
            refine ⟨h.r, hzrA, ?_, h.l, HSZ.out.1, ?_, HSZ.out.2.2⟩
            · intro z hz
              rcases List.mem_append.1 hz with hz | hz
              · exact h.e z hz
              · rw [List.mem_singleton.1 hz]; exact HER.out WA ((HK7.out.1 e1 (by omega) (by omega)).trans HXE7.out)
            · intro z hz
              rcases List.mem_append.1 hz with hz | hz
              · exact HSZ.out.2.1 z hz
              · rw [List.mem_singleton.1 hz]
                exact ⟨hnm, fun x hx => by rw [List.mem_singleton.1 hx]; exact HSX.out⟩
          have hck := bkCheck_any _ _ _ _ WA hbkA (HTM.out WA HWA.out).1 (HTM.out WA HWA.out).2
          rw [HMR.out] at hck
          have HCK2 := Lib.hid hck
          obtain ⟨u0, u1, u2⟩ := BxT.cells ⟨HXC7.out⟩
          have hcc : (CA == CA) = true := beq_self_eq_true _
          clear hown7 hzrA hbkA hck HOW7 HXC7 HK7
          go_wp2_with fail
          refine HCK2.out.mono ?_
          rintro e wB ⟨rfl, hbB⟩
          have hfin := HWA.out.trans (hbB.mono (show b0 ≤ WA.heap.size by omega))
          rw [← HEB.out] at hfin
          go_wp2_with fail
          go_ret
          exact ⟨rfl, hfin⟩
end Go.Proofs.YtmhfhmhjaecoaaaGreatDoor
