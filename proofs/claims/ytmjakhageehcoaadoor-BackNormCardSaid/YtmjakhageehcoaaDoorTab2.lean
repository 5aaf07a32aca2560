/- table.Check of a table that has types and is not too large: what it returns. -/
import Derived.Test.YtmjakhageehcoaaDoorTab1
namespace Go.Proofs.YtmjakhageehcoaaDoor
open Go.RowKit
set_option linter.unusedVariables false
set_option linter.unusedSimpArgs false

theorem tyAt.mono {w w' : World} {B b o : Nat} {x : Ty} (h : tyAt w b o x) (hb : Below B w w') (hlt : b < B) : tyAt w' b o x :=
  ⟨(hb.cell (p := ⟨b, o, none⟩) hlt).trans h.1, (hb.cell (p := ⟨b, o + 1, none⟩) hlt).trans h.2.1, (hb.cell (p := ⟨b, o + 2, none⟩) hlt).trans h.2.2⟩
theorem chAt.mono {w w' : World} {B b o : Nat} {x : Ch} (h : chAt w b o x) (hb : Below B w w') (hlt : b < B) : chAt w' b o x :=
  ⟨(hb.cell (p := ⟨b, o, none⟩) hlt).trans h.1, (hb.cell (p := ⟨b, o + 1, none⟩) hlt).trans h.2⟩
theorem bcellB {B : Nat} {W w1 : World} (hb : Below B W w1) : (∀ b o, b < B → w1.cell? ⟨b, o, none⟩ = W.cell? ⟨b, o, none⟩) ∧ (∀ b o, b < B → w1.frozen? ⟨b, o, none⟩ = W.frozen? ⟨b, o, none⟩) :=
  ⟨fun b o h => hb.cell (p := ⟨b, o, none⟩) h, fun b o h => hb.frozen (p := ⟨b, o, none⟩) h⟩
theorem below_drewN' {B : Nat} {a w : World} (h : Below B a w) (n : Nat) : Below B a (w.drewN n) := ⟨h.os, h.tape, h.output, h.size, h.block⟩

theorem chk_types (t : Tab) (hbig : big t = false) (hn : t.types ≠ []) (h : chkTypes t.types ≠ 0) : chk t = chkTypes t.types := by
  unfold chk; rw [if_neg (by simp [hbig]), if_neg hn, if_neg h]
theorem chk_first (t : Tab) (hbig : big t = false) (hn : t.types ≠ []) (h : chkTypes t.types = 0) (hf : okIdx ((t.types.length : Int) - 1) t.first = false) : chk t = 1 := by
  unfold chk; rw [if_neg (by simp [hbig]), if_neg hn, if_pos h, if_neg (by simp [hf])]
theorem chk_chs (t : Tab) (hbig : big t = false) (hn : t.types ≠ []) (h : chkTypes t.types = 0) (hf : okIdx ((t.types.length : Int) - 1) t.first = true) : chk t = chkChs ((t.types.length : Int) - 1) none t.chs := by
  unfold chk; rw [if_neg (by simp [hbig]), if_neg hn, if_pos h, if_pos hf]

set_option maxHeartbeats 4000000 in
theorem Check_nochs (l : List Ty) (f : Int) (m : List Ch) (b o cap cap2 : Nat) (p2 : Option Addr) (w : World) (hb : b < w.heap.size) (hty : ∀ i (h : i < l.length), tyAt w b (o + i * 3) l[i]) (hnm : ∀ x ∈ l, x.name.size ≤ maxLen)
    (hbig : big ⟨l, f, m⟩ = false) (hn : l ≠ []) (hm : m = []) :
    Calls Tryd.prog 23 #[.agg #[.slice (some ⟨b, o, none⟩) l.length cap, .int .i64 f, .slice p2 m.length cap2]] w fun e w' => e = .returned (.int .i64 (chk ⟨l, f, m⟩)) ∧ Below w.heap.size w w' := by
  have ht1 : Hid (chkTypes l ≠ 0 → chk ⟨l, f, m⟩ = chkTypes l) := chk_types ⟨l, f, m⟩ hbig hn
  have ht2 : Hid (chkTypes l = 0 → okIdx ((l.length : Int) - 1) f = false → chk ⟨l, f, m⟩ = 1) := chk_first ⟨l, f, m⟩ hbig hn
  have ht3 : Hid (chkTypes l = 0 → okIdx ((l.length : Int) - 1) f = true → chk ⟨l, f, m⟩ = chkChs ((l.length : Int) - 1) none m) := chk_chs ⟨l, f, m⟩ hbig hn
  have HTY := Lib.hid hty
  have HNM := Lib.hid hnm
  have E0 : Hid (m.length = 0) := by show m.length = 0; rw [hm]; rfl
  have HM := Lib.hid hm
  have hpos : 0 < l.length := List.length_pos_iff.2 hn
  simp only [big, decide_eq_false_iff_not] at hbig
  have hN : ¬ (250 : Int) < l.length := by omega
  have hM : ¬ (1000 : Int) < m.length := by omega
  have hN' : l.length ≤ 250 := by omega
  have hM' : m.length ≤ 1000 := by omega
  have hz : ((l.length : Int) == 0) = false := by simp; omega
  obtain ⟨R, eR⟩ : ∃ R : Int, chk ⟨l, f, m⟩ = R := ⟨_, rfl⟩
  rw [eR]
  have ER := Lib.hid eR
  clear hty hnm hbig hn eR hm
  obtain ⟨w0, hw0⟩ : ∃ w0, w.alloc (.cells #[.slice (some ⟨b, o, none⟩) l.length cap, .int .i64 f, .slice p2 m.length cap2] 25) = w0 := ⟨_, rfl⟩
  have hbw : Below w.heap.size w w0 := by rw [← hw0]; exact (Below.refl _ _).alloc (Nat.le_refl _) _
  have hsz : w0.heap.size = w.heap.size + 1 := by rw [← hw0]; simp
  have hq0 : w0.cell? ⟨w.heap.size, 0, none⟩ = some (.slice (some ⟨b, o, none⟩) l.length cap) := by rw [← hw0]; simp [go_sem]
  have hq1 : w0.cell? ⟨w.heap.size, 1, none⟩ = some (.int .i64 f) := by rw [← hw0]; simp [go_sem]
  have hq2 : w0.cell? ⟨w.heap.size, 2, none⟩ = some (.slice p2 m.length cap2) := by rw [← hw0]; simp [go_sem]
  have HW0 := Lib.hid hw0
  have HSZ := Lib.hid hsz
  clear hw0 hsz
  have HQ0 := Lib.hid hq0
  have HQ1 := Lib.hid hq1
  have HQ2 := Lib.hid hq2
  clear hq0 hq1 hq2
  go_enter Tryd.func23, Tryd.ntmps23
  go_wp2
  go_loopw [27] (fun i wr => ∃ k : Nat, k ≤ l.length ∧ i = .int .i64 k ∧ Below (w.heap.size + 1) (w.alloc (.cells #[.slice (some ⟨b, o, none⟩) l.length cap, .int .i64 f, .slice p2 m.length cap2] 25)) wr ∧ chkTypes l = chkTypes (l.drop k)) (fun i _ => l.length - (intOf i).toNat)
  case atStart => exact ⟨0, Nat.zero_le _, rfl, Below.refl _ _, rfl⟩
  case round =>
    obtain ⟨k, hk, rfl, hbel, hch⟩ := hrel
    rw [HW0.out] at hbel
    have HCH := Lib.hid hch
    clear hch
    by_cases hlt : k < l.length
    · obtain ⟨x, ex⟩ : ∃ x, l[k] = x := ⟨_, rfl⟩
      have hat := ((HTY.out k hlt).mono hbw hb).mono hbel (by omega)
      have hnx := HNM.out l[k] (List.getElem_mem hlt)
      rw [ex] at hat hnx
      obtain ⟨c0, c1, c2⟩ := hat
      have EX := Lib.hid ex
      clear ex
      cases ho : wiB x.off (-75600) 75600
      · have hr : Hid (R = 1) := by
          have h1 := chkTypes_off l k hlt (by rw [EX.out]; exact ho)
          have h2 : chkTypes l = 1 := by rw [HCH.out, h1]
          have h3 := ht1.out (by rw [h2]; decide)
          show R = 1
          rw [← ER.out, h3, h2]
        go_wp2_with (first | (go_at_call 42; refine (tab_within _ _ _ _).mono ?_; rintro e w' ⟨rfl, rfl⟩))
        go_ret
        exact ⟨ret_int' hr.out.symm, hbw.trans ((hbel.mono (by omega)).alloc (by have := hbel.size; have := HSZ.out; omega) _)⟩
      · cases ha : abbrB x.name
        · have hr : Hid (R = 3) := by
            have h1 := chkTypes_abbr l k hlt (by rw [EX.out]; exact ho) (by rw [EX.out]; exact ha)
            have h2 : chkTypes l = 3 := by rw [HCH.out, h1]
            have h3 := ht1.out (by rw [h2]; decide)
            show R = 3
            rw [← ER.out, h3, h2]
          go_wp2_with (first | (go_at_call 42; refine (tab_within _ _ _ _).mono ?_; rintro e w' ⟨rfl, rfl⟩) | (go_at_call 43; refine (isAbbr_any _ _ hnx).mono ?_; rintro e w' ⟨rfl, rfl⟩))
          go_ret
          exact ⟨ret_int' hr.out.symm, hbw.trans ((hbel.mono (by omega)).alloc (by have := hbel.size; have := HSZ.out; omega) _)⟩
        · have hstep : Hid (chkTypes l = chkTypes (l.drop (k + 1))) := by
            show _ = _
            rw [HCH.out, chkTypes_drop l k hlt (by rw [EX.out]; exact ho) (by rw [EX.out]; exact ha)]
          go_wp2_with (first | (go_at_call 42; refine (tab_within _ _ _ _).mono ?_; rintro e w' ⟨rfl, rfl⟩) | (go_at_call 43; refine (isAbbr_any _ _ hnx).mono ?_; rintro e w' ⟨rfl, rfl⟩))
          go_roundw
          case rel => exact ⟨k + 1, by omega, by go_num, by rw [HW0.out]; exact hbel.alloc (by have := hbel.size; have := HSZ.out; omega) _, hstep.out⟩
          case measure => simp [intOf]; omega
    · obtain rfl : k = l.length := by omega
      have h0 : chkTypes l = 0 := by rw [HCH.out, List.drop_of_length_le (by omega)]; rfl
      have H0 := Lib.hid h0
      clear h0
      have hq0 := ((bcellB hbel).1 w.heap.size 0 (by omega)).trans HQ0.out
      have hq1 := ((bcellB hbel).1 w.heap.size 1 (by omega)).trans HQ1.out
      have hq2 := ((bcellB hbel).1 w.heap.size 2 (by omega)).trans HQ2.out
      cases hfi : wiB f 0 ((l.length : Int) - 1)
      · have hr : Hid (R = 1) := by
          show R = 1
          rw [← ER.out, ht2.out H0.out hfi]
        go_wp2_with (first | (go_at_call 42; refine (tab_within _ _ _ _).mono ?_; rintro e w' ⟨rfl, rfl⟩))
        go_ret
        exact ⟨ret_int' hr.out.symm, hbw.trans (hbel.mono (by omega))⟩
      · have hR : Hid (R = chkChs ((l.length : Int) - 1) none m) := by
          show R = _
          rw [← ER.out, ht3.out H0.out hfi]
        go_wp2_with (first | (go_at_call 42; refine (tab_within _ _ _ _).mono ?_; rintro e w' ⟨rfl, rfl⟩))
        go_loopw [52] (fun i w2 => ∃ k : Nat, k ≤ m.length ∧ i = .int .i64 k ∧ Below (w.heap.size + 1) (w.alloc (.cells #[.slice (some ⟨b, o, none⟩) l.length cap, .int .i64 f, .slice p2 m.length cap2] 25)) w2 ∧ chkChs ((l.length : Int) - 1) none m = chkChs ((l.length : Int) - 1) (prevOf m k) (m.drop k)) (fun i _ => m.length - (intOf i).toNat)
        case atStart => exact ⟨0, Nat.zero_le _, rfl, by rw [HW0.out]; exact hbel, rfl⟩
        case round =>
          obtain ⟨k, hk2, rfl, hbel2, hcc⟩ := hrel
          rw [HW0.out] at hbel2
          have HCC := Lib.hid hcc
          clear hcc
          by_cases hlt2 : k < m.length
          · have := E0.out; omega
          · obtain rfl : k = m.length := by omega
            have hr : Hid (R = 0) := by show R = 0; rw [hR.out, HCC.out, List.drop_of_length_le (by omega)]; cases prevOf m m.length <;> rfl
            go_wp2
            go_ret
            exact ⟨ret_int' hr.out.symm, hbw.trans (hbel2.mono (by omega))⟩

set_option maxHeartbeats 4000000 in
theorem Check_chs (l : List Ty) (f : Int) (m : List Ch) (b o cap b2 o2 cap2 : Nat) (w : World) (hb : b < w.heap.size) (hty : ∀ i (h : i < l.length), tyAt w b (o + i * 3) l[i]) (hnm : ∀ x ∈ l, x.name.size ≤ maxLen)
    (hbig : big ⟨l, f, m⟩ = false) (hn : l ≠ []) (hb2 : b2 < w.heap.size) (hch2 : ∀ i (h : i < m.length), chAt w b2 (o2 + i * 2) m[i]) :
    Calls Tryd.prog 23 #[.agg #[.slice (some ⟨b, o, none⟩) l.length cap, .int .i64 f, .slice (some ⟨b2, o2, none⟩) m.length cap2]] w fun e w' => e = .returned (.int .i64 (chk ⟨l, f, m⟩)) ∧ Below w.heap.size w w' := by
  have ht1 : Hid (chkTypes l ≠ 0 → chk ⟨l, f, m⟩ = chkTypes l) := chk_types ⟨l, f, m⟩ hbig hn
  have ht2 : Hid (chkTypes l = 0 → okIdx ((l.length : Int) - 1) f = false → chk ⟨l, f, m⟩ = 1) := chk_first ⟨l, f, m⟩ hbig hn
  have ht3 : Hid (chkTypes l = 0 → okIdx ((l.length : Int) - 1) f = true → chk ⟨l, f, m⟩ = chkChs ((l.length : Int) - 1) none m) := chk_chs ⟨l, f, m⟩ hbig hn
  have HTY := Lib.hid hty
  have HNM := Lib.hid hnm
  have HC := Lib.hid hch2
  have hpos : 0 < l.length := List.length_pos_iff.2 hn
  simp only [big, decide_eq_false_iff_not] at hbig
  have hN : ¬ (250 : Int) < l.length := by omega
  have hM : ¬ (1000 : Int) < m.length := by omega
  have hN' : l.length ≤ 250 := by omega
  have hM' : m.length ≤ 1000 := by omega
  have hz : ((l.length : Int) == 0) = false := by simp; omega
  obtain ⟨R, eR⟩ : ∃ R : Int, chk ⟨l, f, m⟩ = R := ⟨_, rfl⟩
  rw [eR]
  have ER := Lib.hid eR
  clear hty hnm hbig hn eR hch2
  obtain ⟨w0, hw0⟩ : ∃ w0, w.alloc (.cells #[.slice (some ⟨b, o, none⟩) l.length cap, .int .i64 f, .slice (some ⟨b2, o2, none⟩) m.length cap2] 25) = w0 := ⟨_, rfl⟩
  have hbw : Below w.heap.size w w0 := by rw [← hw0]; exact (Below.refl _ _).alloc (Nat.le_refl _) _
  have hsz : w0.heap.size = w.heap.size + 1 := by rw [← hw0]; simp
  have hq0 : w0.cell? ⟨w.heap.size, 0, none⟩ = some (.slice (some ⟨b, o, none⟩) l.length cap) := by rw [← hw0]; simp [go_sem]
  have hq1 : w0.cell? ⟨w.heap.size, 1, none⟩ = some (.int .i64 f) := by rw [← hw0]; simp [go_sem]
  have hq2 : w0.cell? ⟨w.heap.size, 2, none⟩ = some (.slice (some ⟨b2, o2, none⟩) m.length cap2) := by rw [← hw0]; simp [go_sem]
  have HW0 := Lib.hid hw0
  have HSZ := Lib.hid hsz
  clear hw0 hsz
  have HQ0 := Lib.hid hq0
  have HQ1 := Lib.hid hq1
  have HQ2 := Lib.hid hq2
  clear hq0 hq1 hq2
  go_enter Tryd.func23, Tryd.ntmps23
  go_wp2
  go_loopw [27] (fun i wr => ∃ k : Nat, k ≤ l.length ∧ i = .int .i64 k ∧ Below (w.heap.size + 1) (w.alloc (.cells #[.slice (some ⟨b, o, none⟩) l.length cap, .int .i64 f, .slice (some ⟨b2, o2, none⟩) m.length cap2] 25)) wr ∧ chkTypes l = chkTypes (l.drop k)) (fun i _ => l.length - (intOf i).toNat)
  case atStart => exact ⟨0, Nat.zero_le _, rfl, Below.refl _ _, rfl⟩
  case round =>
    obtain ⟨k, hk, rfl, hbel, hch⟩ := hrel
    rw [HW0.out] at hbel
    have HCH := Lib.hid hch
    clear hch
    by_cases hlt : k < l.length
    · obtain ⟨x, ex⟩ : ∃ x, l[k] = x := ⟨_, rfl⟩
      have hat := ((HTY.out k hlt).mono hbw hb).mono hbel (by omega)
      have hnx := HNM.out l[k] (List.getElem_mem hlt)
      rw [ex] at hat hnx
      obtain ⟨c0, c1, c2⟩ := hat
      have EX := Lib.hid ex
      clear ex
      cases ho : wiB x.off (-75600) 75600
      · have hr : Hid (R = 1) := by
          have h1 := chkTypes_off l k hlt (by rw [EX.out]; exact ho)
          have h2 : chkTypes l = 1 := by rw [HCH.out, h1]
          have h3 := ht1.out (by rw [h2]; decide)
          show R = 1
          rw [← ER.out, h3, h2]
        go_wp2_with (first | (go_at_call 42; refine (tab_within _ _ _ _).mono ?_; rintro e w' ⟨rfl, rfl⟩))
        go_ret
        exact ⟨ret_int' hr.out.symm, hbw.trans ((hbel.mono (by omega)).alloc (by have := hbel.size; have := HSZ.out; omega) _)⟩
      · cases ha : abbrB x.name
        · have hr : Hid (R = 3) := by
            have h1 := chkTypes_abbr l k hlt (by rw [EX.out]; exact ho) (by rw [EX.out]; exact ha)
            have h2 : chkTypes l = 3 := by rw [HCH.out, h1]
            have h3 := ht1.out (by rw [h2]; decide)
            show R = 3
            rw [← ER.out, h3, h2]
          go_wp2_with (first | (go_at_call 42; refine (tab_within _ _ _ _).mono ?_; rintro e w' ⟨rfl, rfl⟩) | (go_at_call 43; refine (isAbbr_any _ _ hnx).mono ?_; rintro e w' ⟨rfl, rfl⟩))
          go_ret
          exact ⟨ret_int' hr.out.symm, hbw.trans ((hbel.mono (by omega)).alloc (by have := hbel.size; have := HSZ.out; omega) _)⟩
        · have hstep : Hid (chkTypes l = chkTypes (l.drop (k + 1))) := by
            show _ = _
            rw [HCH.out, chkTypes_drop l k hlt (by rw [EX.out]; exact ho) (by rw [EX.out]; exact ha)]
          go_wp2_with (first | (go_at_call 42; refine (tab_within _ _ _ _).mono ?_; rintro e w' ⟨rfl, rfl⟩) | (go_at_call 43; refine (isAbbr_any _ _ hnx).mono ?_; rintro e w' ⟨rfl, rfl⟩))
          go_roundw
          case rel => exact ⟨k + 1, by omega, by go_num, by rw [HW0.out]; exact hbel.alloc (by have := hbel.size; have := HSZ.out; omega) _, hstep.out⟩
          case measure => simp [intOf]; omega
    · obtain rfl : k = l.length := by omega
      have h0 : chkTypes l = 0 := by rw [HCH.out, List.drop_of_length_le (by omega)]; rfl
      have H0 := Lib.hid h0
      clear h0
      have hq0 := ((bcellB hbel).1 w.heap.size 0 (by omega)).trans HQ0.out
      have hq1 := ((bcellB hbel).1 w.heap.size 1 (by omega)).trans HQ1.out
      have hq2 := ((bcellB hbel).1 w.heap.size 2 (by omega)).trans HQ2.out
      cases hfi : wiB f 0 ((l.length : Int) - 1)
      · have hr : Hid (R = 1) := by
          show R = 1
          rw [← ER.out, ht2.out H0.out hfi]
        go_wp2_with (first | (go_at_call 42; refine (tab_within _ _ _ _).mono ?_; rintro e w' ⟨rfl, rfl⟩))
        go_ret
        exact ⟨ret_int' hr.out.symm, hbw.trans (hbel.mono (by omega))⟩
      · have hR : Hid (R = chkChs ((l.length : Int) - 1) none m) := by
          show R = _
          rw [← ER.out, ht3.out H0.out hfi]
        go_wp2_with (first | (go_at_call 42; refine (tab_within _ _ _ _).mono ?_; rintro e w' ⟨rfl, rfl⟩))
        go_loopw [52] (fun i w2 => ∃ k : Nat, k ≤ m.length ∧ i = .int .i64 k ∧ Below (w.heap.size + 1) (w.alloc (.cells #[.slice (some ⟨b, o, none⟩) l.length cap, .int .i64 f, .slice (some ⟨b2, o2, none⟩) m.length cap2] 25)) w2 ∧ chkChs ((l.length : Int) - 1) none m = chkChs ((l.length : Int) - 1) (prevOf m k) (m.drop k)) (fun i _ => m.length - (intOf i).toNat)
        case atStart => exact ⟨0, Nat.zero_le _, rfl, by rw [HW0.out]; exact hbel, rfl⟩
        case round =>
          obtain ⟨k, hk2, rfl, hbel2, hcc⟩ := hrel
          rw [HW0.out] at hbel2
          have HCC := Lib.hid hcc
          clear hcc
          by_cases hlt2 : k < m.length
          · obtain ⟨x, ex⟩ : ∃ x, m[k] = x := ⟨_, rfl⟩
            have hat := ((HC.out k hlt2).mono hbw hb2).mono hbel2 (by omega)
            rw [ex] at hat
            obtain ⟨c0, c1⟩ := hat
            have EX := Lib.hid ex
            clear ex
            have hs2 := hbel2.size
            have hs0 := HSZ.out
            cases ho : wiB x.t (-1099511627776) 1099511627776
            · have hr : Hid (R = 1) := by
                show R = 1
                rw [hR.out, HCC.out, chkChs_bad _ m k hlt2 (by rw [EX.out, okTime_wi, ho]; rfl)]
              go_wp2_with (first | (go_at_call 42; refine (tab_within _ _ _ _).mono ?_; rintro e w' ⟨rfl, rfl⟩))
              go_ret
              exact ⟨ret_int' hr.out.symm, hbw.trans ((hbel2.mono (by omega)).alloc (by omega) _)⟩
            · cases hi : wiB x.k 0 ((l.length : Int) - 1)
              · have hr : Hid (R = 1) := by
                  show R = 1
                  rw [hR.out, HCC.out, chkChs_bad _ m k hlt2 (by rw [EX.out, okTime_wi, ho, okIdx_wi, hi]; rfl)]
                go_wp2_with (first | (go_at_call 42; refine (tab_within _ _ _ _).mono ?_; rintro e w' ⟨rfl, rfl⟩))
                go_ret
                exact ⟨ret_int' hr.out.symm, hbw.trans ((hbel2.mono (by omega)).alloc (by omega) _)⟩
              · have hok : Hid ((okTime x.t && okIdx ((l.length : Int) - 1) x.k) = true) := by show _ = _; rw [okTime_wi, ho, okIdx_wi, hi]; rfl
                cases k with
                | zero =>
                  simp only [Nat.zero_mul, Nat.add_zero] at c0 c1
                  have hstep : Hid (chkChs ((l.length : Int) - 1) none m = chkChs ((l.length : Int) - 1) (prevOf m 1) (m.drop 1)) := by
                    show _ = _
                    rw [HCC.out, chkChs_drop _ m 0 hlt2 (by rw [EX.out]; exact hok.out) rfl]
                  go_wp2_with (first | (go_at_call 42; refine (tab_within _ _ _ _).mono ?_; rintro e w' ⟨rfl, rfl⟩))
                  go_quiet (fail)
                  go_wp2
                  go_roundw
                  case rel => exact ⟨1, by omega, by go_num, by rw [HW0.out]; exact below_drewN' (hbel2.alloc (by omega) _) _, hstep.out⟩
                  case measure => simp [intOf]; omega
                | succ j =>
                  obtain ⟨y, ey⟩ : ∃ y, m[j] = y := ⟨_, rfl⟩
                  have hay := ((HC.out j (by omega)).mono hbw hb2).mono hbel2 (by omega)
                  rw [ey] at hay
                  obtain ⟨y0, y1⟩ := hay
                  have hq2 := ((bcellB hbel2).1 w.heap.size 2 (by omega)).trans HQ2.out
                  have hprev : prevOf m (j + 1) = some y.t := by simp only [prevOf]; rw [List.getElem?_eq_getElem (by omega), ey]; rfl
                  have HP := Lib.hid hprev
                  clear ey hprev
                  have q1 : IntKind.i64.wrap ((j : Int) + 1 - 1) = (j : Int) := by rw [show (j : Int) + 1 - 1 = j by omega]; exact IntWalk.i64_in _ (by omega)
                  have q2 : (j : Int) < (m.length : Int) := by omega
                  have q3 : w.heap.size < wr.heap.size := by omega
                  have q4 : b2 < wr.heap.size := by omega
                  by_cases hle : x.t ≤ y.t
                  · have hr : Hid (R = 5) := by
                      show R = 5
                      rw [hR.out, HCC.out, chkChs_back _ m (j + 1) hlt2 (by rw [EX.out]; exact hok.out) (by rw [HP.out, EX.out]; simpa [before] using hle)]
                    go_wp2_with (first | (go_at_call 42; refine (tab_within _ _ _ _).mono ?_; rintro e w' ⟨rfl, rfl⟩))
                    go_quiet (fail)
                    go_wp2
                    go_ret
                    exact ⟨ret_int' hr.out.symm, hbw.trans (below_drewN' ((hbel2.mono (by omega)).alloc (by omega) _) _)⟩
                  · have hstep : Hid (chkChs ((l.length : Int) - 1) none m = chkChs ((l.length : Int) - 1) (prevOf m (j + 1 + 1)) (m.drop (j + 1 + 1))) := by
                      show _ = _
                      rw [HCC.out, chkChs_drop _ m (j + 1) hlt2 (by rw [EX.out]; exact hok.out) (by rw [HP.out, EX.out]; simpa [before] using hle)]
                    go_wp2_with (first | (go_at_call 42; refine (tab_within _ _ _ _).mono ?_; rintro e w' ⟨rfl, rfl⟩))
                    go_quiet (fail)
                    go_wp2
                    go_roundw
                    case rel => exact ⟨j + 1 + 1, by omega, by go_num, by rw [HW0.out]; exact below_drewN' (hbel2.alloc (by omega) _) _, hstep.out⟩
                    case measure => simp [intOf]; omega
          · obtain rfl : k = m.length := by omega
            have hr : Hid (R = 0) := by show R = 0; rw [hR.out, HCC.out, List.drop_of_length_le (by omega)]; cases prevOf m m.length <;> rfl
            go_wp2
            go_ret
            exact ⟨ret_int' hr.out.symm, hbw.trans (hbel2.mono (by omega))⟩

/-- table.Check, of whatever table. -/
theorem Check_any (t : Tab) (v : Value) (w : World) (hv : TabAt w v t) :
    Calls Tryd.prog 23 #[v] w fun e w' => e = .returned (.int .i64 (chk t)) ∧ Below w.heap.size w w' := by
  cases hbg : big t
  · by_cases hn : t.types = []
    · exact Check_none t v w hv hbg hn
    · obtain ⟨sv, cv, rfl, ⟨⟨p, cap, rfl, hs⟩, hl1, hnm⟩, ⟨⟨p2, cap2, rfl, hc⟩, hl2⟩⟩ := hv.val
      obtain ⟨b, o, rfl, hb, hty⟩ := hs hn
      obtain ⟨l, f, m⟩ := t
      by_cases hm : m = []
      · exact Check_nochs l f m b o cap cap2 p2 w hb hty hnm hbg hn hm
      · obtain ⟨b2, o2, rfl, hb2, hch⟩ := hc hm
        exact Check_chs l f m b o cap b2 o2 cap2 w hb hty hnm hbg hn hb2 hch
  · exact Check_big t v w hv hbg

end Go.Proofs.YtmjakhageehcoaaDoor
