/- book.Check: what it returns. book.Check: the walk. day.Of: what it returns. -/
import Derived.Test.YtmpeplimiaaehaaDoorQ03
import Derived.Test.YtmpeplimiaaehaaDoorQ01
import Derived.Test.YtmpeplimiaaehaaDoorCiv3a
namespace Go.Proofs.YtmpeplimiaaehaaDoor
open Go.RowKit Go.Joins
open Classical
set_option linter.unusedVariables false
set_option linter.unusedSimpArgs false

/-- the three lists' first errors, as the code asks for them -/
def chkZ (b : Bk) (k : Nat) : Int := zoneChk b.rules (b.zones.take k) (b.zones[k]?.getD ⟨⟨#[]⟩, undef, []⟩)
def chkL (b : Bk) (k : Nat) : Int := linkChk b (b.links.take k) (b.links[k]?.getD ⟨⟨#[]⟩, ⟨#[]⟩⟩)
theorem chkZ_at (b : Bk) (k : Nat) (h : k < b.zones.length) : chkZ b k = zoneChk b.rules (b.zones.take k) b.zones[k] := by unfold chkZ; rw [List.getElem?_eq_getElem h]; rfl
theorem chkL_at (b : Bk) (k : Nat) (h : k < b.links.length) : chkL b k = linkChk b (b.links.take k) b.links[k] := by unfold chkL; rw [List.getElem?_eq_getElem h]; rfl
theorem bkChk_2 (b : Bk) (h : 40 < b.rules.length ∨ 20 < b.zones.length ∨ 20 < b.links.length) : bkChk b = 2 := by unfold bkChk; rw [if_pos h]
theorem bkChk_r (b : Bk) (h : ¬ (40 < b.rules.length ∨ 20 < b.zones.length ∨ 20 < b.links.length)) (h1 : firstE ruChk b.rules ≠ 0) : bkChk b = firstE ruChk b.rules := by unfold bkChk; rw [if_neg h, if_pos h1]
theorem bkChk_z (b : Bk) (h : ¬ (40 < b.rules.length ∨ 20 < b.zones.length ∨ 20 < b.links.length)) (h1 : firstE ruChk b.rules = 0) (h2 : firstE (chkZ b) (List.range b.zones.length) ≠ 0) : bkChk b = firstE (chkZ b) (List.range b.zones.length) := by
  unfold bkChk
  rw [if_neg h, if_neg (by rw [h1]; simp)]
  exact if_pos h2
theorem bkChk_l (b : Bk) (h : ¬ (40 < b.rules.length ∨ 20 < b.zones.length ∨ 20 < b.links.length)) (h1 : firstE ruChk b.rules = 0) (h2 : firstE (chkZ b) (List.range b.zones.length) = 0) : bkChk b = firstE (chkL b) (List.range b.links.length) := by
  unfold bkChk
  rw [if_neg h, if_neg (by rw [h1]; simp)]
  exact if_neg (by intro h3; exact h3 h2)
end Go.Proofs.YtmpeplimiaaehaaDoor
namespace Go.Proofs.YtmpeplimiaaehaaDoor
open Go.RowKit Go.Joins
open Classical
set_option linter.unusedVariables false
set_option linter.unusedSimpArgs false

set_option maxRecDepth 100000 in
set_option maxHeartbeats 8000000 in
theorem bkCheck_any (b : Bk) (rv zv lv : Value) (w : World) (hB : BookAt w.heap.size w rv zv lv b) (hm : MaxLen w) (ht : Tab10 w) :
    Calls Tryd.prog 7 #[.agg #[rv, zv, lv]] w fun e w' => e = .returned (.int .i64 (bkChk b)) ∧ Below w.heap.size w w' := by
  have hr := hB.r
  have hz := hB.z
  have hl := hB.l
  obtain ⟨p1, c1, rfl, hlen1, hrow1⟩ := hr
  obtain ⟨p2, c2, rfl, hlen2, hrow2⟩ := hz
  obtain ⟨p3, c3, rfl, hlen3, hrow3⟩ := hl
  obtain ⟨R, eR⟩ : ∃ R, bkChk b = R := ⟨_, rfl⟩
  have HR2 := Lib.hid (bkChk_2 b)
  have HRr := Lib.hid (bkChk_r b)
  have HRz := Lib.hid (bkChk_z b)
  have HRl := Lib.hid (bkChk_l b)
  rw [eR] at HR2 HRr HRz HRl ⊢
  obtain ⟨W0, eW⟩ : ∃ W0, w.alloc (.cells #[.slice p1 b.rules.length c1, .slice p2 b.zones.length c2, .slice p3 b.links.length c3] 26) = W0 := ⟨_, rfl⟩
  have hb0 : Below w.heap.size w W0 := by rw [← eW]; exact (Below.refl _ _).alloc (Nat.le_refl _) _
  have hbx : W0.heap[w.heap.size]? = some (.cells #[.slice p1 b.rules.length c1, .slice p2 b.zones.length c2, .slice p3 b.links.length c3] 26 (0, 0)) := by rw [← eW]; exact heap_alloc_new w _
  have hl0 : w.heap.size < W0.heap.size := by rw [← eW]; simp
  have x0 := (cell_of_row W0 _ 0 _ _ _ hbx).trans rfl
  have x1 := (cell_of_row W0 _ 1 _ _ _ hbx).trans rfl
  have x2 := (cell_of_row W0 _ 2 _ _ _ hbx).trans rfl
  have HEW := Lib.hid eW
  have HB0 := Lib.hid hb0
  have HBX := Lib.hid hbx
  have HBK := Lib.hid (hB.below hb0 (Nat.le_refl _))
  have HM0 := Lib.hid (hm.below hb0)
  have HT0 := Lib.hid (ht.below hb0)
  clear eW hb0 hbx hB hm ht hrow1 hrow2 hrow3 eR
  go_enter Tryd.func7, Tryd.ntmps7
  go_upto_region 1 with fail
  rw [HEW.out]
  by_cases hn1 : 40 < b.rules.length
  · have g1 : (40 : Int) < (b.rules.length : Int) := by omega
    have HRA := Lib.hid (HR2.out (Or.inl hn1))
    go_wp2_with fail
    go_ret
    exact ⟨ret_E HRA.out.symm, HB0.out⟩
  have g1 : ¬ (40 : Int) < (b.rules.length : Int) := by omega
  by_cases hn2 : 20 < b.zones.length
  · have g2 : (20 : Int) < (b.zones.length : Int) := by omega
    have HRA := Lib.hid (HR2.out (Or.inr (Or.inl hn2)))
    go_wp2_with fail
    go_ret
    exact ⟨ret_E HRA.out.symm, HB0.out⟩
  have g2 : ¬ (20 : Int) < (b.zones.length : Int) := by omega
  by_cases hn3 : 20 < b.links.length
  · have g3 : (20 : Int) < (b.links.length : Int) := by omega
    have HRA := Lib.hid (HR2.out (Or.inr (Or.inr hn3)))
    go_wp2_with fail
    go_ret
    exact ⟨ret_E HRA.out.symm, HB0.out⟩
  have g3 : ¬ (20 : Int) < (b.links.length : Int) := by omega
  have hno : ¬ (40 < b.rules.length ∨ 20 < b.zones.length ∨ 20 < b.links.length) := by omega
  have HRr' := Lib.hid (HRr.out hno)
  have HRz' := Lib.hid (HRz.out hno)
  have HRl' := Lib.hid (HRl.out hno)
  clear HRr HRz HRl HR2 hno
  have HX0 := Lib.hid x0
  have HX1 := Lib.hid x1
  have HX2 := Lib.hid x2
  go_wp2_with fail
  go_loopw [30] (fun i wr => ∃ k : Nat, k ≤ b.rules.length ∧ i = .int .i64 k ∧ Hid (Below W0.heap.size W0 wr) ∧ Hid (firstE ruChk b.rules = firstE ruChk (b.rules.drop k))) (fun i _ => b.rules.length - (intOf i).toNat)
  case atStart => exact ⟨0, Nat.zero_le _, rfl, Lib.hid (Below.refl _ _), rfl⟩
  case round =>
    obtain ⟨k, hk, rfl, HB, HF⟩ := hrel
    have hzr := HB.out.size
    have x0 := (HB.out.cell (p := ⟨w.heap.size, 0, none⟩) hl0).trans HX0.out
    have x1 := (HB.out.cell (p := ⟨w.heap.size, 1, none⟩) hl0).trans HX1.out
    have x2 := (HB.out.cell (p := ⟨w.heap.size, 2, none⟩) hl0).trans HX2.out
    have hl1 : w.heap.size < wr.heap.size := by omega
    by_cases hlt : k < b.rules.length
    · obtain ⟨q1, d1, eq1, hlenq, hrow⟩ := HBK.out.r
      injection eq1 with e1 e2 e3
      subst e1; subst e3
      obtain ⟨bb, o, rfl, hbl, hcs⟩ := hrow (List.ne_nil_of_length_pos (by omega))
      have hck := hcs k hlt
      obtain ⟨hs1, hs2⟩ := HBK.out.rs b.rules[k] (List.getElem_mem hlt)
      have HC := Lib.hid (fun W => ruCheck_any b.rules[k] W (by unfold maxLen; omega) (by unfold maxLen; omega))
      obtain ⟨q, eq⟩ : ∃ q, b.rules[k] = q := ⟨_, rfl⟩
      rw [eq] at hck hs1 hs2 HC
      have EQ := Lib.hid eq
      clear eq hcs hrow
      obtain ⟨E, eE⟩ : ∃ E, ruChk q = E := ⟨_, rfl⟩
      rw [eE] at HC
      have HV := Lib.hid eE
      clear eE
      obtain ⟨nm, yf, yt, mo, dk, dw, dn, tm, ck, sv', lt⟩ := q
      have up : ∀ j u, W0.cell? ⟨bb, o + k * 11 + j, none⟩ = some u → wr.cell? ⟨bb, o + k * 11 + j, none⟩ = some u := fun j u h => (HB.out.cell (p := ⟨bb, o + k * 11 + j, none⟩) (show bb < W0.heap.size by omega)).trans h
      have z0 := up 0 _ (hck 0 _ rfl)
      have z1 := up 1 _ (hck 1 _ rfl)
      have z2 := up 2 _ (hck 2 _ rfl)
      have z3 := up 3 _ (hck 3 _ rfl)
      have z4 := up 4 _ (hck 4 _ rfl)
      have z5 := up 5 _ (hck 5 _ rfl)
      have z6 := up 6 _ (hck 6 _ rfl)
      have z7 := up 7 _ (hck 7 _ rfl)
      have z8 := up 8 _ (hck 8 _ rfl)
      have z9 := up 9 _ (hck 9 _ rfl)
      have z10 := up 10 _ (hck 10 _ rfl)
      clear up hck
      rw [Nat.add_zero] at z0
      have HBn := Lib.hid (HB.out.alloc HB.out.size (.cells #[.string nm, .int .i64 yf, .int .i64 yt, .int .i64 mo, .int .i64 dk, .int .i64 dw, .int .i64 dn, .int .i64 tm, .int .i64 ck, .int .i64 sv', .string lt] 34))
      change Hid (∀ W, Calls _ _ #[.agg #[.string nm, .int .i64 yf, .int .i64 yt, .int .i64 mo, .int .i64 dk, .int .i64 dw, .int .i64 dn, .int .i64 tm, .int .i64 ck, .int .i64 sv', .string lt]] W _) at HC
      go_wp2_with fail
      refine (HC.out _).mono ?_
      rintro e w3 ⟨rfl, hb3⟩
      have HB3 := Lib.hid (HBn.out.trans (hb3.mono HBn.out.size))
      clear hb3 HC
      by_cases hE : E = 0
      · subst hE
        go_wp2_with fail
        go_roundw
        case rel => exact ⟨k + 1, by omega, by go_num, HB3, Lib.hid (firstE_drop ruChk b.rules k hlt (by rw [EQ.out]; exact HV.out) HF.out)⟩
        case measure => simp [intOf]; omega
      · have hz : (E == 0) = false := by simpa using hE
        have hz2 : (!E == 0) = true := by rw [hz]; rfl
        have HK2 : Hid (R = E) := by
          show R = E
          have h1 := firstE_hit ruChk b.rules k hlt (by rw [EQ.out, HV.out]; exact hE) HF.out
          rw [HRr'.out (by rw [h1, EQ.out, HV.out]; exact hE), h1, EQ.out, HV.out]
        clear hE
        go_wp2_with fail
        go_ret
        exact ⟨ret_E HK2.out.symm, HB0.out.trans (HB3.out.mono HB0.out.size)⟩
    · have hend := firstE_end ruChk b.rules k (by omega) HF.out
      have hkl : ¬ (k : Int) < (b.rules.length : Int) := by omega
      have HE1 := Lib.hid hend
      clear hend
      obtain ⟨W1, eW1⟩ : ∃ W1, wr.alloc (.cells #[.slice p1 b.rules.length c1, .slice p2 b.zones.length c2, .slice p3 b.links.length c3] 71) = W1 := ⟨_, rfl⟩
      have hb1 : Below W0.heap.size W0 W1 := by rw [← eW1]; exact HB.out.alloc HB.out.size _
      have hcx : W1.heap[wr.heap.size]? = some (.cells #[.slice p1 b.rules.length c1, .slice p2 b.zones.length c2, .slice p3 b.links.length c3] 71 (0, 0)) := by rw [← eW1]; exact heap_alloc_new wr _
      have hl3 : wr.heap.size < W1.heap.size := by rw [← eW1]; simp
      have hl2 : w.heap.size < W1.heap.size := by omega
      have X1 := Lib.hid ((hb1.cell (p := ⟨w.heap.size, 1, none⟩) hl0).trans HX1.out)
      have X2 := Lib.hid ((hb1.cell (p := ⟨w.heap.size, 2, none⟩) hl0).trans HX2.out)
      have hC1 : ChkBx W1 wr.heap.size (.slice p1 b.rules.length c1) (.slice p2 b.zones.length c2) (.slice p3 b.links.length c3) := hcx
      have HC1 := Lib.hid hC1
      have HB1 := Lib.hid hb1
      have HBK1 := Lib.hid (HBK.out.below hb1 (by omega))
      have HW1 := Lib.hid eW1
      have HS1 := Lib.hid hb1.size
      have y1 := X1.out
      have y2 := X2.out
      clear hb1 hcx eW1 hC1
      go_upto_region 11 with fail
      rw [HW1.out]
      go_wp2_with fail
      go_loopw [46] (fun i wr => ∃ k : Nat, k ≤ b.zones.length ∧ i = .int .i64 k ∧ Hid (Below W1.heap.size W1 wr) ∧ Hid (firstE (chkZ b) (List.range b.zones.length) = firstE (chkZ b) ((List.range b.zones.length).drop k))) (fun i _ => b.zones.length - (intOf i).toNat)
      case atStart => exact ⟨0, Nat.zero_le _, rfl, Lib.hid (Below.refl _ _), rfl⟩
      case round =>
        obtain ⟨j, hj, rfl, HBj, HFj⟩ := hrel
        rename World => wq
        have hzq := HBj.out.size
        have x1 := (HBj.out.cell (p := ⟨w.heap.size, 1, none⟩) hl2).trans X1.out
        have x2 := (HBj.out.cell (p := ⟨w.heap.size, 2, none⟩) hl2).trans X2.out
        by_cases hlt : j < b.zones.length
        · have HC := Lib.hid (zone_any b _ _ _ wr.heap.size j wq (HC1.out.below HBj.out hl3) ⟨(HBK1.out.r.below HBj.out (by omega)).mono (by omega), (HBK1.out.z.below HBj.out (by omega)).mono (by omega), fun z hz => ((HBK1.out.e z hz).below HBj.out (by omega)).mono (by omega), (HBK1.out.l.below HBj.out (by omega)).mono (by omega), HBK1.out.rs, HBK1.out.zs, HBK1.out.ls⟩ hlt (HM0.out.below (HB1.out.trans (HBj.out.mono HB1.out.size))) (HT0.out.below (HB1.out.trans (HBj.out.mono HB1.out.size))))
          have HAT := Lib.hid (chkZ_at b j hlt)
          rw [← HAT.out] at HC
          obtain ⟨E, eE⟩ : ∃ E, chkZ b j = E := ⟨_, rfl⟩
          rw [eE] at HC
          have HV := Lib.hid eE
          clear eE HAT
          go_wp2_with fail
          refine HC.out.mono ?_
          rintro e w3 ⟨rfl, hb3⟩
          have HB3 := Lib.hid (HBj.out.trans (hb3.mono HBj.out.size))
          clear hb3 HC
          by_cases hE : E = 0
          · subst hE
            go_wp2_with fail
            go_roundw
            case rel => exact ⟨j + 1, by omega, by go_num, HB3, Lib.hid (firstE_drop (chkZ b) (List.range b.zones.length) j (by simpa using hlt) (by rw [List.getElem_range]; exact HV.out) HFj.out)⟩
            case measure => simp [intOf]; omega
          · have hz : (E == 0) = false := by simpa using hE
            have hz2 : (!E == 0) = true := by rw [hz]; rfl
            have HK2 : Hid (R = E) := by
              show R = E
              have h1 := firstE_hit (chkZ b) (List.range b.zones.length) j (by simpa using hlt) (by rw [List.getElem_range, HV.out]; exact hE) HFj.out
              rw [HRz'.out HE1.out (by rw [h1, List.getElem_range, HV.out]; exact hE), h1, List.getElem_range, HV.out]
            clear hE
            go_wp2_with fail
            go_ret
            exact ⟨ret_E HK2.out.symm, HB0.out.trans ((HB1.out.trans (HB3.out.mono HB1.out.size)).mono HB0.out.size)⟩
        · have hend2 := firstE_end (chkZ b) (List.range b.zones.length) j (by simp; omega) HFj.out
          have hkl2 : ¬ (j : Int) < (b.zones.length : Int) := by omega
          have HE2 := Lib.hid hend2
          have HBq := HBj
          have hltz : True := trivial
          clear hend2
          go_wp2_with fail
          go_loopw [59] (fun i wr => ∃ k : Nat, k ≤ b.links.length ∧ i = .int .i64 k ∧ Hid (Below W1.heap.size W1 wr) ∧ Hid (firstE (chkL b) (List.range b.links.length) = firstE (chkL b) ((List.range b.links.length).drop k))) (fun i _ => b.links.length - (intOf i).toNat)
          case atStart => exact ⟨0, Nat.zero_le _, rfl, HBq, rfl⟩
          case round =>
            obtain ⟨m, hm', rfl, HBm, HFm⟩ := hrel
            rename World => wz
            have hzz := HBm.out.size
            have x1 := (HBm.out.cell (p := ⟨w.heap.size, 1, none⟩) hl2).trans X1.out
            have x2 := (HBm.out.cell (p := ⟨w.heap.size, 2, none⟩) hl2).trans X2.out
            by_cases hlt : m < b.links.length
            · have HC := Lib.hid (link_any b _ _ _ wr.heap.size m wz (HC1.out.below HBm.out hl3) ⟨(HBK1.out.r.below HBm.out (by omega)).mono (by omega), (HBK1.out.z.below HBm.out (by omega)).mono (by omega), fun z hz => ((HBK1.out.e z hz).below HBm.out (by omega)).mono (by omega), (HBK1.out.l.below HBm.out (by omega)).mono (by omega), HBK1.out.rs, HBK1.out.zs, HBK1.out.ls⟩ hlt (HM0.out.below (HB1.out.trans (HBm.out.mono HB1.out.size))))
              have HAT := Lib.hid (chkL_at b m hlt)
              rw [← HAT.out] at HC
              obtain ⟨E, eE⟩ : ∃ E, chkL b m = E := ⟨_, rfl⟩
              rw [eE] at HC
              have HV := Lib.hid eE
              clear eE HAT
              go_wp2_with fail
              refine HC.out.mono ?_
              rintro e w3 ⟨rfl, hb3⟩
              have HB3 := Lib.hid (HBm.out.trans (hb3.mono HBm.out.size))
              clear hb3 HC
              by_cases hE : E = 0
              · subst hE
                go_wp2_with fail
                go_roundw
                case rel => exact ⟨m + 1, by omega, by go_num, HB3, Lib.hid (firstE_drop (chkL b) (List.range b.links.length) m (by simpa using hlt) (by rw [List.getElem_range]; exact HV.out) HFm.out)⟩
                case measure => simp [intOf]; omega
              · have hz : (E == 0) = false := by simpa using hE
                have hz2 : (!E == 0) = true := by rw [hz]; rfl
                have HK2 : Hid (R = E) := by
                  show R = E
                  have h1 := firstE_hit (chkL b) (List.range b.links.length) m (by simpa using hlt) (by rw [List.getElem_range, HV.out]; exact hE) HFm.out
                  rw [HRl'.out HE1.out HE2.out, h1, List.getElem_range, HV.out]
                clear hE
                go_wp2_with fail
                go_ret
                exact ⟨ret_E HK2.out.symm, HB0.out.trans ((HB1.out.trans (HB3.out.mono HB1.out.size)).mono HB0.out.size)⟩
            · have hend3 := firstE_end (chkL b) (List.range b.links.length) m (by simp; omega) HFm.out
              have hkl3 : ¬ (m : Int) < (b.links.length : Int) := by omega
              have HK2 : Hid (R = 0) := by
                show R = 0
                rw [HRl'.out HE1.out HE2.out, hend3]
              clear hend3
              go_wp2_with fail
              go_ret
              exact ⟨ret_E HK2.out.symm, HB0.out.trans ((HB1.out.trans (HBm.out.mono HB1.out.size)).mono HB0.out.size)⟩
end Go.Proofs.YtmpeplimiaaehaaDoor
namespace Go.Proofs.YtmpeplimiaaehaaDoor
open Go.RowKit
set_option linter.unusedVariables false
set_option linter.unusedSimpArgs false

theorem bcell {W w1 : World} (hb : Below W.heap.size W w1) : (∀ b o, b < W.heap.size → w1.cell? ⟨b, o, none⟩ = W.cell? ⟨b, o, none⟩) ∧ (∀ b o, b < W.heap.size → w1.frozen? ⟨b, o, none⟩ = W.frozen? ⟨b, o, none⟩) :=
  ⟨fun b o h => hb.cell (p := ⟨b, o, none⟩) h, fun b o h => hb.frozen (p := ⟨b, o, none⟩) h⟩

/-- where the search begins, and where it ends -/
def upTo (a wd : Int) : Int := a + (wd - (a + 4)) % 7
def downTo (a wd : Int) : Int := a - ((a + 4) - wd) % 7

theorem upTo_bd (a wd : Int) (h0 : 0 ≤ wd) (h6 : wd ≤ 6) : a ≤ upTo a wd ∧ upTo a wd ≤ a + 6 ∧ (upTo a wd + 4) % 7 = wd := by unfold upTo; omega
theorem downTo_bd (a wd : Int) (h0 : 0 ≤ wd) (h6 : wd ≤ 6) : downTo a wd ≤ a ∧ a - 6 ≤ downTo a wd ∧ (downTo a wd + 4) % 7 = wd := by unfold downTo; omega

set_option maxHeartbeats 1000000 in
theorem Of_up (y m wd n : Int) (w : World) (hd : dayB 3 wd n = true) (h1 : 1600 ≤ y) (h2 : y ≤ 2399) (h3 : 1 ≤ m) (h4 : m ≤ 12) (h5 : n ≤ Civ.mlen y m) (h6 : upTo (Civ.days y m n) wd ≤ 157053) :
    Calls Tryd.prog 49 #[.int .i64 y, .int .i64 m, dayV 3 wd n] w fun e w' => e = .returned (.tuple #[.int .i64 (upTo (Civ.days y m n) wd), .int .i64 0]) ∧ Below w.heap.size w w' := by
  have hd' := hd
  simp only [dayB, decide_eq_true_eq] at hd'
  have hw : 0 ≤ wd ∧ wd ≤ 6 ∧ 1 ≤ n := by omega
  clear hd'
  obtain ⟨hw0, hw6, hn1⟩ := hw
  have HD := Lib.hid hd
  clear hd
  have hml := Civ.mlen_bd y m h3 h4
  obtain ⟨L, eL⟩ : ∃ L : Int, Civ.mlen y m = L := ⟨_, rfl⟩
  have v1 := Lib.hid (show Civ.valid y m 1 from ⟨h1, h2, h3, h4, by omega, by omega⟩)
  have bd1 := Civ.days_bd v1.out
  have v2 := Lib.hid (show Civ.valid y m n from ⟨h1, h2, h3, h4, by omega, by omega⟩)
  have bd2 := Civ.days_bd v2.out
  have e1 : Civ.days y m n = Civ.days y m 1 + n - 1 := by unfold Civ.days; omega
  have hub := upTo_bd (Civ.days y m n) wd hw0 hw6
  obtain ⟨R, eR⟩ : ∃ R : Int, upTo (Civ.days y m n) wd = R := ⟨_, rfl⟩
  rw [eR] at h6 hub ⊢
  rw [e1] at bd2 hub
  obtain ⟨A, eA⟩ : ∃ A : Int, Civ.days y m 1 = A := ⟨_, rfl⟩
  rw [eA] at bd1 bd2 hub
  rw [eL] at h5 hml 
  have HL := Lib.hid eL
  have HA := Lib.hid eA
  have hR1 := hub.1
  have hR2 := hub.2.1
  have HR7 := Lib.hid hub.2.2
  clear eL eA eR e1 hub
  go_enter Tryd.func49, Tryd.ntmps49
  go_wp2_with fail
  refine (Check_ok _ _ _ _ HD.out).mono ?_
  rintro e w1 ⟨rfl, hb1⟩
  obtain ⟨hc, hf⟩ := bcell hb1
  go_wp2_with fail
  refine (Length_ok _ _ _ h1 h2 h3 h4).mono ?_
  rintro e w' ⟨rfl, rfl⟩
  rw [HL.out]
  go_wp2_with fail
  refine (Days_ok _ _ _ _ v1.out).mono ?_
  rintro e w' ⟨rfl, rfl⟩
  rw [HA.out]
  go_wp2_with fail
  go_loop [13] (fun t => ∃ a : Int, A + n - 1 ≤ a ∧ a ≤ R ∧ t = .int .i64 a) (fun t => (R - intOf t).toNat)
  case atStart => exact ⟨A + n - 1, by omega, by omega, rfl⟩
  case round =>
    obtain ⟨a, ha1, ha2, rfl⟩ := hrel
    by_cases hq : a = R
    · obtain rfl := hq
      have fw : ((a + 4) % 7 == wd) = true := by have := HR7.out; simpa using this
      go_wp2_with fail
      refine (Weekday_ok _ _ (by omega) (by omega)).mono ?_
      rintro e w' ⟨rfl, rfl⟩
      go_wp2
      go_ret2
      exact ⟨rfl, ((Below.refl _ _).alloc (Nat.le_refl _) _).trans (hb1.mono (by simp))⟩
    · have fw : ((a + 4) % 7 == wd) = false := by have := HR7.out; simp; omega
      go_wp2_with fail
      refine (Weekday_ok _ _ (by omega) (by omega)).mono ?_
      rintro e w' ⟨rfl, rfl⟩
      go_wp2
      go_round
      case rel => exact ⟨a + 1, by omega, by omega, rfl⟩
      case measure => simp [intOf]; omega

set_option maxHeartbeats 1000000 in
theorem Of_up_no (y m wd n : Int) (w : World) (hd : dayB 3 wd n = true) (h1 : 1600 ≤ y) (h2 : y ≤ 2399) (h3 : 1 ≤ m) (h4 : m ≤ 12) (h5 : n ≤ Civ.mlen y m) (h6 : 157053 < upTo (Civ.days y m n) wd) :
    Calls Tryd.prog 49 #[.int .i64 y, .int .i64 m, dayV 3 wd n] w fun e w' => e = .returned (.tuple #[.int .i64 (0), .int .i64 1]) ∧ Below w.heap.size w w' := by
  have hd' := hd
  simp only [dayB, decide_eq_true_eq] at hd'
  have hw : 0 ≤ wd ∧ wd ≤ 6 ∧ 1 ≤ n := by omega
  clear hd'
  obtain ⟨hw0, hw6, hn1⟩ := hw
  have HD := Lib.hid hd
  clear hd
  have hml := Civ.mlen_bd y m h3 h4
  obtain ⟨L, eL⟩ : ∃ L : Int, Civ.mlen y m = L := ⟨_, rfl⟩
  have v1 := Lib.hid (show Civ.valid y m 1 from ⟨h1, h2, h3, h4, by omega, by omega⟩)
  have bd1 := Civ.days_bd v1.out
  have v2 := Lib.hid (show Civ.valid y m n from ⟨h1, h2, h3, h4, by omega, by omega⟩)
  have bd2 := Civ.days_bd v2.out
  have e1 : Civ.days y m n = Civ.days y m 1 + n - 1 := by unfold Civ.days; omega
  have hub := upTo_bd (Civ.days y m n) wd hw0 hw6
  obtain ⟨R, eR⟩ : ∃ R : Int, upTo (Civ.days y m n) wd = R := ⟨_, rfl⟩
  rw [eR] at h6 hub
  rw [e1] at bd2 hub
  obtain ⟨A, eA⟩ : ∃ A : Int, Civ.days y m 1 = A := ⟨_, rfl⟩
  rw [eA] at bd1 bd2 hub
  rw [eL] at h5 hml 
  have HL := Lib.hid eL
  have HA := Lib.hid eA
  have hR1 := hub.1
  have hR2 := hub.2.1
  have HR7 := Lib.hid hub.2.2
  clear eL eA eR e1 hub
  go_enter Tryd.func49, Tryd.ntmps49
  go_wp2_with fail
  refine (Check_ok _ _ _ _ HD.out).mono ?_
  rintro e w1 ⟨rfl, hb1⟩
  obtain ⟨hc, hf⟩ := bcell hb1
  go_wp2_with fail
  refine (Length_ok _ _ _ h1 h2 h3 h4).mono ?_
  rintro e w' ⟨rfl, rfl⟩
  rw [HL.out]
  go_wp2_with fail
  refine (Days_ok _ _ _ _ v1.out).mono ?_
  rintro e w' ⟨rfl, rfl⟩
  rw [HA.out]
  go_wp2_with fail
  go_loop [13] (fun t => ∃ a : Int, A + n - 1 ≤ a ∧ a ≤ 157054 ∧ t = .int .i64 a) (fun t => (157054 - intOf t).toNat)
  case atStart => exact ⟨A + n - 1, by omega, by omega, rfl⟩
  case round =>
    obtain ⟨a, ha1, ha2, rfl⟩ := hrel
    by_cases hq : -135140 ≤ a ∧ a ≤ 157053
    · have fw : ((a + 4) % 7 == wd) = false := by have := HR7.out; simp; omega
      go_wp2_with fail
      refine (Weekday_ok _ _ (by omega) (by omega)).mono ?_
      rintro e w' ⟨rfl, rfl⟩
      go_wp2
      go_round
      case rel => exact ⟨a + 1, by omega, by omega, rfl⟩
      case measure => simp [intOf]; omega
    · go_wp2_with fail
      refine (Weekday_no _ _ (by omega)).mono ?_
      rintro e w' ⟨rfl, rfl⟩
      go_wp2
      go_ret2
      exact ⟨rfl, ((Below.refl _ _).alloc (Nat.le_refl _) _).trans (hb1.mono (by simp))⟩

set_option maxHeartbeats 1000000 in
theorem Of_down (y m wd n : Int) (w : World) (hd : dayB 4 wd n = true) (h1 : 1600 ≤ y) (h2 : y ≤ 2399) (h3 : 1 ≤ m) (h4 : m ≤ 12) (h5 : n ≤ Civ.mlen y m) (h6 : -135140 ≤ downTo (Civ.days y m n) wd) :
    Calls Tryd.prog 49 #[.int .i64 y, .int .i64 m, dayV 4 wd n] w fun e w' => e = .returned (.tuple #[.int .i64 (downTo (Civ.days y m n) wd), .int .i64 0]) ∧ Below w.heap.size w w' := by
  have hd' := hd
  simp only [dayB, decide_eq_true_eq] at hd'
  have hw : 0 ≤ wd ∧ wd ≤ 6 ∧ 1 ≤ n := by omega
  clear hd'
  obtain ⟨hw0, hw6, hn1⟩ := hw
  have HD := Lib.hid hd
  clear hd
  have hml := Civ.mlen_bd y m h3 h4
  obtain ⟨L, eL⟩ : ∃ L : Int, Civ.mlen y m = L := ⟨_, rfl⟩
  have v1 := Lib.hid (show Civ.valid y m 1 from ⟨h1, h2, h3, h4, by omega, by omega⟩)
  have bd1 := Civ.days_bd v1.out
  have v2 := Lib.hid (show Civ.valid y m n from ⟨h1, h2, h3, h4, by omega, by omega⟩)
  have bd2 := Civ.days_bd v2.out
  have e1 : Civ.days y m n = Civ.days y m 1 + n - 1 := by unfold Civ.days; omega
  have hub := downTo_bd (Civ.days y m n) wd hw0 hw6
  obtain ⟨R, eR⟩ : ∃ R : Int, downTo (Civ.days y m n) wd = R := ⟨_, rfl⟩
  rw [eR] at h6 hub ⊢
  rw [e1] at bd2 hub
  obtain ⟨A, eA⟩ : ∃ A : Int, Civ.days y m 1 = A := ⟨_, rfl⟩
  rw [eA] at bd1 bd2 hub
  rw [eL] at h5 hml 
  have HL := Lib.hid eL
  have HA := Lib.hid eA
  have hR1 := hub.1
  have hR2 := hub.2.1
  have HR7 := Lib.hid hub.2.2
  clear eL eA eR e1 hub
  go_enter Tryd.func49, Tryd.ntmps49
  go_wp2_with fail
  refine (Check_ok _ _ _ _ HD.out).mono ?_
  rintro e w1 ⟨rfl, hb1⟩
  obtain ⟨hc, hf⟩ := bcell hb1
  go_wp2_with fail
  refine (Length_ok _ _ _ h1 h2 h3 h4).mono ?_
  rintro e w' ⟨rfl, rfl⟩
  rw [HL.out]
  go_wp2_with fail
  refine (Days_ok _ _ _ _ v1.out).mono ?_
  rintro e w' ⟨rfl, rfl⟩
  rw [HA.out]
  go_wp2_with fail
  go_loop [13] (fun t => ∃ a : Int, R ≤ a ∧ a ≤ A + n - 1 ∧ t = .int .i64 a) (fun t => (intOf t - R).toNat)
  case atStart => exact ⟨A + n - 1, by omega, by omega, rfl⟩
  case round =>
    obtain ⟨a, ha1, ha2, rfl⟩ := hrel
    by_cases hq : a = R
    · obtain rfl := hq
      have fw : ((a + 4) % 7 == wd) = true := by have := HR7.out; simpa using this
      go_wp2_with fail
      refine (Weekday_ok _ _ (by omega) (by omega)).mono ?_
      rintro e w' ⟨rfl, rfl⟩
      go_wp2
      go_ret2
      exact ⟨rfl, ((Below.refl _ _).alloc (Nat.le_refl _) _).trans (hb1.mono (by simp))⟩
    · have fw : ((a + 4) % 7 == wd) = false := by have := HR7.out; simp; omega
      go_wp2_with fail
      refine (Weekday_ok _ _ (by omega) (by omega)).mono ?_
      rintro e w' ⟨rfl, rfl⟩
      go_wp2
      go_round
      case rel => exact ⟨a - 1, by omega, by omega, by go_num⟩
      case measure => simp [intOf]; omega

set_option maxHeartbeats 1000000 in
theorem Of_down_no (y m wd n : Int) (w : World) (hd : dayB 4 wd n = true) (h1 : 1600 ≤ y) (h2 : y ≤ 2399) (h3 : 1 ≤ m) (h4 : m ≤ 12) (h5 : n ≤ Civ.mlen y m) (h6 : downTo (Civ.days y m n) wd < -135140) :
    Calls Tryd.prog 49 #[.int .i64 y, .int .i64 m, dayV 4 wd n] w fun e w' => e = .returned (.tuple #[.int .i64 (0), .int .i64 1]) ∧ Below w.heap.size w w' := by
  have hd' := hd
  simp only [dayB, decide_eq_true_eq] at hd'
  have hw : 0 ≤ wd ∧ wd ≤ 6 ∧ 1 ≤ n := by omega
  clear hd'
  obtain ⟨hw0, hw6, hn1⟩ := hw
  have HD := Lib.hid hd
  clear hd
  have hml := Civ.mlen_bd y m h3 h4
  obtain ⟨L, eL⟩ : ∃ L : Int, Civ.mlen y m = L := ⟨_, rfl⟩
  have v1 := Lib.hid (show Civ.valid y m 1 from ⟨h1, h2, h3, h4, by omega, by omega⟩)
  have bd1 := Civ.days_bd v1.out
  have v2 := Lib.hid (show Civ.valid y m n from ⟨h1, h2, h3, h4, by omega, by omega⟩)
  have bd2 := Civ.days_bd v2.out
  have e1 : Civ.days y m n = Civ.days y m 1 + n - 1 := by unfold Civ.days; omega
  have hub := downTo_bd (Civ.days y m n) wd hw0 hw6
  obtain ⟨R, eR⟩ : ∃ R : Int, downTo (Civ.days y m n) wd = R := ⟨_, rfl⟩
  rw [eR] at h6 hub
  rw [e1] at bd2 hub
  obtain ⟨A, eA⟩ : ∃ A : Int, Civ.days y m 1 = A := ⟨_, rfl⟩
  rw [eA] at bd1 bd2 hub
  rw [eL] at h5 hml 
  have HL := Lib.hid eL
  have HA := Lib.hid eA
  have hR1 := hub.1
  have hR2 := hub.2.1
  have HR7 := Lib.hid hub.2.2
  clear eL eA eR e1 hub
  go_enter Tryd.func49, Tryd.ntmps49
  go_wp2_with fail
  refine (Check_ok _ _ _ _ HD.out).mono ?_
  rintro e w1 ⟨rfl, hb1⟩
  obtain ⟨hc, hf⟩ := bcell hb1
  go_wp2_with fail
  refine (Length_ok _ _ _ h1 h2 h3 h4).mono ?_
  rintro e w' ⟨rfl, rfl⟩
  rw [HL.out]
  go_wp2_with fail
  refine (Days_ok _ _ _ _ v1.out).mono ?_
  rintro e w' ⟨rfl, rfl⟩
  rw [HA.out]
  go_wp2_with fail
  go_loop [13] (fun t => ∃ a : Int, -135141 ≤ a ∧ a ≤ A + n - 1 ∧ t = .int .i64 a) (fun t => (intOf t + 135141).toNat)
  case atStart => exact ⟨A + n - 1, by omega, by omega, rfl⟩
  case round =>
    obtain ⟨a, ha1, ha2, rfl⟩ := hrel
    by_cases hq : -135140 ≤ a ∧ a ≤ 157053
    · have fw : ((a + 4) % 7 == wd) = false := by have := HR7.out; simp; omega
      go_wp2_with fail
      refine (Weekday_ok _ _ (by omega) (by omega)).mono ?_
      rintro e w' ⟨rfl, rfl⟩
      go_wp2
      go_round
      case rel => exact ⟨a - 1, by omega, by omega, by go_num⟩
      case measure => simp [intOf]; omega
    · go_wp2_with fail
      refine (Weekday_no _ _ (by omega)).mono ?_
      rintro e w' ⟨rfl, rfl⟩
      go_wp2
      go_ret2
      exact ⟨rfl, ((Below.refl _ _).alloc (Nat.le_refl _) _).trans (hb1.mono (by simp))⟩

set_option maxHeartbeats 1000000 in
theorem Of_last (y m wd n : Int) (w : World) (hd : dayB 2 wd n = true) (h1 : 1600 ≤ y) (h2 : y ≤ 2399) (h3 : 1 ≤ m) (h4 : m ≤ 12)  :
    Calls Tryd.prog 49 #[.int .i64 y, .int .i64 m, dayV 2 wd n] w fun e w' => e = .returned (.tuple #[.int .i64 (downTo (Civ.days y m (Civ.mlen y m)) wd), .int .i64 0]) ∧ Below w.heap.size w w' := by
  have hd' := hd
  simp only [dayB, decide_eq_true_eq] at hd'
  have hw : 0 ≤ wd ∧ wd ≤ 6 ∧ n = 0 := by omega
  clear hd'
  obtain ⟨hw0, hw6, rfl⟩ := hw
  have HD := Lib.hid hd
  clear hd
  have hml := Civ.mlen_bd y m h3 h4
  obtain ⟨L, eL⟩ : ∃ L : Int, Civ.mlen y m = L := ⟨_, rfl⟩
  have v1 := Lib.hid (show Civ.valid y m 1 from ⟨h1, h2, h3, h4, by omega, by omega⟩)
  have bd1 := Civ.days_bd v1.out
  have v2 := Lib.hid (show Civ.valid y m (Civ.mlen y m) from ⟨h1, h2, h3, h4, by omega, by omega⟩)
  have bd2 := Civ.days_bd v2.out
  have e1 : Civ.days y m (Civ.mlen y m) = Civ.days y m 1 + (Civ.mlen y m) - 1 := by unfold Civ.days; omega
  have hub := downTo_bd (Civ.days y m (Civ.mlen y m)) wd hw0 hw6
  obtain ⟨R, eR⟩ : ∃ R : Int, downTo (Civ.days y m (Civ.mlen y m)) wd = R := ⟨_, rfl⟩
  rw [eR] at hub ⊢
  rw [e1] at bd2 hub
  obtain ⟨A, eA⟩ : ∃ A : Int, Civ.days y m 1 = A := ⟨_, rfl⟩
  rw [eA] at bd1 bd2 hub
  rw [eL] at hml bd2 hub
  have HL := Lib.hid eL
  have HA := Lib.hid eA
  have hR1 := hub.1
  have hR2 := hub.2.1
  have HR7 := Lib.hid hub.2.2
  clear eL eA eR e1 hub
  go_enter Tryd.func49, Tryd.ntmps49
  go_wp2_with fail
  refine (Check_ok _ _ _ _ HD.out).mono ?_
  rintro e w1 ⟨rfl, hb1⟩
  obtain ⟨hc, hf⟩ := bcell hb1
  go_wp2_with fail
  refine (Length_ok _ _ _ h1 h2 h3 h4).mono ?_
  rintro e w' ⟨rfl, rfl⟩
  rw [HL.out]
  go_wp2_with fail
  refine (Days_ok _ _ _ _ v1.out).mono ?_
  rintro e w' ⟨rfl, rfl⟩
  rw [HA.out]
  go_wp2_with fail
  go_loop [13] (fun t => ∃ a : Int, R ≤ a ∧ a ≤ A + L - 1 ∧ t = .int .i64 a) (fun t => (intOf t - R).toNat)
  case atStart => exact ⟨A + L - 1, by omega, by omega, rfl⟩
  case round =>
    obtain ⟨a, ha1, ha2, rfl⟩ := hrel
    by_cases hq : a = R
    · obtain rfl := hq
      have fw : ((a + 4) % 7 == wd) = true := by have := HR7.out; simpa using this
      go_wp2_with fail
      refine (Weekday_ok _ _ (by omega) (by omega)).mono ?_
      rintro e w' ⟨rfl, rfl⟩
      go_wp2
      go_ret2
      exact ⟨rfl, ((Below.refl _ _).alloc (Nat.le_refl _) _).trans (hb1.mono (by simp))⟩
    · have fw : ((a + 4) % 7 == wd) = false := by have := HR7.out; simp; omega
      go_wp2_with fail
      refine (Weekday_ok _ _ (by omega) (by omega)).mono ?_
      rintro e w' ⟨rfl, rfl⟩
      go_wp2
      go_round
      case rel => exact ⟨a - 1, by omega, by omega, by go_num⟩
      case measure => simp [intOf]; omega

set_option maxHeartbeats 1000000 in
theorem Of_num (y m wd n : Int) (w : World) (hd : dayB 1 wd n = true) (h1 : 1600 ≤ y) (h2 : y ≤ 2399) (h3 : 1 ≤ m) (h4 : m ≤ 12) (h5 : n ≤ Civ.mlen y m) :
    Calls Tryd.prog 49 #[.int .i64 y, .int .i64 m, dayV 1 wd n] w fun e w' => e = .returned (.tuple #[.int .i64 (Civ.days y m n), .int .i64 0]) ∧ Below w.heap.size w w' := by
  have hd' := hd
  simp only [dayB, decide_eq_true_eq] at hd'
  have hw : wd = 0 ∧ 1 ≤ n := by omega
  clear hd'
  obtain ⟨rfl, hn1⟩ := hw
  have HD := Lib.hid hd
  clear hd
  have hml := Civ.mlen_bd y m h3 h4
  obtain ⟨L, eL⟩ : ∃ L : Int, Civ.mlen y m = L := ⟨_, rfl⟩
  have v1 := Lib.hid (show Civ.valid y m 1 from ⟨h1, h2, h3, h4, by omega, by omega⟩)
  have bd1 := Civ.days_bd v1.out
  have v2 := Lib.hid (show Civ.valid y m n from ⟨h1, h2, h3, h4, by omega, by omega⟩)
  have bd2 := Civ.days_bd v2.out
  have e1 : Civ.days y m n = Civ.days y m 1 + n - 1 := by unfold Civ.days; omega
  obtain ⟨A, eA⟩ : ∃ A : Int, Civ.days y m 1 = A := ⟨_, rfl⟩
  rw [e1] at bd2
  rw [e1, eA]
  rw [eA] at bd1 bd2
  rw [eL] at h5 hml
  have HL := Lib.hid eL
  have HA := Lib.hid eA
  clear eL eA e1
  go_enter Tryd.func49, Tryd.ntmps49
  go_wp2_with fail
  refine (Check_ok _ _ _ _ HD.out).mono ?_
  rintro e w1 ⟨rfl, hb1⟩
  obtain ⟨hc, hf⟩ := bcell hb1
  go_wp2_with fail
  refine (Length_ok _ _ _ h1 h2 h3 h4).mono ?_
  rintro e w' ⟨rfl, rfl⟩
  rw [HL.out]
  go_wp2_with fail
  refine (Days_ok _ _ _ _ v1.out).mono ?_
  rintro e w' ⟨rfl, rfl⟩
  rw [HA.out]
  go_wp2_with fail
  go_loop [13] (fun t => t = .int .i64 (A + n - 1)) (fun t => 0)
  case atStart => rfl
  case round =>
    obtain rfl := hrel
    go_wp2
    go_ret2
    exact ⟨rfl, ((Below.refl _ _).alloc (Nat.le_refl _) _).trans (hb1.mono (by simp))⟩

theorem Of_bad1 (y m k wd n : Int) (w : World) (hd : dayB k wd n = false) :
    Calls Tryd.prog 49 #[.int .i64 y, .int .i64 m, dayV k wd n] w fun e w' => e = .returned (.tuple #[.int .i64 0, .int .i64 1]) ∧ Below w.heap.size w w' := by
  have HD := Lib.hid hd
  clear hd
  go_enter Tryd.func49, Tryd.ntmps49
  go_wp2_with fail
  refine (Check_no _ _ _ _ HD.out).mono ?_
  rintro e w1 ⟨rfl, hb1⟩
  obtain ⟨hc, hf⟩ := bcell hb1
  go_wp2
  go_ret2
  exact ⟨rfl, ((Below.refl _ _).alloc (Nat.le_refl _) _).trans (hb1.mono (by simp))⟩

theorem Of_bad2 (y m k wd n : Int) (w : World) (hd : dayB k wd n = true) (hy : okYM y m = false) :
    Calls Tryd.prog 49 #[.int .i64 y, .int .i64 m, dayV k wd n] w fun e w' => e = .returned (.tuple #[.int .i64 0, .int .i64 1]) ∧ Below w.heap.size w w' := by
  have HD := Lib.hid hd
  clear hd
  have HY := Lib.hid hy
  clear hy
  go_enter Tryd.func49, Tryd.ntmps49
  go_wp2_with fail
  refine (Check_ok _ _ _ _ HD.out).mono ?_
  rintro e w1 ⟨rfl, hb1⟩
  obtain ⟨hc, hf⟩ := bcell hb1
  go_wp2_with fail
  refine (Length_no _ _ _ HY.out).mono ?_
  rintro e w' ⟨rfl, rfl⟩
  go_wp2
  go_ret2
  exact ⟨rfl, ((Below.refl _ _).alloc (Nat.le_refl _) _).trans (hb1.mono (by simp))⟩

theorem Of_bad3 (y m k wd n : Int) (w : World) (hd : dayB k wd n = true) (h1 : 1600 ≤ y) (h2 : y ≤ 2399) (h3 : 1 ≤ m) (h4 : m ≤ 12) (h5 : Civ.mlen y m < n) :
    Calls Tryd.prog 49 #[.int .i64 y, .int .i64 m, dayV k wd n] w fun e w' => e = .returned (.tuple #[.int .i64 0, .int .i64 6]) ∧ Below w.heap.size w w' := by
  have HD := Lib.hid hd
  clear hd
  obtain ⟨L, eL⟩ : ∃ L : Int, Civ.mlen y m = L := ⟨_, rfl⟩
  rw [eL] at h5
  have HL := Lib.hid eL
  clear eL
  go_enter Tryd.func49, Tryd.ntmps49
  go_wp2_with fail
  refine (Check_ok _ _ _ _ HD.out).mono ?_
  rintro e w1 ⟨rfl, hb1⟩
  obtain ⟨hc, hf⟩ := bcell hb1
  go_wp2_with fail
  refine (Length_ok _ _ _ h1 h2 h3 h4).mono ?_
  rintro e w' ⟨rfl, rfl⟩
  rw [HL.out]
  go_wp2
  go_ret2
  exact ⟨rfl, ((Below.refl _ _).alloc (Nat.le_refl _) _).trans (hb1.mono (by simp))⟩

end Go.Proofs.YtmpeplimiaaehaaDoor
