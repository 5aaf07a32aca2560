/- book.Check: what it returns. book.Check: the walk. Rows of one's own: what keeps them, their cells. names.of: the places of names. (places).resolve: what it returns. names.Resolve: what it returns. The reference's Eq of eras, and ZoneEq. BookEq of equal books. clock.Span: what it returns. Pieces of a text between letters, and what digits say: plain Lean. -/
import Derived.Test.YtomahddiclkepaaGreatDoorQb03
import Derived.WalkKit
import Derived.OwnWalk
import Derived.Below
import Derived.Laws.NewBlocks
import Derived.Laws.OwnMore
import Derived.Maps.Own
import Derived.Maps.OwnOps
import Derived.Maps.OwnSet
import Derived.Maps.Views
import Derived.StringKeys
import Derived.StillTailTactics
import Derived.Carry
import Derived.Deep.AppendLies
import Derived.Laws.AppendOwn
import Derived.Lib.SliceRun
import Derived.Laws.StructEq
import Derived.Deep.DeepCutAuto
import Derived.Deep.RegionHeld3
import Derived.Test.YtomahddiclkepaaGreatDoorQb01
import Derived.Lib.FieldsP
import Derived.Laws.RangeString
import Derived.Lib.AtoiAllCases
namespace Go.Proofs.YtomahddiclkepaaGreatDoor
open Go.RowKit Go.Joins
open Classical
set_option linter.unusedVariables false
set_option linter.unusedSimpArgs false

/-- the three lists' first errors, as the code asks for them -/
def chkZ (b : Bk) (k : Nat) : Int := zoneChk b.rules (b.zones.take k) (b.zones[k]?.getD ⟨⟨#[]⟩, undef, []⟩)
def chkL (b : Bk) (k : Nat) : Int := linkChk b (b.links.take k) (b.links[k]?.getD ⟨⟨#[]⟩, ⟨#[]⟩⟩)
theorem chkZ_at (b : Bk) (k : Nat) (h : k < b.zones.length) : chkZ b k = zoneChk b.rules (b.zones.take k) b.zones[k] := by unfold chkZ; rw [List.getElem?_eq_getElem h]; rfl
theorem chkL_at (b : Bk) (k : Nat) (h : k < b.links.length) : chkL b k = linkChk b (b.links.take k) b.links[k] := by unfold chkL; rw [List.getElem?_eq_getElem h]; rfl
theorem bkChk_2 (b : Bk) (h : 40 < b.rules.length ∨ 20 < b.zones.length ∨ 20 < b.links.length) : bkChk b = 2 := by unfold bkChk; rw [if_pos h]
theorem bkChk_r (b : Bk) (h : ¬ (40 < b.rules.length ∨ 20 < b.zones.length ∨ 20 < b.links.length)) (h1 : firstE ruChk b.rules ≠ 0) : bkChk b = firstE ruChk b.rules := by unfold bkChk; rw [if_neg h, if_pos h1]
theorem bkChk_z (b : Bk) (h : ¬ (40 < b.rules.length ∨ 20 < b.zones.length ∨ 20 < b.links.length)) (h1 : firstE ruChk b.rules = 0) (h2 : firstE (chkZ b) (List.range b.zones.length) ≠ 0) : bkChk b = firstE (chkZ b) (List.range b.zones.length) := by
  unfold bkChk
  rw [if_neg h, if_neg (by rw [h1]; simp)]
  exact if_pos h2
theorem bkChk_l (b : Bk) (h : ¬ (40 < b.rules.length ∨ 20 < b.zones.length ∨ 20 < b.links.length)) (h1 : firstE ruChk b.rules = 0) (h2 : firstE (chkZ b) (List.range b.zones.length) = 0) : bkChk b = firstE (chkL b) (List.range b.links.length) := by
  unfold bkChk
  rw [if_neg h, if_neg (by rw [h1]; simp)]
  exact if_neg (by intro h3; exact h3 h2)
end Go.Proofs.YtomahddiclkepaaGreatDoor
namespace Go.Proofs.YtomahddiclkepaaGreatDoor
open Go.RowKit Go.Joins
open Classical
set_option linter.unusedVariables false
set_option linter.unusedSimpArgs false

set_option maxRecDepth 100000 in
set_option maxHeartbeats 8000000 in
theorem bkCheck_any (b : Bk) (rv zv lv : Value) (w : World) (hB : BookAt w.heap.size w rv zv lv b) (hm : MaxLen w) (ht : Tab10 w) :
    Calls Tryz.prog 10 #[.agg #[rv, zv, lv]] w fun e w' => e = .returned (.int .i64 (bkChk b)) ∧ Below w.heap.size w w' := by
  have hr := hB.r
  have hz := hB.z
  have hl := hB.l
  obtain ⟨p1, c1, rfl, hlen1, hrow1⟩ := hr
  obtain ⟨p2, c2, rfl, hlen2, hrow2⟩ := hz
  obtain ⟨p3, c3, rfl, hlen3, hrow3⟩ := hl
  obtain ⟨R, eR⟩ : ∃ R, bkChk b = R := ⟨_, rfl⟩
  have HR2 := Lib.hid (bkChk_2 b)
  have HRr := Lib.hid (bkChk_r b)
  have HRz := Lib.hid (bkChk_z b)
  have HRl := Lib.hid (bkChk_l b)
  rw [eR] at HR2 HRr HRz HRl ⊢
  obtain ⟨W0, eW⟩ : ∃ W0, w.alloc (.cells #[.slice p1 b.rules.length c1, .slice p2 b.zones.length c2, .slice p3 b.links.length c3] 26) = W0 := ⟨_, rfl⟩
  have hb0 : Below w.heap.size w W0 := by rw [← eW]; exact (Below.refl _ _).alloc (Nat.le_refl _) _
  have hbx : W0.heap[w.heap.size]? = some (.cells #[.slice p1 b.rules.length c1, .slice p2 b.zones.length c2, .slice p3 b.links.length c3] 26 (0, 0)) := by rw [← eW]; exact heap_alloc_new w _
  have hl0 : w.heap.size < W0.heap.size := by rw [← eW]; simp
  have x0 := (cell_of_row W0 _ 0 _ _ _ hbx).trans rfl
  have x1 := (cell_of_row W0 _ 1 _ _ _ hbx).trans rfl
  have x2 := (cell_of_row W0 _ 2 _ _ _ hbx).trans rfl
  have HEW := Lib.hid eW
  have HB0 := Lib.hid hb0
  have HBX := Lib.hid hbx
  have HBK := Lib.hid (hB.below hb0 (Nat.le_refl _))
  have HM0 := Lib.hid (hm.below hb0)
  have HT0 := Lib.hid (ht.below hb0)
  clear eW hb0 hbx hB hm ht hrow1 hrow2 hrow3 eR
  go_enter Tryz.func10, Tryz.ntmps10
  go_upto_region 1 with fail
  rw [HEW.out]
  by_cases hn1 : 40 < b.rules.length
  · have g1 : (40 : Int) < (b.rules.length : Int) := by omega
    have HRA := Lib.hid (HR2.out (Or.inl hn1))
    go_wp2_with fail
    go_ret
    exact ⟨ret_E HRA.out.symm, HB0.out⟩
  have g1 : ¬ (40 : Int) < (b.rules.length : Int) := by omega
  by_cases hn2 : 20 < b.zones.length
  · have g2 : (20 : Int) < (b.zones.length : Int) := by omega
    have HRA := Lib.hid (HR2.out (Or.inr (Or.inl hn2)))
    go_wp2_with fail
    go_ret
    exact ⟨ret_E HRA.out.symm, HB0.out⟩
  have g2 : ¬ (20 : Int) < (b.zones.length : Int) := by omega
  by_cases hn3 : 20 < b.links.length
  · have g3 : (20 : Int) < (b.links.length : Int) := by omega
    have HRA := Lib.hid (HR2.out (Or.inr (Or.inr hn3)))
    go_wp2_with fail
    go_ret
    exact ⟨ret_E HRA.out.symm, HB0.out⟩
  have g3 : ¬ (20 : Int) < (b.links.length : Int) := by omega
  have hno : ¬ (40 < b.rules.length ∨ 20 < b.zones.length ∨ 20 < b.links.length) := by omega
  have HRr' := Lib.hid (HRr.out hno)
  have HRz' := Lib.hid (HRz.out hno)
  have HRl' := Lib.hid (HRl.out hno)
  clear HRr HRz HRl HR2 hno
  have HX0 := Lib.hid x0
  have HX1 := Lib.hid x1
  have HX2 := Lib.hid x2
  go_wp2_with fail
  go_loopw [30] (fun i wr => ∃ k : Nat, k ≤ b.rules.length ∧ i = .int .i64 k ∧ Hid (Below W0.heap.size W0 wr) ∧ Hid (firstE ruChk b.rules = firstE ruChk (b.rules.drop k))) (fun i _ => b.rules.length - (intOf i).toNat)
  case atStart => exact ⟨0, Nat.zero_le _, rfl, Lib.hid (Below.refl _ _), rfl⟩
  case round =>
    obtain ⟨k, hk, rfl, HB, HF⟩ := hrel
    have hzr := HB.out.size
    have x0 := (HB.out.cell (p := ⟨w.heap.size, 0, none⟩) hl0).trans HX0.out
    have x1 := (HB.out.cell (p := ⟨w.heap.size, 1, none⟩) hl0).trans HX1.out
    have x2 := (HB.out.cell (p := ⟨w.heap.size, 2, none⟩) hl0).trans HX2.out
    have hl1 : w.heap.size < wr.heap.size := by omega
    by_cases hlt : k < b.rules.length
    · obtain ⟨q1, d1, eq1, hlenq, hrow⟩ := HBK.out.r
      injection eq1 with e1 e2 e3
      subst e1; subst e3
      obtain ⟨bb, o, rfl, hbl, hcs⟩ := hrow (List.ne_nil_of_length_pos (by omega))
      have hck := hcs k hlt
      obtain ⟨hs1, hs2⟩ := HBK.out.rs b.rules[k] (List.getElem_mem hlt)
      have HC := Lib.hid (fun W => ruCheck_any b.rules[k] W (by unfold maxLen; omega) (by unfold maxLen; omega))
      obtain ⟨q, eq⟩ : ∃ q, b.rules[k] = q := ⟨_, rfl⟩
      rw [eq] at hck hs1 hs2 HC
      have EQ := Lib.hid eq
      clear eq hcs hrow
      obtain ⟨E, eE⟩ : ∃ E, ruChk q = E := ⟨_, rfl⟩
      rw [eE] at HC
      have HV := Lib.hid eE
      clear eE
      obtain ⟨nm, yf, yt, mo, dk, dw, dn, tm, ck, sv', lt⟩ := q
      have up : ∀ j u, W0.cell? ⟨bb, o + k * 11 + j, none⟩ = some u → wr.cell? ⟨bb, o + k * 11 + j, none⟩ = some u := fun j u h => (HB.out.cell (p := ⟨bb, o + k * 11 + j, none⟩) (show bb < W0.heap.size by omega)).trans h
      have z0 := up 0 _ (hck 0 _ rfl)
      have z1 := up 1 _ (hck 1 _ rfl)
      have z2 := up 2 _ (hck 2 _ rfl)
      have z3 := up 3 _ (hck 3 _ rfl)
      have z4 := up 4 _ (hck 4 _ rfl)
      have z5 := up 5 _ (hck 5 _ rfl)
      have z6 := up 6 _ (hck 6 _ rfl)
      have z7 := up 7 _ (hck 7 _ rfl)
      have z8 := up 8 _ (hck 8 _ rfl)
      have z9 := up 9 _ (hck 9 _ rfl)
      have z10 := up 10 _ (hck 10 _ rfl)
      clear up hck
      rw [Nat.add_zero] at z0
      have HBn := Lib.hid (HB.out.alloc HB.out.size (.cells #[.string nm, .int .i64 yf, .int .i64 yt, .int .i64 mo, .int .i64 dk, .int .i64 dw, .int .i64 dn, .int .i64 tm, .int .i64 ck, .int .i64 sv', .string lt] 87))
      change Hid (∀ W, Calls _ _ #[.agg #[.string nm, .int .i64 yf, .int .i64 yt, .int .i64 mo, .int .i64 dk, .int .i64 dw, .int .i64 dn, .int .i64 tm, .int .i64 ck, .int .i64 sv', .string lt]] W _) at HC
      go_wp2_with fail
      refine (HC.out _).mono ?_
      rintro e w3 ⟨rfl, hb3⟩
      have HB3 := Lib.hid (HBn.out.trans (hb3.mono HBn.out.size))
      clear hb3 HC
      by_cases hE : E = 0
      · subst hE
        go_wp2_with fail
        go_roundw
        case rel => exact ⟨k + 1, by omega, by go_num, HB3, Lib.hid (firstE_drop ruChk b.rules k hlt (by rw [EQ.out]; exact HV.out) HF.out)⟩
        case measure => simp [intOf]; omega
      · have hz : (E == 0) = false := by simpa using hE
        have hz2 : (!E == 0) = true := by rw [hz]; rfl
        have HK2 : Hid (R = E) := by
          show R = E
          have h1 := firstE_hit ruChk b.rules k hlt (by rw [EQ.out, HV.out]; exact hE) HF.out
          rw [HRr'.out (by rw [h1, EQ.out, HV.out]; exact hE), h1, EQ.out, HV.out]
        clear hE
        go_wp2_with fail
        go_ret
        exact ⟨ret_E HK2.out.symm, HB0.out.trans (HB3.out.mono HB0.out.size)⟩
    · have hend := firstE_end ruChk b.rules k (by omega) HF.out
      have hkl : ¬ (k : Int) < (b.rules.length : Int) := by omega
      have HE1 := Lib.hid hend
      clear hend
      obtain ⟨W1, eW1⟩ : ∃ W1, wr.alloc (.cells #[.slice p1 b.rules.length c1, .slice p2 b.zones.length c2, .slice p3 b.links.length c3] 96) = W1 := ⟨_, rfl⟩
      have hb1 : Below W0.heap.size W0 W1 := by rw [← eW1]; exact HB.out.alloc HB.out.size _
      have hcx : W1.heap[wr.heap.size]? = some (.cells #[.slice p1 b.rules.length c1, .slice p2 b.zones.length c2, .slice p3 b.links.length c3] 96 (0, 0)) := by rw [← eW1]; exact heap_alloc_new wr _
      have hl3 : wr.heap.size < W1.heap.size := by rw [← eW1]; simp
      have hl2 : w.heap.size < W1.heap.size := by omega
      have X1 := Lib.hid ((hb1.cell (p := ⟨w.heap.size, 1, none⟩) hl0).trans HX1.out)
      have X2 := Lib.hid ((hb1.cell (p := ⟨w.heap.size, 2, none⟩) hl0).trans HX2.out)
      have hC1 : ChkBx W1 wr.heap.size (.slice p1 b.rules.length c1) (.slice p2 b.zones.length c2) (.slice p3 b.links.length c3) := hcx
      have HC1 := Lib.hid hC1
      have HB1 := Lib.hid hb1
      have HBK1 := Lib.hid (HBK.out.below hb1 (by omega))
      have HW1 := Lib.hid eW1
      have HS1 := Lib.hid hb1.size
      have y1 := X1.out
      have y2 := X2.out
      clear hb1 hcx eW1 hC1
      go_upto_region 11 with fail
      rw [HW1.out]
      go_wp2_with fail
      go_loopw [46] (fun i wr => ∃ k : Nat, k ≤ b.zones.length ∧ i = .int .i64 k ∧ Hid (Below W1.heap.size W1 wr) ∧ Hid (firstE (chkZ b) (List.range b.zones.length) = firstE (chkZ b) ((List.range b.zones.length).drop k))) (fun i _ => b.zones.length - (intOf i).toNat)
      case atStart => exact ⟨0, Nat.zero_le _, rfl, Lib.hid (Below.refl _ _), rfl⟩
      case round =>
        obtain ⟨j, hj, rfl, HBj, HFj⟩ := hrel
        rename World => wq
        have hzq := HBj.out.size
        have x1 := (HBj.out.cell (p := ⟨w.heap.size, 1, none⟩) hl2).trans X1.out
        have x2 := (HBj.out.cell (p := ⟨w.heap.size, 2, none⟩) hl2).trans X2.out
        by_cases hlt : j < b.zones.length
        · have HC := Lib.hid (zone_any b _ _ _ wr.heap.size j wq (HC1.out.below HBj.out hl3) ⟨(HBK1.out.r.below HBj.out (by omega)).mono (by omega), (HBK1.out.z.below HBj.out (by omega)).mono (by omega), fun z hz => ((HBK1.out.e z hz).below HBj.out (by omega)).mono (by omega), (HBK1.out.l.below HBj.out (by omega)).mono (by omega), HBK1.out.rs, HBK1.out.zs, HBK1.out.ls⟩ hlt (HM0.out.below (HB1.out.trans (HBj.out.mono HB1.out.size))) (HT0.out.below (HB1.out.trans (HBj.out.mono HB1.out.size))))
          have HAT := Lib.hid (chkZ_at b j hlt)
          rw [← HAT.out] at HC
          obtain ⟨E, eE⟩ : ∃ E, chkZ b j = E := ⟨_, rfl⟩
          rw [eE] at HC
          have HV := Lib.hid eE
          clear eE HAT
          go_wp2_with fail
          refine HC.out.mono ?_
          rintro e w3 ⟨rfl, hb3⟩
          have HB3 := Lib.hid (HBj.out.trans (hb3.mono HBj.out.size))
          clear hb3 HC
          by_cases hE : E = 0
          · subst hE
            go_wp2_with fail
            go_roundw
            case rel => exact ⟨j + 1, by omega, by go_num, HB3, Lib.hid (firstE_drop (chkZ b) (List.range b.zones.length) j (by simpa using hlt) (by rw [List.getElem_range]; exact HV.out) HFj.out)⟩
            case measure => simp [intOf]; omega
          · have hz : (E == 0) = false := by simpa using hE
            have hz2 : (!E == 0) = true := by rw [hz]; rfl
            have HK2 : Hid (R = E) := by
              show R = E
              have h1 := firstE_hit (chkZ b) (List.range b.zones.length) j (by simpa using hlt) (by rw [List.getElem_range, HV.out]; exact hE) HFj.out
              rw [HRz'.out HE1.out (by rw [h1, List.getElem_range, HV.out]; exact hE), h1, List.getElem_range, HV.out]
            clear hE
            go_wp2_with fail
            go_ret
            exact ⟨ret_E HK2.out.symm, HB0.out.trans ((HB1.out.trans (HB3.out.mono HB1.out.size)).mono HB0.out.size)⟩
        · have hend2 := firstE_end (chkZ b) (List.range b.zones.length) j (by simp; omega) HFj.out
          have hkl2 : ¬ (j : Int) < (b.zones.length : Int) := by omega
          have HE2 := Lib.hid hend2
          have HBq := HBj
          have hltz : True := trivial
          clear hend2
          go_wp2_with fail
          go_loopw [59] (fun i wr => ∃ k : Nat, k ≤ b.links.length ∧ i = .int .i64 k ∧ Hid (Below W1.heap.size W1 wr) ∧ Hid (firstE (chkL b) (List.range b.links.length) = firstE (chkL b) ((List.range b.links.length).drop k))) (fun i _ => b.links.length - (intOf i).toNat)
          case atStart => exact ⟨0, Nat.zero_le _, rfl, HBq, rfl⟩
          case round =>
            obtain ⟨m, hm', rfl, HBm, HFm⟩ := hrel
            rename World => wz
            have hzz := HBm.out.size
            have x1 := (HBm.out.cell (p := ⟨w.heap.size, 1, none⟩) hl2).trans X1.out
            have x2 := (HBm.out.cell (p := ⟨w.heap.size, 2, none⟩) hl2).trans X2.out
            by_cases hlt : m < b.links.length
            · have HC := Lib.hid (link_any b _ _ _ wr.heap.size m wz (HC1.out.below HBm.out hl3) ⟨(HBK1.out.r.below HBm.out (by omega)).mono (by omega), (HBK1.out.z.below HBm.out (by omega)).mono (by omega), fun z hz => ((HBK1.out.e z hz).below HBm.out (by omega)).mono (by omega), (HBK1.out.l.below HBm.out (by omega)).mono (by omega), HBK1.out.rs, HBK1.out.zs, HBK1.out.ls⟩ hlt (HM0.out.below (HB1.out.trans (HBm.out.mono HB1.out.size))))
              have HAT := Lib.hid (chkL_at b m hlt)
              rw [← HAT.out] at HC
              obtain ⟨E, eE⟩ : ∃ E, chkL b m = E := ⟨_, rfl⟩
              rw [eE] at HC
              have HV := Lib.hid eE
              clear eE HAT
              go_wp2_with fail
              refine HC.out.mono ?_
              rintro e w3 ⟨rfl, hb3⟩
              have HB3 := Lib.hid (HBm.out.trans (hb3.mono HBm.out.size))
              clear hb3 HC
              by_cases hE : E = 0
              · subst hE
                go_wp2_with fail
                go_roundw
                case rel => exact ⟨m + 1, by omega, by go_num, HB3, Lib.hid (firstE_drop (chkL b) (List.range b.links.length) m (by simpa using hlt) (by rw [List.getElem_range]; exact HV.out) HFm.out)⟩
                case measure => simp [intOf]; omega
              · have hz : (E == 0) = false := by simpa using hE
                have hz2 : (!E == 0) = true := by rw [hz]; rfl
                have HK2 : Hid (R = E) := by
                  show R = E
                  have h1 := firstE_hit (chkL b) (List.range b.links.length) m (by simpa using hlt) (by rw [List.getElem_range, HV.out]; exact hE) HFm.out
                  rw [HRl'.out HE1.out HE2.out, h1, List.getElem_range, HV.out]
                clear hE
                go_wp2_with fail
                go_ret
                exact ⟨ret_E HK2.out.symm, HB0.out.trans ((HB1.out.trans (HB3.out.mono HB1.out.size)).mono HB0.out.size)⟩
            · have hend3 := firstE_end (chkL b) (List.range b.links.length) m (by simp; omega) HFm.out
              have hkl3 : ¬ (m : Int) < (b.links.length : Int) := by omega
              have HK2 : Hid (R = 0) := by
                show R = 0
                rw [HRl'.out HE1.out HE2.out, hend3]
              clear hend3
              go_wp2_with fail
              go_ret
              exact ⟨ret_E HK2.out.symm, HB0.out.trans ((HB1.out.trans (HBm.out.mono HB1.out.size)).mono HB0.out.size)⟩
end Go.Proofs.YtomahddiclkepaaGreatDoor
namespace Go.Proofs.YtomahddiclkepaaGreatDoor
open Go.RowKit
set_option linter.unusedVariables false
set_option linter.unusedSimpArgs false

theorem own_keep {W W' : World} {B : Nat} {e : TypeId} {s n : Nat} {v : Value} {xs : List Value} (h : W.ownsRow B e s v n xs) (hk : ∀ g, v.ownBlock = some g → W'.heap[g]? = W.heap[g]?) : W'.ownsRow B e s v n xs := by
  obtain ⟨h1, h2⟩ := h
  refine ⟨h1, ?_⟩
  rcases h2 with h2 | ⟨g, cap, cur, rfl, hb, hg, r⟩
  · exact .inl h2
  · exact .inr ⟨g, cap, cur, rfl, hb, (hk g rfl).trans hg, r⟩
theorem own_cells {W : World} {B : Nat} {e : TypeId} {s n : Nat} {v : Value} {xs : List Value} (h : W.ownsRow B e s v n xs) : (v = .slice none 0 0 ∧ n = 0) ∨ ∃ g cap, v = .slice (some ⟨g, 0, none⟩) n cap ∧ B ≤ g ∧ g < W.heap.size ∧ ∀ i u, xs[i]? = some u → W.cell? ⟨g, i, none⟩ = some u := by
  rcases h.2 with h2 | ⟨g, cap, cur, rfl, hb, hg, hn, hm, hs, ht⟩
  · exact .inl h2
  · refine .inr ⟨g, cap, rfl, hb, (Array.getElem?_eq_some_iff.1 hg).1, fun i u hu => ?_⟩
    rw [cell_of_row W g i cur _ (0, 0) hg]
    rw [← ht, List.getElem?_take] at hu
    split at hu
    · simpa using hu
    · cases hu
/-- rows of other element types lie in other blocks -/
theorem own_apart {W : World} {B B' : Nat} {e e' : TypeId} {s s' n n' : Nat} {v v' : Value} {xs xs' : List Value} (h : W.ownsRow B e s v n xs) (h' : W.ownsRow B' e' s' v' n' xs') (hne : e ≠ e') : v.ownBlock = none ∨ v.ownBlock ≠ v'.ownBlock := by
  rcases h.2 with ⟨rfl, _⟩ | ⟨g, cap, cur, rfl, _, hg, _⟩
  · exact .inl rfl
  · refine .inr fun e0 => ?_
    rcases h'.2 with ⟨rfl, _⟩ | ⟨g', cap', cur', rfl, _, hg', _⟩
    · simp [Value.ownBlock] at e0
    · simp only [Value.ownBlock] at e0
      injection e0 with e0
      subst e0
      rw [hg] at hg'
      injection hg' with hg'
      injection hg' with _ h2
      exact hne h2
theorem own_sliceN {W : World} {B : Nat} {e : TypeId} {s n : Nat} {v : Value} {xs : List Value} (h : W.ownsRow B e s v n xs) : ∃ A c, v = .slice A n c := by
  rcases h.2 with ⟨rfl, rfl⟩ | ⟨g, cap, cur, rfl, _⟩
  · exact ⟨_, _, rfl⟩
  · exact ⟨_, _, rfl⟩
theorem alloc_at (w : World) (o : Obj) (k : Nat) (h : k = w.heap.size) : (w.alloc o).heap[k]? = some o := by subst h; exact heap_alloc_new w o
end Go.Proofs.YtomahddiclkepaaGreatDoor
namespace Go.Proofs.YtomahddiclkepaaGreatDoor
open Go.RowKit Go.Joins Go.Maps
open Classical
set_option linter.unusedVariables false
set_option linter.unusedSimpArgs false

/-- an element of a map reads as itself -/
def heldV (v : Value) : Option (DataW Value × List MemPlace) := some (.held v, [])
abbrev zoV (z : Zo) : Value := .agg #[.string z.nm, z.ev]
abbrev kyS (s : ByteArray) : Lit := .string s.data.toList
def DZ (l : List Zo) : DataW Value := l.foldl (fun D z => D.put (kyS z.nm) (.held (zoV z))) (.map [])
def DL (l : List Lk) : DataW Value := l.foldl (fun D x => D.put (kyS x.nm) (.held (.string x.tg))) (.map [])
theorem ownsMap_keep {W W' : World} {b n : Nat} {D : DataW Value} (h : W.ownsMap Tryz.prog 9 heldV b n D) (hk : W'.heap[b]? = W.heap[b]?) : W'.ownsMap Tryz.prog 9 heldV b n D := by
  obtain ⟨es, clock, hb, r⟩ := h
  exact ⟨es, clock, hk.trans hb, r⟩
/-- the places: two maps behind a box -/
structure PlAt (B : Nat) (W : World) (pb bz bl nz nl : Nat) (zs : List Zo) (ls : List Lk) : Prop where
  bx : W.heap[pb]? = some (.cells #[.map (some bz), .map (some bl)] 229 (0, 0))
  z : W.ownsMap Tryz.prog 9 heldV bz nz (DZ zs)
  l : W.ownsMap Tryz.prog 9 heldV bl nl (DL ls)
  hp : B ≤ pb
  hz : B ≤ bz
  hl : B ≤ bl
theorem PlAt.below {B B' : Nat} {W W' : World} {pb bz bl nz nl : Nat} {zs : List Zo} {ls : List Lk} (h : PlAt B W pb bz bl nz nl zs ls) (hb : Below B' W W') (hB : W.heap.size ≤ B') : PlAt B W' pb bz bl nz nl zs ls := by
  have h1 : pb < W.heap.size := (Array.getElem?_eq_some_iff.mp h.bx).1
  exact ⟨(hb.block pb (by omega)).trans h.bx, ownsMap_keep h.z (hb.block bz (by have := h.z.lt; omega)), ownsMap_keep h.l (hb.block bl (by have := h.l.lt; omega)), h.hp, h.hz, h.hl⟩
theorem PlAt.cells {B : Nat} {W : World} {pb bz bl nz nl : Nat} {zs : List Zo} {ls : List Lk} (h : PlAt B W pb bz bl nz nl zs ls) : W.cell? ⟨pb, 0, none⟩ = some (.map (some bz)) ∧ W.cell? ⟨pb, 1, none⟩ = some (.map (some bl)) ∧ pb < W.heap.size :=
  ⟨(cell_of_row W _ 0 _ _ _ h.bx).trans rfl, (cell_of_row W _ 1 _ _ _ h.bx).trans rfl, (Array.getElem?_eq_some_iff.mp h.bx).1⟩
theorem BookAt.baseN {B B' : Nat} {W : World} {rv zv lv : Value} {b : Bk} (h : BookAt B W rv zv lv b) (hB : B ≤ B') : BookAt B' W rv zv lv b :=
  ⟨h.r.mono hB, h.z.mono hB, fun z hz => (h.e z hz).mono hB, h.l.mono hB, h.rs, h.zs, h.ls⟩
theorem bk_len {b : Bk} (h : bkChk b = 0) : b.rules.length ≤ 40 ∧ b.zones.length ≤ 20 ∧ b.links.length ≤ 20 := by
  unfold bkChk at h
  split at h
  · cases h
  · omega

end Go.Proofs.YtomahddiclkepaaGreatDoor
namespace Go.Proofs.YtomahddiclkepaaGreatDoor
open Go.RowKit Go.Joins Go.Maps
open Classical
set_option linter.unusedVariables false
set_option linter.unusedSimpArgs false

def zoVal (z : Option Zo) : Value := match z with | some z => zoV z | none => .agg #[.string ⟨#[]⟩, .slice none 0 0]
def ResPost (R : Option Zo × Int) (w : World) (e : Ending) (w' : World) : Prop := e = .returned (.tuple #[zoVal R.1, .int .i64 R.2]) ∧ Below w.heap.size w w'

theorem ResPost.mk {R : Option Zo × Int} {z : Option Zo} {c : Int} {v : Value} {w w' : World} (h : (z, c) = R) (hv : zoVal z = v) (hb : Below w.heap.size w w') : ResPost R w (.returned (.tuple #[v, .int .i64 c])) w' := by
  subst h
  subst hv
  exact ⟨rfl, hb⟩

end Go.Proofs.YtomahddiclkepaaGreatDoor
namespace Go.Proofs.YtomahddiclkepaaGreatDoor
open Go.RowKit Go.Joins Go.Maps
open Classical
set_option linter.unusedVariables false
set_option linter.unusedSimpArgs false

abbrev erL (x : Er) : List Value := (erCells x).toList
theorem bk_parts {b : Bk} (h : bkChk b = 0) : (∀ i (hi : i < b.zones.length), zoneChk b.rules (b.zones.take i) b.zones[i] = 0) ∧ ∀ i (hi : i < b.links.length), linkChk b (b.links.take i) b.links[i] = 0 := by
  by_cases h0 : 40 < b.rules.length ∨ 20 < b.zones.length ∨ 20 < b.links.length
  · rw [bkChk_2 b h0] at h; cases h
  · by_cases h1 : firstE ruChk b.rules = 0
    · by_cases h2 : firstE (chkZ b) (List.range b.zones.length) = 0
      · rw [bkChk_l b h0 h1 h2] at h
        exact ⟨fun i hi => by rw [← chkZ_at b i hi]; exact (firstE_zero _ _).1 h2 i (List.mem_range.2 hi), fun i hi => by rw [← chkL_at b i hi]; exact (firstE_zero _ _).1 h i (List.mem_range.2 hi)⟩
      · rw [bkChk_z b h0 h1 h2] at h; exact absurd h h2
    · rw [bkChk_r b h0 h1] at h; exact absurd h h1
structure ZoneOk (b : Bk) (i : Nat) (z : Zo) : Prop where
  nm : nameB z.nm = true
  fresh : ∀ y ∈ b.zones.take i, y.nm ≠ z.nm
  ne : z.eras ≠ []
  le : z.eras.length ≤ 700
  er : firstE (eraChk b.rules z.eras) (List.range z.eras.length) = 0
theorem bk_zone {b : Bk} (h : bkChk b = 0) (i : Nat) (hi : i < b.zones.length) : ZoneOk b i b.zones[i] := by
  have hz := (bk_parts h).1 i hi
  unfold zoneChk at hz
  split at hz
  · cases hz
  · rename_i h1
    split at hz
    · cases hz
    · rename_i h2
      split at hz
      · cases hz
      · rename_i h3
        split at hz
        · cases hz
        · rename_i h4
          refine ⟨by simpa using h1, fun y hy e => h2 (List.any_eq_true.2 ⟨y, hy, by simpa using e⟩), h3, by omega, hz⟩
theorem bk_er {b : Bk} (h : bkChk b = 0) {z : Zo} (hz : z ∈ b.zones) : z.eras ≠ [] ∧ z.eras.length ≤ 700 := by
  obtain ⟨i, hi, rfl⟩ := List.mem_iff_getElem.1 hz
  exact ⟨(bk_zone h i hi).ne, (bk_zone h i hi).le⟩

end Go.Proofs.YtomahddiclkepaaGreatDoor
namespace Go.Proofs.YtomahddiclkepaaGreatDoor
open Go.RowKit Go.Joins
open Classical
set_option linter.unusedVariables false
set_option linter.unusedSimpArgs false

theorem ret_bE {a b : Bool} (h : a = b) : Ending.returned (.bool a) = .returned (.bool b) := by rw [h]
theorem bytes_neE {a b : ByteArray} (h : a ≠ b) : (a.toList == b.toList) = false := by
  cases he : a.toList == b.toList
  · rfl
  · have : a.toList = b.toList := by simpa using he
    rw [ByteArray.toList_eq, ByteArray.toList_eq] at this
    exact absurd (by cases a; cases b; simp_all) h
theorem er_eq {x y : Er} : x = y ↔ x.off = y.off ∧ x.ru = y.ru ∧ x.sv = y.sv ∧ x.fm = y.fm ∧ x.un = y.un := by
  cases x; cases y; simp
theorem fieldsEr : (Tryz.prog.fieldsOf 43).toList = [{ name := "Offset", type := 3, offset := 0, embedded := false, tag := "", pkgPath := "", byteOffset := 0 }, { name := "Rules", type := 9, offset := 1, embedded := false, tag := "", pkgPath := "", byteOffset := 8 }, { name := "Save", type := 3, offset := 2, embedded := false, tag := "", pkgPath := "", byteOffset := 24 }, { name := "Format", type := 9, offset := 3, embedded := false, tag := "", pkgPath := "", byteOffset := 32 }, { name := "Until", type := 3, offset := 4, embedded := false, tag := "", pkgPath := "", byteOffset := 48 }] := by kernel_rfl
theorem agg_er : Tryz.prog.underlying 43 = some (.struct (Tryz.prog.fieldsOf 43)) := by kernel_rfl
theorem stood_er : Tryz.prog.stoodInHeld 43 = false := by kernel_rfl
theorem neq_er (x y : Er) (W : World) : (binOp .neq 43 (.agg #[.int .i64 x.off, .string x.ru, .int .i64 x.sv, .string x.fm, .int .i64 x.un]) (.agg #[.int .i64 y.off, .string y.ru, .int .i64 y.sv, .string y.fm, .int .i64 y.un])).run Tryz.prog W = .ok (.bool (!decide (x = y))) W := by
  rw [run_neq_struct, run_equalIn_agg W 9999 _ _ _ agg_er stood_er, fieldsEr]
  by_cases h1 : x.off = y.off
  · by_cases h2 : x.ru = y.ru
    · by_cases h3 : x.sv = y.sv
      · by_cases h4 : x.fm = y.fm
        · by_cases h5 : x.un = y.un
          · have e : x = y := er_eq.2 ⟨h1, h2, h3, h4, h5⟩
            simp [go_sem, Op.eqFields, Tryz.underlying3, Tryz.underlying9, e]
          · have e : ¬ x = y := fun e => h5 (by rw [e])
            simp [go_sem, Op.eqFields, Tryz.underlying3, Tryz.underlying9, e, h1, h2, h3, h4, h5]
        · have e : ¬ x = y := fun e => h4 (by rw [e])
          simp [go_sem, Op.eqFields, Tryz.underlying3, Tryz.underlying9, e, h1, h2, h3, bytes_neE h4]
      · have e : ¬ x = y := fun e => h3 (by rw [e])
        simp [go_sem, Op.eqFields, Tryz.underlying3, Tryz.underlying9, e, h1, h2, h3]
    · have e : ¬ x = y := fun e => h2 (by rw [e])
      simp [go_sem, Op.eqFields, Tryz.underlying3, Tryz.underlying9, e, h1, bytes_neE h2]
  · have e : ¬ x = y := fun e => h1 (by rw [e])
    simp [go_sem, Op.eqFields, Tryz.underlying3, Tryz.underlying9, e, h1]
theorem list_neE {α : Type} {l m : List α} {k : Nat} (h1 : k < l.length) (h2 : k < m.length) (h : l[k] ≠ m[k]) : l ≠ m := by
  intro e
  subst e
  exact h rfl
theorem list_eqE {α : Type} {l m : List α} (h : l.length = m.length) (hs : ∀ j (h1 : j < l.length) (h2 : j < m.length), l[j] = m[j]) : l = m := List.ext_getElem h hs

set_option maxRecDepth 100000 in
set_option maxHeartbeats 1000000 in
theorem EqEr_any (l m : List Er) (v v2 : Value) (w : World) (h1 : RowsAt erL 5 w.heap.size w v l) (h2 : RowsAt erL 5 w.heap.size w v2 m) :
    Calls Tryz.prog 92 #[v, v2] w fun e w' => e = .returned (.bool (decide (l = m))) ∧ Below w.heap.size w w' := by
  obtain ⟨p, cap, rfl, hl, g1⟩ := h1
  obtain ⟨p2, cap2, rfl, hl2, g2⟩ := h2
  have HA := Lib.hid g1
  have HB := Lib.hid g2
  clear g1 g2
  by_cases hlen : l.length = m.length
  · obtain ⟨R, eR⟩ : ∃ R, decide (l = m) = R := ⟨_, rfl⟩
    rw [eR]
    have ER := Lib.hid eR
    have HLEN := Lib.hid hlen
    rw [← hlen] at hl2 ⊢
    clear eR hlen
    go_enter Tryz.func92, Tryz.ntmps92
    go_wp2
    go_loopw [14] (fun i wr => ∃ k : Nat, k ≤ l.length ∧ i = .int .i64 k ∧ (∀ j (h : j < k) (h1 : j < l.length) (h2 : j < m.length), l[j] = m[j]) ∧ Below w.heap.size w wr) (fun i _ => l.length - (intOf i).toNat)
    case atStart => exact ⟨0, Nat.zero_le _, rfl, fun j h => absurd h (Nat.not_lt_zero j), Below.refl _ _⟩
    case round =>
      obtain ⟨k, hk, rfl, hsame, hbel⟩ := hrel
      have HS := Lib.hid hsame
      clear hsame
      by_cases hlt : k < l.length
      · have hlt2 : k < m.length := by have := HLEN.out; omega
        obtain ⟨x, ex⟩ : ∃ x, l[k] = x := ⟨_, rfl⟩
        obtain ⟨y, ey⟩ : ∃ y, m[k] = y := ⟨_, rfl⟩
        have hne0 : l ≠ [] := by intro e; rw [e] at hlt; simp at hlt
        have hne1 : m ≠ [] := by intro e; rw [e] at hlt2; simp at hlt2
        obtain ⟨b, o, rfl, hb, ha0⟩ := HA.out hne0
        obtain ⟨b2, o2, rfl, hb2, hc0⟩ := HB.out hne1
        have ha := ha0 k hlt
        have hc := hc0 k hlt2
        rw [ex] at ha
        rw [ey] at hc
        have up : ∀ bb oo u, bb < w.heap.size → w.cell? ⟨bb, oo, none⟩ = some u → wr.cell? ⟨bb, oo, none⟩ = some u := fun bb oo u hlt h => (hbel.cell (p := ⟨bb, oo, none⟩) hlt).trans h
        have a0 := up _ _ _ hb (ha 0 _ rfl)
        have a1 := up _ _ _ hb (ha 1 _ rfl)
        have a2 := up _ _ _ hb (ha 2 _ rfl)
        have d0 := up _ _ _ hb2 (hc 0 _ rfl)
        have d1 := up _ _ _ hb2 (hc 1 _ rfl)
        have d2 := up _ _ _ hb2 (hc 2 _ rfl)
        have a3 := up _ _ _ hb (ha 3 _ rfl)
        have a4 := up _ _ _ hb (ha 4 _ rfl)
        have d3 := up _ _ _ hb2 (hc 3 _ rfl)
        have d4 := up _ _ _ hb2 (hc 4 _ rfl)
        rw [Nat.add_zero] at a0 d0
        have hlb := World.block_lt_of_cell? _ _ a0
        have hlb2 := World.block_lt_of_cell? _ _ d0
        have hq := neq_er x y
        have HBL := Lib.hid hbel
        by_cases hxy : x = y
        · have hd : (!decide (x = y)) = false := by simpa using hxy
          rw [hd] at hq
          have hs2 : ∀ j (h : j < k + 1) (h1 : j < l.length) (h2 : j < m.length), l[j] = m[j] := fun j hj h1 h2 => by
            by_cases e : j = k
            · subst e; rw [ex, ey, hxy]
            · exact HS.out j (by omega) h1 h2
          have HS2 := Lib.hid hs2
          clear ex ey hbel ha0 hc0 ha hc up hne0 hne1 hxy hd hs2
          go_wp2
          go_quiet (fail)
          go_wp2
          go_roundw
          case rel => exact ⟨k + 1, by omega, by go_num, HS2.out, by first | exact below_drewN HBL.out _ | exact below_drewN (HBL.out.alloc HBL.out.size _) _⟩
          case measure => simp [intOf]; omega
        · have hd : (!decide (x = y)) = true := by simpa using hxy
          rw [hd] at hq
          have hR : Hid (R = false) := by
            show _ = _
            rw [← ER.out]
            have : l ≠ m := list_neE hlt hlt2 (by rw [ex, ey]; exact hxy)
            simpa using this
          clear ex ey hbel ha0 hc0 ha hc up hne0 hne1 hxy hd
          go_wp2
          go_quiet (fail)
          go_wp2
          go_ret
          exact ⟨ret_bE hR.out.symm, by first | exact below_drewN HBL.out _ | exact below_drewN (HBL.out.alloc HBL.out.size _) _⟩
      · obtain rfl : k = l.length := by omega
        have hR : Hid (R = true) := by
          show _ = _
          rw [← ER.out]
          have : l = m := list_eqE HLEN.out (fun j h1 h2 => HS.out j h1 h1 h2)
          simpa using this
        go_wp2
        go_ret
        exact ⟨ret_bE hR.out.symm, hbel⟩
  · have hR : decide (l = m) = false := by simp; intro e; exact hlen (by rw [e])
    rw [hR]
    have hli : ¬ (l.length : Int) = (m.length : Int) := by omega
    clear hR hlen
    go_enter Tryz.func92, Tryz.ntmps92
    go_wp2
    go_ret
    exact ⟨rfl, Below.refl _ _⟩
end Go.Proofs.YtomahddiclkepaaGreatDoor
namespace Go.Proofs.YtomahddiclkepaaGreatDoor
open Go.RowKit Go.Joins
open Classical
set_option linter.unusedVariables false
set_option linter.unusedSimpArgs false

theorem fieldsDayQ : (Tryz.prog.fieldsOf 85).toList = [{ name := "Kind", type := 3, offset := 0, embedded := false, tag := "", pkgPath := "", byteOffset := 0 }, { name := "Weekday", type := 3, offset := 1, embedded := false, tag := "", pkgPath := "", byteOffset := 8 }, { name := "N", type := 3, offset := 2, embedded := false, tag := "", pkgPath := "", byteOffset := 16 }] := by kernel_rfl
theorem fieldsRuQ : (Tryz.prog.fieldsOf 87).toList = [{ name := "Name", type := 9, offset := 0, embedded := false, tag := "", pkgPath := "", byteOffset := 0 }, { name := "From", type := 3, offset := 1, embedded := false, tag := "", pkgPath := "", byteOffset := 16 }, { name := "To", type := 3, offset := 2, embedded := false, tag := "", pkgPath := "", byteOffset := 24 }, { name := "Month", type := 3, offset := 3, embedded := false, tag := "", pkgPath := "", byteOffset := 32 }, { name := "On", type := 85, offset := 4, embedded := false, tag := "", pkgPath := "", byteOffset := 40 }, { name := "At", type := 3, offset := 7, embedded := false, tag := "", pkgPath := "", byteOffset := 64 }, { name := "By", type := 3, offset := 8, embedded := false, tag := "", pkgPath := "", byteOffset := 72 }, { name := "Save", type := 3, offset := 9, embedded := false, tag := "", pkgPath := "", byteOffset := 80 }, { name := "Letter", type := 9, offset := 10, embedded := false, tag := "", pkgPath := "", byteOffset := 88 }] := by kernel_rfl
theorem agg_dayQ : Tryz.prog.underlying 85 = some (.struct (Tryz.prog.fieldsOf 85)) := by kernel_rfl
theorem stood_dayQ : Tryz.prog.stoodInHeld 85 = false := by kernel_rfl
theorem agg_ruQ : Tryz.prog.underlying 87 = some (.struct (Tryz.prog.fieldsOf 87)) := by kernel_rfl
theorem stood_ruQ : Tryz.prog.stoodInHeld 87 = false := by kernel_rfl
theorem eqIn_dayQ (a b c : Int) (W : World) : (Op.equalIn 9999 85 (.agg #[.int .i64 a, .int .i64 b, .int .i64 c]) (.agg #[.int .i64 a, .int .i64 b, .int .i64 c])).run Tryz.prog W = .ok true W := by
  rw [run_equalIn_agg W 9998 _ _ _ agg_dayQ stood_dayQ, fieldsDayQ]
  simp [go_sem, Op.eqFields, Tryz.underlying3]
theorem neq_ruQ (r : Ru) (W : World) : (binOp .neq 87 (.agg #[.string r.nm, .int .i64 r.yf, .int .i64 r.yt, .int .i64 r.mo, .int .i64 r.dk, .int .i64 r.dw, .int .i64 r.dn, .int .i64 r.tm, .int .i64 r.ck, .int .i64 r.sv, .string r.lt]) (.agg #[.string r.nm, .int .i64 r.yf, .int .i64 r.yt, .int .i64 r.mo, .int .i64 r.dk, .int .i64 r.dw, .int .i64 r.dn, .int .i64 r.tm, .int .i64 r.ck, .int .i64 r.sv, .string r.lt])).run Tryz.prog W = .ok (.bool false) W := by
  rw [run_neq_struct, run_equalIn_agg W 9999 _ _ _ agg_ruQ stood_ruQ, fieldsRuQ]
  simp [go_sem, Op.eqFields, Tryz.underlying3, Tryz.underlying9, eqIn_dayQ]
theorem fieldsLkQ : (Tryz.prog.fieldsOf 91).toList = [{ name := "Name", type := 9, offset := 0, embedded := false, tag := "", pkgPath := "", byteOffset := 0 }, { name := "To", type := 9, offset := 1, embedded := false, tag := "", pkgPath := "", byteOffset := 16 }] := by kernel_rfl
theorem agg_lkQ : Tryz.prog.underlying 91 = some (.struct (Tryz.prog.fieldsOf 91)) := by kernel_rfl
theorem stood_lkQ : Tryz.prog.stoodInHeld 91 = false := by kernel_rfl
theorem neq_lkQ (r : Lk) (W : World) : (binOp .neq 91 (.agg #[.string r.nm, .string r.tg]) (.agg #[.string r.nm, .string r.tg])).run Tryz.prog W = .ok (.bool false) W := by
  rw [run_neq_struct, run_equalIn_agg W 9999 _ _ _ agg_lkQ stood_lkQ, fieldsLkQ]
  simp [go_sem, Op.eqFields, Tryz.underlying9]
set_option maxRecDepth 100000 in
set_option maxHeartbeats 2000000 in
theorem EqRu_self (l : List Ru) (v v2 : Value) (w : World) (h1 : RowsAt (fun r : Ru => (ruCells r).toList) 11 w.heap.size w v l) (h2 : RowsAt (fun r : Ru => (ruCells r).toList) 11 w.heap.size w v2 l) :
    Calls Tryz.prog 38 #[v, v2] w fun e w' => e = .returned (.bool true) ∧ Below w.heap.size w w' := by
  obtain ⟨p, cap, rfl, hl, g1⟩ := h1
  obtain ⟨p2, cap2, rfl, hl2, g2⟩ := h2
  have HA := Lib.hid g1
  have HB := Lib.hid g2
  clear g1 g2
  go_enter Tryz.func38, Tryz.ntmps38
  go_wp2
  go_loopw [14] (fun i wr => ∃ k : Nat, k ≤ l.length ∧ i = .int .i64 k ∧ Below w.heap.size w wr) (fun i _ => l.length - (intOf i).toNat)
  case atStart => exact ⟨0, Nat.zero_le _, rfl, Below.refl _ _⟩
  case round =>
      obtain ⟨k, hk, rfl, hbel⟩ := hrel
      by_cases hlt : k < l.length
      · obtain ⟨x, ex⟩ : ∃ x, l[k] = x := ⟨_, rfl⟩
        have hne0 : l ≠ [] := by intro e; rw [e] at hlt; simp at hlt
        obtain ⟨b, o, rfl, hb, ha0⟩ := HA.out hne0
        obtain ⟨b2, o2, rfl, hb2, hc0⟩ := HB.out hne0
        have ha := ha0 k hlt
        have hc := hc0 k hlt
        rw [ex] at ha hc
        have up : ∀ bb oo u, bb < w.heap.size → w.cell? ⟨bb, oo, none⟩ = some u → wr.cell? ⟨bb, oo, none⟩ = some u := fun bb oo u hlt h => (hbel.cell (p := ⟨bb, oo, none⟩) hlt).trans h
        have a0 := up _ _ _ hb (ha 0 _ rfl)
        have d0 := up _ _ _ hb2 (hc 0 _ rfl)
        have a1 := up _ _ _ hb (ha 1 _ rfl)
        have d1 := up _ _ _ hb2 (hc 1 _ rfl)
        have a2 := up _ _ _ hb (ha 2 _ rfl)
        have d2 := up _ _ _ hb2 (hc 2 _ rfl)
        have a3 := up _ _ _ hb (ha 3 _ rfl)
        have d3 := up _ _ _ hb2 (hc 3 _ rfl)
        have a4 := up _ _ _ hb (ha 4 _ rfl)
        have d4 := up _ _ _ hb2 (hc 4 _ rfl)
        have a5 := up _ _ _ hb (ha 5 _ rfl)
        have d5 := up _ _ _ hb2 (hc 5 _ rfl)
        have a6 := up _ _ _ hb (ha 6 _ rfl)
        have d6 := up _ _ _ hb2 (hc 6 _ rfl)
        have a7 := up _ _ _ hb (ha 7 _ rfl)
        have d7 := up _ _ _ hb2 (hc 7 _ rfl)
        have a8 := up _ _ _ hb (ha 8 _ rfl)
        have d8 := up _ _ _ hb2 (hc 8 _ rfl)
        have a9 := up _ _ _ hb (ha 9 _ rfl)
        have d9 := up _ _ _ hb2 (hc 9 _ rfl)
        have a10 := up _ _ _ hb (ha 10 _ rfl)
        have d10 := up _ _ _ hb2 (hc 10 _ rfl)
        rw [Nat.add_zero] at a0 d0
        have hlb := World.block_lt_of_cell? _ _ a0
        have hlb2 := World.block_lt_of_cell? _ _ d0
        have hq := neq_ruQ x
        have HBL := Lib.hid hbel
        clear ex hbel ha0 hc0 ha hc up hne0
        go_wp2
        go_quiet (fail)
        go_wp2
        go_roundw
        case rel => exact ⟨k + 1, by omega, by go_num, by first | exact below_drewN HBL.out _ | exact below_drewN (HBL.out.alloc HBL.out.size _) _⟩
        case measure => simp [intOf]; omega
      · obtain rfl : k = l.length := by omega
        go_wp2
        go_ret
        exact ⟨rfl, hbel⟩
set_option maxRecDepth 100000 in
set_option maxHeartbeats 2000000 in
theorem EqLk_self (l : List Lk) (v v2 : Value) (w : World) (h1 : RowsAt lkCells 2 w.heap.size w v l) (h2 : RowsAt lkCells 2 w.heap.size w v2 l) :
    Calls Tryz.prog 39 #[v, v2] w fun e w' => e = .returned (.bool true) ∧ Below w.heap.size w w' := by
  obtain ⟨p, cap, rfl, hl, g1⟩ := h1
  obtain ⟨p2, cap2, rfl, hl2, g2⟩ := h2
  have HA := Lib.hid g1
  have HB := Lib.hid g2
  clear g1 g2
  go_enter Tryz.func39, Tryz.ntmps39
  go_wp2
  go_loopw [14] (fun i wr => ∃ k : Nat, k ≤ l.length ∧ i = .int .i64 k ∧ Below w.heap.size w wr) (fun i _ => l.length - (intOf i).toNat)
  case atStart => exact ⟨0, Nat.zero_le _, rfl, Below.refl _ _⟩
  case round =>
      obtain ⟨k, hk, rfl, hbel⟩ := hrel
      by_cases hlt : k < l.length
      · obtain ⟨x, ex⟩ : ∃ x, l[k] = x := ⟨_, rfl⟩
        have hne0 : l ≠ [] := by intro e; rw [e] at hlt; simp at hlt
        obtain ⟨b, o, rfl, hb, ha0⟩ := HA.out hne0
        obtain ⟨b2, o2, rfl, hb2, hc0⟩ := HB.out hne0
        have ha := ha0 k hlt
        have hc := hc0 k hlt
        rw [ex] at ha hc
        have up : ∀ bb oo u, bb < w.heap.size → w.cell? ⟨bb, oo, none⟩ = some u → wr.cell? ⟨bb, oo, none⟩ = some u := fun bb oo u hlt h => (hbel.cell (p := ⟨bb, oo, none⟩) hlt).trans h
        have a0 := up _ _ _ hb (ha 0 _ rfl)
        have d0 := up _ _ _ hb2 (hc 0 _ rfl)
        have a1 := up _ _ _ hb (ha 1 _ rfl)
        have d1 := up _ _ _ hb2 (hc 1 _ rfl)
        rw [Nat.add_zero] at a0 d0
        have hlb := World.block_lt_of_cell? _ _ a0
        have hlb2 := World.block_lt_of_cell? _ _ d0
        have hq := neq_lkQ x
        have HBL := Lib.hid hbel
        clear ex hbel ha0 hc0 ha hc up hne0
        go_wp2
        go_quiet (fail)
        go_wp2
        go_roundw
        case rel => exact ⟨k + 1, by omega, by go_num, by first | exact below_drewN HBL.out _ | exact below_drewN (HBL.out.alloc HBL.out.size _) _⟩
        case measure => simp [intOf]; omega
      · obtain rfl : k = l.length := by omega
        go_wp2
        go_ret
        exact ⟨rfl, hbel⟩
theorem EqErQ_self (l : List Er) (v v2 : Value) (w : World) (h1 : RowsAt erL 5 w.heap.size w v l) (h2 : RowsAt erL 5 w.heap.size w v2 l) :
    Calls Tryz.prog 92 #[v, v2] w fun e w' => e = .returned (.bool true) ∧ Below w.heap.size w w' := by
  have h := EqEr_any l l v v2 w h1 h2
  have e : decide (l = l) = true := decide_eq_true rfl
  rwa [e] at h
set_option maxRecDepth 100000 in
set_option maxHeartbeats 1000000 in
theorem ZoneEqQ_self (nm : ByteArray) (l : List Er) (v v2 : Value) (w : World) (h1 : RowsAt erL 5 w.heap.size w v l) (h2 : RowsAt erL 5 w.heap.size w v2 l) :
    Calls Tryz.prog 40 #[.agg #[.string nm, v], .agg #[.string nm, v2]] w fun e w' => e = .returned (.bool true) ∧ Below w.heap.size w w' := by
  obtain ⟨p1, c1, rfl, hl1, hr1⟩ := h1
  obtain ⟨p2, c2, rfl, hl2, hr2⟩ := h2
  obtain ⟨W0, eW⟩ : ∃ W0, (w.alloc (.cells #[.string nm, .slice p1 l.length c1] 46)).alloc (.cells #[.string nm, .slice p2 l.length c2] 46) = W0 := ⟨_, rfl⟩
  have hb0 : Below w.heap.size w W0 := by rw [← eW]; exact ((Below.refl _ _).alloc (Nat.le_refl _) _).alloc (by simp) _
  have hx0 : W0.heap[w.heap.size]? = some (.cells #[.string nm, .slice p1 l.length c1] 46 (0, 0)) := by
    rw [← eW]
    exact (Below.heap_alloc _ _ _ (by simp)).trans (heap_alloc_new w _)
  have hx1 : W0.heap[w.heap.size + 1]? = some (.cells #[.string nm, .slice p2 l.length c2] 46 (0, 0)) := by
    rw [← eW]
    exact alloc_at _ _ _ (by simp)
  have x0 := (cell_of_row W0 _ 0 _ _ _ hx0).trans rfl
  have x1 := (cell_of_row W0 _ 1 _ _ _ hx0).trans rfl
  have y0 := (cell_of_row W0 _ 0 _ _ _ hx1).trans rfl
  have y1 := (cell_of_row W0 _ 1 _ _ _ hx1).trans rfl
  have g1 : RowsAt erL 5 W0.heap.size W0 (.slice p1 l.length c1) l := (RowsAt.below ⟨p1, c1, rfl, hl1, hr1⟩ hb0 (Nat.le_refl _)).mono hb0.size
  have g2 : RowsAt erL 5 W0.heap.size W0 (.slice p2 l.length c2) l := (RowsAt.below ⟨p2, c2, rfl, hl2, hr2⟩ hb0 (Nat.le_refl _)).mono hb0.size
  have HEQ := Lib.hid (EqErQ_self l _ _ W0 g1 g2)
  have HEW := Lib.hid eW
  have HB0 := Lib.hid hb0
  have t0 : (nm.toList == nm.toList) = true := beq_self_eq_true _
  clear eW hb0 hx0 hx1 g1 g2 hr1 hr2
  go_enter Tryz.func40, Tryz.ntmps40
  go_upto_region 1 with fail
  rw [HEW.out]
  go_wp2_with fail
  refine HEQ.out.mono ?_
  rintro e w1 ⟨rfl, hb1⟩
  go_wp2_with fail
  go_ret
  exact ⟨rfl, HB0.out.trans (hb1.mono HB0.out.size)⟩
theorem zone_cellsQ {B : Nat} {W : World} {v : Value} {l : List Zo} (h : RowsAt zoCells 2 B W v l) {k : Nat} (hk : k < l.length) : ∃ b o c, v = .slice (some ⟨b, o, none⟩) l.length c ∧ b < B ∧ W.cell? ⟨b, o + k * 2, none⟩ = some (.string l[k].nm) ∧ W.cell? ⟨b, o + k * 2 + 1, none⟩ = some l[k].ev := by
  obtain ⟨p, c, rfl, -, g⟩ := h
  obtain ⟨b, o, rfl, hb, hc⟩ := g (by intro e; subst e; simp at hk)
  exact ⟨b, o, c, rfl, hb, hc k hk 0 _ rfl, hc k hk 1 _ rfl⟩
theorem BookAt.monoQ {B B' : Nat} {W : World} {rv zv lv : Value} {b : Bk} (h : BookAt B W rv zv lv b) (hB : B ≤ B') : BookAt B' W rv zv lv b := ⟨h.r.mono hB, h.z.mono hB, fun z hz => (h.e z hz).mono hB, h.l.mono hB, h.rs, h.zs, h.ls⟩
theorem two_alQ {w W0 : World} {o1 o2 : Obj} (e : (w.alloc o1).alloc o2 = W0) : W0.heap.size = w.heap.size + 2 ∧ W0.heap[w.heap.size]? = some o1 ∧ W0.heap[w.heap.size + 1]? = some o2 ∧ Below w.heap.size w W0 := by
  subst e
  exact ⟨by simp, (Below.heap_alloc _ _ _ (by simp)).trans (heap_alloc_new w _), alloc_at _ _ _ (by simp), ((Below.refl _ _).alloc (Nat.le_refl _) _).alloc (by simp) _⟩
/-- two books in boxes: what their cells are, in any later world -/
structure TwoB (W0 : World) (B n : Nat) (r1 z1 l1 r2 z2 l2 : Value) (wx : World) : Prop where
  b : Below W0.heap.size W0 wx
  x0 : wx.cell? ⟨B, 0, none⟩ = some r1
  x1 : wx.cell? ⟨B, 1, none⟩ = some z1
  x2 : wx.cell? ⟨B, 2, none⟩ = some l1
  y0 : wx.cell? ⟨B + 1, 0, none⟩ = some r2
  y1 : wx.cell? ⟨B + 1, 1, none⟩ = some z2
  y2 : wx.cell? ⟨B + 1, 2, none⟩ = some l2
set_option maxRecDepth 100000 in
set_option maxHeartbeats 4000000 in
theorem BookEq_self (b b2 : Bk) (rv zv lv rv2 zv2 lv2 : Value) (w : World) (h1 : BookAt w.heap.size w rv zv lv b) (h2 : BookAt w.heap.size w rv2 zv2 lv2 b2) (er : b2.rules = b.rules) (el : b2.links = b.links)
    (ez : b2.zones.map (fun z => (z.nm, z.eras)) = b.zones.map fun z => (z.nm, z.eras)) :
    Calls Tryz.prog 12 #[.agg #[rv, zv, lv], .agg #[rv2, zv2, lv2]] w fun e w' => e = .returned (.bool true) ∧ Below w.heap.size w w' := by
  obtain ⟨W0, eW⟩ : ∃ W0, (w.alloc (.cells #[rv, zv, lv] 26)).alloc (.cells #[rv2, zv2, lv2] 26) = W0 := ⟨_, rfl⟩
  obtain ⟨hz, g0, g1, hb0⟩ := two_alQ eW
  have k1 : BookAt W0.heap.size W0 rv zv lv b := (h1.below hb0 (Nat.le_refl _)).monoQ hb0.size
  have k2 : BookAt W0.heap.size W0 rv2 zv2 lv2 b2 := (h2.below hb0 (Nat.le_refl _)).monoQ hb0.size
  have HEW := Lib.hid eW
  have HB := Lib.hid hb0
  have TW : Hid (∀ wx, Below W0.heap.size W0 wx → TwoB W0 w.heap.size 0 rv zv lv rv2 zv2 lv2 wx) := by
    show ∀ wx, _
    intro wx hb
    have u := fun (o : Nat) => hb.cell (p := ⟨w.heap.size, o, none⟩) (by show w.heap.size < _; omega)
    have v := fun (o : Nat) => hb.cell (p := ⟨w.heap.size + 1, o, none⟩) (by show w.heap.size + 1 < _; omega)
    exact ⟨hb, (u 0).trans ((cell_of_row W0 _ 0 _ _ _ g0).trans rfl), (u 1).trans ((cell_of_row W0 _ 1 _ _ _ g0).trans rfl), (u 2).trans ((cell_of_row W0 _ 2 _ _ _ g0).trans rfl), (v 0).trans ((cell_of_row W0 _ 0 _ _ _ g1).trans rfl), (v 1).trans ((cell_of_row W0 _ 1 _ _ _ g1).trans rfl), (v 2).trans ((cell_of_row W0 _ 2 _ _ _ g1).trans rfl)⟩
  have hlen : b2.zones.length = b.zones.length := by have := congrArg List.length ez; simpa using this
  have HRU : Hid (∀ W, Below W0.heap.size W0 W → Calls Tryz.prog 38 #[rv, rv2] W fun e w' => e = .returned (.bool true) ∧ Below W.heap.size W w') := by
    show ∀ W, _
    intro W hb
    have q1 := (k1.below hb (Nat.le_refl _)).monoQ hb.size
    have q2 := (k2.below hb (Nat.le_refl _)).monoQ hb.size
    have r2 := q2.r
    rw [er] at r2
    exact EqRu_self _ _ _ W q1.r r2
  have HLK : Hid (∀ W, Below W0.heap.size W0 W → Calls Tryz.prog 39 #[lv, lv2] W fun e w' => e = .returned (.bool true) ∧ Below W.heap.size W w') := by
    show ∀ W, _
    intro W hb
    have q1 := (k1.below hb (Nat.le_refl _)).monoQ hb.size
    have q2 := (k2.below hb (Nat.le_refl _)).monoQ hb.size
    have r2 := q2.l
    rw [el] at r2
    exact EqLk_self _ _ _ W q1.l r2
  have HZO : Hid (∀ (k : Nat) (h : k < b.zones.length) (h2 : k < b2.zones.length) W, Below W0.heap.size W0 W → Calls Tryz.prog 40 #[.agg #[.string b.zones[k].nm, b.zones[k].ev], .agg #[.string b2.zones[k].nm, b2.zones[k].ev]] W fun e w' => e = .returned (.bool true) ∧ Below W.heap.size W w') := by
    show ∀ (k : Nat), _
    intro k h h2 W hb
    have q1 := (k1.below hb (Nat.le_refl _)).monoQ hb.size
    have q2 := (k2.below hb (Nat.le_refl _)).monoQ hb.size
    have e1 := q1.e _ (List.getElem_mem h)
    have e2 := q2.e _ (List.getElem_mem h2)
    have e3 : (b2.zones[k].nm, b2.zones[k].eras) = (b.zones[k].nm, b.zones[k].eras) := by
      have := congrArg (fun l => l[k]?) ez
      simpa [h, h2] using this
    injection e3 with e4 e5
    rw [e5] at e2
    rw [e4]
    exact ZoneEqQ_self _ _ _ _ W e1 e2
  obtain ⟨zp, zc, rfl, hzl, -⟩ := k1.z
  obtain ⟨zp2, zc2, rfl, hzl2, -⟩ := k2.z
  have HZ1 : Hid (∀ (k : Nat) (h : k < b.zones.length) wx, Below W0.heap.size W0 wx → ∃ bb o, zp = some ⟨bb, o, none⟩ ∧ bb < W0.heap.size ∧ wx.cell? ⟨bb, o + k * 2, none⟩ = some (.string b.zones[k].nm) ∧ wx.cell? ⟨bb, o + k * 2 + 1, none⟩ = some b.zones[k].ev) := by
    show ∀ (k : Nat), _
    intro k h wx hb
    obtain ⟨bb, o, c, e, h1, h2⟩ := zone_cellsQ (k1.below hb (Nat.le_refl _)).z h
    injection e with e _ _
    exact ⟨bb, o, e, h1, h2⟩
  have HZ2 : Hid (∀ (k : Nat) (h : k < b2.zones.length) wx, Below W0.heap.size W0 wx → ∃ bb o, zp2 = some ⟨bb, o, none⟩ ∧ bb < W0.heap.size ∧ wx.cell? ⟨bb, o + k * 2, none⟩ = some (.string b2.zones[k].nm) ∧ wx.cell? ⟨bb, o + k * 2 + 1, none⟩ = some b2.zones[k].ev) := by
    show ∀ (k : Nat), _
    intro k h wx hb
    obtain ⟨bb, o, c, e, h1, h2⟩ := zone_cellsQ (k2.below hb (Nat.le_refl _)).z h
    injection e with e _ _
    exact ⟨bb, o, e, h1, h2⟩
  obtain ⟨rp, rc, rfl, hrl, -⟩ := k1.r
  obtain ⟨rp2, rc2, rfl, hrl2, -⟩ := k2.r
  obtain ⟨lp, lc, rfl, hll, -⟩ := k1.l
  obtain ⟨lp2, lc2, rfl, hll2, -⟩ := k2.l
  obtain ⟨n, en⟩ : ∃ n, b.zones.length = n := ⟨_, rfl⟩
  obtain ⟨-, x0, x1, x2, y0, y1, y2⟩ := TW.out W0 (Below.refl _ _)
  have HEN := Lib.hid en
  have HLN := Lib.hid hlen
  rw [hlen, en] at hzl2
  rw [en] at hzl
  rw [hlen] at y1 TW HEW ⊢
  rw [en] at x1 y1 TW HEW ⊢
  clear eW hb0 h1 h2 g0 g1 hz k1 k2 er el ez hlen en
  go_enter Tryz.func12, Tryz.ntmps12
  go_wp2_with fail
  rw [HEW.out]
  refine (HRU.out _ (Below.refl _ _)).mono ?_
  rintro e w1 ⟨rfl, hb1⟩
  obtain ⟨hB1, x0', x1', x2', y0', y1', y2'⟩ := TW.out w1 hb1
  have HB1 := Lib.hid hB1
  clear hb1 hB1 x0 x1 x2 y0 y1 y2
  go_wp2_with fail
  refine (HLK.out _ HB1.out).mono ?_
  rintro e w2 ⟨rfl, hb2⟩
  obtain ⟨hB2, x0, x1, x2, y0, y1, y2⟩ := TW.out w2 (HB1.out.trans (hb2.mono HB1.out.size))
  have HB2 := Lib.hid hB2
  clear hb2 hB2 x0' x1' x2' y0' y1' y2'
  have hzw2 := HB2.out.size
  go_wp2_with fail
  go_loopw [32] (fun i wr => ∃ k : Nat, k ≤ n ∧ i = .int .i64 k ∧ Below W0.heap.size W0 wr) (fun i _ => n - (intOf i).toNat)
  case atStart => exact ⟨0, Nat.zero_le _, rfl, HB2.out⟩
  case round =>
    obtain ⟨k, hk, rfl, hbr⟩ := hrel
    clear x0 x1 x2 y0 y1 y2
    obtain ⟨-, x0, x1, x2, y0, y1, y2⟩ := TW.out wr hbr
    have HBR := Lib.hid hbr
    have hzr := hbr.size
    clear hbr
    by_cases hlt : k < n
    · have hk1 : k < b.zones.length := by rw [HEN.out]; exact hlt
      have hk2 : k < b2.zones.length := by rw [HLN.out]; exact hk1
      obtain ⟨bb, o, e1, hbb, -, -⟩ := HZ1.out k hk1 _ (Below.refl _ _)
      obtain ⟨bb2, o2, e3, hbb2, -, -⟩ := HZ2.out k hk2 _ (Below.refl _ _)
      subst e1 e3
      have HC : Hid (∀ wx, Below W0.heap.size W0 wx → (Below W0.heap.size W0 wx ∧ wx.cell? ⟨w.heap.size, 1, none⟩ = some (.slice (some ⟨bb, o, none⟩) n zc) ∧ wx.cell? ⟨w.heap.size + 1, 1, none⟩ = some (.slice (some ⟨bb2, o2, none⟩) n zc2) ∧ wx.cell? ⟨bb, o + k * 2, none⟩ = some (.string b.zones[k].nm) ∧ wx.cell? ⟨bb, o + k * 2 + 1, none⟩ = some b.zones[k].ev ∧ wx.cell? ⟨bb2, o2 + k * 2, none⟩ = some (.string b2.zones[k].nm) ∧ wx.cell? ⟨bb2, o2 + k * 2 + 1, none⟩ = some b2.zones[k].ev)) := by
        show ∀ wx, Below W0.heap.size W0 wx → _
        intro wx hb
        obtain ⟨_, _, e1, -, c0, c1⟩ := HZ1.out k hk1 wx hb
        obtain ⟨_, _, e3, -, d0, d1⟩ := HZ2.out k hk2 wx hb
        injection e1 with e1
        injection e3 with e3
        injection e1 with q1 q2 _
        injection e3 with q3 q4 _
        subst q1 q2 q3 q4
        have := TW.out wx hb
        exact ⟨hb, this.x1, this.y1, c0, c1, d0, d1⟩
      have KR : Hid (∀ wx, (Below W0.heap.size W0 wx ∧ wx.cell? ⟨w.heap.size, 1, none⟩ = some (.slice (some ⟨bb, o, none⟩) n zc) ∧ wx.cell? ⟨w.heap.size + 1, 1, none⟩ = some (.slice (some ⟨bb2, o2, none⟩) n zc2) ∧ wx.cell? ⟨bb, o + k * 2, none⟩ = some (.string b.zones[k].nm) ∧ wx.cell? ⟨bb, o + k * 2 + 1, none⟩ = some b.zones[k].ev ∧ wx.cell? ⟨bb2, o2 + k * 2, none⟩ = some (.string b2.zones[k].nm) ∧ wx.cell? ⟨bb2, o2 + k * 2 + 1, none⟩ = some b2.zones[k].ev) → Below W0.heap.size W0 wx) := by
        show ∀ wx, _ → Below W0.heap.size W0 wx
        exact fun wx h => h.1
      have HZQ : Hid (∀ W, Below W0.heap.size W0 W → Calls Tryz.prog 40 #[.agg #[.string b.zones[k].nm, b.zones[k].ev], .agg #[.string b2.zones[k].nm, b2.zones[k].ev]] W fun e w' => e = .returned (.bool true) ∧ Below W.heap.size W w') := Lib.hid (fun W hb => HZO.out k hk1 hk2 W hb)
      generalize b.zones[k].nm = nm1 at HC KR HZQ
      generalize b.zones[k].ev = ev1 at HC KR HZQ
      generalize b2.zones[k].nm = nm2 at HC KR HZQ
      generalize b2.zones[k].ev = ev2 at HC KR HZQ
      clear x0 x2 y0 y2 hk1 hk2 hk
      go_upto_region 6 with fail
      go_cut [46] (fun s46 wx => s46 = .bool false ∧ Below W0.heap.size W0 wx)
      case first =>
        go_region_held3 (fun wx => Below W0.heap.size W0 wx ∧ wx.cell? ⟨w.heap.size, 1, none⟩ = some (.slice (some ⟨bb, o, none⟩) n zc) ∧ wx.cell? ⟨w.heap.size + 1, 1, none⟩ = some (.slice (some ⟨bb2, o2, none⟩) n zc2) ∧ wx.cell? ⟨bb, o + k * 2, none⟩ = some (.string nm1) ∧ wx.cell? ⟨bb, o + k * 2 + 1, none⟩ = some ev1 ∧ wx.cell? ⟨bb2, o2 + k * 2, none⟩ = some (.string nm2) ∧ wx.cell? ⟨bb2, o2 + k * 2 + 1, none⟩ = some ev2) ((refine HC.out _ ?_; repeat (first | (with_reducible assumption) | (with_reducible exact HBR.out) | (with_reducible exact Below.refl _ _) | (with_reducible refine Below.drew ?_))))
          (first
            | (go_at_call 40; refine (HZQ.out _ (KR.out _ (by assumption))).mono ?_; rintro e w2 ⟨rfl, hb2⟩; have hB2 := ((KR.out _ (by assumption)).trans (hb2.mono (KR.out _ (by assumption)).size)); clear hb2))
        all_goals go_wp2_with fail
        all_goals go_meet
        all_goals exact ⟨rfl, KR.out _ (by assumption)⟩
      case rest =>
        obtain ⟨rfl, hbc⟩ := hcut
        have HBC := Lib.hid hbc
        clear hbc
        go_wp2
        go_roundw
        case rel => exact ⟨k + 1, by omega, by go_num, HBC.out⟩
        case measure => simp [intOf]; omega
    · obtain rfl : k = n := by omega
      go_wp2
      go_ret
      exact ⟨rfl, HB.out.trans (HBR.out.mono HB.out.size)⟩
end Go.Proofs.YtomahddiclkepaaGreatDoor
namespace Go.Proofs.YtomahddiclkepaaGreatDoor
open Go.RowKit Go.Joins
set_option linter.unusedVariables false
set_option linter.unusedSimpArgs false

set_option maxRecDepth 100000 in
set_option maxHeartbeats 1000000 in
theorem Span_pos (n : Int) (w : World) (h0 : 0 ≤ n) (h1 : n ≤ 604800) (ht : Tab10 w) :
    Calls Tryz.prog 72 #[.int .i64 n] w fun e w' => e = .returned (.tuple #[.string (txt (spanP n)), .int .i64 0]) ∧ Below w.heap.size w w' := by
  have HT := Lib.hid ht
  clear ht
  have ha : ¬ n < -604800 := by omega
  have hb : ¬ 604800 < n := by omega
  go_enter Tryz.func72, Tryz.ntmps72
  go_wp2_with fail
  refine (itoa_text _ _ (by omega) (by omega) HT.out).mono ?_
  have hA := itoa_len3 (n := n / 3600) (by omega) (by omega)
  rw [← txt_size] at hA
  obtain ⟨A, eA⟩ : ∃ A, txt (Lib.itoa (n / 3600)) = A := ⟨_, rfl⟩
  rw [eA] at hA ⊢
  have EA := Lib.hid eA
  clear eA
  rintro e w1 ⟨rfl, hb1⟩
  go_wp2_with fail
  refine (two_any _ _ (by omega) (by omega)).mono ?_
  obtain ⟨B, eB⟩ : ∃ B, txt (T2 (n / 60 % 60)) = B := ⟨_, rfl⟩
  rw [eB]
  have hB2 : B.size ≤ 2 := by rw [← eB, txt_size, T2_length]; omega
  have EB := Lib.hid eB
  clear eB
  rintro e w2 ⟨rfl, hb2⟩
  have b2 := hb1.trans (hb2.mono hb1.size)
  by_cases hz : n % 60 = 0
  · go_wp2_with fail
    go_ret2
    refine ⟨?_, b2⟩
    show Ending.returned (.tuple #[.string (txt [] ++ A ++ ⟨#[58]⟩ ++ B), .int .i64 0]) = _
    rw [← EA.out, ← EB.out, cat1, spanP, if_pos hz]
    rfl
  · go_wp2_with fail
    refine (two_any _ _ (by omega) (by omega)).mono ?_
    obtain ⟨C, eC⟩ : ∃ C, txt (T2 (n % 60)) = C := ⟨_, rfl⟩
    rw [eC]
    have hC2 : C.size ≤ 2 := by rw [← eC, txt_size, T2_length]; omega
    have EC := Lib.hid eC
    clear eC
    rintro e w3 ⟨rfl, hb3⟩
    go_wp2_with fail
    go_ret2
    refine ⟨?_, b2.trans (hb3.mono b2.size)⟩
    show Ending.returned (.tuple #[.string (txt [] ++ A ++ ⟨#[58]⟩ ++ B ++ (⟨#[58]⟩ ++ C)), .int .i64 0]) = _
    rw [← EA.out, ← EB.out, ← EC.out, cat2, spanP, if_neg hz]
    rfl
set_option maxRecDepth 100000 in
set_option maxHeartbeats 1000000 in
theorem Span_neg (n : Int) (w : World) (h0 : 0 < n) (h1 : n ≤ 604800) (ht : Tab10 w) :
    Calls Tryz.prog 72 #[.int .i64 (-n)] w fun e w' => e = .returned (.tuple #[.string (txt (45 :: spanP n)), .int .i64 0]) ∧ Below w.heap.size w w' := by
  have HT := Lib.hid ht
  clear ht
  have ha : ¬ -n < -604800 := by omega
  have hb : ¬ 604800 < -n := by omega
  go_enter Tryz.func72, Tryz.ntmps72
  go_wp2_with fail
  refine (itoa_text _ _ (by omega) (by omega) HT.out).mono ?_
  have hA := itoa_len3 (n := n / 3600) (by omega) (by omega)
  rw [← txt_size] at hA
  obtain ⟨A, eA⟩ : ∃ A, txt (Lib.itoa (n / 3600)) = A := ⟨_, rfl⟩
  rw [eA] at hA ⊢
  have EA := Lib.hid eA
  clear eA
  rintro e w1 ⟨rfl, hb1⟩
  go_wp2_with fail
  refine (two_any _ _ (by omega) (by omega)).mono ?_
  obtain ⟨B, eB⟩ : ∃ B, txt (T2 (n / 60 % 60)) = B := ⟨_, rfl⟩
  rw [eB]
  have hB2 : B.size ≤ 2 := by rw [← eB, txt_size, T2_length]; omega
  have EB := Lib.hid eB
  clear eB
  rintro e w2 ⟨rfl, hb2⟩
  have b2 := hb1.trans (hb2.mono hb1.size)
  by_cases hz : n % 60 = 0
  · go_wp2_with fail
    go_ret2
    refine ⟨?_, b2⟩
    show Ending.returned (.tuple #[.string (txt [45] ++ A ++ ⟨#[58]⟩ ++ B), .int .i64 0]) = _
    rw [← EA.out, ← EB.out, cat1, spanP, if_pos hz]
    rfl
  · go_wp2_with fail
    refine (two_any _ _ (by omega) (by omega)).mono ?_
    obtain ⟨C, eC⟩ : ∃ C, txt (T2 (n % 60)) = C := ⟨_, rfl⟩
    rw [eC]
    have hC2 : C.size ≤ 2 := by rw [← eC, txt_size, T2_length]; omega
    have EC := Lib.hid eC
    clear eC
    rintro e w3 ⟨rfl, hb3⟩
    go_wp2_with fail
    go_ret2
    refine ⟨?_, b2.trans (hb3.mono b2.size)⟩
    show Ending.returned (.tuple #[.string (txt [45] ++ A ++ ⟨#[58]⟩ ++ B ++ (⟨#[58]⟩ ++ C)), .int .i64 0]) = _
    rw [← EA.out, ← EB.out, ← EC.out, cat2, spanP, if_neg hz]
    rfl

theorem Span_ok (n : Int) (w : World) (h0 : -604800 ≤ n) (h1 : n ≤ 604800) (ht : Tab10 w) :
    Calls Tryz.prog 72 #[.int .i64 n] w fun e w' => e = .returned (.tuple #[.string (txt (spanT n)), .int .i64 0]) ∧ Below w.heap.size w w' := by
  unfold spanT
  by_cases h : n < 0
  · rw [if_pos h]
    have := Span_neg (-n) w (by omega) (by omega) ht
    rw [Int.neg_neg] at this
    exact this
  · rw [if_neg h]; exact Span_pos n w (by omega) h1 ht
end Go.Proofs.YtomahddiclkepaaGreatDoor
namespace Go.Proofs.YtomahddiclkepaaGreatDoor
open Go
set_option linter.unusedVariables false

theorem fold_ge (l : List UInt8) : ∀ acc : Nat, acc ≤ l.foldl (fun a c => 10 * a + (c.toNat - 48)) acc := by
  induction l with
  | nil => intro acc; exact Nat.le_refl _
  | cons c r ih =>
    intro acc
    simp only [List.foldl_cons]
    have := ih (10 * acc + (c.toNat - 48))
    omega
theorem parseU (l : List UInt8) (hd : ∀ c ∈ l, isDg c) : ∀ acc : Nat, l.foldl (fun a c => 10 * a + (c.toNat - 48)) acc < 1844674407370955162 →
    Lib.parseUint10 acc l = .ok (l.foldl (fun a c => 10 * a + (c.toNat - 48)) acc) := by
  induction l with
  | nil => intro acc _; rfl
  | cons c r ih =>
    intro acc h
    simp only [List.foldl_cons] at h ⊢
    have hc := hd c (by simp)
    have hge := fold_ge r (10 * acc + (c.toNat - 48))
    unfold isDg at hc
    rw [Lib.parseUint10, if_pos hc, if_neg (by omega), if_neg (by omega), show acc * 10 + (c.toNat - 48) = 10 * acc + (c.toNat - 48) by omega]
    exact ih (fun x hx => hd x (by simp [hx])) _ h
/-- the number of strconv.Atoi, whatever the text -/
def atoiV (l : List UInt8) : Int :=
  match Lib.atoiAll l with
  | .ok v => v
  | .range => Lib.atoiSat l
  | _ => 0
theorem atoi_dg {l : List UInt8} (hn : l ≠ []) (hd : ∀ c ∈ l, isDg c) (h : numV l < 1844674407370955162) : Lib.atoiAll l = .ok (numV l : Int) := by
  match l, hn with
  | c :: r, _ =>
    have hc := hd c (by simp)
    unfold isDg at hc
    rw [Lib.atoiAll_plain c r (by omega) (by omega), Lib.parseMag, if_neg (by simp), parseU _ hd 0 h]
    have : numV (c :: r) < 1844674407370955162 := h
    unfold Lib.signless
    exact if_neg (by unfold numV at this; omega)
theorem atoiV_dg {l : List UInt8} (hn : l ≠ []) (hd : ∀ c ∈ l, isDg c) (h : numV l < 1844674407370955162) : atoiV l = numV l := by
  unfold atoiV
  rw [atoi_dg hn hd h]
theorem atoiV_itoa {n : Int} (h0 : 0 ≤ n) (h1 : n < 1844674407370955162) : atoiV (Lib.itoa n) = n := by
  have e : numV (Lib.itoa n) = n.toNat := by rw [itoa_nn h0, numV_dec]
  rw [atoiV_dg (itoa_ne h0) (itoa_dg h0) (by omega), e]
  omega
theorem numV_T2 {n : Int} (h0 : 0 ≤ n) (h1 : n < 100) : numV (T2 n) = n.toNat := by
  simp only [numV, T2, List.foldl_cons, List.foldl_nil, UInt8.toNat_ofNat']
  omega
theorem atoiV_T2 {n : Int} (h0 : 0 ≤ n) (h1 : n < 100) : atoiV (T2 n) = n := by
  rw [atoiV_dg (by simp [T2]) (T2_dg h0 h1) (by rw [numV_T2 h0 h1]; omega), numV_T2 h0 h1]
  omega
theorem atoiV_bd (l : List UInt8) : -9223372036854775808 ≤ atoiV l ∧ atoiV l ≤ 9223372036854775807 := by
  unfold atoiV
  split
  · next v h => exact Lib.atoiAll_bounds h
  · unfold Lib.atoiSat; split <;> omega
  · omega

/-- what is no digit -/
def sepP (x : Nat) : Bool := decide (x < 48) || decide (57 < x)
def joinG : List (List UInt8 × UInt8) → List UInt8 → List UInt8
  | [], l => l
  | (g, c) :: r, l => g ++ c :: joinG r l
def spG (pos : Nat) : List (List UInt8 × UInt8) → List UInt8 → List (Nat × Nat)
  | [], l => [(pos, pos + l.length)]
  | (g, c) :: r, l => (pos, pos + g.length) :: spG (pos + g.length + 1) r l

theorem txt_get (l : List UInt8) (i : Nat) (h : i < (txt l).size) : (txt l)[i]'h = l[i]'(by rw [txt_size] at h; exact h) := rfl
theorem dec_txt (pre post : List UInt8) (c : UInt8) (h : c.toNat < 128) : Utf8.decode (txt (pre ++ c :: post)) pre.length = (c.toNat, 1) := by
  have hl : pre.length < (txt (pre ++ c :: post)).size := by rw [txt_size]; simp
  have e : (txt (pre ++ c :: post))[pre.length]'hl = c := by
    rw [txt_get]
    simp
  rw [decode_ascii _ _ hl (by rw [e]; exact h), e]
theorem sepP_dg {c : UInt8} (h : isDg c) : sepP c.toNat = false := by
  unfold isDg at h
  unfold sepP
  simp; omega
theorem dg_lt {c : UInt8} (h : isDg c) : c.toNat < 128 := by unfold isDg at h; omega

/-- digits behind a digit -/
theorem run_some (g : List UInt8) : ∀ (pre post : List UInt8) (f a : Nat) (acc : List (Nat × Nat)), (∀ c ∈ g, isDg c) →
    Lib.spansFromP sepP (txt (pre ++ (g ++ post))) (f + g.length) pre.length (some a) acc = Lib.spansFromP sepP (txt (pre ++ (g ++ post))) f (pre.length + g.length) (some a) acc := by
  induction g with
  | nil => intro pre post f a acc _; rfl
  | cons c r ih =>
    intro pre post f a acc hd
    have hc := hd c (by simp)
    have hlt : pre.length < (txt (pre ++ (c :: r ++ post))).size := by rw [txt_size]; simp
    have e := dec_txt pre (r ++ post) c (dg_lt hc)
    show Lib.spansFromP sepP _ ((f + r.length) + 1) _ _ _ = _
    rw [Lib.spansFromP, if_pos hlt]
    rw [show pre ++ (c :: r ++ post) = pre ++ c :: (r ++ post) by simp, e]
    simp only [sepP_dg hc]
    have := ih (pre ++ [c]) post f a acc (fun x hx => hd x (by simp [hx]))
    simp only [List.append_assoc, List.cons_append, List.nil_append, List.length_append, List.length_cons, List.length_nil] at this ⊢
    rw [if_neg (by simp), this]
    congr 1
    omega
/-- a group of digits at its first place -/
theorem run_none (g : List UInt8) (hg : g ≠ []) (pre post : List UInt8) (f : Nat) (acc : List (Nat × Nat)) (hd : ∀ c ∈ g, isDg c) :
    Lib.spansFromP sepP (txt (pre ++ (g ++ post))) (f + g.length) pre.length none acc = Lib.spansFromP sepP (txt (pre ++ (g ++ post))) f (pre.length + g.length) (some pre.length) acc := by
  match g, hg with
  | c :: r, _ =>
    have hc := hd c (by simp)
    have hlt : pre.length < (txt (pre ++ (c :: r ++ post))).size := by rw [txt_size]; simp
    have e := dec_txt pre (r ++ post) c (dg_lt hc)
    show Lib.spansFromP sepP _ ((f + r.length) + 1) _ _ _ = _
    rw [Lib.spansFromP, if_pos hlt]
    rw [show pre ++ (c :: r ++ post) = pre ++ c :: (r ++ post) by simp, e]
    simp only [sepP_dg hc]
    have := run_some r (pre ++ [c]) post f pre.length acc (fun x hx => hd x (by simp [hx]))
    simp only [List.append_assoc, List.cons_append, List.nil_append, List.length_append, List.length_cons, List.length_nil] at this ⊢
    rw [if_neg (by simp), this]
    congr 1
    omega
theorem run_sep (c : UInt8) (hc : c.toNat < 128) (hs : sepP c.toNat = true) (pre post : List UInt8) (f a : Nat) (acc : List (Nat × Nat)) :
    Lib.spansFromP sepP (txt (pre ++ c :: post)) (f + 1) pre.length (some a) acc = Lib.spansFromP sepP (txt (pre ++ c :: post)) f (pre.length + 1) none (acc ++ [(a, pre.length)]) := by
  have hlt : pre.length < (txt (pre ++ c :: post)).size := by rw [txt_size]; simp
  rw [Lib.spansFromP, if_pos hlt, dec_txt pre post c hc]
  simp only [hs, if_true]

def okG (r : List (List UInt8 × UInt8)) : Prop := ∀ x ∈ r, x.1 ≠ [] ∧ (∀ c ∈ x.1, isDg c) ∧ x.2.toNat < 128 ∧ sepP x.2.toNat = true
theorem groups (last : List UInt8) (hl : last ≠ []) (hd : ∀ c ∈ last, isDg c) : ∀ (r : List (List UInt8 × UInt8)) (pre : List UInt8) (acc : List (Nat × Nat)), okG r →
    Lib.closeSpans (txt (pre ++ joinG r last)) (Lib.spansFromP sepP (txt (pre ++ joinG r last)) (joinG r last).length pre.length none acc) = acc ++ spG pre.length r last := by
  intro r
  induction r with
  | nil =>
    intro pre acc _
    have := run_none last hl pre [] 0 acc hd
    simp only [List.append_nil, Nat.zero_add] at this
    simp only [joinG, spG]
    rw [this]
    simp [Lib.spansFromP, Lib.closeSpans, txt_size]
  | cons x r ih =>
    intro pre acc hok
    obtain ⟨g, c⟩ := x
    obtain ⟨h1, h2, h3, h4⟩ := hok (g, c) (by simp)
    simp only [joinG, spG]
    have e1 := run_none g h1 pre (c :: joinG r last) ((joinG r last).length + 1) acc h2
    rw [show (g ++ c :: joinG r last).length = (joinG r last).length + 1 + g.length by simp; omega, e1]
    have e2 := run_sep c h3 h4 (pre ++ g) (joinG r last) (joinG r last).length pre.length acc
    simp only [List.append_assoc, List.length_append] at e2
    rw [e2]
    have e3 := ih (pre ++ g ++ [c]) (acc ++ [(pre.length, pre.length + g.length)]) (fun y hy => hok y (by simp [hy]))
    simp only [List.append_assoc, List.length_append, List.cons_append, List.nil_append, List.length_cons, List.length_nil] at e3
    rw [show pre.length + (g.length + (0 + 1)) = pre.length + g.length + 1 by omega] at e3
    rw [e3]
theorem ext_mid (pre g post : List UInt8) : (txt (pre ++ (g ++ post))).extract pre.length (pre.length + g.length) = txt g := by
  apply ByteArray.ext
  apply Array.ext'
  rw [Lib.extract_data, txt_data, txt_data]
  simp
theorem groups_ext (last : List UInt8) : ∀ (r : List (List UInt8 × UInt8)) (pre : List UInt8),
    (spG pre.length r last).map (fun x => (txt (pre ++ joinG r last)).extract x.1 x.2) = r.map (fun x => txt x.1) ++ [txt last] := by
  intro r
  induction r with
  | nil =>
    intro pre
    have := ext_mid pre last []
    simp only [List.append_nil] at this
    simp [spG, joinG, this]
  | cons x r ih =>
    intro pre
    obtain ⟨g, c⟩ := x
    simp only [spG, joinG, List.map_cons, List.cons_append, List.cons.injEq]
    refine ⟨ext_mid pre g (c :: joinG r last), ?_⟩
    have := ih (pre ++ g ++ [c])
    simp only [List.append_assoc, List.length_append, List.cons_append, List.nil_append, List.length_cons, List.length_nil] at this
    rw [show pre.length + (g.length + (0 + 1)) = pre.length + g.length + 1 by omega] at this
    exact this
/-- a text of groups of digits -/
theorem fields_groups (r : List (List UInt8 × UInt8)) (last : List UInt8) (hok : okG r) (hl : last ≠ []) (hd : ∀ c ∈ last, isDg c) :
    Lib.goFieldsP sepP (txt (joinG r last)) = r.map (fun x => txt x.1) ++ [txt last] := by
  unfold Lib.goFieldsP Lib.spansOfP
  have h1 := groups last hl hd r [] [] hok
  have h2 := groups_ext last r []
  simp only [List.nil_append, List.length_nil] at h1 h2
  rw [txt_size, h1, h2]

/-- the pieces of a time's text -/
theorem fields_stamp (t : Int) (h1 : -135140 ≤ t / 86400) (h2 : t / 86400 ≤ 157053) :
    Lib.goFieldsP sepP (txt (stampT t)) = [txt (Lib.itoa (Civ.yy (t / 86400))), txt (T2 (Civ.mm (t / 86400))), txt (T2 (Civ.dd (t / 86400))), txt (T2 (t % 86400 / 3600)), txt (T2 (t % 86400 / 60 % 60)), txt (T2 (t % 86400 % 60))] := by
  obtain ⟨hv, -⟩ := Civ.date_valid (t / 86400) h1 h2
  have hb := Civ.mlen_bd (Civ.yy (t / 86400)) (Civ.mm (t / 86400)) hv.2.2.1 hv.2.2.2.1
  obtain ⟨v1, v2, v3, v4, v5, v6⟩ := hv
  have key := fields_groups [(Lib.itoa (Civ.yy (t / 86400)), 45), (T2 (Civ.mm (t / 86400)), 45), (T2 (Civ.dd (t / 86400)), 84), (T2 (t % 86400 / 3600), 58), (T2 (t % 86400 / 60 % 60), 58)] (T2 (t % 86400 % 60))
    (by
      have d2 : ∀ n : Int, 0 ≤ n → n < 100 → T2 n ≠ [] ∧ ∀ c ∈ T2 n, isDg c := fun n a b => ⟨by simp [T2], T2_dg a b⟩
      intro x hx
      simp only [List.mem_cons, List.not_mem_nil, or_false] at hx
      rcases hx with rfl | rfl | rfl | rfl | rfl
      · exact ⟨itoa_ne (by omega), itoa_dg (by omega), by show (45 : UInt8).toNat < 128; decide, by show sepP (45 : UInt8).toNat = true; decide⟩
      · exact ⟨(d2 _ (by omega) (by omega)).1, (d2 _ (by omega) (by omega)).2, by show (45 : UInt8).toNat < 128; decide, by show sepP (45 : UInt8).toNat = true; decide⟩
      · exact ⟨(d2 _ (by omega) (by omega)).1, (d2 _ (by omega) (by omega)).2, by show (84 : UInt8).toNat < 128; decide, by show sepP (84 : UInt8).toNat = true; decide⟩
      · exact ⟨(d2 _ (by omega) (by omega)).1, (d2 _ (by omega) (by omega)).2, by show (58 : UInt8).toNat < 128; decide, by show sepP (58 : UInt8).toNat = true; decide⟩
      · exact ⟨(d2 _ (by omega) (by omega)).1, (d2 _ (by omega) (by omega)).2, by show (58 : UInt8).toNat < 128; decide, by show sepP (58 : UInt8).toNat = true; decide⟩)
    (by simp [T2]) (T2_dg (by omega) (by omega))
  have e : joinG [(Lib.itoa (Civ.yy (t / 86400)), 45), (T2 (Civ.mm (t / 86400)), 45), (T2 (Civ.dd (t / 86400)), 84), (T2 (t % 86400 / 3600), 58), (T2 (t % 86400 / 60 % 60), 58)] (T2 (t % 86400 % 60)) = stampT t := by
    unfold stampT
    simp [joinG]
  rw [e] at key
  rw [key]
  rfl
end Go.Proofs.YtomahddiclkepaaGreatDoor
