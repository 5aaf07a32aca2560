/- BackTurns: the walk. -/
import Derived.Test.YtmpeplimiaaehaaDoorQ09
import Derived.Test.YtmpeplimiaaehaaDoorQ11
namespace Go.Proofs.YtmpeplimiaaehaaDoor
open Go.RowKit Go.Joins
open Classical
set_option linter.unusedVariables false
set_option linter.unusedSimpArgs false

theorem EqTn_selfY (l : List Tn) (v v2 : Value) (w : World) (h1 : RowsAt tnC 3 w.heap.size w v l) (h2 : RowsAt tnC 3 w.heap.size w v2 l) :
    Calls Tryd.prog 10 #[v, v2] w fun e w' => e = .returned (.bool true) ∧ Below w.heap.size w w' := by
  have h := EqTn_any l l v v2 w h1 h2
  have e : decide (l = l) = true := decide_eq_true rfl
  rwa [e] at h
theorem yr_sz {l : List Tn} (h : ∀ t ∈ l, SzTn t) : ∀ r ∈ (yearsR l).2, SzR r := by
  intro r hr
  unfold yearsR at hr
  split at hr
  · cases hr
  split at hr
  · obtain ⟨t, ht, rfl⟩ := List.mem_map.1 hr
    exact ⟨by show ByteArray.size ⟨#[121, 101, 97, 114, 115]⟩ ≤ _; decide, (h t ht).l⟩
  · cases hr
theorem yr_len (l : List Tn) : (yearsR l).2.length ≤ 40 := by
  unfold yearsR
  split
  · exact Nat.zero_le _
  split
  · show (l.map yrR).length ≤ 40; rw [List.length_map]; omega
  · exact Nat.zero_le _
theorem yr_len0 {l : List Tn} (h : (yearsR l).1 = 0) : l.length ≤ 40 := by
  unfold yearsR at h
  split at h
  · cases h
  · omega
theorem yr_none {l : List Tn} (h : (yearsR l).1 ≠ 0 ∨ l = []) : (yearsR l).2 = [] := by
  unfold yearsR at h ⊢
  split
  · rfl
  split
  · rename_i h1 h2
    rw [if_neg h1, if_pos h2] at h
    rcases h with h | h
    · exact absurd rfl h
    · subst h; rfl
  · rfl
set_option maxRecDepth 100000 in
set_option maxHeartbeats 8000000 in
theorem BackTurns_walk (MK : MakeSays) (l : List Tn) (v : Value) (off : Int) (w : World) (hv : RowsAt tnC 3 w.heap.size w v l) (hs : ∀ t ∈ l, SzTn t) (hm : MaxLen w) (ht : Tab10 w) :
    Calls Tryd.prog 4 #[v, .int .i64 off] w fun e w' => e = .returned (.bool true) ∧ Below w.heap.size w w' := by
  have HV := Lib.hid hv
  have HS := Lib.hid hs
  have HM := Lib.hid hm
  have HT := Lib.hid ht
  have HBD := Lib.hid (BB.backed_any w ht)
  have HRE := Lib.hid (fun W => Rest0_any off 129601 W (by omega) (by omega))
  have HLAW := Lib.hid (fun h hn o h1 h2 => yrs_law (l := l) (off := o) h hn h1 h2)
  have HSZ := Lib.hid (yr_sz hs)
  have hlen := yr_len l
  have HNN := Lib.hid (yr_none (l := l))
  have HL0 := Lib.hid (yr_len0 (l := l))
  have hr := Int.emod_nonneg off (show (129601 : Int) ≠ 0 by decide)
  have hr2 := Int.emod_lt_of_pos off (show (0 : Int) < 129601 by decide)
  obtain ⟨o, eo⟩ : ∃ o, off % 129601 = o := ⟨_, rfl⟩
  rw [eo] at hr hr2 HRE
  have hw1 : IntKind.i64.wrap (o - 64800) = o - 64800 := IntWalk.i64_in _ (by omega)
  have hll := hv
  obtain ⟨p, cp, rfl, hl1, -⟩ := hll
  clear hv hs hm ht eo
  go_enter Tryd.func4, Tryd.ntmps4
  go_wp2_with fail
  refine HBD.out.mono ?_
  rintro e w1 ⟨rfl, hb1⟩
  have HB1 := Lib.hid hb1
  have HV1 := Lib.hid (HV.out.below hb1 (Nat.le_refl _))
  have HY := Lib.hid (Years_any l _ w1 (HV1.out.mono hb1.size) HS.out)
  clear hb1 HBD
  go_wp2_with fail
  refine (HRE.out w1).mono ?_
  rintro e w' ⟨rfl, rfl⟩
  go_wp2_with fail
  refine HY.out.mono ?_
  rintro e w2 ⟨vo, rfl, hown, hb2⟩
  have HB2 := Lib.hid (HB1.out.trans (hb2.mono HB1.out.size))
  have HV2 := Lib.hid ((HV.out.below HB2.out (Nat.le_refl _)).mono HB2.out.size)
  obtain ⟨R, eR⟩ : ∃ R, yearsR l = R := ⟨_, rfl⟩
  rw [eR] at HLAW HSZ hlen HNN HL0 hown ⊢
  obtain ⟨C, L⟩ := R
  simp only at HLAW HSZ hlen HNN HL0 hown ⊢
  obtain ⟨A, cA, rfl⟩ := own_sliceN hown
  have HOWN := Lib.hid hown
  clear hb2 hown HY eR
  by_cases hC : C = 0
  case neg =>
    have hn := HNN.out (.inl hC)
    subst hn
    have hz : (C == 0) = false := by simpa using hC
    have hzn : (C != 0) = true := by simpa using hC
    have hzz : (!C == 0) = true := by rw [hz]; rfl
    clear hC
    go_wp2_with fail
    go_ret
    exact ⟨rfl, HB2.out⟩
  subst hC
  by_cases hl0 : l = []
  case pos =>
    have hn := HNN.out (.inr hl0)
    subst hn
    subst hl0
    go_wp2_with fail
    go_ret
    exact ⟨rfl, HB2.out⟩
  have hlp : 0 < l.length := List.length_pos_iff.2 hl0
  have hlz : ¬ (l.length : Int) = 0 := by omega
  have hlb : ((l.length : Int) == 0) = false := by simpa using hlz
  have hof := HLAW.out rfl hl0 (o - 64800) (by omega) (by omega)
  have hrows : RowsAt ruLY 11 w2.heap.size w2 (.slice A L.length cA) L := own_rowsG (cells := ruLY) (k := 11) (fun _ => rfl) HOWN.out (by omega)
  have hbk := Of_book MK ⟨L, [], []⟩ _ _ _ yearsB (o - 64800) w2 (book_rules hrows HSZ.out) (HM.out.below HB2.out) (HT.out.below HB2.out)
  rw [hof] at hbk
  have HOF := Lib.hid hbk
  clear hl0 hof hrows hbk HLAW HNN
  go_wp2_with fail
  refine HOF.out.mono ?_
  rintro e w3 ⟨v3, rfl, hown3, hb3⟩
  simp only at hown3 ⊢
  have HB3 := Lib.hid (HB2.out.trans (hb3.mono HB2.out.size))
  have hl4 : l.length ≤ 100000 := by
    have := HL0.out (by simp)
    omega
  have HR3 := own_rowsT hown3 hl4
  have HV3 := (HV.out.below HB3.out (Nat.le_refl _)).mono HB3.out.size
  have HEQ := Lib.hid (EqTn_selfY l _ v3 w3 HV3 HR3)
  obtain ⟨A3, c3, rfl⟩ := own_sliceN hown3
  clear hb3 hown3 HR3 HV3 HOF
  go_wp2_with fail
  refine HEQ.out.mono ?_
  rintro e w4 ⟨rfl, hb4⟩
  go_wp2_with fail
  go_ret
  exact ⟨rfl, HB3.out.trans (hb4.mono HB3.out.size)⟩
end Go.Proofs.YtmpeplimiaaehaaDoor
