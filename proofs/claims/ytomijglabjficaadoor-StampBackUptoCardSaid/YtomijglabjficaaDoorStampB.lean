/- StampBack: its walk. -/
import Derived.Test.YtomijglabjficaaDoorStampR
namespace Go.Proofs.YtomijglabjficaaDoor
open Go.RowKit Go.Joins
set_option linter.unusedVariables false
set_option linter.unusedSimpArgs false

set_option maxRecDepth 100000 in
set_option maxHeartbeats 1000000 in
theorem StampBack_walk (t : Int) (s : ByteArray) (w : World) (hs : s.size ≤ 1048576) (ht : Tab10 w) (hn : NumErrs w) :
    Calls Tryd.prog 8 #[.int .i64 t, .string s] w fun e w' => e = .returned (.bool true) ∧ Below w.heap.size w w' := by
  have HT := Lib.hid ht
  have HN := Lib.hid hn
  clear ht hn
  obtain ⟨a1, a2⟩ := tD_bd t
  obtain ⟨d1, d2⟩ := tD_bd2 t
  obtain ⟨T, eT⟩ : ∃ T, tD t = T := ⟨_, rfl⟩
  rw [eT] at a1 a2 d1 d2
  have ET := Lib.hid eT
  have hRO := Lib.hid (fun W hw hw' => ReadStamp_ok T W ⟨a1, a2⟩ hw hw')
  have A1 := Lib.hid a1
  have A2 := Lib.hid a2
  have hl0 : s.data.toList.length = s.size := (Lib.size_eq s).symm
  have hts : txt s.data.toList = s := rfl
  have HTS := Lib.hid hts
  clear eT a1 a2 hts
  go_enter Tryd.func8, Tryd.ntmps8
  go_wp2_with fail
  refine (clocked_any _ HT.out).mono ?_
  rintro e w1 ⟨rfl, hb1⟩
  go_wp2_with fail
  refine (timeOf_any t _).mono ?_
  rw [ET.out]
  rintro e w2 ⟨rfl, hb2⟩
  have c2 := hb1.trans (hb2.mono hb1.size)
  go_wp2_with fail
  refine (Stamp_ok T _ A1.out A2.out (HT.out.below c2)).mono ?_
  obtain ⟨U, eU⟩ : ∃ U, txt (stampT T) = U := ⟨_, rfl⟩
  rw [eU]
  have EU := Lib.hid eU
  clear eU
  rintro e w3 ⟨rfl, hb3⟩
  have c3 := c2.trans (hb3.mono c2.size)
  go_wp2_with fail
  have hro := hRO.out w3 (HT.out.below c3) (HN.out.below c3)
  rw [EU.out] at hro
  refine hro.mono ?_
  clear hro
  rintro e w4 ⟨rfl, hb4⟩
  have c4 := c3.trans (hb4.mono c3.size)
  go_wp2_with fail
  by_cases hex : ∃ k, inT k ∧ stampT k = s.data.toList
  · obtain ⟨k, hk, ek⟩ := hex
    have hr := ReadStamp_ok k w4 hk (HT.out.below c4) (HN.out.below c4)
    rw [ek, HTS.out] at hr
    refine hr.mono ?_
    clear hr
    rintro e w5 ⟨rfl, hb5⟩
    have c5 := c4.trans (hb5.mono c4.size)
    have hS := Stamp_ok k w5 hk.1 hk.2 (HT.out.below c5)
    rw [ek, HTS.out] at hS
    clear ek hk
    have HS := Lib.hid hS
    clear hS
    go_wp2_with fail
    refine HS.out.mono ?_
    rintro e w6 ⟨rfl, hb6⟩
    have c6 := c5.trans (hb6.mono c5.size)
    go_wp2
    go_ret
    exact ⟨rfl, c6⟩
  · have hr := ReadStamp_no s.data.toList w4 (by omega) (fun k hk ek => hex ⟨k, hk, ek⟩) (HT.out.below c4) (HN.out.below c4)
    rw [HTS.out] at hr
    refine hr.mono ?_
    clear hr hex
    rintro e w5 ⟨rfl, hb5⟩
    have c5 := c4.trans (hb5.mono c4.size)
    go_wp2_with fail
    refine (Stamp_ok 0 _ (by decide) (by decide) (HT.out.below c5)).mono ?_
    generalize txt (stampT 0) = Z
    rintro e w6 ⟨rfl, hb6⟩
    have c6 := c5.trans (hb6.mono c5.size)
    go_wp2
    go_ret
    exact ⟨rfl, c6⟩
end Go.Proofs.YtomijglabjficaaDoor
