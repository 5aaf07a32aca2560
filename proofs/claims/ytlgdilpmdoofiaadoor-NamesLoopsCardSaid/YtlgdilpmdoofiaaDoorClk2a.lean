/- clock.Stamp: what it returns. -/
import Derived.Test.YtlgdilpmdoofiaaDoorClk1
import Derived.Test.YtlgdilpmdoofiaaDoorCiv3a
namespace Go.Proofs.YtlgdilpmdoofiaaDoor
open Go.RowKit Go.Joins
set_option linter.unusedVariables false
set_option linter.unusedSimpArgs false

theorem cat9 (y m d p q r : List UInt8) : txt y ++ ⟨#[45]⟩ ++ txt m ++ ⟨#[45]⟩ ++ txt d ++ ⟨#[84]⟩ ++ txt p ++ ⟨#[58]⟩ ++ txt q ++ ⟨#[58]⟩ ++ txt r = txt (y ++ ([45] ++ (m ++ ([45] ++ (d ++ ([84] ++ (p ++ ([58] ++ (q ++ ([58] ++ r)))))))))) := by
  rw [show (⟨#[45]⟩ : ByteArray) = txt [45] from rfl, show (⟨#[58]⟩ : ByteArray) = txt [58] from rfl, show (⟨#[84]⟩ : ByteArray) = txt [84] from rfl]
  simp only [txt_append]
  simp

set_option maxRecDepth 100000 in
set_option maxHeartbeats 1000000 in
theorem Stamp_ok (t : Int) (w : World) (h1 : -135140 ≤ t / 86400) (h2 : t / 86400 ≤ 157053) (ht : Tab10 w) :
    Calls Tryd.prog 75 #[.int .i64 t] w fun e w' => e = .returned (.tuple #[.string (txt (stampT t)), .int .i64 0]) ∧ Below w.heap.size w w' := by
  have HT := Lib.hid ht
  clear ht
  have hn1 : -9223372036854775808 ≤ t := by omega
  have hn2 : t ≤ 9223372036854775807 := by omega
  have hF := fun W => Floor_any t 86400 W (by decide) (by decide) hn1 hn2
  clear hn1 hn2
  have hr0 : 0 ≤ t % 86400 := by omega
  have hr1 : t % 86400 < 86400 := by omega
  have hst : stampT t = dateT (t / 86400) ++ clockT (t % 86400) := stamp_two t
  obtain ⟨n, en⟩ : ∃ n, t / 86400 = n := ⟨_, rfl⟩
  obtain ⟨r, er⟩ : ∃ r, t % 86400 = r := ⟨_, rfl⟩
  simp only [en] at h1 h2 hF hst
  simp only [er] at hr0 hr1 hF hst
  have HST := Lib.hid hst
  have HF := Lib.hid hF
  clear hst en er hF
  obtain ⟨hv, -⟩ := Civ.date_valid n h1 h2
  have hb := Civ.mlen_bd (Civ.yy n) (Civ.mm n) hv.2.2.1 hv.2.2.2.1
  obtain ⟨v1, v2, v3, v4, v5, v6⟩ := hv
  have v7 : Civ.dd n ≤ 31 := by omega
  go_enter Tryd.func75, Tryd.ntmps75
  go_wp2_with fail
  refine (HF.out _).mono ?_
  rintro e w1 ⟨rfl, hb1⟩
  go_wp2_with fail
  refine (Date_ok n _ h1 h2).mono ?_
  rintro e w2 ⟨rfl, rfl⟩
  have b2 := hb1
  clear v6 hb
  go_wp2_with fail
  refine (itoa_text _ _ (by omega) (by omega) (HT.out.below b2)).mono ?_
  obtain ⟨Y, eY⟩ : ∃ Y, txt (Lib.itoa (Civ.yy n)) = Y := ⟨_, rfl⟩
  rw [eY]
  have hY : Y.size ≤ 4 := by rw [← eY, txt_size, Y4_length (by omega) (by omega)]; omega
  have EY := Lib.hid eY
  clear eY
  rintro e w3 ⟨rfl, hb3⟩
  have c0 := b2.trans (hb3.mono b2.size)
  go_wp2_with fail
  refine (two_any _ _ (by omega) (by omega)).mono ?_
  obtain ⟨M, eM⟩ : ∃ M, txt (T2 (Civ.mm n)) = M := ⟨_, rfl⟩
  rw [eM]
  have hM : M.size ≤ 2 := by rw [← eM, txt_size, T2_length]; omega
  have EM := Lib.hid eM
  clear eM
  rintro e x0 ⟨rfl, hx0⟩
  have c1 := c0.trans (hx0.mono c0.size)
  go_wp2_with fail
  refine (two_any _ _ (by omega) (by omega)).mono ?_
  obtain ⟨D, eD⟩ : ∃ D, txt (T2 (Civ.dd n)) = D := ⟨_, rfl⟩
  rw [eD]
  have hD : D.size ≤ 2 := by rw [← eD, txt_size, T2_length]; omega
  have ED := Lib.hid eD
  clear eD
  rintro e x1 ⟨rfl, hx1⟩
  have c2 := c1.trans (hx1.mono c1.size)
  go_wp2_with fail
  refine (two_any _ _ (by omega) (by omega)).mono ?_
  obtain ⟨P, eP⟩ : ∃ P, txt (T2 (r / 3600)) = P := ⟨_, rfl⟩
  rw [eP]
  have hP : P.size ≤ 2 := by rw [← eP, txt_size, T2_length]; omega
  have EP := Lib.hid eP
  clear eP
  rintro e x2 ⟨rfl, hx2⟩
  have c3 := c2.trans (hx2.mono c2.size)
  go_wp2_with fail
  refine (two_any _ _ (by omega) (by omega)).mono ?_
  obtain ⟨Q, eQ⟩ : ∃ Q, txt (T2 (r / 60 % 60)) = Q := ⟨_, rfl⟩
  rw [eQ]
  have hQ : Q.size ≤ 2 := by rw [← eQ, txt_size, T2_length]; omega
  have EQ := Lib.hid eQ
  clear eQ
  rintro e x3 ⟨rfl, hx3⟩
  have c4 := c3.trans (hx3.mono c3.size)
  go_wp2_with fail
  refine (two_any _ _ (by omega) (by omega)).mono ?_
  obtain ⟨R, eR⟩ : ∃ R, txt (T2 (r % 60)) = R := ⟨_, rfl⟩
  rw [eR]
  have hR : R.size ≤ 2 := by rw [← eR, txt_size, T2_length]; omega
  have ER := Lib.hid eR
  clear eR
  rintro e x4 ⟨rfl, hx4⟩
  have c5 := c4.trans (hx4.mono c4.size)
  go_wp2_with fail
  go_ret2
  refine ⟨?_, c5⟩
  show Ending.returned (.tuple #[.string (Y ++ ⟨#[45]⟩ ++ M ++ ⟨#[45]⟩ ++ D ++ ⟨#[84]⟩ ++ P ++ ⟨#[58]⟩ ++ Q ++ ⟨#[58]⟩ ++ R), .int .i64 0]) = _
  rw [← EY.out, ← EM.out, ← ED.out, ← EP.out, ← EQ.out, ← ER.out, cat9, HST.out]
  simp [dateT, clockT]

set_option maxHeartbeats 1000000 in
theorem Stamp_no (t : Int) (w : World) (h : t / 86400 < -135140 ∨ 157053 < t / 86400) (hn1 : -9223372036854775808 ≤ t) (hn2 : t ≤ 9223372036854775807) :
    Calls Tryd.prog 75 #[.int .i64 t] w fun e w' => e = .returned (.tuple #[.string ⟨#[]⟩, .int .i64 1]) ∧ Below w.heap.size w w' := by
  have HN1 := Lib.hid hn1
  have HN2 := Lib.hid hn2
  clear hn1 hn2
  go_enter Tryd.func75, Tryd.ntmps75
  go_wp2_with fail
  refine (Floor_any t 86400 _ (by decide) (by decide) HN1.out HN2.out).mono ?_
  rintro e w1 ⟨rfl, hb1⟩
  go_wp2_with fail
  refine (Date_no (t / 86400) _ h).mono ?_
  rintro e w2 ⟨rfl, rfl⟩
  go_wp2_with fail
  go_ret2
  exact ⟨rfl, hb1⟩

end Go.Proofs.YtlgdilpmdoofiaaDoor
