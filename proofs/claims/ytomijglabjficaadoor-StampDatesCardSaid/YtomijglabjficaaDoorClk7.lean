/- StampDates: its walk. -/
import Derived.Test.YtomijglabjficaaDoorClk6
namespace Go.Proofs.YtomijglabjficaaDoor
open Go.RowKit Go.Joins
set_option linter.unusedVariables false
set_option linter.unusedSimpArgs false

def spanU (r : Int) : List UInt8 := Lib.itoa (r / 3600) ++ ([58] ++ (T2 (r / 60 % 60) ++ ([58] ++ T2 (r % 60))))
theorem spanU_zero {r : Int} (hz : r % 60 = 0) : spanP r ++ [58, 48, 48] = spanU r := by
  unfold spanP spanU
  rw [if_pos hz, hz]
  simp [T2]
theorem spanU_more {r : Int} (hz : ¬ r % 60 = 0) : spanP r = spanU r := by unfold spanP spanU; rw [if_neg hz]
theorem spanU_low {r : Int} (h0 : 0 ≤ r) (h : r / 3600 < 10) : 48 :: spanU r = hmsT r ∧ (spanU r).length = 7 := by
  unfold spanU hmsT
  rw [T2_low (by omega) h, itoa_small (by omega) h]
  exact ⟨rfl, by simp [T2_length]⟩
theorem spanU_high {r : Int} (h0 : 10 ≤ r / 3600) (h : r < 86400) : spanU r = hmsT r ∧ (spanU r).length = 8 := by
  unfold spanU hmsT
  rw [← T2_high h0 (by omega)]
  exact ⟨rfl, by simp [T2_length]⟩

/-- 'S begins with a date and T; behind it the time of day' -/
theorem stamp_parts {y m d : Int} (hv : Civ.valid y m d) (r : Int) (h0 : 0 ≤ r) (h1 : r < 86400) (S : ByteArray) (e : txt (stampT (86400 * Civ.days y m d + r)) = S) :
    S.size = 19 ∧ (S.extract 11 19).toList = hmsT r ∧ (∀ h : 10 < S.size, S[10]'h = 84) ∧ Lib.hasPrefix S.data.toList (Lib.itoa y ++ [45]) = true := by
  have hy : (Lib.itoa y).length = 4 := Y4_length (by have := hv.1; omega) (by have := hv.2.1; omega)
  have hd := stampT_at hv r h0 h1
  rw [hd] at e
  subst e
  obtain ⟨a, b, c, k, eY⟩ : ∃ a b c k, Lib.itoa y = [a, b, c, k] := by
    match h : Lib.itoa y, hy with
    | [a, b, c, k], _ => exact ⟨a, b, c, k, rfl⟩
  rw [eY]
  refine ⟨by rw [txt_size]; simp [hmsT, T2_length], ?_, ?_, ?_⟩
  · rw [ByteArray.toList_eq, Lib.extract_data, txt_data]
    simp [T2, hmsT]
  · intro h; rfl
  · rw [txt_data]
    simp [Lib.hasPrefix]

set_option maxRecDepth 100000 in
set_option maxHeartbeats 2000000 in
theorem StampDates_walk (y m d s : Int) (w : World) (ht : Tab10 w) :
    Calls Tryd.prog 6 #[.int .i64 y, .int .i64 m, .int .i64 d, .int .i64 s] w fun e w' => e = .returned (.bool true) ∧ Below w.heap.size w w' := by
  have HT := Lib.hid ht
  clear ht
  have hv := dateD_valid y m d
  have h0 : 0 ≤ s % 86400 := by omega
  have h1 : s % 86400 < 86400 := by omega
  have hdb := Civ.days_bd hv
  have hy1 := hv.1
  have hy2 := hv.2.1
  have HDT := Lib.hid (fun W => date_any y m d W)
  obtain ⟨r, er⟩ : ∃ r, s % 86400 = r := ⟨_, rfl⟩
  rw [er] at h0 h1
  have ER := Lib.hid er
  obtain ⟨Y, eY⟩ : ∃ Y, yD y = Y := ⟨_, rfl⟩
  obtain ⟨M, eM⟩ : ∃ M, mD m = M := ⟨_, rfl⟩
  obtain ⟨D, eD⟩ : ∃ D, dD y m d = D := ⟨_, rfl⟩
  rw [eY, eM, eD] at hv hdb HDT
  rw [eY] at hy1 hy2
  obtain ⟨S, eS⟩ : ∃ S, txt (stampT (86400 * Civ.days Y M D + r)) = S := ⟨_, rfl⟩
  obtain ⟨s1, s2, s3, s4⟩ := stamp_parts hv r h0 h1 S eS
  have HDY := Lib.hid (fun W => Days_ok Y M D W hv)
  have hl := stampT_lt
  clear hl
  obtain ⟨n, en⟩ : ∃ n, Civ.days Y M D = n := ⟨_, rfl⟩
  rw [en] at hdb eS
  rw [en] at HDY
  have ES := Lib.hid eS
  have S2 := Lib.hid s2
  have S4 := Lib.hid s4
  have eP : spanT r = spanP r := by unfold spanT; rw [if_neg (by omega)]
  have EP := Lib.hid eP
  clear er eY eM eD hv eS en s2 s4 eP
  have hPl := spanP_len h0 (by omega)
  have hYl : (Lib.itoa Y).length = 4 := Y4_length (by omega) (by omega)
  have hpre : ∀ W, Calls Tryd.prog 16 #[.string S, .string (txt (Lib.itoa Y) ++ ⟨#[45]⟩)] W fun e w' => e = .returned (.bool true) ∧ w' = W := fun W => by
    rw [lit_txt1, txt_append]
    have := prefix_any S.data.toList (Lib.itoa Y ++ [45]) W
    rw [S4.out] at this
    exact this
  have HPRE := Lib.hid hpre
  clear hpre
  have hYs : (txt (Lib.itoa Y)).size = 4 := by rw [txt_size]; exact hYl
  obtain ⟨Ys, eYs⟩ : ∃ Ys, txt (Lib.itoa Y) = Ys := ⟨_, rfl⟩
  rw [eYs] at hYs HPRE
  have EYS := Lib.hid eYs
  clear eYs hYl
  go_enter Tryd.func6, Tryd.ntmps6
  go_wp2_with fail
  refine (clocked_any _ HT.out).mono ?_
  rintro e w1 ⟨rfl, hb1⟩
  go_wp2_with fail
  refine (HDT.out _).mono ?_
  rintro e w2 ⟨rfl, hb2⟩
  have c2 := hb1.trans (hb2.mono hb1.size)
  go_wp2_with fail
  refine (Rest_any _ _ _ (by decide) (by decide)).mono ?_
  rw [ER.out]
  rintro e w3 ⟨rfl, rfl⟩
  go_wp2_with fail
  refine (HDY.out _).mono ?_
  rintro e w3 ⟨rfl, rfl⟩
  go_wp2_with fail
  refine (Stamp_ok _ _ (by omega) (by omega) (HT.out.below c2)).mono ?_
  rw [ES.out]
  rintro e w4 ⟨rfl, hb4⟩
  have c4 := c2.trans (hb4.mono c2.size)
  go_wp2_with fail
  refine (Span_ok r _ (by omega) (by omega) (HT.out.below c4)).mono ?_
  rw [EP.out]
  rintro e w5 ⟨rfl, hb5⟩
  have c5 := c4.trans (hb5.mono c4.size)
  have k2 : (txt (spanP r)).size ≤ 9 := by rw [txt_size]; exact hPl
  by_cases hz : r % 60 = 0
  · have eU : txt (spanP r) ++ ⟨#[58, 48, 48]⟩ = txt (spanU r) := by
      rw [← spanU_zero hz, ← txt_append]; rfl
    have sU : (txt (spanP r)).size + 3 = (txt (spanU r)).size := by
      rw [← eU, txt_size, show (⟨#[58, 48, 48]⟩ : ByteArray) = txt [58, 48, 48] from rfl, txt_append, txt_size]; simp
    by_cases hh : r / 3600 < 10
    · obtain ⟨u1, u2⟩ := spanU_low h0 hh
      have u3 : (txt (spanU r)).size = 7 := by rw [txt_size]; exact u2
      have u4 : (⟨#[48]⟩ : ByteArray) ++ txt (spanU r) = txt (hmsT r) := by rw [lit_txt1, txt_append, ← u1]; rfl
      have u5 : ((S.extract 11 19).toList == ((⟨#[48]⟩ : ByteArray) ++ (txt (spanP r) ++ ⟨#[58, 48, 48]⟩)).toList) = true := by
        rw [eU, u4, S2.out, bytes_toList_txt]; simp
      have u6 : (txt (spanP r)).size = 4 := by omega
      generalize txt (spanP r) = A at u5 u6
      clear k2 eU sU u1 u2 u3 u4
      go_wp2_with fail
      refine (Digits_any Y _ (by omega) (by omega)).mono ?_
      rw [EYS.out]
      rintro e w6 ⟨rfl, hb6⟩
      have c6 := c5.trans (hb6.mono c5.size)
      go_wp2_with fail
      refine (HPRE.out _).mono ?_
      rintro e w7 ⟨rfl, rfl⟩
      go_wp2
      go_ret
      exact ⟨rfl, c6⟩
    · obtain ⟨u1, u2⟩ := spanU_high (r := r) (by omega) h1
      have u3 : (txt (spanU r)).size = 8 := by rw [txt_size]; exact u2
      have u5 : ((S.extract 11 19).toList == (txt (spanP r) ++ ⟨#[58, 48, 48]⟩).toList) = true := by
        rw [eU, u1, S2.out, bytes_toList_txt]; simp
      have u6 : (txt (spanP r)).size = 5 := by omega
      generalize txt (spanP r) = A at u5 u6
      clear k2 eU sU u1 u2 u3
      go_wp2_with fail
      refine (Digits_any Y _ (by omega) (by omega)).mono ?_
      rw [EYS.out]
      rintro e w6 ⟨rfl, hb6⟩
      have c6 := c5.trans (hb6.mono c5.size)
      go_wp2_with fail
      refine (HPRE.out _).mono ?_
      rintro e w7 ⟨rfl, rfl⟩
      go_wp2
      go_ret
      exact ⟨rfl, c6⟩
  · have eU : txt (spanP r) = txt (spanU r) := by rw [← spanU_more hz]
    by_cases hh : r / 3600 < 10
    · obtain ⟨u1, u2⟩ := spanU_low h0 hh
      have u4 : (⟨#[48]⟩ : ByteArray) ++ txt (spanU r) = txt (hmsT r) := by rw [lit_txt1, txt_append, ← u1]; rfl
      have u5 : ((S.extract 11 19).toList == ((⟨#[48]⟩ : ByteArray) ++ txt (spanP r)).toList) = true := by
        rw [eU, u4, S2.out, bytes_toList_txt]; simp
      have u6 : (txt (spanP r)).size = 7 := by rw [eU, txt_size]; exact u2
      generalize txt (spanP r) = A at u5 u6
      clear k2 eU u1 u2 u4
      go_wp2_with fail
      refine (Digits_any Y _ (by omega) (by omega)).mono ?_
      rw [EYS.out]
      rintro e w6 ⟨rfl, hb6⟩
      have c6 := c5.trans (hb6.mono c5.size)
      go_wp2_with fail
      refine (HPRE.out _).mono ?_
      rintro e w7 ⟨rfl, rfl⟩
      go_wp2
      go_ret
      exact ⟨rfl, c6⟩
    · obtain ⟨u1, u2⟩ := spanU_high (r := r) (by omega) h1
      have u5 : ((S.extract 11 19).toList == (txt (spanP r)).toList) = true := by
        rw [eU, u1, S2.out, bytes_toList_txt]; simp
      have u6 : (txt (spanP r)).size = 8 := by rw [eU, txt_size]; exact u2
      generalize txt (spanP r) = A at u5 u6
      clear k2 eU u1 u2
      go_wp2_with fail
      refine (Digits_any Y _ (by omega) (by omega)).mono ?_
      rw [EYS.out]
      rintro e w6 ⟨rfl, hb6⟩
      have c6 := c5.trans (hb6.mono c5.size)
      go_wp2_with fail
      refine (HPRE.out _).mono ?_
      rintro e w7 ⟨rfl, rfl⟩
      go_wp2
      go_ret
      exact ⟨rfl, c6⟩
end Go.Proofs.YtomijglabjficaaDoor
