/- StampOrder, StampNext, SpanOdd, SpanHours: their walks. -/
import Derived.Test.YtomijglabjficaaDoorClk2
namespace Go.Proofs.YtomijglabjficaaDoor
open Go.RowKit Go.Joins
set_option linter.unusedVariables false
set_option linter.unusedSimpArgs false

theorem bytesLess_eq : ∀ (a b : List UInt8), Op.bytesLess a b = decide (a < b)
  | [], [] => by simp [Op.bytesLess]
  | [], y :: s => by simp [Op.bytesLess]
  | x :: r, [] => by simp [Op.bytesLess]
  | x :: r, y :: s => by
    have ih := bytesLess_eq r s
    simp only [Op.bytesLess, ih]
    rw [Bool.eq_iff_iff]
    simp [List.cons_lt_cons_iff]
theorem txt_toList (l : List UInt8) : (txt l).toList = l := by rw [ByteArray.toList_eq, txt_data]
theorem less_txt (a b : List UInt8) : Op.bytesLess (txt a).toList (txt b).toList = decide (a < b) := by rw [txt_toList, txt_toList, bytesLess_eq]

theorem ext_txt (l : List UInt8) (i j : Nat) : ((txt l).extract i j).toList = (l.drop i).take (j - i) := by
  rw [ByteArray.toList_eq, Lib.extract_data, txt_data]
theorem stamp_tail (t : Int) (h1 : -135140 ≤ t / 86400) (h2 : t / 86400 ≤ 157053) : ((txt (stampT t)).extract 10 19).toList = clockT (t % 86400) := by
  have hd := dateT_length _ h1 h2
  rw [ext_txt, stamp_two, List.drop_append_of_le_length (by omega), List.drop_of_length_le (by omega), List.nil_append]
  exact List.take_of_length_le (by simp [clockT, T2_length])
theorem stamp_head (t : Int) (h1 : -135140 ≤ t / 86400) (h2 : t / 86400 ≤ 157053) : ((txt (stampT t)).extract 0 10).toList = dateT (t / 86400) := by
  have hd := dateT_length _ h1 h2
  rw [ext_txt, stamp_two, List.drop_zero, List.take_append_of_le_length (by omega), List.take_of_length_le (by omega)]

set_option maxRecDepth 100000 in
set_option maxHeartbeats 1000000 in
theorem StampOrder_walk (t u : Int) (w : World) (ht : Tab10 w) :
    Calls Tryd.prog 3 #[.int .i64 t, .int .i64 u] w fun e w' => e = .returned (.bool true) ∧ Below w.heap.size w w' := by
  have HT := Lib.hid ht
  clear ht
  obtain ⟨a1, a2⟩ := tD_bd t
  obtain ⟨b1, b2⟩ := tD_bd u
  have hlt := stampT_lt (tD t) (tD u) a1 a2 b1 b2
  have hl := stamp_length (tD t) a1 a2
  obtain ⟨T, eT⟩ : ∃ T, tD t = T := ⟨_, rfl⟩
  obtain ⟨U, eU⟩ : ∃ U, tD u = U := ⟨_, rfl⟩
  rw [eT] at a1 a2 hlt hl
  rw [eU] at b1 b2 hlt
  have ET := Lib.hid eT
  have EU := Lib.hid eU
  have A1 := Lib.hid a1
  have A2 := Lib.hid a2
  have B1 := Lib.hid b1
  have B2 := Lib.hid b2
  have HLT := Lib.hid hlt
  have HL := Lib.hid hl
  clear eT eU a1 a2 b1 b2 hlt hl
  go_enter Tryd.func3, Tryd.ntmps3
  go_wp2_with fail
  refine (clocked_any _ HT.out).mono ?_
  rintro e w1 ⟨rfl, hb1⟩
  go_wp2_with fail
  refine (timeOf_any t _).mono ?_
  rw [ET.out]
  rintro e w2 ⟨rfl, hb2⟩
  go_wp2_with fail
  refine (timeOf_any u _).mono ?_
  rw [EU.out]
  rintro e w3 ⟨rfl, hb3⟩
  have c2 := hb1.trans (hb2.mono hb1.size)
  have c3 := c2.trans (hb3.mono c2.size)
  go_wp2_with fail
  refine (Stamp_ok T _ A1.out A2.out (HT.out.below c3)).mono ?_
  rintro e w4 ⟨rfl, hb4⟩
  have c4 := c3.trans (hb4.mono c3.size)
  go_wp2_with fail
  refine (Stamp_ok U _ B1.out B2.out (HT.out.below c4)).mono ?_
  rintro e w5 ⟨rfl, hb5⟩
  have c5 := c4.trans (hb5.mono c4.size)
  have hsz : (txt (stampT T)).size = 19 := by rw [txt_size, HL.out]
  go_wp2_with fail
  · go_ret
    exact ⟨rfl, c5⟩
  · have hno : ¬ decide (T < U) = Op.bytesLess (txt (stampT T)).toList (txt (stampT U)).toList := by assumption
    exact absurd (by rw [less_txt]; exact decide_eq_decide.2 HLT.out.symm) hno

set_option maxRecDepth 100000 in
set_option maxHeartbeats 1000000 in
theorem StampNext_walk (t : Int) (w : World) (ht : Tab10 w) :
    Calls Tryd.prog 4 #[.int .i64 t] w fun e w' => e = .returned (.bool true) ∧ Below w.heap.size w w' := by
  have HT := Lib.hid ht
  clear ht
  obtain ⟨a1, a2⟩ := tD_bd t
  obtain ⟨d1, d2⟩ := tD_bd2 t
  have hl := stamp_length (tD t) a1 a2
  obtain ⟨T, eT⟩ : ∃ T, tD t = T := ⟨_, rfl⟩
  rw [eT] at a1 a2 hl d1 d2
  have ET := Lib.hid eT
  have A1 := Lib.hid a1
  have A2 := Lib.hid a2
  have HL := Lib.hid hl
  clear eT a1 a2 hl
  go_enter Tryd.func4, Tryd.ntmps4
  go_wp2_with fail
  refine (clocked_any _ HT.out).mono ?_
  rintro e w1 ⟨rfl, hb1⟩
  go_wp2_with fail
  refine (timeOf_any t _).mono ?_
  rw [ET.out]
  rintro e w2 ⟨rfl, hb2⟩
  have c2 := hb1.trans (hb2.mono hb1.size)
  go_wp2_with fail
  refine (Stamp_ok T _ A1.out A2.out (HT.out.below c2)).mono ?_
  rintro e w3 ⟨rfl, hb3⟩
  have c3 := c2.trans (hb3.mono c2.size)
  have hsz : (txt (stampT T)).size = 19 := by rw [txt_size, HL.out]
  go_wp2_with fail
  by_cases h : T / 86400 = 157053
  · have hno : (T + 86400) / 86400 < -135140 ∨ 157053 < (T + 86400) / 86400 := by omega
    refine (Stamp_no (T + 86400) _ hno (by omega) (by omega)).mono ?_
    rintro e w4 ⟨rfl, hb4⟩
    have c4 := c3.trans (hb4.mono c3.size)
    clear h hno
    go_wp2_with fail
    go_ret
    exact ⟨rfl, c4⟩
  · have b1 : -135140 ≤ (T + 86400) / 86400 := by have := A1.out; omega
    have b2 : (T + 86400) / 86400 ≤ 157053 := by have := A2.out; omega
    have hsz2 : (txt (stampT (T + 86400))).size = 19 := by rw [txt_size, stamp_length _ b1 b2]
    refine (Stamp_ok (T + 86400) _ b1 b2 (HT.out.below c3)).mono ?_
    rintro e w4 ⟨rfl, hb4⟩
    have c4 := c3.trans (hb4.mono c3.size)
    have k1 : (((txt (stampT T)).extract 10 19).toList == ((txt (stampT (T + 86400))).extract 10 19).toList) = true := by
      rw [stamp_tail _ A1.out A2.out, stamp_tail _ b1 b2, show (T + 86400) % 86400 = T % 86400 by omega]; simp
    have k2 : Op.bytesLess ((txt (stampT T)).extract 0 10).toList ((txt (stampT (T + 86400))).extract 0 10).toList = true := by
      rw [stamp_head _ A1.out A2.out, stamp_head _ b1 b2, bytesLess_eq]
      exact decide_eq_true ((dateT_lt _ _ A1.out A2.out b1 b2).2 (by omega))
    obtain ⟨S1, e1⟩ : ∃ S1, txt (stampT T) = S1 := ⟨_, rfl⟩
    obtain ⟨S2, e2⟩ : ∃ S2, txt (stampT (T + 86400)) = S2 := ⟨_, rfl⟩
    rw [e1] at hsz k1 k2 ⊢
    rw [e2] at hsz2 k1 k2 ⊢
    have E1 := Lib.hid e1
    have E2 := Lib.hid e2
    clear h b1 b2 e1 e2
    go_wp2_with fail
    go_quiet (fail)
    go_wp2
    go_ret
    exact ⟨rfl, below_drewN' c4 _⟩
end Go.Proofs.YtomijglabjficaaDoor
