/- DayBack: its walk. -/
import Derived.Test.YtomijglabjficaaDoorDayRR
import Derived.Test.YtomijglabjficaaDoorDay2
import Derived.Laws.StructEq
namespace Go.Proofs.YtomijglabjficaaDoor
open Go.RowKit Go.Joins
set_option linter.unusedVariables false
set_option linter.unusedSimpArgs false

theorem lastSun2026' : downTo (Civ.days 2026 11 (Civ.mlen 2026 11)) 0 = 20786 := by decide
theorem mondays_any' (w : World) :
    Calls Tryd.prog 22 #[] w fun e w' => e = .returned (.bool true) ∧ Below w.heap.size w w' := by
  have hL := Lib.hid lastSun2026'
  go_enter Tryd.func22, Tryd.ntmps22
  go_wp2_with fail
  refine (Of_last _ _ _ _ _ (by decide) (by omega) (by omega) (by omega) (by omega)).mono ?_
  rintro e w1 ⟨rfl, hb1⟩
  rw [hL.out]
  go_wp2_with fail
  refine (Check_no _ _ _ _ (by decide)).mono ?_
  rintro e w2 ⟨rfl, hb2⟩
  go_wp2
  go_ret
  exact ⟨rfl, hb1.trans (hb2.mono hb1.size)⟩

theorem fieldsDay : (Tryd.prog.fieldsOf 42).toList = [{ name := "Kind", type := 3, offset := 0, embedded := false, tag := "", pkgPath := "", byteOffset := 0 }, { name := "Weekday", type := 3, offset := 1, embedded := false, tag := "", pkgPath := "", byteOffset := 8 }, { name := "N", type := 3, offset := 2, embedded := false, tag := "", pkgPath := "", byteOffset := 16 }] := by kernel_rfl
theorem agg_day : Tryd.prog.underlying 42 = some (.struct (Tryd.prog.fieldsOf 42)) := by kernel_rfl
theorem stood_day : Tryd.prog.stoodInHeld 42 = false := by kernel_rfl
theorem neq_day (k wd n : Int) (W : World) : (binOp .neq 42 (.agg #[.int .i64 k, .int .i64 wd, .int .i64 n]) (.agg #[.int .i64 k, .int .i64 wd, .int .i64 n])).run Tryd.prog W = .ok (.bool false) W := by
  rw [run_neq_struct, run_equalIn_agg W 9999 _ _ _ agg_day stood_day, fieldsDay]
  simp [go_sem, Op.eqFields, Tryd.underlying3]
theorem eql_day (k wd n : Int) (W : World) : (binOp .eql 42 (.agg #[.int .i64 k, .int .i64 wd, .int .i64 n]) (.agg #[.int .i64 k, .int .i64 wd, .int .i64 n])).run Tryd.prog W = .ok (.bool true) W := by
  rw [run_eql_struct, run_equalIn_agg W 9999 _ _ _ agg_day stood_day, fieldsDay]
  simp [go_sem, Op.eqFields, Tryd.underlying3]
theorem txt_day (s : ByteArray) : txt s.data.toList = s := rfl

set_option maxRecDepth 100000 in
set_option maxHeartbeats 2000000 in
theorem DayBack_walk (k wd n : Int) (s : ByteArray) (w : World) (hs : s.size ≤ 1048576) (ht : Tab10 w) (hn : NumErrs w) (hm : MaxLen w) :
    Calls Tryd.prog 9 #[dayV k wd n, .string s] w fun e w' => e = .returned (.bool true) ∧ Below w.heap.size w w' := by
  have HT := Lib.hid ht
  have HN := Lib.hid hn
  have HM := Lib.hid hm
  clear ht hn hm
  have hl0 : s.data.toList.length = s.size := (Lib.size_eq s).symm
  -- the second half
  have second : ∀ W, Below w.heap.size w W → (∃ a b c, dayB a b c = true ∧
      (Calls Tryd.prog 25 #[.string s] W fun e w' => e = .returned (.tuple #[dayV a b c, .int .i64 0]) ∧ Below W.heap.size W w') ∧
      (∀ W', Below w.heap.size w W' → Calls Tryd.prog 23 #[dayV a b c] W' fun e w' => e = .returned (.tuple #[.string s, .int .i64 0]) ∧ Below W'.heap.size W' w')) ∨
      (Calls Tryd.prog 25 #[.string s] W fun e w' => e = .returned (.tuple #[dayV 0 0 0, .int .i64 3]) ∧ Below W.heap.size W w') := fun W hW => by
    by_cases hex : ∃ a b c, dayB a b c = true ∧ dayT a b c = s.data.toList
    · obtain ⟨a, b, c, hB, hT⟩ := hex
      refine .inl ⟨a, b, c, hB, ?_, fun W' hW' => ?_⟩
      · have := Read_ok a b c W hB (HT.out.below hW) (HN.out.below hW) (HM.out.below hW)
        rwa [hT, txt_day] at this
      · have := Text_ok a b c W' hB (HT.out.below hW')
        rwa [hT, txt_day] at this
    · refine .inr ?_
      have := Read_no s.data.toList W (by omega) (fun a b c hB hT => hex ⟨a, b, c, hB, hT⟩) (HT.out.below hW) (HN.out.below hW) (HM.out.below hW)
      rwa [txt_day] at this
  have SEC := Lib.hid second
  have q1 := fun W => neq_day k wd n W
  have q2 := fun W => eql_day 0 0 0 W
  clear second hl0
  cases hB : dayB k wd n
  · have HCK := Lib.hid (fun W => Check_no k wd n W hB)
    have HTX := Lib.hid (fun W => Text_no k wd n W hB)
    clear hB
    go_enter Tryd.func9, Tryd.ntmps9
    go_wp2_with fail
    refine (mondays_any' _).mono ?_
    rintro e w1 ⟨rfl, hb1⟩
    obtain ⟨hc1, hf1⟩ := bcell hb1
    have hz1 : w.heap.size < w1.heap.size := by have := hb1.size; simp at this; omega
    have c1 : Below w.heap.size w w1 := ((Below.refl _ _).alloc (Nat.le_refl _) _).trans (hb1.mono (by simp))
    go_wp2_with fail
    refine (HTX.out _).mono ?_
    rintro e w2 ⟨rfl, hb2⟩
    obtain ⟨hc2, hf2⟩ := bcell hb2
    have hz2 : w.heap.size < w2.heap.size := by have := hb2.size; omega
    have c2 := c1.trans (hb2.mono c1.size)
    go_wp2_with fail
    refine (HCK.out _).mono ?_
    rintro e w3 ⟨rfl, hb3⟩
    have c3 := c2.trans (hb3.mono c2.size)
    go_wp2_with fail
    rcases SEC.out w3 c3 with ⟨a, b, c, hB2, hR, hT2⟩ | hR
    · refine hR.mono ?_
      rintro e w4 ⟨rfl, hb4⟩
      have c4 := c3.trans (hb4.mono c3.size)
      have HT2 := Lib.hid hT2
      clear hR hT2
      go_wp2_with fail
      refine (HT2.out _ (c4.alloc c4.size _)).mono ?_
      rintro e w6 ⟨rfl, hb6⟩
      have c6 := (c4.alloc c4.size (.cells #[.int .i64 a, .int .i64 b, .int .i64 c] 42)).trans (hb6.mono (by have := c4.size; simp; omega))
      clear hb6
      go_wp2
      go_ret
      exact ⟨rfl, c6⟩
    · refine hR.mono ?_
      rintro e w4 ⟨rfl, hb4⟩
      have c4 := c3.trans (hb4.mono c3.size)
      clear hR
      go_wp2_with fail
      refine (Text_no 0 0 0 _ (by decide)).mono ?_
      rintro e w6 ⟨rfl, hb6⟩
      have c6 := (c4.alloc c4.size (.cells #[.int .i64 0, .int .i64 0, .int .i64 0] 42)).trans (hb6.mono (by have := c4.size; simp; omega))
      have f0 : w6.cell? ⟨w4.heap.size, 0, none⟩ = some (.int .i64 0) := ((bcell hb6).1 w4.heap.size 0 (by simp)).trans ((cell_of_row _ _ _ _ _ _ (heap_alloc_new w4 _)).trans rfl)
      have f1 : w6.cell? ⟨w4.heap.size, 1, none⟩ = some (.int .i64 0) := ((bcell hb6).1 w4.heap.size 1 (by simp)).trans ((cell_of_row _ _ _ _ _ _ (heap_alloc_new w4 _)).trans rfl)
      have f2 : w6.cell? ⟨w4.heap.size, 2, none⟩ = some (.int .i64 0) := ((bcell hb6).1 w4.heap.size 2 (by simp)).trans ((cell_of_row _ _ _ _ _ _ (heap_alloc_new w4 _)).trans rfl)
      clear hb6
      go_wp2
      go_ret
      exact ⟨rfl, c6⟩
  · have HCK := Lib.hid (fun W => Check_ok k wd n W hB)
    have HTX := Lib.hid (fun W hW => Text_ok k wd n W hB hW)
    have HRD := Lib.hid (fun W h1 h2 h3 => Read_ok k wd n W hB h1 h2 h3)
    clear hB
    obtain ⟨U, eU⟩ : ∃ U, txt (dayT k wd n) = U := ⟨_, rfl⟩
    rw [eU] at HTX HRD
    clear eU
    go_enter Tryd.func9, Tryd.ntmps9
    go_wp2_with fail
    refine (mondays_any' _).mono ?_
    rintro e w1 ⟨rfl, hb1⟩
    obtain ⟨hc1, hf1⟩ := bcell hb1
    have hz1 : w.heap.size < w1.heap.size := by have := hb1.size; simp at this; omega
    have c1 : Below w.heap.size w w1 := ((Below.refl _ _).alloc (Nat.le_refl _) _).trans (hb1.mono (by simp))
    go_wp2_with fail
    refine (HTX.out _ (HT.out.below c1)).mono ?_
    rintro e w2 ⟨rfl, hb2⟩
    obtain ⟨hc2, hf2⟩ := bcell hb2
    have hz2 : w.heap.size < w2.heap.size := by have := hb2.size; omega
    have c2 := c1.trans (hb2.mono c1.size)
    go_wp2_with fail
    refine (HCK.out _).mono ?_
    rintro e w3 ⟨rfl, hb3⟩
    obtain ⟨hc3, hf3⟩ := bcell hb3
    have hz3 : w.heap.size < w3.heap.size := by have := hb3.size; omega
    have c3 := c2.trans (hb3.mono c2.size)
    go_wp2_with fail
    refine (HRD.out _ (HT.out.below c3) (HN.out.below c3) (HM.out.below c3)).mono ?_
    rintro e w5 ⟨rfl, hb5⟩
    obtain ⟨hc5, hf5⟩ := bcell hb5
    have hz5 : w.heap.size < w5.heap.size := by have := hb5.size; omega
    have c5 := c3.trans (hb5.mono c3.size)
    go_wp2_with fail
    obtain ⟨w9, e9⟩ : ∃ w9, w5.alloc (.cells #[.int .i64 k, .int .i64 wd, .int .i64 n] 42) = w9 := ⟨_, rfl⟩
    rw [e9]
    have c9 : Below w.heap.size w w9 := by rw [← e9]; exact c5.alloc c5.size _
    clear e9
    rcases SEC.out w9 c9 with ⟨a, b, c, hB2, hR, hT2⟩ | hR
    · refine hR.mono ?_
      rintro e w4 ⟨rfl, hb4⟩
      have c4 := c9.trans (hb4.mono c9.size)
      have HT2 := Lib.hid hT2
      clear hR hT2
      go_wp2_with fail
      refine (HT2.out _ (c4.alloc c4.size _)).mono ?_
      rintro e w6 ⟨rfl, hb6⟩
      have c6 := (c4.alloc c4.size (.cells #[.int .i64 a, .int .i64 b, .int .i64 c] 42)).trans (hb6.mono (by have := c4.size; simp; omega))
      clear hb6
      go_wp2
      go_ret
      exact ⟨rfl, c6⟩
    · refine hR.mono ?_
      rintro e w4 ⟨rfl, hb4⟩
      have c4 := c9.trans (hb4.mono c9.size)
      clear hR
      go_wp2_with fail
      refine (Text_no 0 0 0 _ (by decide)).mono ?_
      rintro e w6 ⟨rfl, hb6⟩
      have c6 := (c4.alloc c4.size (.cells #[.int .i64 0, .int .i64 0, .int .i64 0] 42)).trans (hb6.mono (by have := c4.size; simp; omega))
      have f0 : w6.cell? ⟨w4.heap.size, 0, none⟩ = some (.int .i64 0) := ((bcell hb6).1 w4.heap.size 0 (by simp)).trans ((cell_of_row _ _ _ _ _ _ (heap_alloc_new w4 _)).trans rfl)
      have f1 : w6.cell? ⟨w4.heap.size, 1, none⟩ = some (.int .i64 0) := ((bcell hb6).1 w4.heap.size 1 (by simp)).trans ((cell_of_row _ _ _ _ _ _ (heap_alloc_new w4 _)).trans rfl)
      have f2 : w6.cell? ⟨w4.heap.size, 2, none⟩ = some (.int .i64 0) := ((bcell hb6).1 w4.heap.size 2 (by simp)).trans ((cell_of_row _ _ _ _ _ _ (heap_alloc_new w4 _)).trans rfl)
      clear hb6
      go_wp2
      go_ret
      exact ⟨rfl, c6⟩
end Go.Proofs.YtomijglabjficaaDoor
