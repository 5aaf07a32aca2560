/- RuleBack: its walk. -/
import Derived.Test.YtfocdcdggidboaaDoorRuW
namespace Go.Proofs.YtfocdcdggidboaaDoor
open Go.RowKit Go.Joins
open Classical
set_option linter.unusedVariables false
set_option linter.unusedSimpArgs false

theorem fieldsRu : (Tryd.prog.fieldsOf 25).toList = [{ name := "Name", type := 9, offset := 0, embedded := false, tag := "", pkgPath := "", byteOffset := 0 }, { name := "From", type := 3, offset := 1, embedded := false, tag := "", pkgPath := "", byteOffset := 16 }, { name := "To", type := 3, offset := 2, embedded := false, tag := "", pkgPath := "", byteOffset := 24 }, { name := "Month", type := 3, offset := 3, embedded := false, tag := "", pkgPath := "", byteOffset := 32 }, { name := "On", type := 23, offset := 4, embedded := false, tag := "", pkgPath := "", byteOffset := 40 }, { name := "At", type := 3, offset := 7, embedded := false, tag := "", pkgPath := "", byteOffset := 64 }, { name := "By", type := 3, offset := 8, embedded := false, tag := "", pkgPath := "", byteOffset := 72 }, { name := "Save", type := 3, offset := 9, embedded := false, tag := "", pkgPath := "", byteOffset := 80 }, { name := "Letter", type := 9, offset := 10, embedded := false, tag := "", pkgPath := "", byteOffset := 88 }] := by kernel_rfl
theorem agg_ru : Tryd.prog.underlying 25 = some (.struct (Tryd.prog.fieldsOf 25)) := by kernel_rfl
theorem stood_ru : Tryd.prog.stoodInHeld 25 = false := by kernel_rfl
theorem eqIn_day (a b c : Int) (W : World) : (Op.equalIn 9999 23 (.agg #[.int .i64 a, .int .i64 b, .int .i64 c]) (.agg #[.int .i64 a, .int .i64 b, .int .i64 c])).run Tryd.prog W = .ok true W := by
  rw [run_equalIn_agg W 9998 _ _ _ agg_dayR stood_dayR, fieldsDayR]
  simp [go_sem, Op.eqFields, Tryd.underlying3]
theorem neq_ru (r : Ru) (W : World) : (binOp .neq 25 (ruV r) (ruV r)).run Tryd.prog W = .ok (.bool false) W := by
  rw [run_neq_struct, run_equalIn_agg W 9999 _ _ _ agg_ru stood_ru, fieldsRu]
  simp [go_sem, Op.eqFields, Tryd.underlying3, Tryd.underlying9, eqIn_day]
theorem eql_ru (r : Ru) (W : World) : (binOp .eql 25 (ruV r) (ruV r)).run Tryd.prog W = .ok (.bool true) W := by
  rw [run_eql_struct, run_equalIn_agg W 9999 _ _ _ agg_ru stood_ru, fieldsRu]
  simp [go_sem, Op.eqFields, Tryd.underlying3, Tryd.underlying9, eqIn_day]

theorem glue_len : ∀ (ws : List (List UInt8)), (∀ x ∈ ws, x.length ≤ 60) → (glue ws).length ≤ 61 * ws.length
  | [], _ => by simp [glue]
  | [x], h => by have := h x (by simp); simp [glue]; omega
  | x :: y :: r, h => by
    have h1 := h x (by simp)
    have h2 := glue_len (y :: r) (fun z hz => h z (List.mem_cons_of_mem _ hz))
    show (x ++ 32 :: glue (y :: r)).length ≤ _
    simp only [List.length_append, List.length_cons] at h2 ⊢
    omega
theorem ruText_len {r : Ru} (o : OkRu r) : (ruText r).length ≤ 549 := by
  have f1 := o.f1; have f2 := o.f2; have t1 := o.t1; have t2 := o.t2; have m1 := o.m1; have m2 := o.m2; have a1 := o.a1; have a2 := o.a2; have s1 := o.s1; have s2 := o.s2
  have n1 := okRu_nm o; have n2 := okRu_lt o
  refine Nat.le_trans (glue_len (ruW r) ?_) (by simp [ruW])
  have hi : ∀ n : Int, -9223372036854775808 ≤ n → n ≤ 9223372036854775807 → (Lib.itoa n).length ≤ 60 := fun n h1 h2 => Nat.le_trans (Lib.itoa_length_le _ h1 h2) (by decide)
  intro x hx
  simp only [ruW, List.mem_cons, List.not_mem_nil, or_false] at hx
  rcases hx with rfl | rfl | rfl | rfl | rfl | rfl | rfl | rfl | rfl
  · simp
  · rw [← Lib.size_eq]; omega
  · exact hi _ (by omega) (by omega)
  · exact hi _ (by omega) (by omega)
  · exact hi _ (by omega) (by omega)
  · exact Nat.le_trans (dayT_len o.d) (by decide)
  · have g := spanT_len (n := r.tm) ⟨a1, a2⟩
    have g2 : (ckT r.ck).length ≤ 1 := by unfold ckT; split <;> (try split) <;> simp
    rw [List.length_append]; omega
  · exact Nat.le_trans (spanT_len (n := r.sv) ⟨by omega, by omega⟩) (by decide)
  · rw [← Lib.size_eq]; omega

set_option maxRecDepth 100000 in
set_option maxHeartbeats 8000000 in
theorem RuleBack_walk (r : Ru) (s : ByteArray) (w : World) (h1 : r.nm.size ≤ maxLen) (h2 : r.lt.size ≤ maxLen) (hs : s.size ≤ 1048576) (ht : Tab10 w) (ha : AscTab w) (hn : NumErrs w) (hm : MaxLen w) :
    Calls Tryd.prog 3 #[ruV r, .string s] w fun e w' => e = .returned (.bool true) ∧ Below w.heap.size w w' := by
  have HF := Lib.hid (RuFacts.mk ht ha hn hm)
  have hl0 : s.data.toList.length = s.size := (Lib.size_eq s).symm
  have hts : txt s.data.toList = s := rfl
  -- the second half
  have second : ∀ W, Below w.heap.size w W → (∃ q,
      (Calls Tryd.prog 8 #[.string s] W fun e w' => e = .returned (.tuple #[ruV q, .int .i64 0]) ∧ Below W.heap.size W w') ∧
      (∀ W', Below w.heap.size w W' → Calls Tryd.prog 6 #[ruV q] W' fun e w' => e = .returned (.tuple #[.string s, .int .i64 0]) ∧ Below W'.heap.size W' w')) ∨
      (Calls Tryd.prog 8 #[.string s] W fun e w' => e = .returned (.tuple #[ruV ru0, .int .i64 3]) ∧ Below W.heap.size W w') := fun W hW => by
    have hF := HF.out.below hW
    by_cases hex : ∃ q, OkRu q ∧ ruText q = s.data.toList
    · obtain ⟨q, oq, eq⟩ := hex
      refine .inl ⟨q, ?_, fun W' hW' => ?_⟩
      · have := Parse_ok q oq W (by rw [eq]; omega) hF.t hF.a hF.n hF.m
        rwa [eq, hts] at this
      · have := ruText_ok q W' oq (HF.out.below hW').t (HF.out.below hW').a
        rwa [eq, hts] at this
    · refine .inr ?_
      have := Parse_no s.data.toList (fun q oq eq => hex ⟨q, oq, eq⟩) W (by omega) hF.t hF.a hF.n hF.m
      rwa [hts] at this
  have SEC := Lib.hid second
  have HT0 := Lib.hid (fun W => ruText_no ru0 W (by decide) (by decide) (by decide))
  have HCK := Lib.hid (fun W => ruCheck_any r W h1 h2)
  have first : ∃ U : ByteArray, ∃ C : Int, ruChk r = C ∧ (∀ W, Below w.heap.size w W → Calls Tryd.prog 6 #[ruV r] W fun e w' => e = .returned (.tuple #[.string U, .int .i64 C]) ∧ Below W.heap.size W w') ∧
      (C = 0 → ∀ W, Below w.heap.size w W → Calls Tryd.prog 8 #[.string U] W fun e w' => e = .returned (.tuple #[ruV r, .int .i64 0]) ∧ Below W.heap.size W w') := by
    by_cases hc : ruChk r = 0
    · have o := ru_ok hc
      refine ⟨txt (ruText r), 0, hc, fun W hb => ruText_ok r W o (HF.out.below hb).t (HF.out.below hb).a, fun _ W hb => ?_⟩
      have hF := HF.out.below hb
      exact Parse_ok r o W (by have := ruText_len o; omega) hF.t hF.a hF.n hF.m
    · exact ⟨⟨#[]⟩, ruChk r, rfl, fun W hb => ruText_no r W hc h1 h2, fun h => absurd h hc⟩
  obtain ⟨U, C, eC, hTX, hPA⟩ := first
  have HTX := Lib.hid hTX
  have HPA := Lib.hid hPA
  have qn := fun W => neq_ru r W
  have q0 := fun W => eql_ru ru0 W
  rw [eC] at HCK
  clear second hl0 hts eC hTX hPA ht ha hn hm h1 h2 hs
  obtain ⟨W0, eW⟩ : ∃ W0, w.alloc (.cells (ruCells r) 25) = W0 := ⟨_, rfl⟩
  have HX : Hid (RuBx W0 w.heap.size r) := by show RuBx _ _ _; rw [← eW]; exact RuBx.box w r
  have HB : Hid (Below w.heap.size w W0) := by show Below _ _ _; rw [← eW]; exact (Below.refl _ _).alloc (Nat.le_refl _) _
  have HEW := Lib.hid eW
  clear eW
  obtain ⟨nm, yf, yt, mo, dk, dw, dn, tm, ck, sv, lt⟩ := r
  go_enter Tryd.func3, Tryd.ntmps3
  go_wp2_with fail
  rw [HEW.out]
  refine (ruled_any _ (HF.out.below HB.out)).mono ?_
  rintro e w1 ⟨rfl, hb1⟩
  have HX1 := Lib.hid (HX.out.below (hb1.mono (Nat.le_refl _)))
  have HB1 := Lib.hid (HB.out.trans (hb1.mono HB.out.size))
  clear hb1 HX HB
  obtain ⟨x0, x1, x2, x3, x4, x5, x6, x7, x8, x9, x10⟩ := HX1.out.cells
  have hl0 := HX1.out.lt
  go_wp2_with fail
  refine (HTX.out _ HB1.out).mono ?_
  rintro e w2 ⟨rfl, hb2⟩
  have HX2 := Lib.hid (HX1.out.below (hb2.mono (Nat.le_refl _)))
  have HB2 := Lib.hid (HB1.out.trans (hb2.mono HB1.out.size))
  clear hb2 HX1 HB1 x0 x1 x2 x3 x4 x5 x6 x7 x8 x9 x10 hl0
  obtain ⟨x0, x1, x2, x3, x4, x5, x6, x7, x8, x9, x10⟩ := HX2.out.cells
  have hl0 := HX2.out.lt
  go_wp2_with fail
  refine (HCK.out _).mono ?_
  rintro e w3 ⟨rfl, hb3⟩
  have HX3 := Lib.hid (HX2.out.below (hb3.mono (Nat.le_refl _)))
  have HB3 := Lib.hid (HB2.out.trans (hb3.mono HB2.out.size))
  clear hb3 HX2 HB2 x0 x1 x2 x3 x4 x5 x6 x7 x8 x9 x10 hl0
  by_cases hC : C = 0
  case' neg =>
    have hz : (C == 0) = false := by simpa using hC
    have hz2 : (!C == 0) = true := by rw [hz]; rfl
    clear hC
    go_upto_region 10 with fail
    obtain ⟨Wz, eWz⟩ : ∃ Wz, w3 = Wz := ⟨_, rfl⟩
    have HZ : Hid (Below w.heap.size w Wz) := by show Below _ _ _; rw [← eWz]; exact HB3.out
    rw [eWz]
    clear eWz
  case' pos =>
    subst hC
    go_wp2_with fail
    refine (HPA.out (by first | rfl | trivial) _ HB3.out).mono ?_
    rintro e w4 ⟨rfl, hb4⟩
    have HX4 := Lib.hid (HX3.out.below (hb4.mono (Nat.le_refl _)))
    have HB4 := Lib.hid (HB3.out.trans (hb4.mono HB3.out.size))
    clear hb4
    go_upto_region 8 with fail
    obtain ⟨w5, e5⟩ : ∃ w5, w4.alloc (.cells #[.string nm, .int .i64 yf, .int .i64 yt, .int .i64 mo, .int .i64 dk, .int .i64 dw, .int .i64 dn, .int .i64 tm, .int .i64 ck, .int .i64 sv, .string lt] 25) = w5 := ⟨_, rfl⟩
    have HY5 : Hid (RuBx w5 w4.heap.size ⟨nm, yf, yt, mo, dk, dw, dn, tm, ck, sv, lt⟩) := by show RuBx _ _ _; rw [← e5]; exact RuBx.box w4 ⟨nm, yf, yt, mo, dk, dw, dn, tm, ck, sv, lt⟩
    have HX5 : Hid (RuBx w5 w.heap.size ⟨nm, yf, yt, mo, dk, dw, dn, tm, ck, sv, lt⟩) := by show RuBx _ _ _; rw [← e5]; exact HX4.out.below ((Below.refl _ _).alloc (Nat.le_refl _) _)
    have HB5 : Hid (Below w.heap.size w w5) := by show Below _ _ _; rw [← e5]; exact HB4.out.alloc HB4.out.size _
    rw [e5]
    clear e5 HX4 HB4
    obtain ⟨x0, x1, x2, x3, x4, x5, x6, x7, x8, x9, x10⟩ := HX5.out.cells
    obtain ⟨y0, y1, y2, y3, y4, y5, y6, y7, y8, y9, y10⟩ := HY5.out.cells
    go_upto_region 10 with fail
    obtain ⟨Wz, eWz⟩ : ∃ Wz, w5 = Wz := ⟨_, rfl⟩
    have HZ : Hid (Below w.heap.size w Wz) := by show Below _ _ _; rw [← eWz]; exact HB5.out
    rw [eWz]
    clear eWz x0 x1 x2 x3 x4 x5 x6 x7 x8 x9 x10 y0 y1 y2 y3 y4 y5 y6 y7 y8 y9 y10
  all_goals
    clear qn
    go_wp2_with fail
    rcases SEC.out Wz HZ.out with ⟨⟨nm', yf', yt', mo', dk', dw', dn', tm', ck', sv', lt'⟩, hR, hT2⟩ | hR
    · refine hR.mono ?_
      rintro e w6 ⟨rfl, hb6⟩
      have HB6 := Lib.hid (HZ.out.trans (hb6.mono HZ.out.size))
      have HT2 := Lib.hid hT2
      clear hR hT2 hb6
      go_wp2_with fail
      refine (HT2.out _ (HB6.out.alloc HB6.out.size _)).mono ?_
      rintro e w7 ⟨rfl, hb7⟩
      have HB7 := Lib.hid ((HB6.out.alloc HB6.out.size (.cells #[.string nm', .int .i64 yf', .int .i64 yt', .int .i64 mo', .int .i64 dk', .int .i64 dw', .int .i64 dn', .int .i64 tm', .int .i64 ck', .int .i64 sv', .string lt'] 25)).trans (hb7.mono (by have := HB6.out.size; simp; omega)))
      clear hb7
      go_wp2
      go_ret
      exact ⟨rfl, HB7.out⟩
    · refine hR.mono ?_
      rintro e w6 ⟨rfl, hb6⟩
      have HB6 := Lib.hid (HZ.out.trans (hb6.mono HZ.out.size))
      clear hR hb6
      go_wp2_with fail
      refine (HT0.out _).mono ?_
      rintro e w7 ⟨rfl, hb7⟩
      have HB7 := Lib.hid ((HB6.out.alloc HB6.out.size (.cells (ruCells ru0) 25)).trans (hb7.mono (by have := HB6.out.size; simp; omega)))
      have HY7 := Lib.hid ((RuBx.box w6 ru0).below hb7)
      clear hb7
      obtain ⟨y0, y1, y2, y3, y4, y5, y6, y7, y8, y9, y10⟩ := HY7.out.cells
      go_wp2
      go_ret
      exact ⟨rfl, HB7.out⟩
end Go.Proofs.YtfocdcdggidboaaDoor
