/- wall.check, wall.Local, table.At, clock.Floor: what each returns. -/
import Derived.Test.YteoliifghhlinaaTabFacts
namespace Go.Proofs.Yteoliifghhlinaa
open Go.RowKit
set_option linter.unusedVariables false
set_option linter.unusedSimpArgs false

def chkW (t : Tab) (x : Int) : Int := if chk t = 0 then (if okTime x = true then 0 else 1) else chk t

/-- a struct of three cells in its own box -/
theorem box3 {w W0 : World} {a b c : Value} {T : TypeId} (h : w.alloc (.cells #[a, b, c] T) = W0) :
    Below w.heap.size w W0 ∧ W0.heap.size = w.heap.size + 1 ∧ W0.cell? ⟨w.heap.size, 0, none⟩ = some a ∧ W0.cell? ⟨w.heap.size, 1, none⟩ = some b ∧ W0.cell? ⟨w.heap.size, 2, none⟩ = some c := by
  subst h
  exact ⟨(Below.refl _ _).alloc (Nat.le_refl _) _, by simp, by simp [go_sem], by simp [go_sem], by simp [go_sem]⟩

theorem TabAt.parts {w : World} {v : Value} {t : Tab} (h : TabAt w v t) : ∃ sv cv, v = .agg #[sv, .int .i64 t.first, cv] := by
  obtain ⟨sv, cv, hv, _, _⟩ := h.val
  exact ⟨sv, cv, hv⟩

theorem wcheck_any (t : Tab) (v : Value) (x : Int) (w : World) (hv : TabAt w v t) :
    Calls Try.prog 39 #[v, .int .i64 x] w fun e w' => e = .returned (.int .i64 (chkW t x)) ∧ Below w.heap.size w w' := by
  obtain ⟨sv, cv, rfl⟩ := hv.parts
  have hB : Below w.heap.size w (w.alloc (.cells #[sv, .int .i64 t.first, cv] 25)) := (Below.refl _ _).alloc (Nat.le_refl _) _
  have HC := Lib.hid (Check_any t _ _ (hv.below hB))
  obtain ⟨R, eR⟩ : ∃ R : Int, chkW t x = R := ⟨_, rfl⟩
  rw [eR]
  unfold chkW at eR
  obtain ⟨K, eK⟩ : ∃ K : Int, chk t = K := ⟨_, rfl⟩
  rw [eK] at eR HC
  have ER := Lib.hid eR
  clear eR eK hv
  by_cases hk : K = 0
  · obtain rfl := hk
    have h1 : R = if okTime x = true then 0 else 1 := by have := ER.out; rw [if_pos rfl] at this; exact this.symm
    have H1 := Lib.hid h1
    clear h1
    by_cases a : x < -1099511627776
    · have hr : Hid (R = 1) := by show R = 1; rw [H1.out, if_neg]; simp [okTime]; omega
      go_enter Try.func39, Try.ntmps39
      go_wp2_with fail
      refine HC.out.mono ?_
      rintro e w1 ⟨rfl, hb1⟩
      go_wp2
      go_ret
      exact ⟨ret_int' hr.out.symm, hB.trans (hb1.mono (by simp))⟩
    · by_cases b : 1099511627776 < x
      · have hr : Hid (R = 1) := by show R = 1; rw [H1.out, if_neg]; simp [okTime]; omega
        go_enter Try.func39, Try.ntmps39
        go_wp2_with fail
        refine HC.out.mono ?_
        rintro e w1 ⟨rfl, hb1⟩
        go_wp2
        go_ret
        exact ⟨ret_int' hr.out.symm, hB.trans (hb1.mono (by simp))⟩
      · have hr : Hid (R = 0) := by show R = 0; rw [H1.out, if_pos]; simp [okTime]; omega
        go_enter Try.func39, Try.ntmps39
        go_wp2_with fail
        refine HC.out.mono ?_
        rintro e w1 ⟨rfl, hb1⟩
        go_wp2
        go_ret
        exact ⟨ret_int' hr.out.symm, hB.trans (hb1.mono (by simp))⟩
  · have hr : Hid (R = K) := by show R = K; have := ER.out; rw [if_neg hk] at this; exact this.symm
    have hkb : (K == 0) = false := by simpa using hk
    go_enter Try.func39, Try.ntmps39
    go_wp2_with fail
    refine HC.out.mono ?_
    rintro e w1 ⟨rfl, hb1⟩
    go_wp2
    go_ret
    exact ⟨ret_int' hr.out.symm, hB.trans (hb1.mono (by simp))⟩

theorem chkW_zero {t : Tab} {x : Int} (h : chkW t x = 0) : chk t = 0 ∧ -1099511627776 ≤ x ∧ x ≤ 1099511627776 := by
  unfold chkW at h
  split at h
  · split at h
    · rename_i h1 h2; simp only [okTime, decide_eq_true_eq] at h2; exact ⟨h1, h2.1, h2.2⟩
    · omega
  · rename_i h1; exact absurd h h1

theorem tyOf_off (t : Tab) (x : Int) (ok : OkTab t) : -75600 ≤ (tyOf t x).off ∧ (tyOf t x).off ≤ 75600 := by
  have hd : ∀ k : Int, -75600 ≤ (tyD t.types k).off ∧ (tyD t.types k).off ≤ 75600 := by
    intro k
    unfold tyD
    cases h : t.types[k.toNat]? with
    | none => simp
    | some y => have := ok.type y (List.mem_of_getElem? h); simp; omega
  exact hd _

theorem field_off (a : Int) (b : Bool) (c : ByteArray) (w : World) : (Instr.field 46 (.agg #[.int .i64 a, .bool b, .string c]) 0).run Try.prog w = .ok (.int .i64 a) w := by kernel_rfl

theorem Local_ok (t : Tab) (v : Value) (x : Int) (w : World) (hv : TabAt w v t) (h : chkW t x = 0) :
    Calls Try.prog 23 #[v, .int .i64 x] w fun e w' => e = .returned (.tuple #[.int .i64 (x + (tyOf t x).off), .int .i64 0]) ∧ Below w.heap.size w w' := by
  obtain ⟨h0, hx1, hx2⟩ := chkW_zero h
  have hoff := tyOf_off t x (chk_ok t h0)
  obtain ⟨sv, cv, rfl⟩ := hv.parts
  obtain ⟨W0, hW0⟩ : ∃ W0, w.alloc (.cells #[sv, .int .i64 t.first, cv] 25) = W0 := ⟨_, rfl⟩
  obtain ⟨hB, hS, q0, q1, q2⟩ := box3 hW0
  have hv0 := hv.below hB
  have HC := wcheck_any t _ x _ hv0
  rw [h] at HC
  have HO := Lib.hid (fun W hb => Of_any t _ x W (hv0.below hb) h0)
  obtain ⟨T, eT⟩ : ∃ T, tyOf t x = T := ⟨_, rfl⟩
  rw [eT] at HO hoff
  rw [eT]
  have HCC := Lib.hid HC
  have HW0 := Lib.hid hW0
  have Q0 := Lib.hid q0
  have Q1 := Lib.hid q1
  have Q2 := Lib.hid q2
  have HS := Lib.hid hS
  clear HC hW0 hv hv0 h h0 eT q0 q1 q2 hS
  go_enter Try.func23, Try.ntmps23
  go_wp2_with fail
  rw [HW0.out]
  refine HCC.out.mono ?_
  rintro e w1 ⟨rfl, hb1⟩
  have q0 := (hb1.cell (p := ⟨w.heap.size, 0, none⟩) (by show w.heap.size < _; have := HS.out; omega)).trans Q0.out
  have q1 := (hb1.cell (p := ⟨w.heap.size, 1, none⟩) (by show w.heap.size < _; have := HS.out; omega)).trans Q1.out
  have q2 := (hb1.cell (p := ⟨w.heap.size, 2, none⟩) (by show w.heap.size < _; have := HS.out; omega)).trans Q2.out
  go_wp2_with fail
  refine (HO.out _ hb1).mono ?_
  rintro e w2 ⟨rfl, hb2⟩
  simp only [tyV]
  have hfo := field_off T.off T.save T.name
  go_wp2
  go_ret2
  exact ⟨rfl, hB.trans ((hb1.trans (hb2.mono hb1.size)).mono (by have := HS.out; omega))⟩

theorem Local_no (t : Tab) (v : Value) (x : Int) (w : World) (hv : TabAt w v t) (h : chkW t x ≠ 0) :
    Calls Try.prog 23 #[v, .int .i64 x] w fun e w' => e = .returned (.tuple #[.int .i64 0, .int .i64 (chkW t x)]) ∧ Below w.heap.size w w' := by
  obtain ⟨sv, cv, rfl⟩ := hv.parts
  obtain ⟨W0, hW0⟩ : ∃ W0, w.alloc (.cells #[sv, .int .i64 t.first, cv] 25) = W0 := ⟨_, rfl⟩
  obtain ⟨hB, hS, q0, q1, q2⟩ := box3 hW0
  have HC := wcheck_any t _ x _ (hv.below hB)
  obtain ⟨K, eK⟩ : ∃ K : Int, chkW t x = K := ⟨_, rfl⟩
  rw [eK] at HC h
  rw [eK]
  have hkb : (K == 0) = false := by simpa using h
  have HCC := Lib.hid HC
  have HW0 := Lib.hid hW0
  have HS := Lib.hid hS
  clear HC hW0 hv h eK q0 q1 q2 hS
  go_enter Try.func23, Try.ntmps23
  go_wp2_with fail
  rw [HW0.out]
  refine HCC.out.mono ?_
  rintro e w1 ⟨rfl, hb1⟩
  go_wp2
  go_ret2
  exact ⟨rfl, hB.trans (hb1.mono (by have := HS.out; omega))⟩

end Go.Proofs.Yteoliifghhlinaa
