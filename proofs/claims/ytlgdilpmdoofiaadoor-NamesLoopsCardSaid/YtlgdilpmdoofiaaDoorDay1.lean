/- day.Check and day.within: what each returns. -/
import Derived.Test.YtlgdilpmdoofiaaDoorCiv0
namespace Go.Proofs.YtlgdilpmdoofiaaDoor
open Go.RowKit
set_option linter.unusedVariables false
set_option linter.unusedSimpArgs false

def withinB (n a b : Int) : Bool := decide (a ≤ n ∧ n ≤ b)
theorem withinB_t {n a b : Int} (h : a ≤ n ∧ n ≤ b) : withinB n a b = true := by simp [withinB, h]
theorem withinB_f {n a b : Int} (h : ¬ (a ≤ n ∧ n ≤ b)) : withinB n a b = false := by unfold withinB; exact decide_eq_false h
theorem withinB_iff {n a b : Int} : withinB n a b = true ↔ a ≤ n ∧ n ≤ b := by simp [withinB]

theorem day_within (n a b : Int) (w : World) :
    Calls Tryd.prog 71 #[.int .i64 n, .int .i64 a, .int .i64 b] w fun e w' => e = .returned (.bool (withinB n a b)) ∧ w = w' := by
  by_cases h1 : a ≤ n <;> by_cases h2 : n ≤ b <;>
  · go_enter Tryd.func71, Tryd.ntmps71
    go_wp2
    go_ret
    exact ⟨ret_bool (by simp [withinB, h1, h2]), rfl⟩

abbrev dayV (k wd n : Int) : Value := .agg #[.int .i64 k, .int .i64 wd, .int .i64 n]

def dayB (k wd n : Int) : Bool := decide ((k = 1 ∧ wd = 0 ∧ 1 ≤ n ∧ n ≤ 31) ∨ (k = 2 ∧ 0 ≤ wd ∧ wd ≤ 6 ∧ n = 0) ∨ ((k = 3 ∨ k = 4) ∧ 0 ≤ wd ∧ wd ≤ 6 ∧ 1 ≤ n ∧ n ≤ 31))

theorem quiet_left {P : Program} {f : FuncId} {args : Array Value} {w : World} {n : Nat} {v : Value}
    (h : Calls P f args (w.drewN n) fun e w' => e = .returned v ∧ w.drewN n = w') : Calls P f args (w.drewN n) fun e w'' => e = .returned v ∧ ∃ m, w'' = w.drewN m :=
  h.mono fun _ _ ⟨he, hm⟩ => ⟨he, n, hm.symm⟩

theorem below_drewN {B : Nat} {a w : World} (h : Below B a w) (n : Nat) : Below B a (w.drewN n) := ⟨h.os, h.tape, h.output, h.size, h.block⟩

set_option maxHeartbeats 2000000 in
theorem Check_ok (k wd n : Int) (w : World) (h0 : dayB k wd n = true) :
    Calls Tryd.prog 41 #[dayV k wd n] w fun e w' => e = .returned (.int .i64 0) ∧ Below w.heap.size w w' := by
  simp only [dayB, decide_eq_true_eq] at h0
  rcases h0 with ⟨rfl, rfl, h⟩ | ⟨rfl, h, h2, rfl⟩ | ⟨rfl | rfl, h⟩
  · have t0 : withinB 0 0 6 = true := by decide
    have t2 : withinB n 1 31 = true := withinB_t (by omega)
    clear h
    go_enter Tryd.func41, Tryd.ntmps41
    go_wp2
    go_quiet ((go_at_call 71; exact quiet_left (day_within _ _ _ _)))
    go_wp2
    go_ret
    exact ⟨rfl, below_drewN ((Below.refl _ _).alloc (Nat.le_refl _) _) _⟩
  · have t2 : withinB 0 1 31 = false := by decide
    have t1 : withinB wd 0 6 = true := withinB_t (by omega)
    clear h
    go_enter Tryd.func41, Tryd.ntmps41
    go_wp2
    go_quiet ((go_at_call 71; exact quiet_left (day_within _ _ _ _)))
    go_wp2
    go_ret
    exact ⟨rfl, below_drewN ((Below.refl _ _).alloc (Nat.le_refl _) _) _⟩
  · have t1 : withinB wd 0 6 = true := withinB_t (by omega)
    have t2 : withinB n 1 31 = true := withinB_t (by omega)
    clear h
    go_enter Tryd.func41, Tryd.ntmps41
    go_wp2
    go_quiet ((go_at_call 71; exact quiet_left (day_within _ _ _ _)))
    go_wp2
    go_ret
    exact ⟨rfl, below_drewN ((Below.refl _ _).alloc (Nat.le_refl _) _) _⟩
  · have t1 : withinB wd 0 6 = true := withinB_t (by omega)
    have t2 : withinB n 1 31 = true := withinB_t (by omega)
    clear h
    go_enter Tryd.func41, Tryd.ntmps41
    go_wp2
    go_quiet ((go_at_call 71; exact quiet_left (day_within _ _ _ _)))
    go_wp2
    go_ret
    exact ⟨rfl, below_drewN ((Below.refl _ _).alloc (Nat.le_refl _) _) _⟩
set_option maxHeartbeats 2000000 in
theorem Check_no (k wd n : Int) (w : World) (h0 : dayB k wd n = false) :
    Calls Tryd.prog 41 #[dayV k wd n] w fun e w' => e = .returned (.int .i64 1) ∧ Below w.heap.size w w' := by
  simp only [dayB, decide_eq_false_iff_not] at h0
  have h : (k = 1 ∧ wd ≠ 0) ∨ (k = 1 ∧ wd = 0 ∧ ¬ (1 ≤ n ∧ n ≤ 31)) ∨ (k = 2 ∧ ¬ (0 ≤ wd ∧ wd ≤ 6)) ∨ (k = 2 ∧ (0 ≤ wd ∧ wd ≤ 6) ∧ n ≠ 0) ∨ (k = 3 ∧ ¬ (0 ≤ wd ∧ wd ≤ 6)) ∨ (k = 3 ∧ (0 ≤ wd ∧ wd ≤ 6) ∧ ¬ (1 ≤ n ∧ n ≤ 31)) ∨
      (k = 4 ∧ ¬ (0 ≤ wd ∧ wd ≤ 6)) ∨ (k = 4 ∧ (0 ≤ wd ∧ wd ≤ 6) ∧ ¬ (1 ≤ n ∧ n ≤ 31)) ∨ (k ≠ 1 ∧ k ≠ 2 ∧ k ≠ 3 ∧ k ≠ 4) := by omega
  clear h0
  rcases h with ⟨rfl, h⟩ | ⟨rfl, rfl, h⟩ | ⟨rfl, h⟩ | ⟨rfl, h1, h⟩ | ⟨rfl, h⟩ | ⟨rfl, h1, h⟩ | ⟨rfl, h⟩ | ⟨rfl, h1, h⟩ | h
  · have t3 : (wd == 0) = false := by simp; omega
    clear h
    go_enter Tryd.func41, Tryd.ntmps41
    go_wp2
    go_quiet ((go_at_call 71; exact quiet_left (day_within _ _ _ _)))
    go_wp2
    go_ret
    exact ⟨rfl, below_drewN ((Below.refl _ _).alloc (Nat.le_refl _) _) _⟩
  · have t2 : withinB n 1 31 = false := withinB_f (by omega)
    clear h
    go_enter Tryd.func41, Tryd.ntmps41
    go_wp2
    go_quiet ((go_at_call 71; exact quiet_left (day_within _ _ _ _)))
    go_wp2
    go_ret
    exact ⟨rfl, below_drewN ((Below.refl _ _).alloc (Nat.le_refl _) _) _⟩
  · have t1 : withinB wd 0 6 = false := withinB_f (by omega)
    clear h
    go_enter Tryd.func41, Tryd.ntmps41
    go_wp2
    go_quiet ((go_at_call 71; exact quiet_left (day_within _ _ _ _)))
    go_wp2
    go_ret
    exact ⟨rfl, below_drewN ((Below.refl _ _).alloc (Nat.le_refl _) _) _⟩
  · have t1 : withinB wd 0 6 = true := withinB_t (by omega)
    have t4 : (n == 0) = false := by simp; omega
    clear h
    go_enter Tryd.func41, Tryd.ntmps41
    go_wp2
    go_quiet ((go_at_call 71; exact quiet_left (day_within _ _ _ _)))
    go_wp2
    go_ret
    exact ⟨rfl, below_drewN ((Below.refl _ _).alloc (Nat.le_refl _) _) _⟩
  · have t1 : withinB wd 0 6 = false := withinB_f (by omega)
    clear h
    go_enter Tryd.func41, Tryd.ntmps41
    go_wp2
    go_quiet ((go_at_call 71; exact quiet_left (day_within _ _ _ _)))
    go_wp2
    go_ret
    exact ⟨rfl, below_drewN ((Below.refl _ _).alloc (Nat.le_refl _) _) _⟩
  · have t1 : withinB wd 0 6 = true := withinB_t (by omega)
    have t2 : withinB n 1 31 = false := withinB_f (by omega)
    clear h
    go_enter Tryd.func41, Tryd.ntmps41
    go_wp2
    go_quiet ((go_at_call 71; exact quiet_left (day_within _ _ _ _)))
    go_wp2
    go_ret
    exact ⟨rfl, below_drewN ((Below.refl _ _).alloc (Nat.le_refl _) _) _⟩
  · have t1 : withinB wd 0 6 = false := withinB_f (by omega)
    clear h
    go_enter Tryd.func41, Tryd.ntmps41
    go_wp2
    go_quiet ((go_at_call 71; exact quiet_left (day_within _ _ _ _)))
    go_wp2
    go_ret
    exact ⟨rfl, below_drewN ((Below.refl _ _).alloc (Nat.le_refl _) _) _⟩
  · have t1 : withinB wd 0 6 = true := withinB_t (by omega)
    have t2 : withinB n 1 31 = false := withinB_f (by omega)
    clear h
    go_enter Tryd.func41, Tryd.ntmps41
    go_wp2
    go_quiet ((go_at_call 71; exact quiet_left (day_within _ _ _ _)))
    go_wp2
    go_ret
    exact ⟨rfl, below_drewN ((Below.refl _ _).alloc (Nat.le_refl _) _) _⟩
  · have t5 : (k == 1) = false := by simp; omega
    have t6 : (k == 2) = false := by simp; omega
    have t7 : (k == 3) = false := by simp; omega
    have t8 : (k == 4) = false := by simp; omega
    clear h
    go_enter Tryd.func41, Tryd.ntmps41
    go_wp2
    go_quiet ((go_at_call 71; exact quiet_left (day_within _ _ _ _)))
    go_wp2
    go_ret
    exact ⟨rfl, below_drewN ((Below.refl _ _).alloc (Nat.le_refl _) _) _⟩

end Go.Proofs.YtlgdilpmdoofiaaDoor
