/- table.within and table.Check: what each returns. -/
import Derived.Test.YtmjakhageehcoaaDoorTabMath
namespace Go.Proofs.YtmjakhageehcoaaDoor
open Go.RowKit
set_option linter.unusedVariables false
set_option linter.unusedSimpArgs false

def wiB (n a b : Int) : Bool := decide (a ≤ n ∧ n ≤ b)
theorem tab_within (n a b : Int) (w : World) :
    Calls Tryd.prog 42 #[.int .i64 n, .int .i64 a, .int .i64 b] w fun e w' => e = .returned (.bool (wiB n a b)) ∧ w = w' := by
  by_cases h1 : a ≤ n <;> by_cases h2 : n ≤ b <;>
  · go_enter Tryd.func42, Tryd.ntmps42
    go_wp2
    go_ret
    exact ⟨ret_bool' (by simp [wiB, h1, h2]), rfl⟩

theorem okOff_wi (x : Int) : okOff x = wiB x (-75600) 75600 := rfl
theorem okTime_wi (x : Int) : okTime x = wiB x (-1099511627776) 1099511627776 := rfl
theorem okIdx_wi (l x : Int) : okIdx l x = wiB x 0 l := rfl

theorem Check_big (t : Tab) (v : Value) (w : World) (hv : TabAt w v t) (hbig : big t = true) :
    Calls Tryd.prog 23 #[v] w fun e w' => e = .returned (.int .i64 (chk t)) ∧ Below w.heap.size w w' := by
  obtain ⟨sv, cv, rfl, ⟨⟨p, cap, rfl, hs⟩, hl1, hnm⟩, ⟨⟨p2, cap2, rfl, hc⟩, hl2⟩⟩ := hv.val
  have hk : Hid (chk t = 2) := by show _ = _; unfold chk; rw [if_pos hbig]
  simp only [big, decide_eq_true_eq] at hbig
  clear hs hc hnm
  by_cases h1 : (250 : Int) < t.types.length
  · go_enter Tryd.func23, Tryd.ntmps23
    go_wp2
    go_ret
    exact ⟨ret_int' hk.out.symm, (Below.refl _ _).alloc (Nat.le_refl _) _⟩
  · have h2 : (1000 : Int) < t.chs.length := by omega
    go_enter Tryd.func23, Tryd.ntmps23
    go_wp2
    go_ret
    exact ⟨ret_int' hk.out.symm, (Below.refl _ _).alloc (Nat.le_refl _) _⟩

theorem Check_none (t : Tab) (v : Value) (w : World) (hv : TabAt w v t) (hbig : big t = false) (hn : t.types = []) :
    Calls Tryd.prog 23 #[v] w fun e w' => e = .returned (.int .i64 (chk t)) ∧ Below w.heap.size w w' := by
  obtain ⟨sv, cv, rfl, ⟨⟨p, cap, rfl, hs⟩, hl1, hnm⟩, ⟨⟨p2, cap2, rfl, hc⟩, hl2⟩⟩ := hv.val
  have hk : Hid (chk t = 5) := by show _ = _; unfold chk; rw [if_neg (by simp [hbig]), if_pos hn]
  simp only [big, decide_eq_false_iff_not] at hbig
  have e0 : t.types.length = 0 := by rw [hn]; rfl
  have h2 : ¬ (1000 : Int) < t.chs.length := by omega
  clear hs hc hnm hbig hn hv
  rw [e0]
  go_enter Tryd.func23, Tryd.ntmps23
  go_wp2
  go_ret
  exact ⟨ret_int' hk.out.symm, (Below.refl _ _).alloc (Nat.le_refl _) _⟩

end Go.Proofs.YtmjakhageehcoaaDoor
