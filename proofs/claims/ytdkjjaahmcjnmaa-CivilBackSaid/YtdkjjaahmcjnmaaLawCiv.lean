/- The laws of the calendar: each walk returns true. -/
import Derived.Test.YtdkjjaahmcjnmaaCiv5
namespace Go.Proofs.Ytdkjjaahmcjnmaa
open Go.RowKit
set_option linter.unusedVariables false
set_option linter.unusedSimpArgs false

theorem CivilBack_walk (y m d n : Int) (w : World) :
    Calls Try.prog 3 #[.int .i64 y, .int .i64 m, .int .i64 d, .int .i64 n] w fun e w' => e = .returned (.bool true) ∧ Below w.heap.size w w' := by
  have hv := Lib.hid (dateD_valid y m d)
  have hb := Civ.days_bd hv.out
  have hq := Lib.hid (Civ.date_days hv.out hb)
  have hn := nD_bd n
  have hv2 := Lib.hid (Civ.date_valid (nD n) hn.1 hn.2)
  go_enter Try.func3, Try.ntmps3
  go_wp2_with fail
  refine (dated_any _).mono ?_
  rintro e w' ⟨rfl, rfl⟩
  go_wp2_with fail
  refine (date_any _ _ _ _).mono ?_
  rintro e w1 ⟨rfl, hb1⟩
  go_wp2_with fail
  refine (Days_ok _ _ _ _ hv.out).mono ?_
  rintro e w' ⟨rfl, rfl⟩
  go_wp2_with fail
  refine (Date_ok _ _ hb.1 hb.2).mono ?_
  rintro e w' ⟨rfl, rfl⟩
  rw [hq.out.1, hq.out.2.1, hq.out.2.2]
  go_wp2_with fail
  refine (some_any _ _).mono ?_
  rintro e w2 ⟨rfl, hb2⟩
  go_wp2_with fail
  refine (Date_ok _ _ hn.1 hn.2).mono ?_
  rintro e w' ⟨rfl, rfl⟩
  go_wp2_with fail
  refine (Days_ok _ _ _ _ hv2.out.1).mono ?_
  rintro e w' ⟨rfl, rfl⟩
  rw [hv2.out.2]
  go_wp2
  go_ret
  exact ⟨rfl, hb1.trans (hb2.mono hb1.size)⟩

end Go.Proofs.Ytdkjjaahmcjnmaa
