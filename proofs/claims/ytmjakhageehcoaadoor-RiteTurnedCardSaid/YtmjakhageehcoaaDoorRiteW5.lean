/- RiteTurned, RiteSwapped, RiteWeeks: the walks, joined. -/
import Derived.Test.YtmjakhageehcoaaDoorRiteW3
import Derived.Test.YtmjakhageehcoaaDoorRiteW4
namespace Go.Proofs.YtmjakhageehcoaaDoor
open Go.RowKit Go.Joins

theorem RiteTurned_walk (p : Px) (y : Int) (w : World) (h1 : p.name.size ≤ maxLen) (h2 : p.also.size ≤ maxLen) (ht : Tab10 w) :
    Calls Tryd.prog 7 #[pxV p, .int .i64 y] w fun e w' => e = .returned (.bool true) ∧ Below w.heap.size w w' := by
  by_cases hp : pxChk p = 0
  · by_cases ha : p.also.toList = []
    · exact RiteTurned_none p y w h1 h2 ht (Or.inr ha)
    · exact RiteTurned_ok p y w h1 h2 ht hp ha
  · exact RiteTurned_none p y w h1 h2 ht (Or.inl hp)
theorem RiteSwapped_walk (p : Px) (y t : Int) (w : World) (h1 : p.name.size ≤ maxLen) (h2 : p.also.size ≤ maxLen) (ht : Tab10 w) :
    Calls Tryd.prog 8 #[pxV p, .int .i64 y, .int .i64 t] w fun e w' => e = .returned (.bool true) ∧ Below w.heap.size w w' := by
  by_cases hp : pxChk p = 0
  · by_cases ha : p.also.toList = []
    · exact RiteSwapped_none p y t w h1 h2 ht (Or.inr ha)
    · exact RiteSwapped_ok p y t w h1 h2 ht hp ha
  · exact RiteSwapped_none p y t w h1 h2 ht (Or.inl hp)
theorem RiteWeeks_walk (p : Px) (y : Int) (w : World) (h1 : p.name.size ≤ maxLen) (h2 : p.also.size ≤ maxLen) (ht : Tab10 w) :
    Calls Tryd.prog 9 #[pxV p, .int .i64 y] w fun e w' => e = .returned (.bool true) ∧ Below w.heap.size w w' := by
  by_cases hp : pxChk p = 0
  · by_cases ha : p.also.toList = []
    · exact RiteWeeks_none p y w h1 h2 ht (Or.inr ha)
    · exact RiteWeeks_ok p y w h1 h2 ht hp ha
  · exact RiteWeeks_none p y w h1 h2 ht (Or.inl hp)
end Go.Proofs.YtmjakhageehcoaaDoor
