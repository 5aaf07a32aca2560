/- A fact kept out of the simplifier's sight. -/
import Derived.Lib.Hide
namespace Go.Proofs.YtomahddiclkepaaGreatDoor
theorem qH {p : Prop} (h : p) : Go.RowKit.Hid p := h
end Go.Proofs.YtomahddiclkepaaGreatDoor
