/- A law's argument of type Era. -/
import Derived.Test.YtmhfhmhjaecoaaaGreatDoorQ12
namespace Go.Proofs.YtmhfhmhjaecoaaaGreatDoor
open Go.ChangeShapes Go.WideShapes Go.Deep Go.RowKit Go.Joins
set_option linter.unusedVariables false
section
variable {H : Type} {enc : TypeId × Value → H} {w : World} {base : Nat} {spare : Nat → Bool} {held : Bool}
set_option maxRecDepth 100000 in
theorem Er_openB {r : Reach} {b0 : Nat} {v : Value} {d : DataW H} {p : List MemPlace} (hv : Value.okWide Tryz.prog w r b0 46 v) (h : DataW.Trod enc Tryz.prog w base spare held 46 v d p)
    (hs : Szd 46 d) : ∃ q : Er, v = .agg (erCells q) ∧ SzE q := by
  obtain ⟨cs, rfl, hsz⟩ := okWide_struct Tryz.underlying46 hv
  obtain ⟨l⟩ := cs
  obtain ⟨fuel, hf⟩ := h
  obtain ⟨q, rfl, hz⟩ := Er_trodB (l := l) (hsz.trans cellsEr) hf hs
  exact ⟨q, rfl, hz⟩
end
end Go.Proofs.YtmhfhmhjaecoaaaGreatDoor
