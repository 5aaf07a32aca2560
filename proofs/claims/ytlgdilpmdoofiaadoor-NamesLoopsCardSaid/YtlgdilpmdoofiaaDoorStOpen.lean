/- An argument of type []string. -/
import Derived.Test.YtlgdilpmdoofiaaDoorBkOpen
import Derived.Test.YtlgdilpmdoofiaaDoorStrs
namespace Go.Proofs.YtlgdilpmdoofiaaDoor
open Go.RowKit Go.Joins Go.WideShapes
set_option linter.unusedVariables false
section
variable {H : Type} {enc : TypeId × Value → H} {w : World} {base : Nat} {spare : Nat → Bool} {held : Bool}
theorem cellsStr : Tryd.prog.cellsOf 9 = 1 := by kernel_rfl
set_option maxRecDepth 100000 in
theorem Sl_open {r : Reach} {b0 : Nat} {v : Value} {d : DataW H} {p : List MemPlace} (hv : Value.okWide Tryd.prog w r b0 60 v) (h : DataW.Trod enc Tryd.prog w base spare held 60 v d p)
    (hs : Szd 60 d) : ∃ l : List ByteArray, RowsAt stL 1 w.heap.size w v l ∧ ∀ s ∈ l, s.size ≤ 140737488351232 := by
  obtain ⟨a1, len, cap, rfl⟩ := okWide_slice Tryd.underlying60 hv
  obtain ⟨fuel, hf⟩ := h
  exact open_rows stL 1 (fun s : ByteArray => s.size ≤ 140737488351232) (t := 60) (e := 9) (by kernel_rfl) cellsStr (of_decide_eq_true (by kernel_rfl)) (by decide) (fun fuel l x hl h hs => by
    obtain ⟨c0, rfl⟩ := List.length_eq_one_iff.1 hl
    obtain ⟨s, rfl, z⟩ := trod_sB h hs
    exact ⟨s, rfl, z⟩) (v := .slice a1 len cap) (x := (d, p)) hf hs
end
end Go.Proofs.YtlgdilpmdoofiaaDoor
