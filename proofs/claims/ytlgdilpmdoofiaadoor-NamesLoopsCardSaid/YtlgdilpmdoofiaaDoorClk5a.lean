/- SpanHours: its walk. -/
import Derived.Test.YtlgdilpmdoofiaaDoorClk4a
namespace Go.Proofs.YtlgdilpmdoofiaaDoor
open Go.RowKit Go.Joins
set_option linter.unusedVariables false
set_option linter.unusedSimpArgs false

theorem lt_of_cellM {w : World} {p : Addr} {v : Value} (h : w.cell? p = some v) : p.block < w.heap.size := by
  unfold World.cell? at h
  cases hb : w.heap[p.block]? with
  | none => simp [hb] at h
  | some o => exact (Array.getElem?_eq_some_iff.1 hb).1
/-- internal/bytealg.MaxLen holds some number -/
def MaxLen (w : World) : Prop := ∃ m, w.cell? ⟨0, 0, none⟩ = some (.int .i64 m)
theorem MaxLen.below {w w' : World} (h : MaxLen w) (hb : Below w.heap.size w w') : MaxLen w' := by
  obtain ⟨m, hm⟩ := h
  exact ⟨m, (hb.cell (show (⟨0, 0, none⟩ : Addr).block < w.heap.size from lt_of_cellM hm)).trans hm⟩
theorem below_drewN0 (w : World) (n : Nat) : Below w.heap.size w (w.drewN n) := below_drewN' (Below.refl _ _) n
theorem cut_any (s p : List UInt8) (w : World) (hs : s.length < 4294967281) (hm : MaxLen w) :
    Calls Tryd.prog 135 #[.string (txt s), .string (txt p)] w fun e w' => e = .returned (.tuple #[.string (txt (Lib.cut s p).1), .string (txt (Lib.cut s p).2.1), .bool (Lib.cut s p).2.2]) ∧ Below w.heap.size w w' := by
  obtain ⟨m, hm⟩ := hm
  have := Tryd.strings_Cut (txt s) (txt p) m w (by rw [txt_size]; exact hs) hm
  rw [txt_data, txt_data] at this
  refine this.mono ?_
  rintro e w' ⟨rfl, n, rfl⟩
  exact ⟨rfl, below_drewN0 w n⟩

theorem txt_ne {a b : List UInt8} (h : a ≠ b) : ((txt a).toList == (txt b).toList) = false := by
  rw [bytes_toList_txt, bytes_toList_txt]; simpa using h

end Go.Proofs.YtlgdilpmdoofiaaDoor
