/- A law's argument that is a slice of bytes, as it lies in memory. -/
import Derived.Test.YtddkedghpapepaaRead
import Derived.Test.YtddkedghpapepaaTabOpen
import Derived.ChangeSlices
import Derived.SizedLaws
namespace Go.Proofs.Ytddkedghpapepaa
open Go.ChangeShapes Go.WideShapes Go.Deep Go.RowKit Go.Joins
set_option linter.unusedVariables false

theorem cellsByte : Try.prog.cellsOf 5 = 1 := by kernel_rfl
theorem bytesByte : Try.prog.bytesOf 5 = 1 := by kernel_rfl
theorem reach_val : reachBytes = 140737488351232 := by decide

section
variable {H : Type} {enc : TypeId × Value → H} {w : World}
theorem Bytes_open {r : Reach} {b0 : Nat} {v : Value} {d : DataW H} {p : List MemPlace} (hv : Value.okWide Try.prog w r b0 27 v) (h : DataW.Trod enc Try.prog w 0 (fun _ => true) true 27 v d p)
    (hsz : ∀ es sp : List (DataW H), d = .slice es sp → (es.length + sp.length) * Try.prog.bytesOf 5 ≤ reachBytes) :
    ∃ A c l, v = .slice A l.length c ∧ l.length ≤ c ∧ BytesBelow w w.heap.size A l.length l ∧ (∀ x ∈ l, (0 : Int) ≤ x ∧ x < 256) ∧ l.length ≤ 140737488351232 := by
  obtain ⟨a1, len, cap, rfl⟩ := okWide_slice Try.underlying27 hv
  obtain ⟨fuel, hf⟩ := h
  rcases open_ints Try.underlying27 Try.underlying5 cellsByte hf with ⟨hcs, hx⟩ | ⟨a, len', cap', zs, hcs, _, hl, hm, hz, hx, hcell, hwz⟩
  · simp [Value.cells] at hcs
    obtain ⟨rfl, rfl, rfl⟩ := hcs
    exact ⟨none, 0, [], rfl, Nat.le_refl _, fun h => absurd h (Nat.lt_irrefl 0), by simp, by simp⟩
  · simp [Value.cells] at hcs
    obtain ⟨rfl, rfl, rfl⟩ := hcs
    simp only [Prod.mk.injEq] at hx
    obtain ⟨rfl, rfl⟩ := hx
    simp only [if_true] at hz
    have hlen : (zs.take len).length = len := by rw [List.length_take]; omega
    refine ⟨some a, cap, zs.take len, by rw [hlen], by rw [hlen]; omega, ?_, ?_, ?_⟩
    · rw [hlen]
      intro h0
      have hsp : a = ⟨a.block, a.off, none⟩ := spot_none (w := w) (v := .int .u8 (zs.getD 0 0)) (by have := hcell 0 (by omega); simpa [Addr.add] using this)
      refine ⟨a.block, a.off, congrArg some hsp, ?_, fun i hi => ?_⟩
      · have := hcell 0 (by omega)
        rw [hsp, add_plain] at this
        exact World.block_lt_of_cell? w ⟨a.block, _, none⟩ this
      · have := hcell i (by omega)
        rw [hsp, add_plain] at this
        rw [this]
        simp [List.getD_eq_getElem?_getD, hi]
    · intro x hx
      have := hwz x (List.mem_of_mem_take hx)
      simp [Lit.wf] at this
      have e1 : IntKind.u8.min = 0 := by decide
      have e2 : IntKind.u8.max = 255 := by decide
      omega
    · have := hsz _ _ rfl
      rw [bytesByte, reach_val] at this
      simp [lits] at this
      rw [hlen]; omega
end
end Go.Proofs.Ytddkedghpapepaa
