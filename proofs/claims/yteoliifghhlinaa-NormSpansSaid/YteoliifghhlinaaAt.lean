/- table.At of a table that is right. -/
import Derived.Test.YteoliifghhlinaaWalled
namespace Go.Proofs.Yteoliifghhlinaa
open Go.RowKit Go.Shelf

set_option linter.unusedVariables false
set_option linter.unusedSimpArgs false

theorem froz {W : World} {B : Nat} {cs : Array Value} {T : TypeId} (h : W.heap[B]? = some (Obj.cells cs T (0, 0))) (i : Nat) : W.frozen? ⟨B, i, none⟩ = false := by simp [World.frozen?, h]

set_option maxHeartbeats 4000000 in
theorem At_ok (t : Tab) (v : Value) (x : Int) (w : World) (hv : TabAt w v t) (h0 : chk t = 0) :
    Calls Try.prog 20 #[v, .int .i64 x] w fun e w' => e = .returned (.tuple #[tyV (tyOf t x), .int .i64 0]) ∧ Below w.heap.size w w' := by
  obtain ⟨sv, cv, rfl⟩ := hv.parts
  obtain ⟨W0, hW0⟩ : ∃ W0, w.alloc (.cells #[sv, .int .i64 t.first, cv] 25) = W0 := ⟨_, rfl⟩
  obtain ⟨hB, hS, q0, q1, q2⟩ := box3 hW0
  obtain ⟨W1, hW1⟩ : ∃ W1, W0.alloc (.cells #[.int .i64 0, .bool false, .string ⟨#[]⟩] 46) = W1 := ⟨_, rfl⟩
  have n1 := World.alloc_heap_new W0 (.cells #[.int .i64 0, .bool false, .string ⟨#[]⟩] 46)
  have b1 : Below w.heap.size w W1 := by rw [← hW1]; exact hB.alloc (by omega) _
  have bb1 : Below W0.heap.size W0 W1 := by rw [← hW1]; exact (Below.refl _ _).alloc (Nat.le_refl _) _
  have s1 : W1.heap.size = w.heap.size + 2 := by rw [← hW1]; simp; omega
  rw [hW1, hS] at n1
  have HCC := Check_any t _ _ (hv.below b1)
  rw [h0] at HCC
  have HO := Lib.hid (fun W (hb : Below w.heap.size w W) => Of_any t _ x W (hv.below hb) h0)
  obtain ⟨T, eT⟩ : ∃ T, tyOf t x = T := ⟨_, rfl⟩
  rw [eT] at HO
  rw [eT]
  have HC := Lib.hid HCC
  have HW0 := Lib.hid hW0
  have HW1 := Lib.hid hW1
  have HB1 := Lib.hid b1
  have N1 := Lib.hid n1
  have Q0 := Lib.hid ((bb1.cell (p := ⟨w.heap.size, 0, none⟩) (by show w.heap.size < _; omega)).trans q0)
  have Q1 := Lib.hid ((bb1.cell (p := ⟨w.heap.size, 1, none⟩) (by show w.heap.size < _; omega)).trans q1)
  have Q2 := Lib.hid ((bb1.cell (p := ⟨w.heap.size, 2, none⟩) (by show w.heap.size < _; omega)).trans q2)
  have S1 := Lib.hid s1
  clear hv h0 hW0 hW1 hB hS q0 q1 q2 n1 b1 bb1 s1 HCC eT
  go_enter Try.func20, Try.ntmps20
  go_wp2_with fail
  rw [HW0.out, HW1.out]
  refine HC.out.mono ?_
  rintro e w1 ⟨rfl, hb1⟩
  rw [S1.out] at hb1
  have q0 := (hb1.cell (p := ⟨w.heap.size, 0, none⟩) (by show w.heap.size < _; omega)).trans Q0.out
  have q1 := (hb1.cell (p := ⟨w.heap.size, 1, none⟩) (by show w.heap.size < _; omega)).trans Q1.out
  have q2 := (hb1.cell (p := ⟨w.heap.size, 2, none⟩) (by show w.heap.size < _; omega)).trans Q2.out
  have bw1 := HB1.out.trans (hb1.mono (by omega))
  go_wp2_with fail
  refine (HO.out _ bw1).mono ?_
  rintro e w2 ⟨rfl, hb2⟩
  have hs1 : w.heap.size + 2 ≤ w1.heap.size := by have := hb1.size; have := S1.out; omega
  have n2 := (hb2.block (w.heap.size + 1) (by omega)).trans ((hb1.block (w.heap.size + 1) (by omega)).trans N1.out)
  obtain ⟨r0, r1, r2⟩ := cells3 n2
  have f0 := froz n2 0
  have f1 := froz n2 1
  have f2 := froz n2 2
  have HB2 := Lib.hid (bw1.trans (hb2.mono bw1.size))
  have hlt2 : w.heap.size + 1 < w2.heap.size := by have := hb2.size; omega
  clear n2 hb1 hb2 bw1 q0 q1 q2
  simp only [tyV]
  go_wp2
  refine bodyPost_ret (v := .tuple #[tyV T, .int .i64 0]) (by simp [results, Try.results20, go_sem, r0, r1, r2]) rfl ⟨rfl, ?_⟩
  exact ((HB2.out.setCell (by simp) _).setCell (by simp) _).setCell (by simp) _
end Go.Proofs.Yteoliifghhlinaa
