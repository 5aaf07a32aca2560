/- A law's table argument, and what its changes weigh. -/
import Derived.Test.YteoliifghhlinaaTabOpen
import Derived.SizedLaws
namespace Go.Proofs.Yteoliifghhlinaa
open Go.ChangeShapes Go.WideShapes Go.Deep Go.RowKit Go.Joins
set_option linter.unusedVariables false
set_option linter.unusedSimpArgs false

theorem bytesChange : Try.prog.bytesOf 42 = 16 := by kernel_rfl
theorem reach_valS : reachBytes = 140737488351232 := by decide

section
variable {H : Type} {enc : TypeId × Value → H} {w : World} {base : Nat} {spare : Nat → Bool} {held : Bool}
theorem SlCh_openS {fuel : Nat} {v : Value} {x : DataW H × List MemPlace} (h : DataW.trod enc Try.prog w base spare held fuel 23 [v] = some x) :
    ∃ l, SlCh w v l ∧ (l.length = 0 ∨ ∃ es sp, x.1 = .slice es sp ∧ l.length ≤ es.length) := by
  obtain ⟨l, hl⟩ := SlCh_open h
  refine ⟨l, hl, ?_⟩
  obtain ⟨p, cap, e, -⟩ := hl.shape
  rcases open_slice_fields und_changes Try.underlying42 (by kernel_rfl) (by kernel_rfl) h with ⟨hcs, _⟩ | ⟨a, len, cap', m, D, Pl, hcs, hb, hle, hm, hmm, hx, hf⟩
  · obtain rfl : v = .slice none 0 0 := by simpa using hcs
    injection e with e1 e2 e3
    exact .inl (by omega)
  · obtain rfl : v = .slice (some a) len cap' := by simpa using hcs
    injection e with e1 e2 e3
    exact .inr ⟨_, _, by rw [hx], by simp; omega⟩
set_option maxRecDepth 100000 in
/-- A law's table argument, with the size of its changes -/
theorem TabAt_openS {r : Reach} {b0 : Nat} {v : Value} {d : DataW H} {p : List MemPlace} (hv : Value.okWide Try.prog w r b0 25 v) (h : DataW.Trod enc Try.prog w base spare held 25 v d p)
    (hsz : ∀ n ∈ d.weights Try.prog 25, n ≤ reachBytes) : ∃ t, TabAt w v t ∧ t.chs.length * 16 ≤ 140737488355328 := by
  obtain ⟨c0, c1, c2, y0, y1, y2, m, rfl, rfl, _, g0, g1, g2⟩ := open_agg3 Try.underlying25 (by kernel_rfl) cellsTable hv h
  obtain ⟨l, hl⟩ := SlTy_open g0
  obtain ⟨b1, e1, _, _⟩ := DataW.trod_int Try.underlying3 g1
  obtain ⟨k, hk, hw⟩ := SlCh_openS g2
  simp only [List.cons.injEq, and_true] at e1
  subst e1
  refine ⟨⟨l, b1, k⟩, ⟨_, _, rfl, hl, hk⟩, ?_⟩
  show k.length * 16 ≤ _
  rcases hw with h0 | ⟨es, sp, he, hle⟩
  · omega
  · have := hsz ((es.length + sp.length) * Try.prog.bytesOf 42) (by
      simp only [DataW.weights, Try.underlying25, DataW.weightsEach, List.map_cons, List.map_nil, List.mem_append]
      refine .inr (.inr (.inl ?_))
      rw [he]
      simp only [DataW.weights, und_changes]
      exact List.mem_cons_self ..)
    rw [bytesChange, reach_valS] at this
    omega
/-- an argument's weights -/
theorem weights_at {ts : List TypeId} {ds : List (DataW H)} (h : (DataW.weightsEach Try.prog ts ds).all (· ≤ reachBytes) = true) {j : Nat} {t : TypeId} {d : DataW H} (ht : ts[j]? = some t) (hd : ds[j]? = some d) :
    ∀ n ∈ d.weights Try.prog t, n ≤ reachBytes := fun n hn => by
  have := List.all_eq_true.1 h n (DataW.weights_mem_each ht hd n hn)
  simpa using this
end
end Go.Proofs.Yteoliifghhlinaa
