/- Turns: two lists alike; the cells of rows of rules. -/
import Derived.Test.YtmpeplimiaaehaaDoorQ09
namespace Go.Proofs.YtmpeplimiaaehaaDoor
open Go.RowKit Go.Joins
open Classical
set_option linter.unusedVariables false
set_option linter.unusedSimpArgs false

theorem EqTn_self (l : List Tn) (v v2 : Value) (w : World) (h1 : RowsAt tnC 3 w.heap.size w v l) (h2 : RowsAt tnC 3 w.heap.size w v2 l) :
    Calls Tryd.prog 10 #[v, v2] w fun e w' => e = .returned (.bool true) ∧ Below w.heap.size w w' := by
  have h := EqTn_any l l v v2 w h1 h2
  have e : decide (l = l) = true := decide_eq_true rfl
  rwa [e] at h
abbrev ruL (r : Ru) : List Value := (ruCells r).toList
def ruFlat (l : List Ru) : List Value := l.flatMap ruL
theorem ruFlat_snoc (l : List Ru) (r : Ru) : ruFlat (l ++ [r]) = ruFlat l ++ (ruCells r).toList := by simp [ruFlat]
theorem infoRu : (Tryd.prog.info? 34).map (fun i => (i.zero, i.size, i.bytes)) = some (some (.agg #[.string ⟨#[]⟩, .int .i64 0, .int .i64 0, .int .i64 0, .int .i64 0, .int .i64 0, .int .i64 0, .int .i64 0, .int .i64 0, .int .i64 0, .string ⟨#[]⟩]), 11, 104) := by kernel_rfl
theorem undRu : Tryd.prog.underlying 22 = some (.slice 34) := by kernel_rfl
end Go.Proofs.YtmpeplimiaaehaaDoor
