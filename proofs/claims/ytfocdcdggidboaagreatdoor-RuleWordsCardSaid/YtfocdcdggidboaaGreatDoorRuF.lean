/- The closed fact 'ruled'. -/
import Derived.Test.YtfocdcdggidboaaGreatDoorRu4
import Derived.Laws.StructEq
import Derived.Deep.QuietTactic
namespace Go.Proofs.YtfocdcdggidboaaGreatDoor
open Go.RowKit Go.Joins
open Classical
set_option linter.unusedVariables false
set_option linter.unusedSimpArgs false

theorem fieldsDayR : (Tryz.prog.fieldsOf 26).toList = [{ name := "Kind", type := 3, offset := 0, embedded := false, tag := "", pkgPath := "", byteOffset := 0 }, { name := "Weekday", type := 3, offset := 1, embedded := false, tag := "", pkgPath := "", byteOffset := 8 }, { name := "N", type := 3, offset := 2, embedded := false, tag := "", pkgPath := "", byteOffset := 16 }] := by kernel_rfl
theorem agg_dayR : Tryz.prog.underlying 26 = some (.struct (Tryz.prog.fieldsOf 26)) := by kernel_rfl
theorem stood_dayR : Tryz.prog.stoodInHeld 26 = false := by kernel_rfl
theorem eql_dayR (k wd n : Int) (W : World) : (binOp .eql 26 (.agg #[.int .i64 k, .int .i64 wd, .int .i64 n]) (.agg #[.int .i64 k, .int .i64 wd, .int .i64 n])).run Tryz.prog W = .ok (.bool true) W := by
  rw [run_eql_struct, run_equalIn_agg W 9999 _ _ _ agg_dayR stood_dayR, fieldsDayR]
  simp [go_sem, Op.eqFields, Tryz.underlying3]

/-- rule EU 1996 2030 10 lastSun 1:00u 0:00 - -/
abbrev ruEU : Ru := ⟨⟨#[69, 85]⟩, 1996, 2030, 10, 2, 0, 0, 3600, 2, 0, ⟨#[45]⟩⟩
theorem ruEU_ok : OkRu ruEU := ru_ok (by decide +kernel)
theorem ruEU_text : ruText ruEU = [114, 117, 108, 101, 32, 69, 85, 32, 49, 57, 57, 54, 32, 50, 48, 51, 48, 32, 49, 48, 32, 108, 97, 115, 116, 83, 117, 110, 32, 49, 58, 48, 48, 117, 32, 48, 58, 48, 48, 32, 45] := by decide +kernel

structure RuFacts (w : World) : Prop where
  t : Tab10 w
  a : AscTab w
  n : NumErrs w
  m : MaxLen w
theorem RuFacts.below {w w' : World} (h : RuFacts w) (hb : Below w.heap.size w w') : RuFacts w' := ⟨h.t.below hb, h.a.below hb, h.n.below hb, h.m.below hb⟩

set_option maxRecDepth 100000 in
set_option maxHeartbeats 2000000 in
theorem ruled_any (w : World) (hf : RuFacts w) :
    Calls Tryz.prog 4 #[] w fun e w' => e = .returned (.bool true) ∧ Below w.heap.size w w' := by
  have hp := Parse_ok ruEU ruEU_ok w (by rw [ruEU_text]; decide) hf.t hf.a hf.n hf.m
  rw [ruEU_text] at hp
  have q := fun W => eql_dayR 2 0 0 W
  clear hf
  go_enter Tryz.func4, Tryz.ntmps4
  go_wp2_with fail
  refine hp.mono ?_
  rintro e w1 ⟨rfl, hb1⟩
  clear hp
  go_wp2
  go_ret
  exact ⟨rfl, hb1.alloc hb1.size _⟩

end Go.Proofs.YtfocdcdggidboaaGreatDoor
