/- The closed fact 'ruled'; RuleYears: its walk. -/
import Derived.Test.YtfocdcdggidboaaDoorRu4
import Derived.Test.YtfocdcdggidboaaDoorRest0
import Derived.Laws.StructEq
import Derived.Deep.QuietTactic
namespace Go.Proofs.YtfocdcdggidboaaDoor
open Go.RowKit Go.Joins
open Classical
set_option linter.unusedVariables false
set_option linter.unusedSimpArgs false

theorem fieldsDayR : (Tryd.prog.fieldsOf 23).toList = [{ name := "Kind", type := 3, offset := 0, embedded := false, tag := "", pkgPath := "", byteOffset := 0 }, { name := "Weekday", type := 3, offset := 1, embedded := false, tag := "", pkgPath := "", byteOffset := 8 }, { name := "N", type := 3, offset := 2, embedded := false, tag := "", pkgPath := "", byteOffset := 16 }] := by kernel_rfl
theorem agg_dayR : Tryd.prog.underlying 23 = some (.struct (Tryd.prog.fieldsOf 23)) := by kernel_rfl
theorem stood_dayR : Tryd.prog.stoodInHeld 23 = false := by kernel_rfl
theorem eql_dayR (k wd n : Int) (W : World) : (binOp .eql 23 (.agg #[.int .i64 k, .int .i64 wd, .int .i64 n]) (.agg #[.int .i64 k, .int .i64 wd, .int .i64 n])).run Tryd.prog W = .ok (.bool true) W := by
  rw [run_eql_struct, run_equalIn_agg W 9999 _ _ _ agg_dayR stood_dayR, fieldsDayR]
  simp [go_sem, Op.eqFields, Tryd.underlying3]

/-- rule EU 1996 2030 10 lastSun 1:00u 0:00 - -/
abbrev ruEU : Ru := ⟨⟨#[69, 85]⟩, 1996, 2030, 10, 2, 0, 0, 3600, 2, 0, ⟨#[45]⟩⟩
theorem ruEU_ok : OkRu ruEU := ru_ok (by decide +kernel)
theorem ruEU_text : ruText ruEU = [114, 117, 108, 101, 32, 69, 85, 32, 49, 57, 57, 54, 32, 50, 48, 51, 48, 32, 49, 48, 32, 108, 97, 115, 116, 83, 117, 110, 32, 49, 58, 48, 48, 117, 32, 48, 58, 48, 48, 32, 45] := by decide +kernel

structure RuFacts (w : World) : Prop where
  t : Tab10 w
  a : AscTab w
  n : NumErrs w
  m : MaxLen w
theorem RuFacts.below {w w' : World} (h : RuFacts w) (hb : Below w.heap.size w w') : RuFacts w' := ⟨h.t.below hb, h.a.below hb, h.n.below hb, h.m.below hb⟩

set_option maxRecDepth 100000 in
set_option maxHeartbeats 2000000 in
theorem ruled_any (w : World) (hf : RuFacts w) :
    Calls Tryd.prog 5 #[] w fun e w' => e = .returned (.bool true) ∧ Below w.heap.size w w' := by
  have hp := Parse_ok ruEU ruEU_ok w (by rw [ruEU_text]; decide) hf.t hf.a hf.n hf.m
  rw [ruEU_text] at hp
  have q := fun W => eql_dayR 2 0 0 W
  clear hf
  go_enter Tryd.func5, Tryd.ntmps5
  go_wp2_with fail
  refine hp.mono ?_
  rintro e w1 ⟨rfl, hb1⟩
  clear hp
  go_wp2
  go_ret
  exact ⟨rfl, hb1.alloc hb1.size _⟩

set_option maxRecDepth 100000 in
set_option maxHeartbeats 4000000 in
theorem RuleYears_walk (r : Ru) (a b : Int) (w : World) (h1 : r.nm.size ≤ maxLen) (h2 : r.lt.size ≤ maxLen) (ht : Tab10 w) (ha : AscTab w) (hn : NumErrs w) (hm : MaxLen w) :
    Calls Tryd.prog 4 #[ruV r, .int .i64 a, .int .i64 b] w fun e w' => e = .returned (.bool true) ∧ Below w.heap.size w w' := by
  have HF := Lib.hid (RuFacts.mk ht ha hn hm)
  have HCK := Lib.hid (fun W => ruCheck_any r W h1 h2)
  have HYL := Lib.hid (fun (o : OkRu r) x y hx hy => years_law r o x y hx hy)
  have HC2 := Lib.hid (fun x y W => ruCheck_any { r with yf := x, yt := y } W h1 h2)
  have HOK := Lib.hid (fun h => ru_ok (r := r) h)
  clear ht ha hn hm h1 h2
  obtain ⟨W0, eW⟩ : ∃ W0, w.alloc (.cells (ruCells r) 25) = W0 := ⟨_, rfl⟩
  have HX : Hid (RuBx W0 w.heap.size r) := by show RuBx _ _ _; rw [← eW]; exact RuBx.box w r
  have HB : Hid (Below w.heap.size w W0) := by show Below _ _ _; rw [← eW]; exact (Below.refl _ _).alloc (Nat.le_refl _) _
  have HEW := Lib.hid eW
  clear eW
  go_enter Tryd.func4, Tryd.ntmps4
  go_wp2_with fail
  rw [HEW.out]
  refine (ruled_any _ (HF.out.below HB.out)).mono ?_
  rintro e w1 ⟨rfl, hb1⟩
  have HX1 := Lib.hid (HX.out.below (hb1.mono (Nat.le_refl _)))
  have HB1 := Lib.hid (HB.out.trans (hb1.mono HB.out.size))
  clear hb1 HX HB
  obtain ⟨x0, x1, x2, x3, x4, x5, x6, x7, x8, x9, x10⟩ := HX1.out.cells
  have hl0 := HX1.out.lt
  go_wp2_with fail
  refine (HCK.out _).mono ?_
  obtain ⟨C, eC⟩ : ∃ C, ruChk r = C := ⟨_, rfl⟩
  rw [eC]
  rintro e w2 ⟨rfl, hb2⟩
  have HX2 := Lib.hid (HX1.out.below (hb2.mono (Nat.le_refl _)))
  have HB2 := Lib.hid (HB1.out.trans (hb2.mono HB1.out.size))
  clear hb2 HX1 HB1 x0 x1 x2 x3 x4 x5 x6 x7 x8 x9 x10 hl0
  by_cases hC : C = 0
  case neg =>
    have hz : (C == 0) = false := by simpa using hC
    have hz2 : (!C == 0) = true := by rw [hz]; rfl
    clear hC eC
    go_wp2
    go_ret
    exact ⟨rfl, HB2.out⟩
  case pos =>
  subst hC
  have o := HOK.out eC
  have f1 := o.f1; have f2 := o.f2; have t1 := o.t1; have t2 := o.t2
  have HO := Lib.hid o
  clear eC o
  obtain ⟨x0, x1, x2, x3, x4, x5, x6, x7, x8, x9, x10⟩ := HX2.out.cells
  have hl0 := HX2.out.lt
  have q : ∀ i : Nat, _ := fun i => frozen_of_row _ _ i _ _ HX2.out
  have hm1 : 0 < r.yt - r.yf + 1 := by omega
  have hm2 : r.yt - r.yf + 1 ≤ 1099511627776 := by omega
  have ra := Int.emod_nonneg a (show r.yt - r.yf + 1 ≠ 0 by omega)
  have ra2 := Int.emod_lt_of_pos a hm1
  have rb := Int.emod_nonneg b (show r.yt - r.yf + 1 ≠ 0 by omega)
  have rb2 := Int.emod_lt_of_pos b hm1
  have HRA := Lib.hid (fun W => Rest0_any a (r.yt - r.yf + 1) W hm1 hm2)
  have HRB := Lib.hid (fun W => Rest0_any b (r.yt - r.yf + 1) W hm1 hm2)
  obtain ⟨p, ep⟩ : ∃ p, a % (r.yt - r.yf + 1) = p := ⟨_, rfl⟩
  obtain ⟨s, es⟩ : ∃ p, b % (r.yt - r.yf + 1) = p := ⟨_, rfl⟩
  rw [ep] at ra ra2 HRA
  rw [es] at rb rb2 HRB
  have HY0 := Lib.hid (HYL.out HO.out (r.yf + p) (r.yf + s) ⟨by omega, by omega⟩ ⟨by omega, by omega⟩)
  clear ep es
  go_upto_region 6 with fail
  have wa : IntKind.i64.wrap (r.yf + p) = r.yf + p := by rw [IntKind.wrap_i64]; omega
  have wb : IntKind.i64.wrap (r.yf + s) = r.yf + s := by rw [IntKind.wrap_i64]; omega
  go_quiet ((go_at_call 9; first | (with_reducible exact quiet_left (HRA.out _)) | (with_reducible exact quiet_left (HRB.out _))))
  clear wa wb
  go_upto_region 8 with fail
  have hY : ruChk { r with yf := r.yf + min p s, yt := r.yf + max p s } = 0 := by
    have := HY0.out
    rwa [show min (r.yf + p) (r.yf + s) = r.yf + min p s from by omega, show max (r.yf + p) (r.yf + s) = r.yf + max p s from by omega] at this
  obtain ⟨W8, e8⟩ : ∃ W8, ((w2.drewN nq).setCell ⟨w.heap.size, 1, none⟩ (.int .i64 (r.yf + min p s))).setCell ⟨w.heap.size, 2, none⟩ (.int .i64 (r.yf + max p s)) = W8 := ⟨_, rfl⟩
  have HX8 : Hid (RuBx W8 w.heap.size { r with yf := r.yf + min p s, yt := r.yf + max p s }) := by
    show RuBx _ _ _
    rw [← e8]
    exact ((show RuBx (w2.drewN nq) w.heap.size r from HX2.out).set 1 _ { r with yf := r.yf + min p s } rfl).set 2 _ _ rfl
  have HB8 : Hid (Below w.heap.size w W8) := by
    show Below _ _ _
    rw [← e8]
    exact ((below_drewN' HB2.out nq).setCell (Nat.le_refl _) _).setCell (Nat.le_refl _) _
  have hck := HC2.out (r.yf + min p s) (r.yf + max p s) W8
  rw [hY] at hck
  have HCK8 := Lib.hid hck
  rw [e8]
  clear hck hY e8 x0 x1 x2 x3 x4 x5 x6 x7 x8 x9 x10 hl0 q ra ra2 rb rb2 hm1 hm2 f1 f2 t1 t2
  obtain ⟨x0, x1, x2, x3, x4, x5, x6, x7, x8, x9, x10⟩ := HX8.out.cells
  have hl8 := HX8.out.lt
  simp only at x0 x1 x2 x3 x4 x5 x6 x7 x8 x9 x10
  go_wp2_with fail
  refine HCK8.out.mono ?_
  rintro e w9 ⟨rfl, hb9⟩
  go_wp2
  go_ret
  exact ⟨rfl, HB8.out.trans (hb9.mono HB8.out.size)⟩
end Go.Proofs.YtfocdcdggidboaaDoor
