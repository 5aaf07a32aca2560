/- (Turned).At: which type it is at a time of an era. state.Eras: eras with their turns. table.within and table.Check: what each returns. table.Check of a table that has types and is not too large: what it returns. What a table that may be has: plain facts. -/
import Derived.Test.YthggojpdcgcmaaaGreatDoorQ08
import Derived.StillTailTactics
import Derived.Test.YthggojpdcgcmaaaGreatDoorQ07
import Derived.Test.YthggojpdcgcmaaaGreatDoorQ06
import Derived.Test.YthggojpdcgcmaaaGreatDoorQ01
namespace Go.Proofs.YthggojpdcgcmaaaGreatDoor
open Go.RowKit Go.Joins
open Classical
set_option linter.unusedVariables false
set_option linter.unusedSimpArgs false

abbrev tdCells (x : Td) (tv : Value) : Array Value := #[.int .i64 x.er.off, .string x.er.ru, .int .i64 x.er.sv, .string x.er.fm, .int .i64 x.er.un, tv, .string x.fst]
set_option maxHeartbeats 1000000 in
theorem TdAt1_any (bx bt b o n cap : Nat) (t y : Int) (i : Nat) (W : World) (hi : i < n)
    (hl : W.cell? ⟨bx, 5, none⟩ = some (.slice (some ⟨b, o, none⟩) n cap)) (hx : W.cell? ⟨bt, 0, none⟩ = some (.int .i64 t)) (hc : W.cell? ⟨b, o + i * 3, none⟩ = some (.int .i64 y)) :
    Calls Tryz.prog 79 (#[.int .i64 i] ++ #[.pointer (some ⟨bx, 0, none⟩), .pointer (some ⟨bt, 0, none⟩)]) W fun e w' => e = .returned (.bool (decide (t < y))) ∧ Below W.heap.size W w' := by
  have hiz : (i : Int) < (n : Int) := by omega
  go_enter Tryz.func79, Tryz.ntmps79
  go_wp2
  go_quiet (fail)
  go_wp2
  go_ret
  exact ⟨rfl, below_drewN' (Below.refl _ _) _⟩
theorem end_three {W : World} {rb : Nat} {a b c : Value} {T : TypeId} (h : W.heap[rb]? = some (.cells #[a, b, c] T (0, 0))) (x y z : Value) :
    ∃ W', ((W.setCell ⟨rb, 0, none⟩ x).setCell ⟨rb, 1, none⟩ y).setCell ⟨rb, 2, none⟩ z = W' ∧ W'.heap[rb]? = some (.cells #[x, y, z] T (0, 0)) ∧ ∀ B, B ≤ rb → Below B W W' := by
  refine ⟨_, rfl, ?_, fun B hB => (((Below.refl _ _).setCell hB _).setCell hB _).setCell hB _⟩
  simp [World.setCell, Array.getElem?_modify, h]
theorem ret_ty {a b : Ty} (h : a = b) : Ending.returned (tyV a) = .returned (tyV b) := by rw [h]

set_option maxRecDepth 100000 in
set_option maxHeartbeats 8000000 in
theorem TdAt_any (x : Td) (tv : Value) (t : Int) (w : World) (hr : RowsAt tnC 3 w.heap.size w tv x.ts) (hrise : Rises x.ts) (ho1 : -100000 ≤ x.er.off) (ho2 : x.er.off ≤ 100000) (hf : x.er.fm.size ≤ 140737488351232) (hl : (svT x t).2.size ≤ 140737488351232) (hs1 : 0 ≤ (svT x t).1) (hs2 : (svT x t).1 ≤ 10800) (hm : MaxLen w) (hlen : x.ts.length ≤ 100000) :
    Calls Tryz.prog 37 #[.agg (tdCells x tv), .int .i64 t] w fun e w' => e = .returned (tyV (tdTy x t)) ∧ Below w.heap.size w w' := by
  obtain ⟨p, cap, rfl, -, hat⟩ := hr
  obtain ⟨W0, hW0⟩ : ∃ W0, ((w.alloc (.cells (tdCells x (.slice p x.ts.length cap)) 89)).alloc (.cells #[.int .i64 t] 3)).alloc (.cells #[.int .i64 0, .bool false, .string ⟨#[]⟩] 40) = W0 := ⟨_, rfl⟩
  have hB0 : Below w.heap.size w W0 := by rw [← hW0]; exact (((Below.refl _ w).alloc (Nat.le_refl _) _).alloc (by simp) _).alloc (by simp; omega) _
  have hS0 : W0.heap.size = w.heap.size + 3 := by rw [← hW0]; simp
  have hx0 : W0.heap[w.heap.size]? = some (.cells (tdCells x (.slice p x.ts.length cap)) 89 (0, 0)) := by
    rw [← hW0, Below.heap_alloc _ _ _ (by simp; omega), Below.heap_alloc _ _ _ (by simp)]
    exact heap_alloc_new w _
  have hx1 : W0.heap[w.heap.size + 1]? = some (.cells #[.int .i64 t] 3 (0, 0)) := by
    rw [← hW0, Below.heap_alloc _ _ _ (by simp)]
    exact alloc_at _ _ _ (by simp)
  have hx2 : W0.heap[w.heap.size + 1 + 1]? = some (.cells #[.int .i64 0, .bool false, .string ⟨#[]⟩] 40 (0, 0)) := by
    rw [← hW0]
    exact alloc_at _ _ _ (by simp)
  have eg : ∀ args w, (callFunc 79 args).run Tryz.prog w = .ok (.enter 79 args) w := enters_of Tryz.func79 (by kernel_rfl) rfl
  have q5 : W0.cell? ⟨w.heap.size, 5, none⟩ = some (.slice p x.ts.length cap) := (cell_of_row W0 _ 5 _ _ _ hx0).trans rfl
  have qt : W0.cell? ⟨w.heap.size + 1, 0, none⟩ = some (.int .i64 t) := (cell_of_row W0 _ 0 _ _ _ hx1).trans rfl
  have hS : ∀ W1, Below W0.heap.size W0 W1 → Calls Tryz.prog 75 #[.int .i64 x.ts.length, .func (.func 79) #[] #[.pointer (some ⟨w.heap.size, 0, none⟩), .pointer (some ⟨w.heap.size + 1, 0, none⟩)]] W1 fun e w' => e = .returned (.int .i64 (cntT x.ts t : Nat)) ∧ Below W1.heap.size W1 w' := by
    intro W1 hb1
    refine Search_any 79 #[.pointer (some ⟨w.heap.size, 0, none⟩), .pointer (some ⟨w.heap.size + 1, 0, none⟩)] x.ts.length (fun i => decide (t < tnA x.ts i)) W1 eg (by omega) (fun W i hbW hi => ?_) (cntT_mono hrise t)
    obtain ⟨b, o, e, hbl, hcs⟩ := hat (List.ne_nil_of_length_pos (by omega))
    have hbW2 := hb1.trans (hbW.mono hb1.size)
    refine TdAt1_any w.heap.size (w.heap.size + 1) b o x.ts.length cap t (tnA x.ts i) i W hi ?_ ((hbW2.cell (by show w.heap.size + 1 < _; omega)).trans qt) ?_
    · rw [← e]; exact (hbW2.cell (by show w.heap.size < _; omega)).trans q5
    · rw [tnA_at _ i hi]
      exact (hbW2.cell (by show b < _; omega)).trans ((hB0.cell (by exact hbl)).trans (hcs i hi 0 _ rfl))
  have HS := Lib.hid hS
  have HW0 := Lib.hid hW0
  have HB0 := Lib.hid hB0
  have HX0 := Lib.hid hx0
  have HX2 := Lib.hid hx2
  have hle := cntT_le x.ts t
  have HAB : Hid (∀ W, Below w.heap.size w W → Calls Tryz.prog 80 #[.string x.er.fm, .int .i64 (svT x t).1, .string (svT x t).2] W fun e w' => e = .returned (.tuple #[.string (nmT x t), .int .i64 (abbrF x.er.fm.data.toList (svT x t).1 (svT x t).2.data.toList).2]) ∧ Below W.heap.size W w') := by
    show ∀ W, _
    intro W hb
    exact Abbr_any x.er.fm.data.toList (svT x t).2.data.toList (svT x t).1 W (by rw [← Lib.size_eq]; omega) (by rw [← Lib.size_eq]; omega) (hm.below hb)
  have HTY : Hid (∀ s n, s = (svT x t).1 → n = nmT x t → (⟨x.er.off + s, decide (0 < s), n⟩ : Ty) = tdTy x t) := by
    show ∀ s n, _
    rintro s n rfl rfl
    rfl
  have H0 := Lib.hid (fun h => svT_0 (x := x) (t := t) h)
  have H1 := Lib.hid (fun h => svT_s (x := x) (t := t) h)
  obtain ⟨c, hc⟩ : ∃ c, cntT x.ts t = c := ⟨_, rfl⟩
  rw [hc] at HS hle
  have HC := Lib.hid hc
  obtain ⟨s, es⟩ : ∃ s, (svT x t).1 = s := ⟨_, rfl⟩
  obtain ⟨l, el⟩ : ∃ l, (svT x t).2 = l := ⟨_, rfl⟩
  obtain ⟨nm, en⟩ : ∃ nm, nmT x t = nm := ⟨_, rfl⟩
  obtain ⟨T, eT⟩ : ∃ T, tdTy x t = T := ⟨_, rfl⟩
  obtain ⟨E, eE⟩ : ∃ E, (abbrF x.er.fm.data.toList (svT x t).1 (svT x t).2.data.toList).2 = E := ⟨_, rfl⟩
  rw [eE] at HAB
  rw [es, el, en] at HAB
  rw [es, en, eT] at HTY
  rw [es] at hs1 hs2
  rw [eT]
  have hSL : (svT x t) = (s, l) := by rw [← es, ← el]
  have HSL := Lib.hid hSL
  have HAT := Lib.hid hat
  clear hat hS hW0 hB0 hx0 hx2 hx1 eg q5 qt hc es el en eT eE hSL hl hrise hf
  obtain ⟨⟨off, ru, sv, fm, un⟩, ts, fst⟩ := x
  simp only at ho1 ho2 hlen hle HS HX0 HAB HTY H0 H1 HC HAT HW0 HSL ⊢
  have z0 : W0.cell? ⟨w.heap.size, 0, none⟩ = some (.int .i64 off) := (cell_of_row W0 _ 0 _ _ _ HX0.out).trans rfl
  have z2 : W0.cell? ⟨w.heap.size, 2, none⟩ = some (.int .i64 sv) := (cell_of_row W0 _ 2 _ _ _ HX0.out).trans rfl
  have z3 : W0.cell? ⟨w.heap.size, 3, none⟩ = some (.string fm) := (cell_of_row W0 _ 3 _ _ _ HX0.out).trans rfl
  have z5 : W0.cell? ⟨w.heap.size, 5, none⟩ = some (.slice p ts.length cap) := (cell_of_row W0 _ 5 _ _ _ HX0.out).trans rfl
  have z6 : W0.cell? ⟨w.heap.size, 6, none⟩ = some (.string fst) := (cell_of_row W0 _ 6 _ _ _ HX0.out).trans rfl
  go_enter Tryz.func37, Tryz.ntmps37
  go_upto_region 1 with fail
  rw [HW0.out]
  go_quiet (fail)
  go_wp2_with fail
  refine (HS.out _ (below_drewN' (Below.refl _ _) _)).mono ?_
  rintro e w1 ⟨rfl, hb1⟩
  have hb1' : Below W0.heap.size W0 w1 := (below_drewN' (Below.refl W0.heap.size W0) nq).trans (hb1.mono (Nat.le_refl _))
  have HB1 := Lib.hid (HB0.out.trans (hb1'.mono HB0.out.size))
  have hx0 := (hb1'.block w.heap.size (by omega)).trans HX0.out
  have hx2 := (hb1'.block (w.heap.size + 1 + 1) (by omega)).trans HX2.out
  have HY2 := Lib.hid hx2
  have y0 : w1.cell? ⟨w.heap.size, 0, none⟩ = some (.int .i64 off) := (cell_of_row w1 _ 0 _ _ _ hx0).trans rfl
  have y3 : w1.cell? ⟨w.heap.size, 3, none⟩ = some (.string fm) := (cell_of_row w1 _ 3 _ _ _ hx0).trans rfl
  have y5 : w1.cell? ⟨w.heap.size, 5, none⟩ = some (.slice p ts.length cap) := (cell_of_row w1 _ 5 _ _ _ hx0).trans rfl
  have HY0 := Lib.hid hx0
  have hs1z : w.heap.size + 2 < w1.heap.size := by have := hb1'.size; omega
  have p0 : IntKind.i64.wrap (off + s) = off + s := IntWalk.i64_in _ (by omega)
  clear hb1 hb1' hx0 hx2 z0 z2 z3 z5 z6 HS HX0 HX2
  have FIN : Hid (∀ (w2 : World), Below w1.heap.size w1 w2 → ∃ W9, ((w2.setCell ⟨w.heap.size + 1 + 1, 0, none⟩ (.int .i64 (off + s))).setCell ⟨w.heap.size + 1 + 1, 1, none⟩ (.bool (decide (0 < s)))).setCell ⟨w.heap.size + 1 + 1, 2, none⟩ (.string nm) = W9 ∧ W9.cell? ⟨w.heap.size + 1 + 1, 0, none⟩ = some (.int .i64 (off + s)) ∧ W9.cell? ⟨w.heap.size + 1 + 1, 1, none⟩ = some (.bool (decide (0 < s))) ∧ W9.cell? ⟨w.heap.size + 1 + 1, 2, none⟩ = some (.string nm) ∧ Below w.heap.size w W9) := by
    show ∀ w2, _
    intro w2 hb2
    obtain ⟨W9, e9, hh9, hb9⟩ := end_three ((hb2.block (w.heap.size + 1 + 1) (by omega)).trans HY2.out) (.int .i64 (off + s)) (.bool (decide (0 < s))) (.string nm)
    exact ⟨W9, e9, (cell_of_row W9 _ 0 _ _ _ hh9).trans rfl, (cell_of_row W9 _ 1 _ _ _ hh9).trans rfl, (cell_of_row W9 _ 2 _ _ _ hh9).trans rfl, (HB1.out.trans (hb2.mono HB1.out.size)).trans (hb9 _ (by omega))⟩
  have BOX : Hid (∀ (w2 : World), Below w1.heap.size w1 w2 → w2.cell? ⟨w.heap.size, 0, none⟩ = some (.int .i64 off) ∧ w2.cell? ⟨w.heap.size + 1 + 1, 0, none⟩ = some (.int .i64 0) ∧ w2.cell? ⟨w.heap.size + 1 + 1, 1, none⟩ = some (.bool false) ∧ w2.cell? ⟨w.heap.size + 1 + 1, 2, none⟩ = some (.string ⟨#[]⟩) ∧ (∀ o, w2.frozen? ⟨w.heap.size + 1 + 1, o, none⟩ = false)) := by
    show ∀ w2, _
    intro w2 hb2
    have h0 := (hb2.block w.heap.size (by omega)).trans HY0.out
    have h2 := (hb2.block (w.heap.size + 1 + 1) (by omega)).trans HY2.out
    exact ⟨(cell_of_row w2 _ 0 _ _ _ h0).trans rfl, (cell_of_row w2 _ 0 _ _ _ h2).trans rfl, (cell_of_row w2 _ 1 _ _ _ h2).trans rfl, (cell_of_row w2 _ 2 _ _ _ h2).trans rfl, fun o => by simp [World.frozen?, h2]⟩
  have HTT := Lib.hid (HTY.out s nm rfl rfl)
  cases c with
  | zero =>
    have hsl := (H0.out HC.out).symm.trans HSL.out
    injection hsl with e1 e2
    subst e1
    subst e2
    clear HAT H0 H1 HC HSL HTY
    go_wp2_with fail
    refine (HAB.out _ HB1.out).mono ?_
    rintro e w2 ⟨rfl, hb2⟩
    obtain ⟨g0, r0, r1, r2, rf⟩ := BOX.out w2 hb2
    have rf0 := rf 0
    have rf1 := rf 1
    have rf2 := rf 2
    have HF := Lib.hid (FIN.out w2 hb2)
    clear BOX FIN HAB rf y0 y3 y5
    go_wp2_with fail
    obtain ⟨W9, e9, v0, v1, v2, hb9⟩ := HF.out
    rw [e9]
    refine bodyPost_ret (v := .agg #[.int .i64 (off + sv), .bool (decide (0 < sv)), .string nm]) (by simp [results, Tryz.results37, go_sem, v0, v1, v2]) rfl ⟨?_, hb9⟩
    exact ret_ty HTT.out
  | succ c =>
    obtain ⟨hlt, hsl⟩ := H1.out (by rw [HC.out]; omega)
    have hci : cntT ts t - 1 = c := by rw [HC.out]; omega
    have hcl : c < ts.length := by omega
    have hsl2 : (ts[c].s, ts[c].lt) = (s, l) := by
      have h3 := hsl.symm.trans HSL.out
      simp only [hci] at h3
      exact h3
    injection hsl2 with e1 e2
    obtain ⟨b, o, rfl, hbl, hcs⟩ := HAT.out (List.ne_nil_of_length_pos (by omega))
    have k1 := (HB1.out.cell (p := ⟨b, o + c * 3 + 1, none⟩) hbl).trans (hcs c hcl 1 _ rfl)
    have k2 := (HB1.out.cell (p := ⟨b, o + c * 3 + 2, none⟩) hbl).trans (hcs c hcl 2 _ rfl)
    rw [e1] at k1
    rw [e2] at k2
    have p1 : IntKind.i64.wrap ((c : Int) + 1 - 1) = (c : Int) := by rw [show (c : Int) + 1 - 1 = c by omega]; exact IntWalk.i64_in _ (by omega)
    have p2 : (c : Int) < (ts.length : Int) := by omega
    clear hcs hsl e1 e2 hlt hci HAT H0 H1 HC HSL HTY
    rw [show ((c + 1 : Nat) : Int) = (c : Int) + 1 by omega]
    go_wp2_with fail
    go_quiet (fail)
    go_wp2_with fail
    refine (HAB.out _ (below_drewN' HB1.out _)).mono ?_
    rintro e w2 ⟨rfl, hb2⟩
    have hb2' : Below w1.heap.size w1 w2 := (below_drewN' (Below.refl w1.heap.size w1) _).trans (hb2.mono (Nat.le_refl _))
    obtain ⟨g0, r0, r1, r2, rf⟩ := BOX.out w2 hb2'
    have rf0 := rf 0
    have rf1 := rf 1
    have rf2 := rf 2
    have HF := Lib.hid (FIN.out w2 hb2')
    clear BOX FIN HAB rf y0 y3 y5 hb2 hb2'
    go_wp2_with fail
    obtain ⟨W9, e9, v0, v1, v2, hb9⟩ := HF.out
    rw [e9]
    refine bodyPost_ret (v := .agg #[.int .i64 (off + s), .bool (decide (0 < s)), .string nm]) (by simp [results, Tryz.results37, go_sem, v0, v1, v2]) rfl ⟨?_, hb9⟩
    exact ret_ty HTT.out
end Go.Proofs.YthggojpdcgcmaaaGreatDoor
namespace Go.Proofs.YthggojpdcgcmaaaGreatDoor
open Go.RowKit Go.Joins
open Classical
set_option linter.unusedVariables false
set_option linter.unusedSimpArgs false

structure TdM where
  td : Td
  tv : Value
abbrev tmL (m : TdM) : List Value := (tdCells m.td m.tv).toList
def tmFlat (l : List TdM) : List Value := l.flatMap tmL
theorem tmFlat_snoc (l : List TdM) (m : TdM) : tmFlat (l ++ [m]) = tmFlat l ++ (tdCells m.td m.tv).toList := by simp [tmFlat]
theorem infoTd : (Tryz.prog.info? 89).map (fun i => (i.zero, i.size, i.bytes)) = some (some (.agg #[.int .i64 0, .string ⟨#[]⟩, .int .i64 0, .string ⟨#[]⟩, .int .i64 0, .slice none 0 0, .string ⟨#[]⟩]), 7, 96) := by kernel_rfl
theorem undTd : Tryz.prog.underlying 85 = some (.slice 89) := by kernel_rfl
/-- eras with turns in memory of one's own -/
structure TdsAt (W : World) (B : Nat) (v : Value) (ms : List TdM) : Prop where
  row : W.ownsRow B 89 7 v ms.length (tmFlat ms)
  ts : ∀ m ∈ ms, W.ownsRow B 44 3 m.tv m.td.ts.length (tnCells m.td.ts)
def ErasPost (rules : List Ru) (l : List Er) (w : World) (e : Ending) (w' : World) : Prop :=
  Below w.heap.size w w' ∧ (firstE (tdE rules) l ≠ 0 → e = .returned (.tuple #[.slice none 0 0, .int .i64 (firstE (tdE rules) l)])) ∧
  (firstE (tdE rules) l = 0 → ∃ v ms, e = .returned (.tuple #[v, .int .i64 0]) ∧ ms.map (·.td) = l.map (tdR rules) ∧ TdsAt w' w.heap.size v ms)
theorem ErasPost.bad {rules : List Ru} {l : List Er} {w w' : World} {c : Int} (h : firstE (tdE rules) l = c) (hc : c ≠ 0) (hb : Below w.heap.size w w') : ErasPost rules l w (.returned (.tuple #[.slice none 0 0, .int .i64 c])) w' :=
  ⟨hb, fun _ => by rw [h], fun g => absurd (h.symm.trans g) hc⟩
theorem ErasPost.ok {rules : List Ru} {l : List Er} {w w' : World} {v : Value} {ms : List TdM} (h : firstE (tdE rules) l = 0) (hm : ms.map (·.td) = l.map (tdR rules)) (ht : TdsAt w' w.heap.size v ms) (hb : Below w.heap.size w w') : ErasPost rules l w (.returned (.tuple #[v, .int .i64 0])) w' :=
  ⟨hb, fun g => absurd h g, fun _ => ⟨v, ms, rfl, hm, ht⟩⟩
theorem heap_setSt {w : World} {R i : Nat} {cs : Array Value} {T : TypeId} {f : Nat × Nat} (h : w.heap[R]? = some (.cells cs T f)) (v : Value) : (w.setCell ⟨R, i, none⟩ v).heap[R]? = some (.cells (cs.setIfInBounds i v) T f) := by
  simp [World.setCell, Array.getElem?_modify, h]
/-- a row of one's own is no block of another type -/
theorem own_type {W : World} {B : Nat} {e T : TypeId} {s n R : Nat} {v : Value} {xs : List Value} {cs : Array Value} {f : Nat × Nat} (h : W.ownsRow B e s v n xs) (hR : W.heap[R]? = some (.cells cs T f)) (hne : e ≠ T) : v.ownBlock ≠ some R := by
  rcases h.2 with ⟨e1, _⟩ | ⟨g, cap, cur, e1, _, hg, _⟩
  · rw [e1]; simp [Value.ownBlock]
  · rw [e1]
    simp only [Value.ownBlock]
    intro e2
    injection e2 with e2
    subst e2
    rw [hR] at hg
    injection hg with hg
    injection hg with _ h2 _
    exact hne h2.symm
/-- a row of one's own lies on behind a growth of another type's row -/
theorem own_grown {W W' : World} {B B' : Nat} {e e' : TypeId} {s s' n n' : Nat} {v v' : Value} {xs xs' : List Value} (h : W.ownsRow B e s v n xs) (h' : W.ownsRow B' e' s' v' n' xs') (hne : e ≠ e') (hg : W.grownBy W' v'.ownBlock) : W'.ownsRow B e s v n xs := by
  refine own_keep h fun g eg => hg.block g (World.ownsRow.lt h g eg).2 fun e2 => ?_
  rcases own_apart h h' hne with h3 | h3
  · rw [h3] at eg; cases eg
  · exact h3 (by rw [eg, e2])
theorem firstE_upto {α : Type} (f : α → Int) (l : List α) (k : Nat) (hk : k < l.length) (h : firstE f (l.take k) = 0) (h2 : f l[k] ≠ 0) : firstE f l = f l[k] := by
  have key : ∀ (a b : List α) (x : α), firstE f a = 0 → f x ≠ 0 → firstE f (a ++ x :: b) = f x := by
    intro a b x
    induction a with
    | nil => intro _ hx; show (if f x = 0 then firstE f b else f x) = f x; rw [if_neg hx]
    | cons y a ih =>
      intro ha hx
      have e : firstE f (y :: a) = if f y = 0 then firstE f a else f y := rfl
      rw [e] at ha
      show (if f y = 0 then firstE f (a ++ x :: b) else f y) = f x
      by_cases hy : f y = 0
      · rw [if_pos hy] at ha ⊢; exact ih ha hx
      · rw [if_neg hy] at ha; exact absurd ha hy
  have := key (l.take k) (l.drop (k + 1)) l[k] h h2
  rwa [← List.drop_eq_getElem_cons hk, List.take_append_drop] at this
theorem firstE_next {α : Type} (f : α → Int) (l : List α) (k : Nat) (hk : k < l.length) (h : firstE f (l.take k) = 0) (h2 : f l[k] = 0) : firstE f (l.take (k + 1)) = 0 := by
  rw [firstE_zero] at h ⊢
  intro x hx
  rw [List.take_succ_eq_append_getElem hk] at hx
  rcases List.mem_append.1 hx with hx | hx
  · exact h x hx
  · rw [List.mem_singleton.1 hx]; exact h2
theorem tdE_nil {rules : List Ru} {x : Er} (h : x.ru.data.toList = []) : tdE rules x = 0 ∧ tdR rules x = ⟨x, [], dashB⟩ := by
  unfold tdE tdR; rw [if_pos h, if_pos h]; exact ⟨rfl, rfl⟩
theorem tdE_go {rules : List Ru} {x : Er} (h : x.ru.data.toList ≠ []) : tdE rules x = (mkR rules x.ru x.off).1 ∧ tdR rules x = ⟨x, (mkR rules x.ru x.off).2, firstLt (mkR rules x.ru x.off).2⟩ := by
  unfold tdE tdR; rw [if_neg h, if_neg h]; exact ⟨rfl, rfl⟩
theorem firstLt_idx (l : List Tn) : (idxF (fun u : Tn => decide (u.s = 0)) l = -1 ∧ firstLt l = dashB) ∨ ∃ k, ∃ h : k < l.length, idxF (fun u : Tn => decide (u.s = 0)) l = (k : Nat) ∧ firstLt l = l[k].lt := by
  unfold idxF firstLt fstK
  by_cases h : (l.any fun u => decide (u.s = 0)) = true
  · have hlt : (l.findIdx fun u => decide (u.s = 0)) < l.length := List.findIdx_lt_length.2 (by
      obtain ⟨x, hx, e⟩ := List.any_eq_true.1 h
      exact ⟨x, hx, e⟩)
    rw [if_pos h, List.getElem?_eq_getElem hlt]
    exact .inr ⟨_, hlt, rfl, rfl⟩
  · have hno : (l.findIdx fun u => decide (u.s = 0)) = l.length := List.findIdx_eq_length.2 fun x hx => by
      cases e : decide (x.s = 0) with
      | false => rfl
      | true => exact absurd (List.any_eq_true.2 ⟨x, hx, e⟩) h
    rw [if_neg h, hno, List.getElem?_eq_none (Nat.le_refl _)]
    exact .inl ⟨rfl, rfl⟩

set_option maxRecDepth 100000 in
set_option maxHeartbeats 20000000 in
theorem Eras_any (MK : MakeSays) (rules : List Ru) (rv zv lv : Value) (nm : ByteArray) (l : List Er) (v : Value) (w : World) (hR : RowsAt (fun r : Ru => (ruCells r).toList) 11 w.heap.size w rv rules) (hro : ∀ r ∈ rules, OkRu r) (hr40 : rules.length ≤ 40)
    (hE : RowsAt (fun x : Er => (erCells x).toList) 5 w.heap.size w v l) (hoff : ∀ x ∈ l, -75600 ≤ x.off ∧ x.off ≤ 75600) (hl : l.length ≤ 1000) (hz : ∃ p n c, zv = .slice p n c) (hlv : ∃ p n c, lv = .slice p n c) :
    Calls Tryz.prog 36 #[.agg #[rv, zv, lv], .agg #[.string nm, v]] w (ErasPost rules l w) := by
  obtain ⟨zp, zn, zc, rfl⟩ := hz
  obtain ⟨lp, ln, lc, rfl⟩ := hlv
  have HRL := Lib.hid hR
  obtain ⟨p1, c1, rfl, -, -⟩ := hR
  obtain ⟨pv, cv, rfl, ⟨-, hlc⟩, hat⟩ := hE
  obtain ⟨W0, eW⟩ : ∃ W0, (w.alloc (.cells #[.slice p1 rules.length c1, .slice zp zn zc, .slice lp ln lc] 26)).alloc (.cells #[.string nm, .slice pv l.length cv] 38) = W0 := ⟨_, rfl⟩
  have hb0 : Below w.heap.size w W0 := by rw [← eW]; exact ((Below.refl _ _).alloc (Nat.le_refl _) _).alloc (by simp) _
  have hz0 : W0.heap.size = w.heap.size + 2 := by rw [← eW]; simp
  have hbx : W0.heap[w.heap.size]? = some (.cells #[.slice p1 rules.length c1, .slice zp zn zc, .slice lp ln lc] 26 (0, 0)) := by
    rw [← eW, Below.heap_alloc _ _ _ (by simp)]
    exact heap_alloc_new w _
  have hzx : W0.heap[w.heap.size + 1]? = some (.cells #[.string nm, .slice pv l.length cv] 38 (0, 0)) := by
    rw [← eW]
    exact alloc_at _ _ _ (by simp)
  have x1 := (cell_of_row W0 _ 1 _ _ _ hzx).trans rfl
  have HEW := Lib.hid eW
  have HB0 := Lib.hid hb0
  have HBX := Lib.hid hbx
  have HAT := Lib.hid hat
  have HOFF := Lib.hid hoff
  have HMK : Hid (∀ (W : World) (nm : ByteArray) (off : Int), Below w.heap.size w W → -75600 ≤ off → off ≤ 75600 → Calls Tryz.prog 33 #[.slice p1 rules.length c1, .string nm, .int .i64 off] W (MakePost rules nm off W)) := by
    show ∀ W nm off, _
    intro W nm off hb h1 h2
    exact MK rules nm off _ W ((HRL.out.below hb (Nat.le_refl _)).mono hb.size) hro hr40 h1 h2
  have HLEN : Hid (∀ nm off, (mkR rules nm off).2.length ≤ 1500) := fun nm off => (mkR_len hro nm off).1
  have HBAD := Lib.hid (fun k hk h1 h2 => firstE_upto (tdE rules) l k hk h1 h2)
  have HNXT := Lib.hid (fun k hk h1 h2 => firstE_next (tdE rules) l k hk h1 h2)
  obtain ⟨i1, hi1, hz10, hz11, hz12⟩ := info_parts infoTd
  clear eW hb0 hbx hzx hat hoff hro
  go_enter Tryz.func36, Tryz.ntmps36
  go_upto_region 2 with fail
  rw [HEW.out]
  go_wp2_with fail
  go_loopw [6, 16] (fun v6 i wr => ∃ (k : Nat) (ms : List TdM), k ≤ l.length ∧ i = .int .i64 k ∧ Hid (ms.map (·.td) = (l.take k).map (tdR rules)) ∧ Hid (firstE (tdE rules) (l.take k) = 0) ∧ Hid (TdsAt wr W0.heap.size v6 ms) ∧ Hid (Below W0.heap.size W0 wr)) (fun _ i _ => l.length - (intOf i).toNat)
  case atStart => exact ⟨0, [], Nat.zero_le _, rfl, rfl, rfl, ⟨World.ownsRow_nil _ _ _ _, fun m hm => absurd hm (List.not_mem_nil)⟩, Lib.hid (Below.refl _ _)⟩
  case round =>
    obtain ⟨k, ms, hk, rfl, HMS, HFE, HTD, HBR⟩ := hrel
    have hzr := HBR.out.size
    have hml : ms.length = k := by
      have := congrArg List.length HMS.out
      simpa [List.length_take, Nat.min_eq_left hk] using this
    have hmle : ms.length ≤ 1000 := by omega
    clear hml
    by_cases hkl : k < l.length
    · obtain ⟨bb, o, rfl, hbl, hcs⟩ := HAT.out (List.ne_nil_of_length_pos (by omega))
      have hck := hcs k hkl
      have hoff := HOFF.out _ (List.getElem_mem hkl)
      have HB1 := Lib.hid (HBAD.out k hkl HFE.out)
      have HN1 := Lib.hid (HNXT.out k hkl HFE.out)
      have HSN : Hid (∀ m : TdM, m.td = tdR rules l[k] → (ms ++ [m]).map (·.td) = (l.take (k + 1)).map (tdR rules)) := by
        show ∀ m : TdM, _
        intro m hm
        rw [List.take_succ_eq_append_getElem hkl, List.map_append, List.map_append, HMS.out]
        simp [hm]
      have HBW := Lib.hid (HB0.out.trans (HBR.out.mono HB0.out.size))
      have up : ∀ j u, w.cell? ⟨bb, o + k * 5 + j, none⟩ = some u → wr.cell? ⟨bb, o + k * 5 + j, none⟩ = some u := fun j u h => (HBW.out.cell (p := ⟨bb, o + k * 5 + j, none⟩) hbl).trans h
      obtain ⟨q, eq⟩ : ∃ q, l[k] = q := ⟨_, rfl⟩
      rw [eq] at hck hoff HB1 HN1 HSN
      clear eq hcs
      have z0 := up 0 _ (hck 0 _ rfl)
      have z1 := up 1 _ (hck 1 _ rfl)
      have z2 := up 2 _ (hck 2 _ rfl)
      have z3 := up 3 _ (hck 3 _ rfl)
      have z4 := up 4 _ (hck 4 _ rfl)
      rw [Nat.add_zero] at z0
      clear up hck
      have HNIL := Lib.hid (fun h => tdE_nil (rules := rules) (x := q) h)
      have HGO := Lib.hid (fun h => tdE_go (rules := rules) (x := q) h)
      obtain ⟨off, ru, sv, fm, un⟩ := q
      simp only at hoff z0 z1 z2 z3 z4 HNIL HGO
      obtain ⟨W3, eW3⟩ : ∃ W3, (wr.alloc (.cells #[.int .i64 off, .string ru, .int .i64 sv, .string fm, .int .i64 un] 35)).alloc (.cells #[.int .i64 off, .string ru, .int .i64 sv, .string fm, .int .i64 un, .slice none 0 0, .string ⟨#[45]⟩] 89) = W3 := ⟨_, rfl⟩
      obtain ⟨eb, eeb⟩ : ∃ eb, wr.heap.size = eb := ⟨_, rfl⟩
      have hx3 : W3.heap[eb]? = some (.cells #[.int .i64 off, .string ru, .int .i64 sv, .string fm, .int .i64 un] 35 (0, 0)) := by
        rw [← eW3, Below.heap_alloc _ _ _ (by simp; omega)]
        exact alloc_at _ _ _ eeb.symm
      have ht3 : W3.heap[eb + 1]? = some (.cells #[.int .i64 off, .string ru, .int .i64 sv, .string fm, .int .i64 un, .slice none 0 0, .string ⟨#[45]⟩] 89 (0, 0)) := by
        rw [← eW3]
        exact alloc_at _ _ _ (by simp; omega)
      have hz3 : W3.heap.size = eb + 2 := by rw [← eW3]; simp; omega
      have hk3 : ∀ b, b < wr.heap.size → W3.heap[b]? = wr.heap[b]? := fun b hb => by rw [← eW3, Below.heap_alloc _ _ _ (by simp; omega), Below.heap_alloc _ _ _ hb]
      have hb3 : Below wr.heap.size wr W3 := by rw [← eW3]; exact ((Below.refl _ _).alloc (Nat.le_refl _) _).alloc (by simp) _
      have HBR3 := Lib.hid (HBR.out.trans (hb3.mono hzr))
      have HTD3 : Hid (TdsAt W3 W0.heap.size u6 ms) := ⟨own_keep HTD.out.row fun g e => hk3 g (World.ownsRow.lt HTD.out.row g e).2, fun m hm => own_keep (HTD.out.ts m hm) fun g e => hk3 g (World.ownsRow.lt (HTD.out.ts m hm) g e).2⟩
      have HGN : Hid (∀ g, u6.ownBlock = some g → g < eb) := fun g e => by have := (World.ownsRow.lt HTD.out.row g e).2; omega
      have HX3 := Lib.hid hx3
      have HT3 := Lib.hid ht3
      have HEW3 := Lib.hid eW3
      have HEB := Lib.hid eeb
      clear hk3 hb3 hx3 ht3 eW3 HTD
      go_upto_region 6 with fail
      rw [HEW3.out]
      have hebz : W0.heap.size ≤ eb := by have := HEB.out; omega
      have e0 : W3.cell? ⟨eb, 0, none⟩ = some (.int .i64 off) := (cell_of_row W3 _ 0 _ _ _ HX3.out).trans rfl
      have e1 : W3.cell? ⟨eb, 1, none⟩ = some (.string ru) := (cell_of_row W3 _ 1 _ _ _ HX3.out).trans rfl
      have hlt3 : eb + 1 < W3.heap.size := by omega
      have hge3 : W0.heap.size ≤ W3.heap.size := by omega
      clear hz3
      clear z0 z1 z2 z3 z4
      by_cases hru : ru.toList = []
      · have b0 : ru.toList.isEmpty = true := by rw [hru]; rfl
        obtain ⟨n1, n2⟩ := HNIL.out (by rw [← ByteArray.toList_eq]; exact hru)
        have HS1 := Lib.hid (HSN.out ⟨⟨⟨off, ru, sv, fm, un⟩, [], dashB⟩, .slice none 0 0⟩ n2.symm)
        have HF1 := Lib.hid (HN1.out n1)
        have y0 : W3.cell? ⟨eb + 1, 0, none⟩ = some (.int .i64 off) := (cell_of_row W3 _ 0 _ _ _ HT3.out).trans rfl
        have y1 : W3.cell? ⟨eb + 1, 1, none⟩ = some (.string ru) := (cell_of_row W3 _ 1 _ _ _ HT3.out).trans rfl
        have y2 : W3.cell? ⟨eb + 1, 2, none⟩ = some (.int .i64 sv) := (cell_of_row W3 _ 2 _ _ _ HT3.out).trans rfl
        have y3 : W3.cell? ⟨eb + 1, 3, none⟩ = some (.string fm) := (cell_of_row W3 _ 3 _ _ _ HT3.out).trans rfl
        have y4 : W3.cell? ⟨eb + 1, 4, none⟩ = some (.int .i64 un) := (cell_of_row W3 _ 4 _ _ _ HT3.out).trans rfl
        have y5 : W3.cell? ⟨eb + 1, 5, none⟩ = some (.slice none 0 0) := (cell_of_row W3 _ 5 _ _ _ HT3.out).trans rfl
        have y6 : W3.cell? ⟨eb + 1, 6, none⟩ = some (.string ⟨#[45]⟩) := (cell_of_row W3 _ 6 _ _ _ HT3.out).trans rfl
        clear hru n1 n2 HNIL HGO HSN HN1 HB1 HMS HFE
        obtain ⟨A, cS, rfl⟩ := own_sliceN HTD3.out.row
        have HML : ms.length + 1 ≤ maxLen := by simp only [maxLen]; omega
        have HMB : (ms.length + 1) * 96 ≤ 140737488355328 := by omega
        have HROW := Lib.hid (World.ownsRow.alloc HTD3.out.row (.cells #[.int .i64 off, .string ru, .int .i64 sv, .string fm, .int .i64 un, .slice none 0 0, .string ⟨#[45]⟩] 89))
        have HNEW := Lib.hid (World.news_of_block (cs := #[.int .i64 off, .string ru, .int .i64 sv, .string fm, .int .i64 un, .slice none 0 0, .string ⟨#[45]⟩]) (t := 89) (fr := (0, 0)) (heap_alloc_new W3 (.cells #[.int .i64 off, .string ru, .int .i64 sv, .string fm, .int .i64 un, .slice none 0 0, .string ⟨#[45]⟩] 89)))
        have HSZ : W0.heap.size ≤ (W3.alloc (.cells #[.int .i64 off, .string ru, .int .i64 sv, .string fm, .int .i64 un, .slice none 0 0, .string ⟨#[45]⟩] 89)).heap.size := by have := HBR3.out.size; simp; omega
        go_wp2_with (at_builtin; refine wpList_append_own _ rfl _ _ 85 rfl W0.heap.size 89 i1 (.agg #[.int .i64 0, .string ⟨#[]⟩, .int .i64 0, .string ⟨#[]⟩, .int .i64 0, .slice none 0 0, .string ⟨#[]⟩]) 7 96 undTd hi1 hz10 hz11 hz12 rfl (by decide) _ _ _ rfl HROW.out ⟨W3.heap.size, 0, none⟩ 1 1 [.int .i64 off, .string ru, .int .i64 sv, .string fm, .int .i64 un, .slice none 0 0, .string ⟨#[45]⟩] rfl rfl HNEW.out (by simp [Value.oneCell']) HML HMB HSZ ?_; intro v' w10 hown10 hgrow10 _)
        go_roundw
        case rel =>
          refine ⟨k + 1, ms ++ [⟨⟨⟨off, ru, sv, fm, un⟩, [], dashB⟩, .slice none 0 0⟩], by omega, by go_num, HS1, HF1, ⟨?_, ?_⟩, ?_⟩
          · show World.ownsRow _ _ _ _ _ _ _
            rw [tmFlat_snoc, List.length_append]
            exact hown10
          · intro m hm
            rcases List.mem_append.1 hm with hm | hm
            · exact own_grown (World.ownsRow.alloc (HTD3.out.ts m hm) _) HROW.out (by decide) hgrow10
            · obtain rfl := List.mem_singleton.1 hm
              exact own_grown (World.ownsRow.alloc (World.ownsRow_nil _ _ _ _) _) HROW.out (by decide) hgrow10
          · exact ((HBR3.out.alloc HBR3.out.size _).grown hgrow10 HSZ fun q hq => (World.ownsRow.lt HROW.out q hq).1)
        case measure => simp [intOf]; omega
      · have b0 : ru.toList.isEmpty = false := by
          cases e : ru.toList with
          | nil => exact absurd e hru
          | cons c r => rfl
        obtain ⟨n1, n2⟩ := HGO.out (by rw [← ByteArray.toList_eq]; exact hru)
        rw [n1] at HB1 HN1
        have HSN2 : Hid (∀ m : TdM, m.td = ⟨⟨off, ru, sv, fm, un⟩, (mkR rules ru off).2, firstLt (mkR rules ru off).2⟩ → (ms ++ [m]).map (·.td) = (l.take (k + 1)).map (tdR rules)) := by
          show ∀ m : TdM, _
          intro m hm
          exact HSN.out m (by rw [n2]; exact hm)
        have HBW3 := Lib.hid (HB0.out.trans (HBR3.out.mono HB0.out.size))
        have g0 : W3.cell? ⟨w.heap.size, 0, none⟩ = some (.slice p1 rules.length c1) := (cell_of_row W3 _ 0 _ _ _ ((HBR3.out.block w.heap.size (by omega)).trans HBX.out)).trans rfl
        have HMK3 := Lib.hid (HMK.out W3 ru off HBW3.out hoff.1 hoff.2)
        have HLN := HLEN.out ru off
        clear hru n1 n2 HNIL HGO HSN HMS HFE
        go_wp2_with fail
        refine HMK3.out.mono ?_
        rintro e w4 ⟨vo, rfl, hrow4, hb4⟩
        obtain ⟨C, eC⟩ : ∃ C, (mkR rules ru off).1 = C := ⟨_, rfl⟩
        obtain ⟨L, eL⟩ : ∃ L, (mkR rules ru off).2 = L := ⟨_, rfl⟩
        rw [eC] at HB1 HN1 ⊢
        rw [eL] at HSN2 HLN hrow4
        have HBR4 := Lib.hid (HBR3.out.trans (hb4.mono HBR3.out.size))
        have ht4 := (hb4.block (eb + 1) hlt3).trans HT3.out
        have HT4 := Lib.hid ht4
        have hz4 : W3.heap.size ≤ w4.heap.size := hb4.size
        have HTD4 : Hid (TdsAt w4 W0.heap.size u6 ms) := ⟨own_keep HTD3.out.row fun g e => hb4.block g (World.ownsRow.lt HTD3.out.row g e).2, fun m hm => own_keep (HTD3.out.ts m hm) fun g e => hb4.block g (World.ownsRow.lt (HTD3.out.ts m hm) g e).2⟩
        have HR4 := Lib.hid (own_base hrow4 HBR3.out.size)
        obtain ⟨Av, cV, rfl⟩ := own_sliceN hrow4
        clear hb4 ht4 hrow4 HMK3 HTD3 HT3 eC eL e0 e1 g0
        by_cases hC : C = 0
        case neg =>
          have HBD := Lib.hid (HB1.out hC)
          have hz : (C == 0) = false := by simpa using hC
          have hz2 : (!C == 0) = true := by rw [hz]; rfl
          have HCN := Lib.hid hC
          clear hC
          go_wp2_with fail
          go_ret2
          exact ErasPost.bad HBD.out HCN.out (HB0.out.trans (HBR4.out.mono HB0.out.size))
        case pos =>
        subst hC
        have HF1 := Lib.hid (HN1.out rfl)
        obtain ⟨W5, e5⟩ : ∃ W5, w4.setCell ⟨eb + 1, 5, none⟩ (.slice Av L.length cV) = W5 := ⟨_, rfl⟩
        have hk5 : ∀ b, b ≠ eb + 1 → W5.heap[b]? = w4.heap[b]? := fun b hb => by rw [← e5]; exact Below.heap_setCell _ _ _ _ hb
        have hz5 : W5.heap.size = w4.heap.size := by rw [← e5]; simp [World.setCell]
        have ht5 : W5.heap[eb + 1]? = some (.cells #[.int .i64 off, .string ru, .int .i64 sv, .string fm, .int .i64 un, .slice Av L.length cV, .string ⟨#[45]⟩] 89 (0, 0)) := by
          rw [← e5]
          exact (heap_setSt HT4.out (i := 5) (.slice Av L.length cV)).trans rfl
        have hb5 : Below W0.heap.size w4 W5 := by rw [← e5]; exact (Below.refl _ _).setCell (by show W0.heap.size ≤ eb + 1; omega) _
        have HBR5 := Lib.hid (HBR4.out.trans hb5)
        have own5 : ∀ {e : TypeId} {s n : Nat} {v : Value} {xs : List Value}, e ≠ 89 → w4.ownsRow W0.heap.size e s v n xs → W5.ownsRow W0.heap.size e s v n xs := fun {e s n v xs} he h => own_keep h fun g eg => hk5 g fun e2 => own_type h HT4.out he (by rw [eg, e2])
        have hneR : ∀ g, u6.ownBlock = some g → g ≠ eb + 1 := fun g eg e2 => by have := HGN.out g eg; omega
        have HTD5 : Hid (TdsAt W5 W0.heap.size u6 ms) := ⟨own_keep HTD4.out.row fun g eg => hk5 g (hneR g eg), fun m hm => own5 (by decide) (HTD4.out.ts m hm)⟩
        have HR5 := Lib.hid (own5 (by decide) HR4.out)
        have HT5 := Lib.hid ht5
        have HE5 := Lib.hid e5
        have HIX := Lib.hid (IdxTn_any L _ W5 (own_rowsT HR5.out (by omega)))
        have y5w : w4.frozen? ⟨eb + 1, 5, none⟩ = false := by simp [World.frozen?, HT4.out]
        have y5c : w4.cell? ⟨eb + 1, 5, none⟩ = some (.slice none 0 0) := (cell_of_row w4 _ 5 _ _ _ HT4.out).trans rfl
        clear hk5 ht5 hb5 own5 hneR HTD4 HR4 HB1 HN1 e5
        go_upto_region 11 with fail
        rw [HE5.out]
        go_wp2_with fail
        refine HIX.out.mono ?_
        rintro e w6 ⟨rfl, hb6⟩
        have HBR6 := Lib.hid (HBR5.out.trans (hb6.mono HBR5.out.size))
        have hlt5 : eb + 1 < W5.heap.size := by omega
        have HT6 := Lib.hid ((hb6.block (eb + 1) hlt5).trans HT5.out)
        have HTD6 : Hid (TdsAt w6 W0.heap.size u6 ms) := ⟨own_keep HTD5.out.row fun g e => hb6.block g (World.ownsRow.lt HTD5.out.row g e).2, fun m hm => own_keep (HTD5.out.ts m hm) fun g e => hb6.block g (World.ownsRow.lt (HTD5.out.ts m hm) g e).2⟩
        have HR6 := Lib.hid (own_keep HR5.out fun g e => hb6.block g (World.ownsRow.lt HR5.out g e).2)
        have hz6 : W5.heap.size ≤ w6.heap.size := hb6.size
        have y0 : w6.cell? ⟨eb + 1, 0, none⟩ = some (.int .i64 off) := (cell_of_row w6 _ 0 _ _ _ HT6.out).trans rfl
        have y1 : w6.cell? ⟨eb + 1, 1, none⟩ = some (.string ru) := (cell_of_row w6 _ 1 _ _ _ HT6.out).trans rfl
        have y2 : w6.cell? ⟨eb + 1, 2, none⟩ = some (.int .i64 sv) := (cell_of_row w6 _ 2 _ _ _ HT6.out).trans rfl
        have y3 : w6.cell? ⟨eb + 1, 3, none⟩ = some (.string fm) := (cell_of_row w6 _ 3 _ _ _ HT6.out).trans rfl
        have y4 : w6.cell? ⟨eb + 1, 4, none⟩ = some (.int .i64 un) := (cell_of_row w6 _ 4 _ _ _ HT6.out).trans rfl
        have y5 : w6.cell? ⟨eb + 1, 5, none⟩ = some (.slice Av L.length cV) := (cell_of_row w6 _ 5 _ _ _ HT6.out).trans rfl
        have y6 : w6.cell? ⟨eb + 1, 6, none⟩ = some (.string ⟨#[45]⟩) := (cell_of_row w6 _ 6 _ _ _ HT6.out).trans rfl
        clear hb6 HTD5 HR5 HT5 HT4 HIX y5w y5c
        rcases firstLt_idx L with ⟨i1x, f1⟩ | ⟨j, hj, i1x, f1⟩
        · rw [i1x]
          have HS1 := Lib.hid (HSN2.out ⟨⟨⟨off, ru, sv, fm, un⟩, L, dashB⟩, .slice Av L.length cV⟩ (by rw [← f1]))
          clear i1x f1 HSN2
          obtain ⟨A, cS, rfl⟩ := own_sliceN HTD6.out.row
          have HML : ms.length + 1 ≤ maxLen := by simp only [maxLen]; omega
          have HMB : (ms.length + 1) * 96 ≤ 140737488355328 := by omega
          have HROW := Lib.hid (World.ownsRow.alloc HTD6.out.row (.cells #[.int .i64 off, .string ru, .int .i64 sv, .string fm, .int .i64 un, .slice Av L.length cV, .string ⟨#[45]⟩] 89))
          have HNEW := Lib.hid (World.news_of_block (cs := #[.int .i64 off, .string ru, .int .i64 sv, .string fm, .int .i64 un, .slice Av L.length cV, .string ⟨#[45]⟩]) (t := 89) (fr := (0, 0)) (heap_alloc_new w6 (.cells #[.int .i64 off, .string ru, .int .i64 sv, .string fm, .int .i64 un, .slice Av L.length cV, .string ⟨#[45]⟩] 89)))
          have HSZ : W0.heap.size ≤ (w6.alloc (.cells #[.int .i64 off, .string ru, .int .i64 sv, .string fm, .int .i64 un, .slice Av L.length cV, .string ⟨#[45]⟩] 89)).heap.size := by have := HBR6.out.size; simp; omega
          go_wp2_with (at_builtin; refine wpList_append_own _ rfl _ _ 85 rfl W0.heap.size 89 i1 (.agg #[.int .i64 0, .string ⟨#[]⟩, .int .i64 0, .string ⟨#[]⟩, .int .i64 0, .slice none 0 0, .string ⟨#[]⟩]) 7 96 undTd hi1 hz10 hz11 hz12 rfl (by decide) _ _ _ rfl HROW.out ⟨w6.heap.size, 0, none⟩ 1 1 [.int .i64 off, .string ru, .int .i64 sv, .string fm, .int .i64 un, .slice Av L.length cV, .string ⟨#[45]⟩] rfl rfl HNEW.out (by simp [Value.oneCell']) HML HMB HSZ ?_; intro v' w10 hown10 hgrow10 _)
          go_roundw
          case rel =>
            refine ⟨k + 1, ms ++ [⟨⟨⟨off, ru, sv, fm, un⟩, L, dashB⟩, .slice Av L.length cV⟩], by omega, by go_num, HS1, HF1, ⟨?_, ?_⟩, ?_⟩
            · show World.ownsRow _ _ _ _ _ _ _
              rw [tmFlat_snoc, List.length_append]
              exact hown10
            · intro m hm
              rcases List.mem_append.1 hm with hm | hm
              · exact own_grown (World.ownsRow.alloc (HTD6.out.ts m hm) _) HROW.out (by decide) hgrow10
              · obtain rfl := List.mem_singleton.1 hm
                exact own_grown (World.ownsRow.alloc HR6.out _) HROW.out (by decide) hgrow10
            · exact ((HBR6.out.alloc HBR6.out.size _).grown hgrow10 HSZ fun q hq => (World.ownsRow.lt HROW.out q hq).1)
          case measure => simp [intOf]; omega
        · rw [i1x]
          obtain ⟨lt, elt⟩ : ∃ lt, L[j].lt = lt := ⟨_, rfl⟩
          have HS1 := Lib.hid (HSN2.out ⟨⟨⟨off, ru, sv, fm, un⟩, L, lt⟩, .slice Av L.length cV⟩ (by rw [← elt, ← f1]))
          obtain ⟨pt, ct, et, -, hrt⟩ := own_rowsT HR6.out (by omega)
          simp only [Value.slice.injEq, true_and] at et
          obtain ⟨rfl, rfl⟩ := et
          obtain ⟨bt, ot, rfl, hblt, hct⟩ := hrt (List.ne_nil_of_length_pos (by omega))
          have k2 := hct j hj 2 _ rfl
          rw [elt] at k2
          have hjz : (j : Int) < (L.length : Int) := by omega
          obtain ⟨W7, e7⟩ : ∃ W7, w6.setCell ⟨eb + 1, 6, none⟩ (.string lt) = W7 := ⟨_, rfl⟩
          have hk7 : ∀ b, b ≠ eb + 1 → W7.heap[b]? = w6.heap[b]? := fun b hb => by rw [← e7]; exact Below.heap_setCell _ _ _ _ hb
          have hz7 : W7.heap.size = w6.heap.size := by rw [← e7]; simp [World.setCell]
          have ht7 : W7.heap[eb + 1]? = some (.cells #[.int .i64 off, .string ru, .int .i64 sv, .string fm, .int .i64 un, .slice (some ⟨bt, ot, none⟩) L.length cV, .string lt] 89 (0, 0)) := by
            rw [← e7]
            exact (heap_setSt HT6.out (i := 6) (.string lt)).trans rfl
          have hb7 : Below W0.heap.size w6 W7 := by rw [← e7]; exact (Below.refl _ _).setCell (by show W0.heap.size ≤ eb + 1; omega) _
          have HBR7 := Lib.hid (HBR6.out.trans hb7)
          have own7 : ∀ {e : TypeId} {s n : Nat} {v : Value} {xs : List Value}, e ≠ 89 → w6.ownsRow W0.heap.size e s v n xs → W7.ownsRow W0.heap.size e s v n xs := fun {e s n v xs} he h => own_keep h fun g eg => hk7 g fun e2 => own_type h HT6.out he (by rw [eg, e2])
          have HTD7 : Hid (TdsAt W7 W0.heap.size u6 ms) := ⟨own_keep HTD6.out.row fun g eg => hk7 g fun e2 => by have := HGN.out g eg; omega, fun m hm => own7 (by decide) (HTD6.out.ts m hm)⟩
          have HR7 := Lib.hid (own7 (by decide) HR6.out)
          have HE7 := Lib.hid e7
          have y6f : w6.frozen? ⟨eb + 1, 6, none⟩ = false := by simp [World.frozen?, HT6.out]
          have HT7 := Lib.hid ht7
          clear i1x f1 HSN2 hct hrt hk7 ht7 hb7 own7 HTD6 HR6 HT6 e7 elt hz7
          go_upto_region 14 with fail
          rw [HE7.out]
          clear y0 y1 y2 y3 y4 y5 y6
          have y0 : W7.cell? ⟨eb + 1, 0, none⟩ = some (.int .i64 off) := (cell_of_row W7 _ 0 _ _ _ HT7.out).trans rfl
          have y1 : W7.cell? ⟨eb + 1, 1, none⟩ = some (.string ru) := (cell_of_row W7 _ 1 _ _ _ HT7.out).trans rfl
          have y2 : W7.cell? ⟨eb + 1, 2, none⟩ = some (.int .i64 sv) := (cell_of_row W7 _ 2 _ _ _ HT7.out).trans rfl
          have y3 : W7.cell? ⟨eb + 1, 3, none⟩ = some (.string fm) := (cell_of_row W7 _ 3 _ _ _ HT7.out).trans rfl
          have y4 : W7.cell? ⟨eb + 1, 4, none⟩ = some (.int .i64 un) := (cell_of_row W7 _ 4 _ _ _ HT7.out).trans rfl
          have y5 : W7.cell? ⟨eb + 1, 5, none⟩ = some (.slice (some ⟨bt, ot, none⟩) L.length cV) := (cell_of_row W7 _ 5 _ _ _ HT7.out).trans rfl
          have y6 : W7.cell? ⟨eb + 1, 6, none⟩ = some (.string lt) := (cell_of_row W7 _ 6 _ _ _ HT7.out).trans rfl
          obtain ⟨A, cS, rfl⟩ := own_sliceN HTD7.out.row
          have HML : ms.length + 1 ≤ maxLen := by simp only [maxLen]; omega
          have HMB : (ms.length + 1) * 96 ≤ 140737488355328 := by omega
          have HROW := Lib.hid (World.ownsRow.alloc HTD7.out.row (.cells #[.int .i64 off, .string ru, .int .i64 sv, .string fm, .int .i64 un, .slice (some ⟨bt, ot, none⟩) L.length cV, .string lt] 89))
          have HNEW := Lib.hid (World.news_of_block (cs := #[.int .i64 off, .string ru, .int .i64 sv, .string fm, .int .i64 un, .slice (some ⟨bt, ot, none⟩) L.length cV, .string lt]) (t := 89) (fr := (0, 0)) (heap_alloc_new W7 (.cells #[.int .i64 off, .string ru, .int .i64 sv, .string fm, .int .i64 un, .slice (some ⟨bt, ot, none⟩) L.length cV, .string lt] 89)))
          have HSZ : W0.heap.size ≤ (W7.alloc (.cells #[.int .i64 off, .string ru, .int .i64 sv, .string fm, .int .i64 un, .slice (some ⟨bt, ot, none⟩) L.length cV, .string lt] 89)).heap.size := by have := HBR7.out.size; simp; omega
          go_wp2_with (at_builtin; refine wpList_append_own _ rfl _ _ 85 rfl W0.heap.size 89 i1 (.agg #[.int .i64 0, .string ⟨#[]⟩, .int .i64 0, .string ⟨#[]⟩, .int .i64 0, .slice none 0 0, .string ⟨#[]⟩]) 7 96 undTd hi1 hz10 hz11 hz12 rfl (by decide) _ _ _ rfl HROW.out ⟨W7.heap.size, 0, none⟩ 1 1 [.int .i64 off, .string ru, .int .i64 sv, .string fm, .int .i64 un, .slice (some ⟨bt, ot, none⟩) L.length cV, .string lt] rfl rfl HNEW.out (by simp [Value.oneCell']) HML HMB HSZ ?_; intro v' w10 hown10 hgrow10 _)
          go_roundw
          case rel =>
            refine ⟨k + 1, ms ++ [⟨⟨⟨off, ru, sv, fm, un⟩, L, lt⟩, .slice (some ⟨bt, ot, none⟩) L.length cV⟩], by omega, by go_num, HS1, HF1, ⟨?_, ?_⟩, ?_⟩
            · show World.ownsRow _ _ _ _ _ _ _
              rw [tmFlat_snoc, List.length_append]
              exact hown10
            · intro m hm
              rcases List.mem_append.1 hm with hm | hm
              · exact own_grown (World.ownsRow.alloc (HTD7.out.ts m hm) _) HROW.out (by decide) hgrow10
              · obtain rfl := List.mem_singleton.1 hm
                exact own_grown (World.ownsRow.alloc HR7.out _) HROW.out (by decide) hgrow10
            · exact ((HBR7.out.alloc HBR7.out.size _).grown hgrow10 HSZ fun q hq => (World.ownsRow.lt HROW.out q hq).1)
          case measure => simp [intOf]; omega
    · obtain rfl : k = l.length := by omega
      have hms := HMS.out
      have hfe := HFE.out
      rw [List.take_length] at hms hfe
      have HEND := Lib.hid (ErasPost.ok (v := u6) hfe hms ⟨own_base HTD.out.row HB0.out.size, fun m hm => own_base (HTD.out.ts m hm) HB0.out.size⟩ (HB0.out.trans (HBR.out.mono HB0.out.size)))
      obtain ⟨A, cS, rfl⟩ := own_sliceN HTD.out.row
      clear hms hfe HMS HFE HTD
      go_wp2_with fail
      go_ret2
      exact HEND.out
end Go.Proofs.YthggojpdcgcmaaaGreatDoor
namespace Go.Proofs.YthggojpdcgcmaaaGreatDoor
open Go.RowKit
set_option linter.unusedVariables false
set_option linter.unusedSimpArgs false

def wiB (n a b : Int) : Bool := decide (a ≤ n ∧ n ≤ b)
theorem tab_within (n a b : Int) (w : World) :
    Calls Tryz.prog 46 #[.int .i64 n, .int .i64 a, .int .i64 b] w fun e w' => e = .returned (.bool (wiB n a b)) ∧ w = w' := by
  by_cases h1 : a ≤ n <;> by_cases h2 : n ≤ b <;>
  · go_enter Tryz.func46, Tryz.ntmps46
    go_wp2
    go_ret
    exact ⟨ret_bool' (by simp [wiB, h1, h2]), rfl⟩

theorem okOff_wi (x : Int) : okOff x = wiB x (-75600) 75600 := rfl
theorem okTime_wi (x : Int) : okTime x = wiB x (-1099511627776) 1099511627776 := rfl
theorem okIdx_wi (l x : Int) : okIdx l x = wiB x 0 l := rfl

theorem Check_big (t : Tab) (v : Value) (w : World) (hv : TabAt w v t) (hbig : big t = true) :
    Calls Tryz.prog 23 #[v] w fun e w' => e = .returned (.int .i64 (chk t)) ∧ Below w.heap.size w w' := by
  obtain ⟨sv, cv, rfl, ⟨⟨p, cap, rfl, hs⟩, hl1, hnm⟩, ⟨⟨p2, cap2, rfl, hc⟩, hl2⟩⟩ := hv.val
  have hk : Hid (chk t = 2) := by show _ = _; unfold chk; rw [if_pos hbig]
  simp only [big, decide_eq_true_eq] at hbig
  clear hs hc hnm
  by_cases h1 : (250 : Int) < t.types.length
  · go_enter Tryz.func23, Tryz.ntmps23
    go_wp2
    go_ret
    exact ⟨ret_int' hk.out.symm, (Below.refl _ _).alloc (Nat.le_refl _) _⟩
  · have h2 : (1000 : Int) < t.chs.length := by omega
    go_enter Tryz.func23, Tryz.ntmps23
    go_wp2
    go_ret
    exact ⟨ret_int' hk.out.symm, (Below.refl _ _).alloc (Nat.le_refl _) _⟩

theorem Check_none (t : Tab) (v : Value) (w : World) (hv : TabAt w v t) (hbig : big t = false) (hn : t.types = []) :
    Calls Tryz.prog 23 #[v] w fun e w' => e = .returned (.int .i64 (chk t)) ∧ Below w.heap.size w w' := by
  obtain ⟨sv, cv, rfl, ⟨⟨p, cap, rfl, hs⟩, hl1, hnm⟩, ⟨⟨p2, cap2, rfl, hc⟩, hl2⟩⟩ := hv.val
  have hk : Hid (chk t = 5) := by show _ = _; unfold chk; rw [if_neg (by simp [hbig]), if_pos hn]
  simp only [big, decide_eq_false_iff_not] at hbig
  have e0 : t.types.length = 0 := by rw [hn]; rfl
  have h2 : ¬ (1000 : Int) < t.chs.length := by omega
  clear hs hc hnm hbig hn hv
  rw [e0]
  go_enter Tryz.func23, Tryz.ntmps23
  go_wp2
  go_ret
  exact ⟨ret_int' hk.out.symm, (Below.refl _ _).alloc (Nat.le_refl _) _⟩

end Go.Proofs.YthggojpdcgcmaaaGreatDoor
namespace Go.Proofs.YthggojpdcgcmaaaGreatDoor
open Go.RowKit
set_option linter.unusedVariables false
set_option linter.unusedSimpArgs false

theorem tyAt.mono {w w' : World} {B b o : Nat} {x : Ty} (h : tyAt w b o x) (hb : Below B w w') (hlt : b < B) : tyAt w' b o x :=
  ⟨(hb.cell (p := ⟨b, o, none⟩) hlt).trans h.1, (hb.cell (p := ⟨b, o + 1, none⟩) hlt).trans h.2.1, (hb.cell (p := ⟨b, o + 2, none⟩) hlt).trans h.2.2⟩
theorem chAt.mono {w w' : World} {B b o : Nat} {x : Ch} (h : chAt w b o x) (hb : Below B w w') (hlt : b < B) : chAt w' b o x :=
  ⟨(hb.cell (p := ⟨b, o, none⟩) hlt).trans h.1, (hb.cell (p := ⟨b, o + 1, none⟩) hlt).trans h.2⟩
theorem bcellB {B : Nat} {W w1 : World} (hb : Below B W w1) : (∀ b o, b < B → w1.cell? ⟨b, o, none⟩ = W.cell? ⟨b, o, none⟩) ∧ (∀ b o, b < B → w1.frozen? ⟨b, o, none⟩ = W.frozen? ⟨b, o, none⟩) :=
  ⟨fun b o h => hb.cell (p := ⟨b, o, none⟩) h, fun b o h => hb.frozen (p := ⟨b, o, none⟩) h⟩
theorem chk_types (t : Tab) (hbig : big t = false) (hn : t.types ≠ []) (h : chkTypes t.types ≠ 0) : chk t = chkTypes t.types := by
  unfold chk; rw [if_neg (by simp [hbig]), if_neg hn, if_neg h]
theorem chk_first (t : Tab) (hbig : big t = false) (hn : t.types ≠ []) (h : chkTypes t.types = 0) (hf : okIdx ((t.types.length : Int) - 1) t.first = false) : chk t = 1 := by
  unfold chk; rw [if_neg (by simp [hbig]), if_neg hn, if_pos h, if_neg (by simp [hf])]
theorem chk_chs (t : Tab) (hbig : big t = false) (hn : t.types ≠ []) (h : chkTypes t.types = 0) (hf : okIdx ((t.types.length : Int) - 1) t.first = true) : chk t = chkChs ((t.types.length : Int) - 1) none t.chs := by
  unfold chk; rw [if_neg (by simp [hbig]), if_neg hn, if_pos h, if_pos hf]

set_option maxHeartbeats 4000000 in
theorem Check_nochs (l : List Ty) (f : Int) (m : List Ch) (b o cap cap2 : Nat) (p2 : Option Addr) (w : World) (hb : b < w.heap.size) (hty : ∀ i (h : i < l.length), tyAt w b (o + i * 3) l[i]) (hnm : ∀ x ∈ l, x.name.size ≤ maxLen)
    (hbig : big ⟨l, f, m⟩ = false) (hn : l ≠ []) (hm : m = []) :
    Calls Tryz.prog 23 #[.agg #[.slice (some ⟨b, o, none⟩) l.length cap, .int .i64 f, .slice p2 m.length cap2]] w fun e w' => e = .returned (.int .i64 (chk ⟨l, f, m⟩)) ∧ Below w.heap.size w w' := by
  have ht1 : Hid (chkTypes l ≠ 0 → chk ⟨l, f, m⟩ = chkTypes l) := chk_types ⟨l, f, m⟩ hbig hn
  have ht2 : Hid (chkTypes l = 0 → okIdx ((l.length : Int) - 1) f = false → chk ⟨l, f, m⟩ = 1) := chk_first ⟨l, f, m⟩ hbig hn
  have ht3 : Hid (chkTypes l = 0 → okIdx ((l.length : Int) - 1) f = true → chk ⟨l, f, m⟩ = chkChs ((l.length : Int) - 1) none m) := chk_chs ⟨l, f, m⟩ hbig hn
  have HTY := Lib.hid hty
  have HNM := Lib.hid hnm
  have E0 : Hid (m.length = 0) := by show m.length = 0; rw [hm]; rfl
  have HM := Lib.hid hm
  have hpos : 0 < l.length := List.length_pos_iff.2 hn
  simp only [big, decide_eq_false_iff_not] at hbig
  have hN : ¬ (250 : Int) < l.length := by omega
  have hM : ¬ (1000 : Int) < m.length := by omega
  have hN' : l.length ≤ 250 := by omega
  have hM' : m.length ≤ 1000 := by omega
  have hz : ((l.length : Int) == 0) = false := by simp; omega
  obtain ⟨R, eR⟩ : ∃ R : Int, chk ⟨l, f, m⟩ = R := ⟨_, rfl⟩
  rw [eR]
  have ER := Lib.hid eR
  clear hty hnm hbig hn eR hm
  obtain ⟨w0, hw0⟩ : ∃ w0, w.alloc (.cells #[.slice (some ⟨b, o, none⟩) l.length cap, .int .i64 f, .slice p2 m.length cap2] 52) = w0 := ⟨_, rfl⟩
  have hbw : Below w.heap.size w w0 := by rw [← hw0]; exact (Below.refl _ _).alloc (Nat.le_refl _) _
  have hsz : w0.heap.size = w.heap.size + 1 := by rw [← hw0]; simp
  have hq0 : w0.cell? ⟨w.heap.size, 0, none⟩ = some (.slice (some ⟨b, o, none⟩) l.length cap) := by rw [← hw0]; simp [go_sem]
  have hq1 : w0.cell? ⟨w.heap.size, 1, none⟩ = some (.int .i64 f) := by rw [← hw0]; simp [go_sem]
  have hq2 : w0.cell? ⟨w.heap.size, 2, none⟩ = some (.slice p2 m.length cap2) := by rw [← hw0]; simp [go_sem]
  have HW0 := Lib.hid hw0
  have HSZ := Lib.hid hsz
  clear hw0 hsz
  have HQ0 := Lib.hid hq0
  have HQ1 := Lib.hid hq1
  have HQ2 := Lib.hid hq2
  clear hq0 hq1 hq2
  go_enter Tryz.func23, Tryz.ntmps23
  go_wp2
  go_loopw [27] (fun i wr => ∃ k : Nat, k ≤ l.length ∧ i = .int .i64 k ∧ Below (w.heap.size + 1) (w.alloc (.cells #[.slice (some ⟨b, o, none⟩) l.length cap, .int .i64 f, .slice p2 m.length cap2] 52)) wr ∧ chkTypes l = chkTypes (l.drop k)) (fun i _ => l.length - (intOf i).toNat)
  case atStart => exact ⟨0, Nat.zero_le _, rfl, Below.refl _ _, rfl⟩
  case round =>
    obtain ⟨k, hk, rfl, hbel, hch⟩ := hrel
    rw [HW0.out] at hbel
    have HCH := Lib.hid hch
    clear hch
    by_cases hlt : k < l.length
    · obtain ⟨x, ex⟩ : ∃ x, l[k] = x := ⟨_, rfl⟩
      have hat := ((HTY.out k hlt).mono hbw hb).mono hbel (by omega)
      have hnx := HNM.out l[k] (List.getElem_mem hlt)
      rw [ex] at hat hnx
      obtain ⟨c0, c1, c2⟩ := hat
      have EX := Lib.hid ex
      clear ex
      cases ho : wiB x.off (-75600) 75600
      · have hr : Hid (R = 1) := by
          have h1 := chkTypes_off l k hlt (by rw [EX.out]; exact ho)
          have h2 : chkTypes l = 1 := by rw [HCH.out, h1]
          have h3 := ht1.out (by rw [h2]; decide)
          show R = 1
          rw [← ER.out, h3, h2]
        go_wp2_with (first | (go_at_call 46; refine (tab_within _ _ _ _).mono ?_; rintro e w' ⟨rfl, rfl⟩))
        go_ret
        exact ⟨ret_int' hr.out.symm, hbw.trans ((hbel.mono (by omega)).alloc (by have := hbel.size; have := HSZ.out; omega) _)⟩
      · cases ha : abbrB x.name
        · have hr : Hid (R = 3) := by
            have h1 := chkTypes_abbr l k hlt (by rw [EX.out]; exact ho) (by rw [EX.out]; exact ha)
            have h2 : chkTypes l = 3 := by rw [HCH.out, h1]
            have h3 := ht1.out (by rw [h2]; decide)
            show R = 3
            rw [← ER.out, h3, h2]
          go_wp2_with (first | (go_at_call 46; refine (tab_within _ _ _ _).mono ?_; rintro e w' ⟨rfl, rfl⟩) | (go_at_call 47; refine (isAbbr_any _ _ hnx).mono ?_; rintro e w' ⟨rfl, rfl⟩))
          go_ret
          exact ⟨ret_int' hr.out.symm, hbw.trans ((hbel.mono (by omega)).alloc (by have := hbel.size; have := HSZ.out; omega) _)⟩
        · have hstep : Hid (chkTypes l = chkTypes (l.drop (k + 1))) := by
            show _ = _
            rw [HCH.out, chkTypes_drop l k hlt (by rw [EX.out]; exact ho) (by rw [EX.out]; exact ha)]
          go_wp2_with (first | (go_at_call 46; refine (tab_within _ _ _ _).mono ?_; rintro e w' ⟨rfl, rfl⟩) | (go_at_call 47; refine (isAbbr_any _ _ hnx).mono ?_; rintro e w' ⟨rfl, rfl⟩))
          go_roundw
          case rel => exact ⟨k + 1, by omega, by go_num, by rw [HW0.out]; exact hbel.alloc (by have := hbel.size; have := HSZ.out; omega) _, hstep.out⟩
          case measure => simp [intOf]; omega
    · obtain rfl : k = l.length := by omega
      have h0 : chkTypes l = 0 := by rw [HCH.out, List.drop_of_length_le (by omega)]; rfl
      have H0 := Lib.hid h0
      clear h0
      have hq0 := ((bcellB hbel).1 w.heap.size 0 (by omega)).trans HQ0.out
      have hq1 := ((bcellB hbel).1 w.heap.size 1 (by omega)).trans HQ1.out
      have hq2 := ((bcellB hbel).1 w.heap.size 2 (by omega)).trans HQ2.out
      cases hfi : wiB f 0 ((l.length : Int) - 1)
      · have hr : Hid (R = 1) := by
          show R = 1
          rw [← ER.out, ht2.out H0.out hfi]
        go_wp2_with (first | (go_at_call 46; refine (tab_within _ _ _ _).mono ?_; rintro e w' ⟨rfl, rfl⟩))
        go_ret
        exact ⟨ret_int' hr.out.symm, hbw.trans (hbel.mono (by omega))⟩
      · have hR : Hid (R = chkChs ((l.length : Int) - 1) none m) := by
          show R = _
          rw [← ER.out, ht3.out H0.out hfi]
        go_wp2_with (first | (go_at_call 46; refine (tab_within _ _ _ _).mono ?_; rintro e w' ⟨rfl, rfl⟩))
        go_loopw [52] (fun i w2 => ∃ k : Nat, k ≤ m.length ∧ i = .int .i64 k ∧ Below (w.heap.size + 1) (w.alloc (.cells #[.slice (some ⟨b, o, none⟩) l.length cap, .int .i64 f, .slice p2 m.length cap2] 52)) w2 ∧ chkChs ((l.length : Int) - 1) none m = chkChs ((l.length : Int) - 1) (prevOf m k) (m.drop k)) (fun i _ => m.length - (intOf i).toNat)
        case atStart => exact ⟨0, Nat.zero_le _, rfl, by rw [HW0.out]; exact hbel, rfl⟩
        case round =>
          obtain ⟨k, hk2, rfl, hbel2, hcc⟩ := hrel
          rw [HW0.out] at hbel2
          have HCC := Lib.hid hcc
          clear hcc
          by_cases hlt2 : k < m.length
          · have := E0.out; omega
          · obtain rfl : k = m.length := by omega
            have hr : Hid (R = 0) := by show R = 0; rw [hR.out, HCC.out, List.drop_of_length_le (by omega)]; cases prevOf m m.length <;> rfl
            go_wp2
            go_ret
            exact ⟨ret_int' hr.out.symm, hbw.trans (hbel2.mono (by omega))⟩

set_option maxHeartbeats 4000000 in
theorem Check_chs (l : List Ty) (f : Int) (m : List Ch) (b o cap b2 o2 cap2 : Nat) (w : World) (hb : b < w.heap.size) (hty : ∀ i (h : i < l.length), tyAt w b (o + i * 3) l[i]) (hnm : ∀ x ∈ l, x.name.size ≤ maxLen)
    (hbig : big ⟨l, f, m⟩ = false) (hn : l ≠ []) (hb2 : b2 < w.heap.size) (hch2 : ∀ i (h : i < m.length), chAt w b2 (o2 + i * 2) m[i]) :
    Calls Tryz.prog 23 #[.agg #[.slice (some ⟨b, o, none⟩) l.length cap, .int .i64 f, .slice (some ⟨b2, o2, none⟩) m.length cap2]] w fun e w' => e = .returned (.int .i64 (chk ⟨l, f, m⟩)) ∧ Below w.heap.size w w' := by
  have ht1 : Hid (chkTypes l ≠ 0 → chk ⟨l, f, m⟩ = chkTypes l) := chk_types ⟨l, f, m⟩ hbig hn
  have ht2 : Hid (chkTypes l = 0 → okIdx ((l.length : Int) - 1) f = false → chk ⟨l, f, m⟩ = 1) := chk_first ⟨l, f, m⟩ hbig hn
  have ht3 : Hid (chkTypes l = 0 → okIdx ((l.length : Int) - 1) f = true → chk ⟨l, f, m⟩ = chkChs ((l.length : Int) - 1) none m) := chk_chs ⟨l, f, m⟩ hbig hn
  have HTY := Lib.hid hty
  have HNM := Lib.hid hnm
  have HC := Lib.hid hch2
  have hpos : 0 < l.length := List.length_pos_iff.2 hn
  simp only [big, decide_eq_false_iff_not] at hbig
  have hN : ¬ (250 : Int) < l.length := by omega
  have hM : ¬ (1000 : Int) < m.length := by omega
  have hN' : l.length ≤ 250 := by omega
  have hM' : m.length ≤ 1000 := by omega
  have hz : ((l.length : Int) == 0) = false := by simp; omega
  obtain ⟨R, eR⟩ : ∃ R : Int, chk ⟨l, f, m⟩ = R := ⟨_, rfl⟩
  rw [eR]
  have ER := Lib.hid eR
  clear hty hnm hbig hn eR hch2
  obtain ⟨w0, hw0⟩ : ∃ w0, w.alloc (.cells #[.slice (some ⟨b, o, none⟩) l.length cap, .int .i64 f, .slice (some ⟨b2, o2, none⟩) m.length cap2] 52) = w0 := ⟨_, rfl⟩
  have hbw : Below w.heap.size w w0 := by rw [← hw0]; exact (Below.refl _ _).alloc (Nat.le_refl _) _
  have hsz : w0.heap.size = w.heap.size + 1 := by rw [← hw0]; simp
  have hq0 : w0.cell? ⟨w.heap.size, 0, none⟩ = some (.slice (some ⟨b, o, none⟩) l.length cap) := by rw [← hw0]; simp [go_sem]
  have hq1 : w0.cell? ⟨w.heap.size, 1, none⟩ = some (.int .i64 f) := by rw [← hw0]; simp [go_sem]
  have hq2 : w0.cell? ⟨w.heap.size, 2, none⟩ = some (.slice (some ⟨b2, o2, none⟩) m.length cap2) := by rw [← hw0]; simp [go_sem]
  have HW0 := Lib.hid hw0
  have HSZ := Lib.hid hsz
  clear hw0 hsz
  have HQ0 := Lib.hid hq0
  have HQ1 := Lib.hid hq1
  have HQ2 := Lib.hid hq2
  clear hq0 hq1 hq2
  go_enter Tryz.func23, Tryz.ntmps23
  go_wp2
  go_loopw [27] (fun i wr => ∃ k : Nat, k ≤ l.length ∧ i = .int .i64 k ∧ Below (w.heap.size + 1) (w.alloc (.cells #[.slice (some ⟨b, o, none⟩) l.length cap, .int .i64 f, .slice (some ⟨b2, o2, none⟩) m.length cap2] 52)) wr ∧ chkTypes l = chkTypes (l.drop k)) (fun i _ => l.length - (intOf i).toNat)
  case atStart => exact ⟨0, Nat.zero_le _, rfl, Below.refl _ _, rfl⟩
  case round =>
    obtain ⟨k, hk, rfl, hbel, hch⟩ := hrel
    rw [HW0.out] at hbel
    have HCH := Lib.hid hch
    clear hch
    by_cases hlt : k < l.length
    · obtain ⟨x, ex⟩ : ∃ x, l[k] = x := ⟨_, rfl⟩
      have hat := ((HTY.out k hlt).mono hbw hb).mono hbel (by omega)
      have hnx := HNM.out l[k] (List.getElem_mem hlt)
      rw [ex] at hat hnx
      obtain ⟨c0, c1, c2⟩ := hat
      have EX := Lib.hid ex
      clear ex
      cases ho : wiB x.off (-75600) 75600
      · have hr : Hid (R = 1) := by
          have h1 := chkTypes_off l k hlt (by rw [EX.out]; exact ho)
          have h2 : chkTypes l = 1 := by rw [HCH.out, h1]
          have h3 := ht1.out (by rw [h2]; decide)
          show R = 1
          rw [← ER.out, h3, h2]
        go_wp2_with (first | (go_at_call 46; refine (tab_within _ _ _ _).mono ?_; rintro e w' ⟨rfl, rfl⟩))
        go_ret
        exact ⟨ret_int' hr.out.symm, hbw.trans ((hbel.mono (by omega)).alloc (by have := hbel.size; have := HSZ.out; omega) _)⟩
      · cases ha : abbrB x.name
        · have hr : Hid (R = 3) := by
            have h1 := chkTypes_abbr l k hlt (by rw [EX.out]; exact ho) (by rw [EX.out]; exact ha)
            have h2 : chkTypes l = 3 := by rw [HCH.out, h1]
            have h3 := ht1.out (by rw [h2]; decide)
            show R = 3
            rw [← ER.out, h3, h2]
          go_wp2_with (first | (go_at_call 46; refine (tab_within _ _ _ _).mono ?_; rintro e w' ⟨rfl, rfl⟩) | (go_at_call 47; refine (isAbbr_any _ _ hnx).mono ?_; rintro e w' ⟨rfl, rfl⟩))
          go_ret
          exact ⟨ret_int' hr.out.symm, hbw.trans ((hbel.mono (by omega)).alloc (by have := hbel.size; have := HSZ.out; omega) _)⟩
        · have hstep : Hid (chkTypes l = chkTypes (l.drop (k + 1))) := by
            show _ = _
            rw [HCH.out, chkTypes_drop l k hlt (by rw [EX.out]; exact ho) (by rw [EX.out]; exact ha)]
          go_wp2_with (first | (go_at_call 46; refine (tab_within _ _ _ _).mono ?_; rintro e w' ⟨rfl, rfl⟩) | (go_at_call 47; refine (isAbbr_any _ _ hnx).mono ?_; rintro e w' ⟨rfl, rfl⟩))
          go_roundw
          case rel => exact ⟨k + 1, by omega, by go_num, by rw [HW0.out]; exact hbel.alloc (by have := hbel.size; have := HSZ.out; omega) _, hstep.out⟩
          case measure => simp [intOf]; omega
    · obtain rfl : k = l.length := by omega
      have h0 : chkTypes l = 0 := by rw [HCH.out, List.drop_of_length_le (by omega)]; rfl
      have H0 := Lib.hid h0
      clear h0
      have hq0 := ((bcellB hbel).1 w.heap.size 0 (by omega)).trans HQ0.out
      have hq1 := ((bcellB hbel).1 w.heap.size 1 (by omega)).trans HQ1.out
      have hq2 := ((bcellB hbel).1 w.heap.size 2 (by omega)).trans HQ2.out
      cases hfi : wiB f 0 ((l.length : Int) - 1)
      · have hr : Hid (R = 1) := by
          show R = 1
          rw [← ER.out, ht2.out H0.out hfi]
        go_wp2_with (first | (go_at_call 46; refine (tab_within _ _ _ _).mono ?_; rintro e w' ⟨rfl, rfl⟩))
        go_ret
        exact ⟨ret_int' hr.out.symm, hbw.trans (hbel.mono (by omega))⟩
      · have hR : Hid (R = chkChs ((l.length : Int) - 1) none m) := by
          show R = _
          rw [← ER.out, ht3.out H0.out hfi]
        go_wp2_with (first | (go_at_call 46; refine (tab_within _ _ _ _).mono ?_; rintro e w' ⟨rfl, rfl⟩))
        go_loopw [52] (fun i w2 => ∃ k : Nat, k ≤ m.length ∧ i = .int .i64 k ∧ Below (w.heap.size + 1) (w.alloc (.cells #[.slice (some ⟨b, o, none⟩) l.length cap, .int .i64 f, .slice (some ⟨b2, o2, none⟩) m.length cap2] 52)) w2 ∧ chkChs ((l.length : Int) - 1) none m = chkChs ((l.length : Int) - 1) (prevOf m k) (m.drop k)) (fun i _ => m.length - (intOf i).toNat)
        case atStart => exact ⟨0, Nat.zero_le _, rfl, by rw [HW0.out]; exact hbel, rfl⟩
        case round =>
          obtain ⟨k, hk2, rfl, hbel2, hcc⟩ := hrel
          rw [HW0.out] at hbel2
          have HCC := Lib.hid hcc
          clear hcc
          by_cases hlt2 : k < m.length
          · obtain ⟨x, ex⟩ : ∃ x, m[k] = x := ⟨_, rfl⟩
            have hat := ((HC.out k hlt2).mono hbw hb2).mono hbel2 (by omega)
            rw [ex] at hat
            obtain ⟨c0, c1⟩ := hat
            have EX := Lib.hid ex
            clear ex
            have hs2 := hbel2.size
            have hs0 := HSZ.out
            cases ho : wiB x.t (-1099511627776) 1099511627776
            · have hr : Hid (R = 1) := by
                show R = 1
                rw [hR.out, HCC.out, chkChs_bad _ m k hlt2 (by rw [EX.out, okTime_wi, ho]; rfl)]
              go_wp2_with (first | (go_at_call 46; refine (tab_within _ _ _ _).mono ?_; rintro e w' ⟨rfl, rfl⟩))
              go_ret
              exact ⟨ret_int' hr.out.symm, hbw.trans ((hbel2.mono (by omega)).alloc (by omega) _)⟩
            · cases hi : wiB x.k 0 ((l.length : Int) - 1)
              · have hr : Hid (R = 1) := by
                  show R = 1
                  rw [hR.out, HCC.out, chkChs_bad _ m k hlt2 (by rw [EX.out, okTime_wi, ho, okIdx_wi, hi]; rfl)]
                go_wp2_with (first | (go_at_call 46; refine (tab_within _ _ _ _).mono ?_; rintro e w' ⟨rfl, rfl⟩))
                go_ret
                exact ⟨ret_int' hr.out.symm, hbw.trans ((hbel2.mono (by omega)).alloc (by omega) _)⟩
              · have hok : Hid ((okTime x.t && okIdx ((l.length : Int) - 1) x.k) = true) := by show _ = _; rw [okTime_wi, ho, okIdx_wi, hi]; rfl
                cases k with
                | zero =>
                  simp only [Nat.zero_mul, Nat.add_zero] at c0 c1
                  have hstep : Hid (chkChs ((l.length : Int) - 1) none m = chkChs ((l.length : Int) - 1) (prevOf m 1) (m.drop 1)) := by
                    show _ = _
                    rw [HCC.out, chkChs_drop _ m 0 hlt2 (by rw [EX.out]; exact hok.out) rfl]
                  go_wp2_with (first | (go_at_call 46; refine (tab_within _ _ _ _).mono ?_; rintro e w' ⟨rfl, rfl⟩))
                  go_quiet (fail)
                  go_wp2
                  go_roundw
                  case rel => exact ⟨1, by omega, by go_num, by rw [HW0.out]; exact below_drewN' (hbel2.alloc (by omega) _) _, hstep.out⟩
                  case measure => simp [intOf]; omega
                | succ j =>
                  obtain ⟨y, ey⟩ : ∃ y, m[j] = y := ⟨_, rfl⟩
                  have hay := ((HC.out j (by omega)).mono hbw hb2).mono hbel2 (by omega)
                  rw [ey] at hay
                  obtain ⟨y0, y1⟩ := hay
                  have hq2 := ((bcellB hbel2).1 w.heap.size 2 (by omega)).trans HQ2.out
                  have hprev : prevOf m (j + 1) = some y.t := by simp only [prevOf]; rw [List.getElem?_eq_getElem (by omega), ey]; rfl
                  have HP := Lib.hid hprev
                  clear ey hprev
                  have q1 : IntKind.i64.wrap ((j : Int) + 1 - 1) = (j : Int) := by rw [show (j : Int) + 1 - 1 = j by omega]; exact IntWalk.i64_in _ (by omega)
                  have q2 : (j : Int) < (m.length : Int) := by omega
                  have q3 : w.heap.size < wr.heap.size := by omega
                  have q4 : b2 < wr.heap.size := by omega
                  by_cases hle : x.t ≤ y.t
                  · have hr : Hid (R = 5) := by
                      show R = 5
                      rw [hR.out, HCC.out, chkChs_back _ m (j + 1) hlt2 (by rw [EX.out]; exact hok.out) (by rw [HP.out, EX.out]; simpa [before] using hle)]
                    go_wp2_with (first | (go_at_call 46; refine (tab_within _ _ _ _).mono ?_; rintro e w' ⟨rfl, rfl⟩))
                    go_quiet (fail)
                    go_wp2
                    go_ret
                    exact ⟨ret_int' hr.out.symm, hbw.trans (below_drewN' ((hbel2.mono (by omega)).alloc (by omega) _) _)⟩
                  · have hstep : Hid (chkChs ((l.length : Int) - 1) none m = chkChs ((l.length : Int) - 1) (prevOf m (j + 1 + 1)) (m.drop (j + 1 + 1))) := by
                      show _ = _
                      rw [HCC.out, chkChs_drop _ m (j + 1) hlt2 (by rw [EX.out]; exact hok.out) (by rw [HP.out, EX.out]; simpa [before] using hle)]
                    go_wp2_with (first | (go_at_call 46; refine (tab_within _ _ _ _).mono ?_; rintro e w' ⟨rfl, rfl⟩))
                    go_quiet (fail)
                    go_wp2
                    go_roundw
                    case rel => exact ⟨j + 1 + 1, by omega, by go_num, by rw [HW0.out]; exact below_drewN' (hbel2.alloc (by omega) _) _, hstep.out⟩
                    case measure => simp [intOf]; omega
          · obtain rfl : k = m.length := by omega
            have hr : Hid (R = 0) := by show R = 0; rw [hR.out, HCC.out, List.drop_of_length_le (by omega)]; cases prevOf m m.length <;> rfl
            go_wp2
            go_ret
            exact ⟨ret_int' hr.out.symm, hbw.trans (hbel2.mono (by omega))⟩

/-- table.Check, of whatever table. -/
theorem Check_any (t : Tab) (v : Value) (w : World) (hv : TabAt w v t) :
    Calls Tryz.prog 23 #[v] w fun e w' => e = .returned (.int .i64 (chk t)) ∧ Below w.heap.size w w' := by
  cases hbg : big t
  · by_cases hn : t.types = []
    · exact Check_none t v w hv hbg hn
    · obtain ⟨sv, cv, rfl, ⟨⟨p, cap, rfl, hs⟩, hl1, hnm⟩, ⟨⟨p2, cap2, rfl, hc⟩, hl2⟩⟩ := hv.val
      obtain ⟨b, o, rfl, hb, hty⟩ := hs hn
      obtain ⟨l, f, m⟩ := t
      by_cases hm : m = []
      · exact Check_nochs l f m b o cap cap2 p2 w hb hty hnm hbg hn hm
      · obtain ⟨b2, o2, rfl, hb2, hch⟩ := hc hm
        exact Check_chs l f m b o cap b2 o2 cap2 w hb hty hnm hbg hn hb2 hch
  · exact Check_big t v w hv hbg

end Go.Proofs.YthggojpdcgcmaaaGreatDoor
namespace Go.Proofs.YthggojpdcgcmaaaGreatDoor
open Go.RowKit
set_option linter.unusedVariables false
set_option linter.unusedSimpArgs false

def tAt (m : List Ch) (i : Nat) : Int := (m[i]?.map (·.t)).getD 0
def kAt (m : List Ch) (i : Nat) : Int := (m[i]?.map (·.k)).getD 0
def tyD (l : List Ty) (k : Int) : Ty := l[k.toNat]?.getD ⟨0, false, ⟨#[]⟩⟩

theorem chkTypes_ok : ∀ (l : List Ty), chkTypes l = 0 → ∀ x ∈ l, okOff x.off = true ∧ abbrB x.name = true
  | [], _, x, hx => by simp at hx
  | y :: r, h, x, hx => by
    unfold chkTypes at h
    split at h
    · split at h
      · rcases List.mem_cons.1 hx with rfl | hx
        · exact ⟨‹_›, ‹_›⟩
        · exact chkTypes_ok r h x hx
      · omega
    · omega

theorem chkChs_ok (last : Int) : ∀ (m : List Ch) (prev : Option Int), chkChs last prev m = 0 →
    (∀ x ∈ m, okTime x.t = true ∧ okIdx last x.k = true) ∧ (∀ p, prev = some p → ∀ x ∈ m, p < x.t) ∧ m.Pairwise (fun a b => a.t < b.t)
  | [], _, _ => ⟨by simp, by simp, List.Pairwise.nil⟩
  | c :: r, prev, h => by
    unfold chkChs at h
    split at h
    · split at h
      · omega
      · rename_i h1 h2
        obtain ⟨i1, i2, i3⟩ := chkChs_ok last r (some c.t) h
        simp only [Bool.and_eq_true] at h1
        have hp : ∀ p, prev = some p → p < c.t := by
          intro p hp
          subst hp
          simpa [before] using h2
        refine ⟨fun x hx => ?_, fun p hpp x hx => ?_, ?_⟩
        · rcases List.mem_cons.1 hx with rfl | hx
          · exact h1
          · exact i1 x hx
        · rcases List.mem_cons.1 hx with rfl | hx
          · exact hp p hpp
          · have := i2 c.t rfl x hx
            have := hp p hpp
            omega
        · exact List.Pairwise.cons (fun x hx => i2 c.t rfl x hx) i3
    · omega

structure OkTab (t : Tab) : Prop where
  ne : t.types ≠ []
  many : t.types.length ≤ 250
  chs : t.chs.length ≤ 1000
  type : ∀ x ∈ t.types, -75600 ≤ x.off ∧ x.off ≤ 75600 ∧ abbrB x.name = true
  first : 0 ≤ t.first ∧ t.first < t.types.length
  ch : ∀ x ∈ t.chs, -1099511627776 ≤ x.t ∧ x.t ≤ 1099511627776 ∧ 0 ≤ x.k ∧ x.k < t.types.length
  rise : t.chs.Pairwise (fun a b => a.t < b.t)

theorem chk_ok (t : Tab) (h : chk t = 0) : OkTab t := by
  unfold chk at h
  split at h
  · omega
  · rename_i hb
    split at h
    · omega
    · rename_i hn
      split at h
      · rename_i ht
        split at h
        · rename_i hf
          obtain ⟨c1, _, c3⟩ := chkChs_ok _ _ _ h
          have hb' : ¬ (250 < t.types.length ∨ 1000 < t.chs.length) := by simpa [big] using hb
          simp only [okIdx, decide_eq_true_eq] at hf
          refine ⟨hn, by omega, by omega, fun x hx => ?_, by omega, fun x hx => ?_, c3⟩
          · have := chkTypes_ok _ ht x hx
            simp only [okOff, decide_eq_true_eq] at this
            exact ⟨this.1.1, this.1.2, this.2⟩
          · have := c1 x hx
            simp only [okTime, okIdx, decide_eq_true_eq] at this
            omega
        · omega
      · exact absurd h ‹_›

theorem tAt_mono (m : List Ch) (h : m.Pairwise (fun a b => a.t < b.t)) (i j : Nat) (hij : i ≤ j) (hj : j < m.length) : tAt m i ≤ tAt m j := by
  unfold tAt
  rw [List.getElem?_eq_getElem hj, List.getElem?_eq_getElem (by omega)]
  by_cases e : i = j
  · subst e; exact Int.le_refl _
  · have := List.pairwise_iff_getElem.1 h i j (by omega) hj (by omega)
    simp; omega

theorem length_sub {α : Type} [DecidableEq α] : ∀ (l m : List α), l.Nodup → (∀ x ∈ l, x ∈ m) → l.length ≤ m.length
  | [], m, _, _ => Nat.zero_le _
  | a :: l, m, hn, hs => by
    rw [List.nodup_cons] at hn
    have ha := hs a (by simp)
    have := length_sub l (m.erase a) hn.2 (fun x hx => (List.mem_erase_of_ne (fun (e : x = a) => hn.1 (by rw [← e]; exact hx))).2 (hs x (by simp [hx])))
    rw [List.length_erase_of_mem ha] at this
    have : 0 < m.length := List.length_pos_of_mem ha
    simp; omega


def cntOf (m : List Ch) (x : Int) : Nat := cntF (fun i => decide (x < tAt m i)) m.length
def kOf (f : Int) (m : List Ch) (x : Int) : Int := if cntOf m x = 0 then f else kAt m (cntOf m x - 1)
def tyOf (t : Tab) (x : Int) : Ty := tyD t.types (kOf t.first t.chs x)

theorem cntOf_le (m : List Ch) (x : Int) : cntOf m x ≤ m.length := by
  unfold cntOf cntF
  have := List.countP_le_length (p := fun i => !decide (x < tAt m i)) (l := List.range m.length)
  simpa using this

end Go.Proofs.YthggojpdcgcmaaaGreatDoor
