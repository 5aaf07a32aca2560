/- rule.Parse: what it returns: the walk. (Tryz.strings_IndexByte) -/
import Derived.Test.YtfocdcdggidboaaGreatDoorRu2b
import Derived.LoopN
import Derived.Deep.MidRow
import Derived.Laws.ResultCell
namespace Go.Proofs.YtfocdcdggidboaaGreatDoor
open Go.RowKit Go.Joins
open Classical
set_option linter.unusedVariables false
set_option linter.unusedSimpArgs false

abbrev ru0 : Ru := ⟨⟨#[]⟩, 0, 0, 0, 0, 0, 0, 0, 0, 0, ⟨#[]⟩⟩
/-- nine words lie there -/
def Words (W : World) (A : Nat) (a0 a1 a2 a3 a4 a5 a6 a7 a8 : ByteArray) : Prop :=
  W.cell? ⟨A, 0, none⟩ = some (.string a0) ∧ W.cell? ⟨A, 1, none⟩ = some (.string a1) ∧ W.cell? ⟨A, 2, none⟩ = some (.string a2) ∧ W.cell? ⟨A, 3, none⟩ = some (.string a3) ∧ W.cell? ⟨A, 4, none⟩ = some (.string a4) ∧
  W.cell? ⟨A, 5, none⟩ = some (.string a5) ∧ W.cell? ⟨A, 6, none⟩ = some (.string a6) ∧ W.cell? ⟨A, 7, none⟩ = some (.string a7) ∧ W.cell? ⟨A, 8, none⟩ = some (.string a8)

theorem Words.below {W W' : World} {A : Nat} {a0 a1 a2 a3 a4 a5 a6 a7 a8 : ByteArray} {N : Nat} (h : Words W A a0 a1 a2 a3 a4 a5 a6 a7 a8) (hb : Below N W W') (hA : A < N) : Words W' A a0 a1 a2 a3 a4 a5 a6 a7 a8 := by
  obtain ⟨v0, v1, v2, v3, v4, v5, v6, v7, v8⟩ := h
  exact ⟨(hb.cell hA).trans v0, (hb.cell hA).trans v1, (hb.cell hA).trans v2, (hb.cell hA).trans v3, (hb.cell hA).trans v4, (hb.cell hA).trans v5, (hb.cell hA).trans v6, (hb.cell hA).trans v7, (hb.cell hA).trans v8⟩
structure St (w W : World) (A B P : Nat) (a0 a1 a2 a3 a4 a5 a6 a7 a8 : ByteArray) (r : Ru) : Prop where
  wd : Words W A a0 a1 a2 a3 a4 a5 a6 a7 a8
  pt : ∃ t, W.heap[P]? = some (.cells #[.pointer (some ⟨B, 1, none⟩), .pointer (some ⟨B, 2, none⟩), .pointer (some ⟨B, 3, none⟩)] t (0, 0))
  x : RuBx W B r
  x0 : RuBx W w.heap.size ru0
  b : Below w.heap.size w W
  hA : w.heap.size < A
  hAB : A < B
  hBP : B < P
theorem St.hP {w W : World} {A B P : Nat} {a0 a1 a2 a3 a4 a5 a6 a7 a8 : ByteArray} {r : Ru} (h : St w W A B P a0 a1 a2 a3 a4 a5 a6 a7 a8 r) : P < W.heap.size := by
  obtain ⟨t, h⟩ := h.pt
  exact (Array.getElem?_eq_some_iff.mp h).1
theorem St.below {w W W' : World} {A B P : Nat} {a0 a1 a2 a3 a4 a5 a6 a7 a8 : ByteArray} {r : Ru} (h : St w W A B P a0 a1 a2 a3 a4 a5 a6 a7 a8 r) (hb : Below W.heap.size W W') : St w W' A B P a0 a1 a2 a3 a4 a5 a6 a7 a8 r := by
  have hP := h.hP
  have h1 := h.hA; have h2 := h.hAB; have h3 := h.hBP
  refine ⟨h.wd.below hb (by omega), ?_, h.x.below hb, h.x0.below hb, h.b.trans (hb.mono h.b.size), h1, h2, h3⟩
  obtain ⟨t, e⟩ := h.pt
  exact ⟨t, (hb.block P hP).trans e⟩
theorem St.set {w W : World} {A B P : Nat} {a0 a1 a2 a3 a4 a5 a6 a7 a8 : ByteArray} {r : Ru} (h : St w W A B P a0 a1 a2 a3 a4 a5 a6 a7 a8 r) (k : Nat) (v : Value) (r' : Ru) (e : (ruCells r).setIfInBounds k v = ruCells r') : St w (W.setCell ⟨B, k, none⟩ v) A B P a0 a1 a2 a3 a4 a5 a6 a7 a8 r' := by
  have h1 := h.hA; have h2 := h.hAB; have h3 := h.hBP
  have hb : Below B W (W.setCell ⟨B, k, none⟩ v) := (Below.refl B W).setCell (Nat.le_refl _) v
  refine ⟨h.wd.below hb h2, ?_, ?_, (hb.block _ (by omega)).trans h.x0, h.b.trans (hb.mono (by omega)), h1, h2, h3⟩
  · obtain ⟨t, e⟩ := h.pt
    exact ⟨t, (Below.heap_setCell W ⟨B, k, none⟩ v P (by show P ≠ B; omega)).trans e⟩
  · have := h.x
    unfold RuBx at this ⊢
    rw [← e]
    simp [World.setCell, Array.getElem?_modify, this]
theorem St.ptrs {w W : World} {A B P : Nat} {a0 a1 a2 a3 a4 a5 a6 a7 a8 : ByteArray} {r : Ru} (h : St w W A B P a0 a1 a2 a3 a4 a5 a6 a7 a8 r) :
    W.cell? ⟨P, 0, none⟩ = some (.pointer (some ⟨B, 1, none⟩)) ∧ W.cell? ⟨P, 1, none⟩ = some (.pointer (some ⟨B, 2, none⟩)) ∧ W.cell? ⟨P, 2, none⟩ = some (.pointer (some ⟨B, 3, none⟩)) := by
  obtain ⟨t, e⟩ := h.pt
  exact ⟨(cell_of_row W _ 0 _ _ _ e).trans rfl, (cell_of_row W _ 1 _ _ _ e).trans rfl, (cell_of_row W _ 2 _ _ _ e).trans rfl⟩

theorem RuBx.set {W : World} {B : Nat} {r : Ru} (h : RuBx W B r) (k : Nat) (v : Value) (r' : Ru) (e : (ruCells r).setIfInBounds k v = ruCells r') : RuBx (W.setCell ⟨B, k, none⟩ v) B r' := by
  unfold RuBx at h ⊢
  rw [← e]
  simp [World.setCell, Array.getElem?_modify, h]
theorem ruStore {W : World} {B : Nat} {r : Ru} (h : RuBx W B r) (r2 : Ru) : RuBx (((((((((((W.setCell ⟨B, 0, none⟩ (.string r2.nm)).setCell ⟨B, 1, none⟩ (.int .i64 r2.yf)).setCell ⟨B, 2, none⟩ (.int .i64 r2.yt)).setCell ⟨B, 3, none⟩ (.int .i64 r2.mo)).setCell ⟨B, 4, none⟩ (.int .i64 r2.dk)).setCell ⟨B, 5, none⟩ (.int .i64 r2.dw)).setCell ⟨B, 6, none⟩ (.int .i64 r2.dn)).setCell ⟨B, 7, none⟩ (.int .i64 r2.tm)).setCell ⟨B, 8, none⟩ (.int .i64 r2.ck)).setCell ⟨B, 9, none⟩ (.int .i64 r2.sv)).setCell ⟨B, 10, none⟩ (.string r2.lt)) B r2 := by
  have h1 := RuBx.set h 0 (.string r2.nm) ⟨r2.nm, r.yf, r.yt, r.mo, r.dk, r.dw, r.dn, r.tm, r.ck, r.sv, r.lt⟩ rfl
  have h2 := RuBx.set h1 1 (.int .i64 r2.yf) ⟨r2.nm, r2.yf, r.yt, r.mo, r.dk, r.dw, r.dn, r.tm, r.ck, r.sv, r.lt⟩ rfl
  have h3 := RuBx.set h2 2 (.int .i64 r2.yt) ⟨r2.nm, r2.yf, r2.yt, r.mo, r.dk, r.dw, r.dn, r.tm, r.ck, r.sv, r.lt⟩ rfl
  have h4 := RuBx.set h3 3 (.int .i64 r2.mo) ⟨r2.nm, r2.yf, r2.yt, r2.mo, r.dk, r.dw, r.dn, r.tm, r.ck, r.sv, r.lt⟩ rfl
  have h5 := RuBx.set h4 4 (.int .i64 r2.dk) ⟨r2.nm, r2.yf, r2.yt, r2.mo, r2.dk, r.dw, r.dn, r.tm, r.ck, r.sv, r.lt⟩ rfl
  have h6 := RuBx.set h5 5 (.int .i64 r2.dw) ⟨r2.nm, r2.yf, r2.yt, r2.mo, r2.dk, r2.dw, r.dn, r.tm, r.ck, r.sv, r.lt⟩ rfl
  have h7 := RuBx.set h6 6 (.int .i64 r2.dn) ⟨r2.nm, r2.yf, r2.yt, r2.mo, r2.dk, r2.dw, r2.dn, r.tm, r.ck, r.sv, r.lt⟩ rfl
  have h8 := RuBx.set h7 7 (.int .i64 r2.tm) ⟨r2.nm, r2.yf, r2.yt, r2.mo, r2.dk, r2.dw, r2.dn, r2.tm, r.ck, r.sv, r.lt⟩ rfl
  have h9 := RuBx.set h8 8 (.int .i64 r2.ck) ⟨r2.nm, r2.yf, r2.yt, r2.mo, r2.dk, r2.dw, r2.dn, r2.tm, r2.ck, r.sv, r.lt⟩ rfl
  have h10 := RuBx.set h9 9 (.int .i64 r2.sv) ⟨r2.nm, r2.yf, r2.yt, r2.mo, r2.dk, r2.dw, r2.dn, r2.tm, r2.ck, r2.sv, r.lt⟩ rfl
  have h11 := RuBx.set h10 10 (.string r2.lt) ⟨r2.nm, r2.yf, r2.yt, r2.mo, r2.dk, r2.dw, r2.dn, r2.tm, r2.ck, r2.sv, r2.lt⟩ rfl
  exact h11
theorem idx_ck (a6 : List UInt8) (c : UInt8) (h : a6.getLast? = some c) : ∃ idx : Int, (∀ W : World, Calls Tryz.prog 15 #[.string ⟨#[32, 115, 117]⟩, .int .u8 c.toNat] W fun e w' => e = .returned (.int .i64 idx) ∧ W = w') ∧
    ((0 < idx ∧ ckOf a6 = idx ∧ tmOf a6 = a6.dropLast) ∨ (¬ 0 < idx ∧ ckOf a6 = 0 ∧ tmOf a6 = a6)) := by
  refine ⟨Lib.indexByte [32, 115, 117] c, fun W => ?_, ?_⟩
  · refine (Tryz.strings_IndexByte ⟨#[32, 115, 117]⟩ (c.toNat : Int) W).mono ?_
    rintro e w' ⟨rfl, rfl⟩
    refine ⟨?_, rfl⟩
    have : ((c.toNat : Int).toNat.toUInt8) = c := by simp
    rw [this]
  · by_cases h1 : c = 115
    · subst h1
      left
      have hk : ckOf a6 = 1 := by unfold ckOf; rw [h]; rfl
      exact ⟨by decide, by rw [hk]; decide, by unfold tmOf; rw [hk]; rfl⟩
    · by_cases h2 : c = 117
      · subst h2
        left
        have hk : ckOf a6 = 2 := by unfold ckOf; rw [h]; rfl
        exact ⟨by decide, by rw [hk]; decide, by unfold tmOf; rw [hk]; rfl⟩
      · right
        have hk : ckOf a6 = 0 := by
          unfold ckOf; rw [h]
          rw [if_neg (by intro e; injection e with e; exact h1 e), if_neg (by intro e; injection e with e; exact h2 e)]
        refine ⟨?_, hk, by unfold tmOf; rw [hk]; rfl⟩
        by_cases h0 : c = 32
        · subst h0; decide
        · rw [show Lib.indexByte [32, 115, 117] c = -1 from by simp [Lib.indexByte, Ne.symm h0, Ne.symm h1, Ne.symm h2]]
          decide

/-- a result of many cells, and another one -/
theorem results_mid {P : Program} {fn : Func} {p u : Tmp} {ty : TypeId} (h : fn.results = #[.cell p ty, .tmp u]) (tmps : Array Value) (w : World) (b o : Nat) (cs : List Value) (d : TypeDesc) (hp : tmps.getD p undef = .pointer (some ⟨b, o, none⟩))
    (hc : w.rangeAt b o cs) (hu : P.underlying ty = some d) (hd : d.isRow = true) (hi : (P.info? ty).map (·.size) = some cs.length) :
    (results fn tmps).run P w = .ok (.tuple #[.agg cs.toArray, tmps.getD u undef]) w := by
  rw [results_cell_tmp h, hp]
  simp only [asAddr, Sem.run_pure, Result.andThen_ok, run_loadVar_mid w b o ty cs d hc hu hd hi]
theorem info_rule : (Tryz.prog.info? 28).map (·.size) = some 11 := by kernel_rfl
theorem RuBx.range {W : World} {B : Nat} {r : Ru} (h : RuBx W B r) : W.rangeAt B 0 (ruCells r).toList := World.rangeAt_of_block h 0 11
theorem RuBx.there {W : World} {B : Nat} {r : Ru} (h : RuBx W B r) : W.there B 0 11 := by
  intro j hj
  have hr := h.range
  refine ⟨?_, frozen_of_row _ _ _ _ _ h⟩
  have : j < (ruCells r).toList.length := hj
  have e := hr j _ (List.getElem?_eq_getElem this)
  rw [e]
  rfl
theorem RuBx.stored {W : World} {B : Nat} {r : Ru} (h : RuBx W B r) (r2 : Ru) : RuBx (W.setCells B 0 (ruCells r2).toList) B r2 := ruStore h r2
theorem ru_one (r : Ru) : (ruCells r).all (·.oneCell') = true := by simp [ruCells, Value.oneCell']
theorem below_setCells {B : Nat} {w : World} (b : Nat) (hb : B ≤ b) : ∀ (vs : List Value) (o : Nat) (W : World), Below B w W → Below B w (W.setCells b o vs)
  | [], _, _, h => h
  | v :: r, o, W, h => below_setCells b hb r (o + 1) _ (h.setCell hb v)

set_option maxRecDepth 100000 in
set_option maxHeartbeats 8000000 in
theorem Parse_walk (l a0 a1 a2 a3 a4 a5 a6 a7 a8 : List UInt8) (hw : splitC 32 l = [a0, a1, a2, a3, a4, a5, a6, a7, a8]) (h6 : a6 ≠ []) (w : World) (hl : l.length < 4294967281) (hn : NumErrs w) (hm : MaxLen w)
    (hwl : ∀ x ∈ [a2, a3, a4, a6], x.length ≤ 281474976710656)
    (dk dw dn ed tm ea sv es te : Int) (t : ByteArray)
    (hD : ∀ W, Below w.heap.size w W → Calls Tryz.prog 14 #[.string (txt a5)] W fun e w' => e = .returned (.tuple #[dayV dk dw dn, .int .i64 ed]) ∧ Below W.heap.size W w')
    (hA : ∀ W, Below w.heap.size w W → Calls Tryz.prog 16 #[.string (txt (tmOf a6))] W fun e w' => e = .returned (.tuple #[.int .i64 tm, .int .i64 ea]) ∧ Below W.heap.size W w')
    (hS : ∀ W, Below w.heap.size w W → Calls Tryz.prog 16 #[.string (txt a7)] W fun e w' => e = .returned (.tuple #[.int .i64 sv, .int .i64 es]) ∧ Below W.heap.size W w')
    (hT : ∀ W, Below w.heap.size w W → Calls Tryz.prog 17 #[ruV ⟨txt a1, atoiV a2, atoiV a3, atoiV a4, dk, dw, dn, tm, ckOf a6, sv, txt a8⟩] W fun e w' => e = .returned (.tuple #[.string t, .int .i64 te]) ∧ Below W.heap.size W w')
    (R : Ru) (RE : Int) (hR : (te = 0 ∧ t = txt l ∧ R = ⟨txt a1, atoiV a2, atoiV a3, atoiV a4, dk, dw, dn, tm, ckOf a6, sv, txt a8⟩ ∧ RE = 0) ∨ ((te ≠ 0 ∨ t ≠ txt l) ∧ R = ru0 ∧ RE = 3)) :
    Calls Tryz.prog 8 #[.string (txt l)] w fun e w' => e = .returned (.tuple #[ruV R, .int .i64 RE]) ∧ Below w.heap.size w w' := by
  have HD := Lib.hid hD
  have HA := Lib.hid hA
  have HS := Lib.hid hS
  have HTX := Lib.hid hT
  have HR := Lib.hid hR
  have HN := Lib.hid hn
  have hsp : ∀ W, Below w.heap.size w W → MaxLen W → Calls Tryz.prog 12 #[.string (txt l), .string ⟨#[32]⟩] W fun e w' => ∃ A, e = .returned (.slice (some ⟨A, 0, none⟩) 9 9) ∧ W.heap.size ≤ A ∧ A < w'.heap.size ∧ Words w' A (txt a0) (txt a1) (txt a2) (txt a3) (txt a4) (txt a5) (txt a6) (txt a7) (txt a8) ∧ Below W.heap.size W w' := by
    intro W hb hmW
    refine (splitC_any 32 l W hl hmW).mono ?_
    rintro e w' ⟨A, rfl, h1, h2, h3, h4⟩
    rw [hw] at h3 ⊢
    exact ⟨A, rfl, h1, h2, ⟨h3 0 (by simp), h3 1 (by simp), h3 2 (by simp), h3 3 (by simp), h3 4 (by simp), h3 5 (by simp), h3 6 (by simp), h3 7 (by simp), h3 8 (by simp)⟩, h4⟩
  have HSP := Lib.hid hsp
  have H2 := Lib.hid (fun W (hb : NumErrs W) => Atoi_any a2 W (hwl a2 (by simp)) hb)
  have H3 := Lib.hid (fun W (hb : NumErrs W) => Atoi_any a3 W (hwl a3 (by simp)) hb)
  have H4 := Lib.hid (fun W (hb : NumErrs W) => Atoi_any a4 W (hwl a4 (by simp)) hb)
  have HM := Lib.hid hm
  have HL6 := Lib.hid (hwl a6 (by simp))
  clear hD hA hS hT hR hn hsp hwl hm hw
  obtain ⟨W0, eW⟩ : ∃ W0, w.alloc (.cells (ruCells ru0) 28) = W0 := ⟨_, rfl⟩
  have HX0 : Hid (RuBx W0 w.heap.size ru0) := by show RuBx _ _ _; rw [← eW]; exact RuBx.box w ru0
  have HB0 : Hid (Below w.heap.size w W0) := by show Below _ _ _; rw [← eW]; exact (Below.refl _ _).alloc (Nat.le_refl _) _
  have hM0 : MaxLen W0 := by
    obtain ⟨m, hm⟩ := HM.out
    refine ⟨m, ?_⟩
    rw [← eW]
    exact ((Below.refl w.heap.size w).alloc (Nat.le_refl _) _).cell (show (⟨1, 0, none⟩ : Addr).block < w.heap.size from Lib.lt_of_cell hm) |>.trans hm
  have HM0 := Lib.hid hM0
  have HEW := Lib.hid eW
  clear eW hM0 HM
  have b6 : (txt a6).toList.isEmpty = false := by
    cases a6 with
    | nil => exact absurd rfl h6
    | cons c r => simp [txt]
  go_enter Tryz.func8, Tryz.ntmps8
  go_wp2_with fail
  rw [HEW.out]
  refine (HSP.out W0 HB0.out HM0.out).mono ?_
  rintro e w1 ⟨A, rfl, hA0, hA1, hwords, hb1⟩
  have HX1 := Lib.hid (HX0.out.below (hb1.mono (Nat.le_refl _)))
  have HB1 := Lib.hid (HB0.out.trans (hb1.mono HB0.out.size))
  have hAw : w.heap.size < A := Nat.lt_of_lt_of_le HX0.out.lt hA0
  have HWD := Lib.hid hwords
  obtain ⟨v0, v1, v2, v3, v4, v5, v6, v7, v8⟩ := hwords
  clear hb1 HB0 HX0 HM0 HSP hA0
  go_wp2_with fail
  have KB : Hid (∀ wx, Below w1.heap.size w1 wx → (Below w1.heap.size w1 wx ∧ wx.cell? ⟨A, 1, none⟩ = some (.string (txt a1)) ∧ wx.cell? ⟨A, 8, none⟩ = some (.string (txt a8)))) := by
    show ∀ wx, Below w1.heap.size w1 wx → _
    exact fun wx hb => ⟨hb, (hb.cell hA1).trans v1, (hb.cell hA1).trans v8⟩
  have KR : Hid (∀ wx, (Below w1.heap.size w1 wx ∧ wx.cell? ⟨A, 1, none⟩ = some (.string (txt a1)) ∧ wx.cell? ⟨A, 8, none⟩ = some (.string (txt a8))) → Below w1.heap.size w1 wx) := by
    show ∀ wx, _ → Below w1.heap.size w1 wx
    exact fun wx h => h.1
  have KAL : Hid (∀ wx ob, Below w1.heap.size w1 wx → Below w1.heap.size w1 (wx.alloc ob)) := by
    show ∀ wx ob, Below w1.heap.size w1 wx → Below w1.heap.size w1 (wx.alloc ob)
    exact fun wx ob h => h.alloc h.size ob
  go_upto_region 4 with fail
  go_cut [5] (fun s5 wx => s5 = .pointer (some ⟨w1.heap.size, 0, none⟩) ∧ RuBx wx w1.heap.size { ru0 with nm := txt a1, lt := txt a8 } ∧ Below w1.heap.size w1 wx)
  case first =>
    go_region_held3 (fun wx => Below w1.heap.size w1 wx ∧ wx.cell? ⟨A, 1, none⟩ = some (.string (txt a1)) ∧ wx.cell? ⟨A, 8, none⟩ = some (.string (txt a8))) ((refine KB.out _ ?_; repeat (first | (with_reducible assumption) | (with_reducible exact Below.refl _ _) | (with_reducible refine Below.drew ?_) | (with_reducible refine KAL.out _ _ ?_)))) (fail)
    all_goals go_wp2_with fail
    all_goals go_meet
    all_goals exact ⟨rfl, RuBx.box w1 { ru0 with nm := txt a1, lt := txt a8 }, ((Below.refl _ w1).alloc (Nat.le_refl _) _).drew⟩
  case rest =>
    obtain ⟨rfl, hx, hbx⟩ := hcut
    go_wp2_with fail
    obtain ⟨W2, eW2⟩ : ∃ W2, wc.alloc (.cells #[.pointer (some ⟨w1.heap.size, 1, none⟩), .pointer (some ⟨w1.heap.size, 2, none⟩), .pointer (some ⟨w1.heap.size, 3, none⟩)] 37) = W2 := ⟨_, rfl⟩
    have hs2 : St w W2 A w1.heap.size wc.heap.size (txt a0) (txt a1) (txt a2) (txt a3) (txt a4) (txt a5) (txt a6) (txt a7) (txt a8) { ru0 with nm := txt a1, lt := txt a8 } := by
      have hb2 : Below wc.heap.size wc W2 := by rw [← eW2]; exact (Below.refl _ _).alloc (Nat.le_refl _) _
      have hb3 : Below w1.heap.size w1 W2 := hbx.trans (hb2.mono hbx.size)
      exact ⟨HWD.out.below hb3 hA1, ⟨_, by rw [← eW2]; exact heap_alloc_new _ _⟩, hx.below hb2, HX1.out.below hb3, HB1.out.trans (hb3.mono HB1.out.size), hAw, hA1, hx.lt⟩
    rw [eW2]
    have HS2 := Lib.hid hs2
    generalize wc.heap.size = P at HS2 ⊢
    generalize w1.heap.size = B at HS2 ⊢
    clear hs2 eW2 hx hbx v0 v1 v2 v3 v4 v5 v6 v7 v8 HWD HX1 HB1 hAw hA1
    obtain ⟨v0, v1, v2, v3, v4, v5, v6, v7, v8⟩ := HS2.out.wd
    obtain ⟨p0, p1, p2⟩ := HS2.out.ptrs
    obtain ⟨x0, x1, x2, x3, x4, x5, x6, x7, x8, x9, x10⟩ := HS2.out.x.cells
    have q : ∀ i : Nat, _ := fun i => frozen_of_row _ _ i _ _ HS2.out.x
    have hl0 := HS2.out.hP
    have hl1 := Nat.lt_trans HS2.out.hBP HS2.out.hP
    have hl2 := Nat.lt_trans HS2.out.hAB hl1
    simp only at x0 x1 x2 x3 x4 x5 x6 x7 x8 x9 x10
    refine wp_loop_rounds 4 ?_
    rw [rounds_succ]
    go_wp2_with fail
    refine (H2.out _ (HN.out.below HS2.out.b)).mono ?_
    rintro e u3 ⟨ev, rfl, hb, hev⟩
    have HU3 := Lib.hid (HS2.out.below hb)
    clear hb hev v0 v1 v2 v3 v4 v5 v6 v7 v8 p0 p1 p2 x0 x1 x2 x3 x4 x5 x6 x7 x8 x9 x10 q hl0 hl1 hl2 HS2
    obtain ⟨v0, v1, v2, v3, v4, v5, v6, v7, v8⟩ := HU3.out.wd
    obtain ⟨p0, p1, p2⟩ := HU3.out.ptrs
    obtain ⟨x0, x1, x2, x3, x4, x5, x6, x7, x8, x9, x10⟩ := HU3.out.x.cells
    have q : ∀ i : Nat, _ := fun i => frozen_of_row _ _ i _ _ HU3.out.x
    have hl0 := HU3.out.hP
    have hl1 := Nat.lt_trans HU3.out.hBP HU3.out.hP
    have hl2 := Nat.lt_trans HU3.out.hAB hl1
    simp only at x0 x1 x2 x3 x4 x5 x6 x7 x8 x9 x10
    go_wp2_with fail
    obtain ⟨W3, eW3⟩ : ∃ W3, u3.setCell ⟨B, 1, none⟩ (.int .i64 (atoiV a2)) = W3 := ⟨_, rfl⟩
    have hs3 : St w W3 A B P (txt a0) (txt a1) (txt a2) (txt a3) (txt a4) (txt a5) (txt a6) (txt a7) (txt a8) { ru0 with nm := txt a1, lt := txt a8, yf := atoiV a2 } := by
      rw [← eW3]
      exact HU3.out.set 1 _ _ rfl
    rw [eW3]
    have HS3 := Lib.hid hs3
    clear hs3 eW3 v0 v1 v2 v3 v4 v5 v6 v7 v8 p0 p1 p2 x0 x1 x2 x3 x4 x5 x6 x7 x8 x9 x10 q hl0 hl1 hl2 HU3 u3
    obtain ⟨v0, v1, v2, v3, v4, v5, v6, v7, v8⟩ := HS3.out.wd
    obtain ⟨p0, p1, p2⟩ := HS3.out.ptrs
    obtain ⟨x0, x1, x2, x3, x4, x5, x6, x7, x8, x9, x10⟩ := HS3.out.x.cells
    have q : ∀ i : Nat, _ := fun i => frozen_of_row _ _ i _ _ HS3.out.x
    have hl0 := HS3.out.hP
    have hl1 := Nat.lt_trans HS3.out.hBP HS3.out.hP
    have hl2 := Nat.lt_trans HS3.out.hAB hl1
    simp only at x0 x1 x2 x3 x4 x5 x6 x7 x8 x9 x10
    rw [rounds_succ]
    go_wp2_with fail
    refine (H3.out _ (HN.out.below HS3.out.b)).mono ?_
    rintro e u4 ⟨ev, rfl, hb, hev⟩
    have HU4 := Lib.hid (HS3.out.below hb)
    clear hb hev v0 v1 v2 v3 v4 v5 v6 v7 v8 p0 p1 p2 x0 x1 x2 x3 x4 x5 x6 x7 x8 x9 x10 q hl0 hl1 hl2 HS3
    obtain ⟨v0, v1, v2, v3, v4, v5, v6, v7, v8⟩ := HU4.out.wd
    obtain ⟨p0, p1, p2⟩ := HU4.out.ptrs
    obtain ⟨x0, x1, x2, x3, x4, x5, x6, x7, x8, x9, x10⟩ := HU4.out.x.cells
    have q : ∀ i : Nat, _ := fun i => frozen_of_row _ _ i _ _ HU4.out.x
    have hl0 := HU4.out.hP
    have hl1 := Nat.lt_trans HU4.out.hBP HU4.out.hP
    have hl2 := Nat.lt_trans HU4.out.hAB hl1
    simp only at x0 x1 x2 x3 x4 x5 x6 x7 x8 x9 x10
    go_wp2_with fail
    obtain ⟨W4, eW4⟩ : ∃ W4, u4.setCell ⟨B, 2, none⟩ (.int .i64 (atoiV a3)) = W4 := ⟨_, rfl⟩
    have hs4 : St w W4 A B P (txt a0) (txt a1) (txt a2) (txt a3) (txt a4) (txt a5) (txt a6) (txt a7) (txt a8) { ru0 with nm := txt a1, lt := txt a8, yf := atoiV a2, yt := atoiV a3 } := by
      rw [← eW4]
      exact HU4.out.set 2 _ _ rfl
    rw [eW4]
    have HS4 := Lib.hid hs4
    clear hs4 eW4 v0 v1 v2 v3 v4 v5 v6 v7 v8 p0 p1 p2 x0 x1 x2 x3 x4 x5 x6 x7 x8 x9 x10 q hl0 hl1 hl2 HU4 u4
    obtain ⟨v0, v1, v2, v3, v4, v5, v6, v7, v8⟩ := HS4.out.wd
    obtain ⟨p0, p1, p2⟩ := HS4.out.ptrs
    obtain ⟨x0, x1, x2, x3, x4, x5, x6, x7, x8, x9, x10⟩ := HS4.out.x.cells
    have q : ∀ i : Nat, _ := fun i => frozen_of_row _ _ i _ _ HS4.out.x
    have hl0 := HS4.out.hP
    have hl1 := Nat.lt_trans HS4.out.hBP HS4.out.hP
    have hl2 := Nat.lt_trans HS4.out.hAB hl1
    simp only at x0 x1 x2 x3 x4 x5 x6 x7 x8 x9 x10
    rw [rounds_succ]
    go_wp2_with fail
    refine (H4.out _ (HN.out.below HS4.out.b)).mono ?_
    rintro e u5 ⟨ev, rfl, hb, hev⟩
    have HU5 := Lib.hid (HS4.out.below hb)
    clear hb hev v0 v1 v2 v3 v4 v5 v6 v7 v8 p0 p1 p2 x0 x1 x2 x3 x4 x5 x6 x7 x8 x9 x10 q hl0 hl1 hl2 HS4
    obtain ⟨v0, v1, v2, v3, v4, v5, v6, v7, v8⟩ := HU5.out.wd
    obtain ⟨p0, p1, p2⟩ := HU5.out.ptrs
    obtain ⟨x0, x1, x2, x3, x4, x5, x6, x7, x8, x9, x10⟩ := HU5.out.x.cells
    have q : ∀ i : Nat, _ := fun i => frozen_of_row _ _ i _ _ HU5.out.x
    have hl0 := HU5.out.hP
    have hl1 := Nat.lt_trans HU5.out.hBP HU5.out.hP
    have hl2 := Nat.lt_trans HU5.out.hAB hl1
    simp only at x0 x1 x2 x3 x4 x5 x6 x7 x8 x9 x10
    go_wp2_with fail
    obtain ⟨W5, eW5⟩ : ∃ W5, u5.setCell ⟨B, 3, none⟩ (.int .i64 (atoiV a4)) = W5 := ⟨_, rfl⟩
    have hs5 : St w W5 A B P (txt a0) (txt a1) (txt a2) (txt a3) (txt a4) (txt a5) (txt a6) (txt a7) (txt a8) { ru0 with nm := txt a1, lt := txt a8, yf := atoiV a2, yt := atoiV a3, mo := atoiV a4 } := by
      rw [← eW5]
      exact HU5.out.set 3 _ _ rfl
    rw [eW5]
    have HS5 := Lib.hid hs5
    clear hs5 eW5 v0 v1 v2 v3 v4 v5 v6 v7 v8 p0 p1 p2 x0 x1 x2 x3 x4 x5 x6 x7 x8 x9 x10 q hl0 hl1 hl2 HU5 u5
    obtain ⟨v0, v1, v2, v3, v4, v5, v6, v7, v8⟩ := HS5.out.wd
    obtain ⟨p0, p1, p2⟩ := HS5.out.ptrs
    obtain ⟨x0, x1, x2, x3, x4, x5, x6, x7, x8, x9, x10⟩ := HS5.out.x.cells
    have q : ∀ i : Nat, _ := fun i => frozen_of_row _ _ i _ _ HS5.out.x
    have hl0 := HS5.out.hP
    have hl1 := Nat.lt_trans HS5.out.hBP HS5.out.hP
    have hl2 := Nat.lt_trans HS5.out.hAB hl1
    simp only at x0 x1 x2 x3 x4 x5 x6 x7 x8 x9 x10
    rw [rounds_succ]
    go_wp2_with fail
    refine (HD.out _ HS5.out.b).mono ?_
    rintro e u6 ⟨rfl, hb⟩
    have HU6 := Lib.hid (HS5.out.below hb)
    clear hb v0 v1 v2 v3 v4 v5 v6 v7 v8 p0 p1 p2 x0 x1 x2 x3 x4 x5 x6 x7 x8 x9 x10 q hl0 hl1 hl2 HS5
    obtain ⟨v0, v1, v2, v3, v4, v5, v6, v7, v8⟩ := HU6.out.wd
    obtain ⟨p0, p1, p2⟩ := HU6.out.ptrs
    obtain ⟨x0, x1, x2, x3, x4, x5, x6, x7, x8, x9, x10⟩ := HU6.out.x.cells
    have q : ∀ i : Nat, _ := fun i => frozen_of_row _ _ i _ _ HU6.out.x
    have hl0 := HU6.out.hP
    have hl1 := Nat.lt_trans HU6.out.hBP HU6.out.hP
    have hl2 := Nat.lt_trans HU6.out.hAB hl1
    simp only at x0 x1 x2 x3 x4 x5 x6 x7 x8 x9 x10
    go_upto_region 11 with fail
    obtain ⟨W6, eW6⟩ : ∃ W6, ((u6.setCell ⟨B, 4, none⟩ (.int .i64 dk)).setCell ⟨B, 5, none⟩ (.int .i64 dw)).setCell ⟨B, 6, none⟩ (.int .i64 dn) = W6 := ⟨_, rfl⟩
    have hs6 : St w W6 A B P (txt a0) (txt a1) (txt a2) (txt a3) (txt a4) (txt a5) (txt a6) (txt a7) (txt a8) { ru0 with nm := txt a1, lt := txt a8, yf := atoiV a2, yt := atoiV a3, mo := atoiV a4, dk := dk, dw := dw, dn := dn } := by
      rw [← eW6]
      have g1 := HU6.out.set 4 (.int .i64 dk) { ru0 with nm := txt a1, lt := txt a8, yf := atoiV a2, yt := atoiV a3, mo := atoiV a4, dk := dk } rfl
      have g2 := g1.set 5 (.int .i64 dw) { ru0 with nm := txt a1, lt := txt a8, yf := atoiV a2, yt := atoiV a3, mo := atoiV a4, dk := dk, dw := dw } rfl
      exact g2.set 6 (.int .i64 dn) { ru0 with nm := txt a1, lt := txt a8, yf := atoiV a2, yt := atoiV a3, mo := atoiV a4, dk := dk, dw := dw, dn := dn } rfl
    rw [eW6]
    have HS6 := Lib.hid hs6
    clear hs6 eW6 v0 v1 v2 v3 v4 v5 v6 v7 v8 p0 p1 p2 x0 x1 x2 x3 x4 x5 x6 x7 x8 x9 x10 q hl0 hl1 hl2 HU6 u6
    obtain ⟨v0, v1, v2, v3, v4, v5, v6, v7, v8⟩ := HS6.out.wd
    obtain ⟨p0, p1, p2⟩ := HS6.out.ptrs
    obtain ⟨x0, x1, x2, x3, x4, x5, x6, x7, x8, x9, x10⟩ := HS6.out.x.cells
    have q : ∀ i : Nat, _ := fun i => frozen_of_row _ _ i _ _ HS6.out.x
    have hl0 := HS6.out.hP
    have hl1 := Nat.lt_trans HS6.out.hBP HS6.out.hP
    have hl2 := Nat.lt_trans HS6.out.hAB hl1
    simp only at x0 x1 x2 x3 x4 x5 x6 x7 x8 x9 x10
    obtain ⟨c6, hc6⟩ : ∃ c, a6.getLast? = some c := by
      cases e : a6.getLast? with
      | none => exact absurd (List.getLast?_eq_none_iff.1 e) h6
      | some c => exact ⟨c, rfl⟩
    have hsz : 0 < (txt a6).size := by rw [txt_size]; exact List.length_pos_iff.2 h6
    have hix : ∀ W : World, (Instr.index 9 (.string (txt a6)) (.int .i64 (((txt a6).size : Int) - 1))).run Tryz.prog W = .ok (.int .u8 c6.toNat) W := by
      intro W
      rw [run_index_string (P := Tryz.prog) (w := W) _ _ _ _ Tryz.underlying9, dif_pos (by omega)]
      have : (txt a6)[(((txt a6).size : Int) - 1).toNat]'(by omega) = c6 := by
        rw [List.getLast?_eq_getElem?] at hc6
        have e : (((txt a6).size : Int) - 1).toNat = a6.length - 1 := by rw [txt_size]; omega
        have h2 := List.getElem?_eq_some_iff.1 hc6
        obtain ⟨hh, h2⟩ := h2
        rw [← h2]
        simp only [e]
        rfl
      rw [this]
    have hl6 := HL6.out
    rw [← txt_size] at hl6
    have hwr : IntKind.i64.wrap (((txt a6).size : Int) - 1) = ((txt a6).size : Int) - 1 := by rw [IntKind.wrap_i64]; omega
    have hb1 : (0 : Int) ≤ ((txt a6).size : Int) - 1 := by omega
    have hb2 : ((txt a6).size : Int) - 1 < ((txt a6).size : Int) := by omega
    clear hsz hl6
    go_wp2_with fail
    obtain ⟨idx, hi1, hi2⟩ := idx_ck a6 c6 hc6
    refine (hi1 _).mono ?_
    rintro e w' ⟨rfl, rfl⟩
    clear hi1
    rcases hi2 with ⟨hk, ek, et⟩ | ⟨hk, ek, et⟩
    case' inl =>
      have hsl : ∀ W : World, (Instr.slice 9 (.string (txt a6)) none (some (.int .i64 (((txt a6).size : Int) - 1))) none).run Tryz.prog W = .ok (.string (txt a6.dropLast)) W := by
        intro W
        rw [run_slice_string_h (ht := Tryz.underlying9) (kh := .i64) (h := ((txt a6).size : Int) - 1) (h0 := by omega) (h2 := by omega)]
        congr 2
        apply ByteArray.ext
        apply Array.toList_inj.1
        rw [Lib.extract_data, txt_data, txt_data, List.dropLast_eq_take]
        have : (((txt a6).size : Int) - 1).toNat = a6.length - 1 := by rw [txt_size]; omega
        rw [this]
        simp
      have HA2 : Hid (∀ W, Below w.heap.size w W → Calls Tryz.prog 16 #[.string (txt a6.dropLast)] W fun e w' => e = .returned (.tuple #[.int .i64 tm, .int .i64 ea]) ∧ Below W.heap.size W w') := by
        show ∀ W, _
        rw [← et]
        exact HA.out
      have hs7 : St w (W6.setCell ⟨B, 8, none⟩ (.int .i64 idx)).drew A B P (txt a0) (txt a1) (txt a2) (txt a3) (txt a4) (txt a5) (txt a6) (txt a7) (txt a8) { ru0 with nm := txt a1, lt := txt a8, yf := atoiV a2, yt := atoiV a3, mo := atoiV a4, dk := dk, dw := dw, dn := dn, ck := ckOf a6 } := by
        rw [ek]
        exact (HS6.out.set 8 (.int .i64 idx) { ru0 with nm := txt a1, lt := txt a8, yf := atoiV a2, yt := atoiV a3, mo := atoiV a4, dk := dk, dw := dw, dn := dn, ck := idx } rfl).below (Below.refl _ _).drew
      clear ek et
      go_wp2_with fail
      go_region
      go_wp2_with fail
      obtain ⟨W7, eW7⟩ : ∃ W7, (W6.setCell ⟨B, 8, none⟩ (.int .i64 idx)).drew = W7 := ⟨_, rfl⟩
      rw [eW7] at hs7
      rw [eW7]
    case' inr =>
      have HA2 : Hid (∀ W, Below w.heap.size w W → Calls Tryz.prog 16 #[.string (txt a6)] W fun e w' => e = .returned (.tuple #[.int .i64 tm, .int .i64 ea]) ∧ Below W.heap.size W w') := by
        show ∀ W, _
        rw [et] at HA
        exact HA.out
      have hs7 : St w W6 A B P (txt a0) (txt a1) (txt a2) (txt a3) (txt a4) (txt a5) (txt a6) (txt a7) (txt a8) { ru0 with nm := txt a1, lt := txt a8, yf := atoiV a2, yt := atoiV a3, mo := atoiV a4, dk := dk, dw := dw, dn := dn, ck := ckOf a6 } := by
        rw [ek]
        exact HS6.out
      clear ek et
      go_wp2_with fail
      obtain ⟨W7, eW7⟩ : ∃ W7, W6 = W7 := ⟨_, rfl⟩
      rw [eW7] at hs7
      rw [eW7]
    all_goals
      have HS7 := Lib.hid hs7
      clear hs7 eW7 v0 v1 v2 v3 v4 v5 v6 v7 v8 p0 p1 p2 x0 x1 x2 x3 x4 x5 x6 x7 x8 x9 x10 q hl0 hl1 hl2 HS6 hk
      refine (HA2.out _ HS7.out.b).mono ?_
      rintro e u8 ⟨rfl, hb⟩
      have HU8 := Lib.hid (HS7.out.below hb)
      clear hb HS7
      obtain ⟨v0, v1, v2, v3, v4, v5, v6, v7, v8⟩ := HU8.out.wd
      obtain ⟨p0, p1, p2⟩ := HU8.out.ptrs
      obtain ⟨x0, x1, x2, x3, x4, x5, x6, x7, x8, x9, x10⟩ := HU8.out.x.cells
      have q : ∀ i : Nat, _ := fun i => frozen_of_row _ _ i _ _ HU8.out.x
      have hl0 := HU8.out.hP
      have hl1 := Nat.lt_trans HU8.out.hBP HU8.out.hP
      have hl2 := Nat.lt_trans HU8.out.hAB hl1
      simp only at x0 x1 x2 x3 x4 x5 x6 x7 x8 x9 x10
      go_upto_region 16 with fail
      obtain ⟨W8, eW8⟩ : ∃ W8, u8.setCell ⟨B, 7, none⟩ (.int .i64 tm) = W8 := ⟨_, rfl⟩
      have hs8 : St w W8 A B P (txt a0) (txt a1) (txt a2) (txt a3) (txt a4) (txt a5) (txt a6) (txt a7) (txt a8) { ru0 with nm := txt a1, lt := txt a8, yf := atoiV a2, yt := atoiV a3, mo := atoiV a4, dk := dk, dw := dw, dn := dn, ck := ckOf a6, tm := tm } := by
        rw [← eW8]
        exact HU8.out.set 7 _ _ rfl
      rw [eW8]
      have HS8 := Lib.hid hs8
      clear hs8 eW8 v0 v1 v2 v3 v4 v5 v6 v7 v8 p0 p1 p2 x0 x1 x2 x3 x4 x5 x6 x7 x8 x9 x10 q hl0 hl1 hl2 HU8
      obtain ⟨v0, v1, v2, v3, v4, v5, v6, v7, v8⟩ := HS8.out.wd
      obtain ⟨p0, p1, p2⟩ := HS8.out.ptrs
      obtain ⟨x0, x1, x2, x3, x4, x5, x6, x7, x8, x9, x10⟩ := HS8.out.x.cells
      have q : ∀ i : Nat, _ := fun i => frozen_of_row _ _ i _ _ HS8.out.x
      have hl0 := HS8.out.hP
      have hl1 := Nat.lt_trans HS8.out.hBP HS8.out.hP
      have hl2 := Nat.lt_trans HS8.out.hAB hl1
      simp only at x0 x1 x2 x3 x4 x5 x6 x7 x8 x9 x10
      go_wp2_with fail
      refine (HS.out _ HS8.out.b).mono ?_
      rintro e u9 ⟨rfl, hb⟩
      have HU9 := Lib.hid (HS8.out.below hb)
      clear hb HS8 v0 v1 v2 v3 v4 v5 v6 v7 v8 p0 p1 p2 x0 x1 x2 x3 x4 x5 x6 x7 x8 x9 x10 q hl0 hl1 hl2
      obtain ⟨v0, v1, v2, v3, v4, v5, v6, v7, v8⟩ := HU9.out.wd
      obtain ⟨p0, p1, p2⟩ := HU9.out.ptrs
      obtain ⟨x0, x1, x2, x3, x4, x5, x6, x7, x8, x9, x10⟩ := HU9.out.x.cells
      have q : ∀ i : Nat, _ := fun i => frozen_of_row _ _ i _ _ HU9.out.x
      have hl0 := HU9.out.hP
      have hl1 := Nat.lt_trans HU9.out.hBP HU9.out.hP
      have hl2 := Nat.lt_trans HU9.out.hAB hl1
      simp only at x0 x1 x2 x3 x4 x5 x6 x7 x8 x9 x10
      go_upto_region 17 with fail
      obtain ⟨W9, eW9⟩ : ∃ W9, u9.setCell ⟨B, 9, none⟩ (.int .i64 sv) = W9 := ⟨_, rfl⟩
      have hs9 : St w W9 A B P (txt a0) (txt a1) (txt a2) (txt a3) (txt a4) (txt a5) (txt a6) (txt a7) (txt a8) { ru0 with nm := txt a1, lt := txt a8, yf := atoiV a2, yt := atoiV a3, mo := atoiV a4, dk := dk, dw := dw, dn := dn, ck := ckOf a6, tm := tm, sv := sv } := by
        rw [← eW9]
        exact HU9.out.set 9 _ _ rfl
      rw [eW9]
      have HS9 := Lib.hid hs9
      clear hs9 eW9 v0 v1 v2 v3 v4 v5 v6 v7 v8 p0 p1 p2 x0 x1 x2 x3 x4 x5 x6 x7 x8 x9 x10 q hl0 hl1 hl2 HU9
      obtain ⟨v0, v1, v2, v3, v4, v5, v6, v7, v8⟩ := HS9.out.wd
      obtain ⟨p0, p1, p2⟩ := HS9.out.ptrs
      obtain ⟨x0, x1, x2, x3, x4, x5, x6, x7, x8, x9, x10⟩ := HS9.out.x.cells
      have q : ∀ i : Nat, _ := fun i => frozen_of_row _ _ i _ _ HS9.out.x
      have hl0 := HS9.out.hP
      have hl1 := Nat.lt_trans HS9.out.hBP HS9.out.hP
      have hl2 := Nat.lt_trans HS9.out.hAB hl1
      simp only at x0 x1 x2 x3 x4 x5 x6 x7 x8 x9 x10
      go_wp2_with fail
      refine (HTX.out _ HS9.out.b).mono ?_
      rintro e u10 ⟨rfl, hb⟩
      have HU10 := Lib.hid (HS9.out.below hb)
      clear hb HS9 v0 v1 v2 v3 v4 v5 v6 v7 v8 p0 p1 p2 x0 x1 x2 x3 x4 x5 x6 x7 x8 x9 x10 q hl0 hl1 hl2
      obtain ⟨v0, v1, v2, v3, v4, v5, v6, v7, v8⟩ := HU10.out.wd
      obtain ⟨p0, p1, p2⟩ := HU10.out.ptrs
      obtain ⟨x0, x1, x2, x3, x4, x5, x6, x7, x8, x9, x10⟩ := HU10.out.x.cells
      have q : ∀ i : Nat, _ := fun i => frozen_of_row _ _ i _ _ HU10.out.x
      have hl0 := HU10.out.hP
      have hl1 := Nat.lt_trans HU10.out.hBP HU10.out.hP
      have hl2 := Nat.lt_trans HU10.out.hAB hl1
      simp only at x0 x1 x2 x3 x4 x5 x6 x7 x8 x9 x10
      obtain ⟨y0, y1, y2, y3, y4, y5, y6, y7, y8, y9, y10⟩ := HU10.out.x0.cells
      have q0 : ∀ i : Nat, _ := fun i => frozen_of_row _ _ i _ _ HU10.out.x0
      have hl3 := HU10.out.x0.lt
      simp only at y0 y1 y2 y3 y4 y5 y6 y7 y8 y9 y10
      rcases HR.out with ⟨rfl, rfl, rfl, rfl⟩ | ⟨hne, rfl, rfl⟩
      case' inl =>
        go_upto_region 20 with fail
        clear v0 v1 v2 v3 v4 v5 v6 v7 v8 p0 p1 p2 q x0 x1 x2 x3 x4 x5 x6 x7 x8 x9 x10 y0 y1 y2 y3 y4 y5 y6 y7 y8 y9 y10 q0 hl0 hl1 hl2 hl3
        obtain ⟨RR, eRR⟩ : ∃ RR : Ru, ⟨txt a1, atoiV a2, atoiV a3, atoiV a4, dk, dw, dn, tm, ckOf a6, sv, txt a8⟩ = RR := ⟨_, rfl⟩
        obtain ⟨CS, eCS⟩ : ∃ CS, (ruCells RR).toList = CS := ⟨_, rfl⟩
        have hrB : u10.rangeAt B 0 CS := by rw [← eCS, ← eRR]; exact HU10.out.x.range
        have hth : u10.there w.heap.size 0 CS.toArray.size := by rw [← eCS]; exact HU10.out.x0.there
        have hin : (Tryz.prog.info? 28).map (·.size) = some CS.length := by rw [← eCS]; exact info_rule
        have hin2 : (Tryz.prog.info? 28).map (·.size) = some CS.toArray.size := by rw [← eCS]; exact info_rule
        have h1c : CS.toArray.all (·.oneCell') = true := by rw [← eCS]; exact ru_one RR
        have hst := Lib.hid (HU10.out.x0.stored RR)
        have hbl := Lib.hid (below_setCells w.heap.size (Nat.le_refl _) CS.toArray.toList 0 u10 HU10.out.b)
        rw [eCS] at hst
        go_step
        refine wpList_load_mid rfl 28 _ rfl B 0 rfl CS _ hrB Tryz.underlying28 rfl hin ?_
        refine wpList_store_mid rfl 28 _ _ rfl w.heap.size 0 CS.toArray rfl rfl hth hin2 h1c ?_
        have hst2 : Hid (RuBx (u10.setCells w.heap.size 0 CS.toArray.toList) w.heap.size RR) := hst
        generalize u10.setCells w.heap.size 0 CS.toArray.toList = W10 at hst2 hbl ⊢
        have hres := Lib.hid (show ∀ tm : Array Value, tm.getD 2 undef = .pointer (some ⟨w.heap.size, 0, none⟩) → (results Tryz.f8 tm).run Tryz.prog W10 = .ok (.tuple #[ruV RR, tm.getD 3 undef]) W10 from fun tm hp => results_mid rfl tm W10 w.heap.size 0 (ruCells RR).toList _ hp hst2.out.range Tryz.underlying28 rfl info_rule)
        have ERR := Lib.hid eRR
        clear hrB hth hin hin2 h1c hst hst2 eRR eCS
        repeat go_step
        refine bodyPost_ret (hres.out _ rfl) rfl ⟨by rw [← ERR.out]; rfl, hbl.out⟩
      case' inr =>
        clear v0 v1 v2 v3 v4 v5 v6 v7 v8 p0 p1 p2 q x0 x1 x2 x3 x4 x5 x6 x7 x8 x9 x10 y0 y1 y2 y3 y4 y5 y6 y7 y8 y9 y10 q0 hl0 hl1 hl2 hl3
        have hth := HU10.out.x0.there
        have hst := Lib.hid (HU10.out.x0.stored ru0)
        have hbl := Lib.hid (below_setCells w.heap.size (Nat.le_refl _) (ruCells ru0).toList 0 u10 HU10.out.b)
        have hre : Hid (∀ (W10 : World), RuBx W10 w.heap.size ru0 → ∀ tm : Array Value, tm.getD 2 undef = .pointer (some ⟨w.heap.size, 0, none⟩) → (results Tryz.f8 tm).run Tryz.prog W10 = .ok (.tuple #[ruV ru0, tm.getD 3 undef]) W10) := by
          show ∀ (W10 : World), _
          exact fun W10 h tm hp => results_mid rfl tm W10 w.heap.size 0 (ruCells ru0).toList _ hp h.range Tryz.underlying28 rfl info_rule
        have HTH := Lib.hid hth
        clear hth
        by_cases hte : te = 0
        case' pos =>
          subst hte
          have htl : t.toList ≠ (txt l).toList := by
            intro e
            rcases hne with h | h
            · exact h rfl
            · exact h (ByteArray.ext (Array.toList_inj.1 (by simpa [ByteArray.toList_eq] using e)))
          have ht1 : (t.toList == (txt l).toList) = false := by simpa using htl
          have ht2 : (!t.toList == (txt l).toList) = true := by rw [ht1]; rfl
          clear hne htl
          go_upto_region 19 with fail
        case' neg =>
          have hz : (te == 0) = false := by simpa using hte
          have hz2 : (!te == 0) = true := by rw [hz]; rfl
          clear hne
          go_upto_region 19 with fail
        all_goals
          go_step
          go_step
          go_step
          go_step
          refine wpList_store_mid rfl 28 _ _ rfl w.heap.size 0 (ruCells ru0) rfl rfl HTH.out info_rule (ru_one ru0) ?_
          have hst2 : Hid (RuBx (u10.setCells w.heap.size 0 (ruCells ru0).toList) w.heap.size ru0) := hst
          generalize u10.setCells w.heap.size 0 (ruCells ru0).toList = W10 at hst2 hbl ⊢
          clear hst
          repeat go_step
          refine bodyPost_ret (hre.out _ hst2.out _ rfl) rfl ⟨rfl, hbl.out⟩

end Go.Proofs.YtfocdcdggidboaaGreatDoor
