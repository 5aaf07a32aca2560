/- Types and changes in memory of one's own; their comparison; slices.Index and slices.Equal of them. -/
import Derived.Test.YtmjakhageehcoaaDoorNormMath0
import Derived.Deep.RegionLaw
import Derived.Deep.RegionHeld3
import Derived.Deep.AppendLies
import Derived.Laws.NewBlocks
import Derived.Laws.OwnMore
import Derived.Laws.StructEq
import Derived.BigQuiet
import Derived.Lib.SmallJoins
import Derived.Below
namespace Go.Proofs.YtmjakhageehcoaaDoor
open Go.RowKit Go.Joins
open Classical
set_option linter.unusedVariables false
set_option linter.unusedSimpArgs false

def tyC (x : Ty) : List Value := [.int .i64 x.off, .bool x.save, .string x.name]
def chC (x : Ch) : List Value := [.int .i64 x.t, .int .i64 x.k]
def tyCells (l : List Ty) : List Value := l.flatMap tyC
def chCells (l : List Ch) : List Value := l.flatMap chC
theorem tyCells_snoc (l : List Ty) (x : Ty) : tyCells (l ++ [x]) = tyCells l ++ tyC x := by simp [tyCells]
theorem chCells_snoc (l : List Ch) (x : Ch) : chCells (l ++ [x]) = chCells l ++ chC x := by simp [chCells]
theorem tyCells_get : ∀ (l : List Ty) (i : Nat) (h : i < l.length), (tyCells l)[i * 3]? = some (.int .i64 l[i].off) ∧ (tyCells l)[i * 3 + 1]? = some (.bool l[i].save) ∧ (tyCells l)[i * 3 + 2]? = some (.string l[i].name)
  | [], i, h => by simp at h
  | x :: r, 0, _ => by simp [tyCells, tyC]
  | x :: r, i + 1, h => by
    have := tyCells_get r i (by simpa using h)
    have e : tyCells (x :: r) = tyC x ++ tyCells r := by simp [tyCells]
    rw [e]
    have e3 : (tyC x).length = 3 := rfl
    rw [List.getElem?_append_right (by rw [e3]; omega), List.getElem?_append_right (by rw [e3]; omega), List.getElem?_append_right (by rw [e3]; omega), e3,
      show (i + 1) * 3 - 3 = i * 3 by omega, show (i + 1) * 3 + 1 - 3 = i * 3 + 1 by omega, show (i + 1) * 3 + 2 - 3 = i * 3 + 2 by omega]
    simpa using this
theorem chCells_get : ∀ (l : List Ch) (i : Nat) (h : i < l.length), (chCells l)[i * 2]? = some (.int .i64 l[i].t) ∧ (chCells l)[i * 2 + 1]? = some (.int .i64 l[i].k)
  | [], i, h => by simp at h
  | x :: r, 0, _ => by simp [chCells, chC]
  | x :: r, i + 1, h => by
    have := chCells_get r i (by simpa using h)
    have e : chCells (x :: r) = chC x ++ chCells r := by simp [chCells]
    rw [e]
    have e3 : (chC x).length = 2 := rfl
    rw [List.getElem?_append_right (by rw [e3]; omega), List.getElem?_append_right (by rw [e3]; omega), e3,
      show (i + 1) * 2 - 2 = i * 2 by omega, show (i + 1) * 2 + 1 - 2 = i * 2 + 1 by omega]
    simpa using this

theorem own_keep {W W' : World} {B : Nat} {e : TypeId} {s n : Nat} {v : Value} {xs : List Value} (h : W.ownsRow B e s v n xs) (hk : ∀ g, v.ownBlock = some g → W'.heap[g]? = W.heap[g]?) : W'.ownsRow B e s v n xs := by
  obtain ⟨h1, h2⟩ := h
  refine ⟨h1, ?_⟩
  rcases h2 with h2 | ⟨g, cap, cur, rfl, hb, hg, r⟩
  · exact .inl h2
  · exact .inr ⟨g, cap, cur, rfl, hb, (hk g rfl).trans hg, r⟩
theorem own_cells {W : World} {B : Nat} {e : TypeId} {s n : Nat} {v : Value} {xs : List Value} (h : W.ownsRow B e s v n xs) : (v = .slice none 0 0 ∧ n = 0) ∨ ∃ g cap, v = .slice (some ⟨g, 0, none⟩) n cap ∧ B ≤ g ∧ g < W.heap.size ∧ ∀ i u, xs[i]? = some u → W.cell? ⟨g, i, none⟩ = some u := by
  rcases h.2 with h2 | ⟨g, cap, cur, rfl, hb, hg, hn, hm, hs, ht⟩
  · exact .inl h2
  · refine .inr ⟨g, cap, rfl, hb, (Array.getElem?_eq_some_iff.1 hg).1, fun i u hu => ?_⟩
    rw [cell_of_row W g i cur _ (0, 0) hg]
    rw [← ht, List.getElem?_take] at hu
    split at hu
    · simpa using hu
    · cases hu
theorem own_types {W : World} {B : Nat} {v : Value} {l : List Ty} (h : W.ownsRow B 45 3 v l.length (tyCells l)) (hl : l.length ≤ 100000) (hn : ∀ x ∈ l, x.name.size ≤ maxLen) : SlTy W v l := by
  refine ⟨?_, by simp only [maxLen]; omega, hn⟩
  rcases own_cells h with ⟨rfl, h0⟩ | ⟨g, cap, rfl, hb, hg, hc⟩
  · have : l = [] := List.eq_nil_of_length_eq_zero h0
    subst this
    exact ⟨none, 0, rfl, fun h => absurd rfl h⟩
  · refine ⟨_, cap, rfl, fun _ => ⟨g, 0, rfl, hg, fun i hi => ?_⟩⟩
    obtain ⟨k1, k2, k3⟩ := tyCells_get l i hi
    exact ⟨by rw [Nat.zero_add]; exact hc _ _ k1, by rw [Nat.zero_add]; exact hc _ _ k2, by rw [Nat.zero_add]; exact hc _ _ k3⟩
theorem own_chs {W : World} {B : Nat} {v : Value} {l : List Ch} (h : W.ownsRow B 43 2 v l.length (chCells l)) (hl : l.length ≤ 100000) : SlCh W v l := by
  refine ⟨?_, by simp only [maxLen]; omega⟩
  rcases own_cells h with ⟨rfl, h0⟩ | ⟨g, cap, rfl, hb, hg, hc⟩
  · have : l = [] := List.eq_nil_of_length_eq_zero h0
    subst this
    exact ⟨none, 0, rfl, fun h => absurd rfl h⟩
  · refine ⟨_, cap, rfl, fun _ => ⟨g, 0, rfl, hg, fun i hi => ?_⟩⟩
    obtain ⟨k1, k2⟩ := chCells_get l i hi
    exact ⟨by rw [Nat.zero_add]; exact hc _ _ k1, by rw [Nat.zero_add]; exact hc _ _ k2⟩
/-- rows of other element types lie in other blocks -/
theorem own_apart {W : World} {B B' : Nat} {e e' : TypeId} {s s' n n' : Nat} {v v' : Value} {xs xs' : List Value} (h : W.ownsRow B e s v n xs) (h' : W.ownsRow B' e' s' v' n' xs') (hne : e ≠ e') : v.ownBlock = none ∨ v.ownBlock ≠ v'.ownBlock := by
  rcases h.2 with ⟨rfl, _⟩ | ⟨g, cap, cur, rfl, _, hg, _⟩
  · exact .inl rfl
  · refine .inr fun e0 => ?_
    rcases h'.2 with ⟨rfl, _⟩ | ⟨g', cap', cur', rfl, _, hg', _⟩
    · simp [Value.ownBlock] at e0
    · simp only [Value.ownBlock] at e0
      injection e0 with e0
      subst e0
      rw [hg] at hg'
      injection hg' with hg'
      injection hg' with _ h2
      exact hne h2


theorem fieldsTyN : (Tryd.prog.fieldsOf 45).toList = [{ name := "Offset", type := 3, offset := 0, embedded := false, tag := "", pkgPath := "", byteOffset := 0 }, { name := "Save", type := 4, offset := 1, embedded := false, tag := "", pkgPath := "", byteOffset := 8 }, { name := "Name", type := 9, offset := 2, embedded := false, tag := "", pkgPath := "", byteOffset := 16 }] := by kernel_rfl
theorem fieldsChN : (Tryd.prog.fieldsOf 43).toList = [{ name := "At", type := 3, offset := 0, embedded := false, tag := "", pkgPath := "", byteOffset := 0 }, { name := "Type", type := 3, offset := 1, embedded := false, tag := "", pkgPath := "", byteOffset := 8 }] := by kernel_rfl
theorem agg_tyN : Tryd.prog.underlying 45 = some (.struct (Tryd.prog.fieldsOf 45)) := by kernel_rfl
theorem agg_chN : Tryd.prog.underlying 43 = some (.struct (Tryd.prog.fieldsOf 43)) := by kernel_rfl
theorem stood_tyN : Tryd.prog.stoodInHeld 45 = false := by kernel_rfl
theorem stood_chN : Tryd.prog.stoodInHeld 43 = false := by kernel_rfl
theorem ty_eq {x y : Ty} : x = y ↔ x.off = y.off ∧ x.save = y.save ∧ x.name = y.name := by
  cases x; cases y; simp
theorem ch_eq {x y : Ch} : x = y ↔ x.t = y.t ∧ x.k = y.k := by
  cases x; cases y; simp
theorem bytes_ne {a b : ByteArray} (h : a ≠ b) : (a.toList == b.toList) = false := by
  cases he : a.toList == b.toList
  · rfl
  · have : a.toList = b.toList := by simpa using he
    rw [ByteArray.toList_eq, ByteArray.toList_eq] at this
    exact absurd (by cases a; cases b; simp_all) h
theorem eql_ty (x y : Ty) (W : World) : (binOp .eql 45 (.agg #[.int .i64 x.off, .bool x.save, .string x.name]) (.agg #[.int .i64 y.off, .bool y.save, .string y.name])).run Tryd.prog W = .ok (.bool (decide (x = y))) W := by
  rw [run_eql_struct, run_equalIn_agg W 9999 _ _ _ agg_tyN stood_tyN, fieldsTyN]
  by_cases h1 : x.off = y.off
  · by_cases h2 : x.save = y.save
    · by_cases h3 : x.name = y.name
      · have e : x = y := ty_eq.2 ⟨h1, h2, h3⟩
        simp [go_sem, Op.eqFields, Tryd.underlying3, Tryd.underlying4, Tryd.underlying9, e]
      · have e : ¬ x = y := fun e => h3 (by rw [e])
        simp [go_sem, Op.eqFields, Tryd.underlying3, Tryd.underlying4, Tryd.underlying9, e, h1, h2, bytes_ne h3]
    · have e : ¬ x = y := fun e => h2 (by rw [e])
      simp [go_sem, Op.eqFields, Tryd.underlying3, Tryd.underlying4, Tryd.underlying9, e, h1, h2]
  · have e : ¬ x = y := fun e => h1 (by rw [e])
    simp [go_sem, Op.eqFields, Tryd.underlying3, Tryd.underlying4, Tryd.underlying9, e, h1]
theorem neq_tyN (x y : Ty) (W : World) : (binOp .neq 45 (.agg #[.int .i64 x.off, .bool x.save, .string x.name]) (.agg #[.int .i64 y.off, .bool y.save, .string y.name])).run Tryd.prog W = .ok (.bool (!decide (x = y))) W := by
  rw [run_neq_struct, run_equalIn_agg W 9999 _ _ _ agg_tyN stood_tyN, fieldsTyN]
  by_cases h1 : x.off = y.off
  · by_cases h2 : x.save = y.save
    · by_cases h3 : x.name = y.name
      · have e : x = y := ty_eq.2 ⟨h1, h2, h3⟩
        simp [go_sem, Op.eqFields, Tryd.underlying3, Tryd.underlying4, Tryd.underlying9, e]
      · have e : ¬ x = y := fun e => h3 (by rw [e])
        simp [go_sem, Op.eqFields, Tryd.underlying3, Tryd.underlying4, Tryd.underlying9, e, h1, h2, bytes_ne h3]
    · have e : ¬ x = y := fun e => h2 (by rw [e])
      simp [go_sem, Op.eqFields, Tryd.underlying3, Tryd.underlying4, Tryd.underlying9, e, h1, h2]
  · have e : ¬ x = y := fun e => h1 (by rw [e])
    simp [go_sem, Op.eqFields, Tryd.underlying3, Tryd.underlying4, Tryd.underlying9, e, h1]
theorem neq_chN (x y : Ch) (W : World) : (binOp .neq 43 (.agg #[.int .i64 x.t, .int .i64 x.k]) (.agg #[.int .i64 y.t, .int .i64 y.k])).run Tryd.prog W = .ok (.bool (!decide (x = y))) W := by
  rw [run_neq_struct, run_equalIn_agg W 9999 _ _ _ agg_chN stood_chN, fieldsChN]
  by_cases h1 : x.t = y.t
  · by_cases h2 : x.k = y.k
    · have e : x = y := ch_eq.2 ⟨h1, h2⟩
      simp [go_sem, Op.eqFields, Tryd.underlying3, e]
    · have e : ¬ x = y := fun e => h2 (by rw [e])
      simp [go_sem, Op.eqFields, Tryd.underlying3, e, h1, h2]
  · have e : ¬ x = y := fun e => h1 (by rw [e])
    simp [go_sem, Op.eqFields, Tryd.underlying3, e, h1]

theorem below_drewNm {B : Nat} {a w : World} (h : Below B a w) (n : Nat) : Below B a (w.drewN n) := ⟨h.os, h.tape, h.output, h.size, h.block⟩
/-- the place of a type, or -1 -/
noncomputable def idxI (l : List Ty) (x : Ty) : Int := if x ∈ l then (idxTy l x : Int) else -1
theorem idx_first {l : List Ty} {x : Ty} {k : Nat} (hk : k < l.length) (hx : l[k] = x) (hno : ∀ j (h : j < k), l[j]'(by omega) ≠ x) : idxTy l x = k := by
  unfold idxTy
  rw [List.findIdx_eq hk]
  exact ⟨by simp [hx], fun j hj => by simpa using hno j hj⟩

set_option maxRecDepth 100000 in
set_option maxHeartbeats 1000000 in
theorem IndexTy_any (l : List Ty) (x : Ty) (v : Value) (w : World) (h1 : SlTy w v l) (hl : l.length ≤ 100000) :
    Calls Tryd.prog 69 #[v, tyV x] w fun e w' => e = .returned (.int .i64 (idxI l x)) ∧ Below w.heap.size w w' := by
  obtain ⟨p, cap, rfl, g1⟩ := h1.shape
  have HA := Lib.hid g1
  clear h1 g1
  go_enter Tryd.func69, Tryd.ntmps69
  go_wp2
  go_loopw [8] (fun i wr => ∃ k : Nat, k ≤ l.length ∧ i = .int .i64 k ∧ (∀ j (h : j < k) (h2 : j < l.length), l[j] ≠ x) ∧ Below (w.alloc (.cells #[.int .i64 x.off, .bool x.save, .string x.name] 45)).heap.size (w.alloc (.cells #[.int .i64 x.off, .bool x.save, .string x.name] 45)) wr) (fun i _ => l.length - (intOf i).toNat)
  case atStart => exact ⟨0, Nat.zero_le _, rfl, fun j h => absurd h (Nat.not_lt_zero j), Below.refl _ _⟩
  case round =>
    obtain ⟨k, hk, rfl, hno, hbel⟩ := hrel
    have hbw : Below w.heap.size w wr := ((Below.refl _ w).alloc (Nat.le_refl _) _).trans (hbel.mono (by simp))
    have f0 : wr.cell? ⟨w.heap.size, 0, none⟩ = some (.int .i64 x.off) := (hbel.cell (p := ⟨w.heap.size, 0, none⟩) (by simp)).trans ((cell_of_row _ _ _ _ _ _ (heap_alloc_new w _)).trans rfl)
    have f1 : wr.cell? ⟨w.heap.size, 1, none⟩ = some (.bool x.save) := (hbel.cell (p := ⟨w.heap.size, 1, none⟩) (by simp)).trans ((cell_of_row _ _ _ _ _ _ (heap_alloc_new w _)).trans rfl)
    have f2 : wr.cell? ⟨w.heap.size, 2, none⟩ = some (.string x.name) := (hbel.cell (p := ⟨w.heap.size, 2, none⟩) (by simp)).trans ((cell_of_row _ _ _ _ _ _ (heap_alloc_new w _)).trans rfl)
    have HBL := Lib.hid hbel
    have HBW := Lib.hid hbw
    have HNO := Lib.hid hno
    clear hbel hbw hno
    by_cases hlt : k < l.length
    · obtain ⟨y, ey⟩ : ∃ y, l[k] = y := ⟨_, rfl⟩
      have hne0 : l ≠ [] := by intro e; rw [e] at hlt; simp at hlt
      obtain ⟨b, o, rfl, hb, ha0⟩ := HA.out hne0
      have ha := (ha0 k hlt).below HBW.out hb
      rw [ey] at ha
      obtain ⟨a0, a1, a2⟩ := ha
      have hlb := World.block_lt_of_cell? _ _ a0
      have hq := eql_ty x y
      have EY := Lib.hid ey
      clear ey ha0 hne0
      by_cases hxy : x = y
      · have hR : Hid (idxI l x = (k : Int)) := by
          show _ = _
          unfold idxI
          have hm : x ∈ l := by rw [hxy, ← EY.out]; exact List.getElem_mem _
          rw [if_pos hm, idx_first hlt (by rw [EY.out, hxy]) (fun j hj => HNO.out j hj (by omega))]
        have hd : decide (x = y) = true := by simpa using hxy
        rw [hd] at hq
        clear hxy hd
        go_wp2
        go_quiet (fail)
        go_wp2
        go_ret
        exact ⟨ret_int' hR.out.symm, below_drewNm HBW.out _⟩
      · have hd : decide (x = y) = false := by simpa using hxy
        rw [hd] at hq
        have hno' : ∀ j (h : j < k + 1) (h2 : j < l.length), l[j] ≠ x := fun j hj h2 => by
          by_cases e : j = k
          · subst e; rw [EY.out]; exact fun e2 => hxy e2.symm
          · exact HNO.out j (by omega) h2
        have HN2 := Lib.hid hno'
        clear hno' hd hxy
        go_wp2
        go_quiet (fail)
        go_wp2
        go_roundw
        case rel => exact ⟨k + 1, by omega, by go_num, HN2.out, below_drewNm HBL.out _⟩
        case measure => simp [intOf]; omega
    · have hR : Hid (idxI l x = -1) := by
        show _ = _
        unfold idxI
        rw [if_neg]
        intro hm
        obtain ⟨j, hj, e⟩ := List.getElem_of_mem hm
        exact HNO.out j (by omega) hj e
      go_wp2
      go_ret
      exact ⟨ret_int' hR.out.symm, HBW.out⟩
end Go.Proofs.YtmjakhageehcoaaDoor
