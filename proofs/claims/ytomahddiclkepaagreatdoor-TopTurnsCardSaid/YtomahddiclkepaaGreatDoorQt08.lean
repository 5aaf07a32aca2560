/- Normal tables: plain Lean, but for what they say at a time. A type's comparison. Types and changes in memory of one's own; their comparison; slices.Index and slices.Equal of them. The maker of a table: Begin, number, Change. The maker of a table: Change. table.Begin; norm.Of: a table's normal form. Eras of a table: plain Lean, and in memory; back.era. rule.IsName; back.Book: its memory. What a list of changes says, by steps of one second; lists that rise are told by their members: plain. -/
import Derived.Test.YtomahddiclkepaaGreatDoorQt07
import Derived.WalkKit
import Derived.Laws.StructEq
import Derived.Test.YtomahddiclkepaaGreatDoorQt05
import Derived.Deep.RegionLaw
import Derived.Deep.RegionHeld3
import Derived.Deep.AppendLies
import Derived.Laws.NewBlocks
import Derived.Laws.OwnMore
import Derived.BigQuiet
import Derived.Lib.SmallJoins
import Derived.Below
import Derived.Test.YtomahddiclkepaaGreatDoorQt01
import Derived.Test.YtomahddiclkepaaGreatDoorQt02
import Derived.Deep.DeepCutAuto
import Derived.Handy
namespace Go.Proofs.YtomahddiclkepaaGreatDoor
open Classical
set_option linter.unusedVariables false

/-- what the maker has -/
structure NS where
  types : List Ty
  chs : List Ch
  last : Ty
noncomputable def idxTy (l : List Ty) (x : Ty) : Nat := l.findIdx (fun y => decide (y = x))
noncomputable def addTy (l : List Ty) (x : Ty) : List Ty := if x ∈ l then l else l ++ [x]
noncomputable def stepN (s : NS) (c : Int × Ty) : NS := if c.2 = s.last then s else ⟨addTy s.types c.2, s.chs ++ [⟨c.1, idxTy s.types c.2⟩], c.2⟩
def begN (x : Ty) : NS := ⟨[x], [], x⟩
noncomputable def makeN (x : Ty) (l : List (Int × Ty)) : NS := l.foldl stepN (begN x)
noncomputable def normR (x : Ty) (l : List (Int × Ty)) : Tab := ⟨(makeN x l).types, 0, (makeN x l).chs⟩
def resH (t : Tab) : Ty := tyD t.types t.first
def resL (t : Tab) : List (Int × Ty) := t.chs.map fun c => (c.t, tyD t.types c.k)
noncomputable def normT (t : Tab) : Tab := normR (resH t) (resL t)

/-- changes to another type alone -/
noncomputable def squ : Ty → List (Int × Ty) → List (Int × Ty)
  | _, [] => []
  | last, c :: r => if c.2 = last then squ last r else c :: squ c.2 r

theorem idx_in {l : List Ty} {x : Ty} (h : x ∈ l) : idxTy l x < l.length ∧ tyD l (idxTy l x : Nat) = x := by
  have hlt : idxTy l x < l.length := List.findIdx_lt_length_of_exists ⟨x, h, by simp⟩
  refine ⟨hlt, ?_⟩
  have h2 := List.findIdx_getElem (p := fun y => decide (y = x)) (xs := l) (w := hlt)
  have h3 : l[l.findIdx fun y => decide (y = x)] = x := by simpa using h2
  unfold tyD idxTy
  rw [show ((l.findIdx (fun y => decide (y = x)) : Nat) : Int).toNat = l.findIdx (fun y => decide (y = x)) by omega, List.getElem?_eq_getElem (show l.findIdx (fun y => decide (y = x)) < l.length from hlt)]
  exact h3
theorem idx_out {l : List Ty} {x : Ty} (h : x ∉ l) : idxTy l x = l.length := by
  unfold idxTy
  exact List.findIdx_eq_length_of_false (fun y hy => by simp; rintro rfl; exact h hy)
theorem tyD_app (l m : List Ty) (k : Int) (h0 : 0 ≤ k) (h : k < l.length) : tyD (l ++ m) k = tyD l k := by
  unfold tyD
  rw [List.getElem?_append_left (by omega)]
theorem tyD_add (l : List Ty) (x : Ty) (k : Int) (h0 : 0 ≤ k) (h : k < l.length) : tyD (addTy l x) k = tyD l k := by
  unfold addTy
  split
  · rfl
  · exact tyD_app _ _ _ h0 h
theorem tyD_idx (l : List Ty) (x : Ty) : tyD (addTy l x) (idxTy l x : Nat) = x ∧ idxTy l x < (addTy l x).length := by
  unfold addTy
  split
  · next h => exact ⟨(idx_in h).2, (idx_in h).1⟩
  · next h =>
    rw [idx_out h]
    refine ⟨?_, by simp⟩
    unfold tyD
    simp
theorem add_length (l : List Ty) (x : Ty) : l.length ≤ (addTy l x).length := by
  unfold addTy; split <;> simp
theorem add_nodup {l : List Ty} {x : Ty} (h : l.Nodup) : (addTy l x).Nodup := by
  unfold addTy
  split
  · exact h
  · next hx =>
    rw [List.nodup_append]
    refine ⟨h, by simp, ?_⟩
    intro a ha b hb
    simp only [List.mem_singleton] at hb
    subst hb
    rintro rfl
    exact hx ha
theorem mem_add {l : List Ty} {x y : Ty} : y ∈ addTy l x ↔ y ∈ l ∨ y = x := by
  unfold addTy
  split
  · next h => exact ⟨.inl, fun h2 => h2.elim id (fun e => e ▸ h)⟩
  · simp

/-- what holds of the maker all along -/
structure NInv (x : Ty) (s : NS) : Prop where
  nodup : s.types.Nodup
  head : tyD s.types 0 = x
  pos : 0 < s.types.length
  lastIn : s.last ∈ s.types
  ks : ∀ c ∈ s.chs, 0 ≤ c.k ∧ c.k < s.types.length

theorem begN_inv (x : Ty) : NInv x (begN x) := ⟨by simp [begN], by simp [begN, tyD], by simp [begN], by simp [begN], by simp [begN]⟩
theorem stepN_inv {x : Ty} {s : NS} (h : NInv x s) (c : Int × Ty) : NInv x (stepN s c) := by
  unfold stepN
  split
  · exact h
  · have hl := add_length s.types c.2
    refine ⟨add_nodup h.nodup, (tyD_add _ _ 0 (by omega) (by have := h.pos; omega)).trans h.head, by have := h.pos; show 0 < (addTy s.types c.2).length; omega, mem_add.2 (.inr rfl), ?_⟩
    intro d hd
    simp only [List.mem_append, List.mem_singleton] at hd
    show 0 ≤ d.k ∧ d.k < ((addTy s.types c.2).length : Int)
    rcases hd with hd | rfl
    · have := h.ks d hd; omega
    · have := (tyD_idx s.types c.2).2
      show 0 ≤ ((idxTy s.types c.2 : Nat) : Int) ∧ ((idxTy s.types c.2 : Nat) : Int) < _
      omega
theorem makeN_inv {x : Ty} (l : List (Int × Ty)) : ∀ s, NInv x s → NInv x (l.foldl stepN s) := by
  induction l with
  | nil => intro s h; exact h
  | cons c r ih => intro s h; exact ih _ (stepN_inv h c)

/-- what the maker's changes say -/
def resS (s : NS) : List (Int × Ty) := s.chs.map fun c => (c.t, tyD s.types c.k)
theorem stepN_res {x : Ty} {s : NS} (h : NInv x s) (c : Int × Ty) : resS (stepN s c) = resS s ++ (if c.2 = s.last then [] else [c]) := by
  unfold stepN
  split
  · simp
  · unfold resS
    simp only [List.map_append, List.map_cons, List.map_nil]
    congr 1
    · apply List.map_congr_left
      intro d hd
      have := h.ks d hd
      rw [tyD_add _ _ _ this.1 this.2]
    · rw [(tyD_idx s.types c.2).1]
theorem makeN_res {x : Ty} (l : List (Int × Ty)) : ∀ s, NInv x s → resS (l.foldl stepN s) = resS s ++ squ s.last l := by
  induction l with
  | nil => intro s _; simp [squ]
  | cons c r ih =>
    intro s h
    rw [List.foldl_cons, ih _ (stepN_inv h c), stepN_res h c]
    simp only [squ]
    by_cases e : c.2 = s.last
    · have : stepN s c = s := if_pos e
      rw [if_pos e, if_pos e, this]
      simp
    · have : (stepN s c).last = c.2 := by unfold stepN; rw [if_neg e]
      rw [if_neg e, if_neg e, this]
      simp
theorem resL_norm (x : Ty) (l : List (Int × Ty)) : resL (normR x l) = squ x l := by
  have := makeN_res l (begN x) (begN_inv x)
  exact this
theorem fold_squ (l : List (Int × Ty)) : ∀ s : NS, l.foldl stepN s = (squ s.last l).foldl stepN s := by
  induction l with
  | nil => intro s; rfl
  | cons c r ih =>
    intro s
    simp only [squ]
    by_cases e : c.2 = s.last
    · have : stepN s c = s := if_pos e
      rw [if_pos e, List.foldl_cons, this]
      exact ih s
    · have : (stepN s c).last = c.2 := by unfold stepN; rw [if_neg e]
      rw [if_neg e, List.foldl_cons, List.foldl_cons, ih, this]
theorem normR_squ (x : Ty) (l : List (Int × Ty)) : normR x (squ x l) = normR x l := by
  unfold normR makeN
  have := fold_squ l (begN x)
  rw [show (begN x).last = x from rfl] at this
  rw [this]
def valL (x : Ty) (l : List (Int × Ty)) (y : Int) : Ty := l.foldl (fun a c => if c.1 ≤ y then c.2 else a) x
def RiseL (l : List (Int × Ty)) : Prop := l.Pairwise (fun a b => a.1 < b.1)
theorem valL_late (l : List (Int × Ty)) (y : Int) : ∀ x, (∀ c ∈ l, y < c.1) → valL x l y = x := by
  induction l with
  | nil => intro x _; rfl
  | cons c r ih =>
    intro x h
    have hc := h c (by simp)
    unfold valL
    rw [List.foldl_cons, if_neg (by omega)]
    exact ih x (fun d hd => h d (by simp [hd]))
theorem squ_sub (l : List (Int × Ty)) : ∀ last, (squ last l).Sublist l := by
  induction l with
  | nil => intro last; exact List.Sublist.refl _
  | cons c r ih =>
    intro last
    simp only [squ]
    split
    · exact (ih last).cons c
    · exact (ih c.2).cons_cons c
theorem makeN_types {x : Ty} (l : List (Int × Ty)) : ∀ s : NS, ∀ y ∈ (l.foldl stepN s).types, y ∈ s.types ∨ ∃ c ∈ l, c.2 = y := by
  induction l with
  | nil => intro s y hy; exact .inl hy
  | cons c r ih =>
    intro s y hy
    rw [List.foldl_cons] at hy
    rcases ih _ y hy with h | ⟨d, hd, rfl⟩
    · unfold stepN at h
      split at h
      · exact .inl h
      · rcases mem_add.1 h with h | h
        · exact .inl h
        · exact .inr ⟨c, by simp, h.symm⟩
    · exact .inr ⟨d, by simp [hd], rfl⟩
theorem tyD_mem (l : List Ty) (k : Int) (h0 : 0 ≤ k) (h : k < l.length) : tyD l k ∈ l := by
  unfold tyD
  rw [List.getElem?_eq_getElem (by omega)]
  exact List.getElem_mem _
theorem resL_times (u : Tab) : (resL u).map (·.1) = u.chs.map (·.t) := by simp [resL]
end Go.Proofs.YtomahddiclkepaaGreatDoor
namespace Go.Proofs.YtomahddiclkepaaGreatDoor
open Go.RowKit
open Classical
set_option linter.unusedVariables false
set_option linter.unusedSimpArgs false

theorem fieldsTyN : (Tryz.prog.fieldsOf 51).toList = [{ name := "Offset", type := 3, offset := 0, embedded := false, tag := "", pkgPath := "", byteOffset := 0 }, { name := "Save", type := 4, offset := 1, embedded := false, tag := "", pkgPath := "", byteOffset := 8 }, { name := "Name", type := 9, offset := 2, embedded := false, tag := "", pkgPath := "", byteOffset := 16 }] := by kernel_rfl
theorem agg_tyN : Tryz.prog.underlying 51 = some (.struct (Tryz.prog.fieldsOf 51)) := by kernel_rfl
theorem stood_tyN : Tryz.prog.stoodInHeld 51 = false := by kernel_rfl
theorem ty_eq {x y : Ty} : x = y ↔ x.off = y.off ∧ x.save = y.save ∧ x.name = y.name := by
  cases x; cases y; simp
theorem bytes_ne {a b : ByteArray} (h : a ≠ b) : (a.toList == b.toList) = false := by
  cases he : a.toList == b.toList
  · rfl
  · have : a.toList = b.toList := by simpa using he
    rw [ByteArray.toList_eq, ByteArray.toList_eq] at this
    exact absurd (by cases a; cases b; simp_all) h
theorem eql_ty (x y : Ty) (W : World) : (binOp .eql 51 (.agg #[.int .i64 x.off, .bool x.save, .string x.name]) (.agg #[.int .i64 y.off, .bool y.save, .string y.name])).run Tryz.prog W = .ok (.bool (decide (x = y))) W := by
  rw [run_eql_struct, run_equalIn_agg W 9999 _ _ _ agg_tyN stood_tyN, fieldsTyN]
  by_cases h1 : x.off = y.off
  · by_cases h2 : x.save = y.save
    · by_cases h3 : x.name = y.name
      · have e : x = y := ty_eq.2 ⟨h1, h2, h3⟩
        simp [go_sem, Op.eqFields, Tryz.underlying3, Tryz.underlying4, Tryz.underlying9, e]
      · have e : ¬ x = y := fun e => h3 (by rw [e])
        simp [go_sem, Op.eqFields, Tryz.underlying3, Tryz.underlying4, Tryz.underlying9, e, h1, h2, bytes_ne h3]
    · have e : ¬ x = y := fun e => h2 (by rw [e])
      simp [go_sem, Op.eqFields, Tryz.underlying3, Tryz.underlying4, Tryz.underlying9, e, h1, h2]
  · have e : ¬ x = y := fun e => h1 (by rw [e])
    simp [go_sem, Op.eqFields, Tryz.underlying3, Tryz.underlying4, Tryz.underlying9, e, h1]
theorem eql_tySelf (o : Int) (s : Bool) (n : ByteArray) (W : World) : (binOp .eql 51 (.agg #[.int .i64 o, .bool s, .string n]) (.agg #[.int .i64 o, .bool s, .string n])).run Tryz.prog W = .ok (.bool true) W := by
  have := eql_ty ⟨o, s, n⟩ ⟨o, s, n⟩ W
  rwa [decide_eq_true rfl] at this
theorem neq_tyN (x y : Ty) (W : World) : (binOp .neq 51 (.agg #[.int .i64 x.off, .bool x.save, .string x.name]) (.agg #[.int .i64 y.off, .bool y.save, .string y.name])).run Tryz.prog W = .ok (.bool (!decide (x = y))) W := by
  rw [run_neq_struct, run_equalIn_agg W 9999 _ _ _ agg_tyN stood_tyN, fieldsTyN]
  by_cases h1 : x.off = y.off
  · by_cases h2 : x.save = y.save
    · by_cases h3 : x.name = y.name
      · have e : x = y := ty_eq.2 ⟨h1, h2, h3⟩
        simp [go_sem, Op.eqFields, Tryz.underlying3, Tryz.underlying4, Tryz.underlying9, e]
      · have e : ¬ x = y := fun e => h3 (by rw [e])
        simp [go_sem, Op.eqFields, Tryz.underlying3, Tryz.underlying4, Tryz.underlying9, e, h1, h2, bytes_ne h3]
    · have e : ¬ x = y := fun e => h2 (by rw [e])
      simp [go_sem, Op.eqFields, Tryz.underlying3, Tryz.underlying4, Tryz.underlying9, e, h1, h2]
  · have e : ¬ x = y := fun e => h1 (by rw [e])
    simp [go_sem, Op.eqFields, Tryz.underlying3, Tryz.underlying4, Tryz.underlying9, e, h1]
end Go.Proofs.YtomahddiclkepaaGreatDoor
namespace Go.Proofs.YtomahddiclkepaaGreatDoor
open Go.RowKit Go.Joins
open Classical
set_option linter.unusedVariables false
set_option linter.unusedSimpArgs false

def tyC (x : Ty) : List Value := [.int .i64 x.off, .bool x.save, .string x.name]
def chC (x : Ch) : List Value := [.int .i64 x.t, .int .i64 x.k]
def tyCells (l : List Ty) : List Value := l.flatMap tyC
def chCells (l : List Ch) : List Value := l.flatMap chC
theorem tyCells_snoc (l : List Ty) (x : Ty) : tyCells (l ++ [x]) = tyCells l ++ tyC x := by simp [tyCells]
theorem chCells_snoc (l : List Ch) (x : Ch) : chCells (l ++ [x]) = chCells l ++ chC x := by simp [chCells]
theorem tyCells_get : ∀ (l : List Ty) (i : Nat) (h : i < l.length), (tyCells l)[i * 3]? = some (.int .i64 l[i].off) ∧ (tyCells l)[i * 3 + 1]? = some (.bool l[i].save) ∧ (tyCells l)[i * 3 + 2]? = some (.string l[i].name)
  | [], i, h => by simp at h
  | x :: r, 0, _ => by simp [tyCells, tyC]
  | x :: r, i + 1, h => by
    have := tyCells_get r i (by simpa using h)
    have e : tyCells (x :: r) = tyC x ++ tyCells r := by simp [tyCells]
    rw [e]
    have e3 : (tyC x).length = 3 := rfl
    rw [List.getElem?_append_right (by rw [e3]; omega), List.getElem?_append_right (by rw [e3]; omega), List.getElem?_append_right (by rw [e3]; omega), e3,
      show (i + 1) * 3 - 3 = i * 3 by omega, show (i + 1) * 3 + 1 - 3 = i * 3 + 1 by omega, show (i + 1) * 3 + 2 - 3 = i * 3 + 2 by omega]
    simpa using this
theorem chCells_get : ∀ (l : List Ch) (i : Nat) (h : i < l.length), (chCells l)[i * 2]? = some (.int .i64 l[i].t) ∧ (chCells l)[i * 2 + 1]? = some (.int .i64 l[i].k)
  | [], i, h => by simp at h
  | x :: r, 0, _ => by simp [chCells, chC]
  | x :: r, i + 1, h => by
    have := chCells_get r i (by simpa using h)
    have e : chCells (x :: r) = chC x ++ chCells r := by simp [chCells]
    rw [e]
    have e3 : (chC x).length = 2 := rfl
    rw [List.getElem?_append_right (by rw [e3]; omega), List.getElem?_append_right (by rw [e3]; omega), e3,
      show (i + 1) * 2 - 2 = i * 2 by omega, show (i + 1) * 2 + 1 - 2 = i * 2 + 1 by omega]
    simpa using this

theorem own_types {W : World} {B : Nat} {v : Value} {l : List Ty} (h : W.ownsRow B 51 3 v l.length (tyCells l)) (hl : l.length ≤ 100000000) (hn : ∀ x ∈ l, x.name.size ≤ maxLen) : SlTy W v l := by
  refine ⟨?_, by simp only [maxLen]; omega, hn⟩
  rcases own_cells h with ⟨rfl, h0⟩ | ⟨g, cap, rfl, hb, hg, hc⟩
  · have : l = [] := List.eq_nil_of_length_eq_zero h0
    subst this
    exact ⟨none, 0, rfl, fun h => absurd rfl h⟩
  · refine ⟨_, cap, rfl, fun _ => ⟨g, 0, rfl, hg, fun i hi => ?_⟩⟩
    obtain ⟨k1, k2, k3⟩ := tyCells_get l i hi
    exact ⟨by rw [Nat.zero_add]; exact hc _ _ k1, by rw [Nat.zero_add]; exact hc _ _ k2, by rw [Nat.zero_add]; exact hc _ _ k3⟩
theorem own_chs {W : World} {B : Nat} {v : Value} {l : List Ch} (h : W.ownsRow B 61 2 v l.length (chCells l)) (hl : l.length ≤ 100000000) : SlCh W v l := by
  refine ⟨?_, by simp only [maxLen]; omega⟩
  rcases own_cells h with ⟨rfl, h0⟩ | ⟨g, cap, rfl, hb, hg, hc⟩
  · have : l = [] := List.eq_nil_of_length_eq_zero h0
    subst this
    exact ⟨none, 0, rfl, fun h => absurd rfl h⟩
  · refine ⟨_, cap, rfl, fun _ => ⟨g, 0, rfl, hg, fun i hi => ?_⟩⟩
    obtain ⟨k1, k2⟩ := chCells_get l i hi
    exact ⟨by rw [Nat.zero_add]; exact hc _ _ k1, by rw [Nat.zero_add]; exact hc _ _ k2⟩
theorem below_drewNm {B : Nat} {a w : World} (h : Below B a w) (n : Nat) : Below B a (w.drewN n) := ⟨h.os, h.tape, h.output, h.size, h.block⟩
/-- the place of a type, or -1 -/
noncomputable def idxI (l : List Ty) (x : Ty) : Int := if x ∈ l then (idxTy l x : Int) else -1
theorem idx_first {l : List Ty} {x : Ty} {k : Nat} (hk : k < l.length) (hx : l[k] = x) (hno : ∀ j (h : j < k), l[j]'(by omega) ≠ x) : idxTy l x = k := by
  unfold idxTy
  rw [List.findIdx_eq hk]
  exact ⟨by simp [hx], fun j hj => by simpa using hno j hj⟩

set_option maxRecDepth 100000 in
set_option maxHeartbeats 1000000 in
theorem IndexTy_any (l : List Ty) (x : Ty) (v : Value) (w : World) (h1 : SlTy w v l) (hl : l.length ≤ 100000000) :
    Calls Tryz.prog 152 #[v, tyV x] w fun e w' => e = .returned (.int .i64 (idxI l x)) ∧ Below w.heap.size w w' := by
  obtain ⟨p, cap, rfl, g1⟩ := h1.shape
  have HA := Lib.hid g1
  clear h1 g1
  go_enter Tryz.func152, Tryz.ntmps152
  go_wp2
  go_loopw [8] (fun i wr => ∃ k : Nat, k ≤ l.length ∧ i = .int .i64 k ∧ (∀ j (h : j < k) (h2 : j < l.length), l[j] ≠ x) ∧ Below (w.alloc (.cells #[.int .i64 x.off, .bool x.save, .string x.name] 51)).heap.size (w.alloc (.cells #[.int .i64 x.off, .bool x.save, .string x.name] 51)) wr) (fun i _ => l.length - (intOf i).toNat)
  case atStart => exact ⟨0, Nat.zero_le _, rfl, fun j h => absurd h (Nat.not_lt_zero j), Below.refl _ _⟩
  case round =>
    obtain ⟨k, hk, rfl, hno, hbel⟩ := hrel
    have hbw : Below w.heap.size w wr := ((Below.refl _ w).alloc (Nat.le_refl _) _).trans (hbel.mono (by simp))
    have f0 : wr.cell? ⟨w.heap.size, 0, none⟩ = some (.int .i64 x.off) := (hbel.cell (p := ⟨w.heap.size, 0, none⟩) (by simp)).trans ((cell_of_row _ _ _ _ _ _ (heap_alloc_new w _)).trans rfl)
    have f1 : wr.cell? ⟨w.heap.size, 1, none⟩ = some (.bool x.save) := (hbel.cell (p := ⟨w.heap.size, 1, none⟩) (by simp)).trans ((cell_of_row _ _ _ _ _ _ (heap_alloc_new w _)).trans rfl)
    have f2 : wr.cell? ⟨w.heap.size, 2, none⟩ = some (.string x.name) := (hbel.cell (p := ⟨w.heap.size, 2, none⟩) (by simp)).trans ((cell_of_row _ _ _ _ _ _ (heap_alloc_new w _)).trans rfl)
    have HBL := Lib.hid hbel
    have HBW := Lib.hid hbw
    have HNO := Lib.hid hno
    clear hbel hbw hno
    by_cases hlt : k < l.length
    · obtain ⟨y, ey⟩ : ∃ y, l[k] = y := ⟨_, rfl⟩
      have hne0 : l ≠ [] := by intro e; rw [e] at hlt; simp at hlt
      obtain ⟨b, o, rfl, hb, ha0⟩ := HA.out hne0
      have ha := (ha0 k hlt).below HBW.out hb
      rw [ey] at ha
      obtain ⟨a0, a1, a2⟩ := ha
      have hlb := World.block_lt_of_cell? _ _ a0
      have hq := eql_ty x y
      have EY := Lib.hid ey
      clear ey ha0 hne0
      by_cases hxy : x = y
      · have hR : Hid (idxI l x = (k : Int)) := by
          show _ = _
          unfold idxI
          have hm : x ∈ l := by rw [hxy, ← EY.out]; exact List.getElem_mem _
          rw [if_pos hm, idx_first hlt (by rw [EY.out, hxy]) (fun j hj => HNO.out j hj (by omega))]
        have hd : decide (x = y) = true := by simpa using hxy
        rw [hd] at hq
        clear hxy hd
        go_wp2
        go_quiet (fail)
        go_wp2
        go_ret
        exact ⟨ret_int' hR.out.symm, below_drewNm HBW.out _⟩
      · have hd : decide (x = y) = false := by simpa using hxy
        rw [hd] at hq
        have hno' : ∀ j (h : j < k + 1) (h2 : j < l.length), l[j] ≠ x := fun j hj h2 => by
          by_cases e : j = k
          · subst e; rw [EY.out]; exact fun e2 => hxy e2.symm
          · exact HNO.out j (by omega) h2
        have HN2 := Lib.hid hno'
        clear hno' hd hxy
        go_wp2
        go_quiet (fail)
        go_wp2
        go_roundw
        case rel => exact ⟨k + 1, by omega, by go_num, HN2.out, below_drewNm HBL.out _⟩
        case measure => simp [intOf]; omega
    · have hR : Hid (idxI l x = -1) := by
        show _ = _
        unfold idxI
        rw [if_neg]
        intro hm
        obtain ⟨j, hj, e⟩ := List.getElem_of_mem hm
        exact HNO.out j (by omega) hj e
      go_wp2
      go_ret
      exact ⟨ret_int' hR.out.symm, HBW.out⟩
end Go.Proofs.YtomahddiclkepaaGreatDoor
namespace Go.Proofs.YtomahddiclkepaaGreatDoor
open Go.RowKit Go.Joins
open Classical
set_option linter.unusedVariables false
set_option linter.unusedSimpArgs false

theorem undTypesN : Tryz.prog.underlying 55 = some (.slice 51) := by kernel_rfl
theorem undChsN : Tryz.prog.underlying 56 = some (.slice 61) := by kernel_rfl
theorem infoTyN : (Tryz.prog.info? 51).map (fun i => (i.zero, i.size, i.bytes)) = some (some (.agg #[.int .i64 0, .bool false, .string ⟨#[]⟩]), 3, 32) := by kernel_rfl
theorem infoChN : (Tryz.prog.info? 61).map (fun i => (i.zero, i.size, i.bytes)) = some (some (.agg #[.int .i64 0, .int .i64 0]), 2, 16) := by kernel_rfl

structure Mk (W : World) (M b0 : Nat) (sv cv : Value) (s : NS) : Prop where
  blk : W.heap[M]? = some (.cells #[sv, .int .i64 0, cv, .int .i64 s.last.off, .bool s.last.save, .string s.last.name] 133 (0, 0))
  hM : b0 ≤ M
  rowT : W.ownsRow b0 51 3 sv s.types.length (tyCells s.types)
  rowC : W.ownsRow b0 61 2 cv s.chs.length (chCells s.chs)

section
variable {W W' : World} {M b0 : Nat} {sv cv : Value} {s : NS}
theorem Mk.lt (h : Mk W M b0 sv cv s) : M < W.heap.size := (Array.getElem?_eq_some_iff.mp h.blk).1
theorem Mk.neT (h : Mk W M b0 sv cv s) : sv.ownBlock ≠ some M := by
  rcases h.rowT.2 with ⟨e, _⟩ | ⟨g, cap, cur, e, _, hg, _⟩
  · rw [e]; simp [Value.ownBlock]
  · rw [e]
    simp only [Value.ownBlock]
    intro e2
    injection e2 with e2
    subst e2
    rw [h.blk] at hg
    injection hg with hg
    injection hg with _ h2 _
    exact absurd h2 (by decide)
theorem Mk.neC (h : Mk W M b0 sv cv s) : cv.ownBlock ≠ some M := by
  rcases h.rowC.2 with ⟨e, _⟩ | ⟨g, cap, cur, e, _, hg, _⟩
  · rw [e]; simp [Value.ownBlock]
  · rw [e]
    simp only [Value.ownBlock]
    intro e2
    injection e2 with e2
    subst e2
    rw [h.blk] at hg
    injection hg with hg
    injection hg with _ h2 _
    exact absurd h2 (by decide)
/-- nothing of it has turned -/
theorem Mk.keep (h : Mk W M b0 sv cv s) (hk : ∀ b, b < W.heap.size → W'.heap[b]? = W.heap[b]?) : Mk W' M b0 sv cv s :=
  ⟨(hk _ h.lt).trans h.blk, h.hM, own_keep h.rowT fun g e => hk g (World.ownsRow.lt h.rowT g e).2, own_keep h.rowC fun g e => hk g (World.ownsRow.lt h.rowC g e).2⟩
theorem Mk.below (h : Mk W M b0 sv cv s) (hb : Below W.heap.size W W') : Mk W' M b0 sv cv s := h.keep hb.block
theorem Mk.alloc (h : Mk W M b0 sv cv s) (o : Obj) : Mk (W.alloc o) M b0 sv cv s := h.keep fun b hb => Below.heap_alloc _ _ _ hb
end

theorem mkCells {w : World} {M : Nat} {a b c d e f : Value} {T : TypeId} (h : w.heap[M]? = some (.cells #[a, b, c, d, e, f] T (0, 0))) :
    w.cell? ⟨M, 0, none⟩ = some a ∧ w.cell? ⟨M, 1, none⟩ = some b ∧ w.cell? ⟨M, 2, none⟩ = some c ∧ w.cell? ⟨M, 3, none⟩ = some d ∧ w.cell? ⟨M, 4, none⟩ = some e ∧ w.cell? ⟨M, 5, none⟩ = some f ∧
      (∀ o, w.frozen? ⟨M, o, none⟩ = false) :=
  ⟨(cell_of_row w _ 0 _ _ _ h).trans rfl, (cell_of_row w _ 1 _ _ _ h).trans rfl, (cell_of_row w _ 2 _ _ _ h).trans rfl, (cell_of_row w _ 3 _ _ _ h).trans rfl, (cell_of_row w _ 4 _ _ _ h).trans rfl, (cell_of_row w _ 5 _ _ _ h).trans rfl,
    fun o => by simp [World.frozen?, h]⟩

theorem heap_setCm {w : World} {R i : Nat} {cs : Array Value} {T : TypeId} {f : Nat × Nat} (h : w.heap[R]? = some (.cells cs T f)) (v : Value) : (w.setCell ⟨R, i, none⟩ v).heap[R]? = some (.cells (cs.setIfInBounds i v) T f) := by
  simp [World.setCell, Array.getElem?_modify, h]

set_option maxRecDepth 100000 in
set_option maxHeartbeats 2000000 in
theorem number_any (M b0 : Nat) (sv cv : Value) (s : NS) (x : Ty) (w : World) (hm : Mk w M b0 sv cv s) (hl : s.types.length ≤ 20000000) (hpos : 0 < s.types.length) (hn : ∀ y ∈ s.types, y.name.size ≤ maxLen) :
    Calls Tryz.prog 114 #[.pointer (some ⟨M, 0, none⟩), tyV x] w fun e w' => e = .returned (.int .i64 (idxTy s.types x : Nat)) ∧
      (∃ sv', Mk w' M b0 sv' cv ⟨addTy s.types x, s.chs, s.last⟩) ∧ w.heap.size ≤ w'.heap.size ∧ (∀ b, b < w.heap.size → b ≠ M → sv.ownBlock ≠ some b → w'.heap[b]? = w.heap[b]?) ∧ Below b0 w w' := by
  obtain ⟨gT, capT, rfl, hgT, hgT2⟩ := World.ownsRow.form hm.rowT hpos
  obtain ⟨m0, m1, m2, m3, m4, m5, mz⟩ := mkCells hm.blk
  have hMl := hm.lt
  have HM := Lib.hid hm
  obtain ⟨W1, eW⟩ : ∃ W1, w.alloc (.cells #[.int .i64 x.off, .bool x.save, .string x.name] 51) = W1 := ⟨_, rfl⟩
  have hm1 : Mk W1 M b0 (.slice (some ⟨gT, 0, none⟩) s.types.length capT) cv s := by rw [← eW]; exact hm.alloc _
  have hX : W1.heap[w.heap.size]? = some (.cells #[.int .i64 x.off, .bool x.save, .string x.name] 51 (0, 0)) := by rw [← eW]; exact heap_alloc_new w _
  have HI := Lib.hid (fun W hW => IndexTy_any s.types x (.slice (some ⟨gT, 0, none⟩) s.types.length capT) W hW (by omega))
  have hT := Lib.hid (own_types hm1.rowT (by omega) hn)
  obtain ⟨q0, q1, q2, q3, q4, q5, qz⟩ := mkCells hm1.blk
  have x0 : W1.cell? ⟨w.heap.size, 0, none⟩ = some (.int .i64 x.off) := (cell_of_row W1 _ 0 _ _ _ hX).trans rfl
  have x1 : W1.cell? ⟨w.heap.size, 1, none⟩ = some (.bool x.save) := (cell_of_row W1 _ 1 _ _ _ hX).trans rfl
  have x2 : W1.cell? ⟨w.heap.size, 2, none⟩ = some (.string x.name) := (cell_of_row W1 _ 2 _ _ _ hX).trans rfl
  have hW1 : W1.heap.size = w.heap.size + 1 := by rw [← eW]; simp
  have hbW1 : Below w.heap.size w W1 := by rw [← eW]; exact (Below.refl _ _).alloc (Nat.le_refl _) _
  have hbM : b0 ≤ w.heap.size := by have := hm.hM; omega
  have HM1 := Lib.hid hm1
  have HX := Lib.hid hX
  have HBW := Lib.hid hbW1
  clear hn m1 m2 m3 m4 m5 q1 q2 q3 q4 q5 hm hm1 hX hbW1
  go_enter Tryz.func114, Tryz.ntmps114
  go_wp2_with fail
  clear eW
  go_region_held3 (fun w' => w'.cell? ⟨M, 0, none⟩ = some (.slice (some ⟨gT, 0, none⟩) s.types.length capT) ∧ w'.cell? ⟨w.heap.size, 0, none⟩ = some (.int .i64 x.off) ∧ w'.cell? ⟨w.heap.size, 1, none⟩ = some (.bool x.save) ∧ w'.cell? ⟨w.heap.size, 2, none⟩ = some (.string x.name))
    (first
      | go_keep
      | (exact ⟨(hb2.cell (p := ⟨M, 0, none⟩) (by simp; omega)).trans q0, (hb2.cell (p := ⟨w.heap.size, 0, none⟩) (by simp; omega)).trans x0, (hb2.cell (p := ⟨w.heap.size, 1, none⟩) (by simp; omega)).trans x1, (hb2.cell (p := ⟨w.heap.size, 2, none⟩) (by simp; omega)).trans x2⟩))
    (first
      | (go_at_call 152; refine (HI.out _ (SlTy.below hT.out (below_drewNm (Below.refl _ _) 1))).mono ?_; rintro e w2 ⟨rfl, hb2⟩))
  have hsz2 : W1.heap.size ≤ w2.heap.size := by have := hb2.size; simpa using this
  have HM2 := Lib.hid (HM1.out.keep (W' := w2) fun b hb => (hb2.block b (by simpa using hb)).trans rfl)
  have HX2 := Lib.hid ((hb2.block w.heap.size (by simp; omega)).trans (show W1.drew.heap[w.heap.size]? = _ from HX.out))
  have HB2 := Lib.hid (HBW.out.trans ((below_drewNm (Below.refl _ W1) 1).mono (by have := HBW.out.size; omega)) |>.trans (hb2.mono (by simp; omega)))
  clear hb2 q0 x0 x1 x2
  by_cases hx : x ∈ s.types
  · have hI : Hid (idxI s.types x = (idxTy s.types x : Int)) := by show _ = _; unfold idxI; rw [if_pos hx]
    have hA : Hid (addTy s.types x = s.types) := by show _ = _; unfold addTy; rw [if_pos hx]
    obtain ⟨I, eI⟩ : ∃ I, idxTy s.types x = I := ⟨_, rfl⟩
    rw [eI] at hI
    rw [hI.out]
    have EI := Lib.hid eI
    clear hx eI
    go_wp2
    go_ret
    refine ⟨ret_int' (by rw [EI.out]), ⟨_, by rw [hA.out]; exact HM2.out⟩, by omega, fun b hb _ _ => HB2.out.block b hb, HB2.out.mono hbM⟩
  · have hI : Hid (idxI s.types x = -1) := by show _ = _; unfold idxI; rw [if_neg hx]
    have hA : Hid (addTy s.types x = s.types ++ [x]) := by show _ = _; unfold addTy; rw [if_neg hx]
    have hJ : Hid (idxTy s.types x = s.types.length) := by show _ = _; exact idx_out hx
    rw [hI.out]
    obtain ⟨i0, hi, hz0, hz1, hz2⟩ := info_parts infoTyN
    obtain ⟨q0, q1, q2, q3, q4, q5, qz⟩ := mkCells HM2.out.blk
    have x0 : w2.cell? ⟨w.heap.size, 0, none⟩ = some (.int .i64 x.off) := (cell_of_row w2 _ 0 _ _ _ HX2.out).trans rfl
    have x1 : w2.cell? ⟨w.heap.size, 1, none⟩ = some (.bool x.save) := (cell_of_row w2 _ 1 _ _ _ HX2.out).trans rfl
    have x2 : w2.cell? ⟨w.heap.size, 2, none⟩ = some (.string x.name) := (cell_of_row w2 _ 2 _ _ _ HX2.out).trans rfl
    have hMg : M ≠ gT := fun e => HM2.out.neT (by rw [e]; rfl)
    have HL1 : Hid (s.types.length + 1 ≤ maxLen) := by show _ ≤ _; simp only [maxLen]; omega
    have HL2 : Hid ((s.types.length + 1) * 32 ≤ 140737488355328) := by show _ ≤ _; omega
    have H1 : Hid (∀ u ∈ [Value.int .i64 x.off, .bool x.save, .string x.name], u.oneCell' = true) := by intro u hu; simp at hu; rcases hu with rfl | rfl | rfl <;> rfl
    have HB3 : Hid (∀ o : Obj, b0 ≤ ((w2.alloc o).drew).heap.size) := fun o => by simp; omega
    have HS3 : Hid (∀ o : Obj, ((w2.alloc o).drew).heap.size = w2.heap.size + 1) := fun o => by simp
    have hw2M : M < w2.heap.size := HM2.out.lt
    clear hx q1 q2 q3 q4 q5
    go_wp2_with fail
    go_region_law (first
        | (refine step_append_lies _ (by rfl) _ _ _ (by rfl) b0 51 i0 _ 3 32 undTypesN hi hz0 hz1 hz2 rfl (by omega) (.slice (some ⟨gT, 0, none⟩) s.types.length capT) s.types.length (tyCells s.types) (by rfl) (World.ownsRow.drew (World.ownsRow.alloc HM2.out.rowT _)) ⟨w2.heap.size, 0, none⟩ 1 1 [.int .i64 x.off, .bool x.save, .string x.name] (by rfl) (by rfl) (World.news_of_block (cs := #[.int .i64 x.off, .bool x.save, .string x.name]) (t := 51) (fr := (0, 0)) (heap_alloc_new w2 _)) H1.out Nat.one_pos HL1.out HL2.out (HB3.out _) (w2.heap.size + 1) (HS3.out _) ?_; intro g5 cap5 w5 hown5 hg5 hat5 hlt5; have hk5 : ∀ b, b < w2.heap.size → b ≠ gT → w5.heap[b]? = w2.heap[b]? := (fun b hb hne => (hg5.block b (by simp; omega) (by simp only [Value.ownBlock]; intro e; injection e with e; exact hne e)).trans (Below.heap_alloc w2 _ b hb)); have y5 := (hk5 M hw2M hMg).trans HM2.out.blk; have z5 := (hk5 w.heap.size (by omega) (by omega)).trans HX2.out; have t0 := (cell_of_row w5 _ 0 _ _ _ y5).trans (show _ = some (Value.slice (some ⟨gT, 0, none⟩) s.types.length capT) from rfl); have t1 := (cell_of_row w5 _ 0 _ _ _ z5).trans (show _ = some (Value.int .i64 x.off) from rfl); have t2 := (cell_of_row w5 _ 1 _ _ _ z5).trans (show _ = some (Value.bool x.save) from rfl); have t3 := (cell_of_row w5 _ 2 _ _ _ z5).trans (show _ = some (Value.string x.name) from rfl); have tz : w5.frozen? ⟨M, 0, none⟩ = false := (by simp [World.frozen?, y5])))
    all_goals
      have hg5M : g5 ≠ M := by
        rcases hat5 with e | e
        · simp only [Value.ownBlock] at e
          injection e with e
          omega
        · omega
      have b5 : Below b0 w w5 := (HB2.out.mono hbM).trans ((((Below.refl b0 w2).alloc (by omega) _).drew).grown hg5 (HB3.out _) (fun k e => by simp only [Value.ownBlock] at e; injection e with e; omega))
      have hC5 : w5.ownsRow b0 61 2 cv s.chs.length (chCells s.chs) := own_keep HM2.out.rowC fun g e => hk5 g (World.ownsRow.lt HM2.out.rowC g e).2 (fun e2 => by
        rcases own_apart HM2.out.rowT HM2.out.rowC (by decide) with h | h
        · simp [Value.ownBlock] at h
        · exact h (by rw [e, e2]; rfl))
      go_wp2
      go_ret
      refine ⟨ret_int' (by rw [hJ.out]), ⟨.slice (some ⟨g5, 0, none⟩) (s.types.length + 1) cap5, ⟨(heap_setCm y5 _).trans rfl, HM2.out.hM, ?_, ?_⟩⟩, by have := hg5.size; simp [World.setCell] at this ⊢; omega, ?_, b5.setCell (by show b0 ≤ M; exact HM2.out.hM) _⟩
      · rw [hA.out, tyCells_snoc, List.length_append]
        exact own_keep hown5 fun g e => Below.heap_setCell _ _ _ _ (by simp only [Value.ownBlock] at e; injection e with e; show g ≠ M; omega)
      · exact own_keep hC5 fun g e => Below.heap_setCell _ _ _ _ (fun e2 => HM2.out.neC (by rw [e, e2]))
      · intro b hb hne1 hne2
        rw [Below.heap_setCell _ _ _ _ (by show b ≠ M; exact hne1), hk5 b (by omega) (fun e => hne2 (by rw [e]; rfl))]
        exact HB2.out.block b hb
end Go.Proofs.YtomahddiclkepaaGreatDoor
namespace Go.Proofs.YtomahddiclkepaaGreatDoor
open Go.RowKit Go.Joins
open Classical
set_option linter.unusedVariables false
set_option linter.unusedSimpArgs false

/-- the facts of names and sizes that the maker's types bear -/
structure NSm (s : NS) : Prop where
  tl : s.types.length ≤ 2000000
  cl : s.chs.length ≤ 20000000
  pos : 0 < s.types.length
  nm : ∀ y ∈ s.types, y.name.size ≤ maxLen

set_option maxRecDepth 100000 in
set_option maxHeartbeats 2000000 in
theorem Change_same (M b0 : Nat) (sv cv : Value) (s : NS) (t : Int) (x : Ty) (w : World) (hm : Mk w M b0 sv cv s) (hb0 : b0 ≤ w.heap.size) (hx : x = s.last) :
    Calls Tryz.prog 57 #[.pointer (some ⟨M, 0, none⟩), .int .i64 t, tyV x] w fun e w' => e = .returned (.tuple #[]) ∧ Mk w' M b0 sv cv s ∧ Below b0 w w' ∧ ∀ b, b < w.heap.size → b ≠ M → sv.ownBlock ≠ some b → cv.ownBlock ≠ some b → w'.heap[b]? = w.heap[b]? := by
  subst hx
  obtain ⟨m0, m1, m2, m3, m4, m5, mz⟩ := mkCells hm.blk
  have hMl := hm.lt
  have HM := Lib.hid hm
  have hq := neq_tyN s.last s.last
  simp only [decide_true, Bool.not_true] at hq
  obtain ⟨L, eL⟩ : ∃ L, s.last = L := ⟨_, rfl⟩
  rw [eL] at m3 m4 m5 hq
  rw [eL]
  have hm' := hm
  clear hm m0 m1 m2 hm'
  go_enter Tryz.func57, Tryz.ntmps57
  go_wp2
  go_quiet (fail)
  go_wp2
  go_end0
  exact ⟨rfl, (HM.out.alloc _).keep (fun b hb => rfl), below_drewNm ((Below.refl _ _).alloc hb0 _) _, fun b hb _ _ _ => Below.heap_alloc w _ b hb⟩

set_option maxRecDepth 100000 in
set_option maxHeartbeats 4000000 in
theorem Change_other (M b0 : Nat) (sv cv : Value) (s : NS) (t : Int) (x : Ty) (w : World) (hm : Mk w M b0 sv cv s) (hb0 : b0 ≤ w.heap.size) (hs : NSm s) (hx : x ≠ s.last) :
    Calls Tryz.prog 57 #[.pointer (some ⟨M, 0, none⟩), .int .i64 t, tyV x] w fun e w' => e = .returned (.tuple #[]) ∧ (∃ sv' cv', Mk w' M b0 sv' cv' ⟨addTy s.types x, s.chs ++ [⟨t, (idxTy s.types x : Nat)⟩], x⟩) ∧ Below b0 w w' ∧ ∀ b, b < w.heap.size → b ≠ M → sv.ownBlock ≠ some b → cv.ownBlock ≠ some b → w'.heap[b]? = w.heap[b]? := by
  obtain ⟨A, cC, rfl⟩ := own_sliceN hm.rowC
  obtain ⟨m0, m1, m2, m3, m4, m5, mz⟩ := mkCells hm.blk
  have hMl := hm.lt
  have HM := Lib.hid hm
  obtain ⟨W1, eW⟩ : ∃ W1, w.alloc (.cells #[.int .i64 x.off, .bool x.save, .string x.name] 51) = W1 := ⟨_, rfl⟩
  have hm1 : Mk W1 M b0 sv (.slice A s.chs.length cC) s := by rw [← eW]; exact hm.alloc _
  have hX : W1.heap[w.heap.size]? = some (.cells #[.int .i64 x.off, .bool x.save, .string x.name] 51 (0, 0)) := by rw [← eW]; exact heap_alloc_new w _
  have hW1 : W1.heap.size = w.heap.size + 1 := by rw [← eW]; simp
  have HK1 : Hid (∀ b, b < w.heap.size → W1.heap[b]? = w.heap[b]?) := by
    show ∀ b, _
    intro b hb
    rw [← eW]
    exact Below.heap_alloc w _ b hb
  have hbW1 : Below b0 w W1 := by rw [← eW]; exact (Below.refl _ _).alloc hb0 _
  obtain ⟨q0, q1, q2, q3, q4, q5, qz⟩ := mkCells hm1.blk
  have x0 : W1.cell? ⟨w.heap.size, 0, none⟩ = some (.int .i64 x.off) := (cell_of_row W1 _ 0 _ _ _ hX).trans rfl
  have x1 : W1.cell? ⟨w.heap.size, 1, none⟩ = some (.bool x.save) := (cell_of_row W1 _ 1 _ _ _ hX).trans rfl
  have x2 : W1.cell? ⟨w.heap.size, 2, none⟩ = some (.string x.name) := (cell_of_row W1 _ 2 _ _ _ hX).trans rfl
  have hq := neq_tyN x s.last
  have hd : decide (x = s.last) = false := by simpa using hx
  simp only [hd, Bool.not_false] at hq
  have HM1 := Lib.hid hm1
  have HX := Lib.hid hX
  have HBW := Lib.hid hbW1
  have HNM := Lib.hid hs.nm
  have htl := hs.tl
  have hcl := hs.cl
  have hpos := hs.pos
  have hsvX : ∀ g, sv.ownBlock = some g → g < w.heap.size := fun g e => (World.ownsRow.lt hm.rowT g e).2
  have HSV := Lib.hid hsvX
  obtain ⟨i1, hi1, hz10, hz11, hz12⟩ := info_parts infoChN
  have HL1 : Hid (s.chs.length + 1 ≤ maxLen) := by show _ ≤ _; simp only [maxLen]; omega
  have HL2 : Hid ((s.chs.length + 1) * 16 ≤ 140737488355328) := by show _ ≤ _; omega
  have H1 : Hid (∀ u ∈ [Value.int .i64 t, .int .i64 ((idxTy s.types x : Nat) : Int)], u.oneCell' = true) := by intro u hu; simp at hu; rcases hu with rfl | rfl <;> rfl
  obtain ⟨I, eI⟩ : ∃ I, idxTy s.types x = I := ⟨_, rfl⟩
  rw [eI] at H1
  have EI := Lib.hid eI
  clear hx hd hm1 hX hbW1 hs m0 m1 m2 m3 m4 m5 hsvX hm eI
  go_enter Tryz.func57, Tryz.ntmps57
  go_wp2
  go_quiet (fail)
  go_wp2_with fail
  obtain ⟨W2, e2⟩ : ∃ W2, W1.drewN nq = W2 := ⟨_, rfl⟩
  have hh2 : W2.heap = W1.heap := by rw [← e2]; rfl
  have hM2 : Mk W2 M b0 sv (.slice A s.chs.length cC) s := HM1.out.keep fun b hb => by rw [hh2]
  have hX2 : W2.heap[w.heap.size]? = some (.cells #[.int .i64 x.off, .bool x.save, .string x.name] 51 (0, 0)) := by rw [hh2]; exact HX.out
  have hB2 : Below b0 w W2 := by rw [← e2]; exact below_drewNm HBW.out _
  have hW2 : W2.heap.size = w.heap.size + 1 := by rw [hh2]; exact hW1
  have HK2 : Hid (∀ b, b < w.heap.size → W2.heap[b]? = w.heap[b]?) := by
    show ∀ b, _
    intro b hb
    rw [hh2]
    exact HK1.out b hb
  rw [e2]
  clear e2 hh2 q0 q1 q2 q3 q4 q5 x0 x1 x2 qz eW
  obtain ⟨r0, r1, r2, r3, r4, r5, rz⟩ := mkCells hM2.blk
  have y0 : W2.cell? ⟨w.heap.size, 0, none⟩ = some (.int .i64 x.off) := (cell_of_row W2 _ 0 _ _ _ hX2).trans rfl
  have y1 : W2.cell? ⟨w.heap.size, 1, none⟩ = some (.bool x.save) := (cell_of_row W2 _ 1 _ _ _ hX2).trans rfl
  have y2 : W2.cell? ⟨w.heap.size, 2, none⟩ = some (.string x.name) := (cell_of_row W2 _ 2 _ _ _ hX2).trans rfl
  have HM2 := Lib.hid hM2
  have HX2 := Lib.hid hX2
  have HB2 := Lib.hid hB2
  have HMD := Lib.hid (hM2.keep (W' := W2.drew) fun b hb => rfl)
  have HNU := Lib.hid (number_any M b0 sv (.slice A s.chs.length cC) s x W2.drew HMD.out (by omega) hpos HNM.out)
  rw [EI.out] at HNU
  clear hM2 hX2 hB2 r0 r1 r3 r4 r5
  go_region_law (first
    | (refine step_append_lies _ (by rfl) _ _ _ (by rfl) b0 61 i1 _ 2 16 undChsN hi1 hz10 hz11 hz12 rfl (by omega) (.slice A s.chs.length cC) s.chs.length (chCells s.chs) (by rfl) (World.ownsRow.alloc HM4.out.rowC _) ⟨w4.heap.size, 0, none⟩ 1 1 [.int .i64 t, .int .i64 ((I : Nat) : Int)] (by rfl) (by rfl) (World.news_of_block (cs := #[.int .i64 t, .int .i64 ((I : Nat) : Int)]) (t := 61) (fr := (0, 0)) (heap_alloc_new w4 _)) H1.out Nat.one_pos HL1.out HL2.out (HB4.out _) (w4.heap.size + 1) (by simp) ?_; intro g6 cap6 w6 hown6 hg6 hat6 hlt6; have hk6 : ∀ b, b < w4.heap.size → (Value.slice A s.chs.length cC).ownBlock ≠ some b → w6.heap[b]? = w4.heap[b]? := (fun b hb hne => (hg6.block b (by simp; omega) (fun e => hne e.symm)).trans (Below.heap_alloc w4 _ b hb)); have y6 := (hk6 M HM4.out.lt HM4.out.neC).trans HM4.out.blk; have t2 := (cell_of_row w6 _ 2 _ _ _ y6).trans (show _ = some (Value.slice A s.chs.length cC) from rfl); have tz : w6.frozen? ⟨M, 2, none⟩ = false := (by simp [World.frozen?, y6]))
    | (go_simp; go_at_call 114; refine HNU.out.mono ?_; rintro e w4 ⟨rfl, ⟨sv4, hM4⟩, hsz4, hk4, hb4⟩; obtain ⟨p0, p1, p2, p3, p4, p5, pz⟩ := mkCells hM4.blk; have hM4l : M < w4.heap.size := hM4.lt; have HM4 := Lib.hid hM4; have HB4 : Hid (∀ o : Obj, b0 ≤ (w4.alloc o).heap.size) := (fun o => by have := hb4.size; simp at this ⊢; omega)))
  all_goals
    have hXne : (Value.slice A s.chs.length cC).ownBlock ≠ some w.heap.size := fun e => by
      have h1 := (World.ownsRow.lt HM.out.rowC _ e).2
      omega
    have hX4 : w4.heap[w.heap.size]? = some (.cells #[.int .i64 x.off, .bool x.save, .string x.name] 51 (0, 0)) := (hk4 w.heap.size (by simp; omega) (by omega) (fun e => by have := HSV.out _ e; omega)).trans HX2.out
    have hXl4 : w.heap.size < w4.heap.size := (Array.getElem?_eq_some_iff.mp hX4).1
    have hX6 := (hk6 w.heap.size hXl4 hXne).trans hX4
    have hg6M : g6 ≠ M := by
      rcases hat6 with e | e
      · intro e2; exact HM4.out.neC (by rw [e, e2])
      · have := HM4.out.lt; omega
    have b6 : Below b0 w w6 := (HB2.out.trans ((below_drewNm (Below.refl b0 W2) 1).trans hb4)).trans (((Below.refl b0 w4).alloc (by have := HM4.out.hM; have := HM4.out.lt; omega) _).grown hg6 (HB4.out _) (fun k e => (World.ownsRow.lt HM4.out.rowC k e).1))
    obtain ⟨W7, e7⟩ : ∃ W7, w6.setCell ⟨M, 2, none⟩ (.slice (some ⟨g6, 0, none⟩) (s.chs.length + 1) cap6) = W7 := ⟨_, rfl⟩
    rw [e7]
    have h7 : W7.heap[M]? = some (.cells #[sv4, .int .i64 0, .slice (some ⟨g6, 0, none⟩) (s.chs.length + 1) cap6, .int .i64 s.last.off, .bool s.last.save, .string s.last.name] 133 (0, 0)) := by rw [← e7]; exact (heap_setCm y6 _).trans rfl
    have k7 : ∀ b, b ≠ M → W7.heap[b]? = w6.heap[b]? := fun b hb => by rw [← e7]; exact Below.heap_setCell _ _ _ _ hb
    have b7 : Below b0 w W7 := by rw [← e7]; exact b6.setCell (by show b0 ≤ M; exact HM4.out.hM) _
    obtain ⟨-, -, -, u3, u4, u5, uz⟩ := mkCells h7
    have hX7 := (k7 w.heap.size (by omega)).trans hX6
    have z0 : W7.cell? ⟨w.heap.size, 0, none⟩ = some (.int .i64 x.off) := (cell_of_row W7 _ 0 _ _ _ hX7).trans rfl
    have z1 : W7.cell? ⟨w.heap.size, 1, none⟩ = some (.bool x.save) := (cell_of_row W7 _ 1 _ _ _ hX7).trans rfl
    have z2 : W7.cell? ⟨w.heap.size, 2, none⟩ = some (.string x.name) := (cell_of_row W7 _ 2 _ _ _ hX7).trans rfl
    have uz3 := uz 3
    have uz4 := uz 4
    have uz5 := uz 5
    have HK6 := Lib.hid hk6
    clear e7 hk6 t2 tz p0 p1 p2 p3 p4 p5 pz
    go_wp2
    go_end0
    have kE : ∀ b, b ≠ M → (((W7.setCell ⟨M, 3, none⟩ (.int .i64 x.off)).setCell ⟨M, 4, none⟩ (.bool x.save)).setCell ⟨M, 5, none⟩ (.string x.name)).heap[b]? = w6.heap[b]? := fun b hb =>
      ((Below.heap_setCell _ _ _ _ hb).trans ((Below.heap_setCell _ _ _ _ hb).trans (Below.heap_setCell _ _ _ _ hb))).trans (k7 b hb)
    refine ⟨rfl, ⟨sv4, .slice (some ⟨g6, 0, none⟩) (s.chs.length + 1) cap6, ⟨(heap_setCm (heap_setCm (heap_setCm h7 _) _) _).trans rfl, HM4.out.hM, ?_, ?_⟩⟩, ((b7.setCell (by show b0 ≤ M; exact HM4.out.hM) _).setCell (by show b0 ≤ M; exact HM4.out.hM) _).setCell (by show b0 ≤ M; exact HM4.out.hM) _, fun b hb n1 n2 n3 => (kE b n1).trans ((HK6.out b (by have := hb4.size; simp at this; omega) n3).trans ((hk4 b (by simp; omega) n1 n2).trans (HK2.out b hb)))⟩
    · refine own_keep HM4.out.rowT fun g e => (kE g (fun e2 => HM4.out.neT (by rw [e, e2]))).trans ((hg6.block g (by have := (World.ownsRow.lt HM4.out.rowT g e).2; simp; omega) (fun e2 => ?_)).trans (Below.heap_alloc w4 _ g (World.ownsRow.lt HM4.out.rowT g e).2))
      rcases own_apart HM4.out.rowT HM4.out.rowC (by decide) with h | h
      · rw [h] at e; cases e
      · exact h (by rw [e, e2])
    · rw [chCells_snoc, List.length_append, EI.out]
      exact own_keep hown6 fun g e => kE g (by simp only [Value.ownBlock] at e; injection e with e; omega)

/-- a change to a type -/
theorem ChangeK_any (M b0 : Nat) (sv cv : Value) (s : NS) (t : Int) (x : Ty) (w : World) (hm : Mk w M b0 sv cv s) (hb0 : b0 ≤ w.heap.size) (hs : NSm s) :
    Calls Tryz.prog 57 #[.pointer (some ⟨M, 0, none⟩), .int .i64 t, tyV x] w fun e w' => e = .returned (.tuple #[]) ∧ (∃ sv' cv', Mk w' M b0 sv' cv' (stepN s (t, x))) ∧ Below b0 w w' ∧ ∀ b, b < w.heap.size → b ≠ M → sv.ownBlock ≠ some b → cv.ownBlock ≠ some b → w'.heap[b]? = w.heap[b]? := by
  unfold stepN
  by_cases h : x = s.last
  · rw [if_pos h]
    exact (Change_same M b0 sv cv s t x w hm hb0 h).mono fun e w' ⟨a, b, c, d⟩ => ⟨a, ⟨_, _, b⟩, c, d⟩
  · rw [if_neg h]
    exact Change_other M b0 sv cv s t x w hm hb0 hs h
theorem Change_any (M b0 : Nat) (sv cv : Value) (s : NS) (t : Int) (x : Ty) (w : World) (hm : Mk w M b0 sv cv s) (hb0 : b0 ≤ w.heap.size) (hs : NSm s) :
    Calls Tryz.prog 57 #[.pointer (some ⟨M, 0, none⟩), .int .i64 t, tyV x] w fun e w' => e = .returned (.tuple #[]) ∧ (∃ sv' cv', Mk w' M b0 sv' cv' (stepN s (t, x))) ∧ Below b0 w w' :=
  (ChangeK_any M b0 sv cv s t x w hm hb0 hs).mono fun e w' ⟨a, b, c, _⟩ => ⟨a, b, c⟩
end Go.Proofs.YtomahddiclkepaaGreatDoor
namespace Go.Proofs.YtomahddiclkepaaGreatDoor
open Go.RowKit Go.Joins
open Classical
set_option linter.unusedVariables false
set_option linter.unusedSimpArgs false

theorem mk_begin (W0 : World) (x : Ty) (b0 : Nat) (hb : b0 ≤ W0.heap.size) :
    Mk ((W0.alloc (.cells #[.int .i64 x.off, .bool x.save, .string x.name] 51)).alloc (.cells #[.slice (some ⟨W0.heap.size, 0, none⟩) 1 1, .int .i64 0, .slice none 0 0, .int .i64 x.off, .bool x.save, .string x.name] 133))
      (W0.heap.size + 1) b0 (.slice (some ⟨W0.heap.size, 0, none⟩) 1 1) (.slice none 0 0) (begN x) := by
  refine ⟨?_, by omega, ⟨rfl, .inr ⟨W0.heap.size, 1, _, rfl, hb, (Below.heap_alloc _ _ _ (by simp)).trans (heap_alloc_new W0 _), Nat.le_refl _, by decide, rfl, rfl⟩⟩, World.ownsRow_nil _ _ _ _⟩
  have := heap_alloc_new (W0.alloc (.cells #[.int .i64 x.off, .bool x.save, .string x.name] 51)) (.cells #[.slice (some ⟨W0.heap.size, 0, none⟩) 1 1, .int .i64 0, .slice none 0 0, .int .i64 x.off, .bool x.save, .string x.name] 133)
  simpa [begN] using this

set_option maxHeartbeats 1000000 in
theorem Begin_any (x : Ty) (w : World) :
    Calls Tryz.prog 55 #[tyV x] w fun e w' => ∃ M sv cv, e = .returned (.pointer (some ⟨M, 0, none⟩)) ∧ Mk w' M w.heap.size sv cv (begN x) ∧ Below w.heap.size w w' := by
  go_enter Tryz.func55, Tryz.ntmps55
  go_wp2
  go_ret
  obtain ⟨W0, e0⟩ : ∃ W0, w.alloc (.cells #[.int .i64 x.off, .bool x.save, .string x.name] 51) = W0 := ⟨_, rfl⟩
  have hz0 : W0.heap.size = w.heap.size + 1 := by rw [← e0]; simp
  have hb0 : Below w.heap.size w W0 := by rw [← e0]; exact (Below.refl _ _).alloc (Nat.le_refl _) _
  have h := mk_begin W0 x w.heap.size (by omega)
  rw [hz0, ← e0] at h
  refine ⟨_, _, _, rfl, h, ?_⟩
  exact (((Below.refl _ _).alloc (Nat.le_refl _) _).alloc (by simp) _).alloc (by simp; omega) _

theorem abbr_sizeT (x : Ty) (h : abbrB x.name = true) : x.name.size ≤ 8 := by
  unfold abbrB allB at h
  simp only [Bool.and_eq_true, decide_eq_true_eq] at h
  omega
theorem end_cellsM {W : World} {g : Nat} {a b c : Value} {T : TypeId} (h : W.heap[g]? = some (.cells #[a, b, c] T (0, 0))) (x y z : Value) :
    ∃ W', ((W.setCell ⟨g, 0, none⟩ x).setCell ⟨g, 1, none⟩ y).setCell ⟨g, 2, none⟩ z = W' ∧ (∀ B, B ≤ g → Below B W W') ∧ W'.heap[g]? = some (.cells #[x, y, z] T (0, 0)) ∧ ∀ b, b ≠ g → W'.heap[b]? = W.heap[b]? := by
  refine ⟨_, rfl, fun B hB => (((Below.refl _ _).setCell (by exact hB) _).setCell (by exact hB) _).setCell (by exact hB) _, ?_, fun b hb => (Below.heap_setCell _ _ _ _ hb).trans ((Below.heap_setCell _ _ _ _ hb).trans (Below.heap_setCell _ _ _ _ hb))⟩
  rw [heap_setCm (i := 2) (heap_setCm (i := 1) (heap_setCm (i := 0) h x) y) z]
  rfl
end Go.Proofs.YtomahddiclkepaaGreatDoor
namespace Go.Proofs.YtomahddiclkepaaGreatDoor.BB
open Go.RowKit Go.Joins
open Classical
set_option linter.unusedVariables false
set_option linter.unusedSimpArgs false

structure Er where
  (off : Int)
  (rul : ByteArray)
  (save : Int)
  (fmt : ByteArray)
  (til : Int)

def erOff (x : Ty) : Int := if x.save = true then x.off - 3600 else x.off
def erSave (x : Ty) : Int := if x.save = true then 3600 else 0
def erOk (x : Ty) : Bool := decide (-64800 ≤ erOff x ∧ erOff x ≤ 64800)
def erOf (x : Ty) (u : Int) : Er := ⟨erOff x, ⟨#[]⟩, erSave x, x.name, u⟩
/-- the type's number of a table's span -/
def segK (N : Tab) (i : Nat) : Int := if i = 0 then N.first else kAt N.chs (i - 1)
def segT (N : Tab) (i : Nat) : Ty := tyD N.types (segK N i)
def segU (N : Tab) (i : Nat) : Int := if i < N.chs.length then tAt N.chs i else 0
def erAt (N : Tab) (i : Nat) : Er := erOf (segT N i) (segU N i)
def erC (x : Er) : List Value := [.int .i64 x.off, .string x.rul, .int .i64 x.save, .string x.fmt, .int .i64 x.til]
def erCells (l : List Er) : List Value := l.flatMap erC
def erAtW (w : World) (b o : Nat) (x : Er) : Prop :=
  w.cell? ⟨b, o, none⟩ = some (.int .i64 x.off) ∧ w.cell? ⟨b, o + 1, none⟩ = some (.string x.rul) ∧ w.cell? ⟨b, o + 2, none⟩ = some (.int .i64 x.save) ∧ w.cell? ⟨b, o + 3, none⟩ = some (.string x.fmt) ∧ w.cell? ⟨b, o + 4, none⟩ = some (.int .i64 x.til)
theorem erAtW.below {w w' : World} {b o : Nat} {x : Er} (h : erAtW w b o x) (hb : Below w.heap.size w w') (hlt : b < w.heap.size) : erAtW w' b o x :=
  ⟨(hb.cell (p := ⟨b, o, none⟩) hlt).trans h.1, (hb.cell (p := ⟨b, o + 1, none⟩) hlt).trans h.2.1, (hb.cell (p := ⟨b, o + 2, none⟩) hlt).trans h.2.2.1, (hb.cell (p := ⟨b, o + 3, none⟩) hlt).trans h.2.2.2.1, (hb.cell (p := ⟨b, o + 4, none⟩) hlt).trans h.2.2.2.2⟩
structure SlEr (w : World) (v : Value) (l : List Er) : Prop where
  shape : ∃ p cap, v = .slice p l.length cap ∧ (l ≠ [] → ∃ b o, p = some ⟨b, o, none⟩ ∧ b < w.heap.size ∧ ∀ i (h : i < l.length), erAtW w b (o + i * 5) l[i])
  size : l.length ≤ maxLen
theorem SlEr.below {w w' : World} {v : Value} {l : List Er} (h : SlEr w v l) (hb : Below w.heap.size w w') : SlEr w' v l := by
  obtain ⟨⟨p, cap, hv, hc⟩, h2⟩ := h
  refine ⟨⟨p, cap, hv, fun hne => ?_⟩, h2⟩
  obtain ⟨b, o, hp, hlt, hat⟩ := hc hne
  exact ⟨b, o, hp, Nat.lt_of_lt_of_le hlt hb.size, fun i h => (hat i h).below hb hlt⟩
/-- a book with one zone of eras -/
structure BkAt (W : World) (Z cz : Nat) (p : Option Addr) (ce : Nat) (nm : ByteArray) (L : List Er) : Prop where
  blk : W.heap[Z]? = some (.cells #[.string nm, .slice p L.length ce] 46 (0, 0))
  ers : SlEr W (.slice p L.length ce) L
  cap : L.length ≤ ce ∧ 1 ≤ cz
theorem BkAt.below {W W' : World} {Z cz : Nat} {p : Option Addr} {ce : Nat} {nm : ByteArray} {L : List Er} (h : BkAt W Z cz p ce nm L) (hb : Below W.heap.size W W') : BkAt W' Z cz p ce nm L :=
  ⟨(hb.block _ (Array.getElem?_eq_some_iff.mp h.blk).1).trans h.blk, h.ers.below hb, h.cap⟩
theorem BkAt.cells {W : World} {Z cz : Nat} {p : Option Addr} {ce : Nat} {nm : ByteArray} {L : List Er} (h : BkAt W Z cz p ce nm L) :
    W.cell? ⟨Z, 0, none⟩ = some (.string nm) ∧ W.cell? ⟨Z, 1, none⟩ = some (.slice p L.length ce) ∧ Z < W.heap.size :=
  ⟨(cell_of_row W _ 0 _ _ _ h.blk).trans rfl, (cell_of_row W _ 1 _ _ _ h.blk).trans rfl, (Array.getElem?_eq_some_iff.mp h.blk).1⟩
abbrev erV (x : Er) : Value := .agg #[.int .i64 x.off, .string x.rul, .int .i64 x.save, .string x.fmt, .int .i64 x.til]
theorem three_alB {w W3 : World} {o1 o2 : Obj} {o3 : Array Value} {T : TypeId} (e : ((w.alloc o1).alloc o2).alloc (.cells o3 T) = W3) :
    W3.heap.size = w.heap.size + 3 ∧ W3.heap[w.heap.size + 1]? = some o2 ∧ W3.heap[w.heap.size + 1 + 1]? = some (.cells o3 T (0, 0)) ∧ Below w.heap.size w W3 := by
  subst e
  refine ⟨by simp, ?_, ?_, (((Below.refl _ _).alloc (Nat.le_refl _) _).alloc (by simp) _).alloc (by simp; omega) _⟩
  · rw [Below.heap_alloc _ _ _ (by simp)]
    have := heap_alloc_new (w.alloc o1) o2
    simpa using this
  · have := heap_alloc_new ((w.alloc o1).alloc o2) (.cells o3 T)
    simpa using this
theorem heap_setCB {w : World} {R i : Nat} {cs : Array Value} {T : TypeId} {f : Nat × Nat} (h : w.heap[R]? = some (.cells cs T f)) (v : Value) : (w.setCell ⟨R, i, none⟩ v).heap[R]? = some (.cells (cs.setIfInBounds i v) T f) := by
  simp [World.setCell, Array.getElem?_modify, h]
theorem cells5 {W : World} {B : Nat} {a b c d e : Value} {T : TypeId} (h : W.heap[B]? = some (.cells #[a, b, c, d, e] T (0, 0))) :
    W.cell? ⟨B, 0, none⟩ = some a ∧ W.cell? ⟨B, 1, none⟩ = some b ∧ W.cell? ⟨B, 2, none⟩ = some c ∧ W.cell? ⟨B, 3, none⟩ = some d ∧ W.cell? ⟨B, 4, none⟩ = some e ∧ ∀ o, W.frozen? ⟨B, o, none⟩ = false :=
  ⟨(cell_of_row W _ 0 _ _ _ h).trans rfl, (cell_of_row W _ 1 _ _ _ h).trans rfl, (cell_of_row W _ 2 _ _ _ h).trans rfl, (cell_of_row W _ 3 _ _ _ h).trans rfl, (cell_of_row W _ 4 _ _ _ h).trans rfl, fun o => by simp [World.frozen?, h]⟩
theorem end_cells5 {W : World} {g : Nat} {a b c d e : Value} {T : TypeId} (h : W.heap[g]? = some (.cells #[a, b, c, d, e] T (0, 0))) (x y z u v : Value) :
    ∃ W', ((((W.setCell ⟨g, 0, none⟩ x).setCell ⟨g, 1, none⟩ y).setCell ⟨g, 2, none⟩ z).setCell ⟨g, 3, none⟩ u).setCell ⟨g, 4, none⟩ v = W' ∧ (∀ B, B ≤ g → Below B W W') ∧ W'.heap[g]? = some (.cells #[x, y, z, u, v] T (0, 0)) := by
  refine ⟨_, rfl, fun B hB => (((((Below.refl _ _).setCell (by exact hB) _).setCell (by exact hB) _).setCell (by exact hB) _).setCell (by exact hB) _).setCell (by exact hB) _, ?_⟩
  rw [heap_setCB (heap_setCB (heap_setCB (heap_setCB (heap_setCB h x) y) z) u) v]
  rfl

set_option maxRecDepth 100000 in
set_option maxHeartbeats 4000000 in
theorem era_any (x : Ty) (w : World) (h1 : -75600 ≤ x.off) (h2 : x.off ≤ 75600) :
    Calls Tryz.prog 66 #[tyV x] w fun e w' => e = .returned (.tuple #[erV (erOf x 0), .bool (erOk x)]) ∧ Below w.heap.size w w' := by
  obtain ⟨off, sv, nm⟩ := x
  simp only at h1 h2
  have HR : Hid (∀ b : Bool, erOk ⟨off, sv, nm⟩ = b → Ending.returned (.tuple #[erV (erOf ⟨off, sv, nm⟩ 0), .bool b]) = Ending.returned (.tuple #[erV (erOf ⟨off, sv, nm⟩ 0), .bool (erOk ⟨off, sv, nm⟩)])) := by
    show ∀ b : Bool, _
    intro b h
    rw [h]
  cases sv
  · obtain ⟨W3, e3⟩ : ∃ W3, ((w.alloc (.cells #[.int .i64 off, .bool false, .string nm] 51)).alloc (.cells #[.int .i64 0, .string ⟨#[]⟩, .int .i64 0, .string ⟨#[]⟩, .int .i64 0] 43)).alloc (.cells #[.int .i64 off, .string ⟨#[]⟩, .int .i64 0, .string nm, .int .i64 0] 43) = W3 := ⟨_, rfl⟩
    obtain ⟨hz, g1, g2, hb⟩ := three_alB e3
    have E3 := Lib.hid e3
    obtain ⟨y0, y1, y2, y3, y4, -⟩ := cells5 g2
    obtain ⟨z0, z1, z2, z3, z4, zf⟩ := cells5 g1
    have G1 := Lib.hid g1
    have HB := Lib.hid hb
    have zf0 := zf 0
    have zf1 := zf 1
    have zf2 := zf 2
    have zf3 := zf 3
    have zf4 := zf 4
    clear e3 g1 g2 hb zf
    by_cases c1 : -64800 ≤ off
    · by_cases c2 : off ≤ 64800
      · have hI : erOk ⟨off, false, nm⟩ = true := by unfold erOk erOff; simp only [Bool.false_eq_true, if_false]; exact decide_eq_true (by omega)
        have HI := Lib.hid hI
        clear hI
        go_enter Tryz.func66, Tryz.ntmps66
        go_upto_region 4 with fail
        rw [E3.out]
        go_region
        go_wp2
        obtain ⟨W9, e9, hb9, g9⟩ := end_cells5 G1.out (.int .i64 (off)) (.string ⟨#[]⟩) (.int .i64 0) (.string nm) (.int .i64 0)
        rw [e9]
        obtain ⟨v0, v1, v2, v3, v4, -⟩ := cells5 (W := W9.drew) g9
        refine bodyPost_ret (v := .tuple #[erV (erOf ⟨off, false, nm⟩ 0), .bool true]) (by simp [results, Tryz.results66, go_sem, v0, v1, v2, v3, v4, erOf, erOff, erSave]) rfl ⟨HR.out true HI.out, ?_⟩
        exact (HB.out.trans (hb9 _ (by omega))).drew
      · have hI : erOk ⟨off, false, nm⟩ = false := by unfold erOk erOff; simp only [Bool.false_eq_true, if_false]; exact decide_eq_false (by omega)
        have HI := Lib.hid hI
        clear hI
        go_enter Tryz.func66, Tryz.ntmps66
        go_upto_region 4 with fail
        rw [E3.out]
        go_region
        go_wp2
        obtain ⟨W9, e9, hb9, g9⟩ := end_cells5 G1.out (.int .i64 (off)) (.string ⟨#[]⟩) (.int .i64 0) (.string nm) (.int .i64 0)
        rw [e9]
        obtain ⟨v0, v1, v2, v3, v4, -⟩ := cells5 (W := W9.drew) g9
        refine bodyPost_ret (v := .tuple #[erV (erOf ⟨off, false, nm⟩ 0), .bool false]) (by simp [results, Tryz.results66, go_sem, v0, v1, v2, v3, v4, erOf, erOff, erSave]) rfl ⟨HR.out false HI.out, ?_⟩
        exact (HB.out.trans (hb9 _ (by omega))).drew
    · have hI : erOk ⟨off, false, nm⟩ = false := by unfold erOk erOff; simp only [Bool.false_eq_true, if_false]; exact decide_eq_false (by omega)
      have HI := Lib.hid hI
      clear hI
      go_enter Tryz.func66, Tryz.ntmps66
      go_upto_region 4 with fail
      rw [E3.out]
      go_region
      go_wp2
      obtain ⟨W9, e9, hb9, g9⟩ := end_cells5 G1.out (.int .i64 (off)) (.string ⟨#[]⟩) (.int .i64 0) (.string nm) (.int .i64 0)
      rw [e9]
      obtain ⟨v0, v1, v2, v3, v4, -⟩ := cells5 (W := W9.drew) g9
      refine bodyPost_ret (v := .tuple #[erV (erOf ⟨off, false, nm⟩ 0), .bool false]) (by simp [results, Tryz.results66, go_sem, v0, v1, v2, v3, v4, erOf, erOff, erSave]) rfl ⟨HR.out false HI.out, ?_⟩
      exact (HB.out.trans (hb9 _ (by omega))).drew
  · obtain ⟨W3, e3⟩ : ∃ W3, ((w.alloc (.cells #[.int .i64 off, .bool true, .string nm] 51)).alloc (.cells #[.int .i64 0, .string ⟨#[]⟩, .int .i64 0, .string ⟨#[]⟩, .int .i64 0] 43)).alloc (.cells #[.int .i64 (off - 3600), .string ⟨#[]⟩, .int .i64 3600, .string nm, .int .i64 0] 43) = W3 := ⟨_, rfl⟩
    obtain ⟨hz, g1, g2, hb⟩ := three_alB e3
    have E3 := Lib.hid e3
    obtain ⟨y0, y1, y2, y3, y4, -⟩ := cells5 g2
    obtain ⟨z0, z1, z2, z3, z4, zf⟩ := cells5 g1
    have G1 := Lib.hid g1
    have HB := Lib.hid hb
    have zf0 := zf 0
    have zf1 := zf 1
    have zf2 := zf 2
    have zf3 := zf 3
    have zf4 := zf 4
    clear e3 g1 g2 hb zf
    by_cases c1 : -64800 ≤ off - 3600
    · by_cases c2 : off - 3600 ≤ 64800
      · have hI : erOk ⟨off, true, nm⟩ = true := by unfold erOk erOff; simp only [if_true]; exact decide_eq_true (by omega)
        have HI := Lib.hid hI
        clear hI
        go_enter Tryz.func66, Tryz.ntmps66
        go_upto_region 4 with fail
        rw [E3.out]
        go_region
        go_wp2
        obtain ⟨W9, e9, hb9, g9⟩ := end_cells5 G1.out (.int .i64 (off - 3600)) (.string ⟨#[]⟩) (.int .i64 3600) (.string nm) (.int .i64 0)
        rw [e9]
        obtain ⟨v0, v1, v2, v3, v4, -⟩ := cells5 (W := W9.drew) g9
        refine bodyPost_ret (v := .tuple #[erV (erOf ⟨off, true, nm⟩ 0), .bool true]) (by simp [results, Tryz.results66, go_sem, v0, v1, v2, v3, v4, erOf, erOff, erSave]) rfl ⟨HR.out true HI.out, ?_⟩
        exact (HB.out.trans (hb9 _ (by omega))).drew
      · have hI : erOk ⟨off, true, nm⟩ = false := by unfold erOk erOff; simp only [if_true]; exact decide_eq_false (by omega)
        have HI := Lib.hid hI
        clear hI
        go_enter Tryz.func66, Tryz.ntmps66
        go_upto_region 4 with fail
        rw [E3.out]
        go_region
        go_wp2
        obtain ⟨W9, e9, hb9, g9⟩ := end_cells5 G1.out (.int .i64 (off - 3600)) (.string ⟨#[]⟩) (.int .i64 3600) (.string nm) (.int .i64 0)
        rw [e9]
        obtain ⟨v0, v1, v2, v3, v4, -⟩ := cells5 (W := W9.drew) g9
        refine bodyPost_ret (v := .tuple #[erV (erOf ⟨off, true, nm⟩ 0), .bool false]) (by simp [results, Tryz.results66, go_sem, v0, v1, v2, v3, v4, erOf, erOff, erSave]) rfl ⟨HR.out false HI.out, ?_⟩
        exact (HB.out.trans (hb9 _ (by omega))).drew
    · have hI : erOk ⟨off, true, nm⟩ = false := by unfold erOk erOff; simp only [if_true]; exact decide_eq_false (by omega)
      have HI := Lib.hid hI
      clear hI
      go_enter Tryz.func66, Tryz.ntmps66
      go_upto_region 4 with fail
      rw [E3.out]
      go_region
      go_wp2
      obtain ⟨W9, e9, hb9, g9⟩ := end_cells5 G1.out (.int .i64 (off - 3600)) (.string ⟨#[]⟩) (.int .i64 3600) (.string nm) (.int .i64 0)
      rw [e9]
      obtain ⟨v0, v1, v2, v3, v4, -⟩ := cells5 (W := W9.drew) g9
      refine bodyPost_ret (v := .tuple #[erV (erOf ⟨off, true, nm⟩ 0), .bool false]) (by simp [results, Tryz.results66, go_sem, v0, v1, v2, v3, v4, erOf, erOff, erSave]) rfl ⟨HR.out false HI.out, ?_⟩
      exact (HB.out.trans (hb9 _ (by omega))).drew
end Go.Proofs.YtomahddiclkepaaGreatDoor.BB
namespace Go.Proofs.YtomahddiclkepaaGreatDoor.BB
open Go.RowKit Go.Joins
open Classical
set_option linter.unusedVariables false
set_option linter.unusedSimpArgs false

/-- the memory of a call under way: the table's box, and the result's -/
structure BkM (w W : World) (p1 : Option Addr) (c1 : Nat) (p2 : Option Addr) (c2 : Nat) (t : Tab) : Prop where
  px : W.heap[w.heap.size]? = some (.cells #[.slice p1 t.types.length c1, .int .i64 t.first, .slice p2 t.chs.length c2] 58 (0, 0))
  r : W.heap[w.heap.size + 1]? = some (.cells #[.slice none 0 0, .slice none 0 0, .slice none 0 0] 26 (0, 0))
  tb : TabAt W (.agg #[.slice p1 t.types.length c1, .int .i64 t.first, .slice p2 t.chs.length c2]) t
  b : Below w.heap.size w W
theorem BkM.lt {w W : World} {p1 p2 : Option Addr} {c1 c2 : Nat} {t : Tab} (h : BkM w W p1 c1 p2 c2 t) : w.heap.size + 1 < W.heap.size := (Array.getElem?_eq_some_iff.mp h.r).1
theorem BkM.cells {w W : World} {p1 p2 : Option Addr} {c1 c2 : Nat} {t : Tab} (h : BkM w W p1 c1 p2 c2 t) :
    W.cell? ⟨w.heap.size, 0, none⟩ = some (.slice p1 t.types.length c1) ∧ W.cell? ⟨w.heap.size, 1, none⟩ = some (.int .i64 t.first) ∧ W.cell? ⟨w.heap.size, 2, none⟩ = some (.slice p2 t.chs.length c2) ∧ W.frozen? ⟨w.heap.size, 0, none⟩ = false ∧ W.frozen? ⟨w.heap.size, 1, none⟩ = false ∧ W.frozen? ⟨w.heap.size, 2, none⟩ = false ∧ w.heap.size < W.heap.size :=
  ⟨(cell_of_row W _ 0 _ _ _ h.px).trans rfl, (cell_of_row W _ 1 _ _ _ h.px).trans rfl, (cell_of_row W _ 2 _ _ _ h.px).trans rfl, by simp [World.frozen?, h.px], by simp [World.frozen?, h.px], by simp [World.frozen?, h.px], Nat.lt_of_succ_lt h.lt⟩
theorem BkM.zero {w W : World} {p1 p2 : Option Addr} {c1 c2 : Nat} {t : Tab} (h : BkM w W p1 c1 p2 c2 t) :
    W.cell? ⟨w.heap.size + 1, 0, none⟩ = some (.slice none 0 0) ∧ W.cell? ⟨w.heap.size + 1, 1, none⟩ = some (.slice none 0 0) ∧ W.cell? ⟨w.heap.size + 1, 2, none⟩ = some (.slice none 0 0) ∧ W.frozen? ⟨w.heap.size + 1, 0, none⟩ = false ∧ W.frozen? ⟨w.heap.size + 1, 1, none⟩ = false ∧ W.frozen? ⟨w.heap.size + 1, 2, none⟩ = false :=
  ⟨(cell_of_row W _ 0 _ _ _ h.r).trans rfl, (cell_of_row W _ 1 _ _ _ h.r).trans rfl, (cell_of_row W _ 2 _ _ _ h.r).trans rfl, by simp [World.frozen?, h.r], by simp [World.frozen?, h.r], by simp [World.frozen?, h.r]⟩
theorem end_cells3 {W : World} {g : Nat} {a b c : Value} {T : TypeId} (h : W.heap[g]? = some (.cells #[a, b, c] T (0, 0))) (x y z : Value) :
    ∃ W', ((W.setCell ⟨g, 0, none⟩ x).setCell ⟨g, 1, none⟩ y).setCell ⟨g, 2, none⟩ z = W' ∧ (∀ B, B ≤ g → Below B W W') ∧ W'.heap[g]? = some (.cells #[x, y, z] T (0, 0)) ∧ ∀ b, b ≠ g → W'.heap[b]? = W.heap[b]? := by
  refine ⟨_, rfl, fun B hB => (((Below.refl _ _).setCell (by exact hB) _).setCell (by exact hB) _).setCell (by exact hB) _, ?_, fun b hb => (Below.heap_setCell _ _ _ _ hb).trans ((Below.heap_setCell _ _ _ _ hb).trans (Below.heap_setCell _ _ _ _ hb))⟩
  rw [heap_setCB (i := 2) (heap_setCB (i := 1) (heap_setCB (i := 0) h x) y) z]
  rfl
theorem BkM.out {w W : World} {p1 p2 : Option Addr} {c1 c2 : Nat} {t : Tab} (h : BkM w W p1 c1 p2 c2 t) (x y z : Value) :
    ∃ W', ((W.setCell ⟨w.heap.size + 1, 0, none⟩ x).setCell ⟨w.heap.size + 1, 1, none⟩ y).setCell ⟨w.heap.size + 1, 2, none⟩ z = W' ∧ Below w.heap.size w W' ∧
      W'.cell? ⟨w.heap.size + 1, 0, none⟩ = some x ∧ W'.cell? ⟨w.heap.size + 1, 1, none⟩ = some y ∧ W'.cell? ⟨w.heap.size + 1, 2, none⟩ = some z ∧ ∀ b, b ≠ w.heap.size + 1 → W'.heap[b]? = W.heap[b]? := by
  obtain ⟨W', e, hb, hr, ho⟩ := end_cells3 h.r x y z
  exact ⟨W', e, h.b.trans (hb _ (by omega)), (cell_of_row W' _ 0 _ _ _ hr).trans rfl, (cell_of_row W' _ 1 _ _ _ hr).trans rfl, (cell_of_row W' _ 2 _ _ _ hr).trans rfl, ho⟩
end Go.Proofs.YtomahddiclkepaaGreatDoor.BB
namespace Go.Proofs.YtomahddiclkepaaGreatDoor
open Classical
set_option linter.unusedVariables false
set_option linter.unusedSimpArgs false

theorem valL_cons (x : Ty) (c : Int × Ty) (r : List (Int × Ty)) (y : Int) : valL x (c :: r) y = valL (if c.1 ≤ y then c.2 else x) r y := rfl
theorem valL_none {l : List (Int × Ty)} {y : Int} (h : ∀ c ∈ l, c.1 ≠ y) : ∀ x, valL x l y = valL x l (y - 1) := by
  induction l with
  | nil => intro x; rfl
  | cons c r ih =>
    intro x
    have hc := h c (List.mem_cons_self ..)
    rw [valL_cons, valL_cons, ih fun d hd => h d (List.mem_cons_of_mem _ hd)]
    by_cases e : c.1 ≤ y
    · rw [if_pos e, if_pos (by omega)]
    · rw [if_neg e, if_neg (by omega)]
theorem valL_at {l : List (Int × Ty)} (hr : RiseL l) {c : Int × Ty} (hc : c ∈ l) : ∀ x, valL x l c.1 = c.2 := by
  induction l with
  | nil => cases hc
  | cons d r ih =>
    intro x
    have hp := List.pairwise_cons.1 hr
    rw [valL_cons]
    rcases List.mem_cons.1 hc with rfl | hc
    · rw [if_pos (Int.le_refl _)]
      exact valL_late _ _ _ fun d hd => hp.1 d hd
    · exact ih hp.2 hc _
theorem valL_mem (l : List (Int × Ty)) (y : Int) : ∀ x, valL x l y = x ∨ ∃ c ∈ l, c.1 ≤ y ∧ valL x l y = c.2 := by
  induction l with
  | nil => intro x; exact .inl rfl
  | cons d r ih =>
    intro x
    rw [valL_cons]
    rcases ih (if d.1 ≤ y then d.2 else x) with h | ⟨c, hc, h1, h2⟩
    · by_cases e : d.1 ≤ y
      · rw [if_pos e] at h ⊢
        exact .inr ⟨d, List.mem_cons_self .., e, h⟩
      · rw [if_neg e] at h ⊢
        exact .inl h
    · exact .inr ⟨c, List.mem_cons_of_mem _ hc, h1, h2⟩
/-- a function that turns at the list's times alone is what the list says -/
theorem valL_fun {l : List (Int × Ty)} (hr : RiseL l) (f : Int → Ty) (lo : Int) (hlo : ∀ c ∈ l, lo < c.1) (hf : ∀ c ∈ l, c.2 = f c.1) : ∀ (n : Nat), (∀ z, lo < z → z ≤ lo + n → (∀ c ∈ l, c.1 ≠ z) → f z = f (z - 1)) → valL (f lo) l (lo + n) = f (lo + n)
  | 0, _ => by
    rw [show lo + ((0 : Nat) : Int) = lo by omega]
    exact valL_late _ _ _ hlo
  | n + 1, hs => by
    have ih := valL_fun hr f lo hlo hf n fun z h1 h2 => hs z h1 (by omega)
    by_cases h : ∃ c ∈ l, c.1 = lo + ((n + 1 : Nat) : Int)
    · obtain ⟨c, hc, e⟩ := h
      rw [← e, valL_at hr hc, hf c hc]
    · have hn : ∀ c ∈ l, c.1 ≠ lo + ((n + 1 : Nat) : Int) := fun c hc e => h ⟨c, hc, e⟩
      rw [valL_none hn, hs _ (by omega) (Int.le_refl _) hn, show lo + ((n + 1 : Nat) : Int) - 1 = lo + (n : Int) by omega]
      exact ih
/-- a list of changes to other types: where it changes is where what it says is another one -/
theorem squ_mem {l : List (Int × Ty)} : ∀ {x : Ty}, RiseL l → ∀ c : Int × Ty, c ∈ squ x l ↔ (valL x l c.1 ≠ valL x l (c.1 - 1) ∧ c.2 = valL x l c.1) := by
  induction l with
  | nil => intro x _ c; simp [squ, valL]
  | cons d r ih =>
    intro x hr c
    have hp := List.pairwise_cons.1 hr
    simp only [squ]
    by_cases e : d.2 = x
    · rw [if_pos e, ih hp.2]
      have : ∀ y, valL x (d :: r) y = valL x r y := fun y => by
        rw [valL_cons]
        have : (if d.1 ≤ y then d.2 else x) = x := by split; exact e; rfl
        rw [this]
      rw [this, this]
    · rw [if_neg e, List.mem_cons, ih hp.2]
      rw [valL_cons, valL_cons]
      have late : ∀ y, y ≤ d.1 → ∀ z, valL z r y = z := fun y hy z => valL_late _ _ _ fun q hq => by have := hp.1 q hq; omega
      rcases Int.lt_trichotomy c.1 d.1 with h | h | h
      · rw [if_neg (by omega), if_neg (by omega), late _ (by omega), late _ (by omega), late _ (by omega), late _ (by omega)]
        constructor
        · rintro (rfl | ⟨h1, -⟩)
          · omega
          · exact absurd rfl h1
        · rintro ⟨h1, -⟩
          exact absurd rfl h1
      · rw [if_pos (by omega), if_neg (by omega), late _ (by omega), late _ (by omega), late _ (by omega)]
        constructor
        · rintro (rfl | ⟨h1, -⟩)
          · exact ⟨e, rfl⟩
          · exact absurd rfl h1
        · rintro ⟨h1, h2⟩
          exact .inl (Prod.ext h h2)
      · rw [if_pos (by omega), if_pos (by omega)]
        constructor
        · rintro (rfl | h1)
          · omega
          · exact h1
        · intro h1
          exact .inr h1
theorem squ_rise {l : List (Int × Ty)} (h : RiseL l) (x : Ty) : RiseL (squ x l) := h.sublist (squ_sub l x)
/-- lists that rise are told by their members -/
theorem rise_ext : ∀ {l m : List (Int × Ty)}, RiseL l → RiseL m → (∀ c, c ∈ l ↔ c ∈ m) → l = m
  | [], [], _, _, _ => rfl
  | [], d :: m, _, _, h => absurd ((h d).2 (List.mem_cons_self ..)) (List.not_mem_nil)
  | c :: l, [], _, _, h => absurd ((h c).1 (List.mem_cons_self ..)) (List.not_mem_nil)
  | c :: l, d :: m, hl, hm, h => by
    have hp := List.pairwise_cons.1 hl
    have hq := List.pairwise_cons.1 hm
    have e : c = d := by
      rcases List.mem_cons.1 ((h c).1 (List.mem_cons_self ..)) with e | h1
      · exact e
      · rcases List.mem_cons.1 ((h d).2 (List.mem_cons_self ..)) with e | h2
        · exact e.symm
        · have := hq.1 c h1; have := hp.1 d h2; omega
    subst e
    rw [rise_ext hp.2 hq.2 fun x => ?_]
    constructor
    · intro hx
      rcases List.mem_cons.1 ((h x).1 (List.mem_cons_of_mem _ hx)) with rfl | h1
      · have := hp.1 x hx; omega
      · exact h1
    · intro hx
      rcases List.mem_cons.1 ((h x).2 (List.mem_cons_of_mem _ hx)) with rfl | h1
      · have := hq.1 x hx; omega
      · exact h1
/-- the types of a normal table -/
theorem norm_tyMem (x : Ty) (l : List (Int × Ty)) (y : Ty) : y ∈ (normR x l).types ↔ y = x ∨ ∃ c ∈ squ x l, c.2 = y := by
  have inv := makeN_inv l (begN x) (begN_inv x)
  have hres : resL (normR x l) = squ x l := resL_norm x l
  have hH : tyD (normR x l).types 0 = x := inv.head
  constructor
  · intro hy
    have hy2 : y ∈ (normR x (squ x l)).types := by rw [normR_squ]; exact hy
    rcases makeN_types (x := x) (squ x l) (begN x) y hy2 with h | ⟨c, hc, rfl⟩
    · simp only [begN, List.mem_singleton] at h; exact .inl h
    · exact .inr ⟨c, hc, rfl⟩
  · rintro (hy | ⟨c, hc, rfl⟩)
    · have hm : tyD (normR x l).types 0 ∈ (normR x l).types := tyD_mem (normR x l).types 0 (Int.le_refl _) (by have h0 : 0 < (normR x l).types.length := inv.pos; omega)
      rw [hH] at hm
      rw [hy]
      exact hm
    · rw [← hres] at hc
      obtain ⟨d, hd, rfl⟩ := List.mem_map.1 hc
      have := inv.ks d hd
      exact tyD_mem _ _ this.1 this.2
theorem norm_chT (x : Ty) (l : List (Int × Ty)) : (normR x l).chs.map (·.t) = (squ x l).map (·.1) := by
  rw [← resL_norm x l, resL_times]
/-- a normal table of types and times that may be may be -/
theorem normR_ok {x : Ty} {l : List (Int × Ty)} (hr : RiseL l) (hx : ∀ y, (y = x ∨ ∃ c ∈ l, c.2 = y) → -75600 ≤ y.off ∧ y.off ≤ 75600 ∧ abbrB y.name = true) (ht : ∀ c ∈ l, -1099511627776 ≤ c.1 ∧ c.1 ≤ 1099511627776)
    (h1 : (normR x l).types.length ≤ 250) (h2 : (normR x l).chs.length ≤ 1000) : OkTab (normR x l) := by
  have inv := makeN_inv l (begN x) (begN_inv x)
  have hpos : 0 < (normR x l).types.length := inv.pos
  have htm : ((normR x l).chs.map (·.t)).Sublist (l.map (·.1)) := by rw [norm_chT]; exact (squ_sub l x).map _
  refine ⟨fun e => by rw [e] at hpos; simp at hpos, h1, h2, fun y hy => ?_, ⟨Int.le_refl _, by show (0 : Int) < _; omega⟩, fun c hc => ?_, ?_⟩
  · refine hx y ?_
    rcases (norm_tyMem x l y).1 hy with h | ⟨c, hc, e⟩
    · exact .inl h
    · exact .inr ⟨c, (squ_sub l x).subset hc, e⟩
  · obtain ⟨d, hd, e⟩ := List.mem_map.1 (htm.subset (List.mem_map.2 ⟨c, hc, rfl⟩))
    have := ht d hd
    have hk := inv.ks c hc
    rw [e] at this
    exact ⟨this.1, this.2, hk.1, hk.2⟩
  · have h1 : (l.map (·.1)).Pairwise (· < ·) := List.pairwise_map.2 hr
    exact List.pairwise_map.1 (h1.sublist htm)
end Go.Proofs.YtomahddiclkepaaGreatDoor
