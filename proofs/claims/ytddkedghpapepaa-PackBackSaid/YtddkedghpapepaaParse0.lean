/- pack.Parse: what lies in memory while it runs. -/
import Derived.Test.YtddkedghpapepaaRead
import Derived.Deep.RegionLaw
import Derived.Laws.NewBlocks
namespace Go.Proofs.Ytddkedghpapepaa
open Go.RowKit Go.Joins
set_option linter.unusedVariables false
set_option linter.unusedSimpArgs false

def zeroTab : Tab := ⟨[], 0, []⟩
def zeroTV : Value := .agg #[.slice none 0 0, .int .i64 0, .slice none 0 0]
theorem zero_at (w : World) : TabAt w zeroTV zeroTab := ⟨_, _, rfl, ⟨⟨none, 0, rfl, fun h => absurd rfl h⟩, by decide, by intro x hx; cases hx⟩, ⟨⟨none, 0, rfl, fun h => absurd rfl h⟩, by decide⟩⟩

def tyC (x : Ty) : List Value := [.int .i64 x.off, .bool x.save, .string x.name]
def chC (x : Ch) : List Value := [.int .i64 x.t, .int .i64 x.k]
def tyCells (l : List Ty) : List Value := l.flatMap tyC
def chCells (l : List Ch) : List Value := l.flatMap chC
theorem tyCells_snoc (l : List Ty) (x : Ty) : tyCells (l ++ [x]) = tyCells l ++ tyC x := by simp [tyCells]
theorem chCells_snoc (l : List Ch) (x : Ch) : chCells (l ++ [x]) = chCells l ++ chC x := by simp [chCells]
theorem tyCells_get : ∀ (l : List Ty) (i : Nat) (h : i < l.length), (tyCells l)[i * 3]? = some (.int .i64 l[i].off) ∧ (tyCells l)[i * 3 + 1]? = some (.bool l[i].save) ∧ (tyCells l)[i * 3 + 2]? = some (.string l[i].name)
  | [], i, h => by simp at h
  | x :: r, 0, _ => by simp [tyCells, tyC]
  | x :: r, i + 1, h => by
    have := tyCells_get r i (by simpa using h)
    have e : tyCells (x :: r) = tyC x ++ tyCells r := by simp [tyCells]
    rw [e]
    have e3 : (tyC x).length = 3 := rfl
    rw [List.getElem?_append_right (by rw [e3]; omega), List.getElem?_append_right (by rw [e3]; omega), List.getElem?_append_right (by rw [e3]; omega), e3,
      show (i + 1) * 3 - 3 = i * 3 by omega, show (i + 1) * 3 + 1 - 3 = i * 3 + 1 by omega, show (i + 1) * 3 + 2 - 3 = i * 3 + 2 by omega]
    simpa using this
theorem chCells_get : ∀ (l : List Ch) (i : Nat) (h : i < l.length), (chCells l)[i * 2]? = some (.int .i64 l[i].t) ∧ (chCells l)[i * 2 + 1]? = some (.int .i64 l[i].k)
  | [], i, h => by simp at h
  | x :: r, 0, _ => by simp [chCells, chC]
  | x :: r, i + 1, h => by
    have := chCells_get r i (by simpa using h)
    have e : chCells (x :: r) = chC x ++ chCells r := by simp [chCells]
    rw [e]
    have e3 : (chC x).length = 2 := rfl
    rw [List.getElem?_append_right (by rw [e3]; omega), List.getElem?_append_right (by rw [e3]; omega), e3,
      show (i + 1) * 2 - 2 = i * 2 by omega, show (i + 1) * 2 + 1 - 2 = i * 2 + 1 by omega]
    simpa using this

theorem own_keep {W W' : World} {B : Nat} {e : TypeId} {s n : Nat} {v : Value} {xs : List Value} (h : W.ownsRow B e s v n xs) (hk : ∀ g, v.ownBlock = some g → W'.heap[g]? = W.heap[g]?) : W'.ownsRow B e s v n xs := by
  obtain ⟨h1, h2⟩ := h
  refine ⟨h1, ?_⟩
  rcases h2 with h2 | ⟨g, cap, cur, rfl, hb, hg, r⟩
  · exact .inl h2
  · exact .inr ⟨g, cap, cur, rfl, hb, (hk g rfl).trans hg, r⟩
theorem own_cells {W : World} {B : Nat} {e : TypeId} {s n : Nat} {v : Value} {xs : List Value} (h : W.ownsRow B e s v n xs) : (v = .slice none 0 0 ∧ n = 0) ∨ ∃ g cap, v = .slice (some ⟨g, 0, none⟩) n cap ∧ B ≤ g ∧ g < W.heap.size ∧ ∀ i u, xs[i]? = some u → W.cell? ⟨g, i, none⟩ = some u := by
  rcases h.2 with h2 | ⟨g, cap, cur, rfl, hb, hg, hn, hm, hs, ht⟩
  · exact .inl h2
  · refine .inr ⟨g, cap, rfl, hb, (Array.getElem?_eq_some_iff.1 hg).1, fun i u hu => ?_⟩
    rw [cell_of_row W g i cur _ (0, 0) hg]
    rw [← ht, List.getElem?_take] at hu
    split at hu
    · simpa using hu
    · cases hu
theorem own_types {W : World} {B : Nat} {v : Value} {l : List Ty} (h : W.ownsRow B 32 3 v l.length (tyCells l)) (hl : l.length ≤ 100000) (hn : ∀ x ∈ l, x.name.size ≤ maxLen) : SlTy W v l := by
  refine ⟨?_, by simp only [maxLen]; omega, hn⟩
  rcases own_cells h with ⟨rfl, h0⟩ | ⟨g, cap, rfl, hb, hg, hc⟩
  · have : l = [] := List.eq_nil_of_length_eq_zero h0
    subst this
    exact ⟨none, 0, rfl, fun h => absurd rfl h⟩
  · refine ⟨_, cap, rfl, fun _ => ⟨g, 0, rfl, hg, fun i hi => ?_⟩⟩
    obtain ⟨k1, k2, k3⟩ := tyCells_get l i hi
    exact ⟨by rw [Nat.zero_add]; exact hc _ _ k1, by rw [Nat.zero_add]; exact hc _ _ k2, by rw [Nat.zero_add]; exact hc _ _ k3⟩
theorem own_chs {W : World} {B : Nat} {v : Value} {l : List Ch} (h : W.ownsRow B 36 2 v l.length (chCells l)) (hl : l.length ≤ 100000) : SlCh W v l := by
  refine ⟨?_, by simp only [maxLen]; omega⟩
  rcases own_cells h with ⟨rfl, h0⟩ | ⟨g, cap, rfl, hb, hg, hc⟩
  · have : l = [] := List.eq_nil_of_length_eq_zero h0
    subst this
    exact ⟨none, 0, rfl, fun h => absurd rfl h⟩
  · refine ⟨_, cap, rfl, fun _ => ⟨g, 0, rfl, hg, fun i hi => ?_⟩⟩
    obtain ⟨k1, k2⟩ := chCells_get l i hi
    exact ⟨by rw [Nat.zero_add]; exact hc _ _ k1, by rw [Nat.zero_add]; exact hc _ _ k2⟩
/-- rows of other element types lie in other blocks -/
theorem own_apart {W : World} {B B' : Nat} {e e' : TypeId} {s s' n n' : Nat} {v v' : Value} {xs xs' : List Value} (h : W.ownsRow B e s v n xs) (h' : W.ownsRow B' e' s' v' n' xs') (hne : e ≠ e') : v.ownBlock = none ∨ v.ownBlock ≠ v'.ownBlock := by
  rcases h.2 with ⟨rfl, _⟩ | ⟨g, cap, cur, rfl, _, hg, _⟩
  · exact .inl rfl
  · refine .inr fun e0 => ?_
    rcases h'.2 with ⟨rfl, _⟩ | ⟨g', cap', cur', rfl, _, hg', _⟩
    · simp [Value.ownBlock] at e0
    · simp only [Value.ownBlock] at e0
      injection e0 with e0
      subst e0
      rw [hg] at hg'
      injection hg' with hg'
      injection hg' with _ h2
      exact hne h2

/-- the state: the result's cell, the reader, the table with the rows that it owns -/
structure PL (w W : World) (T B : Nat) (r : Rd) (sv cv : Value) (f : Int) (xs : List Ty) (ys : List Ch) : Prop where
  base : Below w.heap.size w W
  res : W.heap[w.heap.size]? = some (.cells #[.slice none 0 0, .int .i64 0, .slice none 0 0] 25 (0, 0))
  rd : RdAt W (w.heap.size + 1) r
  byte : ∀ x ∈ r.rest, 0 ≤ x ∧ x < 256
  tb : W.heap[T]? = some (.cells #[sv, .int .i64 f, cv] 25 (0, 0))
  hT : w.heap.size + 1 < T
  hB : T < B
  hS : B ≤ W.heap.size
  rowT : W.ownsRow B 32 3 sv xs.length (tyCells xs)
  rowC : W.ownsRow B 36 2 cv ys.length (chCells ys)

theorem grown_R {w W W' : World} {R : Nat} (hg : W.grownBy W' (some R)) (hR : w.heap.size ≤ R) (hw : w.heap.size ≤ W.heap.size) : Below w.heap.size W W' :=
  (Below.refl _ W).grown hg hw fun k e => by injection e with e; omega

section
variable {w W W' : World} {T B : Nat} {r r' : Rd} {sv cv : Value} {f : Int} {xs : List Ty} {ys : List Ch}
theorem PL.below (h : PL w W T B r sv cv f xs ys) (hb : Below B W W') (h1 : W'.ownsRow B 32 3 sv xs.length (tyCells xs)) (h2 : W'.ownsRow B 36 2 cv ys.length (chCells ys)) : PL w W' T B r sv cv f xs ys := by
  have a1 := h.hT
  have a2 := h.hB
  exact ⟨h.base.trans (hb.mono (by omega)), (hb.block _ (by omega)).trans h.res, h.rd.keep fun b hb' => hb.block _ (by omega), h.byte, (hb.block _ (by omega)).trans h.tb, h.hT, h.hB, Nat.le_trans h.hS hb.size, h1, h2⟩
theorem PL.read (h : PL w W T B r sv cv f xs ys) (hr : RdAt W' (w.heap.size + 1) r') (hg : W.grownBy W' (some (w.heap.size + 1))) (hby : ∀ x ∈ r'.rest, 0 ≤ x ∧ x < 256) : PL w W' T B r' sv cv f xs ys := by
  have a1 := h.hT
  have a2 := h.hB
  have a3 := h.hS
  have hk : ∀ b, b < W.heap.size → b ≠ w.heap.size + 1 → W'.heap[b]? = W.heap[b]? := fun b hb hne => hg.block b hb (fun e => by injection e with e; exact hne e)
  exact ⟨h.base.trans (grown_R hg (by omega) (by omega)), (hk _ (by omega) (by omega)).trans h.res, hr, hby, (hk _ (by omega) (by omega)).trans h.tb, h.hT, h.hB, Nat.le_trans h.hS hg.size,
    own_keep h.rowT fun g e => hk g ((World.ownsRow.lt h.rowT g e).2) (by have := (World.ownsRow.lt h.rowT g e).1; omega),
    own_keep h.rowC fun g e => hk g ((World.ownsRow.lt h.rowC g e).2) (by have := (World.ownsRow.lt h.rowC g e).1; omega)⟩
theorem PL.alloc (h : PL w W T B r sv cv f xs ys) (o : Obj) : PL w (W.alloc o) T B r sv cv f xs ys :=
  h.below ((Below.refl _ _).alloc h.hS _) (World.ownsRow.alloc h.rowT _) (World.ownsRow.alloc h.rowC _)
theorem PL.drew (h : PL w W T B r sv cv f xs ys) : PL w W.drew T B r sv cv f xs ys :=
  h.below ((Below.refl _ _).drew) (World.ownsRow.drew h.rowT) (World.ownsRow.drew h.rowC)
/-- a store into a block that is no part of it -/
theorem PL.far (h : PL w W T B r sv cv f xs ys) {X i : Nat} (hX : B ≤ X) (h1 : sv.ownBlock ≠ some X) (h2 : cv.ownBlock ≠ some X) (v : Value) : PL w (W.setCell ⟨X, i, none⟩ v) T B r sv cv f xs ys :=
  h.below ((Below.refl _ _).setCell (by show B ≤ X; exact hX) _) (own_keep h.rowT fun g e => Below.heap_setCell _ _ _ _ (fun e2 => h1 (by rw [e, e2]))) (own_keep h.rowC fun g e => Below.heap_setCell _ _ _ _ (fun e2 => h2 (by rw [e, e2])))
theorem PL.put0 (h : PL w W T B r sv cv f xs ys) (hb : Below B W W') {sv' : Value} {xs' : List Ty} (h1 : W'.ownsRow B 32 3 sv' xs'.length (tyCells xs')) (h2 : W'.ownsRow B 36 2 cv ys.length (chCells ys)) :
    PL w (W'.setCell ⟨T, 0, none⟩ sv') T B r sv' cv f xs' ys := by
  have a1 := h.hT
  have a2 := h.hB
  have hk : ∀ b, b ≠ T → (W'.setCell ⟨T, 0, none⟩ sv').heap[b]? = W'.heap[b]? := fun b hne => Below.heap_setCell _ _ _ _ hne
  have ht := heap_setCell_same (i := 0) ((hb.block _ (by omega)).trans h.tb) sv'
  refine ⟨(h.base.trans (hb.mono (by omega))).setCell (by show w.heap.size ≤ T; omega) _, (hk _ (by omega)).trans ((hb.block _ (by omega)).trans h.res), h.rd.keep fun b hb' => (hk _ (by omega)).trans (hb.block _ (by omega)), h.byte, by rw [ht]; rfl, h.hT, h.hB,
    by have := Nat.le_trans h.hS hb.size; simpa [World.setCell] using this,
    own_keep h1 fun g e => hk g (by have := (World.ownsRow.lt h1 g e).1; omega), own_keep h2 fun g e => hk g (by have := (World.ownsRow.lt h2 g e).1; omega)⟩
theorem PL.put2 (h : PL w W T B r sv cv f xs ys) (hb : Below B W W') {cv' : Value} {ys' : List Ch} (h1 : W'.ownsRow B 32 3 sv xs.length (tyCells xs)) (h2 : W'.ownsRow B 36 2 cv' ys'.length (chCells ys')) :
    PL w (W'.setCell ⟨T, 2, none⟩ cv') T B r sv cv' f xs ys' := by
  have a1 := h.hT
  have a2 := h.hB
  have hk : ∀ b, b ≠ T → (W'.setCell ⟨T, 2, none⟩ cv').heap[b]? = W'.heap[b]? := fun b hne => Below.heap_setCell _ _ _ _ hne
  have ht := heap_setCell_same (i := 2) ((hb.block _ (by omega)).trans h.tb) cv'
  refine ⟨(h.base.trans (hb.mono (by omega))).setCell (by show w.heap.size ≤ T; omega) _, (hk _ (by omega)).trans ((hb.block _ (by omega)).trans h.res), h.rd.keep fun b hb' => (hk _ (by omega)).trans (hb.block _ (by omega)), h.byte, by rw [ht]; rfl, h.hT, h.hB,
    by have := Nat.le_trans h.hS hb.size; simpa [World.setCell] using this,
    own_keep h1 fun g e => hk g (by have := (World.ownsRow.lt h1 g e).1; omega), own_keep h2 fun g e => hk g (by have := (World.ownsRow.lt h2 g e).1; omega)⟩
theorem PL.numN {n : Nat} (h : PL w W T B r sv cv f xs ys) (hr : RdAt W' (w.heap.size + 1) (numN n r).2) (hg : W.grownBy W' (some (w.heap.size + 1))) : PL w W' T B (numN n r).2 sv cv f xs ys :=
  h.read hr hg (takeN_rest n r h.byte)
end

set_option maxRecDepth 100000 in
set_option maxHeartbeats 1000000 in
theorem Parse_large (A : Option Addr) (n c : Nat) (w : World) (h : 20000 < n) :
    Calls Try.prog 24 #[.slice A n c] w fun e w' => e = .returned (.tuple #[zeroTV, .int .i64 2]) ∧ Below w.heap.size w w' := by
  have h' : (20000 : Int) < (n : Int) := by omega
  go_enter Try.func24, Try.ntmps24
  go_wp2
  exact bodyPost_ret (v := .tuple #[zeroTV, .int .i64 2]) (by simp [results, Try.results24, go_sem, zeroTV]) rfl ⟨rfl, (Below.refl _ _).alloc (Nat.le_refl _) _⟩
set_option maxRecDepth 100000 in
set_option maxHeartbeats 1000000 in
theorem Parse_short (A : Option Addr) (n c : Nat) (w : World) (h : n < 8) :
    Calls Try.prog 24 #[.slice A n c] w fun e w' => e = .returned (.tuple #[zeroTV, .int .i64 4]) ∧ Below w.heap.size w w' := by
  have h0 : decide ((20000 : Int) < (n : Int)) = false := by simp; omega
  have h1 : decide ((n : Int) < 8) = true := by simp; omega
  go_enter Try.func24, Try.ntmps24
  go_wp2
  exact bodyPost_ret (v := .tuple #[zeroTV, .int .i64 4]) (by simp [results, Try.results24, go_sem, zeroTV]) rfl ⟨rfl, (Below.refl _ _).alloc (Nat.le_refl _) _⟩

/-- the start: the reader behind the four first bytes -/
theorem rd_start {w : World} {b o c : Nat} {l : List Int} (h : BytesBelow w w.heap.size (some ⟨b, o, none⟩) l.length l) (hc : l.length ≤ c) (h8 : 8 ≤ l.length) (x : Obj) :
    RdAt ((w.alloc x).alloc (.cells #[.slice (some ⟨b, o + 4, none⟩) (l.length - 4) (c - 4), .bool false] 72)) (w.heap.size + 1) ⟨l.drop 4, false⟩ := by
  have e := heap_alloc_new (w.alloc x) (.cells #[.slice (some ⟨b, o + 4, none⟩) (l.length - 4) (c - 4), .bool false] 72)
  have hz : (w.alloc x).heap.size = w.heap.size + 1 := by simp
  rw [hz] at e
  refine ⟨some ⟨b, o + 4, none⟩, c - 4, by simp; omega, by rw [e]; simp, fun hn => ?_⟩
  simp only [List.length_drop] at hn
  obtain ⟨b', o', e1, hb, hcell⟩ := h (by omega)
  obtain ⟨rfl, rfl⟩ : b = b' ∧ o = o' := by simpa using e1
  refine ⟨b, o + 4, rfl, by omega, fun i hi => ?_⟩
  simp only [List.length_drop] at hi
  have h1 := hcell (4 + i) (by omega)
  rw [World.cell?_alloc_lt _ _ _ (by show b < _; omega), World.cell?_alloc_lt _ _ _ (by show b < _; omega), Nat.add_assoc, h1]
  simp only [List.getD_eq_getElem?_getD, List.getElem?_drop]

theorem PL_start {w W : World} {r : Rd} {f : Int} (hb : Below w.heap.size w W) (hres : W.heap[w.heap.size]? = some (.cells #[.slice none 0 0, .int .i64 0, .slice none 0 0] 25 (0, 0)))
    (hr : RdAt W (w.heap.size + 1) r) (hby : ∀ x ∈ r.rest, 0 ≤ x ∧ x < 256) (hz : w.heap.size + 1 < W.heap.size) :
    PL w (W.alloc (.cells #[.slice none 0 0, .int .i64 f, .slice none 0 0] 25)) W.heap.size (W.heap.size + 1) r (.slice none 0 0) (.slice none 0 0) f [] [] :=
  ⟨hb.alloc (by omega) _, (Below.heap_alloc _ _ _ (by omega)).trans hres, hr.keep fun b hb' => Below.heap_alloc _ _ _ (by omega), hby, heap_alloc_new W _, hz, by omega, by simp, World.ownsRow_nil _ _ _ _, World.ownsRow_nil _ _ _ _⟩

theorem tys_len (r : Rd) : ∀ k, (tys k r).1.length = k
  | 0 => rfl
  | k + 1 => by
    show ((tys k r).1 ++ [_]).length = k + 1
    rw [List.length_append, tys_len r k]; rfl
theorem chs_len (r : Rd) : ∀ k, (chs k r).1.length ≤ k
  | 0 => Nat.le_refl _
  | k + 1 => by
    have := chs_len r k
    show (if _ then _ else _ : List Ch × Rd).1.length ≤ k + 1
    split
    · omega
    · rw [List.length_append]; simpa using this
theorem ty1_name (r : Rd) (h : ∀ x ∈ r.rest, 0 ≤ x ∧ x < 256) : (ty1 r).1.name.size ≤ 255 := by
  show (strOfNums _).size ≤ 255
  rw [strOfNums_size, takeN_length]
  have h2 := numN_lt 1 (numN 1 (numN 4 r).2).2 (takeN_rest _ _ (takeN_rest _ _ h))
  omega
theorem ty1_rest (r : Rd) (h : ∀ x ∈ r.rest, 0 ≤ x ∧ x < 256) : ∀ x ∈ (ty1 r).2.rest, 0 ≤ x ∧ x < 256 := takeN_rest _ _ (takeN_rest _ _ (takeN_rest _ _ (takeN_rest _ _ h)))
theorem tys_rest (r : Rd) (h : ∀ x ∈ r.rest, 0 ≤ x ∧ x < 256) : ∀ k, ∀ x ∈ (tys k r).2.rest, 0 ≤ x ∧ x < 256
  | 0 => h
  | k + 1 => ty1_rest _ (tys_rest r h k)
theorem tys_names (r : Rd) (h : ∀ x ∈ r.rest, 0 ≤ x ∧ x < 256) : ∀ k, ∀ x ∈ (tys k r).1, x.name.size ≤ 255
  | 0, x, hx => by cases hx
  | k + 1, x, hx => by
    have hx' : x ∈ (tys k r).1 ++ [(ty1 (tys k r).2).1] := hx
    rcases List.mem_append.1 hx' with hx | hx
    · exact tys_names r h k x hx
    · obtain rfl := List.mem_singleton.1 hx
      exact ty1_name _ (tys_rest r h k)
theorem number_at (R n : Nat) (r : Rd) (w : World) (N : Nat) (r' : Rd) (hq : numN n r = (N, r')) (hr : RdAt w R r) (hn : n ≤ 8) (hby : ∀ x ∈ r.rest, 0 ≤ x ∧ x < 256) :
    Calls Try.prog 35 #[.pointer (some ⟨R, 0, none⟩), .int .i64 n] w fun e w' => e = .returned (.int .u64 N) ∧ RdAt w' R r' ∧ w.grownBy w' (some R) := by
  have := number_any R n r w hr hn hby
  rw [hq] at this
  exact this
theorem bytes_at (R n : Nat) (r : Rd) (w : World) (m : List Int) (r' : Rd) (hq : takeN n r = (m, r')) (hr : RdAt w R r) (hn : n ≤ 255) :
    Calls Try.prog 36 #[.pointer (some ⟨R, 0, none⟩), .int .i64 n] w fun e w' => ∃ A c, e = .returned (.slice A n c) ∧ n ≤ c ∧ BytesBelow w' w'.heap.size A n m ∧ RdAt w' R r' ∧ w.grownBy w' (some R) := by
  have := bytes_any R n r w hr hn
  rw [hq] at this
  exact this
theorem numN_q {n : Nat} {r : Rd} {N : Nat} {r' : Rd} (hq : numN n r = (N, r')) (h : ∀ x ∈ r.rest, 0 ≤ x ∧ x < 256) : N < 256 ^ n ∧ ∀ x ∈ r'.rest, 0 ≤ x ∧ x < 256 := by
  have h1 := numN_lt n r h
  have h2 : ∀ x ∈ (numN n r).2.rest, 0 ≤ x ∧ x < 256 := takeN_rest n r h
  rw [hq] at h1 h2
  exact ⟨h1, h2⟩
theorem takeN_q {n : Nat} {r : Rd} {m : List Int} {r' : Rd} (hq : takeN n r = (m, r')) (h : ∀ x ∈ r.rest, 0 ≤ x ∧ x < 256) : m.length = n ∧ ∀ x ∈ r'.rest, 0 ≤ x ∧ x < 256 := by
  have h1 := takeN_length n r
  have h2 := takeN_rest n r h
  rw [hq] at h1 h2
  exact ⟨h1, h2⟩
/-- the world ahead of the result's cell and the reader -/
theorem start_facts (w : World) (x y : Obj) {w1 : World} (hg : ((w.alloc x).alloc y).grownBy w1 (some (w.heap.size + 1))) :
    Below w.heap.size w w1 ∧ w1.heap[w.heap.size]? = some x ∧ w.heap.size + 1 < w1.heap.size := by
  have h1 : Below w.heap.size w ((w.alloc x).alloc y) := ((Below.refl _ _).alloc (Nat.le_refl _) _).alloc (by simp) _
  refine ⟨h1.trans (grown_R hg (by omega) (by simp; omega)), ?_, by have := hg.size; simp at this; omega⟩
  rw [hg.block _ (by simp; omega) (by simp), Below.heap_alloc _ _ _ (by simp)]
  exact heap_alloc_new w x
end Go.Proofs.Ytddkedghpapepaa
