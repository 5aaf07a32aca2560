/- wall.pieces: the pieces of a table that may be, one behind the other. wall.pieces: the pieces of a table without changes; and of whatever table that may be. wall.Find: the times at which clocks show a local time. The plain laws of pieces, of the types at times, of the times found. A region that only reads and draws its order, IN A ROUND of a loop over an iterator: one walk of the lexical order serves every order (the kit's theorem asks for a fence without a round; but an operation that defers nothing is run in a round as elsewhere: 'Oper.semAt_eq'). wall.Long: how long a day is. The plain law of long days: they add up; how long one may be. TopDays in plain Lean: all days of a table together have the seconds of its time. Normal tables: plain Lean, but for what they say at a time. Rows of one's own: what keeps them, their cells. A type's comparison. -/
import Derived.Test.YtomahddiclkepaaGreatDoorQd01
import Derived.RangeFuncNested
import Derived.RangeFuncBox
import Derived.RangeFuncBound
import Derived.RangeFuncCalls
import Derived.RangeFuncLeaves
import Derived.Shelf.Abstract
import Derived.OwnWalkIn
import Derived.TacticsInMore
import Derived.LoopNIn
import Derived.LoopIn
import Derived.BigRegionIn
import Derived.Sort.QuietIn
import Derived.Maps.AppendAt
import Derived.Sort.BigQuietIn
import Derived.AtR
import Derived.WalkKit
import Derived.OwnWalk
import Derived.Below
import Derived.Laws.NewBlocks
import Derived.Laws.OwnMore
import Derived.Laws.StructEq
namespace Go.Proofs.YtomahddiclkepaaGreatDoor
open Go.RowKit Go.Shelf
set_option linter.unusedVariables false
set_option linter.unusedSimpArgs false

attribute [local go_sem] Oper.semAt_some

/-- a piece: from, to, offset -/
structure Pc where
  a : Int
  b : Int
  off : Int
abbrev pcV (x : Pc) : Array Value := #[.agg #[.int .i64 x.a, .int .i64 x.b], .int .i64 x.off]

def frAt (m : List Ch) : Nat → Int
  | 0 => -4611686018427387904
  | k + 1 => tAt m k
def idAt (f : Int) (m : List Ch) : Nat → Int
  | 0 => f
  | k + 1 => kAt m k
def toAt (m : List Ch) (k : Nat) : Int := if k < m.length then tAt m k else 4611686018427387903
def pcAt (t : Tab) (k : Nat) : Pc := ⟨frAt t.chs k, toAt t.chs k, (tyD t.types (idAt t.first t.chs k)).off⟩
def uptoP (t : Tab) (k : Nat) : List Pc := (List.range k).map (pcAt t)
theorem uptoP_succ (t : Tab) (k : Nat) : uptoP t (k + 1) = uptoP t k ++ [pcAt t k] := by simp [uptoP, List.range_succ]
theorem uptoP_length (t : Tab) (k : Nat) : (uptoP t k).length = k := by simp [uptoP]

/-- what a round keeps: what lay below n₀, and each table's and each change's own box -/
structure KpT (n₀ : Nat) (W W' : World) : Prop where
  size : W.heap.size ≤ W'.heap.size
  low : ∀ k, k < n₀ → W'.heap[k]? = W.heap[k]?
  box : ∀ (k : Nat) (cs : Array Value) (T : TypeId), W.heap[k]? = some (Obj.cells cs T (0, 0)) → (T = 58 ∨ T = 61) → W'.heap[k]? = some (Obj.cells cs T (0, 0))
theorem KpT.trans {n₀ : Nat} {A C D : World} (h : KpT n₀ A C) (k : KpT n₀ C D) : KpT n₀ A D :=
  ⟨Nat.le_trans h.size k.size, fun i hi => (k.low i hi).trans (h.low i hi), fun i cs T h1 h2 => k.box i cs T (h.box i cs T h1 h2) h2⟩
theorem KpT.refl (n₀ : Nat) (W : World) : KpT n₀ W W := ⟨Nat.le_refl _, fun _ _ => rfl, fun _ _ _ h _ => h⟩
theorem KpT.cell {n₀ : Nat} {W W' : World} (h : KpT n₀ W W') {b o : Nat} (hb : b < n₀) : W'.cell? ⟨b, o, none⟩ = W.cell? ⟨b, o, none⟩ := World.cell?_of_block (w := W) (h.low b hb)
theorem KpT.of_below {n₀ : Nat} {W W' : World} (h : Below W.heap.size W W') (hn : n₀ ≤ W.heap.size) : KpT n₀ W W' :=
  ⟨h.size, fun k hk => h.block k (by omega), fun k cs T h1 _ => (h.block k (Array.getElem?_eq_some_iff.1 h1).1).trans h1⟩
theorem KpT.putObj {n₀ : Nat} (W : World) (l : Nat) (o o' : Obj) (hl : n₀ ≤ l) (h : W.heap[l]? = some o) (hc : o.isCells = false) : KpT n₀ W (W.putObj l o') := by
  refine ⟨by simp, fun k hk => World.putObj_heap_other (by omega), fun k cs T h1 _ => ?_⟩
  have hne : k ≠ l := by
    rintro rfl
    rw [h1] at h
    cases h
    simp [Obj.isCells] at hc
  exact (World.putObj_heap_other hne).trans h1

theorem cells2 {W : World} {B : Nat} {a b : Value} {T : TypeId} (h : W.heap[B]? = some (Obj.cells #[a, b] T (0, 0))) : W.cell? ⟨B, 0, none⟩ = some a ∧ W.cell? ⟨B, 1, none⟩ = some b := by
  constructor <;> simp [World.cell?, h]
theorem cells3 {W : World} {B : Nat} {a b c : Value} {T : TypeId} (h : W.heap[B]? = some (.cells #[a, b, c] T (0, 0))) : W.cell? ⟨B, 0, none⟩ = some a ∧ W.cell? ⟨B, 1, none⟩ = some b ∧ W.cell? ⟨B, 2, none⟩ = some c := by
  refine ⟨?_, ?_, ?_⟩ <;> simp [World.cell?, h]

theorem grownBy_drew (W : World) : W.grownBy W.drew none := ⟨rfl, rfl, rfl, Nat.le_refl _, fun _ _ _ => rfl⟩
theorem grownBy_drewNP (W : World) (n : Nat) : W.grownBy (W.drewN n) none := ⟨rfl, rfl, rfl, Nat.le_refl _, fun _ _ _ => rfl⟩

/-- how a round may end -/
structure YOut (n₀ : Nat) (J Jx : List Pc → World → Prop) (ys : List Pc) (W : World) (bb : Bool) (W' : World) : Prop where
  yes : bb = true → J ys W' ∧ KpT n₀ W W'
  no : bb = false → Jx ys W'

set_option maxRecDepth 100000 in
set_option maxHeartbeats 4000000 in
theorem pieces1_in (n l Bt n₀ b o cap b2 o2 cap2 : Nat) (t : Tab) (hn : 1 ≤ n) (hb : b < n₀) (hb2 : b2 < n₀) (J Jx : List Pc → World → Prop)
    (hY : ∀ pre x W, J pre W → pre.length < t.chs.length + 1 → YieldAt Fence.wide (n - 1) Tryz.prog l (pcV x) W fun e W' =>
      (e = .returned (.bool true) ∧ J (pre ++ [x]) W' ∧ KpT n₀ W W') ∨ (e = .returned (.bool false) ∧ Jx (pre ++ [x]) W'))
    (W : World) (hJ : AbidesFrom W.heap.size J) (hJx : AbidesFrom W.heap.size Jx) (hq : W.heap[Bt]? = some (Obj.cells #[.slice (some ⟨b, o, none⟩) t.types.length cap, .int .i64 t.first, .slice (some ⟨b2, o2, none⟩) t.chs.length cap2] 58 (0, 0)))
    (hty : ∀ i (h : i < t.types.length), tyAt W b (o + i * 3) t.types[i]) (hch : ∀ i (h : i < t.chs.length), chAt W b2 (o2 + i * 2) t.chs[i]) (ok : OkTab t) (hn0 : n₀ ≤ W.heap.size) (h0 : J [] W) :
    CallsIn Fence.wide n Tryz.prog 109 #[.func (.yield l) #[] #[], .pointer (some ⟨Bt, 0, none⟩)] W fun e W' => (∃ v, e = .returned v) ∧
      ((∃ ys, ys = uptoP t (t.chs.length + 1) ∧ J ys W') ∨ (∃ pre, (∃ k, pre = uptoP t k) ∧ Jx pre W')) := by
  obtain ⟨hq0, hq1, hq2⟩ := cells3 hq
  refine callsIn_of_wp Tryz.func109 rfl trivial ?_ rfl
  simp only [Tryz.ntmps109, List.size_toArray, List.length_cons, List.length_nil, Nat.reduceAdd, Nat.reduceSub, Array.replicate_succ, Array.replicate_zero, List.push_toArray, List.append_toArray, List.nil_append, List.cons_append]
  gi_wp2
  gi_quiet (fail)
  gi_wp2
  have hstart : J (uptoP t 0) (W.drewN nq) := hJ _ _ _ none h0 (grownBy_drewNP W nq) (fun r e => by cases e)
  have HT := Lib.hid hty
  have HC := Lib.hid hch
  have HJ := Lib.hid hJ
  have HY := Lib.hid hY
  have HS := Lib.hid hstart
  have HQ := Lib.hid hq
  have hok1 := ok.many
  have hok2 := ok.chs
  have hok3 := ok.first
  have OK := Lib.hid ok
  have hBt : Bt < W.heap.size := World.block_lt_of_cell? _ _ hq0
  clear hty hch hJ hJx hY hstart hq hq0 hq1 hq2 ok
  gi_loopw [3, 4, 12] (fun s3 s4 s12 wr => ∃ k : Nat, k ≤ t.chs.length ∧ s3 = .int .i64 (frAt t.chs k) ∧ s4 = .int .i64 (idAt t.first t.chs k) ∧ s12 = .int .i64 k ∧ J (uptoP t k) wr ∧ KpT n₀ W wr ∧ W.heap.size ≤ wr.heap.size)
    (fun _ _ s12 _ => t.chs.length - (intOf s12).toNat)
  case atStart => exact ⟨0, Nat.zero_le _, rfl, rfl, rfl, HS.out, ⟨Nat.le_refl _, fun _ _ => rfl, fun _ _ _ h _ => h⟩, Nat.le_refl _⟩
  case round =>
    obtain ⟨k, hk, rfl, rfl, rfl, hJs, hkp, hsz⟩ := hrel
    have hid : 0 ≤ idAt t.first t.chs k ∧ idAt t.first t.chs k < t.types.length := by
      cases k with
      | zero => exact hok3
      | succ j =>
        have := OK.out.ch t.chs[j] (List.getElem_mem (by omega))
        simp only [idAt, kAt]
        rw [List.getElem?_eq_getElem (by omega)]
        simp; omega
    obtain ⟨kn, hkn⟩ := Int.eq_ofNat_of_zero_le hid.1
    have hkl : kn < t.types.length := by omega
    obtain ⟨x, ex⟩ : ∃ x, t.types[kn] = x := ⟨_, rfl⟩
    have hat := HT.out kn hkl
    rw [ex] at hat
    have hpc : pcAt t k = ⟨frAt t.chs k, toAt t.chs k, x.off⟩ := by
      unfold pcAt; rw [hkn]; congr 1; simp [tyD, hkl, ex]
    have c0 := (hkp.cell (o := o + kn * 3) hb).trans hat.1
    have hqr := hkp.box _ _ _ HQ.out (.inl rfl)
    obtain ⟨q0, q1, q2⟩ := cells3 hqr
    have HQR := Lib.hid hqr
    clear hqr
    rw [hkn]
    have hknz : (kn : Int) < (t.types.length : Int) := by omega
    have HP := Lib.hid hpc
    have HJs := Lib.hid hJs
    have HKP := Lib.hid hkp
    have HKN := Lib.hid hkn
    clear hat ex hpc hJs hkp hkn hid
    by_cases hlt : k < t.chs.length
    · obtain ⟨y, ey⟩ : ∃ y, t.chs[k] = y := ⟨_, rfl⟩
      have hac := HC.out k hlt
      rw [ey] at hac
      have EY := Lib.hid ey
      have d0 := (HKP.out.cell (o := o2 + k * 2) hb2).trans hac.1
      have d1 := (HKP.out.cell (o := o2 + k * 2 + 1) hb2).trans hac.2
      have hpc2 : pcAt t k = ⟨frAt t.chs k, y.t, x.off⟩ := by
        rw [HP.out]; congr 1; simp only [toAt, tAt]; rw [if_pos hlt, List.getElem?_eq_getElem hlt, ey]; rfl
      obtain ⟨W2, hW2⟩ : ∃ W2, (wr.alloc (.cells #[.int .i64 y.t, .int .i64 y.k] 61)).drew = W2 := ⟨_, rfl⟩
      have hJ2 : J (uptoP t k) W2 := by
        rw [← hW2]
        exact HJ.out _ _ _ none (HJ.out _ _ _ none HJs.out (World.grownBy_alloc wr _ none) (fun r e => by cases e)) (grownBy_drew _) (fun r e => by cases e)
      obtain ⟨fn, tmps, assign, body, hy, hR⟩ := HY.out (uptoP t k) (pcAt t k) W2 hJ2 (by rw [uptoP_length]; omega)
      rw [hpc2] at hy hR
      dsimp only [pcV] at hy
      have hR2 := hR.mono (R' := fun e W' => ∃ bb, e = .returned (.bool bb) ∧ YOut n₀ J Jx (uptoP t k ++ [⟨frAt t.chs k, y.t, x.off⟩]) W2 bb W')
        (by
          rintro e W' (⟨rfl, h1, h2⟩ | ⟨rfl, h1⟩)
          · exact ⟨true, rfl, ⟨fun _ => ⟨h1, h2⟩, fun h => by cases h⟩⟩
          · exact ⟨false, rfl, ⟨fun h => (by cases h), fun _ => h1⟩⟩)
      have HP2 := Lib.hid hpc2
      have hW2c : W2.heap[wr.heap.size]? = some (Obj.cells #[.int .i64 y.t, .int .i64 y.k] 61 (0, 0)) := by rw [← hW2]; exact World.alloc_heap_new wr _
      have HW2c := Lib.hid hW2c
      clear hR hpc2 hW2c ey
      have z1 : Bt < wr.heap.size := by omega
      have z2 : b < wr.heap.size := World.block_lt_of_cell? _ _ c0
      have z3 : b2 < wr.heap.size := World.block_lt_of_cell? _ _ d0
      have p1 : (kn : Int) < ((t.types.length : Nat) : Int) := by omega
      subst hW2
      gi_wp2
      gi_region_with (refine hR2.mono ?_; rintro e W3 ⟨bb, rfl, h3⟩)
      all_goals
        simp only [Act.put, List.getElem_toArray, List.getElem_cons_succ, List.getElem_cons_zero, List.setIfInBounds_toArray, List.set_cons_succ, List.set_cons_zero]
        cases bb with
        | false =>
          simp only [Bool.not_false]
          gi_wp2
          refine bodyPost_ret (results_none rfl _ _ _) rfl ?_
          exact ⟨⟨_, rfl⟩, .inr ⟨_, ⟨k + 1, by rw [uptoP_succ, HP2.out]⟩, h3.no rfl⟩⟩
        | true =>
          have h4 := h3.yes rfl
          have hbc := HW2c.out
          have hbc3 := h4.2.box _ _ _ hbc (.inr rfl)
          obtain ⟨e0, e1⟩ := cells2 hbc3
          have HK4 := Lib.hid h4.2
          have HJ4 := Lib.hid h4.1
          clear h4 hbc hbc3 h3
          simp only [Bool.not_true]
          gi_wp2
          gi_quiet (fail)
          gi_wp2
          have hfr : frAt t.chs (k + 1) = y.t := by simp only [frAt, tAt]; rw [List.getElem?_eq_getElem hlt, EY.out]; rfl
          have hia : idAt t.first t.chs (k + 1) = y.k := by simp only [idAt, kAt]; rw [List.getElem?_eq_getElem hlt, EY.out]; rfl
          have hs4 : (wr.alloc (.cells #[.int .i64 y.t, .int .i64 y.k] 61)).heap.size ≤ W3.heap.size := HK4.out.size
          simp at hs4
          have hkk : KpT n₀ W W3 := HKP.out.trans (KpT.trans (KpT.of_below (((Below.refl _ _).alloc (Nat.le_refl _) _).drew) (by omega)) HK4.out)
          refine ⟨⟨k + 1, by omega, by rw [hfr], by rw [hia], by go_num, ?_, ⟨hkk.size, hkk.low, hkk.box⟩, ?_⟩, by simp [intOf]; omega⟩
          · rw [uptoP_succ, HP2.out]
            exact HJ.out _ _ _ none HJ4.out (grownBy_drewNP W3 _) (fun r e => by cases e)
          · show W.heap.size ≤ W3.heap.size
            omega
    · obtain rfl : k = t.chs.length := by omega
      have hpc2 : pcAt t t.chs.length = ⟨frAt t.chs t.chs.length, 4611686018427387903, x.off⟩ := by
        rw [HP.out]; congr 1; simp [toAt]
      obtain ⟨fn, tmps, assign, body, hy, hR⟩ := HY.out (uptoP t t.chs.length) (pcAt t t.chs.length) wr HJs.out (by rw [uptoP_length]; omega)
      rw [hpc2] at hy hR
      dsimp only [pcV] at hy
      have HP2 := Lib.hid hpc2
      have hR2 := hR.mono (R' := fun e W' => ∃ bb, e = .returned (.bool bb) ∧ YOut n₀ J Jx (uptoP t t.chs.length ++ [⟨frAt t.chs t.chs.length, 4611686018427387903, x.off⟩]) wr bb W')
        (by
          rintro e W' (⟨rfl, h1, h2⟩ | ⟨rfl, h1⟩)
          · exact ⟨true, rfl, ⟨fun _ => ⟨h1, h2⟩, fun h => by cases h⟩⟩
          · exact ⟨false, rfl, ⟨fun h => (by cases h), fun _ => h1⟩⟩)
      clear hR hpc2
      gi_wp2
      refine hR2.mono ?_
      rintro e W3 ⟨bb, rfl, h3⟩
      gi_wp2
      go_end0
      cases bb with
      | false => exact ⟨⟨_, rfl⟩, .inr ⟨_, ⟨t.chs.length + 1, by rw [uptoP_succ, HP2.out]⟩, h3.no rfl⟩⟩
      | true => exact ⟨⟨_, rfl⟩, .inl ⟨_, by rw [uptoP_succ, HP2.out], (h3.yes rfl).1⟩⟩

end Go.Proofs.YtomahddiclkepaaGreatDoor
namespace Go.Proofs.YtomahddiclkepaaGreatDoor
open Go.RowKit Go.Shelf
set_option linter.unusedVariables false
set_option linter.unusedSimpArgs false

attribute [local go_sem] Oper.semAt_some

set_option maxRecDepth 100000 in
set_option maxHeartbeats 4000000 in
theorem pieces0_in (n l Bt n₀ b o cap cap2 : Nat) (p2 : Option Addr) (t : Tab) (hm : t.chs = []) (hn : 1 ≤ n) (hb : b < n₀) (J Jx : List Pc → World → Prop)
    (hY : ∀ pre x W, J pre W → pre.length < t.chs.length + 1 → YieldAt Fence.wide (n - 1) Tryz.prog l (pcV x) W fun e W' =>
      (e = .returned (.bool true) ∧ J (pre ++ [x]) W' ∧ KpT n₀ W W') ∨ (e = .returned (.bool false) ∧ Jx (pre ++ [x]) W'))
    (W : World) (hJ : AbidesFrom W.heap.size J) (hJx : AbidesFrom W.heap.size Jx) (hq : W.heap[Bt]? = some (Obj.cells #[.slice (some ⟨b, o, none⟩) t.types.length cap, .int .i64 t.first, .slice p2 0 cap2] 58 (0, 0)))
    (hty : ∀ i (h : i < t.types.length), tyAt W b (o + i * 3) t.types[i]) (ok : OkTab t) (hn0 : n₀ ≤ W.heap.size) (h0 : J [] W) :
    CallsIn Fence.wide n Tryz.prog 109 #[.func (.yield l) #[] #[], .pointer (some ⟨Bt, 0, none⟩)] W fun e W' => (∃ v, e = .returned v) ∧
      ((∃ ys, ys = uptoP t (t.chs.length + 1) ∧ J ys W') ∨ (∃ pre, (∃ k, pre = uptoP t k) ∧ Jx pre W')) := by
  obtain ⟨hq0, hq1, hq2⟩ := cells3 hq
  refine callsIn_of_wp Tryz.func109 rfl trivial ?_ rfl
  simp only [Tryz.ntmps109, List.size_toArray, List.length_cons, List.length_nil, Nat.reduceAdd, Nat.reduceSub, Array.replicate_succ, Array.replicate_zero, List.push_toArray, List.append_toArray, List.nil_append, List.cons_append]
  gi_wp2
  gi_quiet (fail)
  gi_wp2
  have hstart : J (uptoP t 0) (W.drewN nq) := hJ _ _ _ none h0 (grownBy_drewNP W nq) (fun r e => by cases e)
  have HT := Lib.hid hty
  have HJ := Lib.hid hJ
  have HY := Lib.hid hY
  have HS := Lib.hid hstart
  have HQ := Lib.hid hq
  have hok1 := ok.many
  have hok2 := ok.chs
  have hok3 := ok.first
  have OK := Lib.hid ok
  have hBt : Bt < W.heap.size := World.block_lt_of_cell? _ _ hq0
  obtain ⟨kn, hkn⟩ := Int.eq_ofNat_of_zero_le hok3.1
  have hkl : kn < t.types.length := by omega
  obtain ⟨x, ex⟩ : ∃ x, t.types[kn] = x := ⟨_, rfl⟩
  have hat := hty kn hkl
  rw [ex] at hat
  have hpc2 : pcAt t 0 = ⟨-4611686018427387904, 4611686018427387903, x.off⟩ := by
    simp only [pcAt, frAt, toAt, idAt, hm, hkn]; congr 1; simp [tyD, hkl, ex]
  have c0 := hat.1
  have e0 : t.chs.length = 0 := by rw [hm]; rfl
  have E0 := Lib.hid e0
  have HP2 := Lib.hid hpc2
  have hknz : (kn : Int) < (t.types.length : Int) := by omega
  rw [hkn]
  clear hty hJ hJx hY hstart hq hq1 hq2 ok hm hat ex hpc2 e0 hkn
  gi_loopw [3, 4, 12] (fun s3 s4 s12 wr => s3 = .int .i64 (-4611686018427387904) ∧ s4 = .int .i64 kn ∧ s12 = .int .i64 0 ∧ wr = W.drewN nq) (fun _ _ _ _ => 0)
  case atStart => exact ⟨rfl, rfl, rfl, rfl⟩
  case round =>
    obtain ⟨rfl, rfl, rfl, rfl⟩ := hrel
    obtain ⟨fn, tmps, assign, body, hy, hR⟩ := HY.out [] (pcAt t 0) (W.drewN nq) HS.out (by rw [E0.out]; decide)
    rw [HP2.out] at hy hR
    dsimp only [pcV] at hy
    have hR2 := hR.mono (R' := fun e W' => ∃ bb, e = .returned (.bool bb) ∧ YOut n₀ J Jx ([] ++ [⟨-4611686018427387904, 4611686018427387903, x.off⟩]) (W.drewN nq) bb W')
      (by
        rintro e W' (⟨rfl, h1, h2⟩ | ⟨rfl, h1⟩)
        · exact ⟨true, rfl, ⟨fun _ => ⟨h1, h2⟩, fun h => by cases h⟩⟩
        · exact ⟨false, rfl, ⟨fun h => (by cases h), fun _ => h1⟩⟩)
    clear hR
    gi_wp2
    refine hR2.mono ?_
    rintro e W3 ⟨bb, rfl, h3⟩
    gi_wp2
    go_end0
    cases bb with
    | false => exact ⟨⟨_, rfl⟩, .inr ⟨_, ⟨1, by rw [← HP2.out]; rfl⟩, h3.no rfl⟩⟩
    | true => exact ⟨⟨_, rfl⟩, .inl ⟨_, by rw [E0.out, ← HP2.out]; rfl, (h3.yes rfl).1⟩⟩


set_option maxHeartbeats 1000000 in
/-- pieces(t): the table is boxed; the function value captures the box. -/
theorem pieces_any (a b c : Value) (w : World) :
    Calls Tryz.prog 51 #[.agg #[a, b, c]] w fun e w' => e = .returned (.func (.func 109) #[] #[.pointer (some ⟨w.heap.size, 0, none⟩)]) ∧ w.alloc (.cells #[a, b, c] 58) = w' := by
  go_enter Tryz.func51, Tryz.ntmps51
  go_wp2
  go_ret
  exact ⟨rfl, rfl⟩

theorem pieces_stops (n Bt n₀ : Nat) (t : Tab) (sv cv : Value) (hn : 1 ≤ n) (w : World) (hBt : Bt < w.heap.size) (hn₀ : n₀ ≤ w.heap.size) (w0 : World) (hw0 : w0.heap.size = n₀) (hs : SlTy w0 sv t.types) (hc : SlCh w0 cv t.chs) (hb : Below n₀ w0 w)
    (hq : w.heap[Bt]? = some (Obj.cells #[sv, .int .i64 t.first, cv] 58 (0, 0))) (ok : OkTab t) :
    SeqStopsK Fence.wide n Tryz.prog 109 #[.pointer (some ⟨Bt, 0, none⟩)] pcV (KpT n₀) (fun ys => ys = uptoP t (t.chs.length + 1)) (fun pre => ∃ k, pre = uptoP t k) (t.chs.length + 1) w := by
  intro l J Jx W hW hJ hJx hY h0
  have hq' := (hW.block Bt hBt).trans hq
  have hbW : Below n₀ w0 W := hb.trans (hW.mono hn₀)
  have hsW : n₀ ≤ W.heap.size := Nat.le_trans hn₀ hW.size
  obtain ⟨p, cap, rfl, hs1⟩ := hs.shape
  obtain ⟨b, o, rfl, hlt, hty⟩ := hs1 ok.ne
  rw [hw0] at hlt
  have hty' : ∀ i (h : i < t.types.length), tyAt W b (o + i * 3) t.types[i] := fun i h => (hty i h).mono hbW hlt
  obtain ⟨p2, cap2, rfl, hc1⟩ := hc.shape
  by_cases hm : t.chs = []
  · have e0 : t.chs.length = 0 := by rw [hm]; rfl
    rw [e0] at hq'
    exact pieces0_in n l Bt n₀ b o cap cap2 p2 t hm hn hlt J Jx hY W hJ hJx hq' hty' ok hsW h0
  · obtain ⟨b2, o2, rfl, hlt2, hch⟩ := hc1 hm
    rw [hw0] at hlt2
    exact pieces1_in n l Bt n₀ b o cap b2 o2 cap2 t hn hlt hlt2 J Jx hY W hJ hJx hq' hty' (fun i h => (hch i h).mono hbW hlt2) ok hsW h0

end Go.Proofs.YtomahddiclkepaaGreatDoor
namespace Go.Proofs.YtomahddiclkepaaGreatDoor
open Go.RowKit Go.Shelf
set_option linter.unusedVariables false
set_option linter.unusedSimpArgs false

attribute [local go_sem] Oper.semAt_some

def hit (l : Int) (x : Pc) : Bool := decide (x.a ≤ wrap64 (l - x.off) ∧ wrap64 (l - x.off) < x.b)
/-- the times found in some pieces -/
def fnd (l : Int) (ps : List Pc) : List Int := (ps.filter (hit l)).map fun x => wrap64 (l - x.off)
theorem KpT.alloc {n₀ : Nat} (W : World) (hn : n₀ ≤ W.heap.size) (o : Obj) : KpT n₀ W (W.alloc o) := KpT.of_below ((Below.refl _ W).alloc (Nat.le_refl _) o) hn

end Go.Proofs.YtomahddiclkepaaGreatDoor
namespace Go.Proofs.YtomahddiclkepaaGreatDoor
open Go.RowKit Go.Shelf
set_option linter.unusedVariables false
set_option linter.unusedSimpArgs false

theorem boundary_ex (p : Nat → Bool) : ∀ (n : Nat), (∀ a b, a ≤ b → b < n → p a = true → p b = true) → ∃ h, h ≤ n ∧ (∀ t, t < h → p t = false) ∧ (∀ t, h ≤ t → t < n → p t = true)
  | 0, _ => ⟨0, Nat.le_refl _, fun t h => absurd h (Nat.not_lt_zero _), fun t _ h => absurd h (Nat.not_lt_zero _)⟩
  | n + 1, hm => by
    obtain ⟨h, h1, h2, h3⟩ := boundary_ex p n (fun a b hab hb => hm a b hab (by omega))
    by_cases e : h = n
    · subst e
      cases hp : p h
      · refine ⟨h + 1, Nat.le_refl _, fun t ht => ?_, fun t h4 h5 => by omega⟩
        by_cases e2 : t = h
        · rw [e2]; exact hp
        · exact h2 t (by omega)
      · refine ⟨h, by omega, h2, fun t h4 h5 => ?_⟩
        obtain rfl : t = h := by omega
        exact hp
    · refine ⟨h, by omega, h2, fun t h4 h5 => ?_⟩
      by_cases e2 : t = n
      · subst e2
        exact hm h t h4 (by omega) (h3 h (Nat.le_refl _) (by omega))
      · exact h3 t h4 (by omega)

theorem tAt_in (m : List Ch) (i : Nat) (h : i < m.length) : tAt m i = m[i].t := by simp [tAt, h]

theorem cnt_mono (t : Tab) (ok : OkTab t) (y : Int) : ∀ a b, a ≤ b → b < t.chs.length → decide (y < tAt t.chs a) = true → decide (y < tAt t.chs b) = true := by
  intro a b hab hb h
  have := tAt_mono t.chs ok.rise a b hab hb
  simp only [decide_eq_true_eq] at h ⊢
  omega

theorem cntOf_eq (m : List Ch) (y : Int) (h : Nat) (hn : h ≤ m.length) (h1 : ∀ t, t < h → tAt m t ≤ y) (h2 : ∀ t, h ≤ t → t < m.length → y < tAt m t) : cntOf m y = h :=
  cntF_boundary _ _ _ hn (fun t ht => by simpa using h1 t ht) (fun t h3 h4 => by simpa using h2 t h3 h4)

theorem cntOf_spec (t : Tab) (ok : OkTab t) (y : Int) : cntOf t.chs y ≤ t.chs.length ∧ (∀ i, i < cntOf t.chs y → tAt t.chs i ≤ y) ∧ (∀ i, cntOf t.chs y ≤ i → i < t.chs.length → y < tAt t.chs i) := by
  obtain ⟨h, h1, h2, h3⟩ := boundary_ex (fun i => decide (y < tAt t.chs i)) t.chs.length (cnt_mono t ok y)
  have e : cntOf t.chs y = h := cntF_boundary _ _ _ h1 h2 h3
  rw [e]
  exact ⟨h1, fun i hi => by simpa using h2 i hi, fun i hi hl => by simpa using h3 i hi hl⟩

/-- a time lies in the piece of its number -/
theorem piece_of (t : Tab) (ok : OkTab t) (y : Int) (hy : -4611686018427387904 ≤ y) (hy2 : y < 4611686018427387903) : frAt t.chs (cntOf t.chs y) ≤ y ∧ y < toAt t.chs (cntOf t.chs y) := by
  obtain ⟨h1, h2, h3⟩ := cntOf_spec t ok y
  constructor
  · cases e : cntOf t.chs y with
    | zero => exact hy
    | succ j => exact h2 j (by omega)
  · unfold toAt
    split
    · rename_i h; exact h3 _ (Nat.le_refl _) h
    · exact hy2

theorem piece_num (t : Tab) (ok : OkTab t) (y : Int) (j : Nat) (hj : j ≤ t.chs.length) (h1 : frAt t.chs j ≤ y) (h2 : y < toAt t.chs j) : cntOf t.chs y = j := by
  refine cntOf_eq _ _ _ hj (fun i hi => ?_) (fun i hi hl => ?_)
  · cases j with
    | zero => omega
    | succ j =>
      have := tAt_mono t.chs ok.rise i j (by omega) (by omega)
      simp only [frAt] at h1
      omega
  · have := tAt_mono t.chs ok.rise j i hi hl
    unfold toAt at h2
    rw [if_pos (by omega)] at h2
    omega

theorem tyOf_piece (t : Tab) (y : Int) : tyOf t y = tyD t.types (idAt t.first t.chs (cntOf t.chs y)) := by
  unfold tyOf kOf
  cases e : cntOf t.chs y with
  | zero => rfl
  | succ j => simp [idAt]

theorem mem_uptoP (t : Tab) (k : Nat) (x : Pc) : x ∈ uptoP t k ↔ ∃ j, j < k ∧ pcAt t j = x := by
  simp [uptoP]

theorem mem_fnd (l : Int) (ps : List Pc) (y : Int) : y ∈ fnd l ps ↔ ∃ x ∈ ps, hit l x = true ∧ wrap64 (l - x.off) = y := by
  simp [fnd, and_assoc]

theorem pc_off (t : Tab) (ok : OkTab t) (j : Nat) : -75600 ≤ (pcAt t j).off ∧ (pcAt t j).off ≤ 75600 := by
  have hd : ∀ k : Int, -75600 ≤ (tyD t.types k).off ∧ (tyD t.types k).off ≤ 75600 := by
    intro k
    unfold tyD
    cases h : t.types[k.toNat]? with
    | none => simp
    | some y => have := ok.type y (List.mem_of_getElem? h); simp; omega
  exact hd _

theorem wrap_small (l o : Int) (h1 : -1099511627776 ≤ l) (h2 : l ≤ 1099511627776) (h3 : -75600 ≤ o) (h4 : o ≤ 75600) : wrap64 (l - o) = l - o :=
  IntWalk.wrap64_in _ ⟨by omega, by omega⟩

abbrev fndT (t : Tab) (l : Int) : List Int := fnd l (uptoP t (t.chs.length + 1))

/-- what is found -/
theorem mem_fndT (t : Tab) (ok : OkTab t) (l : Int) (h1 : -1099511627776 ≤ l) (h2 : l ≤ 1099511627776) (y : Int) : y ∈ fndT t l ↔ y + (tyOf t y).off = l := by
  rw [mem_fnd]
  constructor
  · rintro ⟨x, hx, hh, rfl⟩
    obtain ⟨j, hj, rfl⟩ := (mem_uptoP _ _ _).1 hx
    have ho := pc_off t ok j
    simp only [hit, decide_eq_true_eq] at hh
    rw [wrap_small l _ h1 h2 ho.1 ho.2] at hh ⊢
    have := piece_num t ok (l - (pcAt t j).off) j (by omega) hh.1 hh.2
    rw [tyOf_piece, this]
    simp only [pcAt]
    omega
  · intro h
    have ho := tyOf_off t y ok
    obtain ⟨p1, p2⟩ := piece_of t ok y (by omega) (by omega)
    have hl := (cntOf_spec t ok y).1
    have e : (pcAt t (cntOf t.chs y)).off = (tyOf t y).off := by rw [tyOf_piece]; rfl
    refine ⟨pcAt t (cntOf t.chs y), (mem_uptoP _ _ _).2 ⟨_, by omega, rfl⟩, ?_, ?_⟩
    · simp only [hit, decide_eq_true_eq]
      rw [e, wrap_small l _ h1 h2 ho.1 ho.2]
      rw [show l - (tyOf t y).off = y by omega]
      exact ⟨p1, p2⟩
    · rw [e, wrap_small l _ h1 h2 ho.1 ho.2]; omega

/-- one behind the other -/
theorem fndT_rise (t : Tab) (ok : OkTab t) (l : Int) : (fndT t l).Pairwise (fun a b => a < b) := by
  unfold fndT fnd uptoP
  rw [List.pairwise_map, List.pairwise_filter, List.pairwise_map]
  have h0 : (List.range (t.chs.length + 1)).Pairwise (fun a b => a < b ∧ b < t.chs.length + 1) := by
    rw [List.pairwise_iff_getElem]
    intro i j hi hj hij
    simp at hi hj ⊢
    omega
  refine h0.imp fun {i j} h hi hj => ?_
  simp only [hit, decide_eq_true_eq] at hi hj
  have h1 : toAt t.chs i ≤ frAt t.chs j := by
    unfold toAt
    rw [if_pos (by omega)]
    obtain ⟨j', rfl⟩ : ∃ j', j = j' + 1 := ⟨j - 1, by omega⟩
    exact tAt_mono t.chs ok.rise i j' (by omega) (by omega)
  have h2 := hi.2
  have h3 := hj.1
  simp only [pcAt] at h2 h3 ⊢
  omega

theorem tyOf_mem (t : Tab) (ok : OkTab t) (y : Int) : tyOf t y ∈ t.types := by
  rw [tyOf_piece]
  have hid : 0 ≤ idAt t.first t.chs (cntOf t.chs y) ∧ idAt t.first t.chs (cntOf t.chs y) < t.types.length := by
    have := (cntOf_spec t ok y).1
    cases e : cntOf t.chs y with
    | zero => exact ok.first
    | succ j =>
      have := ok.ch t.chs[j] (List.getElem_mem (by omega))
      simp only [idAt, kAt]
      rw [List.getElem?_eq_getElem (by omega)]
      simp; omega
  unfold tyD
  rw [List.getElem?_eq_getElem (by omega)]
  exact List.getElem_mem _

/-- no more than there are types -/
theorem fndT_many (t : Tab) (ok : OkTab t) (l : Int) (h1 : -1099511627776 ≤ l) (h2 : l ≤ 1099511627776) : (fndT t l).length ≤ t.types.length := by
  have e := length_sub ((fndT t l).map fun y => l - y) (t.types.map (·.off)) ?_ ?_
  · simpa using e
  · rw [List.nodup_iff_pairwise_ne, List.pairwise_map]
    exact (fndT_rise t ok l).imp fun h => by omega
  · intro x hx
    obtain ⟨y, hy, rfl⟩ := List.mem_map.1 hx
    rw [mem_fndT t ok l h1 h2] at hy
    exact List.mem_map.2 ⟨_, tyOf_mem t ok y, by omega⟩

end Go.Proofs.YtomahddiclkepaaGreatDoor
namespace Go.Proofs.YtomahddiclkepaaGreatDoor
open Go Go.RowKit

def noDefer (ops : Array Oper) : Bool := ops.toList.all fun o => match o.op with | .defer _ => false | _ => true
theorem noDefer_get {ops : Array Oper} (h : noDefer ops = true) {i : Nat} {o : Oper} (hi : ops[i]? = some o) : ∀ c, o.op ≠ .defer c := by
  intro c hc
  have hm : o ∈ ops.toList := by
    rw [← Array.getElem?_toList] at hi
    exact List.mem_of_getElem? hi
  have := List.all_eq_true.1 h o hm
  rw [hc] at this
  cases this

section
variable {F : Fence} {n : Nat} {P : Program} {ops : Array Oper} {md : Region.Mode} {C : World → Prop}

theorem wpIn_of_quietR {o : Oper} {a : Act} {K : Act → Prop} {K' : Act → World → Prop} {Q' : Exit → Act → World → Prop} {w : World} (hnd : ∀ c, o.op ≠ .defer c) (hw : C w) (h : ∀ a w', C w' → K a → K' a w')
    (ha : o.askedIn F P a C) (hh : o.quietIn F n P a C K) : o.wpIn F n P a w K' Q' := by
  obtain ⟨v, h1, h2⟩ := hh
  have h3 := h1 w hw
  unfold Oper.quietAtIn at h3
  unfold Oper.wpIn
  refine ⟨ha w hw, ?_⟩
  rw [Oper.semAt_eq _ _ _ hnd]
  generalize (execOp a.eval o).run P w = r at *
  cases r with
  | ok x w' =>
    cases x <;> simp only [Oper.quietUponIn] at h3 <;> simp only [Oper.uponIn]
    case value u =>
      obtain ⟨e1, e2⟩ := h3
      rw [e1, e2]
      exact h _ _ hw h2
    case skip =>
      obtain ⟨e1, e2⟩ := h3
      rw [e1, ← e2]
      exact h _ _ hw h2
    case enter f args =>
      obtain ⟨e1, hd, hc⟩ := h3
      rw [e1]
      exact ⟨hd, hc.mono fun e w'' ⟨he, hw''⟩ => by subst he; exact h _ _ hw'' h2⟩
  | halt x w' => simp only [Oper.quietUponIn] at h3

theorem wpOpIn_of_qOpInR {i : Nat} {a : Act} {K : Act → Prop} {K' : Act → World → Prop} {Q' : Exit → Act → World → Prop} {w : World} (hnd : noDefer ops = true) (hC : C w) (h : ∀ a w', C w' → K a → K' a w')
    (hh : qOpIn F n P ops C i K a) : wpOpIn F n P ops Q' i K' a w := by
  unfold qOpIn at hh
  unfold wpOpIn
  split
  · rename_i ho; simp only [ho] at hh; exact h _ _ hC hh
  · rename_i o ho
    simp only [ho] at hh
    obtain ⟨ha, hh⟩ := hh
    split
    · rename_i hw; simp only [hw, if_true] at hh; exact wpIn_of_quietR (noDefer_get hnd ho) hC h ha hh
    · rename_i hw; simp only [hw] at hh; exact ⟨ha w hC, h _ _ hC hh⟩

theorem wpAnyIn_of_quietR {Q : Act → Prop} {Q' : Exit → Act → World → Prop} (hnd : noDefer ops = true) (hQ : ∀ a w, C w → Q a → Q' .normal a w) : ∀ (fuel : Nat) (listed : Array Bool) (a : Act) (w : World), C w →
    wpAnyQIn F n P md ops C Q fuel listed a → wpAnyIn F n P md ops Q' fuel listed a w
  | 0, _, _, _, hw, h => ⟨h.1, hQ _ _ hw h.2⟩
  | fuel + 1, _, _, _, hw, h => ⟨fun h0 => hQ _ _ hw (h.1 h0), fun i hi => wpOpIn_of_qOpInR hnd hw (fun a' w' hw' => wpAnyIn_of_quietR hnd hQ fuel _ a' w' hw') (h.2 i hi)⟩

theorem wpIn_region_quietR {id : Nat} {Q : Exit → Act → World → Prop} {a : Act} {w : World} (hnd : noDefer ops = true) (hm : P.follows .mixedOrders = true) (hB : Region.lexB .any ops = true) (hC : C { w with drawn := w.drawn + 1 })
    (h : wpQuietIn F n P ops C (fun a' => ∀ w', C w' → Q .normal a' w') ops.toList a) : (Code.region id ops true).wpIn F n P Q a w := by
  simp only [Region.lexB, Bool.and_eq_true] at hB
  refine wpIn_region_any hm (wpAnyIn_of_quietR (Q := fun a' => ∀ w', C w' → Q .normal a' w') hnd (fun _ w' hw' h => h w' hw') _ _ _ _ hC ?_)
  have := wpAnyQIn_lex (F := F) (n := n) (C := C) (md := .any) hB.1 ops.toList 0 (Array.replicate ops.size false) a (by simp) (by simpa using hB.2) h
  simpa using this

theorem wpIn_region_quietR_lit {id : Nat} {Q : Exit → Act → World → Prop} {a : Act} {w : World} {l : List Oper} (hnd : noDefer l.toArray = true) (hm : P.follows .mixedOrders = true) (hB : Region.lexB .any l.toArray = true)
    (h : wpQuietIn F n P l.toArray (fun w' => ∃ n, w' = w.drewN n) (fun a' => ∀ w', (∃ n, w' = w.drewN n) → Q .normal a' w') l a) : (Code.region id l.toArray true).wpIn F n P Q a w :=
  wpIn_region_quietR (C := fun w' => ∃ n, w' = w.drewN n) hnd hm hB ⟨1, rfl⟩ (by simpa using h)
end

end Go.Proofs.YtomahddiclkepaaGreatDoor
namespace Go.Proofs.YtomahddiclkepaaGreatDoor
open Go.RowKit Go.Shelf
set_option linter.unusedVariables false
set_option linter.unusedSimpArgs false

attribute [local go_sem] Oper.semAt_some

def lngStep (d : Int) (m : Int) (x : Pc) : Int := wrap64 (m + max 0 (wrap64 (min x.b (wrap64 (86400 * (d + 1) - x.off)) - max x.a (wrap64 (86400 * d - x.off)))))
def lng (d : Int) (ps : List Pc) : Int := ps.foldl (lngStep d) 0
theorem lng_snoc (d : Int) (pre : List Pc) (x : Pc) : lng d (pre ++ [x]) = lngStep d (lng d pre) x := by simp [lng]

theorem KpT.setBox {W : World} {n₀ B : Nat} {t : TypeId} {v : Value} (hv : Boxed W B t v) (hB : n₀ ≤ B) (h1 : t ≠ 58) (h2 : t ≠ 61) (u : Value) : KpT n₀ W (W.setCell ⟨B, 0, none⟩ u) := by
  have hb : Below n₀ W (W.setCell ⟨B, 0, none⟩ u) := (Below.refl _ W).setCell (p := ⟨B, 0, none⟩) hB u
  refine ⟨hb.size, fun k hk => hb.block k hk, fun k cs T hk hT => ?_⟩
  have hkB : k ≠ B := by
    rintro rfl
    have := (show W.heap[k]? = _ from hv).symm.trans hk
    simp only [Option.some.injEq, Obj.cells.injEq] at this
    obtain ⟨_, rfl, _⟩ := this
    rcases hT with h | h
    · exact h1 h
    · exact h2 h
  rw [Below.heap_setCell _ _ _ k hkB]
  exact hk

set_option maxRecDepth 100000 in
set_option maxHeartbeats 4000000 in
theorem Long_ok (t : Tab) (v : Value) (d : Int) (w : World) (hv : TabAt w v t) (h0 : chk t = 0) (hx1 : -10000000 ≤ d) (hx2 : d ≤ 10000000) :
    Calls Tryz.prog 21 #[v, .int .i64 d] w fun e w' => e = .returned (.tuple #[.int .i64 (lng d (uptoP t (t.chs.length + 1))), .int .i64 0]) ∧ Below w.heap.size w w' := by
  have ok := chk_ok t h0
  obtain ⟨sv, cv, rfl, hs, hc⟩ := hv.val
  obtain ⟨W0, hW0⟩ : ∃ W0, w.alloc (.cells #[sv, .int .i64 t.first, cv] 58) = W0 := ⟨_, rfl⟩
  obtain ⟨hB, hS, q0, q1, q2⟩ := box3 hW0
  have hB2 : Below w.heap.size w (W0.alloc (.cells #[.int .i64 d] 3)) := hB.alloc (by omega) _
  have HCC := Lib.hid (Check_any t _ _ (hv.below hB2))
  have HH := Lib.hid h0
  have HW0 := Lib.hid hW0
  have HS := Lib.hid hS
  have HB2 := Lib.hid hB2
  have HVS := Lib.hid hs
  have HVC := Lib.hid hc
  have OK := Lib.hid ok
  clear hv h0 hW0 hS hB hs hc ok hB2
  refine (callsIn_wide (n := 4)).1 ?_
  refine callsIn_of_wp_marks Tryz.func21 rfl trivial ?_ rfl
  simp only [Tryz.ntmps21, List.size_toArray, List.length_cons, List.length_nil, Nat.reduceAdd, Nat.reduceSub, Array.replicate_succ, Array.replicate_zero, List.push_toArray, List.append_toArray, List.nil_append, List.cons_append]
  gi_wp2
  refine ⟨trivial, ?_⟩
  rw [HW0.out]
  refine (callsIn_wide.2 HCC.out).mono ?_
  rw [HH.out]
  rintro e w1 ⟨rfl, hb1⟩
  have hs2 : (W0.alloc (.cells #[.int .i64 d] 3)).heap.size = w.heap.size + 2 := by have := HS.out; simp; omega
  rw [hs2] at hb1
  have hsz1 := hb1.size
  rw [hs2] at hsz1
  have c0 := (hb1.cell (p := ⟨w.heap.size, 0, none⟩) (by show w.heap.size < _; omega)).trans ((World.cell?_alloc_lt W0 _ _ (by show w.heap.size < _; have := HS.out; omega)).trans q0)
  have c1 := (hb1.cell (p := ⟨w.heap.size, 1, none⟩) (by show w.heap.size < _; omega)).trans ((World.cell?_alloc_lt W0 _ _ (by show w.heap.size < _; have := HS.out; omega)).trans q1)
  have c2 := (hb1.cell (p := ⟨w.heap.size, 2, none⟩) (by show w.heap.size < _; omega)).trans ((World.cell?_alloc_lt W0 _ _ (by show w.heap.size < _; have := HS.out; omega)).trans q2)
  have hl0 : w.heap.size < w1.heap.size := by omega
  have hl1 : w.heap.size + 1 < w1.heap.size := by omega
  have bL : Boxed w1 (w.heap.size + 1) 3 (.int .i64 d) := by
    have e1 : w1.heap[w.heap.size + 1]? = (W0.alloc (.cells #[.int .i64 d] 3)).heap[w.heap.size + 1]? := hb1.block _ (by omega)
    have e2 := World.alloc_heap_new W0 (.cells #[.int .i64 d] 3)
    rw [HS.out] at e2
    exact e1.trans e2
  have cL := bL.cell
  gi_wp2
  refine ⟨trivial, ?_⟩
  refine (callsIn_wide.2 (pieces_any _ _ _ _)).mono ?_
  rintro e w2 ⟨rfl, hw2⟩
  rw [World.size_alloc]
  have bO : Boxed w2 w1.heap.size 3 (.int .i64 0) := by rw [← hw2]; exact (Boxed.new w1 _ _).alloc _
  have bL2 : Boxed w2 (w.heap.size + 1) 3 (.int .i64 d) := by rw [← hw2]; exact (bL.alloc _).alloc _
  have hq : w2.heap[w1.heap.size + 1]? = some (Obj.cells #[sv, .int .i64 t.first, cv] 58 (0, 0)) := by
    have e2 := World.alloc_heap_new (w1.alloc (.cells #[.int .i64 0] 3)) (.cells #[sv, .int .i64 t.first, cv] 58)
    rw [World.size_alloc, hw2] at e2
    exact e2
  have hb2 : Below w.heap.size w w2 := by
    rw [← hw2]
    exact ((HB2.out.trans (hb1.mono (by omega))).alloc (by omega) _).alloc (by simp; omega) _
  have hsz2 : w2.heap.size = w1.heap.size + 2 := by rw [← hw2]; simp
  have hl2 : w1.heap.size < w2.heap.size := by omega
  have OKK := OK.out
  gi_wp2
  clear hw2 hb1 hs2 q0 q1 q2 c0 c1 c2 bL HCC HW0 HB2 HH cL
  refine wpIn_rangeFunc_ownH rfl (by decide) (gf := 109) (lb := #[.pointer (some ⟨w1.heap.size + 1, 0, none⟩)]) rfl trivial (enters_of Tryz.func109 (by kernel_rfl) rfl)
    (pieces_stops 3 (w1.heap.size + 1) w.heap.size t sv cv (by decide) w2 (by omega) (by omega) w rfl HVS.out HVC.out hb2 hq OKK)
    (fun h k => h.trans k) (fun W l o o' h1 h2 h3 _ => KpT.putObj W l o o' (by omega) h2 h3) (Below.refl _ _) (fun _ => rfl)
    (fun pre W => Boxed W w1.heap.size 3 (.int .i64 (lng d pre)) ∧ Below w1.heap.size w2 W)
    (fun _ _ _ => False)
    (OwnFrom.and (Own.from (boxed_own w1.heap.size 3 (fun pre => Value.int .i64 (lng d pre))) _) (ownFrom_below (by omega) (by omega)))
    (fun _ _ _ _ _ hs _ _ => hs)
    ⟨bO, Below.refl _ _⟩
    (fun x a' W => ∃ Bx, w1.heap.size < Bx ∧ W.heap[Bx]? = some (Obj.cells #[.int .i64 x.a, .int .i64 x.b] 68 (0, 0)) ∧ a' = { tmps := #[.agg #[sv, .int .i64 t.first, cv], .int .i64 d, .pointer (some ⟨w.heap.size, 0, none⟩), .pointer (some ⟨w.heap.size + 1, 0, none⟩), .int .i64 0, .int .i64 0, .int .i64 0, .pointer (some ⟨w1.heap.size, 0, none⟩), .pointer (some ⟨Bx, 0, none⟩), .int .i64 x.off, undef, undef, .agg #[sv, .int .i64 t.first, cv], .int .i64 0, .int .i64 0, .bool false, undef, .int .i64 d, .bool (decide (d < -10000000)), .bool (decide (d < -10000000)), .int .i64 d, .bool (decide (10000000 < d)), .bool (decide (d < -10000000) || decide (10000000 < d)), .agg #[sv, .int .i64 t.first, cv], .func (.func 109) #[] #[.pointer (some ⟨w1.heap.size + 1, 0, none⟩)], .agg #[.int .i64 x.a, .int .i64 x.b], .int .i64 x.off, undef, undef, undef, undef, undef, undef, undef, undef, undef, undef, undef, undef, undef, undef, undef, undef, undef, undef, undef, undef, undef, undef], defers := [] })
    ?_ ?assign ?body ?done ?stop
  · intro x a' _ X Y row hs hg hr
    obtain ⟨Bx, h1, h2, h3⟩ := hs
    refine ⟨Bx, h1, (hg.block Bx (Array.getElem?_eq_some_iff.1 h2).1 (fun e' => ?_)).trans h2, h3⟩
    obtain ⟨_, o, ho, hcx⟩ := hr Bx e'.symm
    rw [h2] at ho; cases ho; cases hcx
  case assign =>
    rintro l' pre x W K ⟨hv, hB1⟩ hK
    have hszW := hB1.size
    gi_wp2
    exact hK _ _ ((KeepsOthers.alloc _ _).from _) (KpT.alloc W (by omega) _) ⟨hv.alloc _, hB1.alloc (by omega) _⟩ ⟨W.heap.size, hv.lt, World.alloc_heap_new _ _, rfl⟩
  case body =>
    rintro l' pre x a' W hl _ ⟨hv, hB1⟩ ⟨Bx, hBx, hX, rfl⟩ hlt
    have hszW := hB1.size
    have cO := hv.cell
    have fO := hv.frozen
    have cL : W.cell? ⟨w.heap.size + 1, 0, none⟩ = some (.int .i64 d) := (hB1.cell (p := ⟨w.heap.size + 1, 0, none⟩) hl1).trans bL2.cell
    obtain ⟨cX0, cX1⟩ := cells2 hX
    have hBxlt : Bx < W.heap.size := (Array.getElem?_eq_some_iff.1 hX).1
    have hlW : w.heap.size + 1 < W.heap.size := by omega
    have hoW := hv.lt
    have hn := lng_snoc d pre x
    unfold lngStep at hn
    obtain ⟨M, eM⟩ : ∃ M, lng d pre = M := ⟨_, rfl⟩
    obtain ⟨M', eM'⟩ : ∃ M', lng d (pre ++ [x]) = M' := ⟨_, rfl⟩
    rw [eM, eM'] at hn
    rw [eM] at cO
    have HN := Lib.hid hn
    have EM := Lib.hid eM
    have EM' := Lib.hid eM'
    clear hX hn eM eM'
    gi_wp2
    refine wpIn_region_quietR_lit (by kernel_rfl) (by kernel_rfl) (by kernel_rfl) ?_
    repeat (gi_big_quiet_step (fail))
    refine wpQuietIn_nil ?_
    rintro _ ⟨nq, rfl⟩
    gi_wp2
    have hv1 : Boxed (W.drewN nq) w1.heap.size 3 (.int .i64 (lng d pre)) := hv
    have hk1 : KpT w.heap.size W (W.drewN nq) := ⟨Nat.le_refl _, fun _ _ => rfl, fun _ _ _ h _ => h⟩
    have hb1 : Below w1.heap.size w2 (W.drewN nq) := below_drewN' hB1 nq
    have hkf : KeepsFrom w2.heap.size W (W.drewN nq) := (KeepsOthers.of_grownBy (grownBy_drewNP W nq) (fun r _ e _ => by cases e)).from _
    exact ⟨hkf.trans ((KeepsOthers.setCell _ _ _).from _), hk1.trans (KpT.setBox hv1 (by omega) (by decide) (by decide) _), ⟨by rw [EM'.out, HN.out]; exact hv1.set _, hb1.setCell (p := ⟨w1.heap.size, 0, none⟩) (Nat.le_refl _) _⟩⟩
  case done =>
    rintro D ys W hD rfl ⟨hv, hB1⟩ hK
    have hc := hv.cell
    have hszW := hB1.size
    gi_wp2
    refine ⟨by simp, .inl ⟨_, _, rfl, run_takeDeferred hK, ?_⟩⟩
    exact ⟨_, results_tmp2 rfl _ _ _, rfl, hb2.trans ((hB1.mono (by omega)).trans (belowK_b (w := w) (Nat.le_refl _) W D _ _ (by omega) hK rfl rfl))⟩
  case stop =>
    rintro D c pre W _ _ h _
    exact h.elim

end Go.Proofs.YtomahddiclkepaaGreatDoor
namespace Go.Proofs.YtomahddiclkepaaGreatDoor
open Go.RowKit Go.Shelf
set_option linter.unusedVariables false
set_option linter.unusedSimpArgs false

/-- how much of [l, h) lies in [a, b) -/
def seg (a b l h : Int) : Int := max 0 (min b h - max a l)
theorem seg_nonneg (a b l h : Int) : 0 ≤ seg a b l h := by unfold seg; omega
theorem seg_join (a b l m h : Int) (h1 : l ≤ m) (h2 : m ≤ h) : seg a b l m + seg a b m h = seg a b l h := by unfold seg; omega
theorem seg_le (a b l h : Int) (h1 : l ≤ h) : seg a b l h ≤ h - l := by unfold seg; omega

/-- what a piece gives to the days from 'l' on, to 'h' -/
def give (l h : Int) (x : Pc) : Int := seg x.a x.b (l - x.off) (h - x.off)
def giveAll (l h : Int) (ps : List Pc) : Int := (ps.map (give l h)).sum

/-- a piece of a table is not far off -/
structure PcOk (x : Pc) : Prop where
  o1 : -75600 ≤ x.off
  o2 : x.off ≤ 75600
  a1 : -4611686018427387904 ≤ x.a
  a2 : x.a ≤ 1099511627776
  b1 : -1099511627776 ≤ x.b
  b2 : x.b ≤ 4611686018427387903

theorem pcAt_ok (t : Tab) (ok : OkTab t) (j : Nat) (hj : j ≤ t.chs.length) : PcOk (pcAt t j) := by
  have hch : ∀ i, i < t.chs.length → -1099511627776 ≤ tAt t.chs i ∧ tAt t.chs i ≤ 1099511627776 := fun i hi => by
    rw [tAt_in _ _ hi]
    have := ok.ch _ (List.getElem_mem hi)
    omega
  have ho := pc_off t ok j
  refine ⟨ho.1, ho.2, ?_, ?_, ?_, ?_⟩
  · cases j with
    | zero => simp [pcAt, frAt]
    | succ j => have := hch j (by omega); simp only [pcAt, frAt]; omega
  · cases j with
    | zero => simp [pcAt, frAt]
    | succ j => have := hch j (by omega); simp only [pcAt, frAt]; omega
  · simp only [pcAt, toAt]; split
    · have := hch j (by omega); omega
    · omega
  · simp only [pcAt, toAt]; split
    · have := hch j (by omega); omega
    · omega

theorem uptoP_ok (t : Tab) (ok : OkTab t) : ∀ x ∈ uptoP t (t.chs.length + 1), PcOk x := by
  intro x hx
  obtain ⟨j, hj, rfl⟩ := (mem_uptoP _ _ _).1 hx
  exact pcAt_ok t ok j (by omega)

theorem give_le (l h : Int) (x : Pc) (hl : l ≤ h) : give l h x ≤ h - l := by
  unfold give
  have := seg_le x.a x.b (l - x.off) (h - x.off) (by omega)
  omega

theorem giveAll_bound (l h : Int) (hl : l ≤ h) : ∀ (ps : List Pc), 0 ≤ giveAll l h ps ∧ giveAll l h ps ≤ (h - l) * ps.length
  | [] => by simp [giveAll]
  | x :: ps => by
    have ih := giveAll_bound l h hl ps
    have h1 := give_le l h x hl
    have h2 : 0 ≤ give l h x := seg_nonneg _ _ _ _
    have e : giveAll l h (x :: ps) = give l h x + giveAll l h ps := by simp [giveAll]
    have e2 : (h - l) * ((x :: ps).length : Int) = (h - l) * (ps.length : Int) + (h - l) := by
      rw [List.length_cons, Int.natCast_add, Int.mul_add]; simp
    rw [e, e2]
    omega

theorem lngStep_in (d m : Int) (x : Pc) (hx : PcOk x) (h1 : -10000000 ≤ d) (h2 : d ≤ 10000000) (h3 : 0 ≤ m) (h4 : m ≤ 1000000000000) : lngStep d m x = m + give (86400 * d) (86400 * (d + 1)) x := by
  obtain ⟨o1, o2, a1, a2, b1, b2⟩ := hx
  have e1 : wrap64 (86400 * (d + 1) - x.off) = 86400 * (d + 1) - x.off := IntWalk.wrap64_in _ ⟨by omega, by omega⟩
  have e2 : wrap64 (86400 * d - x.off) = 86400 * d - x.off := IntWalk.wrap64_in _ ⟨by omega, by omega⟩
  unfold lngStep
  rw [e1, e2]
  have e3 : wrap64 (min x.b (86400 * (d + 1) - x.off) - max x.a (86400 * d - x.off)) = min x.b (86400 * (d + 1) - x.off) - max x.a (86400 * d - x.off) := IntWalk.wrap64_in _ ⟨by omega, by omega⟩
  rw [e3]
  have e4 : max 0 (min x.b (86400 * (d + 1) - x.off) - max x.a (86400 * d - x.off)) = give (86400 * d) (86400 * (d + 1)) x := rfl
  have e5 := give_le (86400 * d) (86400 * (d + 1)) x (by omega)
  have e6 : 0 ≤ give (86400 * d) (86400 * (d + 1)) x := seg_nonneg _ _ _ _
  rw [e4]
  exact IntWalk.wrap64_in _ ⟨by omega, by omega⟩

theorem foldl_lng (d : Int) (h1 : -10000000 ≤ d) (h2 : d ≤ 10000000) : ∀ (ps : List Pc) (m : Int), (∀ x ∈ ps, PcOk x) → 0 ≤ m → m + 86400 * ps.length ≤ 1000000000000 → ps.foldl (lngStep d) m = m + giveAll (86400 * d) (86400 * (d + 1)) ps
  | [], m, _, _, _ => by simp [giveAll]
  | x :: ps, m, hx, hm, hb => by
    have e5 := give_le (86400 * d) (86400 * (d + 1)) x (by omega)
    have e6 : 0 ≤ give (86400 * d) (86400 * (d + 1)) x := seg_nonneg _ _ _ _
    rw [List.length_cons] at hb
    rw [List.foldl_cons, lngStep_in d m x (hx x (by simp)) h1 h2 hm (by omega), foldl_lng d h1 h2 ps _ (fun y hy => hx y (by simp [hy])) (by omega) (by omega)]
    simp [giveAll]; omega

abbrev lngT (t : Tab) (d : Int) : Int := lng d (uptoP t (t.chs.length + 1))

theorem lngT_eq (t : Tab) (ok : OkTab t) (d : Int) (h1 : -10000000 ≤ d) (h2 : d ≤ 10000000) : lngT t d = giveAll (86400 * d) (86400 * (d + 1)) (uptoP t (t.chs.length + 1)) := by
  have := ok.chs
  have e := foldl_lng d h1 h2 (uptoP t (t.chs.length + 1)) 0 (uptoP_ok t ok) (Int.le_refl _) (by rw [uptoP_length]; omega)
  show lng d _ = _
  unfold lng
  rw [e]; omega

theorem giveAll_join (l m h : Int) (h1 : l ≤ m) (h2 : m ≤ h) : ∀ (ps : List Pc), giveAll l m ps + giveAll m h ps = giveAll l h ps
  | [] => by simp [giveAll]
  | x :: ps => by
    have ih := giveAll_join l m h h1 h2 ps
    have e : give l m x + give m h x = give l h x := seg_join _ _ _ _ _ (by omega) (by omega)
    simp only [giveAll, List.map_cons, List.sum_cons] at ih ⊢
    omega


def inB (a b l : Int) (i : Nat) : Bool := decide (a ≤ l + i ∧ l + i < b)
theorem seg_count (a b l : Int) : ∀ n : Nat, ((List.range n).countP (inB a b l) : Int) = seg a b l (l + n)
  | 0 => by simp [seg]; omega
  | n + 1 => by
    rw [List.range_succ, List.countP_append, List.countP_singleton]
    have ih := seg_count a b l n
    have e := seg_join a b l (l + n) (l + (n + 1 : Nat)) (by omega) (by omega)
    cases c : inB a b l n
    · have c2 : ¬ (a ≤ l + (n : Nat) ∧ l + (n : Nat) < b) := by simpa [inB] using c
      have : seg a b (l + n) (l + (n + 1 : Nat)) = 0 := by unfold seg; omega
      simp only [Bool.false_eq_true, if_false]
      omega
    · have c2 : a ≤ l + (n : Nat) ∧ l + (n : Nat) < b := by simpa [inB] using c
      have : seg a b (l + n) (l + (n + 1 : Nat)) = 1 := by unfold seg; omega
      simp only [if_true]
      omega

theorem count_swap {α β : Type} (P : α → β → Bool) : ∀ (xs : List α) (ys : List β), (xs.map fun x => ((ys.countP (P x) : Nat) : Int)).sum = (ys.map fun y => ((xs.countP (fun x => P x y) : Nat) : Int)).sum
  | [], ys => by
    have : (ys.map fun _ => (0 : Int)).sum = 0 := by
      induction ys with
      | nil => rfl
      | cons y ys ih => simp [ih]
    simpa using this.symm
  | x :: xs, ys => by
    have ih := count_swap P xs ys
    rw [List.map_cons, List.sum_cons, ih]
    clear ih
    induction ys with
    | nil => simp
    | cons y ys ih =>
      simp only [List.map_cons, List.sum_cons, List.countP_cons] at ih ⊢
      generalize (List.map (fun y => ((List.countP (fun x => P x y) xs : Nat) : Int)) ys).sum = A at ih ⊢
      generalize (List.map (fun y => ((List.countP (fun x => P x y) xs + if P x y = true then 1 else 0 : Nat) : Int)) ys).sum = B at ih ⊢
      split <;> omega

/-- a day is not longer than as many days as there are types -/
theorem lngT_le (t : Tab) (ok : OkTab t) (d : Int) (h1 : -10000000 ≤ d) (h2 : d ≤ 10000000) : 0 ≤ lngT t d ∧ lngT t d ≤ 86400 * t.types.length := by
  rw [lngT_eq t ok d h1 h2]
  refine ⟨(giveAll_bound _ _ (by omega) _).1, ?_⟩
  have e1 : giveAll (86400 * d) (86400 * (d + 1)) (uptoP t (t.chs.length + 1)) = ((uptoP t (t.chs.length + 1)).map fun x => (((List.range 86400).countP (fun i : Nat => hit (86400 * d + i) x) : Nat) : Int)).sum := by
    unfold giveAll
    congr 1
    refine List.map_congr_left fun x hx => ?_
    obtain ⟨o1, o2, _⟩ := uptoP_ok t ok x hx
    have hc : (List.range 86400).countP (fun i : Nat => hit (86400 * d + i) x) = (List.range 86400).countP (inB x.a x.b (86400 * d - x.off)) := by
      refine List.countP_congr fun i hi => ?_
      have hi' := List.mem_range.1 hi
      simp only [hit, inB]
      rw [wrap_small _ _ (by omega) (by omega) o1 o2]
      rw [show 86400 * d + (i : Int) - x.off = 86400 * d - x.off + i by omega]
    rw [hc, seg_count]
    unfold give
    rw [show (86400 * (d + 1) - x.off : Int) = 86400 * d - x.off + (86400 : Nat) by omega]
  rw [e1, count_swap (fun (x : Pc) (i : Nat) => hit (86400 * d + i) x)]
  have e2 : ∀ i ∈ List.range 86400, (((uptoP t (t.chs.length + 1)).countP (fun x => hit (86400 * d + (i : Nat)) x) : Nat) : Int) ≤ t.types.length := by
    intro i hi
    have hi' := List.mem_range.1 hi
    have := fndT_many t ok (86400 * d + i) (by omega) (by omega)
    have e : (fndT t (86400 * d + i)).length = (uptoP t (t.chs.length + 1)).countP (fun x => hit (86400 * d + (i : Nat)) x) := by
      simp only [fndT, fnd, List.length_map]
      rw [← List.countP_eq_length_filter]
    omega
  have e3 : ∀ (l : List Nat) (f : Nat → Int) (c : Int), (∀ i ∈ l, f i ≤ c) → (l.map f).sum ≤ l.length * c := by
    intro l f c
    induction l with
    | nil => intro _; simp
    | cons i l ih =>
      intro h
      have := ih fun j hj => h j (by simp [hj])
      have := h i (by simp)
      have : ((i :: l).length : Int) * c = l.length * c + c := by
        rw [List.length_cons, Int.natCast_add, Int.add_mul]; simp
      rw [List.map_cons, List.sum_cons]; omega
  have := e3 (List.range 86400) _ _ e2
  rw [List.length_range] at this
  exact this

end Go.Proofs.YtomahddiclkepaaGreatDoor
namespace Go.Proofs.YtomahddiclkepaaGreatDoor
open Go.RowKit Go.Shelf
set_option linter.unusedVariables false
set_option linter.unusedSimpArgs false

/-- the first and the last change, 0 if there is none -/
def lowT (m : List Ch) : Int := tAt m 0
def highT (m : List Ch) : Int := tAt m (m.length - 1)
theorem give0 {t : Tab} (ok : OkTab t) {L H : Int} (h1 : L ≤ lowT t.chs - 100000) (h2 : highT t.chs + 100000 ≤ H) (b1 : -2199023255552 ≤ L) (b2 : H ≤ 2199023255552) (hlh : L ≤ H - 200000) :
    ∀ k, k ≤ t.chs.length → giveAll L H (uptoP t (k + 1)) = (if k < t.chs.length then tAt t.chs k else H - (pcAt t k).off) - (L - (pcAt t 0).off)
  | 0, _ => by
    have e : giveAll L H (uptoP t (0 + 1)) = give L H (pcAt t 0) := by simp [giveAll, uptoP]
    have ho := pc_off t ok 0
    rw [e]
    unfold give seg
    have ea : (pcAt t 0).a = -4611686018427387904 := rfl
    have eb : (pcAt t 0).b = toAt t.chs 0 := rfl
    rw [ea, eb]
    unfold toAt
    by_cases g : 0 < t.chs.length
    · rw [if_pos g, if_pos g]
      have hm := tAt_mono t.chs ok.rise 0 (t.chs.length - 1) (Nat.zero_le _) (by omega)
      unfold lowT at h1
      unfold highT at h2
      omega
    · rw [if_neg g, if_neg g]
      omega
  | k + 1, hk => by
    have ih := give0 ok h1 h2 b1 b2 hlh k (by omega)
    have hlt : k < t.chs.length := by omega
    rw [if_pos hlt] at ih
    have e : giveAll L H (uptoP t (k + 1 + 1)) = giveAll L H (uptoP t (k + 1)) + give L H (pcAt t (k + 1)) := by rw [uptoP_succ t (k + 1)]; simp [giveAll]
    have ho := pc_off t ok (k + 1)
    rw [e, ih]
    unfold give seg
    have ea : (pcAt t (k + 1)).a = tAt t.chs k := rfl
    have eb : (pcAt t (k + 1)).b = toAt t.chs (k + 1) := rfl
    rw [ea, eb]
    unfold toAt
    have m0 := tAt_mono t.chs ok.rise 0 k (Nat.zero_le _) hlt
    have m1 := tAt_mono t.chs ok.rise k (t.chs.length - 1) (by omega) (by omega)
    unfold lowT at h1
    unfold highT at h2
    by_cases g : k + 1 < t.chs.length
    · rw [if_pos g, if_pos g]
      have m2 := tAt_mono t.chs ok.rise k (k + 1) (by omega) g
      have m3 := tAt_mono t.chs ok.rise (k + 1) (t.chs.length - 1) (by omega) (by omega)
      omega
    · rw [if_neg g, if_neg g]
      omega
theorem off_low {t : Tab} (ok : OkTab t) {y : Int} (h : t.chs = [] ∨ y < lowT t.chs) : (tyOf t y).off = (pcAt t 0).off := by
  have e : cntOf t.chs y = 0 := cntOf_eq _ _ _ (Nat.zero_le _) (fun i hi => absurd hi (Nat.not_lt_zero _)) fun i _ hi => by
    rcases h with h | h
    · rw [h] at hi; exact absurd hi (Nat.not_lt_zero _)
    · have := tAt_mono t.chs ok.rise 0 i (Nat.zero_le _) hi
      unfold lowT at h
      omega
  rw [tyOf_piece, e]
  rfl
theorem off_high {t : Tab} (ok : OkTab t) {y : Int} (h : t.chs = [] ∨ highT t.chs ≤ y) : (tyOf t y).off = (pcAt t t.chs.length).off := by
  have e : cntOf t.chs y = t.chs.length := cntOf_eq _ _ _ (Nat.le_refl _) (fun i hi => by
    rcases h with h | h
    · rw [h] at hi; exact absurd hi (Nat.not_lt_zero _)
    · have := tAt_mono t.chs ok.rise i (t.chs.length - 1) (by omega) (by omega)
      unfold highT at h
      omega) fun i h1 h2 => absurd h2 (by omega)
  rw [tyOf_piece, e]
  rfl
theorem low_nil {m : List Ch} (h : m = []) : lowT m = 0 ∧ highT m = 0 := by subst h; exact ⟨rfl, rfl⟩
/-- the days' seconds up to a day -/
def sumD (t : Tab) (a n : Int) : Int := giveAll (86400 * a) (86400 * n) (uptoP t (t.chs.length + 1))
theorem sumD_0 (t : Tab) (a : Int) : sumD t a a = 0 := by
  unfold sumD
  have h : ∀ ps : List Pc, giveAll (86400 * a) (86400 * a) ps = 0 := by
    intro ps
    have := giveAll_bound (86400 * a) (86400 * a) (Int.le_refl _) ps
    rw [Int.sub_self, Int.zero_mul] at this
    omega
  exact h _
theorem sumD_1 (t : Tab) (ok : OkTab t) (a n : Int) (h : a ≤ n) (h1 : -10000000 ≤ n) (h2 : n ≤ 10000000) : sumD t a (n + 1) = sumD t a n + lngT t n := by
  rw [lngT_eq t ok n h1 h2]
  unfold sumD
  exact (giveAll_join _ _ _ (by omega) (by omega) _).symm
theorem sumD_bd (t : Tab) (ok : OkTab t) (a n : Int) (h : a ≤ n) : 0 ≤ sumD t a n ∧ sumD t a n ≤ 86400 * (n - a) * 1001 := by
  unfold sumD
  have h1 := giveAll_bound (86400 * a) (86400 * n) (by omega) (uptoP t (t.chs.length + 1))
  rw [uptoP_length] at h1
  have hl : ((t.chs.length + 1 : Nat) : Int) ≤ 1001 := by have := ok.chs; omega
  have h2 : (86400 * n - 86400 * a) * ((t.chs.length + 1 : Nat) : Int) ≤ (86400 * n - 86400 * a) * 1001 := Int.mul_le_mul_of_nonneg_left hl (by omega)
  have e : 86400 * n - 86400 * a = 86400 * (n - a) := by omega
  rw [e] at h1 h2
  exact ⟨h1.1, Int.le_trans h1.2 h2⟩
/-- THE LAW -/
theorem days_law {t : Tab} (ok : OkTab t) {lo hi : Int} (hlo : lo = lowT t.chs) (hhi : hi = highT t.chs) (h1 : -274877906944 ≤ lo) (h2 : hi ≤ 274877906944) :
    sumD t (lo / 86400 - 3) (hi / 86400 + 3) = 86400 * ((hi / 86400 + 3) - (lo / 86400 - 3)) + (tyOf t (lo - 100000)).off - (tyOf t (hi + 100000)).off := by
  subst hlo hhi
  have hle : lowT t.chs ≤ highT t.chs := by
    by_cases g : t.chs = []
    · have := low_nil g; omega
    · exact tAt_mono t.chs ok.rise 0 (t.chs.length - 1) (Nat.zero_le _) (by have := List.length_pos_iff.2 g; omega)
  have e1 := off_low ok (t := t) (y := lowT t.chs - 100000) (.inr (by omega))
  have e2 := off_high ok (t := t) (y := highT t.chs + 100000) (.inr (by omega))
  have e3 := give0 ok (L := 86400 * (lowT t.chs / 86400 - 3)) (H := 86400 * (highT t.chs / 86400 + 3)) (by omega) (by omega) (by omega) (by omega) (by omega) t.chs.length (Nat.le_refl _)
  rw [if_neg (Nat.lt_irrefl _)] at e3
  unfold sumD
  rw [e3, e1, e2]
  omega
end Go.Proofs.YtomahddiclkepaaGreatDoor
namespace Go.Proofs.YtomahddiclkepaaGreatDoor
open Classical
set_option linter.unusedVariables false

/-- what the maker has -/
structure NS where
  types : List Ty
  chs : List Ch
  last : Ty
noncomputable def idxTy (l : List Ty) (x : Ty) : Nat := l.findIdx (fun y => decide (y = x))
noncomputable def addTy (l : List Ty) (x : Ty) : List Ty := if x ∈ l then l else l ++ [x]
noncomputable def stepN (s : NS) (c : Int × Ty) : NS := if c.2 = s.last then s else ⟨addTy s.types c.2, s.chs ++ [⟨c.1, idxTy s.types c.2⟩], c.2⟩
def begN (x : Ty) : NS := ⟨[x], [], x⟩
noncomputable def makeN (x : Ty) (l : List (Int × Ty)) : NS := l.foldl stepN (begN x)
noncomputable def normR (x : Ty) (l : List (Int × Ty)) : Tab := ⟨(makeN x l).types, 0, (makeN x l).chs⟩
def resH (t : Tab) : Ty := tyD t.types t.first
def resL (t : Tab) : List (Int × Ty) := t.chs.map fun c => (c.t, tyD t.types c.k)
noncomputable def normT (t : Tab) : Tab := normR (resH t) (resL t)

/-- changes to another type alone -/
noncomputable def squ : Ty → List (Int × Ty) → List (Int × Ty)
  | _, [] => []
  | last, c :: r => if c.2 = last then squ last r else c :: squ c.2 r

theorem idx_in {l : List Ty} {x : Ty} (h : x ∈ l) : idxTy l x < l.length ∧ tyD l (idxTy l x : Nat) = x := by
  have hlt : idxTy l x < l.length := List.findIdx_lt_length_of_exists ⟨x, h, by simp⟩
  refine ⟨hlt, ?_⟩
  have h2 := List.findIdx_getElem (p := fun y => decide (y = x)) (xs := l) (w := hlt)
  have h3 : l[l.findIdx fun y => decide (y = x)] = x := by simpa using h2
  unfold tyD idxTy
  rw [show ((l.findIdx (fun y => decide (y = x)) : Nat) : Int).toNat = l.findIdx (fun y => decide (y = x)) by omega, List.getElem?_eq_getElem (show l.findIdx (fun y => decide (y = x)) < l.length from hlt)]
  exact h3
theorem idx_out {l : List Ty} {x : Ty} (h : x ∉ l) : idxTy l x = l.length := by
  unfold idxTy
  exact List.findIdx_eq_length_of_false (fun y hy => by simp; rintro rfl; exact h hy)
theorem tyD_app (l m : List Ty) (k : Int) (h0 : 0 ≤ k) (h : k < l.length) : tyD (l ++ m) k = tyD l k := by
  unfold tyD
  rw [List.getElem?_append_left (by omega)]
theorem tyD_add (l : List Ty) (x : Ty) (k : Int) (h0 : 0 ≤ k) (h : k < l.length) : tyD (addTy l x) k = tyD l k := by
  unfold addTy
  split
  · rfl
  · exact tyD_app _ _ _ h0 h
theorem tyD_idx (l : List Ty) (x : Ty) : tyD (addTy l x) (idxTy l x : Nat) = x ∧ idxTy l x < (addTy l x).length := by
  unfold addTy
  split
  · next h => exact ⟨(idx_in h).2, (idx_in h).1⟩
  · next h =>
    rw [idx_out h]
    refine ⟨?_, by simp⟩
    unfold tyD
    simp
theorem add_length (l : List Ty) (x : Ty) : l.length ≤ (addTy l x).length := by
  unfold addTy; split <;> simp
theorem add_nodup {l : List Ty} {x : Ty} (h : l.Nodup) : (addTy l x).Nodup := by
  unfold addTy
  split
  · exact h
  · next hx =>
    rw [List.nodup_append]
    refine ⟨h, by simp, ?_⟩
    intro a ha b hb
    simp only [List.mem_singleton] at hb
    subst hb
    rintro rfl
    exact hx ha
theorem mem_add {l : List Ty} {x y : Ty} : y ∈ addTy l x ↔ y ∈ l ∨ y = x := by
  unfold addTy
  split
  · next h => exact ⟨.inl, fun h2 => h2.elim id (fun e => e ▸ h)⟩
  · simp

/-- what holds of the maker all along -/
structure NInv (x : Ty) (s : NS) : Prop where
  nodup : s.types.Nodup
  head : tyD s.types 0 = x
  pos : 0 < s.types.length
  lastIn : s.last ∈ s.types
  ks : ∀ c ∈ s.chs, 0 ≤ c.k ∧ c.k < s.types.length

theorem begN_inv (x : Ty) : NInv x (begN x) := ⟨by simp [begN], by simp [begN, tyD], by simp [begN], by simp [begN], by simp [begN]⟩
theorem stepN_inv {x : Ty} {s : NS} (h : NInv x s) (c : Int × Ty) : NInv x (stepN s c) := by
  unfold stepN
  split
  · exact h
  · have hl := add_length s.types c.2
    refine ⟨add_nodup h.nodup, (tyD_add _ _ 0 (by omega) (by have := h.pos; omega)).trans h.head, by have := h.pos; show 0 < (addTy s.types c.2).length; omega, mem_add.2 (.inr rfl), ?_⟩
    intro d hd
    simp only [List.mem_append, List.mem_singleton] at hd
    show 0 ≤ d.k ∧ d.k < ((addTy s.types c.2).length : Int)
    rcases hd with hd | rfl
    · have := h.ks d hd; omega
    · have := (tyD_idx s.types c.2).2
      show 0 ≤ ((idxTy s.types c.2 : Nat) : Int) ∧ ((idxTy s.types c.2 : Nat) : Int) < _
      omega
theorem makeN_inv {x : Ty} (l : List (Int × Ty)) : ∀ s, NInv x s → NInv x (l.foldl stepN s) := by
  induction l with
  | nil => intro s h; exact h
  | cons c r ih => intro s h; exact ih _ (stepN_inv h c)

/-- what the maker's changes say -/
def resS (s : NS) : List (Int × Ty) := s.chs.map fun c => (c.t, tyD s.types c.k)
theorem stepN_res {x : Ty} {s : NS} (h : NInv x s) (c : Int × Ty) : resS (stepN s c) = resS s ++ (if c.2 = s.last then [] else [c]) := by
  unfold stepN
  split
  · simp
  · unfold resS
    simp only [List.map_append, List.map_cons, List.map_nil]
    congr 1
    · apply List.map_congr_left
      intro d hd
      have := h.ks d hd
      rw [tyD_add _ _ _ this.1 this.2]
    · rw [(tyD_idx s.types c.2).1]
theorem makeN_res {x : Ty} (l : List (Int × Ty)) : ∀ s, NInv x s → resS (l.foldl stepN s) = resS s ++ squ s.last l := by
  induction l with
  | nil => intro s _; simp [squ]
  | cons c r ih =>
    intro s h
    rw [List.foldl_cons, ih _ (stepN_inv h c), stepN_res h c]
    simp only [squ]
    by_cases e : c.2 = s.last
    · have : stepN s c = s := if_pos e
      rw [if_pos e, if_pos e, this]
      simp
    · have : (stepN s c).last = c.2 := by unfold stepN; rw [if_neg e]
      rw [if_neg e, if_neg e, this]
      simp
theorem resL_norm (x : Ty) (l : List (Int × Ty)) : resL (normR x l) = squ x l := by
  have := makeN_res l (begN x) (begN_inv x)
  exact this
theorem fold_squ (l : List (Int × Ty)) : ∀ s : NS, l.foldl stepN s = (squ s.last l).foldl stepN s := by
  induction l with
  | nil => intro s; rfl
  | cons c r ih =>
    intro s
    simp only [squ]
    by_cases e : c.2 = s.last
    · have : stepN s c = s := if_pos e
      rw [if_pos e, List.foldl_cons, this]
      exact ih s
    · have : (stepN s c).last = c.2 := by unfold stepN; rw [if_neg e]
      rw [if_neg e, List.foldl_cons, List.foldl_cons, ih, this]
theorem normR_squ (x : Ty) (l : List (Int × Ty)) : normR x (squ x l) = normR x l := by
  unfold normR makeN
  have := fold_squ l (begN x)
  rw [show (begN x).last = x from rfl] at this
  rw [this]
def valL (x : Ty) (l : List (Int × Ty)) (y : Int) : Ty := l.foldl (fun a c => if c.1 ≤ y then c.2 else a) x
def RiseL (l : List (Int × Ty)) : Prop := l.Pairwise (fun a b => a.1 < b.1)
theorem valL_late (l : List (Int × Ty)) (y : Int) : ∀ x, (∀ c ∈ l, y < c.1) → valL x l y = x := by
  induction l with
  | nil => intro x _; rfl
  | cons c r ih =>
    intro x h
    have hc := h c (by simp)
    unfold valL
    rw [List.foldl_cons, if_neg (by omega)]
    exact ih x (fun d hd => h d (by simp [hd]))
theorem squ_sub (l : List (Int × Ty)) : ∀ last, (squ last l).Sublist l := by
  induction l with
  | nil => intro last; exact List.Sublist.refl _
  | cons c r ih =>
    intro last
    simp only [squ]
    split
    · exact (ih last).cons c
    · exact (ih c.2).cons_cons c
theorem makeN_types {x : Ty} (l : List (Int × Ty)) : ∀ s : NS, ∀ y ∈ (l.foldl stepN s).types, y ∈ s.types ∨ ∃ c ∈ l, c.2 = y := by
  induction l with
  | nil => intro s y hy; exact .inl hy
  | cons c r ih =>
    intro s y hy
    rw [List.foldl_cons] at hy
    rcases ih _ y hy with h | ⟨d, hd, rfl⟩
    · unfold stepN at h
      split at h
      · exact .inl h
      · rcases mem_add.1 h with h | h
        · exact .inl h
        · exact .inr ⟨c, by simp, h.symm⟩
    · exact .inr ⟨d, by simp [hd], rfl⟩
theorem tyD_mem (l : List Ty) (k : Int) (h0 : 0 ≤ k) (h : k < l.length) : tyD l k ∈ l := by
  unfold tyD
  rw [List.getElem?_eq_getElem (by omega)]
  exact List.getElem_mem _
theorem resL_times (u : Tab) : (resL u).map (·.1) = u.chs.map (·.t) := by simp [resL]
end Go.Proofs.YtomahddiclkepaaGreatDoor
namespace Go.Proofs.YtomahddiclkepaaGreatDoor
open Go.RowKit
set_option linter.unusedVariables false
set_option linter.unusedSimpArgs false

theorem own_keep {W W' : World} {B : Nat} {e : TypeId} {s n : Nat} {v : Value} {xs : List Value} (h : W.ownsRow B e s v n xs) (hk : ∀ g, v.ownBlock = some g → W'.heap[g]? = W.heap[g]?) : W'.ownsRow B e s v n xs := by
  obtain ⟨h1, h2⟩ := h
  refine ⟨h1, ?_⟩
  rcases h2 with h2 | ⟨g, cap, cur, rfl, hb, hg, r⟩
  · exact .inl h2
  · exact .inr ⟨g, cap, cur, rfl, hb, (hk g rfl).trans hg, r⟩
theorem own_cells {W : World} {B : Nat} {e : TypeId} {s n : Nat} {v : Value} {xs : List Value} (h : W.ownsRow B e s v n xs) : (v = .slice none 0 0 ∧ n = 0) ∨ ∃ g cap, v = .slice (some ⟨g, 0, none⟩) n cap ∧ B ≤ g ∧ g < W.heap.size ∧ ∀ i u, xs[i]? = some u → W.cell? ⟨g, i, none⟩ = some u := by
  rcases h.2 with h2 | ⟨g, cap, cur, rfl, hb, hg, hn, hm, hs, ht⟩
  · exact .inl h2
  · refine .inr ⟨g, cap, rfl, hb, (Array.getElem?_eq_some_iff.1 hg).1, fun i u hu => ?_⟩
    rw [cell_of_row W g i cur _ (0, 0) hg]
    rw [← ht, List.getElem?_take] at hu
    split at hu
    · simpa using hu
    · cases hu
/-- rows of other element types lie in other blocks -/
theorem own_apart {W : World} {B B' : Nat} {e e' : TypeId} {s s' n n' : Nat} {v v' : Value} {xs xs' : List Value} (h : W.ownsRow B e s v n xs) (h' : W.ownsRow B' e' s' v' n' xs') (hne : e ≠ e') : v.ownBlock = none ∨ v.ownBlock ≠ v'.ownBlock := by
  rcases h.2 with ⟨rfl, _⟩ | ⟨g, cap, cur, rfl, _, hg, _⟩
  · exact .inl rfl
  · refine .inr fun e0 => ?_
    rcases h'.2 with ⟨rfl, _⟩ | ⟨g', cap', cur', rfl, _, hg', _⟩
    · simp [Value.ownBlock] at e0
    · simp only [Value.ownBlock] at e0
      injection e0 with e0
      subst e0
      rw [hg] at hg'
      injection hg' with hg'
      injection hg' with _ h2
      exact hne h2
theorem own_sliceN {W : World} {B : Nat} {e : TypeId} {s n : Nat} {v : Value} {xs : List Value} (h : W.ownsRow B e s v n xs) : ∃ A c, v = .slice A n c := by
  rcases h.2 with ⟨rfl, rfl⟩ | ⟨g, cap, cur, rfl, _⟩
  · exact ⟨_, _, rfl⟩
  · exact ⟨_, _, rfl⟩
theorem alloc_at (w : World) (o : Obj) (k : Nat) (h : k = w.heap.size) : (w.alloc o).heap[k]? = some o := by subst h; exact heap_alloc_new w o
theorem own_base {W : World} {B B' : Nat} {e : TypeId} {s n : Nat} {v : Value} {xs : List Value} (h : W.ownsRow B e s v n xs) (hB : B' ≤ B) : W.ownsRow B' e s v n xs := by
  obtain ⟨h1, h2⟩ := h
  refine ⟨h1, ?_⟩
  rcases h2 with h2 | ⟨g, cap, cur, rfl, hb, hg, r⟩
  · exact .inl h2
  · exact .inr ⟨g, cap, cur, rfl, Nat.le_trans hB hb, hg, r⟩
end Go.Proofs.YtomahddiclkepaaGreatDoor
namespace Go.Proofs.YtomahddiclkepaaGreatDoor
open Go.RowKit
open Classical
set_option linter.unusedVariables false
set_option linter.unusedSimpArgs false

theorem fieldsTyN : (Tryz.prog.fieldsOf 51).toList = [{ name := "Offset", type := 3, offset := 0, embedded := false, tag := "", pkgPath := "", byteOffset := 0 }, { name := "Save", type := 4, offset := 1, embedded := false, tag := "", pkgPath := "", byteOffset := 8 }, { name := "Name", type := 9, offset := 2, embedded := false, tag := "", pkgPath := "", byteOffset := 16 }] := by kernel_rfl
theorem agg_tyN : Tryz.prog.underlying 51 = some (.struct (Tryz.prog.fieldsOf 51)) := by kernel_rfl
theorem stood_tyN : Tryz.prog.stoodInHeld 51 = false := by kernel_rfl
theorem ty_eq {x y : Ty} : x = y ↔ x.off = y.off ∧ x.save = y.save ∧ x.name = y.name := by
  cases x; cases y; simp
theorem bytes_ne {a b : ByteArray} (h : a ≠ b) : (a.toList == b.toList) = false := by
  cases he : a.toList == b.toList
  · rfl
  · have : a.toList = b.toList := by simpa using he
    rw [ByteArray.toList_eq, ByteArray.toList_eq] at this
    exact absurd (by cases a; cases b; simp_all) h
theorem eql_ty (x y : Ty) (W : World) : (binOp .eql 51 (.agg #[.int .i64 x.off, .bool x.save, .string x.name]) (.agg #[.int .i64 y.off, .bool y.save, .string y.name])).run Tryz.prog W = .ok (.bool (decide (x = y))) W := by
  rw [run_eql_struct, run_equalIn_agg W 9999 _ _ _ agg_tyN stood_tyN, fieldsTyN]
  by_cases h1 : x.off = y.off
  · by_cases h2 : x.save = y.save
    · by_cases h3 : x.name = y.name
      · have e : x = y := ty_eq.2 ⟨h1, h2, h3⟩
        simp [go_sem, Op.eqFields, Tryz.underlying3, Tryz.underlying4, Tryz.underlying9, e]
      · have e : ¬ x = y := fun e => h3 (by rw [e])
        simp [go_sem, Op.eqFields, Tryz.underlying3, Tryz.underlying4, Tryz.underlying9, e, h1, h2, bytes_ne h3]
    · have e : ¬ x = y := fun e => h2 (by rw [e])
      simp [go_sem, Op.eqFields, Tryz.underlying3, Tryz.underlying4, Tryz.underlying9, e, h1, h2]
  · have e : ¬ x = y := fun e => h1 (by rw [e])
    simp [go_sem, Op.eqFields, Tryz.underlying3, Tryz.underlying4, Tryz.underlying9, e, h1]
theorem neq_tyN (x y : Ty) (W : World) : (binOp .neq 51 (.agg #[.int .i64 x.off, .bool x.save, .string x.name]) (.agg #[.int .i64 y.off, .bool y.save, .string y.name])).run Tryz.prog W = .ok (.bool (!decide (x = y))) W := by
  rw [run_neq_struct, run_equalIn_agg W 9999 _ _ _ agg_tyN stood_tyN, fieldsTyN]
  by_cases h1 : x.off = y.off
  · by_cases h2 : x.save = y.save
    · by_cases h3 : x.name = y.name
      · have e : x = y := ty_eq.2 ⟨h1, h2, h3⟩
        simp [go_sem, Op.eqFields, Tryz.underlying3, Tryz.underlying4, Tryz.underlying9, e]
      · have e : ¬ x = y := fun e => h3 (by rw [e])
        simp [go_sem, Op.eqFields, Tryz.underlying3, Tryz.underlying4, Tryz.underlying9, e, h1, h2, bytes_ne h3]
    · have e : ¬ x = y := fun e => h2 (by rw [e])
      simp [go_sem, Op.eqFields, Tryz.underlying3, Tryz.underlying4, Tryz.underlying9, e, h1, h2]
  · have e : ¬ x = y := fun e => h1 (by rw [e])
    simp [go_sem, Op.eqFields, Tryz.underlying3, Tryz.underlying4, Tryz.underlying9, e, h1]
end Go.Proofs.YtomahddiclkepaaGreatDoor
