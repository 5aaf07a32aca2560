/- wall.pieces: the pieces of a table that may be, one behind the other. -/
import Derived.Test.YteoliifghhlinaaWall1
import Derived.RangeFuncNested
import Derived.RangeFuncBox
import Derived.RangeFuncBound
import Derived.RangeFuncCalls
import Derived.RangeFuncLeaves
import Derived.Shelf.Abstract
import Derived.OwnWalkIn
import Derived.TacticsInMore
import Derived.LoopNIn
import Derived.LoopIn
import Derived.BigRegionIn
import Derived.Sort.QuietIn
import Derived.Maps.AppendAt
namespace Go.Proofs.Yteoliifghhlinaa
open Go.RowKit Go.Shelf
set_option linter.unusedVariables false
set_option linter.unusedSimpArgs false

attribute [local go_sem] Oper.semAt_some

/-- a piece: from, to, offset -/
structure Pc where
  a : Int
  b : Int
  off : Int
abbrev pcV (x : Pc) : Array Value := #[.agg #[.int .i64 x.a, .int .i64 x.b], .int .i64 x.off]

def frAt (m : List Ch) : Nat → Int
  | 0 => -4611686018427387904
  | k + 1 => tAt m k
def idAt (f : Int) (m : List Ch) : Nat → Int
  | 0 => f
  | k + 1 => kAt m k
def toAt (m : List Ch) (k : Nat) : Int := if k < m.length then tAt m k else 4611686018427387903
def pcAt (t : Tab) (k : Nat) : Pc := ⟨frAt t.chs k, toAt t.chs k, (tyD t.types (idAt t.first t.chs k)).off⟩
def uptoP (t : Tab) (k : Nat) : List Pc := (List.range k).map (pcAt t)
theorem uptoP_succ (t : Tab) (k : Nat) : uptoP t (k + 1) = uptoP t k ++ [pcAt t k] := by simp [uptoP, List.range_succ]
theorem uptoP_length (t : Tab) (k : Nat) : (uptoP t k).length = k := by simp [uptoP]

/-- what a round keeps: what lay below n₀, and each table's and each change's own box -/
structure KpT (n₀ : Nat) (W W' : World) : Prop where
  size : W.heap.size ≤ W'.heap.size
  low : ∀ k, k < n₀ → W'.heap[k]? = W.heap[k]?
  box : ∀ (k : Nat) (cs : Array Value) (T : TypeId), W.heap[k]? = some (Obj.cells cs T (0, 0)) → (T = 25 ∨ T = 42) → W'.heap[k]? = some (Obj.cells cs T (0, 0))
theorem KpT.trans {n₀ : Nat} {A C D : World} (h : KpT n₀ A C) (k : KpT n₀ C D) : KpT n₀ A D :=
  ⟨Nat.le_trans h.size k.size, fun i hi => (k.low i hi).trans (h.low i hi), fun i cs T h1 h2 => k.box i cs T (h.box i cs T h1 h2) h2⟩
theorem KpT.refl (n₀ : Nat) (W : World) : KpT n₀ W W := ⟨Nat.le_refl _, fun _ _ => rfl, fun _ _ _ h _ => h⟩
theorem KpT.cell {n₀ : Nat} {W W' : World} (h : KpT n₀ W W') {b o : Nat} (hb : b < n₀) : W'.cell? ⟨b, o, none⟩ = W.cell? ⟨b, o, none⟩ := World.cell?_of_block (w := W) (h.low b hb)
theorem KpT.of_below {n₀ : Nat} {W W' : World} (h : Below W.heap.size W W') (hn : n₀ ≤ W.heap.size) : KpT n₀ W W' :=
  ⟨h.size, fun k hk => h.block k (by omega), fun k cs T h1 _ => (h.block k (Array.getElem?_eq_some_iff.1 h1).1).trans h1⟩
theorem KpT.putObj {n₀ : Nat} (W : World) (l : Nat) (o o' : Obj) (hl : n₀ ≤ l) (h : W.heap[l]? = some o) (hc : o.isCells = false) : KpT n₀ W (W.putObj l o') := by
  refine ⟨by simp, fun k hk => World.putObj_heap_other (by omega), fun k cs T h1 _ => ?_⟩
  have hne : k ≠ l := by
    rintro rfl
    rw [h1] at h
    cases h
    simp [Obj.isCells] at hc
  exact (World.putObj_heap_other hne).trans h1

theorem cells2 {W : World} {B : Nat} {a b : Value} {T : TypeId} (h : W.heap[B]? = some (Obj.cells #[a, b] T (0, 0))) : W.cell? ⟨B, 0, none⟩ = some a ∧ W.cell? ⟨B, 1, none⟩ = some b := by
  constructor <;> simp [World.cell?, h]
theorem cells3 {W : World} {B : Nat} {a b c : Value} {T : TypeId} (h : W.heap[B]? = some (.cells #[a, b, c] T (0, 0))) : W.cell? ⟨B, 0, none⟩ = some a ∧ W.cell? ⟨B, 1, none⟩ = some b ∧ W.cell? ⟨B, 2, none⟩ = some c := by
  refine ⟨?_, ?_, ?_⟩ <;> simp [World.cell?, h]

theorem grownBy_drew (W : World) : W.grownBy W.drew none := ⟨rfl, rfl, rfl, Nat.le_refl _, fun _ _ _ => rfl⟩
theorem grownBy_drewN (W : World) (n : Nat) : W.grownBy (W.drewN n) none := ⟨rfl, rfl, rfl, Nat.le_refl _, fun _ _ _ => rfl⟩

/-- how a round may end -/
structure YOut (n₀ : Nat) (J Jx : List Pc → World → Prop) (ys : List Pc) (W : World) (bb : Bool) (W' : World) : Prop where
  yes : bb = true → J ys W' ∧ KpT n₀ W W'
  no : bb = false → Jx ys W'

set_option maxRecDepth 100000 in
set_option maxHeartbeats 4000000 in
theorem pieces1_in (n l Bt n₀ b o cap b2 o2 cap2 : Nat) (t : Tab) (hn : 1 ≤ n) (hb : b < n₀) (hb2 : b2 < n₀) (J Jx : List Pc → World → Prop)
    (hY : ∀ pre x W, J pre W → pre.length < t.chs.length + 1 → YieldAt Fence.wide (n - 1) Try.prog l (pcV x) W fun e W' =>
      (e = .returned (.bool true) ∧ J (pre ++ [x]) W' ∧ KpT n₀ W W') ∨ (e = .returned (.bool false) ∧ Jx (pre ++ [x]) W'))
    (W : World) (hJ : AbidesFrom W.heap.size J) (hJx : AbidesFrom W.heap.size Jx) (hq : W.heap[Bt]? = some (Obj.cells #[.slice (some ⟨b, o, none⟩) t.types.length cap, .int .i64 t.first, .slice (some ⟨b2, o2, none⟩) t.chs.length cap2] 25 (0, 0)))
    (hty : ∀ i (h : i < t.types.length), tyAt W b (o + i * 3) t.types[i]) (hch : ∀ i (h : i < t.chs.length), chAt W b2 (o2 + i * 2) t.chs[i]) (ok : OkTab t) (hn0 : n₀ ≤ W.heap.size) (h0 : J [] W) :
    CallsIn Fence.wide n Try.prog 49 #[.func (.yield l) #[] #[], .pointer (some ⟨Bt, 0, none⟩)] W fun e W' => (∃ v, e = .returned v) ∧
      ((∃ ys, ys = uptoP t (t.chs.length + 1) ∧ J ys W') ∨ (∃ pre, (∃ k, pre = uptoP t k) ∧ Jx pre W')) := by
  obtain ⟨hq0, hq1, hq2⟩ := cells3 hq
  refine callsIn_of_wp Try.func49 rfl trivial ?_ rfl
  simp only [Try.ntmps49, List.size_toArray, List.length_cons, List.length_nil, Nat.reduceAdd, Nat.reduceSub, Array.replicate_succ, Array.replicate_zero, List.push_toArray, List.append_toArray, List.nil_append, List.cons_append]
  gi_wp2
  gi_quiet (fail)
  gi_wp2
  have hstart : J (uptoP t 0) (W.drewN nq) := hJ _ _ _ none h0 (grownBy_drewN W nq) (fun r e => by cases e)
  have HT := Lib.hid hty
  have HC := Lib.hid hch
  have HJ := Lib.hid hJ
  have HY := Lib.hid hY
  have HS := Lib.hid hstart
  have HQ := Lib.hid hq
  have hok1 := ok.many
  have hok2 := ok.chs
  have hok3 := ok.first
  have OK := Lib.hid ok
  have hBt : Bt < W.heap.size := World.block_lt_of_cell? _ _ hq0
  clear hty hch hJ hJx hY hstart hq hq0 hq1 hq2 ok
  gi_loopw [3, 4, 12] (fun s3 s4 s12 wr => ∃ k : Nat, k ≤ t.chs.length ∧ s3 = .int .i64 (frAt t.chs k) ∧ s4 = .int .i64 (idAt t.first t.chs k) ∧ s12 = .int .i64 k ∧ J (uptoP t k) wr ∧ KpT n₀ W wr ∧ W.heap.size ≤ wr.heap.size)
    (fun _ _ s12 _ => t.chs.length - (intOf s12).toNat)
  case atStart => exact ⟨0, Nat.zero_le _, rfl, rfl, rfl, HS.out, ⟨Nat.le_refl _, fun _ _ => rfl, fun _ _ _ h _ => h⟩, Nat.le_refl _⟩
  case round =>
    obtain ⟨k, hk, rfl, rfl, rfl, hJs, hkp, hsz⟩ := hrel
    have hid : 0 ≤ idAt t.first t.chs k ∧ idAt t.first t.chs k < t.types.length := by
      cases k with
      | zero => exact hok3
      | succ j =>
        have := OK.out.ch t.chs[j] (List.getElem_mem (by omega))
        simp only [idAt, kAt]
        rw [List.getElem?_eq_getElem (by omega)]
        simp; omega
    obtain ⟨kn, hkn⟩ := Int.eq_ofNat_of_zero_le hid.1
    have hkl : kn < t.types.length := by omega
    obtain ⟨x, ex⟩ : ∃ x, t.types[kn] = x := ⟨_, rfl⟩
    have hat := HT.out kn hkl
    rw [ex] at hat
    have hpc : pcAt t k = ⟨frAt t.chs k, toAt t.chs k, x.off⟩ := by
      unfold pcAt; rw [hkn]; congr 1; simp [tyD, hkl, ex]
    have c0 := (hkp.cell (o := o + kn * 3) hb).trans hat.1
    have hqr := hkp.box _ _ _ HQ.out (.inl rfl)
    obtain ⟨q0, q1, q2⟩ := cells3 hqr
    have HQR := Lib.hid hqr
    clear hqr
    rw [hkn]
    have hknz : (kn : Int) < (t.types.length : Int) := by omega
    have HP := Lib.hid hpc
    have HJs := Lib.hid hJs
    have HKP := Lib.hid hkp
    have HKN := Lib.hid hkn
    clear hat ex hpc hJs hkp hkn hid
    by_cases hlt : k < t.chs.length
    · obtain ⟨y, ey⟩ : ∃ y, t.chs[k] = y := ⟨_, rfl⟩
      have hac := HC.out k hlt
      rw [ey] at hac
      have EY := Lib.hid ey
      have d0 := (HKP.out.cell (o := o2 + k * 2) hb2).trans hac.1
      have d1 := (HKP.out.cell (o := o2 + k * 2 + 1) hb2).trans hac.2
      have hpc2 : pcAt t k = ⟨frAt t.chs k, y.t, x.off⟩ := by
        rw [HP.out]; congr 1; simp only [toAt, tAt]; rw [if_pos hlt, List.getElem?_eq_getElem hlt, ey]; rfl
      obtain ⟨W2, hW2⟩ : ∃ W2, (wr.alloc (.cells #[.int .i64 y.t, .int .i64 y.k] 42)).drew = W2 := ⟨_, rfl⟩
      have hJ2 : J (uptoP t k) W2 := by
        rw [← hW2]
        exact HJ.out _ _ _ none (HJ.out _ _ _ none HJs.out (World.grownBy_alloc wr _ none) (fun r e => by cases e)) (grownBy_drew _) (fun r e => by cases e)
      obtain ⟨fn, tmps, assign, body, hy, hR⟩ := HY.out (uptoP t k) (pcAt t k) W2 hJ2 (by rw [uptoP_length]; omega)
      rw [hpc2] at hy hR
      dsimp only [pcV] at hy
      have hR2 := hR.mono (R' := fun e W' => ∃ bb, e = .returned (.bool bb) ∧ YOut n₀ J Jx (uptoP t k ++ [⟨frAt t.chs k, y.t, x.off⟩]) W2 bb W')
        (by
          rintro e W' (⟨rfl, h1, h2⟩ | ⟨rfl, h1⟩)
          · exact ⟨true, rfl, ⟨fun _ => ⟨h1, h2⟩, fun h => by cases h⟩⟩
          · exact ⟨false, rfl, ⟨fun h => (by cases h), fun _ => h1⟩⟩)
      have HP2 := Lib.hid hpc2
      have hW2c : W2.heap[wr.heap.size]? = some (Obj.cells #[.int .i64 y.t, .int .i64 y.k] 42 (0, 0)) := by rw [← hW2]; exact World.alloc_heap_new wr _
      have HW2c := Lib.hid hW2c
      clear hR hpc2 hW2c ey
      have z1 : Bt < wr.heap.size := by omega
      have z2 : b < wr.heap.size := World.block_lt_of_cell? _ _ c0
      have z3 : b2 < wr.heap.size := World.block_lt_of_cell? _ _ d0
      have p1 : (kn : Int) < ((t.types.length : Nat) : Int) := by omega
      subst hW2
      gi_wp2
      gi_region_with (refine hR2.mono ?_; rintro e W3 ⟨bb, rfl, h3⟩)
      all_goals
        simp only [Act.put, List.getElem_toArray, List.getElem_cons_succ, List.getElem_cons_zero, List.setIfInBounds_toArray, List.set_cons_succ, List.set_cons_zero]
        cases bb with
        | false =>
          simp only [Bool.not_false]
          gi_wp2
          refine bodyPost_ret (results_none rfl _ _ _) rfl ?_
          exact ⟨⟨_, rfl⟩, .inr ⟨_, ⟨k + 1, by rw [uptoP_succ, HP2.out]⟩, h3.no rfl⟩⟩
        | true =>
          have h4 := h3.yes rfl
          have hbc := HW2c.out
          have hbc3 := h4.2.box _ _ _ hbc (.inr rfl)
          obtain ⟨e0, e1⟩ := cells2 hbc3
          have HK4 := Lib.hid h4.2
          have HJ4 := Lib.hid h4.1
          clear h4 hbc hbc3 h3
          simp only [Bool.not_true]
          gi_wp2
          gi_quiet (fail)
          gi_wp2
          have hfr : frAt t.chs (k + 1) = y.t := by simp only [frAt, tAt]; rw [List.getElem?_eq_getElem hlt, EY.out]; rfl
          have hia : idAt t.first t.chs (k + 1) = y.k := by simp only [idAt, kAt]; rw [List.getElem?_eq_getElem hlt, EY.out]; rfl
          have hs4 : (wr.alloc (.cells #[.int .i64 y.t, .int .i64 y.k] 42)).heap.size ≤ W3.heap.size := HK4.out.size
          simp at hs4
          have hkk : KpT n₀ W W3 := HKP.out.trans (KpT.trans (KpT.of_below (((Below.refl _ _).alloc (Nat.le_refl _) _).drew) (by omega)) HK4.out)
          refine ⟨⟨k + 1, by omega, by rw [hfr], by rw [hia], by go_num, ?_, ⟨hkk.size, hkk.low, hkk.box⟩, ?_⟩, by simp [intOf]; omega⟩
          · rw [uptoP_succ, HP2.out]
            exact HJ.out _ _ _ none HJ4.out (grownBy_drewN W3 _) (fun r e => by cases e)
          · show W.heap.size ≤ W3.heap.size
            omega
    · obtain rfl : k = t.chs.length := by omega
      have hpc2 : pcAt t t.chs.length = ⟨frAt t.chs t.chs.length, 4611686018427387903, x.off⟩ := by
        rw [HP.out]; congr 1; simp [toAt]
      obtain ⟨fn, tmps, assign, body, hy, hR⟩ := HY.out (uptoP t t.chs.length) (pcAt t t.chs.length) wr HJs.out (by rw [uptoP_length]; omega)
      rw [hpc2] at hy hR
      dsimp only [pcV] at hy
      have HP2 := Lib.hid hpc2
      have hR2 := hR.mono (R' := fun e W' => ∃ bb, e = .returned (.bool bb) ∧ YOut n₀ J Jx (uptoP t t.chs.length ++ [⟨frAt t.chs t.chs.length, 4611686018427387903, x.off⟩]) wr bb W')
        (by
          rintro e W' (⟨rfl, h1, h2⟩ | ⟨rfl, h1⟩)
          · exact ⟨true, rfl, ⟨fun _ => ⟨h1, h2⟩, fun h => by cases h⟩⟩
          · exact ⟨false, rfl, ⟨fun h => (by cases h), fun _ => h1⟩⟩)
      clear hR hpc2
      gi_wp2
      refine hR2.mono ?_
      rintro e W3 ⟨bb, rfl, h3⟩
      gi_wp2
      go_end0
      cases bb with
      | false => exact ⟨⟨_, rfl⟩, .inr ⟨_, ⟨t.chs.length + 1, by rw [uptoP_succ, HP2.out]⟩, h3.no rfl⟩⟩
      | true => exact ⟨⟨_, rfl⟩, .inl ⟨_, by rw [uptoP_succ, HP2.out], (h3.yes rfl).1⟩⟩

end Go.Proofs.Yteoliifghhlinaa
