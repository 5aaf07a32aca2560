/- Part of the proof. -/
import Derived.Test.YtomahddiclkepaaGreatDoorQw00
import Derived.Test.YtomahddiclkepaaGreatDoorQw15
import Derived.Test.YtomahddiclkepaaGreatDoorQw01
import Derived.Test.YtomahddiclkepaaGreatDoorQw03
import Derived.BigQuiet
import Derived.Deep.DeepCutAuto
import Derived.Handy
import Derived.Test.YtomahddiclkepaaGreatDoorQw10
import Derived.Test.YtomahddiclkepaaGreatDoorQw08
import Derived.Deep.LoopGhost
import Derived.RegionTactic
import Derived.ChangeAlike
import Derived.BigRegion
import Derived.Sort.Walk0
import Derived.Test.YtomahddiclkepaaGreatDoorQw09
import Derived.StillTailTactics
import Derived.Lib.SmallJoins
import Derived.RangeFuncNested
import Derived.RangeFuncBox
import Derived.RangeFuncBound
import Derived.RangeFuncCalls
import Derived.RangeFuncLeaves
import Derived.Shelf.Abstract
import Derived.OwnWalkIn
import Derived.TacticsInMore
import Derived.LoopNIn
import Derived.LoopIn
import Derived.BigRegionIn
import Derived.Sort.QuietIn
import Derived.Maps.AppendAt
set_option maxHeartbeats 20000000
set_option maxRecDepth 1000000
set_option linter.unusedVariables false
set_option linter.unusedSimpArgs false
namespace Go.Proofs.YtomahddiclkepaaGreatDoor
open Go.RowKit Go.Joins
open Classical
def zeroTb : Tab := ⟨[], 0, []⟩
theorem zero_atN (w : World) : TabAt w (.agg #[.slice none 0 0, .int .i64 0, .slice none 0 0]) zeroTb := ⟨_, _, rfl, ⟨⟨none, 0, rfl, fun h => absurd rfl h⟩, by decide, by intro x hx; cases hx⟩, ⟨⟨none, 0, rfl, fun h => absurd rfl h⟩, by decide⟩⟩
theorem tabForms {w : World} {v : Value} {t : Tab} (h : TabAt w v t) : ∃ p1 c1 p2 c2, v = .agg #[.slice p1 t.types.length c1, .int .i64 t.first, .slice p2 t.chs.length c2] := by
 obtain ⟨sv, cv, rfl, h1, h2⟩ := h.val
 obtain ⟨p1, c1, rfl, -⟩ := h1.shape
 obtain ⟨p2, c2, rfl, -⟩ := h2.shape
 exact ⟨_, _, _, _, rfl⟩
theorem tabOf_slices {w : World} {p1 p2 : Option Addr} {n1 c1 n2 c2 : Nat} {f : Int} {t : Tab} (h : TabAt w (.agg #[.slice p1 n1 c1, .int .i64 f, .slice p2 n2 c2]) t) : SlTy w (.slice p1 n1 c1) t.types /\ SlCh w (.slice p2 n2 c2) t.chs /\ f = t.first := by
 obtain ⟨sv, cv, e, h1, h2⟩ := h.val
 simp only [Value.agg.injEq, Array.mk.injEq, List.cons.injEq, Value.int.injEq, and_true, true_and] at e
 obtain ⟨rfl, rfl, rfl⟩ := e
 exact ⟨h1, h2, rfl⟩
theorem tab_far {w W : World} {v : Value} {t : Tab} {X : Nat} {f : Int} {T : TypeId} {p q : Option Addr} {n1 n2 k1 k2 : Nat} (h : TabAt w v t) (hX : w.heap[X]? = some (.cells #[.slice p n1 k1, .int .i64 f, .slice q n2 k2] T (0, 0))) (hk : ∀ b, b ≠ X -> W.heap[b]? = w.heap[b]?) (hsz : w.heap.size <= W.heap.size) : TabAt W v t := by
 have hno : ∀ o b, w.cell? ⟨X, o, none⟩ = some (.bool b) -> False := fun o b hc => by
  rw [cell_of_row w _ o _ _ _ hX] at hc
  match o with
  | 0 => cases hc
  | 1 => cases hc
  | 2 => cases hc
  | o + 3 => simp at hc
 have hni : ∀ o a b, w.cell? ⟨X, o, none⟩ = some (.int .i64 a) -> w.cell? ⟨X, o + 1, none⟩ = some (.int .i64 b) -> False := fun o a b hc hc2 => by
  rw [cell_of_row w _ _ _ _ _ hX] at hc hc2
  match o with
  | 0 => cases hc
  | 1 => cases hc2
  | 2 => cases hc
  | o + 3 => simp at hc
 obtain ⟨sv, cv, hv, ⟨⟨p1, c1, e1, g1⟩, l1, m1⟩, ⟨⟨p2, c2, e2, g2⟩, l2⟩⟩ := h.val
 refine ⟨sv, cv, hv, ⟨⟨p1, c1, e1, fun hne => ?_⟩, l1, m1⟩, ⟨⟨p2, c2, e2, fun hne => ?_⟩, l2⟩⟩
 ·obtain ⟨b, o, e, hb, hat⟩ := g1 hne
  have hbX : b ≠ X := fun e2 => by
   subst e2
   have := (hat 0 (List.length_pos_iff.2 hne)).2.1
   exact hno _ _ this
  refine ⟨b, o, e, Nat.lt_of_lt_of_le hb hsz, fun i hi => ?_⟩
  have hc : ∀ j, W.cell? ⟨b, j, none⟩ = w.cell? ⟨b, j, none⟩ := fun j => World.cell?_of_block (a := ⟨b, j, none⟩) (hk b hbX)
  obtain ⟨a1, a2, a3⟩ := hat i hi
  exact ⟨(hc _).trans a1, (hc _).trans a2, (hc _).trans a3⟩
 ·obtain ⟨b, o, e, hb, hat⟩ := g2 hne
  have hbX : b ≠ X := fun e2 => by
   subst e2
   have := hat 0 (List.length_pos_iff.2 hne)
   exact hni _ _ _ this.1 this.2
  refine ⟨b, o, e, Nat.lt_of_lt_of_le hb hsz, fun i hi => ?_⟩
  have hc : ∀ j, W.cell? ⟨b, j, none⟩ = w.cell? ⟨b, j, none⟩ := fun j => World.cell?_of_block (a := ⟨b, j, none⟩) (hk b hbX)
  obtain ⟨a1, a2⟩ := hat i hi
  exact ⟨(hc _).trans a1, (hc _).trans a2⟩
end Go.Proofs.YtomahddiclkepaaGreatDoor
namespace Go.Proofs.YtomahddiclkepaaGreatDoor.BB
open Go.RowKit Go.Joins
open Classical
structure Er where
 (off : Int)
 (rul : ByteArray)
 (save : Int)
 (fmt : ByteArray)
 (til : Int)
def erOff (x : Ty) : Int := if x.save = true then x.off - 3600 else x.off
def erSave (x : Ty) : Int := if x.save = true then 3600 else 0
def erOk (x : Ty) : Bool := decide (-64800 <= erOff x /\ erOff x <= 64800)
def erOf (x : Ty) (u : Int) : Er := ⟨erOff x, ⟨#[]⟩, erSave x, x.name, u⟩
def segK (N : Tab) (i : Nat) : Int := if i = 0 then N.first else kAt N.chs (i - 1)
def segT (N : Tab) (i : Nat) : Ty := tyD N.types (segK N i)
def segU (N : Tab) (i : Nat) : Int := if i < N.chs.length then tAt N.chs i else 0
def erAt (N : Tab) (i : Nat) : Er := erOf (segT N i) (segU N i)
def ersUp (N : Tab) (k : Nat) : List Er := (List.range k).map (erAt N)
abbrev ersOf (N : Tab) : List Er := ersUp N (N.chs.length + 1)
theorem ersUp_snoc (N : Tab) (k : Nat) : ersUp N (k + 1) = ersUp N k ++ [erAt N k] := by simp [ersUp, List.range_succ]
theorem ersUp_length (N : Tab) (k : Nat) : (ersUp N k).length = k := by simp [ersUp]
def okSB (t : Int) : Bool := decide (-135140 <= t / 86400 /\ t / 86400 <= 157053)
noncomputable def backC (t : Tab) (nm : ByteArray) : Int :=
 if chk t ≠ 0 then chk t else if nameB nm = false then 3 else if 700 <= (normT t).chs.length then 2 else
 if (∃ c ∈ (normT t).chs, okSB c.t = false) then 1 else if (∃ i, i <= (normT t).chs.length /\ erOk (segT (normT t) i) = false) then 1 else 0
def erC (x : Er) : List Value := [.int .i64 x.off, .string x.rul, .int .i64 x.save, .string x.fmt, .int .i64 x.til]
def erCells (l : List Er) : List Value := l.flatMap erC
theorem erCells_snoc (l : List Er) (x : Er) : erCells (l ++ [x]) = erCells l ++ erC x := by simp [erCells]
theorem erCells_get : ∀ (l : List Er) (i : Nat) (h : i < l.length), (erCells l)[i * 5]? = some (.int .i64 l[i].off) /\ (erCells l)[i * 5 + 1]? = some (.string l[i].rul) /\ (erCells l)[i * 5 + 2]? = some (.int .i64 l[i].save) /\ (erCells l)[i * 5 + 3]? = some (.string l[i].fmt) /\ (erCells l)[i * 5 + 4]? = some (.int .i64 l[i].til)
 | [], i, h => by simp at h
 | x :: r, 0, _ => by simp [erCells, erC]
 | x :: r, i + 1, h => by
  have := erCells_get r i (by simpa using h)
  have e : erCells (x :: r) = erC x ++ erCells r := by simp [erCells]
  rw [e]
  have e3 : (erC x).length = 5 := rfl
  rw [List.getElem?_append_right (by rw [e3]; omega), List.getElem?_append_right (by rw [e3]; omega), List.getElem?_append_right (by rw [e3]; omega), List.getElem?_append_right (by rw [e3]; omega), List.getElem?_append_right (by rw [e3]; omega), e3,
   show (i + 1) * 5 - 5 = i * 5 by omega, show (i + 1) * 5 + 1 - 5 = i * 5 + 1 by omega, show (i + 1) * 5 + 2 - 5 = i * 5 + 2 by omega, show (i + 1) * 5 + 3 - 5 = i * 5 + 3 by omega, show (i + 1) * 5 + 4 - 5 = i * 5 + 4 by omega]
  simpa using this
def erAtW (w : World) (b o : Nat) (x : Er) : Prop :=
 w.cell? ⟨b, o, none⟩ = some (.int .i64 x.off) /\ w.cell? ⟨b, o + 1, none⟩ = some (.string x.rul) /\ w.cell? ⟨b, o + 2, none⟩ = some (.int .i64 x.save) /\ w.cell? ⟨b, o + 3, none⟩ = some (.string x.fmt) /\ w.cell? ⟨b, o + 4, none⟩ = some (.int .i64 x.til)
structure SlEr (w : World) (v : Value) (l : List Er) : Prop where
 shape : ∃ p cap, v = .slice p l.length cap /\ (l ≠ [] -> ∃ b o, p = some ⟨b, o, none⟩ /\ b < w.heap.size /\ ∀ i (h : i < l.length), erAtW w b (o + i * 5) l[i])
 size : l.length <= maxLen
theorem own_ers {W : World} {B : Nat} {v : Value} {l : List Er} (h : W.ownsRow B 43 5 v l.length (erCells l)) (hl : l.length <= maxLen) : SlEr W v l := by
 refine ⟨?_, hl⟩
 rcases own_cells h with ⟨rfl, h0⟩ | ⟨g, cap, rfl, hb, hg, hc⟩
 ·have : l = [] := List.eq_nil_of_length_eq_zero h0
  subst this
  exact ⟨none, 0, rfl, fun h => absurd rfl h⟩
 ·refine ⟨_, cap, rfl, fun _ => ⟨g, 0, rfl, hg, fun i hi => ?_⟩⟩
  obtain ⟨k1, k2, k3, k4, k5⟩ := erCells_get l i hi
  exact ⟨by rw [Nat.zero_add]; exact hc _ _ k1, by rw [Nat.zero_add]; exact hc _ _ k2, by rw [Nat.zero_add]; exact hc _ _ k3, by rw [Nat.zero_add]; exact hc _ _ k4, by rw [Nat.zero_add]; exact hc _ _ k5⟩
structure BkAt (W : World) (Z cz : Nat) (p : Option Addr) (ce : Nat) (nm : ByteArray) (L : List Er) : Prop where
 blk : W.heap[Z]? = some (.cells #[.string nm, .slice p L.length ce] 46 (0, 0))
 ers : SlEr W (.slice p L.length ce) L
 cap : L.length <= ce /\ 1 <= cz
theorem own_cap {W : World} {B : Nat} {e : TypeId} {s n c : Nat} {A : Option Addr} {xs : List Value} (h : W.ownsRow B e s (.slice A n c) n xs) : n <= c := by
 rcases h.2 with ⟨_, h0⟩ | ⟨g, cap, cur, e, _, _, hn, _⟩
 ·omega
 ·rw [Value.slice.injEq] at e
  obtain ⟨_, _, rfl⟩ := e
  exact hn
theorem BkAt.cells {W : World} {Z cz : Nat} {p : Option Addr} {ce : Nat} {nm : ByteArray} {L : List Er} (h : BkAt W Z cz p ce nm L) :
 W.cell? ⟨Z, 0, none⟩ = some (.string nm) /\ W.cell? ⟨Z, 1, none⟩ = some (.slice p L.length ce) /\ Z < W.heap.size :=
 ⟨(cell_of_row W _ 0 _ _ _ h.blk).trans rfl, (cell_of_row W _ 1 _ _ _ h.blk).trans rfl, (Array.getElem?_eq_some_iff.mp h.blk).1⟩
abbrev bkNone : Value := .agg #[.slice none 0 0, .slice none 0 0, .slice none 0 0]
abbrev bkV (Z cz : Nat) : Value := .agg #[.slice none 0 0, .slice (some ⟨Z, 0, none⟩) 1 cz, .slice none 0 0]
abbrev erV (x : Er) : Value := .agg #[.int .i64 x.off, .string x.rul, .int .i64 x.save, .string x.fmt, .int .i64 x.til]
theorem three_alB {w W3 : World} {o1 o2 : Obj} {o3 : Array Value} {T : TypeId} (e : ((w.alloc o1).alloc o2).alloc (.cells o3 T) = W3) :
 W3.heap.size = w.heap.size + 3 /\ W3.heap[w.heap.size + 1]? = some o2 /\ W3.heap[w.heap.size + 1 + 1]? = some (.cells o3 T (0, 0)) /\ Below w.heap.size w W3 := by
 subst e
 refine ⟨by simp, ?_, ?_, (((Below.refl _ _).alloc (Nat.le_refl _) _).alloc (by simp) _).alloc (by simp; omega) _⟩
 ·rw [Below.heap_alloc _ _ _ (by simp)]
  have := heap_alloc_new (w.alloc o1) o2
  simpa using this
 ·have := heap_alloc_new ((w.alloc o1).alloc o2) (.cells o3 T)
  simpa using this
theorem heap_setCB {w : World} {R i : Nat} {cs : Array Value} {T : TypeId} {f : Nat × Nat} (h : w.heap[R]? = some (.cells cs T f)) (v : Value) : (w.setCell ⟨R, i, none⟩ v).heap[R]? = some (.cells (cs.setIfInBounds i v) T f) := by
 simp [World.setCell, Array.getElem?_modify, h]
theorem cells5 {W : World} {B : Nat} {a b c d e : Value} {T : TypeId} (h : W.heap[B]? = some (.cells #[a, b, c, d, e] T (0, 0))) :
 W.cell? ⟨B, 0, none⟩ = some a /\ W.cell? ⟨B, 1, none⟩ = some b /\ W.cell? ⟨B, 2, none⟩ = some c /\ W.cell? ⟨B, 3, none⟩ = some d /\ W.cell? ⟨B, 4, none⟩ = some e /\ ∀ o, W.frozen? ⟨B, o, none⟩ = false :=
 ⟨(cell_of_row W _ 0 _ _ _ h).trans rfl, (cell_of_row W _ 1 _ _ _ h).trans rfl, (cell_of_row W _ 2 _ _ _ h).trans rfl, (cell_of_row W _ 3 _ _ _ h).trans rfl, (cell_of_row W _ 4 _ _ _ h).trans rfl, fun o => by simp [World.frozen?, h]⟩
theorem end_cells5 {W : World} {g : Nat} {a b c d e : Value} {T : TypeId} (h : W.heap[g]? = some (.cells #[a, b, c, d, e] T (0, 0))) (x y z u v : Value) :
 ∃ W', ((((W.setCell ⟨g, 0, none⟩ x).setCell ⟨g, 1, none⟩ y).setCell ⟨g, 2, none⟩ z).setCell ⟨g, 3, none⟩ u).setCell ⟨g, 4, none⟩ v = W' /\ (∀ B, B <= g -> Below B W W') /\ W'.heap[g]? = some (.cells #[x, y, z, u, v] T (0, 0)) := by
 refine ⟨_, rfl, fun B hB => (((((Below.refl _ _).setCell (by exact hB) _).setCell (by exact hB) _).setCell (by exact hB) _).setCell (by exact hB) _).setCell (by exact hB) _, ?_⟩
 rw [heap_setCB (heap_setCB (heap_setCB (heap_setCB (heap_setCB h x) y) z) u) v]
 rfl
theorem era_any (x : Ty) (w : World) (h1 : -75600 <= x.off) (h2 : x.off <= 75600) :
 Calls Tryz.prog 66 #[tyV x] w fun e w' => e = .returned (.tuple #[erV (erOf x 0), .bool (erOk x)]) /\ Below w.heap.size w w' := by
 obtain ⟨off, sv, nm⟩ := x
 simp only at h1 h2
 have HR : Hid (∀ b : Bool, erOk ⟨off, sv, nm⟩ = b -> Ending.returned (.tuple #[erV (erOf ⟨off, sv, nm⟩ 0), .bool b]) = Ending.returned (.tuple #[erV (erOf ⟨off, sv, nm⟩ 0), .bool (erOk ⟨off, sv, nm⟩)])) := by
  show ∀ b : Bool, _
  intro b h
  rw [h]
 cases sv
 ·obtain ⟨W3, e3⟩ : ∃ W3, ((w.alloc (.cells #[.int .i64 off, .bool false, .string nm] 51)).alloc (.cells #[.int .i64 0, .string ⟨#[]⟩, .int .i64 0, .string ⟨#[]⟩, .int .i64 0] 43)).alloc (.cells #[.int .i64 off, .string ⟨#[]⟩, .int .i64 0, .string nm, .int .i64 0] 43) = W3 := ⟨_, rfl⟩
  obtain ⟨hz, g1, g2, hb⟩ := three_alB e3
  have E3 := qH e3
  obtain ⟨y0, y1, y2, y3, y4, -⟩ := cells5 g2
  obtain ⟨z0, z1, z2, z3, z4, zf⟩ := cells5 g1
  have G1 := qH g1
  have HB := qH hb
  have zf0 := zf 0
  have zf1 := zf 1
  have zf2 := zf 2
  have zf3 := zf 3
  have zf4 := zf 4
  clear e3 g1 g2 hb zf
  by_cases c1 : -64800 <= off
  ·by_cases c2 : off <= 64800
   ·have hI : erOk ⟨off, false, nm⟩ = true := by unfold erOk erOff; simp only [Bool.false_eq_true, if_false]; exact decide_eq_true (by omega)
    have HI := qH hI
    clear hI
    go_enter Tryz.func66, Tryz.ntmps66
    go_upto_region 4 with fail
    rw [E3.out]
    go_region
    go_wp2
    obtain ⟨W9, e9, hb9, g9⟩ := end_cells5 G1.out (.int .i64 (off)) (.string ⟨#[]⟩) (.int .i64 0) (.string nm) (.int .i64 0)
    rw [e9]
    obtain ⟨v0, v1, v2, v3, v4, -⟩ := cells5 (W := W9.drew) g9
    refine bodyPost_ret (v := .tuple #[erV (erOf ⟨off, false, nm⟩ 0), .bool true]) (by simp [results, Tryz.results66, go_sem, v0, v1, v2, v3, v4, erOf, erOff, erSave]) rfl ⟨HR.out true HI.out, ?_⟩
    exact (HB.out.trans (hb9 _ (by omega))).drew
   ·have hI : erOk ⟨off, false, nm⟩ = false := by unfold erOk erOff; simp only [Bool.false_eq_true, if_false]; exact decide_eq_false (by omega)
    have HI := qH hI
    clear hI
    go_enter Tryz.func66, Tryz.ntmps66
    go_upto_region 4 with fail
    rw [E3.out]
    go_region
    go_wp2
    obtain ⟨W9, e9, hb9, g9⟩ := end_cells5 G1.out (.int .i64 (off)) (.string ⟨#[]⟩) (.int .i64 0) (.string nm) (.int .i64 0)
    rw [e9]
    obtain ⟨v0, v1, v2, v3, v4, -⟩ := cells5 (W := W9.drew) g9
    refine bodyPost_ret (v := .tuple #[erV (erOf ⟨off, false, nm⟩ 0), .bool false]) (by simp [results, Tryz.results66, go_sem, v0, v1, v2, v3, v4, erOf, erOff, erSave]) rfl ⟨HR.out false HI.out, ?_⟩
    exact (HB.out.trans (hb9 _ (by omega))).drew
  ·have hI : erOk ⟨off, false, nm⟩ = false := by unfold erOk erOff; simp only [Bool.false_eq_true, if_false]; exact decide_eq_false (by omega)
   have HI := qH hI
   clear hI
   go_enter Tryz.func66, Tryz.ntmps66
   go_upto_region 4 with fail
   rw [E3.out]
   go_region
   go_wp2
   obtain ⟨W9, e9, hb9, g9⟩ := end_cells5 G1.out (.int .i64 (off)) (.string ⟨#[]⟩) (.int .i64 0) (.string nm) (.int .i64 0)
   rw [e9]
   obtain ⟨v0, v1, v2, v3, v4, -⟩ := cells5 (W := W9.drew) g9
   refine bodyPost_ret (v := .tuple #[erV (erOf ⟨off, false, nm⟩ 0), .bool false]) (by simp [results, Tryz.results66, go_sem, v0, v1, v2, v3, v4, erOf, erOff, erSave]) rfl ⟨HR.out false HI.out, ?_⟩
   exact (HB.out.trans (hb9 _ (by omega))).drew
 ·obtain ⟨W3, e3⟩ : ∃ W3, ((w.alloc (.cells #[.int .i64 off, .bool true, .string nm] 51)).alloc (.cells #[.int .i64 0, .string ⟨#[]⟩, .int .i64 0, .string ⟨#[]⟩, .int .i64 0] 43)).alloc (.cells #[.int .i64 (off - 3600), .string ⟨#[]⟩, .int .i64 3600, .string nm, .int .i64 0] 43) = W3 := ⟨_, rfl⟩
  obtain ⟨hz, g1, g2, hb⟩ := three_alB e3
  have E3 := qH e3
  obtain ⟨y0, y1, y2, y3, y4, -⟩ := cells5 g2
  obtain ⟨z0, z1, z2, z3, z4, zf⟩ := cells5 g1
  have G1 := qH g1
  have HB := qH hb
  have zf0 := zf 0
  have zf1 := zf 1
  have zf2 := zf 2
  have zf3 := zf 3
  have zf4 := zf 4
  clear e3 g1 g2 hb zf
  by_cases c1 : -64800 <= off - 3600
  ·by_cases c2 : off - 3600 <= 64800
   ·have hI : erOk ⟨off, true, nm⟩ = true := by unfold erOk erOff; simp only [if_true]; exact decide_eq_true (by omega)
    have HI := qH hI
    clear hI
    go_enter Tryz.func66, Tryz.ntmps66
    go_upto_region 4 with fail
    rw [E3.out]
    go_region
    go_wp2
    obtain ⟨W9, e9, hb9, g9⟩ := end_cells5 G1.out (.int .i64 (off - 3600)) (.string ⟨#[]⟩) (.int .i64 3600) (.string nm) (.int .i64 0)
    rw [e9]
    obtain ⟨v0, v1, v2, v3, v4, -⟩ := cells5 (W := W9.drew) g9
    refine bodyPost_ret (v := .tuple #[erV (erOf ⟨off, true, nm⟩ 0), .bool true]) (by simp [results, Tryz.results66, go_sem, v0, v1, v2, v3, v4, erOf, erOff, erSave]) rfl ⟨HR.out true HI.out, ?_⟩
    exact (HB.out.trans (hb9 _ (by omega))).drew
   ·have hI : erOk ⟨off, true, nm⟩ = false := by unfold erOk erOff; simp only [if_true]; exact decide_eq_false (by omega)
    have HI := qH hI
    clear hI
    go_enter Tryz.func66, Tryz.ntmps66
    go_upto_region 4 with fail
    rw [E3.out]
    go_region
    go_wp2
    obtain ⟨W9, e9, hb9, g9⟩ := end_cells5 G1.out (.int .i64 (off - 3600)) (.string ⟨#[]⟩) (.int .i64 3600) (.string nm) (.int .i64 0)
    rw [e9]
    obtain ⟨v0, v1, v2, v3, v4, -⟩ := cells5 (W := W9.drew) g9
    refine bodyPost_ret (v := .tuple #[erV (erOf ⟨off, true, nm⟩ 0), .bool false]) (by simp [results, Tryz.results66, go_sem, v0, v1, v2, v3, v4, erOf, erOff, erSave]) rfl ⟨HR.out false HI.out, ?_⟩
    exact (HB.out.trans (hb9 _ (by omega))).drew
  ·have hI : erOk ⟨off, true, nm⟩ = false := by unfold erOk erOff; simp only [if_true]; exact decide_eq_false (by omega)
   have HI := qH hI
   clear hI
   go_enter Tryz.func66, Tryz.ntmps66
   go_upto_region 4 with fail
   rw [E3.out]
   go_region
   go_wp2
   obtain ⟨W9, e9, hb9, g9⟩ := end_cells5 G1.out (.int .i64 (off - 3600)) (.string ⟨#[]⟩) (.int .i64 3600) (.string nm) (.int .i64 0)
   rw [e9]
   obtain ⟨v0, v1, v2, v3, v4, -⟩ := cells5 (W := W9.drew) g9
   refine bodyPost_ret (v := .tuple #[erV (erOf ⟨off, true, nm⟩ 0), .bool false]) (by simp [results, Tryz.results66, go_sem, v0, v1, v2, v3, v4, erOf, erOff, erSave]) rfl ⟨HR.out false HI.out, ?_⟩
   exact (HB.out.trans (hb9 _ (by omega))).drew
def BkPost (t : Tab) (nm : ByteArray) (w : World) (e : Ending) (w' : World) : Prop :=
 Below w.heap.size w w' /\ ((backC t nm ≠ 0 /\ e = .returned (.tuple #[bkNone, .int .i64 (backC t nm)])) \/
  (backC t nm = 0 /\ ∃ Z cz p ce, e = .returned (.tuple #[bkV Z cz, .int .i64 0]) /\ BkAt w' Z cz p ce nm (ersOf (normT t))))
theorem two_alB {w W : World} {o1 o2 : Obj} (e : (w.alloc o1).alloc o2 = W) : W.heap.size = w.heap.size + 2 /\ W.heap[w.heap.size]? = some o1 /\ W.heap[w.heap.size + 1]? = some o2 /\ Below w.heap.size w W := by
 subst e
 refine ⟨by simp, ?_, ?_, ((Below.refl _ _).alloc (Nat.le_refl _) _).alloc (by simp) _⟩
 ·rw [Below.heap_alloc _ _ _ (by simp)]; exact heap_alloc_new w o1
 ·have := heap_alloc_new (w.alloc o1) o2
  simpa using this
structure BkM (w W : World) (p1 : Option Addr) (c1 : Nat) (p2 : Option Addr) (c2 : Nat) (t : Tab) : Prop where
 px : W.heap[w.heap.size]? = some (.cells #[.slice p1 t.types.length c1, .int .i64 t.first, .slice p2 t.chs.length c2] 58 (0, 0))
 r : W.heap[w.heap.size + 1]? = some (.cells #[.slice none 0 0, .slice none 0 0, .slice none 0 0] 26 (0, 0))
 tb : TabAt W (.agg #[.slice p1 t.types.length c1, .int .i64 t.first, .slice p2 t.chs.length c2]) t
 b : Below w.heap.size w W
theorem BkM.lt {w W : World} {p1 p2 : Option Addr} {c1 c2 : Nat} {t : Tab} (h : BkM w W p1 c1 p2 c2 t) : w.heap.size + 1 < W.heap.size := (Array.getElem?_eq_some_iff.mp h.r).1
theorem BkM.go {w W W' : World} {p1 p2 : Option Addr} {c1 c2 : Nat} {t : Tab} (h : BkM w W p1 c1 p2 c2 t) (hb : Below W.heap.size W W') : BkM w W' p1 c1 p2 c2 t :=
 ⟨(hb.block _ (Nat.lt_of_succ_lt h.lt)).trans h.px, (hb.block _ h.lt).trans h.r, h.tb.below hb, h.b.trans (hb.mono h.b.size)⟩
theorem BkM.cells {w W : World} {p1 p2 : Option Addr} {c1 c2 : Nat} {t : Tab} (h : BkM w W p1 c1 p2 c2 t) :
 W.cell? ⟨w.heap.size, 0, none⟩ = some (.slice p1 t.types.length c1) /\ W.cell? ⟨w.heap.size, 1, none⟩ = some (.int .i64 t.first) /\ W.cell? ⟨w.heap.size, 2, none⟩ = some (.slice p2 t.chs.length c2) /\ W.frozen? ⟨w.heap.size, 0, none⟩ = false /\ W.frozen? ⟨w.heap.size, 1, none⟩ = false /\ W.frozen? ⟨w.heap.size, 2, none⟩ = false /\ w.heap.size < W.heap.size :=
 ⟨(cell_of_row W _ 0 _ _ _ h.px).trans rfl, (cell_of_row W _ 1 _ _ _ h.px).trans rfl, (cell_of_row W _ 2 _ _ _ h.px).trans rfl, by simp [World.frozen?, h.px], by simp [World.frozen?, h.px], by simp [World.frozen?, h.px], Nat.lt_of_succ_lt h.lt⟩
theorem BkM.zero {w W : World} {p1 p2 : Option Addr} {c1 c2 : Nat} {t : Tab} (h : BkM w W p1 c1 p2 c2 t) :
 W.cell? ⟨w.heap.size + 1, 0, none⟩ = some (.slice none 0 0) /\ W.cell? ⟨w.heap.size + 1, 1, none⟩ = some (.slice none 0 0) /\ W.cell? ⟨w.heap.size + 1, 2, none⟩ = some (.slice none 0 0) /\ W.frozen? ⟨w.heap.size + 1, 0, none⟩ = false /\ W.frozen? ⟨w.heap.size + 1, 1, none⟩ = false /\ W.frozen? ⟨w.heap.size + 1, 2, none⟩ = false :=
 ⟨(cell_of_row W _ 0 _ _ _ h.r).trans rfl, (cell_of_row W _ 1 _ _ _ h.r).trans rfl, (cell_of_row W _ 2 _ _ _ h.r).trans rfl, by simp [World.frozen?, h.r], by simp [World.frozen?, h.r], by simp [World.frozen?, h.r]⟩
theorem end_cells3 {W : World} {g : Nat} {a b c : Value} {T : TypeId} (h : W.heap[g]? = some (.cells #[a, b, c] T (0, 0))) (x y z : Value) :
 ∃ W', ((W.setCell ⟨g, 0, none⟩ x).setCell ⟨g, 1, none⟩ y).setCell ⟨g, 2, none⟩ z = W' /\ (∀ B, B <= g -> Below B W W') /\ W'.heap[g]? = some (.cells #[x, y, z] T (0, 0)) /\ ∀ b, b ≠ g -> W'.heap[b]? = W.heap[b]? := by
 refine ⟨_, rfl, fun B hB => (((Below.refl _ _).setCell (by exact hB) _).setCell (by exact hB) _).setCell (by exact hB) _, ?_, fun b hb => (Below.heap_setCell _ _ _ _ hb).trans ((Below.heap_setCell _ _ _ _ hb).trans (Below.heap_setCell _ _ _ _ hb))⟩
 rw [heap_setCB (i := 2) (heap_setCB (i := 1) (heap_setCB (i := 0) h x) y) z]
 rfl
theorem BkM.out {w W : World} {p1 p2 : Option Addr} {c1 c2 : Nat} {t : Tab} (h : BkM w W p1 c1 p2 c2 t) (x y z : Value) :
 ∃ W', ((W.setCell ⟨w.heap.size + 1, 0, none⟩ x).setCell ⟨w.heap.size + 1, 1, none⟩ y).setCell ⟨w.heap.size + 1, 2, none⟩ z = W' /\ Below w.heap.size w W' /\
  W'.cell? ⟨w.heap.size + 1, 0, none⟩ = some x /\ W'.cell? ⟨w.heap.size + 1, 1, none⟩ = some y /\ W'.cell? ⟨w.heap.size + 1, 2, none⟩ = some z /\ ∀ b, b ≠ w.heap.size + 1 -> W'.heap[b]? = W.heap[b]? := by
 obtain ⟨W', e, hb, hr, ho⟩ := end_cells3 h.r x y z
 exact ⟨W', e, h.b.trans (hb _ (by omega)), (cell_of_row W' _ 0 _ _ _ hr).trans rfl, (cell_of_row W' _ 1 _ _ _ hr).trans rfl, (cell_of_row W' _ 2 _ _ _ hr).trans rfl, ho⟩
end Go.Proofs.YtomahddiclkepaaGreatDoor.BB
namespace Go.Proofs.YtomahddiclkepaaGreatDoor
open Go.RowKit Go.Joins Go.Maps
open Classical
def toEr (x : BB.Er) : Er := ⟨x.off, x.rul, x.save, x.fmt, x.til⟩
def bErs (N : Tab) : List Er := (List.range (N.chs.length + 1)).map fun i => toEr (BB.erAt N i)
theorem bErs_len (N : Tab) : (bErs N).length = N.chs.length + 1 := by simp [bErs]
theorem bErs_at (N : Tab) (k : Nat) (h : k < N.chs.length + 1) : eraAt (bErs N) k = toEr (BB.erAt N k) := by
 unfold eraAt bErs
 rw [List.getElem?_map, List.getElem?_range h]
 rfl
theorem segT_mem {N : Tab} (ok : OkTab N) (i : Nat) (hi : i <= N.chs.length) : BB.segT N i ∈ N.types := by
 have h : 0 <= BB.segK N i /\ BB.segK N i < N.types.length := by
  unfold BB.segK
  split
  ·exact ok.first
  ·have h : i - 1 < N.chs.length := by omega
   have := ok.ch N.chs[i - 1] (List.getElem_mem h)
   unfold kAt
   rw [List.getElem?_eq_getElem h]
   exact ⟨this.2.2.1, this.2.2.2⟩
 unfold BB.segT tyD
 have h2 : (BB.segK N i).toNat < N.types.length := by omega
 rw [List.getElem?_eq_getElem h2]
 exact List.getElem_mem h2
theorem er_off (x : Ty) (u : Int) : (toEr (BB.erOf x u)).off + (toEr (BB.erOf x u)).sv = x.off := by
 show BB.erOff x + BB.erSave x = x.off
 unfold BB.erOff BB.erSave
 split <;> omega
theorem er_sv (x : Ty) (u : Int) : decide (0 < (toEr (BB.erOf x u)).sv) = x.save := by
 show decide (0 < BB.erSave x) = x.save
 unfold BB.erSave
 cases x.save <;> decide
theorem er_svb (x : Ty) (u : Int) : 0 <= (toEr (BB.erOf x u)).sv /\ (toEr (BB.erOf x u)).sv <= 10800 := by
 show 0 <= BB.erSave x /\ BB.erSave x <= 10800
 unfold BB.erSave
 split <;> omega
theorem er_abE {x : Ty} (h : abbrB x.name = true) (u : Int) : abbrF (toEr (BB.erOf x u)).fm.data.toList (toEr (BB.erOf x u)).sv dashB.data.toList = (x.name.data.toList, 0) :=
 abbrF_self (f := x.name.data.toList) (by rw [show txt x.name.data.toList = x.name from by unfold txt; simp]; exact h) (er_svb x u).1 (er_svb x u).2
structure Bkd (N : Tab) (nm : ByteArray) : Prop where
 ok : OkTab N
 norm : normT N = N
 name : nameB nm = true
 len : N.chs.length < 700
 st : ∀ c ∈ N.chs, stampE c.t = 0
 er : ∀ i, i <= N.chs.length -> BB.erOk (BB.segT N i) = true
theorem bkd_of {t : Tab} {nm : ByteArray} (h : BB.backC t nm = 0) : Bkd (normT t) nm /\ chk t = 0 := by
 unfold BB.backC at h
 split at h
 ·exact absurd h (by assumption)
 rename_i h1
 split at h
 ·cases h
 rename_i h2
 split at h
 ·cases h
 rename_i h3
 split at h
 ·cases h
 rename_i h4
 split at h
 ·cases h
 rename_i h5
 have hc : chk t = 0 := Classical.not_not.1 h1
 refine ⟨⟨norm_ok t (chk_ok t hc), normT_norm t, by simpa using h2, by omega, fun c hc => ?_, fun i hi => ?_⟩, hc⟩
 ·have h6 : BB.okSB c.t = true := by
   cases e : BB.okSB c.t with
   | true => rfl
   | false => exact absurd ⟨c, hc, e⟩ h4
  unfold BB.okSB at h6
  unfold stampE
  rw [if_pos (of_decide_eq_true h6)]
 ·cases e : BB.erOk (BB.segT (normT t) i) with
  | true => rfl
  | false => exact absurd ⟨i, hi, e⟩ h5
theorem er_ruE (x : Ty) (u : Int) : (toEr (BB.erOf x u)).ru.data.toList = [] := rfl
theorem er_ruA (N : Tab) (i : Nat) : (toEr (BB.erAt N i)).ru.data.toList = [] := rfl
section
variable {N : Tab} {nm : ByteArray}
theorem bErs_ok (h : Bkd N nm) (k : Nat) (hk : k < N.chs.length + 1) : EraOk [] (eraAt (bErs N) k) := by
 rw [bErs_at N k hk]
 have hm := segT_mem h.ok k (by omega)
 have hn := (h.ok.type _ hm).2.2
 have ho := h.er k (by omega)
 unfold BB.erOk at ho
 have ho := of_decide_eq_true ho
 refine ⟨ho.1, ho.2, (er_svb _ _).1, (er_svb _ _).2, fun g => absurd rfl g, fun g => absurd rfl g, ?_⟩
 unfold abbrsChk
 rw [if_pos (er_ruA N k)]
 unfold abE
 exact congrArg Prod.snd (er_abE hn (BB.segU N k))
theorem bErs_un (h : Bkd N nm) (k : Nat) (hk : k < N.chs.length) : (eraAt (bErs N) k).un = tAt N.chs k := by
 rw [bErs_at N k (by omega)]
 show BB.segU N k = _
 unfold BB.segU
 rw [if_pos hk]
theorem tAt_memB (m : List Ch) (k : Nat) (hk : k < m.length) : ∃ c ∈ m, tAt m k = c.t := by
 refine ⟨m[k], List.getElem_mem hk, ?_⟩
 unfold tAt
 rw [List.getElem?_eq_getElem hk]
 rfl
theorem bErs_chk (h : Bkd N nm) (k : Nat) (hk : k < (bErs N).length) : eraChk [] (bErs N) k = 0 := by
 rw [bErs_len] at hk
 have e := bErs_ok h k hk
 have hl := bErs_len N
 unfold eraChk
 dsimp only
 rw [if_neg (by have := e.o1; have := e.o2; have := e.s1; have := e.s2; omega), if_neg (fun g => g.1 (e.sr g.2)), if_neg (fun g => g.1 (by rw [bErs_at N k hk]; rfl)), if_neg (fun g => g e.ab)]
 by_cases hkl : k + 1 = (bErs N).length
 ·rw [if_pos hkl, if_neg]
  intro g
  refine g ?_
  rw [bErs_at N k hk]
  show BB.segU N k = 0
  unfold BB.segU
  rw [if_neg (by omega)]
 ·rw [if_neg hkl]
  have hk2 : k < N.chs.length := by omega
  obtain ⟨c, hc, ec⟩ := tAt_memB N.chs k hk2
  have hs := h.st c hc
  have hb := stampE_bd hs
  rw [<- ec] at hs hb
  rw [bErs_un h k hk2, if_neg (by omega), if_neg (fun g => g hs), if_neg]
  rintro ⟨g1, g2⟩
  rw [bErs_un h (k - 1) (by omega)] at g2
  have := List.pairwise_iff_getElem.1 h.ok.rise (k - 1) k (by omega) hk2 (by omega)
  unfold tAt at g2
  rw [List.getElem?_eq_getElem hk2, List.getElem?_eq_getElem (show k - 1 < N.chs.length by omega)] at g2
  simp only [Option.map_some, Option.getD_some] at g2
  omega
theorem bBk_chk (h : Bkd N nm) (ev : Value) : bkChk (oneB [] nm ev (bErs N)) = 0 :=
 oneB_chk (by decide) (fun r hr => by cases hr) h.name (fun e => by have := bErs_len N; rw [e] at this; cases this) (by rw [bErs_len]; have := h.len; omega) (bErs_chk h)
theorem bErs_which (h : Bkd N nm) (y : Int) : whichF (bErs N) y = cntOf N.chs y := by
 unfold whichF cntOf
 rw [bErs_len, Nat.add_sub_cancel]
 unfold cntF
 refine List.countP_congr fun i hi => ?_
 simp only [bErs_un h i (List.mem_range.1 hi)]
theorem bErs_says (h : Bkd N nm) (y : Int) : stF [] (bErs N) y = tyOf N y := by
 have hw := bErs_which h y
 have hle := cntOf_le N.chs y
 unfold stF tdA
 rw [hw, bErs_at N _ (by omega)]
 have hm := segT_mem h.ok (cntOf N.chs y) hle
 have hn := (h.ok.type _ hm).2.2
 have e1 : tyOf N y = BB.segT N (cntOf N.chs y) := rfl
 rw [e1]
 generalize hx : BB.segT N (cntOf N.chs y) = x at *
 have e2 : BB.erAt N (cntOf N.chs y) = BB.erOf x (BB.segU N (cntOf N.chs y)) := by unfold BB.erAt; rw [hx]
 rw [e2]
 generalize BB.segU N (cntOf N.chs y) = u
 have e3 : tdR [] (toEr (BB.erOf x u)) = ⟨toEr (BB.erOf x u), [], dashB⟩ := by unfold tdR; rw [if_pos (er_ruE x u)]
 rw [e3]
 have e4 : svT ⟨toEr (BB.erOf x u), [], dashB⟩ y = ((toEr (BB.erOf x u)).sv, dashB) := rfl
 unfold tdTy nmT
 rw [e4]
 dsimp only
 rw [er_off, er_sv, er_abE hn]
 cases x
 simp only [Ty.mk.injEq, true_and]
 unfold txt
 simp
theorem bErs_tds (h : Bkd N nm) : TdsOk [] (bErs N) := by
 have ho := bk_eras (bBk_chk h undef) (z := ⟨nm, undef, bErs N⟩) (List.mem_singleton.2 rfl)
 refine tdsOk_of ho ?_
 rw [firstE_zero]
 intro x hx
 obtain ⟨i, hi, rfl⟩ := List.mem_map.1 hx
 unfold tdE
 rw [if_pos (er_ruA N i)]
theorem norm_made (h : Bkd N nm) {fr te : Int} (hc : ∀ c ∈ N.chs, fr < c.t /\ c.t < te) : normR (stF [] (bErs N) fr) (candsF [] (bErs N) fr te) = N := by
 have hd := bErs_tds h
 have hv : ∀ y, valL (resH N) (resL N) y = tyOf N y := fun y => (tyOf_valV N h.ok y).symm
 have hr : RiseL (resL N) := by
  unfold resL RiseL
  exact List.pairwise_map.2 h.ok.rise
 have h0 : stF [] (bErs N) fr = resH N := by
  rw [bErs_says h, <- hv]
  rcases valL_mem (resL N) fr (resH N) with e | ⟨c, hm, g, -⟩
  ·exact e
  ·obtain ⟨d, hd, rfl⟩ := List.mem_map.1 hm
   have := (hc d hd).1
   simp only at g
   omega
 have e1 : squ (stF [] (bErs N) fr) (candsF [] (bErs N) fr te) = squ (resH N) (resL N) := by
  refine rise_ext (chg_rise hd fr te) (squ_rise hr _) fun c => ?_
  rw [chg_mem hd fr te c, squ_mem hr c, hv, hv, bErs_says h, bErs_says h]
  constructor
  ·rintro ⟨-, -, a, b⟩; exact ⟨a, b⟩
  ·rintro ⟨a, b⟩
   have hin : ∃ d ∈ resL N, d.1 = c.1 := Classical.byContradiction fun g => a (by
    rw [<- hv, <- hv]
    exact valL_none (fun d hd e => g ⟨d, hd, e⟩) _)
   obtain ⟨d, hd, e⟩ := hin
   obtain ⟨q, hq, rfl⟩ := List.mem_map.1 hd
   have := hc q hq
   simp only at e
   rw [e] at this
   exact ⟨this.1, this.2, a, b⟩
 rw [<- normR_squ, e1, h0, normR_squ]
 exact h.norm
theorem back_made (h : Bkd N nm) (ev : Value) {fr te : Int} (hc : ∀ c ∈ N.chs, fr < c.t /\ c.t < te) (h1 : stampE fr = 0) (h2 : stampE te = 0) (h3 : fr < te) : mkT (oneB [] nm ev (bErs N)) nm fr te = (0, N) := by
 rw [mkT_of (oneB_rsv (bBk_chk h ev))]
 show mkE [] (bErs N) fr te = _
 unfold mkE
 have e := norm_made h hc
 have hd := (bErs_tds h)
 have he : firstE (tdE []) (bErs N) = 0 := by
  rw [firstE_zero]
  intro x hx
  obtain ⟨i, hi, rfl⟩ := List.mem_map.1 hx
  unfold tdE
  rw [if_pos (er_ruA N i)]
 rw [if_neg (fun g => g h1), if_neg (fun g => g h2), if_neg (by omega), if_neg (fun g => g he), e]
 rw [if_neg (by have := h.ok.many; have := h.ok.chs; omega)]
theorem back_state (h : Bkd N nm) (ev : Value) {y : Int} (h1 : stampE y = 0) : stR (oneB [] nm ev (bErs N)) nm y = (0, tyOf N y) := by
 unfold stR
 rw [oneB_rsv (bBk_chk h ev)]
 dsimp only
 rw [if_neg (fun g => g h1)]
 have he : tdE (oneB [] nm ev (bErs N)).rules (eraAt (bErs N) (whichF (bErs N) y)) = 0 := by
  have hw := bErs_which h y
  have := cntOf_le N.chs y
  rw [bErs_at N _ (by omega)]
  unfold tdE
  rw [if_pos (er_ruA N _)]
 rw [if_neg (fun g => g he)]
 have := bErs_says h y
 unfold stF tdA at this
 exact congrArg (Prod.mk (0 : Int)) this
end
end Go.Proofs.YtomahddiclkepaaGreatDoor
namespace Go.Proofs.YtomahddiclkepaaGreatDoor
open Go.RowKit
theorem Search_any (g : Nat) (cb : Array Value) (n : Nat) (p : Nat -> Bool) (w : World) (eg : ∀ args w, (callFunc g args).run Tryz.prog w = .ok (.enter g args) w) (hsz : n < 4611686018427387904)
 (hf : ∀ (W : World) (i : Nat), Below w.heap.size w W -> i < n -> Calls Tryz.prog g (#[.int .i64 i] ++ cb) W fun e w' => e = .returned (.bool (p i)) /\ Below W.heap.size W w')
 (hmono : ∀ a b, a <= b -> b < n -> p a = true -> p b = true) :
 Calls Tryz.prog 103 #[.int .i64 n, .func (.func g) #[] cb] w fun e w' => e = .returned (.int .i64 (cntF p n : Nat)) /\ Below w.heap.size w w' := by
 have HF := qH hf
 have M := qH hmono
 clear hf hmono
 obtain ⟨cnt, hcnt⟩ : ∃ cnt, cntF p n = cnt := ⟨_, rfl⟩
 rw [hcnt]
 have CN := qH hcnt
 clear hcnt
 go_enter Tryz.func103, Tryz.ntmps103
 go_wp2
 go_loopg [5, 6] n (fun kx s5 s6 wr => ∃ (lo hi : Nat), s5 = .int .i64 lo /\ s6 = .int .i64 hi /\ lo <= hi /\ hi <= n /\ hi - lo <= kx /\ Below w.heap.size w wr /\
  Hid ((∀ t, t < lo -> p t = false) /\ (∀ t, hi <= t -> t < n -> p t = true)))
 case atStart => exact ⟨0, n, rfl, rfl, Nat.zero_le _, Nat.le_refl _, by omega, Below.refl _ _, (⟨fun t ht => absurd ht (Nat.not_lt_zero _), fun t h1 h2 => by omega⟩ : (∀ t, t < 0 -> p t = false) /\ (∀ t, n <= t -> t < n -> p t = true))⟩
 case round =>
  obtain ⟨lo, hi, rfl, rfl, hlh, hin, hg, hbel, I⟩ := hrel
  by_cases hlt : lo < hi
  ·have hc := HF.out wr ((lo + hi) / 2) hbel (by omega)
   rw [show (((lo + hi) / 2 : Nat) : Int) = ((lo : Int) + (hi : Int)) / 2 by omega] at hc
   have HB := qH hbel
   clear hbel
   cases hp : p ((lo + hi) / 2) <;> rw [hp] at hc
   ·have HP := qH hp
    clear hp
    go_wp2_with (go_at_fn g; refine hc.mono ?_; rintro e w' ⟨rfl, hb2⟩)
    go_roundg (hi - ((lo + hi) / 2 + 1))
    case measure => omega
    case rel =>
     have I2 : Hid ((∀ t, t < (lo + hi) / 2 + 1 -> p t = false) /\ (∀ t, hi <= t -> t < n -> p t = true)) := ⟨fun t ht => (by
      cases h : p t with
      | false => rfl
      | true => have := M.out t ((lo + hi) / 2) (by omega) (by omega) h; rw [HP.out] at this; cases this), I.out.2⟩
     exact ⟨(lo + hi) / 2 + 1, hi, by rw [show ((lo : Int) + (hi : Int)) / 2 + 1 = (((lo + hi) / 2 + 1 : Nat) : Int) by omega], rfl, by omega, hin, Nat.le_refl _, HB.out.trans (hb2.mono HB.out.size), I2⟩
   ·have HP := qH hp
    clear hp
    go_wp2_with (go_at_fn g; refine hc.mono ?_; rintro e w' ⟨rfl, hb2⟩)
    go_roundg ((lo + hi) / 2 - lo)
    case measure => omega
    case rel =>
     have I2 : Hid ((∀ t, t < lo -> p t = false) /\ (∀ t, (lo + hi) / 2 <= t -> t < n -> p t = true)) := ⟨I.out.1, fun t ht htn => M.out ((lo + hi) / 2) t ht htn HP.out⟩
     exact ⟨lo, (lo + hi) / 2, rfl, by rw [show ((lo : Int) + (hi : Int)) / 2 = (((lo + hi) / 2 : Nat) : Int) by omega], by omega, by omega, Nat.le_refl _, HB.out.trans (hb2.mono HB.out.size), I2⟩
  ·obtain rfl : hi = lo := by omega
   have ecnt : cnt = hi := by rw [<- CN.out]; exact cntF_boundary p n hi hin I.out.1 I.out.2
   subst ecnt
   go_wp2
   go_ret
   exact ⟨rfl, hbel⟩
theorem Of1_any (bt bx b2 o2 n cap : Nat) (x y : Int) (i : Nat) (W : World) (hi : i < n)
 (ht : W.cell? ⟨bt, 2, none⟩ = some (.slice (some ⟨b2, o2, none⟩) n cap)) (hx : W.cell? ⟨bx, 0, none⟩ = some (.int .i64 x)) (hc : W.cell? ⟨b2, o2 + i * 2, none⟩ = some (.int .i64 y)) :
 Calls Tryz.prog 110 (#[.int .i64 i] ++ #[.pointer (some ⟨bt, 0, none⟩), .pointer (some ⟨bx, 0, none⟩)]) W fun e w' => e = .returned (.bool (decide (x < y))) /\ Below W.heap.size W w' := by
 have hiz : (i : Int) < (n : Int) := by omega
 go_enter Tryz.func110, Tryz.ntmps110
 go_wp2
 go_quiet (fail)
 go_wp2
 go_ret
 exact ⟨rfl, below_drewN' (Below.refl _ _) _⟩
theorem Of_chs (l : List Ty) (f : Nat) (m : List Ch) (x : Int) (b o cap b2 o2 cap2 : Nat) (w : World) (hb : b < w.heap.size) (hty : ∀ i (h : i < l.length), tyAt w b (o + i * 3) l[i])
 (hb2 : b2 < w.heap.size) (hch : ∀ i (h : i < m.length), chAt w b2 (o2 + i * 2) m[i]) (hf : f < l.length) (hk : ∀ i, i < m.length -> 0 <= kAt m i /\ kAt m i < l.length) (hsz : m.length <= 1000) (hl : l.length <= 250)
 (hsort : ∀ i j, i <= j -> j < m.length -> tAt m i <= tAt m j) (T : Ty) (hT : tyD l (kOf f m x) = T) :
 Calls Tryz.prog 52 #[.agg #[.slice (some ⟨b, o, none⟩) l.length cap, .int .i64 f, .slice (some ⟨b2, o2, none⟩) m.length cap2], .int .i64 x] w fun e w' => e = .returned (tyV T) /\ Below w.heap.size w w' := by
 obtain ⟨W0, hW0⟩ : ∃ W0, ((w.alloc (.cells #[.slice (some ⟨b, o, none⟩) l.length cap, .int .i64 f, .slice (some ⟨b2, o2, none⟩) m.length cap2] 58)).alloc (.cells #[.int .i64 x] 3)).alloc (.cells #[.int .i64 0, .bool false, .string ⟨#[]⟩] 51) = W0 := ⟨_, rfl⟩
 have hB0 : Below w.heap.size w W0 := by rw [<- hW0]; exact (((Below.refl _ w).alloc (Nat.le_refl _) _).alloc (by simp) _).alloc (by simp; omega) _
 have hS0 : W0.heap.size = w.heap.size + 3 := by rw [<- hW0]; simp
 have q2 : W0.cell? ⟨w.heap.size, 2, none⟩ = some (.slice (some ⟨b2, o2, none⟩) m.length cap2) := by rw [<- hW0]; simp [go_sem]
 have q0 : W0.cell? ⟨w.heap.size, 0, none⟩ = some (.slice (some ⟨b, o, none⟩) l.length cap) := by rw [<- hW0]; simp [go_sem]
 have q1 : W0.cell? ⟨w.heap.size, 1, none⟩ = some (.int .i64 f) := by rw [<- hW0]; simp [go_sem]
 have qx : W0.cell? ⟨w.heap.size + 1, 0, none⟩ = some (.int .i64 x) := by rw [<- hW0]; simp [go_sem]
 have r0 : W0.cell? ⟨w.heap.size + 1 + 1, 0, none⟩ = some (.int .i64 0) := by rw [<- hW0]; simp [go_sem]
 have r1 : W0.cell? ⟨w.heap.size + 1 + 1, 1, none⟩ = some (.bool false) := by rw [<- hW0]; simp [go_sem]
 have r2 : W0.cell? ⟨w.heap.size + 1 + 1, 2, none⟩ = some (.string ⟨#[]⟩) := by rw [<- hW0]; simp [go_sem]
 have z0 : ∀ j, W0.frozen? ⟨w.heap.size + 1 + 1, j, none⟩ = false := by intro j; rw [<- hW0]; simp [go_sem]
 have eg : ∀ args w, (callFunc 110 args).run Tryz.prog w = .ok (.enter 110 args) w := enters_of Tryz.func110 (by kernel_rfl) rfl
 have hS := Search_any 110 #[.pointer (some ⟨w.heap.size, 0, none⟩), .pointer (some ⟨w.heap.size + 1, 0, none⟩)] m.length (fun i => decide (x < tAt m i)) W0 eg (by omega)
  (fun W i hbW hi => Of1_any w.heap.size (w.heap.size + 1) b2 o2 m.length cap2 x (tAt m i) i W hi ((hbW.cell (by show w.heap.size < _; omega)).trans q2) ((hbW.cell (by show w.heap.size + 1 < _; omega)).trans qx)
    ((hbW.cell (by show b2 < _; omega)).trans ((hB0.cell (by exact hb2)).trans (by rw [(hch i hi).1]; simp [tAt, hi]))))
  (fun i j hij hj h => by
    have := hsort i j hij hj
    simp only [decide_eq_true_eq] at h ⊢; omega)
 have hle := cntOf_le m x
 have hcd : cntF (fun i => decide (x < tAt m i)) m.length = cntOf m x := rfl
 rw [hcd] at hS
 obtain ⟨c, hc⟩ : ∃ c, cntOf m x = c := ⟨_, rfl⟩
 rw [hc] at hS hle
 unfold kOf at hT
 rw [hc] at hT
 have HS := qH hS
 have HW0 := qH hW0
 have HTY := qH hty
 have HCH := qH hch
 have HK := qH hk
 have HT := qH hT
 have Q0 := qH q0
 have Q1 := qH q1
 have Q2 := qH q2
 have R0 := qH r0
 have R1 := qH r1
 have R2 := qH r2
 have Z0 := qH z0
 have S0 := qH hS0
 clear hS hW0 hty hch hk hsort eg hcd hc hT q0 q1 q2 qx r0 r1 r2 z0 hS0
 cases c with
 | zero =>
  have hT2 : Hid (l[f] = T) := by
   have := HT.out
   rw [if_pos rfl] at this
   show l[f] = T
   rw [<- this]; simp [tyD, hf]
  have hat := HTY.out f hf
  rw [hT2.out] at hat
  go_enter Tryz.func52, Tryz.ntmps52
  go_wp2_with fail
  rw [HW0.out]
  refine HS.out.mono ?_
  rintro e w1 ⟨rfl, hb1⟩
  have s0 := S0.out
  obtain ⟨c0, c1, c2⟩ := (hat.mono hB0 hb).mono hb1 (by omega)
  have q0 := (hb1.cell (p := ⟨w.heap.size, 0, none⟩) (by show w.heap.size < _; omega)).trans Q0.out
  have q1 := (hb1.cell (p := ⟨w.heap.size, 1, none⟩) (by show w.heap.size < _; omega)).trans Q1.out
  have r0 := (hb1.cell (p := ⟨w.heap.size + 1 + 1, 0, none⟩) (by show w.heap.size + 1 + 1 < _; omega)).trans R0.out
  have r1 := (hb1.cell (p := ⟨w.heap.size + 1 + 1, 1, none⟩) (by show w.heap.size + 1 + 1 < _; omega)).trans R1.out
  have r2 := (hb1.cell (p := ⟨w.heap.size + 1 + 1, 2, none⟩) (by show w.heap.size + 1 + 1 < _; omega)).trans R2.out
  have f0 := (hb1.frozen (p := ⟨w.heap.size + 1 + 1, 0, none⟩) (by show w.heap.size + 1 + 1 < _; omega)).trans (Z0.out 0)
  have f1 := (hb1.frozen (p := ⟨w.heap.size + 1 + 1, 1, none⟩) (by show w.heap.size + 1 + 1 < _; omega)).trans (Z0.out 1)
  have f2 := (hb1.frozen (p := ⟨w.heap.size + 1 + 1, 2, none⟩) (by show w.heap.size + 1 + 1 < _; omega)).trans (Z0.out 2)
  have hB1 := hB0.trans (hb1.mono (by omega))
  have HB1 := qH hB1
  clear hb1 hB1 s0
  go_wp2
  refine bodyPost_ret (v := tyV T) (by simp [results, Tryz.results52, go_sem, r0, r1, r2]) rfl ⟨rfl, ?_⟩
  exact ((HB1.out.setCell (by simp; omega) _).setCell (by simp; omega) _).setCell (by simp; omega) _
 | succ c =>
  have hcm : c < m.length := by omega
  have hk2 := HK.out c hcm
  obtain ⟨kn, hkn⟩ := Int.eq_ofNat_of_zero_le hk2.1
  rw [hkn] at hk2
  have hkl : kn < l.length := by omega
  have hT2 : Hid (l[kn] = T) := by
   have := HT.out
   rw [if_neg (by omega), Nat.add_sub_cancel, hkn] at this
   show l[kn] = T
   rw [<- this]; simp [tyD, hkl]
  have ek : m[c].k = kn := by rw [<- hkn]; simp [kAt, hcm]
  have EK := qH ek
  have hat := HTY.out kn hkl
  rw [hT2.out] at hat
  have hac := HCH.out c hcm
  have p1 : IntKind.i64.wrap ((c : Int) + 1 - 1) = (c : Int) := by rw [show (c : Int) + 1 - 1 = c by omega]; exact IntWalk.i64_in _ (by omega)
  have p2 : (c : Int) < (m.length : Int) := by omega
  have p3 : (kn : Int) < (l.length : Int) := by omega
  have p4 : (((c : Int) + 1) == 0) = false := by simp; omega
  clear hk2 hkn ek
  go_enter Tryz.func52, Tryz.ntmps52
  go_wp2_with fail
  rw [HW0.out]
  refine HS.out.mono ?_
  rintro e w1 ⟨rfl, hb1⟩
  have s0 := S0.out
  obtain ⟨c0, c1, c2⟩ := (hat.mono hB0 hb).mono hb1 (by omega)
  have d1 := (hac.mono hB0 hb2).mono hb1 (by omega)
  have d2 := d1.2
  rw [EK.out] at d2
  clear d1
  have q2 := (hb1.cell (p := ⟨w.heap.size, 2, none⟩) (by show w.heap.size < _; omega)).trans Q2.out
  have q0 := (hb1.cell (p := ⟨w.heap.size, 0, none⟩) (by show w.heap.size < _; omega)).trans Q0.out
  have q1 := (hb1.cell (p := ⟨w.heap.size, 1, none⟩) (by show w.heap.size < _; omega)).trans Q1.out
  have r0 := (hb1.cell (p := ⟨w.heap.size + 1 + 1, 0, none⟩) (by show w.heap.size + 1 + 1 < _; omega)).trans R0.out
  have r1 := (hb1.cell (p := ⟨w.heap.size + 1 + 1, 1, none⟩) (by show w.heap.size + 1 + 1 < _; omega)).trans R1.out
  have r2 := (hb1.cell (p := ⟨w.heap.size + 1 + 1, 2, none⟩) (by show w.heap.size + 1 + 1 < _; omega)).trans R2.out
  have f0 := (hb1.frozen (p := ⟨w.heap.size + 1 + 1, 0, none⟩) (by show w.heap.size + 1 + 1 < _; omega)).trans (Z0.out 0)
  have f1 := (hb1.frozen (p := ⟨w.heap.size + 1 + 1, 1, none⟩) (by show w.heap.size + 1 + 1 < _; omega)).trans (Z0.out 1)
  have f2 := (hb1.frozen (p := ⟨w.heap.size + 1 + 1, 2, none⟩) (by show w.heap.size + 1 + 1 < _; omega)).trans (Z0.out 2)
  have hB1 := hB0.trans (hb1.mono (by omega))
  have HB1 := qH hB1
  clear hb1 hB1 s0
  rw [show (((c + 1 : Nat)) : Int) = (c : Int) + 1 by omega]
  go_wp2
  go_region
  all_goals
   go_wp2
   refine bodyPost_ret (v := tyV T) (by simp [results, Tryz.results52, go_sem, r0, r1, r2]) rfl ⟨rfl, ?_⟩
   exact ((HB1.out.drew.setCell (by simp; omega) _).setCell (by simp; omega) _).setCell (by simp; omega) _
theorem Of_nochs (l : List Ty) (f : Nat) (x : Int) (b o cap cap2 : Nat) (p2 : Option Addr) (w : World) (hb : b < w.heap.size) (hty : ∀ i (h : i < l.length), tyAt w b (o + i * 3) l[i])
 (hf : f < l.length) (hl : l.length <= 250) (T : Ty) (hT : tyD l f = T) :
 Calls Tryz.prog 52 #[.agg #[.slice (some ⟨b, o, none⟩) l.length cap, .int .i64 f, .slice p2 0 cap2], .int .i64 x] w fun e w' => e = .returned (tyV T) /\ Below w.heap.size w w' := by
 obtain ⟨W0, hW0⟩ : ∃ W0, ((w.alloc (.cells #[.slice (some ⟨b, o, none⟩) l.length cap, .int .i64 f, .slice p2 0 cap2] 58)).alloc (.cells #[.int .i64 x] 3)).alloc (.cells #[.int .i64 0, .bool false, .string ⟨#[]⟩] 51) = W0 := ⟨_, rfl⟩
 have hB0 : Below w.heap.size w W0 := by rw [<- hW0]; exact (((Below.refl _ w).alloc (Nat.le_refl _) _).alloc (by simp) _).alloc (by simp; omega) _
 have hS0 : W0.heap.size = w.heap.size + 3 := by rw [<- hW0]; simp
 have q2 : W0.cell? ⟨w.heap.size, 2, none⟩ = some (.slice p2 0 cap2) := by rw [<- hW0]; simp [go_sem]
 have q0 : W0.cell? ⟨w.heap.size, 0, none⟩ = some (.slice (some ⟨b, o, none⟩) l.length cap) := by rw [<- hW0]; simp [go_sem]
 have q1 : W0.cell? ⟨w.heap.size, 1, none⟩ = some (.int .i64 f) := by rw [<- hW0]; simp [go_sem]
 have qx : W0.cell? ⟨w.heap.size + 1, 0, none⟩ = some (.int .i64 x) := by rw [<- hW0]; simp [go_sem]
 have r0 : W0.cell? ⟨w.heap.size + 1 + 1, 0, none⟩ = some (.int .i64 0) := by rw [<- hW0]; simp [go_sem]
 have r1 : W0.cell? ⟨w.heap.size + 1 + 1, 1, none⟩ = some (.bool false) := by rw [<- hW0]; simp [go_sem]
 have r2 : W0.cell? ⟨w.heap.size + 1 + 1, 2, none⟩ = some (.string ⟨#[]⟩) := by rw [<- hW0]; simp [go_sem]
 have z0 : ∀ j, W0.frozen? ⟨w.heap.size + 1 + 1, j, none⟩ = false := by intro j; rw [<- hW0]; simp [go_sem]
 have eg : ∀ args w, (callFunc 110 args).run Tryz.prog w = .ok (.enter 110 args) w := enters_of Tryz.func110 (by kernel_rfl) rfl
 have hS := Search_any 110 #[.pointer (some ⟨w.heap.size, 0, none⟩), .pointer (some ⟨w.heap.size + 1, 0, none⟩)] 0 (fun i => true) W0 eg (by omega) (fun W i hbW hi => absurd hi (by omega)) (fun i j hij hj h => absurd hj (by omega))
 have hcd : cntF (fun i => true) 0 = 0 := rfl
 rw [hcd] at hS
 have HS := qH hS
 have HW0 := qH hW0
 have HTY := qH hty
 have HT := qH hT
 have Q0 := qH q0
 have Q1 := qH q1
 have R0 := qH r0
 have R1 := qH r1
 have R2 := qH r2
 have Z0 := qH z0
 have S0 := qH hS0
 clear hS hW0 hty eg hcd hT q0 q1 q2 qx r0 r1 r2 z0 hS0
 have hT2 : Hid (l[f] = T) := by
  show l[f] = T
  rw [<- HT.out]; simp [tyD, hf]
 have hat := HTY.out f hf
 rw [hT2.out] at hat
 go_enter Tryz.func52, Tryz.ntmps52
 go_wp2_with fail
 rw [HW0.out]
 refine HS.out.mono ?_
 rintro e w1 ⟨rfl, hb1⟩
 have s0 := S0.out
 obtain ⟨c0, c1, c2⟩ := (hat.mono hB0 hb).mono hb1 (by omega)
 have q0 := (hb1.cell (p := ⟨w.heap.size, 0, none⟩) (by show w.heap.size < _; omega)).trans Q0.out
 have q1 := (hb1.cell (p := ⟨w.heap.size, 1, none⟩) (by show w.heap.size < _; omega)).trans Q1.out
 have r0 := (hb1.cell (p := ⟨w.heap.size + 1 + 1, 0, none⟩) (by show w.heap.size + 1 + 1 < _; omega)).trans R0.out
 have r1 := (hb1.cell (p := ⟨w.heap.size + 1 + 1, 1, none⟩) (by show w.heap.size + 1 + 1 < _; omega)).trans R1.out
 have r2 := (hb1.cell (p := ⟨w.heap.size + 1 + 1, 2, none⟩) (by show w.heap.size + 1 + 1 < _; omega)).trans R2.out
 have f0 := (hb1.frozen (p := ⟨w.heap.size + 1 + 1, 0, none⟩) (by show w.heap.size + 1 + 1 < _; omega)).trans (Z0.out 0)
 have f1 := (hb1.frozen (p := ⟨w.heap.size + 1 + 1, 1, none⟩) (by show w.heap.size + 1 + 1 < _; omega)).trans (Z0.out 1)
 have f2 := (hb1.frozen (p := ⟨w.heap.size + 1 + 1, 2, none⟩) (by show w.heap.size + 1 + 1 < _; omega)).trans (Z0.out 2)
 have hB1 := hB0.trans (hb1.mono (by omega))
 have HB1 := qH hB1
 clear hb1 hB1 s0
 go_wp2
 refine bodyPost_ret (v := tyV T) (by simp [results, Tryz.results52, go_sem, r0, r1, r2]) rfl ⟨rfl, ?_⟩
 exact ((HB1.out.setCell (by simp; omega) _).setCell (by simp; omega) _).setCell (by simp; omega) _
theorem Of_any (t : Tab) (v : Value) (x : Int) (w : World) (hv : TabAt w v t) (hok : chk t = 0) :
 Calls Tryz.prog 52 #[v, .int .i64 x] w fun e w' => e = .returned (tyV (tyOf t x)) /\ Below w.heap.size w w' := by
 have ok := chk_ok t hok
 obtain ⟨sv, cv, rfl, ⟨⟨p, cap, rfl, hs⟩, hl1, hnm⟩, ⟨⟨p2, cap2, rfl, hc⟩, hl2⟩⟩ := hv.val
 obtain ⟨b, o, rfl, hb, hty⟩ := hs ok.ne
 obtain ⟨l, f, m⟩ := t
 obtain ⟨h1, h2, h3, h4, h5, h6, h7⟩ := ok
 dsimp only at h1 h2 h3 h4 h5 h6 h7 hs hc hty hl1 hl2 hnm ⊢
 obtain ⟨fn, hfn⟩ := Int.eq_ofNat_of_zero_le h5.1
 subst hfn
 by_cases hm : m = []
 ·subst hm
  exact Of_nochs l fn x b o cap cap2 p2 w hb hty (by omega) h2 _ rfl
 ·obtain ⟨b2, o2, rfl, hb2, hch⟩ := hc hm
  exact Of_chs l fn m x b o cap b2 o2 cap2 w hb hty hb2 hch (by omega) (fun i hi => by
   have := h6 m[i] (List.getElem_mem hi)
   simp [kAt, hi]; omega) h3 h2 (fun i j hij hj => tAt_mono m h7 i j hij hj) _ rfl
theorem TabAt.parts {w : World} {v : Value} {t : Tab} (h : TabAt w v t) : ∃ sv cv, v = .agg #[sv, .int .i64 t.first, cv] := by
 obtain ⟨sv, cv, hv, _, _⟩ := h.val
 exact ⟨sv, cv, hv⟩
end Go.Proofs.YtomahddiclkepaaGreatDoor
namespace Go.Proofs.YtomahddiclkepaaGreatDoor
open Go.RowKit Go.Joins
theorem box3 {w W0 : World} {a b c : Value} {T : TypeId} (h : w.alloc (.cells #[a, b, c] T) = W0) :
 Below w.heap.size w W0 /\ W0.heap.size = w.heap.size + 1 /\ W0.cell? ⟨w.heap.size, 0, none⟩ = some a /\ W0.cell? ⟨w.heap.size, 1, none⟩ = some b /\ W0.cell? ⟨w.heap.size, 2, none⟩ = some c := by
 subst h
 exact ⟨(Below.refl _ _).alloc (Nat.le_refl _) _, by simp, by simp [go_sem], by simp [go_sem], by simp [go_sem]⟩
end Go.Proofs.YtomahddiclkepaaGreatDoor
namespace Go.Proofs.YtomahddiclkepaaGreatDoor
open Go.RowKit Go.Shelf
attribute [local go_sem] Oper.semAt_some
def frAt (m : List Ch) : Nat -> Int
 | 0 => -4611686018427387904
 | k + 1 => tAt m k
def idAt (f : Int) (m : List Ch) : Nat -> Int
 | 0 => f
 | k + 1 => kAt m k
attribute [local go_sem] Oper.semAt_some
attribute [local go_sem] Oper.semAt_some
theorem boundary_ex (p : Nat -> Bool) : ∀ (n : Nat), (∀ a b, a <= b -> b < n -> p a = true -> p b = true) -> ∃ h, h <= n /\ (∀ t, t < h -> p t = false) /\ (∀ t, h <= t -> t < n -> p t = true)
 | 0, _ => ⟨0, Nat.le_refl _, fun t h => absurd h (Nat.not_lt_zero _), fun t _ h => absurd h (Nat.not_lt_zero _)⟩
 | n + 1, hm => by
  obtain ⟨h, h1, h2, h3⟩ := boundary_ex p n (fun a b hab hb => hm a b hab (by omega))
  by_cases e : h = n
  ·subst e
   cases hp : p h
   ·refine ⟨h + 1, Nat.le_refl _, fun t ht => ?_, fun t h4 h5 => by omega⟩
    by_cases e2 : t = h
    ·rw [e2]; exact hp
    ·exact h2 t (by omega)
   ·refine ⟨h, by omega, h2, fun t h4 h5 => ?_⟩
    obtain rfl : t = h := by omega
    exact hp
  ·refine ⟨h, by omega, h2, fun t h4 h5 => ?_⟩
   by_cases e2 : t = n
   ·subst e2
    exact hm h t h4 (by omega) (h3 h (Nat.le_refl _) (by omega))
   ·exact h3 t h4 (by omega)
theorem tAt_in (m : List Ch) (i : Nat) (h : i < m.length) : tAt m i = m[i].t := by simp [tAt, h]
theorem cnt_mono (t : Tab) (ok : OkTab t) (y : Int) : ∀ a b, a <= b -> b < t.chs.length -> decide (y < tAt t.chs a) = true -> decide (y < tAt t.chs b) = true := by
 intro a b hab hb h
 have := tAt_mono t.chs ok.rise a b hab hb
 simp only [decide_eq_true_eq] at h ⊢
 omega
theorem cntOf_spec (t : Tab) (ok : OkTab t) (y : Int) : cntOf t.chs y <= t.chs.length /\ (∀ i, i < cntOf t.chs y -> tAt t.chs i <= y) /\ (∀ i, cntOf t.chs y <= i -> i < t.chs.length -> y < tAt t.chs i) := by
 obtain ⟨h, h1, h2, h3⟩ := boundary_ex (fun i => decide (y < tAt t.chs i)) t.chs.length (cnt_mono t ok y)
 have e : cntOf t.chs y = h := cntF_boundary _ _ _ h1 h2 h3
 rw [e]
 exact ⟨h1, fun i hi => by simpa using h2 i hi, fun i hi hl => by simpa using h3 i hi hl⟩
theorem tyOf_piece (t : Tab) (y : Int) : tyOf t y = tyD t.types (idAt t.first t.chs (cntOf t.chs y)) := by
 unfold tyOf kOf
 cases e : cntOf t.chs y with
 | zero => rfl
 | succ j => simp [idAt]
end Go.Proofs.YtomahddiclkepaaGreatDoor
namespace Go.Proofs.YtomahddiclkepaaGreatDoor
open Classical
theorem valL_take (m : List Ch) (T : List Ty) (y : Int) (f : Int) : ∀ n, n <= m.length -> (∀ i, i < n -> tAt m i <= y) -> valL (tyD T f) ((m.take n).map fun c => (c.t, tyD T c.k)) y = tyD T (idAt f m n) := by
 intro n
 induction n with
 | zero => intro _ _; simp [valL, idAt]
 | succ n ih =>
  intro hn h
  have hlt : n < m.length := by omega
  have e := ih (by omega) (fun i hi => h i (by omega))
  rw [List.take_succ_eq_append_getElem hlt, List.map_append]
  unfold valL at e ⊢
  rw [List.foldl_append, e]
  have := h n (by omega)
  rw [tAt_in m n hlt] at this
  simp only [List.map_cons, List.map_nil, List.foldl_cons, List.foldl_nil, if_pos this]
  simp [idAt, kAt, hlt]
theorem tyOf_val (t : Tab) (ok : OkTab t) (y : Int) : tyOf t y = valL (resH t) (resL t) y := by
 obtain ⟨c1, c2, c3⟩ := cntOf_spec t ok y
 rw [tyOf_piece]
 have e1 := valL_take t.chs t.types y t.first (cntOf t.chs y) c1 c2
 have e2 : resL t = (t.chs.take (cntOf t.chs y)).map (fun c => (c.t, tyD t.types c.k)) ++ (t.chs.drop (cntOf t.chs y)).map (fun c => (c.t, tyD t.types c.k)) := by
  rw [<- List.map_append, List.take_append_drop]; rfl
 rw [e2]
 unfold resH
 have e3 : ∀ a b : List (Int × Ty), valL (tyD t.types t.first) (a ++ b) y = valL (valL (tyD t.types t.first) a y) b y := fun a b => by unfold valL; rw [List.foldl_append]
 rw [e3, e1, valL_late]
 intro c hc
 obtain ⟨d, hd, rfl⟩ := List.mem_map.1 hc
 obtain ⟨i, hi, rfl⟩ := List.getElem_of_mem hd
 rw [List.getElem_drop]
 have := c3 (cntOf t.chs y + i) (by omega) (by simp at hi; omega)
 rw [tAt_in _ _ (by simp at hi; omega)] at this
 exact this
theorem norm_says (t : Tab) (ok : OkTab t) (y : Int) : tyOf (normT t) y = tyOf t y := by
 rw [tyOf_val _ (norm_ok t ok), tyOf_val t ok]
 have e1 : resL (normT t) = squ (resH t) (resL t) := resL_norm _ _
 have e2 : resH (normT t) = resH t := resH_norm _ _
 rw [e1, e2]
 exact valL_squ _ _ _ _ (resL_rise t ok) (.inl rfl)
end Go.Proofs.YtomahddiclkepaaGreatDoor
