/- Eras of a table: plain Lean, and in memory; back.era. rule.IsName; back.Book: its memory. day.Check and day.within: what each returns. rule: what Check returns: the plain mathematics. Numbers as digits, cuts and beginnings of texts: plain Lean. SpanOdd: its walk. SpanHours: its walk. book: what Abbr and Check return: plain functions. book.within, isLetter, split: what each returns. book.split: what it returns. -/
import Derived.Test.YtomahddiclkepaaGreatDoorQa02
import Derived.BigQuiet
import Derived.Deep.DeepCutAuto
import Derived.Handy
import Derived.Test.YtomahddiclkepaaGreatDoorCiv0
import Derived.Lib.IndexMore
import Derived.Lib.Strings
import Derived.Test.YtomahddiclkepaaGreatDoorCiv2
namespace Go.Proofs.YtomahddiclkepaaGreatDoor.BB
open Go.RowKit Go.Joins
open Classical
set_option linter.unusedVariables false
set_option linter.unusedSimpArgs false
structure Er where
 (off : Int)
 (rul : ByteArray)
 (save : Int)
 (fmt : ByteArray)
 (til : Int)
def erOff (x : Ty) : Int := if x.save = true then x.off - 3600 else x.off
def erSave (x : Ty) : Int := if x.save = true then 3600 else 0
def erOk (x : Ty) : Bool := decide (-64800 ≤ erOff x ∧ erOff x ≤ 64800)
def erOf (x : Ty) (u : Int) : Er := ⟨erOff x, ⟨#[]⟩, erSave x, x.name, u⟩
def segK (N : Tab) (i : Nat) : Int := if i = 0 then N.first else kAt N.chs (i - 1)
def segT (N : Tab) (i : Nat) : Ty := tyD N.types (segK N i)
def segU (N : Tab) (i : Nat) : Int := if i < N.chs.length then tAt N.chs i else 0
def erAt (N : Tab) (i : Nat) : Er := erOf (segT N i) (segU N i)
def ersUp (N : Tab) (k : Nat) : List Er := (List.range k).map (erAt N)
abbrev ersOf (N : Tab) : List Er := ersUp N (N.chs.length + 1)
theorem ersUp_snoc (N : Tab) (k : Nat) : ersUp N (k + 1) = ersUp N k ++ [erAt N k] := by simp [ersUp, List.range_succ]
theorem ersUp_length (N : Tab) (k : Nat) : (ersUp N k).length = k := by simp [ersUp]
def okSB (t : Int) : Bool := decide (-135140 ≤ t / 86400 ∧ t / 86400 ≤ 157053)
noncomputable def backC (t : Tab) (nm : ByteArray) : Int :=
 if chk t ≠ 0 then chk t else if nameB nm = false then 3 else if 700 ≤ (normT t).chs.length then 2 else
 if (∃ c ∈ (normT t).chs, okSB c.t = false) then 1 else if (∃ i, i ≤ (normT t).chs.length ∧ erOk (segT (normT t) i) = false) then 1 else 0
def erC (x : Er) : List Value := [.int .i64 x.off, .string x.rul, .int .i64 x.save, .string x.fmt, .int .i64 x.til]
def erCells (l : List Er) : List Value := l.flatMap erC
theorem erCells_snoc (l : List Er) (x : Er) : erCells (l ++ [x]) = erCells l ++ erC x := by simp [erCells]
theorem erCells_get : ∀ (l : List Er) (i : Nat) (h : i < l.length), (erCells l)[i * 5]? = some (.int .i64 l[i].off) ∧ (erCells l)[i * 5 + 1]? = some (.string l[i].rul) ∧ (erCells l)[i * 5 + 2]? = some (.int .i64 l[i].save) ∧ (erCells l)[i * 5 + 3]? = some (.string l[i].fmt) ∧ (erCells l)[i * 5 + 4]? = some (.int .i64 l[i].til)
 | [], i, h => by simp at h
 | x :: r, 0, _ => by simp [erCells, erC]
 | x :: r, i + 1, h => by
  have := erCells_get r i (by simpa using h)
  have e : erCells (x :: r) = erC x ++ erCells r := by simp [erCells]
  rw [e]
  have e3 : (erC x).length = 5 := rfl
  rw [List.getElem?_append_right (by rw [e3]; omega), List.getElem?_append_right (by rw [e3]; omega), List.getElem?_append_right (by rw [e3]; omega), List.getElem?_append_right (by rw [e3]; omega), List.getElem?_append_right (by rw [e3]; omega), e3,
   show (i + 1) * 5 - 5 = i * 5 by omega, show (i + 1) * 5 + 1 - 5 = i * 5 + 1 by omega, show (i + 1) * 5 + 2 - 5 = i * 5 + 2 by omega, show (i + 1) * 5 + 3 - 5 = i * 5 + 3 by omega, show (i + 1) * 5 + 4 - 5 = i * 5 + 4 by omega]
  simpa using this
def erAtW (w : World) (b o : Nat) (x : Er) : Prop :=
 w.cell? ⟨b, o, none⟩ = some (.int .i64 x.off) ∧ w.cell? ⟨b, o + 1, none⟩ = some (.string x.rul) ∧ w.cell? ⟨b, o + 2, none⟩ = some (.int .i64 x.save) ∧ w.cell? ⟨b, o + 3, none⟩ = some (.string x.fmt) ∧ w.cell? ⟨b, o + 4, none⟩ = some (.int .i64 x.til)
theorem erAtW.below {w w' : World} {b o : Nat} {x : Er} (h : erAtW w b o x) (hb : Below w.heap.size w w') (hlt : b < w.heap.size) : erAtW w' b o x :=
 ⟨(hb.cell (p := ⟨b, o, none⟩) hlt).trans h.1, (hb.cell (p := ⟨b, o + 1, none⟩) hlt).trans h.2.1, (hb.cell (p := ⟨b, o + 2, none⟩) hlt).trans h.2.2.1, (hb.cell (p := ⟨b, o + 3, none⟩) hlt).trans h.2.2.2.1, (hb.cell (p := ⟨b, o + 4, none⟩) hlt).trans h.2.2.2.2⟩
structure SlEr (w : World) (v : Value) (l : List Er) : Prop where
 shape : ∃ p cap, v = .slice p l.length cap ∧ (l ≠ [] → ∃ b o, p = some ⟨b, o, none⟩ ∧ b < w.heap.size ∧ ∀ i (h : i < l.length), erAtW w b (o + i * 5) l[i])
 size : l.length ≤ maxLen
theorem SlEr.below {w w' : World} {v : Value} {l : List Er} (h : SlEr w v l) (hb : Below w.heap.size w w') : SlEr w' v l := by
 obtain ⟨⟨p, cap, hv, hc⟩, h2⟩ := h
 refine ⟨⟨p, cap, hv, fun hne => ?_⟩, h2⟩
 obtain ⟨b, o, hp, hlt, hat⟩ := hc hne
 exact ⟨b, o, hp, Nat.lt_of_lt_of_le hlt hb.size, fun i h => (hat i h).below hb hlt⟩
theorem own_ers {W : World} {B : Nat} {v : Value} {l : List Er} (h : W.ownsRow B 43 5 v l.length (erCells l)) (hl : l.length ≤ maxLen) : SlEr W v l := by
 refine ⟨?_, hl⟩
 rcases own_cells h with ⟨rfl, h0⟩ | ⟨g, cap, rfl, hb, hg, hc⟩
 ·have : l = [] := List.eq_nil_of_length_eq_zero h0
  subst this
  exact ⟨none, 0, rfl, fun h => absurd rfl h⟩
 ·refine ⟨_, cap, rfl, fun _ => ⟨g, 0, rfl, hg, fun i hi => ?_⟩⟩
  obtain ⟨k1, k2, k3, k4, k5⟩ := erCells_get l i hi
  exact ⟨by rw [Nat.zero_add]; exact hc _ _ k1, by rw [Nat.zero_add]; exact hc _ _ k2, by rw [Nat.zero_add]; exact hc _ _ k3, by rw [Nat.zero_add]; exact hc _ _ k4, by rw [Nat.zero_add]; exact hc _ _ k5⟩
structure BkAt (W : World) (Z cz : Nat) (p : Option Addr) (ce : Nat) (nm : ByteArray) (L : List Er) : Prop where
 blk : W.heap[Z]? = some (.cells #[.string nm, .slice p L.length ce] 46 (0, 0))
 ers : SlEr W (.slice p L.length ce) L
 cap : L.length ≤ ce ∧ 1 ≤ cz
theorem own_cap {W : World} {B : Nat} {e : TypeId} {s n c : Nat} {A : Option Addr} {xs : List Value} (h : W.ownsRow B e s (.slice A n c) n xs) : n ≤ c := by
 rcases h.2 with ⟨_, h0⟩ | ⟨g, cap, cur, e, _, _, hn, _⟩
 ·omega
 ·rw [Value.slice.injEq] at e
  obtain ⟨_, _, rfl⟩ := e
  exact hn
theorem BkAt.below {W W' : World} {Z cz : Nat} {p : Option Addr} {ce : Nat} {nm : ByteArray} {L : List Er} (h : BkAt W Z cz p ce nm L) (hb : Below W.heap.size W W') : BkAt W' Z cz p ce nm L :=
 ⟨(hb.block _ (Array.getElem?_eq_some_iff.mp h.blk).1).trans h.blk, h.ers.below hb, h.cap⟩
theorem BkAt.cells {W : World} {Z cz : Nat} {p : Option Addr} {ce : Nat} {nm : ByteArray} {L : List Er} (h : BkAt W Z cz p ce nm L) :
  W.cell? ⟨Z, 0, none⟩ = some (.string nm) ∧ W.cell? ⟨Z, 1, none⟩ = some (.slice p L.length ce) ∧ Z < W.heap.size :=
 ⟨(cell_of_row W _ 0 _ _ _ h.blk).trans rfl, (cell_of_row W _ 1 _ _ _ h.blk).trans rfl, (Array.getElem?_eq_some_iff.mp h.blk).1⟩
abbrev bkNone : Value := .agg #[.slice none 0 0, .slice none 0 0, .slice none 0 0]
abbrev bkV (Z cz : Nat) : Value := .agg #[.slice none 0 0, .slice (some ⟨Z, 0, none⟩) 1 cz, .slice none 0 0]
abbrev erV (x : Er) : Value := .agg #[.int .i64 x.off, .string x.rul, .int .i64 x.save, .string x.fmt, .int .i64 x.til]
theorem three_alB {w W3 : World} {o1 o2 : Obj} {o3 : Array Value} {T : TypeId} (e : ((w.alloc o1).alloc o2).alloc (.cells o3 T) = W3) :
  W3.heap.size = w.heap.size + 3 ∧ W3.heap[w.heap.size + 1]? = some o2 ∧ W3.heap[w.heap.size + 1 + 1]? = some (.cells o3 T (0, 0)) ∧ Below w.heap.size w W3 := by
 subst e
 refine ⟨by simp, ?_, ?_, (((Below.refl _ _).alloc (Nat.le_refl _) _).alloc (by simp) _).alloc (by simp; omega) _⟩
 ·rw [Below.heap_alloc _ _ _ (by simp)]
  have := heap_alloc_new (w.alloc o1) o2
  simpa using this
 ·have := heap_alloc_new ((w.alloc o1).alloc o2) (.cells o3 T)
  simpa using this
theorem heap_setCB {w : World} {R i : Nat} {cs : Array Value} {T : TypeId} {f : Nat × Nat} (h : w.heap[R]? = some (.cells cs T f)) (v : Value) : (w.setCell ⟨R, i, none⟩ v).heap[R]? = some (.cells (cs.setIfInBounds i v) T f) := by
 simp [World.setCell, Array.getElem?_modify, h]
theorem cells5 {W : World} {B : Nat} {a b c d e : Value} {T : TypeId} (h : W.heap[B]? = some (.cells #[a, b, c, d, e] T (0, 0))) :
  W.cell? ⟨B, 0, none⟩ = some a ∧ W.cell? ⟨B, 1, none⟩ = some b ∧ W.cell? ⟨B, 2, none⟩ = some c ∧ W.cell? ⟨B, 3, none⟩ = some d ∧ W.cell? ⟨B, 4, none⟩ = some e ∧ ∀ o, W.frozen? ⟨B, o, none⟩ = false :=
 ⟨(cell_of_row W _ 0 _ _ _ h).trans rfl, (cell_of_row W _ 1 _ _ _ h).trans rfl, (cell_of_row W _ 2 _ _ _ h).trans rfl, (cell_of_row W _ 3 _ _ _ h).trans rfl, (cell_of_row W _ 4 _ _ _ h).trans rfl, fun o => by simp [World.frozen?, h]⟩
theorem end_cells5 {W : World} {g : Nat} {a b c d e : Value} {T : TypeId} (h : W.heap[g]? = some (.cells #[a, b, c, d, e] T (0, 0))) (x y z u v : Value) :
  ∃ W', ((((W.setCell ⟨g, 0, none⟩ x).setCell ⟨g, 1, none⟩ y).setCell ⟨g, 2, none⟩ z).setCell ⟨g, 3, none⟩ u).setCell ⟨g, 4, none⟩ v = W' ∧ (∀ B, B ≤ g → Below B W W') ∧ W'.heap[g]? = some (.cells #[x, y, z, u, v] T (0, 0)) := by
 refine ⟨_, rfl, fun B hB => (((((Below.refl _ _).setCell (by exact hB) _).setCell (by exact hB) _).setCell (by exact hB) _).setCell (by exact hB) _).setCell (by exact hB) _, ?_⟩
 rw [heap_setCB (heap_setCB (heap_setCB (heap_setCB (heap_setCB h x) y) z) u) v]
 rfl
set_option maxRecDepth 100000 in
set_option maxHeartbeats 4000000 in
theorem era_any (x : Ty) (w : World) (h1 : -75600 ≤ x.off) (h2 : x.off ≤ 75600) :
  Calls Tryz.prog 66 #[tyV x] w fun e w' => e = .returned (.tuple #[erV (erOf x 0), .bool (erOk x)]) ∧ Below w.heap.size w w' := by
 obtain ⟨off, sv, nm⟩ := x
 simp only at h1 h2
 have HR : Hid (∀ b : Bool, erOk ⟨off, sv, nm⟩ = b → Ending.returned (.tuple #[erV (erOf ⟨off, sv, nm⟩ 0), .bool b]) = Ending.returned (.tuple #[erV (erOf ⟨off, sv, nm⟩ 0), .bool (erOk ⟨off, sv, nm⟩)])) := by
  show ∀ b : Bool, _
  intro b h
  rw [h]
 cases sv
 ·obtain ⟨W3, e3⟩ : ∃ W3, ((w.alloc (.cells #[.int .i64 off, .bool false, .string nm] 51)).alloc (.cells #[.int .i64 0, .string ⟨#[]⟩, .int .i64 0, .string ⟨#[]⟩, .int .i64 0] 43)).alloc (.cells #[.int .i64 off, .string ⟨#[]⟩, .int .i64 0, .string nm, .int .i64 0] 43) = W3 := ⟨_, rfl⟩
  obtain ⟨hz, g1, g2, hb⟩ := three_alB e3
  have E3 := Lib.hid e3
  obtain ⟨y0, y1, y2, y3, y4, -⟩ := cells5 g2
  obtain ⟨z0, z1, z2, z3, z4, zf⟩ := cells5 g1
  have G1 := Lib.hid g1
  have HB := Lib.hid hb
  have zf0 := zf 0
  have zf1 := zf 1
  have zf2 := zf 2
  have zf3 := zf 3
  have zf4 := zf 4
  clear e3 g1 g2 hb zf
  by_cases c1 : -64800 ≤ off
  ·by_cases c2 : off ≤ 64800
   ·have hI : erOk ⟨off, false, nm⟩ = true := by unfold erOk erOff; simp only [Bool.false_eq_true, if_false]; exact decide_eq_true (by omega)
    have HI := Lib.hid hI
    clear hI
    go_enter Tryz.func66, Tryz.ntmps66
    go_upto_region 4 with fail
    rw [E3.out]
    go_region
    go_wp2
    obtain ⟨W9, e9, hb9, g9⟩ := end_cells5 G1.out (.int .i64 (off)) (.string ⟨#[]⟩) (.int .i64 0) (.string nm) (.int .i64 0)
    rw [e9]
    obtain ⟨v0, v1, v2, v3, v4, -⟩ := cells5 (W := W9.drew) g9
    refine bodyPost_ret (v := .tuple #[erV (erOf ⟨off, false, nm⟩ 0), .bool true]) (by simp [results, Tryz.results66, go_sem, v0, v1, v2, v3, v4, erOf, erOff, erSave]) rfl ⟨HR.out true HI.out, ?_⟩
    exact (HB.out.trans (hb9 _ (by omega))).drew
   ·have hI : erOk ⟨off, false, nm⟩ = false := by unfold erOk erOff; simp only [Bool.false_eq_true, if_false]; exact decide_eq_false (by omega)
    have HI := Lib.hid hI
    clear hI
    go_enter Tryz.func66, Tryz.ntmps66
    go_upto_region 4 with fail
    rw [E3.out]
    go_region
    go_wp2
    obtain ⟨W9, e9, hb9, g9⟩ := end_cells5 G1.out (.int .i64 (off)) (.string ⟨#[]⟩) (.int .i64 0) (.string nm) (.int .i64 0)
    rw [e9]
    obtain ⟨v0, v1, v2, v3, v4, -⟩ := cells5 (W := W9.drew) g9
    refine bodyPost_ret (v := .tuple #[erV (erOf ⟨off, false, nm⟩ 0), .bool false]) (by simp [results, Tryz.results66, go_sem, v0, v1, v2, v3, v4, erOf, erOff, erSave]) rfl ⟨HR.out false HI.out, ?_⟩
    exact (HB.out.trans (hb9 _ (by omega))).drew
  ·have hI : erOk ⟨off, false, nm⟩ = false := by unfold erOk erOff; simp only [Bool.false_eq_true, if_false]; exact decide_eq_false (by omega)
   have HI := Lib.hid hI
   clear hI
   go_enter Tryz.func66, Tryz.ntmps66
   go_upto_region 4 with fail
   rw [E3.out]
   go_region
   go_wp2
   obtain ⟨W9, e9, hb9, g9⟩ := end_cells5 G1.out (.int .i64 (off)) (.string ⟨#[]⟩) (.int .i64 0) (.string nm) (.int .i64 0)
   rw [e9]
   obtain ⟨v0, v1, v2, v3, v4, -⟩ := cells5 (W := W9.drew) g9
   refine bodyPost_ret (v := .tuple #[erV (erOf ⟨off, false, nm⟩ 0), .bool false]) (by simp [results, Tryz.results66, go_sem, v0, v1, v2, v3, v4, erOf, erOff, erSave]) rfl ⟨HR.out false HI.out, ?_⟩
   exact (HB.out.trans (hb9 _ (by omega))).drew
 ·obtain ⟨W3, e3⟩ : ∃ W3, ((w.alloc (.cells #[.int .i64 off, .bool true, .string nm] 51)).alloc (.cells #[.int .i64 0, .string ⟨#[]⟩, .int .i64 0, .string ⟨#[]⟩, .int .i64 0] 43)).alloc (.cells #[.int .i64 (off - 3600), .string ⟨#[]⟩, .int .i64 3600, .string nm, .int .i64 0] 43) = W3 := ⟨_, rfl⟩
  obtain ⟨hz, g1, g2, hb⟩ := three_alB e3
  have E3 := Lib.hid e3
  obtain ⟨y0, y1, y2, y3, y4, -⟩ := cells5 g2
  obtain ⟨z0, z1, z2, z3, z4, zf⟩ := cells5 g1
  have G1 := Lib.hid g1
  have HB := Lib.hid hb
  have zf0 := zf 0
  have zf1 := zf 1
  have zf2 := zf 2
  have zf3 := zf 3
  have zf4 := zf 4
  clear e3 g1 g2 hb zf
  by_cases c1 : -64800 ≤ off - 3600
  ·by_cases c2 : off - 3600 ≤ 64800
   ·have hI : erOk ⟨off, true, nm⟩ = true := by unfold erOk erOff; simp only [if_true]; exact decide_eq_true (by omega)
    have HI := Lib.hid hI
    clear hI
    go_enter Tryz.func66, Tryz.ntmps66
    go_upto_region 4 with fail
    rw [E3.out]
    go_region
    go_wp2
    obtain ⟨W9, e9, hb9, g9⟩ := end_cells5 G1.out (.int .i64 (off - 3600)) (.string ⟨#[]⟩) (.int .i64 3600) (.string nm) (.int .i64 0)
    rw [e9]
    obtain ⟨v0, v1, v2, v3, v4, -⟩ := cells5 (W := W9.drew) g9
    refine bodyPost_ret (v := .tuple #[erV (erOf ⟨off, true, nm⟩ 0), .bool true]) (by simp [results, Tryz.results66, go_sem, v0, v1, v2, v3, v4, erOf, erOff, erSave]) rfl ⟨HR.out true HI.out, ?_⟩
    exact (HB.out.trans (hb9 _ (by omega))).drew
   ·have hI : erOk ⟨off, true, nm⟩ = false := by unfold erOk erOff; simp only [if_true]; exact decide_eq_false (by omega)
    have HI := Lib.hid hI
    clear hI
    go_enter Tryz.func66, Tryz.ntmps66
    go_upto_region 4 with fail
    rw [E3.out]
    go_region
    go_wp2
    obtain ⟨W9, e9, hb9, g9⟩ := end_cells5 G1.out (.int .i64 (off - 3600)) (.string ⟨#[]⟩) (.int .i64 3600) (.string nm) (.int .i64 0)
    rw [e9]
    obtain ⟨v0, v1, v2, v3, v4, -⟩ := cells5 (W := W9.drew) g9
    refine bodyPost_ret (v := .tuple #[erV (erOf ⟨off, true, nm⟩ 0), .bool false]) (by simp [results, Tryz.results66, go_sem, v0, v1, v2, v3, v4, erOf, erOff, erSave]) rfl ⟨HR.out false HI.out, ?_⟩
    exact (HB.out.trans (hb9 _ (by omega))).drew
  ·have hI : erOk ⟨off, true, nm⟩ = false := by unfold erOk erOff; simp only [if_true]; exact decide_eq_false (by omega)
   have HI := Lib.hid hI
   clear hI
   go_enter Tryz.func66, Tryz.ntmps66
   go_upto_region 4 with fail
   rw [E3.out]
   go_region
   go_wp2
   obtain ⟨W9, e9, hb9, g9⟩ := end_cells5 G1.out (.int .i64 (off - 3600)) (.string ⟨#[]⟩) (.int .i64 3600) (.string nm) (.int .i64 0)
   rw [e9]
   obtain ⟨v0, v1, v2, v3, v4, -⟩ := cells5 (W := W9.drew) g9
   refine bodyPost_ret (v := .tuple #[erV (erOf ⟨off, true, nm⟩ 0), .bool false]) (by simp [results, Tryz.results66, go_sem, v0, v1, v2, v3, v4, erOf, erOff, erSave]) rfl ⟨HR.out false HI.out, ?_⟩
   exact (HB.out.trans (hb9 _ (by omega))).drew
def BkPost (t : Tab) (nm : ByteArray) (w : World) (e : Ending) (w' : World) : Prop :=
 Below w.heap.size w w' ∧ ((backC t nm ≠ 0 ∧ e = .returned (.tuple #[bkNone, .int .i64 (backC t nm)])) ∨
  (backC t nm = 0 ∧ ∃ Z cz p ce, e = .returned (.tuple #[bkV Z cz, .int .i64 0]) ∧ BkAt w' Z cz p ce nm (ersOf (normT t))))
theorem two_alB {w W : World} {o1 o2 : Obj} (e : (w.alloc o1).alloc o2 = W) : W.heap.size = w.heap.size + 2 ∧ W.heap[w.heap.size]? = some o1 ∧ W.heap[w.heap.size + 1]? = some o2 ∧ Below w.heap.size w W := by
 subst e
 refine ⟨by simp, ?_, ?_, ((Below.refl _ _).alloc (Nat.le_refl _) _).alloc (by simp) _⟩
 ·rw [Below.heap_alloc _ _ _ (by simp)]; exact heap_alloc_new w o1
 ·have := heap_alloc_new (w.alloc o1) o2
  simpa using this
structure BkM (w W : World) (p1 : Option Addr) (c1 : Nat) (p2 : Option Addr) (c2 : Nat) (t : Tab) : Prop where
 px : W.heap[w.heap.size]? = some (.cells #[.slice p1 t.types.length c1, .int .i64 t.first, .slice p2 t.chs.length c2] 58 (0, 0))
 r : W.heap[w.heap.size + 1]? = some (.cells #[.slice none 0 0, .slice none 0 0, .slice none 0 0] 26 (0, 0))
 tb : TabAt W (.agg #[.slice p1 t.types.length c1, .int .i64 t.first, .slice p2 t.chs.length c2]) t
 b : Below w.heap.size w W
theorem BkM.lt {w W : World} {p1 p2 : Option Addr} {c1 c2 : Nat} {t : Tab} (h : BkM w W p1 c1 p2 c2 t) : w.heap.size + 1 < W.heap.size := (Array.getElem?_eq_some_iff.mp h.r).1
theorem BkM.go {w W W' : World} {p1 p2 : Option Addr} {c1 c2 : Nat} {t : Tab} (h : BkM w W p1 c1 p2 c2 t) (hb : Below W.heap.size W W') : BkM w W' p1 c1 p2 c2 t :=
 ⟨(hb.block _ (Nat.lt_of_succ_lt h.lt)).trans h.px, (hb.block _ h.lt).trans h.r, h.tb.below hb, h.b.trans (hb.mono h.b.size)⟩
theorem BkM.cells {w W : World} {p1 p2 : Option Addr} {c1 c2 : Nat} {t : Tab} (h : BkM w W p1 c1 p2 c2 t) :
  W.cell? ⟨w.heap.size, 0, none⟩ = some (.slice p1 t.types.length c1) ∧ W.cell? ⟨w.heap.size, 1, none⟩ = some (.int .i64 t.first) ∧ W.cell? ⟨w.heap.size, 2, none⟩ = some (.slice p2 t.chs.length c2) ∧ W.frozen? ⟨w.heap.size, 0, none⟩ = false ∧ W.frozen? ⟨w.heap.size, 1, none⟩ = false ∧ W.frozen? ⟨w.heap.size, 2, none⟩ = false ∧ w.heap.size < W.heap.size :=
 ⟨(cell_of_row W _ 0 _ _ _ h.px).trans rfl, (cell_of_row W _ 1 _ _ _ h.px).trans rfl, (cell_of_row W _ 2 _ _ _ h.px).trans rfl, by simp [World.frozen?, h.px], by simp [World.frozen?, h.px], by simp [World.frozen?, h.px], Nat.lt_of_succ_lt h.lt⟩
theorem BkM.zero {w W : World} {p1 p2 : Option Addr} {c1 c2 : Nat} {t : Tab} (h : BkM w W p1 c1 p2 c2 t) :
  W.cell? ⟨w.heap.size + 1, 0, none⟩ = some (.slice none 0 0) ∧ W.cell? ⟨w.heap.size + 1, 1, none⟩ = some (.slice none 0 0) ∧ W.cell? ⟨w.heap.size + 1, 2, none⟩ = some (.slice none 0 0) ∧ W.frozen? ⟨w.heap.size + 1, 0, none⟩ = false ∧ W.frozen? ⟨w.heap.size + 1, 1, none⟩ = false ∧ W.frozen? ⟨w.heap.size + 1, 2, none⟩ = false :=
 ⟨(cell_of_row W _ 0 _ _ _ h.r).trans rfl, (cell_of_row W _ 1 _ _ _ h.r).trans rfl, (cell_of_row W _ 2 _ _ _ h.r).trans rfl, by simp [World.frozen?, h.r], by simp [World.frozen?, h.r], by simp [World.frozen?, h.r]⟩
theorem end_cells3 {W : World} {g : Nat} {a b c : Value} {T : TypeId} (h : W.heap[g]? = some (.cells #[a, b, c] T (0, 0))) (x y z : Value) :
  ∃ W', ((W.setCell ⟨g, 0, none⟩ x).setCell ⟨g, 1, none⟩ y).setCell ⟨g, 2, none⟩ z = W' ∧ (∀ B, B ≤ g → Below B W W') ∧ W'.heap[g]? = some (.cells #[x, y, z] T (0, 0)) ∧ ∀ b, b ≠ g → W'.heap[b]? = W.heap[b]? := by
 refine ⟨_, rfl, fun B hB => (((Below.refl _ _).setCell (by exact hB) _).setCell (by exact hB) _).setCell (by exact hB) _, ?_, fun b hb => (Below.heap_setCell _ _ _ _ hb).trans ((Below.heap_setCell _ _ _ _ hb).trans (Below.heap_setCell _ _ _ _ hb))⟩
 rw [heap_setCB (i := 2) (heap_setCB (i := 1) (heap_setCB (i := 0) h x) y) z]
 rfl
theorem BkM.out {w W : World} {p1 p2 : Option Addr} {c1 c2 : Nat} {t : Tab} (h : BkM w W p1 c1 p2 c2 t) (x y z : Value) :
  ∃ W', ((W.setCell ⟨w.heap.size + 1, 0, none⟩ x).setCell ⟨w.heap.size + 1, 1, none⟩ y).setCell ⟨w.heap.size + 1, 2, none⟩ z = W' ∧ Below w.heap.size w W' ∧
   W'.cell? ⟨w.heap.size + 1, 0, none⟩ = some x ∧ W'.cell? ⟨w.heap.size + 1, 1, none⟩ = some y ∧ W'.cell? ⟨w.heap.size + 1, 2, none⟩ = some z ∧ ∀ b, b ≠ w.heap.size + 1 → W'.heap[b]? = W.heap[b]? := by
 obtain ⟨W', e, hb, hr, ho⟩ := end_cells3 h.r x y z
 exact ⟨W', e, h.b.trans (hb _ (by omega)), (cell_of_row W' _ 0 _ _ _ hr).trans rfl, (cell_of_row W' _ 1 _ _ _ hr).trans rfl, (cell_of_row W' _ 2 _ _ _ hr).trans rfl, ho⟩
end Go.Proofs.YtomahddiclkepaaGreatDoor.BB
namespace Go.Proofs.YtomahddiclkepaaGreatDoor
open Go.RowKit
set_option linter.unusedVariables false
set_option linter.unusedSimpArgs false
def withinB (n a b : Int) : Bool := decide (a ≤ n ∧ n ≤ b)
theorem withinB_t {n a b : Int} (h : a ≤ n ∧ n ≤ b) : withinB n a b = true := by simp [withinB, h]
theorem withinB_f {n a b : Int} (h : ¬ (a ≤ n ∧ n ≤ b)) : withinB n a b = false := by unfold withinB; exact decide_eq_false h
theorem withinB_iff {n a b : Int} : withinB n a b = true ↔ a ≤ n ∧ n ≤ b := by simp [withinB]
theorem day_within (n a b : Int) (w : World) :
  Calls Tryz.prog 125 #[.int .i64 n, .int .i64 a, .int .i64 b] w fun e w' => e = .returned (.bool (withinB n a b)) ∧ w = w' := by
 by_cases h1 : a ≤ n <;> by_cases h2 : n ≤ b <;>
 ·go_enter Tryz.func125, Tryz.ntmps125
  go_wp2
  go_ret
  exact ⟨ret_bool (by simp [withinB, h1, h2]), rfl⟩
abbrev dayV (k wd n : Int) : Value := .agg #[.int .i64 k, .int .i64 wd, .int .i64 n]
def dayB (k wd n : Int) : Bool := decide ((k = 1 ∧ wd = 0 ∧ 1 ≤ n ∧ n ≤ 31) ∨ (k = 2 ∧ 0 ≤ wd ∧ wd ≤ 6 ∧ n = 0) ∨ ((k = 3 ∨ k = 4) ∧ 0 ≤ wd ∧ wd ≤ 6 ∧ 1 ≤ n ∧ n ≤ 31))
theorem quiet_left {P : Program} {f : FuncId} {args : Array Value} {w : World} {n : Nat} {v : Value}
  (h : Calls P f args (w.drewN n) fun e w' => e = .returned v ∧ w.drewN n = w') : Calls P f args (w.drewN n) fun e w'' => e = .returned v ∧ ∃ m, w'' = w.drewN m :=
 h.mono fun _ _ ⟨he, hm⟩ => ⟨he, n, hm.symm⟩
theorem below_drewN {B : Nat} {a w : World} (h : Below B a w) (n : Nat) : Below B a (w.drewN n) := ⟨h.os, h.tape, h.output, h.size, h.block⟩
set_option maxHeartbeats 2000000 in
theorem Check_ok (k wd n : Int) (w : World) (h0 : dayB k wd n = true) :
  Calls Tryz.prog 79 #[dayV k wd n] w fun e w' => e = .returned (.int .i64 0) ∧ Below w.heap.size w w' := by
 simp only [dayB, decide_eq_true_eq] at h0
 rcases h0 with ⟨rfl, rfl, h⟩ | ⟨rfl, h, h2, rfl⟩ | ⟨rfl | rfl, h⟩
 ·have t0 : withinB 0 0 6 = true := by decide
  have t2 : withinB n 1 31 = true := withinB_t (by omega)
  clear h
  go_enter Tryz.func79, Tryz.ntmps79
  go_wp2
  go_quiet ((go_at_call 125; exact quiet_left (day_within _ _ _ _)))
  go_wp2
  go_ret
  exact ⟨rfl, below_drewN ((Below.refl _ _).alloc (Nat.le_refl _) _) _⟩
 ·have t2 : withinB 0 1 31 = false := by decide
  have t1 : withinB wd 0 6 = true := withinB_t (by omega)
  clear h
  go_enter Tryz.func79, Tryz.ntmps79
  go_wp2
  go_quiet ((go_at_call 125; exact quiet_left (day_within _ _ _ _)))
  go_wp2
  go_ret
  exact ⟨rfl, below_drewN ((Below.refl _ _).alloc (Nat.le_refl _) _) _⟩
 ·have t1 : withinB wd 0 6 = true := withinB_t (by omega)
  have t2 : withinB n 1 31 = true := withinB_t (by omega)
  clear h
  go_enter Tryz.func79, Tryz.ntmps79
  go_wp2
  go_quiet ((go_at_call 125; exact quiet_left (day_within _ _ _ _)))
  go_wp2
  go_ret
  exact ⟨rfl, below_drewN ((Below.refl _ _).alloc (Nat.le_refl _) _) _⟩
 ·have t1 : withinB wd 0 6 = true := withinB_t (by omega)
  have t2 : withinB n 1 31 = true := withinB_t (by omega)
  clear h
  go_enter Tryz.func79, Tryz.ntmps79
  go_wp2
  go_quiet ((go_at_call 125; exact quiet_left (day_within _ _ _ _)))
  go_wp2
  go_ret
  exact ⟨rfl, below_drewN ((Below.refl _ _).alloc (Nat.le_refl _) _) _⟩
set_option maxHeartbeats 2000000 in
theorem Check_no (k wd n : Int) (w : World) (h0 : dayB k wd n = false) :
  Calls Tryz.prog 79 #[dayV k wd n] w fun e w' => e = .returned (.int .i64 1) ∧ Below w.heap.size w w' := by
 simp only [dayB, decide_eq_false_iff_not] at h0
 have h : (k = 1 ∧ wd ≠ 0) ∨ (k = 1 ∧ wd = 0 ∧ ¬ (1 ≤ n ∧ n ≤ 31)) ∨ (k = 2 ∧ ¬ (0 ≤ wd ∧ wd ≤ 6)) ∨ (k = 2 ∧ (0 ≤ wd ∧ wd ≤ 6) ∧ n ≠ 0) ∨ (k = 3 ∧ ¬ (0 ≤ wd ∧ wd ≤ 6)) ∨ (k = 3 ∧ (0 ≤ wd ∧ wd ≤ 6) ∧ ¬ (1 ≤ n ∧ n ≤ 31)) ∨
   (k = 4 ∧ ¬ (0 ≤ wd ∧ wd ≤ 6)) ∨ (k = 4 ∧ (0 ≤ wd ∧ wd ≤ 6) ∧ ¬ (1 ≤ n ∧ n ≤ 31)) ∨ (k ≠ 1 ∧ k ≠ 2 ∧ k ≠ 3 ∧ k ≠ 4) := by omega
 clear h0
 rcases h with ⟨rfl, h⟩ | ⟨rfl, rfl, h⟩ | ⟨rfl, h⟩ | ⟨rfl, h1, h⟩ | ⟨rfl, h⟩ | ⟨rfl, h1, h⟩ | ⟨rfl, h⟩ | ⟨rfl, h1, h⟩ | h
 ·have t3 : (wd == 0) = false := by simp; omega
  clear h
  go_enter Tryz.func79, Tryz.ntmps79
  go_wp2
  go_quiet ((go_at_call 125; exact quiet_left (day_within _ _ _ _)))
  go_wp2
  go_ret
  exact ⟨rfl, below_drewN ((Below.refl _ _).alloc (Nat.le_refl _) _) _⟩
 ·have t2 : withinB n 1 31 = false := withinB_f (by omega)
  clear h
  go_enter Tryz.func79, Tryz.ntmps79
  go_wp2
  go_quiet ((go_at_call 125; exact quiet_left (day_within _ _ _ _)))
  go_wp2
  go_ret
  exact ⟨rfl, below_drewN ((Below.refl _ _).alloc (Nat.le_refl _) _) _⟩
 ·have t1 : withinB wd 0 6 = false := withinB_f (by omega)
  clear h
  go_enter Tryz.func79, Tryz.ntmps79
  go_wp2
  go_quiet ((go_at_call 125; exact quiet_left (day_within _ _ _ _)))
  go_wp2
  go_ret
  exact ⟨rfl, below_drewN ((Below.refl _ _).alloc (Nat.le_refl _) _) _⟩
 ·have t1 : withinB wd 0 6 = true := withinB_t (by omega)
  have t4 : (n == 0) = false := by simp; omega
  clear h
  go_enter Tryz.func79, Tryz.ntmps79
  go_wp2
  go_quiet ((go_at_call 125; exact quiet_left (day_within _ _ _ _)))
  go_wp2
  go_ret
  exact ⟨rfl, below_drewN ((Below.refl _ _).alloc (Nat.le_refl _) _) _⟩
 ·have t1 : withinB wd 0 6 = false := withinB_f (by omega)
  clear h
  go_enter Tryz.func79, Tryz.ntmps79
  go_wp2
  go_quiet ((go_at_call 125; exact quiet_left (day_within _ _ _ _)))
  go_wp2
  go_ret
  exact ⟨rfl, below_drewN ((Below.refl _ _).alloc (Nat.le_refl _) _) _⟩
 ·have t1 : withinB wd 0 6 = true := withinB_t (by omega)
  have t2 : withinB n 1 31 = false := withinB_f (by omega)
  clear h
  go_enter Tryz.func79, Tryz.ntmps79
  go_wp2
  go_quiet ((go_at_call 125; exact quiet_left (day_within _ _ _ _)))
  go_wp2
  go_ret
  exact ⟨rfl, below_drewN ((Below.refl _ _).alloc (Nat.le_refl _) _) _⟩
 ·have t1 : withinB wd 0 6 = false := withinB_f (by omega)
  clear h
  go_enter Tryz.func79, Tryz.ntmps79
  go_wp2
  go_quiet ((go_at_call 125; exact quiet_left (day_within _ _ _ _)))
  go_wp2
  go_ret
  exact ⟨rfl, below_drewN ((Below.refl _ _).alloc (Nat.le_refl _) _) _⟩
 ·have t1 : withinB wd 0 6 = true := withinB_t (by omega)
  have t2 : withinB n 1 31 = false := withinB_f (by omega)
  clear h
  go_enter Tryz.func79, Tryz.ntmps79
  go_wp2
  go_quiet ((go_at_call 125; exact quiet_left (day_within _ _ _ _)))
  go_wp2
  go_ret
  exact ⟨rfl, below_drewN ((Below.refl _ _).alloc (Nat.le_refl _) _) _⟩
 ·have t5 : (k == 1) = false := by simp; omega
  have t6 : (k == 2) = false := by simp; omega
  have t7 : (k == 3) = false := by simp; omega
  have t8 : (k == 4) = false := by simp; omega
  clear h
  go_enter Tryz.func79, Tryz.ntmps79
  go_wp2
  go_quiet ((go_at_call 125; exact quiet_left (day_within _ _ _ _)))
  go_wp2
  go_ret
  exact ⟨rfl, below_drewN ((Below.refl _ _).alloc (Nat.le_refl _) _) _⟩
end Go.Proofs.YtomahddiclkepaaGreatDoor
namespace Go.Proofs.YtomahddiclkepaaGreatDoor
open Go.RowKit Go.Joins
open Classical
set_option linter.unusedVariables false
set_option linter.unusedSimpArgs false
structure Ru where
 (nm : ByteArray)
 (yf yt mo dk dw dn tm ck sv : Int)
 (lt : ByteArray)
def ruChk (r : Ru) : Int :=
 if nameB r.nm = false then 3 else
 if r.lt.toList ≠ [45] ∧ abbrB r.lt = false then 3 else
 if ¬ (1900 ≤ r.yf ∧ r.yf ≤ 2100) then 1 else
 if ¬ (r.yf ≤ r.yt ∧ r.yt ≤ 2100) then 1 else
 if ¬ (1 ≤ r.mo ∧ r.mo ≤ 12) then 1 else
 if dayB r.dk r.dw r.dn = false then 1 else
 if Civ.mlen 1901 r.mo < r.dn then 1 else
 if ¬ (-604800 ≤ r.tm ∧ r.tm ≤ 604800) then 1 else
 if ¬ (0 ≤ r.ck ∧ r.ck ≤ 2) then 1 else
 if ¬ (0 ≤ r.sv ∧ r.sv ≤ 10800) then 1 else 0
structure OkRu (r : Ru) : Prop where
 nm : nameB r.nm = true
 lt : r.lt.toList = [45] ∨ abbrB r.lt = true
 f1 : 1900 ≤ r.yf
 f2 : r.yf ≤ 2100
 t1 : r.yf ≤ r.yt
 t2 : r.yt ≤ 2100
 m1 : 1 ≤ r.mo
 m2 : r.mo ≤ 12
 d : dayB r.dk r.dw r.dn = true
 n : r.dn ≤ Civ.mlen 1901 r.mo
 a1 : -604800 ≤ r.tm
 a2 : r.tm ≤ 604800
 c1 : 0 ≤ r.ck
 c2 : r.ck ≤ 2
 s1 : 0 ≤ r.sv
 s2 : r.sv ≤ 10800
theorem ru_ok {r : Ru} (h : ruChk r = 0) : OkRu r := by
 unfold ruChk at h
 split at h
 ·omega
 rename_i h1
 split at h
 ·omega
 rename_i h2
 split at h
 ·omega
 rename_i h3
 split at h
 ·omega
 rename_i h4
 split at h
 ·omega
 rename_i h5
 split at h
 ·omega
 rename_i h6
 split at h
 ·omega
 rename_i h7
 split at h
 ·omega
 rename_i h8
 split at h
 ·omega
 rename_i h9
 split at h
 ·omega
 rename_i h10
 refine ⟨by simpa using h1, ?_, by omega, by omega, by omega, by omega, by omega, by omega, by simpa using h6, by omega, by omega, by omega, by omega, by omega, by omega, by omega⟩
 by_cases hl : r.lt.toList = [45]
 ·exact Or.inl hl
 ·right
  cases ha : abbrB r.lt
  ·exact absurd ⟨hl, ha⟩ h2
  ·rfl
theorem ok_ru {r : Ru} (o : OkRu r) : ruChk r = 0 := by
 unfold ruChk
 rw [if_neg (by rw [o.nm]; simp), if_neg (fun h => by
  rcases o.lt with h1 | h1
  ·exact h.1 h1
  ·rw [h1] at h; exact absurd h.2 (by simp)), if_neg (fun h => h ⟨o.f1, o.f2⟩), if_neg (fun h => h ⟨o.t1, o.t2⟩), if_neg (fun h => h ⟨o.m1, o.m2⟩), if_neg (by rw [o.d]; simp), if_neg (by have := o.n; omega), if_neg (fun h => h ⟨o.a1, o.a2⟩), if_neg (fun h => h ⟨o.c1, o.c2⟩), if_neg (fun h => h ⟨o.s1, o.s2⟩)]
end Go.Proofs.YtomahddiclkepaaGreatDoor
namespace Go.Proofs.YtomahddiclkepaaGreatDoor
open Go
set_option linter.unusedVariables false
def isDg (c : UInt8) : Prop := 48 ≤ c.toNat ∧ c.toNat ≤ 57
theorem dg_of {k : Nat} (h : k < 10) : isDg (UInt8.ofNat (48 + k)) := by
 unfold isDg
 simp only [UInt8.toNat_ofNat']
 omega
theorem dec_dg (u : Nat) : ∀ c ∈ Lib.decDigits u, isDg c := by
 induction u using Nat.strongRecOn with
 | _ u ih =>
  intro c hc
  rw [Lib.decDigits] at hc
  split at hc
  ·next h =>
   simp only [List.mem_singleton] at hc
   subst hc
   exact dg_of h
  ·next h =>
   rcases List.mem_append.1 hc with hc | hc
   ·exact ih (u / 10) (by omega) c hc
   ·simp only [List.mem_singleton] at hc
    subst hc
    exact dg_of (by omega)
theorem dec_ne (u : Nat) : Lib.decDigits u ≠ [] := by
 intro h
 have := Lib.decDigits_length u
 rw [h] at this
 have := Lib.nDigits_pos u
 simp at *
 omega
def numV (l : List UInt8) : Nat := l.foldl (fun a c => 10 * a + (c.toNat - 48)) 0
theorem numV_snoc (l : List UInt8) (c : UInt8) : numV (l ++ [c]) = 10 * numV l + (c.toNat - 48) := by simp [numV]
theorem numV_dec (u : Nat) : numV (Lib.decDigits u) = u := by
 induction u using Nat.strongRecOn with
 | _ u ih =>
  rw [Lib.decDigits]
  split
  ·next h =>
   simp only [numV, List.foldl_cons, List.foldl_nil, UInt8.toNat_ofNat']
   omega
  ·next h =>
   rw [numV_snoc, ih (u / 10) (by omega)]
   simp only [UInt8.toNat_ofNat']
   omega
theorem itoa_nn {n : Int} (h : 0 ≤ n) : Lib.itoa n = Lib.decDigits n.toNat := by unfold Lib.itoa; rw [if_neg (by omega)]
theorem itoa_dg {n : Int} (h : 0 ≤ n) : ∀ c ∈ Lib.itoa n, isDg c := by rw [itoa_nn h]; exact dec_dg _
theorem itoa_ne {n : Int} (h : 0 ≤ n) : Lib.itoa n ≠ [] := by rw [itoa_nn h]; exact dec_ne _
theorem T2_dg {n : Int} (h0 : 0 ≤ n) (h1 : n < 100) : ∀ c ∈ T2 n, isDg c := by
 intro c hc
 simp only [T2, List.mem_cons, List.not_mem_nil, or_false] at hc
 rcases hc with rfl | rfl
 ·exact dg_of (by omega)
 ·exact dg_of (by omega)
theorem index_sep (l r : List UInt8) (s : UInt8) (h : ∀ c ∈ l, c ≠ s) : Lib.index (l ++ s :: r) [s] = l.length := by
 refine Lib.index_first (by simp) ?_ ?_
 ·unfold Lib.occAt
  rw [List.drop_append_of_le_length (Nat.le_refl _), List.drop_length]
  simp
 ·intro j hj
  unfold Lib.occAt
  have hj' : j < (l ++ s :: r).length := by simp; omega
  rw [List.drop_eq_getElem_cons hj']
  have hne : (l ++ s :: r)[j] ≠ s := by
   rw [List.getElem_append_left hj]
   exact h _ (List.getElem_mem _)
  simp only [List.isPrefixOf_cons_cons, Bool.and_eq_false_iff]
  left
  simpa using fun e => hne e.symm
theorem cut_sep (l r : List UInt8) (s : UInt8) (h : ∀ c ∈ l, c ≠ s) : Lib.cut (l ++ s :: r) [s] = (l, r, true) := by
 unfold Lib.cut
 rw [index_sep l r s h, if_pos (by omega)]
 simp
theorem dg_ne {c : UInt8} (h : isDg c) (s : UInt8) (hs : s.toNat < 48 ∨ 57 < s.toNat) : c ≠ s := by
 rintro rfl
 unfold isDg at h
 omega
def spanR (n : Int) : List UInt8 := T2 (n / 60 % 60) ++ (if n % 60 = 0 then [] else [58] ++ T2 (n % 60))
theorem spanP_eq (n : Int) : spanP n = Lib.itoa (n / 3600) ++ 58 :: spanR n := rfl
theorem span_plus {n : Int} (h : 0 ≤ n) : Lib.hasPrefix (spanP n) [45] = false := by
 rw [spanP_eq]
 obtain ⟨c, r, e⟩ : ∃ c r, Lib.itoa (n / 3600) = c :: r := List.exists_cons_of_ne_nil (itoa_ne (by omega))
 have hc := dg_ne (itoa_dg (show 0 ≤ n / 3600 by omega) c (by rw [e]; simp)) 45 (by decide)
 rw [e]
 simp only [Lib.hasPrefix, List.cons_append, List.isPrefixOf_cons_cons, Bool.and_eq_false_iff]
 left
 simpa using fun e => hc e.symm
end Go.Proofs.YtomahddiclkepaaGreatDoor
namespace Go.Proofs.YtomahddiclkepaaGreatDoor
open Go.RowKit Go.Joins
set_option linter.unusedVariables false
set_option linter.unusedSimpArgs false
theorem bytes_toList_txt (l : List UInt8) : (txt l).toList = l := by rw [ByteArray.toList_eq, txt_data]
theorem spanP_len {n : Int} (h0 : 0 ≤ n) (h1 : n ≤ 604800) : (spanP n).length ≤ 9 := by
 unfold spanP
 have := itoa_len3 (n := n / 3600) (by omega) (by omega)
 simp only [List.length_append, T2_length, List.length_cons, List.length_nil]
 split <;> simp [T2_length] <;> omega
theorem lt_of_cellM {w : World} {p : Addr} {v : Value} (h : w.cell? p = some v) : p.block < w.heap.size := by
 unfold World.cell? at h
 cases hb : w.heap[p.block]? with
 | none => simp [hb] at h
 | some o => exact (Array.getElem?_eq_some_iff.1 hb).1
def MaxLen (w : World) : Prop := ∃ m, w.cell? ⟨2, 0, none⟩ = some (.int .i64 m)
theorem MaxLen.below {w w' : World} (h : MaxLen w) (hb : Below w.heap.size w w') : MaxLen w' := by
 obtain ⟨m, hm⟩ := h
 exact ⟨m, (hb.cell (show (⟨2, 0, none⟩ : Addr).block < w.heap.size from lt_of_cellM hm)).trans hm⟩
theorem below_drewN0 (w : World) (n : Nat) : Below w.heap.size w (w.drewN n) := below_drewN' (Below.refl _ _) n
theorem cut_any (s p : List UInt8) (w : World) (hs : s.length < 4294967281) (hm : MaxLen w) :
  Calls Tryz.prog 179 #[.string (txt s), .string (txt p)] w fun e w' => e = .returned (.tuple #[.string (txt (Lib.cut s p).1), .string (txt (Lib.cut s p).2.1), .bool (Lib.cut s p).2.2]) ∧ Below w.heap.size w w' := by
 obtain ⟨m, hm⟩ := hm
 have := Tryz.strings_Cut (txt s) (txt p) m w (by rw [txt_size]; exact hs) hm
 rw [txt_data, txt_data] at this
 refine this.mono ?_
 rintro e w' ⟨rfl, n, rfl⟩
 exact ⟨rfl, below_drewN0 w n⟩
theorem txt_ne {a b : List UInt8} (h : a ≠ b) : ((txt a).toList == (txt b).toList) = false := by
 rw [bytes_toList_txt, bytes_toList_txt]; simpa using h
end Go.Proofs.YtomahddiclkepaaGreatDoor
namespace Go.Proofs.YtomahddiclkepaaGreatDoor
open Go.RowKit Go.Joins
open Classical
set_option linter.unusedVariables false
set_option linter.unusedSimpArgs false
structure Er where
 (off : Int)
 (ru : ByteArray)
 (sv : Int)
 (fm : ByteArray)
 (un : Int)
structure Zo where
 (nm : ByteArray)
 (ev : Value)
 (eras : List Er)
structure Lk where
 (nm tg : ByteArray)
structure Bk where
 (rules : List Ru)
 (zones : List Zo)
 (links : List Lk)
def splitF (f : List UInt8) : List UInt8 × List UInt8 × List UInt8 × Bool :=
 if 12 < f.length then ([], [], [], false) else
 if (Lib.cut f [47]).2.2 = true then ((Lib.cut f [47]).1, (Lib.cut f [47]).2.1, [47], abbrB (txt (Lib.cut f [47]).1) && abbrB (txt (Lib.cut f [47]).2.1)) else
 if (Lib.cut f [37]).2.2 = true then ((Lib.cut f [37]).1, (Lib.cut f [37]).2.1, [37], decide ((Lib.cut f [37]).1 ++ (Lib.cut f [37]).2.1 = []) || (decide (((Lib.cut f [37]).1 ++ (Lib.cut f [37]).2.1).length ≤ 8) && abbrB (txt ((Lib.cut f [37]).1 ++ (Lib.cut f [37]).2.1)))) else
 (f, [], [], abbrB (txt f))
def letterOk (l : List UInt8) : Bool := decide (l = [45]) || abbrB (txt l)
def abbrN (f : List UInt8) (save : Int) (l : List UInt8) : List UInt8 :=
 let s := splitF f
 if s.2.2.1 = [47] then (if save = 0 then s.1 else s.2.1) else
 if s.2.2.1 = [37] then s.1 ++ ((if l = [45] then [] else l) ++ s.2.1) else s.1
def abbrF (f : List UInt8) (save : Int) (l : List UInt8) : List UInt8 × Int :=
 if (splitF f).2.2.2 = false ∨ letterOk l = false then ([], 3) else
 if ¬ (0 ≤ save ∧ save ≤ 10800) then ([], 1) else
 if 8 < (abbrN f save l).length then ([], 2) else
 if abbrN f save l = [] then ([], 5) else (abbrN f save l, 0)
def abE (f : ByteArray) (save : Int) (l : ByteArray) : Int := (abbrF f.data.toList save l.data.toList).2
def firstE {α : Type} (f : α → Int) : List α → Int
 | [] => 0
 | x :: r => if f x = 0 then firstE f r else f x
def abbrsChk (rules : List Ru) (x : Er) : Int :=
 if x.ru.data.toList = [] then abE x.fm x.sv ⟨#[45]⟩ else
 if firstE (fun r : Ru => if r.nm = x.ru then abE x.fm r.sv r.lt else 0) rules = 0 then abE x.fm 0 ⟨#[45]⟩ else firstE (fun r : Ru => if r.nm = x.ru then abE x.fm r.sv r.lt else 0) rules
def stampE (t : Int) : Int := if -135140 ≤ t / 86400 ∧ t / 86400 ≤ 157053 then 0 else 1
def erD : Er := ⟨0, ⟨#[]⟩, 0, ⟨#[]⟩, 0⟩
def eraAt (l : List Er) (k : Nat) : Er := l[k]?.getD erD
def eraChk (rules : List Ru) (l : List Er) (k : Nat) : Int :=
 let x := eraAt l k
 if ¬ (-64800 ≤ x.off ∧ x.off ≤ 64800) ∨ ¬ (0 ≤ x.sv ∧ x.sv ≤ 10800) then 1 else
 if x.sv ≠ 0 ∧ x.ru.data.toList ≠ [] then 5 else
 if x.ru.data.toList ≠ [] ∧ (rules.any fun r => decide (r.nm = x.ru)) = false then 6 else
 if abbrsChk rules x ≠ 0 then abbrsChk rules x else
 if k + 1 = l.length then (if x.un ≠ 0 then 5 else 0) else
 if ¬ (-1099511627776 ≤ x.un ∧ x.un ≤ 1099511627776) then 1 else
 if stampE x.un ≠ 0 then stampE x.un else
 if 0 < k ∧ x.un ≤ (eraAt l (k - 1)).un then 5 else 0
def zoneChk (rules : List Ru) (before : List Zo) (z : Zo) : Int :=
 if nameB z.nm = false then 3 else
 if (before.any fun y => decide (y.nm = z.nm)) = true then 7 else
 if z.eras = [] then 5 else
 if 700 < z.eras.length then 2 else firstE (eraChk rules z.eras) (List.range z.eras.length)
def isZone (b : Bk) (n : ByteArray) : Bool := b.zones.any fun z => decide (z.nm = n)
def isLink (l : List Lk) (n : ByteArray) : Bool := l.any fun y => decide (y.nm = n)
def linkChk (b : Bk) (before : List Lk) (x : Lk) : Int :=
 if nameB x.nm = false ∨ nameB x.tg = false then 3 else
 if isZone b x.nm = true ∨ isLink before x.nm = true then 7 else
 if isZone b x.tg = false ∧ isLink b.links x.tg = false then 6 else 0
def bkChk (b : Bk) : Int :=
 if 40 < b.rules.length ∨ 20 < b.zones.length ∨ 20 < b.links.length then 2 else
 if firstE ruChk b.rules ≠ 0 then firstE ruChk b.rules else
 if firstE (fun k => zoneChk b.rules (b.zones.take k) (b.zones[k]?.getD ⟨⟨#[]⟩, undef, []⟩)) (List.range b.zones.length) ≠ 0 then firstE (fun k => zoneChk b.rules (b.zones.take k) (b.zones[k]?.getD ⟨⟨#[]⟩, undef, []⟩)) (List.range b.zones.length) else
 firstE (fun k => linkChk b (b.links.take k) (b.links[k]?.getD ⟨⟨#[]⟩, ⟨#[]⟩⟩)) (List.range b.links.length)
theorem firstE_drop {α : Type} (f : α → Int) (l : List α) (k : Nat) (hk : k < l.length) (h : f l[k] = 0) (e : firstE f l = firstE f (l.drop k)) : firstE f l = firstE f (l.drop (k + 1)) := by
 rw [e, List.drop_eq_getElem_cons hk]
 show (if f l[k] = 0 then firstE f (l.drop (k + 1)) else f l[k]) = _
 rw [if_pos h]
theorem firstE_hit {α : Type} (f : α → Int) (l : List α) (k : Nat) (hk : k < l.length) (h : f l[k] ≠ 0) (e : firstE f l = firstE f (l.drop k)) : firstE f l = f l[k] := by
 rw [e, List.drop_eq_getElem_cons hk]
 show (if f l[k] = 0 then firstE f (l.drop (k + 1)) else f l[k]) = _
 rw [if_neg h]
theorem firstE_end {α : Type} (f : α → Int) (l : List α) (k : Nat) (hk : l.length ≤ k) (e : firstE f l = firstE f (l.drop k)) : firstE f l = 0 := by
 rw [e, List.drop_of_length_le hk]; rfl
theorem firstE_zero {α : Type} (f : α → Int) : ∀ (l : List α), firstE f l = 0 ↔ ∀ x ∈ l, f x = 0
 | [] => by simp [firstE]
 | x :: r => by
  unfold firstE
  split
  ·rename_i h
   rw [firstE_zero f r]
   simp [h]
  ·rename_i h
   simp [h]
end Go.Proofs.YtomahddiclkepaaGreatDoor
namespace Go.Proofs.YtomahddiclkepaaGreatDoor
open Go.RowKit Go.Joins
open Classical
set_option linter.unusedVariables false
set_option linter.unusedSimpArgs false
theorem book_within (n a b : Int) (w : World) :
  Calls Tryz.prog 129 #[.int .i64 n, .int .i64 a, .int .i64 b] w fun e w' => e = .returned (.bool (withinB n a b)) ∧ w = w' := by
 by_cases h1 : a ≤ n <;> by_cases h2 : n ≤ b <;>
 ·go_enter Tryz.func129, Tryz.ntmps129
  go_wp2
  go_ret
  exact ⟨ret_bool (by simp [withinB, h1, h2]), rfl⟩
theorem txt_data' (s : ByteArray) : txt s.data.toList = s := rfl
theorem bookLetter_any (s : ByteArray) (w : World) (hs : s.size ≤ maxLen) :
  Calls Tryz.prog 150 #[.string s] w fun e w' => e = .returned (.bool (letterOk s.data.toList)) ∧ w = w' := by
 by_cases hL : s.toList = [45]
 ·have hL2 : (s.toList == [45]) = true := by rw [hL]; rfl
  have HK : Hid (letterOk s.data.toList = true) := by show _ = _; unfold letterOk; rw [← ByteArray.toList_eq, hL]; rfl
  clear hL
  go_enter Tryz.func150, Tryz.ntmps150
  go_wp2
  go_ret
  exact ⟨ret_bool' HK.out.symm, rfl⟩
 ·have hL2 : (s.toList == [45]) = false := by simpa using hL
  have HK : Hid (letterOk s.data.toList = abbrB s) := by show _ = _; unfold letterOk; rw [← ByteArray.toList_eq, decide_eq_false hL, Bool.false_or]; rw [ByteArray.toList_eq]; rfl
  clear hL
  go_enter Tryz.func150, Tryz.ntmps150
  go_wp2_with fail
  refine (isAbbr_any _ _ hs).mono ?_
  rintro e w' ⟨rfl, rfl⟩
  go_wp2
  go_ret
  exact ⟨ret_bool' HK.out.symm, rfl⟩
end Go.Proofs.YtomahddiclkepaaGreatDoor
namespace Go.Proofs.YtomahddiclkepaaGreatDoor
open Go.RowKit Go.Joins
open Classical
set_option linter.unusedVariables false
set_option linter.unusedSimpArgs false
theorem cut_le (l sg : List UInt8) : (Lib.cut l sg).1.length ≤ l.length ∧ (Lib.cut l sg).2.1.length ≤ l.length := by
 unfold Lib.cut
 split
 ·simp; omega
 ·simp
def SplitR (f : List UInt8) (e : Ending) : Prop := ∃ a b c x, splitF f = (a, b, c, x) ∧ e = .returned (.tuple #[.string (txt a), .string (txt b), .string (txt c), .bool x])
theorem splitR_mk {f a b c : List UInt8} {x : Bool} {e : Ending} (h : splitF f = (a, b, c, x)) (he : e = .returned (.tuple #[.string (txt a), .string (txt b), .string (txt c), .bool x])) : SplitR f e := ⟨a, b, c, x, h, he⟩
set_option maxRecDepth 100000 in
set_option maxHeartbeats 4000000 in
theorem split_any (f : List UInt8) (w : World) (hf : f.length ≤ 9223372036854775807) (hm : MaxLen w) :
  Calls Tryz.prog 149 #[.string (txt f)] w fun e w' => SplitR f e ∧ Below w.heap.size w w' := by
 have hsz : (txt f).size = f.length := txt_size f
 by_cases hlong : 12 < f.length
 ·have HK : Hid (splitF f = ([], [], [], false)) := by show _ = _; unfold splitF; rw [if_pos hlong]
  have z1 : (12 : Int) < ((txt f).size : Int) := by omega
  clear hlong
  go_enter Tryz.func149, Tryz.ntmps149
  go_wp2_with fail
  refine bodyPost_ret (results_tmp4 rfl _ _ _) rfl ?_
  exact ⟨splitR_mk HK.out rfl, Below.refl _ _⟩
 ·have z1 : ¬ (12 : Int) < ((txt f).size : Int) := by omega
  have HM := Lib.hid hm
  have l1 := cut_le f [47]
  have l2 := cut_le f [37]
  have HC1 := Lib.hid (fun W (h : MaxLen W) => cut_any f [47] W (by omega) h)
  have HC2 := Lib.hid (fun W (h : MaxLen W) => cut_any f [37] W (by omega) h)
  have HF := Lib.hid (show splitF f = if (Lib.cut f [47]).2.2 = true then ((Lib.cut f [47]).1, (Lib.cut f [47]).2.1, [47], abbrB (txt (Lib.cut f [47]).1) && abbrB (txt (Lib.cut f [47]).2.1)) else
   if (Lib.cut f [37]).2.2 = true then ((Lib.cut f [37]).1, (Lib.cut f [37]).2.1, [37], decide ((Lib.cut f [37]).1 ++ (Lib.cut f [37]).2.1 = []) || (decide (((Lib.cut f [37]).1 ++ (Lib.cut f [37]).2.1).length ≤ 8) && abbrB (txt ((Lib.cut f [37]).1 ++ (Lib.cut f [37]).2.1)))) else
   (f, [], [], abbrB (txt f)) from by unfold splitF; rw [if_neg hlong])
  obtain ⟨a1, ea1⟩ : ∃ x, (Lib.cut f [47]).1 = x := ⟨_, rfl⟩
  obtain ⟨b1, eb1⟩ : ∃ x, (Lib.cut f [47]).2.1 = x := ⟨_, rfl⟩
  obtain ⟨i1, ei1⟩ : ∃ x, (Lib.cut f [47]).2.2 = x := ⟨_, rfl⟩
  obtain ⟨a2, ea2⟩ : ∃ x, (Lib.cut f [37]).1 = x := ⟨_, rfl⟩
  obtain ⟨b2, eb2⟩ : ∃ x, (Lib.cut f [37]).2.1 = x := ⟨_, rfl⟩
  obtain ⟨i2, ei2⟩ : ∃ x, (Lib.cut f [37]).2.2 = x := ⟨_, rfl⟩
  rw [ea1, eb1, ei1] at HC1
  rw [ea2, eb2, ei2] at HC2
  rw [ea1, eb1, ei1, ea2, eb2, ei2] at HF
  rw [ea1, eb1] at l1
  rw [ea2, eb2] at l2
  have HA1 := Lib.hid (fun W => isAbbr_any (txt a1) W (by rw [txt_size]; unfold maxLen; omega))
  have HA2 := Lib.hid (fun W => isAbbr_any (txt b1) W (by rw [txt_size]; unfold maxLen; omega))
  have HA3 := Lib.hid (fun W => isAbbr_any (txt (a2 ++ b2)) W (by rw [txt_size, List.length_append]; unfold maxLen; omega))
  have HA4 := Lib.hid (fun W => isAbbr_any (txt f) W (by rw [txt_size]; unfold maxLen; omega))
  have radd := fun W => run_string_add_sum (P := Tryz.prog) W (txt a2) (txt b2) (by rw [txt_size, txt_size]; omega)
  have s12 : (txt (a2 ++ b2)).size ≤ 100 := by rw [txt_size, List.length_append]; omega
  rw [show txt a2 ++ txt b2 = txt (a2 ++ b2) from txt_append a2 b2] at radd
  have HL1 := Lib.hid l1
  clear ea1 eb1 ei1 ea2 eb2 ei2 l1 l2 hlong hm
  go_enter Tryz.func149, Tryz.ntmps149
  go_wp2_with fail
  obtain ⟨W0, eW⟩ : ∃ W0, w.alloc (.cells #[.string ⟨#[47]⟩, .string ⟨#[37]⟩] 9) = W0 := ⟨_, rfl⟩
  have hb0 : Below w.heap.size w W0 := by rw [← eW]; exact (Below.refl _ _).alloc (Nat.le_refl _) _
  have x0 : W0.cell? ⟨w.heap.size, 0, none⟩ = some (.string ⟨#[47]⟩) := by rw [← eW]; exact (cell_of_row _ _ 0 _ _ _ (heap_alloc_new w _)).trans rfl
  have x1 : W0.cell? ⟨w.heap.size, 1, none⟩ = some (.string ⟨#[37]⟩) := by rw [← eW]; exact (cell_of_row _ _ 1 _ _ _ (heap_alloc_new w _)).trans rfl
  have hl0 : w.heap.size < W0.heap.size := by rw [← eW]; simp
  rw [eW]
  have HB0 := Lib.hid hb0
  have HX1 := Lib.hid x1
  have HL0 := Lib.hid hl0
  clear eW hb0 x1 hl0
  refine wp_loop_rounds 3 ?_
  rw [rounds_succ]
  go_wp2_with fail
  refine (HC1.out _ (HM.out.below HB0.out)).mono ?_
  rintro e w1 ⟨rfl, hb1⟩
  have y1 : w1.cell? ⟨w.heap.size, 1, none⟩ = some (.string ⟨#[37]⟩) := (hb1.cell (p := ⟨w.heap.size, 1, none⟩) HL0.out).trans HX1.out
  have HB1 := Lib.hid (HB0.out.trans (hb1.mono HB0.out.size))
  clear hb1 x0
  cases i1 with
  | true =>
   have hres := HF.out
   rw [if_pos rfl] at hres
   have HR := Lib.hid hres
   clear hres
   cases hA : abbrB (txt a1) with
   | false =>
    rw [hA] at HA1 HR
    clear hA
    go_wp2_with fail
    refine (HA1.out _).mono ?_
    rintro e w' ⟨rfl, rfl⟩
    go_wp2_with fail
    refine bodyPost_ret (results_tmp4 rfl _ _ _) rfl ?_
    exact ⟨splitR_mk HR.out rfl, HB1.out⟩
   | true =>
    rw [hA] at HA1 HR
    clear hA
    go_wp2_with fail
    refine (HA1.out _).mono ?_
    rintro e w' ⟨rfl, rfl⟩
    go_wp2_with fail
    refine (HA2.out _).mono ?_
    rintro e w' ⟨rfl, rfl⟩
    go_wp2_with fail
    refine bodyPost_ret (results_tmp4 rfl _ _ _) rfl ?_
    exact ⟨splitR_mk HR.out rfl, HB1.out⟩
  | false =>
   have hres := HF.out
   rw [if_neg (by simp)] at hres
   have HR := Lib.hid hres
   clear hres HF
   go_wp2_with fail
   rw [rounds_succ]
   go_wp2_with fail
   refine (HC2.out _ (HM.out.below HB1.out)).mono ?_
   rintro e w2 ⟨rfl, hb2⟩
   have HB2 := Lib.hid (HB1.out.trans (hb2.mono HB1.out.size))
   clear hb2 y1 HB1
   cases i2 with
   | true =>
    have hres := HR.out
    rw [if_pos rfl] at hres
    have HR2 := Lib.hid hres
    clear hres HR
    obtain ⟨S, eS⟩ : ∃ S, a2 ++ b2 = S := ⟨_, rfl⟩
    rw [eS] at HR2 HA3 radd s12
    clear eS
    by_cases h0 : S = []
    ·have b0 : (txt S).toList.isEmpty = true := by rw [h0, bytes_toList_txt]; rfl
     rw [decide_eq_true h0, Bool.true_or] at HR2
     clear h0
     go_wp2_with fail
     refine bodyPost_ret (results_tmp4 rfl _ _ _) rfl ?_
     exact ⟨splitR_mk HR2.out rfl, HB2.out⟩
    ·have b0 : (txt S).toList.isEmpty = false := by
      rw [bytes_toList_txt]
      cases S with
      | nil => exact absurd rfl h0
      | cons c r => rfl
     rw [decide_eq_false h0, Bool.false_or] at HR2
     clear h0
     by_cases h8 : S.length ≤ 8
     ·have z8 : ((txt S).size : Int) ≤ 8 := by rw [txt_size]; omega
      rw [decide_eq_true h8, Bool.true_and] at HR2
      have hs : (txt S).size = S.length := txt_size S
      clear h8
      go_wp2_with fail
      refine (HA3.out _).mono ?_
      rintro e w' ⟨rfl, rfl⟩
      go_wp2_with fail
      refine bodyPost_ret (results_tmp4 rfl _ _ _) rfl ?_
      exact ⟨splitR_mk HR2.out rfl, HB2.out⟩
     ·have z8 : ¬ ((txt S).size : Int) ≤ 8 := by rw [txt_size]; omega
      have z9 : ¬ (S.length : Int) ≤ 8 := by omega
      rw [decide_eq_false h8, Bool.false_and] at HR2
      clear h8
      go_wp2_with fail
      refine bodyPost_ret (results_tmp4 rfl _ _ _) rfl ?_
      exact ⟨splitR_mk HR2.out rfl, HB2.out⟩
   | false =>
    have hres := HR.out
    rw [if_neg (by simp)] at hres
    have HR2 := Lib.hid hres
    clear hres HR
    go_wp2_with fail
    rw [rounds_succ]
    go_wp2_with fail
    refine (HA4.out _).mono ?_
    rintro e w' ⟨rfl, rfl⟩
    go_wp2_with fail
    refine bodyPost_ret (results_tmp4 rfl _ _ _) rfl ?_
    exact ⟨splitR_mk HR2.out rfl, HB2.out⟩
end Go.Proofs.YtomahddiclkepaaGreatDoor
