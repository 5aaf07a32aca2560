/- turns: what Make makes: the plain mathematics. turns: a rule's day in a year. turns.Make: the list of a rule's moments in memory. turns.Make: sums and lists over a prefix of the rules. turns.Make: the loops over rules and years. turns.Make: the sorted list of moments, in plain terms and in memory. turns: what Make and Of answer, in plain words; rows of turns. names.of: the places of names. (places).resolve: what it returns. -/
import Derived.Test.YtomahddiclkepaaGreatDoorQa05
import Derived.Test.YtomahddiclkepaaGreatDoorQa06
import Derived.OwnWalk
import Derived.Test.YtomahddiclkepaaGreatDoorQa07
import Derived.Test.YtomahddiclkepaaGreatDoorQa01
import Derived.Deep.AppendLies
import Derived.Laws.AppendOwn
import Derived.Laws.StructEq
import Derived.Maps.Own
import Derived.Maps.OwnOps
import Derived.Maps.OwnSet
import Derived.Maps.Views
import Derived.StringKeys
import Derived.StillTailTactics
import Derived.Carry
namespace Go.Proofs.YtomahddiclkepaaGreatDoor
open Go.RowKit Go.Joins
open Classical
set_option linter.unusedVariables false
set_option linter.unusedSimpArgs false
structure Tn where
 (a s : Int)
 (lt : ByteArray)
def nomOf (D : Ru → Int → Int) (r : Ru) : List (Int × Ru) := (List.range (r.yt - r.yf + 1).toNat).map fun (i : Nat) => (86400 * D r (r.yf + (i : Int)) + r.tm, r)
def nomsOf (D : Ru → Int → Int) (rules : List Ru) (nm : ByteArray) : List (Int × Ru) := (rules.filter fun r => decide (r.nm = nm)).flatMap (nomOf D)
def yearsOf (rules : List Ru) (nm : ByteArray) : Int := ((rules.filter fun r => decide (r.nm = nm)).map fun r => r.yt - r.yf + 1).sum
def clkT (off save : Int) (x : Int × Ru) : Int := if x.2.ck = 0 then x.1 - (off + save) else if x.2.ck = 1 then x.1 - off else x.1
def outF (off : Int) : Int → Option Int → List (Int × Ru) → Option (List Tn)
 | _, _, [] => some []
 | save, last, x :: r =>
  if (match last with | none => false | some m => decide (clkT off save x ≤ m)) = true then none
  else (outF off x.2.sv (some (clkT off save x)) r).map fun l => ⟨clkT off save x, x.2.sv, x.2.lt⟩ :: l
end Go.Proofs.YtomahddiclkepaaGreatDoor
namespace Go.Proofs.YtomahddiclkepaaGreatDoor
open Go.RowKit Go.Joins
open Classical
set_option linter.unusedVariables false
set_option linter.unusedSimpArgs false
def dayN (r : Ru) (y : Int) : Int :=
 if r.dk = 1 then Civ.days y r.mo r.dn else
 if r.dk = 2 then downTo (Civ.days y r.mo (Civ.mlen y r.mo)) r.dw else
 if r.dk = 3 then upTo (Civ.days y r.mo r.dn) r.dw else downTo (Civ.days y r.mo r.dn) r.dw
theorem mlen_ge (y m : Int) : Civ.mlen 1901 m ≤ Civ.mlen y m := by
 unfold Civ.mlen
 by_cases h : m = 2
 ·rw [if_pos h, if_pos h]
  have : Civ.lp 1901 = 0 := by decide
  have h2 : 0 ≤ Civ.lp y := by unfold Civ.lp; split <;> omega
  omega
 ·rw [if_neg h, if_neg h]
  exact Int.le_refl _
theorem days_1900 {y m d : Int} (hv : Civ.valid y m d) (h1 : 1900 ≤ y) (h2 : y ≤ 2100) : -25600 ≤ Civ.days y m d ∧ Civ.days y m d ≤ 47900 := by
 have v1 : Civ.valid 1899 12 31 := ⟨by omega, by omega, by omega, by omega, by omega, by unfold Civ.mlen; simp⟩
 have v2 : Civ.valid 2101 1 1 := ⟨by omega, by omega, by omega, by omega, by omega, by unfold Civ.mlen; simp⟩
 have a := Civ.days_lt (y := 1899) (m := 12) (d := 31) (a := y) (b := m) (c := d) v1 hv (Or.inl (by omega))
 have b := Civ.days_lt (y := y) (m := m) (d := d) (a := 2101) (b := 1) (c := 1) hv v2 (Or.inl (by omega))
 have e1 : Civ.days 1899 12 31 = -25568 := by decide
 have e2 : Civ.days 2101 1 1 = 47847 := by decide
 omega
set_option maxHeartbeats 1000000 in
theorem Of_ru (r : Ru) (o : OkRu r) (y : Int) (h1 : r.yf ≤ y) (h2 : y ≤ r.yt) (w : World) :
  Calls Tryz.prog 93 #[.int .i64 y, .int .i64 r.mo, dayV r.dk r.dw r.dn] w fun e w' => e = .returned (.tuple #[.int .i64 (dayN r y), .int .i64 0]) ∧ Below w.heap.size w w' := by
 have a1 : 1900 ≤ y := by have := o.f1; omega
 have a2 : y ≤ 2100 := by have := o.t2; omega
 have hm := mlen_ge y r.mo
 have hn := o.n
 have hb := Civ.mlen_bd y r.mo o.m1 o.m2
 have hd := o.d
 have hd2 := o.d
 unfold dayB at hd2
 simp only [decide_eq_true_eq] at hd2
 rcases hd2 with ⟨k, b1, b2, b3⟩ | ⟨k, b1, b2, b3⟩ | ⟨k | k, b1, b2, b3, b4⟩
 ·rw [k] at hd ⊢
  have e : dayN r y = Civ.days y r.mo r.dn := by unfold dayN; rw [if_pos k]
  rw [e]
  exact Of_num y r.mo r.dw r.dn w hd (by omega) (by omega) o.m1 o.m2 (by omega)
 ·rw [k] at hd ⊢
  have e : dayN r y = downTo (Civ.days y r.mo (Civ.mlen y r.mo)) r.dw := by unfold dayN; rw [if_neg (by omega), if_pos k]
  rw [e]
  exact Of_last y r.mo r.dw r.dn w hd (by omega) (by omega) o.m1 o.m2
 ·rw [k] at hd ⊢
  have hv := days_1900 (y := y) (m := r.mo) (d := r.dn) ⟨by omega, by omega, o.m1, o.m2, b3, by omega⟩ a1 a2
  have e : dayN r y = upTo (Civ.days y r.mo r.dn) r.dw := by unfold dayN; rw [if_neg (by omega), if_neg (by omega), if_pos k]
  rw [e]
  exact Of_up y r.mo r.dw r.dn w hd (by omega) (by omega) o.m1 o.m2 (by omega) (by have := upTo_bd (Civ.days y r.mo r.dn) r.dw b1 b2; omega)
 ·rw [k] at hd ⊢
  have hv := days_1900 (y := y) (m := r.mo) (d := r.dn) ⟨by omega, by omega, o.m1, o.m2, b3, by omega⟩ a1 a2
  have e : dayN r y = downTo (Civ.days y r.mo r.dn) r.dw := by unfold dayN; rw [if_neg (by omega), if_neg (by omega), if_neg (by omega)]
  rw [e]
  exact Of_down y r.mo r.dw r.dn w hd (by omega) (by omega) o.m1 o.m2 (by omega) (by have := downTo_bd (Civ.days y r.mo r.dn) r.dw b1 b2; omega)
end Go.Proofs.YtomahddiclkepaaGreatDoor
namespace Go.Proofs.YtomahddiclkepaaGreatDoor
open Go.RowKit Go.Joins
open Classical
set_option linter.unusedVariables false
set_option linter.unusedSimpArgs false
theorem box_kept {W W' : World} {B : Nat} {e t : TypeId} {sz n g : Nat} {v : Value} {xs : List Value} {cs : Array Value} {fr : Nat × Nat} (h : W.ownsRow B e sz v n xs) (hb : W.heap[g]? = some (.cells cs t fr)) (hne : t ≠ e) (hg : W.grownBy W' v.ownBlock) : W'.heap[g]? = some (.cells cs t fr) := by
 have hlt : g < W.heap.size := (Array.getElem?_eq_some_iff.mp hb).1
 rw [hg.block g hlt ?_, hb]
 intro e2
 obtain ⟨-, h | ⟨k, cap, cur, rfl, hk, hc, -⟩⟩ := h
 ·rw [h.1] at e2
  cases e2
 ·injection e2 with e3
  subst e3
  have hc' : W.heap[g]? = some (.cells cur e (0, 0)) := hc
  rw [hb] at hc'
  injection hc' with e4
  injection e4 with e5 e6 e7
  exact hne e6
abbrev Nb := Int × Ru × Nat
def nbCells (l : List Nb) : List Value := l.flatMap fun x => [.int .i64 x.1, .pointer (some ⟨x.2.2, 0, none⟩)]
structure NbAt (W : World) (base : Nat) (v : Value) (l : List Nb) : Prop where
 row : W.ownsRow base 180 2 v l.length (nbCells l)
 bx : ∀ x ∈ l, RuBx W x.2.2 x.2.1
end Go.Proofs.YtomahddiclkepaaGreatDoor
namespace Go.Proofs.YtomahddiclkepaaGreatDoor
open Go.RowKit Go.Joins
open Classical
set_option linter.unusedVariables false
set_option linter.unusedSimpArgs false
theorem take_succ' {α : Type} (l : List α) (k : Nat) (h : k < l.length) : l.take (k + 1) = l.take k ++ [l[k]] := List.take_succ_eq_append_getElem h
theorem yearsOf_snoc (l : List Ru) (x : Ru) (nm : ByteArray) : yearsOf (l ++ [x]) nm = yearsOf l nm + if x.nm = nm then x.yt - x.yf + 1 else 0 := by
 unfold yearsOf
 rw [List.filter_append, List.map_append, List.sum_append]
 by_cases h : x.nm = nm
 ·rw [if_pos h, List.filter_cons_of_pos (by simpa using h)]
  simp
 ·rw [if_neg h, List.filter_cons_of_neg (by simpa using h)]
  simp
theorem nomsOf_snoc (D : Ru → Int → Int) (l : List Ru) (x : Ru) (nm : ByteArray) : nomsOf D (l ++ [x]) nm = nomsOf D l nm ++ if x.nm = nm then nomOf D x else [] := by
 unfold nomsOf
 rw [List.filter_append, List.flatMap_append]
 by_cases h : x.nm = nm
 ·rw [if_pos h, List.filter_cons_of_pos (by simpa using h)]
  simp
 ·rw [if_neg h, List.filter_cons_of_neg (by simpa using h)]
  simp
theorem nomOf_len (D : Ru → Int → Int) (r : Ru) (h : r.yf ≤ r.yt) : ((nomOf D r).length : Int) = r.yt - r.yf + 1 := by
 unfold nomOf
 rw [List.length_map, List.length_range]
 omega
theorem nomsOf_len (D : Ru → Int → Int) (nm : ByteArray) : ∀ l : List Ru, (∀ r ∈ l, r.yf ≤ r.yt) → ((nomsOf D l nm).length : Int) = yearsOf l nm := by
 intro l
 induction l with
 | nil => intro _; rfl
 | cons x r ih =>
  intro h
  have e := ih fun y hy => h y (List.mem_cons_of_mem _ hy)
  have hx := nomOf_len D x (h x (List.mem_cons_self ..))
  unfold nomsOf yearsOf at *
  by_cases hn : x.nm = nm
  ·rw [List.filter_cons_of_pos (by simpa using hn)]
   simp only [List.flatMap_cons, List.length_append, List.map_cons, List.sum_cons]
   push_cast
   omega
  ·rw [List.filter_cons_of_neg (by simpa using hn)]
   exact e
theorem yearsOf_bd (nm : ByteArray) : ∀ l : List Ru, (∀ r ∈ l, 1900 ≤ r.yf ∧ r.yf ≤ r.yt ∧ r.yt ≤ 2100) → 0 ≤ yearsOf l nm ∧ yearsOf l nm ≤ 201 * l.length := by
 intro l
 induction l with
 | nil => intro _; exact ⟨Int.le_refl _, Int.le_refl _⟩
 | cons x r ih =>
  intro h
  have e := ih fun y hy => h y (List.mem_cons_of_mem _ hy)
  have hx := h x (List.mem_cons_self ..)
  unfold yearsOf at *
  by_cases hn : x.nm = nm
  ·rw [List.filter_cons_of_pos (by simpa using hn)]
   simp only [List.map_cons, List.sum_cons, List.length_cons]
   push_cast
   omega
  ·rw [List.filter_cons_of_neg (by simpa using hn)]
   simp only [List.length_cons]
   push_cast
   omega
end Go.Proofs.YtomahddiclkepaaGreatDoor
namespace Go.Proofs.YtomahddiclkepaaGreatDoor
open Go.RowKit Go.Joins
open Classical
set_option linter.unusedVariables false
set_option linter.unusedSimpArgs false
theorem infoNb : (Tryz.prog.info? 180).map (fun i => (i.zero, i.size, i.bytes)) = some (some (.agg #[.int .i64 0, .pointer none]), 2, 16) := by kernel_rfl
theorem undNb : Tryz.prog.underlying 176 = some (.slice 180) := by kernel_rfl
def nomB (r : Ru) (b j : Nat) : List Nb := (List.range j).map fun (i : Nat) => (86400 * dayN r (r.yf + (i : Int)) + r.tm, r, b)
theorem nomB_snoc (r : Ru) (b j : Nat) : nomB r b (j + 1) = nomB r b j ++ [(86400 * dayN r (r.yf + (j : Int)) + r.tm, r, b)] := by
 unfold nomB
 rw [List.range_succ, List.map_append]
 rfl
theorem nomB_len (r : Ru) (b j : Nat) : (nomB r b j).length = j := by simp [nomB]
theorem nomB_map (r : Ru) (b C : Nat) (h : (C : Int) = r.yt - r.yf + 1) : (nomB r b C).map (fun x => (x.1, x.2.1)) = nomOf dayN r := by
 unfold nomB nomOf
 rw [List.map_map, ← h, Int.toNat_natCast]
 rfl
theorem nbCells_snoc (l : List Nb) (x : Nb) : nbCells (l ++ [x]) = nbCells l ++ [.int .i64 x.1, .pointer (some ⟨x.2.2, 0, none⟩)] := by simp [nbCells]
theorem dayN_bd {r : Ru} (o : OkRu r) {y : Int} (h1 : r.yf ≤ y) (h2 : y ≤ r.yt) : -30000 ≤ dayN r y ∧ dayN r y ≤ 50000 := by
 have a1 : 1900 ≤ y := by have := o.f1; omega
 have a2 : y ≤ 2100 := by have := o.t2; omega
 have hm := mlen_ge y r.mo
 have hn := o.n
 have hb := Civ.mlen_bd y r.mo o.m1 o.m2
 have hd2 := o.d
 unfold dayB at hd2
 simp only [decide_eq_true_eq] at hd2
 have hlast := days_1900 (y := y) (m := r.mo) (d := Civ.mlen y r.mo) ⟨by omega, by omega, o.m1, o.m2, by omega, by omega⟩ a1 a2
 unfold dayN
 rcases hd2 with ⟨k, b1, b2, b3⟩ | ⟨k, b1, b2, b3⟩ | ⟨k | k, b1, b2, b3, b4⟩
 ·have hv := days_1900 (y := y) (m := r.mo) (d := r.dn) ⟨by omega, by omega, o.m1, o.m2, by omega, by omega⟩ a1 a2
  rw [if_pos k]; omega
 ·rw [if_neg (by omega), if_pos k]
  have := downTo_bd (Civ.days y r.mo (Civ.mlen y r.mo)) r.dw (by omega) (by omega); omega
 ·have hv := days_1900 (y := y) (m := r.mo) (d := r.dn) ⟨by omega, by omega, o.m1, o.m2, by omega, by omega⟩ a1 a2
  rw [if_neg (by omega), if_neg (by omega), if_pos k]
  have := upTo_bd (Civ.days y r.mo r.dn) r.dw b1 b2; omega
 ·have hv := days_1900 (y := y) (m := r.mo) (d := r.dn) ⟨by omega, by omega, o.m1, o.m2, by omega, by omega⟩ a1 a2
  rw [if_neg (by omega), if_neg (by omega), if_neg (by omega)]
  have := downTo_bd (Civ.days y r.mo r.dn) r.dw b1 b2; omega
theorem RuBx.alloc {W : World} {B : Nat} {r : Ru} (h : RuBx W B r) (o : Obj) : RuBx (W.alloc o) B r := (Below.heap_alloc _ _ _ h.lt).trans h
theorem NbAt.alloc {W : World} {base : Nat} {v : Value} {l : List Nb} (h : NbAt W base v l) (o : Obj) : NbAt (W.alloc o) base v l := ⟨World.ownsRow.alloc h.row o, fun x hx => (h.bx x hx).alloc o⟩
theorem NbAt.below {W W' : World} {base : Nat} {v : Value} {l : List Nb} (h : NbAt W base v l) (hb : Below W.heap.size W W') : NbAt W' base v l :=
 ⟨own_keep h.row fun g e => hb.block g (World.ownsRow.lt h.row g e).2, fun x hx => (h.bx x hx).below hb⟩
theorem NbAt.snoc {W W' : World} {base : Nat} {v v' : Value} {l : List Nb} {x : Nb} {o : Obj} (h : NbAt W base v l) (hb : RuBx W x.2.2 x.2.1) (hown : W'.ownsRow base 180 2 v' (l.length + 1) (nbCells l ++ [.int .i64 x.1, .pointer (some ⟨x.2.2, 0, none⟩)])) (hg : (W.alloc o).grownBy W' v.ownBlock) : NbAt W' base v' (l ++ [x]) := by
 have hr := World.ownsRow.alloc h.row o
 have kp : ∀ b r, RuBx W b r → RuBx W' b r := fun b r hb => box_kept hr (hb.alloc o) (by decide) hg
 refine ⟨by rw [nbCells_snoc, List.length_append]; exact hown, fun y hy => ?_⟩
 rcases List.mem_append.1 hy with hy | hy
 ·exact kp _ _ (h.bx y hy)
 ·rw [List.mem_singleton.1 hy]; exact kp _ _ hb
structure MkR (rules : List Ru) (nm : ByteArray) (k : Nat) (Y : Int) (is : Bool) (l : List Nb) : Prop where
 y : Y = yearsOf (rules.take k) nm
 s : is = (rules.take k).any fun r => decide (r.nm = nm)
 l : Y ≤ 1500 → l.map (fun x => (x.1, x.2.1)) = nomsOf dayN (rules.take k) nm
theorem MkR.zero (rules : List Ru) (nm : ByteArray) : MkR rules nm 0 0 false [] := ⟨rfl, rfl, fun _ => rfl⟩
theorem MkR.skip {rules : List Ru} {nm : ByteArray} {k : Nat} {Y : Int} {is : Bool} {l : List Nb} (h : MkR rules nm k Y is l) (hk : k < rules.length) (hn : rules[k].nm ≠ nm) : MkR rules nm (k + 1) Y is l := by
 refine ⟨?_, ?_, fun hy => ?_⟩
 ·rw [take_succ' _ _ hk, yearsOf_snoc, if_neg hn, Int.add_zero]; exact h.y
 ·rw [take_succ' _ _ hk, List.any_append, ← h.s]; simp [hn]
 ·rw [take_succ' _ _ hk, nomsOf_snoc, if_neg hn, List.append_nil]; exact h.l hy
theorem MkR.large {rules : List Ru} {nm : ByteArray} {k : Nat} {Y : Int} {is : Bool} {l : List Nb} (h : MkR rules nm k Y is l) (hk : k < rules.length) (hn : rules[k].nm = nm) (hy : 1500 < Y + (rules[k].yt - rules[k].yf + 1)) : MkR rules nm (k + 1) (Y + (rules[k].yt - rules[k].yf + 1)) true l := by
 refine ⟨?_, ?_, fun hy => by omega⟩
 ·rw [take_succ' _ _ hk, yearsOf_snoc, if_pos hn, ← h.y]
 ·rw [take_succ' _ _ hk, List.any_append]; simp [hn]
theorem MkR.more {rules : List Ru} {nm : ByteArray} {k : Nat} {Y : Int} {is : Bool} {l : List Nb} (h : MkR rules nm k Y is l) (hk : k < rules.length) (hn : rules[k].nm = nm) (hle : rules[k].yf ≤ rules[k].yt) (b C : Nat) (hC : (C : Int) = rules[k].yt - rules[k].yf + 1) : MkR rules nm (k + 1) (Y + (rules[k].yt - rules[k].yf + 1)) true (l ++ nomB rules[k] b C) := by
 refine ⟨?_, ?_, fun hy => ?_⟩
 ·rw [take_succ' _ _ hk, yearsOf_snoc, if_pos hn, ← h.y]
 ·rw [take_succ' _ _ hk, List.any_append]; simp [hn]
 ·rw [take_succ' _ _ hk, nomsOf_snoc, if_pos hn, List.map_append, nomB_map _ _ _ hC, h.l (by omega)]
theorem MkR.len {rules : List Ru} {nm : ByteArray} {k : Nat} {Y : Int} {is : Bool} {l : List Nb} (h : MkR rules nm k Y is l) (ho : ∀ r ∈ rules, OkRu r) (hy : Y ≤ 1500) : (l.length : Int) = Y := by
 have e := congrArg List.length (h.l hy)
 rw [List.length_map] at e
 rw [e, h.y]
 exact nomsOf_len _ _ _ fun r hr => (ho r (List.mem_of_mem_take hr)).t1
end Go.Proofs.YtomahddiclkepaaGreatDoor
namespace Go.Proofs.YtomahddiclkepaaGreatDoor
open Go.RowKit Go.Joins Go.Sort
open Classical
set_option linter.unusedVariables false
set_option linter.unusedSimpArgs false
abbrev nle (x y : Int × Ru) : Bool := decide (x.1 ≤ y.1)
def srt (m : List (Int × Ru)) : List (Int × Ru) := m.mergeSort nle
def srtZ (m : List (Int × Ru)) : List ((Int × Ru) × Nat) := m.zipIdx.mergeSort (List.zipIdxLE nle)
theorem srtZ_fst (m : List (Int × Ru)) : (srtZ m).map (·.1) = srt m := List.mergeSort_zipIdx
theorem soList_map (m : List (Int × Ru)) : soList (m.map (·.1)) = (srtZ m).map fun p => (p.1.1, p.2) := by
 unfold soList tagged srtZ
 rw [List.zipIdx_map, List.map_mergeSort]
 ·rfl
 ·intro a _ b _
  show (if decide (a.1.1 ≤ b.1.1) then (if decide (b.1.1 ≤ a.1.1) then decide (a.2 ≤ b.2) else true) else false) = !elL (b.1.1, b.2) (a.1.1, a.2)
  unfold elL
  by_cases h1 : a.1.1 ≤ b.1.1
  ·by_cases h2 : b.1.1 ≤ a.1.1
   ·have e : a.1.1 = b.1.1 := by omega
    by_cases h3 : a.2 ≤ b.2
    ·simp [e, h3]
    ·simp [e, h3]; omega
   ·simp [h1, h2]; omega
  ·simp [h1]
def ptL (l : List Nb) (t : Nat) : Nat := (l[t]?.map (·.2.2)).getD 0
def nbM (l : List Nb) : List (Int × Ru) := l.map fun x => (x.1, x.2.1)
def nbT (l : List Nb) : List Nb := (srtZ (nbM l)).map fun p => (p.1.1, p.1.2, ptL l p.2)
theorem nbT_M (l : List Nb) : nbM (nbT l) = srt (nbM l) := by
 rw [← srtZ_fst]
 unfold nbT nbM
 rw [List.map_map]
 rfl
theorem nbT_len (l : List Nb) : (nbT l).length = l.length := by
 have e := congrArg List.length (nbT_M l)
 unfold srt at e
 rw [List.length_mergeSort] at e
 unfold nbM at e
 simpa using e
theorem srtZ_mem {m : List (Int × Ru)} {p : (Int × Ru) × Nat} (h : p ∈ srtZ m) : m[p.2]? = some p.1 := by
 have := (List.mem_mergeSort.1 h)
 exact List.mem_zipIdx_iff_getElem?.1 this
theorem nbT_mem {l : List Nb} {x : Nb} (h : x ∈ nbT l) : x ∈ l := by
 obtain ⟨p, hp, rfl⟩ := List.mem_map.1 h
 have e := srtZ_mem hp
 unfold nbM at e
 rw [List.getElem?_map] at e
 unfold ptL
 cases e2 : l[p.2]? with
 | none => rw [e2] at e; cases e
 | some y =>
  rw [e2] at e
  injection e with e
  rw [← e]
  exact List.mem_of_getElem? e2
structure NbRd (W : World) (blk : Nat) (T : List Nb) : Prop where
 lt : blk < W.heap.size
 k : ∀ i (h : i < T.length), W.cell? ⟨blk, i * 2, none⟩ = some (.int .i64 T[i].1)
 p : ∀ i (h : i < T.length), W.cell? ⟨blk, i * 2 + 1, none⟩ = some (.pointer (some ⟨T[i].2.2, 0, none⟩))
 bx : ∀ x ∈ T, RuBx W x.2.2 x.2.1
theorem NbRd.below {W W' : World} {blk : Nat} {T : List Nb} (h : NbRd W blk T) (hb : Below W.heap.size W W') : NbRd W' blk T :=
 ⟨Nat.lt_of_lt_of_le h.lt hb.size, fun i hi => (hb.cell (p := ⟨blk, i * 2, none⟩) h.lt).trans (h.k i hi), fun i hi => (hb.cell (p := ⟨blk, i * 2 + 1, none⟩) h.lt).trans (h.p i hi), fun x hx => (h.bx x hx).below hb⟩
theorem nbCells_get : ∀ (l : List Nb) (i : Nat) (h : i < l.length), (nbCells l)[i * 2]? = some (.int .i64 l[i].1) ∧ (nbCells l)[i * 2 + 1]? = some (.pointer (some ⟨l[i].2.2, 0, none⟩))
 | [], i, h => by simp at h
 | x :: r, 0, _ => by simp [nbCells]
 | x :: r, i + 1, h => by
  have := nbCells_get r i (by simpa using h)
  have e : nbCells (x :: r) = [.int .i64 x.1, .pointer (some ⟨x.2.2, 0, none⟩)] ++ nbCells r := by simp [nbCells]
  rw [e]
  rw [List.getElem?_append_right (by simp; omega), List.getElem?_append_right (by simp; omega)]
  rw [show (i + 1) * 2 - [Value.int .i64 x.1, .pointer (some ⟨x.2.2, 0, none⟩)].length = i * 2 by simp; omega, show (i + 1) * 2 + 1 - [Value.int .i64 x.1, .pointer (some ⟨x.2.2, 0, none⟩)].length = i * 2 + 1 by simp; omega]
  simpa using this
theorem nbAt_so {W : World} {base g cap : Nat} {l : List Nb} (h : NbAt W base (.slice (some ⟨g, 0, none⟩) l.length cap) l) : SoW (ptL l) W g (tagged (l.map (·.1))).toArray W := by
 obtain ⟨h1, h2⟩ := h.row
 rcases h2 with ⟨h2, _⟩ | ⟨g', cap', cur, e2, hb, hg, hnc, hcm, hcs, htake⟩
 ·cases h2
 ·simp only [Value.slice.injEq, Option.some.injEq, Addr.mk.injEq, and_true, true_and] at e2
  obtain ⟨rfl, rfl⟩ := e2
  have hc : ∀ i u, (nbCells l)[i]? = some u → W.cell? ⟨g, i, none⟩ = some u := by
   intro i u hu
   rw [cell_of_row W g i cur _ (0, 0) hg]
   rw [← htake, List.getElem?_take] at hu
   split at hu
   ·simpa using hu
   ·cases hu
  have es : (tagged (l.map (·.1))).toArray.size = l.length := by simp [tagged]
  refine ⟨World.grownBy.refl _ _, ⟨fun i hi => ?_, fun i hi => ?_, fun i hi => by simp [World.frozen?, hg]⟩, (Array.getElem?_eq_some_iff.1 hg).1⟩
  ·rw [hc _ _ (nbCells_get l i (by omega)).1, getElem!_pos _ i hi]
   simp [tagged]
  ·rw [hc _ _ (nbCells_get l i (by omega)).2, getElem!_pos _ i hi]
   have : i < l.length := by omega
   simp [tagged, ptL, this]
theorem so_nbRd {W W' : World} {base g cap : Nat} {l : List Nb} {d' : Array El} (h : NbAt W base (.slice (some ⟨g, 0, none⟩) l.length cap) l) (hs : SoW (ptL l) W g d' W') (hp : PermIn 0 l.length (tagged (l.map (·.1))).toArray d') (ho : SoIn 0 l.length d') : NbRd W' g (nbT l) := by
 have e := so_list (l.map (·.1)) d' (by rw [List.length_map]; exact hp) (by rw [List.length_map]; exact ho)
 have em : l.map (·.1) = (nbM l).map (·.1) := by unfold nbM; rw [List.map_map]; rfl
 rw [em, soList_map] at e
 have es : d'.size = l.length := by
  have := congrArg List.length e
  rw [List.length_map, ← List.length_map (f := fun p : (Int × Ru) × Nat => ((p.1.1, p.1.2, ptL l p.2) : Nb))] at this
  have e2 := nbT_len l
  unfold nbT at e2
  rw [e2] at this
  simpa using this
 have hi : ∀ i (h : i < (nbT l).length), d'[i]!.1 = (nbT l)[i].1 ∧ ptL l d'[i]!.2 = (nbT l)[i].2.2 := by
  intro i hi
  have hil : i < d'.size := by rw [es, ← nbT_len]; exact hi
  have e3 : d'.toList[i]? = ((srtZ (nbM l)).map fun p => ((p.1.1, p.2) : El))[i]? := by rw [e]
  rw [List.getElem?_map] at e3
  have hz : i < (srtZ (nbM l)).length := by unfold nbT at hi; rwa [List.length_map] at hi
  have e4 : (nbT l)[i]? = some ((srtZ (nbM l))[i].1.1, (srtZ (nbM l))[i].1.2, ptL l (srtZ (nbM l))[i].2) := by
   unfold nbT
   rw [List.getElem?_map, List.getElem?_eq_getElem hz]
   rfl
  rw [List.getElem?_eq_getElem hi] at e4
  injection e4 with e4
  rw [List.getElem?_eq_getElem hz, Array.getElem?_toList, Array.getElem?_eq_getElem hil] at e3
  injection e3 with e3
  rw [e4]
  rw [getElem!_pos _ i hil, e3]
  exact ⟨rfl, rfl⟩
 refine ⟨hs.lt, fun i hi2 => ?_, fun i hi2 => ?_, fun x hx => ?_⟩
 ·rw [← (hi i hi2).1]; exact hs.h.k i (by rw [es, ← nbT_len]; exact hi2)
 ·rw [← (hi i hi2).2]; exact hs.h.p i (by rw [es, ← nbT_len]; exact hi2)
 ·exact box_kept h.row (h.bx x (nbT_mem hx)) (by decide) hs.g
def tnC (x : Tn) : List Value := [.int .i64 x.a, .int .i64 x.s, .string x.lt]
def tnCells (l : List Tn) : List Value := l.flatMap tnC
theorem tnCells_snoc (l : List Tn) (x : Tn) : tnCells (l ++ [x]) = tnCells l ++ [.int .i64 x.a, .int .i64 x.s, .string x.lt] := by simp [tnCells, tnC]
theorem tnCells_get : ∀ (l : List Tn) (i : Nat) (h : i < l.length), (tnCells l)[i * 3]? = some (.int .i64 l[i].a) ∧ (tnCells l)[i * 3 + 1]? = some (.int .i64 l[i].s) ∧ (tnCells l)[i * 3 + 2]? = some (.string l[i].lt)
 | [], i, h => by simp at h
 | x :: r, 0, _ => by simp [tnCells, tnC]
 | x :: r, i + 1, h => by
  have := tnCells_get r i (by simpa using h)
  have e : tnCells (x :: r) = tnC x ++ tnCells r := by simp [tnCells]
  rw [e]
  have e3 : (tnC x).length = 3 := rfl
  rw [List.getElem?_append_right (by rw [e3]; omega), List.getElem?_append_right (by rw [e3]; omega), List.getElem?_append_right (by rw [e3]; omega), e3,
   show (i + 1) * 3 - 3 = i * 3 by omega, show (i + 1) * 3 + 1 - 3 = i * 3 + 1 by omega, show (i + 1) * 3 + 2 - 3 = i * 3 + 2 by omega]
  simpa using this
theorem infoTn : (Tryz.prog.info? 49).map (fun i => (i.zero, i.size, i.bytes)) = some (some (.agg #[.int .i64 0, .int .i64 0, .string ⟨#[]⟩]), 3, 32) := by kernel_rfl
theorem undTn : Tryz.prog.underlying 37 = some (.slice 49) := by kernel_rfl
def mkR (rules : List Ru) (nm : ByteArray) (off : Int) : Int × List Tn :=
 if (rules.any fun r => decide (r.nm = nm)) = false then (6, []) else if 1500 < yearsOf rules nm then (2, []) else
 match outF off 0 none (srt (nomsOf dayN rules nm)) with
 | none => (5, [])
 | some l => (0, l)
def MakePost (rules : List Ru) (nm : ByteArray) (off : Int) (w : World) (e : Ending) (w' : World) : Prop :=
 ∃ vo, e = .returned (.tuple #[vo, .int .i64 (mkR rules nm off).1]) ∧ w'.ownsRow w.heap.size 49 3 vo (mkR rules nm off).2.length (tnCells (mkR rules nm off).2) ∧ Below w.heap.size w w'
theorem MakePost.bad {rules : List Ru} {nm : ByteArray} {off : Int} {w w' : World} {c : Int} (h : mkR rules nm off = (c, [])) (hb : Below w.heap.size w w') : MakePost rules nm off w (.returned (.tuple #[.slice none 0 0, .int .i64 c])) w' := by
 refine ⟨_, by rw [h], by rw [h]; exact World.ownsRow_nil _ _ _ _, hb⟩
theorem MakePost.ok {rules : List Ru} {nm : ByteArray} {off : Int} {w w' : World} {l : List Tn} {vo : Value} (h : mkR rules nm off = (0, l)) (hr : w'.ownsRow w.heap.size 49 3 vo l.length (tnCells l)) (hb : Below w.heap.size w w') : MakePost rules nm off w (.returned (.tuple #[vo, .int .i64 0])) w' := by
 refine ⟨vo, by rw [h], by rw [h]; exact hr, hb⟩
theorem mkR_6 {rules : List Ru} {nm : ByteArray} {off : Int} (h : (rules.any fun r => decide (r.nm = nm)) = false) : mkR rules nm off = (6, []) := by unfold mkR; rw [if_pos h]
theorem mkR_2 {rules : List Ru} {nm : ByteArray} {off : Int} (h : (rules.any fun r => decide (r.nm = nm)) = true) (hy : 1500 < yearsOf rules nm) : mkR rules nm off = (2, []) := by unfold mkR; rw [if_neg (by rw [h]; simp), if_pos hy]
theorem mkR_5 {rules : List Ru} {nm : ByteArray} {off : Int} (h : (rules.any fun r => decide (r.nm = nm)) = true) (hy : ¬ 1500 < yearsOf rules nm) (ho : outF off 0 none (srt (nomsOf dayN rules nm)) = none) : mkR rules nm off = (5, []) := by unfold mkR; rw [if_neg (by rw [h]; simp), if_neg hy, ho]
theorem mkR_0 {rules : List Ru} {nm : ByteArray} {off : Int} {l : List Tn} (h : (rules.any fun r => decide (r.nm = nm)) = true) (hy : ¬ 1500 < yearsOf rules nm) (ho : outF off 0 none (srt (nomsOf dayN rules nm)) = some l) : mkR rules nm off = (0, l) := by unfold mkR; rw [if_neg (by rw [h]; simp), if_neg hy, ho]
theorem yearsOf_pos (nm : ByteArray) (rules : List Ru) (ho : ∀ r ∈ rules, OkRu r) (h : (rules.any fun r => decide (r.nm = nm)) = true) : 1 ≤ yearsOf rules nm := by
 induction rules with
 | nil => simp at h
 | cons x r ih =>
  have hx := ho x (List.mem_cons_self ..)
  have h0 := (yearsOf_bd nm r fun y hy => by have o := ho y (List.mem_cons_of_mem _ hy); exact ⟨o.f1, o.t1, o.t2⟩).1
  have t1 := hx.t1
  unfold yearsOf at *
  by_cases hn : x.nm = nm
  ·rw [List.filter_cons_of_pos (by simpa using hn)]
   simp only [List.map_cons, List.sum_cons]
   omega
  ·rw [List.filter_cons_of_neg (by simpa using hn)]
   exact ih (fun y hy => ho y (List.mem_cons_of_mem _ hy)) (by simpa [hn] using h)
def OutR (off : Int) (S : List (Int × Ru)) (k : Nat) (save : Int) (out : List Tn) : Prop :=
 out.length = k ∧ outF off 0 none S = (outF off save (out.getLast?.map (·.a)) (S.drop k)).map (out ++ ·)
theorem OutR.zero (off : Int) (S : List (Int × Ru)) : OutR off S 0 0 [] := by
 refine ⟨rfl, ?_⟩
 show outF off 0 none S = (outF off 0 none S).map ([] ++ ·)
 cases outF off 0 none S <;> rfl
theorem OutR.done {off : Int} {S : List (Int × Ru)} {k : Nat} {save : Int} {out : List Tn} (h : OutR off S k save out) (hk : S.length ≤ k) : outF off 0 none S = some out := by
 rw [h.2, List.drop_eq_nil_of_le hk]
 show some (out ++ []) = _
 rw [List.append_nil]
theorem outF_cons (off save : Int) (last : Option Int) (x : Int × Ru) (r : List (Int × Ru)) : outF off save last (x :: r) = if (match last with | none => false | some m => decide (clkT off save x ≤ m)) = true then none else (outF off x.2.sv (some (clkT off save x)) r).map fun l => ⟨clkT off save x, x.2.sv, x.2.lt⟩ :: l := by
 cases last <;> rfl
theorem OutR.bad {off : Int} {S : List (Int × Ru)} {k : Nat} {save : Int} {out : List Tn} (h : OutR off S k save out) (hk : k < S.length) (h0 : 0 < k) (m : Tn) (hm : out[k - 1]? = some m) (hb : clkT off save S[k] ≤ m.a) : outF off 0 none S = none := by
 rw [h.2, List.drop_eq_getElem_cons hk]
 have e : out.getLast? = some m := by rw [List.getLast?_eq_getElem?, h.1]; exact hm
 rw [e]
 unfold outF
 simp [hb]
theorem OutR.more {off : Int} {S : List (Int × Ru)} {k : Nat} {save : Int} {out : List Tn} (h : OutR off S k save out) (hk : k < S.length) (hb : ∀ m, 0 < k → out[k - 1]? = some m → m.a < clkT off save S[k]) : OutR off S (k + 1) S[k].2.sv (out ++ [⟨clkT off save S[k], S[k].2.sv, S[k].2.lt⟩]) := by
 refine ⟨by rw [List.length_append, h.1]; rfl, ?_⟩
 rw [h.2, List.drop_eq_getElem_cons hk, List.getLast?_append]
 have hno : (match out.getLast?.map (·.a) with | none => false | some m => decide (clkT off save S[k] ≤ m)) = false := by
  by_cases h0 : 0 < k
  ·have hl : k - 1 < out.length := by rw [h.1]; omega
   have hm : out[k - 1]? = some out[k - 1] := List.getElem?_eq_getElem hl
   have e : out.getLast? = some out[k - 1] := by rw [List.getLast?_eq_getElem?, show out.length - 1 = k - 1 by rw [h.1]]; exact hm
   rw [e]
   have := hb _ h0 hm
   simp
   omega
  ·have : out = [] := List.eq_nil_of_length_eq_zero (by rw [h.1]; omega)
   subst this
   rfl
 have e1 : outF off save (out.getLast?.map (·.a)) (S[k] :: S.drop (k + 1)) = (outF off S[k].2.sv (some (clkT off save S[k])) (S.drop (k + 1))).map fun l => ⟨clkT off save S[k], S[k].2.sv, S[k].2.lt⟩ :: l := by
  rw [outF_cons, hno]
  simp
 rw [e1, Option.map_map]
 show _ = (outF off S[k].2.sv (some (clkT off save S[k])) (S.drop (k + 1))).map _
 congr 1
 funext l
 simp
theorem nomsOf_bd {rules : List Ru} (ho : ∀ r ∈ rules, OkRu r) (nm : ByteArray) : ∀ x ∈ nomsOf dayN rules nm, OkRu x.2 ∧ -3000000000 ≤ x.1 ∧ x.1 ≤ 5000000000 := by
 intro x hx
 unfold nomsOf at hx
 obtain ⟨r, hr, hx⟩ := List.mem_flatMap.1 hx
 have o := ho r (List.mem_filter.1 hr).1
 unfold nomOf at hx
 obtain ⟨i, hi, rfl⟩ := List.mem_map.1 hx
 have hi := List.mem_range.1 hi
 have hb := dayN_bd o (y := r.yf + (i : Int)) (by omega) (by omega)
 have a1 := o.a1
 have a2 := o.a2
 refine ⟨o, ?_, ?_⟩
 ·show _ ≤ 86400 * _ + r.tm; omega
 ·show 86400 * _ + r.tm ≤ _; omega
end Go.Proofs.YtomahddiclkepaaGreatDoor
namespace Go.Proofs.YtomahddiclkepaaGreatDoor
open Go.RowKit Go.Joins
open Classical
set_option linter.unusedVariables false
set_option linter.unusedSimpArgs false
def MakeSays : Prop := ∀ (rules : List Ru) (nm : ByteArray) (off : Int) (rv : Value) (w : World) (hR : RowsAt (fun r : Ru => (ruCells r).toList) 11 w.heap.size w rv rules) (ho : ∀ r ∈ rules, OkRu r) (hl : rules.length ≤ 40) (hf1 : -75600 ≤ off) (hf2 : off ≤ 75600),
  Calls Tryz.prog 41 #[rv, .string nm, .int .i64 off] w (MakePost rules nm off w)
theorem bk_rules {b : Bk} (h : bkChk b = 0) : b.rules.length ≤ 40 ∧ ∀ r ∈ b.rules, OkRu r := by
 unfold bkChk at h
 split at h
 ·cases h
 ·rename_i h1
  split at h
  ·exact absurd h (by assumption)
  ·rename_i h2
   refine ⟨by omega, fun r hr => ru_ok ?_⟩
   exact (firstE_zero ruChk b.rules).1 (Classical.not_not.1 h2) r hr
theorem BookAt.base {B B' : Nat} {W : World} {rv zv lv : Value} {b : Bk} (h : BookAt B W rv zv lv b) (hB : B ≤ B') : BookAt B' W rv zv lv b :=
 ⟨h.r.mono hB, h.z.mono hB, fun z hz => (h.e z hz).mono hB, h.l.mono hB, h.rs, h.zs, h.ls⟩
theorem own_rowsT {W : World} {B : Nat} {v : Value} {l : List Tn} (h : W.ownsRow B 49 3 v l.length (tnCells l)) (hl : l.length ≤ 100000) : RowsAt tnC 3 W.heap.size W v l := by
 rcases h.2 with ⟨rfl, h0⟩ | ⟨g, cap, cur, rfl, hb, hg, hnc, hcm, hcs, htake⟩
 ·have : l = [] := List.eq_nil_of_length_eq_zero h0
  subst this
  exact ⟨none, 0, rfl, ⟨by simp, by simp⟩, fun h => absurd rfl h⟩
 ·have hc : ∀ i u, (tnCells l)[i]? = some u → W.cell? ⟨g, i, none⟩ = some u := by
   intro i u hu
   rw [cell_of_row W g i cur _ (0, 0) hg]
   rw [← htake, List.getElem?_take] at hu
   split at hu
   ·simpa using hu
   ·cases hu
  refine ⟨_, cap, rfl, ⟨by omega, hnc⟩, fun _ => ⟨g, 0, rfl, (Array.getElem?_eq_some_iff.1 hg).1, fun i hi j u hu => ?_⟩⟩
  obtain ⟨k1, k2, k3⟩ := tnCells_get l i hi
  rw [Nat.zero_add]
  match j, hu with
  | 0, hu => injection hu with hu; subst hu; exact hc _ _ k1
  | 1, hu => injection hu with hu; subst hu; exact hc _ _ k2
  | 2, hu => injection hu with hu; subst hu; exact hc _ _ k3
def lastB (off save : Int) (x : Int × Ru) (last : Option Int) : Bool := match last with | none => false | some m => decide (clkT off save x ≤ m)
theorem outF_some {off save : Int} {last : Option Int} {x : Int × Ru} {r : List (Int × Ru)} {l : List Tn} (h : outF off save last (x :: r) = some l) : lastB off save x last = false ∧ ∃ t, outF off x.2.sv (some (clkT off save x)) r = some t ∧ l = ⟨clkT off save x, x.2.sv, x.2.lt⟩ :: t := by
 have e : outF off save last (x :: r) = if lastB off save x last = true then none else (outF off x.2.sv (some (clkT off save x)) r).map fun l => ⟨clkT off save x, x.2.sv, x.2.lt⟩ :: l := outF_cons ..
 rw [e] at h
 by_cases hb : lastB off save x last = true
 ·rw [if_pos hb] at h; cases h
 ·rw [if_neg hb] at h
  cases e2 : outF off x.2.sv (some (clkT off save x)) r with
  | none => rw [e2] at h; cases h
  | some t =>
   rw [e2] at h
   simp only [Option.map_some, Option.some.injEq] at h
   exact ⟨by simpa using hb, t, rfl, h.symm⟩
theorem outF_len (off : Int) : ∀ (S : List (Int × Ru)) (save : Int) (last : Option Int) (l : List Tn), outF off save last S = some l → l.length = S.length := by
 intro S
 induction S with
 | nil => intro save last l h; unfold outF at h; injection h with h; subst h; rfl
 | cons x r ih =>
  intro save last l h
  obtain ⟨-, t, e, rfl⟩ := outF_some h
  simp [ih _ _ _ e]
theorem outF_rise (off : Int) : ∀ (S : List (Int × Ru)) (save : Int) (last : Option Int) (l : List Tn), outF off save last S = some l → (∀ m, last = some m → ∀ h : 0 < l.length, m < l[0].a) ∧ ∀ i (h : i + 1 < l.length), l[i].a < l[i + 1].a := by
 intro S
 induction S with
 | nil =>
  intro save last l h
  unfold outF at h
  injection h with h
  subst h
  exact ⟨fun m _ h => absurd h (by simp), fun i h => absurd h (by simp)⟩
 | cons x r ih =>
  intro save last l h
  obtain ⟨hno, t, e, rfl⟩ := outF_some h
  obtain ⟨h1, h2⟩ := ih _ _ _ e
  refine ⟨fun m hm _ => ?_, fun i hi => ?_⟩
  ·subst hm
   simp [lastB] at hno
   simpa using hno
  ·cases i with
   | zero => exact h1 _ rfl (by simpa using hi)
   | succ i => exact h2 i (by simpa using hi)
theorem srt_len (m : List (Int × Ru)) : (srt m).length = m.length := List.length_mergeSort ..
theorem mkR_len {rules : List Ru} (ho : ∀ r ∈ rules, OkRu r) (nm : ByteArray) (off : Int) : (mkR rules nm off).2.length ≤ 1500 ∧ ((mkR rules nm off).1 = 0 → ((mkR rules nm off).2.length : Int) = yearsOf rules nm) ∧ ((mkR rules nm off).1 ≠ 0 → (mkR rules nm off).2 = []) := by
 unfold mkR
 split
 ·exact ⟨by simp, (fun h => by cases h), fun _ => rfl⟩
 ·split
  ·exact ⟨by simp, (fun h => by cases h), fun _ => rfl⟩
  ·rename_i hy
   cases e : outF off 0 none (srt (nomsOf dayN rules nm)) with
   | none => exact ⟨by simp, (fun h => by cases h), fun _ => rfl⟩
   | some l =>
    have h1 := outF_len _ _ _ _ _ e
    rw [srt_len] at h1
    have h2 := nomsOf_len dayN nm rules fun r hr => (ho r hr).t1
    have h3 := (yearsOf_bd nm rules fun r hr => by have o := ho r hr; exact ⟨o.f1, o.t1, o.t2⟩).1
    exact ⟨by show l.length ≤ 1500; omega, fun _ => by show (l.length : Int) = _; omega, fun h => absurd rfl h⟩
theorem mkR_ok {rules : List Ru} {nm : ByteArray} {off : Int} (h : (mkR rules nm off).1 = 0) : outF off 0 none (srt (nomsOf dayN rules nm)) = some (mkR rules nm off).2 := by
 unfold mkR at h ⊢
 by_cases h1 : (rules.any fun r => decide (r.nm = nm)) = false
 ·rw [if_pos h1] at h; cases h
 ·rw [if_neg h1] at h ⊢
  by_cases h2 : 1500 < yearsOf rules nm
  ·rw [if_pos h2] at h; cases h
  ·rw [if_neg h2] at h ⊢
   cases e : outF off 0 none (srt (nomsOf dayN rules nm)) with
   | none => rw [e] at h; cases h
   | some l => rfl
def Rises (l : List Tn) : Prop := ∀ i (h : i + 1 < l.length), l[i].a < l[i + 1].a
theorem flat_get {α : Type} {cells : α → List Value} {k : Nat} (hk : ∀ x, (cells x).length = k) : ∀ (l : List α) (i : Nat) (h : i < l.length) (j : Nat), j < k → (l.flatMap cells)[i * k + j]? = (cells l[i])[j]?
 | [], i, h, _, _ => absurd h (by simp)
 | x :: r, 0, _, j, hj => by
  rw [List.flatMap_cons, Nat.zero_mul, Nat.zero_add, List.getElem?_append_left (by rw [hk]; exact hj)]
  rfl
 | x :: r, i + 1, h, j, hj => by
  have := flat_get hk r i (by simpa using h) j hj
  rw [List.flatMap_cons, List.getElem?_append_right (by rw [hk, Nat.add_mul]; omega), hk, show (i + 1) * k + j - k = i * k + j by rw [Nat.add_mul]; omega, this]
  rfl
theorem own_rowsG {α : Type} {cells : α → List Value} {k : Nat} (hk : ∀ x, (cells x).length = k) {W : World} {B : Nat} {T : TypeId} {v : Value} {l : List α} (h : W.ownsRow B T k v l.length (l.flatMap cells)) (hl : l.length ≤ 100000) : RowsAt cells k W.heap.size W v l := by
 rcases h.2 with ⟨rfl, h0⟩ | ⟨g, cap, cur, rfl, hb, hg, hnc, hcm, hcs, htake⟩
 ·have : l = [] := List.eq_nil_of_length_eq_zero h0
  subst this
  exact ⟨none, 0, rfl, ⟨by simp, by simp⟩, fun h => absurd rfl h⟩
 ·have hc : ∀ i u, (l.flatMap cells)[i]? = some u → W.cell? ⟨g, i, none⟩ = some u := by
   intro i u hu
   rw [cell_of_row W g i cur _ (0, 0) hg]
   rw [← htake, List.getElem?_take] at hu
   split at hu
   ·simpa using hu
   ·cases hu
  refine ⟨_, cap, rfl, ⟨by omega, hnc⟩, fun _ => ⟨g, 0, rfl, (Array.getElem?_eq_some_iff.1 hg).1, fun i hi j u hu => ?_⟩⟩
  rw [Nat.zero_add]
  have hj : j < k := by rw [← hk l[i]]; exact (List.getElem?_eq_some_iff.1 hu).1
  exact hc _ _ ((flat_get hk l i hi j hj).trans hu)
end Go.Proofs.YtomahddiclkepaaGreatDoor
namespace Go.Proofs.YtomahddiclkepaaGreatDoor
open Go.RowKit Go.Joins Go.Maps
open Classical
set_option linter.unusedVariables false
set_option linter.unusedSimpArgs false
theorem keyS : Keyed Tryz.prog 9 := string_keyed Tryz.underlying9
def heldV (v : Value) : Option (DataW Value × List MemPlace) := some (.held v, [])
abbrev zoV (z : Zo) : Value := .agg #[.string z.nm, z.ev]
abbrev kyS (s : ByteArray) : Lit := .string s.data.toList
def DZ (l : List Zo) : DataW Value := l.foldl (fun D z => D.put (kyS z.nm) (.held (zoV z))) (.map [])
def DL (l : List Lk) : DataW Value := l.foldl (fun D x => D.put (kyS x.nm) (.held (.string x.tg))) (.map [])
theorem DZ_snoc (l : List Zo) (z : Zo) : DZ (l ++ [z]) = (DZ l).put (kyS z.nm) (.held (zoV z)) := by unfold DZ; rw [List.foldl_append]; rfl
theorem DL_snoc (l : List Lk) (x : Lk) : DL (l ++ [x]) = (DL l).put (kyS x.nm) (.held (.string x.tg)) := by unfold DL; rw [List.foldl_append]; rfl
theorem ownsMap_keep {W W' : World} {b n : Nat} {D : DataW Value} (h : W.ownsMap Tryz.prog 9 heldV b n D) (hk : W'.heap[b]? = W.heap[b]?) : W'.ownsMap Tryz.prog 9 heldV b n D := by
 obtain ⟨es, clock, hb, r⟩ := h
 exact ⟨es, clock, hk.trans hb, r⟩
structure PlAt (B : Nat) (W : World) (pb bz bl nz nl : Nat) (zs : List Zo) (ls : List Lk) : Prop where
 bx : W.heap[pb]? = some (.cells #[.map (some bz), .map (some bl)] 229 (0, 0))
 z : W.ownsMap Tryz.prog 9 heldV bz nz (DZ zs)
 l : W.ownsMap Tryz.prog 9 heldV bl nl (DL ls)
 hp : B ≤ pb
 hz : B ≤ bz
 hl : B ≤ bl
theorem PlAt.below {B B' : Nat} {W W' : World} {pb bz bl nz nl : Nat} {zs : List Zo} {ls : List Lk} (h : PlAt B W pb bz bl nz nl zs ls) (hb : Below B' W W') (hB : W.heap.size ≤ B') : PlAt B W' pb bz bl nz nl zs ls := by
 have h1 : pb < W.heap.size := (Array.getElem?_eq_some_iff.mp h.bx).1
 exact ⟨(hb.block pb (by omega)).trans h.bx, ownsMap_keep h.z (hb.block bz (by have := h.z.lt; omega)), ownsMap_keep h.l (hb.block bl (by have := h.l.lt; omega)), h.hp, h.hz, h.hl⟩
theorem PlAt.cells {B : Nat} {W : World} {pb bz bl nz nl : Nat} {zs : List Zo} {ls : List Lk} (h : PlAt B W pb bz bl nz nl zs ls) : W.cell? ⟨pb, 0, none⟩ = some (.map (some bz)) ∧ W.cell? ⟨pb, 1, none⟩ = some (.map (some bl)) ∧ pb < W.heap.size :=
 ⟨(cell_of_row W _ 0 _ _ _ h.bx).trans rfl, (cell_of_row W _ 1 _ _ _ h.bx).trans rfl, (Array.getElem?_eq_some_iff.mp h.bx).1⟩
def OfPost (b : Bk) (w : World) (e : Ending) (w' : World) : Prop :=
 Below w.heap.size w w' ∧ (bkChk b ≠ 0 → e = .returned (.tuple #[.pointer none, .int .i64 (bkChk b)])) ∧
 (bkChk b = 0 → ∃ pb bz bl nz nl, e = .returned (.tuple #[.pointer (some ⟨pb, 0, none⟩), .int .i64 0]) ∧ PlAt w.heap.size w' pb bz bl nz nl b.zones b.links ∧ nl ≤ 1000 ∧ nz ≤ 1000)
theorem BookAt.baseN {B B' : Nat} {W : World} {rv zv lv : Value} {b : Bk} (h : BookAt B W rv zv lv b) (hB : B ≤ B') : BookAt B' W rv zv lv b :=
 ⟨h.r.mono hB, h.z.mono hB, fun z hz => (h.e z hz).mono hB, h.l.mono hB, h.rs, h.zs, h.ls⟩
theorem take_succN {α : Type} (l : List α) (k : Nat) (h : k < l.length) : l.take (k + 1) = l.take k ++ [l[k]] := List.take_succ_eq_append_getElem h
theorem bk_len {b : Bk} (h : bkChk b = 0) : b.rules.length ≤ 40 ∧ b.zones.length ≤ 20 ∧ b.links.length ≤ 20 := by
 unfold bkChk at h
 split at h
 ·cases h
 ·omega
set_option maxRecDepth 100000 in
set_option maxHeartbeats 4000000 in
theorem namesOf_any (b : Bk) (rv zv lv : Value) (w : World) (hB : BookAt w.heap.size w rv zv lv b) (hm : MaxLen w) (ht : Tab10 w) :
  Calls Tryz.prog 99 #[.agg #[rv, zv, lv]] w (OfPost b w) := by
 have hr := hB.r
 have hz := hB.z
 have hl := hB.l
 obtain ⟨p1, c1, rfl, hlen1, hrow1⟩ := hr
 obtain ⟨p2, c2, rfl, hlen2, hrow2⟩ := hz
 obtain ⟨p3, c3, rfl, hlen3, hrow3⟩ := hl
 obtain ⟨W0, eW⟩ : ∃ W0, w.alloc (.cells #[.slice p1 b.rules.length c1, .slice p2 b.zones.length c2, .slice p3 b.links.length c3] 26) = W0 := ⟨_, rfl⟩
 have hb0 : Below w.heap.size w W0 := by rw [← eW]; exact (Below.refl _ _).alloc (Nat.le_refl _) _
 have hbx : W0.heap[w.heap.size]? = some (.cells #[.slice p1 b.rules.length c1, .slice p2 b.zones.length c2, .slice p3 b.links.length c3] 26 (0, 0)) := by rw [← eW]; exact heap_alloc_new w _
 have hl0 : w.heap.size < W0.heap.size := by rw [← eW]; simp
 have x0 := (cell_of_row W0 _ 0 _ _ _ hbx).trans rfl
 have x1 := (cell_of_row W0 _ 1 _ _ _ hbx).trans rfl
 have x2 := (cell_of_row W0 _ 2 _ _ _ hbx).trans rfl
 have HEW := Lib.hid eW
 have HB0 := Lib.hid hb0
 have HBX := Lib.hid hbx
 have HBK := Lib.hid hB
 have HCK := Lib.hid (bkCheck_any b _ _ _ W0 ((hB.below hb0 (Nat.le_refl _)).baseN (Nat.le_of_lt hl0)) (hm.below hb0) (ht.below hb0))
 have HLN := Lib.hid (bk_len (b := b))
 have HRZ := Lib.hid hB.z
 have HRL := Lib.hid hB.l
 have HSZ := Lib.hid hB.zs
 have HSL := Lib.hid hB.ls
 have HEV := Lib.hid hB.e
 have HPOST : Hid (∀ e w', OfPost b w e w' = (Below w.heap.size w w' ∧ (bkChk b ≠ 0 → e = .returned (.tuple #[.pointer none, .int .i64 (bkChk b)])) ∧ (bkChk b = 0 → ∃ pb bz bl nz nl, e = .returned (.tuple #[.pointer (some ⟨pb, 0, none⟩), .int .i64 0]) ∧ PlAt w.heap.size w' pb bz bl nz nl b.zones b.links ∧ nl ≤ 1000 ∧ nz ≤ 1000))) := fun e w' => rfl
 obtain ⟨C, eC⟩ : ∃ C, bkChk b = C := ⟨_, rfl⟩
 rw [eC] at HCK HLN HPOST
 clear eW hb0 hbx hB hm ht hrow1 hrow2 hrow3 eC
 go_enter Tryz.func99, Tryz.ntmps99
 go_upto_region 1 with fail
 rw [HEW.out]
 go_wp2_with fail
 refine HCK.out.mono ?_
 rintro e w1 ⟨rfl, hb1⟩
 have HB1 := Lib.hid (HB0.out.trans (hb1.mono HB0.out.size))
 have hx1 := (hb1.block w.heap.size hl0).trans HBX.out
 have HBX1 := Lib.hid hx1
 have hl1 : w.heap.size < w1.heap.size := by have := hb1.size; omega
 clear hb1 hx1 x0 x1 x2 HCK HBX
 by_cases hC : C = 0
 case neg =>
  have hz : (C == 0) = false := by simpa using hC
  have hz2 : (!C == 0) = true := by rw [hz]; rfl
  have HC := Lib.hid hC
  clear hC
  go_wp2_with fail
  go_ret2
  rw [HPOST.out]
  exact ⟨HB1.out, fun _ => rfl, fun h => absurd h HC.out⟩
 case pos =>
 subst hC
 obtain ⟨hr40, hz20, hl20⟩ := HLN.out rfl
 have hmk : ∀ (ty : TypeId) (W : World), (Instr.makeMap ty none).run Tryz.prog W = .ok (.map (some W.heap.size)) (W.alloc (.map #[] 0)) := fun ty W => run_makeMap ty W
 obtain ⟨W4, e4⟩ : ∃ W4, ((w1.alloc (.map #[] 0)).alloc (.map #[] 0)).alloc (.cells #[.map (some w1.heap.size), .map (some (w1.heap.size + 1))] 229) = W4 := ⟨_, rfl⟩
 have hP4 : PlAt w.heap.size W4 (w1.heap.size + 1 + 1) w1.heap.size (w1.heap.size + 1) 0 0 [] [] := by
  rw [← e4]
  refine ⟨alloc_at _ _ _ (by simp), ?_, ?_, by omega, by omega, by omega⟩
  ·exact ownsMap_keep (World.ownsMap_made w1 Tryz.prog 9 heldV) (by rw [Below.heap_alloc _ _ _ (by simp; omega), Below.heap_alloc _ _ _ (by simp)])
  ·have := World.ownsMap_made (w1.alloc (.map #[] 0)) Tryz.prog 9 heldV
   rw [show (w1.alloc (.map #[] 0)).heap.size = w1.heap.size + 1 by simp] at this
   exact ownsMap_keep this (by rw [Below.heap_alloc _ _ _ (by simp)])
 have hb4 : Below w1.heap.size w1 W4 := by rw [← e4]; exact (((Below.refl _ _).alloc (Nat.le_refl _) _).alloc (by simp) _).alloc (by simp; omega) _
 have hz4 : W4.heap.size = w1.heap.size + 3 := by rw [← e4]; simp
 have HP4 := Lib.hid hP4
 have HB4 := Lib.hid (HB1.out.trans (hb4.mono (Nat.le_of_lt hl1)))
 have HE4 := Lib.hid e4
 have hx4 := (hb4.block w.heap.size hl1).trans HBX1.out
 have HX4 := Lib.hid hx4
 have hl4 : w.heap.size < W4.heap.size := by omega
 have y1 := (cell_of_row W4 _ 1 _ _ _ hx4).trans rfl
 obtain ⟨pz, cz, ez, -, hrw⟩ := (HRZ.out.below HB4.out (Nat.le_refl _))
 simp only [Value.slice.injEq, true_and] at ez
 obtain ⟨rfl, rfl⟩ := ez
 have HRWZ := Lib.hid hrw
 clear hP4 hb4 e4 hx4 hrw
 go_upto_region 5 with fail
 rw [HE4.out]
 obtain ⟨bz, ebz⟩ : ∃ bz, w1.heap.size = bz := ⟨_, rfl⟩
 rw [ebz] at HP4 hz4 hl1 ⊢
 have HBZ := Lib.hid ebz
 clear ebz
 go_wp2_with fail
 go_loopw [22] (fun i wr => ∃ k : Nat, k ≤ b.zones.length ∧ i = .int .i64 k ∧ Hid (PlAt w.heap.size wr (bz + 1 + 1) bz (bz + 1) k 0 (b.zones.take k) []) ∧ Hid (Below bz W4 wr) ∧ W4.heap.size ≤ wr.heap.size) (fun i _ => b.zones.length - (intOf i).toNat)
 case atStart => exact ⟨0, Nat.zero_le _, rfl, HP4, Lib.hid (Below.refl _ _), Nat.le_refl _⟩
 case round =>
  obtain ⟨k, hk, rfl, HPR, HBR, hzr⟩ := hrel
  by_cases hkl : k < b.zones.length
  ·obtain ⟨bb, o, rfl, hbl, hcs⟩ := HRWZ.out (List.ne_nil_of_length_pos (by omega))
   have hck := hcs k hkl
   have hsz := HSZ.out b.zones[k] (List.getElem_mem hkl)
   have hev := HEV.out b.zones[k] (List.getElem_mem hkl)
   have HTK : Hid (b.zones.take (k + 1) = b.zones.take k ++ [b.zones[k]]) := take_succN _ _ hkl
   obtain ⟨q, eq⟩ : ∃ q, b.zones[k] = q := ⟨_, rfl⟩
   rw [eq] at hck hsz HTK hev
   obtain ⟨nm, ev, er⟩ := q
   simp only at hev
   obtain ⟨pe, ce, rfl, -, -⟩ := hev
   have hnm := hsz.1
   have hbb : bb < bz := by omega
   have z0 := (HBR.out.cell (p := ⟨bb, o + k * 2 + 0, none⟩) hbb).trans (hck 0 _ rfl)
   have z1 := (HBR.out.cell (p := ⟨bb, o + k * 2 + 1, none⟩) hbb).trans (hck 1 _ rfl)
   simp only at hnm z0 z1
   rw [Nat.add_zero] at z0
   obtain ⟨W5, e5⟩ : ∃ W5, wr.alloc (.cells #[.string nm, .slice pe er.length ce] 46) = W5 := ⟨_, rfl⟩
   have hx5 : W5.heap[wr.heap.size]? = some (.cells #[.string nm, .slice pe er.length ce] 46 (0, 0)) := by rw [← e5]; exact heap_alloc_new wr _
   have hb5 : Below wr.heap.size wr W5 := by rw [← e5]; exact (Below.refl _ _).alloc (Nat.le_refl _) _
   have hz5 : W5.heap.size = wr.heap.size + 1 := by rw [← e5]; simp
   have HP5 := Lib.hid (HPR.out.below hb5 (Nat.le_refl _))
   have HB5 : Hid (Below bz W4 W5) := HBR.out.trans (hb5.mono (by omega))
   have q0 := (cell_of_row W5 _ 0 _ _ _ hx5).trans rfl
   have q1 := (cell_of_row W5 _ 1 _ _ _ hx5).trans rfl
   obtain ⟨q2, q3, hpb⟩ := HP5.out.cells
   have HE5 := Lib.hid e5
   clear e5 hx5 eq hcs hck hsz
   go_upto_region 8 with fail
   rw [HE5.out]
   go_still_tail 7, (by kernel_rfl)
   change wpList _ _ _ _ _ W5.drew
   refine wpList_mapUpdate_own _ rfl _ _ _ 226 rfl 9 46 keyS Tryz.underlying226 heldV bz k (DZ (b.zones.take k)) rfl HP5.out.z (by unfold maxLen; omega) (.string nm) (.agg #[.string nm, .slice pe er.length ce]) (kyS nm) rfl rfl (Go.WideMaps.keyOf_string_mk Tryz.underlying9 (by unfold maxLen; omega)) (.held (.agg #[.string nm, .slice pe er.length ce])) [] rfl ?_
   intro w6 hown6 hgrow6
   have HP6 : Hid (PlAt w.heap.size w6 (bz + 1 + 1) bz (bz + 1) (k + 1) 0 (b.zones.take (k + 1)) []) := by
    have h5 := HP5.out
    refine ⟨(hgrow6.block (bz + 1 + 1) hpb (by simp; omega)).trans h5.bx, ?_, (World.ownsMap.drew h5.l).kept hgrow6 (by simp), h5.hp, h5.hz, h5.hl⟩
    rw [HTK.out, DZ_snoc]
    exact hown6
   have HB6 : Hid (Below bz W4 w6) := HB5.out.drew.grown hgrow6 (by show bz ≤ W5.heap.size; omega) (fun q hq => by injection hq with hq; omega)
   have hz6 : W4.heap.size ≤ w6.heap.size := by have := hgrow6.size; have h2 : W5.drew.heap.size = W5.heap.size := rfl; omega
   go_wp2_with fail
   go_roundw
   case rel => exact ⟨k + 1, by omega, by go_num, HP6, HB6, hz6⟩
   case measure => simp [intOf]; omega
  ·obtain rfl : k = b.zones.length := by omega
   rw [List.take_length] at HPR
   have hbW := HB4.out.trans (HBR.out.mono (by omega))
   obtain ⟨W6, e6⟩ : ∃ W6, wr = W6 := ⟨_, rfl⟩
   rw [e6] at HPR hbW hzr ⊢
   have hx6 := (HBR.out.block w.heap.size hl1).trans HX4.out
   rw [e6] at hx6
   have y2 := (cell_of_row W6 _ 2 _ _ _ hx6).trans rfl
   have hl6 : w.heap.size < W6.heap.size := by omega
   obtain ⟨pz, cz, ez, -, hrw⟩ := (HRL.out.below hbW (Nat.le_refl _))
   simp only [Value.slice.injEq, true_and] at ez
   obtain ⟨rfl, rfl⟩ := ez
   have HRWL := Lib.hid hrw
   have HBW := Lib.hid hbW
   clear hrw hbW hx6 e6 HBR HRL HEV HSZ y1 HX4
   go_wp2_with fail
   go_loopw [37] (fun i wr => ∃ k : Nat, k ≤ b.links.length ∧ i = .int .i64 k ∧ Hid (PlAt w.heap.size wr (bz + 1 + 1) bz (bz + 1) b.zones.length k b.zones (b.links.take k)) ∧ Hid (Below bz W6 wr) ∧ W6.heap.size ≤ wr.heap.size) (fun i _ => b.links.length - (intOf i).toNat)
   case atStart => exact ⟨0, Nat.zero_le _, rfl, HPR, Lib.hid (Below.refl _ _), Nat.le_refl _⟩
   case round =>
    obtain ⟨k, hk, rfl, HPR, HBR, hzr2⟩ := hrel
    by_cases hkl : k < b.links.length
    ·obtain ⟨bb, o, rfl, hbl, hcs⟩ := HRWL.out (List.ne_nil_of_length_pos (by omega))
     have hck := hcs k hkl
     have hsz := HSL.out b.links[k] (List.getElem_mem hkl)
     have HTK : Hid (b.links.take (k + 1) = b.links.take k ++ [b.links[k]]) := take_succN _ _ hkl
     obtain ⟨q, eq⟩ : ∃ q, b.links[k] = q := ⟨_, rfl⟩
     rw [eq] at hck hsz HTK
     obtain ⟨nm, tt⟩ := q
     obtain ⟨hnm, htt⟩ := hsz
     have hbb : bb < bz := by omega
     have z0 := (HBR.out.cell (p := ⟨bb, o + k * 2 + 0, none⟩) hbb).trans (hck 0 _ rfl)
     have z1 := (HBR.out.cell (p := ⟨bb, o + k * 2 + 1, none⟩) hbb).trans (hck 1 _ rfl)
     simp only at hnm htt z0 z1
     rw [Nat.add_zero] at z0
     obtain ⟨W5, e5⟩ : ∃ W5, wr.alloc (.cells #[.string nm, .string tt] 91) = W5 := ⟨_, rfl⟩
     have hx5 : W5.heap[wr.heap.size]? = some (.cells #[.string nm, .string tt] 91 (0, 0)) := by rw [← e5]; exact heap_alloc_new wr _
     have hb5 : Below wr.heap.size wr W5 := by rw [← e5]; exact (Below.refl _ _).alloc (Nat.le_refl _) _
     have hz5 : W5.heap.size = wr.heap.size + 1 := by rw [← e5]; simp
     have HP5 := Lib.hid (HPR.out.below hb5 (Nat.le_refl _))
     have HB5 : Hid (Below bz W6 W5) := HBR.out.trans (hb5.mono (by omega))
     have q0 := (cell_of_row W5 _ 0 _ _ _ hx5).trans rfl
     have q1 := (cell_of_row W5 _ 1 _ _ _ hx5).trans rfl
     obtain ⟨q2, q3, hpb⟩ := HP5.out.cells
     have HE5 := Lib.hid e5
     clear e5 hx5 eq hcs hck
     go_upto_region 13 with fail
     rw [HE5.out]
     go_still_tail 8, (by kernel_rfl)
     change wpList _ _ _ _ _ W5.drew
     refine wpList_mapUpdate_own _ rfl _ _ _ 227 rfl 9 9 keyS Tryz.underlying227 heldV (bz + 1) k (DL (b.links.take k)) rfl HP5.out.l (by unfold maxLen; omega) (.string nm) (.string tt) (kyS nm) rfl rfl (Go.WideMaps.keyOf_string_mk Tryz.underlying9 (by unfold maxLen; omega)) (.held (.string tt)) [] rfl ?_
     intro w6 hown6 hgrow6
     have HP6 : Hid (PlAt w.heap.size w6 (bz + 1 + 1) bz (bz + 1) b.zones.length (k + 1) b.zones (b.links.take (k + 1))) := by
      have h5 := HP5.out
      refine ⟨(hgrow6.block (bz + 1 + 1) hpb (by simp)).trans h5.bx, (World.ownsMap.drew h5.z).kept hgrow6 (by simp), ?_, h5.hp, h5.hz, h5.hl⟩
      rw [HTK.out, DL_snoc]
      exact hown6
     have HB6 : Hid (Below bz W6 w6) := HB5.out.drew.grown hgrow6 (by show bz ≤ W5.heap.size; omega) (fun q hq => by injection hq with hq; omega)
     have hz6 : W6.heap.size ≤ w6.heap.size := by have := hgrow6.size; have h2 : W5.drew.heap.size = W5.heap.size := rfl; omega
     go_wp2_with fail
     go_roundw
     case rel => exact ⟨k + 1, by omega, by go_num, HP6, HB6, hz6⟩
     case measure => simp [intOf]; omega
    ·obtain rfl : k = b.links.length := by omega
     rw [List.take_length] at HPR
     have HBD := Lib.hid (HBW.out.trans (HBR.out.mono (by omega)))
     go_wp2_with fail
     go_ret2
     rw [HPOST.out]
     exact ⟨HBD.out, fun h => absurd rfl h, fun _ => ⟨_, _, _, _, _, rfl, HPR.out, by omega, by omega⟩⟩
def lookF {α : Type} (key : α → ByteArray) (l : List α) (k : ByteArray) : Option α := l.foldl (fun acc x => if key x = k then some x else acc) none
def Dof {α : Type} (key : α → ByteArray) (val : α → Value) (l : List α) : DataW Value := l.foldl (fun D x => D.put (kyS (key x)) (.held (val x))) (.map [])
theorem kyS_inj {a b : ByteArray} (h : a ≠ b) : kyS a ≠ kyS b := fun e => h (by
 injection e with e
 cases a; cases b; simp_all [Array.toList_inj])
theorem Dof_look {α : Type} (key : α → ByteArray) (val : α → Value) (k : ByteArray) : ∀ (l : List α) (D : DataW Value) (acc : Option α), IsMap D → (has D (kyS k) = acc.isSome ∧ ∀ zd, D.atKey (kyS k) zd = (match acc with | some x => .held (val x) | none => zd)) →
  (has (l.foldl (fun D x => D.put (kyS (key x)) (.held (val x))) D) (kyS k) = (l.foldl (fun acc x => if key x = k then some x else acc) acc).isSome ∧ ∀ zd, (l.foldl (fun D x => D.put (kyS (key x)) (.held (val x))) D).atKey (kyS k) zd = (match l.foldl (fun acc x => if key x = k then some x else acc) acc with | some x => .held (val x) | none => zd)) := by
 intro l
 induction l with
 | nil => intro D acc _ h; exact h
 | cons x r ih =>
  intro D acc hD h
  refine ih _ _ (hD.put _ _) ?_
  dsimp only
  by_cases e : key x = k
  ·rw [if_pos e, e]
   exact ⟨has_put_same hD (show WideAt.IsKeyLit (kyS k) from trivial) _, fun zd => atKey_put_same hD (show WideAt.IsKeyLit (kyS k) from trivial) _ _⟩
  ·rw [if_neg e]
   have hne : kyS k ≠ kyS (key x) := kyS_inj (fun h => e h.symm)
   refine ⟨(has_put_other hne _).trans h.1, fun zd => (atKey_put_other hne _ _).trans (h.2 zd)⟩
theorem Dof_has {α : Type} (key : α → ByteArray) (val : α → Value) (l : List α) (k : ByteArray) : has (Dof key val l) (kyS k) = (lookF key l k).isSome ∧ ∀ zd, (Dof key val l).atKey (kyS k) zd = (match lookF key l k with | some x => .held (val x) | none => zd) :=
 Dof_look key val k l (.map []) none isMap_empty ⟨rfl, fun zd => rfl⟩
theorem lookF_mem {α : Type} {key : α → ByteArray} {k : ByteArray} : ∀ {l : List α} {acc : Option α} {x : α}, l.foldl (fun acc x => if key x = k then some x else acc) acc = some x → (x ∈ l ∧ key x = k) ∨ acc = some x := by
 intro l
 induction l with
 | nil => intro acc x h; exact .inr h
 | cons y r ih =>
  intro acc x h
  rcases ih h with ⟨h1, h2⟩ | h1
  ·exact .inl ⟨List.mem_cons_of_mem _ h1, h2⟩
  ·dsimp only at h1
   by_cases e : key y = k
   ·rw [if_pos e] at h1
    injection h1 with h1
    subst h1
    exact .inl ⟨List.mem_cons_self .., e⟩
   ·rw [if_neg e] at h1; exact .inr h1
theorem lookF_in {α : Type} {key : α → ByteArray} {k : ByteArray} {l : List α} {x : α} (h : lookF key l k = some x) : x ∈ l ∧ key x = k := by
 rcases lookF_mem h with h | h
 ·exact h
 ·cases h
def resF (zs : List Zo) (ls : List Lk) : Nat → ByteArray → Option Zo × Int
 | 0, _ => (none, 8)
 | n + 1, k => match lookF (·.nm) zs k with
  | some z => (some z, 0)
  | none => match lookF (·.nm) ls k with
   | none => (none, 6)
   | some x => resF zs ls n x.tg
def zoVal (z : Option Zo) : Value := match z with | some z => zoV z | none => .agg #[.string ⟨#[]⟩, .slice none 0 0]
theorem zeroZo (W : World) : (zeroValue 46).run Tryz.prog W = .ok (.agg #[.string ⟨#[]⟩, .slice none 0 0]) W := by kernel_rfl
theorem zeroStr (W : World) : (zeroValue 9).run Tryz.prog W = .ok (.string ⟨#[]⟩) W := by kernel_rfl
theorem look_zone {B : Nat} {W : World} {pb bz bl nz nl : Nat} {zs : List Zo} {ls : List Lk} (h : PlAt B W pb bz bl nz nl zs ls) (k : ByteArray) (hk : k.size ≤ maxLen) :
  (Instr.lookup 226 (.map (some bz)) (.string k) true).run Tryz.prog W = .ok (.tuple #[zoVal (lookF (·.nm) zs k), .bool (lookF (·.nm) zs k).isSome]) W := by
 obtain ⟨v, ps, hrun, hv⟩ := h.z.look_ok keyS Tryz.underlying226 (zeroZo W) (zd := .held (.agg #[.string ⟨#[]⟩, .slice none 0 0])) (zp := []) rfl (Go.WideMaps.keyOf_string_mk Tryz.underlying9 hk)
 have hd := Dof_has (·.nm) zoV zs k
 have e : DZ zs = Dof (·.nm) zoV zs := rfl
 rw [e] at hrun hv
 have hv2 : DataW.held v = _ := (congrArg Prod.fst (Option.some.inj hv)).trans (hd.2 _)
 rw [hrun, hd.1]
 clear hrun hv hd e
 cases hl : lookF (·.nm) zs k with
 | none => rw [hl] at hv2; rw [DataW.held.inj hv2]; rfl
 | some z => rw [hl] at hv2; rw [DataW.held.inj hv2]; rfl
theorem look_link {B : Nat} {W : World} {pb bz bl nz nl : Nat} {zs : List Zo} {ls : List Lk} (h : PlAt B W pb bz bl nz nl zs ls) (k : ByteArray) (hk : k.size ≤ maxLen) :
  (Instr.lookup 227 (.map (some bl)) (.string k) true).run Tryz.prog W = .ok (.tuple #[.string (match lookF (·.nm) ls k with | some x => x.tg | none => ⟨#[]⟩), .bool (lookF (·.nm) ls k).isSome]) W := by
 obtain ⟨v, ps, hrun, hv⟩ := h.l.look_ok keyS Tryz.underlying227 (zeroStr W) (zd := .held (.string ⟨#[]⟩)) (zp := []) rfl (Go.WideMaps.keyOf_string_mk Tryz.underlying9 hk)
 have hd := Dof_has (·.nm) (fun x : Lk => .string x.tg) ls k
 have e : DL ls = Dof (·.nm) (fun x : Lk => .string x.tg) ls := rfl
 rw [e] at hrun hv
 have hv2 : DataW.held v = _ := (congrArg Prod.fst (Option.some.inj hv)).trans (hd.2 _)
 rw [hrun, hd.1]
 clear hrun hv hd e
 cases hl : lookF (·.nm) ls k with
 | none => rw [hl] at hv2; rw [DataW.held.inj hv2]
 | some z => rw [hl] at hv2; rw [DataW.held.inj hv2]
theorem resF_z {zs : List Zo} {ls : List Lk} {n : Nat} {k : ByteArray} {z : Zo} (h : lookF (·.nm) zs k = some z) : resF zs ls (n + 1) k = (some z, 0) := by
 rw [resF, h]
theorem resF_none {zs : List Zo} {ls : List Lk} {n : Nat} {k : ByteArray} (h : lookF (·.nm) zs k = none) (h2 : lookF (·.nm) ls k = none) : resF zs ls (n + 1) k = (none, 6) := by
 rw [resF, h, h2]
theorem resF_go {zs : List Zo} {ls : List Lk} {n : Nat} {k : ByteArray} {x : Lk} (h : lookF (·.nm) zs k = none) (h2 : lookF (·.nm) ls k = some x) : resF zs ls (n + 1) k = resF zs ls n x.tg := by
 rw [resF, h, h2]
def EvOk (zs : List Zo) : Prop := ∀ z ∈ zs, ∃ p c, z.ev = .slice p z.eras.length c
def ResPost (R : Option Zo × Int) (w : World) (e : Ending) (w' : World) : Prop := e = .returned (.tuple #[zoVal R.1, .int .i64 R.2]) ∧ Below w.heap.size w w'
theorem end_two {W : World} {rb : Nat} {a b : Value} {T : TypeId} (h : W.heap[rb]? = some (.cells #[a, b] T (0, 0))) (c d : Value) :
  ∃ W', (W.setCell ⟨rb, 0, none⟩ c).setCell ⟨rb, 1, none⟩ d = W' ∧ W'.heap[rb]? = some (.cells #[c, d] T (0, 0)) ∧ ∀ B, B ≤ rb → Below B W W' := by
 refine ⟨_, rfl, ?_, fun B hB => ((Below.refl _ _).setCell hB _).setCell hB _⟩
 simp [World.setCell, Array.getElem?_modify, h]
theorem ResPost.mk {R : Option Zo × Int} {z : Option Zo} {c : Int} {v : Value} {w w' : World} (h : (z, c) = R) (hv : zoVal z = v) (hb : Below w.heap.size w w') : ResPost R w (.returned (.tuple #[v, .int .i64 c])) w' := by
 subst h
 subst hv
 exact ⟨rfl, hb⟩
set_option maxRecDepth 100000 in
set_option maxHeartbeats 4000000 in
theorem resolve_any (B pb bz bl nz nl : Nat) (zs : List Zo) (ls : List Lk) (nm : ByteArray) (w : World) (hP : PlAt B w pb bz bl nz nl zs ls) (hz : EvOk zs) (hs : ∀ x ∈ ls, x.tg.size ≤ 140737488351232) (hn : nm.size ≤ 140737488351232) (hnl : nl ≤ 1000) :
  Calls Tryz.prog 100 #[.pointer (some ⟨pb, 0, none⟩), .string nm] w (ResPost (resF zs ls (Maps.size (DL ls) + 1) nm) w) := by
 obtain ⟨N, eN⟩ : ∃ N, Maps.size (DL ls) = N := ⟨_, rfl⟩
 have hN : N ≤ 1000 := by rw [← eN]; exact Nat.le_trans hP.l.size_le hnl
 rw [eN]
 obtain ⟨R, eR⟩ : ∃ R, resF zs ls (N + 1) nm = R := ⟨_, rfl⟩
 rw [eR]
 have HR := Lib.hid eR
 have hlen : ∀ {B : Nat} {W : World} {pb bz bl nz nl : Nat}, PlAt B W pb bz bl nz nl zs ls → (Builtin.len_ #[227] 3 #[.map (some bl)]).run Tryz.prog W = .ok (.int .i64 N) W := fun h => by rw [← eN]; exact h.l.len Tryz.underlying227 _
 have HLEN := Lib.hid (fun W h => hlen (B := B) (W := W) (pb := pb) (bz := bz) (bl := bl) (nz := nz) (nl := nl) h)
 have HLZ := Lib.hid (fun W k h hk => look_zone (B := B) (W := W) (pb := pb) (bz := bz) (bl := bl) (nz := nz) (nl := nl) (zs := zs) (ls := ls) h k hk)
 have HLL := Lib.hid (fun W k h hk => look_link (B := B) (W := W) (pb := pb) (bz := bz) (bl := bl) (nz := nz) (nl := nl) (zs := zs) (ls := ls) h k hk)
 obtain ⟨W0, eW⟩ : ∃ W0, w.alloc (.cells #[.string ⟨#[]⟩, .slice none 0 0] 46) = W0 := ⟨_, rfl⟩
 have hb0 : Below w.heap.size w W0 := by rw [← eW]; exact (Below.refl _ _).alloc (Nat.le_refl _) _
 have hbx : W0.heap[w.heap.size]? = some (.cells #[.string ⟨#[]⟩, .slice none 0 0] 46 (0, 0)) := by rw [← eW]; exact heap_alloc_new w _
 have hl0 : w.heap.size < W0.heap.size := by rw [← eW]; simp
 have HP0 := Lib.hid (hP.below hb0 (Nat.le_refl _))
 have HEW := Lib.hid eW
 have HB0 := Lib.hid hb0
 have HBX := Lib.hid hbx
 have HZ := Lib.hid hz
 have HS := Lib.hid hs
 have hpw : pb < w.heap.size := hP.cells.2.2
 obtain ⟨rb, erb⟩ : ∃ rb, w.heap.size = rb := ⟨_, rfl⟩
 rw [erb] at hpw hl0 HBX
 have HERB := Lib.hid erb
 clear eW hb0 hbx hP hz hs eR eN hlen erb
 go_enter Tryz.func100, Tryz.ntmps100
 go_upto_region 1 with fail
 rw [HEW.out, HERB.out]
 obtain ⟨m0, m1, mp⟩ := HP0.out.cells
 have hl := HLEN.out W0 HP0.out
 go_wp2_with fail
 go_loopw [1, 16] (fun v1 i wr => ∃ (k : Nat) (nm' : ByteArray), k ≤ N + 1 ∧ i = .int .i64 k ∧ v1 = .string nm' ∧ nm'.size ≤ 140737488351232 ∧ Hid (resF zs ls (N + 1 - k) nm' = R) ∧ Hid (Below W0.heap.size W0 wr)) (fun _ i _ => N + 1 - (intOf i).toNat)
 case atStart => exact ⟨0, nm, Nat.zero_le _, rfl, rfl, hn, HR, Lib.hid (Below.refl _ _)⟩
 case round =>
  obtain ⟨k, nm1, hk, rfl, rfl, hn1, HRR, HBR⟩ := hrel
  have hzr := HBR.out.size
  have hrb : rb < wr.heap.size := by omega
  have HPW := Lib.hid (HP0.out.below HBR.out (Nat.le_refl _))
  have HXR := Lib.hid ((HBR.out.block rb hl0).trans HBX.out)
  obtain ⟨m0, m1, mp⟩ := HPW.out.cells
  have r0 : wr.cell? ⟨rb, 0, none⟩ = some (.string ⟨#[]⟩) := (cell_of_row wr _ 0 _ _ _ HXR.out).trans rfl
  have r1 : wr.cell? ⟨rb, 1, none⟩ = some (.slice none 0 0) := (cell_of_row wr _ 1 _ _ _ HXR.out).trans rfl
  have f0 : wr.frozen? ⟨rb, 0, none⟩ = false := by simp [World.frozen?, HXR.out]
  have f1 : wr.frozen? ⟨rb, 1, none⟩ = false := by simp [World.frozen?, HXR.out]
  by_cases hkn : k < N + 1
  ·obtain ⟨n, en⟩ : ∃ n, N + 1 - k = n + 1 := ⟨N - k, by omega⟩
   have hrr := HRR.out
   rw [en] at hrr
   have hkz : (k : Int) < (N : Int) + 1 := by omega
   have lz := HLZ.out wr nm1 HPW.out (by unfold maxLen; omega)
   have ll := HLL.out (wr.alloc (.cells #[.string ⟨#[]⟩, .slice none 0 0] 46)) nm1 (HPW.out.below ((Below.refl _ _).alloc (Nat.le_refl _) _) (Nat.le_refl _)) (by unfold maxLen; omega)
   cases hlz : lookF (·.nm) zs nm1 with
   | some z =>
    rw [hlz] at lz
    rw [resF_z hlz] at hrr
    obtain ⟨pe, ce, hev⟩ := HZ.out z (lookF_in hlz).1
    obtain ⟨znm, zev, zer⟩ := z
    simp only at hev
    subst hev
    change _ = Result.ok (Value.tuple #[Value.agg #[Value.string znm, Value.slice pe zer.length ce], Value.bool true]) wr at lz
    have HRE := Lib.hid hrr
    clear hlz hrr ll en
    go_wp2_with fail
    obtain ⟨W9, e9, hh9, hb9⟩ := end_two HXR.out (.string znm) (.slice pe zer.length ce)
    rw [e9]
    obtain ⟨W10, e10⟩ : ∃ W10, W9.alloc (.cells #[(.string znm), (.slice pe zer.length ce)] 46) = W10 := ⟨_, rfl⟩
    rw [e10]
    have hs9 : wr.heap.size ≤ W9.heap.size := (hb9 0 (Nat.zero_le _)).size
    have hh10 : W10.heap[rb]? = some (.cells #[(.string znm), (.slice pe zer.length ce)] 46 (0, 0)) := by rw [← e10, Below.heap_alloc _ _ _ (by omega)]; exact hh9
    have v0 := (cell_of_row W10 _ 0 _ _ _ hh10).trans rfl
    have v1 := (cell_of_row W10 _ 1 _ _ _ hh10).trans rfl
    have HBD : Below w.heap.size w W10 := by
     rw [← e10]
     exact (HB0.out.trans ((HBR.out.mono HB0.out.size).trans (hb9 _ (by have := HERB.out; omega)))).alloc (by have := HERB.out; omega) _
    exact bodyPost_ret (v := .tuple #[.agg #[(.string znm), (.slice pe zer.length ce)], .int .i64 0]) (by simp [results, Tryz.results100, go_sem, v0, v1]) rfl (ResPost.mk (z := some ⟨znm, .slice pe zer.length ce, zer⟩) HRE.out rfl HBD)
   | none =>
    rw [hlz] at lz
    change _ = Result.ok (Value.tuple #[Value.agg #[Value.string ⟨#[]⟩, Value.slice none 0 0], Value.bool false]) wr at lz
    cases hll : lookF (·.nm) ls nm1 with
    | none =>
     rw [hll] at ll
     rw [resF_none hlz hll] at hrr
     have HRE := Lib.hid hrr
     clear hlz hll hrr en
     go_wp2_with fail
     obtain ⟨W9, e9, hh9, hb9⟩ := end_two HXR.out (.string ⟨#[]⟩) (.slice none 0 0)
     rw [e9]
     obtain ⟨W10, e10⟩ : ∃ W10, W9.alloc (.cells #[(.string ⟨#[]⟩), (.slice none 0 0)] 46) = W10 := ⟨_, rfl⟩
     rw [e10]
     have hs9 : wr.heap.size ≤ W9.heap.size := (hb9 0 (Nat.zero_le _)).size
     have hh10 : W10.heap[rb]? = some (.cells #[(.string ⟨#[]⟩), (.slice none 0 0)] 46 (0, 0)) := by rw [← e10, Below.heap_alloc _ _ _ (by omega)]; exact hh9
     have v0 := (cell_of_row W10 _ 0 _ _ _ hh10).trans rfl
     have v1 := (cell_of_row W10 _ 1 _ _ _ hh10).trans rfl
     have HBD : Below w.heap.size w W10 := by
      rw [← e10]
      exact (HB0.out.trans ((HBR.out.mono HB0.out.size).trans (hb9 _ (by have := HERB.out; omega)))).alloc (by have := HERB.out; omega) _
     exact bodyPost_ret (v := .tuple #[.agg #[(.string ⟨#[]⟩), (.slice none 0 0)], .int .i64 6]) (by simp [results, Tryz.results100, go_sem, v0, v1]) rfl (ResPost.mk (z := none) HRE.out rfl HBD)
    | some x =>
     rw [hll] at ll
     rw [resF_go hlz hll] at hrr
     have hxs := HS.out x (lookF_in hll).1
     have en2 : N + 1 - (k + 1) = n := by omega
     rw [← en2] at hrr
     have HRE := Lib.hid hrr
     clear hlz hll hrr en en2
     go_wp2_with fail
     go_roundw
     case rel => exact ⟨k + 1, x.tg, by omega, by go_num, rfl, hxs, HRE, Lib.hid (HBR.out.alloc hzr _)⟩
     case measure => simp [intOf]; omega
  ·have en : N + 1 - k = 0 := by omega
   have hrr := HRR.out
   rw [en] at hrr
   have HRE := Lib.hid hrr
   have hkz : ¬ (k : Int) < (N : Int) + 1 := by omega
   clear hrr en
   go_wp2_with fail
   obtain ⟨W9, e9, hh9, hb9⟩ := end_two HXR.out (.string ⟨#[]⟩) (.slice none 0 0)
   rw [e9]
   have v0 : W9.cell? ⟨rb, 0, none⟩ = some (.string ⟨#[]⟩) := (cell_of_row W9 _ 0 _ _ _ hh9).trans rfl
   have v1 : W9.cell? ⟨rb, 1, none⟩ = some (.slice none 0 0) := (cell_of_row W9 _ 1 _ _ _ hh9).trans rfl
   have HBD : Below w.heap.size w W9 := HB0.out.trans ((HBR.out.mono HB0.out.size).trans (hb9 _ (by have := HERB.out; omega)))
   exact bodyPost_ret (v := .tuple #[.agg #[.string ⟨#[]⟩, .slice none 0 0], .int .i64 8]) (by simp [results, Tryz.results100, go_sem, v0, v1]) rfl (ResPost.mk (z := none) HRE.out rfl HBD)
end Go.Proofs.YtomahddiclkepaaGreatDoor
