/- turns: what Make makes: the plain mathematics. turns: a rule's day in a year. turns.Make: the list of a rule's moments in memory. turns.Make: sums and lists over a prefix of the rules. turns.Make: the loops over rules and years. -/
import Derived.Test.YtlgdilpmdoofiaaDoorBaB
import Derived.Test.YtlgdilpmdoofiaaDoorDay2
import Derived.OwnWalk
import Derived.Test.YtlgdilpmdoofiaaDoorSo8
import Derived.Test.YtlgdilpmdoofiaaDoorOwnK
import Derived.Deep.AppendLies
import Derived.Laws.AppendOwn
namespace Go.Proofs.YtlgdilpmdoofiaaDoor
open Go.RowKit Go.Joins
open Classical
set_option linter.unusedVariables false
set_option linter.unusedSimpArgs false

structure Tn where
  (a s : Int)
  (lt : ByteArray)
/-- a rule's moments by its own clock (D: the day of a year) -/
def nomOf (D : Ru → Int → Int) (r : Ru) : List (Int × Ru) := (List.range (r.yt - r.yf + 1).toNat).map fun (i : Nat) => (86400 * D r (r.yf + (i : Int)) + r.tm, r)
def nomsOf (D : Ru → Int → Int) (rules : List Ru) (nm : ByteArray) : List (Int × Ru) := (rules.filter fun r => decide (r.nm = nm)).flatMap (nomOf D)
def yearsOf (rules : List Ru) (nm : ByteArray) : Int := ((rules.filter fun r => decide (r.nm = nm)).map fun r => r.yt - r.yf + 1).sum
def clkT (off save : Int) (x : Int × Ru) : Int := if x.2.ck = 0 then x.1 - (off + save) else if x.2.ck = 1 then x.1 - off else x.1
/-- the last loop: 'none' where the moments do not rise -/
def outF (off : Int) : Int → Option Int → List (Int × Ru) → Option (List Tn)
  | _, _, [] => some []
  | save, last, x :: r =>
    if (match last with | none => false | some m => decide (clkT off save x ≤ m)) = true then none
    else (outF off x.2.sv (some (clkT off save x)) r).map fun l => ⟨clkT off save x, x.2.sv, x.2.lt⟩ :: l
end Go.Proofs.YtlgdilpmdoofiaaDoor
namespace Go.Proofs.YtlgdilpmdoofiaaDoor
open Go.RowKit Go.Joins
open Classical
set_option linter.unusedVariables false
set_option linter.unusedSimpArgs false

def dayN (r : Ru) (y : Int) : Int :=
  if r.dk = 1 then Civ.days y r.mo r.dn else
  if r.dk = 2 then downTo (Civ.days y r.mo (Civ.mlen y r.mo)) r.dw else
  if r.dk = 3 then upTo (Civ.days y r.mo r.dn) r.dw else downTo (Civ.days y r.mo r.dn) r.dw
theorem mlen_ge (y m : Int) : Civ.mlen 1901 m ≤ Civ.mlen y m := by
  unfold Civ.mlen
  by_cases h : m = 2
  · rw [if_pos h, if_pos h]
    have : Civ.lp 1901 = 0 := by decide
    have h2 : 0 ≤ Civ.lp y := by unfold Civ.lp; split <;> omega
    omega
  · rw [if_neg h, if_neg h]
    exact Int.le_refl _
theorem days_1900 {y m d : Int} (hv : Civ.valid y m d) (h1 : 1900 ≤ y) (h2 : y ≤ 2100) : -25600 ≤ Civ.days y m d ∧ Civ.days y m d ≤ 47900 := by
  have v1 : Civ.valid 1899 12 31 := ⟨by omega, by omega, by omega, by omega, by omega, by unfold Civ.mlen; simp⟩
  have v2 : Civ.valid 2101 1 1 := ⟨by omega, by omega, by omega, by omega, by omega, by unfold Civ.mlen; simp⟩
  have a := Civ.days_lt (y := 1899) (m := 12) (d := 31) (a := y) (b := m) (c := d) v1 hv (Or.inl (by omega))
  have b := Civ.days_lt (y := y) (m := m) (d := d) (a := 2101) (b := 1) (c := 1) hv v2 (Or.inl (by omega))
  have e1 : Civ.days 1899 12 31 = -25568 := by decide
  have e2 : Civ.days 2101 1 1 = 47847 := by decide
  omega
set_option maxHeartbeats 1000000 in
theorem Of_ru (r : Ru) (o : OkRu r) (y : Int) (h1 : r.yf ≤ y) (h2 : y ≤ r.yt) (w : World) :
    Calls Tryd.prog 19 #[.int .i64 y, .int .i64 r.mo, dayV r.dk r.dw r.dn] w fun e w' => e = .returned (.tuple #[.int .i64 (dayN r y), .int .i64 0]) ∧ Below w.heap.size w w' := by
  have a1 : 1900 ≤ y := by have := o.f1; omega
  have a2 : y ≤ 2100 := by have := o.t2; omega
  have hm := mlen_ge y r.mo
  have hn := o.n
  have hb := Civ.mlen_bd y r.mo o.m1 o.m2
  have hd := o.d
  have hd2 := o.d
  unfold dayB at hd2
  simp only [decide_eq_true_eq] at hd2
  rcases hd2 with ⟨k, b1, b2, b3⟩ | ⟨k, b1, b2, b3⟩ | ⟨k | k, b1, b2, b3, b4⟩
  · rw [k] at hd ⊢
    have e : dayN r y = Civ.days y r.mo r.dn := by unfold dayN; rw [if_pos k]
    rw [e]
    exact Of_num y r.mo r.dw r.dn w hd (by omega) (by omega) o.m1 o.m2 (by omega)
  · rw [k] at hd ⊢
    have e : dayN r y = downTo (Civ.days y r.mo (Civ.mlen y r.mo)) r.dw := by unfold dayN; rw [if_neg (by omega), if_pos k]
    rw [e]
    exact Of_last y r.mo r.dw r.dn w hd (by omega) (by omega) o.m1 o.m2
  · rw [k] at hd ⊢
    have hv := days_1900 (y := y) (m := r.mo) (d := r.dn) ⟨by omega, by omega, o.m1, o.m2, b3, by omega⟩ a1 a2
    have e : dayN r y = upTo (Civ.days y r.mo r.dn) r.dw := by unfold dayN; rw [if_neg (by omega), if_neg (by omega), if_pos k]
    rw [e]
    exact Of_up y r.mo r.dw r.dn w hd (by omega) (by omega) o.m1 o.m2 (by omega) (by have := upTo_bd (Civ.days y r.mo r.dn) r.dw b1 b2; omega)
  · rw [k] at hd ⊢
    have hv := days_1900 (y := y) (m := r.mo) (d := r.dn) ⟨by omega, by omega, o.m1, o.m2, b3, by omega⟩ a1 a2
    have e : dayN r y = downTo (Civ.days y r.mo r.dn) r.dw := by unfold dayN; rw [if_neg (by omega), if_neg (by omega), if_neg (by omega)]
    rw [e]
    exact Of_down y r.mo r.dw r.dn w hd (by omega) (by omega) o.m1 o.m2 (by omega) (by have := downTo_bd (Civ.days y r.mo r.dn) r.dw b1 b2; omega)
end Go.Proofs.YtlgdilpmdoofiaaDoor
namespace Go.Proofs.YtlgdilpmdoofiaaDoor
open Go.RowKit Go.Joins
open Classical
set_option linter.unusedVariables false
set_option linter.unusedSimpArgs false

theorem box_kept {W W' : World} {B : Nat} {e t : TypeId} {sz n g : Nat} {v : Value} {xs : List Value} {cs : Array Value} {fr : Nat × Nat} (h : W.ownsRow B e sz v n xs) (hb : W.heap[g]? = some (.cells cs t fr)) (hne : t ≠ e) (hg : W.grownBy W' v.ownBlock) : W'.heap[g]? = some (.cells cs t fr) := by
  have hlt : g < W.heap.size := (Array.getElem?_eq_some_iff.mp hb).1
  rw [hg.block g hlt ?_, hb]
  intro e2
  obtain ⟨-, h | ⟨k, cap, cur, rfl, hk, hc, -⟩⟩ := h
  · rw [h.1] at e2
    cases e2
  · injection e2 with e3
    subst e3
    have hc' : W.heap[g]? = some (.cells cur e (0, 0)) := hc
    rw [hb] at hc'
    injection hc' with e4
    injection e4 with e5 e6 e7
    exact hne e6
/-- a moment: when, its rule, the block of the rule's box -/
abbrev Nb := Int × Ru × Nat
def nbCells (l : List Nb) : List Value := l.flatMap fun x => [.int .i64 x.1, .pointer (some ⟨x.2.2, 0, none⟩)]
structure NbAt (W : World) (base : Nat) (v : Value) (l : List Nb) : Prop where
  row : W.ownsRow base 126 2 v l.length (nbCells l)
  bx : ∀ x ∈ l, RuBx W x.2.2 x.2.1
end Go.Proofs.YtlgdilpmdoofiaaDoor
namespace Go.Proofs.YtlgdilpmdoofiaaDoor
open Go.RowKit Go.Joins
open Classical
set_option linter.unusedVariables false
set_option linter.unusedSimpArgs false

theorem take_succ' {α : Type} (l : List α) (k : Nat) (h : k < l.length) : l.take (k + 1) = l.take k ++ [l[k]] := List.take_succ_eq_append_getElem h
theorem yearsOf_snoc (l : List Ru) (x : Ru) (nm : ByteArray) : yearsOf (l ++ [x]) nm = yearsOf l nm + if x.nm = nm then x.yt - x.yf + 1 else 0 := by
  unfold yearsOf
  rw [List.filter_append, List.map_append, List.sum_append]
  by_cases h : x.nm = nm
  · rw [if_pos h, List.filter_cons_of_pos (by simpa using h)]
    simp
  · rw [if_neg h, List.filter_cons_of_neg (by simpa using h)]
    simp
theorem nomsOf_snoc (D : Ru → Int → Int) (l : List Ru) (x : Ru) (nm : ByteArray) : nomsOf D (l ++ [x]) nm = nomsOf D l nm ++ if x.nm = nm then nomOf D x else [] := by
  unfold nomsOf
  rw [List.filter_append, List.flatMap_append]
  by_cases h : x.nm = nm
  · rw [if_pos h, List.filter_cons_of_pos (by simpa using h)]
    simp
  · rw [if_neg h, List.filter_cons_of_neg (by simpa using h)]
    simp
theorem nomOf_len (D : Ru → Int → Int) (r : Ru) (h : r.yf ≤ r.yt) : ((nomOf D r).length : Int) = r.yt - r.yf + 1 := by
  unfold nomOf
  rw [List.length_map, List.length_range]
  omega
theorem nomsOf_len (D : Ru → Int → Int) (nm : ByteArray) : ∀ l : List Ru, (∀ r ∈ l, r.yf ≤ r.yt) → ((nomsOf D l nm).length : Int) = yearsOf l nm := by
  intro l
  induction l with
  | nil => intro _; rfl
  | cons x r ih =>
    intro h
    have e := ih fun y hy => h y (List.mem_cons_of_mem _ hy)
    have hx := nomOf_len D x (h x (List.mem_cons_self ..))
    unfold nomsOf yearsOf at *
    by_cases hn : x.nm = nm
    · rw [List.filter_cons_of_pos (by simpa using hn)]
      simp only [List.flatMap_cons, List.length_append, List.map_cons, List.sum_cons]
      push_cast
      omega
    · rw [List.filter_cons_of_neg (by simpa using hn)]
      exact e
theorem yearsOf_bd (nm : ByteArray) : ∀ l : List Ru, (∀ r ∈ l, 1900 ≤ r.yf ∧ r.yf ≤ r.yt ∧ r.yt ≤ 2100) → 0 ≤ yearsOf l nm ∧ yearsOf l nm ≤ 201 * l.length := by
  intro l
  induction l with
  | nil => intro _; exact ⟨Int.le_refl _, Int.le_refl _⟩
  | cons x r ih =>
    intro h
    have e := ih fun y hy => h y (List.mem_cons_of_mem _ hy)
    have hx := h x (List.mem_cons_self ..)
    unfold yearsOf at *
    by_cases hn : x.nm = nm
    · rw [List.filter_cons_of_pos (by simpa using hn)]
      simp only [List.map_cons, List.sum_cons, List.length_cons]
      push_cast
      omega
    · rw [List.filter_cons_of_neg (by simpa using hn)]
      simp only [List.length_cons]
      push_cast
      omega
end Go.Proofs.YtlgdilpmdoofiaaDoor
namespace Go.Proofs.YtlgdilpmdoofiaaDoor
open Go.RowKit Go.Joins
open Classical
set_option linter.unusedVariables false
set_option linter.unusedSimpArgs false

theorem infoNb : (Tryd.prog.info? 126).map (fun i => (i.zero, i.size, i.bytes)) = some (some (.agg #[.int .i64 0, .pointer none]), 2, 16) := by kernel_rfl
theorem undNb : Tryd.prog.underlying 123 = some (.slice 126) := by kernel_rfl
def nomB (r : Ru) (b j : Nat) : List Nb := (List.range j).map fun (i : Nat) => (86400 * dayN r (r.yf + (i : Int)) + r.tm, r, b)
theorem nomB_snoc (r : Ru) (b j : Nat) : nomB r b (j + 1) = nomB r b j ++ [(86400 * dayN r (r.yf + (j : Int)) + r.tm, r, b)] := by
  unfold nomB
  rw [List.range_succ, List.map_append]
  rfl
theorem nomB_len (r : Ru) (b j : Nat) : (nomB r b j).length = j := by simp [nomB]
theorem nomB_map (r : Ru) (b C : Nat) (h : (C : Int) = r.yt - r.yf + 1) : (nomB r b C).map (fun x => (x.1, x.2.1)) = nomOf dayN r := by
  unfold nomB nomOf
  rw [List.map_map, ← h, Int.toNat_natCast]
  rfl
theorem nbCells_snoc (l : List Nb) (x : Nb) : nbCells (l ++ [x]) = nbCells l ++ [.int .i64 x.1, .pointer (some ⟨x.2.2, 0, none⟩)] := by simp [nbCells]
theorem dayN_bd {r : Ru} (o : OkRu r) {y : Int} (h1 : r.yf ≤ y) (h2 : y ≤ r.yt) : -30000 ≤ dayN r y ∧ dayN r y ≤ 50000 := by
  have a1 : 1900 ≤ y := by have := o.f1; omega
  have a2 : y ≤ 2100 := by have := o.t2; omega
  have hm := mlen_ge y r.mo
  have hn := o.n
  have hb := Civ.mlen_bd y r.mo o.m1 o.m2
  have hd2 := o.d
  unfold dayB at hd2
  simp only [decide_eq_true_eq] at hd2
  have hlast := days_1900 (y := y) (m := r.mo) (d := Civ.mlen y r.mo) ⟨by omega, by omega, o.m1, o.m2, by omega, by omega⟩ a1 a2
  unfold dayN
  rcases hd2 with ⟨k, b1, b2, b3⟩ | ⟨k, b1, b2, b3⟩ | ⟨k | k, b1, b2, b3, b4⟩
  · have hv := days_1900 (y := y) (m := r.mo) (d := r.dn) ⟨by omega, by omega, o.m1, o.m2, by omega, by omega⟩ a1 a2
    rw [if_pos k]; omega
  · rw [if_neg (by omega), if_pos k]
    have := downTo_bd (Civ.days y r.mo (Civ.mlen y r.mo)) r.dw (by omega) (by omega); omega
  · have hv := days_1900 (y := y) (m := r.mo) (d := r.dn) ⟨by omega, by omega, o.m1, o.m2, by omega, by omega⟩ a1 a2
    rw [if_neg (by omega), if_neg (by omega), if_pos k]
    have := upTo_bd (Civ.days y r.mo r.dn) r.dw b1 b2; omega
  · have hv := days_1900 (y := y) (m := r.mo) (d := r.dn) ⟨by omega, by omega, o.m1, o.m2, by omega, by omega⟩ a1 a2
    rw [if_neg (by omega), if_neg (by omega), if_neg (by omega)]
    have := downTo_bd (Civ.days y r.mo r.dn) r.dw b1 b2; omega

theorem RuBx.alloc {W : World} {B : Nat} {r : Ru} (h : RuBx W B r) (o : Obj) : RuBx (W.alloc o) B r := (Below.heap_alloc _ _ _ h.lt).trans h
theorem NbAt.alloc {W : World} {base : Nat} {v : Value} {l : List Nb} (h : NbAt W base v l) (o : Obj) : NbAt (W.alloc o) base v l := ⟨World.ownsRow.alloc h.row o, fun x hx => (h.bx x hx).alloc o⟩
theorem NbAt.below {W W' : World} {base : Nat} {v : Value} {l : List Nb} (h : NbAt W base v l) (hb : Below W.heap.size W W') : NbAt W' base v l :=
  ⟨own_keep h.row fun g e => hb.block g (World.ownsRow.lt h.row g e).2, fun x hx => (h.bx x hx).below hb⟩
/-- one moment more, of the rule of box b -/
theorem NbAt.snoc {W W' : World} {base : Nat} {v v' : Value} {l : List Nb} {x : Nb} {o : Obj} (h : NbAt W base v l) (hb : RuBx W x.2.2 x.2.1) (hown : W'.ownsRow base 126 2 v' (l.length + 1) (nbCells l ++ [.int .i64 x.1, .pointer (some ⟨x.2.2, 0, none⟩)])) (hg : (W.alloc o).grownBy W' v.ownBlock) : NbAt W' base v' (l ++ [x]) := by
  have hr := World.ownsRow.alloc h.row o
  have kp : ∀ b r, RuBx W b r → RuBx W' b r := fun b r hb => box_kept hr (hb.alloc o) (by decide) hg
  refine ⟨by rw [nbCells_snoc, List.length_append]; exact hown, fun y hy => ?_⟩
  rcases List.mem_append.1 hy with hy | hy
  · exact kp _ _ (h.bx y hy)
  · rw [List.mem_singleton.1 hy]; exact kp _ _ hb
structure MkR (rules : List Ru) (nm : ByteArray) (k : Nat) (Y : Int) (is : Bool) (l : List Nb) : Prop where
  y : Y = yearsOf (rules.take k) nm
  s : is = (rules.take k).any fun r => decide (r.nm = nm)
  l : Y ≤ 1500 → l.map (fun x => (x.1, x.2.1)) = nomsOf dayN (rules.take k) nm
theorem MkR.zero (rules : List Ru) (nm : ByteArray) : MkR rules nm 0 0 false [] := ⟨rfl, rfl, fun _ => rfl⟩
theorem MkR.skip {rules : List Ru} {nm : ByteArray} {k : Nat} {Y : Int} {is : Bool} {l : List Nb} (h : MkR rules nm k Y is l) (hk : k < rules.length) (hn : rules[k].nm ≠ nm) : MkR rules nm (k + 1) Y is l := by
  refine ⟨?_, ?_, fun hy => ?_⟩
  · rw [take_succ' _ _ hk, yearsOf_snoc, if_neg hn, Int.add_zero]; exact h.y
  · rw [take_succ' _ _ hk, List.any_append, ← h.s]; simp [hn]
  · rw [take_succ' _ _ hk, nomsOf_snoc, if_neg hn, List.append_nil]; exact h.l hy
theorem MkR.large {rules : List Ru} {nm : ByteArray} {k : Nat} {Y : Int} {is : Bool} {l : List Nb} (h : MkR rules nm k Y is l) (hk : k < rules.length) (hn : rules[k].nm = nm) (hy : 1500 < Y + (rules[k].yt - rules[k].yf + 1)) : MkR rules nm (k + 1) (Y + (rules[k].yt - rules[k].yf + 1)) true l := by
  refine ⟨?_, ?_, fun hy => by omega⟩
  · rw [take_succ' _ _ hk, yearsOf_snoc, if_pos hn, ← h.y]
  · rw [take_succ' _ _ hk, List.any_append]; simp [hn]
theorem MkR.more {rules : List Ru} {nm : ByteArray} {k : Nat} {Y : Int} {is : Bool} {l : List Nb} (h : MkR rules nm k Y is l) (hk : k < rules.length) (hn : rules[k].nm = nm) (hle : rules[k].yf ≤ rules[k].yt) (b C : Nat) (hC : (C : Int) = rules[k].yt - rules[k].yf + 1) : MkR rules nm (k + 1) (Y + (rules[k].yt - rules[k].yf + 1)) true (l ++ nomB rules[k] b C) := by
  refine ⟨?_, ?_, fun hy => ?_⟩
  · rw [take_succ' _ _ hk, yearsOf_snoc, if_pos hn, ← h.y]
  · rw [take_succ' _ _ hk, List.any_append]; simp [hn]
  · rw [take_succ' _ _ hk, nomsOf_snoc, if_pos hn, List.map_append, nomB_map _ _ _ hC, h.l (by omega)]
theorem MkR.len {rules : List Ru} {nm : ByteArray} {k : Nat} {Y : Int} {is : Bool} {l : List Nb} (h : MkR rules nm k Y is l) (ho : ∀ r ∈ rules, OkRu r) (hy : Y ≤ 1500) : (l.length : Int) = Y := by
  have e := congrArg List.length (h.l hy)
  rw [List.length_map] at e
  rw [e, h.y]
  exact nomsOf_len _ _ _ fun r hr => (ho r (List.mem_of_mem_take hr)).t1
end Go.Proofs.YtlgdilpmdoofiaaDoor
