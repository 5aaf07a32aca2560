/- OwnMemory: the walk. What a row's list of package-level variables gives: strconv's table of powers of ten. What a row's list of package-level variables gives, and bytealg's MaxLen. What the bound of an upto statement gives (a text of the seat that it says to copy). A law's argument of type Rule, as it comes in. A law's argument of type Book, as it comes in. -/
import Derived.Test.YtomahddiclkepaaDoorQo02
import Derived.Test.YtomahddiclkepaaDoorQo07
import Derived.Test.YtomahddiclkepaaDoorQo08
import Derived.Laws.AppendOwnNone
import Derived.Laws.AppendOwn
import Derived.Laws.OwnMore
import Derived.Deep.DeepCutAuto
import Derived.Test.YtomahddiclkepaaDoorCards
import Derived.Test.YtomahddiclkepaaDoorTie
import Derived.LaidMore
import Derived.Deep.DeepHandedRow
import Derived.Deep.DeepWitnessRowRef
import Derived.Lib.LaidTab
import Derived.Stop.LaidErr
import Derived.Test.YtomahddiclkepaaDoorRows
import Derived.Test.YtomahddiclkepaaDoorQo04
import Derived.Deep.Slices
import Derived.Deep.Fields
import Derived.ChangeSame
import Derived.Lib.SmallJoins
import Derived.SizedLaws
namespace Go.Proofs.YtomahddiclkepaaDoor
open Go.RowKit Go.Joins Go.Maps
open Classical
set_option linter.unusedVariables false
set_option linter.unusedSimpArgs false
theorem run_append_zeroO {P : Program} {w : World} (base : Nat) (t ty e : TypeId) (i : TypeInfo) (size : Nat) (ht : P.underlying t = some (.slice e)) (hi : P.info? e = some i)
 (v : Value) (n : Nat) (xs : List Value) (hown : w.ownsRow base e size v n xs) (p : Option Addr) (c : Nat) :
 (Builtin.append_ #[t, t] ty #[v, .slice p 0 c]).run P w = .ok v w := by
 cases p with
 | none =>
  rcases hown.2 with ⟨rfl, rfl⟩ | ⟨g, cap, cur, rfl, _, _, hnc, _⟩
  ·simp [Builtin.append_, run_underlying ht, sizeOf, typeInfo, hi, Builtin.lenOf, Builtin.firstCells, loadCells, loadCellsFrom]
  ·simp [Builtin.append_, run_underlying ht, sizeOf, typeInfo, hi, Builtin.lenOf, Builtin.firstCells, hnc, storeCells, loadCells, loadCellsFrom]
 | some a =>
  rcases hown.2 with ⟨rfl, rfl⟩ | ⟨g, cap, cur, rfl, _, _, hnc, _⟩
  ·simp [Builtin.append_, run_underlying ht, sizeOf, typeInfo, hi, Builtin.lenOf, Builtin.firstCells, loadCells, loadCellsFrom]
  ·simp [Builtin.append_, run_underlying ht, sizeOf, typeInfo, hi, Builtin.lenOf, Builtin.firstCells, hnc, storeCells, loadCells, loadCellsFrom]
theorem wpList_append_zeroO {P : Program} {w : World} {ops : Array Oper} {rest : List Oper} {o : Oper} {a : Act} {Q : Exit → Act → World → Prop} (hgd : o.guard = none) (s x : Operand) (t : TypeId)
 (ho : o.op = .call { callee := .builtin .append, args := #[s, x], argTypes := #[t, t] })
 (base : Nat) (e : TypeId) (i : TypeInfo) (size : Nat) (ht : P.underlying t = some (.slice e)) (hi : P.info? e = some i)
 (v : Value) (n : Nat) (xs : List Value) (hs : a.eval s = v) (hown : w.ownsRow base e size v n xs) (p : Option Addr) (c : Nat) (hx : a.eval x = .slice p 0 c)
 (h : wpList P ops Q rest (a.put o.dst v) w) : wpList P ops Q (o :: rest) a w := by
 refine wpList_plain hgd fun K hK => ?_
 have hrun := run_append_zeroO (P := P) (w := w) base t o.type e i size ht hi v n xs hown p c
 unfold Oper.wp
 simp [execOp, ho, resolve, invoke, builtin, hs, hx, hrun, Result.andThen]
 exact hK _ _ h
def wasK (l : List Zo) (k : Nat) : List Er := (l.take k).flatMap (·.eras)
theorem wasK_succ {l : List Zo} {k : Nat} (h : k < l.length) : wasK l (k + 1) = wasK l k ++ l[k].eras := by
 unfold wasK
 rw [List.take_succ_eq_append_getElem h, List.flatMap_append]
 simp
theorem wasK_le (l : List Zo) (k : Nat) : (wasK l k).length ≤ (wasK l l.length).length := by
 unfold wasK
 rw [List.take_length]
 conv => rhs; rw [← List.take_append_drop k l, List.flatMap_append, List.length_append]
 omega
theorem erFlat_app (a b : List Er) : erFlat (a ++ b) = erFlat a ++ erFlat b := by unfold erFlat; rw [List.flatMap_append]
theorem own_rowsO {α : Type} {cells : α → List Value} {k : Nat} (hk : ∀ x, (cells x).length = k) {W : World} {B : Nat} {T : TypeId} {v : Value} {l : List α} (h : W.ownsRow B T k v l.length (l.flatMap cells)) (hl : l.length ≤ 100000000) : RowsAt cells k W.heap.size W v l := by
 rcases h.2 with ⟨rfl, h0⟩ | ⟨g, cap, cur, rfl, hb, hg, hnc, hcm, hcs, htake⟩
 ·have : l = [] := List.eq_nil_of_length_eq_zero h0
  subst this
  exact ⟨none, 0, rfl, ⟨by simp, by simp⟩, fun h => absurd rfl h⟩
 ·have hc : ∀ i u, (l.flatMap cells)[i]? = some u → W.cell? ⟨g, i, none⟩ = some u := by
   intro i u hu
   rw [cell_of_row W g i cur _ (0, 0) hg]
   rw [← htake, List.getElem?_take] at hu
   split at hu
   ·simpa using hu
   ·cases hu
  refine ⟨_, cap, rfl, ⟨by omega, hnc⟩, fun _ => ⟨g, 0, rfl, (Array.getElem?_eq_some_iff.1 hg).1, fun i hi j u hu => ?_⟩⟩
  rw [Nat.zero_add]
  have hj : j < k := by rw [← hk l[i]]; exact (List.getElem?_eq_some_iff.1 hu).1
  exact hc _ _ ((flat_getN hk l i hi j hj).trans hu)
theorem own_blk {W : World} {B : Nat} {e : TypeId} {s n : Nat} {v : Value} {xs : List Value} (h : W.ownsRow B e s v n xs) : (n = 0 ∧ v = .slice none 0 0) ∨ ∃ g cap cs, v = .slice (some ⟨g, 0, none⟩) n cap ∧ B ≤ g ∧ W.heap[g]? = some (.cells cs e (0, 0)) ∧ n * s ≤ cs.size ∧ n ≤ maxLen := by
 rcases h.2 with ⟨rfl, h0⟩ | ⟨g, cap, cur, rfl, hb, hg, hnc, hcm, hcs, htake⟩
 ·exact .inl ⟨h0, rfl⟩
 ·exact .inr ⟨g, cap, cur, rfl, hb, hg, by rw [hcs]; exact Nat.mul_le_mul_right _ hnc, Nat.le_trans hnc hcm⟩
theorem blk_at {W : World} {g j : Nat} {cs : Array Value} {T : TypeId} (h : W.heap[g]? = some (.cells cs T (0, 0))) (hj : j < cs.size) : (∃ u, W.cell? ⟨g, j, none⟩ = some u) ∧ W.frozen? ⟨g, j, none⟩ = false :=
 ⟨⟨cs[j], by rw [cell_of_row W g j _ _ _ h]; exact Array.getElem?_eq_getElem hj⟩, by simp [World.frozen?, h]⟩
theorem set_at {W : World} {g j : Nat} {cs : Array Value} {T : TypeId} (h : W.heap[g]? = some (.cells cs T (0, 0))) (x : Value) :
 ∃ W', W.setCell ⟨g, j, none⟩ x = W' ∧ (∀ B, B ≤ g → Below B W W') ∧ W'.heap[g]? = some (.cells (cs.setIfInBounds j x) T (0, 0)) ∧ ∀ b, b ≠ g → W'.heap[b]? = W.heap[b]? := by
 refine ⟨_, rfl, fun B hB => (Below.refl _ _).setCell (by exact hB) _, ?_, fun b hb => Below.heap_setCell _ _ _ _ hb⟩
 rw [heap_setCell_same W g j _ _ _ h]
def BlkN (W : World) (g : Nat) (T : TypeId) (m : Nat) : Prop := ∃ cs, W.heap[g]? = some (.cells cs T (0, 0)) ∧ m ≤ cs.size
theorem set5 {W : World} {g m j : Nat} {T : TypeId} (h : BlkN W g T m) (a b c d e : Value) :
 ∃ W', ((((W.setCell ⟨g, j, none⟩ a).setCell ⟨g, j + 1, none⟩ b).setCell ⟨g, j + 2, none⟩ c).setCell ⟨g, j + 3, none⟩ d).setCell ⟨g, j + 4, none⟩ e = W' ∧ (∀ B, B ≤ g → Below B W W') ∧ BlkN W' g T m ∧ ∀ x, x ≠ g → W'.heap[x]? = W.heap[x]? := by
 obtain ⟨cs, h, hm⟩ := h
 obtain ⟨W1, e1, b1, h1, k1⟩ := set_at (j := j) h a
 obtain ⟨W2, e2, b2, h2, k2⟩ := set_at (j := j + 1) h1 b
 obtain ⟨W3, e3, b3, h3, k3⟩ := set_at (j := j + 2) h2 c
 obtain ⟨W4, e4, b4, h4, k4⟩ := set_at (j := j + 3) h3 d
 obtain ⟨W5, e5, b5, h5, k5⟩ := set_at (j := j + 4) h4 e
 refine ⟨W5, by rw [e1, e2, e3, e4, e5], fun B hB => (((b1 B hB).trans (b2 B hB)).trans (b3 B hB)).trans ((b4 B hB).trans (b5 B hB)), ⟨_, h5, by simpa using hm⟩, fun x hx => (k5 x hx).trans ((k4 x hx).trans ((k3 x hx).trans ((k2 x hx).trans (k1 x hx))))⟩
theorem set3 {W : World} {g m j : Nat} {T : TypeId} (h : BlkN W g T m) (a b c : Value) :
 ∃ W', ((W.setCell ⟨g, j, none⟩ a).setCell ⟨g, j + 1, none⟩ b).setCell ⟨g, j + 2, none⟩ c = W' ∧ (∀ B, B ≤ g → Below B W W') ∧ BlkN W' g T m ∧ ∀ x, x ≠ g → W'.heap[x]? = W.heap[x]? := by
 obtain ⟨cs, h, hm⟩ := h
 obtain ⟨W1, e1, b1, h1, k1⟩ := set_at (j := j) h a
 obtain ⟨W2, e2, b2, h2, k2⟩ := set_at (j := j + 1) h1 b
 obtain ⟨W3, e3, b3, h3, k3⟩ := set_at (j := j + 2) h2 c
 refine ⟨W3, by rw [e1, e2, e3], fun B hB => ((b1 B hB).trans (b2 B hB)).trans (b3 B hB), ⟨_, h3, by simpa using hm⟩, fun x hx => (k3 x hx).trans ((k2 x hx).trans (k1 x hx))⟩
theorem set2 {W : World} {g m j : Nat} {T : TypeId} (h : BlkN W g T m) (a b : Value) :
 ∃ W', (W.setCell ⟨g, j, none⟩ a).setCell ⟨g, j + 1, none⟩ b = W' ∧ (∀ B, B ≤ g → Below B W W') ∧ BlkN W' g T m ∧ ∀ x, x ≠ g → W'.heap[x]? = W.heap[x]? := by
 obtain ⟨cs, h, hm⟩ := h
 obtain ⟨W1, e1, b1, h1, k1⟩ := set_at (j := j) h a
 obtain ⟨W2, e2, b2, h2, k2⟩ := set_at (j := j + 1) h1 b
 refine ⟨W2, by rw [e1, e2], fun B hB => (b1 B hB).trans (b2 B hB), ⟨_, h2, by simpa using hm⟩, fun x hx => (k2 x hx).trans (k1 x hx)⟩
theorem infoTyO : (Tryd.prog.info? 37).map (fun i => (i.zero, i.size, i.bytes)) = some (some (.agg #[.int .i64 0, .bool false, .string ⟨#[]⟩]), 3, 32) := by kernel_rfl
theorem infoChO : (Tryd.prog.info? 40).map (fun i => (i.zero, i.size, i.bytes)) = some (some (.agg #[.int .i64 0, .int .i64 0]), 2, 16) := by kernel_rfl
theorem undTyO : Tryd.prog.underlying 27 = some (.slice 37) := by kernel_rfl
theorem undChO : Tryd.prog.underlying 28 = some (.slice 40) := by kernel_rfl
theorem tyCells_len (l : List Ty) : (tyCells l).length = l.length * 3 := by
 induction l with
 | nil => rfl
 | cons x r ih =>
  have e : tyCells (x :: r) = tyC x ++ tyCells r := by simp [tyCells]
  rw [e, List.length_append, ih]
  simp [tyC]
  omega
theorem chCells_len (l : List Ch) : (chCells l).length = l.length * 2 := by
 induction l with
 | nil => rfl
 | cons x r ih =>
  have e : chCells (x :: r) = chC x ++ chCells r := by simp [chCells]
  rw [e, List.length_append, ih]
  simp [chC]
  omega
theorem tyCells_one (l : List Ty) : ∀ u ∈ tyCells l, u.oneCell' = true := by
 intro u hu
 obtain ⟨x, -, hx⟩ := List.mem_flatMap.1 hu
 simp [tyC] at hx
 rcases hx with rfl | rfl | rfl <;> rfl
theorem chCells_one (l : List Ch) : ∀ u ∈ chCells l, u.oneCell' = true := by
 intro u hu
 obtain ⟨x, -, hx⟩ := List.mem_flatMap.1 hu
 simp [chC] at hx
 rcases hx with rfl | rfl <;> rfl
theorem add_noneO (b o i : Nat) : (⟨b, o, none⟩ : Addr).add i = ⟨b, o + i, none⟩ := by
 unfold Addr.add
 split
 ·rename_i h; subst h; rfl
 ·rfl
theorem tyCells_at (l : List Ty) (j : Nat) (u : Value) (h : (tyCells l)[j]? = some u) : ∃ i, ∃ hi : i < l.length, ∃ m, m < 3 ∧ j = i * 3 + m ∧ (tyC l[i])[m]? = some u := by
 have hj : j < l.length * 3 := by rw [← tyCells_len]; exact (List.getElem?_eq_some_iff.1 h).1
 refine ⟨j / 3, by omega, j % 3, by omega, by omega, ?_⟩
 have e := flat_getN (cells := tyC) (k := 3) (fun _ => rfl) l (j / 3) (by omega) (j % 3) (by omega)
 rw [← e, show j / 3 * 3 + j % 3 = j by omega]
 exact h
theorem chCells_at (l : List Ch) (j : Nat) (u : Value) (h : (chCells l)[j]? = some u) : ∃ i, ∃ hi : i < l.length, ∃ m, m < 2 ∧ j = i * 2 + m ∧ (chC l[i])[m]? = some u := by
 have hj : j < l.length * 2 := by rw [← chCells_len]; exact (List.getElem?_eq_some_iff.1 h).1
 refine ⟨j / 2, by omega, j % 2, by omega, by omega, ?_⟩
 have e := flat_getN (cells := chC) (k := 2) (fun _ => rfl) l (j / 2) (by omega) (j % 2) (by omega)
 rw [← e, show j / 2 * 2 + j % 2 = j by omega]
 exact h
set_option maxHeartbeats 1000000 in
theorem CopyTy_any (l : List Ty) (v : Value) (w : World) (h : SlTy w v l) (hl : l.length ≤ 1048576) :
 Calls Tryd.prog 6 #[v] w fun e w' => ∃ vo, e = .returned vo ∧ w'.ownsRow w.heap.size 37 3 vo l.length (tyCells l) ∧ Below w.heap.size w w' := by
 obtain ⟨p, cap, rfl, hat⟩ := h.shape
 obtain ⟨i1, hi1, hz10, hz11, hz12⟩ := info_parts infoTyO
 by_cases hn : l = []
 ·subst hn
  clear hat h
  go_enter Tryd.func6, Tryd.ntmps6
  go_wp2_with (at_builtin; refine wpList_append_zeroO rfl _ _ 27 rfl w.heap.size 37 i1 3 undTyO hi1 (.slice none 0 0) 0 [] rfl (World.ownsRow_nil _ _ _ _) p cap rfl ?_)
  go_ret
  exact ⟨_, rfl, World.ownsRow_nil _ _ _ _, Below.refl _ _⟩
 ·obtain ⟨b, o, rfl, hb, hc⟩ := hat hn
  have hnews : ∀ j u, (tyCells l)[j]? = some u → w.cell? ((⟨b, o, none⟩ : Addr).add j) = some u := by
   intro j u hu
   obtain ⟨i, hi, m, hm, rfl, hx⟩ := tyCells_at l j u hu
   rw [add_noneO, ← Nat.add_assoc]
   obtain ⟨c0, c1, c2⟩ := hc i hi
   match m, hm, hx with
   | 0, _, hx => have e : (.int .i64 l[i].off : Value) = u := Option.some.inj hx; rw [← e]; rw [Nat.add_zero]; exact c0
   | 1, _, hx => have e : (.bool l[i].save : Value) = u := Option.some.inj hx; rw [← e]; exact c1
   | 2, _, hx => have e : (.string l[i].name : Value) = u := Option.some.inj hx; rw [← e]; exact c2
  have HNEW := Lib.hid hnews
  have HLEN := Lib.hid (tyCells_len l)
  have HONE := Lib.hid (tyCells_one l)
  have h63 : 0 + l.length ≤ maxLen := by simp only [maxLen]; omega
  have hby : (0 + l.length) * 32 ≤ 140737488355328 := by omega
  obtain ⟨n, en⟩ : ∃ n, l.length = n := ⟨_, rfl⟩
  rw [en] at HLEN h63 hby ⊢
  clear hat h hc hnews
  go_enter Tryd.func6, Tryd.ntmps6
  go_wp2_with (at_builtin; refine wpList_append_own _ rfl _ _ 27 rfl w.heap.size 37 i1 (.agg #[.int .i64 0, .bool false, .string ⟨#[]⟩]) 3 32 undTyO hi1 hz10 hz11 hz12 rfl (by decide) (.slice none 0 0) 0 [] rfl (World.ownsRow_nil _ _ _ _) ⟨b, o, none⟩ n cap (tyCells l) rfl HLEN.out HNEW.out HONE.out h63 hby (Nat.le_refl _) ?_; intro v' w10 hown hgrow _)
  go_ret
  refine ⟨_, rfl, ?_, (Below.refl _ _).grown hgrow (Nat.le_refl _) (fun q hq => by cases hq)⟩
  simpa using hown
set_option maxHeartbeats 1000000 in
theorem CopyCh_any (l : List Ch) (v : Value) (w : World) (h : SlCh w v l) (hl : l.length ≤ 1048576) :
 Calls Tryd.prog 7 #[v] w fun e w' => ∃ vo, e = .returned vo ∧ w'.ownsRow w.heap.size 40 2 vo l.length (chCells l) ∧ Below w.heap.size w w' := by
 obtain ⟨p, cap, rfl, hat⟩ := h.shape
 obtain ⟨i1, hi1, hz10, hz11, hz12⟩ := info_parts infoChO
 by_cases hn : l = []
 ·subst hn
  clear hat h
  go_enter Tryd.func7, Tryd.ntmps7
  go_wp2_with (at_builtin; refine wpList_append_zeroO rfl _ _ 28 rfl w.heap.size 40 i1 2 undChO hi1 (.slice none 0 0) 0 [] rfl (World.ownsRow_nil _ _ _ _) p cap rfl ?_)
  go_ret
  exact ⟨_, rfl, World.ownsRow_nil _ _ _ _, Below.refl _ _⟩
 ·obtain ⟨b, o, rfl, hb, hc⟩ := hat hn
  have hnews : ∀ j u, (chCells l)[j]? = some u → w.cell? ((⟨b, o, none⟩ : Addr).add j) = some u := by
   intro j u hu
   obtain ⟨i, hi, m, hm, rfl, hx⟩ := chCells_at l j u hu
   rw [add_noneO, ← Nat.add_assoc]
   obtain ⟨c0, c1⟩ := hc i hi
   match m, hm, hx with
   | 0, _, hx => have e : (.int .i64 l[i].t : Value) = u := Option.some.inj hx; rw [← e]; rw [Nat.add_zero]; exact c0
   | 1, _, hx => have e : (.int .i64 l[i].k : Value) = u := Option.some.inj hx; rw [← e]; exact c1
  have HNEW := Lib.hid hnews
  have HLEN := Lib.hid (chCells_len l)
  have HONE := Lib.hid (chCells_one l)
  have h63 : 0 + l.length ≤ maxLen := by simp only [maxLen]; omega
  have hby : (0 + l.length) * 16 ≤ 140737488355328 := by omega
  obtain ⟨n, en⟩ : ∃ n, l.length = n := ⟨_, rfl⟩
  rw [en] at HLEN h63 hby ⊢
  clear hat h hc hnews
  go_enter Tryd.func7, Tryd.ntmps7
  go_wp2_with (at_builtin; refine wpList_append_own _ rfl _ _ 28 rfl w.heap.size 40 i1 (.agg #[.int .i64 0, .int .i64 0]) 2 16 undChO hi1 hz10 hz11 hz12 rfl (by decide) (.slice none 0 0) 0 [] rfl (World.ownsRow_nil _ _ _ _) ⟨b, o, none⟩ n cap (chCells l) rfl HLEN.out HNEW.out HONE.out h63 hby (Nat.le_refl _) ?_; intro v' w10 hown hgrow _)
  go_ret
  refine ⟨_, rfl, ?_, (Below.refl _ _).grown hgrow (Nat.le_refl _) (fun q hq => by cases hq)⟩
  simpa using hown
theorem own_go {W W' : World} {B : Nat} {e : TypeId} {s n : Nat} {v : Value} {xs : List Value} (h : W.ownsRow B e s v n xs) (hb : Below W.heap.size W W') : W'.ownsRow B e s v n xs := own_keep h fun g eg => hb.block g (World.ownsRow.lt h g eg).2
theorem NormO_any (t : Tab) (v : Value) (w : World) (hv : TabAt w v t) :
 Calls Tryd.prog 9 #[v] w fun e w' => ∃ sv cv f C n1 n2 xs ys, e = .returned (.tuple #[.agg #[sv, .int .i64 f, cv], .int .i64 C]) ∧ w'.ownsRow w.heap.size 37 3 sv n1 xs ∧ w'.ownsRow w.heap.size 40 2 cv n2 ys ∧ Below w.heap.size w w' := by
 by_cases h : chk t = 0
 ·refine (Norm_own t v w hv h).mono ?_
  rintro e w' ⟨v', rfl, ⟨sv, cv, B', rfl, hB, h1, h2⟩, hb⟩
  exact ⟨sv, cv, 0, 0, _, _, _, _, rfl, own_base h1 hB, own_base h2 hB, hb⟩
 ·refine (Norm_no t v w hv h).mono ?_
  rintro e w' ⟨rfl, hb⟩
  exact ⟨_, _, 0, chk t, 0, 0, [], [], rfl, World.ownsRow_nil _ _ _ _, World.ownsRow_nil _ _ _ _, hb⟩
theorem zone_cellsO {B : Nat} {W : World} {v : Value} {l : List Zo} (h : RowsAt zoCells 2 B W v l) {k : Nat} (hk : k < l.length) : ∃ b o c, v = .slice (some ⟨b, o, none⟩) l.length c ∧ b < B ∧ W.cell? ⟨b, o + k * 2, none⟩ = some (.string l[k].nm) ∧ W.cell? ⟨b, o + k * 2 + 1, none⟩ = some l[k].ev := by
 obtain ⟨p, c, rfl, -, g⟩ := h
 obtain ⟨b, o, rfl, hb, hc⟩ := g (by intro e; subst e; simp at hk)
 exact ⟨b, o, c, rfl, hb, hc k hk 0 _ rfl, hc k hk 1 _ rfl⟩
set_option maxRecDepth 100000 in
set_option maxHeartbeats 20000000 in
theorem OwnMemory_walk (b : Bk) (rv zv lv : Value) (t : Tab) (tv : Value) (nm : ByteArray) (w : World) (hB : BookAt w.heap.size w rv zv lv b) (hs : (wasK b.zones b.zones.length).length ≤ 1048576) (hv : TabAt w tv t) (hs2 : t.types.length ≤ 1048576 ∧ t.chs.length ≤ 1048576) (hn : nm.size ≤ 140737488351232) (hm : MaxLen w) (ht : Tab10 w) :
 Calls Tryd.prog 3 #[.agg #[rv, zv, lv], tv, .string nm] w fun e w' => e = .returned (.bool true) ∧ Below w.heap.size w w' := by
 obtain ⟨p1, c1, rfl, hlen1, -⟩ := hB.r
 obtain ⟨p2, c2, rfl, hlen2, -⟩ := hB.z
 obtain ⟨p3, c3, rfl, hlen3, -⟩ := hB.l
 obtain ⟨p4, c4, p5, c5, rfl⟩ := tabForms hv
 obtain ⟨hsl1, hsl2, -⟩ := tabOf_slices hv
 obtain ⟨W0, eW⟩ : ∃ W0, (w.alloc (.cells #[.slice p1 b.rules.length c1, .slice p2 b.zones.length c2, .slice p3 b.links.length c3] 26)).alloc (.cells #[.slice p4 t.types.length c4, .int .i64 t.first, .slice p5 t.chs.length c5] 30) = W0 := ⟨_, rfl⟩
 have hz0 : W0.heap.size = w.heap.size + 2 := by rw [← eW]; simp
 have hb0 : Below w.heap.size w W0 := by rw [← eW]; exact ((Below.refl _ _).alloc (Nat.le_refl _) _).alloc (by simp) _
 have hx0 : W0.heap[w.heap.size]? = some (.cells #[.slice p1 b.rules.length c1, .slice p2 b.zones.length c2, .slice p3 b.links.length c3] 26 (0, 0)) := by rw [← eW, Below.heap_alloc _ _ _ (by simp)]; exact heap_alloc_new w _
 have hx1 : W0.heap[w.heap.size + 1]? = some (.cells #[.slice p4 t.types.length c4, .int .i64 t.first, .slice p5 t.chs.length c5] 30 (0, 0)) := by rw [← eW]; exact alloc_at _ _ _ (by simp)
 have HBX : Hid (∀ W, Below W0.heap.size W0 W → w.heap.size + 1 < W.heap.size ∧ W.cell? ⟨w.heap.size, 0, none⟩ = some (.slice p1 b.rules.length c1) ∧ W.cell? ⟨w.heap.size, 1, none⟩ = some (.slice p2 b.zones.length c2) ∧ W.cell? ⟨w.heap.size, 2, none⟩ = some (.slice p3 b.links.length c3) ∧ W.cell? ⟨w.heap.size + 1, 0, none⟩ = some (.slice p4 t.types.length c4) ∧ W.cell? ⟨w.heap.size + 1, 1, none⟩ = some (.int .i64 t.first) ∧ W.cell? ⟨w.heap.size + 1, 2, none⟩ = some (.slice p5 t.chs.length c5)) := by
  show ∀ W, _
  intro W hb
  have hx := (hb.block w.heap.size (by omega)).trans hx0
  have hy := (hb.block (w.heap.size + 1) (by omega)).trans hx1
  exact ⟨by have := hb.size; omega, (cell_of_row W _ 0 _ _ _ hx).trans rfl, (cell_of_row W _ 1 _ _ _ hx).trans rfl, (cell_of_row W _ 2 _ _ _ hx).trans rfl, (cell_of_row W _ 0 _ _ _ hy).trans rfl, (cell_of_row W _ 1 _ _ _ hy).trans rfl, (cell_of_row W _ 2 _ _ _ hy).trans rfl⟩
 have HFA : Hid (∀ W, Below W0.heap.size W0 W → Below w.heap.size w W ∧ BookAt W.heap.size W (.slice p1 b.rules.length c1) (.slice p2 b.zones.length c2) (.slice p3 b.links.length c3) b ∧ TabAt W (.agg #[.slice p4 t.types.length c4, .int .i64 t.first, .slice p5 t.chs.length c5]) t ∧ MaxLen W ∧ Tab10 W ∧ SlTy W (.slice p4 t.types.length c4) t.types ∧ SlCh W (.slice p5 t.chs.length c5) t.chs) := by
  show ∀ W, _
  intro W hb
  have h := hb0.trans (hb.mono hb0.size)
  exact ⟨h, (hB.below h (Nat.le_refl _)).baseN h.size, hv.below h, hm.below h, ht.below h, hsl1.below h, hsl2.below h⟩
 have HB0 := Lib.hid hb0
 have HEW := Lib.hid eW
 have hst := hs2.1
 have hsc := hs2.2
 have HZ : Hid (∀ (k : Nat) (h : k < b.zones.length) wx, Below W0.heap.size W0 wx → ∃ bb o, p2 = some ⟨bb, o, none⟩ ∧ bb < wx.heap.size ∧ wx.cell? ⟨bb, o + k * 2, none⟩ = some (.string b.zones[k].nm) ∧ wx.cell? ⟨bb, o + k * 2 + 1, none⟩ = some b.zones[k].ev ∧ RowsAt erL 5 wx.heap.size wx b.zones[k].ev b.zones[k].eras) := by
  show ∀ (k : Nat), _
  intro k h wx hb
  have hq := (HFA.out wx hb).2.1
  obtain ⟨bb, o, c, e, h1, h2, h3⟩ := zone_cellsO hq.z h
  injection e with e _ _
  exact ⟨bb, o, e, h1, h2, h3, hq.e _ (List.getElem_mem h)⟩
 have hwl := wasK_le b.zones
 have HWL := Lib.hid hwl
 obtain ⟨iE, hiE, hzE0, hzE1, hzE2⟩ := info_parts infoEr
 have HPK := Lib.hid (fun W => packed_any W)
 have HNA := Lib.hid (fun W h1 h2 => named_any W h1 h2)
 clear hB hv eW hx0 hx1 hb0 hm ht hsl1 hsl2 hs2 hwl
 go_enter Tryd.func3, Tryd.ntmps3
 go_upto_region 1 with fail
 rw [HEW.out]
 go_wp2_with fail
 refine (HPK.out W0).mono ?_
 rintro e w1 ⟨rfl, hb1⟩
 have HA1 := Lib.hid hb1
 have HN1 := Lib.hid (HNA.out w1 (HFA.out w1 hb1).2.2.2.1 (HFA.out w1 hb1).2.2.2.2.1)
 clear hb1 HPK HNA
 go_wp2_with fail
 refine HN1.out.mono ?_
 rintro e w2 ⟨rfl, hb2⟩
 have HA2 := Lib.hid (HA1.out.trans (hb2.mono HA1.out.size))
 clear hb2 HN1
 obtain ⟨hz2, g0, g1, g2, g3, g4, g5⟩ := HBX.out w2 HA2.out
 go_wp2_with fail
 go_loopw [7, 31] (fun s7 s31 wr => ∃ k : Nat, k ≤ b.zones.length ∧ s31 = .int .i64 k ∧ wr.ownsRow w2.heap.size 45 5 s7 (wasK b.zones k).length (erFlat (wasK b.zones k)) ∧ Below w2.heap.size w2 wr) (fun _ s31 _ => b.zones.length - (intOf s31).toNat)
 case atStart => exact ⟨0, Nat.zero_le _, rfl, World.ownsRow_nil _ _ _ _, Below.refl _ _⟩
 case round =>
  obtain ⟨k, hk, rfl, hrow, hbel⟩ := hrel
  have HROW := Lib.hid hrow
  have HBE := Lib.hid hbel
  have HAR := Lib.hid (HA2.out.trans (hbel.mono HA2.out.size))
  have hzw := hbel.size
  obtain ⟨A7, c7, rfl⟩ := own_sliceN hrow
  clear hrow hbel g0 g1 g2 g3 g4 g5
  obtain ⟨hzr, g0, g1, g2, g3, g4, g5⟩ := HBX.out wr HAR.out
  by_cases hlt : k < b.zones.length
  ·obtain ⟨bb, o, rfl, hbb, x0, x1, hre⟩ := HZ.out k hlt wr HAR.out
   have hws := wasK_succ hlt
   have hwl1 := HWL.out (k + 1)
   rw [hws, List.length_append] at hwl1
   generalize b.zones[k].nm = zn at x0
   generalize b.zones[k].ev = ze at x1 hre
   generalize b.zones[k].eras = zl at hre hws hwl1
   have HWS := Lib.hid hws
   obtain ⟨pe, ce, rfl, -, hcs⟩ := hre
   have hbz := World.block_lt_of_cell? _ _ x0
   generalize wasK b.zones k = PRE at HROW HWS hwl1
   clear hws
   by_cases hze : zl = []
   ·subst hze
    have HRA : Hid ((wr.alloc (.cells #[.string zn, .slice pe 0 ce] 34)).ownsRow w2.heap.size 45 5 (.slice A7 PRE.length c7) PRE.length (erFlat PRE)) := by
     show World.ownsRow _ _ _ _ _ _ _
     exact own_keep HROW.out fun g e => Below.heap_alloc _ _ _ (by have := (World.ownsRow.lt HROW.out g e).2; omega)
    have HBA := Lib.hid (HBE.out.alloc HBE.out.size (.cells #[.string zn, .slice pe 0 ce] 34))
    rw [List.append_nil] at HWS
    simp only [List.length_nil] at *
    clear hwl1 hcs
    go_wp2_with (at_builtin; refine wpList_append_zeroO rfl _ _ 32 rfl w2.heap.size 45 iE 5 undErS hiE (.slice A7 PRE.length c7) PRE.length (erFlat PRE) rfl HRA.out pe ce rfl ?_)
    go_roundw
    case rel => exact ⟨k + 1, by omega, by go_num, by rw [HWS.out]; exact HRA.out, HBA.out⟩
    case measure => simp [intOf]; omega
   ·obtain ⟨be, oe, rfl, hbe, hce⟩ := hcs hze
    obtain ⟨m, em⟩ : ∃ m, zl.length = m := ⟨_, rfl⟩
    rw [em] at x1 hwl1
    have HRA : Hid ((wr.alloc (.cells #[.string zn, .slice (some ⟨be, oe, none⟩) m ce] 34)).ownsRow w2.heap.size 45 5 (.slice A7 PRE.length c7) PRE.length (erFlat PRE)) := by
     show World.ownsRow _ _ _ _ _ _ _
     exact own_keep HROW.out fun g e => Below.heap_alloc _ _ _ (by have := (World.ownsRow.lt HROW.out g e).2; omega)
    have HNEW : Hid (∀ j u, (erFlat zl)[j]? = some u → (wr.alloc (.cells #[.string zn, .slice (some ⟨be, oe, none⟩) m ce] 34)).cell? ((⟨be, oe, none⟩ : Addr).add j) = some u) := by
     show ∀ j u, _
     intro j u hu
     obtain ⟨i, hi, q, rfl, hq⟩ := erFlat_get zl j u hu
     rw [add_noneO, ← Nat.add_assoc]
     exact (((Below.refl wr.heap.size wr).alloc (Nat.le_refl _) _).cell (p := ⟨be, oe + i * 5 + q, none⟩) hbe).trans (hce i hi q u hq)
    have HFL : Hid ((erFlat zl).length = m * 5) := by show _ = _; rw [erFlat_len, em]
    have HFO := Lib.hid (erFlat_one zl)
    have HML : PRE.length + m ≤ maxLen := by simp only [maxLen]; omega
    have HMB : (PRE.length + m) * 56 ≤ 140737488355328 := by omega
    have HSZ : w2.heap.size ≤ (wr.alloc (.cells #[.string zn, .slice (some ⟨be, oe, none⟩) m ce] 34)).heap.size := by simp; omega
    have HBA := Lib.hid (HBE.out.alloc HBE.out.size (.cells #[.string zn, .slice (some ⟨be, oe, none⟩) m ce] 34))
    have HWL2 : Hid ((wasK b.zones (k + 1)).length = PRE.length + m) := by show _ = _; rw [HWS.out, List.length_append, em]
    have HWF : Hid (erFlat (wasK b.zones (k + 1)) = erFlat PRE ++ erFlat zl) := by show _ = _; rw [HWS.out, erFlat_app]
    clear hcs hce em hze hwl1
    go_wp2_with (at_builtin; refine wpList_append_own _ rfl _ _ 32 rfl w2.heap.size 45 iE (.agg #[.int .i64 0, .string ⟨#[]⟩, .int .i64 0, .string ⟨#[]⟩, .int .i64 0]) 5 56 undErS hiE hzE0 hzE1 hzE2 rfl (by decide) (.slice A7 PRE.length c7) PRE.length (erFlat PRE) rfl HRA.out ⟨be, oe, none⟩ m ce (erFlat zl) rfl HFL.out HNEW.out HFO.out HML HMB HSZ ?_; intro v' w10 hown10 hgrow10 _)
    have HB10 := Lib.hid (HBA.out.grown hgrow10 HSZ (fun q hq => (World.ownsRow.lt HRA.out q hq).1))
    have HO10 := Lib.hid hown10
    clear hown10 hgrow10
    go_wp2_with fail
    go_roundw
    case rel => exact ⟨k + 1, by omega, by go_num, by rw [HWL2.out, HWF.out]; exact HO10.out, HB10.out⟩
    case measure => simp [intOf]; omega
  ·obtain rfl : k = b.zones.length := by omega
   have HWAS := HROW
   obtain ⟨w3, ew3⟩ : ∃ w3, w3 = wr := ⟨_, rfl⟩
   have HCT : Hid (∀ W, Below wr.heap.size wr W → Calls Tryd.prog 6 #[.slice p4 t.types.length c4] W fun e w' => ∃ vo, e = .returned vo ∧ w'.ownsRow wr.heap.size 37 3 vo t.types.length (tyCells t.types) ∧ Below W.heap.size W w') := by
    show ∀ W, _
    intro W hb
    refine (CopyTy_any t.types _ W (HFA.out W (HAR.out.trans (hb.mono HAR.out.size))).2.2.2.2.2.1 hst).mono ?_
    rintro e w' ⟨vo, rfl, hr, hb'⟩
    exact ⟨vo, rfl, own_base hr hb.size, hb'⟩
   have HCC : Hid (∀ W, Below wr.heap.size wr W → Calls Tryd.prog 7 #[.slice p5 t.chs.length c5] W fun e w' => ∃ vo, e = .returned vo ∧ w'.ownsRow wr.heap.size 40 2 vo t.chs.length (chCells t.chs) ∧ Below W.heap.size W w') := by
    show ∀ W, _
    intro W hb
    refine (CopyCh_any t.chs _ W (HFA.out W (HAR.out.trans (hb.mono HAR.out.size))).2.2.2.2.2.2 hsc).mono ?_
    rintro e w' ⟨vo, rfl, hr, hb'⟩
    exact ⟨vo, rfl, own_base hr hb.size, hb'⟩
   have KT : Hid (∀ wx, Below wr.heap.size wr wx → (Below wr.heap.size wr wx ∧ wx.cell? ⟨w.heap.size + 1, 0, none⟩ = some (.slice p4 t.types.length c4) ∧ wx.cell? ⟨w.heap.size + 1, 2, none⟩ = some (.slice p5 t.chs.length c5))) := by
    show ∀ wx, _
    intro wx hb
    have h := HBX.out wx (HAR.out.trans (hb.mono HAR.out.size))
    exact ⟨hb, h.2.2.2.2.1, h.2.2.2.2.2.2⟩
   have KR : Hid (∀ wx, (Below wr.heap.size wr wx ∧ wx.cell? ⟨w.heap.size + 1, 0, none⟩ = some (.slice p4 t.types.length c4) ∧ wx.cell? ⟨w.heap.size + 1, 2, none⟩ = some (.slice p5 t.chs.length c5)) → Below wr.heap.size wr wx) := by
    show ∀ wx, _ → Below wr.heap.size wr wx
    exact fun wx h => h.1
   clear ew3 g0 g1 g2
   go_upto_region 9 with fail
   go_cut [10, 11] (fun s10 s11 wx => wx.ownsRow wr.heap.size 37 3 s10 t.types.length (tyCells t.types) ∧ wx.ownsRow wr.heap.size 40 2 s11 t.chs.length (chCells t.chs) ∧ Below wr.heap.size wr wx)
   case first =>
    go_region_held3 (fun wx => Below wr.heap.size wr wx ∧ wx.cell? ⟨w.heap.size + 1, 0, none⟩ = some (.slice p4 t.types.length c4) ∧ wx.cell? ⟨w.heap.size + 1, 2, none⟩ = some (.slice p5 t.chs.length c5)) ((refine KT.out _ ?_; repeat (first | (with_reducible assumption) | (with_reducible exact Below.refl _ _) | (with_reducible refine Below.drew ?_))))
     (first
       | (go_at_call 6; refine (HCT.out _ (KR.out _ (by assumption))).mono ?_; rintro e wT ⟨vT, rfl, hrT, hbT⟩; have hBT := ((KR.out _ (by assumption)).trans (hbT.mono (KR.out _ (by assumption)).size)))
       | (go_at_call 7; refine (HCC.out _ (KR.out _ (by assumption))).mono ?_; rintro e wC ⟨vC, rfl, hrC, hbC⟩; have hBC := ((KR.out _ (by assumption)).trans (hbC.mono (KR.out _ (by assumption)).size))))
    all_goals go_wp2_with fail
    all_goals go_meet
    all_goals first
     | exact ⟨own_go hrT hbC, hrC, KR.out _ (by assumption)⟩
     | exact ⟨hrT, own_go hrC hbT, KR.out _ (by assumption)⟩
   case rest =>
   obtain ⟨hrT, hrC, hbc⟩ := hcut
   generalize wc = wd at *
   have HAC := Lib.hid (HAR.out.trans (hbc.mono HAR.out.size))
   have HRT := Lib.hid hrT
   have HRC := Lib.hid hrC
   have HWS := Lib.hid (own_go HWAS.out hbc)
   obtain ⟨A10, c10, rfl⟩ := own_sliceN hrT
   obtain ⟨A11, c11, rfl⟩ := own_sliceN hrC
   clear hrT hrC hbc HCT HCC KT KR g3 g4 g5 HROW HWAS
   obtain ⟨hzc, g0, g1, g2, g3, g4, g5⟩ := HBX.out wd HAC.out
   have hfa := HFA.out wd HAC.out
   have hres := Resolve_any b _ _ _ nm wd hfa.2.1 hn hfa.2.2.2.1 hfa.2.2.2.2.1
   obtain ⟨RR, eRR⟩ : ∃ RR, rsv b nm = RR := ⟨_, rfl⟩
   rw [eRR] at hres
   have HRS := Lib.hid hres
   clear hfa hres eRR
   go_wp2_with fail
   refine HRS.out.mono ?_
   rintro e w4 ⟨vo, rfl, hrow, hb4⟩
   obtain ⟨m2, em2⟩ : ∃ m, (zEr RR.1).length = m := ⟨_, rfl⟩
   rw [em2] at hrow
   obtain ⟨A2, c2', rfl⟩ := own_sliceN hrow
   obtain ⟨W5, e5⟩ : ∃ W5, w4.alloc (.cells #[.string (zNm RR.1), .slice A2 m2 c2'] 34) = W5 := ⟨_, rfl⟩
   obtain ⟨zb, ezb⟩ : ∃ zb, w4.heap.size = zb := ⟨_, rfl⟩
   have hb5 : Below w4.heap.size w4 W5 := by rw [← e5]; exact (Below.refl _ _).alloc (Nat.le_refl _) _
   have hx5 : W5.heap[zb]? = some (.cells #[.string (zNm RR.1), .slice A2 m2 c2'] 34 (0, 0)) := by rw [← e5]; exact alloc_at _ _ _ ezb.symm
   have hrow5 := own_go hrow hb5
   have HC5 := Lib.hid (hb4.trans (hb5.mono hb4.size))
   have HX5 := Lib.hid hx5
   have HR5 := Lib.hid hrow5
   have HE5 := Lib.hid e5
   have HZB := Lib.hid ezb
   have z1 : W5.cell? ⟨zb, 1, none⟩ = some (.slice A2 m2 c2') := (cell_of_row W5 _ 1 _ _ _ hx5).trans rfl
   have hzz : zb < W5.heap.size := (Array.getElem?_eq_some_iff.mp hx5).1
   clear hb4 hb5 hx5 hrow hrow5 e5 ezb em2 HRS
   go_upto_region 11 with fail
   rw [HZB.out, HE5.out]
   go_upto_block 2 with fail
   go_cut [] (fun wx => Below wd.heap.size wd wx)
   case first =>
    rcases own_blk HR5.out with ⟨h0, hv⟩ | ⟨g, cap, cs, hv, hbg, hg, hcs, hcap⟩
    ·injection hv with hv1 hv2 hv3
     subst hv1 hv2 hv3
     go_wp2_with fail
     go_loopw [55] (fun s55 wx => s55 = .int .i64 0 ∧ wx = W5) (fun _ _ => 0)
     case atStart => exact ⟨rfl, rfl⟩
     case round =>
      obtain ⟨rfl, rfl⟩ := hrel
      go_wp2_with fail
      go_meet
      exact HC5.out
    ·injection hv with hv1 _ hv3
     subst hv1 hv3
     simp only [maxLen] at hcap
     have hne : zb ≠ g := by intro e; subst e; rw [HX5.out] at hg; injection hg with hg; injection hg with _ h2 _; exact absurd h2 (by decide)
     have HBG := Lib.hid (show BlkN W5 g 45 (m2 * 5) from ⟨cs, hg, hcs⟩)
     clear hg hcs
     go_wp2_with fail
     go_loopw [55] (fun s55 wx => ∃ k : Nat, k ≤ m2 ∧ s55 = .int .i64 k ∧ Below wd.heap.size wd wx ∧ BlkN wx g 45 (m2 * 5) ∧ wx.cell? ⟨zb, 1, none⟩ = some (.slice (some ⟨g, 0, none⟩) m2 c2') ∧ wx.heap[zb]? = W5.heap[zb]?) (fun s55 _ => m2 - (intOf s55).toNat)
     case atStart => exact ⟨0, Nat.zero_le _, rfl, HC5.out, HBG.out, z1, rfl⟩
     case round =>
      obtain ⟨k, hk, rfl, hbx, hbn, z1', hzk⟩ := hrel
      have HBX2 := Lib.hid hbx
      have HBN := Lib.hid hbn
      have HZK := Lib.hid hzk
      have hzl : zb < wr.heap.size := World.block_lt_of_cell? _ _ z1'
      clear hbx hzk z1
      by_cases hlt2 : k < m2
      ·obtain ⟨cs, hg, hcs⟩ := hbn
       obtain ⟨⟨u0, w0⟩, f0⟩ := blk_at (j := k * 5) hg (by omega)
       obtain ⟨⟨u1, w1'⟩, f1⟩ := blk_at (j := k * 5 + 1) hg (by omega)
       obtain ⟨⟨u2, w2'⟩, f2⟩ := blk_at (j := k * 5 + 2) hg (by omega)
       obtain ⟨⟨u3, w3'⟩, f3⟩ := blk_at (j := k * 5 + 3) hg (by omega)
       obtain ⟨⟨u4, w4'⟩, f4⟩ := blk_at (j := k * 5 + 4) hg (by omega)
       clear hg hcs
       go_wp2_with fail
       obtain ⟨W', e', hB', hN', hk'⟩ := set5 (j := k * 5) HBN.out (.int .i64 77) (.string ⟨#[]⟩) (.int .i64 0) (.string ⟨#[]⟩) (.int .i64 0)
       rw [e']
       have hzb' := (hk' zb hne).trans HZK.out
       go_roundw
       case rel => exact ⟨k + 1, by omega, by go_num, HBX2.out.trans (hB' _ hbg), hN', (cell_of_row W' _ 1 _ _ _ (hzb'.trans HX5.out)).trans rfl, hzb'⟩
       case measure => simp [intOf]; omega
      ·clear hbn
       go_wp2_with fail
       go_meet
       exact HBX2.out
   case rest =>
   have hcd := hcut
   clear hcut
   generalize wc = we at *
   have HD := Lib.hid hcd
   have HAE := Lib.hid (HAC.out.trans (hcd.mono HAC.out.size))
   clear hcd z1 hzz g0 g1 g2 g3 g4 g5
   obtain ⟨hze, g0, g1, g2, g3, g4, g5⟩ := HBX.out we HAE.out
   have HNO := Lib.hid (NormO_any t _ we (HFA.out we HAE.out).2.2.1)
   go_wp2_with fail
   refine HNO.out.mono ?_
   rintro e w6 ⟨sv, cv, ff, C, n3, n4, xs, ys, rfl, hrowT, hrowC, hb6⟩
   obtain ⟨A3, c3', rfl⟩ := own_sliceN hrowT
   obtain ⟨A4, c4', rfl⟩ := own_sliceN hrowC
   obtain ⟨W7, e7⟩ : ∃ W7, w6.alloc (.cells #[.slice A3 n3 c3', .int .i64 ff, .slice A4 n4 c4'] 30) = W7 := ⟨_, rfl⟩
   obtain ⟨nb, enb⟩ : ∃ nb, w6.heap.size = nb := ⟨_, rfl⟩
   have hb7 : Below w6.heap.size w6 W7 := by rw [← e7]; exact (Below.refl _ _).alloc (Nat.le_refl _) _
   have hx7 : W7.heap[nb]? = some (.cells #[.slice A3 n3 c3', .int .i64 ff, .slice A4 n4 c4'] 30 (0, 0)) := by rw [← e7]; exact alloc_at _ _ _ enb.symm
   have HC7 := Lib.hid (hb6.trans (hb7.mono hb6.size))
   have HX7 := Lib.hid hx7
   have HR7 := Lib.hid (own_go hrowT hb7)
   have HQ7 := Lib.hid (own_go hrowC hb7)
   have HE7 := Lib.hid e7
   have HNB := Lib.hid enb
   have z0 : W7.cell? ⟨nb, 0, none⟩ = some (.slice A3 n3 c3') := (cell_of_row W7 _ 0 _ _ _ hx7).trans rfl
   have z2 : W7.cell? ⟨nb, 2, none⟩ = some (.slice A4 n4 c4') := (cell_of_row W7 _ 2 _ _ _ hx7).trans rfl
   have hzn : nb < W7.heap.size := (Array.getElem?_eq_some_iff.mp hx7).1
   clear hb6 hb7 hx7 hrowT hrowC e7 enb HNO
   go_upto_region 17 with fail
   rw [HNB.out, HE7.out]
   go_upto_block 4 with fail
   go_cut [] (fun wx => Below we.heap.size we wx ∧ wx.heap[nb]? = W7.heap[nb]? ∧ wx.ownsRow we.heap.size 40 2 (.slice A4 n4 c4') n4 ys)
   case first =>
    rcases own_blk HR7.out with ⟨h0, hv⟩ | ⟨g, cap, cs, hv, hbg, hg, hcs, hcap⟩
    ·injection hv with hv1 hv2 hv3
     subst hv1 hv2 hv3
     go_wp2_with fail
     go_loopw [72] (fun s55 wx => s55 = .int .i64 0 ∧ wx = W7) (fun _ _ => 0)
     case atStart => exact ⟨rfl, rfl⟩
     case round =>
      obtain ⟨rfl, rfl⟩ := hrel
      go_wp2_with fail
      go_meet
      exact ⟨HC7.out, rfl, HQ7.out⟩
    ·injection hv with hv1 _ hv3
     subst hv1 hv3
     simp only [maxLen] at hcap
     have hne : nb ≠ g := by intro e; subst e; rw [HX7.out] at hg; injection hg with hg; injection hg with _ h2 _; exact absurd h2 (by decide)
     have HBG := Lib.hid (show BlkN W7 g 37 (n3 * 3) from ⟨cs, hg, hcs⟩)
     have HAP : Hid (∀ q, (Value.slice A4 n4 c4').ownBlock = some q → q ≠ g) := by
      show ∀ q, _
      intro q eq e0
      rcases own_apart HQ7.out HR7.out (by decide) with h | h
      ·rw [eq] at h; cases h
      ·exact h (by rw [eq, e0]; rfl)
     clear hg hcs
     go_wp2_with fail
     go_loopw [72] (fun s55 wx => ∃ k : Nat, k ≤ n3 ∧ s55 = .int .i64 k ∧ Below we.heap.size we wx ∧ BlkN wx g 37 (n3 * 3) ∧ wx.cell? ⟨nb, 0, none⟩ = some (.slice (some ⟨g, 0, none⟩) n3 c3') ∧ ∀ x, x ≠ g → wx.heap[x]? = W7.heap[x]?) (fun s55 _ => n3 - (intOf s55).toNat)
     case atStart => exact ⟨0, Nat.zero_le _, rfl, HC7.out, HBG.out, z0, fun _ _ => rfl⟩
     case round =>
      obtain ⟨k, hk, rfl, hbx, hbn, z1', hzk⟩ := hrel
      have HBX2 := Lib.hid hbx
      have HBN := Lib.hid hbn
      have HZK := Lib.hid hzk
      have hzl : nb < wr.heap.size := World.block_lt_of_cell? _ _ z1'
      clear hbx hzk z0
      by_cases hlt2 : k < n3
      ·obtain ⟨cs, hg, hcs⟩ := hbn
       obtain ⟨⟨u0, y0⟩, f0⟩ := blk_at (j := k * 3) hg (by omega)
       obtain ⟨⟨u1, y1⟩, f1⟩ := blk_at (j := k * 3 + 1) hg (by omega)
       obtain ⟨⟨u2, y2⟩, f2⟩ := blk_at (j := k * 3 + 2) hg (by omega)
       clear hg hcs
       go_wp2_with fail
       obtain ⟨W', e', hB', hN', hk'⟩ := set3 (j := k * 3) HBN.out (.int .i64 77) (.bool false) (.string ⟨#[]⟩)
       rw [e']
       go_roundw
       case rel => exact ⟨k + 1, by omega, by go_num, HBX2.out.trans (hB' _ hbg), hN', (cell_of_row W' _ 0 _ _ _ ((hk' nb hne).trans ((HZK.out nb hne).trans HX7.out))).trans rfl, fun x hx => (hk' x hx).trans (HZK.out x hx)⟩
       case measure => simp [intOf]; omega
      ·clear hbn
       go_wp2_with fail
       go_meet
       exact ⟨HBX2.out, HZK.out nb hne, own_keep HQ7.out fun q eq => HZK.out q fun e0 => HAP.out q eq e0⟩
   case rest =>
   obtain ⟨hc8, hx8, hq8⟩ := hcut
   have hx8 := hx8.trans HX7.out
   clear HC7 HX7 HR7 HQ7 HE7 z0 z2 hzn
   generalize wc = W7 at *
   have HC7 := Lib.hid hc8
   have HX7 := Lib.hid hx8
   have HQ7 := Lib.hid hq8
   have z2 : W7.cell? ⟨nb, 2, none⟩ = some (.slice A4 n4 c4') := (cell_of_row W7 _ 2 _ _ _ hx8).trans rfl
   have hzn : nb < W7.heap.size := (Array.getElem?_eq_some_iff.mp hx8).1
   clear hc8 hx8 hq8
   go_upto_block 6 with fail
   go_cut [] (fun wx => Below we.heap.size we wx)
   case first =>
    rcases own_blk HQ7.out with ⟨h0, hv⟩ | ⟨g, cap, cs, hv, hbg, hg, hcs, hcap⟩
    ·injection hv with hv1 hv2 hv3
     subst hv1 hv2 hv3
     go_wp2_with fail
     go_loopw [84] (fun s55 wx => s55 = .int .i64 0 ∧ wx = W7) (fun _ _ => 0)
     case atStart => exact ⟨rfl, rfl⟩
     case round =>
      obtain ⟨rfl, rfl⟩ := hrel
      go_wp2_with fail
      go_meet
      exact HC7.out
    ·injection hv with hv1 _ hv3
     subst hv1 hv3
     simp only [maxLen] at hcap
     have hne : nb ≠ g := by intro e; subst e; rw [HX7.out] at hg; injection hg with hg; injection hg with _ h2 _; exact absurd h2 (by decide)
     have HBG := Lib.hid (show BlkN W7 g 40 (n4 * 2) from ⟨cs, hg, hcs⟩)
     skip
     clear hg hcs
     go_wp2_with fail
     go_loopw [84] (fun s55 wx => ∃ k : Nat, k ≤ n4 ∧ s55 = .int .i64 k ∧ Below we.heap.size we wx ∧ BlkN wx g 40 (n4 * 2) ∧ wx.cell? ⟨nb, 2, none⟩ = some (.slice (some ⟨g, 0, none⟩) n4 c4') ∧ ∀ x, x ≠ g → wx.heap[x]? = W7.heap[x]?) (fun s55 _ => n4 - (intOf s55).toNat)
     case atStart => exact ⟨0, Nat.zero_le _, rfl, HC7.out, HBG.out, z2, fun _ _ => rfl⟩
     case round =>
      obtain ⟨k, hk, rfl, hbx, hbn, z1', hzk⟩ := hrel
      have HBX2 := Lib.hid hbx
      have HBN := Lib.hid hbn
      have HZK := Lib.hid hzk
      have hzl : nb < wr.heap.size := World.block_lt_of_cell? _ _ z1'
      clear hbx hzk z2
      by_cases hlt2 : k < n4
      ·obtain ⟨cs, hg, hcs⟩ := hbn
       obtain ⟨⟨u0, y0⟩, f0⟩ := blk_at (j := k * 2) hg (by omega)
       obtain ⟨⟨u1, y1⟩, f1⟩ := blk_at (j := k * 2 + 1) hg (by omega)
       clear hg hcs
       go_wp2_with fail
       obtain ⟨W', e', hB', hN', hk'⟩ := set2 (j := k * 2) HBN.out (.int .i64 77) (.int .i64 0)
       rw [e']
       go_roundw
       case rel => exact ⟨k + 1, by omega, by go_num, HBX2.out.trans (hB' _ hbg), hN', (cell_of_row W' _ 2 _ _ _ ((hk' nb hne).trans ((HZK.out nb hne).trans HX7.out))).trans rfl, fun x hx => (hk' x hx).trans (HZK.out x hx)⟩
       case measure => simp [intOf]; omega
      ·clear hbn
       go_wp2_with fail
       go_meet
       exact HBX2.out
   case rest =>
   have HD9 := Lib.hid (HD.out.trans (hcut.mono HD.out.size))
   have HA9 := Lib.hid (HAC.out.trans (HD9.out.mono HAC.out.size))
   clear hcut
   generalize wc = wf at *
   clear z2 hzn g0 g1 g2 g3 g4 g5
   obtain ⟨hzf, g0, g1, g2, g3, g4, g5⟩ := HBX.out wf HA9.out
   go_wp2_with fail
   go_loopw [19, 96] (fun s7 s31 wr => ∃ k : Nat, k ≤ b.zones.length ∧ s31 = .int .i64 k ∧ wr.ownsRow wf.heap.size 45 5 s7 (wasK b.zones k).length (erFlat (wasK b.zones k)) ∧ Below wf.heap.size wf wr) (fun _ s31 _ => b.zones.length - (intOf s31).toNat)
   case atStart => exact ⟨0, Nat.zero_le _, rfl, World.ownsRow_nil _ _ _ _, Below.refl _ _⟩
   case round =>
    obtain ⟨k, hk, rfl, hrow, hbel⟩ := hrel
    have HROW := Lib.hid hrow
    have HBE := Lib.hid hbel
    have HAR := Lib.hid (HA9.out.trans (hbel.mono HA9.out.size))
    have hzw := hbel.size
    obtain ⟨A9, c9, rfl⟩ := own_sliceN hrow
    clear hrow hbel g0 g1 g2 g3 g4 g5
    obtain ⟨hzr, g0, g1, g2, g3, g4, g5⟩ := HBX.out wr HAR.out
    by_cases hlt : k < b.zones.length
    ·obtain ⟨bb, o, rfl, hbb, x0, x1, hre⟩ := HZ.out k hlt wr HAR.out
     have hws := wasK_succ hlt
     have hwl1 := HWL.out (k + 1)
     rw [hws, List.length_append] at hwl1
     generalize b.zones[k].nm = zn at x0
     generalize b.zones[k].ev = ze at x1 hre
     generalize b.zones[k].eras = zl at hre hws hwl1
     have HWS := Lib.hid hws
     obtain ⟨pe, ce, rfl, -, hcs⟩ := hre
     have hbz := World.block_lt_of_cell? _ _ x0
     generalize wasK b.zones k = PRE at HROW HWS hwl1
     clear hws
     by_cases hze : zl = []
     ·subst hze
      have HRA : Hid ((wr.alloc (.cells #[.string zn, .slice pe 0 ce] 34)).ownsRow wf.heap.size 45 5 (.slice A9 PRE.length c9) PRE.length (erFlat PRE)) := by
       show World.ownsRow _ _ _ _ _ _ _
       exact own_keep HROW.out fun g e => Below.heap_alloc _ _ _ (by have := (World.ownsRow.lt HROW.out g e).2; omega)
      have HBA := Lib.hid (HBE.out.alloc HBE.out.size (.cells #[.string zn, .slice pe 0 ce] 34))
      rw [List.append_nil] at HWS
      simp only [List.length_nil] at *
      clear hwl1 hcs
      go_wp2_with (at_builtin; refine wpList_append_zeroO rfl _ _ 32 rfl wf.heap.size 45 iE 5 undErS hiE (.slice A9 PRE.length c9) PRE.length (erFlat PRE) rfl HRA.out pe ce rfl ?_)
      go_roundw
      case rel => exact ⟨k + 1, by omega, by go_num, by rw [HWS.out]; exact HRA.out, HBA.out⟩
      case measure => simp [intOf]; omega
     ·obtain ⟨be, oe, rfl, hbe, hce⟩ := hcs hze
      obtain ⟨m, em⟩ : ∃ m, zl.length = m := ⟨_, rfl⟩
      rw [em] at x1 hwl1
      have HRA : Hid ((wr.alloc (.cells #[.string zn, .slice (some ⟨be, oe, none⟩) m ce] 34)).ownsRow wf.heap.size 45 5 (.slice A9 PRE.length c9) PRE.length (erFlat PRE)) := by
       show World.ownsRow _ _ _ _ _ _ _
       exact own_keep HROW.out fun g e => Below.heap_alloc _ _ _ (by have := (World.ownsRow.lt HROW.out g e).2; omega)
      have HNEW : Hid (∀ j u, (erFlat zl)[j]? = some u → (wr.alloc (.cells #[.string zn, .slice (some ⟨be, oe, none⟩) m ce] 34)).cell? ((⟨be, oe, none⟩ : Addr).add j) = some u) := by
       show ∀ j u, _
       intro j u hu
       obtain ⟨i, hi, q, rfl, hq⟩ := erFlat_get zl j u hu
       rw [add_noneO, ← Nat.add_assoc]
       exact (((Below.refl wr.heap.size wr).alloc (Nat.le_refl _) _).cell (p := ⟨be, oe + i * 5 + q, none⟩) hbe).trans (hce i hi q u hq)
      have HFL : Hid ((erFlat zl).length = m * 5) := by show _ = _; rw [erFlat_len, em]
      have HFO := Lib.hid (erFlat_one zl)
      have HML : PRE.length + m ≤ maxLen := by simp only [maxLen]; omega
      have HMB : (PRE.length + m) * 56 ≤ 140737488355328 := by omega
      have HSZ : wf.heap.size ≤ (wr.alloc (.cells #[.string zn, .slice (some ⟨be, oe, none⟩) m ce] 34)).heap.size := by simp; omega
      have HBA := Lib.hid (HBE.out.alloc HBE.out.size (.cells #[.string zn, .slice (some ⟨be, oe, none⟩) m ce] 34))
      have HWL2 : Hid ((wasK b.zones (k + 1)).length = PRE.length + m) := by show _ = _; rw [HWS.out, List.length_append, em]
      have HWF : Hid (erFlat (wasK b.zones (k + 1)) = erFlat PRE ++ erFlat zl) := by show _ = _; rw [HWS.out, erFlat_app]
      clear hcs hce em hze hwl1
      go_wp2_with (at_builtin; refine wpList_append_own _ rfl _ _ 32 rfl wf.heap.size 45 iE (.agg #[.int .i64 0, .string ⟨#[]⟩, .int .i64 0, .string ⟨#[]⟩, .int .i64 0]) 5 56 undErS hiE hzE0 hzE1 hzE2 rfl (by decide) (.slice A9 PRE.length c9) PRE.length (erFlat PRE) rfl HRA.out ⟨be, oe, none⟩ m ce (erFlat zl) rfl HFL.out HNEW.out HFO.out HML HMB HSZ ?_; intro v' w10 hown10 hgrow10 _)
      have HB10 := Lib.hid (HBA.out.grown hgrow10 HSZ (fun q hq => (World.ownsRow.lt HRA.out q hq).1))
      have HO10 := Lib.hid hown10
      clear hown10 hgrow10
      go_wp2_with fail
      go_roundw
      case rel => exact ⟨k + 1, by omega, by go_num, by rw [HWL2.out, HWF.out]; exact HO10.out, HB10.out⟩
      case measure => simp [intOf]; omega
    ·obtain rfl : k = b.zones.length := by omega
     have hDr : Below wd.heap.size wd wr := HD9.out.trans (HBE.out.mono HD9.out.size)
     have hfin := HFA.out wr HAR.out
     have hTn := hfin.2.2.2.2.2.1.names
     have hTy := own_types (own_go HRT.out hDr) (by omega) hTn
     have hCh := own_chs (own_go HRC.out hDr) (by omega)
     have hWas : RowsAt erL 5 wr.heap.size wr (.slice A7 (wasK b.zones b.zones.length).length c7) (wasK b.zones b.zones.length) := own_rowsO (cells := erL) (l := wasK b.zones b.zones.length) (fun _ => rfl) (own_go HWS.out hDr) (by omega)
     have hNow : RowsAt erL 5 wr.heap.size wr (.slice A9 (wasK b.zones b.zones.length).length c9) (wasK b.zones b.zones.length) := own_rowsO (cells := erL) (l := wasK b.zones b.zones.length) (fun _ => rfl) HROW.out (by omega)
     have HEQ1 : Hid (Calls Tryd.prog 10 #[.slice A7 (wasK b.zones b.zones.length).length c7, .slice A9 (wasK b.zones b.zones.length).length c9] wr fun e w' => e = .returned (.bool true) ∧ Below wr.heap.size wr w') := by
      show Calls _ _ _ _ _
      have h := EqEr_any (wasK b.zones b.zones.length) (wasK b.zones b.zones.length) _ _ wr hWas hNow
      rw [decide_eq_true rfl] at h
      exact h
     have HEQ2 : Hid (∀ W, Below wr.heap.size wr W → Calls Tryd.prog 11 #[.slice A10 t.types.length c10, .slice p4 t.types.length c4] W fun e w' => e = .returned (.bool true) ∧ Below W.heap.size W w') := by
      show ∀ W, _
      intro W hb
      have h := EqTy_any t.types t.types _ _ W (hTy.below hb) (HFA.out W (HAR.out.trans (hb.mono HAR.out.size))).2.2.2.2.2.1
      rw [decide_eq_true rfl] at h
      exact h
     have HEQ3 : Hid (∀ W, Below wr.heap.size wr W → Calls Tryd.prog 12 #[.slice A11 t.chs.length c11, .slice p5 t.chs.length c5] W fun e w' => e = .returned (.bool true) ∧ Below W.heap.size W w') := by
      show ∀ W, _
      intro W hb
      have h := EqCh_any t.chs t.chs _ _ W (hCh.below hb) (HFA.out W (HAR.out.trans (hb.mono HAR.out.size))).2.2.2.2.2.2
      rw [decide_eq_true rfl] at h
      exact h
     clear hfin hTn hTy hCh hWas hNow hDr
     go_wp2_with fail
     refine HEQ1.out.mono ?_
     rintro e x1 ⟨rfl, hq1⟩
     have HX1 := Lib.hid hq1
     have HY1 := Lib.hid (HAR.out.trans (hq1.mono HAR.out.size))
     clear hq1 g0 g1 g2 g3 g4 g5
     obtain ⟨hzy, g0, g1, g2, g3, g4, g5⟩ := HBX.out x1 HY1.out
     go_wp2_with fail
     refine (HEQ2.out x1 HX1.out).mono ?_
     rintro e x2 ⟨rfl, hq2⟩
     have HX2 := Lib.hid (HX1.out.trans (hq2.mono HX1.out.size))
     have HY2 := Lib.hid (HY1.out.trans (hq2.mono HY1.out.size))
     clear hq2 g0 g1 g2 g3 g4 g5
     obtain ⟨hzv, g0, g1, g2, g3, g4, g5⟩ := HBX.out x2 HY2.out
     go_wp2_with fail
     refine (HEQ3.out x2 HX2.out).mono ?_
     rintro e x3 ⟨rfl, hq3⟩
     go_wp2_with fail
     go_ret
     exact ⟨rfl, (HFA.out x3 (HY2.out.trans (hq3.mono HY2.out.size))).1⟩
end Go.Proofs.YtomahddiclkepaaDoor
namespace Go.Proofs.YtomahddiclkepaaDoor
open Go.ChangeShapes Go.WideShapes Go.ChangeAt Go.RowKit
set_option linter.unusedVariables false
theorem gPow : Tryd.prog.globalNamed "internal/strconv.uint64pow10" = some 1 := by kernel_rfl
theorem gPowType : (Tryd.prog.globals[1]?).map (·.type) = some 140 := by kernel_rfl
theorem tab10_of {W : World} {a b : String × DataW Unit} {rest : List (String × DataW Unit)} (h : laidMet Tryd.prog (a :: b :: ("internal/strconv.uint64pow10", Rows.laid_internal_strconv_uint64pow10) :: rest) W) : Tab10 W :=
 Lib.tabIs_of_head (rest := rest) gPow gPowType Tryd.underlying140 Tryd.underlying66 (by kernel_rfl) (by kernel_rfl) h.tail.tail
theorem maxLen_of {W : World} (h : W.ShapedOpen Tryd.prog) : MaxLen W :=
 Go.Proofs.cell_of_shapedOpen_int (zero := #[.int .i64 0]) (t := 3) h (of_decide_eq_true (by kernel_rfl)) (by kernel_rfl) rfl (by kernel_rfl) (by kernel_rfl) Tryd.underlying3
end Go.Proofs.YtomahddiclkepaaDoor
namespace Go.Proofs.YtomahddiclkepaaDoor.bulks
theorem one_le {H : Type} (d : DataW H) : 1 ≤ Rows.uptoBulk d := by
 cases d with
 | lit l => cases l <;> simp [Rows.uptoBulk]
 | nil => simp [Rows.uptoBulk]
 | ptr d => simp [Rows.uptoBulk]
 | slice elems spare => simp [Rows.uptoBulk]
 | agg parts => simp [Rows.uptoBulk]
 | iface t d => simp [Rows.uptoBulk]
 | map entries => simp [Rows.uptoBulk]
 | held h => simp [Rows.uptoBulk]
theorem part_le {H : Type} {d : DataW H} {l : List (DataW H)} (h : d ∈ l) : Rows.uptoBulk d ≤ Rows.uptoBulkAll l := by
 induction l with
 | nil => cases h
 | cons x r ih =>
  simp only [Rows.uptoBulkAll]
  cases List.mem_cons.1 h with
  | inl e => subst e; omega
  | inr e => have := ih e; omega
theorem append {H : Type} (l r : List (DataW H)) : Rows.uptoBulkAll (l ++ r) = Rows.uptoBulkAll l + Rows.uptoBulkAll r := by
 induction l with
 | nil => simp [Rows.uptoBulkAll]
 | cons x l ih => simp only [List.cons_append, Rows.uptoBulkAll, ih]; omega
theorem length_le {H : Type} (l : List (DataW H)) : l.length ≤ Rows.uptoBulkAll l := by
 induction l with
 | nil => simp [Rows.uptoBulkAll]
 | cons x r ih => have := one_le x; simp only [Rows.uptoBulkAll, List.length_cons]; omega
theorem slice_le {H : Type} (elems spare : List (DataW H)) : elems.length + spare.length + 1 ≤ Rows.uptoBulk (.slice elems spare) := by
 have h1 := length_le elems
 have h2 := length_le spare
 simp only [Rows.uptoBulk]
 omega
theorem string_eq {H : Type} (bytes : List UInt8) : Rows.uptoBulk (DataW.lit (H := H) (.string bytes)) = bytes.length + 1 := by
 simp [Rows.uptoBulk]
theorem bound {H : Type} {l : List (DataW H)} (hk : Rows.uptoSmall H l = true) : Rows.uptoBulkAll l ≤ 1048576 := by
 simpa [Rows.uptoSmall] using hk
end Go.Proofs.YtomahddiclkepaaDoor.bulks
namespace Go.Proofs.YtomahddiclkepaaDoor
open Go.ChangeShapes Go.WideShapes Go.Deep Go.RowKit Go.Joins
set_option linter.unusedVariables false
set_option linter.unusedSimpArgs false
theorem list11 {α : Type} (l : List α) (h : l.length = 11) : ∃ a b c d e f g h' i j k, l = [a, b, c, d, e, f, g, h', i, j, k] := by
 match l, h with
 | [a, b, c, d, e, f, g, h', i, j, k], _ => exact ⟨a, b, c, d, e, f, g, h', i, j, k, rfl⟩
section
variable {H : Type} {enc : TypeId × Value → H} {w : World} {base : Nat} {spare : Nat → Bool} {held : Bool}
theorem trod_iR {fuel : Nat} {v : Value} {x : DataW H × List MemPlace} (h : DataW.trod enc Tryd.prog w base spare held fuel 3 [v] = some x) : ∃ n, v = .int .i64 n := by
 obtain ⟨b, e, _, _⟩ := DataW.trod_int Tryd.underlying3 h
 simp only [List.cons.injEq, and_true] at e
 exact ⟨b, e⟩
theorem trod_sR {fuel : Nat} {v : Value} {x : DataW H × List MemPlace} (h : DataW.trod enc Tryd.prog w base spare held fuel 9 [v] = some x) : ∃ s, v = .string s ∧ s.size ≤ maxLen := by
 obtain ⟨b, e, _, hs⟩ := DataW.trod_string Tryd.underlying9 h
 simp only [List.cons.injEq, and_true] at e
 exact ⟨b, e, hs⟩
set_option maxRecDepth 100000 in
theorem Dy_open {fuel : Nat} {a b c : Value} {x : DataW H × List MemPlace} (h : DataW.trod enc Tryd.prog w base spare held fuel 82 [a, b, c] = some x) : ∃ k wd n : Int, a = .int .i64 k ∧ b = .int .i64 wd ∧ c = .int .i64 n := by
 obtain ⟨xs, n, _, _, _, hl, hf⟩ := DataW.trod_struct Tryd.underlying82 h
 have hl3 : xs.length = 3 := hl
 have h0 := hf 0 _ rfl
 have h1 := hf 1 _ rfl
 have h2 := hf 2 _ rfl
 rw [List.getElem?_eq_getElem (by omega)] at h0 h1 h2
 obtain ⟨m, rfl⟩ := trod_iR (v := a) h0
 obtain ⟨k, rfl⟩ := trod_iR (v := b) h1
 obtain ⟨e, rfl⟩ := trod_iR (v := c) h2
 exact ⟨m, k, e, rfl, rfl, rfl⟩
theorem cellsRu : Tryd.prog.cellsOf 84 = 11 := by kernel_rfl
set_option maxRecDepth 100000 in
theorem Ru_trod {fuel : Nat} {l : List Value} {x : DataW H × List MemPlace} (hl : l.length = 11) (h : DataW.trod enc Tryd.prog w base spare held fuel 84 l = some x) :
 ∃ q : Ru, l = (ruCells q).toList ∧ q.nm.size ≤ maxLen ∧ q.lt.size ≤ maxLen := by
 obtain ⟨c0, c1, c2, c3, c4, c5, c6, c7, c8, c9, c10, rfl⟩ := list11 l hl
 obtain ⟨xs, n, _, _, _, hl, hf⟩ := DataW.trod_struct Tryd.underlying84 h
 have hl9 : xs.length = 9 := hl
 have h0 := hf 0 _ rfl
 have h1 := hf 1 _ rfl
 have h2 := hf 2 _ rfl
 have h3 := hf 3 _ rfl
 have h4 := hf 4 _ rfl
 have h5 := hf 5 _ rfl
 have h6 := hf 6 _ rfl
 have h7 := hf 7 _ rfl
 have h8 := hf 8 _ rfl
 rw [List.getElem?_eq_getElem (by omega)] at h0 h1 h2 h3 h4 h5 h6 h7 h8
 obtain ⟨nm, rfl, s1⟩ := trod_sR (v := c0) h0
 obtain ⟨yf, rfl⟩ := trod_iR (v := c1) h1
 obtain ⟨yt, rfl⟩ := trod_iR (v := c2) h2
 obtain ⟨mo, rfl⟩ := trod_iR (v := c3) h3
 obtain ⟨dk, dw, dn, rfl, rfl, rfl⟩ := Dy_open (a := c4) (b := c5) (c := c6) (h4 : DataW.trod enc Tryd.prog w base spare held n 82 [c4, c5, c6] = _)
 obtain ⟨tm, rfl⟩ := trod_iR (v := c7) h5
 obtain ⟨ck, rfl⟩ := trod_iR (v := c8) h6
 obtain ⟨sv, rfl⟩ := trod_iR (v := c9) h7
 obtain ⟨lt, rfl, s2⟩ := trod_sR (v := c10) h8
 exact ⟨⟨nm, yf, yt, mo, dk, dw, dn, tm, ck, sv, lt⟩, rfl, s1, s2⟩
end
end Go.Proofs.YtomahddiclkepaaDoor
namespace Go.Proofs.YtomahddiclkepaaDoor
open Go.ChangeShapes Go.WideShapes Go.Deep Go.RowKit Go.Joins
set_option linter.unusedVariables false
set_option linter.unusedSimpArgs false
theorem reach_valB : reachBytes = 140737488351232 := by decide
theorem spot_noneB {w : World} {a : Addr} {v : Value} (h : w.cell? a = some v) : a = ⟨a.block, a.off, none⟩ := by
 obtain ⟨b, o, s⟩ := a
 cases s with
 | none => rfl
 | some k =>
  simp only [World.cell?] at h
  split at h
  ·simp at h
  ·cases h
theorem add_plainB (b o i : Nat) : (⟨b, o, none⟩ : Addr).add i = ⟨b, o + i, none⟩ := by
 unfold Addr.add
 split
 ·rename_i h; subst h; rfl
 ·rfl
theorem list_ofB {α : Type} [Inhabited α] (n : Nat) (Q : Nat → α → Prop) (h : ∀ i, i < n → ∃ x, Q i x) : ∃ l : List α, l.length = n ∧ ∀ i (hi : i < l.length), Q i l[i] := by
 classical
 refine ⟨(List.range n).map fun i => if hi : i < n then Classical.choose (h i hi) else default, by simp, fun i hi => ?_⟩
 have hi' : i < n := by simpa using hi
 simp only [List.getElem_map, List.getElem_range, hi', dite_true]
 exact Classical.choose_spec (h i hi')
instance : Inhabited Ru := ⟨⟨⟨#[]⟩, 0, 0, 0, 0, 0, 0, 0, 0, 0, ⟨#[]⟩⟩⟩
instance : Inhabited Er := ⟨⟨0, ⟨#[]⟩, 0, ⟨#[]⟩, 0⟩⟩
instance : Inhabited Zo := ⟨⟨⟨#[]⟩, .slice none 0 0, []⟩⟩
instance : Inhabited Lk := ⟨⟨⟨#[]⟩, ⟨#[]⟩⟩⟩
section
variable {H : Type} {enc : TypeId × Value → H} {w : World} {base : Nat} {spare : Nat → Bool} {held : Bool}
def Szd (t : TypeId) (d : DataW H) : Prop := ∀ n ∈ d.weights Tryd.prog t, n ≤ reachBytes
theorem sz_agg {t : TypeId} {fs : Array Field} (ht : Tryd.prog.underlying t = some (.struct fs)) {parts : List (DataW H)} (h : Szd t (.agg parts)) {j : Nat} {f : Field} {d : DataW H} (hf : fs[j]? = some f) (hd : parts[j]? = some d) : Szd f.type d := fun n hn =>
 h n (by
  simp only [DataW.weights, ht]
  refine DataW.weights_mem_each (j := j) ?_ hd n hn
  rw [List.getElem?_map, Array.getElem?_toList, hf]
  rfl)
theorem wa_mem {e : TypeId} : ∀ {es : List (DataW H)} {d : DataW H}, d ∈ es → ∀ n ∈ d.weights Tryd.prog e, n ∈ DataW.weightsAll Tryd.prog e es
 | x :: r, d, hd, n, hn => by
  simp only [DataW.weightsAll, List.mem_append]
  rcases List.mem_cons.1 hd with rfl | hd
  ·exact .inl hn
  ·exact .inr (wa_mem hd n hn)
theorem sz_slice {t e : TypeId} (ht : Tryd.prog.underlying t = some (.slice e)) {es sp : List (DataW H)} (h : Szd t (.slice es sp)) : (es.length + sp.length) * Tryd.prog.bytesOf e ≤ reachBytes ∧ ∀ d ∈ es, Szd e d := by
 unfold Szd at h
 simp only [DataW.weights, ht] at h
 exact ⟨h _ (List.mem_cons_self ..), fun d hd n hn => h n (List.mem_cons_of_mem _ (List.mem_append_left _ (wa_mem hd n hn)))⟩
theorem sz_str {t : TypeId} {b : ByteArray} (h : Szd t (.lit (.string b.data.toList) : DataW H)) : b.size ≤ 140737488351232 := by
 have := h b.data.toList.length (by simp [DataW.weights])
 rw [reach_valB] at this
 rw [Lib.size_eq]
 exact this
theorem open_rows {α : Type} [Inhabited α] (cells : α → List Value) (k : Nat) (Q : α → Prop) {t e : TypeId} (ht : Tryd.prog.underlying t = some (.slice e)) (hk : Tryd.prog.cellsOf e = k) (hb : 1 ≤ Tryd.prog.bytesOf e) (hk0 : 0 < k)
 (el : ∀ fuel l x, l.length = k → DataW.trod enc Tryd.prog w base spare held fuel e l = some x → Szd e x.1 → ∃ a, l = cells a ∧ Q a)
 {fuel : Nat} {v : Value} {x : DataW H × List MemPlace} (h : DataW.trod enc Tryd.prog w base spare held fuel t [v] = some x) (hs : Szd t x.1) : ∃ l, RowsAt cells k w.heap.size w v l ∧ ∀ a ∈ l, Q a := by
 rcases open_slice ht h with ⟨hcs, _⟩ | ⟨a, len, cap, m, n, D, Pl, hcs, hba, hl, hm, hmm, hx, hi⟩
 ·obtain rfl : v = .slice none 0 0 := by simpa using hcs
  exact ⟨[], ⟨none, 0, rfl, ⟨by simp, by simp⟩, fun h => absurd rfl h⟩, fun a h => absurd h (List.not_mem_nil)⟩
 ·obtain rfl : v = .slice (some a) len cap := by simpa using hcs
  rw [hx] at hs
  obtain ⟨hw, hsd⟩ := sz_slice ht hs
  have hlen : len ≤ 140737488351232 := by
   rw [reach_valB] at hw
   simp only [List.length_map, List.length_range] at hw
   have : len * 1 ≤ (len + (m - len)) * Tryd.prog.bytesOf e := Nat.mul_le_mul (by omega) hb
   omega
  have hlm : len ≤ m := by rw [hmm]; split <;> omega
  have key : ∀ i, i < len → ∃ y : α, (∀ j u, (cells y)[j]? = some u → w.cell? (a.add (i * k + j)) = some u) ∧ Q y ∧ ∃ u, w.cell? (a.add (i * k)) = some u := by
   intro i hil
   obtain ⟨cs', hc, htr⟩ := hi i (by omega)
   rw [hk] at hc
   obtain ⟨_, hcl, hat⟩ := World.cells?_some hc
   obtain ⟨y, rfl, hq⟩ := el n cs' _ hcl htr (hsd _ (List.mem_map.2 ⟨i, List.mem_range.2 hil, rfl⟩))
   have hcell : ∀ j u, (cells y)[j]? = some u → w.cell? (a.add (i * k + j)) = some u := by
    intro j u hu
    have hj : j < k := by rw [← hcl]; exact (List.getElem?_eq_some_iff.1 hu).1
    rw [← Go.Deep.add_add, hat j hj, hu]
   have h0 : (cells y)[0]? = some ((cells y)[0]'(by omega)) := List.getElem?_eq_getElem (by omega)
   exact ⟨y, hcell, hq, _, hcell 0 _ h0⟩
  obtain ⟨l, hl1, hl2⟩ := list_ofB len _ key
  subst hl1
  refine ⟨l, ⟨some a, cap, rfl, ⟨hlen, hl⟩, fun hne => ?_⟩, fun y hy => ?_⟩
  ·have hp : 0 < l.length := List.length_pos_iff.2 hne
   obtain ⟨_, _, u, d0⟩ := hl2 0 hp
   rw [Nat.zero_mul] at d0
   have hsp : a = ⟨a.block, a.off, none⟩ := spot_noneB (w := w) (v := u) d0
   refine ⟨a.block, a.off, congrArg some hsp, ?_, fun i hi j u hu => ?_⟩
   ·rw [hsp, add_plainB] at d0
    exact World.block_lt_of_cell? w ⟨a.block, _, none⟩ d0
   ·have := (hl2 i hi).1 j u hu
    rw [hsp, add_plainB] at this
    rw [Nat.add_assoc]
    exact this
  ·obtain ⟨i, hi, rfl⟩ := List.mem_iff_getElem.1 hy
   exact (hl2 i hi).2.1
theorem trod_iB {fuel : Nat} {v : Value} {x : DataW H × List MemPlace} (h : DataW.trod enc Tryd.prog w base spare held fuel 3 [v] = some x) : ∃ n, v = .int .i64 n ∧ -9223372036854775808 ≤ n ∧ n ≤ 9223372036854775807 := by
 obtain ⟨b, e, _, hw⟩ := DataW.trod_int Tryd.underlying3 h
 simp only [List.cons.injEq, and_true] at e
 simp only [Lit.wf, Bool.and_eq_true, decide_eq_true_eq] at hw
 exact ⟨b, e, hw⟩
theorem trod_sB {fuel : Nat} {v : Value} {x : DataW H × List MemPlace} (h : DataW.trod enc Tryd.prog w base spare held fuel 9 [v] = some x) (hs : Szd 9 x.1) : ∃ s, v = .string s ∧ s.size ≤ 140737488351232 := by
 obtain ⟨b, e, ex, _⟩ := DataW.trod_string Tryd.underlying9 h
 simp only [List.cons.injEq, and_true] at e
 rw [ex] at hs
 exact ⟨b, e, sz_str hs⟩
theorem list5 {α : Type} (l : List α) (h : l.length = 5) : ∃ a b c d e, l = [a, b, c, d, e] := by
 match l, h with
 | [a, b, c, d, e], _ => exact ⟨a, b, c, d, e, rfl⟩
theorem list2 {α : Type} (l : List α) (h : l.length = 2) : ∃ a b, l = [a, b] := by
 match l, h with
 | [a, b], _ => exact ⟨a, b, rfl⟩
set_option maxRecDepth 100000 in
theorem Ru_trodB {fuel : Nat} {l : List Value} {x : DataW H × List MemPlace} (hl : l.length = 11) (h : DataW.trod enc Tryd.prog w base spare held fuel 84 l = some x) (hs : Szd 84 x.1) :
 ∃ q : Ru, l = (ruCells q).toList ∧ SzR q := by
 obtain ⟨q, rfl, -, -⟩ := Ru_trod hl h
 refine ⟨q, rfl, ?_⟩
 obtain ⟨xs, n, _, hx, _, hl, hf⟩ := DataW.trod_struct Tryd.underlying84 h
 have hl9 : xs.length = 9 := hl
 have h0 := hf 0 _ rfl
 have h8 := hf 8 _ rfl
 rw [List.getElem?_eq_getElem (by omega)] at h0 h8
 rw [hx] at hs
 have s0 := sz_agg Tryd.underlying84 hs (j := 0) rfl (d := xs[0].1) (by rw [List.getElem?_map, List.getElem?_eq_getElem (by omega)]; rfl)
 have s8 := sz_agg Tryd.underlying84 hs (j := 8) rfl (d := xs[8].1) (by rw [List.getElem?_map, List.getElem?_eq_getElem (by omega)]; rfl)
 obtain ⟨nm, e0, z0⟩ := trod_sB (v := .string q.nm) h0 s0
 obtain ⟨lt, e8, z8⟩ := trod_sB (v := .string q.lt) h8 s8
 injection e0 with e0
 injection e8 with e8
 subst e0 e8
 exact ⟨z0, z8⟩
set_option maxRecDepth 100000 in
theorem Er_trodB {fuel : Nat} {l : List Value} {x : DataW H × List MemPlace} (hl : l.length = 5) (h : DataW.trod enc Tryd.prog w base spare held fuel 45 l = some x) (hs : Szd 45 x.1) :
 ∃ q : Er, l = (erCells q).toList ∧ SzE q := by
 obtain ⟨c0, c1, c2, c3, c4, rfl⟩ := list5 l hl
 obtain ⟨xs, n, _, hx, _, hl, hf⟩ := DataW.trod_struct Tryd.underlying45 h
 have hl5 : xs.length = 5 := hl
 have h0 := hf 0 _ rfl
 have h1 := hf 1 _ rfl
 have h2 := hf 2 _ rfl
 have h3 := hf 3 _ rfl
 have h4 := hf 4 _ rfl
 rw [List.getElem?_eq_getElem (by omega)] at h0 h1 h2 h3 h4
 rw [hx] at hs
 have s1 := sz_agg Tryd.underlying45 hs (j := 1) rfl (d := xs[1].1) (by rw [List.getElem?_map, List.getElem?_eq_getElem (by omega)]; rfl)
 have s3 := sz_agg Tryd.underlying45 hs (j := 3) rfl (d := xs[3].1) (by rw [List.getElem?_map, List.getElem?_eq_getElem (by omega)]; rfl)
 obtain ⟨off, rfl, o1, o2⟩ := trod_iB (v := c0) h0
 obtain ⟨ru, rfl, z1⟩ := trod_sB (v := c1) h1 s1
 obtain ⟨sv, rfl, v1, v2⟩ := trod_iB (v := c2) h2
 obtain ⟨fm, rfl, z3⟩ := trod_sB (v := c3) h3 s3
 obtain ⟨un, rfl, u1, u2⟩ := trod_iB (v := c4) h4
 exact ⟨⟨off, ru, sv, fm, un⟩, rfl, z1, z3, o1, o2, v1, v2, u1, u2⟩
theorem cellsEr : Tryd.prog.cellsOf 45 = 5 := by kernel_rfl
theorem cellsZo : Tryd.prog.cellsOf 34 = 2 := by kernel_rfl
theorem cellsLk : Tryd.prog.cellsOf 57 = 2 := by kernel_rfl
theorem cellsBk : Tryd.prog.cellsOf 26 = 3 := by kernel_rfl
def ZoOk (w : World) (z : Zo) : Prop := RowsAt (fun x : Er => (erCells x).toList) 5 w.heap.size w z.ev z.eras ∧ z.nm.size ≤ 140737488351232 ∧ ∀ x ∈ z.eras, SzE x
set_option maxRecDepth 100000 in
theorem Lk_trodB {fuel : Nat} {l : List Value} {x : DataW H × List MemPlace} (hl : l.length = 2) (h : DataW.trod enc Tryd.prog w base spare held fuel 57 l = some x) (hs : Szd 57 x.1) :
 ∃ q : Lk, l = lkCells q ∧ (q.nm.size ≤ 140737488351232 ∧ q.tg.size ≤ 140737488351232) := by
 obtain ⟨c0, c1, rfl⟩ := list2 l hl
 obtain ⟨xs, n, _, hx, _, hl, hf⟩ := DataW.trod_struct Tryd.underlying57 h
 have hl2 : xs.length = 2 := hl
 have h0 := hf 0 _ rfl
 have h1 := hf 1 _ rfl
 rw [List.getElem?_eq_getElem (by omega)] at h0 h1
 rw [hx] at hs
 have s0 := sz_agg Tryd.underlying57 hs (j := 0) rfl (d := xs[0].1) (by rw [List.getElem?_map, List.getElem?_eq_getElem (by omega)]; rfl)
 have s1 := sz_agg Tryd.underlying57 hs (j := 1) rfl (d := xs[1].1) (by rw [List.getElem?_map, List.getElem?_eq_getElem (by omega)]; rfl)
 obtain ⟨nm, rfl, z0⟩ := trod_sB (v := c0) h0 s0
 obtain ⟨tt, rfl, z1⟩ := trod_sB (v := c1) h1 s1
 exact ⟨⟨nm, tt⟩, rfl, z0, z1⟩
theorem szd_at {ts : List TypeId} {ds : List (DataW H)} (h : (DataW.weightsEach Tryd.prog ts ds).all (· ≤ reachBytes) = true) {j : Nat} {t : TypeId} {d : DataW H} (ht : ts[j]? = some t) (hd : ds[j]? = some d) : Szd t d := fun n hn => by
 have := List.all_eq_true.1 h n (DataW.weights_mem_each ht hd n hn)
 simpa using this
end
end Go.Proofs.YtomahddiclkepaaDoor
