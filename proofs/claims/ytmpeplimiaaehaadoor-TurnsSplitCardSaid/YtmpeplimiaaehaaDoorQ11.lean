/- norm.Norm, norm.check, norm.Same, TableEq: what each returns. Eras of a table: plain Lean, and in memory; back.era. rule.IsName; back.Book: its memory. back.Book: what it returns. sample(): what it returns. backed, BackEras: the closed fact and the law's walk. timeballref.Rest. -/
import Derived.Test.YtmpeplimiaaehaaDoorQ10
import Derived.Test.YtmpeplimiaaehaaDoorQ01
import Derived.Test.YtmpeplimiaaehaaDoorQ02
import Derived.BigQuiet
import Derived.Deep.DeepCutAuto
import Derived.Handy
import Derived.Test.YtmpeplimiaaehaaDoorQ09
import Derived.Lib.SmallJoins
namespace Go.Proofs.YtmpeplimiaaehaaDoor
open Go.RowKit Go.Joins
open Classical
set_option linter.unusedVariables false
set_option linter.unusedSimpArgs false

def zeroTb : Tab := ⟨[], 0, []⟩
theorem zero_atN (w : World) : TabAt w (.agg #[.slice none 0 0, .int .i64 0, .slice none 0 0]) zeroTb := ⟨_, _, rfl, ⟨⟨none, 0, rfl, fun h => absurd rfl h⟩, by decide, by intro x hx; cases hx⟩, ⟨⟨none, 0, rfl, fun h => absurd rfl h⟩, by decide⟩⟩
noncomputable def normE (t : Tab) : Tab := if chk t = 0 then normT t else zeroTb
theorem tabForms {w : World} {v : Value} {t : Tab} (h : TabAt w v t) : ∃ p1 c1 p2 c2, v = .agg #[.slice p1 t.types.length c1, .int .i64 t.first, .slice p2 t.chs.length c2] := by
  obtain ⟨sv, cv, rfl, h1, h2⟩ := h.val
  obtain ⟨p1, c1, rfl, -⟩ := h1.shape
  obtain ⟨p2, c2, rfl, -⟩ := h2.shape
  exact ⟨_, _, _, _, rfl⟩
theorem tabOf_slices {w : World} {p1 p2 : Option Addr} {n1 c1 n2 c2 : Nat} {f : Int} {t : Tab} (h : TabAt w (.agg #[.slice p1 n1 c1, .int .i64 f, .slice p2 n2 c2]) t) : SlTy w (.slice p1 n1 c1) t.types ∧ SlCh w (.slice p2 n2 c2) t.chs ∧ f = t.first := by
  obtain ⟨sv, cv, e, h1, h2⟩ := h.val
  simp only [Value.agg.injEq, Array.mk.injEq, List.cons.injEq, Value.int.injEq, and_true, true_and] at e
  obtain ⟨rfl, rfl, rfl⟩ := e
  exact ⟨h1, h2, rfl⟩

/-- a law's boxed table -/
theorem box_facts (w : World) (a b c : Value) (T : TypeId) : (w.alloc (.cells #[a, b, c] T)).cell? ⟨w.heap.size, 0, none⟩ = some a ∧ (w.alloc (.cells #[a, b, c] T)).cell? ⟨w.heap.size, 1, none⟩ = some b ∧ (w.alloc (.cells #[a, b, c] T)).cell? ⟨w.heap.size, 2, none⟩ = some c :=
  ⟨(cell_of_row _ _ 0 _ _ _ (heap_alloc_new w _)).trans rfl, (cell_of_row _ _ 1 _ _ _ (heap_alloc_new w _)).trans rfl, (cell_of_row _ _ 2 _ _ _ (heap_alloc_new w _)).trans rfl⟩
theorem bcellN {W w1 : World} (hb : Below W.heap.size W w1) : (∀ b o, b < W.heap.size → w1.cell? ⟨b, o, none⟩ = W.cell? ⟨b, o, none⟩) ∧ (∀ b o, b < W.heap.size → w1.frozen? ⟨b, o, none⟩ = W.frozen? ⟨b, o, none⟩) :=
  ⟨fun b o h => hb.cell (p := ⟨b, o, none⟩) h, fun b o h => hb.frozen (p := ⟨b, o, none⟩) h⟩

/-- a store into the result's own cells turns nothing of another table -/
theorem tab_far {w W : World} {v : Value} {t : Tab} {X : Nat} {f : Int} {T : TypeId} {p q : Option Addr} {n1 n2 k1 k2 : Nat} (h : TabAt w v t) (hX : w.heap[X]? = some (.cells #[.slice p n1 k1, .int .i64 f, .slice q n2 k2] T (0, 0))) (hk : ∀ b, b ≠ X → W.heap[b]? = w.heap[b]?) (hsz : w.heap.size ≤ W.heap.size) : TabAt W v t := by
  have hno : ∀ o b, w.cell? ⟨X, o, none⟩ = some (.bool b) → False := fun o b hc => by
    rw [cell_of_row w _ o _ _ _ hX] at hc
    match o with
    | 0 => cases hc
    | 1 => cases hc
    | 2 => cases hc
    | o + 3 => simp at hc
  have hni : ∀ o a b, w.cell? ⟨X, o, none⟩ = some (.int .i64 a) → w.cell? ⟨X, o + 1, none⟩ = some (.int .i64 b) → False := fun o a b hc hc2 => by
    rw [cell_of_row w _ _ _ _ _ hX] at hc hc2
    match o with
    | 0 => cases hc
    | 1 => cases hc2
    | 2 => cases hc
    | o + 3 => simp at hc
  obtain ⟨sv, cv, hv, ⟨⟨p1, c1, e1, g1⟩, l1, m1⟩, ⟨⟨p2, c2, e2, g2⟩, l2⟩⟩ := h.val
  refine ⟨sv, cv, hv, ⟨⟨p1, c1, e1, fun hne => ?_⟩, l1, m1⟩, ⟨⟨p2, c2, e2, fun hne => ?_⟩, l2⟩⟩
  · obtain ⟨b, o, e, hb, hat⟩ := g1 hne
    have hbX : b ≠ X := fun e2 => by
      subst e2
      have := (hat 0 (List.length_pos_iff.2 hne)).2.1
      exact hno _ _ this
    refine ⟨b, o, e, Nat.lt_of_lt_of_le hb hsz, fun i hi => ?_⟩
    have hc : ∀ j, W.cell? ⟨b, j, none⟩ = w.cell? ⟨b, j, none⟩ := fun j => World.cell?_of_block (a := ⟨b, j, none⟩) (hk b hbX)
    obtain ⟨a1, a2, a3⟩ := hat i hi
    exact ⟨(hc _).trans a1, (hc _).trans a2, (hc _).trans a3⟩
  · obtain ⟨b, o, e, hb, hat⟩ := g2 hne
    have hbX : b ≠ X := fun e2 => by
      subst e2
      have := hat 0 (List.length_pos_iff.2 hne)
      exact hni _ _ _ this.1 this.2
    refine ⟨b, o, e, Nat.lt_of_lt_of_le hb hsz, fun i hi => ?_⟩
    have hc : ∀ j, W.cell? ⟨b, j, none⟩ = w.cell? ⟨b, j, none⟩ := fun j => World.cell?_of_block (a := ⟨b, j, none⟩) (hk b hbX)
    obtain ⟨a1, a2⟩ := hat i hi
    exact ⟨(hc _).trans a1, (hc _).trans a2⟩

set_option maxHeartbeats 1000000 in
theorem Norm_ok (t : Tab) (v : Value) (w : World) (hv : TabAt w v t) (hok : chk t = 0) :
    Calls Tryd.prog 18 #[v] w fun e w' => ∃ v', e = .returned (.tuple #[v', .int .i64 0]) ∧ TabAt w' v' (normT t) ∧ Below w.heap.size w w' := by
  have HV := Lib.hid hv
  have ok := Lib.hid (chk_ok t hok)
  obtain ⟨p1, c1, p2, c2, rfl⟩ := tabForms hv
  have HK := Lib.hid (fun W h => Check_any t (.agg #[.slice p1 t.types.length c1, .int .i64 t.first, .slice p2 t.chs.length c2]) W h)
  rw [hok] at HK
  clear hv hok
  go_enter Tryd.func18, Tryd.ntmps18
  go_wp2_with fail
  obtain ⟨W0, eW⟩ : ∃ W0, (w.alloc (.cells #[.slice p1 t.types.length c1, .int .i64 t.first, .slice p2 t.chs.length c2] 48)).alloc (.cells #[.slice none 0 0, .int .i64 0, .slice none 0 0] 48) = W0 := ⟨_, rfl⟩
  rw [eW]
  have hW0 : W0.heap.size = w.heap.size + 2 := by rw [← eW]; simp
  have hbW : Below w.heap.size w W0 := by rw [← eW]; exact ((Below.refl _ _).alloc (Nat.le_refl _) _).alloc (by simp) _
  have hX : W0.heap[w.heap.size]? = some (.cells #[.slice p1 t.types.length c1, .int .i64 t.first, .slice p2 t.chs.length c2] 48 (0, 0)) := by
    rw [← eW, Below.heap_alloc _ _ _ (by simp)]; exact heap_alloc_new w _
  have hR : W0.heap[w.heap.size + 1]? = some (.cells #[.slice none 0 0, .int .i64 0, .slice none 0 0] 48 (0, 0)) := by
    rw [← eW]
    have := heap_alloc_new (w.alloc (.cells #[.slice p1 t.types.length c1, .int .i64 t.first, .slice p2 t.chs.length c2] 48)) (.cells #[.slice none 0 0, .int .i64 0, .slice none 0 0] 48)
    simpa using this
  clear eW
  refine (HK.out _ (HV.out.below hbW)).mono ?_
  rintro e w1 ⟨rfl, hb1⟩
  have hX1 := (hb1.block w.heap.size (by omega)).trans hX
  have hR1 := (hb1.block (w.heap.size + 1) (by omega)).trans hR
  have b1 := hbW.trans (hb1.mono (by omega))
  have hz1 : w.heap.size + 1 < w1.heap.size := (Array.getElem?_eq_some_iff.mp hR1).1
  have x0 : w1.cell? ⟨w.heap.size, 0, none⟩ = some (.slice p1 t.types.length c1) := (cell_of_row w1 _ 0 _ _ _ hX1).trans rfl
  have x1 : w1.cell? ⟨w.heap.size, 1, none⟩ = some (.int .i64 t.first) := (cell_of_row w1 _ 1 _ _ _ hX1).trans rfl
  have x2 : w1.cell? ⟨w.heap.size, 2, none⟩ = some (.slice p2 t.chs.length c2) := (cell_of_row w1 _ 2 _ _ _ hX1).trans rfl
  clear hb1 hX hR hbW
  go_wp2_with fail
  refine (NOf_any t _ w1 (HV.out.below b1) ok.out).mono ?_
  rintro e w2 ⟨v', rfl, hv', hb2⟩
  obtain ⟨q1, d1, q2, d2, rfl⟩ := tabForms hv'
  have hR2 := (hb2.block (w.heap.size + 1) hz1).trans hR1
  have b2 := b1.trans (hb2.mono b1.size)
  have g0 : w2.cell? ⟨w.heap.size + 1, 0, none⟩ = some (.slice none 0 0) := (cell_of_row w2 _ 0 _ _ _ hR2).trans rfl
  have g1 : w2.cell? ⟨w.heap.size + 1, 1, none⟩ = some (.int .i64 0) := (cell_of_row w2 _ 1 _ _ _ hR2).trans rfl
  have g2 : w2.cell? ⟨w.heap.size + 1, 2, none⟩ = some (.slice none 0 0) := (cell_of_row w2 _ 2 _ _ _ hR2).trans rfl
  have z0 : w2.frozen? ⟨w.heap.size + 1, 0, none⟩ = false := by simp [World.frozen?, hR2]
  have z1 : w2.frozen? ⟨w.heap.size + 1, 1, none⟩ = false := by simp [World.frozen?, hR2]
  have z2 : w2.frozen? ⟨w.heap.size + 1, 2, none⟩ = false := by simp [World.frozen?, hR2]
  clear hb2 hX1 hR1 x0 x1 x2
  go_wp2
  obtain ⟨W9, e9, hB9, hh9, ho9⟩ := end_cellsM hR2 (.slice q1 (normT t).types.length d1) (.int .i64 (normT t).first) (.slice q2 (normT t).chs.length d2)
  rw [e9]
  have v0 : W9.cell? ⟨w.heap.size + 1, 0, none⟩ = some (.slice q1 (normT t).types.length d1) := (cell_of_row W9 _ 0 _ _ _ hh9).trans rfl
  have v1 : W9.cell? ⟨w.heap.size + 1, 1, none⟩ = some (.int .i64 (normT t).first) := (cell_of_row W9 _ 1 _ _ _ hh9).trans rfl
  have v2 : W9.cell? ⟨w.heap.size + 1, 2, none⟩ = some (.slice q2 (normT t).chs.length d2) := (cell_of_row W9 _ 2 _ _ _ hh9).trans rfl
  refine bodyPost_ret (v := .tuple #[.agg #[.slice q1 (normT t).types.length d1, .int .i64 (normT t).first, .slice q2 (normT t).chs.length d2], .int .i64 0]) (by simp [results, Tryd.results18, go_sem, v0, v1, v2]) rfl ⟨_, rfl, tab_far hv' hR2 ho9 (hB9 0 (Nat.zero_le _)).size, b2.trans (hB9 _ (by omega))⟩

set_option maxHeartbeats 1000000 in
theorem Norm_no (t : Tab) (v : Value) (w : World) (hv : TabAt w v t) (hok : chk t ≠ 0) :
    Calls Tryd.prog 18 #[v] w fun e w' => e = .returned (.tuple #[.agg #[.slice none 0 0, .int .i64 0, .slice none 0 0], .int .i64 (chk t)]) ∧ Below w.heap.size w w' := by
  have HV := Lib.hid hv
  obtain ⟨p1, c1, p2, c2, rfl⟩ := tabForms hv
  have HK := Lib.hid (fun W h => Check_any t (.agg #[.slice p1 t.types.length c1, .int .i64 t.first, .slice p2 t.chs.length c2]) W h)
  obtain ⟨K, eK⟩ : ∃ K, chk t = K := ⟨_, rfl⟩
  rw [eK] at HK hok ⊢
  have hne : (K == 0) = false := by simpa using hok
  clear hv hok eK
  go_enter Tryd.func18, Tryd.ntmps18
  go_wp2_with fail
  obtain ⟨W0, eW⟩ : ∃ W0, (w.alloc (.cells #[.slice p1 t.types.length c1, .int .i64 t.first, .slice p2 t.chs.length c2] 48)).alloc (.cells #[.slice none 0 0, .int .i64 0, .slice none 0 0] 48) = W0 := ⟨_, rfl⟩
  rw [eW]
  have hW0 : W0.heap.size = w.heap.size + 2 := by rw [← eW]; simp
  have hbW : Below w.heap.size w W0 := by rw [← eW]; exact ((Below.refl _ _).alloc (Nat.le_refl _) _).alloc (by simp) _
  have hR : W0.heap[w.heap.size + 1]? = some (.cells #[.slice none 0 0, .int .i64 0, .slice none 0 0] 48 (0, 0)) := by
    rw [← eW]
    have := heap_alloc_new (w.alloc (.cells #[.slice p1 t.types.length c1, .int .i64 t.first, .slice p2 t.chs.length c2] 48)) (.cells #[.slice none 0 0, .int .i64 0, .slice none 0 0] 48)
    simpa using this
  clear eW
  refine (HK.out _ (HV.out.below hbW)).mono ?_
  rintro e w2 ⟨rfl, hb1⟩
  have hR2 := (hb1.block (w.heap.size + 1) (by omega)).trans hR
  have b2 := hbW.trans (hb1.mono (by omega))
  have g0 : w2.cell? ⟨w.heap.size + 1, 0, none⟩ = some (.slice none 0 0) := (cell_of_row w2 _ 0 _ _ _ hR2).trans rfl
  have g1 : w2.cell? ⟨w.heap.size + 1, 1, none⟩ = some (.int .i64 0) := (cell_of_row w2 _ 1 _ _ _ hR2).trans rfl
  have g2 : w2.cell? ⟨w.heap.size + 1, 2, none⟩ = some (.slice none 0 0) := (cell_of_row w2 _ 2 _ _ _ hR2).trans rfl
  have z0 : w2.frozen? ⟨w.heap.size + 1, 0, none⟩ = false := by simp [World.frozen?, hR2]
  have z1 : w2.frozen? ⟨w.heap.size + 1, 1, none⟩ = false := by simp [World.frozen?, hR2]
  have z2 : w2.frozen? ⟨w.heap.size + 1, 2, none⟩ = false := by simp [World.frozen?, hR2]
  clear hb1 hR hbW
  go_wp2
  obtain ⟨W9, e9, hB9, hh9, ho9⟩ := end_cellsM hR2 (.slice none 0 0) (.int .i64 0) (.slice none 0 0)
  rw [e9]
  have v0 : W9.cell? ⟨w.heap.size + 1, 0, none⟩ = some (.slice none 0 0) := (cell_of_row W9 _ 0 _ _ _ hh9).trans rfl
  have v1 : W9.cell? ⟨w.heap.size + 1, 1, none⟩ = some (.int .i64 0) := (cell_of_row W9 _ 1 _ _ _ hh9).trans rfl
  have v2 : W9.cell? ⟨w.heap.size + 1, 2, none⟩ = some (.slice none 0 0) := (cell_of_row W9 _ 2 _ _ _ hh9).trans rfl
  refine bodyPost_ret (v := .tuple #[.agg #[.slice none 0 0, .int .i64 0, .slice none 0 0], .int .i64 K]) (by simp [results, Tryd.results18, go_sem, v0, v1, v2]) rfl ⟨rfl, b2.trans (hB9 _ (by omega))⟩

end Go.Proofs.YtmpeplimiaaehaaDoor
namespace Go.Proofs.YtmpeplimiaaehaaDoor.BB
open Go.RowKit Go.Joins
open Classical
set_option linter.unusedVariables false
set_option linter.unusedSimpArgs false

structure Er where
  (off : Int)
  (rul : ByteArray)
  (save : Int)
  (fmt : ByteArray)
  (til : Int)

def erOff (x : Ty) : Int := if x.save = true then x.off - 3600 else x.off
def erSave (x : Ty) : Int := if x.save = true then 3600 else 0
def erOk (x : Ty) : Bool := decide (-64800 ≤ erOff x ∧ erOff x ≤ 64800)
def erOf (x : Ty) (u : Int) : Er := ⟨erOff x, ⟨#[]⟩, erSave x, x.name, u⟩
/-- the type's number of a table's span -/
def segK (N : Tab) (i : Nat) : Int := if i = 0 then N.first else kAt N.chs (i - 1)
def segT (N : Tab) (i : Nat) : Ty := tyD N.types (segK N i)
def segU (N : Tab) (i : Nat) : Int := if i < N.chs.length then tAt N.chs i else 0
def erAt (N : Tab) (i : Nat) : Er := erOf (segT N i) (segU N i)
def ersUp (N : Tab) (k : Nat) : List Er := (List.range k).map (erAt N)
abbrev ersOf (N : Tab) : List Er := ersUp N (N.chs.length + 1)
theorem ersUp_snoc (N : Tab) (k : Nat) : ersUp N (k + 1) = ersUp N k ++ [erAt N k] := by simp [ersUp, List.range_succ]
theorem ersUp_length (N : Tab) (k : Nat) : (ersUp N k).length = k := by simp [ersUp]

def okSB (t : Int) : Bool := decide (-135140 ≤ t / 86400 ∧ t / 86400 ≤ 157053)
noncomputable def backC (t : Tab) (nm : ByteArray) : Int :=
  if chk t ≠ 0 then chk t else if nameB nm = false then 3 else if 700 ≤ (normT t).chs.length then 2 else
  if (∃ c ∈ (normT t).chs, okSB c.t = false) then 1 else if (∃ i, i ≤ (normT t).chs.length ∧ erOk (segT (normT t) i) = false) then 1 else 0
theorem backC_norm (t : Tab) (nm : ByteArray) (h : chk t = 0) : backC (normT t) nm = backC t nm := by
  unfold backC
  rw [normT_norm, norm_chk t h, h]

/-! in memory -/
def erC (x : Er) : List Value := [.int .i64 x.off, .string x.rul, .int .i64 x.save, .string x.fmt, .int .i64 x.til]
def erCells (l : List Er) : List Value := l.flatMap erC
theorem erCells_snoc (l : List Er) (x : Er) : erCells (l ++ [x]) = erCells l ++ erC x := by simp [erCells]
theorem erCells_get : ∀ (l : List Er) (i : Nat) (h : i < l.length), (erCells l)[i * 5]? = some (.int .i64 l[i].off) ∧ (erCells l)[i * 5 + 1]? = some (.string l[i].rul) ∧ (erCells l)[i * 5 + 2]? = some (.int .i64 l[i].save) ∧ (erCells l)[i * 5 + 3]? = some (.string l[i].fmt) ∧ (erCells l)[i * 5 + 4]? = some (.int .i64 l[i].til)
  | [], i, h => by simp at h
  | x :: r, 0, _ => by simp [erCells, erC]
  | x :: r, i + 1, h => by
    have := erCells_get r i (by simpa using h)
    have e : erCells (x :: r) = erC x ++ erCells r := by simp [erCells]
    rw [e]
    have e3 : (erC x).length = 5 := rfl
    rw [List.getElem?_append_right (by rw [e3]; omega), List.getElem?_append_right (by rw [e3]; omega), List.getElem?_append_right (by rw [e3]; omega), List.getElem?_append_right (by rw [e3]; omega), List.getElem?_append_right (by rw [e3]; omega), e3,
      show (i + 1) * 5 - 5 = i * 5 by omega, show (i + 1) * 5 + 1 - 5 = i * 5 + 1 by omega, show (i + 1) * 5 + 2 - 5 = i * 5 + 2 by omega, show (i + 1) * 5 + 3 - 5 = i * 5 + 3 by omega, show (i + 1) * 5 + 4 - 5 = i * 5 + 4 by omega]
    simpa using this
def erAtW (w : World) (b o : Nat) (x : Er) : Prop :=
  w.cell? ⟨b, o, none⟩ = some (.int .i64 x.off) ∧ w.cell? ⟨b, o + 1, none⟩ = some (.string x.rul) ∧ w.cell? ⟨b, o + 2, none⟩ = some (.int .i64 x.save) ∧ w.cell? ⟨b, o + 3, none⟩ = some (.string x.fmt) ∧ w.cell? ⟨b, o + 4, none⟩ = some (.int .i64 x.til)
theorem erAtW.below {w w' : World} {b o : Nat} {x : Er} (h : erAtW w b o x) (hb : Below w.heap.size w w') (hlt : b < w.heap.size) : erAtW w' b o x :=
  ⟨(hb.cell (p := ⟨b, o, none⟩) hlt).trans h.1, (hb.cell (p := ⟨b, o + 1, none⟩) hlt).trans h.2.1, (hb.cell (p := ⟨b, o + 2, none⟩) hlt).trans h.2.2.1, (hb.cell (p := ⟨b, o + 3, none⟩) hlt).trans h.2.2.2.1, (hb.cell (p := ⟨b, o + 4, none⟩) hlt).trans h.2.2.2.2⟩
structure SlEr (w : World) (v : Value) (l : List Er) : Prop where
  shape : ∃ p cap, v = .slice p l.length cap ∧ (l ≠ [] → ∃ b o, p = some ⟨b, o, none⟩ ∧ b < w.heap.size ∧ ∀ i (h : i < l.length), erAtW w b (o + i * 5) l[i])
  size : l.length ≤ maxLen
theorem SlEr.below {w w' : World} {v : Value} {l : List Er} (h : SlEr w v l) (hb : Below w.heap.size w w') : SlEr w' v l := by
  obtain ⟨⟨p, cap, hv, hc⟩, h2⟩ := h
  refine ⟨⟨p, cap, hv, fun hne => ?_⟩, h2⟩
  obtain ⟨b, o, hp, hlt, hat⟩ := hc hne
  exact ⟨b, o, hp, Nat.lt_of_lt_of_le hlt hb.size, fun i h => (hat i h).below hb hlt⟩
theorem own_ers {W : World} {B : Nat} {v : Value} {l : List Er} (h : W.ownsRow B 61 5 v l.length (erCells l)) (hl : l.length ≤ maxLen) : SlEr W v l := by
  refine ⟨?_, hl⟩
  rcases own_cells h with ⟨rfl, h0⟩ | ⟨g, cap, rfl, hb, hg, hc⟩
  · have : l = [] := List.eq_nil_of_length_eq_zero h0
    subst this
    exact ⟨none, 0, rfl, fun h => absurd rfl h⟩
  · refine ⟨_, cap, rfl, fun _ => ⟨g, 0, rfl, hg, fun i hi => ?_⟩⟩
    obtain ⟨k1, k2, k3, k4, k5⟩ := erCells_get l i hi
    exact ⟨by rw [Nat.zero_add]; exact hc _ _ k1, by rw [Nat.zero_add]; exact hc _ _ k2, by rw [Nat.zero_add]; exact hc _ _ k3, by rw [Nat.zero_add]; exact hc _ _ k4, by rw [Nat.zero_add]; exact hc _ _ k5⟩

/-- a book with one zone of eras -/
structure BkAt (W : World) (Z cz : Nat) (p : Option Addr) (ce : Nat) (nm : ByteArray) (L : List Er) : Prop where
  blk : W.heap[Z]? = some (.cells #[.string nm, .slice p L.length ce] 51 (0, 0))
  ers : SlEr W (.slice p L.length ce) L
  cap : L.length ≤ ce ∧ 1 ≤ cz
theorem own_cap {W : World} {B : Nat} {e : TypeId} {s n c : Nat} {A : Option Addr} {xs : List Value} (h : W.ownsRow B e s (.slice A n c) n xs) : n ≤ c := by
  rcases h.2 with ⟨_, h0⟩ | ⟨g, cap, cur, e, _, _, hn, _⟩
  · omega
  · rw [Value.slice.injEq] at e
    obtain ⟨_, _, rfl⟩ := e
    exact hn
theorem BkAt.below {W W' : World} {Z cz : Nat} {p : Option Addr} {ce : Nat} {nm : ByteArray} {L : List Er} (h : BkAt W Z cz p ce nm L) (hb : Below W.heap.size W W') : BkAt W' Z cz p ce nm L :=
  ⟨(hb.block _ (Array.getElem?_eq_some_iff.mp h.blk).1).trans h.blk, h.ers.below hb, h.cap⟩
theorem BkAt.cells {W : World} {Z cz : Nat} {p : Option Addr} {ce : Nat} {nm : ByteArray} {L : List Er} (h : BkAt W Z cz p ce nm L) :
    W.cell? ⟨Z, 0, none⟩ = some (.string nm) ∧ W.cell? ⟨Z, 1, none⟩ = some (.slice p L.length ce) ∧ Z < W.heap.size :=
  ⟨(cell_of_row W _ 0 _ _ _ h.blk).trans rfl, (cell_of_row W _ 1 _ _ _ h.blk).trans rfl, (Array.getElem?_eq_some_iff.mp h.blk).1⟩
abbrev bkNone : Value := .agg #[.slice none 0 0, .slice none 0 0, .slice none 0 0]
abbrev bkV (Z cz : Nat) : Value := .agg #[.slice none 0 0, .slice (some ⟨Z, 0, none⟩) 1 cz, .slice none 0 0]

abbrev erV (x : Er) : Value := .agg #[.int .i64 x.off, .string x.rul, .int .i64 x.save, .string x.fmt, .int .i64 x.til]
theorem three_alB {w W3 : World} {o1 o2 : Obj} {o3 : Array Value} {T : TypeId} (e : ((w.alloc o1).alloc o2).alloc (.cells o3 T) = W3) :
    W3.heap.size = w.heap.size + 3 ∧ W3.heap[w.heap.size + 1]? = some o2 ∧ W3.heap[w.heap.size + 1 + 1]? = some (.cells o3 T (0, 0)) ∧ Below w.heap.size w W3 := by
  subst e
  refine ⟨by simp, ?_, ?_, (((Below.refl _ _).alloc (Nat.le_refl _) _).alloc (by simp) _).alloc (by simp; omega) _⟩
  · rw [Below.heap_alloc _ _ _ (by simp)]
    have := heap_alloc_new (w.alloc o1) o2
    simpa using this
  · have := heap_alloc_new ((w.alloc o1).alloc o2) (.cells o3 T)
    simpa using this
theorem heap_setCB {w : World} {R i : Nat} {cs : Array Value} {T : TypeId} {f : Nat × Nat} (h : w.heap[R]? = some (.cells cs T f)) (v : Value) : (w.setCell ⟨R, i, none⟩ v).heap[R]? = some (.cells (cs.setIfInBounds i v) T f) := by
  simp [World.setCell, Array.getElem?_modify, h]
theorem cells5 {W : World} {B : Nat} {a b c d e : Value} {T : TypeId} (h : W.heap[B]? = some (.cells #[a, b, c, d, e] T (0, 0))) :
    W.cell? ⟨B, 0, none⟩ = some a ∧ W.cell? ⟨B, 1, none⟩ = some b ∧ W.cell? ⟨B, 2, none⟩ = some c ∧ W.cell? ⟨B, 3, none⟩ = some d ∧ W.cell? ⟨B, 4, none⟩ = some e ∧ ∀ o, W.frozen? ⟨B, o, none⟩ = false :=
  ⟨(cell_of_row W _ 0 _ _ _ h).trans rfl, (cell_of_row W _ 1 _ _ _ h).trans rfl, (cell_of_row W _ 2 _ _ _ h).trans rfl, (cell_of_row W _ 3 _ _ _ h).trans rfl, (cell_of_row W _ 4 _ _ _ h).trans rfl, fun o => by simp [World.frozen?, h]⟩
theorem end_cells5 {W : World} {g : Nat} {a b c d e : Value} {T : TypeId} (h : W.heap[g]? = some (.cells #[a, b, c, d, e] T (0, 0))) (x y z u v : Value) :
    ∃ W', ((((W.setCell ⟨g, 0, none⟩ x).setCell ⟨g, 1, none⟩ y).setCell ⟨g, 2, none⟩ z).setCell ⟨g, 3, none⟩ u).setCell ⟨g, 4, none⟩ v = W' ∧ (∀ B, B ≤ g → Below B W W') ∧ W'.heap[g]? = some (.cells #[x, y, z, u, v] T (0, 0)) := by
  refine ⟨_, rfl, fun B hB => (((((Below.refl _ _).setCell (by exact hB) _).setCell (by exact hB) _).setCell (by exact hB) _).setCell (by exact hB) _).setCell (by exact hB) _, ?_⟩
  rw [heap_setCB (heap_setCB (heap_setCB (heap_setCB (heap_setCB h x) y) z) u) v]
  rfl

set_option maxRecDepth 100000 in
set_option maxHeartbeats 4000000 in
theorem era_any (x : Ty) (w : World) (h1 : -75600 ≤ x.off) (h2 : x.off ≤ 75600) :
    Calls Tryd.prog 54 #[tyV x] w fun e w' => e = .returned (.tuple #[erV (erOf x 0), .bool (erOk x)]) ∧ Below w.heap.size w w' := by
  obtain ⟨off, sv, nm⟩ := x
  simp only at h1 h2
  have HR : Hid (∀ b : Bool, erOk ⟨off, sv, nm⟩ = b → Ending.returned (.tuple #[erV (erOf ⟨off, sv, nm⟩ 0), .bool b]) = Ending.returned (.tuple #[erV (erOf ⟨off, sv, nm⟩ 0), .bool (erOk ⟨off, sv, nm⟩)])) := by
    show ∀ b : Bool, _
    intro b h
    rw [h]
  cases sv
  · obtain ⟨W3, e3⟩ : ∃ W3, ((w.alloc (.cells #[.int .i64 off, .bool false, .string nm] 54)).alloc (.cells #[.int .i64 0, .string ⟨#[]⟩, .int .i64 0, .string ⟨#[]⟩, .int .i64 0] 61)).alloc (.cells #[.int .i64 off, .string ⟨#[]⟩, .int .i64 0, .string nm, .int .i64 0] 61) = W3 := ⟨_, rfl⟩
    obtain ⟨hz, g1, g2, hb⟩ := three_alB e3
    have E3 := Lib.hid e3
    obtain ⟨y0, y1, y2, y3, y4, -⟩ := cells5 g2
    obtain ⟨z0, z1, z2, z3, z4, zf⟩ := cells5 g1
    have G1 := Lib.hid g1
    have HB := Lib.hid hb
    have zf0 := zf 0
    have zf1 := zf 1
    have zf2 := zf 2
    have zf3 := zf 3
    have zf4 := zf 4
    clear e3 g1 g2 hb zf
    by_cases c1 : -64800 ≤ off
    · by_cases c2 : off ≤ 64800
      · have hI : erOk ⟨off, false, nm⟩ = true := by unfold erOk erOff; simp only [Bool.false_eq_true, if_false]; exact decide_eq_true (by omega)
        have HI := Lib.hid hI
        clear hI
        go_enter Tryd.func54, Tryd.ntmps54
        go_upto_region 4 with fail
        rw [E3.out]
        go_region
        go_wp2
        obtain ⟨W9, e9, hb9, g9⟩ := end_cells5 G1.out (.int .i64 (off)) (.string ⟨#[]⟩) (.int .i64 0) (.string nm) (.int .i64 0)
        rw [e9]
        obtain ⟨v0, v1, v2, v3, v4, -⟩ := cells5 (W := W9.drew) g9
        refine bodyPost_ret (v := .tuple #[erV (erOf ⟨off, false, nm⟩ 0), .bool true]) (by simp [results, Tryd.results54, go_sem, v0, v1, v2, v3, v4, erOf, erOff, erSave]) rfl ⟨HR.out true HI.out, ?_⟩
        exact (HB.out.trans (hb9 _ (by omega))).drew
      · have hI : erOk ⟨off, false, nm⟩ = false := by unfold erOk erOff; simp only [Bool.false_eq_true, if_false]; exact decide_eq_false (by omega)
        have HI := Lib.hid hI
        clear hI
        go_enter Tryd.func54, Tryd.ntmps54
        go_upto_region 4 with fail
        rw [E3.out]
        go_region
        go_wp2
        obtain ⟨W9, e9, hb9, g9⟩ := end_cells5 G1.out (.int .i64 (off)) (.string ⟨#[]⟩) (.int .i64 0) (.string nm) (.int .i64 0)
        rw [e9]
        obtain ⟨v0, v1, v2, v3, v4, -⟩ := cells5 (W := W9.drew) g9
        refine bodyPost_ret (v := .tuple #[erV (erOf ⟨off, false, nm⟩ 0), .bool false]) (by simp [results, Tryd.results54, go_sem, v0, v1, v2, v3, v4, erOf, erOff, erSave]) rfl ⟨HR.out false HI.out, ?_⟩
        exact (HB.out.trans (hb9 _ (by omega))).drew
    · have hI : erOk ⟨off, false, nm⟩ = false := by unfold erOk erOff; simp only [Bool.false_eq_true, if_false]; exact decide_eq_false (by omega)
      have HI := Lib.hid hI
      clear hI
      go_enter Tryd.func54, Tryd.ntmps54
      go_upto_region 4 with fail
      rw [E3.out]
      go_region
      go_wp2
      obtain ⟨W9, e9, hb9, g9⟩ := end_cells5 G1.out (.int .i64 (off)) (.string ⟨#[]⟩) (.int .i64 0) (.string nm) (.int .i64 0)
      rw [e9]
      obtain ⟨v0, v1, v2, v3, v4, -⟩ := cells5 (W := W9.drew) g9
      refine bodyPost_ret (v := .tuple #[erV (erOf ⟨off, false, nm⟩ 0), .bool false]) (by simp [results, Tryd.results54, go_sem, v0, v1, v2, v3, v4, erOf, erOff, erSave]) rfl ⟨HR.out false HI.out, ?_⟩
      exact (HB.out.trans (hb9 _ (by omega))).drew
  · obtain ⟨W3, e3⟩ : ∃ W3, ((w.alloc (.cells #[.int .i64 off, .bool true, .string nm] 54)).alloc (.cells #[.int .i64 0, .string ⟨#[]⟩, .int .i64 0, .string ⟨#[]⟩, .int .i64 0] 61)).alloc (.cells #[.int .i64 (off - 3600), .string ⟨#[]⟩, .int .i64 3600, .string nm, .int .i64 0] 61) = W3 := ⟨_, rfl⟩
    obtain ⟨hz, g1, g2, hb⟩ := three_alB e3
    have E3 := Lib.hid e3
    obtain ⟨y0, y1, y2, y3, y4, -⟩ := cells5 g2
    obtain ⟨z0, z1, z2, z3, z4, zf⟩ := cells5 g1
    have G1 := Lib.hid g1
    have HB := Lib.hid hb
    have zf0 := zf 0
    have zf1 := zf 1
    have zf2 := zf 2
    have zf3 := zf 3
    have zf4 := zf 4
    clear e3 g1 g2 hb zf
    by_cases c1 : -64800 ≤ off - 3600
    · by_cases c2 : off - 3600 ≤ 64800
      · have hI : erOk ⟨off, true, nm⟩ = true := by unfold erOk erOff; simp only [if_true]; exact decide_eq_true (by omega)
        have HI := Lib.hid hI
        clear hI
        go_enter Tryd.func54, Tryd.ntmps54
        go_upto_region 4 with fail
        rw [E3.out]
        go_region
        go_wp2
        obtain ⟨W9, e9, hb9, g9⟩ := end_cells5 G1.out (.int .i64 (off - 3600)) (.string ⟨#[]⟩) (.int .i64 3600) (.string nm) (.int .i64 0)
        rw [e9]
        obtain ⟨v0, v1, v2, v3, v4, -⟩ := cells5 (W := W9.drew) g9
        refine bodyPost_ret (v := .tuple #[erV (erOf ⟨off, true, nm⟩ 0), .bool true]) (by simp [results, Tryd.results54, go_sem, v0, v1, v2, v3, v4, erOf, erOff, erSave]) rfl ⟨HR.out true HI.out, ?_⟩
        exact (HB.out.trans (hb9 _ (by omega))).drew
      · have hI : erOk ⟨off, true, nm⟩ = false := by unfold erOk erOff; simp only [if_true]; exact decide_eq_false (by omega)
        have HI := Lib.hid hI
        clear hI
        go_enter Tryd.func54, Tryd.ntmps54
        go_upto_region 4 with fail
        rw [E3.out]
        go_region
        go_wp2
        obtain ⟨W9, e9, hb9, g9⟩ := end_cells5 G1.out (.int .i64 (off - 3600)) (.string ⟨#[]⟩) (.int .i64 3600) (.string nm) (.int .i64 0)
        rw [e9]
        obtain ⟨v0, v1, v2, v3, v4, -⟩ := cells5 (W := W9.drew) g9
        refine bodyPost_ret (v := .tuple #[erV (erOf ⟨off, true, nm⟩ 0), .bool false]) (by simp [results, Tryd.results54, go_sem, v0, v1, v2, v3, v4, erOf, erOff, erSave]) rfl ⟨HR.out false HI.out, ?_⟩
        exact (HB.out.trans (hb9 _ (by omega))).drew
    · have hI : erOk ⟨off, true, nm⟩ = false := by unfold erOk erOff; simp only [if_true]; exact decide_eq_false (by omega)
      have HI := Lib.hid hI
      clear hI
      go_enter Tryd.func54, Tryd.ntmps54
      go_upto_region 4 with fail
      rw [E3.out]
      go_region
      go_wp2
      obtain ⟨W9, e9, hb9, g9⟩ := end_cells5 G1.out (.int .i64 (off - 3600)) (.string ⟨#[]⟩) (.int .i64 3600) (.string nm) (.int .i64 0)
      rw [e9]
      obtain ⟨v0, v1, v2, v3, v4, -⟩ := cells5 (W := W9.drew) g9
      refine bodyPost_ret (v := .tuple #[erV (erOf ⟨off, true, nm⟩ 0), .bool false]) (by simp [results, Tryd.results54, go_sem, v0, v1, v2, v3, v4, erOf, erOff, erSave]) rfl ⟨HR.out false HI.out, ?_⟩
      exact (HB.out.trans (hb9 _ (by omega))).drew
end Go.Proofs.YtmpeplimiaaehaaDoor.BB
namespace Go.Proofs.YtmpeplimiaaehaaDoor.BB
open Go.RowKit Go.Joins
open Classical
set_option linter.unusedVariables false
set_option linter.unusedSimpArgs false

/-- what back.Book answers -/
def BkPost (t : Tab) (nm : ByteArray) (w : World) (e : Ending) (w' : World) : Prop :=
  Below w.heap.size w w' ∧ ((backC t nm ≠ 0 ∧ e = .returned (.tuple #[bkNone, .int .i64 (backC t nm)])) ∨
    (backC t nm = 0 ∧ ∃ Z cz p ce, e = .returned (.tuple #[bkV Z cz, .int .i64 0]) ∧ BkAt w' Z cz p ce nm (ersOf (normT t))))

theorem two_alB {w W : World} {o1 o2 : Obj} (e : (w.alloc o1).alloc o2 = W) : W.heap.size = w.heap.size + 2 ∧ W.heap[w.heap.size]? = some o1 ∧ W.heap[w.heap.size + 1]? = some o2 ∧ Below w.heap.size w W := by
  subst e
  refine ⟨by simp, ?_, ?_, ((Below.refl _ _).alloc (Nat.le_refl _) _).alloc (by simp) _⟩
  · rw [Below.heap_alloc _ _ _ (by simp)]; exact heap_alloc_new w o1
  · have := heap_alloc_new (w.alloc o1) o2
    simpa using this

/-- the memory of a call under way: the table's box, and the result's -/
structure BkM (w W : World) (p1 : Option Addr) (c1 : Nat) (p2 : Option Addr) (c2 : Nat) (t : Tab) : Prop where
  px : W.heap[w.heap.size]? = some (.cells #[.slice p1 t.types.length c1, .int .i64 t.first, .slice p2 t.chs.length c2] 48 (0, 0))
  r : W.heap[w.heap.size + 1]? = some (.cells #[.slice none 0 0, .slice none 0 0, .slice none 0 0] 26 (0, 0))
  tb : TabAt W (.agg #[.slice p1 t.types.length c1, .int .i64 t.first, .slice p2 t.chs.length c2]) t
  b : Below w.heap.size w W
theorem BkM.lt {w W : World} {p1 p2 : Option Addr} {c1 c2 : Nat} {t : Tab} (h : BkM w W p1 c1 p2 c2 t) : w.heap.size + 1 < W.heap.size := (Array.getElem?_eq_some_iff.mp h.r).1
theorem BkM.go {w W W' : World} {p1 p2 : Option Addr} {c1 c2 : Nat} {t : Tab} (h : BkM w W p1 c1 p2 c2 t) (hb : Below W.heap.size W W') : BkM w W' p1 c1 p2 c2 t :=
  ⟨(hb.block _ (Nat.lt_of_succ_lt h.lt)).trans h.px, (hb.block _ h.lt).trans h.r, h.tb.below hb, h.b.trans (hb.mono h.b.size)⟩
theorem BkM.cells {w W : World} {p1 p2 : Option Addr} {c1 c2 : Nat} {t : Tab} (h : BkM w W p1 c1 p2 c2 t) :
    W.cell? ⟨w.heap.size, 0, none⟩ = some (.slice p1 t.types.length c1) ∧ W.cell? ⟨w.heap.size, 1, none⟩ = some (.int .i64 t.first) ∧ W.cell? ⟨w.heap.size, 2, none⟩ = some (.slice p2 t.chs.length c2) ∧ W.frozen? ⟨w.heap.size, 0, none⟩ = false ∧ W.frozen? ⟨w.heap.size, 1, none⟩ = false ∧ W.frozen? ⟨w.heap.size, 2, none⟩ = false ∧ w.heap.size < W.heap.size :=
  ⟨(cell_of_row W _ 0 _ _ _ h.px).trans rfl, (cell_of_row W _ 1 _ _ _ h.px).trans rfl, (cell_of_row W _ 2 _ _ _ h.px).trans rfl, by simp [World.frozen?, h.px], by simp [World.frozen?, h.px], by simp [World.frozen?, h.px], Nat.lt_of_succ_lt h.lt⟩
theorem BkM.zero {w W : World} {p1 p2 : Option Addr} {c1 c2 : Nat} {t : Tab} (h : BkM w W p1 c1 p2 c2 t) :
    W.cell? ⟨w.heap.size + 1, 0, none⟩ = some (.slice none 0 0) ∧ W.cell? ⟨w.heap.size + 1, 1, none⟩ = some (.slice none 0 0) ∧ W.cell? ⟨w.heap.size + 1, 2, none⟩ = some (.slice none 0 0) ∧ W.frozen? ⟨w.heap.size + 1, 0, none⟩ = false ∧ W.frozen? ⟨w.heap.size + 1, 1, none⟩ = false ∧ W.frozen? ⟨w.heap.size + 1, 2, none⟩ = false :=
  ⟨(cell_of_row W _ 0 _ _ _ h.r).trans rfl, (cell_of_row W _ 1 _ _ _ h.r).trans rfl, (cell_of_row W _ 2 _ _ _ h.r).trans rfl, by simp [World.frozen?, h.r], by simp [World.frozen?, h.r], by simp [World.frozen?, h.r]⟩
theorem end_cells3 {W : World} {g : Nat} {a b c : Value} {T : TypeId} (h : W.heap[g]? = some (.cells #[a, b, c] T (0, 0))) (x y z : Value) :
    ∃ W', ((W.setCell ⟨g, 0, none⟩ x).setCell ⟨g, 1, none⟩ y).setCell ⟨g, 2, none⟩ z = W' ∧ (∀ B, B ≤ g → Below B W W') ∧ W'.heap[g]? = some (.cells #[x, y, z] T (0, 0)) ∧ ∀ b, b ≠ g → W'.heap[b]? = W.heap[b]? := by
  refine ⟨_, rfl, fun B hB => (((Below.refl _ _).setCell (by exact hB) _).setCell (by exact hB) _).setCell (by exact hB) _, ?_, fun b hb => (Below.heap_setCell _ _ _ _ hb).trans ((Below.heap_setCell _ _ _ _ hb).trans (Below.heap_setCell _ _ _ _ hb))⟩
  rw [heap_setCB (i := 2) (heap_setCB (i := 1) (heap_setCB (i := 0) h x) y) z]
  rfl
theorem BkM.out {w W : World} {p1 p2 : Option Addr} {c1 c2 : Nat} {t : Tab} (h : BkM w W p1 c1 p2 c2 t) (x y z : Value) :
    ∃ W', ((W.setCell ⟨w.heap.size + 1, 0, none⟩ x).setCell ⟨w.heap.size + 1, 1, none⟩ y).setCell ⟨w.heap.size + 1, 2, none⟩ z = W' ∧ Below w.heap.size w W' ∧
      W'.cell? ⟨w.heap.size + 1, 0, none⟩ = some x ∧ W'.cell? ⟨w.heap.size + 1, 1, none⟩ = some y ∧ W'.cell? ⟨w.heap.size + 1, 2, none⟩ = some z ∧ ∀ b, b ≠ w.heap.size + 1 → W'.heap[b]? = W.heap[b]? := by
  obtain ⟨W', e, hb, hr, ho⟩ := end_cells3 h.r x y z
  exact ⟨W', e, h.b.trans (hb _ (by omega)), (cell_of_row W' _ 0 _ _ _ hr).trans rfl, (cell_of_row W' _ 1 _ _ _ hr).trans rfl, (cell_of_row W' _ 2 _ _ _ hr).trans rfl, ho⟩
end Go.Proofs.YtmpeplimiaaehaaDoor.BB
namespace Go.Proofs.YtmpeplimiaaehaaDoor.BB
open Go.RowKit Go.Joins
open Classical
set_option linter.unusedVariables false
set_option linter.unusedSimpArgs false

theorem bk_no {t : Tab} {nm : ByteArray} {w w' : World} {c : Int} (h : backC t nm = c) (hc : c ≠ 0) (hb : Below w.heap.size w w') : BkPost t nm w (.returned (.tuple #[bkNone, .int .i64 c])) w' :=
  ⟨hb, Or.inl ⟨by rw [h]; exact hc, by rw [h]⟩⟩

theorem undErB : Tryd.prog.underlying 49 = some (.slice 61) := by kernel_rfl
theorem infoErB : (Tryd.prog.info? 61).map (fun i => (i.zero, i.size, i.bytes)) = some (some (.agg #[.int .i64 0, .string ⟨#[]⟩, .int .i64 0, .string ⟨#[]⟩, .int .i64 0]), 5, 56) := by kernel_rfl
/-- the zone under way, and its row of eras -/
structure Vz (W : World) (U : Nat) (nm : ByteArray) (cv : Value) (L : List Er) : Prop where
  blk : W.heap[U]? = some (.cells #[.string nm, cv] 51 (0, 0))
  row : W.ownsRow U 61 5 cv L.length (erCells L)
section
variable {W W' : World} {U : Nat} {nm : ByteArray} {cv : Value} {L : List Er}
theorem Vz.lt (h : Vz W U nm cv L) : U < W.heap.size := (Array.getElem?_eq_some_iff.mp h.blk).1
theorem Vz.ne (h : Vz W U nm cv L) : cv.ownBlock ≠ some U := by
  rcases h.row.2 with ⟨e, _⟩ | ⟨g, cap, cur, e, _, hg, _⟩
  · rw [e]; simp [Value.ownBlock]
  · rw [e]
    simp only [Value.ownBlock]
    intro e2
    injection e2 with e2
    subst e2
    rw [h.blk] at hg
    injection hg with hg
    injection hg with _ h2 _
    exact absurd h2 (by decide)
theorem Vz.keep (h : Vz W U nm cv L) (hk : ∀ b, b < W.heap.size → W'.heap[b]? = W.heap[b]?) : Vz W' U nm cv L :=
  ⟨(hk _ h.lt).trans h.blk, own_keep h.row fun g e => hk g (World.ownsRow.lt h.row g e).2⟩
theorem Vz.below (h : Vz W U nm cv L) (hb : Below W.heap.size W W') : Vz W' U nm cv L := h.keep fun b hlt => hb.block b hlt
theorem Vz.cells (h : Vz W U nm cv L) : W.cell? ⟨U, 0, none⟩ = some (.string nm) ∧ W.cell? ⟨U, 1, none⟩ = some cv ∧ (∀ o, W.frozen? ⟨U, o, none⟩ = false) :=
  ⟨(cell_of_row W _ 0 _ _ _ h.blk).trans rfl, (cell_of_row W _ 1 _ _ _ h.blk).trans rfl, fun o => by simp [World.frozen?, h.blk]⟩
end
theorem vz_old {W w6 : World} {U : Nat} {nm : ByteArray} {A : Option Addr} {cS : Nat} {L : List Er} {o : Obj} (h : Vz W U nm (.slice A L.length cS) L) (hg : (W.alloc o).grownBy w6 (Value.slice A L.length cS).ownBlock) :
    w6.heap[U]? = some (.cells #[.string nm, .slice A L.length cS] 51 (0, 0)) := by
  have := h.lt
  exact ((hg.block U (by simp; omega) (fun e => h.ne e.symm)).trans (Below.heap_alloc _ _ _ this)).trans h.blk
theorem vz_snoc {W w6 : World} {U : Nat} {nm : ByteArray} {A : Option Addr} {cS : Nat} {v' : Value} {L : List Er} {x : Er} {o : Obj} (h : Vz W U nm (.slice A L.length cS) L)
    (hown : w6.ownsRow U 61 5 v' (L.length + 1) (erCells L ++ erC x))
    (hg : (W.alloc o).grownBy w6 (Value.slice A L.length cS).ownBlock) (y6 : w6.heap[U]? = some (.cells #[.string nm, .slice A L.length cS] 51 (0, 0))) :
    Vz (w6.setCell ⟨U, 1, none⟩ v') U nm v' (L ++ [x]) ∧ Below U W (w6.setCell ⟨U, 1, none⟩ v') := by
  have hne : v'.ownBlock ≠ some U := by
    rcases hown.2 with ⟨e, _⟩ | ⟨g, cap, cur, e, _, hg, _⟩
    · rw [e]; simp [Value.ownBlock]
    · rw [e]
      simp only [Value.ownBlock]
      intro e2
      injection e2 with e2
      subst e2
      rw [y6] at hg
      injection hg with hg
      injection hg with _ h2 _
      exact absurd h2 (by decide)
  have hlt := h.lt
  refine ⟨⟨(heap_setCB y6 _).trans rfl, ?_⟩, ?_⟩
  · rw [erCells_snoc, List.length_append]
    exact own_keep hown fun g e => Below.heap_setCell _ _ _ _ (by show g ≠ U; exact fun e2 => hne (by rw [e, e2]))
  · exact (((Below.refl U W).alloc (by omega) _).grown hg (by simp; omega) (fun g e => (World.ownsRow.lt h.row g e).1)).setCell (Nat.le_refl _) _
theorem seg_in {N : Tab} (ok : OkTab N) (i : Nat) (hi : i ≤ N.chs.length) : 0 ≤ segK N i ∧ segK N i < N.types.length := by
  unfold segK
  split
  · exact ok.first
  · have h : i - 1 < N.chs.length := by omega
    have := ok.ch N.chs[i - 1] (List.getElem_mem h)
    unfold kAt
    rw [List.getElem?_eq_getElem h]
    simp only [Option.map_some, Option.getD_some]
    omega

set_option maxRecDepth 100000 in
set_option maxHeartbeats 16000000 in
theorem Book_any (t : Tab) (v : Value) (nm : ByteArray) (w : World) (hv : TabAt w v t) (hs : nm.size ≤ maxLen) (ht : Tab10 w) :
    Calls Tryd.prog 26 #[v, .string nm] w (BkPost t nm w) := by
  obtain ⟨p1, c1, p2, c2, rfl⟩ := tabForms hv
  obtain ⟨W0, eW⟩ : ∃ W0, (w.alloc (.cells #[.slice p1 t.types.length c1, .int .i64 t.first, .slice p2 t.chs.length c2] 48)).alloc (.cells #[.slice none 0 0, .slice none 0 0, .slice none 0 0] 26) = W0 := ⟨_, rfl⟩
  obtain ⟨hz, g0, g1, hb0⟩ := two_alB eW
  have HM : Hid (BkM w W0 p1 c1 p2 c2 t) := by show BkM _ _ _ _ _ _ _; exact ⟨g0, g1, hv.below hb0, hb0⟩
  have HEW := Lib.hid eW
  have HT := Lib.hid ht
  have HC := Lib.hid (fun W v (hb : TabAt W v t) => Check_any t v W hb)
  obtain ⟨C, eC⟩ : ∃ C, chk t = C := ⟨_, rfl⟩
  rw [eC] at HC
  have EC := Lib.hid eC
  have HNM := Lib.hid (fun W => isName_any nm W hs)
  obtain ⟨B, eB⟩ : ∃ B, nameB nm = B := ⟨_, rfl⟩
  rw [eB] at HNM
  have EB := Lib.hid eB
  obtain ⟨x0, x1, x2, xf0, xf1, xf2, hl0⟩ := HM.out.cells
  clear eW g0 g1 hb0 hv eC eB hs ht hz
  go_enter Tryd.func26, Tryd.ntmps26
  go_wp2_with fail
  rw [HEW.out]
  refine (HC.out _ _ HM.out.tb).mono ?_
  rintro e w1 ⟨rfl, hb1⟩
  have HM1 := Lib.hid (HM.out.go hb1)
  clear hb1 HM x0 x1 x2 xf0 xf1 xf2 hl0
  obtain ⟨x0, x1, x2, xf0, xf1, xf2, hl1⟩ := HM1.out.cells
  obtain ⟨z0, z1, z2, zf0, zf1, zf2⟩ := HM1.out.zero
  have hr1 := HM1.out.lt
  by_cases hc : C = 0
  · subst hc
    cases B with
    | false =>
      go_wp2_with fail
      refine (HNM.out _).mono ?_
      rintro e w' ⟨rfl, rfl⟩
      go_wp2
      obtain ⟨W9, e9, hb9, v0, v1, v2, -⟩ := HM1.out.out (.slice none 0 0) (.slice none 0 0) (.slice none 0 0)
      rw [e9]
      refine bodyPost_ret (v := .tuple #[bkNone, .int .i64 3]) (by simp [results, Tryd.results26, go_sem, v0, v1, v2]) rfl (bk_no ?_ (by decide) hb9)
      unfold backC
      rw [if_neg (by rw [EC.out]; simp), if_pos EB.out]
    | true =>
      have ok := chk_ok t EC.out
      have OK := Lib.hid ok
      have nok := norm_ok t ok
      have NOK := Lib.hid nok
      have HN := Lib.hid (fun W v (hb : TabAt W v t) => NOf_any t v W hb ok)
      have HP : Hid (∀ r : Int, (if 700 ≤ (normT t).chs.length then 2 else if (∃ c ∈ (normT t).chs, okSB c.t = false) then 1 else if (∃ i, i ≤ (normT t).chs.length ∧ erOk (segT (normT t) i) = false) then 1 else 0) = r → backC t nm = r) := by
        show ∀ r : Int, _ → _
        intro r h
        unfold backC
        rw [if_neg (by rw [EC.out]; simp), if_neg (by rw [EB.out]; simp)]
        exact h
      obtain ⟨N, eN⟩ : ∃ N, normT t = N := ⟨_, rfl⟩
      rw [eN] at HN HP NOK
      have HPO : Hid (∀ e w', BkPost t nm w e w' ↔ Below w.heap.size w w' ∧ ((backC t nm ≠ 0 ∧ e = .returned (.tuple #[bkNone, .int .i64 (backC t nm)])) ∨ (backC t nm = 0 ∧ ∃ Z cz p ce, e = .returned (.tuple #[bkV Z cz, .int .i64 0]) ∧ BkAt w' Z cz p ce nm (ersOf N)))) := by
        show ∀ e w', _ ↔ _
        intro e w'
        unfold BkPost
        rw [eN]
      clear ok nok eN
      go_wp2_with fail
      refine (HNM.out _).mono ?_
      rintro e w' ⟨rfl, rfl⟩
      go_wp2_with fail
      refine (HN.out _ _ HM1.out.tb).mono ?_
      rintro e w2 ⟨v2, rfl, hv2, hb2⟩
      obtain ⟨q1, d1, q2, d2, rfl⟩ := tabForms hv2
      have HM2 := Lib.hid (HM1.out.go hb2)
      have HV2 := Lib.hid hv2
      clear hb2 hv2 HM1 x0 x1 x2 xf0 xf1 xf2 hl1 z0 z1 z2 zf0 zf1 zf2 hr1
      obtain ⟨x0, x1, x2, xf0, xf1, xf2, hl2⟩ := HM2.out.cells
      go_upto_region 7 with fail
      obtain ⟨W3, e3, hB3, hh3, ho3⟩ := end_cells3 HM2.out.px (.slice q1 N.types.length d1) (.int .i64 N.first) (.slice q2 N.chs.length d2)
      rw [e3]
      have hsz3 : w2.heap.size ≤ W3.heap.size := (hB3 0 (Nat.zero_le _)).size
      have HM3 : Hid (BkM w W3 q1 d1 q2 d2 N) := by
        show BkM _ _ _ _ _ _ _
        exact ⟨hh3, (ho3 _ (by omega)).trans HM2.out.r, tab_far HV2.out HM2.out.px ho3 hsz3, HM2.out.b.trans (hB3 _ (Nat.le_refl _))⟩
      clear e3 hB3 hh3 ho3 HM2 HV2 x0 x1 x2 xf0 xf1 xf2 hl2 hsz3
      obtain ⟨x0, x1, x2, xf0, xf1, xf2, hl3⟩ := HM3.out.cells
      have hr3 := HM3.out.lt
      by_cases h7 : 700 ≤ N.chs.length
      · obtain ⟨z0, z1, z2, zf0, zf1, zf2⟩ := HM3.out.zero
        have H7 := Lib.hid h7
        have h7' : (700 : Int) ≤ (N.chs.length : Int) := by omega
        clear h7
        go_wp2
        obtain ⟨W9, e9, hb9, v0, v1, v2, -⟩ := HM3.out.out (.slice none 0 0) (.slice none 0 0) (.slice none 0 0)
        rw [e9]
        refine bodyPost_ret (v := .tuple #[bkNone, .int .i64 2]) (by simp [results, Tryd.results26, go_sem, v0, v1, v2]) rfl (bk_no (HP.out 2 (if_pos H7.out)) (by decide) hb9)
      have h7' : (N.chs.length : Int) < 700 := by omega
      have H7 := Lib.hid h7
      clear h7
      have hsc := (tabOf_slices HM3.out.tb).2.1
      have hst := (tabOf_slices HM3.out.tb).1
      obtain ⟨p, cap, he, hcc⟩ := hsc.shape
      injection he with he1 _ he2
      subst he1 he2
      obtain ⟨p, cap, he, htt⟩ := hst.shape
      injection he with he1 _ he2
      subst he1 he2
      have HCC := Lib.hid hcc
      have HTT := Lib.hid htt
      clear hsc hst hcc htt
      go_wp2_with fail
      go_loopw [36] (fun i wr => ∃ k : Nat, k ≤ N.chs.length ∧ i = .int .i64 k ∧ (∀ j (h : j < N.chs.length), j < k → okSB N.chs[j].t = true) ∧ Below W3.heap.size W3 wr) (fun i _ => N.chs.length - (intOf i).toNat)
      case atStart => exact ⟨0, Nat.zero_le _, rfl, fun j h h2 => absurd h2 (Nat.not_lt_zero _), Below.refl _ _⟩
      case round =>
        obtain ⟨k, hk, rfl, hall, hbr⟩ := hrel
        have HBR := Lib.hid hbr
        have HMR := Lib.hid (HM3.out.go hbr)
        have HAL := Lib.hid hall
        have hzr := hbr.size
        clear hbr hall x0 x1 x2 xf0 xf1 xf2 hl3
        obtain ⟨x0, x1, x2, xf0, xf1, xf2, hlr⟩ := HMR.out.cells
        by_cases hkn : k < N.chs.length
        · have hne : N.chs ≠ [] := fun e => by rw [e] at hkn; exact absurd hkn (Nat.not_lt_zero _)
          obtain ⟨cb, co, rfl, hcb, hat⟩ := HCC.out hne
          obtain ⟨c, ec⟩ : ∃ c, N.chs[k] = c := ⟨_, rfl⟩
          have h1 := (hat k hkn).below HBR.out hcb
          have hcin := NOK.out.ch N.chs[k] (List.getElem_mem hkn)
          rw [ec] at h1 hcin
          obtain ⟨a0, a1⟩ := h1
          have EC2 := Lib.hid ec
          obtain ⟨ci1, ci2, -, -⟩ := hcin
          clear hat hne ec
          by_cases hok : okSB c.t = true
          · have hok' := hok
            simp only [okSB, decide_eq_true_eq] at hok'
            have HSt := Lib.hid (fun W (hb : Tab10 W) => Stamp_ok c.t W hok'.1 hok'.2 hb)
            have HOK := Lib.hid hok
            clear hok hok'
            go_wp2_with fail
            refine (HSt.out _ (HT.out.below (HMR.out.b.alloc HMR.out.b.size _))).mono ?_
            rintro e w4 ⟨rfl, hb4⟩
            have HZ := Lib.hid (HBR.out.trans ((((Below.refl _ _).alloc (Nat.le_refl _) _).trans (hb4.mono (by simp))).mono HBR.out.size))
            clear hb4 a0 a1 x0 x1 x2 xf0 xf1 xf2
            go_wp2
            go_roundw
            case rel =>
              refine ⟨k + 1, hkn, by go_num, fun j h h2 => ?_, HZ.out⟩
              rcases Nat.lt_or_ge j k with h3 | h3
              · exact HAL.out j h h3
              · have : j = k := by omega
                subst this
                rw [EC2.out]; exact HOK.out
            case measure => simp [intOf]; omega
          · have HSt := Lib.hid (fun W => Stamp_no c.t W (by
              have : ¬ (-135140 ≤ c.t / 86400 ∧ c.t / 86400 ≤ 157053) := fun h => hok (by unfold okSB; exact decide_eq_true h)
              omega) (by omega) (by omega))
            have HOK := Lib.hid (eq_false_of_ne_true hok)
            clear hok
            go_wp2_with fail
            refine (HSt.out _).mono ?_
            rintro e w4 ⟨rfl, hb4⟩
            have HM5 := Lib.hid ((HMR.out.go ((Below.refl _ _).alloc (Nat.le_refl _) _)).go hb4)
            obtain ⟨z0, z1, z2, zf0, zf1, zf2⟩ := HM5.out.zero
            have hl5 := HM5.out.lt
            clear hb4 a0 a1 x0 x1 x2 xf0 xf1 xf2
            go_wp2
            obtain ⟨W9, e9, hb9, v0, v1, v2, -⟩ := HM5.out.out (.slice none 0 0) (.slice none 0 0) (.slice none 0 0)
            rw [e9]
            refine bodyPost_ret (v := .tuple #[bkNone, .int .i64 1]) (by simp [results, Tryd.results26, go_sem, v0, v1, v2]) rfl (bk_no (HP.out 1 ?_) (by decide) hb9)
            rw [if_neg H7.out, if_pos ⟨c, by rw [← EC2.out]; exact List.getElem_mem hkn, HOK.out⟩]
        · obtain rfl : k = N.chs.length := by omega
          have HAA : Hid (¬ ∃ c ∈ N.chs, okSB c.t = false) := by
            show ¬ _
            rintro ⟨c, hc, h⟩
            obtain ⟨j, hj, rfl⟩ := List.mem_iff_getElem.1 hc
            rw [HAL.out j hj hj] at h
            cases h
          clear HAL hk hkn
          go_upto_region 18 with fail
          obtain ⟨wq, rfl⟩ : ∃ wq, wq = wr := ⟨wr, rfl⟩
          obtain ⟨W5, e5⟩ : ∃ W5, wq.alloc (.cells #[.string nm, .slice none 0 0] 51) = W5 := ⟨_, rfl⟩
          rw [e5]
          have g5 : W5.heap[wq.heap.size]? = some (.cells #[.string nm, .slice none 0 0] 51 (0, 0)) := by rw [← e5]; exact heap_alloc_new wq _
          have hb5 : Below wq.heap.size wq W5 := by rw [← e5]; exact (Below.refl _ _).alloc (Nat.le_refl _) _
          have HV5 : Hid (Vz W5 wq.heap.size nm (.slice none 0 0) (ersUp N 0)) := by
            show Vz _ _ _ _ _
            exact ⟨g5, World.ownsRow_nil _ _ _ _⟩
          have HB5 := Lib.hid hb5
          obtain ⟨U, eU⟩ : ∃ U, wq.heap.size = U := ⟨_, rfl⟩
          have EU := Lib.hid eU
          rw [eU] at HV5 HB5 hlr ⊢
          have hz5 : U < W5.heap.size := by have := (Array.getElem?_eq_some_iff.mp g5).1; omega
          have hM5 := HMR.out.go (W' := W5) (by rw [eU]; exact HB5.out)
          clear x0 x1 x2 xf0 xf1 xf2
          obtain ⟨x0, x1, x2, xf0, xf1, xf2, hl5⟩ := hM5.cells
          obtain ⟨i1, hi1, hz10, hz11, hz12⟩ := info_parts infoErB
          clear e5 g5 hb5 eU hM5
          go_wp2_with fail
          go_loopw [12, 59] (fun f i wr => ∃ (k : Nat) (sv : Value) (fk : Int), k ≤ N.chs.length + 1 ∧ i = .int .i64 k ∧ f = .int .i64 fk ∧ (k ≤ N.chs.length → fk = segK N k) ∧ (∀ j, j < k → erOk (segT N j) = true) ∧ Vz wr U nm sv (ersUp N k) ∧ Below U wq wr) (fun _ i _ => N.chs.length + 1 - (intOf i).toNat)
          case atStart => exact ⟨0, _, _, Nat.zero_le _, rfl, rfl, fun _ => rfl, fun j h => absurd h (Nat.not_lt_zero _), HV5.out, HB5.out⟩
          case round =>
            obtain ⟨k, sv, fk, hk, rfl, rfl, hfk, hall, hvz, hbw⟩ := hrel
            have HVR := Lib.hid hvz
            have HBW := Lib.hid hbw
            have HMK := Lib.hid (HMR.out.go (W' := wr) (by rw [EU.out]; exact hbw))
            have HAL := Lib.hid hall
            clear hvz hbw hall x0 x1 x2 xf0 xf1 xf2 hl5
            obtain ⟨x0, x1, x2, xf0, xf1, xf2, hlk⟩ := HMK.out.cells
            have hUr := HVR.out.lt
            by_cases hkn : k ≤ N.chs.length
            · obtain rfl := hfk hkn
              have sg := seg_in NOK.out k hkn
              obtain ⟨K, eK⟩ : ∃ K, segK N k = K := ⟨_, rfl⟩
              rw [eK] at sg ⊢
              obtain ⟨sg1, sg2⟩ := sg
              have hKn : K.toNat < N.types.length := by omega
              have hne : N.types ≠ [] := NOK.out.ne
              obtain ⟨ub, uo, rfl, htb, hat⟩ := HTT.out hne
              have hb3k : Below W3.heap.size W3 wr := HBR.out.trans (HBW.out.mono (by rw [← EU.out]; exact HBR.out.size))
              have h1 := (hat K.toNat hKn).below hb3k htb
              have hxt : N.types[K.toNat] = segT N k := by unfold segT tyD; rw [eK, List.getElem?_eq_getElem hKn]; rfl
              have hxo := NOK.out.type _ (List.getElem_mem hKn)
              rw [hxt] at h1 hxo
              obtain ⟨x, ex⟩ : ∃ x, segT N k = x := ⟨_, rfl⟩
              rw [ex] at h1 hxo
              obtain ⟨a0, a1, a2⟩ := h1
              obtain ⟨o1, o2, -⟩ := hxo
              have HER := Lib.hid (fun W => era_any x W o1 o2)
              obtain ⟨O, eO⟩ : ∃ O, erOk x = O := ⟨_, rfl⟩
              rw [eO] at HER
              obtain ⟨E, eE⟩ : ∃ E, erOf x 0 = E := ⟨_, rfl⟩
              rw [eE] at HER
              have HEV : Hid (erAt N k = ⟨E.off, E.rul, E.save, E.fmt, segU N k⟩) := by
                show _ = _
                unfold erAt
                rw [ex, ← eE]
                rfl
              have hE0 : E.til = 0 := by rw [← eE]; rfl
              have EO := Lib.hid eO
              have EX := Lib.hid ex
              have EK := Lib.hid eK
              have htbr : ub < wr.heap.size := Nat.lt_of_lt_of_le htb hb3k.size
              clear hat hne hxt hb3k ex eO eK hfk o1 o2 eE
              have HE0 := Lib.hid hE0
              clear hE0
              go_wp2_with fail
              refine (HER.out _).mono ?_
              rintro e w6 ⟨rfl, hb6⟩
              have HV6 := Lib.hid (HVR.out.below hb6)
              have HB6 := Lib.hid (HBW.out.trans (hb6.mono (Nat.le_of_lt hUr)))
              have HM6 := Lib.hid (HMK.out.go hb6)
              have hz6 := hb6.size
              clear hb6 a0 a1 a2 x0 x1 x2 xf0 xf1 xf2 hlk HVR HBW HMK
              obtain ⟨x0, x1, x2, xf0, xf1, xf2, hl6⟩ := HM6.out.cells
              have hU6 := HV6.out.lt
              cases O with
              | false =>
                go_upto_region 22 with fail
                obtain ⟨W7, e7⟩ : ∃ W7, w6.alloc (.cells #[.int .i64 E.off, .string E.rul, .int .i64 E.save, .string E.fmt, .int .i64 E.til] 61) = W7 := ⟨_, rfl⟩
                rw [e7]
                have HM7 : Hid (BkM w W7 (some ⟨ub, uo, none⟩) d1 q2 d2 N) := by
                  show BkM _ _ _ _ _ _ _
                  rw [← e7]
                  exact HM6.out.go ((Below.refl _ _).alloc (Nat.le_refl _) _)
                clear e7 x0 x1 x2 xf0 xf1 xf2 hl6
                obtain ⟨z0, z1, z2, zf0, zf1, zf2⟩ := HM7.out.zero
                have hr7 := HM7.out.lt
                go_wp2
                obtain ⟨W9, e9, hb9, v0, v1, v2, -⟩ := HM7.out.out (.slice none 0 0) (.slice none 0 0) (.slice none 0 0)
                rw [e9]
                refine bodyPost_ret (v := .tuple #[bkNone, .int .i64 1]) (by simp [results, Tryd.results26, go_sem, v0, v1, v2]) rfl (bk_no (HP.out 1 ?_) (by decide) hb9)
                rw [if_neg H7.out, if_neg HAA.out, if_pos ⟨k, hkn, by rw [EX.out]; exact EO.out⟩]
              | true =>
                go_upto_if 78 with fail
                obtain ⟨W7, e7⟩ : ∃ W7, w6.alloc (.cells #[.int .i64 E.off, .string E.rul, .int .i64 E.save, .string E.fmt, .int .i64 E.til] 61) = W7 := ⟨_, rfl⟩
                rw [e7]
                have g7 : W7.heap[w6.heap.size]? = some (.cells #[.int .i64 E.off, .string E.rul, .int .i64 E.save, .string E.fmt, .int .i64 E.til] 61 (0, 0)) := by rw [← e7]; exact heap_alloc_new w6 _
                have hb7 : Below w6.heap.size w6 W7 := by rw [← e7]; exact (Below.refl _ _).alloc (Nat.le_refl _) _
                have HM7 := Lib.hid (HM6.out.go hb7)
                have HB7 := Lib.hid hb7
                have G7 := Lib.hid g7
                have hz7 : w6.heap.size < W7.heap.size := (Array.getElem?_eq_some_iff.mp g7).1
                clear e7 g7 hb7 x0 x1 x2 xf0 xf1 xf2 hl6
                go_cut [12] (fun s12 wx => ∃ fk2 : Int, s12 = .int .i64 fk2 ∧ (k + 1 ≤ N.chs.length → fk2 = segK N (k + 1)) ∧ wx.heap[w6.heap.size]? = some (.cells #[.int .i64 E.off, .string E.rul, .int .i64 E.save, .string E.fmt, .int .i64 (segU N k)] 61 (0, 0)) ∧ Below w6.heap.size w6 wx)
                case first =>
                  by_cases hlt : k < N.chs.length
                  · have hne : N.chs ≠ [] := fun e => by rw [e] at hlt; exact absurd hlt (Nat.not_lt_zero _)
                    obtain ⟨cb, co, rfl, hcb, hat⟩ := HCC.out hne
                    have hb37 : Below W3.heap.size W3 W7 := HBR.out.trans ((HB6.out.trans (HB7.out.mono (Nat.le_of_lt hU6))).mono (by rw [← EU.out]; exact HBR.out.size))
                    have h1 := (hat k hlt).below hb37 hcb
                    obtain ⟨a0, a1⟩ := h1
                    have hcb7 : cb < W7.heap.size := Nat.lt_of_lt_of_le hcb hb37.size
                    have hcbne : cb ≠ w6.heap.size := by
                      have := HBR.out.size
                      have := EU.out
                      omega
                    obtain ⟨c, ec⟩ : ∃ c, N.chs[k] = c := ⟨_, rfl⟩
                    rw [ec] at a0 a1
                    have HU : Hid (segU N k = c.t) := by
                      show _ = _
                      unfold segU tAt
                      rw [if_pos hlt, List.getElem?_eq_getElem hlt, ec]
                      rfl
                    have HK2 : Hid (c.k = segK N (k + 1)) := by
                      show _ = _
                      unfold segK kAt
                      rw [if_neg (by omega), show k + 1 - 1 = k by omega, List.getElem?_eq_getElem hlt, ec]
                      rfl
                    obtain ⟨x0, x1, x2, xf0, xf1, xf2, hl7⟩ := HM7.out.cells
                    obtain ⟨y0, y1, y2, y3, y4, yf⟩ := cells5 G7.out
                    have yf4 := yf 4
                    clear hat hne hb37 ec yf
                    go_upto_region 25 with fail
                    go_region
                    all_goals go_wp2_with fail
                    all_goals go_meet
                    all_goals refine ⟨_, rfl, fun _ => HK2.out, ?_, ?_⟩
                    · rw [HU.out]
                      exact (heap_setCB G7.out _).trans rfl
                    · have hq := HB7.out
                      repeat (first | (with_reducible exact hq) | (with_reducible refine Below.drew ?_) | (with_reducible refine Below.setCell ?_ (by simp only [Nat.le_refl]) _))
                  · have HU : Hid (segU N k = 0) := by show _ = _; unfold segU; rw [if_neg hlt]
                    have hlt' : ¬ ((k : Int) < (N.chs.length : Int)) := by omega
                    go_wp2_with fail
                    go_meet
                    exact ⟨_, rfl, fun h => absurd h (by omega), by rw [HU.out, ← HE0.out]; exact G7.out, HB7.out⟩
                case rest =>
                  obtain ⟨fk2, rfl, hfk2, hgc, hbc⟩ := hcut
                  have HVC := Lib.hid (HV6.out.below hbc)
                  have HBC := Lib.hid (HB6.out.trans (hbc.mono (Nat.le_of_lt hU6)))
                  have HF := Lib.hid hfk2
                  obtain ⟨A, cS, rfl⟩ := own_sliceN HVC.out.row
                  have hLn := ersUp_length N k
                  obtain ⟨L, eL⟩ : ∃ L, ersUp N k = L := ⟨_, rfl⟩
                  rw [eL] at HVC hLn
                  have hUc := HVC.out.lt
                  have hgl : w6.heap.size < wc.heap.size := (Array.getElem?_eq_some_iff.mp hgc).1
                  obtain ⟨y0, y1, y2, y3, y4, yf⟩ := cells5 hgc
                  obtain ⟨s0, s1, sf⟩ := HVC.out.cells
                  have sf1 := sf 1
                  obtain ⟨u, eu⟩ : ∃ u, segU N k = u := ⟨_, rfl⟩
                  rw [eu] at y4
                  have HML : L.length + 1 ≤ maxLen := by simp only [maxLen]; omega
                  have HMB : (L.length + 1) * 56 ≤ 140737488355328 := by omega
                  have HROWH := Lib.hid (World.ownsRow.alloc HVC.out.row (.cells #[.int .i64 E.off, .string E.rul, .int .i64 E.save, .string E.fmt, .int .i64 u] 61))
                  have HNEWH := Lib.hid (World.news_of_block (cs := #[.int .i64 E.off, .string E.rul, .int .i64 E.save, .string E.fmt, .int .i64 u]) (t := 61) (fr := (0, 0)) (heap_alloc_new wc (.cells #[.int .i64 E.off, .string E.rul, .int .i64 E.save, .string E.fmt, .int .i64 u] 61)))
                  have HSZ : U ≤ (wc.alloc (.cells #[.int .i64 E.off, .string E.rul, .int .i64 E.save, .string E.fmt, .int .i64 u] 61)).heap.size := by simp; omega
                  have HEV2 : Hid (ersUp N (k + 1) = L ++ [⟨E.off, E.rul, E.save, E.fmt, u⟩]) := by
                    show _ = _
                    rw [ersUp_snoc, HEV.out, eL, eu]
                  have hbc1 : ∀ v ∈ [Value.int .i64 E.off, .string E.rul, .int .i64 E.save, .string E.fmt, .int .i64 u], v.oneCell' = true := by
                    intro v hv
                    simp at hv
                    rcases hv with rfl | rfl | rfl | rfl | rfl <;> rfl
                  have HONE := Lib.hid hbc1
                  clear hfk2 hgc hbc eL yf sf eu hbc1 hLn
                  go_wp2_with (at_builtin; refine wpList_append_own _ rfl _ _ 49 rfl U 61 i1 (.agg #[.int .i64 0, .string ⟨#[]⟩, .int .i64 0, .string ⟨#[]⟩, .int .i64 0]) 5 56 undErB hi1 hz10 hz11 hz12 rfl (by decide) _ _ _ rfl HROWH.out ⟨wc.heap.size, 0, none⟩ 1 1 [.int .i64 E.off, .string E.rul, .int .i64 E.save, .string E.fmt, .int .i64 u] rfl rfl HNEWH.out HONE.out HML HMB HSZ ?_; intro v' w10 hown10 hgrow10 _; obtain ⟨A', c', rfl⟩ := own_sliceN hown10; have y6 := vz_old HVC.out hgrow10; have t2 := (cell_of_row w10 _ 1 _ _ _ y6).trans (show _ = some (Value.slice A L.length cS) from rfl); have tz : w10.frozen? ⟨U, 1, none⟩ = false := (by simp [World.frozen?, y6]))
                  have HR := Lib.hid (vz_snoc (x := ⟨E.off, E.rul, E.save, E.fmt, u⟩) HVC.out hown10 hgrow10 y6)
                  go_roundw
                  case rel =>
                    refine ⟨k + 1, _, fk2, by omega, by go_num, rfl, HF.out, fun j hj => ?_, by rw [HEV2.out]; exact HR.out.1, HBC.out.trans HR.out.2⟩
                    rcases Nat.lt_or_ge j k with h3 | h3
                    · exact HAL.out j h3
                    · have : j = k := by omega
                      subst this
                      rw [EX.out]; exact EO.out
                  case measure => simp [intOf]; omega
            · obtain rfl : k = N.chs.length + 1 := by omega
              have HBE : Hid (¬ ∃ i, i ≤ N.chs.length ∧ erOk (segT N i) = false) := by
                show ¬ _
                rintro ⟨i, hi, h⟩
                rw [HAL.out i (by omega)] at h
                cases h
              have HZ0 : Hid (backC t nm = 0) := by
                show _ = _
                exact HP.out 0 (by rw [if_neg H7.out, if_neg HAA.out, if_neg HBE.out])
              obtain ⟨A, cS, rfl⟩ := own_sliceN HVR.out.row
              have hLn := ersUp_length N (N.chs.length + 1)
              have hLm : (ersUp N (N.chs.length + 1)).length ≤ maxLen := by simp only [maxLen]; omega
              have HLM := Lib.hid hLm
              obtain ⟨L, eL⟩ : ∃ L, ersUp N (N.chs.length + 1) = L := ⟨_, rfl⟩
              rw [eL] at HVR HLM
              have EL := Lib.hid eL
              obtain ⟨s0, s1, -⟩ := HVR.out.cells
              have hRU : w.heap.size + 1 < U := by have := HMR.out.lt; have := EU.out; omega
              clear hLn hLm eL hfk x0 x1 x2 xf0 xf1 xf2 hlk
              obtain ⟨z0, z1, z2, zf0, zf1, zf2⟩ := HMK.out.zero
              have hr8 := HMK.out.lt
              go_wp2
              obtain ⟨W8, e8, hb8, v0, v1, v2, ho8⟩ := HMK.out.out (.slice none 0 0) (.slice (some ⟨wr.heap.size, 0, none⟩) 1 1) (.slice none 0 0)
              have hs8 : W8.heap.size = wr.heap.size := by rw [← e8]; simp
              rw [e8]
              obtain ⟨W9, e9⟩ : ∃ W9, W8.alloc (.cells #[.string nm, .slice A L.length cS] 51) = W9 := ⟨_, rfl⟩
              rw [e9]
              have hk9 : ∀ b, b < W8.heap.size → W9.heap[b]? = W8.heap[b]? := fun b hb => by rw [← e9]; exact Below.heap_alloc _ _ _ hb
              have hR8 : w.heap.size + 1 < W8.heap.size := by rw [hs8]; exact hr8
              have hc9 : ∀ o, W9.cell? ⟨w.heap.size + 1, o, none⟩ = W8.cell? ⟨w.heap.size + 1, o, none⟩ := fun o => World.cell?_of_block (a := ⟨w.heap.size + 1, o, none⟩) (hk9 _ hR8)
              have u0 := (hc9 0).trans v0
              have u1 := (hc9 1).trans v1
              have u2 := (hc9 2).trans v2
              have g9 : W9.heap[wr.heap.size]? = some (.cells #[.string nm, .slice A L.length cS] 51 (0, 0)) := by rw [← e9, ← hs8]; exact heap_alloc_new W8 _
              have hb9 : Below w.heap.size w W9 := by rw [← e9]; exact hb8.alloc (by rw [hs8]; omega) _
              have hown : W9.ownsRow U 61 5 (.slice A L.length cS) L.length (erCells L) := own_keep HVR.out.row fun g e => by
                have hg := World.ownsRow.lt HVR.out.row g e
                exact (hk9 g (by rw [hs8]; exact hg.2)).trans (ho8 g (by omega))
              have hbk : BkAt W9 wr.heap.size 1 A cS nm L := ⟨g9, own_ers hown HLM.out, own_cap hown, Nat.le_refl _⟩
              refine bodyPost_ret (v := .tuple #[bkV wr.heap.size 1, .int .i64 0]) (by simp [results, Tryd.results26, go_sem, u0, u1, u2]) rfl ((HPO.out _ _).2 ⟨hb9, Or.inr ⟨HZ0.out, wr.heap.size, 1, A, cS, rfl, by show BkAt _ _ _ _ _ _ (ersUp N (N.chs.length + 1)); rw [EL.out]; exact hbk⟩⟩)
  · have hc' : (C == 0) = false := by simpa using hc
    have hc'' : (C != 0) = true := by simpa using hc
    have HN := Lib.hid hc
    clear hc
    go_wp2
    obtain ⟨W9, e9, hb9, v0, v1, v2, -⟩ := HM1.out.out (.slice none 0 0) (.slice none 0 0) (.slice none 0 0)
    rw [e9]
    refine bodyPost_ret (v := .tuple #[bkNone, .int .i64 C]) (by simp [results, Tryd.results26, go_sem, v0, v1, v2]) rfl (bk_no ?_ HN.out hb9)
    unfold backC
    rw [if_pos (by rw [EC.out]; exact HN.out), EC.out]
end Go.Proofs.YtmpeplimiaaehaaDoor.BB
namespace Go.Proofs.YtmpeplimiaaehaaDoor
open Go.RowKit Go.Joins
set_option linter.unusedVariables false
set_option linter.unusedSimpArgs false

theorem box3 {w W0 : World} {a b c : Value} {T : TypeId} (h : w.alloc (.cells #[a, b, c] T) = W0) :
    Below w.heap.size w W0 ∧ W0.heap.size = w.heap.size + 1 ∧ W0.cell? ⟨w.heap.size, 0, none⟩ = some a ∧ W0.cell? ⟨w.heap.size, 1, none⟩ = some b ∧ W0.cell? ⟨w.heap.size, 2, none⟩ = some c := by
  subst h
  exact ⟨(Below.refl _ _).alloc (Nat.le_refl _) _, by simp, by simp [go_sem], by simp [go_sem], by simp [go_sem]⟩

def samT : Tab := ⟨[⟨0, false, ⟨#[65]⟩⟩, ⟨3600, false, ⟨#[66]⟩⟩], 0, [⟨10000, 1⟩, ⟨20000, 0⟩]⟩

theorem sam_tab {w W : World} (hs : W.heap.size = w.heap.size + 3) (h1 : W.heap[w.heap.size + 1]? = some (Obj.cells #[.int .i64 0, .bool false, .string ⟨#[65]⟩, .int .i64 3600, .bool false, .string ⟨#[66]⟩] 54 (0, 0)))
    (h2 : W.heap[w.heap.size + 1 + 1]? = some (Obj.cells #[.int .i64 10000, .int .i64 1, .int .i64 20000, .int .i64 0] 57 (0, 0))) :
    TabAt W (.agg #[.slice (some ⟨w.heap.size + 1, 0, none⟩) 2 2, .int .i64 0, .slice (some ⟨w.heap.size + 1 + 1, 0, none⟩) 2 2]) samT := by
  refine ⟨_, _, rfl, ⟨⟨_, 2, rfl, fun _ => ⟨_, _, rfl, by omega, fun i hi => ?_⟩⟩, by decide, by decide⟩, ⟨⟨_, 2, rfl, fun _ => ⟨_, _, rfl, by omega, fun i hi => ?_⟩⟩, by decide⟩⟩
  · have : i < 2 := hi
    rcases i with _ | _ | i
    · refine ⟨?_, ?_, ?_⟩ <;> simp [World.cell?, h1, samT]
    · refine ⟨?_, ?_, ?_⟩ <;> simp [World.cell?, h1, samT]
    · omega
  · have : i < 2 := hi
    rcases i with _ | _ | i
    · refine ⟨?_, ?_⟩ <;> simp [World.cell?, h2, samT]
    · refine ⟨?_, ?_⟩ <;> simp [World.cell?, h2, samT]
    · omega

set_option maxHeartbeats 4000000 in
theorem sample_any (w : World) :
    Calls Tryd.prog 27 #[] w fun e w' => ∃ v, e = .returned v ∧ TabAt w' v samT ∧ Below w.heap.size w w' := by
  go_enter Tryd.func27, Tryd.ntmps27
  go_wp2
  obtain ⟨w1, h1⟩ : ∃ w1, w.alloc (Obj.cells #[.slice (some ⟨w.heap.size + 1, 0, none⟩) 2 2, .int .i64 0, .slice (some ⟨w.heap.size + 1 + 1, 0, none⟩) 2 2] 48) = w1 := ⟨_, rfl⟩
  obtain ⟨b1, s1, q0, q1, q2⟩ := box3 h1
  rw [h1]
  obtain ⟨w2, h2⟩ : ∃ w2, w1.alloc (Obj.cells #[.int .i64 0, .bool false, .string ⟨#[65]⟩, .int .i64 3600, .bool false, .string ⟨#[66]⟩] 54) = w2 := ⟨_, rfl⟩
  have s2 : w2.heap.size = w.heap.size + 2 := by rw [← h2]; simp; omega
  have n2 := heap_alloc_new w1 (Obj.cells #[.int .i64 0, .bool false, .string ⟨#[65]⟩, .int .i64 3600, .bool false, .string ⟨#[66]⟩] 54)
  have b2 : Below w.heap.size w w2 := by rw [← h2]; exact b1.alloc (by omega) _
  have bb2 : Below w1.heap.size w1 w2 := by rw [← h2]; exact (Below.refl _ _).alloc (Nat.le_refl _) _
  rw [h2, s1] at n2
  rw [h2]
  obtain ⟨w3, h3⟩ : ∃ w3, w2.alloc (Obj.cells #[.int .i64 10000, .int .i64 1, .int .i64 20000, .int .i64 0] 57) = w3 := ⟨_, rfl⟩
  have s3 : w3.heap.size = w.heap.size + 3 := by rw [← h3]; simp; omega
  have n3 := heap_alloc_new w2 (Obj.cells #[.int .i64 10000, .int .i64 1, .int .i64 20000, .int .i64 0] 57)
  have b3 : Below w.heap.size w w3 := by rw [← h3]; exact b2.alloc (by omega) _
  have bb3 : Below w2.heap.size w2 w3 := by rw [← h3]; exact (Below.refl _ _).alloc (Nat.le_refl _) _
  rw [h3, s2] at n3
  rw [h3]
  have m2 := (bb3.block (w.heap.size + 1) (by omega)).trans n2
  have k0 := (bb3.cell (p := ⟨w.heap.size, 0, none⟩) (by show w.heap.size < _; omega)).trans ((bb2.cell (p := ⟨w.heap.size, 0, none⟩) (by show w.heap.size < _; omega)).trans q0)
  have k1 := (bb3.cell (p := ⟨w.heap.size, 1, none⟩) (by show w.heap.size < _; omega)).trans ((bb2.cell (p := ⟨w.heap.size, 1, none⟩) (by show w.heap.size < _; omega)).trans q1)
  have k2 := (bb3.cell (p := ⟨w.heap.size, 2, none⟩) (by show w.heap.size < _; omega)).trans ((bb2.cell (p := ⟨w.heap.size, 2, none⟩) (by show w.heap.size < _; omega)).trans q2)
  refine bodyPost_ret (v := .agg #[.slice (some ⟨w.heap.size + 1, 0, none⟩) 2 2, .int .i64 0, .slice (some ⟨w.heap.size + 1 + 1, 0, none⟩) 2 2]) (by simp [results, Tryd.results27, go_sem, k0, k1, k2]) rfl ?_
  exact ⟨_, rfl, sam_tab s3 m2 n3, b3⟩

theorem sam_chkZ : chk samT = 0 := by decide
end Go.Proofs.YtmpeplimiaaehaaDoor
namespace Go.Proofs.YtmpeplimiaaehaaDoor.BB
open Go.RowKit Go.Joins
open Classical
set_option linter.unusedVariables false
set_option linter.unusedSimpArgs false

theorem sam_norm : normT samT = samT := by
  have h1 : (⟨3600, false, ⟨#[66]⟩⟩ : Ty) ≠ ⟨0, false, ⟨#[65]⟩⟩ := by
    intro h
    injection h with h _ _
    exact absurd h (by decide)
  have h2 : (⟨0, false, ⟨#[65]⟩⟩ : Ty) ≠ ⟨3600, false, ⟨#[66]⟩⟩ := fun h => h1 h.symm
  unfold normT normR makeN
  have e1 : resH samT = ⟨0, false, ⟨#[65]⟩⟩ := rfl
  have e2 : resL samT = [(10000, ⟨3600, false, ⟨#[66]⟩⟩), (20000, ⟨0, false, ⟨#[65]⟩⟩)] := rfl
  rw [e1, e2]
  simp only [List.foldl_cons, List.foldl_nil]
  have s1 : stepN (begN ⟨0, false, ⟨#[65]⟩⟩) (10000, ⟨3600, false, ⟨#[66]⟩⟩) = ⟨[⟨0, false, ⟨#[65]⟩⟩, ⟨3600, false, ⟨#[66]⟩⟩], [⟨10000, 1⟩], ⟨3600, false, ⟨#[66]⟩⟩⟩ := by
    simp [stepN, begN, addTy, idxTy, h1, h2, List.findIdx_cons]
  rw [s1]
  have s2 : stepN ⟨[⟨0, false, ⟨#[65]⟩⟩, ⟨3600, false, ⟨#[66]⟩⟩], [⟨10000, 1⟩], ⟨3600, false, ⟨#[66]⟩⟩⟩ (20000, ⟨0, false, ⟨#[65]⟩⟩) = ⟨[⟨0, false, ⟨#[65]⟩⟩, ⟨3600, false, ⟨#[66]⟩⟩], [⟨10000, 1⟩, ⟨20000, 0⟩], ⟨0, false, ⟨#[65]⟩⟩⟩ := by
    simp [stepN, addTy, idxTy, h1, h2, List.findIdx_cons]
  rw [s2]
  rfl
theorem sam_back : backC samT ⟨#[65]⟩ = 0 := by
  have hn : nameB ⟨#[65]⟩ = true := by
    have h1 : allB ⟨#[65]⟩ 20 ⟨#[95, 47, 45]⟩ = true := by decide
    unfold nameB
    rw [h1, Bool.true_and]
    exact decide_eq_true ⟨65, rfl, by decide⟩
  unfold backC
  rw [if_neg (by rw [sam_chkZ]; simp), if_neg (by rw [hn]; simp), sam_norm, if_neg (by decide), if_neg, if_neg]
  · rintro ⟨i, hi, h⟩
    have : i = 0 ∨ i = 1 ∨ i = 2 := by have : i ≤ 2 := hi; omega
    rcases this with rfl | rfl | rfl <;> exact absurd h (by decide)
  · rintro ⟨c, hc, h⟩
    have : c = ⟨10000, 1⟩ ∨ c = ⟨20000, 0⟩ := by simpa [samT] using hc
    rcases this with rfl | rfl <;> exact absurd h (by decide)

set_option maxRecDepth 100000 in
set_option maxHeartbeats 4000000 in
theorem backed_any (w : World) (ht : Tab10 w) : Calls Tryd.prog 11 #[] w fun e w' => e = .returned (.bool true) ∧ Below w.heap.size w w' := by
  have HT := Lib.hid ht
  have HK := Lib.hid (fun W v (hb : TabAt W v samT) (h : Tab10 W) => Book_any samT v ⟨#[65]⟩ W hb (by decide) h)
  have hu : Hid (tAt samT.chs 0 = 10000) := by show _ = _; rfl
  clear ht
  go_enter Tryd.func11, Tryd.ntmps11
  go_wp2_with fail
  refine (sample_any _).mono ?_
  rintro e w1 ⟨v, rfl, hv, hb1⟩
  have HB1 := Lib.hid hb1
  have HV := Lib.hid hv
  clear hb1 hv
  go_wp2_with fail
  refine (HK.out _ _ HV.out (HT.out.below HB1.out)).mono ?_
  rintro e w2 ⟨hb2, ⟨h, -⟩ | ⟨-, Z, cz, p, ce, rfl, hbk⟩⟩
  · exact absurd sam_back h
  rw [sam_norm] at hbk
  have HB2 := Lib.hid (HB1.out.trans (hb2.mono HB1.out.size))
  obtain ⟨s0, s1, hZ⟩ := hbk.cells
  obtain ⟨p', cap', he, hc⟩ := hbk.ers.shape
  injection he with he1 _ he2
  subst he1 he2
  obtain ⟨b, o, rfl, hbl, hat⟩ := hc (by decide)
  have h0 := hat 0 (by decide)
  have hu0 : (ersOf samT)[0].til = 10000 := rfl
  obtain ⟨-, -, -, -, e4⟩ := h0
  rw [hu0, show o + 0 * 5 + 4 = o + 4 by omega] at e4
  have hl3 : (ersOf samT).length = 3 := rfl
  rw [hl3] at s1
  clear hb2 hbk hc hat hl3 hu0
  go_wp2
  go_ret
  exact ⟨rfl, HB2.out.alloc HB2.out.size _⟩

theorem backC_zero {t : Tab} {nm : ByteArray} (h : backC t nm = 0) : chk t = 0 := by
  unfold backC at h
  by_cases hc : chk t = 0
  · exact hc
  · rw [if_pos hc] at h
    exact absurd h hc
theorem Norm_exists (t : Tab) (v : Value) (w : World) (hv : TabAt w v t) :
    Calls Tryd.prog 18 #[v] w fun e w' => ∃ E q1 n1 d1 f q2 n2 d2, e = .returned (.tuple #[.agg #[.slice q1 n1 d1, .int .i64 f, .slice q2 n2 d2], .int .i64 E]) ∧ Below w.heap.size w w' := by
  by_cases h : chk t = 0
  · refine (Norm_ok t v w hv h).mono ?_
    rintro e w' ⟨v', rfl, h1, h2⟩
    obtain ⟨p1, c1, p2, c2, rfl⟩ := tabForms h1
    exact ⟨_, _, _, _, _, _, _, _, rfl, h2⟩
  · refine (Norm_no t v w hv h).mono ?_
    rintro e w' ⟨rfl, h2⟩
    exact ⟨_, _, _, _, _, _, _, _, rfl, h2⟩

/-- the law's walk, behind its book and its normal table -/
theorem er_same (x : Ty) : erOff x + erSave x = x.off := by
  unfold erOff erSave
  split <;> omega
theorem er_save (x : Ty) : decide (0 < erSave x) = x.save := by
  unfold erSave
  cases x.save <;> simp

end Go.Proofs.YtmpeplimiaaehaaDoor.BB
namespace Go.Proofs.YtmpeplimiaaehaaDoor
open Go.RowKit
set_option linter.unusedVariables false
set_option linter.unusedSimpArgs false

theorem rest0_neg (n m : Int) (h0 : 0 < m) (h1 : m ≤ 4611686018427387904) (h : n.tmod m < 0) : wrap64 (n.tmod m + m) = n % m := by
  have q := Int.tmod_eq_emod (a := n) (b := m)
  have := Int.emod_nonneg n (show m ≠ 0 by omega)
  have := Int.emod_lt_of_pos n h0
  have e : n.tmod m + m = n % m := by
    split at q
    · omega
    · have : (m.natAbs : Int) = m := by omega
      omega
  rw [e]
  exact IntWalk.wrap64_in _ ⟨by omega, by omega⟩

theorem rest0_pos (n m : Int) (h0 : 0 < m) (h : 0 ≤ n.tmod m) : n.tmod m = n % m := by
  have q := Int.tmod_eq_emod (a := n) (b := m)
  have := Int.emod_lt_of_pos n h0
  split at q
  · omega
  · have : (m.natAbs : Int) = m := by omega
    omega
theorem ret_int0 {k : IntKind} {a b : Int} (h : a = b) : Ending.returned (.int k a) = .returned (.int k b) := by rw [h]
theorem Rest0_any (n m : Int) (w : World) (h0 : 0 < m) (h1 : m ≤ 1099511627776) :
    Calls Tryd.prog 8 #[.int .i64 n, .int .i64 m] w fun e w' => e = .returned (.int .i64 (n % m)) ∧ w = w' := by
  have hh : m ≤ 4611686018427387904 := by omega
  go_enter Tryd.func8, Tryd.ntmps8
  go_wp2
  · go_ret
    exact ⟨ret_int0 (rest0_neg n m h0 hh (by assumption)), rfl⟩
  · go_ret
    exact ⟨ret_int0 (rest0_pos n m h0 (by assumption)), rfl⟩
end Go.Proofs.YtmpeplimiaaehaaDoor
