/- norm.Norm, norm.check, norm.Same, TableEq: what each returns. -/
import Derived.Test.YtmjakhageehcoaaDoorMk3
namespace Go.Proofs.YtmjakhageehcoaaDoor
open Go.RowKit Go.Joins
open Classical
set_option linter.unusedVariables false
set_option linter.unusedSimpArgs false

def zeroTb : Tab := ⟨[], 0, []⟩
theorem zero_atN (w : World) : TabAt w (.agg #[.slice none 0 0, .int .i64 0, .slice none 0 0]) zeroTb := ⟨_, _, rfl, ⟨⟨none, 0, rfl, fun h => absurd rfl h⟩, by decide, by intro x hx; cases hx⟩, ⟨⟨none, 0, rfl, fun h => absurd rfl h⟩, by decide⟩⟩
noncomputable def normE (t : Tab) : Tab := if chk t = 0 then normT t else zeroTb
theorem tabForms {w : World} {v : Value} {t : Tab} (h : TabAt w v t) : ∃ p1 c1 p2 c2, v = .agg #[.slice p1 t.types.length c1, .int .i64 t.first, .slice p2 t.chs.length c2] := by
  obtain ⟨sv, cv, rfl, h1, h2⟩ := h.val
  obtain ⟨p1, c1, rfl, -⟩ := h1.shape
  obtain ⟨p2, c2, rfl, -⟩ := h2.shape
  exact ⟨_, _, _, _, rfl⟩
theorem tabOf_slices {w : World} {p1 p2 : Option Addr} {n1 c1 n2 c2 : Nat} {f : Int} {t : Tab} (h : TabAt w (.agg #[.slice p1 n1 c1, .int .i64 f, .slice p2 n2 c2]) t) : SlTy w (.slice p1 n1 c1) t.types ∧ SlCh w (.slice p2 n2 c2) t.chs ∧ f = t.first := by
  obtain ⟨sv, cv, e, h1, h2⟩ := h.val
  simp only [Value.agg.injEq, Array.mk.injEq, List.cons.injEq, Value.int.injEq, and_true, true_and] at e
  obtain ⟨rfl, rfl, rfl⟩ := e
  exact ⟨h1, h2, rfl⟩

/-- a law's boxed table -/
theorem box_facts (w : World) (a b c : Value) (T : TypeId) : (w.alloc (.cells #[a, b, c] T)).cell? ⟨w.heap.size, 0, none⟩ = some a ∧ (w.alloc (.cells #[a, b, c] T)).cell? ⟨w.heap.size, 1, none⟩ = some b ∧ (w.alloc (.cells #[a, b, c] T)).cell? ⟨w.heap.size, 2, none⟩ = some c :=
  ⟨(cell_of_row _ _ 0 _ _ _ (heap_alloc_new w _)).trans rfl, (cell_of_row _ _ 1 _ _ _ (heap_alloc_new w _)).trans rfl, (cell_of_row _ _ 2 _ _ _ (heap_alloc_new w _)).trans rfl⟩
theorem bcellN {W w1 : World} (hb : Below W.heap.size W w1) : (∀ b o, b < W.heap.size → w1.cell? ⟨b, o, none⟩ = W.cell? ⟨b, o, none⟩) ∧ (∀ b o, b < W.heap.size → w1.frozen? ⟨b, o, none⟩ = W.frozen? ⟨b, o, none⟩) :=
  ⟨fun b o h => hb.cell (p := ⟨b, o, none⟩) h, fun b o h => hb.frozen (p := ⟨b, o, none⟩) h⟩

/-- a store into the result's own cells turns nothing of another table -/
theorem tab_far {w W : World} {v : Value} {t : Tab} {X : Nat} {f : Int} {T : TypeId} {p q : Option Addr} {n1 n2 k1 k2 : Nat} (h : TabAt w v t) (hX : w.heap[X]? = some (.cells #[.slice p n1 k1, .int .i64 f, .slice q n2 k2] T (0, 0))) (hk : ∀ b, b ≠ X → W.heap[b]? = w.heap[b]?) (hsz : w.heap.size ≤ W.heap.size) : TabAt W v t := by
  have hno : ∀ o b, w.cell? ⟨X, o, none⟩ = some (.bool b) → False := fun o b hc => by
    rw [cell_of_row w _ o _ _ _ hX] at hc
    match o with
    | 0 => cases hc
    | 1 => cases hc
    | 2 => cases hc
    | o + 3 => simp at hc
  have hni : ∀ o a b, w.cell? ⟨X, o, none⟩ = some (.int .i64 a) → w.cell? ⟨X, o + 1, none⟩ = some (.int .i64 b) → False := fun o a b hc hc2 => by
    rw [cell_of_row w _ _ _ _ _ hX] at hc hc2
    match o with
    | 0 => cases hc
    | 1 => cases hc2
    | 2 => cases hc
    | o + 3 => simp at hc
  obtain ⟨sv, cv, hv, ⟨⟨p1, c1, e1, g1⟩, l1, m1⟩, ⟨⟨p2, c2, e2, g2⟩, l2⟩⟩ := h.val
  refine ⟨sv, cv, hv, ⟨⟨p1, c1, e1, fun hne => ?_⟩, l1, m1⟩, ⟨⟨p2, c2, e2, fun hne => ?_⟩, l2⟩⟩
  · obtain ⟨b, o, e, hb, hat⟩ := g1 hne
    have hbX : b ≠ X := fun e2 => by
      subst e2
      have := (hat 0 (List.length_pos_iff.2 hne)).2.1
      exact hno _ _ this
    refine ⟨b, o, e, Nat.lt_of_lt_of_le hb hsz, fun i hi => ?_⟩
    have hc : ∀ j, W.cell? ⟨b, j, none⟩ = w.cell? ⟨b, j, none⟩ := fun j => World.cell?_of_block (a := ⟨b, j, none⟩) (hk b hbX)
    obtain ⟨a1, a2, a3⟩ := hat i hi
    exact ⟨(hc _).trans a1, (hc _).trans a2, (hc _).trans a3⟩
  · obtain ⟨b, o, e, hb, hat⟩ := g2 hne
    have hbX : b ≠ X := fun e2 => by
      subst e2
      have := hat 0 (List.length_pos_iff.2 hne)
      exact hni _ _ _ this.1 this.2
    refine ⟨b, o, e, Nat.lt_of_lt_of_le hb hsz, fun i hi => ?_⟩
    have hc : ∀ j, W.cell? ⟨b, j, none⟩ = w.cell? ⟨b, j, none⟩ := fun j => World.cell?_of_block (a := ⟨b, j, none⟩) (hk b hbX)
    obtain ⟨a1, a2⟩ := hat i hi
    exact ⟨(hc _).trans a1, (hc _).trans a2⟩

set_option maxHeartbeats 1000000 in
theorem Norm_ok (t : Tab) (v : Value) (w : World) (hv : TabAt w v t) (hok : chk t = 0) :
    Calls Tryd.prog 12 #[v] w fun e w' => ∃ v', e = .returned (.tuple #[v', .int .i64 0]) ∧ TabAt w' v' (normT t) ∧ Below w.heap.size w w' := by
  have HV := Lib.hid hv
  have ok := Lib.hid (chk_ok t hok)
  obtain ⟨p1, c1, p2, c2, rfl⟩ := tabForms hv
  have HK := Lib.hid (fun W h => Check_any t (.agg #[.slice p1 t.types.length c1, .int .i64 t.first, .slice p2 t.chs.length c2]) W h)
  rw [hok] at HK
  clear hv hok
  go_enter Tryd.func12, Tryd.ntmps12
  go_wp2_with fail
  obtain ⟨W0, eW⟩ : ∃ W0, (w.alloc (.cells #[.slice p1 t.types.length c1, .int .i64 t.first, .slice p2 t.chs.length c2] 25)).alloc (.cells #[.slice none 0 0, .int .i64 0, .slice none 0 0] 25) = W0 := ⟨_, rfl⟩
  rw [eW]
  have hW0 : W0.heap.size = w.heap.size + 2 := by rw [← eW]; simp
  have hbW : Below w.heap.size w W0 := by rw [← eW]; exact ((Below.refl _ _).alloc (Nat.le_refl _) _).alloc (by simp) _
  have hX : W0.heap[w.heap.size]? = some (.cells #[.slice p1 t.types.length c1, .int .i64 t.first, .slice p2 t.chs.length c2] 25 (0, 0)) := by
    rw [← eW, Below.heap_alloc _ _ _ (by simp)]; exact heap_alloc_new w _
  have hR : W0.heap[w.heap.size + 1]? = some (.cells #[.slice none 0 0, .int .i64 0, .slice none 0 0] 25 (0, 0)) := by
    rw [← eW]
    have := heap_alloc_new (w.alloc (.cells #[.slice p1 t.types.length c1, .int .i64 t.first, .slice p2 t.chs.length c2] 25)) (.cells #[.slice none 0 0, .int .i64 0, .slice none 0 0] 25)
    simpa using this
  clear eW
  refine (HK.out _ (HV.out.below hbW)).mono ?_
  rintro e w1 ⟨rfl, hb1⟩
  have hX1 := (hb1.block w.heap.size (by omega)).trans hX
  have hR1 := (hb1.block (w.heap.size + 1) (by omega)).trans hR
  have b1 := hbW.trans (hb1.mono (by omega))
  have hz1 : w.heap.size + 1 < w1.heap.size := (Array.getElem?_eq_some_iff.mp hR1).1
  have x0 : w1.cell? ⟨w.heap.size, 0, none⟩ = some (.slice p1 t.types.length c1) := (cell_of_row w1 _ 0 _ _ _ hX1).trans rfl
  have x1 : w1.cell? ⟨w.heap.size, 1, none⟩ = some (.int .i64 t.first) := (cell_of_row w1 _ 1 _ _ _ hX1).trans rfl
  have x2 : w1.cell? ⟨w.heap.size, 2, none⟩ = some (.slice p2 t.chs.length c2) := (cell_of_row w1 _ 2 _ _ _ hX1).trans rfl
  clear hb1 hX hR hbW
  go_wp2_with fail
  refine (NOf_any t _ w1 (HV.out.below b1) ok.out).mono ?_
  rintro e w2 ⟨v', rfl, hv', hb2⟩
  obtain ⟨q1, d1, q2, d2, rfl⟩ := tabForms hv'
  have hR2 := (hb2.block (w.heap.size + 1) hz1).trans hR1
  have b2 := b1.trans (hb2.mono b1.size)
  have g0 : w2.cell? ⟨w.heap.size + 1, 0, none⟩ = some (.slice none 0 0) := (cell_of_row w2 _ 0 _ _ _ hR2).trans rfl
  have g1 : w2.cell? ⟨w.heap.size + 1, 1, none⟩ = some (.int .i64 0) := (cell_of_row w2 _ 1 _ _ _ hR2).trans rfl
  have g2 : w2.cell? ⟨w.heap.size + 1, 2, none⟩ = some (.slice none 0 0) := (cell_of_row w2 _ 2 _ _ _ hR2).trans rfl
  have z0 : w2.frozen? ⟨w.heap.size + 1, 0, none⟩ = false := by simp [World.frozen?, hR2]
  have z1 : w2.frozen? ⟨w.heap.size + 1, 1, none⟩ = false := by simp [World.frozen?, hR2]
  have z2 : w2.frozen? ⟨w.heap.size + 1, 2, none⟩ = false := by simp [World.frozen?, hR2]
  clear hb2 hX1 hR1 x0 x1 x2
  go_wp2
  obtain ⟨W9, e9, hB9, hh9, ho9⟩ := end_cellsM hR2 (.slice q1 (normT t).types.length d1) (.int .i64 (normT t).first) (.slice q2 (normT t).chs.length d2)
  rw [e9]
  have v0 : W9.cell? ⟨w.heap.size + 1, 0, none⟩ = some (.slice q1 (normT t).types.length d1) := (cell_of_row W9 _ 0 _ _ _ hh9).trans rfl
  have v1 : W9.cell? ⟨w.heap.size + 1, 1, none⟩ = some (.int .i64 (normT t).first) := (cell_of_row W9 _ 1 _ _ _ hh9).trans rfl
  have v2 : W9.cell? ⟨w.heap.size + 1, 2, none⟩ = some (.slice q2 (normT t).chs.length d2) := (cell_of_row W9 _ 2 _ _ _ hh9).trans rfl
  refine bodyPost_ret (v := .tuple #[.agg #[.slice q1 (normT t).types.length d1, .int .i64 (normT t).first, .slice q2 (normT t).chs.length d2], .int .i64 0]) (by simp [results, Tryd.results12, go_sem, v0, v1, v2]) rfl ⟨_, rfl, tab_far hv' hR2 ho9 (hB9 0 (Nat.zero_le _)).size, b2.trans (hB9 _ (by omega))⟩

set_option maxHeartbeats 1000000 in
theorem Norm_no (t : Tab) (v : Value) (w : World) (hv : TabAt w v t) (hok : chk t ≠ 0) :
    Calls Tryd.prog 12 #[v] w fun e w' => e = .returned (.tuple #[.agg #[.slice none 0 0, .int .i64 0, .slice none 0 0], .int .i64 (chk t)]) ∧ Below w.heap.size w w' := by
  have HV := Lib.hid hv
  obtain ⟨p1, c1, p2, c2, rfl⟩ := tabForms hv
  have HK := Lib.hid (fun W h => Check_any t (.agg #[.slice p1 t.types.length c1, .int .i64 t.first, .slice p2 t.chs.length c2]) W h)
  obtain ⟨K, eK⟩ : ∃ K, chk t = K := ⟨_, rfl⟩
  rw [eK] at HK hok ⊢
  have hne : (K == 0) = false := by simpa using hok
  clear hv hok eK
  go_enter Tryd.func12, Tryd.ntmps12
  go_wp2_with fail
  obtain ⟨W0, eW⟩ : ∃ W0, (w.alloc (.cells #[.slice p1 t.types.length c1, .int .i64 t.first, .slice p2 t.chs.length c2] 25)).alloc (.cells #[.slice none 0 0, .int .i64 0, .slice none 0 0] 25) = W0 := ⟨_, rfl⟩
  rw [eW]
  have hW0 : W0.heap.size = w.heap.size + 2 := by rw [← eW]; simp
  have hbW : Below w.heap.size w W0 := by rw [← eW]; exact ((Below.refl _ _).alloc (Nat.le_refl _) _).alloc (by simp) _
  have hR : W0.heap[w.heap.size + 1]? = some (.cells #[.slice none 0 0, .int .i64 0, .slice none 0 0] 25 (0, 0)) := by
    rw [← eW]
    have := heap_alloc_new (w.alloc (.cells #[.slice p1 t.types.length c1, .int .i64 t.first, .slice p2 t.chs.length c2] 25)) (.cells #[.slice none 0 0, .int .i64 0, .slice none 0 0] 25)
    simpa using this
  clear eW
  refine (HK.out _ (HV.out.below hbW)).mono ?_
  rintro e w2 ⟨rfl, hb1⟩
  have hR2 := (hb1.block (w.heap.size + 1) (by omega)).trans hR
  have b2 := hbW.trans (hb1.mono (by omega))
  have g0 : w2.cell? ⟨w.heap.size + 1, 0, none⟩ = some (.slice none 0 0) := (cell_of_row w2 _ 0 _ _ _ hR2).trans rfl
  have g1 : w2.cell? ⟨w.heap.size + 1, 1, none⟩ = some (.int .i64 0) := (cell_of_row w2 _ 1 _ _ _ hR2).trans rfl
  have g2 : w2.cell? ⟨w.heap.size + 1, 2, none⟩ = some (.slice none 0 0) := (cell_of_row w2 _ 2 _ _ _ hR2).trans rfl
  have z0 : w2.frozen? ⟨w.heap.size + 1, 0, none⟩ = false := by simp [World.frozen?, hR2]
  have z1 : w2.frozen? ⟨w.heap.size + 1, 1, none⟩ = false := by simp [World.frozen?, hR2]
  have z2 : w2.frozen? ⟨w.heap.size + 1, 2, none⟩ = false := by simp [World.frozen?, hR2]
  clear hb1 hR hbW
  go_wp2
  obtain ⟨W9, e9, hB9, hh9, ho9⟩ := end_cellsM hR2 (.slice none 0 0) (.int .i64 0) (.slice none 0 0)
  rw [e9]
  have v0 : W9.cell? ⟨w.heap.size + 1, 0, none⟩ = some (.slice none 0 0) := (cell_of_row W9 _ 0 _ _ _ hh9).trans rfl
  have v1 : W9.cell? ⟨w.heap.size + 1, 1, none⟩ = some (.int .i64 0) := (cell_of_row W9 _ 1 _ _ _ hh9).trans rfl
  have v2 : W9.cell? ⟨w.heap.size + 1, 2, none⟩ = some (.slice none 0 0) := (cell_of_row W9 _ 2 _ _ _ hh9).trans rfl
  refine bodyPost_ret (v := .tuple #[.agg #[.slice none 0 0, .int .i64 0, .slice none 0 0], .int .i64 K]) (by simp [results, Tryd.results12, go_sem, v0, v1, v2]) rfl ⟨rfl, b2.trans (hB9 _ (by omega))⟩

end Go.Proofs.YtmjakhageehcoaaDoor
