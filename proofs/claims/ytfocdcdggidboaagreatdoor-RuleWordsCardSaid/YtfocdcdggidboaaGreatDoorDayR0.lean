/- day.Read: what it returns. -/
import Derived.Test.YtfocdcdggidboaaGreatDoorDayT
import Derived.Test.YtfocdcdggidboaaGreatDoorAtoi
import Derived.Test.YtfocdcdggidboaaGreatDoorSpanR
import Derived.Maps.Own
import Derived.Maps.OwnOps
import Derived.Maps.OwnSet
import Derived.Maps.RangeWalk
import Derived.Maps.StringElems
namespace Go.Proofs.YtfocdcdggidboaaGreatDoor
open Go.RowKit Go.Joins Go.Maps
set_option linter.unusedVariables false
set_option linter.unusedSimpArgs false

theorem keyI : Keyed Tryz.prog 3 := int_keyed Tryz.underlying3

/-- where the map's rounds begin -/
def dayS0 (l : List UInt8) : Int × Int × List UInt8 := if Lib.hasPrefix l [108, 97, 115, 116] = true then (2, wdayV (Lib.trimPrefix l [108, 97, 115, 116]), [48]) else (1, 0, l)
def dayHit (l : List UInt8) (k : Int) (sg : List UInt8) (st : Int × Int × List UInt8) : Int × Int × List UInt8 :=
  if (Lib.cut l sg).2.2 = true then (k, wdayV (Lib.cut l sg).1, (Lib.cut l sg).2.1) else st
def DayRes (l : List UInt8) (st : Int × Int × List UInt8) (R : Int × Int × Int × Int) : Prop :=
  (dayB st.1 st.2.1 (atoiV st.2.2) = true ∧ dayT st.1 st.2.1 (atoiV st.2.2) = l ∧ R = (st.1, st.2.1, atoiV st.2.2, 0)) ∨
  (dayB st.1 st.2.1 (atoiV st.2.2) = true ∧ dayT st.1 st.2.1 (atoiV st.2.2) ≠ l ∧ R = (0, 0, 0, 3)) ∨
  (dayB st.1 st.2.1 (atoiV st.2.2) = false ∧ R = (0, 0, 0, 3))


noncomputable def signsD : DataW Unit := ((DataW.map []).put (.int .i64 3) (.lit (.string [62, 61]))).put (.int .i64 4) (.lit (.string [60, 61]))
theorem signs_made (W : World) (B : Nat) (hB : W.heap.size = B) :
    ∃ W1 W2 : World, (Instr.mapUpdate 61 (.map (some B)) (.int .i64 3) (.string ⟨#[62, 61]⟩)).run Tryz.prog (W.alloc (.map #[] 0)) = .ok () W1 ∧
      (Instr.mapUpdate 61 (.map (some B)) (.int .i64 4) (.string ⟨#[60, 61]⟩)).run Tryz.prog W1 = .ok () W2 ∧
      W2.ownsMap Tryz.prog 3 (plainElem Tryz.prog 9) B 2 signsD ∧ W.grownBy W2 none := by
  subst hB
  obtain ⟨W1, r1, o1, g1⟩ := (World.ownsMap_made (H := Unit) W Tryz.prog 3 (plainElem Tryz.prog 9)).update keyI Tryz.underlying61 (by unfold maxLen; omega) (key := .int .i64 3) (val := .string ⟨#[62, 61]⟩) (keyOf_int_mk Tryz.underlying3 (by decide)) (plainElem_string Tryz.underlying9 (by decide))
  obtain ⟨W2, r2, o2, g2⟩ := o1.update keyI Tryz.underlying61 (by unfold maxLen; omega) (key := .int .i64 4) (val := .string ⟨#[60, 61]⟩) (keyOf_int_mk Tryz.underlying3 (by decide)) (plainElem_string Tryz.underlying9 (by decide))
  refine ⟨W1, W2, r1, r2, o2, ?_⟩
  exact ((World.grownBy_alloc W (.map #[] 0) none).andThen g1 (fun j hj => by cases hj; exact Or.inl (Nat.le_refl _))).andThen g2 (fun j hj => by cases hj; exact Or.inl (Nat.le_refl _))
theorem sign3 {c : ByteArray} (h : ∀ zd, signsD.atKey (.int .i64 3) zd = .lit (.string c.data.toList)) : c = ⟨#[62, 61]⟩ := by
  have h1 : signsD.atKey (.int .i64 3) .nil = .lit (.string [62, 61]) := by rfl
  have h2 := (h .nil).symm.trans h1
  injection h2 with h2
  injection h2 with h2
  exact txt_inj (a := c.data.toList) (b := [62, 61]) (by rw [h2]) ▸ rfl
theorem sign4 {c : ByteArray} (h : ∀ zd, signsD.atKey (.int .i64 4) zd = .lit (.string c.data.toList)) : c = ⟨#[60, 61]⟩ := by
  have h1 : signsD.atKey (.int .i64 4) .nil = .lit (.string [60, 61]) := by rfl
  have h2 := (h .nil).symm.trans h1
  injection h2 with h2
  injection h2 with h2
  exact txt_inj (a := c.data.toList) (b := [60, 61]) (by rw [h2]) ▸ rfl
theorem signs_has (kl : Lit) (h : Maps.has signsD kl = true) : kl = .int .i64 3 ∨ kl = .int .i64 4 := by
  have e : signsD = .map [(.int .i64 3, .lit (.string [62, 61])), (.int .i64 4, .lit (.string [60, 61]))] := by rfl
  rw [e] at h
  simp only [Maps.has, List.any_cons, List.any_nil, Bool.or_false, Bool.or_eq_true] at h
  rcases h with h | h
  · left; cases kl <;> simp_all [Lit.sameKey]
  · right; cases kl <;> simp_all [Lit.sameKey]
theorem signs_has3 : Maps.has signsD (.int .i64 3) = true := by rfl
theorem signs_has4 : Maps.has signsD (.int .i64 4) = true := by rfl
end Go.Proofs.YtfocdcdggidboaaGreatDoor
