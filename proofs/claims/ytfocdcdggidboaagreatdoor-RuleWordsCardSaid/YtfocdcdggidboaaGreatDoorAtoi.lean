/- strconv.Atoi at every text: the number; nil just where it is one. -/
import Derived.Test.YtfocdcdggidboaaGreatDoorFldMath
import Derived.Test.YtfocdcdggidboaaGreatDoorClk0
import Derived.Shelf.Strconv.AtoiAll
import Derived.Shelf.Strconv.ErrVarAll
namespace Go.Proofs.YtfocdcdggidboaaGreatDoor
open Go.RowKit Go.Joins
set_option linter.unusedVariables false

/-- a variable of an interface type holds something -/
def IfaceV (w : World) (g : Nat) : Prop := ∃ ev, w.cell? ⟨g, 0, none⟩ = some ev ∧ (ev = .nilIface ∨ ∃ te pe, ev = .iface te pe)
theorem IfaceV.below {w w' : World} {g : Nat} (h : IfaceV w g) (hb : Below w.heap.size w w') : IfaceV w' g := by
  obtain ⟨ev, h1, h2⟩ := h
  exact ⟨ev, (hb.cell (show (⟨g, 0, none⟩ : Addr).block < w.heap.size from Lib.lt_of_cell h1)).trans h1, h2⟩
/-- strconv's two errors lie there -/
def NumErrs (w : World) : Prop := IfaceV w 2 ∧ IfaceV w 3
theorem NumErrs.below {w w' : World} (h : NumErrs w) (hb : Below w.heap.size w w') : NumErrs w' := ⟨h.1.below hb, h.2.below hb⟩

section
variable {P : Program} {ρ : Go.Shelf.Ren}
theorem atoi_bad1 (L : LaysC.n172 P ρ) (s : ByteArray) (hlim : s.size ≤ 281474976710656) (ev : Value) (w : World) (hv : w.cell? ⟨(ρ.g 15), 0, none⟩ = some ev) (hev : ev = .nilIface ∨ ∃ te pe, ev = .iface te pe)
    (h1 : ∀ v, Lib.atoiAll s.data.toList ≠ .ok v) (h2 : Lib.atoiAll s.data.toList ≠ .range) :
    Calls P (ρ.f 172) #[.string s] w fun e w' => ∃ t p, e = .returned (.tuple #[.int .i64 0, .iface t p]) ∧ Below w.heap.size w w' := by
  rcases h : Lib.atoiAll s.data.toList with v | _ | _
  · exact absurd h (h1 v)
  · exact (Any.strconv_Atoi_syntax L s hlim h ev w hv hev).mono fun e w' ⟨N, he, _, _, hb⟩ => ⟨_, _, he, hb⟩
  · exact absurd h h2
theorem atoi_bad2 (L : LaysC.n172 P ρ) (s : ByteArray) (hlim : s.size ≤ 281474976710656) (ev : Value) (w : World) (hv : w.cell? ⟨(ρ.g 16), 0, none⟩ = some ev) (hev : ev = .nilIface ∨ ∃ te pe, ev = .iface te pe)
    (h : Lib.atoiAll s.data.toList = .range) :
    Calls P (ρ.f 172) #[.string s] w fun e w' => ∃ t p, e = .returned (.tuple #[.int .i64 (Lib.atoiSat s.data.toList), .iface t p]) ∧ Below w.heap.size w w' :=
  (Any.strconv_Atoi_range L s hlim h ev w hv hev).mono fun e w' ⟨N, he, _, _, hb⟩ => ⟨_, _, he, hb⟩
end
theorem Atoi_bad1 (s : ByteArray) (hlim : s.size ≤ 281474976710656) (ev : Value) (w : World) (hv : w.cell? ⟨2, 0, none⟩ = some ev) (hev : ev = .nilIface ∨ ∃ te pe, ev = .iface te pe)
    (h1 : ∀ v, Lib.atoiAll s.data.toList ≠ .ok v) (h2 : Lib.atoiAll s.data.toList ≠ .range) :
    Calls Tryz.prog 13 #[.string s] w fun e w' => ∃ t p, e = .returned (.tuple #[.int .i64 0, .iface t p]) ∧ Below w.heap.size w w' :=
  atoi_bad1 Tryz.laysC172 s hlim ev w hv hev h1 h2
theorem Atoi_bad2 (s : ByteArray) (hlim : s.size ≤ 281474976710656) (ev : Value) (w : World) (hv : w.cell? ⟨3, 0, none⟩ = some ev) (hev : ev = .nilIface ∨ ∃ te pe, ev = .iface te pe)
    (h : Lib.atoiAll s.data.toList = .range) :
    Calls Tryz.prog 13 #[.string s] w fun e w' => ∃ t p, e = .returned (.tuple #[.int .i64 (Lib.atoiSat s.data.toList), .iface t p]) ∧ Below w.heap.size w w' :=
  atoi_bad2 Tryz.laysC172 s hlim ev w hv hev h

theorem Atoi_any (l : List UInt8) (w : World) (hl : l.length ≤ 281474976710656) (hv : NumErrs w) :
    Calls Tryz.prog 13 #[.string (txt l)] w fun e w' => ∃ ev, e = .returned (.tuple #[.int .i64 (atoiV l), ev]) ∧ Below w.heap.size w w' ∧
      ((∃ v, Lib.atoiAll l = .ok v ∧ ev = .nilIface) ∨ ((∀ v, Lib.atoiAll l ≠ .ok v) ∧ ∃ t p, ev = .iface t p)) := by
  obtain ⟨⟨v1, c1, k1⟩, ⟨v2, c2, k2⟩⟩ := hv
  have hs : (txt l).size = l.length := txt_size l
  unfold atoiV
  rcases h : Lib.atoiAll l with v | _ | _
  · refine (Tryz.strconv_Atoi_ok (txt l) (by omega) v (by rw [txt_data]; exact h) w).mono ?_
    rintro e w' ⟨rfl, hw⟩
    refine ⟨_, rfl, ?_, .inl ⟨v, rfl, rfl⟩⟩
    rcases hw with rfl | ⟨t, rfl⟩
    · exact Below.refl _ _
    · exact below_bytesWorld _ _ _ _ (Nat.le_refl _)
  · refine (Atoi_bad1 (txt l) (by omega) v1 w c1 k1 (by rw [txt_data, h]; intro v hv; cases hv) (by rw [txt_data, h]; intro hv; cases hv)).mono ?_
    rintro e w' ⟨t, p, rfl, hb⟩
    exact ⟨_, rfl, hb, .inr ⟨(fun v hv => by cases hv), _, _, rfl⟩⟩
  · refine (Atoi_bad2 (txt l) (by omega) v2 w c2 k2 (by rw [txt_data]; exact h)).mono ?_
    rintro e w' ⟨t, p, rfl, hb⟩
    rw [txt_data]
    exact ⟨_, rfl, hb, .inr ⟨(fun v hv => by cases hv), _, _, rfl⟩⟩
end Go.Proofs.YtfocdcdggidboaaGreatDoor
