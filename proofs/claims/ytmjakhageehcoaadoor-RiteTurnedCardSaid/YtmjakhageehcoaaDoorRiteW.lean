/- RiteTwo, RiteAges: the laws' walks. -/
import Derived.Test.YtmjakhageehcoaaDoorRite6
import Derived.Test.YtmjakhageehcoaaDoorCiv5d
namespace Go.Proofs.YtmjakhageehcoaaDoor
open Go.RowKit Go.Joins
set_option linter.unusedVariables false
set_option linter.unusedSimpArgs false

theorem riteR_cases (p : Px) (t : Int) : (∃ c, c ≠ 0 ∧ riteR p t = atV 0 false ⟨#[]⟩ c) ∨ riteR p t = atV p.off false p.name 0 ∨ (p.also.toList ≠ [] ∧ riteR p t = atV p.aoff true p.also 0) := by
  unfold riteR
  split
  · rename_i h; exact Or.inl ⟨_, h, rfl⟩
  split
  · exact Or.inl ⟨1, by decide, rfl⟩
  split
  · exact Or.inr (Or.inl rfl)
  rename_i ha
  split
  · exact Or.inr (Or.inr ⟨ha, rfl⟩)
  · exact Or.inr (Or.inl rfl)

theorem below_al1 (w : World) (o : Obj) : Below w.heap.size w (w.alloc o) := (Below.refl _ _).alloc (Nat.le_refl _) _

set_option maxRecDepth 100000 in
set_option maxHeartbeats 4000000 in
theorem RiteTwo_walk (p : Px) (t : Int) (w : World) (h1 : p.name.size ≤ maxLen) (h2 : p.also.size ≤ maxLen) (ht1 : -9223372036854775808 ≤ t) (ht2 : t ≤ 9223372036854775807) (ht : Tab10 w) :
    Calls Tryd.prog 6 #[pxV p, .int .i64 t] w fun e w' => e = .returned (.bool true) ∧ Below w.heap.size w w' := by
  obtain ⟨W0, eW⟩ : ∃ W0, w.alloc (.cells (pxCells p) 51) = W0 := ⟨_, rfl⟩
  have HX : Hid (PxBx W0 w.heap.size p) := by show PxBx _ _ _; rw [← eW]; exact PxBx.box w p
  have HB : Hid (Below w.heap.size w W0) := by show Below _ _ _; rw [← eW]; exact below_al1 _ _
  have HEW := Lib.hid eW
  have HT := Lib.hid ht
  have HA := Lib.hid (fun W (hb : Tab10 W) => At_any p t W h1 h2 ht1 ht2 hb)
  have HCS := Lib.hid (riteR_cases p t)
  obtain ⟨R, eR⟩ : ∃ R, riteR p t = R := ⟨_, rfl⟩
  rw [eR] at HA HCS
  clear eW eR h1 h2 ht1 ht2 ht
  go_enter Tryd.func6, Tryd.ntmps6
  go_wp2_with fail
  rw [HEW.out]
  refine (rited_any _ (HT.out.below HB.out)).mono ?_
  rintro e w1 ⟨rfl, hb1⟩
  have HX1 := Lib.hid (HX.out.below hb1)
  have HB1 := Lib.hid (HB.out.trans (hb1.mono HB.out.size))
  clear hb1 HX HB
  obtain ⟨x0, x1, x2, x3, x4, x5, x6, x7, x8, x9, x10, x11⟩ := HX1.out.cells
  have hl1 := HX1.out.lt
  go_wp2_with fail
  refine (HA.out _ (HT.out.below HB1.out)).mono ?_
  rintro e w2 ⟨rfl, hb2⟩
  have HX2 := Lib.hid (HX1.out.below hb2)
  have HB2 := Lib.hid (HB1.out.trans (hb2.mono HB1.out.size))
  clear hb2 HX1 HB1 x0 x1 x2 x3 x4 x5 x6 x7 x8 x9 x10 x11 hl1
  obtain ⟨x0, x1, x2, x3, x4, x5, x6, x7, x8, x9, x10, x11⟩ := HX2.out.cells
  have hl2 := HX2.out.lt
  clear x4 x5 x6 x7 x8 x9 x10 x11
  rcases HCS.out with ⟨c, hc, rfl⟩ | rfl | ⟨ha, rfl⟩
  · have hc' : (c == 0) = false := by simpa using hc
    have hc'' : (c != 0) = true := by simpa using hc
    clear hc HCS
    go_wp2
    go_ret
    exact ⟨rfl, HB2.out.alloc HB2.out.size _⟩
  · clear HCS
    go_wp2
    go_ret
    exact ⟨rfl, HB2.out.alloc HB2.out.size _⟩
  · have ha2 : p.also.toList.isEmpty = false := by simpa using ha
    clear HCS
    go_wp2
    all_goals go_ret
    all_goals exact ⟨rfl, HB2.out.alloc HB2.out.size _⟩

/-- a time of four hundred years that begin two days behind the first day -/
def aD (t : Int) : Int := 86400 * (-135140 + 2) + t % 12614400000
theorem ages_eq (p : Px) (t : Int) : riteR p (aD t + 86400 * 146097) = riteR p (aD t) := by
  by_cases hp : pxChk p = 0
  · have ho := px_off hp
    have a1 : aD t = 86400 * (-135140 + 2) + t % 12614400000 := rfl
    have s1 : okSt (aD t) = true := okSt_iff.2 (by omega)
    have s2 : okSt (aD t + p.off) = true := okSt_iff.2 (by omega)
    have s3 : okSt (aD t + 86400 * 146097) = true := okSt_iff.2 (by omega)
    have s4 : okSt (aD t + 86400 * 146097 + p.off) = true := okSt_iff.2 (by omega)
    unfold riteR
    rw [s1, s2, s3, s4, ages_law]
  · unfold riteR
    rw [if_pos hp, if_pos hp]

set_option maxRecDepth 100000 in
set_option maxHeartbeats 4000000 in
theorem RiteAges_walk (p : Px) (t : Int) (w : World) (h1 : p.name.size ≤ maxLen) (h2 : p.also.size ≤ maxLen) (ht : Tab10 w) :
    Calls Tryd.prog 5 #[pxV p, .int .i64 t] w fun e w' => e = .returned (.bool true) ∧ Below w.heap.size w w' := by
  obtain ⟨W0, eW⟩ : ∃ W0, w.alloc (.cells (pxCells p) 51) = W0 := ⟨_, rfl⟩
  have HX : Hid (PxBx W0 w.heap.size p) := by show PxBx _ _ _; rw [← eW]; exact PxBx.box w p
  have HB : Hid (Below w.heap.size w W0) := by show Below _ _ _; rw [← eW]; exact below_al1 _ _
  have HEW := Lib.hid eW
  have HT := Lib.hid ht
  have hj := Lib.hid Civ.jan1_1600
  have HR := Lib.hid (fun W => Rest_any t 12614400000 W (by decide) (by decide))
  have hm0 : 0 ≤ t % 12614400000 := by omega
  have hm1 : t % 12614400000 < 12614400000 := by omega
  have HA := Lib.hid (fun W (hb : Tab10 W) => At_any p (aD t) W h1 h2 (by unfold aD; omega) (by unfold aD; omega) hb)
  have HA2 := Lib.hid (fun W (hb : Tab10 W) => At_any p (aD t + 86400 * 146097) W h1 h2 (by unfold aD; omega) (by unfold aD; omega) hb)
  rw [ages_eq] at HA2
  have HCS := Lib.hid (riteR_cases p (aD t))
  obtain ⟨R, eR⟩ : ∃ R, riteR p (aD t) = R := ⟨_, rfl⟩
  rw [eR] at HA HA2 HCS
  have ha : aD t = 86400 * (-135140 + 2) + t % 12614400000 := rfl
  obtain ⟨m, em⟩ : ∃ m, t % 12614400000 = m := ⟨_, rfl⟩
  rw [em] at hm0 hm1 HR
  rw [show aD t = -11675923200 + m by omega] at HA HA2
  clear eW eR h1 h2 ht ha em
  go_enter Tryd.func5, Tryd.ntmps5
  go_wp2_with fail
  rw [HEW.out]
  refine (rited_any _ (HT.out.below HB.out)).mono ?_
  rintro e w1 ⟨rfl, hb1⟩
  have HX1 := Lib.hid (HX.out.below hb1)
  have HB1 := Lib.hid (HB.out.trans (hb1.mono HB.out.size))
  clear hb1 HX HB
  go_wp2_with fail
  refine (RDays_jan1 1600 _ (by decide) (by decide)).mono ?_
  rw [hj.out]
  rintro e w2 ⟨rfl, hb2⟩
  have HX2 := Lib.hid (HX1.out.below hb2)
  have HB2 := Lib.hid (HB1.out.trans (hb2.mono HB1.out.size))
  clear hb2 HX1 HB1
  go_wp2_with fail
  refine (HR.out _).mono ?_
  rintro e w' ⟨rfl, rfl⟩
  obtain ⟨x0, x1, x2, x3, x4, x5, x6, x7, x8, x9, x10, x11⟩ := HX2.out.cells
  have hl2 := HX2.out.lt
  go_upto_region 5 with fail
  go_wp2_with fail
  refine (HA.out _ (HT.out.below HB2.out)).mono ?_
  rintro e w3 ⟨rfl, hb3⟩
  have HX3 := Lib.hid (HX2.out.below hb3)
  have HB3 := Lib.hid (HB2.out.trans (hb3.mono HB2.out.size))
  clear hb3 HX2 HB2 x0 x1 x2 x3 x4 x5 x6 x7 x8 x9 x10 x11 hl2
  obtain ⟨o, b, n, c, rfl⟩ : ∃ o b n c, R = atV o b n c := by
    rcases HCS.out with ⟨c, hc, rfl⟩ | rfl | ⟨ha, rfl⟩ <;> exact ⟨_, _, _, _, rfl⟩
  clear HCS
  obtain ⟨x0, x1, x2, x3, x4, x5, x6, x7, x8, x9, x10, x11⟩ := HX3.out.cells
  have hl3 := HX3.out.lt
  go_wp2_with fail
  obtain ⟨W4, e4⟩ : ∃ W4, w3.alloc (.cells #[.int .i64 o, .bool b, .string n] 45) = W4 := ⟨_, rfl⟩
  rw [e4]
  have g4 : W4.heap[w3.heap.size]? = some (.cells #[.int .i64 o, .bool b, .string n] 45 (0, 0)) := by rw [← e4]; exact heap_alloc_new w3 _
  have hb4 : Below w3.heap.size w3 W4 := by rw [← e4]; exact below_al1 _ _
  have hz4 := (Array.getElem?_eq_some_iff.mp g4).1
  have HB4 := Lib.hid (HB3.out.trans (hb4.mono HB3.out.size))
  have G4 := Lib.hid g4
  clear e4 g4 hb4
  refine (HA2.out _ (HT.out.below HB4.out)).mono ?_
  rintro e w5 ⟨rfl, hb5⟩
  have g5 := (hb5.block _ hz4).trans G4.out
  have HB5 := Lib.hid (HB4.out.trans (hb5.mono HB4.out.size))
  have hz5 := (Array.getElem?_eq_some_iff.mp g5).1
  have s0 : w5.cell? ⟨w3.heap.size, 0, none⟩ = some (.int .i64 o) := (cell_of_row w5 _ 0 _ _ _ g5).trans rfl
  have s1 : w5.cell? ⟨w3.heap.size, 1, none⟩ = some (.bool b) := (cell_of_row w5 _ 1 _ _ _ g5).trans rfl
  have s2 : w5.cell? ⟨w3.heap.size, 2, none⟩ = some (.string n) := (cell_of_row w5 _ 2 _ _ _ g5).trans rfl
  clear hb5 g5 x0 x1 x2 x3 x4 x5 x6 x7 x8 x9 x10 x11
  go_wp2
  go_ret
  exact ⟨rfl, HB5.out.alloc HB5.out.size _⟩
end Go.Proofs.YtmjakhageehcoaaDoor
