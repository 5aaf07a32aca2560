/- rite.Check: what may be. -/
import Derived.Test.YtmjakhageehcoaaDoorRite1
import Derived.BigQuiet
import Derived.Deep.DeepCutAuto
namespace Go.Proofs.YtmjakhageehcoaaDoor
open Go.RowKit Go.Joins
set_option linter.unusedVariables false
set_option linter.unusedSimpArgs false

def rtZ (r : Rt) : Bool := decide (r.m = 0 ∧ r.w = 0 ∧ r.d = 0 ∧ r.t = 0)
def pxChk (p : Px) : Int :=
  if wordB p.name = false then 3 else
  if p.also.toList ≠ [] ∧ wordB p.also = false then 3 else
  if withinB p.off (-64800) 64800 = false then 1 else
  if p.also.toList = [] then (if p.aoff = 0 ∧ rtZ p.s = true ∧ rtZ p.e = true then 0 else 5) else
  if withinB p.aoff (p.off + 1) (p.off + 10800) = false then 1 else
  if okRt p.s = false then 1 else if okRt p.e = false then 1 else if p.s.m = p.e.m then 5 else 0

def PxBx (W : World) (B : Nat) (p : Px) : Prop := W.heap[B]? = some (.cells (pxCells p) 51 (0, 0))
theorem PxBx.lt {W : World} {B : Nat} {p : Px} (h : PxBx W B p) : B < W.heap.size := (Array.getElem?_eq_some_iff.mp h).1
theorem PxBx.below {w w' : World} {B : Nat} {p : Px} (h : PxBx w B p) (hb : Below w.heap.size w w') : PxBx w' B p := (hb.block B h.lt).trans h
theorem PxBx.box (w : World) (p : Px) : PxBx (w.alloc (.cells (pxCells p) 51)) w.heap.size p := heap_alloc_new w _
theorem PxBx.cells {W : World} {B : Nat} {p : Px} (h : PxBx W B p) :
    W.cell? ⟨B, 0, none⟩ = some (.string p.name) ∧ W.cell? ⟨B, 1, none⟩ = some (.int .i64 p.off) ∧ W.cell? ⟨B, 2, none⟩ = some (.string p.also) ∧ W.cell? ⟨B, 3, none⟩ = some (.int .i64 p.aoff) ∧
    W.cell? ⟨B, 4, none⟩ = some (.int .i64 p.s.m) ∧ W.cell? ⟨B, 5, none⟩ = some (.int .i64 p.s.w) ∧ W.cell? ⟨B, 6, none⟩ = some (.int .i64 p.s.d) ∧ W.cell? ⟨B, 7, none⟩ = some (.int .i64 p.s.t) ∧
    W.cell? ⟨B, 8, none⟩ = some (.int .i64 p.e.m) ∧ W.cell? ⟨B, 9, none⟩ = some (.int .i64 p.e.w) ∧ W.cell? ⟨B, 10, none⟩ = some (.int .i64 p.e.d) ∧ W.cell? ⟨B, 11, none⟩ = some (.int .i64 p.e.t) :=
  ⟨(cell_of_row W _ 0 _ _ _ h).trans rfl, (cell_of_row W _ 1 _ _ _ h).trans rfl, (cell_of_row W _ 2 _ _ _ h).trans rfl, (cell_of_row W _ 3 _ _ _ h).trans rfl,
   (cell_of_row W _ 4 _ _ _ h).trans rfl, (cell_of_row W _ 5 _ _ _ h).trans rfl, (cell_of_row W _ 6 _ _ _ h).trans rfl, (cell_of_row W _ 7 _ _ _ h).trans rfl,
   (cell_of_row W _ 8 _ _ _ h).trans rfl, (cell_of_row W _ 9 _ _ _ h).trans rfl, (cell_of_row W _ 10 _ _ _ h).trans rfl, (cell_of_row W _ 11 _ _ _ h).trans rfl⟩

set_option maxRecDepth 100000 in
set_option maxHeartbeats 4000000 in
theorem rCheck_any (p : Px) (w : World) (h1 : p.name.size ≤ maxLen) (h2 : p.also.size ≤ maxLen) :
    Calls Tryd.prog 36 #[pxV p] w fun e w' => e = .returned (.int .i64 (pxChk p)) ∧ Below w.heap.size w w' := by
  obtain ⟨W0, eW⟩ : ∃ W0, w.alloc (.cells (pxCells p) 51) = W0 := ⟨_, rfl⟩
  have HX : Hid (PxBx W0 w.heap.size p) := by show PxBx _ _ _; rw [← eW]; exact PxBx.box w p
  have HB : Hid (Below w.heap.size w W0) := by show Below _ _ _; rw [← eW]; exact (Below.refl _ _).alloc (Nat.le_refl _) _
  have HEW := Lib.hid eW
  obtain ⟨nm, off, al, ao, ⟨sm, sw, sd, st⟩, ⟨em, ew, ed, et⟩⟩ := p
  obtain ⟨x0, x1, x2, x3, x4, x5, x6, x7, x8, x9, x10, x11⟩ := HX.out.cells
  have hl0 := HX.out.lt
  simp only at h1 h2 x0 x1 x2 x3 x4 x5 x6 x7 x8 x9 x10 x11
  clear eW
  go_enter Tryd.func36, Tryd.ntmps36
  go_wp2_with fail
  rw [HEW.out]
  refine (isWord_any nm _ h1).mono ?_
  obtain ⟨A, eA⟩ : ∃ A, wordB nm = A := ⟨_, rfl⟩
  rw [eA]
  have HA := Lib.hid eA
  rintro e w1 ⟨rfl, hb1⟩
  have HX1 := Lib.hid (HX.out.below hb1)
  have HB1 := Lib.hid (HB.out.trans (hb1.mono HB.out.size))
  clear hb1 HX HB eA x0 x1 x2 x3 x4 x5 x6 x7 x8 x9 x10 x11 hl0 h1
  obtain ⟨x0, x1, x2, x3, x4, x5, x6, x7, x8, x9, x10, x11⟩ := HX1.out.cells
  have hl1 := HX1.out.lt
  simp only at x0 x1 x2 x3 x4 x5 x6 x7 x8 x9 x10 x11
  cases A with
  | false =>
    go_wp2
    go_ret
    exact ⟨ret_int' (by unfold pxChk; rw [if_pos HA.out]), HB1.out⟩
  | true =>
    by_cases he : al.toList = []
    · have he2 : al.toList.isEmpty = true := by simpa using he
      have HE := Lib.hid he
      go_wp2_with fail
      refine (rite_within _ _ _ _).mono ?_
      obtain ⟨O, eO⟩ : ∃ O, withinB off (-64800) 64800 = O := ⟨_, rfl⟩
      rw [eO]
      have HO := Lib.hid eO
      clear eO
      rintro e w' ⟨rfl, rfl⟩
      cases O with
      | false =>
        go_wp2
        go_ret
        exact ⟨ret_int' (by unfold pxChk; rw [if_neg (by rw [HA.out]; simp), if_neg (by simp [HE.out]), if_pos HO.out]), HB1.out⟩
      | true =>
        have hP : ∀ r : Int, (if ao = 0 ∧ rtZ ⟨sm, sw, sd, st⟩ = true ∧ rtZ ⟨em, ew, ed, et⟩ = true then 0 else 5) = r → pxChk ⟨nm, off, al, ao, ⟨sm, sw, sd, st⟩, ⟨em, ew, ed, et⟩⟩ = r := by
          intro r h
          unfold pxChk
          rw [if_neg (by rw [HA.out]; simp), if_neg (by simp [HE.out]), if_neg (by rw [HO.out]; simp), if_pos HE.out]
          exact h
        have HP := Lib.hid hP
        clear hP
        by_cases h0 : ao = 0
        · have h0' : (ao == 0) = true := by simpa using h0
          have h0n : (ao != 0) = false := by simpa using h0
          have H0 := Lib.hid h0
          clear h0
          go_upto_region 6 with fail
          go_wp2
          all_goals go_ret
          all_goals (first
            | exact ⟨ret_int' (HP.out 0 (if_pos ⟨H0.out, by simp [rtZ, *], by simp [rtZ, *]⟩)).symm, HB1.out⟩
            | exact ⟨ret_int' (HP.out 5 (if_neg fun h => by (have h1 := h.2.1; have h2 := h.2.2; simp [rtZ, *] at h1 h2))).symm, HB1.out⟩)
        · have h0' : (ao == 0) = false := by simpa using h0
          have h0n : (ao != 0) = true := by simpa using h0
          have H0 := Lib.hid h0
          clear h0
          go_wp2
          go_ret
          exact ⟨ret_int' (HP.out 5 (if_neg fun h => H0.out h.1)).symm, HB1.out⟩
    · have he2 : al.toList.isEmpty = false := by simpa using he
      have HE := Lib.hid he
      go_wp2_with fail
      refine (isWord_any al _ h2).mono ?_
      obtain ⟨D, eD⟩ : ∃ D, wordB al = D := ⟨_, rfl⟩
      rw [eD]
      have HD := Lib.hid eD
      rintro e w2 ⟨rfl, hb2⟩
      have HX2 := Lib.hid (HX1.out.below hb2)
      have HB2 := Lib.hid (HB1.out.trans (hb2.mono HB1.out.size))
      clear hb2 HX1 HB1 eD x0 x1 x2 x3 x4 x5 x6 x7 x8 x9 x10 x11 hl1 h2
      obtain ⟨x0, x1, x2, x3, x4, x5, x6, x7, x8, x9, x10, x11⟩ := HX2.out.cells
      have hl2 := HX2.out.lt
      simp only at x0 x1 x2 x3 x4 x5 x6 x7 x8 x9 x10 x11
      cases D with
      | false =>
        go_wp2
        go_ret
        exact ⟨ret_int' (by unfold pxChk; rw [if_neg (by rw [HA.out]; simp), if_pos ⟨HE.out, HD.out⟩]), HB2.out⟩
      | true =>
      go_wp2_with fail
      refine (rite_within _ _ _ _).mono ?_
      obtain ⟨O, eO⟩ : ∃ O, withinB off (-64800) 64800 = O := ⟨_, rfl⟩
      rw [eO]
      have HO := Lib.hid eO
      rintro e w' ⟨rfl, rfl⟩
      cases O with
      | false =>
        clear eO
        go_wp2
        go_ret
        exact ⟨ret_int' (by unfold pxChk; rw [if_neg (by rw [HA.out]; simp), if_neg (by simp [HD.out]), if_pos HO.out]), HB2.out⟩
      | true =>
        obtain ⟨ho1, ho2⟩ := withinB_iff.1 eO
        clear eO
        have hP : ∀ r : Int, (if withinB ao (off + 1) (off + 10800) = false then 1 else
  if okRt ⟨sm, sw, sd, st⟩ = false then 1 else if okRt ⟨em, ew, ed, et⟩ = false then 1 else if sm = em then 5 else 0) = r → pxChk ⟨nm, off, al, ao, ⟨sm, sw, sd, st⟩, ⟨em, ew, ed, et⟩⟩ = r := by
          intro r h
          unfold pxChk
          rw [if_neg (by rw [HA.out]; simp), if_neg (by simp [HD.out]), if_neg (by rw [HO.out]; simp), if_neg HE.out]
          exact h
        have HP := Lib.hid hP
        clear hP
        go_wp2_with fail
        refine (rite_within _ _ _ _).mono ?_
        obtain ⟨V, eV⟩ : ∃ V, withinB ao (off + 1) (off + 10800) = V := ⟨_, rfl⟩
        rw [eV]
        have HV := Lib.hid eV
        clear eV
        rintro e w' ⟨rfl, rfl⟩
        cases V with
        | false =>
          go_wp2
          go_ret
          exact ⟨ret_int' (HP.out 1 (if_pos HV.out)).symm, HB2.out⟩
        | true =>
          go_wp2_with fail
          obtain ⟨W3, e3⟩ : ∃ W3, w2.alloc (.cells #[.int .i64 sm, .int .i64 sw, .int .i64 sd, .int .i64 st, .int .i64 em, .int .i64 ew, .int .i64 ed, .int .i64 et] 49) = W3 := ⟨_, rfl⟩
          rw [e3]
          have hz3 : w2.heap.size < W3.heap.size := by rw [← e3]; simp
          have h3 : W3.heap[w2.heap.size]? = some (.cells #[.int .i64 sm, .int .i64 sw, .int .i64 sd, .int .i64 st, .int .i64 em, .int .i64 ew, .int .i64 ed, .int .i64 et] 49 (0, 0)) := by rw [← e3]; exact heap_alloc_new w2 _
          have hb3 : Below w2.heap.size w2 W3 := by rw [← e3]; exact (Below.refl _ _).alloc (Nat.le_refl _) _
          have HX3 := Lib.hid (HX2.out.below hb3)
          have HB3 := Lib.hid (HB2.out.trans (hb3.mono HB2.out.size))
          have H3 := Lib.hid h3
          have hl3 := HX3.out.lt
          clear e3 h3 hb3 HX2 HB2 x0 x1 x2 x3 x4 x5 x6 x7 x8 x9 x10 x11
          go_loopw [63] (fun i wr => ∃ k : Nat, k ≤ 2 ∧ i = .int .i64 k ∧ (1 ≤ k → okRt ⟨sm, sw, sd, st⟩ = true) ∧ (2 ≤ k → okRt ⟨em, ew, ed, et⟩ = true) ∧ Below W3.heap.size W3 wr) (fun i _ => 2 - (intOf i).toNat)
          case atStart => exact ⟨0, by omega, rfl, fun h => absurd h (by omega), fun h => absurd h (by omega), Below.refl _ _⟩
          case round =>
            obtain ⟨k, hk, rfl, hs, he', hbr⟩ := hrel
            have HBR := Lib.hid hbr
            have hzr := hbr.size
            have H4 := Lib.hid ((hbr.block _ hz3).trans H3.out)
            clear hbr
            have hk3 : k = 0 ∨ k = 1 ∨ k = 2 := by omega
            clear hk
            rcases hk3 with rfl | rfl | rfl
            have d0 : wr.cell? ⟨w2.heap.size, 0, none⟩ = some (.int .i64 sm) := (cell_of_row wr _ 0 _ _ _ H4.out).trans rfl
            have d1 : wr.cell? ⟨w2.heap.size, 1, none⟩ = some (.int .i64 sw) := (cell_of_row wr _ 1 _ _ _ H4.out).trans rfl
            have d2 : wr.cell? ⟨w2.heap.size, 2, none⟩ = some (.int .i64 sd) := (cell_of_row wr _ 2 _ _ _ H4.out).trans rfl
            have d3 : wr.cell? ⟨w2.heap.size, 3, none⟩ = some (.int .i64 st) := (cell_of_row wr _ 3 _ _ _ H4.out).trans rfl
            clear hs he'
            by_cases hk0 : okRt ⟨sm, sw, sd, st⟩ = true
            · have HK := Lib.hid hk0
              have hC : Hid (rtC ⟨sm, sw, sd, st⟩ = 0) := by show _ = _; unfold rtC; rw [if_pos hk0]
              clear hk0
              go_wp2_with fail
              refine (checkRite_any ⟨sm, sw, sd, st⟩ _).mono ?_
              rw [hC.out]
              rintro e w4 ⟨rfl, hb4⟩
              have HZ := Lib.hid (HBR.out.trans ((((Below.refl _ _).alloc (Nat.le_refl _) _).trans (hb4.mono (by simp))).mono HBR.out.size))
              clear hb4 d0 d1 d2 d3
              go_wp2
              go_roundw
              case rel => exact ⟨1, by omega, rfl, fun _ => HK.out, fun h => absurd h (by omega), HZ.out⟩
              case measure => simp [intOf]
            · have HK := Lib.hid (eq_false_of_ne_true hk0)
              have hC : Hid (rtC ⟨sm, sw, sd, st⟩ = 1) := by show _ = _; unfold rtC; rw [if_neg hk0]
              clear hk0
              go_wp2_with fail
              refine (checkRite_any ⟨sm, sw, sd, st⟩ _).mono ?_
              rw [hC.out]
              rintro e w4 ⟨rfl, hb4⟩
              have HZ := Lib.hid (HBR.out.trans ((((Below.refl _ _).alloc (Nat.le_refl _) _).trans (hb4.mono (by simp))).mono HBR.out.size))
              clear hb4 d0 d1 d2 d3
              go_wp2
              go_ret
              exact ⟨ret_int' (HP.out 1 (by rw [if_neg (by rw [HV.out]; simp), if_pos HK.out])).symm, HB3.out.trans (HZ.out.mono HB3.out.size)⟩
            have d0 : wr.cell? ⟨w2.heap.size, 4, none⟩ = some (.int .i64 em) := (cell_of_row wr _ 4 _ _ _ H4.out).trans rfl
            have d1 : wr.cell? ⟨w2.heap.size, 5, none⟩ = some (.int .i64 ew) := (cell_of_row wr _ 5 _ _ _ H4.out).trans rfl
            have d2 : wr.cell? ⟨w2.heap.size, 6, none⟩ = some (.int .i64 ed) := (cell_of_row wr _ 6 _ _ _ H4.out).trans rfl
            have d3 : wr.cell? ⟨w2.heap.size, 7, none⟩ = some (.int .i64 et) := (cell_of_row wr _ 7 _ _ _ H4.out).trans rfl
            have HS := Lib.hid (hs (by omega))
            clear hs he'
            by_cases hk1 : okRt ⟨em, ew, ed, et⟩ = true
            · have HK := Lib.hid hk1
              have hC : Hid (rtC ⟨em, ew, ed, et⟩ = 0) := by show _ = _; unfold rtC; rw [if_pos hk1]
              clear hk1
              go_wp2_with fail
              refine (checkRite_any ⟨em, ew, ed, et⟩ _).mono ?_
              rw [hC.out]
              rintro e w4 ⟨rfl, hb4⟩
              have HZ := Lib.hid (HBR.out.trans ((((Below.refl _ _).alloc (Nat.le_refl _) _).trans (hb4.mono (by simp))).mono HBR.out.size))
              clear hb4 d0 d1 d2 d3
              go_wp2
              go_roundw
              case rel => exact ⟨2, by omega, rfl, fun _ => HS.out, fun _ => HK.out, HZ.out⟩
              case measure => simp [intOf]
            · have HK := Lib.hid (eq_false_of_ne_true hk1)
              have hC : Hid (rtC ⟨em, ew, ed, et⟩ = 1) := by show _ = _; unfold rtC; rw [if_neg hk1]
              clear hk1
              go_wp2_with fail
              refine (checkRite_any ⟨em, ew, ed, et⟩ _).mono ?_
              rw [hC.out]
              rintro e w4 ⟨rfl, hb4⟩
              have HZ := Lib.hid (HBR.out.trans ((((Below.refl _ _).alloc (Nat.le_refl _) _).trans (hb4.mono (by simp))).mono HBR.out.size))
              clear hb4 d0 d1 d2 d3
              go_wp2
              go_ret
              exact ⟨ret_int' (HP.out 1 (by rw [if_neg (by rw [HV.out]; simp), if_neg (by rw [HS.out]; simp), if_pos HK.out])).symm, HB3.out.trans (HZ.out.mono HB3.out.size)⟩
            have HS := Lib.hid (hs (by omega))
            have HE' := Lib.hid (he' (by omega))
            have HXR := Lib.hid (HX3.out.below HBR.out)
            obtain ⟨x0, x1, x2, x3, x4, x5, x6, x7, x8, x9, x10, x11⟩ := HXR.out.cells
            have hlr := HXR.out.lt
            simp only at x0 x1 x2 x3 x4 x5 x6 x7 x8 x9 x10 x11
            clear hs he'
            have HPP : Hid (∀ r : Int, (if sm = em then 5 else 0) = r → pxChk ⟨nm, off, al, ao, ⟨sm, sw, sd, st⟩, ⟨em, ew, ed, et⟩⟩ = r) := by
              show ∀ r : Int, (if sm = em then 5 else 0) = r → pxChk ⟨nm, off, al, ao, ⟨sm, sw, sd, st⟩, ⟨em, ew, ed, et⟩⟩ = r
              intro r h
              refine HP.out r ?_
              rw [if_neg (by rw [HV.out]; simp), if_neg (by rw [HS.out]; simp), if_neg (by rw [HE'.out]; simp)]
              exact h
            by_cases hm : sm = em
            · subst hm
              go_wp2
              go_ret
              exact ⟨ret_int' (HPP.out 5 (by simp)).symm, HB3.out.trans (HBR.out.mono HB3.out.size)⟩
            · have hm' : (sm == em) = false := by simpa using hm
              have HM := Lib.hid hm
              clear hm
              go_wp2
              go_ret
              exact ⟨ret_int' (HPP.out 0 (if_neg HM.out)).symm, HB3.out.trans (HBR.out.mono HB3.out.size)⟩
end Go.Proofs.YtmjakhageehcoaaDoor
