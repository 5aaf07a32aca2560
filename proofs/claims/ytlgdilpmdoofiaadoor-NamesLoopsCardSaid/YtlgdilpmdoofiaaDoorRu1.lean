/- rule.within, rule.Check: what each returns. -/
import Derived.Test.YtlgdilpmdoofiaaDoorRuMath0
import Derived.Test.YtlgdilpmdoofiaaDoorDay1
import Derived.BigQuiet
import Derived.Deep.DeepCutAuto
import Derived.Handy
namespace Go.Proofs.YtlgdilpmdoofiaaDoor
open Go.RowKit Go.Joins
open Classical
set_option linter.unusedVariables false
set_option linter.unusedSimpArgs false

theorem rule_within (n a b : Int) (w : World) :
    Calls Tryd.prog 40 #[.int .i64 n, .int .i64 a, .int .i64 b] w fun e w' => e = .returned (.bool (withinB n a b)) ∧ w = w' := by
  by_cases h1 : a ≤ n <;> by_cases h2 : n ≤ b <;>
  · go_enter Tryd.func40, Tryd.ntmps40
    go_wp2
    go_ret
    exact ⟨ret_bool (by simp [withinB, h1, h2]), rfl⟩

abbrev ruCells (r : Ru) : Array Value := #[.string r.nm, .int .i64 r.yf, .int .i64 r.yt, .int .i64 r.mo, .int .i64 r.dk, .int .i64 r.dw, .int .i64 r.dn, .int .i64 r.tm, .int .i64 r.ck, .int .i64 r.sv, .string r.lt]
abbrev ruV (r : Ru) : Value := .agg (ruCells r)
def RuBx (W : World) (B : Nat) (r : Ru) : Prop := W.heap[B]? = some (.cells (ruCells r) 35 (0, 0))
theorem RuBx.lt {W : World} {B : Nat} {r : Ru} (h : RuBx W B r) : B < W.heap.size := (Array.getElem?_eq_some_iff.mp h).1
theorem RuBx.below {w w' : World} {B : Nat} {r : Ru} (h : RuBx w B r) (hb : Below w.heap.size w w') : RuBx w' B r := (hb.block B h.lt).trans h
theorem RuBx.box (w : World) (r : Ru) : RuBx (w.alloc (.cells (ruCells r) 35)) w.heap.size r := heap_alloc_new w _
theorem RuBx.cells {W : World} {B : Nat} {r : Ru} (h : RuBx W B r) :
    W.cell? ⟨B, 0, none⟩ = some (.string r.nm) ∧ W.cell? ⟨B, 1, none⟩ = some (.int .i64 r.yf) ∧ W.cell? ⟨B, 2, none⟩ = some (.int .i64 r.yt) ∧ W.cell? ⟨B, 3, none⟩ = some (.int .i64 r.mo) ∧ W.cell? ⟨B, 4, none⟩ = some (.int .i64 r.dk) ∧ W.cell? ⟨B, 5, none⟩ = some (.int .i64 r.dw) ∧ W.cell? ⟨B, 6, none⟩ = some (.int .i64 r.dn) ∧ W.cell? ⟨B, 7, none⟩ = some (.int .i64 r.tm) ∧ W.cell? ⟨B, 8, none⟩ = some (.int .i64 r.ck) ∧ W.cell? ⟨B, 9, none⟩ = some (.int .i64 r.sv) ∧ W.cell? ⟨B, 10, none⟩ = some (.string r.lt) :=
  ⟨(cell_of_row W _ 0 _ _ _ h).trans rfl, (cell_of_row W _ 1 _ _ _ h).trans rfl, (cell_of_row W _ 2 _ _ _ h).trans rfl, (cell_of_row W _ 3 _ _ _ h).trans rfl, (cell_of_row W _ 4 _ _ _ h).trans rfl, (cell_of_row W _ 5 _ _ _ h).trans rfl, (cell_of_row W _ 6 _ _ _ h).trans rfl, (cell_of_row W _ 7 _ _ _ h).trans rfl, (cell_of_row W _ 8 _ _ _ h).trans rfl, (cell_of_row W _ 9 _ _ _ h).trans rfl, (cell_of_row W _ 10 _ _ _ h).trans rfl⟩
theorem rule_al (w : World) (o : Obj) : Below w.heap.size w (w.alloc o) := (Below.refl _ _).alloc (Nat.le_refl _) _
/-- day.Check, either way -/
theorem dayCheck_any (k wd n : Int) (w : World) :
    Calls Tryd.prog 41 #[dayV k wd n] w fun e w' => e = .returned (.int .i64 (if dayB k wd n = true then 0 else 1)) ∧ Below w.heap.size w w' := by
  by_cases h : dayB k wd n = true
  · rw [if_pos h]; exact Check_ok k wd n w h
  · rw [if_neg h]; exact Check_no k wd n w (eq_false_of_ne_true h)

def ruB (N L A F T M D G X Y Z : Bool) : Int :=
  if (!N || (!L && !A)) = true then 3 else if (!F || !T || !M) = true then 1 else if D = false then 1 else if (G || !X || !Y || !Z) = true then 1 else 0
theorem ruChk_eq (r : Ru) : ruChk r = ruB (nameB r.nm) (decide (r.lt.toList = [45])) (abbrB r.lt) (withinB r.yf 1900 2100) (withinB r.yt r.yf 2100) (withinB r.mo 1 12) (dayB r.dk r.dw r.dn) (decide (Civ.mlen 1901 r.mo < r.dn)) (withinB r.tm (-604800) 604800) (withinB r.ck 0 2) (withinB r.sv 0 10800) := by
  unfold ruChk ruB withinB
  simp only [Bool.or_eq_true, Bool.and_eq_true, Bool.not_eq_true', decide_eq_true_eq, decide_eq_false_iff_not]
  grind
def ruC (F T M D G X Y Z : Bool) : Int := if (!F || !T || !M) = true then 1 else if D = false then 1 else if (G || !X || !Y || !Z) = true then 1 else 0
theorem ruB_bad (L A F T M D G X Y Z : Bool) (h : (!L && !A) = true) : ruB true L A F T M D G X Y Z = 3 := by
  unfold ruB
  rw [if_pos (by rw [h]; rfl)]
theorem ruB_la (L A F T M D G X Y Z : Bool) (h : (!L && !A) = false) : ruB true L A F T M D G X Y Z = ruC F T M D G X Y Z := by
  unfold ruB
  rw [if_neg (by rw [h]; simp)]
  rfl
theorem ruB_la' (N L A F T M D G X Y Z : Bool) (hN : N = true) (h : (!L && !A) = false) : ruB N L A F T M D G X Y Z = ruC F T M D G X Y Z := by
  subst hN; exact ruB_la _ _ _ _ _ _ _ _ _ _ h
theorem dayErr (D : Bool) : (if D = true then (0 : Int) else 1) = if D = false then 1 else 0 := by cases D <;> rfl

set_option maxRecDepth 100000 in
set_option maxHeartbeats 4000000 in
theorem ruCheck_any (r : Ru) (w : World) (h1 : r.nm.size ≤ maxLen) (h2 : r.lt.size ≤ maxLen) :
    Calls Tryd.prog 18 #[ruV r] w fun e w' => e = .returned (.int .i64 (ruChk r)) ∧ Below w.heap.size w w' := by
  obtain ⟨W0, eW⟩ : ∃ W0, w.alloc (.cells (ruCells r) 35) = W0 := ⟨_, rfl⟩
  have HX : Hid (RuBx W0 w.heap.size r) := by show RuBx _ _ _; rw [← eW]; exact RuBx.box w r
  have HB : Hid (Below w.heap.size w W0) := by show Below _ _ _; rw [← eW]; exact (Below.refl _ _).alloc (Nat.le_refl _) _
  have HEW := Lib.hid eW
  have HQ := Lib.hid (ruChk_eq r)
  obtain ⟨nm, yf, yt, mo, dk, dw, dn, tm, ck, sv, lt⟩ := r
  obtain ⟨x0, x1, x2, x3, x4, x5, x6, x7, x8, x9, x10⟩ := HX.out.cells
  have hl0 := HX.out.lt
  simp only at h1 h2 x0 x1 x2 x3 x4 x5 x6 x7 x8 x9 x10
  clear eW
  go_enter Tryd.func18, Tryd.ntmps18
  go_wp2_with fail
  rw [HEW.out]
  refine (isName_any nm _ h1).mono ?_
  obtain ⟨N, eN⟩ : ∃ N, nameB nm = N := ⟨_, rfl⟩
  rw [eN]
  have HN := Lib.hid eN
  clear eN
  rintro e w1 ⟨rfl, rfl⟩
  cases N with
  | false =>
    go_wp2
    go_ret
    exact ⟨ret_int' (by rw [HQ.out, HN.out]; rfl), HB.out⟩
  | true =>
  have hla : ∃ LA, (!decide (lt.toList = [45]) && !abbrB lt) = LA := ⟨_, rfl⟩
  obtain ⟨LA, eLA⟩ := hla
  have HLA := Lib.hid eLA
  by_cases hL : lt.toList = [45]
  case' pos =>
    have hL2 : (!lt.toList == [45]) = false := by rw [hL]; rfl
    have hf : LA = false := by rw [← eLA]; simp [hL]
    subst hf
    clear eLA
    go_wp2_with fail
  case' neg =>
    have hL2 : (!lt.toList == [45]) = true := by simp [hL]
    go_wp2_with fail
    refine (isAbbr_any lt _ h2).mono ?_
    obtain ⟨A, eA⟩ : ∃ A, abbrB lt = A := ⟨_, rfl⟩
    rw [eA]
    rintro e w1 ⟨rfl, rfl⟩
    cases A
    case false =>
      have hf : LA = true := by rw [← eLA]; simp [hL, eA]
      subst hf
      clear eLA eA
      go_wp2
      go_ret
      exact ⟨ret_int' (by rw [HQ.out, HN.out]; exact (ruB_bad _ _ _ _ _ _ _ _ _ _ HLA.out).symm), HB.out⟩
    have hf : LA = false := by rw [← eLA]; simp [eA]
    subst hf
    clear eLA eA
    go_wp2_with fail
  all_goals
    have HQ2 := Lib.hid (HQ.out.trans (ruB_la' _ _ _ _ _ _ _ _ _ _ _ HN.out HLA.out))
    clear hL hL2 HLA HQ HN
    refine (rule_within yf 1900 2100 _).mono ?_
    obtain ⟨F, eF⟩ : ∃ F, withinB yf 1900 2100 = F := ⟨_, rfl⟩
    rw [eF]
    have HF := Lib.hid eF
    clear eF
    rintro e w1 ⟨rfl, rfl⟩
    cases F with
    | false =>
      go_wp2
      go_ret
      exact ⟨ret_int' (by rw [HQ2.out, HF.out]; rfl), HB.out⟩
    | true =>
    go_wp2_with fail
    refine (rule_within yt yf 2100 _).mono ?_
    obtain ⟨T, eT⟩ : ∃ T, withinB yt yf 2100 = T := ⟨_, rfl⟩
    rw [eT]
    have HT := Lib.hid eT
    clear eT
    rintro e w1 ⟨rfl, rfl⟩
    cases T with
    | false =>
      go_wp2
      go_ret
      exact ⟨ret_int' (by rw [HQ2.out, HF.out, HT.out]; rfl), HB.out⟩
    | true =>
    go_wp2_with fail
    refine (rule_within mo 1 12 _).mono ?_
    obtain ⟨M, eM⟩ : ∃ M, withinB mo 1 12 = M := ⟨_, rfl⟩
    rw [eM]
    have HM := Lib.hid eM
    clear eM
    rintro e w1 ⟨rfl, rfl⟩
    cases M with
    | false =>
      go_wp2
      go_ret
      exact ⟨ret_int' (by rw [HQ2.out, HF.out, HT.out, HM.out]; rfl), HB.out⟩
    | true =>
    go_wp2_with fail
    have hm := withinB_iff.1 HM.out
    refine (dayCheck_any dk dw dn _).mono ?_
    obtain ⟨D, eD⟩ : ∃ D, dayB dk dw dn = D := ⟨_, rfl⟩
    rw [eD]
    have HD := Lib.hid eD
    clear eD
    rintro e w2 ⟨rfl, hb2⟩
    have HX1 := Lib.hid (HX.out.below (hb2.mono (Nat.le_refl _)))
    have HB1 := Lib.hid (HB.out.trans (hb2.mono HB.out.size))
    clear hb2 HX HB x0 x1 x2 x3 x4 x5 x6 x7 x8 x9 x10 hl0
    obtain ⟨x0, x1, x2, x3, x4, x5, x6, x7, x8, x9, x10⟩ := HX1.out.cells
    have hl1 := HX1.out.lt
    simp only at x0 x1 x2 x3 x4 x5 x6 x7 x8 x9 x10
    cases D with
    | false =>
      go_wp2
      go_ret
      exact ⟨ret_int' (by rw [HQ2.out, HF.out, HT.out, HM.out, HD.out]; rfl), HB1.out⟩
    | true =>
    go_wp2_with fail
    refine (Length_ok 1901 mo _ (by decide) (by decide) hm.1 hm.2).mono ?_
    obtain ⟨lng, eG⟩ : ∃ lng, Civ.mlen 1901 mo = lng := ⟨_, rfl⟩
    rw [eG]
    rintro e w' ⟨rfl, rfl⟩
    have HG0 := Lib.hid eG
    clear eG
    by_cases hG : lng < dn
    case pos =>
      have HG : Hid (decide (Civ.mlen 1901 mo < dn) = true) := by show _ = _; rw [HG0.out]; exact decide_eq_true hG
      go_wp2
      go_ret
      exact ⟨ret_int' (by rw [HQ2.out, HF.out, HT.out, HM.out, HD.out, HG.out]; rfl), HB1.out⟩
    have HG : Hid (decide (Civ.mlen 1901 mo < dn) = false) := by show _ = _; rw [HG0.out]; exact decide_eq_false hG
    go_wp2_with fail
    refine (rule_within tm (-604800) 604800 _).mono ?_
    obtain ⟨X, eX⟩ : ∃ X, withinB tm (-604800) 604800 = X := ⟨_, rfl⟩
    rw [eX]
    have HX := Lib.hid eX
    clear eX
    rintro e w' ⟨rfl, rfl⟩
    cases X with
    | false =>
      go_wp2
      go_ret
      exact ⟨ret_int' (by rw [HQ2.out, HF.out, HT.out, HM.out, HD.out, HG.out, HX.out]; rfl), HB1.out⟩
    | true =>
    go_wp2_with fail
    refine (rule_within ck 0 2 _).mono ?_
    obtain ⟨Y, eY⟩ : ∃ Y, withinB ck 0 2 = Y := ⟨_, rfl⟩
    rw [eY]
    have HY := Lib.hid eY
    clear eY
    rintro e w' ⟨rfl, rfl⟩
    cases Y with
    | false =>
      go_wp2
      go_ret
      exact ⟨ret_int' (by rw [HQ2.out, HF.out, HT.out, HM.out, HD.out, HG.out, HX.out, HY.out]; rfl), HB1.out⟩
    | true =>
    go_wp2_with fail
    refine (rule_within sv 0 10800 _).mono ?_
    obtain ⟨Z, eZ⟩ : ∃ Z, withinB sv 0 10800 = Z := ⟨_, rfl⟩
    rw [eZ]
    have HZ := Lib.hid eZ
    clear eZ
    rintro e w' ⟨rfl, rfl⟩
    cases Z with
    | false =>
      go_wp2
      go_ret
      exact ⟨ret_int' (by rw [HQ2.out, HF.out, HT.out, HM.out, HD.out, HG.out, HX.out, HY.out, HZ.out]; rfl), HB1.out⟩
    | true =>
    go_wp2
    go_ret
    exact ⟨ret_int' (by rw [HQ2.out, HF.out, HT.out, HM.out, HD.out, HG.out, HX.out, HY.out, HZ.out]; rfl), HB1.out⟩

end Go.Proofs.YtlgdilpmdoofiaaDoor
