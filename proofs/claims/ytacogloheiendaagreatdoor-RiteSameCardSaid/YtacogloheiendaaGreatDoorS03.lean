/- book.Abbr: what it returns. rule.within, rule.Check: what each returns. A book in memory; the abbreviations of an era. Rows of one's own: what keeps them, their cells. slices.ContainsFunc of rules, zones and links, at a function that leaves what lay below. (checker).era: what it returns. -/
import Derived.Test.YtacogloheiendaaGreatDoorS02
import Derived.Deep.CutBlock
import Derived.Deep.DeepCutAuto
import Derived.Test.YtacogloheiendaaGreatDoorS01
import Derived.BigQuiet
import Derived.Handy
import Derived.Deep.MidRow
import Derived.Deep.LoopGhost
import Derived.WalkKit
import Derived.OwnWalk
import Derived.Below
import Derived.Laws.NewBlocks
import Derived.Laws.OwnMore
import Derived.Sort.Walk0
import Derived.Deep.RegionHeld3
namespace Go.Proofs.YtacogloheiendaaGreatDoor
open Go.RowKit Go.Joins
open Classical
set_option linter.unusedVariables false
set_option linter.unusedSimpArgs false

theorem splitF_cases (f a b c : List UInt8) (x : Bool) (h : splitF f = (a, b, c, x)) : (c = [47] ∨ c = [37] ∨ c = []) ∧ a.length ≤ 12 ∧ b.length ≤ 12 := by
  have l1 := cut_le f [47]
  have l2 := cut_le f [37]
  unfold splitF at h
  split at h
  · injection h with h1 h; injection h with h2 h; injection h with h3 h4
    subst h1; subst h2; subst h3
    exact ⟨Or.inr (Or.inr rfl), by simp, by simp⟩
  · split at h
    · injection h with h1 h; injection h with h2 h; injection h with h3 h4
      subst h1; subst h2; subst h3
      exact ⟨Or.inl rfl, by omega, by omega⟩
    · split at h
      · injection h with h1 h; injection h with h2 h; injection h with h3 h4
        subst h1; subst h2; subst h3
        exact ⟨Or.inr (Or.inl rfl), by omega, by omega⟩
      · injection h with h1 h; injection h with h2 h; injection h with h3 h4
        subst h1; subst h2; subst h3
        exact ⟨Or.inr (Or.inr rfl), by omega, by simp⟩
theorem letter_len {l : List UInt8} (h : letterOk l = true) : l.length ≤ 8 := by
  unfold letterOk at h
  simp only [Bool.or_eq_true, decide_eq_true_eq] at h
  rcases h with h | h
  · rw [h]; simp
  · unfold abbrB allB at h
    simp only [Bool.and_eq_true, decide_eq_true_eq] at h
    have := h.2
    rw [txt_size] at this
    omega
theorem abbrF_3 (f l : List UInt8) (save : Int) (h : (splitF f).2.2.2 = false ∨ letterOk l = false) : abbrF f save l = ([], 3) := by unfold abbrF; rw [if_pos h]
theorem abbrF_1 (f l : List UInt8) (save : Int) (h : ¬ ((splitF f).2.2.2 = false ∨ letterOk l = false)) (h2 : ¬ (0 ≤ save ∧ save ≤ 10800)) : abbrF f save l = ([], 1) := by unfold abbrF; rw [if_neg h, if_pos h2]
theorem abbrF_0 (f l : List UInt8) (save : Int) (h : ¬ ((splitF f).2.2.2 = false ∨ letterOk l = false)) (h2 : 0 ≤ save ∧ save ≤ 10800) : abbrF f save l = if 8 < (abbrN f save l).length then ([], 2) else if abbrN f save l = [] then ([], 5) else (abbrN f save l, 0) := by unfold abbrF; rw [if_neg h, if_neg (fun h' => h' h2)]
theorem abbrN_1 (f l a b : List UInt8) (x : Bool) (save : Int) (h : splitF f = (a, b, [47], x)) : abbrN f save l = if save = 0 then a else b := by unfold abbrN; rw [h]; rfl
theorem abbrN_2 (f l a b : List UInt8) (x : Bool) (save : Int) (h : splitF f = (a, b, [37], x)) : abbrN f save l = a ++ ((if l = [45] then [] else l) ++ b) := by unfold abbrN; rw [h]; rfl
theorem abbrN_3 (f l a b : List UInt8) (x : Bool) (save : Int) (h : splitF f = (a, b, [], x)) : abbrN f save l = a := by unfold abbrN; rw [h]; rfl

set_option maxRecDepth 100000 in
set_option maxHeartbeats 4000000 in
theorem Abbr_any (f l : List UInt8) (save : Int) (w : World) (hf : f.length ≤ 9223372036854775807) (hl : l.length ≤ 9223372036854775807) (hm : MaxLen w) :
    Calls Tryz.prog 56 #[.string (txt f), .int .i64 save, .string (txt l)] w fun e w' => e = .returned (.tuple #[.string (txt (abbrF f save l).1), .int .i64 (abbrF f save l).2]) ∧ Below w.heap.size w w' := by
  have HSP := Lib.hid (split_any f w hf hm)
  have HLT := Lib.hid (fun W => bookLetter_any (txt l) W (by rw [txt_size]; unfold maxLen; omega))
  have HWI := Lib.hid (fun W => book_within save 0 10800 W)
  have HR3 := Lib.hid (abbrF_3 f l save)
  have HR1 := Lib.hid (abbrF_1 f l save)
  have HR0 := Lib.hid (abbrF_0 f l save)
  obtain ⟨R, eR⟩ : ∃ R, abbrF f save l = R := ⟨_, rfl⟩
  rw [eR] at HR3 HR1 HR0 ⊢
  clear hf hl hm eR
  go_enter Tryz.func56, Tryz.ntmps56
  go_wp2_with fail
  refine HSP.out.mono ?_
  rintro e w1 ⟨⟨a, b, c, x, hsp, rfl⟩, hb1⟩
  have HB1 := Lib.hid hb1
  have hx : (splitF f).2.2.2 = x := by rw [hsp]
  rw [hx] at HR3 HR1 HR0
  have HSF := Lib.hid hsp
  clear hb1 hx hsp HSP
  cases x with
  | false =>
    have e3 := Lib.hid (HR3.out (Or.inl rfl))
    go_wp2_with fail
    go_ret2
    exact ⟨by rw [e3.out]; rfl, HB1.out⟩
  | true =>
  go_wp2_with fail
  refine (HLT.out _).mono ?_
  rw [txt_data]
  obtain ⟨y, ey⟩ : ∃ y, letterOk l = y := ⟨_, rfl⟩
  rw [ey] at HR3 HR1 HR0 ⊢
  rintro e w' ⟨rfl, rfl⟩
  have HY := Lib.hid ey
  clear ey HLT
  cases y with
  | false =>
    have e3 := Lib.hid (HR3.out (Or.inr rfl))
    go_wp2_with fail
    go_ret2
    exact ⟨by rw [e3.out]; rfl, HB1.out⟩
  | true =>
  go_wp2_with fail
  refine (HWI.out _).mono ?_
  obtain ⟨z, ez⟩ : ∃ z, withinB save 0 10800 = z := ⟨_, rfl⟩
  rw [ez]
  rintro e w' ⟨rfl, rfl⟩
  cases z with
  | false =>
    have e1 := Lib.hid (HR1.out (by simp) (fun h => by rw [withinB_iff.2 h] at ez; cases ez))
    clear ez
    go_wp2_with fail
    go_ret2
    exact ⟨by rw [e1.out]; rfl, HB1.out⟩
  | true =>
  have e0 := Lib.hid (HR0.out (by simp) (withinB_iff.1 ez))
  clear ez HR0 HR1 HR3 HWI
  obtain ⟨hc, la, lb⟩ := splitF_cases f a b c true HSF.out
  have ll := letter_len HY.out
  obtain ⟨N, eN⟩ : ∃ N, abbrN f save l = N := ⟨_, rfl⟩
  have EN := Lib.hid eN
  rw [eN] at e0
  clear eN
  go_upto_block 1 with fail
  go_cut [8] (fun s8 wx => s8 = .string (txt N) ∧ wx = w1)
  case first =>
    rcases hc with rfl | rfl | rfl
    · have hn := abbrN_1 f l a b true save HSF.out
      rw [EN.out] at hn
      have t1 : ((txt [47]).toList == [47]) = true := by rw [bytes_toList_txt]; rfl
      by_cases h0 : save = 0
      · subst h0
        rw [if_pos rfl] at hn
        have HN := Lib.hid hn
        clear hn
        go_wp2_with fail
        go_meet
        exact ⟨by rw [HN.out], rfl⟩
      · rw [if_neg h0] at hn
        have hz : (save == 0) = false := by simpa using h0
        have hz2 : (!save == 0) = true := by rw [hz]; rfl
        have HN := Lib.hid hn
        clear hn h0
        go_wp2_with fail
        go_meet
        exact ⟨by rw [HN.out], rfl⟩
    · have hn := abbrN_2 f l a b true save HSF.out
      rw [EN.out] at hn
      have t1 : ((txt [37]).toList == [47]) = false := by rw [bytes_toList_txt]; rfl
      have t2 : ((txt [37]).toList == [37]) = true := by rw [bytes_toList_txt]; rfl
      by_cases h0 : l = [45]
      · subst h0
        rw [if_pos rfl, List.nil_append] at hn
        have t3 : ((txt [45]).toList == [45]) = true := by rw [bytes_toList_txt]; rfl
        have ra := fun W => run_string_add_sum (P := Tryz.prog) W ⟨#[]⟩ (txt b) (by rw [txt_size]; show 0 + b.length ≤ _; omega)
        rw [show (⟨#[]⟩ : ByteArray) ++ txt b = txt b from txt_append [] b] at ra
        have rb := fun W => run_string_add_sum (P := Tryz.prog) W (txt a) (txt b) (by rw [txt_size, txt_size]; omega)
        rw [txt_append] at rb
        have HN := Lib.hid hn
        clear hn
        go_wp2_with fail
        go_meet
        exact ⟨by rw [HN.out], rfl⟩
      · rw [if_neg h0] at hn
        have t3 : ((txt l).toList == [45]) = false := by rw [bytes_toList_txt]; simpa using h0
        have ra := fun W => run_string_add_sum (P := Tryz.prog) W (txt l) (txt b) (by rw [txt_size, txt_size]; omega)
        rw [txt_append] at ra
        have rb := fun W => run_string_add_sum (P := Tryz.prog) W (txt a) (txt (l ++ b)) (by rw [txt_size, txt_size, List.length_append]; omega)
        rw [txt_append] at rb
        have HN := Lib.hid hn
        clear hn h0
        go_wp2_with fail
        go_meet
        exact ⟨by rw [HN.out], rfl⟩
    · have hn := abbrN_3 f l a b true save HSF.out
      rw [EN.out] at hn
      have t1 : ((txt []).toList == [47]) = false := by rw [bytes_toList_txt]; rfl
      have t2 : ((txt []).toList == [37]) = false := by rw [bytes_toList_txt]; rfl
      have HN := Lib.hid hn
      clear hn
      go_wp2_with fail
      go_meet
      exact ⟨by rw [HN.out], rfl⟩
  case rest =>
  obtain ⟨rfl, rfl⟩ := hcut
  have hsz : (txt N).size = N.length := txt_size N
  clear hc la lb ll
  by_cases h8 : 8 < N.length
  · have e2 := e0.out
    rw [if_pos h8] at e2
    have E2 := Lib.hid e2
    have z8 : (8 : Int) < (N.length : Int) := by omega
    clear h8 e2 e0
    go_wp2_with fail
    go_ret2
    exact ⟨by rw [E2.out]; rfl, HB1.out⟩
  · have e2 := e0.out
    rw [if_neg h8] at e2
    have z8 : ¬ (8 : Int) < (N.length : Int) := by omega
    by_cases hN0 : N = []
    · rw [if_pos hN0] at e2
      have E2 := Lib.hid e2
      have b0 : (txt N).toList.isEmpty = true := by rw [bytes_toList_txt, hN0]; rfl
      clear h8 e2 e0 hN0
      go_wp2_with fail
      go_ret2
      exact ⟨by rw [E2.out]; rfl, HB1.out⟩
    · rw [if_neg hN0] at e2
      have E2 := Lib.hid e2
      have b0 : (txt N).toList.isEmpty = false := by
        rw [bytes_toList_txt]
        cases N with
        | nil => exact absurd rfl hN0
        | cons c r => rfl
      clear h8 e2 e0 hN0
      go_wp2_with fail
      go_ret2
      exact ⟨by rw [E2.out]; rfl, HB1.out⟩
end Go.Proofs.YtacogloheiendaaGreatDoor
namespace Go.Proofs.YtacogloheiendaaGreatDoor
open Go.RowKit Go.Joins
open Classical
set_option linter.unusedVariables false
set_option linter.unusedSimpArgs false

theorem rule_within (n a b : Int) (w : World) :
    Calls Tryz.prog 58 #[.int .i64 n, .int .i64 a, .int .i64 b] w fun e w' => e = .returned (.bool (withinB n a b)) ∧ w = w' := by
  by_cases h1 : a ≤ n <;> by_cases h2 : n ≤ b <;>
  · go_enter Tryz.func58, Tryz.ntmps58
    go_wp2
    go_ret
    exact ⟨ret_bool (by simp [withinB, h1, h2]), rfl⟩

abbrev ruCells (r : Ru) : Array Value := #[.string r.nm, .int .i64 r.yf, .int .i64 r.yt, .int .i64 r.mo, .int .i64 r.dk, .int .i64 r.dw, .int .i64 r.dn, .int .i64 r.tm, .int .i64 r.ck, .int .i64 r.sv, .string r.lt]
abbrev ruV (r : Ru) : Value := .agg (ruCells r)
def RuBx (W : World) (B : Nat) (r : Ru) : Prop := W.heap[B]? = some (.cells (ruCells r) 59 (0, 0))
theorem RuBx.lt {W : World} {B : Nat} {r : Ru} (h : RuBx W B r) : B < W.heap.size := (Array.getElem?_eq_some_iff.mp h).1
theorem RuBx.below {w w' : World} {B : Nat} {r : Ru} (h : RuBx w B r) (hb : Below w.heap.size w w') : RuBx w' B r := (hb.block B h.lt).trans h
theorem RuBx.box (w : World) (r : Ru) : RuBx (w.alloc (.cells (ruCells r) 59)) w.heap.size r := heap_alloc_new w _
theorem RuBx.cells {W : World} {B : Nat} {r : Ru} (h : RuBx W B r) :
    W.cell? ⟨B, 0, none⟩ = some (.string r.nm) ∧ W.cell? ⟨B, 1, none⟩ = some (.int .i64 r.yf) ∧ W.cell? ⟨B, 2, none⟩ = some (.int .i64 r.yt) ∧ W.cell? ⟨B, 3, none⟩ = some (.int .i64 r.mo) ∧ W.cell? ⟨B, 4, none⟩ = some (.int .i64 r.dk) ∧ W.cell? ⟨B, 5, none⟩ = some (.int .i64 r.dw) ∧ W.cell? ⟨B, 6, none⟩ = some (.int .i64 r.dn) ∧ W.cell? ⟨B, 7, none⟩ = some (.int .i64 r.tm) ∧ W.cell? ⟨B, 8, none⟩ = some (.int .i64 r.ck) ∧ W.cell? ⟨B, 9, none⟩ = some (.int .i64 r.sv) ∧ W.cell? ⟨B, 10, none⟩ = some (.string r.lt) :=
  ⟨(cell_of_row W _ 0 _ _ _ h).trans rfl, (cell_of_row W _ 1 _ _ _ h).trans rfl, (cell_of_row W _ 2 _ _ _ h).trans rfl, (cell_of_row W _ 3 _ _ _ h).trans rfl, (cell_of_row W _ 4 _ _ _ h).trans rfl, (cell_of_row W _ 5 _ _ _ h).trans rfl, (cell_of_row W _ 6 _ _ _ h).trans rfl, (cell_of_row W _ 7 _ _ _ h).trans rfl, (cell_of_row W _ 8 _ _ _ h).trans rfl, (cell_of_row W _ 9 _ _ _ h).trans rfl, (cell_of_row W _ 10 _ _ _ h).trans rfl⟩
/-- day.Check, either way -/
theorem dayCheck_any (k wd n : Int) (w : World) :
    Calls Tryz.prog 59 #[dayV k wd n] w fun e w' => e = .returned (.int .i64 (if dayB k wd n = true then 0 else 1)) ∧ Below w.heap.size w w' := by
  by_cases h : dayB k wd n = true
  · rw [if_pos h]; exact Check_ok k wd n w h
  · rw [if_neg h]; exact Check_no k wd n w (eq_false_of_ne_true h)

def ruB (N L A F T M D G X Y Z : Bool) : Int :=
  if (!N || (!L && !A)) = true then 3 else if (!F || !T || !M) = true then 1 else if D = false then 1 else if (G || !X || !Y || !Z) = true then 1 else 0
theorem ruChk_eq (r : Ru) : ruChk r = ruB (nameB r.nm) (decide (r.lt.toList = [45])) (abbrB r.lt) (withinB r.yf 1900 2100) (withinB r.yt r.yf 2100) (withinB r.mo 1 12) (dayB r.dk r.dw r.dn) (decide (Civ.mlen 1901 r.mo < r.dn)) (withinB r.tm (-604800) 604800) (withinB r.ck 0 2) (withinB r.sv 0 10800) := by
  unfold ruChk ruB withinB
  simp only [Bool.or_eq_true, Bool.and_eq_true, Bool.not_eq_true', decide_eq_true_eq, decide_eq_false_iff_not]
  grind
def ruC (F T M D G X Y Z : Bool) : Int := if (!F || !T || !M) = true then 1 else if D = false then 1 else if (G || !X || !Y || !Z) = true then 1 else 0
theorem ruB_bad (L A F T M D G X Y Z : Bool) (h : (!L && !A) = true) : ruB true L A F T M D G X Y Z = 3 := by
  unfold ruB
  rw [if_pos (by rw [h]; rfl)]
theorem ruB_la (L A F T M D G X Y Z : Bool) (h : (!L && !A) = false) : ruB true L A F T M D G X Y Z = ruC F T M D G X Y Z := by
  unfold ruB
  rw [if_neg (by rw [h]; simp)]
  rfl
theorem ruB_la' (N L A F T M D G X Y Z : Bool) (hN : N = true) (h : (!L && !A) = false) : ruB N L A F T M D G X Y Z = ruC F T M D G X Y Z := by
  subst hN; exact ruB_la _ _ _ _ _ _ _ _ _ _ h
set_option maxRecDepth 100000 in
set_option maxHeartbeats 4000000 in
theorem ruCheck_any (r : Ru) (w : World) (h1 : r.nm.size ≤ maxLen) (h2 : r.lt.size ≤ maxLen) :
    Calls Tryz.prog 32 #[ruV r] w fun e w' => e = .returned (.int .i64 (ruChk r)) ∧ Below w.heap.size w w' := by
  obtain ⟨W0, eW⟩ : ∃ W0, w.alloc (.cells (ruCells r) 59) = W0 := ⟨_, rfl⟩
  have HX : Hid (RuBx W0 w.heap.size r) := by show RuBx _ _ _; rw [← eW]; exact RuBx.box w r
  have HB : Hid (Below w.heap.size w W0) := by show Below _ _ _; rw [← eW]; exact (Below.refl _ _).alloc (Nat.le_refl _) _
  have HEW := Lib.hid eW
  have HQ := Lib.hid (ruChk_eq r)
  obtain ⟨nm, yf, yt, mo, dk, dw, dn, tm, ck, sv, lt⟩ := r
  obtain ⟨x0, x1, x2, x3, x4, x5, x6, x7, x8, x9, x10⟩ := HX.out.cells
  have hl0 := HX.out.lt
  simp only at h1 h2 x0 x1 x2 x3 x4 x5 x6 x7 x8 x9 x10
  clear eW
  go_enter Tryz.func32, Tryz.ntmps32
  go_wp2_with fail
  rw [HEW.out]
  refine (isName_any nm _ h1).mono ?_
  obtain ⟨N, eN⟩ : ∃ N, nameB nm = N := ⟨_, rfl⟩
  rw [eN]
  have HN := Lib.hid eN
  clear eN
  rintro e w1 ⟨rfl, rfl⟩
  cases N with
  | false =>
    go_wp2
    go_ret
    exact ⟨ret_int' (by rw [HQ.out, HN.out]; rfl), HB.out⟩
  | true =>
  have hla : ∃ LA, (!decide (lt.toList = [45]) && !abbrB lt) = LA := ⟨_, rfl⟩
  obtain ⟨LA, eLA⟩ := hla
  have HLA := Lib.hid eLA
  by_cases hL : lt.toList = [45]
  case' pos =>
    have hL2 : (!lt.toList == [45]) = false := by rw [hL]; rfl
    have hf : LA = false := by rw [← eLA]; simp [hL]
    subst hf
    clear eLA
    go_wp2_with fail
  case' neg =>
    have hL2 : (!lt.toList == [45]) = true := by simp [hL]
    go_wp2_with fail
    refine (isAbbr_any lt _ h2).mono ?_
    obtain ⟨A, eA⟩ : ∃ A, abbrB lt = A := ⟨_, rfl⟩
    rw [eA]
    rintro e w1 ⟨rfl, rfl⟩
    cases A
    case false =>
      have hf : LA = true := by rw [← eLA]; simp [hL, eA]
      subst hf
      clear eLA eA
      go_wp2
      go_ret
      exact ⟨ret_int' (by rw [HQ.out, HN.out]; exact (ruB_bad _ _ _ _ _ _ _ _ _ _ HLA.out).symm), HB.out⟩
    have hf : LA = false := by rw [← eLA]; simp [eA]
    subst hf
    clear eLA eA
    go_wp2_with fail
  all_goals
    have HQ2 := Lib.hid (HQ.out.trans (ruB_la' _ _ _ _ _ _ _ _ _ _ _ HN.out HLA.out))
    clear hL hL2 HLA HQ HN
    refine (rule_within yf 1900 2100 _).mono ?_
    obtain ⟨F, eF⟩ : ∃ F, withinB yf 1900 2100 = F := ⟨_, rfl⟩
    rw [eF]
    have HF := Lib.hid eF
    clear eF
    rintro e w1 ⟨rfl, rfl⟩
    cases F with
    | false =>
      go_wp2
      go_ret
      exact ⟨ret_int' (by rw [HQ2.out, HF.out]; rfl), HB.out⟩
    | true =>
    go_wp2_with fail
    refine (rule_within yt yf 2100 _).mono ?_
    obtain ⟨T, eT⟩ : ∃ T, withinB yt yf 2100 = T := ⟨_, rfl⟩
    rw [eT]
    have HT := Lib.hid eT
    clear eT
    rintro e w1 ⟨rfl, rfl⟩
    cases T with
    | false =>
      go_wp2
      go_ret
      exact ⟨ret_int' (by rw [HQ2.out, HF.out, HT.out]; rfl), HB.out⟩
    | true =>
    go_wp2_with fail
    refine (rule_within mo 1 12 _).mono ?_
    obtain ⟨M, eM⟩ : ∃ M, withinB mo 1 12 = M := ⟨_, rfl⟩
    rw [eM]
    have HM := Lib.hid eM
    clear eM
    rintro e w1 ⟨rfl, rfl⟩
    cases M with
    | false =>
      go_wp2
      go_ret
      exact ⟨ret_int' (by rw [HQ2.out, HF.out, HT.out, HM.out]; rfl), HB.out⟩
    | true =>
    go_wp2_with fail
    have hm := withinB_iff.1 HM.out
    refine (dayCheck_any dk dw dn _).mono ?_
    obtain ⟨D, eD⟩ : ∃ D, dayB dk dw dn = D := ⟨_, rfl⟩
    rw [eD]
    have HD := Lib.hid eD
    clear eD
    rintro e w2 ⟨rfl, hb2⟩
    have HX1 := Lib.hid (HX.out.below (hb2.mono (Nat.le_refl _)))
    have HB1 := Lib.hid (HB.out.trans (hb2.mono HB.out.size))
    clear hb2 HX HB x0 x1 x2 x3 x4 x5 x6 x7 x8 x9 x10 hl0
    obtain ⟨x0, x1, x2, x3, x4, x5, x6, x7, x8, x9, x10⟩ := HX1.out.cells
    have hl1 := HX1.out.lt
    simp only at x0 x1 x2 x3 x4 x5 x6 x7 x8 x9 x10
    cases D with
    | false =>
      go_wp2
      go_ret
      exact ⟨ret_int' (by rw [HQ2.out, HF.out, HT.out, HM.out, HD.out]; rfl), HB1.out⟩
    | true =>
    go_wp2_with fail
    refine (Length_ok 1901 mo _ (by decide) (by decide) hm.1 hm.2).mono ?_
    obtain ⟨lng, eG⟩ : ∃ lng, Civ.mlen 1901 mo = lng := ⟨_, rfl⟩
    rw [eG]
    rintro e w' ⟨rfl, rfl⟩
    have HG0 := Lib.hid eG
    clear eG
    by_cases hG : lng < dn
    case pos =>
      have HG : Hid (decide (Civ.mlen 1901 mo < dn) = true) := by show _ = _; rw [HG0.out]; exact decide_eq_true hG
      go_wp2
      go_ret
      exact ⟨ret_int' (by rw [HQ2.out, HF.out, HT.out, HM.out, HD.out, HG.out]; rfl), HB1.out⟩
    have HG : Hid (decide (Civ.mlen 1901 mo < dn) = false) := by show _ = _; rw [HG0.out]; exact decide_eq_false hG
    go_wp2_with fail
    refine (rule_within tm (-604800) 604800 _).mono ?_
    obtain ⟨X, eX⟩ : ∃ X, withinB tm (-604800) 604800 = X := ⟨_, rfl⟩
    rw [eX]
    have HX := Lib.hid eX
    clear eX
    rintro e w' ⟨rfl, rfl⟩
    cases X with
    | false =>
      go_wp2
      go_ret
      exact ⟨ret_int' (by rw [HQ2.out, HF.out, HT.out, HM.out, HD.out, HG.out, HX.out]; rfl), HB1.out⟩
    | true =>
    go_wp2_with fail
    refine (rule_within ck 0 2 _).mono ?_
    obtain ⟨Y, eY⟩ : ∃ Y, withinB ck 0 2 = Y := ⟨_, rfl⟩
    rw [eY]
    have HY := Lib.hid eY
    clear eY
    rintro e w' ⟨rfl, rfl⟩
    cases Y with
    | false =>
      go_wp2
      go_ret
      exact ⟨ret_int' (by rw [HQ2.out, HF.out, HT.out, HM.out, HD.out, HG.out, HX.out, HY.out]; rfl), HB1.out⟩
    | true =>
    go_wp2_with fail
    refine (rule_within sv 0 10800 _).mono ?_
    obtain ⟨Z, eZ⟩ : ∃ Z, withinB sv 0 10800 = Z := ⟨_, rfl⟩
    rw [eZ]
    have HZ := Lib.hid eZ
    clear eZ
    rintro e w' ⟨rfl, rfl⟩
    cases Z with
    | false =>
      go_wp2
      go_ret
      exact ⟨ret_int' (by rw [HQ2.out, HF.out, HT.out, HM.out, HD.out, HG.out, HX.out, HY.out, HZ.out]; rfl), HB1.out⟩
    | true =>
    go_wp2
    go_ret
    exact ⟨ret_int' (by rw [HQ2.out, HF.out, HT.out, HM.out, HD.out, HG.out, HX.out, HY.out, HZ.out]; rfl), HB1.out⟩

end Go.Proofs.YtacogloheiendaaGreatDoor
namespace Go.Proofs.YtacogloheiendaaGreatDoor
open Go.RowKit Go.Joins
open Classical
set_option linter.unusedVariables false
set_option linter.unusedSimpArgs false

/-- a slice of structs of k cells lies below block B -/
def RowsAt {α : Type} (cells : α → List Value) (k B : Nat) (W : World) (v : Value) (l : List α) : Prop :=
  ∃ p cap, v = .slice p l.length cap ∧ (l.length ≤ 140737488351232 ∧ l.length ≤ cap) ∧ (l ≠ [] → ∃ b o, p = some ⟨b, o, none⟩ ∧ b < B ∧ ∀ i (h : i < l.length) (j : Nat) (u : Value), (cells l[i])[j]? = some u → W.cell? ⟨b, o + i * k + j, none⟩ = some u)
theorem RowsAt.below {α : Type} {cells : α → List Value} {k B B' : Nat} {W W' : World} {v : Value} {l : List α} (h : RowsAt cells k B W v l) (hb : Below B' W W') (hB : B ≤ B') : RowsAt cells k B W' v l := by
  obtain ⟨p, cap, rfl, hl, h⟩ := h
  refine ⟨p, cap, rfl, hl, fun hn => ?_⟩
  obtain ⟨b, o, rfl, hlt, hc⟩ := h hn
  exact ⟨b, o, rfl, hlt, fun i hi j u hu => (hb.cell (p := ⟨b, o + i * k + j, none⟩) (Nat.lt_of_lt_of_le hlt hB)).trans (hc i hi j u hu)⟩
abbrev erCells (x : Er) : Array Value := #[.int .i64 x.off, .string x.ru, .int .i64 x.sv, .string x.fm, .int .i64 x.un]
abbrev erV (x : Er) : Value := .agg (erCells x)
abbrev zoCells (z : Zo) : List Value := [.string z.nm, z.ev]
abbrev lkCells (z : Lk) : List Value := [.string z.nm, .string z.tg]
def SzR (r : Ru) : Prop := r.nm.size ≤ 140737488351232 ∧ r.lt.size ≤ 140737488351232
def SzE (x : Er) : Prop := x.ru.size ≤ 140737488351232 ∧ x.fm.size ≤ 140737488351232 ∧ -9223372036854775808 ≤ x.off ∧ x.off ≤ 9223372036854775807 ∧ -9223372036854775808 ≤ x.sv ∧ x.sv ≤ 9223372036854775807 ∧ -9223372036854775808 ≤ x.un ∧ x.un ≤ 9223372036854775807
structure BookAt (B : Nat) (W : World) (rv zv lv : Value) (b : Bk) : Prop where
  r : RowsAt (fun r : Ru => (ruCells r).toList) 11 B W rv b.rules
  z : RowsAt zoCells 2 B W zv b.zones
  e : ∀ z ∈ b.zones, RowsAt (fun x : Er => (erCells x).toList) 5 B W z.ev z.eras
  l : RowsAt lkCells 2 B W lv b.links
  rs : ∀ r ∈ b.rules, SzR r
  zs : ∀ z ∈ b.zones, z.nm.size ≤ 140737488351232 ∧ ∀ x ∈ z.eras, SzE x
  ls : ∀ x ∈ b.links, x.nm.size ≤ 140737488351232 ∧ x.tg.size ≤ 140737488351232
theorem BookAt.below {B B' : Nat} {W W' : World} {rv zv lv : Value} {b : Bk} (h : BookAt B W rv zv lv b) (hb : Below B' W W') (hB : B ≤ B') : BookAt B W' rv zv lv b :=
  ⟨h.r.below hb hB, h.z.below hb hB, fun z hz => (h.e z hz).below hb hB, h.l.below hb hB, h.rs, h.zs, h.ls⟩
/-- the checker's box: three slices -/
def ChkBx (W : World) (cb : Nat) (rv zv lv : Value) : Prop := W.heap[cb]? = some (.cells #[rv, zv, lv] 91 (0, 0))
theorem ChkBx.below {W W' : World} {cb B : Nat} {rv zv lv : Value} (h : ChkBx W cb rv zv lv) (hb : Below B W W') (hlt : cb < B) : ChkBx W' cb rv zv lv := (hb.block cb hlt).trans h

theorem ret_E {a b : Int} (h : a = b) : Ending.returned (.int .i64 a) = .returned (.int .i64 b) := by rw [h]
abbrev abRule (x : Er) (r : Ru) : Int := if r.nm = x.ru then abE x.fm r.sv r.lt else 0

set_option maxRecDepth 100000 in
set_option maxHeartbeats 8000000 in
theorem abbrs_any (x : Er) (rules : List Ru) (rv zv lv : Value) (cb : Nat) (w : World) (hC : ChkBx w cb rv zv lv) (hR : RowsAt (fun r : Ru => (ruCells r).toList) 11 w.heap.size w rv rules) (hs : ∀ r ∈ rules, SzR r) (hx : SzE x) (hm : MaxLen w) :
    Calls Tryz.prog 88 #[.pointer (some ⟨cb, 0, none⟩), erV x] w fun e w' => e = .returned (.int .i64 (abbrsChk rules x)) ∧ Below w.heap.size w w' := by
  have hcb : cb < w.heap.size := (Array.getElem?_eq_some_iff.mp hC).1
  obtain ⟨hx1, hx2, _, _, _, _, _, _⟩ := hx
  have HAB : Hid (∀ (sv : Int) (lt : ByteArray) (W : World), lt.size ≤ 140737488351232 → MaxLen W → Calls Tryz.prog 56 #[.string x.fm, .int .i64 sv, .string lt] W fun e w' => e = .returned (.tuple #[.string (txt (abbrF x.fm.data.toList sv lt.data.toList).1), .int .i64 (abE x.fm sv lt)]) ∧ Below W.heap.size W w') := by
    show ∀ (sv : Int) (lt : ByteArray) (W : World), _
    intro sv lt W hl hm
    exact Abbr_any x.fm.data.toList lt.data.toList sv W (by rw [← Lib.size_eq]; omega) (by rw [← Lib.size_eq]; omega) hm
  obtain ⟨W0, eW⟩ : ∃ W0, w.alloc (.cells (erCells x) 54) = W0 := ⟨_, rfl⟩
  have hb0 : Below w.heap.size w W0 := by rw [← eW]; exact (Below.refl _ _).alloc (Nat.le_refl _) _
  have hbx : W0.heap[w.heap.size]? = some (.cells (erCells x) 54 (0, 0)) := by rw [← eW]; exact heap_alloc_new w _
  have hz0 : W0.heap.size = w.heap.size + 1 := by rw [← eW]; simp
  have hp0 := hC.below hb0 hcb
  have HR0 := Lib.hid (hR.below hb0 (Nat.le_refl _))
  have HM0 := Lib.hid (hm.below hb0)
  have HB0 := Lib.hid hb0
  have HP0 := Lib.hid hp0
  have HBX := Lib.hid hbx
  have HZ0 := Lib.hid hz0
  have HEW := Lib.hid eW
  have HS := Lib.hid hs
  clear hb0 hbx hz0 hp0 eW hs hR hm
  obtain ⟨off, ru, sv, fm, un⟩ := x
  have x1 := (cell_of_row W0 _ 1 _ _ _ HBX.out).trans rfl
  have x2 := (cell_of_row W0 _ 2 _ _ _ HBX.out).trans rfl
  have x3 := (cell_of_row W0 _ 3 _ _ _ HBX.out).trans rfl
  by_cases hru : ru.toList = []
  · have b0 : ru.toList.isEmpty = true := by rw [hru]; rfl
    have HK : Hid (abbrsChk rules ⟨off, ru, sv, fm, un⟩ = abE fm sv ⟨#[45]⟩) := by show _ = _; unfold abbrsChk; rw [if_pos (by rw [← ByteArray.toList_eq]; exact hru)]
    have HC0 := Lib.hid (HAB.out sv ⟨#[45]⟩ W0 (by decide) HM0.out)
    clear hru HS HAB
    go_enter Tryz.func88, Tryz.ntmps88
    go_wp2_with fail
    rw [HEW.out]
    refine HC0.out.mono ?_
    obtain ⟨E, eE⟩ : ∃ E, abE fm sv ⟨#[45]⟩ = E := ⟨_, rfl⟩
    rw [eE] at HK ⊢
    rintro e w1 ⟨rfl, hb1⟩
    have HB1 := Lib.hid (HB0.out.trans (hb1.mono HB0.out.size))
    clear hb1 eE HC0
    go_wp2_with fail
    go_ret
    exact ⟨ret_E HK.out.symm, HB1.out⟩
  · have b0 : ru.toList.isEmpty = false := by
      cases e : ru.toList with
      | nil => exact absurd e hru
      | cons c r => rfl
    have HK : Hid (abbrsChk rules ⟨off, ru, sv, fm, un⟩ = if firstE (abRule ⟨off, ru, sv, fm, un⟩) rules = 0 then abE fm 0 ⟨#[45]⟩ else firstE (abRule ⟨off, ru, sv, fm, un⟩) rules) := by show _ = _; unfold abbrsChk; rw [if_neg (by rw [← ByteArray.toList_eq]; exact hru)]
    have hab : ∀ r : Ru, abRule ⟨off, ru, sv, fm, un⟩ r = if r.nm.toList = ru.toList then abE fm r.sv r.lt else 0 := by
      intro r
      unfold abRule
      by_cases e : r.nm = ru
      · rw [if_pos e, if_pos (by rw [e])]
      · rw [if_neg e, if_neg (fun h => e (ByteArray.ext (Array.toList_inj.1 (by rw [← ByteArray.toList_eq, ← ByteArray.toList_eq]; exact h))))]
    obtain ⟨FR, eFR⟩ : ∃ F, abRule ⟨off, ru, sv, fm, un⟩ = F := ⟨_, rfl⟩
    rw [eFR] at HK hab
    have HFR := Lib.hid hab
    have HRU := Lib.hid hru
    obtain ⟨R, eR⟩ : ∃ R, abbrsChk rules ⟨off, ru, sv, fm, un⟩ = R := ⟨_, rfl⟩
    rw [eR] at HK ⊢
    obtain ⟨p, cap, rfl, hlen, hrow⟩ := HR0.out
    have HRow := Lib.hid hrow
    have y0 := (cell_of_row W0 cb 0 _ _ _ HP0.out).trans rfl
    clear hru hab eFR eR hrow HR0 hC
    go_enter Tryz.func88, Tryz.ntmps88
    go_upto_region 1 with fail
    rw [HEW.out]
    go_wp2_with fail
    go_loopw [31] (fun i wr => ∃ k : Nat, k ≤ rules.length ∧ i = .int .i64 k ∧ Hid (Below W0.heap.size W0 wr) ∧ Hid (firstE FR rules = firstE FR (rules.drop k))) (fun i _ => rules.length - (intOf i).toNat)
    case atStart => exact ⟨0, Nat.zero_le _, rfl, Lib.hid (Below.refl _ _), rfl⟩
    case round =>
      obtain ⟨k, hk, rfl, HB, HF⟩ := hrel
      have hz1 : w.heap.size < W0.heap.size := by have := HZ0.out; omega
      have x1 := (HB.out.cell (p := ⟨w.heap.size, 1, none⟩) hz1).trans ((cell_of_row W0 _ 1 _ _ _ HBX.out).trans rfl)
      have x3 := (HB.out.cell (p := ⟨w.heap.size, 3, none⟩) hz1).trans ((cell_of_row W0 _ 3 _ _ _ HBX.out).trans rfl)
      have hzr := HB.out.size
      have hzr2 : w.heap.size < wr.heap.size := by omega
      by_cases hlt : k < rules.length
      · obtain ⟨b, o, rfl, hbl, hcs⟩ := HRow.out (List.ne_nil_of_length_pos (by omega))
        obtain ⟨hs1, hs2⟩ := HS.out rules[k] (List.getElem_mem hlt)
        have hck := hcs k hlt
        have HV := Lib.hid (HFR.out rules[k])
        obtain ⟨q, eq⟩ : ∃ q, rules[k] = q := ⟨_, rfl⟩
        rw [eq] at hck hs1 hs2 HV
        have EQ := Lib.hid eq
        clear eq hcs
        obtain ⟨nm, yf, yt, mo, dk, dw, dn, tm, ck, sv', lt⟩ := q
        have up : ∀ j u, W0.cell? ⟨b, o + k * 11 + j, none⟩ = some u → wr.cell? ⟨b, o + k * 11 + j, none⟩ = some u := fun j u h => (HB.out.cell (p := ⟨b, o + k * 11 + j, none⟩) (show b < W0.heap.size by omega)).trans h
        have z0 := up 0 _ (hck 0 _ rfl)
        have z1 := up 1 _ (hck 1 _ rfl)
        have z2 := up 2 _ (hck 2 _ rfl)
        have z3 := up 3 _ (hck 3 _ rfl)
        have z4 := up 4 _ (hck 4 _ rfl)
        have z5 := up 5 _ (hck 5 _ rfl)
        have z6 := up 6 _ (hck 6 _ rfl)
        have z7 := up 7 _ (hck 7 _ rfl)
        have z8 := up 8 _ (hck 8 _ rfl)
        have z9 := up 9 _ (hck 9 _ rfl)
        have z10 := up 10 _ (hck 10 _ rfl)
        clear up hck
        rw [Nat.add_zero] at z0
        have HBn := Lib.hid (HB.out.alloc HB.out.size (.cells #[.string nm, .int .i64 yf, .int .i64 yt, .int .i64 mo, .int .i64 dk, .int .i64 dw, .int .i64 dn, .int .i64 tm, .int .i64 ck, .int .i64 sv', .string lt] 59))
        by_cases hnm : nm.toList = ru.toList
        · have t0 : (nm.toList == ru.toList) = true := by simpa using hnm
          have hv := HV.out
          simp only at hv
          rw [if_pos hnm] at hv
          have HA := Lib.hid (HAB.out sv' lt (wr.alloc (.cells #[.string nm, .int .i64 yf, .int .i64 yt, .int .i64 mo, .int .i64 dk, .int .i64 dw, .int .i64 dn, .int .i64 tm, .int .i64 ck, .int .i64 sv', .string lt] 59)) hs2 (HM0.out.below HBn.out))
          obtain ⟨E, eE⟩ : ∃ E, abE fm sv' lt = E := ⟨_, rfl⟩
          rw [eE] at hv HA
          have HV2 := Lib.hid hv
          clear hv eE hnm HV
          go_wp2_with fail
          refine HA.out.mono ?_
          rintro e w3 ⟨rfl, hb3⟩
          have HB3 := Lib.hid (HBn.out.trans (hb3.mono HBn.out.size))
          clear hb3 HA
          by_cases hE : E = 0
          · subst hE
            go_wp2_with fail
            go_roundw
            case rel => exact ⟨k + 1, by omega, by go_num, HB3, Lib.hid (firstE_drop FR rules k hlt (by rw [EQ.out]; exact HV2.out) HF.out)⟩
            case measure => simp [intOf]; omega
          · have hz : (E == 0) = false := by simpa using hE
            have hz2 : (!E == 0) = true := by rw [hz]; rfl
            have HK2 : Hid (R = E) := by
              show R = E
              have h1 := firstE_hit FR rules k hlt (by rw [EQ.out, HV2.out]; exact hE) HF.out
              rw [HK.out, h1, EQ.out, HV2.out, if_neg hE]
            clear hE
            go_wp2_with fail
            go_ret
            exact ⟨ret_E HK2.out.symm, HB0.out.trans (HB3.out.mono HB0.out.size)⟩
        · have t0 : (nm.toList == ru.toList) = false := by simpa using hnm
          have hv := HV.out
          simp only at hv
          rw [if_neg hnm] at hv
          have HV2 := Lib.hid hv
          clear hv hnm HV
          go_wp2_with fail
          go_roundw
          case rel => exact ⟨k + 1, by omega, by go_num, HBn, Lib.hid (firstE_drop FR rules k hlt (by rw [EQ.out]; exact HV2.out) HF.out)⟩
          case measure => simp [intOf]; omega
      · have hend := firstE_end FR rules k (by omega) HF.out
        have hkl : ¬ (k : Int) < (rules.length : Int) := by omega
        have HK2 : Hid (R = abE fm 0 ⟨#[45]⟩) := by
          show R = _
          rw [HK.out, if_pos hend]
        have HA := Lib.hid (HAB.out 0 ⟨#[45]⟩ wr (by decide) (HM0.out.below HB.out))
        obtain ⟨E, eE⟩ : ∃ E, abE fm 0 ⟨#[45]⟩ = E := ⟨_, rfl⟩
        rw [eE] at HK2 HA
        clear hend eE
        go_wp2_with fail
        refine HA.out.mono ?_
        rintro e w3 ⟨rfl, hb3⟩
        have HB3 := Lib.hid (HB.out.trans (hb3.mono HB.out.size))
        clear hb3 HA
        go_wp2_with fail
        go_ret
        exact ⟨ret_E HK2.out.symm, HB0.out.trans (HB3.out.mono HB0.out.size)⟩
end Go.Proofs.YtacogloheiendaaGreatDoor
namespace Go.Proofs.YtacogloheiendaaGreatDoor
open Go.RowKit
set_option linter.unusedVariables false
set_option linter.unusedSimpArgs false

theorem own_keep {W W' : World} {B : Nat} {e : TypeId} {s n : Nat} {v : Value} {xs : List Value} (h : W.ownsRow B e s v n xs) (hk : ∀ g, v.ownBlock = some g → W'.heap[g]? = W.heap[g]?) : W'.ownsRow B e s v n xs := by
  obtain ⟨h1, h2⟩ := h
  refine ⟨h1, ?_⟩
  rcases h2 with h2 | ⟨g, cap, cur, rfl, hb, hg, r⟩
  · exact .inl h2
  · exact .inr ⟨g, cap, cur, rfl, hb, (hk g rfl).trans hg, r⟩
theorem own_cells {W : World} {B : Nat} {e : TypeId} {s n : Nat} {v : Value} {xs : List Value} (h : W.ownsRow B e s v n xs) : (v = .slice none 0 0 ∧ n = 0) ∨ ∃ g cap, v = .slice (some ⟨g, 0, none⟩) n cap ∧ B ≤ g ∧ g < W.heap.size ∧ ∀ i u, xs[i]? = some u → W.cell? ⟨g, i, none⟩ = some u := by
  rcases h.2 with h2 | ⟨g, cap, cur, rfl, hb, hg, hn, hm, hs, ht⟩
  · exact .inl h2
  · refine .inr ⟨g, cap, rfl, hb, (Array.getElem?_eq_some_iff.1 hg).1, fun i u hu => ?_⟩
    rw [cell_of_row W g i cur _ (0, 0) hg]
    rw [← ht, List.getElem?_take] at hu
    split at hu
    · simpa using hu
    · cases hu
/-- rows of other element types lie in other blocks -/
theorem own_apart {W : World} {B B' : Nat} {e e' : TypeId} {s s' n n' : Nat} {v v' : Value} {xs xs' : List Value} (h : W.ownsRow B e s v n xs) (h' : W.ownsRow B' e' s' v' n' xs') (hne : e ≠ e') : v.ownBlock = none ∨ v.ownBlock ≠ v'.ownBlock := by
  rcases h.2 with ⟨rfl, _⟩ | ⟨g, cap, cur, rfl, _, hg, _⟩
  · exact .inl rfl
  · refine .inr fun e0 => ?_
    rcases h'.2 with ⟨rfl, _⟩ | ⟨g', cap', cur', rfl, _, hg', _⟩
    · simp [Value.ownBlock] at e0
    · simp only [Value.ownBlock] at e0
      injection e0 with e0
      subst e0
      rw [hg] at hg'
      injection hg' with hg'
      injection hg' with _ h2
      exact hne h2
theorem own_sliceN {W : World} {B : Nat} {e : TypeId} {s n : Nat} {v : Value} {xs : List Value} (h : W.ownsRow B e s v n xs) : ∃ A c, v = .slice A n c := by
  rcases h.2 with ⟨rfl, rfl⟩ | ⟨g, cap, cur, rfl, _⟩
  · exact ⟨_, _, rfl⟩
  · exact ⟨_, _, rfl⟩
theorem alloc_at (w : World) (o : Obj) (k : Nat) (h : k = w.heap.size) : (w.alloc o).heap[k]? = some o := by subst h; exact heap_alloc_new w o
theorem own_base {W : World} {B B' : Nat} {e : TypeId} {s n : Nat} {v : Value} {xs : List Value} (h : W.ownsRow B e s v n xs) (hB : B' ≤ B) : W.ownsRow B' e s v n xs := by
  obtain ⟨h1, h2⟩ := h
  refine ⟨h1, ?_⟩
  rcases h2 with h2 | ⟨g, cap, cur, rfl, hb, hg, r⟩
  · exact .inl h2
  · exact .inr ⟨g, cap, cur, rfl, Nat.le_trans hB hb, hg, r⟩
end Go.Proofs.YtacogloheiendaaGreatDoor
namespace Go.Proofs.YtacogloheiendaaGreatDoor
open Go.RowKit Go.Joins
open Classical
set_option linter.unusedVariables false
set_option linter.unusedSimpArgs false

def IdxR (b : Bool) (e : Ending) : Prop := ∃ n : Int, e = .returned (.int .i64 n) ∧ decide (0 ≤ n) = b
theorem any_step {α : Type} (p : α → Bool) (l : List α) (k : Nat) (hk : k < l.length) (h : (l.take k).any p = false) (hp : p l[k] = false) : (l.take (k + 1)).any p = false := by
  rw [List.take_succ_eq_append_getElem hk, List.any_append, h]
  simp [hp]
theorem any_hit {α : Type} (p : α → Bool) (l : List α) (k : Nat) (hk : k < l.length) (hp : p l[k] = true) : l.any p = true := List.any_eq_true.2 ⟨l[k], List.getElem_mem hk, hp⟩
theorem ret_bB {a b : Bool} (h : a = b) : Ending.returned (.bool a) = .returned (.bool b) := by rw [h]


set_option maxRecDepth 100000 in
set_option maxHeartbeats 4000000 in
theorem idxRu_any (l : List Ru) (v : Value) (g : Nat) (cb : Array Value) (p : Ru → Bool) (w : World) (eg : ∀ args w, (callFunc g args).run Tryz.prog w = .ok (.enter g args) w) (hv : RowsAt (fun r : Ru => (ruCells r).toList) 11 w.heap.size w v l)
    (hp : ∀ W, Below w.heap.size w W → ∀ x ∈ l, Calls Tryz.prog g (#[.agg ((fun r : Ru => (ruCells r).toList) x).toArray] ++ cb) W fun e w' => e = .returned (.bool (p x)) ∧ Below W.heap.size W w') :
    Calls Tryz.prog 97 #[v, .func (.func g) #[] cb] w fun e w' => IdxR (l.any p) e ∧ Below w.heap.size w w' := by
  have HP := Lib.hid hp
  obtain ⟨pp, cap, rfl, hlen, hrow⟩ := hv
  have HRow := Lib.hid hrow
  clear hp hrow
  go_enter Tryz.func97, Tryz.ntmps97
  go_wp2_with fail
  go_loopw [8] (fun i wr => ∃ k : Nat, k ≤ l.length ∧ i = .int .i64 k ∧ Hid (Below w.heap.size w wr) ∧ Hid ((l.take k).any p = false)) (fun i _ => l.length - (intOf i).toNat)
  case atStart => exact ⟨0, Nat.zero_le _, rfl, Lib.hid (Below.refl _ _), Lib.hid rfl⟩
  case round =>
    obtain ⟨k, hk, rfl, HB, HA⟩ := hrel
    have hzr := HB.out.size
    by_cases hlt : k < l.length
    · obtain ⟨b, o, rfl, hbl, hcs⟩ := HRow.out (List.ne_nil_of_length_pos (by omega))
      have hck := hcs k hlt
      have hc := HP.out wr HB.out l[k] (List.getElem_mem hlt)
      have HST := Lib.hid (fun h => any_step p l k hlt HA.out h)
      have HHT := Lib.hid (fun h => any_hit p l k hlt h)
      obtain ⟨q, eq⟩ : ∃ q, l[k] = q := ⟨_, rfl⟩
      rw [eq] at hck hc HST HHT
      clear eq hcs
      obtain ⟨pv, epv⟩ : ∃ pv, p q = pv := ⟨_, rfl⟩
      rw [epv] at hc HST HHT
      clear epv
      obtain ⟨nm, yf, yt, mo, dk, dw, dn, tm, ck, sv, lt⟩ := q
      have up : ∀ j u, w.cell? ⟨b, o + k * 11 + j, none⟩ = some u → wr.cell? ⟨b, o + k * 11 + j, none⟩ = some u := fun j u h => (HB.out.cell (p := ⟨b, o + k * 11 + j, none⟩) hbl).trans h
      have z0 := up 0 _ (hck 0 _ rfl)
      have z1 := up 1 _ (hck 1 _ rfl)
      have z2 := up 2 _ (hck 2 _ rfl)
      have z3 := up 3 _ (hck 3 _ rfl)
      have z4 := up 4 _ (hck 4 _ rfl)
      have z5 := up 5 _ (hck 5 _ rfl)
      have z6 := up 6 _ (hck 6 _ rfl)
      have z7 := up 7 _ (hck 7 _ rfl)
      have z8 := up 8 _ (hck 8 _ rfl)
      have z9 := up 9 _ (hck 9 _ rfl)
      have z10 := up 10 _ (hck 10 _ rfl)
      rw [Nat.add_zero] at z0
      have HC := Lib.hid hc
      clear up hck hc
      cases pv with
      | true =>
        have HT := Lib.hid (HHT.out (by first | rfl | trivial))
        go_wp2_with (go_at_fn g; refine HC.out.mono ?_; rintro e w' ⟨rfl, hb⟩; have HB2 := Lib.hid (HB.out.trans (hb.mono HB.out.size)); clear hb)
        go_ret
        exact ⟨⟨k, rfl, by rw [HT.out]; exact decide_eq_true (by omega)⟩, HB2.out⟩
      | false =>
        go_wp2_with (go_at_fn g; refine HC.out.mono ?_; rintro e w' ⟨rfl, hb⟩; have HB2 := Lib.hid (HB.out.trans (hb.mono HB.out.size)); clear hb)
        go_roundw
        case rel => exact ⟨k + 1, by omega, by go_num, HB2, Lib.hid (HST.out (by first | rfl | trivial))⟩
        case measure => simp [intOf]; omega
    · have hkl : ¬ (k : Int) < (l.length : Int) := by omega
      have HT : Hid (l.any p = false) := by
        show _ = _
        have := HA.out
        rwa [List.take_of_length_le (by omega)] at this
      go_wp2_with fail
      go_ret
      exact ⟨⟨-1, rfl, by rw [HT.out]; decide⟩, HB.out⟩
set_option maxHeartbeats 1000000 in
theorem hasRu_any (l : List Ru) (v : Value) (g : Nat) (cb : Array Value) (p : Ru → Bool) (w : World) (eg : ∀ args w, (callFunc g args).run Tryz.prog w = .ok (.enter g args) w) (hv : RowsAt (fun r : Ru => (ruCells r).toList) 11 w.heap.size w v l)
    (hp : ∀ W, Below w.heap.size w W → ∀ x ∈ l, Calls Tryz.prog g (#[.agg ((fun r : Ru => (ruCells r).toList) x).toArray] ++ cb) W fun e w' => e = .returned (.bool (p x)) ∧ Below W.heap.size W w') :
    Calls Tryz.prog 86 #[v, .func (.func g) #[] cb] w fun e w' => e = .returned (.bool (l.any p)) ∧ Below w.heap.size w w' := by
  have HC := Lib.hid (idxRu_any l v g cb p w eg hv hp)
  clear hv hp eg
  obtain ⟨bb, eb⟩ : ∃ bb, l.any p = bb := ⟨_, rfl⟩
  rw [eb] at HC ⊢
  clear eb
  go_enter Tryz.func86, Tryz.ntmps86
  go_wp2_with fail
  refine HC.out.mono ?_
  rintro e w' ⟨⟨n, rfl, hn⟩, hb⟩
  have HN := Lib.hid hn
  clear hn
  go_wp2_with fail
  go_ret
  exact ⟨ret_bB HN.out, hb⟩

set_option maxRecDepth 100000 in
set_option maxHeartbeats 4000000 in
theorem idxZo_any (l : List Zo) (v : Value) (g : Nat) (cb : Array Value) (p : Zo → Bool) (w : World) (eg : ∀ args w, (callFunc g args).run Tryz.prog w = .ok (.enter g args) w) (hv : RowsAt zoCells 2 w.heap.size w v l)
    (hp : ∀ W, Below w.heap.size w W → ∀ x ∈ l, Calls Tryz.prog g (#[.agg (zoCells x).toArray] ++ cb) W fun e w' => e = .returned (.bool (p x)) ∧ Below W.heap.size W w') :
    Calls Tryz.prog 85 #[v, .func (.func g) #[] cb] w fun e w' => IdxR (l.any p) e ∧ Below w.heap.size w w' := by
  have HP := Lib.hid hp
  obtain ⟨pp, cap, rfl, hlen, hrow⟩ := hv
  have HRow := Lib.hid hrow
  clear hp hrow
  go_enter Tryz.func85, Tryz.ntmps85
  go_wp2_with fail
  go_loopw [8] (fun i wr => ∃ k : Nat, k ≤ l.length ∧ i = .int .i64 k ∧ Hid (Below w.heap.size w wr) ∧ Hid ((l.take k).any p = false)) (fun i _ => l.length - (intOf i).toNat)
  case atStart => exact ⟨0, Nat.zero_le _, rfl, Lib.hid (Below.refl _ _), Lib.hid rfl⟩
  case round =>
    obtain ⟨k, hk, rfl, HB, HA⟩ := hrel
    have hzr := HB.out.size
    by_cases hlt : k < l.length
    · obtain ⟨b, o, rfl, hbl, hcs⟩ := HRow.out (List.ne_nil_of_length_pos (by omega))
      have hck := hcs k hlt
      have hc := HP.out wr HB.out l[k] (List.getElem_mem hlt)
      have HST := Lib.hid (fun h => any_step p l k hlt HA.out h)
      have HHT := Lib.hid (fun h => any_hit p l k hlt h)
      obtain ⟨q, eq⟩ : ∃ q, l[k] = q := ⟨_, rfl⟩
      rw [eq] at hck hc HST HHT
      clear eq hcs
      obtain ⟨pv, epv⟩ : ∃ pv, p q = pv := ⟨_, rfl⟩
      rw [epv] at hc HST HHT
      clear epv
      obtain ⟨nm, ev, eras⟩ := q
      have up : ∀ j u, w.cell? ⟨b, o + k * 2 + j, none⟩ = some u → wr.cell? ⟨b, o + k * 2 + j, none⟩ = some u := fun j u h => (HB.out.cell (p := ⟨b, o + k * 2 + j, none⟩) hbl).trans h
      have z0 := up 0 _ (hck 0 _ rfl)
      have z1 := up 1 _ (hck 1 _ rfl)
      rw [Nat.add_zero] at z0
      have HC := Lib.hid hc
      clear up hck hc
      cases pv with
      | true =>
        have HT := Lib.hid (HHT.out (by first | rfl | trivial))
        go_wp2_with (go_at_fn g; refine HC.out.mono ?_; rintro e w' ⟨rfl, hb⟩; have HB2 := Lib.hid (HB.out.trans (hb.mono HB.out.size)); clear hb)
        go_ret
        exact ⟨⟨k, rfl, by rw [HT.out]; exact decide_eq_true (by omega)⟩, HB2.out⟩
      | false =>
        go_wp2_with (go_at_fn g; refine HC.out.mono ?_; rintro e w' ⟨rfl, hb⟩; have HB2 := Lib.hid (HB.out.trans (hb.mono HB.out.size)); clear hb)
        go_roundw
        case rel => exact ⟨k + 1, by omega, by go_num, HB2, Lib.hid (HST.out (by first | rfl | trivial))⟩
        case measure => simp [intOf]; omega
    · have hkl : ¬ (k : Int) < (l.length : Int) := by omega
      have HT : Hid (l.any p = false) := by
        show _ = _
        have := HA.out
        rwa [List.take_of_length_le (by omega)] at this
      go_wp2_with fail
      go_ret
      exact ⟨⟨-1, rfl, by rw [HT.out]; decide⟩, HB.out⟩
set_option maxHeartbeats 1000000 in
theorem hasZo_any (l : List Zo) (v : Value) (g : Nat) (cb : Array Value) (p : Zo → Bool) (w : World) (eg : ∀ args w, (callFunc g args).run Tryz.prog w = .ok (.enter g args) w) (hv : RowsAt zoCells 2 w.heap.size w v l)
    (hp : ∀ W, Below w.heap.size w W → ∀ x ∈ l, Calls Tryz.prog g (#[.agg (zoCells x).toArray] ++ cb) W fun e w' => e = .returned (.bool (p x)) ∧ Below W.heap.size W w') :
    Calls Tryz.prog 61 #[v, .func (.func g) #[] cb] w fun e w' => e = .returned (.bool (l.any p)) ∧ Below w.heap.size w w' := by
  have HC := Lib.hid (idxZo_any l v g cb p w eg hv hp)
  clear hv hp eg
  obtain ⟨bb, eb⟩ : ∃ bb, l.any p = bb := ⟨_, rfl⟩
  rw [eb] at HC ⊢
  clear eb
  go_enter Tryz.func61, Tryz.ntmps61
  go_wp2_with fail
  refine HC.out.mono ?_
  rintro e w' ⟨⟨n, rfl, hn⟩, hb⟩
  have HN := Lib.hid hn
  clear hn
  go_wp2_with fail
  go_ret
  exact ⟨ret_bB HN.out, hb⟩

set_option maxRecDepth 100000 in
set_option maxHeartbeats 4000000 in
theorem idxLk_any (l : List Lk) (v : Value) (g : Nat) (cb : Array Value) (p : Lk → Bool) (w : World) (eg : ∀ args w, (callFunc g args).run Tryz.prog w = .ok (.enter g args) w) (hv : RowsAt lkCells 2 w.heap.size w v l)
    (hp : ∀ W, Below w.heap.size w W → ∀ x ∈ l, Calls Tryz.prog g (#[.agg (lkCells x).toArray] ++ cb) W fun e w' => e = .returned (.bool (p x)) ∧ Below W.heap.size W w') :
    Calls Tryz.prog 89 #[v, .func (.func g) #[] cb] w fun e w' => IdxR (l.any p) e ∧ Below w.heap.size w w' := by
  have HP := Lib.hid hp
  obtain ⟨pp, cap, rfl, hlen, hrow⟩ := hv
  have HRow := Lib.hid hrow
  clear hp hrow
  go_enter Tryz.func89, Tryz.ntmps89
  go_wp2_with fail
  go_loopw [8] (fun i wr => ∃ k : Nat, k ≤ l.length ∧ i = .int .i64 k ∧ Hid (Below w.heap.size w wr) ∧ Hid ((l.take k).any p = false)) (fun i _ => l.length - (intOf i).toNat)
  case atStart => exact ⟨0, Nat.zero_le _, rfl, Lib.hid (Below.refl _ _), Lib.hid rfl⟩
  case round =>
    obtain ⟨k, hk, rfl, HB, HA⟩ := hrel
    have hzr := HB.out.size
    by_cases hlt : k < l.length
    · obtain ⟨b, o, rfl, hbl, hcs⟩ := HRow.out (List.ne_nil_of_length_pos (by omega))
      have hck := hcs k hlt
      have hc := HP.out wr HB.out l[k] (List.getElem_mem hlt)
      have HST := Lib.hid (fun h => any_step p l k hlt HA.out h)
      have HHT := Lib.hid (fun h => any_hit p l k hlt h)
      obtain ⟨q, eq⟩ : ∃ q, l[k] = q := ⟨_, rfl⟩
      rw [eq] at hck hc HST HHT
      clear eq hcs
      obtain ⟨pv, epv⟩ : ∃ pv, p q = pv := ⟨_, rfl⟩
      rw [epv] at hc HST HHT
      clear epv
      obtain ⟨nm, tt⟩ := q
      have up : ∀ j u, w.cell? ⟨b, o + k * 2 + j, none⟩ = some u → wr.cell? ⟨b, o + k * 2 + j, none⟩ = some u := fun j u h => (HB.out.cell (p := ⟨b, o + k * 2 + j, none⟩) hbl).trans h
      have z0 := up 0 _ (hck 0 _ rfl)
      have z1 := up 1 _ (hck 1 _ rfl)
      rw [Nat.add_zero] at z0
      have HC := Lib.hid hc
      clear up hck hc
      cases pv with
      | true =>
        have HT := Lib.hid (HHT.out (by first | rfl | trivial))
        go_wp2_with (go_at_fn g; refine HC.out.mono ?_; rintro e w' ⟨rfl, hb⟩; have HB2 := Lib.hid (HB.out.trans (hb.mono HB.out.size)); clear hb)
        go_ret
        exact ⟨⟨k, rfl, by rw [HT.out]; exact decide_eq_true (by omega)⟩, HB2.out⟩
      | false =>
        go_wp2_with (go_at_fn g; refine HC.out.mono ?_; rintro e w' ⟨rfl, hb⟩; have HB2 := Lib.hid (HB.out.trans (hb.mono HB.out.size)); clear hb)
        go_roundw
        case rel => exact ⟨k + 1, by omega, by go_num, HB2, Lib.hid (HST.out (by first | rfl | trivial))⟩
        case measure => simp [intOf]; omega
    · have hkl : ¬ (k : Int) < (l.length : Int) := by omega
      have HT : Hid (l.any p = false) := by
        show _ = _
        have := HA.out
        rwa [List.take_of_length_le (by omega)] at this
      go_wp2_with fail
      go_ret
      exact ⟨⟨-1, rfl, by rw [HT.out]; decide⟩, HB.out⟩
set_option maxHeartbeats 1000000 in
theorem hasLk_any (l : List Lk) (v : Value) (g : Nat) (cb : Array Value) (p : Lk → Bool) (w : World) (eg : ∀ args w, (callFunc g args).run Tryz.prog w = .ok (.enter g args) w) (hv : RowsAt lkCells 2 w.heap.size w v l)
    (hp : ∀ W, Below w.heap.size w W → ∀ x ∈ l, Calls Tryz.prog g (#[.agg (lkCells x).toArray] ++ cb) W fun e w' => e = .returned (.bool (p x)) ∧ Below W.heap.size W w') :
    Calls Tryz.prog 67 #[v, .func (.func g) #[] cb] w fun e w' => e = .returned (.bool (l.any p)) ∧ Below w.heap.size w w' := by
  have HC := Lib.hid (idxLk_any l v g cb p w eg hv hp)
  clear hv hp eg
  obtain ⟨bb, eb⟩ : ∃ bb, l.any p = bb := ⟨_, rfl⟩
  rw [eb] at HC ⊢
  clear eb
  go_enter Tryz.func67, Tryz.ntmps67
  go_wp2_with fail
  refine HC.out.mono ?_
  rintro e w' ⟨⟨n, rfl, hn⟩, hb⟩
  have HN := Lib.hid hn
  clear hn
  go_wp2_with fail
  go_ret
  exact ⟨ret_bB HN.out, hb⟩
end Go.Proofs.YtacogloheiendaaGreatDoor
namespace Go.Proofs.YtacogloheiendaaGreatDoor
open Go.RowKit Go.Joins
open Classical
set_option linter.unusedVariables false
set_option linter.unusedSimpArgs false

theorem str_eqB (a b : ByteArray) : (a.toList == b.toList) = decide (a = b) := by
  by_cases h : a = b
  · subst h; simp
  · rw [decide_eq_false h]
    have : a.toList ≠ b.toList := fun e => h (ByteArray.ext (Array.toList_inj.1 (by rw [← ByteArray.toList_eq, ← ByteArray.toList_eq]; exact e)))
    simpa using this
theorem eraF_any (r : Ru) (xb : Nat) (ru : ByteArray) (w : World) (hx : w.cell? ⟨xb, 1, none⟩ = some (.string ru)) :
    Calls Tryz.prog 87 (#[.agg (ruCells r).toList.toArray] ++ #[.pointer (some ⟨xb, 0, none⟩)]) w fun e w' => e = .returned (.bool (decide (r.nm = ru))) ∧ Below w.heap.size w w' := by
  have hlt : xb < w.heap.size := World.block_lt_of_cell? _ _ hx
  have HE := Lib.hid (str_eqB r.nm ru)
  obtain ⟨nm, yf, yt, mo, dk, dw, dn, tm, ck, sv, lt⟩ := r
  show Calls _ _ #[.agg #[.string nm, .int .i64 yf, .int .i64 yt, .int .i64 mo, .int .i64 dk, .int .i64 dw, .int .i64 dn, .int .i64 tm, .int .i64 ck, .int .i64 sv, .string lt], .pointer (some ⟨xb, 0, none⟩)] _ _
  go_enter Tryz.func87, Tryz.ntmps87
  go_wp2_with fail
  go_ret
  exact ⟨ret_bB HE.out, (Below.refl _ _).alloc (Nat.le_refl _) _⟩
theorem Stamp_any (t : Int) (w : World) (hn1 : -9223372036854775808 ≤ t) (hn2 : t ≤ 9223372036854775807) (ht : Tab10 w) :
    Calls Tryz.prog 24 #[.int .i64 t] w fun e w' => (∃ s, e = .returned (.tuple #[.string s, .int .i64 (stampE t)])) ∧ Below w.heap.size w w' := by
  by_cases h : -135140 ≤ t / 86400 ∧ t / 86400 ≤ 157053
  · have e : stampE t = 0 := by unfold stampE; rw [if_pos h]
    rw [e]
    exact (Stamp_ok t w h.1 h.2 ht).mono fun e w' ⟨he, hb⟩ => ⟨⟨_, he⟩, hb⟩
  · have e : stampE t = 1 := by unfold stampE; rw [if_neg h]
    rw [e]
    exact (Stamp_no t w (by omega) hn1 hn2).mono fun e w' ⟨he, hb⟩ => ⟨⟨_, he⟩, hb⟩

def eraB (O S N Rn H : Bool) (A : Int) (L U0 Ut : Bool) (T : Int) (Q : Bool) : Int :=
  if (!O || !S) = true then 1 else if (N && Rn) = true then 5 else if (Rn && !H) = true then 6 else if A ≠ 0 then A else
  if L = true then (if U0 = true then 5 else 0) else if Ut = false then 1 else if T ≠ 0 then T else if Q = true then 5 else 0
theorem eraChk_eq (rules : List Ru) (l : List Er) (k : Nat) (x : Er) (hx : eraAt l k = x) : eraChk rules l k =
    eraB (withinB x.off (-64800) 64800) (withinB x.sv 0 10800) (decide (x.sv ≠ 0)) (decide (x.ru.data.toList ≠ [])) (rules.any fun r => decide (r.nm = x.ru)) (abbrsChk rules x) (decide (k + 1 = l.length)) (decide (x.un ≠ 0)) (withinB x.un (-1099511627776) 1099511627776) (stampE x.un) (decide (0 < k ∧ x.un ≤ (eraAt l (k - 1)).un)) := by
  unfold eraChk eraB withinB
  rw [hx]
  simp only [Bool.or_eq_true, Bool.and_eq_true, Bool.not_eq_true', decide_eq_true_eq, decide_eq_false_iff_not]
def eraC (A : Int) (L U0 Ut : Bool) (T : Int) (Q : Bool) : Int :=
  if A ≠ 0 then A else if L = true then (if U0 = true then 5 else 0) else if Ut = false then 1 else if T ≠ 0 then T else if Q = true then 5 else 0
theorem eraB_mid (O S N Rn H : Bool) (A : Int) (L U0 Ut : Bool) (T : Int) (Q : Bool) (h : O = true ∧ S = true ∧ (N && Rn) = false ∧ (Rn && !H) = false) : eraB O S N Rn H A L U0 Ut T Q = eraC A L U0 Ut T Q := by
  obtain ⟨rfl, rfl, h1, h2⟩ := h
  unfold eraB eraC
  rw [if_neg (by decide), if_neg (by rw [h1]; decide), if_neg (by rw [h2]; decide)]
theorem eraC_A (A : Int) (L U0 Ut : Bool) (T : Int) (Q : Bool) (h : A ≠ 0) : eraC A L U0 Ut T Q = A := by unfold eraC; rw [if_pos h]
theorem eraC_T (U0 : Bool) (T : Int) (Q : Bool) (h : T ≠ 0) : eraC 0 false U0 true T Q = T := by unfold eraC; rw [if_neg (by decide), if_neg (by decide), if_neg (by decide), if_pos h]
theorem RowsAt.mono {α : Type} {cells : α → List Value} {k B B' : Nat} {W : World} {v : Value} {l : List α} (h : RowsAt cells k B W v l) (hB : B ≤ B') : RowsAt cells k B' W v l := by
  obtain ⟨p, cap, rfl, hl, h⟩ := h
  refine ⟨p, cap, rfl, hl, fun hn => ?_⟩
  obtain ⟨b, o, rfl, hlt, hc⟩ := h hn
  exact ⟨b, o, rfl, by omega, hc⟩
def ErBx (W : World) (B : Nat) (x : Er) : Prop := W.heap[B]? = some (.cells (erCells x) 54 (0, 0))
theorem ErBx.lt {W : World} {B : Nat} {x : Er} (h : ErBx W B x) : B < W.heap.size := (Array.getElem?_eq_some_iff.mp h).1
theorem ErBx.below {w w' : World} {B : Nat} {x : Er} (h : ErBx w B x) (hb : Below w.heap.size w w') : ErBx w' B x := (hb.block B h.lt).trans h
theorem ErBx.cells {W : World} {B : Nat} {x : Er} (h : ErBx W B x) : W.cell? ⟨B, 0, none⟩ = some (.int .i64 x.off) ∧ W.cell? ⟨B, 1, none⟩ = some (.string x.ru) ∧ W.cell? ⟨B, 2, none⟩ = some (.int .i64 x.sv) ∧ W.cell? ⟨B, 3, none⟩ = some (.string x.fm) ∧ W.cell? ⟨B, 4, none⟩ = some (.int .i64 x.un) :=
  ⟨(cell_of_row W _ 0 _ _ _ h).trans rfl, (cell_of_row W _ 1 _ _ _ h).trans rfl, (cell_of_row W _ 2 _ _ _ h).trans rfl, (cell_of_row W _ 3 _ _ _ h).trans rfl, (cell_of_row W _ 4 _ _ _ h).trans rfl⟩

set_option maxRecDepth 100000 in
set_option maxHeartbeats 8000000 in
theorem era_any (b : Bk) (rv zv lv : Value) (cb k : Nat) (nm : ByteArray) (ev : Value) (l : List Er) (w : World) (hC : ChkBx w cb rv zv lv) (hR : RowsAt (fun r : Ru => (ruCells r).toList) 11 w.heap.size w rv b.rules) (hs : ∀ r ∈ b.rules, SzR r)
    (hE : RowsAt (fun x : Er => (erCells x).toList) 5 w.heap.size w ev l) (hse : ∀ x ∈ l, SzE x) (hk : k < l.length) (hm : MaxLen w) (ht : Tab10 w) :
    Calls Tryz.prog 63 #[.pointer (some ⟨cb, 0, none⟩), .agg #[.string nm, ev], .int .i64 k] w fun e w' => e = .returned (.int .i64 (eraChk b.rules l k)) ∧ Below w.heap.size w w' := by
  have hcb : cb < w.heap.size := (Array.getElem?_eq_some_iff.mp hC).1
  obtain ⟨p, cap, rfl, hlen, hrow⟩ := hE
  obtain ⟨bb, o, rfl, hbl, hcs⟩ := hrow (List.ne_nil_of_length_pos (by omega))
  have hck := hcs k hk
  have hsx := hse l[k] (List.getElem_mem hk)
  have hat : eraAt l k = l[k] := by unfold eraAt; rw [List.getElem?_eq_getElem hk]; rfl
  have hprev : ∀ q, q + 1 = k → ∃ y : Er, eraAt l q = y ∧ w.cell? ⟨bb, o + q * 5 + 4, none⟩ = some (.int .i64 y.un) ∧ -9223372036854775808 ≤ y.un ∧ y.un ≤ 9223372036854775807 := by
    intro q hq
    have hql : q < l.length := by omega
    refine ⟨l[q], by unfold eraAt; rw [List.getElem?_eq_getElem hql]; rfl, hcs q hql 4 _ rfl, ?_⟩
    have := hse l[q] (List.getElem_mem hql)
    exact ⟨this.2.2.2.2.2.2.1, this.2.2.2.2.2.2.2⟩
  obtain ⟨x, ex⟩ : ∃ x, l[k] = x := ⟨_, rfl⟩
  rw [ex] at hck hsx hat
  have HQ := Lib.hid (eraChk_eq b.rules l k x hat)
  have HPV := Lib.hid hprev
  obtain ⟨W0, eW⟩ : ∃ W0, w.alloc (.cells #[.string nm, .slice (some ⟨bb, o, none⟩) l.length cap] 62) = W0 := ⟨_, rfl⟩
  have hb0 : Below w.heap.size w W0 := by rw [← eW]; exact (Below.refl _ _).alloc (Nat.le_refl _) _
  have x1 : W0.cell? ⟨w.heap.size, 1, none⟩ = some (.slice (some ⟨bb, o, none⟩) l.length cap) := by rw [← eW]; exact (cell_of_row _ _ 1 _ _ _ (heap_alloc_new w _)).trans rfl
  have hl0 : w.heap.size < W0.heap.size := by rw [← eW]; simp
  have up : ∀ j u, w.cell? ⟨bb, o + k * 5 + j, none⟩ = some u → W0.cell? ⟨bb, o + k * 5 + j, none⟩ = some u := fun j u h => (hb0.cell (p := ⟨bb, o + k * 5 + j, none⟩) hbl).trans h
  have z0 := up 0 _ (hck 0 _ rfl)
  have z1 := up 1 _ (hck 1 _ rfl)
  have z2 := up 2 _ (hck 2 _ rfl)
  have z3 := up 3 _ (hck 3 _ rfl)
  have z4 := up 4 _ (hck 4 _ rfl)
  rw [Nat.add_zero] at z0
  have HEW := Lib.hid eW
  have HB0 := Lib.hid hb0
  have HC0 := Lib.hid (hC.below hb0 hcb)
  have HR0 := Lib.hid (hR.below hb0 (Nat.le_refl _))
  have HM0 := Lib.hid (hm.below hb0)
  have HT0 := Lib.hid (ht.below hb0)
  have HS := Lib.hid hs
  have HSX := Lib.hid hsx
  have HX1 := Lib.hid x1
  have hbl0 : bb < W0.heap.size := by omega
  obtain ⟨off, ru, sv, fm, un⟩ := x
  clear eW hb0 hC hR hm ht hs hsx hcs hck hat hrow hse hprev ex up
  simp only at z0 z1 z2 z3 z4
  have KB : Hid (∀ wx, Below W0.heap.size W0 wx → (Below W0.heap.size W0 wx ∧ wx.cell? ⟨w.heap.size, 1, none⟩ = some (.slice (some ⟨bb, o, none⟩) l.length cap) ∧ wx.cell? ⟨bb, o + k * 5, none⟩ = some (.int .i64 off) ∧ wx.cell? ⟨bb, o + k * 5 + 1, none⟩ = some (.string ru) ∧ wx.cell? ⟨bb, o + k * 5 + 2, none⟩ = some (.int .i64 sv) ∧ wx.cell? ⟨bb, o + k * 5 + 3, none⟩ = some (.string fm) ∧ wx.cell? ⟨bb, o + k * 5 + 4, none⟩ = some (.int .i64 un))) := by
    show ∀ wx, Below W0.heap.size W0 wx → _
    exact fun wx hb => ⟨hb, (hb.cell (p := ⟨w.heap.size, 1, none⟩) hl0).trans x1, (hb.cell (p := ⟨bb, o + k * 5, none⟩) hbl0).trans z0, (hb.cell (p := ⟨bb, o + k * 5 + 1, none⟩) hbl0).trans z1, (hb.cell (p := ⟨bb, o + k * 5 + 2, none⟩) hbl0).trans z2, (hb.cell (p := ⟨bb, o + k * 5 + 3, none⟩) hbl0).trans z3, (hb.cell (p := ⟨bb, o + k * 5 + 4, none⟩) hbl0).trans z4⟩
  have KAL : Hid (∀ wx ob, Below W0.heap.size W0 wx → Below W0.heap.size W0 (wx.alloc ob)) := by
    show ∀ wx ob, Below W0.heap.size W0 wx → Below W0.heap.size W0 (wx.alloc ob)
    exact fun wx ob h => h.alloc h.size ob
  have ez : ((k : Int)).toNat = k := by omega
  have kz : (k : Int) < (l.length : Int) := by omega
  have wz : IntKind.i64.wrap ((l.length : Int) - 1) = (l.length : Int) - 1 := by rw [IntKind.wrap_i64]; omega
  obtain ⟨R, eR⟩ : ∃ R, eraChk b.rules l k = R := ⟨_, rfl⟩
  have hq0 := HQ.out
  simp only at hq0
  rw [eR] at hq0 ⊢
  have HQ1 := Lib.hid hq0
  clear hq0 eR
  go_enter Tryz.func63, Tryz.ntmps63
  go_upto_region 1 with fail
  rw [HEW.out]
  go_cut [7, 8] (fun s7 s8 wx => s7 = .pointer (some ⟨W0.heap.size, 0, none⟩) ∧ s8 = .bool (decide (k + 1 = l.length)) ∧ ErBx wx W0.heap.size ⟨off, ru, sv, fm, un⟩ ∧ Below W0.heap.size W0 wx)
  case first =>
    go_region_held3 (fun wx => Below W0.heap.size W0 wx ∧ wx.cell? ⟨w.heap.size, 1, none⟩ = some (.slice (some ⟨bb, o, none⟩) l.length cap) ∧ wx.cell? ⟨bb, o + k * 5, none⟩ = some (.int .i64 off) ∧ wx.cell? ⟨bb, o + k * 5 + 1, none⟩ = some (.string ru) ∧ wx.cell? ⟨bb, o + k * 5 + 2, none⟩ = some (.int .i64 sv) ∧ wx.cell? ⟨bb, o + k * 5 + 3, none⟩ = some (.string fm) ∧ wx.cell? ⟨bb, o + k * 5 + 4, none⟩ = some (.int .i64 un)) ((refine KB.out _ ?_; repeat (first | (with_reducible assumption) | (with_reducible exact Below.refl _ _) | (with_reducible refine Below.drew ?_) | (with_reducible refine KAL.out _ _ ?_)))) (fail)
    all_goals go_wp2_with fail
    all_goals go_meet
    all_goals exact ⟨rfl, by congr 1; rw [Bool.eq_iff_iff]; simp; omega, heap_alloc_new W0 _, ((Below.refl _ W0).alloc (Nat.le_refl _) _).drew⟩
  case rest =>
    obtain ⟨rfl, rfl, hex, hbw⟩ := hcut
    have HX := Lib.hid hex
    have HBc := Lib.hid hbw
    obtain ⟨L, eL⟩ : ∃ L, decide (k + 1 = l.length) = L := ⟨_, rfl⟩
    rw [eL]
    have HL := Lib.hid eL
    obtain ⟨e0, e1, e2, e3, e4⟩ := HX.out.cells
    have hlx := HX.out.lt
    simp only at e0 e1 e2 e3 e4
    have HCc := Lib.hid (HC0.out.below HBc.out (by omega))
    have y0 : wc.cell? ⟨cb, 0, none⟩ = some rv := (cell_of_row wc cb 0 _ _ _ HCc.out).trans rfl
    have hcbc : cb < wc.heap.size := (Array.getElem?_eq_some_iff.mp HCc.out).1
    have HMc := Lib.hid (HM0.out.below HBc.out)
    have HTc := Lib.hid (HT0.out.below HBc.out)
    have HRc := Lib.hid (HR0.out.below HBc.out (by omega))
    have HBW := Lib.hid (HB0.out.trans (HBc.out.mono HB0.out.size))
    have hq := HQ1.out
    rw [HL.out] at hq
    have HQ2 := Lib.hid hq
    clear z0 z1 z2 z3 z4 KB KAL hex hbw eL hq HQ HQ1 x1 ez kz wz
    obtain ⟨wd, ewd⟩ : ∃ wd, wd = wc := ⟨_, rfl⟩
    subst ewd
    go_upto_block 0 with fail
    go_cut [7] (fun s7 wx => s7 = .pointer (some ⟨W0.heap.size, 0, none⟩) ∧ Hid (withinB off (-64800) 64800 = true ∧ withinB sv 0 10800 = true ∧ (decide (sv ≠ 0) && decide (ru.data.toList ≠ [])) = false ∧ (decide (ru.data.toList ≠ []) && !(b.rules.any fun r => decide (r.nm = ru))) = false) ∧ Hid (Below wd.heap.size wd wx))
    case first =>
      go_wp2_with fail
      refine (book_within off (-64800) 64800 _).mono ?_
      obtain ⟨O, eO⟩ : ∃ O, withinB off (-64800) 64800 = O := ⟨_, rfl⟩
      rw [eO]
      have HO := Lib.hid eO
      clear eO
      rintro e w' ⟨rfl, rfl⟩
      cases O with
      | false =>
        go_wp2_with fail
        go_ret
        exact ⟨ret_E (by rw [HQ2.out, HO.out]; rfl), HBW.out⟩
      | true =>
      go_wp2_with fail
      refine (book_within sv 0 10800 _).mono ?_
      obtain ⟨S, eS⟩ : ∃ S, withinB sv 0 10800 = S := ⟨_, rfl⟩
      rw [eS]
      have HSS := Lib.hid eS
      clear eS
      rintro e w' ⟨rfl, rfl⟩
      cases S with
      | false =>
        go_wp2_with fail
        go_ret
        exact ⟨ret_E (by rw [HQ2.out, HO.out, HSS.out]; rfl), HBW.out⟩
      | true =>
      by_cases hru : ru.data.toList = []
      · have b0 : ru.toList.isEmpty = true := by rw [ByteArray.toList_eq, hru]; rfl
        have HRN : Hid (decide (ru.data.toList ≠ []) = false) := by show _ = _; exact decide_eq_false (fun h => h hru)
        clear hru
        by_cases hsv : sv = 0
        · have t1 : (sv == 0) = true := by simpa using hsv
          have s1 : sv ≤ 0 := by omega
          have s2 : 0 ≤ sv := by omega
          clear hsv
          go_wp2_with fail
          go_meet
          exact ⟨rfl, Lib.hid ⟨HO.out, HSS.out, by rw [HRN.out, Bool.and_false], by rw [HRN.out]; rfl⟩, Lib.hid (Below.refl _ _)⟩
        · have t1 : (sv == 0) = false := by simpa using hsv
          have t2 : (!sv == 0) = true := by rw [t1]; rfl
          go_wp2_with fail
          go_meet
          exact ⟨rfl, Lib.hid ⟨HO.out, HSS.out, by rw [HRN.out, Bool.and_false], by rw [HRN.out]; rfl⟩, Lib.hid (Below.refl _ _)⟩
      · have b0 : ru.toList.isEmpty = false := by
          rw [ByteArray.toList_eq]
          cases e : ru.data.toList with
          | nil => exact absurd e hru
          | cons c r => rfl
        have HRN : Hid (decide (ru.data.toList ≠ []) = true) := by show _ = _; exact decide_eq_true hru
        clear hru
        by_cases hsv : sv = 0
        · have t1 : (sv == 0) = true := by simpa using hsv
          have HN : Hid (decide (sv ≠ 0) = false) := by show _ = _; exact decide_eq_false (fun h => h hsv)
          have eg : ∀ args w, (callFunc 87 args).run Tryz.prog w = .ok (.enter 87 args) w := enters_of Tryz.func87 (by kernel_rfl) rfl
          have HH := Lib.hid (hasRu_any b.rules rv 87 #[.pointer (some ⟨W0.heap.size, 0, none⟩)] (fun r => decide (r.nm = ru)) wd eg (by
            obtain ⟨p, cap, rfl, q1, q2⟩ := HRc.out
            refine ⟨p, cap, rfl, q1, fun hn => ?_⟩
            obtain ⟨b1, o1, h1, h2, h3⟩ := q2 hn
            exact ⟨b1, o1, h1, by omega, h3⟩) (fun W hb r hr => eraF_any r W0.heap.size ru W ((hb.cell (p := ⟨W0.heap.size, 1, none⟩) hlx).trans e1)))
          obtain ⟨H, eH⟩ : ∃ H, (b.rules.any fun r => decide (r.nm = ru)) = H := ⟨_, rfl⟩
          rw [eH] at HH
          have HHV := Lib.hid eH
          have s1 : sv ≤ 0 := by omega
          have s2 : 0 ≤ sv := by omega
          clear hsv eH eg
          go_wp2_with fail
          refine HH.out.mono ?_
          rintro e w2 ⟨rfl, hb2⟩
          have HB2 := Lib.hid hb2
          clear hb2
          cases H with
          | false =>
            go_wp2_with fail
            go_ret
            exact ⟨ret_E (by rw [HQ2.out, HO.out, HSS.out, HN.out, HRN.out, HHV.out]; rfl), HBW.out.trans (HB2.out.mono HBW.out.size)⟩
          | true =>
            go_wp2_with fail
            go_meet
            exact ⟨rfl, Lib.hid ⟨HO.out, HSS.out, by rw [HN.out]; rfl, by rw [HHV.out]; simp⟩, HB2⟩
        · have t1 : (sv == 0) = false := by simpa using hsv
          have t2 : (!sv == 0) = true := by rw [t1]; rfl
          have HN : Hid (decide (sv ≠ 0) = true) := by show _ = _; exact decide_eq_true hsv
          go_wp2_with fail
          go_ret
          exact ⟨ret_E (by rw [HQ2.out, HO.out, HSS.out, HN.out, HRN.out]; rfl), HBW.out⟩
    case rest =>
    obtain ⟨rfl, HV, HBv⟩ := hcut
    have HX2 := Lib.hid (HX.out.below HBv.out)
    have HBW2 := Lib.hid (HBW.out.trans (HBv.out.mono HBW.out.size))
    have HC2 := Lib.hid (HCc.out.below HBv.out hcbc)
    have HM2 := Lib.hid (HMc.out.below HBv.out)
    have HT2 := Lib.hid (HTc.out.below HBv.out)
    have HR2 := Lib.hid ((HRc.out.below HBv.out (by have := HB0.out.size; have := HBc.out.size; omega)).mono (Nat.le_trans HB0.out.size (Nat.le_trans HBc.out.size HBv.out.size)))
    have hz1 : wd.heap.size ≤ wc.heap.size := HBv.out.size
    have hz2 : W0.heap.size ≤ wd.heap.size := HBc.out.size
    have X1 := Lib.hid ((HBv.out.cell (p := ⟨w.heap.size, 1, none⟩) (show w.heap.size < wd.heap.size by omega)).trans ((HBc.out.cell (p := ⟨w.heap.size, 1, none⟩) hl0).trans HX1.out))
    have HLFT := Lib.hid (fun (j : Nat) (u : Value) (h : w.cell? ⟨bb, j, none⟩ = some u) => (HBW2.out.cell (p := ⟨bb, j, none⟩) hbl).trans h)
    have hq := HQ2.out
    rw [eraB_mid _ _ _ _ _ _ _ _ _ _ _ HV.out] at hq
    have HQ3 := Lib.hid hq
    clear hq HQ2 e0 e1 e2 e3 e4 y0 HX HCc HMc HTc HRc HM0 HT0 HR0 HC0 HBW HV
    obtain ⟨e0, e1, e2, e3, e4⟩ := HX2.out.cells
    have hlx2 := HX2.out.lt
    simp only at e0 e1 e2 e3 e4
    have HAB := Lib.hid (abbrs_any ⟨off, ru, sv, fm, un⟩ b.rules rv zv lv cb wc HC2.out HR2.out HS.out HSX.out HM2.out)
    obtain ⟨A, eA⟩ : ∃ A, abbrsChk b.rules ⟨off, ru, sv, fm, un⟩ = A := ⟨_, rfl⟩
    rw [eA] at HAB HQ3
    clear eA
    go_wp2_with fail
    refine HAB.out.mono ?_
    rintro e w3 ⟨rfl, hb3⟩
    have HX3 := Lib.hid (HX2.out.below hb3)
    have HBW3 := Lib.hid (HBW2.out.trans (hb3.mono HBW2.out.size))
    have HT3 := Lib.hid (HT2.out.below hb3)
    have hz3 : wc.heap.size ≤ w3.heap.size := hb3.size
    have X3 := Lib.hid ((hb3.cell (p := ⟨w.heap.size, 1, none⟩) (show w.heap.size < wc.heap.size by omega)).trans X1.out)
    have HLF3 := Lib.hid (fun (j : Nat) (u : Value) (h : w.cell? ⟨bb, j, none⟩ = some u) => (HBW3.out.cell (p := ⟨bb, j, none⟩) hbl).trans h)
    clear hb3 HX2 HBW2 HC2 HM2 HT2 HR2 X1 HLFT e0 e1 e2 e3 e4 HAB
    obtain ⟨e0, e1, e2, e3, e4⟩ := HX3.out.cells
    have hlx3 := HX3.out.lt
    simp only at e0 e1 e2 e3 e4
    by_cases hA : A = 0
    case neg =>
      have t1 : (A == 0) = false := by simpa using hA
      have t2 : (!A == 0) = true := by rw [t1]; rfl
      have HRA : Hid (R = A) := by show _ = _; rw [HQ3.out]; exact eraC_A _ _ _ _ _ _ hA
      go_wp2_with fail
      go_ret
      exact ⟨ret_E HRA.out.symm, HBW3.out⟩
    case pos =>
    subst hA
    cases L with
    | true =>
      by_cases hu : un = 0
      · have HRA : Hid (R = 0) := by show _ = _; rw [HQ3.out, decide_eq_false (fun h => h hu)]; rfl
        have s1 : un ≤ 0 := by omega
        have s2 : 0 ≤ un := by omega
        have t1 : (un == 0) = true := by simpa using hu
        clear hu
        go_wp2_with fail
        go_ret
        exact ⟨ret_E HRA.out.symm, HBW3.out⟩
      · have HRA : Hid (R = 5) := by show _ = _; rw [HQ3.out, decide_eq_true hu]; rfl
        have t1 : (un == 0) = false := by simpa using hu
        have t2 : (!un == 0) = true := by rw [t1]; rfl
        go_wp2_with fail
        go_ret
        exact ⟨ret_E HRA.out.symm, HBW3.out⟩
    | false =>
    go_wp2_with fail
    refine (book_within un (-1099511627776) 1099511627776 _).mono ?_
    obtain ⟨U, eU⟩ : ∃ U, withinB un (-1099511627776) 1099511627776 = U := ⟨_, rfl⟩
    rw [eU]
    rw [eU] at HQ3
    clear eU
    rintro e w' ⟨rfl, rfl⟩
    cases U with
    | false =>
      go_wp2_with fail
      go_ret
      exact ⟨ret_E (by rw [HQ3.out]; rfl), HBW3.out⟩
    | true =>
    have HST := Lib.hid (Stamp_any un w3 HSX.out.2.2.2.2.2.2.1 HSX.out.2.2.2.2.2.2.2 HT3.out)
    obtain ⟨T, eT⟩ : ∃ T, stampE un = T := ⟨_, rfl⟩
    rw [eT] at HST HQ3
    clear eT
    go_wp2_with fail
    refine HST.out.mono ?_
    rintro e w4 ⟨⟨st, rfl⟩, hb4⟩
    have HX4 := Lib.hid (HX3.out.below hb4)
    have HBW4 := Lib.hid (HBW3.out.trans (hb4.mono HBW3.out.size))
    have hz4 : w3.heap.size ≤ w4.heap.size := hb4.size
    have X4 := Lib.hid ((hb4.cell (p := ⟨w.heap.size, 1, none⟩) (show w.heap.size < w3.heap.size by omega)).trans X3.out)
    have HLF4 := Lib.hid (fun (j : Nat) (u : Value) (h : w.cell? ⟨bb, j, none⟩ = some u) => (HBW4.out.cell (p := ⟨bb, j, none⟩) hbl).trans h)
    clear hb4 HX3 HBW3 X3 HLF3 HST e0 e1 e2 e3 e4
    obtain ⟨e0, e1, e2, e3, e4⟩ := HX4.out.cells
    have hlx4 := HX4.out.lt
    simp only at e0 e1 e2 e3 e4
    by_cases hT : T = 0
    case neg =>
      have t1 : (T == 0) = false := by simpa using hT
      have t2 : (!T == 0) = true := by rw [t1]; rfl
      have HRA : Hid (R = T) := by show _ = _; rw [HQ3.out]; exact eraC_T _ _ _ hT
      go_wp2_with fail
      go_ret
      exact ⟨ret_E HRA.out.symm, HBW4.out⟩
    case pos =>
    subst hT
    by_cases hk0 : k = 0
    · subst hk0
      have HRA : Hid (R = 0) := by show _ = _; rw [HQ3.out, show decide (0 < 0 ∧ un ≤ (eraAt l (0 - 1)).un) = false from decide_eq_false (fun h => absurd h.1 (Nat.lt_irrefl 0))]; rfl
      go_upto_region 20 with fail
      go_big_region
      all_goals go_wp2_with fail
      go_ret
      exact ⟨ret_E HRA.out.symm, HBW4.out.drew⟩
    · obtain ⟨q, rfl⟩ : ∃ q, k = q + 1 := ⟨k - 1, by omega⟩
      obtain ⟨y, hy1, hy2, hy3, hy4⟩ := HPV.out q rfl
      have c9 := HLF4.out _ _ hy2
      have x9 := X4.out
      obtain ⟨yun, eyu⟩ : ∃ v, y.un = v := ⟨_, rfl⟩
      have hq3 := HQ3.out
      rw [Nat.add_sub_cancel, hy1, eyu] at hq3
      rw [eyu] at c9 hy3 hy4
      have HQ4 := Lib.hid hq3
      clear hq3 hy1 hy2 eyu hk0
      have hwp : IntKind.i64.wrap (q : Int) = (q : Int) := by rw [IntKind.wrap_i64]; omega
      have jz1 : (q : Int) < (l.length : Int) := by omega
      have p0 : (0 : Int) < (q : Int) + 1 := by omega
      have gd : decide ((q : Int) + 1 > 0) = true := decide_eq_true (by omega)
      by_cases hP : un ≤ yun
      · have HRA : Hid (R = 5) := by show _ = _; rw [HQ4.out, show decide (0 < q + 1 ∧ un ≤ yun) = true from decide_eq_true ⟨by omega, hP⟩]; rfl
        go_upto_region 20 with fail
        go_quiet (fail)
        go_wp2_with fail
        go_ret
        exact ⟨ret_E HRA.out.symm, below_drewN' HBW4.out _⟩
      · have HRA : Hid (R = 0) := by show _ = _; rw [HQ4.out, show decide (0 < q + 1 ∧ un ≤ yun) = false from decide_eq_false (fun h => hP h.2)]; rfl
        go_upto_region 20 with fail
        go_quiet (fail)
        go_wp2_with fail
        go_ret
        exact ⟨ret_E HRA.out.symm, below_drewN' HBW4.out _⟩
end Go.Proofs.YtacogloheiendaaGreatDoor
