/- BookLines: the plain law and the walk. -/
import Derived.Test.YtmhfhmhjaecoaaaGreatDoorQ12
import Derived.Test.YtmhfhmhjaecoaaaGreatDoorShelfCQ
import Derived.Deep.DeepCutAuto
import Derived.Handy
namespace Go.Proofs.YtmhfhmhjaecoaaaGreatDoor
open Go.RowKit Go.Joins
open Classical
set_option linter.unusedVariables false
set_option linter.unusedSimpArgs false

theorem consHd_app (x : UInt8) (a b : List (List UInt8)) (h : a ≠ []) : consHd x (a ++ b) = consHd x a ++ b := by
  cases a with
  | nil => exact absurd rfl h
  | cons y r => rfl
theorem splitC_app (c : UInt8) : ∀ a b : List UInt8, splitC c (a ++ c :: b) = splitC c a ++ splitC c b
  | [], b => by
    show (if c = c then [] :: splitC c b else consHd c (splitC c b)) = [[]] ++ splitC c b
    rw [if_pos rfl]; rfl
  | x :: a, b => by
    have ih := splitC_app c a b
    show (if x = c then [] :: splitC c (a ++ c :: b) else consHd x (splitC c (a ++ c :: b))) = (if x = c then [] :: splitC c a else consHd x (splitC c a)) ++ splitC c b
    rw [ih]
    by_cases h : x = c
    · rw [if_pos h, if_pos h]; rfl
    · rw [if_neg h, if_neg h, consHd_app x _ _ (splitC_ne c a)]
theorem linesF_app : ∀ (l m : List (List UInt8)) (st : RdS) (k j : Nat), linesF st k l = (none, j) → linesF st k (l ++ m) = (none, j)
  | [], m, st, k, j, h => by simp [linesF] at h
  | x :: l, m, st, k, j, h => by
    have h' : (match lineF st x with | none => ((none : Option RdS), k + 1) | some st' => linesF st' (k + 1) l) = (none, j) := h
    show (match lineF st x with | none => ((none : Option RdS), k + 1) | some st' => linesF st' (k + 1) (l ++ m)) = (none, j)
    cases e : lineF st x with
    | none => rw [e] at h'; exact h'
    | some st' =>
      rw [e] at h'
      exact linesF_app l m st' (k + 1) j h'
theorem linesF_len : ∀ (l : List (List UInt8)) (st st' : RdS) (k j : Nat), linesF st k l = (some st', j) → j = k + l.length
  | [], st, st', k, j, h => by
    have h : (some st, k) = (some st', j) := h
    injection h with _ h
    subst h
    rfl
  | x :: l, st, st', k, j, h => by
    have h' : (match lineF st x with | none => ((none : Option RdS), k + 1) | some st' => linesF st' (k + 1) l) = (some st', j) := h
    cases e : lineF st x with
    | none => rw [e] at h'; injection h' with h' _; cases h'
    | some st2 =>
      rw [e] at h'
      have := linesF_len l st2 st' (k + 1) j h'
      rw [this, List.length_cons]; omega
theorem lines_law {s more : List UInt8} {R : RdS} {n : Nat} (h : parseF s = (R, n, 3)) (h1 : 1 ≤ n) (h2 : n ≤ s.count 10 + 1) (hl : s.length + more.length ≤ 50000) : parseF (s ++ 10 :: more) = (rd0, n, 3) := by
  have hs : s ≠ [] := by
    intro e
    rw [pf_nil e] at h
    injection h with _ h
    injection h with _ h
    cases h
  have h60 : ¬ 60000 < s.length := by omega
  have hn : linesF rd0 0 (splitC 10 s) = (none, n) := by
    obtain ⟨o, e⟩ : ∃ o, linesF rd0 0 (splitC 10 s) = o := ⟨_, rfl⟩
    obtain ⟨o1, j⟩ := o
    rw [e]
    cases o1 with
    | none =>
      rw [pf_line h60 hs e] at h
      injection h with _ h
      injection h with h _
      rw [h]
    | some st =>
      have hj := linesF_len _ _ _ _ _ e
      rw [Nat.zero_add, splitC_length] at hj
      by_cases hst : st.stage = 2
      · rw [pf_end h60 hs e hst] at h
        injection h with _ h
        injection h with h _
        omega
      · by_cases hc : bkChk (bkS st fun _ => undef) = 0
        · rw [pf_ok h60 hs e hst hc] at h
          injection h with _ h
          injection h with h _
          omega
        · rw [pf_chk h60 hs e hst hc] at h
          injection h with _ h
          injection h with h _
          omega
  refine pf_line (by rw [List.length_append, List.length_cons]; omega) (by simp) ?_
  rw [splitC_app]
  exact linesF_app _ _ _ _ _ hn
theorem psForm {R : RdS × Nat × Int} {w w' : World} {e : Ending} (h : PsPost R w e w') : Below w.heap.size w w' ∧ ∃ p1 n1 c1 p2 n2 c2 p3 n3 c3, e = .returned (.tuple #[.agg #[.slice p1 n1 c1, .slice p2 n2 c2, .slice p3 n3 c3], .int .i64 (R.2.1 : Int), .int .i64 R.2.2]) := by
  obtain ⟨hb, rv, zv, lv, evs, rfl, hel, hbk⟩ := h
  obtain ⟨p1, c1, e1, -, -⟩ := hbk.r
  obtain ⟨p2, c2, e2, -, -⟩ := hbk.z
  obtain ⟨p3, c3, e3, -, -⟩ := hbk.l
  subst e1; subst e2; subst e3
  exact ⟨hb, _, _, _, _, _, _, _, _, _, rfl⟩
theorem count_eq (l : List UInt8) : Lib.countByte l 10 = l.count 10 := rfl
set_option maxRecDepth 100000 in
set_option maxHeartbeats 8000000 in
theorem BookLines_walk (A0 B0 : ByteArray) (w : World) (ha : A0.size ≤ 140737488351232) (hb : B0.size ≤ 140737488351232) (ht : Tab10 w) (hasc : AscTab w) (hn : NumErrs w) (hm : MaxLen w) :
    Calls Tryz.prog 7 #[.string A0, .string B0] w fun e w' => e = .returned (.bool true) ∧ Below w.heap.size w w' := by
  obtain ⟨a, rfl⟩ : ∃ a, A0 = txt a := ⟨A0.data.toList, by unfold txt; simp⟩
  obtain ⟨b, rfl⟩ : ∃ a, B0 = txt a := ⟨B0.data.toList, by unfold txt; simp⟩
  have hsa := txt_size a
  have hsb := txt_size b
  have HBD := Lib.hid (booked_any w ht hasc hn hm)
  have HF : Hid (∀ W, Below w.heap.size w W → Tab10 W ∧ AscTab W ∧ NumErrs W ∧ MaxLen W) := by
    show ∀ W, _
    intro W h
    exact ⟨ht.below h, hasc.below h, hn.below h, hm.below h⟩
  have HCN := Lib.hid (fun W => Tryz.strings_Count_one (txt a) 10 W)
  have HLW := Lib.hid (fun R n => lines_law (s := a) (more := b) (R := R) (n := n))
  rw [txt_data, count_eq] at HCN
  have HPA : Hid (∀ W, Below w.heap.size w W → Calls Tryz.prog 20 #[.string (txt a)] W (PsPost (parseF a) W)) := by
    show ∀ W, _
    intro W h
    exact bookParse_any a W (by omega) (ht.below h) (hasc.below h) (hn.below h) (hm.below h)
  obtain ⟨cn, ecn⟩ : ∃ cn, a.count 10 = cn := ⟨_, rfl⟩
  have hcl : a.count 10 ≤ a.length := List.count_le_length
  rw [ecn] at HCN HLW hcl
  obtain ⟨R, eR⟩ : ∃ R, parseF a = R := ⟨_, rfl⟩
  rw [eR] at HPA HLW
  obtain ⟨st, n, C⟩ := R
  clear eR ecn ht hasc hn hm
  go_enter Tryz.func7, Tryz.ntmps7
  go_wp2_with fail
  refine HBD.out.mono ?_
  rintro e w1 ⟨rfl, hb1⟩
  have HB1 := Lib.hid hb1
  have HP1 := Lib.hid (HPA.out w1 hb1)
  clear hb1 HBD HPA
  go_wp2_with fail
  refine HP1.out.mono ?_
  intro e w2 hps
  obtain ⟨hb2, p1, n1, c1, p2, n2, c2, p3, n3, c3, rfl⟩ := psForm hps
  have HB2 := Lib.hid (HB1.out.trans (hb2.mono HB1.out.size))
  simp only
  clear hps hb2 HP1
  have hw0 : IntKind.i64.wrap ((cn : Int) + 1) = (cn : Int) + 1 := IntWalk.i64_in _ (by omega)
  have hw1 : IntKind.i64.wrap (((txt a).size : Int) + ((txt b).size : Int)) = ((txt a).size : Int) + ((txt b).size : Int) := IntWalk.i64_in _ (by omega)
  go_upto_region 4 with fail
  by_cases hC : C = 3
  case neg =>
    have hCb : (C == 3) = false := by simpa using hC
    have hCn : (C != 3) = true := by simpa using hC
    have hfin := HB2.out.alloc HB2.out.size (.cells #[.slice p1 n1 c1, .slice p2 n2 c2, .slice p3 n3 c3] 31)
    have HFN := Lib.hid hfin
    clear hC hfin
    go_wp2_with fail
    go_ret
    exact ⟨rfl, HFN.out⟩
  subst hC
  obtain ⟨W3, e3⟩ : ∃ W3, w2.alloc (.cells #[.slice p1 n1 c1, .slice p2 n2 c2, .slice p3 n3 c3] 31) = W3 := ⟨_, rfl⟩
  have HB3 : Hid (Below w.heap.size w W3) := by show Below _ _ _; rw [← e3]; exact HB2.out.alloc HB2.out.size _
  rw [e3]
  clear e3
  by_cases h1 : n < 1
  · have h1i : (n : Int) < 1 := by omega
    go_wp2_with fail
    go_ret
    exact ⟨rfl, HB3.out⟩
  have h1i : ¬ (n : Int) < 1 := by omega
  by_cases h2 : cn + 1 < n
  · have h2i : (cn : Int) + 1 < (n : Int) := by omega
    go_wp2_with fail
    refine (HCN.out W3).mono ?_
    rintro e w' ⟨rfl, rfl⟩
    go_wp2_with fail
    go_ret
    exact ⟨rfl, HB3.out⟩
  have h2i : ¬ (cn : Int) + 1 < (n : Int) := by omega
  by_cases h3 : 50000 < a.length + b.length
  · have h3i : (50000 : Int) < ((txt a).size : Int) + ((txt b).size : Int) := by omega
    clear hsa hsb
    go_wp2_with fail
    refine (HCN.out W3).mono ?_
    rintro e w' ⟨rfl, rfl⟩
    go_wp2_with fail
    go_ret
    exact ⟨rfl, HB3.out⟩
  have h3i : ¬ (50000 : Int) < ((txt a).size : Int) + ((txt b).size : Int) := by omega
  have hlw := HLW.out st n rfl (by omega) (by omega) (by omega)
  have hf3 := HF.out W3 HB3.out
  have hps := bookParse_any (a ++ 10 :: b) W3 (by rw [List.length_append, List.length_cons]; omega) hf3.1 hf3.2.1 hf3.2.2.1 hf3.2.2.2
  rw [hlw] at hps
  have ra := fun W => run_string_add_sum (P := Tryz.prog) W (txt a) ⟨#[10]⟩ (by rw [txt_size]; show a.length + 1 ≤ _; omega)
  rw [show txt a ++ (⟨#[10]⟩ : ByteArray) = txt (a ++ [10]) from txt_append a [10]] at ra
  have rb := fun W => run_string_add_sum (P := Tryz.prog) W (txt (a ++ [10])) (txt b) (by rw [txt_size, txt_size, List.length_append]; show a.length + 1 + b.length ≤ _; omega)
  rw [show txt (a ++ [10]) ++ txt b = txt (a ++ 10 :: b) by rw [txt_append]; simp] at rb
  obtain ⟨f, ef⟩ : ∃ f, a ++ 10 :: b = f := ⟨_, rfl⟩
  rw [ef] at rb hps
  have HPS := Lib.hid hps
  clear hsa hsb hlw hf3 hps ef HLW
  go_wp2_with fail
  refine (HCN.out W3).mono ?_
  rintro e w' ⟨rfl, rfl⟩
  go_wp2_with fail
  refine HPS.out.mono ?_
  intro e w4 hp4
  obtain ⟨hb4, q1, m1, d1, q2, m2, d2, q3, m3, d3, rfl⟩ := psForm hp4
  have HB4 := Lib.hid (HB3.out.trans (hb4.mono HB3.out.size))
  simp only
  have hnn : ((n : Int) == (n : Int)) = true := beq_self_eq_true _
  have hfin := HB4.out.alloc HB4.out.size (.cells #[.slice q1 m1 d1, .slice q2 m2 d2, .slice q3 m3 d3] 31)
  have HFN := Lib.hid hfin
  clear hb4 hp4 HPS hfin
  go_wp2_with fail
  go_ret
  exact ⟨rfl, HFN.out⟩
end Go.Proofs.YtmhfhmhjaecoaaaGreatDoor
