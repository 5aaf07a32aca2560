/- BookAbbr: the plain law and the walk. -/
import Derived.Test.YtmhfhmhjaecoaaaGreatDoorQ12
import Derived.Test.YtmhfhmhjaecoaaaGreatDoorQ13
import Derived.Test.YtmhfhmhjaecoaaaGreatDoorQ01
import Derived.Deep.DeepCutAuto
import Derived.Handy
namespace Go.Proofs.YtmhfhmhjaecoaaaGreatDoor
open Go.RowKit Go.Joins
open Classical
set_option linter.unusedVariables false
set_option linter.unusedSimpArgs false

theorem splitF_self {f : List UInt8} (h : abbrB (txt f) = true) : splitF f = (f, [], [], true) := by
  obtain ⟨h2, h3, h4⟩ := (abbrB_iff f).1 h
  obtain ⟨n1, n2⟩ := okL_no h2
  unfold splitF
  rw [if_neg (by omega), cut_noA n1, cut_noA n2, if_neg (by decide), if_neg (by decide), h]
theorem abbr_same {f l : List UInt8} {s : Int} (h : abbrB (txt f) = true) (h0 : (abbrF f s l).2 = 0) : (abbrF f s l).1 = f := by
  rw [(abbrF_ok h0).1, abbrN_3 f l f [] true s (splitF_self h)]
theorem splitF_two {a b : List UInt8} (ha : abbrB (txt a) = true) (hb : abbrB (txt b) = true) (hl : a.length + b.length ≤ 11) : splitF (a ++ 47 :: b) = (a, b, [47], true) := by
  obtain ⟨h2, h3, h4⟩ := (abbrB_iff a).1 ha
  obtain ⟨n1, n2⟩ := okL_no h2
  have hc := cut_sep a b 47 (fun c hc e => n1 (e ▸ hc))
  unfold splitF
  rw [if_neg (by rw [List.length_append, List.length_cons]; omega), hc, if_pos rfl]
  show (a, b, [47], abbrB (txt a) && abbrB (txt b)) = _
  rw [ha, hb]; rfl
theorem abbr_two {a b : List UInt8} (ha : abbrB (txt a) = true) (hb : abbrB (txt b) = true) (hl : a.length + b.length ≤ 11) (s : Int) (h0 : 0 ≤ s) (h1 : s ≤ 10800) : abbrF (a ++ 47 :: b) s [45] = (if s = 0 then a else b, 0) := by
  obtain ⟨-, a3, a4⟩ := (abbrB_iff a).1 ha
  obtain ⟨-, b3, b4⟩ := (abbrB_iff b).1 hb
  have e := splitF_two ha hb hl
  have e2 := abbrN_1 (a ++ 47 :: b) [45] a b true s e
  unfold abbrF
  rw [e, e2, if_neg (by simp [letterOk]), if_neg (by omega)]
  by_cases hs : s = 0
  · rw [if_pos hs, if_neg (by omega), if_neg a3]
  · rw [if_neg hs, if_neg (by omega), if_neg b3]

set_option maxRecDepth 100000 in
set_option maxHeartbeats 8000000 in
theorem BookAbbr_walk (A0 B0 L0 : ByteArray) (s0 : Int) (w : World) (ha : A0.size ≤ 140737488351232) (hb : B0.size ≤ 140737488351232) (hl : L0.size ≤ 140737488351232) (ht : Tab10 w) (hasc : AscTab w) (hn : NumErrs w) (hm : MaxLen w) :
    Calls Tryz.prog 4 #[.string A0, .string B0, .string L0, .int .i64 s0] w fun e w' => e = .returned (.bool true) ∧ Below w.heap.size w w' := by
  obtain ⟨a, rfl⟩ : ∃ a, A0 = txt a := ⟨A0.data.toList, by unfold txt; simp⟩
  obtain ⟨b, rfl⟩ : ∃ a, B0 = txt a := ⟨B0.data.toList, by unfold txt; simp⟩
  obtain ⟨l, rfl⟩ : ∃ a, L0 = txt a := ⟨L0.data.toList, by unfold txt; simp⟩
  have hsa := txt_size a
  have hsb := txt_size b
  have hsl := txt_size l
  have HBD := Lib.hid (booked_any w ht hasc hn hm)
  have HM := Lib.hid hm
  have HRE := Lib.hid (fun W => Rest0_any s0 10800 W (by omega) (by omega))
  have hr := Int.emod_nonneg s0 (show (10800 : Int) ≠ 0 by decide)
  have hr2 := Int.emod_lt_of_pos s0 (show (0 : Int) < 10800 by decide)
  obtain ⟨r, er⟩ : ∃ r, s0 % 10800 = r := ⟨_, rfl⟩
  rw [er] at hr hr2 HRE
  have hw1 : IntKind.i64.wrap (r + 1) = r + 1 := IntWalk.i64_in _ (by omega)
  have HIA := Lib.hid (fun W => isAbbr_any (txt a) W (by simp only [maxLen]; omega))
  have HIB := Lib.hid (fun W => isAbbr_any (txt b) W (by simp only [maxLen]; omega))
  have HAB := Lib.hid (fun W (h : MaxLen W) => Abbr_any a l (r + 1) W (by omega) (by omega) h)
  have HSM := Lib.hid (fun h h0 => abbr_same (f := a) (l := l) (s := r + 1) h h0)
  have HOK := Lib.hid (fun h0 => abbrF_abbr (f := a) (l := l) (s := r + 1) h0)
  have HT1 := Lib.hid (fun h1 h2 h3 => abbr_two (a := a) (b := b) h1 h2 h3 0 (by decide) (by decide))
  have HT2 := Lib.hid (fun h1 h2 h3 => abbr_two (a := a) (b := b) h1 h2 h3 (r + 1) (by omega) (by omega))
  have hrz : ¬ r + 1 = 0 := by omega
  rw [if_neg hrz] at HT2
  have HXL : Hid ((abbrF a (r + 1) l).2 = 0 → (txt (abbrF a (r + 1) l).1).size ≤ maxLen) := by
    show _ → _
    intro h
    have := ((abbrB_iff _).1 (abbrF_abbr h)).2.2
    rw [txt_size]; simp only [maxLen]; omega
  obtain ⟨XC, eX⟩ : ∃ X, abbrF a (r + 1) l = X := ⟨_, rfl⟩
  rw [eX] at HAB HSM HOK HXL
  obtain ⟨X, C⟩ := XC
  simp only at HAB HSM HOK HXL
  obtain ⟨AA, eAA⟩ : ∃ AA, abbrB (txt a) = AA := ⟨_, rfl⟩
  obtain ⟨AB, eAB⟩ : ∃ AB, abbrB (txt b) = AB := ⟨_, rfl⟩
  have EAA := Lib.hid eAA
  have EAB := Lib.hid eAB
  rw [eAA] at HIA
  rw [eAB] at HIB
  clear er hm ht hasc hn eX eAA eAB
  go_enter Tryz.func4, Tryz.ntmps4
  go_wp2_with fail
  refine HBD.out.mono ?_
  rintro e w1 ⟨rfl, hb1⟩
  have HB1 := Lib.hid hb1
  have HC1 := Lib.hid (HAB.out w1 (HM.out.below hb1))
  clear hb1 HBD
  go_wp2_with fail
  refine (HRE.out w1).mono ?_
  rintro e w' ⟨rfl, rfl⟩
  go_wp2_with fail
  refine HC1.out.mono ?_
  rintro e w2 ⟨rfl, hb2⟩
  have HB2 := Lib.hid (HB1.out.trans (hb2.mono HB1.out.size))
  have HIX := Lib.hid (fun h => isAbbr_any (txt X) w2 (HXL.out h))
  clear hb2 HC1
  go_upto_region 5 with fail
  go_cut [42] from 27 to 41 (fun s42 wx => s42 = .bool false ∧ wx = w2)
  case first =>
    by_cases hC : C = 0
    · have hx := HIX.out hC
      rw [HOK.out hC] at hx
      have HX := Lib.hid hx
      have hsame := fun h => HSM.out h hC
      rw [EAA.out] at hsame
      subst hC
      clear hx
      cases AA with
      | true =>
        have e : X = a := hsame rfl
        subst e
        clear hsame
        go_wp2_with fail
        refine HX.out.mono ?_
        rintro e w' ⟨rfl, rfl⟩
        go_wp2_with fail
        refine (HIA.out w2).mono ?_
        rintro e w' ⟨rfl, rfl⟩
        go_wp2_with fail
        go_meet
        exact ⟨rfl, rfl⟩
      | false =>
        clear hsame
        go_wp2_with fail
        refine HX.out.mono ?_
        rintro e w' ⟨rfl, rfl⟩
        go_wp2_with fail
        refine (HIA.out w2).mono ?_
        rintro e w' ⟨rfl, rfl⟩
        go_wp2_with fail
        go_meet
        exact ⟨rfl, rfl⟩
    · have hCb : (C == 0) = false := by simpa using hC
      clear hC
      go_wp2_with fail
      go_meet
      exact ⟨rfl, rfl⟩
  case rest =>
  obtain ⟨rfl, hwc⟩ := hcut
  rw [hwc]
  clear hwc wc HIX
  cases AA with
  | false =>
    go_wp2_with fail
    refine (HIA.out w2).mono ?_
    rintro e w' ⟨rfl, rfl⟩
    go_wp2_with fail
    go_ret
    exact ⟨rfl, HB2.out⟩
  | true =>
  cases AB with
  | false =>
    go_wp2_with fail
    refine (HIA.out w2).mono ?_
    rintro e w' ⟨rfl, rfl⟩
    go_wp2_with fail
    refine (HIB.out w2).mono ?_
    rintro e w' ⟨rfl, rfl⟩
    go_wp2_with fail
    go_ret
    exact ⟨rfl, HB2.out⟩
  | true =>
  have hw2 : IntKind.i64.wrap (((txt a).size : Int) + ((txt b).size : Int)) = ((txt a).size : Int) + ((txt b).size : Int) := IntWalk.i64_in _ (by omega)
  by_cases h11 : 11 < a.length + b.length
  · have h11i : (11 : Int) < ((txt a).size : Int) + ((txt b).size : Int) := by omega
    clear hsa hsb hsl
    go_wp2_with fail
    refine (HIA.out w2).mono ?_
    rintro e w' ⟨rfl, rfl⟩
    go_wp2_with fail
    refine (HIB.out w2).mono ?_
    rintro e w' ⟨rfl, rfl⟩
    go_wp2_with fail
    go_ret
    exact ⟨rfl, HB2.out⟩
  have h11i : ¬ (11 : Int) < ((txt a).size : Int) + ((txt b).size : Int) := by omega
  have H1 := HT1.out EAA.out EAB.out (by omega)
  have H2 := HT2.out EAA.out EAB.out (by omega)
  have ra := fun W => run_string_add_sum (P := Tryz.prog) W (txt a) ⟨#[47]⟩ (by rw [txt_size]; show a.length + 1 ≤ _; omega)
  rw [show txt a ++ (⟨#[47]⟩ : ByteArray) = txt (a ++ [47]) from txt_append a [47]] at ra
  have rb := fun W => run_string_add_sum (P := Tryz.prog) W (txt (a ++ [47])) (txt b) (by rw [txt_size, txt_size, List.length_append]; show a.length + 1 + b.length ≤ _; omega)
  rw [show txt (a ++ [47]) ++ txt b = txt (a ++ 47 :: b) by rw [txt_append]; simp] at rb
  have HF0 := Lib.hid (fun W (h : MaxLen W) => Abbr_any (a ++ 47 :: b) [45] 0 W (by rw [List.length_append, List.length_cons]; omega) (by decide) h)
  have HF1 := Lib.hid (fun W (h : MaxLen W) => Abbr_any (a ++ 47 :: b) [45] (r + 1) W (by rw [List.length_append, List.length_cons]; omega) (by decide) h)
  rw [H1] at HF0
  rw [H2] at HF1
  have HG0 := Lib.hid (HF0.out w2 (HM.out.below HB2.out))
  obtain ⟨f, ef⟩ : ∃ f, a ++ 47 :: b = f := ⟨_, rfl⟩
  rw [ef] at rb HG0 HF1
  have q1 : ((txt a).toList == (txt a).toList) = true := beq_self_eq_true _
  have q2 : ((txt b).toList == (txt b).toList) = true := beq_self_eq_true _
  clear hsa hsb hsl H1 H2 ef HF0
  go_wp2_with fail
  refine (HIA.out w2).mono ?_
  rintro e w' ⟨rfl, rfl⟩
  go_wp2_with fail
  refine (HIB.out w2).mono ?_
  rintro e w' ⟨rfl, rfl⟩
  go_wp2_with fail
  refine HG0.out.mono ?_
  rintro e w3 ⟨rfl, hb3⟩
  have HB3 := Lib.hid (HB2.out.trans (hb3.mono HB2.out.size))
  have HG1 := Lib.hid (HF1.out w3 (HM.out.below HB3.out))
  clear hb3 HG0 HF1
  go_wp2_with fail
  refine HG1.out.mono ?_
  rintro e w4 ⟨rfl, hb4⟩
  have HB4 := Lib.hid (HB3.out.trans (hb4.mono HB3.out.size))
  clear hb4
  go_wp2_with fail
  go_ret
  exact ⟨rfl, HB4.out⟩
end Go.Proofs.YtmhfhmhjaecoaaaGreatDoor
