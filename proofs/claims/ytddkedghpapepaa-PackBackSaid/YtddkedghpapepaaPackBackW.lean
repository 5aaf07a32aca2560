/- PackBack: its walk. -/
import Derived.Test.YtddkedghpapepaaPackEq
namespace Go.Proofs.Ytddkedghpapepaa
open Go.RowKit Go.Joins
set_option linter.unusedVariables false
set_option linter.unusedSimpArgs false

set_option maxRecDepth 100000 in
set_option maxHeartbeats 1000000 in
theorem PackBack_walk (t : Tab) (v : Value) (A : Option Addr) (c : Nat) (l : List Int) (w : World) (hv : TabAt w v t) (hA : BytesBelow w w.heap.size A l.length l) (hc : l.length ≤ c) (hby : ∀ x ∈ l, 0 ≤ x ∧ x < 256) (hsz : l.length ≤ 140737488351232) :
    Calls Try.prog 9 #[v, .slice A l.length c] w fun e w' => e = .returned (.bool true) ∧ Below w.heap.size w w' := by
  obtain ⟨sv, cv, rfl⟩ := hv.parts
  have hB : Below w.heap.size w (w.alloc (.cells #[sv, .int .i64 t.first, cv] 25)) := (Below.refl _ _).alloc (Nat.le_refl _) _
  have HV := Lib.hid hv
  have HB := Lib.hid hB
  have HA := Lib.hid hA
  have HBY := Lib.hid hby
  clear hv hB hA hby
  go_enter Try.func9, Try.ntmps9
  go_wp2_with fail
  refine (packed_any _).mono ?_
  rintro e w1 ⟨rfl, hb1⟩
  rw [World.size_alloc] at hb1
  have HC1 := Lib.hid ((hb1.block w.heap.size (by omega)).trans (heap_alloc_new w _))
  have HB1 := Lib.hid (HB.out.trans (hb1.mono (by omega)))
  have hz1 : w.heap.size < w1.heap.size := (Array.getElem?_eq_some_iff.1 HC1.out).1
  obtain ⟨c0, c1, c2⟩ := cellsX HC1.out
  clear hb1
  go_wp2_with fail
  by_cases hk : chk t = 0
  · refine (Pack_ok t _ _ (HV.out.below HB1.out) hk).mono ?_
    rintro e w2 ⟨u, rfl, hr, hb2⟩
    obtain ⟨p, cap, rfl, -⟩ := hr.form
    obtain ⟨-, hcap, hbb⟩ := hr.below
    have hby2 := enc_byte t (chk_ok t hk)
    have HP1 := Lib.hid (fun W (hW : Below w2.heap.size w2 W) => Parse_any p cap (enc t) W (hbb.mono hW) hcap hby2)
    have he := prsE_enc t hk
    have HB2 := Lib.hid (HB1.out.trans (hb2.mono HB1.out.size))
    have HC2 := Lib.hid ((hb2.block _ hz1).trans HC1.out)
    have hz2 : w.heap.size < w2.heap.size := (Array.getElem?_eq_some_iff.1 HC2.out).1
    obtain ⟨c0, c1, c2⟩ := cellsX HC2.out
    have HCK := Lib.hid (Check_any t _ w2 (HV.out.below HB2.out))
    have HE := Lib.hid he
    obtain ⟨NL, hNL⟩ : ∃ NL, (enc t).length = NL := ⟨_, rfl⟩
    rw [hNL] at HP1 ⊢
    rw [hk] at HCK
    clear hr hb2 hbb hby2 he hNL hcap hk
    go_wp2_with fail
    refine HCK.out.mono ?_
    rintro e w3 ⟨rfl, hb3⟩
    have HC3 := Lib.hid ((hb3.block _ hz2).trans HC2.out)
    obtain ⟨c0, c1, c2⟩ := cellsX HC3.out
    have HB3 := Lib.hid (HB2.out.trans (hb3.mono HB2.out.size))
    have hz3 : w.heap.size < w3.heap.size := (Array.getElem?_eq_some_iff.1 HC3.out).1
    go_wp2_with fail
    refine (HP1.out w3 hb3).mono ?_
    rintro e w4 hpost
    obtain ⟨v4, rfl, ht4, hb4⟩ := hpost
    rw [HE.out.1, if_pos rfl, HE.out.2] at ht4
    rw [HE.out.1]
    obtain ⟨p41, c41, p42, c42, rfl⟩ := ht4.forms
    have HC4 := Lib.hid ((hb4.block _ hz3).trans HC3.out)
    have hz4 : w.heap.size < w4.heap.size := (Array.getElem?_eq_some_iff.1 HC4.out).1
    have HB4 := Lib.hid (HB3.out.trans (hb4.mono HB3.out.size))
    obtain ⟨c0, c1, c2⟩ := cellsX HC4.out
    have hal : Below w4.heap.size w4 (w4.alloc (.cells #[.slice p41 t.types.length c41, .int .i64 t.first, .slice p42 t.chs.length c42] 25)) := (Below.refl _ _).alloc (Nat.le_refl _) _
    have HTE := Lib.hid (TableEq_same t _ _ _ (HV.out.below (HB4.out.trans (hal.mono HB4.out.size))) (ht4.below hal))
    have HBX := Lib.hid (HB4.out.trans (hal.mono HB4.out.size))
    clear ht4 hb3 hb4 hal
    go_wp2_with fail
    refine HTE.out.mono ?_
    rintro e w5 ⟨rfl, hb5⟩
    have HBW := Lib.hid (HBX.out.trans (hb5.mono HBX.out.size))
    clear hb5
    go_wp2_with fail
    refine (Parse_any A c l w5 (HA.out.mono HBW.out) hc HBY.out).mono ?_
    rintro e w8 hpost
    obtain ⟨v8, rfl, ht8, hb8⟩ := hpost
    obtain ⟨p81, c81, p82, c82, rfl⟩ := ht8.forms
    obtain ⟨U, eU⟩ : ∃ U, (if prsE l = 0 then prs l else zeroTab) = U := ⟨_, rfl⟩
    rw [eU] at ht8 ⊢
    have EU := Lib.hid eU
    have HB8 := Lib.hid (HBW.out.trans (hb8.mono HBW.out.size))
    have HT8 := Lib.hid ht8
    clear ht8 hb8 eU
    go_wp2_with fail
    have HB9 : Hid (Below w.heap.size w (w8.alloc (.cells #[.slice p81 U.types.length c81, .int .i64 U.first, .slice p82 U.chs.length c82] 25))) := HB8.out.alloc HB8.out.size _
    have HT9 : Hid (TabAt (w8.alloc (.cells #[.slice p81 U.types.length c81, .int .i64 U.first, .slice p82 U.chs.length c82] 25)) (.agg #[.slice p81 U.types.length c81, .int .i64 U.first, .slice p82 U.chs.length c82]) U) := HT8.out.below ((Below.refl _ _).alloc (Nat.le_refl _) _)
    obtain ⟨W9, hW9⟩ : ∃ W9, w8.alloc (.cells #[.slice p81 U.types.length c81, .int .i64 U.first, .slice p82 U.chs.length c82] 25) = W9 := ⟨_, rfl⟩
    have hn9 := heap_alloc_new w8 (.cells #[.slice p81 U.types.length c81, .int .i64 U.first, .slice p82 U.chs.length c82] 25)
    have hz9 : w8.heap.size < W9.heap.size := by rw [← hW9]; simp
    rw [hW9] at HB9 HT9 hn9 ⊢
    have HN9 := Lib.hid hn9
    clear hW9 hn9
    by_cases hp : prsE l = 0
    · obtain ⟨hc0, henc⟩ := prsE_zero l hp
      have eU2 : U = prs l := by rw [← EU.out, if_pos hp]
      have hcu : chk U = 0 := by rw [eU2]; exact hc0
      have henu : enc U = l := by rw [eU2]; exact henc
      have HEN := Lib.hid henu
      refine (Pack_ok U _ _ HT9.out hcu).mono ?_
      rintro e wA ⟨uA, rfl, hrA, hbA⟩
      rw [henu] at hrA
      obtain ⟨pA, capA, rfl, -⟩ := hrA.form
      obtain ⟨-, hcA, hbbA⟩ := hrA.below
      have HBA := Lib.hid (HB9.out.trans (hbA.mono HB9.out.size))
      have HEQ := Lib.hid (EqB_same l A pA c capA wA (by omega) (HA.out.mono HBA.out).bytes hbbA.bytes)
      obtain ⟨P, eP⟩ : ∃ P, prsE l = P := ⟨_, rfl⟩
      rw [eP] at hp ⊢
      subst hp
      clear hrA hbA hbbA hc0 henc eU2 hcu henu eP
      go_wp2_with fail
      refine HEQ.out.mono ?_
      rintro e wB ⟨rfl, rfl⟩
      go_wp2
      go_ret
      exact ⟨rfl, HBA.out⟩
    · have eU2 : U = zeroTab := by rw [← EU.out, if_neg hp]
      subst eU2
      obtain ⟨P, eP⟩ : ∃ P, prsE l = P := ⟨_, rfl⟩
      rw [eP] at hp ⊢
      have hP1 : (P == 0) = false := by simpa using hp
      have hP2 : (P != 0) = true := by simpa using hp
      have hcz : chk zeroTab ≠ 0 := by decide
      refine (Pack_bad zeroTab _ _ HT9.out hcz).mono ?_
      rintro e wA ⟨rfl, hbA⟩
      have HBA := Lib.hid (HB9.out.trans (hbA.mono HB9.out.size))
      have HNA := Lib.hid ((hbA.block _ hz9).trans HN9.out)
      have HTA := Lib.hid (HT9.out.below hbA)
      obtain ⟨n0, n1, n2⟩ := cellsX HNA.out
      have HZ := Lib.hid (TableEq_same zeroTab _ zeroTV wA HTA.out (zero_at wA))
      clear hp eP hcz hbA
      go_wp2_with fail
      refine HZ.out.mono ?_
      rintro e wB ⟨rfl, hbB⟩
      have HBB := Lib.hid (HBA.out.trans (hbB.mono HBA.out.size))
      clear hbB
      go_wp2
      go_ret
      exact ⟨rfl, HBB.out⟩
  · refine (Pack_bad t _ _ (HV.out.below HB1.out) hk).mono ?_
    rintro e w2 ⟨rfl, hb2⟩
    have HB2 := Lib.hid (HB1.out.trans (hb2.mono HB1.out.size))
    have HC2 := Lib.hid ((hb2.block _ hz1).trans HC1.out)
    obtain ⟨c0, c1, c2⟩ := cellsX HC2.out
    have HCK := Lib.hid (Check_any t _ w2 (HV.out.below HB2.out))
    obtain ⟨R, eR⟩ : ∃ R : Int, chk t = R := ⟨_, rfl⟩
    rw [eR] at hk HCK ⊢
    have hne : (R == 0) = false := by simpa using hk
    have hne2 : (R != 0) = true := by simpa using hk
    clear eR hb2
    go_wp2_with fail
    refine HCK.out.mono ?_
    rintro e w5 ⟨rfl, hb5⟩
    have HBW := Lib.hid (HB2.out.trans (hb5.mono HB2.out.size))
    clear hb5
    go_wp2_with fail
    refine (Parse_any A c l w5 (HA.out.mono HBW.out) hc HBY.out).mono ?_
    rintro e w8 hpost
    obtain ⟨v8, rfl, ht8, hb8⟩ := hpost
    obtain ⟨p81, c81, p82, c82, rfl⟩ := ht8.forms
    obtain ⟨U, eU⟩ : ∃ U, (if prsE l = 0 then prs l else zeroTab) = U := ⟨_, rfl⟩
    rw [eU] at ht8 ⊢
    have EU := Lib.hid eU
    have HB8 := Lib.hid (HBW.out.trans (hb8.mono HBW.out.size))
    have HT8 := Lib.hid ht8
    clear ht8 hb8 eU
    go_wp2_with fail
    have HB9 : Hid (Below w.heap.size w (w8.alloc (.cells #[.slice p81 U.types.length c81, .int .i64 U.first, .slice p82 U.chs.length c82] 25))) := HB8.out.alloc HB8.out.size _
    have HT9 : Hid (TabAt (w8.alloc (.cells #[.slice p81 U.types.length c81, .int .i64 U.first, .slice p82 U.chs.length c82] 25)) (.agg #[.slice p81 U.types.length c81, .int .i64 U.first, .slice p82 U.chs.length c82]) U) := HT8.out.below ((Below.refl _ _).alloc (Nat.le_refl _) _)
    obtain ⟨W9, hW9⟩ : ∃ W9, w8.alloc (.cells #[.slice p81 U.types.length c81, .int .i64 U.first, .slice p82 U.chs.length c82] 25) = W9 := ⟨_, rfl⟩
    have hn9 := heap_alloc_new w8 (.cells #[.slice p81 U.types.length c81, .int .i64 U.first, .slice p82 U.chs.length c82] 25)
    have hz9 : w8.heap.size < W9.heap.size := by rw [← hW9]; simp
    rw [hW9] at HB9 HT9 hn9 ⊢
    have HN9 := Lib.hid hn9
    clear hW9 hn9
    by_cases hp : prsE l = 0
    · obtain ⟨hc0, henc⟩ := prsE_zero l hp
      have eU2 : U = prs l := by rw [← EU.out, if_pos hp]
      have hcu : chk U = 0 := by rw [eU2]; exact hc0
      have henu : enc U = l := by rw [eU2]; exact henc
      have HEN := Lib.hid henu
      refine (Pack_ok U _ _ HT9.out hcu).mono ?_
      rintro e wA ⟨uA, rfl, hrA, hbA⟩
      rw [henu] at hrA
      obtain ⟨pA, capA, rfl, -⟩ := hrA.form
      obtain ⟨-, hcA, hbbA⟩ := hrA.below
      have HBA := Lib.hid (HB9.out.trans (hbA.mono HB9.out.size))
      have HEQ := Lib.hid (EqB_same l A pA c capA wA (by omega) (HA.out.mono HBA.out).bytes hbbA.bytes)
      obtain ⟨P, eP⟩ : ∃ P, prsE l = P := ⟨_, rfl⟩
      rw [eP] at hp ⊢
      subst hp
      clear hrA hbA hbbA hc0 henc eU2 hcu henu eP
      go_wp2_with fail
      refine HEQ.out.mono ?_
      rintro e wB ⟨rfl, rfl⟩
      go_wp2
      go_ret
      exact ⟨rfl, HBA.out⟩
    · have eU2 : U = zeroTab := by rw [← EU.out, if_neg hp]
      subst eU2
      obtain ⟨P, eP⟩ : ∃ P, prsE l = P := ⟨_, rfl⟩
      rw [eP] at hp ⊢
      have hP1 : (P == 0) = false := by simpa using hp
      have hP2 : (P != 0) = true := by simpa using hp
      have hcz : chk zeroTab ≠ 0 := by decide
      refine (Pack_bad zeroTab _ _ HT9.out hcz).mono ?_
      rintro e wA ⟨rfl, hbA⟩
      have HBA := Lib.hid (HB9.out.trans (hbA.mono HB9.out.size))
      have HNA := Lib.hid ((hbA.block _ hz9).trans HN9.out)
      have HTA := Lib.hid (HT9.out.below hbA)
      obtain ⟨n0, n1, n2⟩ := cellsX HNA.out
      have HZ := Lib.hid (TableEq_same zeroTab _ zeroTV wA HTA.out (zero_at wA))
      clear hp eP hcz hbA
      go_wp2_with fail
      refine HZ.out.mono ?_
      rintro e wB ⟨rfl, hbB⟩
      have HBB := Lib.hid (HBA.out.trans (hbB.mono HBA.out.size))
      clear hbB
      go_wp2
      go_ret
      exact ⟨rfl, HBB.out⟩
end Go.Proofs.Ytddkedghpapepaa
