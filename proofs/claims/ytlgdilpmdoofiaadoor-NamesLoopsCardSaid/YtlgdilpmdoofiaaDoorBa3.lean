/- book.Abbr: what it returns. -/
import Derived.Test.YtlgdilpmdoofiaaDoorBaA
import Derived.Deep.CutBlock
import Derived.Deep.DeepCutAuto
namespace Go.Proofs.YtlgdilpmdoofiaaDoor
open Go.RowKit Go.Joins
open Classical
set_option linter.unusedVariables false
set_option linter.unusedSimpArgs false

theorem splitF_cases (f a b c : List UInt8) (x : Bool) (h : splitF f = (a, b, c, x)) : (c = [47] ∨ c = [37] ∨ c = []) ∧ a.length ≤ 12 ∧ b.length ≤ 12 := by
  have l1 := cut_le f [47]
  have l2 := cut_le f [37]
  unfold splitF at h
  split at h
  · injection h with h1 h; injection h with h2 h; injection h with h3 h4
    subst h1; subst h2; subst h3
    exact ⟨Or.inr (Or.inr rfl), by simp, by simp⟩
  · split at h
    · injection h with h1 h; injection h with h2 h; injection h with h3 h4
      subst h1; subst h2; subst h3
      exact ⟨Or.inl rfl, by omega, by omega⟩
    · split at h
      · injection h with h1 h; injection h with h2 h; injection h with h3 h4
        subst h1; subst h2; subst h3
        exact ⟨Or.inr (Or.inl rfl), by omega, by omega⟩
      · injection h with h1 h; injection h with h2 h; injection h with h3 h4
        subst h1; subst h2; subst h3
        exact ⟨Or.inr (Or.inr rfl), by omega, by simp⟩
theorem letter_len {l : List UInt8} (h : letterOk l = true) : l.length ≤ 8 := by
  unfold letterOk at h
  simp only [Bool.or_eq_true, decide_eq_true_eq] at h
  rcases h with h | h
  · rw [h]; simp
  · unfold abbrB allB at h
    simp only [Bool.and_eq_true, decide_eq_true_eq] at h
    have := h.2
    rw [txt_size] at this
    omega
theorem ret_ab {a b : List UInt8} {x y : Int} (h : (a, x) = (b, y)) : Ending.returned (.tuple #[.string (txt a), .int .i64 x]) = .returned (.tuple #[.string (txt b), .int .i64 y]) := by
  injection h with h1 h2
  rw [h1, h2]
theorem abbrF_3 (f l : List UInt8) (save : Int) (h : (splitF f).2.2.2 = false ∨ letterOk l = false) : abbrF f save l = ([], 3) := by unfold abbrF; rw [if_pos h]
theorem abbrF_1 (f l : List UInt8) (save : Int) (h : ¬ ((splitF f).2.2.2 = false ∨ letterOk l = false)) (h2 : ¬ (0 ≤ save ∧ save ≤ 10800)) : abbrF f save l = ([], 1) := by unfold abbrF; rw [if_neg h, if_pos h2]
theorem abbrF_0 (f l : List UInt8) (save : Int) (h : ¬ ((splitF f).2.2.2 = false ∨ letterOk l = false)) (h2 : 0 ≤ save ∧ save ≤ 10800) : abbrF f save l = if 8 < (abbrN f save l).length then ([], 2) else if abbrN f save l = [] then ([], 5) else (abbrN f save l, 0) := by unfold abbrF; rw [if_neg h, if_neg (fun h' => h' h2)]
theorem abbrN_1 (f l a b : List UInt8) (x : Bool) (save : Int) (h : splitF f = (a, b, [47], x)) : abbrN f save l = if save = 0 then a else b := by unfold abbrN; rw [h]; rfl
theorem abbrN_2 (f l a b : List UInt8) (x : Bool) (save : Int) (h : splitF f = (a, b, [37], x)) : abbrN f save l = a ++ ((if l = [45] then [] else l) ++ b) := by unfold abbrN; rw [h]; rfl
theorem abbrN_3 (f l a b : List UInt8) (x : Bool) (save : Int) (h : splitF f = (a, b, [], x)) : abbrN f save l = a := by unfold abbrN; rw [h]; rfl

set_option maxRecDepth 100000 in
set_option maxHeartbeats 4000000 in
theorem Abbr_any (f l : List UInt8) (save : Int) (w : World) (hf : f.length ≤ 9223372036854775807) (hl : l.length ≤ 9223372036854775807) (hm : MaxLen w) :
    Calls Tryd.prog 115 #[.string (txt f), .int .i64 save, .string (txt l)] w fun e w' => e = .returned (.tuple #[.string (txt (abbrF f save l).1), .int .i64 (abbrF f save l).2]) ∧ Below w.heap.size w w' := by
  have HSP := Lib.hid (split_any f w hf hm)
  have HLT := Lib.hid (fun W => bookLetter_any (txt l) W (by rw [txt_size]; unfold maxLen; omega))
  have HWI := Lib.hid (fun W => book_within save 0 10800 W)
  have HR3 := Lib.hid (abbrF_3 f l save)
  have HR1 := Lib.hid (abbrF_1 f l save)
  have HR0 := Lib.hid (abbrF_0 f l save)
  obtain ⟨R, eR⟩ : ∃ R, abbrF f save l = R := ⟨_, rfl⟩
  rw [eR] at HR3 HR1 HR0 ⊢
  clear hf hl hm eR
  go_enter Tryd.func115, Tryd.ntmps115
  go_wp2_with fail
  refine HSP.out.mono ?_
  rintro e w1 ⟨⟨a, b, c, x, hsp, rfl⟩, hb1⟩
  have HB1 := Lib.hid hb1
  have hx : (splitF f).2.2.2 = x := by rw [hsp]
  rw [hx] at HR3 HR1 HR0
  have HSF := Lib.hid hsp
  clear hb1 hx hsp HSP
  cases x with
  | false =>
    have e3 := Lib.hid (HR3.out (Or.inl rfl))
    go_wp2_with fail
    go_ret2
    exact ⟨by rw [e3.out]; rfl, HB1.out⟩
  | true =>
  go_wp2_with fail
  refine (HLT.out _).mono ?_
  rw [txt_data]
  obtain ⟨y, ey⟩ : ∃ y, letterOk l = y := ⟨_, rfl⟩
  rw [ey] at HR3 HR1 HR0 ⊢
  rintro e w' ⟨rfl, rfl⟩
  have HY := Lib.hid ey
  clear ey HLT
  cases y with
  | false =>
    have e3 := Lib.hid (HR3.out (Or.inr rfl))
    go_wp2_with fail
    go_ret2
    exact ⟨by rw [e3.out]; rfl, HB1.out⟩
  | true =>
  go_wp2_with fail
  refine (HWI.out _).mono ?_
  obtain ⟨z, ez⟩ : ∃ z, withinB save 0 10800 = z := ⟨_, rfl⟩
  rw [ez]
  rintro e w' ⟨rfl, rfl⟩
  cases z with
  | false =>
    have e1 := Lib.hid (HR1.out (by simp) (fun h => by rw [withinB_iff.2 h] at ez; cases ez))
    clear ez
    go_wp2_with fail
    go_ret2
    exact ⟨by rw [e1.out]; rfl, HB1.out⟩
  | true =>
  have e0 := Lib.hid (HR0.out (by simp) (withinB_iff.1 ez))
  clear ez HR0 HR1 HR3 HWI
  obtain ⟨hc, la, lb⟩ := splitF_cases f a b c true HSF.out
  have ll := letter_len HY.out
  obtain ⟨N, eN⟩ : ∃ N, abbrN f save l = N := ⟨_, rfl⟩
  have EN := Lib.hid eN
  rw [eN] at e0
  clear eN
  go_upto_block 1 with fail
  go_cut [8] (fun s8 wx => s8 = .string (txt N) ∧ wx = w1)
  case first =>
    rcases hc with rfl | rfl | rfl
    · have hn := abbrN_1 f l a b true save HSF.out
      rw [EN.out] at hn
      have t1 : ((txt [47]).toList == [47]) = true := by rw [bytes_toList_txt]; rfl
      by_cases h0 : save = 0
      · subst h0
        rw [if_pos rfl] at hn
        have HN := Lib.hid hn
        clear hn
        go_wp2_with fail
        go_meet
        exact ⟨by rw [HN.out], rfl⟩
      · rw [if_neg h0] at hn
        have hz : (save == 0) = false := by simpa using h0
        have hz2 : (!save == 0) = true := by rw [hz]; rfl
        have HN := Lib.hid hn
        clear hn h0
        go_wp2_with fail
        go_meet
        exact ⟨by rw [HN.out], rfl⟩
    · have hn := abbrN_2 f l a b true save HSF.out
      rw [EN.out] at hn
      have t1 : ((txt [37]).toList == [47]) = false := by rw [bytes_toList_txt]; rfl
      have t2 : ((txt [37]).toList == [37]) = true := by rw [bytes_toList_txt]; rfl
      by_cases h0 : l = [45]
      · subst h0
        rw [if_pos rfl, List.nil_append] at hn
        have t3 : ((txt [45]).toList == [45]) = true := by rw [bytes_toList_txt]; rfl
        have ra := fun W => run_string_add_sum (P := Tryd.prog) W ⟨#[]⟩ (txt b) (by rw [txt_size]; show 0 + b.length ≤ _; omega)
        rw [show (⟨#[]⟩ : ByteArray) ++ txt b = txt b from txt_append [] b] at ra
        have rb := fun W => run_string_add_sum (P := Tryd.prog) W (txt a) (txt b) (by rw [txt_size, txt_size]; omega)
        rw [txt_append] at rb
        have HN := Lib.hid hn
        clear hn
        go_wp2_with fail
        go_meet
        exact ⟨by rw [HN.out], rfl⟩
      · rw [if_neg h0] at hn
        have t3 : ((txt l).toList == [45]) = false := by rw [bytes_toList_txt]; simpa using h0
        have ra := fun W => run_string_add_sum (P := Tryd.prog) W (txt l) (txt b) (by rw [txt_size, txt_size]; omega)
        rw [txt_append] at ra
        have rb := fun W => run_string_add_sum (P := Tryd.prog) W (txt a) (txt (l ++ b)) (by rw [txt_size, txt_size, List.length_append]; omega)
        rw [txt_append] at rb
        have HN := Lib.hid hn
        clear hn h0
        go_wp2_with fail
        go_meet
        exact ⟨by rw [HN.out], rfl⟩
    · have hn := abbrN_3 f l a b true save HSF.out
      rw [EN.out] at hn
      have t1 : ((txt []).toList == [47]) = false := by rw [bytes_toList_txt]; rfl
      have t2 : ((txt []).toList == [37]) = false := by rw [bytes_toList_txt]; rfl
      have HN := Lib.hid hn
      clear hn
      go_wp2_with fail
      go_meet
      exact ⟨by rw [HN.out], rfl⟩
  case rest =>
  obtain ⟨rfl, rfl⟩ := hcut
  have hsz : (txt N).size = N.length := txt_size N
  clear hc la lb ll
  by_cases h8 : 8 < N.length
  · have e2 := e0.out
    rw [if_pos h8] at e2
    have E2 := Lib.hid e2
    have z8 : (8 : Int) < (N.length : Int) := by omega
    clear h8 e2 e0
    go_wp2_with fail
    go_ret2
    exact ⟨by rw [E2.out]; rfl, HB1.out⟩
  · have e2 := e0.out
    rw [if_neg h8] at e2
    have z8 : ¬ (8 : Int) < (N.length : Int) := by omega
    by_cases hN0 : N = []
    · rw [if_pos hN0] at e2
      have E2 := Lib.hid e2
      have b0 : (txt N).toList.isEmpty = true := by rw [bytes_toList_txt, hN0]; rfl
      clear h8 e2 e0 hN0
      go_wp2_with fail
      go_ret2
      exact ⟨by rw [E2.out]; rfl, HB1.out⟩
    · rw [if_neg hN0] at e2
      have E2 := Lib.hid e2
      have b0 : (txt N).toList.isEmpty = false := by
        rw [bytes_toList_txt]
        cases N with
        | nil => exact absurd rfl hN0
        | cons c r => rfl
      clear h8 e2 e0 hN0
      go_wp2_with fail
      go_ret2
      exact ⟨by rw [E2.out]; rfl, HB1.out⟩
end Go.Proofs.YtlgdilpmdoofiaaDoor
