/- RuleWords: its walk. -/
import Derived.Test.YtfocdcdggidboaaGreatDoorRuF
import Derived.Lib.IndexAny
namespace Go.Proofs.YtfocdcdggidboaaGreatDoor
open Go.RowKit Go.Joins
open Classical
set_option linter.unusedVariables false
set_option linter.unusedSimpArgs false

abbrev sgN : ByteArray := ⟨#[32, 37, 43, 46, 44, 58]⟩
abbrev sgA : ByteArray := ⟨#[32, 37, 47, 95, 46, 44, 58]⟩
theorem noAny (chars : List UInt8) : ∀ l : List UInt8, (∀ c ∈ l, c ∉ chars) → Lib.indexAny l chars = -1
  | [], _ => rfl
  | b :: l, h => by
    have ih := noAny chars l (fun c hc => h c (List.mem_cons_of_mem _ hc))
    have hb : chars.contains b = false := by
      have := h b (by simp)
      simpa using this
    unfold Lib.indexAny
    simp [hb, ih, h b (by simp)]
theorem noAny' {chars l : List UInt8} (h : ∀ c ∈ l, c ∉ chars) : Lib.containsAny l chars = false := by
  unfold Lib.containsAny
  rw [noAny chars l h]
  rfl
theorem all_sign {s : ByteArray} {most : Int} {o : ByteArray} (h : allB s most o = true) : ∀ c ∈ s.data.toList, (48 ≤ c.toNat ∧ c.toNat ≤ 57) ∨ (65 ≤ c.toNat ∧ c.toNat ≤ 90) ∨ (97 ≤ c.toNat ∧ c.toNat ≤ 122) ∨ c ∈ o.data.toList := by
  unfold allB at h
  simp only [Bool.and_eq_true, List.all_eq_true] at h
  intro c hc
  have := h.1.1 c hc
  unfold signB letterB digitB at this
  simp only [Bool.or_eq_true, decide_eq_true_eq, List.contains_iff_mem] at this
  rcases this with (h | h) | h
  · omega
  · omega
  · exact Or.inr (Or.inr (Or.inr h))
theorem all_nonempty {s : ByteArray} {most : Int} {o : ByteArray} (h : allB s most o = true) : s.toList.isEmpty = false ∧ 0 < s.size := by
  unfold allB at h
  simp only [Bool.and_eq_true, Bool.not_eq_true'] at h
  have h2 := h.1.2
  rw [ByteArray.toList_eq]
  refine ⟨h2, ?_⟩
  rcases Nat.eq_zero_or_pos s.size with h0 | h0
  · have : s.data.toList = [] := List.eq_nil_of_length_eq_zero (by simpa using h0)
    rw [this] at h2; simp at h2
  · exact h0
theorem not_small {c : UInt8} {n : Nat} (h : c.toNat ≠ n) (k : UInt8) (hk : k.toNat = n) : c ≠ k := by
  rintro rfl
  exact h hk
theorem name_facts {s : ByteArray} (h : nameB s = true) : (∀ (j : Nat) b, s.data.toList[j]? = some b → b.toNat < 128) ∧ s.size ≤ 20 ∧ 0 < s.size ∧ s.toList.isEmpty = false ∧ Lib.containsAny s.data.toList sgN.data.toList = false ∧ ∃ c, s.data.toList[0]? = some c ∧ letterB c.toNat = true := by
  unfold nameB at h
  simp only [Bool.and_eq_true, decide_eq_true_eq] at h
  have ha := all_sign h.1
  have hn := all_nonempty h.1
  refine ⟨fun j b hb => ?_, ?_, hn.2, hn.1, noAny' (fun c hc => ?_), h.2⟩
  · have := ha b (List.mem_of_getElem? hb)
    rcases this with h | h | h | h
    · omega
    · omega
    · omega
    · simp only [List.mem_cons, List.not_mem_nil, or_false] at h
      rcases h with rfl | rfl | rfl <;> decide
  · have := all_size h.1; omega
  · have := ha c hc
    simp only [sgN, List.mem_cons, List.not_mem_nil, or_false]
    intro hm
    rcases hm with rfl | rfl | rfl | rfl | rfl | rfl <;> revert this <;> decide
theorem abbr_facts {s : ByteArray} (h : abbrB s = true) : (∀ (j : Nat) b, s.data.toList[j]? = some b → b.toNat < 128) ∧ s.size ≤ 8 ∧ 0 < s.size ∧ s.toList.isEmpty = false ∧ Lib.containsAny s.data.toList sgA.data.toList = false := by
  unfold abbrB at h
  have ha := all_sign h
  have hn := all_nonempty h
  refine ⟨fun j b hb => ?_, ?_, hn.2, hn.1, noAny' (fun c hc => ?_)⟩
  · have := ha b (List.mem_of_getElem? hb)
    rcases this with h | h | h | h
    · omega
    · omega
    · omega
    · simp only [List.mem_cons, List.not_mem_nil, or_false] at h
      rcases h with rfl | rfl <;> decide
  · have := all_size h; omega
  · have := ha c hc
    simp only [sgA, List.mem_cons, List.not_mem_nil, or_false]
    intro hm
    rcases hm with rfl | rfl | rfl | rfl | rfl | rfl | rfl <;> revert this <;> decide
theorem name_space (s : ByteArray) : nameB (s ++ ⟨#[32]⟩) = false := by
  cases h : nameB (s ++ ⟨#[32]⟩) with
  | false => rfl
  | true =>
    unfold nameB at h
    simp only [Bool.and_eq_true] at h
    have := all_sign h.1 32 (by simp [ByteArray.data_append])
    revert this; decide
theorem abbr_slash (s : ByteArray) : abbrB ((⟨#[47]⟩ : ByteArray) ++ s) = false := by
  cases h : abbrB ((⟨#[47]⟩ : ByteArray) ++ s) with
  | false => rfl
  | true =>
    unfold abbrB at h
    have := all_sign h 47 (by simp [ByteArray.data_append])
    revert this; decide

set_option maxRecDepth 100000 in
set_option maxHeartbeats 4000000 in
theorem RuleWords_walk (s : ByteArray) (w : World) (hs : s.size ≤ 140737488351232) (ht : Tab10 w) (ha : AscTab w) (hn : NumErrs w) (hm : MaxLen w) :
    Calls Tryz.prog 3 #[.string s] w fun e w' => e = .returned (.bool true) ∧ Below w.heap.size w w' := by
  have HF := Lib.hid (RuFacts.mk ht ha hn hm)
  have HN1 := Lib.hid (fun W => isName_any s W (by unfold maxLen; omega))
  have HA1 := Lib.hid (fun W => isAbbr_any s W (by unfold maxLen; omega))
  have HN0 := Lib.hid (fun W => isName_any ⟨#[]⟩ W (by decide))
  have HA0 := Lib.hid (fun W => isAbbr_any ⟨#[]⟩ W (by decide))
  have HN2 := Lib.hid (fun W => isName_any (s ++ ⟨#[32]⟩) W (by rw [ByteArray.size_append]; unfold maxLen; show s.size + 1 ≤ _; omega))
  have HA2 := Lib.hid (fun W => isAbbr_any ((⟨#[47]⟩ : ByteArray) ++ s) W (by rw [ByteArray.size_append]; unfold maxLen; show 1 + s.size ≤ _; omega))
  have e0 : nameB ⟨#[]⟩ = false := by decide
  have e1 : abbrB ⟨#[]⟩ = false := by decide
  rw [e0] at HN0
  rw [e1] at HA0
  rw [name_space] at HN2
  rw [abbr_slash] at HA2
  have ra := fun W => run_string_add_sum (P := Tryz.prog) W s ⟨#[32]⟩ (by show s.size + 1 ≤ _; omega)
  have rb := fun W => run_string_add_sum (P := Tryz.prog) W ⟨#[47]⟩ s (by show 1 + s.size ≤ _; omega)
  have NF := Lib.hid (fun h => name_facts (s := s) h)
  have AF := Lib.hid (fun h => abbr_facts (s := s) h)
  clear ht ha hn hm e0 e1
  go_enter Tryz.func3, Tryz.ntmps3
  go_wp2_with fail
  refine (ruled_any _ HF.out).mono ?_
  rintro e w1 ⟨rfl, hb1⟩
  have HB1 := Lib.hid hb1
  clear hb1
  go_upto_region 3 with fail
  go_cut [29] (fun sx wx => sx = .bool false ∧ Below w.heap.size w wx)
  case first =>
    by_cases hN : nameB s = true
    · obtain ⟨f1, f2, f3, f4, f5, c, f6, f7⟩ := NF.out hN
      have hc : s[0] = c := by
        rw [List.getElem?_eq_getElem (by simpa using f3)] at f6
        injection f6
      have hl : 65 ≤ s[0].toNat ∧ s[0].toNat ≤ 122 := by
        rw [hc]
        unfold letterB at f7
        simp only [decide_eq_true_eq] at f7
        omega
      obtain ⟨l1, l2⟩ := hl
      have g1 : (48 : Int) ≤ (s[0].toNat : Int) := by omega
      have g2 : ¬ (s[0].toNat : Int) ≤ 57 := by omega
      have HCA := Lib.hid (fun W => Tryz.strings_ContainsAny_laid s sgN W (by omega) (by decide) f1 (by
        intro j b hb
        have := List.mem_of_getElem? hb
        simp only [sgN, List.mem_cons, List.not_mem_nil, or_false] at this
        rcases this with rfl | rfl | rfl | rfl | rfl | rfl <;> decide))
      rw [f5] at HCA
      rw [hN] at HN1
      clear hN f1 f5 f6 f7 hc c l1 l2
      go_wp2_with fail
      refine (HN1.out _).mono ?_
      rintro e w' ⟨rfl, rfl⟩
      go_wp2_with fail
      refine (HCA.out _).mono ?_
      rintro e w2 ⟨rfl, hb2⟩
      have HB2 := Lib.hid (HB1.out.trans (hb2.mono HB1.out.size))
      clear hb2
      go_wp2_with fail
      go_meet
      exact ⟨by rw [decide_eq_false (show ¬ (20 : Int) < (s.size : Int) by omega), decide_eq_false (show ¬ (s[0].toNat : Int) ≤ 57 by omega)]; rfl, HB2.out⟩
    · rw [eq_false_of_ne_true hN] at HN1
      clear hN
      go_wp2_with fail
      refine (HN1.out _).mono ?_
      rintro e w' ⟨rfl, rfl⟩
      go_wp2_with fail
      go_meet
      exact ⟨rfl, HB1.out⟩
  case rest =>
  obtain ⟨rfl, hb2⟩ := hcut
  have HB2 := Lib.hid hb2
  clear hb2 HB1
  go_upto_region 5 with fail
  go_cut [44] (fun sx wx => sx = .bool false ∧ Below w.heap.size w wx)
  case first =>
    by_cases hN : abbrB s = true
    · obtain ⟨f1, f2, f3, f4, f5⟩ := AF.out hN
      have HCA := Lib.hid (fun W => Tryz.strings_ContainsAny_laid s sgA W (by omega) (by decide) f1 (by
        intro j b hb
        have := List.mem_of_getElem? hb
        simp only [sgA, List.mem_cons, List.not_mem_nil, or_false] at this
        rcases this with rfl | rfl | rfl | rfl | rfl | rfl | rfl <;> decide))
      rw [f5] at HCA
      rw [hN] at HA1
      clear hN f1 f5
      go_wp2_with fail
      refine (HA1.out _).mono ?_
      rintro e w' ⟨rfl, rfl⟩
      go_wp2_with fail
      refine (HCA.out _).mono ?_
      rintro e w3 ⟨rfl, hb3⟩
      have HB3 := Lib.hid (HB2.out.trans (hb3.mono HB2.out.size))
      clear hb3
      go_wp2_with fail
      go_meet
      exact ⟨by rw [decide_eq_false (show ¬ (8 : Int) < (s.size : Int) by omega)], HB3.out⟩
    · rw [eq_false_of_ne_true hN] at HA1
      clear hN
      go_wp2_with fail
      refine (HA1.out _).mono ?_
      rintro e w' ⟨rfl, rfl⟩
      go_wp2_with fail
      go_meet
      exact ⟨rfl, HB2.out⟩
  case rest =>
  obtain ⟨rfl, hb3⟩ := hcut
  have HB3 := Lib.hid hb3
  clear hb3 HB2
  go_wp2_with fail
  refine (HN0.out _).mono ?_
  rintro e w' ⟨rfl, rfl⟩
  go_wp2_with fail
  refine (HA0.out _).mono ?_
  rintro e w' ⟨rfl, rfl⟩
  go_wp2_with fail
  refine (HN2.out _).mono ?_
  rintro e w' ⟨rfl, rfl⟩
  go_wp2_with fail
  refine (HA2.out _).mono ?_
  rintro e w' ⟨rfl, rfl⟩
  go_wp2
  go_ret
  exact ⟨rfl, HB3.out⟩
end Go.Proofs.YtfocdcdggidboaaGreatDoor
