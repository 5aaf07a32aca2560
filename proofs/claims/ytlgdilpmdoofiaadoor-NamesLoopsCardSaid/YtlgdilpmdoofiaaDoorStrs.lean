/- R.Has and R.Eq at strings: the walks. -/
import Derived.Test.YtlgdilpmdoofiaaDoorBa6
namespace Go.Proofs.YtlgdilpmdoofiaaDoor
open Go.RowKit Go.Joins
set_option linter.unusedVariables false
set_option linter.unusedSimpArgs false
open Classical

abbrev stL (s : ByteArray) : List Value := [.string s]
theorem stL_at {W : World} {b o : Nat} {l : List ByteArray} (h : ∀ i (h : i < l.length) (j : Nat) (u : Value), (stL l[i])[j]? = some u → W.cell? ⟨b, o + i * 1 + j, none⟩ = some u) (i : Nat) (hi : i < l.length) : W.cell? ⟨b, o + i, none⟩ = some (.string l[i]) := by
  have := h i hi 0 _ rfl
  simpa using this

set_option maxHeartbeats 2000000 in
theorem Has_strs (l : List ByteArray) (x : ByteArray) (v : Value) (B : Nat) (w : World) (h : RowsAt stL 1 B w v l) :
    Calls Tryd.prog 26 #[v, .string x] w fun e w' => e = .returned (.bool (decide (x ∈ l))) ∧ w = w' := by
  obtain ⟨p, cap, rfl, ⟨hl, -⟩, hat⟩ := h
  have HAT := Lib.hid hat
  obtain ⟨R, eR⟩ : ∃ R : Bool, decide (x ∈ l) = R := ⟨_, rfl⟩
  rw [eR]
  have ER := Lib.hid eR
  clear hat eR
  go_enter Tryd.func26, Tryd.ntmps26
  go_wp2
  go_loopw [9] (fun i wr => ∃ k : Nat, k ≤ l.length ∧ i = .int .i64 k ∧ w = wr ∧ x ∉ l.take k) (fun i _ => l.length - (intOf i).toNat)
  case atStart => exact ⟨0, Nat.zero_le _, rfl, rfl, by simp⟩
  case round =>
    obtain ⟨k, hk, rfl, rfl, hno⟩ := hrel
    have HNO := Lib.hid hno
    clear hno
    by_cases hlt : k < l.length
    · obtain ⟨b, o, rfl, hbl, hcs⟩ := HAT.out (List.ne_nil_of_length_pos (by omega))
      have c0 := stL_at hcs k hlt
      obtain ⟨y, ey⟩ : ∃ y, l[k] = y := ⟨_, rfl⟩
      rw [ey] at c0
      have EY := Lib.hid ey
      clear ey hcs
      by_cases hxy : x = y
      · have hr : Hid (R = true) := by show R = true; rw [← ER.out, decide_eq_true_eq, hxy, ← EY.out]; exact List.getElem_mem hlt
        subst hxy
        go_wp2
        go_ret
        exact ⟨ret_bool' hr.out.symm, rfl⟩
      · have hxb : (x.toList == y.toList) = false := by rw [str_eqB]; exact decide_eq_false hxy
        go_wp2
        go_roundw
        case rel => exact ⟨k + 1, by omega, by go_num, by first | rfl | trivial, by rw [List.take_add_one, List.getElem?_eq_getElem hlt, EY.out]; simp [hxy, HNO.out]⟩
        case measure => simp [intOf]; omega
    · obtain rfl : k = l.length := by omega
      have hr : Hid (R = false) := by show R = false; rw [← ER.out, decide_eq_false_iff_not]; have := HNO.out; rwa [List.take_length] at this
      go_wp2
      go_ret
      exact ⟨ret_bool' hr.out.symm, rfl⟩

set_option maxHeartbeats 2000000 in
theorem Eq_strs (l m : List ByteArray) (v v2 : Value) (B : Nat) (w : World) (h : RowsAt stL 1 B w v l) (h2 : RowsAt stL 1 B w v2 m) (hlm : l.length = m.length) :
    Calls Tryd.prog 28 #[v, v2] w fun e w' => e = .returned (.bool (decide (l = m))) ∧ w = w' := by
  obtain ⟨p, cap, rfl, ⟨hl, -⟩, hat⟩ := h
  obtain ⟨p2, cap2, rfl, ⟨-, -⟩, hat2⟩ := h2
  have HAT := Lib.hid hat
  have HAT2 := Lib.hid hat2
  obtain ⟨R, eR⟩ : ∃ R : Bool, decide (l = m) = R := ⟨_, rfl⟩
  rw [eR]
  have ER := Lib.hid eR
  have HM := Lib.hid hlm
  rw [← hlm]
  clear hat hat2 eR hlm
  go_enter Tryd.func28, Tryd.ntmps28
  go_wp2
  go_loopw [14] (fun i wr => ∃ k : Nat, k ≤ l.length ∧ i = .int .i64 k ∧ w = wr ∧ l.take k = m.take k) (fun i _ => l.length - (intOf i).toNat)
  case atStart => exact ⟨0, Nat.zero_le _, rfl, rfl, by simp⟩
  case round =>
    obtain ⟨k, hk, rfl, rfl, hno⟩ := hrel
    have HNO := Lib.hid hno
    clear hno
    by_cases hlt : k < l.length
    · have hltm : k < m.length := by rw [← HM.out]; exact hlt
      obtain ⟨b, o, rfl, hbl, hcs⟩ := HAT.out (List.ne_nil_of_length_pos (by omega))
      obtain ⟨b2, o2, rfl, hbl2, hcs2⟩ := HAT2.out (List.ne_nil_of_length_pos (by omega))
      obtain ⟨y, ey⟩ : ∃ y, l[k] = y := ⟨_, rfl⟩
      obtain ⟨z, ez⟩ : ∃ z, m[k] = z := ⟨_, rfl⟩
      have c0 := stL_at hcs k hlt
      have c1 := stL_at hcs2 k hltm
      rw [ey] at c0
      rw [ez] at c1
      have EY := Lib.hid ey
      have EZ := Lib.hid ez
      have HLM := Lib.hid hltm
      clear ey ez hcs hcs2
      by_cases hxy : y = z
      · subst hxy
        go_wp2
        go_roundw
        case rel => exact ⟨k + 1, by omega, by go_num, by first | rfl | trivial, by rw [List.take_add_one, List.take_add_one, List.getElem?_eq_getElem hlt, List.getElem?_eq_getElem HLM.out, EY.out, EZ.out, HNO.out]⟩
        case measure => simp [intOf]; omega
      · have hxb : (y.toList == z.toList) = false := by rw [str_eqB]; exact decide_eq_false hxy
        have hr : Hid (R = false) := by
          show R = false
          rw [← ER.out, decide_eq_false_iff_not]
          intro h
          subst h
          exact hxy (EY.out.symm.trans EZ.out)
        go_wp2
        go_ret
        exact ⟨ret_bool' hr.out.symm, rfl⟩
    · obtain rfl : k = l.length := by omega
      have hr : Hid (R = true) := by show R = true; rw [← ER.out, decide_eq_true_eq]; have := HNO.out; rw [List.take_length] at this; rw [this, HM.out, List.take_length]
      go_wp2
      go_ret
      exact ⟨ret_bool' hr.out.symm, rfl⟩
end Go.Proofs.YtlgdilpmdoofiaaDoor
