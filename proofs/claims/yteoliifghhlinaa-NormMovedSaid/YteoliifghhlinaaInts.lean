/- Lists of ints in memory; Rest, Eq, Has of the reference; clock.Floor. -/
import Derived.Test.YteoliifghhlinaaTab2
namespace Go.Proofs.Yteoliifghhlinaa
open Go.RowKit
set_option linter.unusedVariables false
set_option linter.unusedSimpArgs false

structure SlInt (w : World) (v : Value) (l : List Int) : Prop where
  shape : ∃ p cap, v = .slice p l.length cap ∧ (l ≠ [] → ∃ b o, p = some ⟨b, o, none⟩ ∧ b < w.heap.size ∧ ∀ i (h : i < l.length), w.cell? ⟨b, o + i, none⟩ = some (.int .i64 l[i]))
  size : l.length ≤ maxLen

theorem SlInt.below {w w' : World} {v : Value} {l : List Int} (h : SlInt w v l) (hb : Below w.heap.size w w') : SlInt w' v l := by
  obtain ⟨⟨p, cap, hv, hc⟩, h2⟩ := h
  refine ⟨⟨p, cap, hv, fun hne => ?_⟩, h2⟩
  obtain ⟨b, o, hp, hlt, hat⟩ := hc hne
  exact ⟨b, o, hp, Nat.lt_of_lt_of_le hlt hb.size, fun i h => (hb.cell (p := ⟨b, o + i, none⟩) hlt).trans (hat i h)⟩

theorem SlInt.of_own {w : World} {base : Nat} {v : Value} {n : Nat} {l : List Int} (h : w.ownsRow base 3 1 v n (l.map (Value.int .i64))) (hn : n ≤ maxLen) : SlInt w v l := by
  have e1 : n = l.length := by have := h.1; simp at this; omega
  obtain rfl := e1
  rcases h.2 with ⟨rfl, h0⟩ | ⟨g, cap, cur, rfl, hb, hg, h1, h2, h3, h4⟩
  · refine ⟨⟨none, 0, by rw [h0], fun hne => ?_⟩, hn⟩
    exact absurd (List.length_eq_zero_iff.1 h0) hne
  · refine ⟨⟨_, cap, rfl, fun _ => ⟨g, 0, rfl, (Array.getElem?_eq_some_iff.1 hg).1, fun i hi => ?_⟩⟩, hn⟩
    have e2 : cur.toList[i]? = some (.int .i64 l[i]) := by
      have e3 : (cur.toList.take (l.length * 1))[i]? = some (.int .i64 l[i]) := by rw [h4]; simp [hi]
      rw [List.getElem?_take] at e3
      split at e3
      · exact e3
      · cases e3
    have e4 : cur[i]? = some (.int .i64 l[i]) := by rw [← Array.getElem?_toList]; exact e2
    simp [World.cell?, hg, e4]

theorem rest_neg (n m : Int) (h0 : 0 < m) (h1 : m ≤ 4611686018427387904) (h : n.tmod m < 0) : wrap64 (n.tmod m + m) = n % m := by
  have q := Int.tmod_eq_emod (a := n) (b := m)
  have := Int.emod_nonneg n (show m ≠ 0 by omega)
  have := Int.emod_lt_of_pos n h0
  have e : n.tmod m + m = n % m := by
    split at q
    · omega
    · have : (m.natAbs : Int) = m := by omega
      omega
  rw [e]
  exact IntWalk.wrap64_in _ ⟨by omega, by omega⟩

theorem rest_pos (n m : Int) (h0 : 0 < m) (h : 0 ≤ n.tmod m) : n.tmod m = n % m := by
  have q := Int.tmod_eq_emod (a := n) (b := m)
  have := Int.emod_lt_of_pos n h0
  split at q
  · omega
  · have : (m.natAbs : Int) = m := by omega
    omega

theorem Rest_any (n m : Int) (w : World) (h0 : 0 < m) (h1 : m ≤ 1099511627776) :
    Calls Try.prog 12 #[.int .i64 n, .int .i64 m] w fun e w' => e = .returned (.int .i64 (n % m)) ∧ w = w' := by
  have hh : m ≤ 4611686018427387904 := by omega
  go_enter Try.func12, Try.ntmps12
  go_wp2
  · go_ret
    exact ⟨ret_int' (rest_neg n m h0 hh (by assumption)), rfl⟩
  · go_ret
    exact ⟨ret_int' (rest_pos n m h0 (by assumption)), rfl⟩

theorem floor_div (n m : Int) (h0 : 0 < m) (h : n.tmod m < 0) : n.tdiv m - 1 = n / m := by
  have q := Int.tmod_eq_emod (a := n) (b := m)
  have e1 := Int.tdiv_mul_add_tmod n m
  have e2 := Int.ediv_mul_add_emod n m
  have h3 : (m.natAbs : Int) = m := by omega
  split at q
  · have := Int.emod_nonneg n (show m ≠ 0 by omega); omega
  · have e3 : (n.tdiv m - 1 - n / m) * m = 0 := by
      rw [Int.sub_mul, Int.sub_mul, Int.one_mul]; omega
    rcases Int.mul_eq_zero.1 e3 with h | h <;> omega
theorem floor_div' (n m : Int) (h0 : 0 < m) (h : 0 ≤ n.tmod m) : n.tdiv m = n / m := by
  have q := rest_pos n m h0 h
  have e1 := Int.tdiv_mul_add_tmod n m
  have e2 := Int.ediv_mul_add_emod n m
  have e3 : (n.tdiv m - n / m) * m = 0 := by
    rw [Int.sub_mul]; omega
  rcases Int.mul_eq_zero.1 e3 with h | h <;> omega

theorem ret_2 {a b c d : Int} (h : a = b) (h2 : c = d) : Ending.returned (.tuple #[.int .i64 a, .int .i64 c]) = .returned (.tuple #[.int .i64 b, .int .i64 d]) := by rw [h, h2]

theorem tdiv_small (n m : Int) (h0 : 1 < m) (h1 : -9223372036854775808 ≤ n) (h2 : n ≤ 9223372036854775807) : -4611686018427387904 ≤ n.tdiv m ∧ n.tdiv m ≤ 4611686018427387904 := by
  have e1 := Int.natAbs_tdiv_le_natAbs n m
  have e2 := Int.tdiv_mul_add_tmod n m
  have e3 : n.natAbs / m.natAbs = (n.tdiv m).natAbs := (Int.natAbs_tdiv n m).symm
  have e4 : n.natAbs / m.natAbs ≤ n.natAbs / 2 := Nat.div_le_div_left (by omega) (by omega)
  omega




set_option maxHeartbeats 2000000 in
theorem Eq_some (l m : List Int) (b o cap b2 o2 cap2 : Nat) (w : World) (hl : l.length ≤ maxLen) (hm : m.length = l.length) (hat : ∀ i (h : i < l.length), w.cell? ⟨b, o + i, none⟩ = some (.int .i64 l[i])) (hat2 : ∀ i (h : i < m.length), w.cell? ⟨b2, o2 + i, none⟩ = some (.int .i64 m[i])) :
    Calls Try.prog 38 #[.slice (some ⟨b, o, none⟩) l.length cap, .slice (some ⟨b2, o2, none⟩) m.length cap2] w fun e w' => e = .returned (.bool (decide (l = m))) ∧ w = w' := by
  have HAT := Lib.hid hat
  have HAT2 := Lib.hid hat2
  unfold maxLen at hl
  obtain ⟨R, eR⟩ : ∃ R : Bool, decide (l = m) = R := ⟨_, rfl⟩
  rw [eR]
  have ER := Lib.hid eR
  have HM := Lib.hid hm
  rw [hm]
  clear hat hat2 eR hm
  go_enter Try.func38, Try.ntmps38
  go_wp2
  go_loopw [14] (fun i wr => ∃ k : Nat, k ≤ l.length ∧ i = .int .i64 k ∧ w = wr ∧ l.take k = m.take k) (fun i _ => l.length - (intOf i).toNat)
  case atStart => exact ⟨0, Nat.zero_le _, rfl, rfl, by simp⟩
  case round =>
    obtain ⟨k, hk, rfl, rfl, hno⟩ := hrel
    have HNO := Lib.hid hno
    clear hno
    by_cases hlt : k < l.length
    · have hltm : k < m.length := by rw [HM.out]; exact hlt
      obtain ⟨y, ey⟩ : ∃ y, l[k] = y := ⟨_, rfl⟩
      obtain ⟨z, ez⟩ : ∃ z, m[k] = z := ⟨_, rfl⟩
      have c0 := HAT.out k hlt
      have c1 := HAT2.out k hltm
      rw [ey] at c0
      rw [ez] at c1
      have EY := Lib.hid ey
      have EZ := Lib.hid ez
      have HLM := Lib.hid hltm
      clear ey ez
      by_cases hxy : y = z
      · have hxb : (y == z) = true := by simpa using hxy
        subst hxy
        go_wp2
        go_roundw
        case rel => exact ⟨k + 1, by omega, by go_num, by first | rfl | trivial, by rw [List.take_add_one, List.take_add_one, List.getElem?_eq_getElem hlt, List.getElem?_eq_getElem HLM.out, EY.out, EZ.out, HNO.out]⟩
        case measure => simp [intOf]; omega
      · have hxb : (y == z) = false := by simpa using hxy
        have hr : Hid (R = false) := by
          show R = false
          rw [← ER.out, decide_eq_false_iff_not]
          intro h
          subst h
          exact hxy (EY.out.symm.trans EZ.out)
        go_wp2
        go_ret
        exact ⟨ret_bool' hr.out.symm, rfl⟩
    · obtain rfl : k = l.length := by omega
      have hr : Hid (R = true) := by show R = true; rw [← ER.out, decide_eq_true_eq]; have := HNO.out; rw [List.take_length] at this; rw [this, ← HM.out, List.take_length]
      go_wp2
      go_ret
      exact ⟨ret_bool' hr.out.symm, rfl⟩

end Go.Proofs.Yteoliifghhlinaa
