/- Lists of ints in memory; Rest, Eq, Has of the reference; clock.Floor. -/
import Derived.Test.YthggojpdcgcmaaaGreatDoorQ09
import Derived.Test.YthggojpdcgcmaaaGreatDoorQ15
namespace Go.Proofs.YthggojpdcgcmaaaGreatDoor
open Go.RowKit
set_option linter.unusedVariables false
set_option linter.unusedSimpArgs false

structure SlInt (w : World) (v : Value) (l : List Int) : Prop where
  shape : ∃ p cap, v = .slice p l.length cap ∧ (l ≠ [] → ∃ b o, p = some ⟨b, o, none⟩ ∧ b < w.heap.size ∧ ∀ i (h : i < l.length), w.cell? ⟨b, o + i, none⟩ = some (.int .i64 l[i]))
  size : l.length ≤ maxLen

theorem SlInt.below {w w' : World} {v : Value} {l : List Int} (h : SlInt w v l) (hb : Below w.heap.size w w') : SlInt w' v l := by
  obtain ⟨⟨p, cap, hv, hc⟩, h2⟩ := h
  refine ⟨⟨p, cap, hv, fun hne => ?_⟩, h2⟩
  obtain ⟨b, o, hp, hlt, hat⟩ := hc hne
  exact ⟨b, o, hp, Nat.lt_of_lt_of_le hlt hb.size, fun i h => (hb.cell (p := ⟨b, o + i, none⟩) hlt).trans (hat i h)⟩

theorem SlInt.of_own {w : World} {base : Nat} {v : Value} {n : Nat} {l : List Int} (h : w.ownsRow base 3 1 v n (l.map (Value.int .i64))) (hn : n ≤ maxLen) : SlInt w v l := by
  have e1 : n = l.length := by have := h.1; simp at this; omega
  obtain rfl := e1
  rcases h.2 with ⟨rfl, h0⟩ | ⟨g, cap, cur, rfl, hb, hg, h1, h2, h3, h4⟩
  · refine ⟨⟨none, 0, by rw [h0], fun hne => ?_⟩, hn⟩
    exact absurd (List.length_eq_zero_iff.1 h0) hne
  · refine ⟨⟨_, cap, rfl, fun _ => ⟨g, 0, rfl, (Array.getElem?_eq_some_iff.1 hg).1, fun i hi => ?_⟩⟩, hn⟩
    have e2 : cur.toList[i]? = some (.int .i64 l[i]) := by
      have e3 : (cur.toList.take (l.length * 1))[i]? = some (.int .i64 l[i]) := by rw [h4]; simp [hi]
      rw [List.getElem?_take] at e3
      split at e3
      · exact e3
      · cases e3
    have e4 : cur[i]? = some (.int .i64 l[i]) := by rw [← Array.getElem?_toList]; exact e2
    simp [World.cell?, hg, e4]

set_option maxHeartbeats 2000000 in
theorem Has_some (l : List Int) (x : Int) (b o cap : Nat) (w : World) (hl : l.length ≤ maxLen) (hat : ∀ i (h : i < l.length), w.cell? ⟨b, o + i, none⟩ = some (.int .i64 l[i])) :
    Calls Tryz.prog 21 #[.slice (some ⟨b, o, none⟩) l.length cap, .int .i64 x] w fun e w' => e = .returned (.bool (decide (x ∈ l))) ∧ w = w' := by
  have HAT := Lib.hid hat
  unfold maxLen at hl
  obtain ⟨R, eR⟩ : ∃ R : Bool, decide (x ∈ l) = R := ⟨_, rfl⟩
  rw [eR]
  have ER := Lib.hid eR
  clear hat eR
  go_enter Tryz.func21, Tryz.ntmps21
  go_wp2
  go_loopw [9] (fun i wr => ∃ k : Nat, k ≤ l.length ∧ i = .int .i64 k ∧ w = wr ∧ x ∉ l.take k) (fun i _ => l.length - (intOf i).toNat)
  case atStart => exact ⟨0, Nat.zero_le _, rfl, rfl, by simp⟩
  case round =>
    obtain ⟨k, hk, rfl, rfl, hno⟩ := hrel
    have HNO := Lib.hid hno
    clear hno
    by_cases hlt : k < l.length
    · obtain ⟨y, ey⟩ : ∃ y, l[k] = y := ⟨_, rfl⟩
      have c0 := HAT.out k hlt
      rw [ey] at c0
      have EY := Lib.hid ey
      clear ey
      by_cases hxy : x = y
      · have hr : Hid (R = true) := by show R = true; rw [← ER.out, decide_eq_true_eq, hxy, ← EY.out]; exact List.getElem_mem hlt
        go_wp2
        go_ret
        exact ⟨ret_bool' hr.out.symm, rfl⟩
      · have hxb : (x == y) = false := by simpa using hxy
        go_wp2
        go_roundw
        case rel => exact ⟨k + 1, by omega, by go_num, by first | rfl | trivial, by rw [List.take_add_one, List.getElem?_eq_getElem hlt, EY.out]; simp [hxy, HNO.out]⟩
        case measure => simp [intOf]; omega
    · obtain rfl : k = l.length := by omega
      have hr : Hid (R = false) := by show R = false; rw [← ER.out, decide_eq_false_iff_not]; have := HNO.out; rwa [List.take_length] at this
      go_wp2
      go_ret
      exact ⟨ret_bool' hr.out.symm, rfl⟩

theorem Has_any (l : List Int) (x : Int) (v : Value) (w : World) (h : SlInt w v l) :
    Calls Tryz.prog 21 #[v, .int .i64 x] w fun e w' => e = .returned (.bool (decide (x ∈ l))) ∧ w = w' := by
  obtain ⟨⟨p, cap, rfl, hs⟩, hl⟩ := h
  by_cases hne : l = []
  · subst hne
    go_enter Tryz.func21, Tryz.ntmps21
    go_wp2
    go_loopw [9] (fun i wr => i = .int .i64 0 ∧ w = wr) (fun i _ => 0)
    case atStart => exact ⟨rfl, rfl⟩
    case round =>
      obtain ⟨rfl, rfl⟩ := hrel
      go_wp2
      go_ret
      exact ⟨ret_bool' (by simp), rfl⟩
  · obtain ⟨b, o, rfl, hlt, hat⟩ := hs hne
    exact Has_some l x b o cap w hl hat
end Go.Proofs.YthggojpdcgcmaaaGreatDoor
