/- rite: words, what may be, and which day is meant. -/
import Derived.Test.YtmjakhageehcoaaDoorRiteMath
import Derived.Test.YtmjakhageehcoaaDoorRule1
import Derived.Test.YtmjakhageehcoaaDoorShelf
import Derived.Handy
import Derived.Lib.SmallJoins
namespace Go.Proofs.YtmjakhageehcoaaDoor
open Go.RowKit Go.Joins
set_option linter.unusedVariables false
set_option linter.unusedSimpArgs false

theorem rite_within (n a b : Int) (w : World) :
    Calls Tryd.prog 55 #[.int .i64 n, .int .i64 a, .int .i64 b] w fun e w' => e = .returned (.bool (withinB n a b)) ∧ w = w' := by
  by_cases h1 : a ≤ n <;> by_cases h2 : n ≤ b <;>
  · go_enter Tryd.func55, Tryd.ntmps55
    go_wp2
    go_ret
    exact ⟨ret_bool (by simp [withinB, h1, h2]), rfl⟩

abbrev signs12 : ByteArray := ⟨#[48, 49, 50, 51, 52, 53, 54, 55, 56, 57, 43, 45]⟩
def wordB (s : ByteArray) : Bool := decide ((3 : Int) ≤ s.size) && (abbrB s && !Lib.containsAny s.data.toList signs12.data.toList)

theorem abbr_ascii {s : ByteArray} (h : abbrB s = true) : (∀ (j : Nat) b, s.data.toList[j]? = some b → b.toNat < 128) ∧ s.size ≤ 8 := by
  unfold abbrB allB at h
  simp only [Bool.and_eq_true, List.all_eq_true, decide_eq_true_eq] at h
  refine ⟨fun j b hb => ?_, by omega⟩
  have := h.1.1 b (List.mem_of_getElem? hb)
  unfold signB letterB digitB at this
  simp only [Bool.or_eq_true, decide_eq_true_eq, List.contains_iff_mem, List.mem_cons, List.not_mem_nil, or_false] at this
  rcases this with (h | h) | h
  · omega
  · omega
  · rcases h with rfl | rfl <;> decide

theorem isWord_any (s : ByteArray) (w : World) (hs : s.size ≤ maxLen) :
    Calls Tryd.prog 54 #[.string s] w fun e w' => e = .returned (.bool (wordB s)) ∧ Below w.heap.size w w' := by
  by_cases h3 : (3 : Int) ≤ s.size
  · obtain ⟨A, eA⟩ : ∃ A, abbrB s = A := ⟨_, rfl⟩
    have HA := Lib.hid eA
    cases A with
    | false =>
      have HW : Hid (wordB s = false) := by show _ = _; unfold wordB; rw [eA]; simp
      clear eA
      go_enter Tryd.func54, Tryd.ntmps54
      go_wp2_with fail
      refine (isAbbr_any _ _ hs).mono ?_
      rintro e w' ⟨rfl, rfl⟩
      rw [HA.out]
      go_wp2
      go_ret
      exact ⟨ret_bool' HW.out.symm, Below.refl _ _⟩
    | true =>
      have HW : Hid (wordB s = !Lib.containsAny s.data.toList signs12.data.toList) := by show _ = _; unfold wordB; rw [eA, decide_eq_true h3]; simp
      have HC := Lib.hid (fun W => Tryd.strings_ContainsAny_laid s signs12 W (by have := (abbr_ascii eA).2; omega) (by decide) (abbr_ascii eA).1 (by
        intro j b hb
        have := List.mem_of_getElem? hb
        simp only [signs12, List.mem_cons, List.not_mem_nil, or_false] at this
        rcases this with rfl | rfl | rfl | rfl | rfl | rfl | rfl | rfl | rfl | rfl | rfl | rfl <;> decide))
      obtain ⟨C, eC⟩ : ∃ C, Lib.containsAny s.data.toList signs12.data.toList = C := ⟨_, rfl⟩
      rw [eC] at HW HC
      clear eA eC
      go_enter Tryd.func54, Tryd.ntmps54
      go_wp2_with fail
      refine (isAbbr_any _ _ hs).mono ?_
      rintro e w' ⟨rfl, rfl⟩
      rw [HA.out]
      go_wp2_with fail
      refine (HC.out _).mono ?_
      rintro e w' ⟨rfl, hb⟩
      go_wp2
      go_ret
      exact ⟨ret_bool' HW.out.symm, hb⟩
  · have HW : Hid (wordB s = false) := by show _ = _; unfold wordB; rw [decide_eq_false h3]; simp
    go_enter Tryd.func54, Tryd.ntmps54
    go_wp2
    go_ret
    exact ⟨ret_bool' HW.out.symm, Below.refl _ _⟩

abbrev rtV (r : Rt) : Value := .agg #[.int .i64 r.m, .int .i64 r.w, .int .i64 r.d, .int .i64 r.t]
abbrev pxCells (p : Px) : Array Value := #[.string p.name, .int .i64 p.off, .string p.also, .int .i64 p.aoff, .int .i64 p.s.m, .int .i64 p.s.w, .int .i64 p.s.d, .int .i64 p.s.t, .int .i64 p.e.m, .int .i64 p.e.w, .int .i64 p.e.d, .int .i64 p.e.t]
abbrev pxV (p : Px) : Value := .agg (pxCells p)

def rtC (r : Rt) : Int := if okRt r = true then 0 else 1
theorem checkRite_any (r : Rt) (w : World) :
    Calls Tryd.prog 56 #[rtV r] w fun e w' => e = .returned (.int .i64 (rtC r)) ∧ Below w.heap.size w w' := by
  obtain ⟨m, k, d, t⟩ := r
  obtain ⟨b1, e1⟩ : ∃ b, withinB m 1 12 = b := ⟨_, rfl⟩
  obtain ⟨b2, e2⟩ : ∃ b, withinB k 1 5 = b := ⟨_, rfl⟩
  obtain ⟨b3, e3⟩ : ∃ b, withinB d 0 6 = b := ⟨_, rfl⟩
  obtain ⟨b4, e4⟩ : ∃ b, withinB t 0 86400 = b := ⟨_, rfl⟩
  have HO : Hid (okRt ⟨m, k, d, t⟩ = (b1 && (b2 && (b3 && b4)))) := by
    show _ = _
    rw [← e1, ← e2, ← e3, ← e4, Bool.eq_iff_iff]
    simp only [okRt, withinB, Bool.and_eq_true, decide_eq_true_eq]
    omega
  have H1 := Lib.hid e1
  have H2 := Lib.hid e2
  have H3 := Lib.hid e3
  have H4 := Lib.hid e4
  clear e1 e2 e3 e4
  cases b1 <;> cases b2 <;> cases b3 <;> cases b4 <;>
  · go_enter Tryd.func56, Tryd.ntmps56
    iterate 4 (try (go_wp2_with fail; refine (rite_within _ _ _ _).mono ?_; (first | rw [H1.out] | rw [H2.out] | rw [H3.out] | rw [H4.out]); rintro e w' ⟨rfl, rfl⟩))
    go_wp2
    go_ret
    exact ⟨ret_int' (by unfold rtC; rw [HO.out]; rfl), (Below.refl _ _).alloc (Nat.le_refl _) _⟩

theorem dayOf_last (r : Rt) (w : World) (h : r.w = 5) :
    Calls Tryd.prog 58 #[rtV r] w fun e w' => e = .returned (dayV 2 r.d 0) ∧ Below w.heap.size w w' := by
  obtain ⟨m, k, d, t⟩ := r
  obtain rfl : k = 5 := h
  go_enter Tryd.func58, Tryd.ntmps58
  go_wp2
  refine bodyPost_ret (v := dayV 2 d 0) (by simp [results, Tryd.results58, go_sem]) rfl ⟨rfl, ?_⟩
  repeat (first | (with_reducible exact Below.refl _ _) | (with_reducible refine Below.drew ?_) | (with_reducible refine Below.alloc ?_ (by go_size) _) | (with_reducible refine Below.setCell ?_ (by go_size) _))

theorem dayOf_from (r : Rt) (w : World) (h : r.w ≠ 5) (h1 : 1 ≤ r.w) (h2 : r.w ≤ 5) :
    Calls Tryd.prog 58 #[rtV r] w fun e w' => e = .returned (dayV 3 r.d (7 * r.w - 6)) ∧ Below w.heap.size w w' := by
  obtain ⟨m, k, d, t⟩ := r
  simp only at h h1 h2
  have hk : (k == 5) = false := by simpa using h
  clear h
  go_enter Tryd.func58, Tryd.ntmps58
  go_wp2
  refine bodyPost_ret (v := dayV 3 d (7 * k - 6)) (by simp [results, Tryd.results58, go_sem]) rfl ⟨rfl, ?_⟩
  repeat (first | (with_reducible exact Below.refl _ _) | (with_reducible refine Below.drew ?_) | (with_reducible refine Below.alloc ?_ (by go_size) _) | (with_reducible refine Below.setCell ?_ (by go_size) _))
end Go.Proofs.YtmjakhageehcoaaDoor
