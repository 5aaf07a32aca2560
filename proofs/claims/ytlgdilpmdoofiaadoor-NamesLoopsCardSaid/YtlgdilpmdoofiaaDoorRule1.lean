/- rule.all, rule.IsAbbr: what each returns. Condition: the text within the form's own reach. -/
import Derived.Test.YtlgdilpmdoofiaaDoorRows
import Derived.WalkKit
import Derived.WalkSpells
import Derived.WalkLawsBesides
import Derived.Lib.Hide
import Derived.Lib.IndexAny
import Derived.Deep.QuietTactic
import Derived.BigQuiet
import Derived.Test.YtlgdilpmdoofiaaDoorShelf
namespace Go.Proofs.YtlgdilpmdoofiaaDoor
open Go.RowKit
set_option linter.unusedVariables false
set_option linter.unusedSimpArgs false

theorem ret_int' {k : IntKind} {a b : Int} (h : a = b) : Ending.returned (.int k a) = .returned (.int k b) := by rw [h]
theorem ret_bool' {a b : Bool} (h : a = b) : Ending.returned (.bool a) = .returned (.bool b) := by rw [h]

def letterB (c : Int) : Bool := decide (97 ≤ c ∧ c ≤ 122 ∨ 65 ≤ c ∧ c ≤ 90)
def digitB (c : Int) : Bool := decide (48 ≤ c ∧ c ≤ 57)

theorem isLetter_any (c : Int) (w : World) :
    Calls Tryd.prog 56 #[.int .u8 c] w fun e w' => e = .returned (.bool (letterB c)) ∧ w = w' := by
  by_cases h1 : 97 ≤ c <;> by_cases h2 : c ≤ 122 <;> by_cases h3 : 65 ≤ c <;> by_cases h4 : c ≤ 90 <;>
  first
  | omega
  | (go_enter Tryd.func56, Tryd.ntmps56
     go_wp2
     go_ret
     exact ⟨ret_bool' (by simp [letterB, h1, h2, h3, h4]), rfl⟩)

theorem isDigit_any (c : Int) (w : World) :
    Calls Tryd.prog 81 #[.int .u8 c] w fun e w' => e = .returned (.bool (digitB c)) ∧ w = w' := by
  by_cases h1 : 48 ≤ c <;> by_cases h2 : c ≤ 57 <;>
  · go_enter Tryd.func81, Tryd.ntmps81
    go_wp2
    go_ret
    exact ⟨ret_bool' (by simp [digitB, h1, h2]), rfl⟩

/-- is a byte a letter, a digit or one of some others? -/
def signB (others : List UInt8) (c : UInt8) : Bool := letterB c.toNat || digitB c.toNat || others.contains c
def allB (s : ByteArray) (most : Int) (others : ByteArray) : Bool := s.data.toList.all (signB others.data.toList) && (!s.data.toList.isEmpty) && decide ((s.size : Int) ≤ most)

theorem drop_at (s : ByteArray) (k : Nat) (h : k < s.size) : s.data.toList.drop k = s[k] :: s.data.toList.drop (k + 1) := by
  rw [List.drop_eq_getElem_cons (by simpa using h)]; rfl

theorem extract_one (s : ByteArray) (k : Nat) (h : k < s.size) : s.extract k (k + 1) = ⟨#[s[k]]⟩ := by
  apply ByteArray.ext
  apply Array.toList_inj.1
  rw [Lib.extract_data]
  simp only [Nat.add_sub_cancel_left]
  rw [drop_at s k h]; rfl

set_option maxHeartbeats 1000000 in
theorem all_any (s others : ByteArray) (most : Int) (w : World) (hs : s.size ≤ maxLen) :
    Calls Tryd.prog 55 #[.string s, .int .i64 most, .string others] w fun e w' => e = .returned (.bool (allB s most others)) ∧ w = w' := by
  unfold maxLen at hs
  go_enter Tryd.func55, Tryd.ntmps55
  go_wp2
  go_loop [10] (fun t => ∃ k : Nat, k ≤ s.size ∧ t = .int .i64 k ∧ s.data.toList.all (signB others.data.toList) = (s.data.toList.drop k).all (signB others.data.toList)) (fun t => s.size - (intOf t).toNat)
  case atStart => exact ⟨0, Nat.zero_le _, rfl, rfl⟩
  case round =>
    obtain ⟨k, hk, rfl, hall⟩ := hrel
    have HA := Lib.hid hall
    clear hall
    by_cases hlt : k < s.size
    · have hd := Lib.hid (drop_at s k hlt)
      have he := Lib.hid (extract_one s k hlt)
      cases h1 : letterB (s[k].toNat : Int)
      · cases h2 : digitB (s[k].toNat : Int)
        · cases h3 : decide (0 ≤ Lib.indexByte others.data.toList s[k])
          · have hf : Hid (signB others.data.toList s[k] = false) := by
              show signB _ _ = false
              unfold signB; rw [h1, h2, Lib.contains_iff_indexByte, h3]; rfl
            go_wp2_with (first | (go_at_call 56; refine (isLetter_any _ _).mono ?_; rintro e w' ⟨rfl, rfl⟩) | (go_at_call 81; refine (isDigit_any _ _).mono ?_; rintro e w' ⟨rfl, rfl⟩) | (go_at_call 82; rw [he.out]; refine (Tryd.strings_Contains_one _ _ _).mono ?_; rintro e w' ⟨rfl, rfl⟩))
            go_ret
            exact ⟨ret_bool' (by unfold allB; rw [HA.out, hd.out, List.all_cons, hf.out]; rfl), rfl⟩
          · have hf : Hid (signB others.data.toList s[k] = true) := by
              show signB _ _ = true
              unfold signB; rw [h1, h2, Lib.contains_iff_indexByte, h3]; rfl
            go_wp2_with (first | (go_at_call 56; refine (isLetter_any _ _).mono ?_; rintro e w' ⟨rfl, rfl⟩) | (go_at_call 81; refine (isDigit_any _ _).mono ?_; rintro e w' ⟨rfl, rfl⟩) | (go_at_call 82; rw [he.out]; refine (Tryd.strings_Contains_one _ _ _).mono ?_; rintro e w' ⟨rfl, rfl⟩))
            go_round
            case rel => exact ⟨k + 1, by omega, by go_num, by rw [HA.out, hd.out, List.all_cons, hf.out, Bool.true_and]⟩
            case measure => simp [intOf]; omega
        · have hf : Hid (signB others.data.toList s[k] = true) := by
            show signB _ _ = true
            unfold signB; rw [h1, h2]; rfl
          go_wp2_with (first | (go_at_call 56; refine (isLetter_any _ _).mono ?_; rintro e w' ⟨rfl, rfl⟩) | (go_at_call 81; refine (isDigit_any _ _).mono ?_; rintro e w' ⟨rfl, rfl⟩))
          go_round
          case rel => exact ⟨k + 1, by omega, by go_num, by rw [HA.out, hd.out, List.all_cons, hf.out, Bool.true_and]⟩
          case measure => simp [intOf]; omega
      · have hf : Hid (signB others.data.toList s[k] = true) := by
          show signB _ _ = true
          unfold signB; rw [h1]; rfl
        go_wp2_with (first | (go_at_call 56; refine (isLetter_any _ _).mono ?_; rintro e w' ⟨rfl, rfl⟩))
        go_round
        case rel => exact ⟨k + 1, by omega, by go_num, by rw [HA.out, hd.out, List.all_cons, hf.out, Bool.true_and]⟩
        case measure => simp [intOf]; omega
    · obtain rfl : k = s.size := by omega
      have hall : s.data.toList.all (signB others.data.toList) = true := by rw [HA.out, List.drop_of_length_le (by simp)]; rfl
      have HT := Lib.hid hall
      clear hall
      by_cases he : s.toList = []
      · have hE : Hid (s.data.toList = []) := by show _ = _; rw [← ByteArray.toList_eq, he]
        go_wp2
        go_ret
        exact ⟨ret_bool' (by unfold allB; rw [hE.out]; rfl), rfl⟩
      · have he2 : s.toList.isEmpty = false := by simpa using he
        have hE : Hid (s.data.toList.isEmpty = false) := by show _ = _; rw [← ByteArray.toList_eq, he2]
        by_cases hm : (s.size : Int) ≤ most
        · go_wp2
          go_ret
          exact ⟨ret_bool' (by unfold allB; rw [HT.out, hE.out, decide_eq_true hm]; simp [he2]), rfl⟩
        · go_wp2
          go_ret
          exact ⟨ret_bool' (by unfold allB; rw [HT.out, hE.out, decide_eq_false (by omega)]; simp [he2]), rfl⟩

def abbrB (s : ByteArray) : Bool := allB s 8 ⟨#[43, 45]⟩

theorem isAbbr_any (s : ByteArray) (w : World) (hs : s.size ≤ maxLen) :
    Calls Tryd.prog 39 #[.string s] w fun e w' => e = .returned (.bool (abbrB s)) ∧ w = w' := by
  go_enter Tryd.func39, Tryd.ntmps39
  go_wp2_with fail
  refine (all_any _ _ _ _ hs).mono ?_
  rintro e w' ⟨rfl, rfl⟩
  go_wp2
  go_ret
  exact ⟨rfl, rfl⟩

end Go.Proofs.YtlgdilpmdoofiaaDoor
