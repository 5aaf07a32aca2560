/- The last step of a law's row where of the new world 'Below' alone is known. (A lemma that the guide gives to copy.) All arguments of a law read behind the call as before it, where of old memory nothing has turned. rule.all, rule.IsAbbr: what each returns. Condition: the text within the form's own reach. rule.IsName: what it returns. day.Check and day.within: what each returns. rule: what Check returns: the plain mathematics. Times and spans as texts, in plain Lean. clock.two: what it returns. Numbers as digits, cuts and beginnings of texts: plain Lean. SpanOdd: its walk. SpanHours: its walk. book: what Abbr and Check return: plain functions. book.within, isLetter, split: what each returns. book.split: what it returns. -/
import Derived.Test.YtomahddiclkepaaGreatDoorRows
import Derived.WalkKit
import Derived.ProofKit
import Derived.OpenShut
import Derived.Below
import Derived.ChangeSame
import Derived.Carry
import Derived.Lib.SmallJoins
import Derived.WalkSpells
import Derived.WalkLawsBesides
import Derived.Lib.Hide
import Derived.Lib.IndexAny
import Derived.Deep.QuietTactic
import Derived.BigQuiet
import Derived.Test.YtomahddiclkepaaGreatDoorShelf
import Derived.Test.YtomahddiclkepaaGreatDoorCiv0
import Derived.Test.YtomahddiclkepaaGreatDoorCivMath
import Derived.Lib.ItoaNum
import Derived.Shelf.Bytes.SlEqualAll
import Derived.Lib.AppendIntMem
import Derived.Lib.IndexMore
import Derived.Lib.Strings
import Derived.Test.YtomahddiclkepaaGreatDoorCiv2
import Derived.Handy
namespace Go.Proofs.YtomahddiclkepaaGreatDoor
open Go.ChangeShapes Go.WideShapes Go.ChangeAt Go.RowKit
set_option linter.unusedVariables false

theorem own : ownKnob Tryz.prog.godebug = none := by kernel_rfl

section
variable {H : Type} {enc : TypeId × Value → H} {P : Program}
theorem post_of_below {f : Func} {s : ChangeSpec} {apart fresh handsOn again : Bool} {W W' : World} {args : Array Value} {v : Value} {ds gs : List (DataW H)} {before pa pv : List MemPlace}
    (hW : DataW.Whole enc P f.params.toList s.vars apart W args.toList ds gs before)
    (hres : ∀ (b : Nat) (sp : Nat → Bool) (hd : Bool), DataW.TrodAll enc P W' b sp hd f.resultTypes.toList (v.resultList f.resultTypes.size) (s.fn H (ds ++ gs)).results [])
    (hargs : ∀ sp : Nat → Bool, (∀ p ∈ before, sp p.block = true) → DataW.TrodAll enc P W' 0 sp true f.params.toList args.toList (s.fn H (ds ++ gs)).args pa)
    (hvars : ∀ sp : Nat → Bool, (∀ p ∈ before, sp p.block = true) → DataW.TrodVars enc P W' sp s.vars (s.fn H (ds ++ gs)).vars pv)
    (hps : before = pa ++ pv) (hb : Below W.heap.size W W')
    (hok : ∀ (j : Nat) (t : TypeId) (r : Value), f.resultTypes[j]? = some t → (v.resultList f.resultTypes.size)[j]? = some r → Value.okWide P W' .any 0 t r) :
    s.post enc P f apart fresh handsOn again W args v W' := by
  have hlt : ∀ p ∈ before, p.block < W.heap.size := fun p hp => hW.lt p hp
  have hold : ∀ p ∈ before, (fun b => decide (b < W.heap.size)) p.block = true := fun p hp => by simpa using hlt p hp
  refine ⟨ds, gs, before, [], pa, pv, hW, hres _ _ _, hargs _ hold, hvars _ hold, World.keptBut_mono (fun p hp => ⟨hp, ?_⟩) (hb.frame (· ∈ before)), fun _ => ?_⟩
  · rw [hps, List.mem_append] at hp
    exact Or.inr hp
  · obtain ⟨_, _, _, _, _, hz, hn⟩ := hW
    refine ⟨hok, _, _, ([] ++ pa) ++ pv, ⟨[] ++ pa, pv, trodAll_append (hargs _ (fun _ _ => rfl)) (hres _ _ _), hvars _ (fun _ _ => rfl), rfl, ?_, ?_⟩, ?_⟩
    · intro b off hp
      have hin : MemPlace.cell b off ∈ before := by rw [hps]; simpa using hp
      rw [hb.frozen (hlt _ hin)]
      exact hz b off hin
    · intro ha
      have := hn ha
      rw [hps] at this
      simpa using this
    · intro p hp _
      rw [hps]
      simpa using hp
end

end Go.Proofs.YtomahddiclkepaaGreatDoor
namespace Go.Proofs.YtomahddiclkepaaGreatDoor
open Go.ChangeShapes Go.WideShapes Go.ChangeAt Go.RowKit
set_option linter.unusedVariables false

theorem laidOut : laidOutB Tryz.prog = true := by kernel_rfl

theorem trodAll_stays {H : Type} {enc : TypeId × Value → H} {P : Program} {W W' : World} {sp : Nat → Bool} (hl : laidOutB P = true) (hb : Below W.heap.size W W') :
    ∀ (ts : List TypeId) (vs : List Value) (ds : List (DataW H)) (ps : List MemPlace), (ts.all fun t => P.readableRec t && decide (t < P.types.size)) = true → (∀ p ∈ ps, p.block < W.heap.size) → (∀ p ∈ ps, sp p.block = true) →
      DataW.TrodAll enc P W 0 (fun _ => true) true ts vs ds ps → DataW.TrodAll enc P W' 0 sp true ts vs ds ps
  | [], [], [], _, _, _, _, h => h
  | t :: ts, v :: vs, d :: ds, ps, hts, hlt, hsp, ⟨p, q, h1, h2, e⟩ => by
    simp only [List.all_cons, Bool.and_eq_true, decide_eq_true_eq] at hts
    refine ⟨p, q, ?_, trodAll_stays hl hb ts vs ds q hts.2 (fun x hx => hlt x (by rw [e]; exact List.mem_append_right _ hx)) (fun x hx => hsp x (by rw [e]; exact List.mem_append_right _ hx)) h2, e⟩
    exact WideElems.Trod_stays hl hts.1.1 hts.1.2 h1 (fun x hx => hb.same (hlt x (by rw [e]; exact List.mem_append_left _ hx))) (fun x hx => hsp x (by rw [e]; exact List.mem_append_left _ hx))
  | [], [], _ :: _, _, _, _, _, h => h.elim
  | [], _ :: _, _, _, _, _, _, h => h.elim
  | _ :: _, [], _, _, _, _, _, h => h.elim
  | _ :: _, _ :: _, [], _, _, _, _, h => h.elim

end Go.Proofs.YtomahddiclkepaaGreatDoor
namespace Go.Proofs.YtomahddiclkepaaGreatDoor
open Go.RowKit
set_option linter.unusedVariables false
set_option linter.unusedSimpArgs false

theorem ret_int' {k : IntKind} {a b : Int} (h : a = b) : Ending.returned (.int k a) = .returned (.int k b) := by rw [h]
theorem ret_bool' {a b : Bool} (h : a = b) : Ending.returned (.bool a) = .returned (.bool b) := by rw [h]

def letterB (c : Int) : Bool := decide (97 ≤ c ∧ c ≤ 122 ∨ 65 ≤ c ∧ c ≤ 90)
def digitB (c : Int) : Bool := decide (48 ≤ c ∧ c ≤ 57)

theorem isLetter_any (c : Int) (w : World) :
    Calls Tryz.prog 115 #[.int .u8 c] w fun e w' => e = .returned (.bool (letterB c)) ∧ w = w' := by
  by_cases h1 : 97 ≤ c <;> by_cases h2 : c ≤ 122 <;> by_cases h3 : 65 ≤ c <;> by_cases h4 : c ≤ 90 <;>
  first
  | omega
  | (go_enter Tryz.func115, Tryz.ntmps115
     go_wp2
     go_ret
     exact ⟨ret_bool' (by simp [letterB, h1, h2, h3, h4]), rfl⟩)

theorem isDigit_any (c : Int) (w : World) :
    Calls Tryz.prog 147 #[.int .u8 c] w fun e w' => e = .returned (.bool (digitB c)) ∧ w = w' := by
  by_cases h1 : 48 ≤ c <;> by_cases h2 : c ≤ 57 <;>
  · go_enter Tryz.func147, Tryz.ntmps147
    go_wp2
    go_ret
    exact ⟨ret_bool' (by simp [digitB, h1, h2]), rfl⟩

/-- is a byte a letter, a digit or one of some others? -/
def signB (others : List UInt8) (c : UInt8) : Bool := letterB c.toNat || digitB c.toNat || others.contains c
def allB (s : ByteArray) (most : Int) (others : ByteArray) : Bool := s.data.toList.all (signB others.data.toList) && (!s.data.toList.isEmpty) && decide ((s.size : Int) ≤ most)

theorem drop_at (s : ByteArray) (k : Nat) (h : k < s.size) : s.data.toList.drop k = s[k] :: s.data.toList.drop (k + 1) := by
  rw [List.drop_eq_getElem_cons (by simpa using h)]; rfl

theorem extract_one (s : ByteArray) (k : Nat) (h : k < s.size) : s.extract k (k + 1) = ⟨#[s[k]]⟩ := by
  apply ByteArray.ext
  apply Array.toList_inj.1
  rw [Lib.extract_data]
  simp only [Nat.add_sub_cancel_left]
  rw [drop_at s k h]; rfl

set_option maxHeartbeats 1000000 in
theorem all_any (s others : ByteArray) (most : Int) (w : World) (hs : s.size ≤ maxLen) :
    Calls Tryz.prog 98 #[.string s, .int .i64 most, .string others] w fun e w' => e = .returned (.bool (allB s most others)) ∧ w = w' := by
  unfold maxLen at hs
  go_enter Tryz.func98, Tryz.ntmps98
  go_wp2
  go_loop [10] (fun t => ∃ k : Nat, k ≤ s.size ∧ t = .int .i64 k ∧ s.data.toList.all (signB others.data.toList) = (s.data.toList.drop k).all (signB others.data.toList)) (fun t => s.size - (intOf t).toNat)
  case atStart => exact ⟨0, Nat.zero_le _, rfl, rfl⟩
  case round =>
    obtain ⟨k, hk, rfl, hall⟩ := hrel
    have HA := Lib.hid hall
    clear hall
    by_cases hlt : k < s.size
    · have hd := Lib.hid (drop_at s k hlt)
      have he := Lib.hid (extract_one s k hlt)
      cases h1 : letterB (s[k].toNat : Int)
      · cases h2 : digitB (s[k].toNat : Int)
        · cases h3 : decide (0 ≤ Lib.indexByte others.data.toList s[k])
          · have hf : Hid (signB others.data.toList s[k] = false) := by
              show signB _ _ = false
              unfold signB; rw [h1, h2, Lib.contains_iff_indexByte, h3]; rfl
            go_wp2_with (first | (go_at_call 115; refine (isLetter_any _ _).mono ?_; rintro e w' ⟨rfl, rfl⟩) | (go_at_call 147; refine (isDigit_any _ _).mono ?_; rintro e w' ⟨rfl, rfl⟩) | (go_at_call 148; rw [he.out]; refine (Tryz.strings_Contains_one _ _ _).mono ?_; rintro e w' ⟨rfl, rfl⟩))
            go_ret
            exact ⟨ret_bool' (by unfold allB; rw [HA.out, hd.out, List.all_cons, hf.out]; rfl), rfl⟩
          · have hf : Hid (signB others.data.toList s[k] = true) := by
              show signB _ _ = true
              unfold signB; rw [h1, h2, Lib.contains_iff_indexByte, h3]; rfl
            go_wp2_with (first | (go_at_call 115; refine (isLetter_any _ _).mono ?_; rintro e w' ⟨rfl, rfl⟩) | (go_at_call 147; refine (isDigit_any _ _).mono ?_; rintro e w' ⟨rfl, rfl⟩) | (go_at_call 148; rw [he.out]; refine (Tryz.strings_Contains_one _ _ _).mono ?_; rintro e w' ⟨rfl, rfl⟩))
            go_round
            case rel => exact ⟨k + 1, by omega, by go_num, by rw [HA.out, hd.out, List.all_cons, hf.out, Bool.true_and]⟩
            case measure => simp [intOf]; omega
        · have hf : Hid (signB others.data.toList s[k] = true) := by
            show signB _ _ = true
            unfold signB; rw [h1, h2]; rfl
          go_wp2_with (first | (go_at_call 115; refine (isLetter_any _ _).mono ?_; rintro e w' ⟨rfl, rfl⟩) | (go_at_call 147; refine (isDigit_any _ _).mono ?_; rintro e w' ⟨rfl, rfl⟩))
          go_round
          case rel => exact ⟨k + 1, by omega, by go_num, by rw [HA.out, hd.out, List.all_cons, hf.out, Bool.true_and]⟩
          case measure => simp [intOf]; omega
      · have hf : Hid (signB others.data.toList s[k] = true) := by
          show signB _ _ = true
          unfold signB; rw [h1]; rfl
        go_wp2_with (first | (go_at_call 115; refine (isLetter_any _ _).mono ?_; rintro e w' ⟨rfl, rfl⟩))
        go_round
        case rel => exact ⟨k + 1, by omega, by go_num, by rw [HA.out, hd.out, List.all_cons, hf.out, Bool.true_and]⟩
        case measure => simp [intOf]; omega
    · obtain rfl : k = s.size := by omega
      have hall : s.data.toList.all (signB others.data.toList) = true := by rw [HA.out, List.drop_of_length_le (by simp)]; rfl
      have HT := Lib.hid hall
      clear hall
      by_cases he : s.toList = []
      · have hE : Hid (s.data.toList = []) := by show _ = _; rw [← ByteArray.toList_eq, he]
        go_wp2
        go_ret
        exact ⟨ret_bool' (by unfold allB; rw [hE.out]; rfl), rfl⟩
      · have he2 : s.toList.isEmpty = false := by simpa using he
        have hE : Hid (s.data.toList.isEmpty = false) := by show _ = _; rw [← ByteArray.toList_eq, he2]
        by_cases hm : (s.size : Int) ≤ most
        · go_wp2
          go_ret
          exact ⟨ret_bool' (by unfold allB; rw [HT.out, hE.out, decide_eq_true hm]; simp [he2]), rfl⟩
        · go_wp2
          go_ret
          exact ⟨ret_bool' (by unfold allB; rw [HT.out, hE.out, decide_eq_false (by omega)]; simp [he2]), rfl⟩

def abbrB (s : ByteArray) : Bool := allB s 8 ⟨#[43, 45]⟩

theorem isAbbr_any (s : ByteArray) (w : World) (hs : s.size ≤ maxLen) :
    Calls Tryz.prog 44 #[.string s] w fun e w' => e = .returned (.bool (abbrB s)) ∧ w = w' := by
  go_enter Tryz.func44, Tryz.ntmps44
  go_wp2_with fail
  refine (all_any _ _ _ _ hs).mono ?_
  rintro e w' ⟨rfl, rfl⟩
  go_wp2
  go_ret
  exact ⟨rfl, rfl⟩

end Go.Proofs.YtomahddiclkepaaGreatDoor
namespace Go.Proofs.YtomahddiclkepaaGreatDoor
open Go.RowKit Go.Joins
open Classical
set_option linter.unusedVariables false
set_option linter.unusedSimpArgs false

def nameB (s : ByteArray) : Bool := allB s 20 ⟨#[95, 47, 45]⟩ && decide (∃ c, s.data.toList[0]? = some c ∧ letterB c.toNat = true)
theorem isName_any (s : ByteArray) (w : World) (hs : s.size ≤ maxLen) :
    Calls Tryz.prog 64 #[.string s] w fun e w' => e = .returned (.bool (nameB s)) ∧ w = w' := by
  obtain ⟨A, eA⟩ : ∃ A, allB s 20 ⟨#[95, 47, 45]⟩ = A := ⟨_, rfl⟩
  have HA := Lib.hid eA
  cases A with
  | false =>
    have HN : Hid (nameB s = false) := by show _ = _; unfold nameB; rw [eA]; simp
    clear eA
    go_enter Tryz.func64, Tryz.ntmps64
    go_wp2_with fail
    refine (all_any _ _ _ _ hs).mono ?_
    rw [HA.out]
    rintro e w' ⟨rfl, rfl⟩
    go_wp2
    go_ret
    exact ⟨ret_bool' HN.out.symm, rfl⟩
  | true =>
    have h0 : 0 < s.size := by
      unfold allB at eA
      simp only [Bool.and_eq_true, Bool.not_eq_true', decide_eq_true_eq] at eA
      have h2 := eA.1.2
      rcases Nat.eq_zero_or_pos s.size with h | h
      · have : s.data.toList = [] := List.eq_nil_of_length_eq_zero (by simpa using h)
        rw [this] at h2; simp at h2
      · exact h
    obtain ⟨c, ec⟩ : ∃ c, s[0] = c := ⟨_, rfl⟩
    have HN : Hid (nameB s = letterB c.toNat) := by
      show _ = _
      unfold nameB
      rw [eA, Bool.true_and]
      have hc : s.data.toList[0]? = some c := by
        rw [List.getElem?_eq_getElem (by simpa using h0)]
        exact congrArg some ec
      rw [hc]
      cases hl : letterB c.toNat
      · exact decide_eq_false (by rintro ⟨d, hd, h⟩; injection hd with hd; subst hd; rw [hl] at h; cases h)
      · exact decide_eq_true ⟨c, rfl, hl⟩
    clear eA
    go_enter Tryz.func64, Tryz.ntmps64
    go_wp2_with fail
    refine (all_any _ _ _ _ hs).mono ?_
    rw [HA.out]
    rintro e w' ⟨rfl, rfl⟩
    go_wp2_with fail
    refine (isLetter_any _ _).mono ?_
    rintro e w' ⟨rfl, rfl⟩
    go_wp2
    go_ret
    exact ⟨ret_bool' (by rw [HN.out, ← ec]), rfl⟩

end Go.Proofs.YtomahddiclkepaaGreatDoor
namespace Go.Proofs.YtomahddiclkepaaGreatDoor
open Go.RowKit
set_option linter.unusedVariables false
set_option linter.unusedSimpArgs false

def withinB (n a b : Int) : Bool := decide (a ≤ n ∧ n ≤ b)
theorem withinB_t {n a b : Int} (h : a ≤ n ∧ n ≤ b) : withinB n a b = true := by simp [withinB, h]
theorem withinB_f {n a b : Int} (h : ¬ (a ≤ n ∧ n ≤ b)) : withinB n a b = false := by unfold withinB; exact decide_eq_false h
theorem withinB_iff {n a b : Int} : withinB n a b = true ↔ a ≤ n ∧ n ≤ b := by simp [withinB]

theorem day_within (n a b : Int) (w : World) :
    Calls Tryz.prog 125 #[.int .i64 n, .int .i64 a, .int .i64 b] w fun e w' => e = .returned (.bool (withinB n a b)) ∧ w = w' := by
  by_cases h1 : a ≤ n <;> by_cases h2 : n ≤ b <;>
  · go_enter Tryz.func125, Tryz.ntmps125
    go_wp2
    go_ret
    exact ⟨ret_bool (by simp [withinB, h1, h2]), rfl⟩

abbrev dayV (k wd n : Int) : Value := .agg #[.int .i64 k, .int .i64 wd, .int .i64 n]

def dayB (k wd n : Int) : Bool := decide ((k = 1 ∧ wd = 0 ∧ 1 ≤ n ∧ n ≤ 31) ∨ (k = 2 ∧ 0 ≤ wd ∧ wd ≤ 6 ∧ n = 0) ∨ ((k = 3 ∨ k = 4) ∧ 0 ≤ wd ∧ wd ≤ 6 ∧ 1 ≤ n ∧ n ≤ 31))

theorem quiet_left {P : Program} {f : FuncId} {args : Array Value} {w : World} {n : Nat} {v : Value}
    (h : Calls P f args (w.drewN n) fun e w' => e = .returned v ∧ w.drewN n = w') : Calls P f args (w.drewN n) fun e w'' => e = .returned v ∧ ∃ m, w'' = w.drewN m :=
  h.mono fun _ _ ⟨he, hm⟩ => ⟨he, n, hm.symm⟩

theorem below_drewN {B : Nat} {a w : World} (h : Below B a w) (n : Nat) : Below B a (w.drewN n) := ⟨h.os, h.tape, h.output, h.size, h.block⟩

set_option maxHeartbeats 2000000 in
theorem Check_ok (k wd n : Int) (w : World) (h0 : dayB k wd n = true) :
    Calls Tryz.prog 79 #[dayV k wd n] w fun e w' => e = .returned (.int .i64 0) ∧ Below w.heap.size w w' := by
  simp only [dayB, decide_eq_true_eq] at h0
  rcases h0 with ⟨rfl, rfl, h⟩ | ⟨rfl, h, h2, rfl⟩ | ⟨rfl | rfl, h⟩
  · have t0 : withinB 0 0 6 = true := by decide
    have t2 : withinB n 1 31 = true := withinB_t (by omega)
    clear h
    go_enter Tryz.func79, Tryz.ntmps79
    go_wp2
    go_quiet ((go_at_call 125; exact quiet_left (day_within _ _ _ _)))
    go_wp2
    go_ret
    exact ⟨rfl, below_drewN ((Below.refl _ _).alloc (Nat.le_refl _) _) _⟩
  · have t2 : withinB 0 1 31 = false := by decide
    have t1 : withinB wd 0 6 = true := withinB_t (by omega)
    clear h
    go_enter Tryz.func79, Tryz.ntmps79
    go_wp2
    go_quiet ((go_at_call 125; exact quiet_left (day_within _ _ _ _)))
    go_wp2
    go_ret
    exact ⟨rfl, below_drewN ((Below.refl _ _).alloc (Nat.le_refl _) _) _⟩
  · have t1 : withinB wd 0 6 = true := withinB_t (by omega)
    have t2 : withinB n 1 31 = true := withinB_t (by omega)
    clear h
    go_enter Tryz.func79, Tryz.ntmps79
    go_wp2
    go_quiet ((go_at_call 125; exact quiet_left (day_within _ _ _ _)))
    go_wp2
    go_ret
    exact ⟨rfl, below_drewN ((Below.refl _ _).alloc (Nat.le_refl _) _) _⟩
  · have t1 : withinB wd 0 6 = true := withinB_t (by omega)
    have t2 : withinB n 1 31 = true := withinB_t (by omega)
    clear h
    go_enter Tryz.func79, Tryz.ntmps79
    go_wp2
    go_quiet ((go_at_call 125; exact quiet_left (day_within _ _ _ _)))
    go_wp2
    go_ret
    exact ⟨rfl, below_drewN ((Below.refl _ _).alloc (Nat.le_refl _) _) _⟩
set_option maxHeartbeats 2000000 in
theorem Check_no (k wd n : Int) (w : World) (h0 : dayB k wd n = false) :
    Calls Tryz.prog 79 #[dayV k wd n] w fun e w' => e = .returned (.int .i64 1) ∧ Below w.heap.size w w' := by
  simp only [dayB, decide_eq_false_iff_not] at h0
  have h : (k = 1 ∧ wd ≠ 0) ∨ (k = 1 ∧ wd = 0 ∧ ¬ (1 ≤ n ∧ n ≤ 31)) ∨ (k = 2 ∧ ¬ (0 ≤ wd ∧ wd ≤ 6)) ∨ (k = 2 ∧ (0 ≤ wd ∧ wd ≤ 6) ∧ n ≠ 0) ∨ (k = 3 ∧ ¬ (0 ≤ wd ∧ wd ≤ 6)) ∨ (k = 3 ∧ (0 ≤ wd ∧ wd ≤ 6) ∧ ¬ (1 ≤ n ∧ n ≤ 31)) ∨
      (k = 4 ∧ ¬ (0 ≤ wd ∧ wd ≤ 6)) ∨ (k = 4 ∧ (0 ≤ wd ∧ wd ≤ 6) ∧ ¬ (1 ≤ n ∧ n ≤ 31)) ∨ (k ≠ 1 ∧ k ≠ 2 ∧ k ≠ 3 ∧ k ≠ 4) := by omega
  clear h0
  rcases h with ⟨rfl, h⟩ | ⟨rfl, rfl, h⟩ | ⟨rfl, h⟩ | ⟨rfl, h1, h⟩ | ⟨rfl, h⟩ | ⟨rfl, h1, h⟩ | ⟨rfl, h⟩ | ⟨rfl, h1, h⟩ | h
  · have t3 : (wd == 0) = false := by simp; omega
    clear h
    go_enter Tryz.func79, Tryz.ntmps79
    go_wp2
    go_quiet ((go_at_call 125; exact quiet_left (day_within _ _ _ _)))
    go_wp2
    go_ret
    exact ⟨rfl, below_drewN ((Below.refl _ _).alloc (Nat.le_refl _) _) _⟩
  · have t2 : withinB n 1 31 = false := withinB_f (by omega)
    clear h
    go_enter Tryz.func79, Tryz.ntmps79
    go_wp2
    go_quiet ((go_at_call 125; exact quiet_left (day_within _ _ _ _)))
    go_wp2
    go_ret
    exact ⟨rfl, below_drewN ((Below.refl _ _).alloc (Nat.le_refl _) _) _⟩
  · have t1 : withinB wd 0 6 = false := withinB_f (by omega)
    clear h
    go_enter Tryz.func79, Tryz.ntmps79
    go_wp2
    go_quiet ((go_at_call 125; exact quiet_left (day_within _ _ _ _)))
    go_wp2
    go_ret
    exact ⟨rfl, below_drewN ((Below.refl _ _).alloc (Nat.le_refl _) _) _⟩
  · have t1 : withinB wd 0 6 = true := withinB_t (by omega)
    have t4 : (n == 0) = false := by simp; omega
    clear h
    go_enter Tryz.func79, Tryz.ntmps79
    go_wp2
    go_quiet ((go_at_call 125; exact quiet_left (day_within _ _ _ _)))
    go_wp2
    go_ret
    exact ⟨rfl, below_drewN ((Below.refl _ _).alloc (Nat.le_refl _) _) _⟩
  · have t1 : withinB wd 0 6 = false := withinB_f (by omega)
    clear h
    go_enter Tryz.func79, Tryz.ntmps79
    go_wp2
    go_quiet ((go_at_call 125; exact quiet_left (day_within _ _ _ _)))
    go_wp2
    go_ret
    exact ⟨rfl, below_drewN ((Below.refl _ _).alloc (Nat.le_refl _) _) _⟩
  · have t1 : withinB wd 0 6 = true := withinB_t (by omega)
    have t2 : withinB n 1 31 = false := withinB_f (by omega)
    clear h
    go_enter Tryz.func79, Tryz.ntmps79
    go_wp2
    go_quiet ((go_at_call 125; exact quiet_left (day_within _ _ _ _)))
    go_wp2
    go_ret
    exact ⟨rfl, below_drewN ((Below.refl _ _).alloc (Nat.le_refl _) _) _⟩
  · have t1 : withinB wd 0 6 = false := withinB_f (by omega)
    clear h
    go_enter Tryz.func79, Tryz.ntmps79
    go_wp2
    go_quiet ((go_at_call 125; exact quiet_left (day_within _ _ _ _)))
    go_wp2
    go_ret
    exact ⟨rfl, below_drewN ((Below.refl _ _).alloc (Nat.le_refl _) _) _⟩
  · have t1 : withinB wd 0 6 = true := withinB_t (by omega)
    have t2 : withinB n 1 31 = false := withinB_f (by omega)
    clear h
    go_enter Tryz.func79, Tryz.ntmps79
    go_wp2
    go_quiet ((go_at_call 125; exact quiet_left (day_within _ _ _ _)))
    go_wp2
    go_ret
    exact ⟨rfl, below_drewN ((Below.refl _ _).alloc (Nat.le_refl _) _) _⟩
  · have t5 : (k == 1) = false := by simp; omega
    have t6 : (k == 2) = false := by simp; omega
    have t7 : (k == 3) = false := by simp; omega
    have t8 : (k == 4) = false := by simp; omega
    clear h
    go_enter Tryz.func79, Tryz.ntmps79
    go_wp2
    go_quiet ((go_at_call 125; exact quiet_left (day_within _ _ _ _)))
    go_wp2
    go_ret
    exact ⟨rfl, below_drewN ((Below.refl _ _).alloc (Nat.le_refl _) _) _⟩

end Go.Proofs.YtomahddiclkepaaGreatDoor
namespace Go.Proofs.YtomahddiclkepaaGreatDoor
open Go.RowKit Go.Joins
open Classical
set_option linter.unusedVariables false
set_option linter.unusedSimpArgs false

structure Ru where
  (nm : ByteArray)
  (yf yt mo dk dw dn tm ck sv : Int)
  (lt : ByteArray)

def ruChk (r : Ru) : Int :=
  if nameB r.nm = false then 3 else
  if r.lt.toList ≠ [45] ∧ abbrB r.lt = false then 3 else
  if ¬ (1900 ≤ r.yf ∧ r.yf ≤ 2100) then 1 else
  if ¬ (r.yf ≤ r.yt ∧ r.yt ≤ 2100) then 1 else
  if ¬ (1 ≤ r.mo ∧ r.mo ≤ 12) then 1 else
  if dayB r.dk r.dw r.dn = false then 1 else
  if Civ.mlen 1901 r.mo < r.dn then 1 else
  if ¬ (-604800 ≤ r.tm ∧ r.tm ≤ 604800) then 1 else
  if ¬ (0 ≤ r.ck ∧ r.ck ≤ 2) then 1 else
  if ¬ (0 ≤ r.sv ∧ r.sv ≤ 10800) then 1 else 0

structure OkRu (r : Ru) : Prop where
  nm : nameB r.nm = true
  lt : r.lt.toList = [45] ∨ abbrB r.lt = true
  f1 : 1900 ≤ r.yf
  f2 : r.yf ≤ 2100
  t1 : r.yf ≤ r.yt
  t2 : r.yt ≤ 2100
  m1 : 1 ≤ r.mo
  m2 : r.mo ≤ 12
  d : dayB r.dk r.dw r.dn = true
  n : r.dn ≤ Civ.mlen 1901 r.mo
  a1 : -604800 ≤ r.tm
  a2 : r.tm ≤ 604800
  c1 : 0 ≤ r.ck
  c2 : r.ck ≤ 2
  s1 : 0 ≤ r.sv
  s2 : r.sv ≤ 10800
theorem ru_ok {r : Ru} (h : ruChk r = 0) : OkRu r := by
  unfold ruChk at h
  split at h
  · omega
  rename_i h1
  split at h
  · omega
  rename_i h2
  split at h
  · omega
  rename_i h3
  split at h
  · omega
  rename_i h4
  split at h
  · omega
  rename_i h5
  split at h
  · omega
  rename_i h6
  split at h
  · omega
  rename_i h7
  split at h
  · omega
  rename_i h8
  split at h
  · omega
  rename_i h9
  split at h
  · omega
  rename_i h10
  refine ⟨by simpa using h1, ?_, by omega, by omega, by omega, by omega, by omega, by omega, by simpa using h6, by omega, by omega, by omega, by omega, by omega, by omega, by omega⟩
  by_cases hl : r.lt.toList = [45]
  · exact Or.inl hl
  · right
    cases ha : abbrB r.lt
    · exact absurd ⟨hl, ha⟩ h2
    · rfl
theorem ok_ru {r : Ru} (o : OkRu r) : ruChk r = 0 := by
  unfold ruChk
  rw [if_neg (by rw [o.nm]; simp), if_neg (fun h => by
    rcases o.lt with h1 | h1
    · exact h.1 h1
    · rw [h1] at h; exact absurd h.2 (by simp)), if_neg (fun h => h ⟨o.f1, o.f2⟩), if_neg (fun h => h ⟨o.t1, o.t2⟩), if_neg (fun h => h ⟨o.m1, o.m2⟩), if_neg (by rw [o.d]; simp), if_neg (by have := o.n; omega), if_neg (fun h => h ⟨o.a1, o.a2⟩), if_neg (fun h => h ⟨o.c1, o.c2⟩), if_neg (fun h => h ⟨o.s1, o.s2⟩)]

end Go.Proofs.YtomahddiclkepaaGreatDoor
namespace Go.Proofs.YtomahddiclkepaaGreatDoor
open Go
set_option linter.unusedVariables false

/-- two digits -/
def T2 (n : Int) : List UInt8 := [UInt8.ofNat (48 + (n / 10).toNat), UInt8.ofNat (48 + (n % 10).toNat)]
theorem T2_length (n : Int) : (T2 n).length = 2 := rfl
/-- a text as a string -/
def txt (l : List UInt8) : ByteArray := ⟨l.toArray⟩
theorem txt_append (a b : List UInt8) : txt a ++ txt b = txt (a ++ b) := by
  apply ByteArray.ext
  simp [txt]
theorem txt_data (l : List UInt8) : (txt l).data.toList = l := by simp [txt]
theorem txt_size (l : List UInt8) : (txt l).size = l.length := by simp [txt, ByteArray.size]
theorem txt_inj {a b : List UInt8} (h : txt a = txt b) : a = b := by
  have := congrArg (fun s : ByteArray => s.data.toList) h
  simpa [txt] using this

/-- a span that is not below 0 -/
def spanP (n : Int) : List UInt8 := Lib.itoa (n / 3600) ++ ([58] ++ (T2 (n / 60 % 60) ++ (if n % 60 = 0 then [] else [58] ++ T2 (n % 60))))
def spanT (n : Int) : List UInt8 := if n < 0 then 45 :: spanP (-n) else spanP n

def stampT (t : Int) : List UInt8 :=
  Lib.itoa (Civ.yy (t / 86400)) ++ ([45] ++ (T2 (Civ.mm (t / 86400)) ++ ([45] ++ (T2 (Civ.dd (t / 86400)) ++ ([84] ++ (T2 (t % 86400 / 3600) ++ ([58] ++ (T2 (t % 86400 / 60 % 60) ++ ([58] ++ T2 (t % 86400 % 60))))))))))

theorem dec_four (u : Nat) (h0 : 1000 ≤ u) (h1 : u < 10000) : Lib.decDigits u = [UInt8.ofNat (48 + u / 1000), UInt8.ofNat (48 + u / 100 % 10), UInt8.ofNat (48 + u / 10 % 10), UInt8.ofNat (48 + u % 10)] := by
  rw [Lib.decDigits, dif_neg (by omega), Lib.decDigits, dif_neg (by omega), Lib.decDigits, dif_neg (by omega), Lib.decDigits, dif_pos (by omega)]
  simp only [List.cons_append, List.nil_append]
  rw [show u / 10 / 10 / 10 = u / 1000 by omega, show u / 10 / 10 % 10 = u / 100 % 10 by omega]
theorem itoa_four {n : Int} (h0 : 1000 ≤ n) (h1 : n < 10000) : Lib.itoa n = T2 (n / 100) ++ T2 (n % 100) := by
  unfold Lib.itoa
  rw [if_neg (by omega), dec_four _ (by omega) (by omega)]
  have e1 : n.toNat / 1000 = (n / 100 / 10).toNat := by omega
  have e2 : n.toNat / 100 % 10 = (n / 100 % 10).toNat := by omega
  have e3 : n.toNat / 10 % 10 = (n % 100 / 10).toNat := by omega
  have e4 : n.toNat % 10 = (n % 100 % 10).toNat := by omega
  rw [e1, e2, e3, e4]
  rfl
theorem stamp_length (t : Int) (h1 : -135140 ≤ t / 86400) (h2 : t / 86400 ≤ 157053) : (stampT t).length = 19 := by
  obtain ⟨hv, _⟩ := Civ.date_valid (t / 86400) h1 h2
  obtain ⟨y1, y2, _⟩ := hv
  unfold stampT
  rw [itoa_four (by omega) (by omega)]
  simp [T2_length]

theorem digit_lt {a b : Nat} (ha : a < 10) (hb : b < 10) : UInt8.ofNat (48 + a) < UInt8.ofNat (48 + b) ↔ a < b := by
  rw [UInt8.lt_iff_toNat_lt]
  simp only [UInt8.toNat_ofNat']
  omega
theorem digit_inj {a b : Nat} (ha : a < 10) (hb : b < 10) (h : UInt8.ofNat (48 + a) = UInt8.ofNat (48 + b)) : a = b := by
  have := congrArg UInt8.toNat h
  simp only [UInt8.toNat_ofNat'] at this
  omega
/-- lists of one size, the first different place tells -/
theorem lex_append {a b c d : List UInt8} (hl : a.length = b.length) : a ++ c < b ++ d ↔ a < b ∨ a = b ∧ c < d := by
  induction a generalizing b with
  | nil =>
    cases b with
    | nil => simp
    | cons y s => simp at hl
  | cons x r ih =>
    cases b with
    | nil => simp at hl
    | cons y s =>
      have := ih (b := s) (by simpa using hl)
      simp only [List.cons_append, List.cons_lt_cons_iff, this, List.cons.injEq]
      constructor
      · rintro (h | ⟨rfl, h | ⟨rfl, h⟩⟩)
        · exact .inl (.inl h)
        · exact .inl (.inr ⟨rfl, h⟩)
        · exact .inr ⟨⟨rfl, rfl⟩, h⟩
      · rintro ((h | ⟨rfl, h⟩) | ⟨⟨rfl, rfl⟩, h⟩)
        · exact .inl h
        · exact .inr ⟨rfl, .inl h⟩
        · exact .inr ⟨rfl, .inr ⟨rfl, h⟩⟩
theorem T2_app (a b : Int) (c d : List UInt8) : T2 a ++ c < T2 b ++ d ↔ T2 a < T2 b ∨ T2 a = T2 b ∧ c < d := lex_append rfl
theorem same_head {a b c : List UInt8} : c ++ a < c ++ b ↔ a < b := by
  rw [lex_append rfl]
  constructor
  · rintro (h | ⟨_, h⟩)
    · exact absurd h (List.lt_irrefl c)
    · exact h
  · exact fun h => .inr ⟨rfl, h⟩
theorem T2_lt {a b : Int} (h0 : 0 ≤ a) (h1 : a < 100) (h2 : 0 ≤ b) (h3 : b < 100) : T2 a < T2 b ↔ a < b := by
  unfold T2
  simp only [List.cons_lt_cons_iff]
  rw [digit_lt (by omega) (by omega), digit_lt (by omega) (by omega)]
  constructor
  · rintro (h | ⟨h, h' | ⟨_, h'⟩⟩)
    · omega
    · have := digit_inj (by omega) (by omega) h; omega
    · exact absurd h' (by simp)
  · intro h
    by_cases e : a / 10 = b / 10
    · exact .inr ⟨by rw [e], .inl (by omega)⟩
    · exact .inl (by omega)
theorem T2_inj {a b : Int} (h0 : 0 ≤ a) (h1 : a < 100) (h2 : 0 ≤ b) (h3 : b < 100) (h : T2 a = T2 b) : a = b := by
  unfold T2 at h
  injection h with h4 h5
  injection h5 with h5 _
  have := digit_inj (by omega) (by omega) h4
  have := digit_inj (by omega) (by omega) h5
  omega
theorem T2_eq {a b : Int} (h0 : 0 ≤ a) (h1 : a < 100) (h2 : 0 ≤ b) (h3 : b < 100) : T2 a = T2 b ↔ a = b := ⟨T2_inj h0 h1 h2 h3, fun h => by rw [h]⟩
theorem Y4_lt {a b : Int} (h0 : 1000 ≤ a) (h1 : a < 10000) (h2 : 1000 ≤ b) (h3 : b < 10000) : Lib.itoa a < Lib.itoa b ↔ a < b := by
  rw [itoa_four h0 h1, itoa_four h2 h3, T2_app, T2_lt (by omega) (by omega) (by omega) (by omega), T2_lt (by omega) (by omega) (by omega) (by omega), T2_eq (by omega) (by omega) (by omega) (by omega)]
  omega
theorem Y4_eq {a b : Int} (h0 : 1000 ≤ a) (h1 : a < 10000) (h2 : 1000 ≤ b) (h3 : b < 10000) : Lib.itoa a = Lib.itoa b ↔ a = b := by
  constructor
  · intro h
    rw [itoa_four h0 h1, itoa_four h2 h3] at h
    have e := List.append_inj h rfl
    have := T2_inj (by omega) (by omega) (by omega) (by omega) e.1
    have := T2_inj (by omega) (by omega) (by omega) (by omega) e.2
    omega
  · intro h; rw [h]
theorem Y4_length {a : Int} (h0 : 1000 ≤ a) (h1 : a < 10000) : (Lib.itoa a).length = 4 := by rw [itoa_four h0 h1]; rfl

/-- a time's date as a text -/
def dateT (n : Int) : List UInt8 := Lib.itoa (Civ.yy n) ++ ([45] ++ (T2 (Civ.mm n) ++ ([45] ++ T2 (Civ.dd n))))
/-- a second of the day as a text -/
def clockT (r : Int) : List UInt8 := [84] ++ (T2 (r / 3600) ++ ([58] ++ (T2 (r / 60 % 60) ++ ([58] ++ T2 (r % 60)))))
theorem stamp_two (t : Int) : stampT t = dateT (t / 86400) ++ clockT (t % 86400) := by simp [stampT, dateT, clockT]
theorem dateT_length (n : Int) (h1 : -135140 ≤ n) (h2 : n ≤ 157053) : (dateT n).length = 10 := by
  obtain ⟨hv, _⟩ := Civ.date_valid n h1 h2
  obtain ⟨y1, y2, _⟩ := hv
  unfold dateT
  rw [List.length_append, Y4_length (by omega) (by omega)]
  rfl
theorem dateT_lt (n m : Int) (h1 : -135140 ≤ n) (h2 : n ≤ 157053) (h3 : -135140 ≤ m) (h4 : m ≤ 157053) : dateT n < dateT m ↔ n < m := by
  obtain ⟨hv, e⟩ := Civ.date_valid n h1 h2
  obtain ⟨hw, e'⟩ := Civ.date_valid m h3 h4
  have key := Civ.days_lt_iff hv hw
  rw [e, e'] at key
  rw [key]
  have b1 := Civ.mlen_bd (Civ.yy n) (Civ.mm n) hv.2.2.1 hv.2.2.2.1
  have b2 := Civ.mlen_bd (Civ.yy m) (Civ.mm m) hw.2.2.1 hw.2.2.2.1
  obtain ⟨v1, v2, v3, v4, v5, v6⟩ := hv
  obtain ⟨u1, u2, u3, u4, u5, u6⟩ := hw
  unfold dateT Civ.less
  rw [lex_append (by rw [Y4_length (by omega) (by omega), Y4_length (by omega) (by omega)]), same_head, T2_app, same_head, Y4_lt (by omega) (by omega) (by omega) (by omega), Y4_eq (by omega) (by omega) (by omega) (by omega),
    T2_lt (by omega) (by omega) (by omega) (by omega), T2_lt (by omega) (by omega) (by omega) (by omega), T2_eq (by omega) (by omega) (by omega) (by omega)]
theorem dateT_eq (n m : Int) (h1 : -135140 ≤ n) (h2 : n ≤ 157053) (h3 : -135140 ≤ m) (h4 : m ≤ 157053) : dateT n = dateT m ↔ n = m := by
  constructor
  · intro h
    rcases Int.lt_trichotomy n m with h' | h' | h'
    · have := (dateT_lt n m h1 h2 h3 h4).2 h'
      rw [h] at this
      exact absurd this (List.lt_irrefl _)
    · exact h'
    · have := (dateT_lt m n h3 h4 h1 h2).2 h'
      rw [h] at this
      exact absurd this (List.lt_irrefl _)
  · intro h; rw [h]
theorem clockT_lt (r s : Int) (h1 : 0 ≤ r) (h2 : r < 86400) (h3 : 0 ≤ s) (h4 : s < 86400) : clockT r < clockT s ↔ r < s := by
  unfold clockT
  rw [same_head, T2_app, same_head, T2_app, same_head, T2_lt (by omega) (by omega) (by omega) (by omega), T2_lt (by omega) (by omega) (by omega) (by omega), T2_lt (by omega) (by omega) (by omega) (by omega),
    T2_eq (by omega) (by omega) (by omega) (by omega), T2_eq (by omega) (by omega) (by omega) (by omega)]
  omega
/-- texts stand as times do -/
theorem stampT_lt (t u : Int) (h1 : -135140 ≤ t / 86400) (h2 : t / 86400 ≤ 157053) (h3 : -135140 ≤ u / 86400) (h4 : u / 86400 ≤ 157053) : stampT t < stampT u ↔ t < u := by
  rw [stamp_two, stamp_two, lex_append (by rw [dateT_length _ h1 h2, dateT_length _ h3 h4]), dateT_lt _ _ h1 h2 h3 h4, dateT_eq _ _ h1 h2 h3 h4, clockT_lt _ _ (by omega) (by omega) (by omega) (by omega)]
  omega
end Go.Proofs.YtomahddiclkepaaGreatDoor
namespace Go.Proofs.YtomahddiclkepaaGreatDoor
open Go.RowKit Go.Joins
set_option linter.unusedVariables false
set_option linter.unusedSimpArgs false

/-- strconv's table of powers of ten lies there -/
def Tab10 (w : World) : Prop := Lib.TabIs Tryz.prog w "internal/strconv.uint64pow10" .u64 Lib.pow10Tab
theorem Tab10.below {w w' : World} (h : Tab10 w) (hb : Below w.heap.size w w') : Tab10 w' := (Lib.tabBelow_of_tabIs h) w' hb

theorem itoa_text (n : Int) (w : World) (h0 : -9223372036854775808 ≤ n) (h1 : n ≤ 9223372036854775807) (ht : Tab10 w) :
    Calls Tryz.prog 73 #[.int .i64 n] w fun e w' => e = .returned (.string (txt (Lib.itoa n))) ∧ Below w.heap.size w w' :=
  (Tryz.strconv_Itoa n h0 h1 w ht).mono fun e w' ⟨he, k, os, hw⟩ => ⟨he, by rw [hw]; exact Lib.below_grow _ w (Nat.le_refl _) k os⟩

theorem und_bytes : Tryz.prog.underlying 73 = some (.slice 5) := by kernel_rfl

set_option maxHeartbeats 1000000 in
theorem two_any (n : Int) (w : World) (h0 : 0 ≤ n) (h1 : n < 100) :
    Calls Tryz.prog 102 #[.int .i64 n] w fun e w' => e = .returned (.string (txt (T2 n))) ∧ Below w.heap.size w w' := by
  have hcv : (convert 73 9 (.slice (some ⟨w.heap.size, 0, none⟩) 2 2)).run Tryz.prog (w.alloc (.cells #[.int .u8 (48 + n / 10), .int .u8 (48 + n % 10)] 5)) = .ok (.string (strOfNums [48 + n / 10, 48 + n % 10])) (w.alloc (.cells #[.int .u8 (48 + n / 10), .int .u8 (48 + n % 10)] 5)) := by
    refine Lib.BytesIn.convert (xs := [48 + n / 10, 48 + n % 10]) (fun _ => ⟨w.heap.size, 0, rfl, fun i hi => ?_⟩) rfl 2 _ 5 _ und_bytes Tryz.underlying5 (by kernel_rfl)
    have e := heap_alloc_new w (.cells #[.int .u8 (48 + n / 10), .int .u8 (48 + n % 10)] 5)
    rw [cell_of_row _ _ _ _ _ _ e]
    have hi2 : i < 2 := hi
    have : i = 0 ∨ i = 1 := by omega
    rcases this with rfl | rfl <;> rfl
  have hs : strOfNums [48 + n / 10, 48 + n % 10] = txt (T2 n) := by
    simp only [strOfNums, txt, T2, List.map_cons, List.map_nil]
    rw [show (48 + n / 10).toNat = 48 + (n / 10).toNat by omega, show (48 + n % 10).toNat = 48 + (n % 10).toNat by omega]
  rw [hs] at hcv
  clear hs
  go_enter Tryz.func102, Tryz.ntmps102
  go_wp2
  go_ret
  exact ⟨rfl, (Below.refl _ _).alloc (Nat.le_refl _) _⟩

theorem below_drewN' {B : Nat} {a w : World} (h : Below B a w) (n : Nat) : Below B a (w.drewN n) := ⟨h.os, h.tape, h.output, h.size, h.block⟩
theorem ret_2 {a b c d : Int} (h : a = b) (h2 : c = d) : Ending.returned (.tuple #[.int .i64 a, .int .i64 c]) = .returned (.tuple #[.int .i64 b, .int .i64 d]) := by rw [h, h2]

theorem itoa_len3 {n : Int} (h0 : 0 ≤ n) (h1 : n < 1000) : (Lib.itoa n).length ≤ 3 := by
  unfold Lib.itoa
  rw [if_neg (by omega), Lib.decDigits_length]
  by_cases a : n.toNat < 10
  · rw [Lib.nDigits_small a]; omega
  · rw [Lib.nDigits_big a]
    by_cases b : n.toNat / 10 < 10
    · rw [Lib.nDigits_small b]; omega
    · rw [Lib.nDigits_big b, Lib.nDigits_small (by omega)]; omega
theorem cat1 (p a b : List UInt8) : txt p ++ txt a ++ ⟨#[58]⟩ ++ txt b = txt (p ++ (a ++ ([58] ++ (b ++ [])))) := by
  rw [show (⟨#[58]⟩ : ByteArray) = txt [58] from rfl, txt_append, txt_append, txt_append]; simp
theorem cat2 (p a b c : List UInt8) : txt p ++ txt a ++ ⟨#[58]⟩ ++ txt b ++ (⟨#[58]⟩ ++ txt c) = txt (p ++ (a ++ ([58] ++ (b ++ ([58] ++ c))))) := by
  rw [show (⟨#[58]⟩ : ByteArray) = txt [58] from rfl, txt_append, txt_append, txt_append, txt_append, txt_append]; simp
end Go.Proofs.YtomahddiclkepaaGreatDoor
namespace Go.Proofs.YtomahddiclkepaaGreatDoor
open Go
set_option linter.unusedVariables false

def isDg (c : UInt8) : Prop := 48 ≤ c.toNat ∧ c.toNat ≤ 57
theorem dg_of {k : Nat} (h : k < 10) : isDg (UInt8.ofNat (48 + k)) := by
  unfold isDg
  simp only [UInt8.toNat_ofNat']
  omega
theorem dec_dg (u : Nat) : ∀ c ∈ Lib.decDigits u, isDg c := by
  induction u using Nat.strongRecOn with
  | _ u ih =>
    intro c hc
    rw [Lib.decDigits] at hc
    split at hc
    · next h =>
      simp only [List.mem_singleton] at hc
      subst hc
      exact dg_of h
    · next h =>
      rcases List.mem_append.1 hc with hc | hc
      · exact ih (u / 10) (by omega) c hc
      · simp only [List.mem_singleton] at hc
        subst hc
        exact dg_of (by omega)
theorem dec_ne (u : Nat) : Lib.decDigits u ≠ [] := by
  intro h
  have := Lib.decDigits_length u
  rw [h] at this
  have := Lib.nDigits_pos u
  simp at *
  omega
/-- what digits say -/
def numV (l : List UInt8) : Nat := l.foldl (fun a c => 10 * a + (c.toNat - 48)) 0
theorem numV_snoc (l : List UInt8) (c : UInt8) : numV (l ++ [c]) = 10 * numV l + (c.toNat - 48) := by simp [numV]
theorem numV_dec (u : Nat) : numV (Lib.decDigits u) = u := by
  induction u using Nat.strongRecOn with
  | _ u ih =>
    rw [Lib.decDigits]
    split
    · next h =>
      simp only [numV, List.foldl_cons, List.foldl_nil, UInt8.toNat_ofNat']
      omega
    · next h =>
      rw [numV_snoc, ih (u / 10) (by omega)]
      simp only [UInt8.toNat_ofNat']
      omega
theorem itoa_nn {n : Int} (h : 0 ≤ n) : Lib.itoa n = Lib.decDigits n.toNat := by unfold Lib.itoa; rw [if_neg (by omega)]
theorem itoa_dg {n : Int} (h : 0 ≤ n) : ∀ c ∈ Lib.itoa n, isDg c := by rw [itoa_nn h]; exact dec_dg _
theorem itoa_ne {n : Int} (h : 0 ≤ n) : Lib.itoa n ≠ [] := by rw [itoa_nn h]; exact dec_ne _
theorem T2_dg {n : Int} (h0 : 0 ≤ n) (h1 : n < 100) : ∀ c ∈ T2 n, isDg c := by
  intro c hc
  simp only [T2, List.mem_cons, List.not_mem_nil, or_false] at hc
  rcases hc with rfl | rfl
  · exact dg_of (by omega)
  · exact dg_of (by omega)

/-- the first place of a letter that stands behind a text without it -/
theorem index_sep (l r : List UInt8) (s : UInt8) (h : ∀ c ∈ l, c ≠ s) : Lib.index (l ++ s :: r) [s] = l.length := by
  refine Lib.index_first (by simp) ?_ ?_
  · unfold Lib.occAt
    rw [List.drop_append_of_le_length (Nat.le_refl _), List.drop_length]
    simp
  · intro j hj
    unfold Lib.occAt
    have hj' : j < (l ++ s :: r).length := by simp; omega
    rw [List.drop_eq_getElem_cons hj']
    have hne : (l ++ s :: r)[j] ≠ s := by
      rw [List.getElem_append_left hj]
      exact h _ (List.getElem_mem _)
    simp only [List.isPrefixOf_cons_cons, Bool.and_eq_false_iff]
    left
    simpa using fun e => hne e.symm
theorem cut_sep (l r : List UInt8) (s : UInt8) (h : ∀ c ∈ l, c ≠ s) : Lib.cut (l ++ s :: r) [s] = (l, r, true) := by
  unfold Lib.cut
  rw [index_sep l r s h, if_pos (by omega)]
  simp
theorem dg_ne {c : UInt8} (h : isDg c) (s : UInt8) (hs : s.toNat < 48 ∨ 57 < s.toNat) : c ≠ s := by
  rintro rfl
  unfold isDg at h
  omega

/-- behind the hours -/
def spanR (n : Int) : List UInt8 := T2 (n / 60 % 60) ++ (if n % 60 = 0 then [] else [58] ++ T2 (n % 60))
theorem spanP_eq (n : Int) : spanP n = Lib.itoa (n / 3600) ++ 58 :: spanR n := rfl
theorem span_plus {n : Int} (h : 0 ≤ n) : Lib.hasPrefix (spanP n) [45] = false := by
  rw [spanP_eq]
  obtain ⟨c, r, e⟩ : ∃ c r, Lib.itoa (n / 3600) = c :: r := List.exists_cons_of_ne_nil (itoa_ne (by omega))
  have hc := dg_ne (itoa_dg (show 0 ≤ n / 3600 by omega) c (by rw [e]; simp)) 45 (by decide)
  rw [e]
  simp only [Lib.hasPrefix, List.cons_append, List.isPrefixOf_cons_cons, Bool.and_eq_false_iff]
  left
  simpa using fun e => hc e.symm
end Go.Proofs.YtomahddiclkepaaGreatDoor
namespace Go.Proofs.YtomahddiclkepaaGreatDoor
open Go.RowKit Go.Joins
set_option linter.unusedVariables false
set_option linter.unusedSimpArgs false

theorem bytes_toList_txt (l : List UInt8) : (txt l).toList = l := by rw [ByteArray.toList_eq, txt_data]

theorem spanP_len {n : Int} (h0 : 0 ≤ n) (h1 : n ≤ 604800) : (spanP n).length ≤ 9 := by
  unfold spanP
  have := itoa_len3 (n := n / 3600) (by omega) (by omega)
  simp only [List.length_append, T2_length, List.length_cons, List.length_nil]
  split <;> simp [T2_length] <;> omega

end Go.Proofs.YtomahddiclkepaaGreatDoor
namespace Go.Proofs.YtomahddiclkepaaGreatDoor
open Go.RowKit Go.Joins
set_option linter.unusedVariables false
set_option linter.unusedSimpArgs false

theorem lt_of_cellM {w : World} {p : Addr} {v : Value} (h : w.cell? p = some v) : p.block < w.heap.size := by
  unfold World.cell? at h
  cases hb : w.heap[p.block]? with
  | none => simp [hb] at h
  | some o => exact (Array.getElem?_eq_some_iff.1 hb).1
/-- internal/bytealg.MaxLen holds some number -/
def MaxLen (w : World) : Prop := ∃ m, w.cell? ⟨2, 0, none⟩ = some (.int .i64 m)
theorem MaxLen.below {w w' : World} (h : MaxLen w) (hb : Below w.heap.size w w') : MaxLen w' := by
  obtain ⟨m, hm⟩ := h
  exact ⟨m, (hb.cell (show (⟨2, 0, none⟩ : Addr).block < w.heap.size from lt_of_cellM hm)).trans hm⟩
theorem below_drewN0 (w : World) (n : Nat) : Below w.heap.size w (w.drewN n) := below_drewN' (Below.refl _ _) n
theorem cut_any (s p : List UInt8) (w : World) (hs : s.length < 4294967281) (hm : MaxLen w) :
    Calls Tryz.prog 179 #[.string (txt s), .string (txt p)] w fun e w' => e = .returned (.tuple #[.string (txt (Lib.cut s p).1), .string (txt (Lib.cut s p).2.1), .bool (Lib.cut s p).2.2]) ∧ Below w.heap.size w w' := by
  obtain ⟨m, hm⟩ := hm
  have := Tryz.strings_Cut (txt s) (txt p) m w (by rw [txt_size]; exact hs) hm
  rw [txt_data, txt_data] at this
  refine this.mono ?_
  rintro e w' ⟨rfl, n, rfl⟩
  exact ⟨rfl, below_drewN0 w n⟩

theorem txt_ne {a b : List UInt8} (h : a ≠ b) : ((txt a).toList == (txt b).toList) = false := by
  rw [bytes_toList_txt, bytes_toList_txt]; simpa using h

end Go.Proofs.YtomahddiclkepaaGreatDoor
namespace Go.Proofs.YtomahddiclkepaaGreatDoor
open Go.RowKit Go.Joins
open Classical
set_option linter.unusedVariables false
set_option linter.unusedSimpArgs false

structure Er where
  (off : Int)
  (ru : ByteArray)
  (sv : Int)
  (fm : ByteArray)
  (un : Int)
structure Zo where
  (nm : ByteArray)
  (ev : Value)
  (eras : List Er)
structure Lk where
  (nm tg : ByteArray)
structure Bk where
  (rules : List Ru)
  (zones : List Zo)
  (links : List Lk)

/-- a format, split: two of them (sign /), or one with a place for a letter (sign %) -/
def splitF (f : List UInt8) : List UInt8 × List UInt8 × List UInt8 × Bool :=
  if 12 < f.length then ([], [], [], false) else
  if (Lib.cut f [47]).2.2 = true then ((Lib.cut f [47]).1, (Lib.cut f [47]).2.1, [47], abbrB (txt (Lib.cut f [47]).1) && abbrB (txt (Lib.cut f [47]).2.1)) else
  if (Lib.cut f [37]).2.2 = true then ((Lib.cut f [37]).1, (Lib.cut f [37]).2.1, [37], decide ((Lib.cut f [37]).1 ++ (Lib.cut f [37]).2.1 = []) || (decide (((Lib.cut f [37]).1 ++ (Lib.cut f [37]).2.1).length ≤ 8) && abbrB (txt ((Lib.cut f [37]).1 ++ (Lib.cut f [37]).2.1)))) else
  (f, [], [], abbrB (txt f))
def letterOk (l : List UInt8) : Bool := decide (l = [45]) || abbrB (txt l)
/-- the name, ahead of the last tests -/
def abbrN (f : List UInt8) (save : Int) (l : List UInt8) : List UInt8 :=
  let s := splitF f
  if s.2.2.1 = [47] then (if save = 0 then s.1 else s.2.1) else
  if s.2.2.1 = [37] then s.1 ++ ((if l = [45] then [] else l) ++ s.2.1) else s.1
def abbrF (f : List UInt8) (save : Int) (l : List UInt8) : List UInt8 × Int :=
  if (splitF f).2.2.2 = false ∨ letterOk l = false then ([], 3) else
  if ¬ (0 ≤ save ∧ save ≤ 10800) then ([], 1) else
  if 8 < (abbrN f save l).length then ([], 2) else
  if abbrN f save l = [] then ([], 5) else (abbrN f save l, 0)
def abE (f : ByteArray) (save : Int) (l : ByteArray) : Int := (abbrF f.data.toList save l.data.toList).2

/-- the first error of a list -/
def firstE {α : Type} (f : α → Int) : List α → Int
  | [] => 0
  | x :: r => if f x = 0 then firstE f r else f x

def abbrsChk (rules : List Ru) (x : Er) : Int :=
  if x.ru.data.toList = [] then abE x.fm x.sv ⟨#[45]⟩ else
  if firstE (fun r : Ru => if r.nm = x.ru then abE x.fm r.sv r.lt else 0) rules = 0 then abE x.fm 0 ⟨#[45]⟩ else firstE (fun r : Ru => if r.nm = x.ru then abE x.fm r.sv r.lt else 0) rules
def stampE (t : Int) : Int := if -135140 ≤ t / 86400 ∧ t / 86400 ≤ 157053 then 0 else 1
def erD : Er := ⟨0, ⟨#[]⟩, 0, ⟨#[]⟩, 0⟩
def eraAt (l : List Er) (k : Nat) : Er := l[k]?.getD erD
def eraChk (rules : List Ru) (l : List Er) (k : Nat) : Int :=
  let x := eraAt l k
  if ¬ (-64800 ≤ x.off ∧ x.off ≤ 64800) ∨ ¬ (0 ≤ x.sv ∧ x.sv ≤ 10800) then 1 else
  if x.sv ≠ 0 ∧ x.ru.data.toList ≠ [] then 5 else
  if x.ru.data.toList ≠ [] ∧ (rules.any fun r => decide (r.nm = x.ru)) = false then 6 else
  if abbrsChk rules x ≠ 0 then abbrsChk rules x else
  if k + 1 = l.length then (if x.un ≠ 0 then 5 else 0) else
  if ¬ (-1099511627776 ≤ x.un ∧ x.un ≤ 1099511627776) then 1 else
  if stampE x.un ≠ 0 then stampE x.un else
  if 0 < k ∧ x.un ≤ (eraAt l (k - 1)).un then 5 else 0
def zoneChk (rules : List Ru) (before : List Zo) (z : Zo) : Int :=
  if nameB z.nm = false then 3 else
  if (before.any fun y => decide (y.nm = z.nm)) = true then 7 else
  if z.eras = [] then 5 else
  if 700 < z.eras.length then 2 else firstE (eraChk rules z.eras) (List.range z.eras.length)
def isZone (b : Bk) (n : ByteArray) : Bool := b.zones.any fun z => decide (z.nm = n)
def isLink (l : List Lk) (n : ByteArray) : Bool := l.any fun y => decide (y.nm = n)
def linkChk (b : Bk) (before : List Lk) (x : Lk) : Int :=
  if nameB x.nm = false ∨ nameB x.tg = false then 3 else
  if isZone b x.nm = true ∨ isLink before x.nm = true then 7 else
  if isZone b x.tg = false ∧ isLink b.links x.tg = false then 6 else 0
def bkChk (b : Bk) : Int :=
  if 40 < b.rules.length ∨ 20 < b.zones.length ∨ 20 < b.links.length then 2 else
  if firstE ruChk b.rules ≠ 0 then firstE ruChk b.rules else
  if firstE (fun k => zoneChk b.rules (b.zones.take k) (b.zones[k]?.getD ⟨⟨#[]⟩, undef, []⟩)) (List.range b.zones.length) ≠ 0 then firstE (fun k => zoneChk b.rules (b.zones.take k) (b.zones[k]?.getD ⟨⟨#[]⟩, undef, []⟩)) (List.range b.zones.length) else
  firstE (fun k => linkChk b (b.links.take k) (b.links[k]?.getD ⟨⟨#[]⟩, ⟨#[]⟩⟩)) (List.range b.links.length)

theorem firstE_drop {α : Type} (f : α → Int) (l : List α) (k : Nat) (hk : k < l.length) (h : f l[k] = 0) (e : firstE f l = firstE f (l.drop k)) : firstE f l = firstE f (l.drop (k + 1)) := by
  rw [e, List.drop_eq_getElem_cons hk]
  show (if f l[k] = 0 then firstE f (l.drop (k + 1)) else f l[k]) = _
  rw [if_pos h]
theorem firstE_hit {α : Type} (f : α → Int) (l : List α) (k : Nat) (hk : k < l.length) (h : f l[k] ≠ 0) (e : firstE f l = firstE f (l.drop k)) : firstE f l = f l[k] := by
  rw [e, List.drop_eq_getElem_cons hk]
  show (if f l[k] = 0 then firstE f (l.drop (k + 1)) else f l[k]) = _
  rw [if_neg h]
theorem firstE_end {α : Type} (f : α → Int) (l : List α) (k : Nat) (hk : l.length ≤ k) (e : firstE f l = firstE f (l.drop k)) : firstE f l = 0 := by
  rw [e, List.drop_of_length_le hk]; rfl
theorem firstE_zero {α : Type} (f : α → Int) : ∀ (l : List α), firstE f l = 0 ↔ ∀ x ∈ l, f x = 0
  | [] => by simp [firstE]
  | x :: r => by
    unfold firstE
    split
    · rename_i h
      rw [firstE_zero f r]
      simp [h]
    · rename_i h
      simp [h]
end Go.Proofs.YtomahddiclkepaaGreatDoor
namespace Go.Proofs.YtomahddiclkepaaGreatDoor
open Go.RowKit Go.Joins
open Classical
set_option linter.unusedVariables false
set_option linter.unusedSimpArgs false

theorem book_within (n a b : Int) (w : World) :
    Calls Tryz.prog 129 #[.int .i64 n, .int .i64 a, .int .i64 b] w fun e w' => e = .returned (.bool (withinB n a b)) ∧ w = w' := by
  by_cases h1 : a ≤ n <;> by_cases h2 : n ≤ b <;>
  · go_enter Tryz.func129, Tryz.ntmps129
    go_wp2
    go_ret
    exact ⟨ret_bool (by simp [withinB, h1, h2]), rfl⟩
theorem txt_data' (s : ByteArray) : txt s.data.toList = s := rfl
theorem bookLetter_any (s : ByteArray) (w : World) (hs : s.size ≤ maxLen) :
    Calls Tryz.prog 150 #[.string s] w fun e w' => e = .returned (.bool (letterOk s.data.toList)) ∧ w = w' := by
  by_cases hL : s.toList = [45]
  · have hL2 : (s.toList == [45]) = true := by rw [hL]; rfl
    have HK : Hid (letterOk s.data.toList = true) := by show _ = _; unfold letterOk; rw [← ByteArray.toList_eq, hL]; rfl
    clear hL
    go_enter Tryz.func150, Tryz.ntmps150
    go_wp2
    go_ret
    exact ⟨ret_bool' HK.out.symm, rfl⟩
  · have hL2 : (s.toList == [45]) = false := by simpa using hL
    have HK : Hid (letterOk s.data.toList = abbrB s) := by show _ = _; unfold letterOk; rw [← ByteArray.toList_eq, decide_eq_false hL, Bool.false_or]; rw [ByteArray.toList_eq]; rfl
    clear hL
    go_enter Tryz.func150, Tryz.ntmps150
    go_wp2_with fail
    refine (isAbbr_any _ _ hs).mono ?_
    rintro e w' ⟨rfl, rfl⟩
    go_wp2
    go_ret
    exact ⟨ret_bool' HK.out.symm, rfl⟩
end Go.Proofs.YtomahddiclkepaaGreatDoor
namespace Go.Proofs.YtomahddiclkepaaGreatDoor
open Go.RowKit Go.Joins
open Classical
set_option linter.unusedVariables false
set_option linter.unusedSimpArgs false

theorem cut_le (l sg : List UInt8) : (Lib.cut l sg).1.length ≤ l.length ∧ (Lib.cut l sg).2.1.length ≤ l.length := by
  unfold Lib.cut
  split
  · simp; omega
  · simp
def SplitR (f : List UInt8) (e : Ending) : Prop := ∃ a b c x, splitF f = (a, b, c, x) ∧ e = .returned (.tuple #[.string (txt a), .string (txt b), .string (txt c), .bool x])
theorem splitR_mk {f a b c : List UInt8} {x : Bool} {e : Ending} (h : splitF f = (a, b, c, x)) (he : e = .returned (.tuple #[.string (txt a), .string (txt b), .string (txt c), .bool x])) : SplitR f e := ⟨a, b, c, x, h, he⟩

set_option maxRecDepth 100000 in
set_option maxHeartbeats 4000000 in
theorem split_any (f : List UInt8) (w : World) (hf : f.length ≤ 9223372036854775807) (hm : MaxLen w) :
    Calls Tryz.prog 149 #[.string (txt f)] w fun e w' => SplitR f e ∧ Below w.heap.size w w' := by
  have hsz : (txt f).size = f.length := txt_size f
  by_cases hlong : 12 < f.length
  · have HK : Hid (splitF f = ([], [], [], false)) := by show _ = _; unfold splitF; rw [if_pos hlong]
    have z1 : (12 : Int) < ((txt f).size : Int) := by omega
    clear hlong
    go_enter Tryz.func149, Tryz.ntmps149
    go_wp2_with fail
    refine bodyPost_ret (results_tmp4 rfl _ _ _) rfl ?_
    exact ⟨splitR_mk HK.out rfl, Below.refl _ _⟩
  · have z1 : ¬ (12 : Int) < ((txt f).size : Int) := by omega
    have HM := Lib.hid hm
    have l1 := cut_le f [47]
    have l2 := cut_le f [37]
    have HC1 := Lib.hid (fun W (h : MaxLen W) => cut_any f [47] W (by omega) h)
    have HC2 := Lib.hid (fun W (h : MaxLen W) => cut_any f [37] W (by omega) h)
    have HF := Lib.hid (show splitF f = if (Lib.cut f [47]).2.2 = true then ((Lib.cut f [47]).1, (Lib.cut f [47]).2.1, [47], abbrB (txt (Lib.cut f [47]).1) && abbrB (txt (Lib.cut f [47]).2.1)) else
      if (Lib.cut f [37]).2.2 = true then ((Lib.cut f [37]).1, (Lib.cut f [37]).2.1, [37], decide ((Lib.cut f [37]).1 ++ (Lib.cut f [37]).2.1 = []) || (decide (((Lib.cut f [37]).1 ++ (Lib.cut f [37]).2.1).length ≤ 8) && abbrB (txt ((Lib.cut f [37]).1 ++ (Lib.cut f [37]).2.1)))) else
      (f, [], [], abbrB (txt f)) from by unfold splitF; rw [if_neg hlong])
    obtain ⟨a1, ea1⟩ : ∃ x, (Lib.cut f [47]).1 = x := ⟨_, rfl⟩
    obtain ⟨b1, eb1⟩ : ∃ x, (Lib.cut f [47]).2.1 = x := ⟨_, rfl⟩
    obtain ⟨i1, ei1⟩ : ∃ x, (Lib.cut f [47]).2.2 = x := ⟨_, rfl⟩
    obtain ⟨a2, ea2⟩ : ∃ x, (Lib.cut f [37]).1 = x := ⟨_, rfl⟩
    obtain ⟨b2, eb2⟩ : ∃ x, (Lib.cut f [37]).2.1 = x := ⟨_, rfl⟩
    obtain ⟨i2, ei2⟩ : ∃ x, (Lib.cut f [37]).2.2 = x := ⟨_, rfl⟩
    rw [ea1, eb1, ei1] at HC1
    rw [ea2, eb2, ei2] at HC2
    rw [ea1, eb1, ei1, ea2, eb2, ei2] at HF
    rw [ea1, eb1] at l1
    rw [ea2, eb2] at l2
    have HA1 := Lib.hid (fun W => isAbbr_any (txt a1) W (by rw [txt_size]; unfold maxLen; omega))
    have HA2 := Lib.hid (fun W => isAbbr_any (txt b1) W (by rw [txt_size]; unfold maxLen; omega))
    have HA3 := Lib.hid (fun W => isAbbr_any (txt (a2 ++ b2)) W (by rw [txt_size, List.length_append]; unfold maxLen; omega))
    have HA4 := Lib.hid (fun W => isAbbr_any (txt f) W (by rw [txt_size]; unfold maxLen; omega))
    have radd := fun W => run_string_add_sum (P := Tryz.prog) W (txt a2) (txt b2) (by rw [txt_size, txt_size]; omega)
    have s12 : (txt (a2 ++ b2)).size ≤ 100 := by rw [txt_size, List.length_append]; omega
    rw [show txt a2 ++ txt b2 = txt (a2 ++ b2) from txt_append a2 b2] at radd
    have HL1 := Lib.hid l1
    clear ea1 eb1 ei1 ea2 eb2 ei2 l1 l2 hlong hm
    go_enter Tryz.func149, Tryz.ntmps149
    go_wp2_with fail
    obtain ⟨W0, eW⟩ : ∃ W0, w.alloc (.cells #[.string ⟨#[47]⟩, .string ⟨#[37]⟩] 9) = W0 := ⟨_, rfl⟩
    have hb0 : Below w.heap.size w W0 := by rw [← eW]; exact (Below.refl _ _).alloc (Nat.le_refl _) _
    have x0 : W0.cell? ⟨w.heap.size, 0, none⟩ = some (.string ⟨#[47]⟩) := by rw [← eW]; exact (cell_of_row _ _ 0 _ _ _ (heap_alloc_new w _)).trans rfl
    have x1 : W0.cell? ⟨w.heap.size, 1, none⟩ = some (.string ⟨#[37]⟩) := by rw [← eW]; exact (cell_of_row _ _ 1 _ _ _ (heap_alloc_new w _)).trans rfl
    have hl0 : w.heap.size < W0.heap.size := by rw [← eW]; simp
    rw [eW]
    have HB0 := Lib.hid hb0
    have HX1 := Lib.hid x1
    have HL0 := Lib.hid hl0
    clear eW hb0 x1 hl0
    refine wp_loop_rounds 3 ?_
    rw [rounds_succ]
    go_wp2_with fail
    refine (HC1.out _ (HM.out.below HB0.out)).mono ?_
    rintro e w1 ⟨rfl, hb1⟩
    have y1 : w1.cell? ⟨w.heap.size, 1, none⟩ = some (.string ⟨#[37]⟩) := (hb1.cell (p := ⟨w.heap.size, 1, none⟩) HL0.out).trans HX1.out
    have HB1 := Lib.hid (HB0.out.trans (hb1.mono HB0.out.size))
    clear hb1 x0
    cases i1 with
    | true =>
      have hres := HF.out
      rw [if_pos rfl] at hres
      have HR := Lib.hid hres
      clear hres
      cases hA : abbrB (txt a1) with
      | false =>
        rw [hA] at HA1 HR
        clear hA
        go_wp2_with fail
        refine (HA1.out _).mono ?_
        rintro e w' ⟨rfl, rfl⟩
        go_wp2_with fail
        refine bodyPost_ret (results_tmp4 rfl _ _ _) rfl ?_
        exact ⟨splitR_mk HR.out rfl, HB1.out⟩
      | true =>
        rw [hA] at HA1 HR
        clear hA
        go_wp2_with fail
        refine (HA1.out _).mono ?_
        rintro e w' ⟨rfl, rfl⟩
        go_wp2_with fail
        refine (HA2.out _).mono ?_
        rintro e w' ⟨rfl, rfl⟩
        go_wp2_with fail
        refine bodyPost_ret (results_tmp4 rfl _ _ _) rfl ?_
        exact ⟨splitR_mk HR.out rfl, HB1.out⟩
    | false =>
      have hres := HF.out
      rw [if_neg (by simp)] at hres
      have HR := Lib.hid hres
      clear hres HF
      go_wp2_with fail
      rw [rounds_succ]
      go_wp2_with fail
      refine (HC2.out _ (HM.out.below HB1.out)).mono ?_
      rintro e w2 ⟨rfl, hb2⟩
      have HB2 := Lib.hid (HB1.out.trans (hb2.mono HB1.out.size))
      clear hb2 y1 HB1
      cases i2 with
      | true =>
        have hres := HR.out
        rw [if_pos rfl] at hres
        have HR2 := Lib.hid hres
        clear hres HR
        obtain ⟨S, eS⟩ : ∃ S, a2 ++ b2 = S := ⟨_, rfl⟩
        rw [eS] at HR2 HA3 radd s12
        clear eS
        by_cases h0 : S = []
        · have b0 : (txt S).toList.isEmpty = true := by rw [h0, bytes_toList_txt]; rfl
          rw [decide_eq_true h0, Bool.true_or] at HR2
          clear h0
          go_wp2_with fail
          refine bodyPost_ret (results_tmp4 rfl _ _ _) rfl ?_
          exact ⟨splitR_mk HR2.out rfl, HB2.out⟩
        · have b0 : (txt S).toList.isEmpty = false := by
            rw [bytes_toList_txt]
            cases S with
            | nil => exact absurd rfl h0
            | cons c r => rfl
          rw [decide_eq_false h0, Bool.false_or] at HR2
          clear h0
          by_cases h8 : S.length ≤ 8
          · have z8 : ((txt S).size : Int) ≤ 8 := by rw [txt_size]; omega
            rw [decide_eq_true h8, Bool.true_and] at HR2
            have hs : (txt S).size = S.length := txt_size S
            clear h8
            go_wp2_with fail
            refine (HA3.out _).mono ?_
            rintro e w' ⟨rfl, rfl⟩
            go_wp2_with fail
            refine bodyPost_ret (results_tmp4 rfl _ _ _) rfl ?_
            exact ⟨splitR_mk HR2.out rfl, HB2.out⟩
          · have z8 : ¬ ((txt S).size : Int) ≤ 8 := by rw [txt_size]; omega
            have z9 : ¬ (S.length : Int) ≤ 8 := by omega
            rw [decide_eq_false h8, Bool.false_and] at HR2
            clear h8
            go_wp2_with fail
            refine bodyPost_ret (results_tmp4 rfl _ _ _) rfl ?_
            exact ⟨splitR_mk HR2.out rfl, HB2.out⟩
      | false =>
        have hres := HR.out
        rw [if_neg (by simp)] at hres
        have HR2 := Lib.hid hres
        clear hres HR
        go_wp2_with fail
        rw [rounds_succ]
        go_wp2_with fail
        refine (HA4.out _).mono ?_
        rintro e w' ⟨rfl, rfl⟩
        go_wp2_with fail
        refine bodyPost_ret (results_tmp4 rfl _ _ _) rfl ?_
        exact ⟨splitR_mk HR2.out rfl, HB2.out⟩
end Go.Proofs.YtomahddiclkepaaGreatDoor
