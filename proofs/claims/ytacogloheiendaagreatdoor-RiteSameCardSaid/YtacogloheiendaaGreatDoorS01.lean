/- The last step of a law's row where of the new world 'Below' alone is known. (A lemma that the guide gives to copy.) All arguments of a law read behind the call as before it, where of old memory nothing has turned. day.Check and day.within: what each returns. day.Of: what it returns. Plain mathematics of the calendar, more: no Go in sight. rite: the plain mathematics of a summer of each year. rule.all, rule.IsAbbr: what each returns. Condition: the text within the form's own reach. rite: words, what may be, and which day is meant. rite.Check: what may be. rite.turns, rite.Turns: where the summer begins and ends. Times and spans as texts, in plain Lean. clock.two: what it returns. -/
import Derived.Test.YtacogloheiendaaGreatDoorRows
import Derived.WalkKit
import Derived.ProofKit
import Derived.OpenShut
import Derived.Below
import Derived.ChangeSame
import Derived.Carry
import Derived.Lib.SmallJoins
import Derived.Test.YtacogloheiendaaGreatDoorCiv0
import Derived.Test.YtacogloheiendaaGreatDoorCiv3a
import Derived.Test.YtacogloheiendaaGreatDoorCivMath
import Derived.WalkSpells
import Derived.WalkLawsBesides
import Derived.Lib.Hide
import Derived.Lib.IndexAny
import Derived.Deep.QuietTactic
import Derived.BigQuiet
import Derived.Test.YtacogloheiendaaGreatDoorShelf
import Derived.Handy
import Derived.Deep.DeepCutAuto
import Derived.Deep.RegionHeld3
import Derived.Lib.ItoaNum
import Derived.Shelf.Bytes.SlEqualAll
import Derived.Lib.AppendIntMem
namespace Go.Proofs.YtacogloheiendaaGreatDoor
open Go.ChangeShapes Go.WideShapes Go.ChangeAt Go.RowKit
set_option linter.unusedVariables false

theorem own : ownKnob Tryz.prog.godebug = none := by kernel_rfl

section
variable {H : Type} {enc : TypeId × Value → H} {P : Program}
theorem post_of_below {f : Func} {s : ChangeSpec} {apart fresh handsOn again : Bool} {W W' : World} {args : Array Value} {v : Value} {ds gs : List (DataW H)} {before pa pv : List MemPlace}
    (hW : DataW.Whole enc P f.params.toList s.vars apart W args.toList ds gs before)
    (hres : ∀ (b : Nat) (sp : Nat → Bool) (hd : Bool), DataW.TrodAll enc P W' b sp hd f.resultTypes.toList (v.resultList f.resultTypes.size) (s.fn H (ds ++ gs)).results [])
    (hargs : ∀ sp : Nat → Bool, (∀ p ∈ before, sp p.block = true) → DataW.TrodAll enc P W' 0 sp true f.params.toList args.toList (s.fn H (ds ++ gs)).args pa)
    (hvars : ∀ sp : Nat → Bool, (∀ p ∈ before, sp p.block = true) → DataW.TrodVars enc P W' sp s.vars (s.fn H (ds ++ gs)).vars pv)
    (hps : before = pa ++ pv) (hb : Below W.heap.size W W')
    (hok : ∀ (j : Nat) (t : TypeId) (r : Value), f.resultTypes[j]? = some t → (v.resultList f.resultTypes.size)[j]? = some r → Value.okWide P W' .any 0 t r) :
    s.post enc P f apart fresh handsOn again W args v W' := by
  have hlt : ∀ p ∈ before, p.block < W.heap.size := fun p hp => hW.lt p hp
  have hold : ∀ p ∈ before, (fun b => decide (b < W.heap.size)) p.block = true := fun p hp => by simpa using hlt p hp
  refine ⟨ds, gs, before, [], pa, pv, hW, hres _ _ _, hargs _ hold, hvars _ hold, World.keptBut_mono (fun p hp => ⟨hp, ?_⟩) (hb.frame (· ∈ before)), fun _ => ?_⟩
  · rw [hps, List.mem_append] at hp
    exact Or.inr hp
  · obtain ⟨_, _, _, _, _, hz, hn⟩ := hW
    refine ⟨hok, _, _, ([] ++ pa) ++ pv, ⟨[] ++ pa, pv, trodAll_append (hargs _ (fun _ _ => rfl)) (hres _ _ _), hvars _ (fun _ _ => rfl), rfl, ?_, ?_⟩, ?_⟩
    · intro b off hp
      have hin : MemPlace.cell b off ∈ before := by rw [hps]; simpa using hp
      rw [hb.frozen (hlt _ hin)]
      exact hz b off hin
    · intro ha
      have := hn ha
      rw [hps] at this
      simpa using this
    · intro p hp _
      rw [hps]
      simpa using hp
end

end Go.Proofs.YtacogloheiendaaGreatDoor
namespace Go.Proofs.YtacogloheiendaaGreatDoor
open Go.ChangeShapes Go.WideShapes Go.ChangeAt Go.RowKit
set_option linter.unusedVariables false

theorem laidOut : laidOutB Tryz.prog = true := by kernel_rfl

theorem trodAll_stays {H : Type} {enc : TypeId × Value → H} {P : Program} {W W' : World} {sp : Nat → Bool} (hl : laidOutB P = true) (hb : Below W.heap.size W W') :
    ∀ (ts : List TypeId) (vs : List Value) (ds : List (DataW H)) (ps : List MemPlace), (ts.all fun t => P.readableRec t && decide (t < P.types.size)) = true → (∀ p ∈ ps, p.block < W.heap.size) → (∀ p ∈ ps, sp p.block = true) →
      DataW.TrodAll enc P W 0 (fun _ => true) true ts vs ds ps → DataW.TrodAll enc P W' 0 sp true ts vs ds ps
  | [], [], [], _, _, _, _, h => h
  | t :: ts, v :: vs, d :: ds, ps, hts, hlt, hsp, ⟨p, q, h1, h2, e⟩ => by
    simp only [List.all_cons, Bool.and_eq_true, decide_eq_true_eq] at hts
    refine ⟨p, q, ?_, trodAll_stays hl hb ts vs ds q hts.2 (fun x hx => hlt x (by rw [e]; exact List.mem_append_right _ hx)) (fun x hx => hsp x (by rw [e]; exact List.mem_append_right _ hx)) h2, e⟩
    exact WideElems.Trod_stays hl hts.1.1 hts.1.2 h1 (fun x hx => hb.same (hlt x (by rw [e]; exact List.mem_append_left _ hx))) (fun x hx => hsp x (by rw [e]; exact List.mem_append_left _ hx))
  | [], [], _ :: _, _, _, _, _, h => h.elim
  | [], _ :: _, _, _, _, _, _, h => h.elim
  | _ :: _, [], _, _, _, _, _, h => h.elim
  | _ :: _, _ :: _, [], _, _, _, _, h => h.elim

end Go.Proofs.YtacogloheiendaaGreatDoor
namespace Go.Proofs.YtacogloheiendaaGreatDoor
open Go.RowKit
set_option linter.unusedVariables false
set_option linter.unusedSimpArgs false

def withinB (n a b : Int) : Bool := decide (a ≤ n ∧ n ≤ b)
theorem withinB_t {n a b : Int} (h : a ≤ n ∧ n ≤ b) : withinB n a b = true := by simp [withinB, h]
theorem withinB_f {n a b : Int} (h : ¬ (a ≤ n ∧ n ≤ b)) : withinB n a b = false := by unfold withinB; exact decide_eq_false h
theorem withinB_iff {n a b : Int} : withinB n a b = true ↔ a ≤ n ∧ n ≤ b := by simp [withinB]

theorem day_within (n a b : Int) (w : World) :
    Calls Tryz.prog 82 #[.int .i64 n, .int .i64 a, .int .i64 b] w fun e w' => e = .returned (.bool (withinB n a b)) ∧ w = w' := by
  by_cases h1 : a ≤ n <;> by_cases h2 : n ≤ b <;>
  · go_enter Tryz.func82, Tryz.ntmps82
    go_wp2
    go_ret
    exact ⟨ret_bool (by simp [withinB, h1, h2]), rfl⟩

abbrev dayV (k wd n : Int) : Value := .agg #[.int .i64 k, .int .i64 wd, .int .i64 n]

def dayB (k wd n : Int) : Bool := decide ((k = 1 ∧ wd = 0 ∧ 1 ≤ n ∧ n ≤ 31) ∨ (k = 2 ∧ 0 ≤ wd ∧ wd ≤ 6 ∧ n = 0) ∨ ((k = 3 ∨ k = 4) ∧ 0 ≤ wd ∧ wd ≤ 6 ∧ 1 ≤ n ∧ n ≤ 31))

theorem quiet_left {P : Program} {f : FuncId} {args : Array Value} {w : World} {n : Nat} {v : Value}
    (h : Calls P f args (w.drewN n) fun e w' => e = .returned v ∧ w.drewN n = w') : Calls P f args (w.drewN n) fun e w'' => e = .returned v ∧ ∃ m, w'' = w.drewN m :=
  h.mono fun _ _ ⟨he, hm⟩ => ⟨he, n, hm.symm⟩

theorem below_drewN {B : Nat} {a w : World} (h : Below B a w) (n : Nat) : Below B a (w.drewN n) := ⟨h.os, h.tape, h.output, h.size, h.block⟩

set_option maxHeartbeats 2000000 in
theorem Check_ok (k wd n : Int) (w : World) (h0 : dayB k wd n = true) :
    Calls Tryz.prog 59 #[dayV k wd n] w fun e w' => e = .returned (.int .i64 0) ∧ Below w.heap.size w w' := by
  simp only [dayB, decide_eq_true_eq] at h0
  rcases h0 with ⟨rfl, rfl, h⟩ | ⟨rfl, h, h2, rfl⟩ | ⟨rfl | rfl, h⟩
  · have t0 : withinB 0 0 6 = true := by decide
    have t2 : withinB n 1 31 = true := withinB_t (by omega)
    clear h
    go_enter Tryz.func59, Tryz.ntmps59
    go_wp2
    go_quiet ((go_at_call 82; exact quiet_left (day_within _ _ _ _)))
    go_wp2
    go_ret
    exact ⟨rfl, below_drewN ((Below.refl _ _).alloc (Nat.le_refl _) _) _⟩
  · have t2 : withinB 0 1 31 = false := by decide
    have t1 : withinB wd 0 6 = true := withinB_t (by omega)
    clear h
    go_enter Tryz.func59, Tryz.ntmps59
    go_wp2
    go_quiet ((go_at_call 82; exact quiet_left (day_within _ _ _ _)))
    go_wp2
    go_ret
    exact ⟨rfl, below_drewN ((Below.refl _ _).alloc (Nat.le_refl _) _) _⟩
  · have t1 : withinB wd 0 6 = true := withinB_t (by omega)
    have t2 : withinB n 1 31 = true := withinB_t (by omega)
    clear h
    go_enter Tryz.func59, Tryz.ntmps59
    go_wp2
    go_quiet ((go_at_call 82; exact quiet_left (day_within _ _ _ _)))
    go_wp2
    go_ret
    exact ⟨rfl, below_drewN ((Below.refl _ _).alloc (Nat.le_refl _) _) _⟩
  · have t1 : withinB wd 0 6 = true := withinB_t (by omega)
    have t2 : withinB n 1 31 = true := withinB_t (by omega)
    clear h
    go_enter Tryz.func59, Tryz.ntmps59
    go_wp2
    go_quiet ((go_at_call 82; exact quiet_left (day_within _ _ _ _)))
    go_wp2
    go_ret
    exact ⟨rfl, below_drewN ((Below.refl _ _).alloc (Nat.le_refl _) _) _⟩
set_option maxHeartbeats 2000000 in
theorem Check_no (k wd n : Int) (w : World) (h0 : dayB k wd n = false) :
    Calls Tryz.prog 59 #[dayV k wd n] w fun e w' => e = .returned (.int .i64 1) ∧ Below w.heap.size w w' := by
  simp only [dayB, decide_eq_false_iff_not] at h0
  have h : (k = 1 ∧ wd ≠ 0) ∨ (k = 1 ∧ wd = 0 ∧ ¬ (1 ≤ n ∧ n ≤ 31)) ∨ (k = 2 ∧ ¬ (0 ≤ wd ∧ wd ≤ 6)) ∨ (k = 2 ∧ (0 ≤ wd ∧ wd ≤ 6) ∧ n ≠ 0) ∨ (k = 3 ∧ ¬ (0 ≤ wd ∧ wd ≤ 6)) ∨ (k = 3 ∧ (0 ≤ wd ∧ wd ≤ 6) ∧ ¬ (1 ≤ n ∧ n ≤ 31)) ∨
      (k = 4 ∧ ¬ (0 ≤ wd ∧ wd ≤ 6)) ∨ (k = 4 ∧ (0 ≤ wd ∧ wd ≤ 6) ∧ ¬ (1 ≤ n ∧ n ≤ 31)) ∨ (k ≠ 1 ∧ k ≠ 2 ∧ k ≠ 3 ∧ k ≠ 4) := by omega
  clear h0
  rcases h with ⟨rfl, h⟩ | ⟨rfl, rfl, h⟩ | ⟨rfl, h⟩ | ⟨rfl, h1, h⟩ | ⟨rfl, h⟩ | ⟨rfl, h1, h⟩ | ⟨rfl, h⟩ | ⟨rfl, h1, h⟩ | h
  · have t3 : (wd == 0) = false := by simp; omega
    clear h
    go_enter Tryz.func59, Tryz.ntmps59
    go_wp2
    go_quiet ((go_at_call 82; exact quiet_left (day_within _ _ _ _)))
    go_wp2
    go_ret
    exact ⟨rfl, below_drewN ((Below.refl _ _).alloc (Nat.le_refl _) _) _⟩
  · have t2 : withinB n 1 31 = false := withinB_f (by omega)
    clear h
    go_enter Tryz.func59, Tryz.ntmps59
    go_wp2
    go_quiet ((go_at_call 82; exact quiet_left (day_within _ _ _ _)))
    go_wp2
    go_ret
    exact ⟨rfl, below_drewN ((Below.refl _ _).alloc (Nat.le_refl _) _) _⟩
  · have t1 : withinB wd 0 6 = false := withinB_f (by omega)
    clear h
    go_enter Tryz.func59, Tryz.ntmps59
    go_wp2
    go_quiet ((go_at_call 82; exact quiet_left (day_within _ _ _ _)))
    go_wp2
    go_ret
    exact ⟨rfl, below_drewN ((Below.refl _ _).alloc (Nat.le_refl _) _) _⟩
  · have t1 : withinB wd 0 6 = true := withinB_t (by omega)
    have t4 : (n == 0) = false := by simp; omega
    clear h
    go_enter Tryz.func59, Tryz.ntmps59
    go_wp2
    go_quiet ((go_at_call 82; exact quiet_left (day_within _ _ _ _)))
    go_wp2
    go_ret
    exact ⟨rfl, below_drewN ((Below.refl _ _).alloc (Nat.le_refl _) _) _⟩
  · have t1 : withinB wd 0 6 = false := withinB_f (by omega)
    clear h
    go_enter Tryz.func59, Tryz.ntmps59
    go_wp2
    go_quiet ((go_at_call 82; exact quiet_left (day_within _ _ _ _)))
    go_wp2
    go_ret
    exact ⟨rfl, below_drewN ((Below.refl _ _).alloc (Nat.le_refl _) _) _⟩
  · have t1 : withinB wd 0 6 = true := withinB_t (by omega)
    have t2 : withinB n 1 31 = false := withinB_f (by omega)
    clear h
    go_enter Tryz.func59, Tryz.ntmps59
    go_wp2
    go_quiet ((go_at_call 82; exact quiet_left (day_within _ _ _ _)))
    go_wp2
    go_ret
    exact ⟨rfl, below_drewN ((Below.refl _ _).alloc (Nat.le_refl _) _) _⟩
  · have t1 : withinB wd 0 6 = false := withinB_f (by omega)
    clear h
    go_enter Tryz.func59, Tryz.ntmps59
    go_wp2
    go_quiet ((go_at_call 82; exact quiet_left (day_within _ _ _ _)))
    go_wp2
    go_ret
    exact ⟨rfl, below_drewN ((Below.refl _ _).alloc (Nat.le_refl _) _) _⟩
  · have t1 : withinB wd 0 6 = true := withinB_t (by omega)
    have t2 : withinB n 1 31 = false := withinB_f (by omega)
    clear h
    go_enter Tryz.func59, Tryz.ntmps59
    go_wp2
    go_quiet ((go_at_call 82; exact quiet_left (day_within _ _ _ _)))
    go_wp2
    go_ret
    exact ⟨rfl, below_drewN ((Below.refl _ _).alloc (Nat.le_refl _) _) _⟩
  · have t5 : (k == 1) = false := by simp; omega
    have t6 : (k == 2) = false := by simp; omega
    have t7 : (k == 3) = false := by simp; omega
    have t8 : (k == 4) = false := by simp; omega
    clear h
    go_enter Tryz.func59, Tryz.ntmps59
    go_wp2
    go_quiet ((go_at_call 82; exact quiet_left (day_within _ _ _ _)))
    go_wp2
    go_ret
    exact ⟨rfl, below_drewN ((Below.refl _ _).alloc (Nat.le_refl _) _) _⟩

end Go.Proofs.YtacogloheiendaaGreatDoor
namespace Go.Proofs.YtacogloheiendaaGreatDoor
open Go.RowKit
set_option linter.unusedVariables false
set_option linter.unusedSimpArgs false

theorem bcell {W w1 : World} (hb : Below W.heap.size W w1) : (∀ b o, b < W.heap.size → w1.cell? ⟨b, o, none⟩ = W.cell? ⟨b, o, none⟩) ∧ (∀ b o, b < W.heap.size → w1.frozen? ⟨b, o, none⟩ = W.frozen? ⟨b, o, none⟩) :=
  ⟨fun b o h => hb.cell (p := ⟨b, o, none⟩) h, fun b o h => hb.frozen (p := ⟨b, o, none⟩) h⟩

/-- where the search begins, and where it ends -/
def upTo (a wd : Int) : Int := a + (wd - (a + 4)) % 7
def downTo (a wd : Int) : Int := a - ((a + 4) - wd) % 7

theorem upTo_bd (a wd : Int) (h0 : 0 ≤ wd) (h6 : wd ≤ 6) : a ≤ upTo a wd ∧ upTo a wd ≤ a + 6 ∧ (upTo a wd + 4) % 7 = wd := by unfold upTo; omega
theorem downTo_bd (a wd : Int) (h0 : 0 ≤ wd) (h6 : wd ≤ 6) : downTo a wd ≤ a ∧ a - 6 ≤ downTo a wd ∧ (downTo a wd + 4) % 7 = wd := by unfold downTo; omega

set_option maxHeartbeats 1000000 in
theorem Of_up (y m wd n : Int) (w : World) (hd : dayB 3 wd n = true) (h1 : 1600 ≤ y) (h2 : y ≤ 2399) (h3 : 1 ≤ m) (h4 : m ≤ 12) (h5 : n ≤ Civ.mlen y m) (h6 : upTo (Civ.days y m n) wd ≤ 157053) :
    Calls Tryz.prog 46 #[.int .i64 y, .int .i64 m, dayV 3 wd n] w fun e w' => e = .returned (.tuple #[.int .i64 (upTo (Civ.days y m n) wd), .int .i64 0]) ∧ Below w.heap.size w w' := by
  have hd' := hd
  simp only [dayB, decide_eq_true_eq] at hd'
  have hw : 0 ≤ wd ∧ wd ≤ 6 ∧ 1 ≤ n := by omega
  clear hd'
  obtain ⟨hw0, hw6, hn1⟩ := hw
  have HD := Lib.hid hd
  clear hd
  have hml := Civ.mlen_bd y m h3 h4
  obtain ⟨L, eL⟩ : ∃ L : Int, Civ.mlen y m = L := ⟨_, rfl⟩
  have v1 := Lib.hid (show Civ.valid y m 1 from ⟨h1, h2, h3, h4, by omega, by omega⟩)
  have bd1 := Civ.days_bd v1.out
  have v2 := Lib.hid (show Civ.valid y m n from ⟨h1, h2, h3, h4, by omega, by omega⟩)
  have bd2 := Civ.days_bd v2.out
  have e1 : Civ.days y m n = Civ.days y m 1 + n - 1 := by unfold Civ.days; omega
  have hub := upTo_bd (Civ.days y m n) wd hw0 hw6
  obtain ⟨R, eR⟩ : ∃ R : Int, upTo (Civ.days y m n) wd = R := ⟨_, rfl⟩
  rw [eR] at h6 hub ⊢
  rw [e1] at bd2 hub
  obtain ⟨A, eA⟩ : ∃ A : Int, Civ.days y m 1 = A := ⟨_, rfl⟩
  rw [eA] at bd1 bd2 hub
  rw [eL] at h5 hml 
  have HL := Lib.hid eL
  have HA := Lib.hid eA
  have hR1 := hub.1
  have hR2 := hub.2.1
  have HR7 := Lib.hid hub.2.2
  clear eL eA eR e1 hub
  go_enter Tryz.func46, Tryz.ntmps46
  go_wp2_with fail
  refine (Check_ok _ _ _ _ HD.out).mono ?_
  rintro e w1 ⟨rfl, hb1⟩
  obtain ⟨hc, hf⟩ := bcell hb1
  go_wp2_with fail
  refine (Length_ok _ _ _ h1 h2 h3 h4).mono ?_
  rintro e w' ⟨rfl, rfl⟩
  rw [HL.out]
  go_wp2_with fail
  refine (Days_ok _ _ _ _ v1.out).mono ?_
  rintro e w' ⟨rfl, rfl⟩
  rw [HA.out]
  go_wp2_with fail
  go_loop [13] (fun t => ∃ a : Int, A + n - 1 ≤ a ∧ a ≤ R ∧ t = .int .i64 a) (fun t => (R - intOf t).toNat)
  case atStart => exact ⟨A + n - 1, by omega, by omega, rfl⟩
  case round =>
    obtain ⟨a, ha1, ha2, rfl⟩ := hrel
    by_cases hq : a = R
    · obtain rfl := hq
      have fw : ((a + 4) % 7 == wd) = true := by have := HR7.out; simpa using this
      go_wp2_with fail
      refine (Weekday_ok _ _ (by omega) (by omega)).mono ?_
      rintro e w' ⟨rfl, rfl⟩
      go_wp2
      go_ret2
      exact ⟨rfl, ((Below.refl _ _).alloc (Nat.le_refl _) _).trans (hb1.mono (by simp))⟩
    · have fw : ((a + 4) % 7 == wd) = false := by have := HR7.out; simp; omega
      go_wp2_with fail
      refine (Weekday_ok _ _ (by omega) (by omega)).mono ?_
      rintro e w' ⟨rfl, rfl⟩
      go_wp2
      go_round
      case rel => exact ⟨a + 1, by omega, by omega, rfl⟩
      case measure => simp [intOf]; omega

set_option maxHeartbeats 1000000 in
theorem Of_down (y m wd n : Int) (w : World) (hd : dayB 4 wd n = true) (h1 : 1600 ≤ y) (h2 : y ≤ 2399) (h3 : 1 ≤ m) (h4 : m ≤ 12) (h5 : n ≤ Civ.mlen y m) (h6 : -135140 ≤ downTo (Civ.days y m n) wd) :
    Calls Tryz.prog 46 #[.int .i64 y, .int .i64 m, dayV 4 wd n] w fun e w' => e = .returned (.tuple #[.int .i64 (downTo (Civ.days y m n) wd), .int .i64 0]) ∧ Below w.heap.size w w' := by
  have hd' := hd
  simp only [dayB, decide_eq_true_eq] at hd'
  have hw : 0 ≤ wd ∧ wd ≤ 6 ∧ 1 ≤ n := by omega
  clear hd'
  obtain ⟨hw0, hw6, hn1⟩ := hw
  have HD := Lib.hid hd
  clear hd
  have hml := Civ.mlen_bd y m h3 h4
  obtain ⟨L, eL⟩ : ∃ L : Int, Civ.mlen y m = L := ⟨_, rfl⟩
  have v1 := Lib.hid (show Civ.valid y m 1 from ⟨h1, h2, h3, h4, by omega, by omega⟩)
  have bd1 := Civ.days_bd v1.out
  have v2 := Lib.hid (show Civ.valid y m n from ⟨h1, h2, h3, h4, by omega, by omega⟩)
  have bd2 := Civ.days_bd v2.out
  have e1 : Civ.days y m n = Civ.days y m 1 + n - 1 := by unfold Civ.days; omega
  have hub := downTo_bd (Civ.days y m n) wd hw0 hw6
  obtain ⟨R, eR⟩ : ∃ R : Int, downTo (Civ.days y m n) wd = R := ⟨_, rfl⟩
  rw [eR] at h6 hub ⊢
  rw [e1] at bd2 hub
  obtain ⟨A, eA⟩ : ∃ A : Int, Civ.days y m 1 = A := ⟨_, rfl⟩
  rw [eA] at bd1 bd2 hub
  rw [eL] at h5 hml 
  have HL := Lib.hid eL
  have HA := Lib.hid eA
  have hR1 := hub.1
  have hR2 := hub.2.1
  have HR7 := Lib.hid hub.2.2
  clear eL eA eR e1 hub
  go_enter Tryz.func46, Tryz.ntmps46
  go_wp2_with fail
  refine (Check_ok _ _ _ _ HD.out).mono ?_
  rintro e w1 ⟨rfl, hb1⟩
  obtain ⟨hc, hf⟩ := bcell hb1
  go_wp2_with fail
  refine (Length_ok _ _ _ h1 h2 h3 h4).mono ?_
  rintro e w' ⟨rfl, rfl⟩
  rw [HL.out]
  go_wp2_with fail
  refine (Days_ok _ _ _ _ v1.out).mono ?_
  rintro e w' ⟨rfl, rfl⟩
  rw [HA.out]
  go_wp2_with fail
  go_loop [13] (fun t => ∃ a : Int, R ≤ a ∧ a ≤ A + n - 1 ∧ t = .int .i64 a) (fun t => (intOf t - R).toNat)
  case atStart => exact ⟨A + n - 1, by omega, by omega, rfl⟩
  case round =>
    obtain ⟨a, ha1, ha2, rfl⟩ := hrel
    by_cases hq : a = R
    · obtain rfl := hq
      have fw : ((a + 4) % 7 == wd) = true := by have := HR7.out; simpa using this
      go_wp2_with fail
      refine (Weekday_ok _ _ (by omega) (by omega)).mono ?_
      rintro e w' ⟨rfl, rfl⟩
      go_wp2
      go_ret2
      exact ⟨rfl, ((Below.refl _ _).alloc (Nat.le_refl _) _).trans (hb1.mono (by simp))⟩
    · have fw : ((a + 4) % 7 == wd) = false := by have := HR7.out; simp; omega
      go_wp2_with fail
      refine (Weekday_ok _ _ (by omega) (by omega)).mono ?_
      rintro e w' ⟨rfl, rfl⟩
      go_wp2
      go_round
      case rel => exact ⟨a - 1, by omega, by omega, by go_num⟩
      case measure => simp [intOf]; omega

set_option maxHeartbeats 1000000 in
theorem Of_last (y m wd n : Int) (w : World) (hd : dayB 2 wd n = true) (h1 : 1600 ≤ y) (h2 : y ≤ 2399) (h3 : 1 ≤ m) (h4 : m ≤ 12)  :
    Calls Tryz.prog 46 #[.int .i64 y, .int .i64 m, dayV 2 wd n] w fun e w' => e = .returned (.tuple #[.int .i64 (downTo (Civ.days y m (Civ.mlen y m)) wd), .int .i64 0]) ∧ Below w.heap.size w w' := by
  have hd' := hd
  simp only [dayB, decide_eq_true_eq] at hd'
  have hw : 0 ≤ wd ∧ wd ≤ 6 ∧ n = 0 := by omega
  clear hd'
  obtain ⟨hw0, hw6, rfl⟩ := hw
  have HD := Lib.hid hd
  clear hd
  have hml := Civ.mlen_bd y m h3 h4
  obtain ⟨L, eL⟩ : ∃ L : Int, Civ.mlen y m = L := ⟨_, rfl⟩
  have v1 := Lib.hid (show Civ.valid y m 1 from ⟨h1, h2, h3, h4, by omega, by omega⟩)
  have bd1 := Civ.days_bd v1.out
  have v2 := Lib.hid (show Civ.valid y m (Civ.mlen y m) from ⟨h1, h2, h3, h4, by omega, by omega⟩)
  have bd2 := Civ.days_bd v2.out
  have e1 : Civ.days y m (Civ.mlen y m) = Civ.days y m 1 + (Civ.mlen y m) - 1 := by unfold Civ.days; omega
  have hub := downTo_bd (Civ.days y m (Civ.mlen y m)) wd hw0 hw6
  obtain ⟨R, eR⟩ : ∃ R : Int, downTo (Civ.days y m (Civ.mlen y m)) wd = R := ⟨_, rfl⟩
  rw [eR] at hub ⊢
  rw [e1] at bd2 hub
  obtain ⟨A, eA⟩ : ∃ A : Int, Civ.days y m 1 = A := ⟨_, rfl⟩
  rw [eA] at bd1 bd2 hub
  rw [eL] at hml bd2 hub
  have HL := Lib.hid eL
  have HA := Lib.hid eA
  have hR1 := hub.1
  have hR2 := hub.2.1
  have HR7 := Lib.hid hub.2.2
  clear eL eA eR e1 hub
  go_enter Tryz.func46, Tryz.ntmps46
  go_wp2_with fail
  refine (Check_ok _ _ _ _ HD.out).mono ?_
  rintro e w1 ⟨rfl, hb1⟩
  obtain ⟨hc, hf⟩ := bcell hb1
  go_wp2_with fail
  refine (Length_ok _ _ _ h1 h2 h3 h4).mono ?_
  rintro e w' ⟨rfl, rfl⟩
  rw [HL.out]
  go_wp2_with fail
  refine (Days_ok _ _ _ _ v1.out).mono ?_
  rintro e w' ⟨rfl, rfl⟩
  rw [HA.out]
  go_wp2_with fail
  go_loop [13] (fun t => ∃ a : Int, R ≤ a ∧ a ≤ A + L - 1 ∧ t = .int .i64 a) (fun t => (intOf t - R).toNat)
  case atStart => exact ⟨A + L - 1, by omega, by omega, rfl⟩
  case round =>
    obtain ⟨a, ha1, ha2, rfl⟩ := hrel
    by_cases hq : a = R
    · obtain rfl := hq
      have fw : ((a + 4) % 7 == wd) = true := by have := HR7.out; simpa using this
      go_wp2_with fail
      refine (Weekday_ok _ _ (by omega) (by omega)).mono ?_
      rintro e w' ⟨rfl, rfl⟩
      go_wp2
      go_ret2
      exact ⟨rfl, ((Below.refl _ _).alloc (Nat.le_refl _) _).trans (hb1.mono (by simp))⟩
    · have fw : ((a + 4) % 7 == wd) = false := by have := HR7.out; simp; omega
      go_wp2_with fail
      refine (Weekday_ok _ _ (by omega) (by omega)).mono ?_
      rintro e w' ⟨rfl, rfl⟩
      go_wp2
      go_round
      case rel => exact ⟨a - 1, by omega, by omega, by go_num⟩
      case measure => simp [intOf]; omega

set_option maxHeartbeats 1000000 in
theorem Of_num (y m wd n : Int) (w : World) (hd : dayB 1 wd n = true) (h1 : 1600 ≤ y) (h2 : y ≤ 2399) (h3 : 1 ≤ m) (h4 : m ≤ 12) (h5 : n ≤ Civ.mlen y m) :
    Calls Tryz.prog 46 #[.int .i64 y, .int .i64 m, dayV 1 wd n] w fun e w' => e = .returned (.tuple #[.int .i64 (Civ.days y m n), .int .i64 0]) ∧ Below w.heap.size w w' := by
  have hd' := hd
  simp only [dayB, decide_eq_true_eq] at hd'
  have hw : wd = 0 ∧ 1 ≤ n := by omega
  clear hd'
  obtain ⟨rfl, hn1⟩ := hw
  have HD := Lib.hid hd
  clear hd
  have hml := Civ.mlen_bd y m h3 h4
  obtain ⟨L, eL⟩ : ∃ L : Int, Civ.mlen y m = L := ⟨_, rfl⟩
  have v1 := Lib.hid (show Civ.valid y m 1 from ⟨h1, h2, h3, h4, by omega, by omega⟩)
  have bd1 := Civ.days_bd v1.out
  have v2 := Lib.hid (show Civ.valid y m n from ⟨h1, h2, h3, h4, by omega, by omega⟩)
  have bd2 := Civ.days_bd v2.out
  have e1 : Civ.days y m n = Civ.days y m 1 + n - 1 := by unfold Civ.days; omega
  obtain ⟨A, eA⟩ : ∃ A : Int, Civ.days y m 1 = A := ⟨_, rfl⟩
  rw [e1] at bd2
  rw [e1, eA]
  rw [eA] at bd1 bd2
  rw [eL] at h5 hml
  have HL := Lib.hid eL
  have HA := Lib.hid eA
  clear eL eA e1
  go_enter Tryz.func46, Tryz.ntmps46
  go_wp2_with fail
  refine (Check_ok _ _ _ _ HD.out).mono ?_
  rintro e w1 ⟨rfl, hb1⟩
  obtain ⟨hc, hf⟩ := bcell hb1
  go_wp2_with fail
  refine (Length_ok _ _ _ h1 h2 h3 h4).mono ?_
  rintro e w' ⟨rfl, rfl⟩
  rw [HL.out]
  go_wp2_with fail
  refine (Days_ok _ _ _ _ v1.out).mono ?_
  rintro e w' ⟨rfl, rfl⟩
  rw [HA.out]
  go_wp2_with fail
  go_loop [13] (fun t => t = .int .i64 (A + n - 1)) (fun t => 0)
  case atStart => rfl
  case round =>
    obtain rfl := hrel
    go_wp2
    go_ret2
    exact ⟨rfl, ((Below.refl _ _).alloc (Nat.le_refl _) _).trans (hb1.mono (by simp))⟩

end Go.Proofs.YtacogloheiendaaGreatDoor
set_option linter.unusedVariables false
namespace Civ

theorem next (n : Int) (h1 : -135140 ≤ n) (h2 : n < 157053) :
    (dd n < mlen (yy n) (mm n) → yy (n + 1) = yy n ∧ mm (n + 1) = mm n ∧ dd (n + 1) = dd n + 1) ∧
    (mlen (yy n) (mm n) ≤ dd n → mm n < 12 → yy (n + 1) = yy n ∧ mm (n + 1) = mm n + 1 ∧ dd (n + 1) = 1) ∧
    (mlen (yy n) (mm n) ≤ dd n → 12 ≤ mm n → yy n < 2399 ∧ yy (n + 1) = yy n + 1 ∧ mm (n + 1) = 1 ∧ dd (n + 1) = 1) := by
  obtain ⟨hv, hd⟩ := date_valid n h1 (by omega)
  obtain ⟨hv', hd'⟩ := date_valid (n + 1) (by omega) (by omega)
  obtain ⟨a1, a2, a3, a4, a5, a6⟩ := hv
  rw [days_eq _ _ _ a3 a4] at hd
  have key : ∀ Y M D, valid Y M D → jan1 Y + cum Y M + D - 1 = n + 1 → yy (n + 1) = Y ∧ mm (n + 1) = M ∧ dd (n + 1) = D := by
    intro Y M D hV hE
    have hV' := hV
    obtain ⟨b1, b2, b3, b4, b5, b6⟩ := hV
    refine days_inj hv' hV' ?_
    rw [hd', days_eq Y M D b3 b4, hE]
  refine ⟨fun h => ?_, fun h hm => ?_, fun h hm => ?_⟩
  · exact key _ _ _ ⟨a1, a2, a3, a4, by omega, by omega⟩ (by omega)
  · have hb := mlen_bd (yy n) (mm n + 1) (by omega) (by omega)
    refine key _ _ _ ⟨a1, a2, by omega, by omega, by omega, by omega⟩ ?_
    rw [cum_succ _ _ a3 a4]; omega
  · have e : mm n = 12 := by omega
    have h31 : mlen (yy n) 12 = 31 := by simp [mlen]
    have c12 : cum (yy n) 12 = lp (yy n) + 334 := by simp [cum]; omega
    rw [e] at h hd a6
    rw [h31] at h a6
    rw [c12] at hd
    have hlt : yy n < 2399 := by
      by_cases hq : yy n = 2399
      · rw [hq] at hd
        have : jan1 2399 = 156689 := by decide
        have : lp 2399 = 0 := by decide
        omega
      · omega
    refine ⟨hlt, key _ _ _ ⟨by omega, by omega, by omega, by omega, by omega, ?_⟩ ?_⟩
    · simp [mlen]
    · rw [jan1_succ]
      have : cum (yy n + 1) 1 = 0 := by simp [cum]
      omega

end Civ
namespace Civ
end Civ
namespace Go.Proofs.YtacogloheiendaaGreatDoor
set_option linter.unusedVariables false
set_option linter.unusedSimpArgs false

structure Rt where
  (m w d t : Int)
structure Px where
  (name : ByteArray)
  (off : Int)
  (also : ByteArray)
  (aoff : Int)
  (s e : Rt)

def okRt (r : Rt) : Bool := decide (1 ≤ r.m ∧ r.m ≤ 12 ∧ 1 ≤ r.w ∧ r.w ≤ 5 ∧ 0 ≤ r.d ∧ r.d ≤ 6 ∧ 0 ≤ r.t ∧ r.t ≤ 86400)
theorem okRt_iff {r : Rt} : okRt r = true ↔ 1 ≤ r.m ∧ r.m ≤ 12 ∧ 1 ≤ r.w ∧ r.w ≤ 5 ∧ 0 ≤ r.d ∧ r.d ≤ 6 ∧ 0 ≤ r.t ∧ r.t ≤ 86400 := by simp [okRt]
/-- a rite's day of a year -/
def rDay (y : Int) (r : Rt) : Int := if r.w = 5 then downTo (Civ.days y r.m (Civ.mlen y r.m)) r.d else upTo (Civ.days y r.m (7 * r.w - 6)) r.d

theorem days_lin (y m d : Int) : Civ.days y m d = Civ.days y m 1 + d - 1 := by unfold Civ.days; omega
theorem rDay_in (y : Int) (r : Rt) (h1 : 1600 ≤ y) (h2 : y ≤ 2399) (hr : okRt r = true) :
    ∃ d, Civ.valid y r.m d ∧ rDay y r = Civ.days y r.m d ∧ (rDay y r + 4) % 7 = r.d ∧ (r.w < 5 → (d + 6) / 7 = r.w) ∧ (r.w = 5 → Civ.mlen y r.m - 7 < d) := by
  obtain ⟨a1, a2, a3, a4, a5, a6, a7, a8⟩ := okRt_iff.1 hr
  have hml := Civ.mlen_bd y r.m a1 a2
  unfold rDay
  split
  · rename_i hw
    have hb := downTo_bd (Civ.days y r.m (Civ.mlen y r.m)) r.d a5 a6
    refine ⟨Civ.mlen y r.m - (Civ.days y r.m (Civ.mlen y r.m) - downTo (Civ.days y r.m (Civ.mlen y r.m)) r.d), ⟨h1, h2, a1, a2, by omega, by omega⟩, ?_, hb.2.2, fun h => by omega, fun _ => by omega⟩
    rw [days_lin y r.m (Civ.mlen y r.m - _)]
    have := days_lin y r.m (Civ.mlen y r.m)
    omega
  · rename_i hw
    have hb := upTo_bd (Civ.days y r.m (7 * r.w - 6)) r.d a5 a6
    refine ⟨7 * r.w - 6 + (upTo (Civ.days y r.m (7 * r.w - 6)) r.d - Civ.days y r.m (7 * r.w - 6)), ⟨h1, h2, a1, a2, by omega, by omega⟩, ?_, hb.2.2, fun _ => by omega, fun h => by omega⟩
    rw [days_lin y r.m (7 * r.w - 6 + _)]
    have := days_lin y r.m (7 * r.w - 6)
    omega

/-- where the summer begins and ends, of a year -/
def tS (p : Px) (y : Int) : Int := 86400 * rDay y p.s + p.s.t - p.off
def tE (p : Px) (y : Int) : Int := 86400 * rDay y p.e + p.e.t - p.aoff
def isS (a b t : Int) : Bool := decide ((a < b ∧ a ≤ t ∧ t < b) ∨ (b ≤ a ∧ (a ≤ t ∨ t < b)))
/-- a summer that may be -/
structure OkPx (p : Px) : Prop where
  o1 : -64800 ≤ p.off
  o2 : p.off ≤ 64800
  a1 : p.off + 1 ≤ p.aoff
  a2 : p.aoff ≤ p.off + 10800
  s : okRt p.s = true
  e : okRt p.e = true
  ne : p.s.m ≠ p.e.m
def yOf (p : Px) (t : Int) : Int := Civ.yy ((t + p.off) / 86400)
def sumB (p : Px) (t : Int) : Bool := isS (tS p (yOf p t)) (tE p (yOf p t)) t
def okSt (t : Int) : Bool := decide (-135140 ≤ t / 86400 ∧ t / 86400 ≤ 157053)
theorem okSt_iff {t : Int} : okSt t = true ↔ -135140 ≤ t / 86400 ∧ t / 86400 ≤ 157053 := by simp [okSt]

theorem rDay_bd (y : Int) (r : Rt) (h1 : 1600 ≤ y) (h2 : y ≤ 2399) (hr : okRt r = true) : -135140 ≤ rDay y r ∧ rDay y r ≤ 157053 := by
  obtain ⟨d, hv, e, -⟩ := rDay_in y r h1 h2 hr
  rw [e]; exact Civ.days_bd hv

end Go.Proofs.YtacogloheiendaaGreatDoor
namespace Go.Proofs.YtacogloheiendaaGreatDoor
open Go.RowKit
set_option linter.unusedVariables false
set_option linter.unusedSimpArgs false

theorem ret_int' {k : IntKind} {a b : Int} (h : a = b) : Ending.returned (.int k a) = .returned (.int k b) := by rw [h]
theorem ret_bool' {a b : Bool} (h : a = b) : Ending.returned (.bool a) = .returned (.bool b) := by rw [h]

def letterB (c : Int) : Bool := decide (97 ≤ c ∧ c ≤ 122 ∨ 65 ≤ c ∧ c ≤ 90)
def digitB (c : Int) : Bool := decide (48 ≤ c ∧ c ≤ 57)

theorem isLetter_any (c : Int) (w : World) :
    Calls Tryz.prog 40 #[.int .u8 c] w fun e w' => e = .returned (.bool (letterB c)) ∧ w = w' := by
  by_cases h1 : 97 ≤ c <;> by_cases h2 : c ≤ 122 <;> by_cases h3 : 65 ≤ c <;> by_cases h4 : c ≤ 90 <;>
  first
  | omega
  | (go_enter Tryz.func40, Tryz.ntmps40
     go_wp2
     go_ret
     exact ⟨ret_bool' (by simp [letterB, h1, h2, h3, h4]), rfl⟩)

theorem isDigit_any (c : Int) (w : World) :
    Calls Tryz.prog 71 #[.int .u8 c] w fun e w' => e = .returned (.bool (digitB c)) ∧ w = w' := by
  by_cases h1 : 48 ≤ c <;> by_cases h2 : c ≤ 57 <;>
  · go_enter Tryz.func71, Tryz.ntmps71
    go_wp2
    go_ret
    exact ⟨ret_bool' (by simp [digitB, h1, h2]), rfl⟩

/-- is a byte a letter, a digit or one of some others? -/
def signB (others : List UInt8) (c : UInt8) : Bool := letterB c.toNat || digitB c.toNat || others.contains c
def allB (s : ByteArray) (most : Int) (others : ByteArray) : Bool := s.data.toList.all (signB others.data.toList) && (!s.data.toList.isEmpty) && decide ((s.size : Int) ≤ most)

theorem drop_at (s : ByteArray) (k : Nat) (h : k < s.size) : s.data.toList.drop k = s[k] :: s.data.toList.drop (k + 1) := by
  rw [List.drop_eq_getElem_cons (by simpa using h)]; rfl

theorem extract_one (s : ByteArray) (k : Nat) (h : k < s.size) : s.extract k (k + 1) = ⟨#[s[k]]⟩ := by
  apply ByteArray.ext
  apply Array.toList_inj.1
  rw [Lib.extract_data]
  simp only [Nat.add_sub_cancel_left]
  rw [drop_at s k h]; rfl

set_option maxHeartbeats 1000000 in
theorem all_any (s others : ByteArray) (most : Int) (w : World) (hs : s.size ≤ maxLen) :
    Calls Tryz.prog 39 #[.string s, .int .i64 most, .string others] w fun e w' => e = .returned (.bool (allB s most others)) ∧ w = w' := by
  unfold maxLen at hs
  go_enter Tryz.func39, Tryz.ntmps39
  go_wp2
  go_loop [10] (fun t => ∃ k : Nat, k ≤ s.size ∧ t = .int .i64 k ∧ s.data.toList.all (signB others.data.toList) = (s.data.toList.drop k).all (signB others.data.toList)) (fun t => s.size - (intOf t).toNat)
  case atStart => exact ⟨0, Nat.zero_le _, rfl, rfl⟩
  case round =>
    obtain ⟨k, hk, rfl, hall⟩ := hrel
    have HA := Lib.hid hall
    clear hall
    by_cases hlt : k < s.size
    · have hd := Lib.hid (drop_at s k hlt)
      have he := Lib.hid (extract_one s k hlt)
      cases h1 : letterB (s[k].toNat : Int)
      · cases h2 : digitB (s[k].toNat : Int)
        · cases h3 : decide (0 ≤ Lib.indexByte others.data.toList s[k])
          · have hf : Hid (signB others.data.toList s[k] = false) := by
              show signB _ _ = false
              unfold signB; rw [h1, h2, Lib.contains_iff_indexByte, h3]; rfl
            go_wp2_with (first | (go_at_call 40; refine (isLetter_any _ _).mono ?_; rintro e w' ⟨rfl, rfl⟩) | (go_at_call 71; refine (isDigit_any _ _).mono ?_; rintro e w' ⟨rfl, rfl⟩) | (go_at_call 72; rw [he.out]; refine (Tryz.strings_Contains_one _ _ _).mono ?_; rintro e w' ⟨rfl, rfl⟩))
            go_ret
            exact ⟨ret_bool' (by unfold allB; rw [HA.out, hd.out, List.all_cons, hf.out]; rfl), rfl⟩
          · have hf : Hid (signB others.data.toList s[k] = true) := by
              show signB _ _ = true
              unfold signB; rw [h1, h2, Lib.contains_iff_indexByte, h3]; rfl
            go_wp2_with (first | (go_at_call 40; refine (isLetter_any _ _).mono ?_; rintro e w' ⟨rfl, rfl⟩) | (go_at_call 71; refine (isDigit_any _ _).mono ?_; rintro e w' ⟨rfl, rfl⟩) | (go_at_call 72; rw [he.out]; refine (Tryz.strings_Contains_one _ _ _).mono ?_; rintro e w' ⟨rfl, rfl⟩))
            go_round
            case rel => exact ⟨k + 1, by omega, by go_num, by rw [HA.out, hd.out, List.all_cons, hf.out, Bool.true_and]⟩
            case measure => simp [intOf]; omega
        · have hf : Hid (signB others.data.toList s[k] = true) := by
            show signB _ _ = true
            unfold signB; rw [h1, h2]; rfl
          go_wp2_with (first | (go_at_call 40; refine (isLetter_any _ _).mono ?_; rintro e w' ⟨rfl, rfl⟩) | (go_at_call 71; refine (isDigit_any _ _).mono ?_; rintro e w' ⟨rfl, rfl⟩))
          go_round
          case rel => exact ⟨k + 1, by omega, by go_num, by rw [HA.out, hd.out, List.all_cons, hf.out, Bool.true_and]⟩
          case measure => simp [intOf]; omega
      · have hf : Hid (signB others.data.toList s[k] = true) := by
          show signB _ _ = true
          unfold signB; rw [h1]; rfl
        go_wp2_with (first | (go_at_call 40; refine (isLetter_any _ _).mono ?_; rintro e w' ⟨rfl, rfl⟩))
        go_round
        case rel => exact ⟨k + 1, by omega, by go_num, by rw [HA.out, hd.out, List.all_cons, hf.out, Bool.true_and]⟩
        case measure => simp [intOf]; omega
    · obtain rfl : k = s.size := by omega
      have hall : s.data.toList.all (signB others.data.toList) = true := by rw [HA.out, List.drop_of_length_le (by simp)]; rfl
      have HT := Lib.hid hall
      clear hall
      by_cases he : s.toList = []
      · have hE : Hid (s.data.toList = []) := by show _ = _; rw [← ByteArray.toList_eq, he]
        go_wp2
        go_ret
        exact ⟨ret_bool' (by unfold allB; rw [hE.out]; rfl), rfl⟩
      · have he2 : s.toList.isEmpty = false := by simpa using he
        have hE : Hid (s.data.toList.isEmpty = false) := by show _ = _; rw [← ByteArray.toList_eq, he2]
        by_cases hm : (s.size : Int) ≤ most
        · go_wp2
          go_ret
          exact ⟨ret_bool' (by unfold allB; rw [HT.out, hE.out, decide_eq_true hm]; simp [he2]), rfl⟩
        · go_wp2
          go_ret
          exact ⟨ret_bool' (by unfold allB; rw [HT.out, hE.out, decide_eq_false (by omega)]; simp [he2]), rfl⟩

def abbrB (s : ByteArray) : Bool := allB s 8 ⟨#[43, 45]⟩

theorem isAbbr_any (s : ByteArray) (w : World) (hs : s.size ≤ maxLen) :
    Calls Tryz.prog 57 #[.string s] w fun e w' => e = .returned (.bool (abbrB s)) ∧ w = w' := by
  go_enter Tryz.func57, Tryz.ntmps57
  go_wp2_with fail
  refine (all_any _ _ _ _ hs).mono ?_
  rintro e w' ⟨rfl, rfl⟩
  go_wp2
  go_ret
  exact ⟨rfl, rfl⟩

end Go.Proofs.YtacogloheiendaaGreatDoor
namespace Go.Proofs.YtacogloheiendaaGreatDoor
open Go.RowKit Go.Joins
set_option linter.unusedVariables false
set_option linter.unusedSimpArgs false

theorem rite_within (n a b : Int) (w : World) :
    Calls Tryz.prog 16 #[.int .i64 n, .int .i64 a, .int .i64 b] w fun e w' => e = .returned (.bool (withinB n a b)) ∧ w = w' := by
  by_cases h1 : a ≤ n <;> by_cases h2 : n ≤ b <;>
  · go_enter Tryz.func16, Tryz.ntmps16
    go_wp2
    go_ret
    exact ⟨ret_bool (by simp [withinB, h1, h2]), rfl⟩

abbrev signs12 : ByteArray := ⟨#[48, 49, 50, 51, 52, 53, 54, 55, 56, 57, 43, 45]⟩
def wordB (s : ByteArray) : Bool := decide ((3 : Int) ≤ s.size) && (abbrB s && !Lib.containsAny s.data.toList signs12.data.toList)

theorem abbr_ascii {s : ByteArray} (h : abbrB s = true) : (∀ (j : Nat) b, s.data.toList[j]? = some b → b.toNat < 128) ∧ s.size ≤ 8 := by
  unfold abbrB allB at h
  simp only [Bool.and_eq_true, List.all_eq_true, decide_eq_true_eq] at h
  refine ⟨fun j b hb => ?_, by omega⟩
  have := h.1.1 b (List.mem_of_getElem? hb)
  unfold signB letterB digitB at this
  simp only [Bool.or_eq_true, decide_eq_true_eq, List.contains_iff_mem, List.mem_cons, List.not_mem_nil, or_false] at this
  rcases this with (h | h) | h
  · omega
  · omega
  · rcases h with rfl | rfl <;> decide

theorem isWord_any (s : ByteArray) (w : World) (hs : s.size ≤ maxLen) :
    Calls Tryz.prog 37 #[.string s] w fun e w' => e = .returned (.bool (wordB s)) ∧ Below w.heap.size w w' := by
  by_cases h3 : (3 : Int) ≤ s.size
  · obtain ⟨A, eA⟩ : ∃ A, abbrB s = A := ⟨_, rfl⟩
    have HA := Lib.hid eA
    cases A with
    | false =>
      have HW : Hid (wordB s = false) := by show _ = _; unfold wordB; rw [eA]; simp
      clear eA
      go_enter Tryz.func37, Tryz.ntmps37
      go_wp2_with fail
      refine (isAbbr_any _ _ hs).mono ?_
      rintro e w' ⟨rfl, rfl⟩
      rw [HA.out]
      go_wp2
      go_ret
      exact ⟨ret_bool' HW.out.symm, Below.refl _ _⟩
    | true =>
      have HW : Hid (wordB s = !Lib.containsAny s.data.toList signs12.data.toList) := by show _ = _; unfold wordB; rw [eA, decide_eq_true h3]; simp
      have HC := Lib.hid (fun W => Tryz.strings_ContainsAny_laid s signs12 W (by have := (abbr_ascii eA).2; omega) (by decide) (abbr_ascii eA).1 (by
        intro j b hb
        have := List.mem_of_getElem? hb
        simp only [signs12, List.mem_cons, List.not_mem_nil, or_false] at this
        rcases this with rfl | rfl | rfl | rfl | rfl | rfl | rfl | rfl | rfl | rfl | rfl | rfl <;> decide))
      obtain ⟨C, eC⟩ : ∃ C, Lib.containsAny s.data.toList signs12.data.toList = C := ⟨_, rfl⟩
      rw [eC] at HW HC
      clear eA eC
      go_enter Tryz.func37, Tryz.ntmps37
      go_wp2_with fail
      refine (isAbbr_any _ _ hs).mono ?_
      rintro e w' ⟨rfl, rfl⟩
      rw [HA.out]
      go_wp2_with fail
      refine (HC.out _).mono ?_
      rintro e w' ⟨rfl, hb⟩
      go_wp2
      go_ret
      exact ⟨ret_bool' HW.out.symm, hb⟩
  · have HW : Hid (wordB s = false) := by show _ = _; unfold wordB; rw [decide_eq_false h3]; simp
    go_enter Tryz.func37, Tryz.ntmps37
    go_wp2
    go_ret
    exact ⟨ret_bool' HW.out.symm, Below.refl _ _⟩

abbrev rtV (r : Rt) : Value := .agg #[.int .i64 r.m, .int .i64 r.w, .int .i64 r.d, .int .i64 r.t]
abbrev pxCells (p : Px) : Array Value := #[.string p.name, .int .i64 p.off, .string p.also, .int .i64 p.aoff, .int .i64 p.s.m, .int .i64 p.s.w, .int .i64 p.s.d, .int .i64 p.s.t, .int .i64 p.e.m, .int .i64 p.e.w, .int .i64 p.e.d, .int .i64 p.e.t]
abbrev pxV (p : Px) : Value := .agg (pxCells p)

def rtC (r : Rt) : Int := if okRt r = true then 0 else 1
theorem checkRite_any (r : Rt) (w : World) :
    Calls Tryz.prog 38 #[rtV r] w fun e w' => e = .returned (.int .i64 (rtC r)) ∧ Below w.heap.size w w' := by
  obtain ⟨m, k, d, t⟩ := r
  obtain ⟨b1, e1⟩ : ∃ b, withinB m 1 12 = b := ⟨_, rfl⟩
  obtain ⟨b2, e2⟩ : ∃ b, withinB k 1 5 = b := ⟨_, rfl⟩
  obtain ⟨b3, e3⟩ : ∃ b, withinB d 0 6 = b := ⟨_, rfl⟩
  obtain ⟨b4, e4⟩ : ∃ b, withinB t 0 86400 = b := ⟨_, rfl⟩
  have HO : Hid (okRt ⟨m, k, d, t⟩ = (b1 && (b2 && (b3 && b4)))) := by
    show _ = _
    rw [← e1, ← e2, ← e3, ← e4, Bool.eq_iff_iff]
    simp only [okRt, withinB, Bool.and_eq_true, decide_eq_true_eq]
    omega
  have H1 := Lib.hid e1
  have H2 := Lib.hid e2
  have H3 := Lib.hid e3
  have H4 := Lib.hid e4
  clear e1 e2 e3 e4
  cases b1 <;> cases b2 <;> cases b3 <;> cases b4 <;>
  · go_enter Tryz.func38, Tryz.ntmps38
    iterate 4 (try (go_wp2_with fail; refine (rite_within _ _ _ _).mono ?_; (first | rw [H1.out] | rw [H2.out] | rw [H3.out] | rw [H4.out]); rintro e w' ⟨rfl, rfl⟩))
    go_wp2
    go_ret
    exact ⟨ret_int' (by unfold rtC; rw [HO.out]; rfl), (Below.refl _ _).alloc (Nat.le_refl _) _⟩

theorem dayOf_last (r : Rt) (w : World) (h : r.w = 5) :
    Calls Tryz.prog 17 #[rtV r] w fun e w' => e = .returned (dayV 2 r.d 0) ∧ Below w.heap.size w w' := by
  obtain ⟨m, k, d, t⟩ := r
  obtain rfl : k = 5 := h
  go_enter Tryz.func17, Tryz.ntmps17
  go_wp2
  refine bodyPost_ret (v := dayV 2 d 0) (by simp [results, Tryz.results17, go_sem]) rfl ⟨rfl, ?_⟩
  repeat (first | (with_reducible exact Below.refl _ _) | (with_reducible refine Below.drew ?_) | (with_reducible refine Below.alloc ?_ (by go_size) _) | (with_reducible refine Below.setCell ?_ (by go_size) _))

theorem dayOf_from (r : Rt) (w : World) (h : r.w ≠ 5) (h1 : 1 ≤ r.w) (h2 : r.w ≤ 5) :
    Calls Tryz.prog 17 #[rtV r] w fun e w' => e = .returned (dayV 3 r.d (7 * r.w - 6)) ∧ Below w.heap.size w w' := by
  obtain ⟨m, k, d, t⟩ := r
  simp only at h h1 h2
  have hk : (k == 5) = false := by simpa using h
  clear h
  go_enter Tryz.func17, Tryz.ntmps17
  go_wp2
  refine bodyPost_ret (v := dayV 3 d (7 * k - 6)) (by simp [results, Tryz.results17, go_sem]) rfl ⟨rfl, ?_⟩
  repeat (first | (with_reducible exact Below.refl _ _) | (with_reducible refine Below.drew ?_) | (with_reducible refine Below.alloc ?_ (by go_size) _) | (with_reducible refine Below.setCell ?_ (by go_size) _))
end Go.Proofs.YtacogloheiendaaGreatDoor
namespace Go.Proofs.YtacogloheiendaaGreatDoor
open Go.RowKit Go.Joins
set_option linter.unusedVariables false
set_option linter.unusedSimpArgs false

def rtZ (r : Rt) : Bool := decide (r.m = 0 ∧ r.w = 0 ∧ r.d = 0 ∧ r.t = 0)
def pxChk (p : Px) : Int :=
  if wordB p.name = false then 3 else
  if p.also.toList ≠ [] ∧ wordB p.also = false then 3 else
  if withinB p.off (-64800) 64800 = false then 1 else
  if p.also.toList = [] then (if p.aoff = 0 ∧ rtZ p.s = true ∧ rtZ p.e = true then 0 else 5) else
  if withinB p.aoff (p.off + 1) (p.off + 10800) = false then 1 else
  if okRt p.s = false then 1 else if okRt p.e = false then 1 else if p.s.m = p.e.m then 5 else 0

def PxBx (W : World) (B : Nat) (p : Px) : Prop := W.heap[B]? = some (.cells (pxCells p) 25 (0, 0))
theorem PxBx.lt {W : World} {B : Nat} {p : Px} (h : PxBx W B p) : B < W.heap.size := (Array.getElem?_eq_some_iff.mp h).1
theorem PxBx.below {w w' : World} {B : Nat} {p : Px} (h : PxBx w B p) (hb : Below w.heap.size w w') : PxBx w' B p := (hb.block B h.lt).trans h
theorem PxBx.box (w : World) (p : Px) : PxBx (w.alloc (.cells (pxCells p) 25)) w.heap.size p := heap_alloc_new w _
theorem PxBx.cells {W : World} {B : Nat} {p : Px} (h : PxBx W B p) :
    W.cell? ⟨B, 0, none⟩ = some (.string p.name) ∧ W.cell? ⟨B, 1, none⟩ = some (.int .i64 p.off) ∧ W.cell? ⟨B, 2, none⟩ = some (.string p.also) ∧ W.cell? ⟨B, 3, none⟩ = some (.int .i64 p.aoff) ∧
    W.cell? ⟨B, 4, none⟩ = some (.int .i64 p.s.m) ∧ W.cell? ⟨B, 5, none⟩ = some (.int .i64 p.s.w) ∧ W.cell? ⟨B, 6, none⟩ = some (.int .i64 p.s.d) ∧ W.cell? ⟨B, 7, none⟩ = some (.int .i64 p.s.t) ∧
    W.cell? ⟨B, 8, none⟩ = some (.int .i64 p.e.m) ∧ W.cell? ⟨B, 9, none⟩ = some (.int .i64 p.e.w) ∧ W.cell? ⟨B, 10, none⟩ = some (.int .i64 p.e.d) ∧ W.cell? ⟨B, 11, none⟩ = some (.int .i64 p.e.t) :=
  ⟨(cell_of_row W _ 0 _ _ _ h).trans rfl, (cell_of_row W _ 1 _ _ _ h).trans rfl, (cell_of_row W _ 2 _ _ _ h).trans rfl, (cell_of_row W _ 3 _ _ _ h).trans rfl,
   (cell_of_row W _ 4 _ _ _ h).trans rfl, (cell_of_row W _ 5 _ _ _ h).trans rfl, (cell_of_row W _ 6 _ _ _ h).trans rfl, (cell_of_row W _ 7 _ _ _ h).trans rfl,
   (cell_of_row W _ 8 _ _ _ h).trans rfl, (cell_of_row W _ 9 _ _ _ h).trans rfl, (cell_of_row W _ 10 _ _ _ h).trans rfl, (cell_of_row W _ 11 _ _ _ h).trans rfl⟩

set_option maxRecDepth 100000 in
set_option maxHeartbeats 4000000 in
theorem rCheck_any (p : Px) (w : World) (h1 : p.name.size ≤ maxLen) (h2 : p.also.size ≤ maxLen) :
    Calls Tryz.prog 14 #[pxV p] w fun e w' => e = .returned (.int .i64 (pxChk p)) ∧ Below w.heap.size w w' := by
  obtain ⟨W0, eW⟩ : ∃ W0, w.alloc (.cells (pxCells p) 25) = W0 := ⟨_, rfl⟩
  have HX : Hid (PxBx W0 w.heap.size p) := by show PxBx _ _ _; rw [← eW]; exact PxBx.box w p
  have HB : Hid (Below w.heap.size w W0) := by show Below _ _ _; rw [← eW]; exact (Below.refl _ _).alloc (Nat.le_refl _) _
  have HEW := Lib.hid eW
  obtain ⟨nm, off, al, ao, ⟨sm, sw, sd, st⟩, ⟨em, ew, ed, et⟩⟩ := p
  obtain ⟨x0, x1, x2, x3, x4, x5, x6, x7, x8, x9, x10, x11⟩ := HX.out.cells
  have hl0 := HX.out.lt
  simp only at h1 h2 x0 x1 x2 x3 x4 x5 x6 x7 x8 x9 x10 x11
  clear eW
  go_enter Tryz.func14, Tryz.ntmps14
  go_wp2_with fail
  rw [HEW.out]
  refine (isWord_any nm _ h1).mono ?_
  obtain ⟨A, eA⟩ : ∃ A, wordB nm = A := ⟨_, rfl⟩
  rw [eA]
  have HA := Lib.hid eA
  rintro e w1 ⟨rfl, hb1⟩
  have HX1 := Lib.hid (HX.out.below hb1)
  have HB1 := Lib.hid (HB.out.trans (hb1.mono HB.out.size))
  clear hb1 HX HB eA x0 x1 x2 x3 x4 x5 x6 x7 x8 x9 x10 x11 hl0 h1
  obtain ⟨x0, x1, x2, x3, x4, x5, x6, x7, x8, x9, x10, x11⟩ := HX1.out.cells
  have hl1 := HX1.out.lt
  simp only at x0 x1 x2 x3 x4 x5 x6 x7 x8 x9 x10 x11
  cases A with
  | false =>
    go_wp2
    go_ret
    exact ⟨ret_int' (by unfold pxChk; rw [if_pos HA.out]), HB1.out⟩
  | true =>
    by_cases he : al.toList = []
    · have he2 : al.toList.isEmpty = true := by simpa using he
      have HE := Lib.hid he
      go_wp2_with fail
      refine (rite_within _ _ _ _).mono ?_
      obtain ⟨O, eO⟩ : ∃ O, withinB off (-64800) 64800 = O := ⟨_, rfl⟩
      rw [eO]
      have HO := Lib.hid eO
      clear eO
      rintro e w' ⟨rfl, rfl⟩
      cases O with
      | false =>
        go_wp2
        go_ret
        exact ⟨ret_int' (by unfold pxChk; rw [if_neg (by rw [HA.out]; simp), if_neg (by simp [HE.out]), if_pos HO.out]), HB1.out⟩
      | true =>
        have hP : ∀ r : Int, (if ao = 0 ∧ rtZ ⟨sm, sw, sd, st⟩ = true ∧ rtZ ⟨em, ew, ed, et⟩ = true then 0 else 5) = r → pxChk ⟨nm, off, al, ao, ⟨sm, sw, sd, st⟩, ⟨em, ew, ed, et⟩⟩ = r := by
          intro r h
          unfold pxChk
          rw [if_neg (by rw [HA.out]; simp), if_neg (by simp [HE.out]), if_neg (by rw [HO.out]; simp), if_pos HE.out]
          exact h
        have HP := Lib.hid hP
        clear hP
        by_cases h0 : ao = 0
        · have h0' : (ao == 0) = true := by simpa using h0
          have h0n : (ao != 0) = false := by simpa using h0
          have H0 := Lib.hid h0
          clear h0
          go_upto_region 6 with fail
          go_wp2
          all_goals go_ret
          all_goals (first
            | exact ⟨ret_int' (HP.out 0 (if_pos ⟨H0.out, by simp [rtZ, *], by simp [rtZ, *]⟩)).symm, HB1.out⟩
            | exact ⟨ret_int' (HP.out 5 (if_neg fun h => by (have h1 := h.2.1; have h2 := h.2.2; simp [rtZ, *] at h1 h2))).symm, HB1.out⟩)
        · have h0' : (ao == 0) = false := by simpa using h0
          have h0n : (ao != 0) = true := by simpa using h0
          have H0 := Lib.hid h0
          clear h0
          go_wp2
          go_ret
          exact ⟨ret_int' (HP.out 5 (if_neg fun h => H0.out h.1)).symm, HB1.out⟩
    · have he2 : al.toList.isEmpty = false := by simpa using he
      have HE := Lib.hid he
      go_wp2_with fail
      refine (isWord_any al _ h2).mono ?_
      obtain ⟨D, eD⟩ : ∃ D, wordB al = D := ⟨_, rfl⟩
      rw [eD]
      have HD := Lib.hid eD
      rintro e w2 ⟨rfl, hb2⟩
      have HX2 := Lib.hid (HX1.out.below hb2)
      have HB2 := Lib.hid (HB1.out.trans (hb2.mono HB1.out.size))
      clear hb2 HX1 HB1 eD x0 x1 x2 x3 x4 x5 x6 x7 x8 x9 x10 x11 hl1 h2
      obtain ⟨x0, x1, x2, x3, x4, x5, x6, x7, x8, x9, x10, x11⟩ := HX2.out.cells
      have hl2 := HX2.out.lt
      simp only at x0 x1 x2 x3 x4 x5 x6 x7 x8 x9 x10 x11
      cases D with
      | false =>
        go_wp2
        go_ret
        exact ⟨ret_int' (by unfold pxChk; rw [if_neg (by rw [HA.out]; simp), if_pos ⟨HE.out, HD.out⟩]), HB2.out⟩
      | true =>
      go_wp2_with fail
      refine (rite_within _ _ _ _).mono ?_
      obtain ⟨O, eO⟩ : ∃ O, withinB off (-64800) 64800 = O := ⟨_, rfl⟩
      rw [eO]
      have HO := Lib.hid eO
      rintro e w' ⟨rfl, rfl⟩
      cases O with
      | false =>
        clear eO
        go_wp2
        go_ret
        exact ⟨ret_int' (by unfold pxChk; rw [if_neg (by rw [HA.out]; simp), if_neg (by simp [HD.out]), if_pos HO.out]), HB2.out⟩
      | true =>
        obtain ⟨ho1, ho2⟩ := withinB_iff.1 eO
        clear eO
        have hP : ∀ r : Int, (if withinB ao (off + 1) (off + 10800) = false then 1 else
  if okRt ⟨sm, sw, sd, st⟩ = false then 1 else if okRt ⟨em, ew, ed, et⟩ = false then 1 else if sm = em then 5 else 0) = r → pxChk ⟨nm, off, al, ao, ⟨sm, sw, sd, st⟩, ⟨em, ew, ed, et⟩⟩ = r := by
          intro r h
          unfold pxChk
          rw [if_neg (by rw [HA.out]; simp), if_neg (by simp [HD.out]), if_neg (by rw [HO.out]; simp), if_neg HE.out]
          exact h
        have HP := Lib.hid hP
        clear hP
        go_wp2_with fail
        refine (rite_within _ _ _ _).mono ?_
        obtain ⟨V, eV⟩ : ∃ V, withinB ao (off + 1) (off + 10800) = V := ⟨_, rfl⟩
        rw [eV]
        have HV := Lib.hid eV
        clear eV
        rintro e w' ⟨rfl, rfl⟩
        cases V with
        | false =>
          go_wp2
          go_ret
          exact ⟨ret_int' (HP.out 1 (if_pos HV.out)).symm, HB2.out⟩
        | true =>
          go_wp2_with fail
          obtain ⟨W3, e3⟩ : ∃ W3, w2.alloc (.cells #[.int .i64 sm, .int .i64 sw, .int .i64 sd, .int .i64 st, .int .i64 em, .int .i64 ew, .int .i64 ed, .int .i64 et] 23) = W3 := ⟨_, rfl⟩
          rw [e3]
          have hz3 : w2.heap.size < W3.heap.size := by rw [← e3]; simp
          have h3 : W3.heap[w2.heap.size]? = some (.cells #[.int .i64 sm, .int .i64 sw, .int .i64 sd, .int .i64 st, .int .i64 em, .int .i64 ew, .int .i64 ed, .int .i64 et] 23 (0, 0)) := by rw [← e3]; exact heap_alloc_new w2 _
          have hb3 : Below w2.heap.size w2 W3 := by rw [← e3]; exact (Below.refl _ _).alloc (Nat.le_refl _) _
          have HX3 := Lib.hid (HX2.out.below hb3)
          have HB3 := Lib.hid (HB2.out.trans (hb3.mono HB2.out.size))
          have H3 := Lib.hid h3
          have hl3 := HX3.out.lt
          clear e3 h3 hb3 HX2 HB2 x0 x1 x2 x3 x4 x5 x6 x7 x8 x9 x10 x11
          go_loopw [63] (fun i wr => ∃ k : Nat, k ≤ 2 ∧ i = .int .i64 k ∧ (1 ≤ k → okRt ⟨sm, sw, sd, st⟩ = true) ∧ (2 ≤ k → okRt ⟨em, ew, ed, et⟩ = true) ∧ Below W3.heap.size W3 wr) (fun i _ => 2 - (intOf i).toNat)
          case atStart => exact ⟨0, by omega, rfl, fun h => absurd h (by omega), fun h => absurd h (by omega), Below.refl _ _⟩
          case round =>
            obtain ⟨k, hk, rfl, hs, he', hbr⟩ := hrel
            have HBR := Lib.hid hbr
            have hzr := hbr.size
            have H4 := Lib.hid ((hbr.block _ hz3).trans H3.out)
            clear hbr
            have hk3 : k = 0 ∨ k = 1 ∨ k = 2 := by omega
            clear hk
            rcases hk3 with rfl | rfl | rfl
            have d0 : wr.cell? ⟨w2.heap.size, 0, none⟩ = some (.int .i64 sm) := (cell_of_row wr _ 0 _ _ _ H4.out).trans rfl
            have d1 : wr.cell? ⟨w2.heap.size, 1, none⟩ = some (.int .i64 sw) := (cell_of_row wr _ 1 _ _ _ H4.out).trans rfl
            have d2 : wr.cell? ⟨w2.heap.size, 2, none⟩ = some (.int .i64 sd) := (cell_of_row wr _ 2 _ _ _ H4.out).trans rfl
            have d3 : wr.cell? ⟨w2.heap.size, 3, none⟩ = some (.int .i64 st) := (cell_of_row wr _ 3 _ _ _ H4.out).trans rfl
            clear hs he'
            by_cases hk0 : okRt ⟨sm, sw, sd, st⟩ = true
            · have HK := Lib.hid hk0
              have hC : Hid (rtC ⟨sm, sw, sd, st⟩ = 0) := by show _ = _; unfold rtC; rw [if_pos hk0]
              clear hk0
              go_wp2_with fail
              refine (checkRite_any ⟨sm, sw, sd, st⟩ _).mono ?_
              rw [hC.out]
              rintro e w4 ⟨rfl, hb4⟩
              have HZ := Lib.hid (HBR.out.trans ((((Below.refl _ _).alloc (Nat.le_refl _) _).trans (hb4.mono (by simp))).mono HBR.out.size))
              clear hb4 d0 d1 d2 d3
              go_wp2
              go_roundw
              case rel => exact ⟨1, by omega, rfl, fun _ => HK.out, fun h => absurd h (by omega), HZ.out⟩
              case measure => simp [intOf]
            · have HK := Lib.hid (eq_false_of_ne_true hk0)
              have hC : Hid (rtC ⟨sm, sw, sd, st⟩ = 1) := by show _ = _; unfold rtC; rw [if_neg hk0]
              clear hk0
              go_wp2_with fail
              refine (checkRite_any ⟨sm, sw, sd, st⟩ _).mono ?_
              rw [hC.out]
              rintro e w4 ⟨rfl, hb4⟩
              have HZ := Lib.hid (HBR.out.trans ((((Below.refl _ _).alloc (Nat.le_refl _) _).trans (hb4.mono (by simp))).mono HBR.out.size))
              clear hb4 d0 d1 d2 d3
              go_wp2
              go_ret
              exact ⟨ret_int' (HP.out 1 (by rw [if_neg (by rw [HV.out]; simp), if_pos HK.out])).symm, HB3.out.trans (HZ.out.mono HB3.out.size)⟩
            have d0 : wr.cell? ⟨w2.heap.size, 4, none⟩ = some (.int .i64 em) := (cell_of_row wr _ 4 _ _ _ H4.out).trans rfl
            have d1 : wr.cell? ⟨w2.heap.size, 5, none⟩ = some (.int .i64 ew) := (cell_of_row wr _ 5 _ _ _ H4.out).trans rfl
            have d2 : wr.cell? ⟨w2.heap.size, 6, none⟩ = some (.int .i64 ed) := (cell_of_row wr _ 6 _ _ _ H4.out).trans rfl
            have d3 : wr.cell? ⟨w2.heap.size, 7, none⟩ = some (.int .i64 et) := (cell_of_row wr _ 7 _ _ _ H4.out).trans rfl
            have HS := Lib.hid (hs (by omega))
            clear hs he'
            by_cases hk1 : okRt ⟨em, ew, ed, et⟩ = true
            · have HK := Lib.hid hk1
              have hC : Hid (rtC ⟨em, ew, ed, et⟩ = 0) := by show _ = _; unfold rtC; rw [if_pos hk1]
              clear hk1
              go_wp2_with fail
              refine (checkRite_any ⟨em, ew, ed, et⟩ _).mono ?_
              rw [hC.out]
              rintro e w4 ⟨rfl, hb4⟩
              have HZ := Lib.hid (HBR.out.trans ((((Below.refl _ _).alloc (Nat.le_refl _) _).trans (hb4.mono (by simp))).mono HBR.out.size))
              clear hb4 d0 d1 d2 d3
              go_wp2
              go_roundw
              case rel => exact ⟨2, by omega, rfl, fun _ => HS.out, fun _ => HK.out, HZ.out⟩
              case measure => simp [intOf]
            · have HK := Lib.hid (eq_false_of_ne_true hk1)
              have hC : Hid (rtC ⟨em, ew, ed, et⟩ = 1) := by show _ = _; unfold rtC; rw [if_neg hk1]
              clear hk1
              go_wp2_with fail
              refine (checkRite_any ⟨em, ew, ed, et⟩ _).mono ?_
              rw [hC.out]
              rintro e w4 ⟨rfl, hb4⟩
              have HZ := Lib.hid (HBR.out.trans ((((Below.refl _ _).alloc (Nat.le_refl _) _).trans (hb4.mono (by simp))).mono HBR.out.size))
              clear hb4 d0 d1 d2 d3
              go_wp2
              go_ret
              exact ⟨ret_int' (HP.out 1 (by rw [if_neg (by rw [HV.out]; simp), if_neg (by rw [HS.out]; simp), if_pos HK.out])).symm, HB3.out.trans (HZ.out.mono HB3.out.size)⟩
            have HS := Lib.hid (hs (by omega))
            have HE' := Lib.hid (he' (by omega))
            have HXR := Lib.hid (HX3.out.below HBR.out)
            obtain ⟨x0, x1, x2, x3, x4, x5, x6, x7, x8, x9, x10, x11⟩ := HXR.out.cells
            have hlr := HXR.out.lt
            simp only at x0 x1 x2 x3 x4 x5 x6 x7 x8 x9 x10 x11
            clear hs he'
            have HPP : Hid (∀ r : Int, (if sm = em then 5 else 0) = r → pxChk ⟨nm, off, al, ao, ⟨sm, sw, sd, st⟩, ⟨em, ew, ed, et⟩⟩ = r) := by
              show ∀ r : Int, (if sm = em then 5 else 0) = r → pxChk ⟨nm, off, al, ao, ⟨sm, sw, sd, st⟩, ⟨em, ew, ed, et⟩⟩ = r
              intro r h
              refine HP.out r ?_
              rw [if_neg (by rw [HV.out]; simp), if_neg (by rw [HS.out]; simp), if_neg (by rw [HE'.out]; simp)]
              exact h
            by_cases hm : sm = em
            · subst hm
              go_wp2
              go_ret
              exact ⟨ret_int' (HPP.out 5 (by simp)).symm, HB3.out.trans (HBR.out.mono HB3.out.size)⟩
            · have hm' : (sm == em) = false := by simpa using hm
              have HM := Lib.hid hm
              clear hm
              go_wp2
              go_ret
              exact ⟨ret_int' (HPP.out 0 (if_neg HM.out)).symm, HB3.out.trans (HBR.out.mono HB3.out.size)⟩
end Go.Proofs.YtacogloheiendaaGreatDoor
namespace Go.Proofs.YtacogloheiendaaGreatDoor
open Go.RowKit Go.Joins
set_option linter.unusedVariables false
set_option linter.unusedSimpArgs false

def dK (r : Rt) : Int := if r.w = 5 then 2 else 3
def dN (r : Rt) : Int := if r.w = 5 then 0 else 7 * r.w - 6
theorem dayOf_any (r : Rt) (w : World) (h : okRt r = true) :
    Calls Tryz.prog 17 #[rtV r] w fun e w' => e = .returned (dayV (dK r) r.d (dN r)) ∧ Below w.heap.size w w' := by
  obtain ⟨a1, a2, a3, a4, a5, a6, a7, a8⟩ := okRt_iff.1 h
  by_cases h5 : r.w = 5
  · unfold dK dN
    rw [if_pos h5, if_pos h5]
    exact dayOf_last r w h5
  · unfold dK dN
    rw [if_neg h5, if_neg h5]
    exact dayOf_from r w h5 a3 a4
theorem Of_rite (y : Int) (r : Rt) (w : World) (h1 : 1600 ≤ y) (h2 : y ≤ 2399) (h : okRt r = true) :
    Calls Tryz.prog 46 #[.int .i64 y, .int .i64 r.m, dayV (dK r) r.d (dN r)] w fun e w' => e = .returned (.tuple #[.int .i64 (rDay y r), .int .i64 0]) ∧ Below w.heap.size w w' := by
  obtain ⟨a1, a2, a3, a4, a5, a6, a7, a8⟩ := okRt_iff.1 h
  have hml := Civ.mlen_bd y r.m a1 a2
  unfold dK dN rDay
  by_cases h5 : r.w = 5
  · rw [if_pos h5, if_pos h5, if_pos h5]
    exact Of_last y r.m r.d 0 w (by unfold dayB; exact decide_eq_true (by omega)) h1 h2 a1 a2
  · rw [if_neg h5, if_neg h5, if_neg h5]
    refine Of_up y r.m r.d (7 * r.w - 6) w (by unfold dayB; exact decide_eq_true (by omega)) h1 h2 a1 a2 (by omega) ?_
    have hu := upTo_bd (Civ.days y r.m (7 * r.w - 6)) r.d a5 a6
    have v := Civ.days_bd (show Civ.valid y r.m (7 * r.w - 6 + 6) from ⟨h1, h2, a1, a2, by omega, by omega⟩)
    have e1 := days_lin y r.m (7 * r.w - 6 + 6)
    have e2 := days_lin y r.m (7 * r.w - 6)
    omega

theorem ret_3 {a b c a' b' c' : Int} (h : a = a') (h2 : b = b') (h3 : c = c') : Ending.returned (.tuple #[.int .i64 a, .int .i64 b, .int .i64 c]) = .returned (.tuple #[.int .i64 a', .int .i64 b', .int .i64 c']) := by rw [h, h2, h3]

set_option maxRecDepth 100000 in
set_option maxHeartbeats 4000000 in
theorem turns_ok (p : Px) (y : Int) (w : World) (ok : OkPx p) (h1 : 1600 ≤ y) (h2 : y ≤ 2399) :
    Calls Tryz.prog 27 #[pxV p, .int .i64 y] w fun e w' => e = .returned (.tuple #[.int .i64 (tS p y), .int .i64 (tE p y), .int .i64 0]) ∧ Below w.heap.size w w' := by
  obtain ⟨W0, eW⟩ : ∃ W0, w.alloc (.cells (pxCells p) 25) = W0 := ⟨_, rfl⟩
  have HX : Hid (PxBx W0 w.heap.size p) := by show PxBx _ _ _; rw [← eW]; exact PxBx.box w p
  have HB : Hid (Below w.heap.size w W0) := by show Below _ _ _; rw [← eW]; exact (Below.refl _ _).alloc (Nat.le_refl _) _
  have HEW := Lib.hid eW
  have hb1 := rDay_bd y p.s h1 h2 ok.s
  have hb2 := rDay_bd y p.e h1 h2 ok.e
  have q1 := okRt_iff.1 ok.s
  have q2 := okRt_iff.1 ok.e
  have o1 := ok.o1; have o2 := ok.o2; have o3 := ok.a1; have o4 := ok.a2
  have HS : Hid (tS p y = 86400 * rDay y p.s + p.s.t - p.off) := by show _ = _; rfl
  have HE : Hid (tE p y = 86400 * rDay y p.e + p.e.t - p.aoff) := by show _ = _; rfl
  have HD1 := Lib.hid (fun W => dayOf_any p.s W ok.s)
  have HD2 := Lib.hid (fun W => dayOf_any p.e W ok.e)
  have HO1 := Lib.hid (fun W => Of_rite y p.s W h1 h2 ok.s)
  have HO2 := Lib.hid (fun W => Of_rite y p.e W h1 h2 ok.e)
  obtain ⟨nm, off, al, ao, ⟨sm, sw, sd, st⟩, ⟨em, ew, ed, et⟩⟩ := p
  obtain ⟨x0, x1, x2, x3, x4, x5, x6, x7, x8, x9, x10, x11⟩ := HX.out.cells
  have hl0 := HX.out.lt
  simp only at x0 x1 x2 x3 x4 x5 x6 x7 x8 x9 x10 x11 hb1 hb2 q1 q2 o1 o2 o3 o4 HS HE HD1 HD2 HO1 HO2
  obtain ⟨A, eA⟩ : ∃ A, rDay y ⟨sm, sw, sd, st⟩ = A := ⟨_, rfl⟩
  obtain ⟨B, eB⟩ : ∃ B, rDay y ⟨em, ew, ed, et⟩ = B := ⟨_, rfl⟩
  obtain ⟨K1, eK1⟩ : ∃ K, dK ⟨sm, sw, sd, st⟩ = K := ⟨_, rfl⟩
  obtain ⟨K2, eK2⟩ : ∃ K, dK ⟨em, ew, ed, et⟩ = K := ⟨_, rfl⟩
  obtain ⟨N1, eN1⟩ : ∃ K, dN ⟨sm, sw, sd, st⟩ = K := ⟨_, rfl⟩
  obtain ⟨N2, eN2⟩ : ∃ K, dN ⟨em, ew, ed, et⟩ = K := ⟨_, rfl⟩
  rw [eA] at HO1 HS hb1
  rw [eB] at HO2 HE hb2
  rw [eK1, eN1] at HD1 HO1
  rw [eK2, eN2] at HD2 HO2
  obtain ⟨-, -, -, -, -, -, q17, q18⟩ := q1
  obtain ⟨-, -, -, -, -, -, q27, q28⟩ := q2
  have KB : Hid (∀ wx, Below W0.heap.size W0 wx → (Below W0.heap.size W0 wx ∧ wx.cell? ⟨w.heap.size, 4, none⟩ = some (.int .i64 sm) ∧ wx.cell? ⟨w.heap.size, 5, none⟩ = some (.int .i64 sw) ∧ wx.cell? ⟨w.heap.size, 6, none⟩ = some (.int .i64 sd) ∧ wx.cell? ⟨w.heap.size, 7, none⟩ = some (.int .i64 st))) := by
    show ∀ wx, Below W0.heap.size W0 wx → _
    intro wx hb
    exact ⟨hb, (hb.cell (p := ⟨w.heap.size, 4, none⟩) hl0).trans x4, (hb.cell (p := ⟨w.heap.size, 5, none⟩) hl0).trans x5, (hb.cell (p := ⟨w.heap.size, 6, none⟩) hl0).trans x6, (hb.cell (p := ⟨w.heap.size, 7, none⟩) hl0).trans x7⟩
  have KR : Hid (∀ wx, (Below W0.heap.size W0 wx ∧ wx.cell? ⟨w.heap.size, 4, none⟩ = some (.int .i64 sm) ∧ wx.cell? ⟨w.heap.size, 5, none⟩ = some (.int .i64 sw) ∧ wx.cell? ⟨w.heap.size, 6, none⟩ = some (.int .i64 sd) ∧ wx.cell? ⟨w.heap.size, 7, none⟩ = some (.int .i64 st)) → Below W0.heap.size W0 wx) := by
    show ∀ wx, _ → Below W0.heap.size W0 wx
    exact fun wx h => h.1
  clear eW eA eB eK1 eK2 eN1 eN2 ok h1 h2 x0 x1 x2 x3 x8 x9 x10 x11
  go_enter Tryz.func27, Tryz.ntmps27
  go_upto_region 1 with fail
  rw [HEW.out]
  go_cut [7, 8] (fun s7 s8 wx => s7 = .int .i64 A ∧ s8 = .int .i64 0 ∧ Below W0.heap.size W0 wx)
  case first =>
    go_region_held3 (fun wx => Below W0.heap.size W0 wx ∧ wx.cell? ⟨w.heap.size, 4, none⟩ = some (.int .i64 sm) ∧ wx.cell? ⟨w.heap.size, 5, none⟩ = some (.int .i64 sw) ∧ wx.cell? ⟨w.heap.size, 6, none⟩ = some (.int .i64 sd) ∧ wx.cell? ⟨w.heap.size, 7, none⟩ = some (.int .i64 st)) ((refine KB.out _ ?_; repeat (first | (with_reducible exact HB3.out) | (with_reducible exact HB2.out) | (with_reducible exact Below.refl _ _) | (with_reducible refine Below.drew ?_))))
      (first
        | (go_at_call 17; refine (HD1.out _).mono ?_; rintro e w2 ⟨rfl, hb2⟩; have HB2 := Lib.hid ((KR.out _ (by assumption)).trans (hb2.mono (KR.out _ (by assumption)).size)); clear hb2)
        | (go_at_call 46; refine (HO1.out _).mono ?_; rintro e w3 ⟨rfl, hb3⟩; have HB3 := Lib.hid ((KR.out _ (by assumption)).trans (hb3.mono (KR.out _ (by assumption)).size)); clear hb3))
    all_goals go_wp2_with fail
    all_goals go_meet
    all_goals exact ⟨rfl, rfl, KR.out _ (by assumption)⟩
  case rest =>
    obtain ⟨rfl, rfl, hbc⟩ := hcut
    have HXC := Lib.hid (HX.out.below hbc)
    have HBC := Lib.hid (HB.out.trans (hbc.mono HB.out.size))
    obtain ⟨x0, x1, x2, x3, x4, x5, x6, x7, x8, x9, x10, x11⟩ := HXC.out.cells
    have hlc := HXC.out.lt
    simp only at x0 x1 x2 x3 x4 x5 x6 x7 x8 x9 x10 x11
    clear KB KR hbc HX HB HEW hl0
    have KB : Hid (∀ wx, Below wc.heap.size wc wx → (Below wc.heap.size wc wx ∧ wx.cell? ⟨w.heap.size, 8, none⟩ = some (.int .i64 em) ∧ wx.cell? ⟨w.heap.size, 9, none⟩ = some (.int .i64 ew) ∧ wx.cell? ⟨w.heap.size, 10, none⟩ = some (.int .i64 ed) ∧ wx.cell? ⟨w.heap.size, 11, none⟩ = some (.int .i64 et))) := by
      show ∀ wx, Below wc.heap.size wc wx → _
      intro wx hb
      exact ⟨hb, (hb.cell (p := ⟨w.heap.size, 8, none⟩) hlc).trans x8, (hb.cell (p := ⟨w.heap.size, 9, none⟩) hlc).trans x9, (hb.cell (p := ⟨w.heap.size, 10, none⟩) hlc).trans x10, (hb.cell (p := ⟨w.heap.size, 11, none⟩) hlc).trans x11⟩
    have KR : Hid (∀ wx, (Below wc.heap.size wc wx ∧ wx.cell? ⟨w.heap.size, 8, none⟩ = some (.int .i64 em) ∧ wx.cell? ⟨w.heap.size, 9, none⟩ = some (.int .i64 ew) ∧ wx.cell? ⟨w.heap.size, 10, none⟩ = some (.int .i64 ed) ∧ wx.cell? ⟨w.heap.size, 11, none⟩ = some (.int .i64 et)) → Below wc.heap.size wc wx) := by
      show ∀ wx, _ → Below wc.heap.size wc wx
      exact fun wx h => h.1
    clear x0 x1 x2 x3 x4 x5 x6 x7
    go_upto_region 2 with fail
    go_cut [7, 8, 9, 10] (fun s7 s8 s9 s10 wx => s7 = .int .i64 A ∧ s8 = .int .i64 0 ∧ s9 = .int .i64 B ∧ s10 = .int .i64 0 ∧ Below wc.heap.size wc wx)
    case first =>
      go_region_held3 (fun wx => Below wc.heap.size wc wx ∧ wx.cell? ⟨w.heap.size, 8, none⟩ = some (.int .i64 em) ∧ wx.cell? ⟨w.heap.size, 9, none⟩ = some (.int .i64 ew) ∧ wx.cell? ⟨w.heap.size, 10, none⟩ = some (.int .i64 ed) ∧ wx.cell? ⟨w.heap.size, 11, none⟩ = some (.int .i64 et)) ((refine KB.out _ ?_; repeat (first | (with_reducible exact HB3.out) | (with_reducible exact HB2.out) | (with_reducible exact Below.refl _ _) | (with_reducible refine Below.drew ?_))))
        (first
          | (go_at_call 17; refine (HD2.out _).mono ?_; rintro e w2 ⟨rfl, hb2⟩; have HB2 := Lib.hid ((KR.out _ (by assumption)).trans (hb2.mono (KR.out _ (by assumption)).size)); clear hb2)
          | (go_at_call 46; refine (HO2.out _).mono ?_; rintro e w3 ⟨rfl, hb3⟩; have HB3 := Lib.hid ((KR.out _ (by assumption)).trans (hb3.mono (KR.out _ (by assumption)).size)); clear hb3))
      all_goals go_wp2_with fail
      all_goals go_meet
      all_goals exact ⟨rfl, rfl, rfl, rfl, KR.out _ (by assumption)⟩
    case rest =>
      obtain ⟨rfl, rfl, rfl, rfl, hbd⟩ := hcut
      have HXD := Lib.hid (HXC.out.below hbd)
      have HBD := Lib.hid (HBC.out.trans (hbd.mono HBC.out.size))
      obtain ⟨x0, x1, x2, x3, x4, x5, x6, x7, x8, x9, x10, x11⟩ := HXD.out.cells
      have hld := HXD.out.lt
      simp only at x0 x1 x2 x3 x4 x5 x6 x7 x8 x9 x10 x11
      clear KB KR hbd HXC HBC hlc
      go_upto_region 5 with fail
      go_quiet (fail)
      go_wp2
      go_ret3
      exact ⟨ret_3 HS.out.symm HE.out.symm rfl, below_drewN HBD.out _⟩

theorem px_ok {p : Px} (h : pxChk p = 0) (ha : p.also.toList ≠ []) : OkPx p := by
  unfold pxChk at h
  split at h
  · omega
  split at h
  · omega
  split at h
  · omega
  rename_i h3
  split at h
  · omega
  rename_i h4
  split at h
  · omega
  rename_i h5
  split at h
  · omega
  rename_i h6
  split at h
  · omega
  rename_i h7
  have g3 := withinB_iff.1 (by simpa using h3)
  have g4 := withinB_iff.1 (by simpa using h4)
  exact ⟨g3.1, g3.2, g4.1, g4.2, by simpa using h5, by simpa using h6, h7⟩
theorem px_off {p : Px} (h : pxChk p = 0) : -64800 ≤ p.off ∧ p.off ≤ 64800 := by
  unfold pxChk at h
  split at h
  · omega
  split at h
  · omega
  split at h
  · omega
  rename_i h3
  exact withinB_iff.1 (by simpa using h3)

end Go.Proofs.YtacogloheiendaaGreatDoor
namespace Go.Proofs.YtacogloheiendaaGreatDoor
open Go
set_option linter.unusedVariables false

/-- two digits -/
def T2 (n : Int) : List UInt8 := [UInt8.ofNat (48 + (n / 10).toNat), UInt8.ofNat (48 + (n % 10).toNat)]
theorem T2_length (n : Int) : (T2 n).length = 2 := rfl
/-- a text as a string -/
def txt (l : List UInt8) : ByteArray := ⟨l.toArray⟩
theorem txt_append (a b : List UInt8) : txt a ++ txt b = txt (a ++ b) := by
  apply ByteArray.ext
  simp [txt]
theorem txt_data (l : List UInt8) : (txt l).data.toList = l := by simp [txt]
theorem txt_size (l : List UInt8) : (txt l).size = l.length := by simp [txt, ByteArray.size]
/-- a span that is not below 0 -/
def spanP (n : Int) : List UInt8 := Lib.itoa (n / 3600) ++ ([58] ++ (T2 (n / 60 % 60) ++ (if n % 60 = 0 then [] else [58] ++ T2 (n % 60))))
def spanT (n : Int) : List UInt8 := if n < 0 then 45 :: spanP (-n) else spanP n

def stampT (t : Int) : List UInt8 :=
  Lib.itoa (Civ.yy (t / 86400)) ++ ([45] ++ (T2 (Civ.mm (t / 86400)) ++ ([45] ++ (T2 (Civ.dd (t / 86400)) ++ ([84] ++ (T2 (t % 86400 / 3600) ++ ([58] ++ (T2 (t % 86400 / 60 % 60) ++ ([58] ++ T2 (t % 86400 % 60))))))))))

theorem itoa_small {n : Int} (h0 : 0 ≤ n) (h1 : n < 10) : Lib.itoa n = [UInt8.ofNat (48 + n.toNat)] := by
  unfold Lib.itoa
  rw [if_neg (by omega), Lib.decDigits_one (by omega)]
theorem dec_four (u : Nat) (h0 : 1000 ≤ u) (h1 : u < 10000) : Lib.decDigits u = [UInt8.ofNat (48 + u / 1000), UInt8.ofNat (48 + u / 100 % 10), UInt8.ofNat (48 + u / 10 % 10), UInt8.ofNat (48 + u % 10)] := by
  rw [Lib.decDigits, dif_neg (by omega), Lib.decDigits, dif_neg (by omega), Lib.decDigits, dif_neg (by omega), Lib.decDigits, dif_pos (by omega)]
  simp only [List.cons_append, List.nil_append]
  rw [show u / 10 / 10 / 10 = u / 1000 by omega, show u / 10 / 10 % 10 = u / 100 % 10 by omega]
theorem itoa_four {n : Int} (h0 : 1000 ≤ n) (h1 : n < 10000) : Lib.itoa n = T2 (n / 100) ++ T2 (n % 100) := by
  unfold Lib.itoa
  rw [if_neg (by omega), dec_four _ (by omega) (by omega)]
  have e1 : n.toNat / 1000 = (n / 100 / 10).toNat := by omega
  have e2 : n.toNat / 100 % 10 = (n / 100 % 10).toNat := by omega
  have e3 : n.toNat / 10 % 10 = (n % 100 / 10).toNat := by omega
  have e4 : n.toNat % 10 = (n % 100 % 10).toNat := by omega
  rw [e1, e2, e3, e4]
  rfl
theorem Y4_length {a : Int} (h0 : 1000 ≤ a) (h1 : a < 10000) : (Lib.itoa a).length = 4 := by rw [itoa_four h0 h1]; rfl

/-- a time's date as a text -/
def dateT (n : Int) : List UInt8 := Lib.itoa (Civ.yy n) ++ ([45] ++ (T2 (Civ.mm n) ++ ([45] ++ T2 (Civ.dd n))))
/-- a second of the day as a text -/
def clockT (r : Int) : List UInt8 := [84] ++ (T2 (r / 3600) ++ ([58] ++ (T2 (r / 60 % 60) ++ ([58] ++ T2 (r % 60)))))
theorem stamp_two (t : Int) : stampT t = dateT (t / 86400) ++ clockT (t % 86400) := by simp [stampT, dateT, clockT]
end Go.Proofs.YtacogloheiendaaGreatDoor
namespace Go.Proofs.YtacogloheiendaaGreatDoor
open Go.RowKit Go.Joins
set_option linter.unusedVariables false
set_option linter.unusedSimpArgs false

/-- strconv's table of powers of ten lies there -/
def Tab10 (w : World) : Prop := Lib.TabIs Tryz.prog w "internal/strconv.uint64pow10" .u64 Lib.pow10Tab
theorem Tab10.below {w w' : World} (h : Tab10 w) (hb : Below w.heap.size w w') : Tab10 w' := (Lib.tabBelow_of_tabIs h) w' hb

theorem itoa_text (n : Int) (w : World) (h0 : -9223372036854775808 ≤ n) (h1 : n ≤ 9223372036854775807) (ht : Tab10 w) :
    Calls Tryz.prog 43 #[.int .i64 n] w fun e w' => e = .returned (.string (txt (Lib.itoa n))) ∧ Below w.heap.size w w' :=
  (Tryz.strconv_Itoa n h0 h1 w ht).mono fun e w' ⟨he, k, os, hw⟩ => ⟨he, by rw [hw]; exact Lib.below_grow _ w (Nat.le_refl _) k os⟩

theorem und_bytes : Tryz.prog.underlying 124 = some (.slice 5) := by kernel_rfl

set_option maxHeartbeats 1000000 in
theorem two_any (n : Int) (w : World) (h0 : 0 ≤ n) (h1 : n < 100) :
    Calls Tryz.prog 44 #[.int .i64 n] w fun e w' => e = .returned (.string (txt (T2 n))) ∧ Below w.heap.size w w' := by
  have hcv : (convert 124 9 (.slice (some ⟨w.heap.size, 0, none⟩) 2 2)).run Tryz.prog (w.alloc (.cells #[.int .u8 (48 + n / 10), .int .u8 (48 + n % 10)] 5)) = .ok (.string (strOfNums [48 + n / 10, 48 + n % 10])) (w.alloc (.cells #[.int .u8 (48 + n / 10), .int .u8 (48 + n % 10)] 5)) := by
    refine Lib.BytesIn.convert (xs := [48 + n / 10, 48 + n % 10]) (fun _ => ⟨w.heap.size, 0, rfl, fun i hi => ?_⟩) rfl 2 _ 5 _ und_bytes Tryz.underlying5 (by kernel_rfl)
    have e := heap_alloc_new w (.cells #[.int .u8 (48 + n / 10), .int .u8 (48 + n % 10)] 5)
    rw [cell_of_row _ _ _ _ _ _ e]
    have hi2 : i < 2 := hi
    have : i = 0 ∨ i = 1 := by omega
    rcases this with rfl | rfl <;> rfl
  have hs : strOfNums [48 + n / 10, 48 + n % 10] = txt (T2 n) := by
    simp only [strOfNums, txt, T2, List.map_cons, List.map_nil]
    rw [show (48 + n / 10).toNat = 48 + (n / 10).toNat by omega, show (48 + n % 10).toNat = 48 + (n % 10).toNat by omega]
  rw [hs] at hcv
  clear hs
  go_enter Tryz.func44, Tryz.ntmps44
  go_wp2
  go_ret
  exact ⟨rfl, (Below.refl _ _).alloc (Nat.le_refl _) _⟩

theorem below_drewN' {B : Nat} {a w : World} (h : Below B a w) (n : Nat) : Below B a (w.drewN n) := ⟨h.os, h.tape, h.output, h.size, h.block⟩
theorem ret_2 {a b c d : Int} (h : a = b) (h2 : c = d) : Ending.returned (.tuple #[.int .i64 a, .int .i64 c]) = .returned (.tuple #[.int .i64 b, .int .i64 d]) := by rw [h, h2]

theorem itoa_len3 {n : Int} (h0 : 0 ≤ n) (h1 : n < 1000) : (Lib.itoa n).length ≤ 3 := by
  unfold Lib.itoa
  rw [if_neg (by omega), Lib.decDigits_length]
  by_cases a : n.toNat < 10
  · rw [Lib.nDigits_small a]; omega
  · rw [Lib.nDigits_big a]
    by_cases b : n.toNat / 10 < 10
    · rw [Lib.nDigits_small b]; omega
    · rw [Lib.nDigits_big b, Lib.nDigits_small (by omega)]; omega
theorem cat1 (p a b : List UInt8) : txt p ++ txt a ++ ⟨#[58]⟩ ++ txt b = txt (p ++ (a ++ ([58] ++ (b ++ [])))) := by
  rw [show (⟨#[58]⟩ : ByteArray) = txt [58] from rfl, txt_append, txt_append, txt_append]; simp
theorem cat2 (p a b c : List UInt8) : txt p ++ txt a ++ ⟨#[58]⟩ ++ txt b ++ (⟨#[58]⟩ ++ txt c) = txt (p ++ (a ++ ([58] ++ (b ++ ([58] ++ c))))) := by
  rw [show (⟨#[58]⟩ : ByteArray) = txt [58] from rfl, txt_append, txt_append, txt_append, txt_append, txt_append]; simp
end Go.Proofs.YtacogloheiendaaGreatDoor
