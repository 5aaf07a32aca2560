/- The last step of a law's row where of the new world 'Below' alone is known. (A lemma that the guide gives to copy.) All arguments of a law read behind the call as before it, where of old memory nothing has turned. rule.all, rule.IsAbbr: what each returns. Condition: the text within the form's own reach. Tables in plain Lean: what they hold, and what table.Check says of them. How many places are still false: plain. sort.Search (at a function that leaves what lay below), table.Of, table.At, wall.check, wall.Local: what each returns. table.within and table.Check: what each returns. table.Check of a table that has types and is not too large: what it returns. What a table that may be has: plain facts. table.Of: the type at a time, of a table that may be. table.Of of a table that may be. sample(): what it returns. wall.check, wall.Local, table.At, clock.Floor: what each returns. -/
import Derived.Test.YtomahddiclkepaaGreatDoorRows
import Derived.WalkKit
import Derived.ProofKit
import Derived.OpenShut
import Derived.Below
import Derived.ChangeSame
import Derived.Carry
import Derived.Lib.SmallJoins
import Derived.WalkSpells
import Derived.WalkLawsBesides
import Derived.Lib.Hide
import Derived.Lib.IndexAny
import Derived.Deep.QuietTactic
import Derived.BigQuiet
import Derived.Test.YtomahddiclkepaaGreatDoorShelf
import Derived.Deep.LoopGhost
import Derived.RegionTactic
import Derived.ChangeAlike
import Derived.BigRegion
import Derived.Sort.Walk0
import Derived.StillTailTactics
namespace Go.Proofs.YtomahddiclkepaaGreatDoor
open Go.ChangeShapes Go.WideShapes Go.ChangeAt Go.RowKit
set_option linter.unusedVariables false

theorem own : ownKnob Tryz.prog.godebug = none := by kernel_rfl

section
variable {H : Type} {enc : TypeId × Value → H} {P : Program}
theorem post_of_below {f : Func} {s : ChangeSpec} {apart fresh handsOn again : Bool} {W W' : World} {args : Array Value} {v : Value} {ds gs : List (DataW H)} {before pa pv : List MemPlace}
    (hW : DataW.Whole enc P f.params.toList s.vars apart W args.toList ds gs before)
    (hres : ∀ (b : Nat) (sp : Nat → Bool) (hd : Bool), DataW.TrodAll enc P W' b sp hd f.resultTypes.toList (v.resultList f.resultTypes.size) (s.fn H (ds ++ gs)).results [])
    (hargs : ∀ sp : Nat → Bool, (∀ p ∈ before, sp p.block = true) → DataW.TrodAll enc P W' 0 sp true f.params.toList args.toList (s.fn H (ds ++ gs)).args pa)
    (hvars : ∀ sp : Nat → Bool, (∀ p ∈ before, sp p.block = true) → DataW.TrodVars enc P W' sp s.vars (s.fn H (ds ++ gs)).vars pv)
    (hps : before = pa ++ pv) (hb : Below W.heap.size W W')
    (hok : ∀ (j : Nat) (t : TypeId) (r : Value), f.resultTypes[j]? = some t → (v.resultList f.resultTypes.size)[j]? = some r → Value.okWide P W' .any 0 t r) :
    s.post enc P f apart fresh handsOn again W args v W' := by
  have hlt : ∀ p ∈ before, p.block < W.heap.size := fun p hp => hW.lt p hp
  have hold : ∀ p ∈ before, (fun b => decide (b < W.heap.size)) p.block = true := fun p hp => by simpa using hlt p hp
  refine ⟨ds, gs, before, [], pa, pv, hW, hres _ _ _, hargs _ hold, hvars _ hold, World.keptBut_mono (fun p hp => ⟨hp, ?_⟩) (hb.frame (· ∈ before)), fun _ => ?_⟩
  · rw [hps, List.mem_append] at hp
    exact Or.inr hp
  · obtain ⟨_, _, _, _, _, hz, hn⟩ := hW
    refine ⟨hok, _, _, ([] ++ pa) ++ pv, ⟨[] ++ pa, pv, trodAll_append (hargs _ (fun _ _ => rfl)) (hres _ _ _), hvars _ (fun _ _ => rfl), rfl, ?_, ?_⟩, ?_⟩
    · intro b off hp
      have hin : MemPlace.cell b off ∈ before := by rw [hps]; simpa using hp
      rw [hb.frozen (hlt _ hin)]
      exact hz b off hin
    · intro ha
      have := hn ha
      rw [hps] at this
      simpa using this
    · intro p hp _
      rw [hps]
      simpa using hp
end

end Go.Proofs.YtomahddiclkepaaGreatDoor
namespace Go.Proofs.YtomahddiclkepaaGreatDoor
open Go.ChangeShapes Go.WideShapes Go.ChangeAt Go.RowKit
set_option linter.unusedVariables false

theorem laidOut : laidOutB Tryz.prog = true := by kernel_rfl

theorem trodAll_stays {H : Type} {enc : TypeId × Value → H} {P : Program} {W W' : World} {sp : Nat → Bool} (hl : laidOutB P = true) (hb : Below W.heap.size W W') :
    ∀ (ts : List TypeId) (vs : List Value) (ds : List (DataW H)) (ps : List MemPlace), (ts.all fun t => P.readableRec t && decide (t < P.types.size)) = true → (∀ p ∈ ps, p.block < W.heap.size) → (∀ p ∈ ps, sp p.block = true) →
      DataW.TrodAll enc P W 0 (fun _ => true) true ts vs ds ps → DataW.TrodAll enc P W' 0 sp true ts vs ds ps
  | [], [], [], _, _, _, _, h => h
  | t :: ts, v :: vs, d :: ds, ps, hts, hlt, hsp, ⟨p, q, h1, h2, e⟩ => by
    simp only [List.all_cons, Bool.and_eq_true, decide_eq_true_eq] at hts
    refine ⟨p, q, ?_, trodAll_stays hl hb ts vs ds q hts.2 (fun x hx => hlt x (by rw [e]; exact List.mem_append_right _ hx)) (fun x hx => hsp x (by rw [e]; exact List.mem_append_right _ hx)) h2, e⟩
    exact WideElems.Trod_stays hl hts.1.1 hts.1.2 h1 (fun x hx => hb.same (hlt x (by rw [e]; exact List.mem_append_left _ hx))) (fun x hx => hsp x (by rw [e]; exact List.mem_append_left _ hx))
  | [], [], _ :: _, _, _, _, _, h => h.elim
  | [], _ :: _, _, _, _, _, _, h => h.elim
  | _ :: _, [], _, _, _, _, _, h => h.elim
  | _ :: _, _ :: _, [], _, _, _, _, h => h.elim

end Go.Proofs.YtomahddiclkepaaGreatDoor
namespace Go.Proofs.YtomahddiclkepaaGreatDoor
open Go.RowKit
set_option linter.unusedVariables false
set_option linter.unusedSimpArgs false

theorem ret_int' {k : IntKind} {a b : Int} (h : a = b) : Ending.returned (.int k a) = .returned (.int k b) := by rw [h]
theorem ret_bool' {a b : Bool} (h : a = b) : Ending.returned (.bool a) = .returned (.bool b) := by rw [h]

def letterB (c : Int) : Bool := decide (97 ≤ c ∧ c ≤ 122 ∨ 65 ≤ c ∧ c ≤ 90)
def digitB (c : Int) : Bool := decide (48 ≤ c ∧ c ≤ 57)

theorem isLetter_any (c : Int) (w : World) :
    Calls Tryz.prog 115 #[.int .u8 c] w fun e w' => e = .returned (.bool (letterB c)) ∧ w = w' := by
  by_cases h1 : 97 ≤ c <;> by_cases h2 : c ≤ 122 <;> by_cases h3 : 65 ≤ c <;> by_cases h4 : c ≤ 90 <;>
  first
  | omega
  | (go_enter Tryz.func115, Tryz.ntmps115
     go_wp2
     go_ret
     exact ⟨ret_bool' (by simp [letterB, h1, h2, h3, h4]), rfl⟩)

theorem isDigit_any (c : Int) (w : World) :
    Calls Tryz.prog 147 #[.int .u8 c] w fun e w' => e = .returned (.bool (digitB c)) ∧ w = w' := by
  by_cases h1 : 48 ≤ c <;> by_cases h2 : c ≤ 57 <;>
  · go_enter Tryz.func147, Tryz.ntmps147
    go_wp2
    go_ret
    exact ⟨ret_bool' (by simp [digitB, h1, h2]), rfl⟩

/-- is a byte a letter, a digit or one of some others? -/
def signB (others : List UInt8) (c : UInt8) : Bool := letterB c.toNat || digitB c.toNat || others.contains c
def allB (s : ByteArray) (most : Int) (others : ByteArray) : Bool := s.data.toList.all (signB others.data.toList) && (!s.data.toList.isEmpty) && decide ((s.size : Int) ≤ most)

theorem drop_at (s : ByteArray) (k : Nat) (h : k < s.size) : s.data.toList.drop k = s[k] :: s.data.toList.drop (k + 1) := by
  rw [List.drop_eq_getElem_cons (by simpa using h)]; rfl

theorem extract_one (s : ByteArray) (k : Nat) (h : k < s.size) : s.extract k (k + 1) = ⟨#[s[k]]⟩ := by
  apply ByteArray.ext
  apply Array.toList_inj.1
  rw [Lib.extract_data]
  simp only [Nat.add_sub_cancel_left]
  rw [drop_at s k h]; rfl

set_option maxHeartbeats 1000000 in
theorem all_any (s others : ByteArray) (most : Int) (w : World) (hs : s.size ≤ maxLen) :
    Calls Tryz.prog 98 #[.string s, .int .i64 most, .string others] w fun e w' => e = .returned (.bool (allB s most others)) ∧ w = w' := by
  unfold maxLen at hs
  go_enter Tryz.func98, Tryz.ntmps98
  go_wp2
  go_loop [10] (fun t => ∃ k : Nat, k ≤ s.size ∧ t = .int .i64 k ∧ s.data.toList.all (signB others.data.toList) = (s.data.toList.drop k).all (signB others.data.toList)) (fun t => s.size - (intOf t).toNat)
  case atStart => exact ⟨0, Nat.zero_le _, rfl, rfl⟩
  case round =>
    obtain ⟨k, hk, rfl, hall⟩ := hrel
    have HA := Lib.hid hall
    clear hall
    by_cases hlt : k < s.size
    · have hd := Lib.hid (drop_at s k hlt)
      have he := Lib.hid (extract_one s k hlt)
      cases h1 : letterB (s[k].toNat : Int)
      · cases h2 : digitB (s[k].toNat : Int)
        · cases h3 : decide (0 ≤ Lib.indexByte others.data.toList s[k])
          · have hf : Hid (signB others.data.toList s[k] = false) := by
              show signB _ _ = false
              unfold signB; rw [h1, h2, Lib.contains_iff_indexByte, h3]; rfl
            go_wp2_with (first | (go_at_call 115; refine (isLetter_any _ _).mono ?_; rintro e w' ⟨rfl, rfl⟩) | (go_at_call 147; refine (isDigit_any _ _).mono ?_; rintro e w' ⟨rfl, rfl⟩) | (go_at_call 148; rw [he.out]; refine (Tryz.strings_Contains_one _ _ _).mono ?_; rintro e w' ⟨rfl, rfl⟩))
            go_ret
            exact ⟨ret_bool' (by unfold allB; rw [HA.out, hd.out, List.all_cons, hf.out]; rfl), rfl⟩
          · have hf : Hid (signB others.data.toList s[k] = true) := by
              show signB _ _ = true
              unfold signB; rw [h1, h2, Lib.contains_iff_indexByte, h3]; rfl
            go_wp2_with (first | (go_at_call 115; refine (isLetter_any _ _).mono ?_; rintro e w' ⟨rfl, rfl⟩) | (go_at_call 147; refine (isDigit_any _ _).mono ?_; rintro e w' ⟨rfl, rfl⟩) | (go_at_call 148; rw [he.out]; refine (Tryz.strings_Contains_one _ _ _).mono ?_; rintro e w' ⟨rfl, rfl⟩))
            go_round
            case rel => exact ⟨k + 1, by omega, by go_num, by rw [HA.out, hd.out, List.all_cons, hf.out, Bool.true_and]⟩
            case measure => simp [intOf]; omega
        · have hf : Hid (signB others.data.toList s[k] = true) := by
            show signB _ _ = true
            unfold signB; rw [h1, h2]; rfl
          go_wp2_with (first | (go_at_call 115; refine (isLetter_any _ _).mono ?_; rintro e w' ⟨rfl, rfl⟩) | (go_at_call 147; refine (isDigit_any _ _).mono ?_; rintro e w' ⟨rfl, rfl⟩))
          go_round
          case rel => exact ⟨k + 1, by omega, by go_num, by rw [HA.out, hd.out, List.all_cons, hf.out, Bool.true_and]⟩
          case measure => simp [intOf]; omega
      · have hf : Hid (signB others.data.toList s[k] = true) := by
          show signB _ _ = true
          unfold signB; rw [h1]; rfl
        go_wp2_with (first | (go_at_call 115; refine (isLetter_any _ _).mono ?_; rintro e w' ⟨rfl, rfl⟩))
        go_round
        case rel => exact ⟨k + 1, by omega, by go_num, by rw [HA.out, hd.out, List.all_cons, hf.out, Bool.true_and]⟩
        case measure => simp [intOf]; omega
    · obtain rfl : k = s.size := by omega
      have hall : s.data.toList.all (signB others.data.toList) = true := by rw [HA.out, List.drop_of_length_le (by simp)]; rfl
      have HT := Lib.hid hall
      clear hall
      by_cases he : s.toList = []
      · have hE : Hid (s.data.toList = []) := by show _ = _; rw [← ByteArray.toList_eq, he]
        go_wp2
        go_ret
        exact ⟨ret_bool' (by unfold allB; rw [hE.out]; rfl), rfl⟩
      · have he2 : s.toList.isEmpty = false := by simpa using he
        have hE : Hid (s.data.toList.isEmpty = false) := by show _ = _; rw [← ByteArray.toList_eq, he2]
        by_cases hm : (s.size : Int) ≤ most
        · go_wp2
          go_ret
          exact ⟨ret_bool' (by unfold allB; rw [HT.out, hE.out, decide_eq_true hm]; simp [he2]), rfl⟩
        · go_wp2
          go_ret
          exact ⟨ret_bool' (by unfold allB; rw [HT.out, hE.out, decide_eq_false (by omega)]; simp [he2]), rfl⟩

def abbrB (s : ByteArray) : Bool := allB s 8 ⟨#[43, 45]⟩

theorem isAbbr_any (s : ByteArray) (w : World) (hs : s.size ≤ maxLen) :
    Calls Tryz.prog 44 #[.string s] w fun e w' => e = .returned (.bool (abbrB s)) ∧ w = w' := by
  go_enter Tryz.func44, Tryz.ntmps44
  go_wp2_with fail
  refine (all_any _ _ _ _ hs).mono ?_
  rintro e w' ⟨rfl, rfl⟩
  go_wp2
  go_ret
  exact ⟨rfl, rfl⟩

end Go.Proofs.YtomahddiclkepaaGreatDoor
namespace Go.Proofs.YtomahddiclkepaaGreatDoor
open Go.RowKit
set_option linter.unusedVariables false

structure Ty where
  off : Int
  save : Bool
  name : ByteArray
abbrev tyV (x : Ty) : Value := .agg #[.int .i64 x.off, .bool x.save, .string x.name]
structure Ch where
  t : Int
  k : Int
structure Tab where
  types : List Ty
  first : Int
  chs : List Ch

def okOff (x : Int) : Bool := decide (-75600 ≤ x ∧ x ≤ 75600)
def okTime (x : Int) : Bool := decide (-1099511627776 ≤ x ∧ x ≤ 1099511627776)
def okIdx (last x : Int) : Bool := decide (0 ≤ x ∧ x ≤ last)

def chkTypes : List Ty → Int
  | [] => 0
  | x :: r => if okOff x.off = true then (if abbrB x.name = true then chkTypes r else 3) else 1

def before (prev : Option Int) (x : Int) : Bool := match prev with
  | some p => decide (x ≤ p)
  | none => false

def chkChs (last : Int) : Option Int → List Ch → Int
  | _, [] => 0
  | prev, c :: r => if (okTime c.t && okIdx last c.k) = true then (if before prev c.t = true then 5 else chkChs last (some c.t) r) else 1

def big (t : Tab) : Bool := decide (250 < t.types.length ∨ 1000 < t.chs.length)

def chk (t : Tab) : Int :=
  if big t = true then 2 else
  if t.types = [] then 5 else
  if chkTypes t.types = 0 then (if okIdx ((t.types.length : Int) - 1) t.first = true then chkChs ((t.types.length : Int) - 1) none t.chs else 1) else chkTypes t.types

/-- the time of the change ahead of number k -/
def prevOf (l : List Ch) : Nat → Option Int
  | 0 => none
  | k + 1 => (l[k]?).map (·.t)

def tyAt (w : World) (b o : Nat) (x : Ty) : Prop :=
  w.cell? ⟨b, o, none⟩ = some (.int .i64 x.off) ∧ w.cell? ⟨b, o + 1, none⟩ = some (.bool x.save) ∧ w.cell? ⟨b, o + 2, none⟩ = some (.string x.name)
def chAt (w : World) (b o : Nat) (x : Ch) : Prop :=
  w.cell? ⟨b, o, none⟩ = some (.int .i64 x.t) ∧ w.cell? ⟨b, o + 1, none⟩ = some (.int .i64 x.k)

structure SlTy (w : World) (v : Value) (l : List Ty) : Prop where
  shape : ∃ p cap, v = .slice p l.length cap ∧ (l ≠ [] → ∃ b o, p = some ⟨b, o, none⟩ ∧ b < w.heap.size ∧ ∀ i (h : i < l.length), tyAt w b (o + i * 3) l[i])
  size : l.length ≤ maxLen
  names : ∀ x ∈ l, x.name.size ≤ maxLen
structure SlCh (w : World) (v : Value) (l : List Ch) : Prop where
  shape : ∃ p cap, v = .slice p l.length cap ∧ (l ≠ [] → ∃ b o, p = some ⟨b, o, none⟩ ∧ b < w.heap.size ∧ ∀ i (h : i < l.length), chAt w b (o + i * 2) l[i])
  size : l.length ≤ maxLen

structure TabAt (w : World) (v : Value) (t : Tab) : Prop where
  val : ∃ sv cv, v = .agg #[sv, .int .i64 t.first, cv] ∧ SlTy w sv t.types ∧ SlCh w cv t.chs

theorem tyAt.below {w w' : World} {b o : Nat} {x : Ty} (h : tyAt w b o x) (hb : Below w.heap.size w w') (hlt : b < w.heap.size) : tyAt w' b o x :=
  ⟨(hb.cell (p := ⟨b, o, none⟩) hlt).trans h.1, (hb.cell (p := ⟨b, o + 1, none⟩) hlt).trans h.2.1, (hb.cell (p := ⟨b, o + 2, none⟩) hlt).trans h.2.2⟩
theorem chAt.below {w w' : World} {b o : Nat} {x : Ch} (h : chAt w b o x) (hb : Below w.heap.size w w') (hlt : b < w.heap.size) : chAt w' b o x :=
  ⟨(hb.cell (p := ⟨b, o, none⟩) hlt).trans h.1, (hb.cell (p := ⟨b, o + 1, none⟩) hlt).trans h.2⟩

theorem SlTy.below {w w' : World} {v : Value} {l : List Ty} (h : SlTy w v l) (hb : Below w.heap.size w w') : SlTy w' v l := by
  obtain ⟨⟨p, cap, hv, hc⟩, h2, h3⟩ := h
  refine ⟨⟨p, cap, hv, fun hne => ?_⟩, h2, h3⟩
  obtain ⟨b, o, hp, hlt, hat⟩ := hc hne
  exact ⟨b, o, hp, Nat.lt_of_lt_of_le hlt hb.size, fun i h => (hat i h).below hb hlt⟩
theorem SlCh.below {w w' : World} {v : Value} {l : List Ch} (h : SlCh w v l) (hb : Below w.heap.size w w') : SlCh w' v l := by
  obtain ⟨⟨p, cap, hv, hc⟩, h2⟩ := h
  refine ⟨⟨p, cap, hv, fun hne => ?_⟩, h2⟩
  obtain ⟨b, o, hp, hlt, hat⟩ := hc hne
  exact ⟨b, o, hp, Nat.lt_of_lt_of_le hlt hb.size, fun i h => (hat i h).below hb hlt⟩
theorem TabAt.below {w w' : World} {v : Value} {t : Tab} (h : TabAt w v t) (hb : Below w.heap.size w w') : TabAt w' v t := by
  obtain ⟨sv, cv, hv, h1, h2⟩ := h.val
  exact ⟨sv, cv, hv, h1.below hb, h2.below hb⟩

theorem chkTypes_drop (l : List Ty) (k : Nat) (h : k < l.length) (ho : okOff l[k].off = true) (ha : abbrB l[k].name = true) : chkTypes (l.drop k) = chkTypes (l.drop (k + 1)) := by
  rw [List.drop_eq_getElem_cons h]; simp [chkTypes, ho, ha]
theorem chkTypes_off (l : List Ty) (k : Nat) (h : k < l.length) (ho : okOff l[k].off = false) : chkTypes (l.drop k) = 1 := by
  rw [List.drop_eq_getElem_cons h]; simp [chkTypes, ho]
theorem chkTypes_abbr (l : List Ty) (k : Nat) (h : k < l.length) (ho : okOff l[k].off = true) (ha : abbrB l[k].name = false) : chkTypes (l.drop k) = 3 := by
  rw [List.drop_eq_getElem_cons h]; simp [chkTypes, ho, ha]

theorem chkChs_drop (last : Int) (l : List Ch) (k : Nat) (h : k < l.length) (ho : (okTime l[k].t && okIdx last l[k].k) = true) (hb : before (prevOf l k) l[k].t = false) :
    chkChs last (prevOf l k) (l.drop k) = chkChs last (prevOf l (k + 1)) (l.drop (k + 1)) := by
  rw [List.drop_eq_getElem_cons h]
  have e : prevOf l (k + 1) = some l[k].t := by simp [prevOf, h]
  rw [e]
  simp only [chkChs, ho, hb]; simp
theorem chkChs_bad (last : Int) (l : List Ch) (k : Nat) (h : k < l.length) (ho : (okTime l[k].t && okIdx last l[k].k) = false) :
    chkChs last (prevOf l k) (l.drop k) = 1 := by
  rw [List.drop_eq_getElem_cons h]; simp only [chkChs, ho]; simp
theorem chkChs_back (last : Int) (l : List Ch) (k : Nat) (h : k < l.length) (ho : (okTime l[k].t && okIdx last l[k].k) = true) (hb : before (prevOf l k) l[k].t = true) :
    chkChs last (prevOf l k) (l.drop k) = 5 := by
  rw [List.drop_eq_getElem_cons h]; simp only [chkChs, ho, hb]; simp

end Go.Proofs.YtomahddiclkepaaGreatDoor
namespace Go.Proofs.YtomahddiclkepaaGreatDoor
set_option linter.unusedVariables false
set_option linter.unusedSimpArgs false

/-- how many places below n are still false -/
def cntF (p : Nat → Bool) (n : Nat) : Nat := (List.range n).countP (fun i => !p i)

theorem cntF_boundary (p : Nat → Bool) (n h : Nat) (hn : h ≤ n) (h1 : ∀ t, t < h → p t = false) (h2 : ∀ t, h ≤ t → t < n → p t = true) : cntF p n = h := by
  unfold cntF
  induction n with
  | zero => simp; omega
  | succ n ih =>
    rw [List.range_succ, List.countP_append]
    by_cases e : h = n + 1
    · subst e
      have : (List.range n).countP (fun i => !p i) = n := by
        have hall : ∀ i ∈ List.range n, (fun i => !p i) i = true := fun i hi => by
          have := h1 i (by have := List.mem_range.1 hi; omega)
          simp [this]
        rw [List.countP_eq_length.2 hall]; simp
      rw [this]; simp [h1 n (by omega)]
    · rw [ih (by omega) (fun t ht htn => h2 t ht (by omega))]
      simp [h2 n (by omega) (by omega)]
end Go.Proofs.YtomahddiclkepaaGreatDoor
namespace Go.Proofs.YtomahddiclkepaaGreatDoor
open Go.RowKit
set_option linter.unusedVariables false
set_option linter.unusedSimpArgs false

set_option maxHeartbeats 4000000 in
theorem Search_any (g : Nat) (cb : Array Value) (n : Nat) (p : Nat → Bool) (w : World) (eg : ∀ args w, (callFunc g args).run Tryz.prog w = .ok (.enter g args) w) (hsz : n < 4611686018427387904)
    (hf : ∀ (W : World) (i : Nat), Below w.heap.size w W → i < n → Calls Tryz.prog g (#[.int .i64 i] ++ cb) W fun e w' => e = .returned (.bool (p i)) ∧ Below W.heap.size W w')
    (hmono : ∀ a b, a ≤ b → b < n → p a = true → p b = true) :
    Calls Tryz.prog 103 #[.int .i64 n, .func (.func g) #[] cb] w fun e w' => e = .returned (.int .i64 (cntF p n : Nat)) ∧ Below w.heap.size w w' := by
  have HF := Lib.hid hf
  have M := Lib.hid hmono
  clear hf hmono
  obtain ⟨cnt, hcnt⟩ : ∃ cnt, cntF p n = cnt := ⟨_, rfl⟩
  rw [hcnt]
  have CN := Lib.hid hcnt
  clear hcnt
  go_enter Tryz.func103, Tryz.ntmps103
  go_wp2
  go_loopg [5, 6] n (fun kx s5 s6 wr => ∃ (lo hi : Nat), s5 = .int .i64 lo ∧ s6 = .int .i64 hi ∧ lo ≤ hi ∧ hi ≤ n ∧ hi - lo ≤ kx ∧ Below w.heap.size w wr ∧
    Hid ((∀ t, t < lo → p t = false) ∧ (∀ t, hi ≤ t → t < n → p t = true)))
  case atStart => exact ⟨0, n, rfl, rfl, Nat.zero_le _, Nat.le_refl _, by omega, Below.refl _ _, (⟨fun t ht => absurd ht (Nat.not_lt_zero _), fun t h1 h2 => by omega⟩ : (∀ t, t < 0 → p t = false) ∧ (∀ t, n ≤ t → t < n → p t = true))⟩
  case round =>
    obtain ⟨lo, hi, rfl, rfl, hlh, hin, hg, hbel, I⟩ := hrel
    by_cases hlt : lo < hi
    · have hc := HF.out wr ((lo + hi) / 2) hbel (by omega)
      rw [show (((lo + hi) / 2 : Nat) : Int) = ((lo : Int) + (hi : Int)) / 2 by omega] at hc
      have HB := Lib.hid hbel
      clear hbel
      cases hp : p ((lo + hi) / 2) <;> rw [hp] at hc
      · have HP := Lib.hid hp
        clear hp
        go_wp2_with (go_at_fn g; refine hc.mono ?_; rintro e w' ⟨rfl, hb2⟩)
        go_roundg (hi - ((lo + hi) / 2 + 1))
        case measure => omega
        case rel =>
          have I2 : Hid ((∀ t, t < (lo + hi) / 2 + 1 → p t = false) ∧ (∀ t, hi ≤ t → t < n → p t = true)) := ⟨fun t ht => (by
            cases h : p t with
            | false => rfl
            | true => have := M.out t ((lo + hi) / 2) (by omega) (by omega) h; rw [HP.out] at this; cases this), I.out.2⟩
          exact ⟨(lo + hi) / 2 + 1, hi, by rw [show ((lo : Int) + (hi : Int)) / 2 + 1 = (((lo + hi) / 2 + 1 : Nat) : Int) by omega], rfl, by omega, hin, Nat.le_refl _, HB.out.trans (hb2.mono HB.out.size), I2⟩
      · have HP := Lib.hid hp
        clear hp
        go_wp2_with (go_at_fn g; refine hc.mono ?_; rintro e w' ⟨rfl, hb2⟩)
        go_roundg ((lo + hi) / 2 - lo)
        case measure => omega
        case rel =>
          have I2 : Hid ((∀ t, t < lo → p t = false) ∧ (∀ t, (lo + hi) / 2 ≤ t → t < n → p t = true)) := ⟨I.out.1, fun t ht htn => M.out ((lo + hi) / 2) t ht htn HP.out⟩
          exact ⟨lo, (lo + hi) / 2, rfl, by rw [show ((lo : Int) + (hi : Int)) / 2 = (((lo + hi) / 2 : Nat) : Int) by omega], by omega, by omega, Nat.le_refl _, HB.out.trans (hb2.mono HB.out.size), I2⟩
    · obtain rfl : hi = lo := by omega
      have ecnt : cnt = hi := by rw [← CN.out]; exact cntF_boundary p n hi hin I.out.1 I.out.2
      subst ecnt
      go_wp2
      go_ret
      exact ⟨rfl, hbel⟩

end Go.Proofs.YtomahddiclkepaaGreatDoor
namespace Go.Proofs.YtomahddiclkepaaGreatDoor
open Go.RowKit
set_option linter.unusedVariables false
set_option linter.unusedSimpArgs false

def wiB (n a b : Int) : Bool := decide (a ≤ n ∧ n ≤ b)
theorem tab_within (n a b : Int) (w : World) :
    Calls Tryz.prog 50 #[.int .i64 n, .int .i64 a, .int .i64 b] w fun e w' => e = .returned (.bool (wiB n a b)) ∧ w = w' := by
  by_cases h1 : a ≤ n <;> by_cases h2 : n ≤ b <;>
  · go_enter Tryz.func50, Tryz.ntmps50
    go_wp2
    go_ret
    exact ⟨ret_bool' (by simp [wiB, h1, h2]), rfl⟩

theorem okTime_wi (x : Int) : okTime x = wiB x (-1099511627776) 1099511627776 := rfl
theorem okIdx_wi (l x : Int) : okIdx l x = wiB x 0 l := rfl

theorem Check_big (t : Tab) (v : Value) (w : World) (hv : TabAt w v t) (hbig : big t = true) :
    Calls Tryz.prog 19 #[v] w fun e w' => e = .returned (.int .i64 (chk t)) ∧ Below w.heap.size w w' := by
  obtain ⟨sv, cv, rfl, ⟨⟨p, cap, rfl, hs⟩, hl1, hnm⟩, ⟨⟨p2, cap2, rfl, hc⟩, hl2⟩⟩ := hv.val
  have hk : Hid (chk t = 2) := by show _ = _; unfold chk; rw [if_pos hbig]
  simp only [big, decide_eq_true_eq] at hbig
  clear hs hc hnm
  by_cases h1 : (250 : Int) < t.types.length
  · go_enter Tryz.func19, Tryz.ntmps19
    go_wp2
    go_ret
    exact ⟨ret_int' hk.out.symm, (Below.refl _ _).alloc (Nat.le_refl _) _⟩
  · have h2 : (1000 : Int) < t.chs.length := by omega
    go_enter Tryz.func19, Tryz.ntmps19
    go_wp2
    go_ret
    exact ⟨ret_int' hk.out.symm, (Below.refl _ _).alloc (Nat.le_refl _) _⟩

theorem Check_none (t : Tab) (v : Value) (w : World) (hv : TabAt w v t) (hbig : big t = false) (hn : t.types = []) :
    Calls Tryz.prog 19 #[v] w fun e w' => e = .returned (.int .i64 (chk t)) ∧ Below w.heap.size w w' := by
  obtain ⟨sv, cv, rfl, ⟨⟨p, cap, rfl, hs⟩, hl1, hnm⟩, ⟨⟨p2, cap2, rfl, hc⟩, hl2⟩⟩ := hv.val
  have hk : Hid (chk t = 5) := by show _ = _; unfold chk; rw [if_neg (by simp [hbig]), if_pos hn]
  simp only [big, decide_eq_false_iff_not] at hbig
  have e0 : t.types.length = 0 := by rw [hn]; rfl
  have h2 : ¬ (1000 : Int) < t.chs.length := by omega
  clear hs hc hnm hbig hn hv
  rw [e0]
  go_enter Tryz.func19, Tryz.ntmps19
  go_wp2
  go_ret
  exact ⟨ret_int' hk.out.symm, (Below.refl _ _).alloc (Nat.le_refl _) _⟩

end Go.Proofs.YtomahddiclkepaaGreatDoor
namespace Go.Proofs.YtomahddiclkepaaGreatDoor
open Go.RowKit
set_option linter.unusedVariables false
set_option linter.unusedSimpArgs false

theorem tyAt.mono {w w' : World} {B b o : Nat} {x : Ty} (h : tyAt w b o x) (hb : Below B w w') (hlt : b < B) : tyAt w' b o x :=
  ⟨(hb.cell (p := ⟨b, o, none⟩) hlt).trans h.1, (hb.cell (p := ⟨b, o + 1, none⟩) hlt).trans h.2.1, (hb.cell (p := ⟨b, o + 2, none⟩) hlt).trans h.2.2⟩
theorem chAt.mono {w w' : World} {B b o : Nat} {x : Ch} (h : chAt w b o x) (hb : Below B w w') (hlt : b < B) : chAt w' b o x :=
  ⟨(hb.cell (p := ⟨b, o, none⟩) hlt).trans h.1, (hb.cell (p := ⟨b, o + 1, none⟩) hlt).trans h.2⟩
theorem bcellB {B : Nat} {W w1 : World} (hb : Below B W w1) : (∀ b o, b < B → w1.cell? ⟨b, o, none⟩ = W.cell? ⟨b, o, none⟩) ∧ (∀ b o, b < B → w1.frozen? ⟨b, o, none⟩ = W.frozen? ⟨b, o, none⟩) :=
  ⟨fun b o h => hb.cell (p := ⟨b, o, none⟩) h, fun b o h => hb.frozen (p := ⟨b, o, none⟩) h⟩
theorem below_drewN' {B : Nat} {a w : World} (h : Below B a w) (n : Nat) : Below B a (w.drewN n) := ⟨h.os, h.tape, h.output, h.size, h.block⟩

theorem chk_types (t : Tab) (hbig : big t = false) (hn : t.types ≠ []) (h : chkTypes t.types ≠ 0) : chk t = chkTypes t.types := by
  unfold chk; rw [if_neg (by simp [hbig]), if_neg hn, if_neg h]
theorem chk_first (t : Tab) (hbig : big t = false) (hn : t.types ≠ []) (h : chkTypes t.types = 0) (hf : okIdx ((t.types.length : Int) - 1) t.first = false) : chk t = 1 := by
  unfold chk; rw [if_neg (by simp [hbig]), if_neg hn, if_pos h, if_neg (by simp [hf])]
theorem chk_chs (t : Tab) (hbig : big t = false) (hn : t.types ≠ []) (h : chkTypes t.types = 0) (hf : okIdx ((t.types.length : Int) - 1) t.first = true) : chk t = chkChs ((t.types.length : Int) - 1) none t.chs := by
  unfold chk; rw [if_neg (by simp [hbig]), if_neg hn, if_pos h, if_pos hf]

set_option maxHeartbeats 4000000 in
theorem Check_nochs (l : List Ty) (f : Int) (m : List Ch) (b o cap cap2 : Nat) (p2 : Option Addr) (w : World) (hb : b < w.heap.size) (hty : ∀ i (h : i < l.length), tyAt w b (o + i * 3) l[i]) (hnm : ∀ x ∈ l, x.name.size ≤ maxLen)
    (hbig : big ⟨l, f, m⟩ = false) (hn : l ≠ []) (hm : m = []) :
    Calls Tryz.prog 19 #[.agg #[.slice (some ⟨b, o, none⟩) l.length cap, .int .i64 f, .slice p2 m.length cap2]] w fun e w' => e = .returned (.int .i64 (chk ⟨l, f, m⟩)) ∧ Below w.heap.size w w' := by
  have ht1 : Hid (chkTypes l ≠ 0 → chk ⟨l, f, m⟩ = chkTypes l) := chk_types ⟨l, f, m⟩ hbig hn
  have ht2 : Hid (chkTypes l = 0 → okIdx ((l.length : Int) - 1) f = false → chk ⟨l, f, m⟩ = 1) := chk_first ⟨l, f, m⟩ hbig hn
  have ht3 : Hid (chkTypes l = 0 → okIdx ((l.length : Int) - 1) f = true → chk ⟨l, f, m⟩ = chkChs ((l.length : Int) - 1) none m) := chk_chs ⟨l, f, m⟩ hbig hn
  have HTY := Lib.hid hty
  have HNM := Lib.hid hnm
  have E0 : Hid (m.length = 0) := by show m.length = 0; rw [hm]; rfl
  have HM := Lib.hid hm
  have hpos : 0 < l.length := List.length_pos_iff.2 hn
  simp only [big, decide_eq_false_iff_not] at hbig
  have hN : ¬ (250 : Int) < l.length := by omega
  have hM : ¬ (1000 : Int) < m.length := by omega
  have hN' : l.length ≤ 250 := by omega
  have hM' : m.length ≤ 1000 := by omega
  have hz : ((l.length : Int) == 0) = false := by simp; omega
  obtain ⟨R, eR⟩ : ∃ R : Int, chk ⟨l, f, m⟩ = R := ⟨_, rfl⟩
  rw [eR]
  have ER := Lib.hid eR
  clear hty hnm hbig hn eR hm
  obtain ⟨w0, hw0⟩ : ∃ w0, w.alloc (.cells #[.slice (some ⟨b, o, none⟩) l.length cap, .int .i64 f, .slice p2 m.length cap2] 58) = w0 := ⟨_, rfl⟩
  have hbw : Below w.heap.size w w0 := by rw [← hw0]; exact (Below.refl _ _).alloc (Nat.le_refl _) _
  have hsz : w0.heap.size = w.heap.size + 1 := by rw [← hw0]; simp
  have hq0 : w0.cell? ⟨w.heap.size, 0, none⟩ = some (.slice (some ⟨b, o, none⟩) l.length cap) := by rw [← hw0]; simp [go_sem]
  have hq1 : w0.cell? ⟨w.heap.size, 1, none⟩ = some (.int .i64 f) := by rw [← hw0]; simp [go_sem]
  have hq2 : w0.cell? ⟨w.heap.size, 2, none⟩ = some (.slice p2 m.length cap2) := by rw [← hw0]; simp [go_sem]
  have HW0 := Lib.hid hw0
  have HSZ := Lib.hid hsz
  clear hw0 hsz
  have HQ0 := Lib.hid hq0
  have HQ1 := Lib.hid hq1
  have HQ2 := Lib.hid hq2
  clear hq0 hq1 hq2
  go_enter Tryz.func19, Tryz.ntmps19
  go_wp2
  go_loopw [27] (fun i wr => ∃ k : Nat, k ≤ l.length ∧ i = .int .i64 k ∧ Below (w.heap.size + 1) (w.alloc (.cells #[.slice (some ⟨b, o, none⟩) l.length cap, .int .i64 f, .slice p2 m.length cap2] 58)) wr ∧ chkTypes l = chkTypes (l.drop k)) (fun i _ => l.length - (intOf i).toNat)
  case atStart => exact ⟨0, Nat.zero_le _, rfl, Below.refl _ _, rfl⟩
  case round =>
    obtain ⟨k, hk, rfl, hbel, hch⟩ := hrel
    rw [HW0.out] at hbel
    have HCH := Lib.hid hch
    clear hch
    by_cases hlt : k < l.length
    · obtain ⟨x, ex⟩ : ∃ x, l[k] = x := ⟨_, rfl⟩
      have hat := ((HTY.out k hlt).mono hbw hb).mono hbel (by omega)
      have hnx := HNM.out l[k] (List.getElem_mem hlt)
      rw [ex] at hat hnx
      obtain ⟨c0, c1, c2⟩ := hat
      have EX := Lib.hid ex
      clear ex
      cases ho : wiB x.off (-75600) 75600
      · have hr : Hid (R = 1) := by
          have h1 := chkTypes_off l k hlt (by rw [EX.out]; exact ho)
          have h2 : chkTypes l = 1 := by rw [HCH.out, h1]
          have h3 := ht1.out (by rw [h2]; decide)
          show R = 1
          rw [← ER.out, h3, h2]
        go_wp2_with (first | (go_at_call 50; refine (tab_within _ _ _ _).mono ?_; rintro e w' ⟨rfl, rfl⟩))
        go_ret
        exact ⟨ret_int' hr.out.symm, hbw.trans ((hbel.mono (by omega)).alloc (by have := hbel.size; have := HSZ.out; omega) _)⟩
      · cases ha : abbrB x.name
        · have hr : Hid (R = 3) := by
            have h1 := chkTypes_abbr l k hlt (by rw [EX.out]; exact ho) (by rw [EX.out]; exact ha)
            have h2 : chkTypes l = 3 := by rw [HCH.out, h1]
            have h3 := ht1.out (by rw [h2]; decide)
            show R = 3
            rw [← ER.out, h3, h2]
          go_wp2_with (first | (go_at_call 50; refine (tab_within _ _ _ _).mono ?_; rintro e w' ⟨rfl, rfl⟩) | (go_at_call 44; refine (isAbbr_any _ _ hnx).mono ?_; rintro e w' ⟨rfl, rfl⟩))
          go_ret
          exact ⟨ret_int' hr.out.symm, hbw.trans ((hbel.mono (by omega)).alloc (by have := hbel.size; have := HSZ.out; omega) _)⟩
        · have hstep : Hid (chkTypes l = chkTypes (l.drop (k + 1))) := by
            show _ = _
            rw [HCH.out, chkTypes_drop l k hlt (by rw [EX.out]; exact ho) (by rw [EX.out]; exact ha)]
          go_wp2_with (first | (go_at_call 50; refine (tab_within _ _ _ _).mono ?_; rintro e w' ⟨rfl, rfl⟩) | (go_at_call 44; refine (isAbbr_any _ _ hnx).mono ?_; rintro e w' ⟨rfl, rfl⟩))
          go_roundw
          case rel => exact ⟨k + 1, by omega, by go_num, by rw [HW0.out]; exact hbel.alloc (by have := hbel.size; have := HSZ.out; omega) _, hstep.out⟩
          case measure => simp [intOf]; omega
    · obtain rfl : k = l.length := by omega
      have h0 : chkTypes l = 0 := by rw [HCH.out, List.drop_of_length_le (by omega)]; rfl
      have H0 := Lib.hid h0
      clear h0
      have hq0 := ((bcellB hbel).1 w.heap.size 0 (by omega)).trans HQ0.out
      have hq1 := ((bcellB hbel).1 w.heap.size 1 (by omega)).trans HQ1.out
      have hq2 := ((bcellB hbel).1 w.heap.size 2 (by omega)).trans HQ2.out
      cases hfi : wiB f 0 ((l.length : Int) - 1)
      · have hr : Hid (R = 1) := by
          show R = 1
          rw [← ER.out, ht2.out H0.out hfi]
        go_wp2_with (first | (go_at_call 50; refine (tab_within _ _ _ _).mono ?_; rintro e w' ⟨rfl, rfl⟩))
        go_ret
        exact ⟨ret_int' hr.out.symm, hbw.trans (hbel.mono (by omega))⟩
      · have hR : Hid (R = chkChs ((l.length : Int) - 1) none m) := by
          show R = _
          rw [← ER.out, ht3.out H0.out hfi]
        go_wp2_with (first | (go_at_call 50; refine (tab_within _ _ _ _).mono ?_; rintro e w' ⟨rfl, rfl⟩))
        go_loopw [52] (fun i w2 => ∃ k : Nat, k ≤ m.length ∧ i = .int .i64 k ∧ Below (w.heap.size + 1) (w.alloc (.cells #[.slice (some ⟨b, o, none⟩) l.length cap, .int .i64 f, .slice p2 m.length cap2] 58)) w2 ∧ chkChs ((l.length : Int) - 1) none m = chkChs ((l.length : Int) - 1) (prevOf m k) (m.drop k)) (fun i _ => m.length - (intOf i).toNat)
        case atStart => exact ⟨0, Nat.zero_le _, rfl, by rw [HW0.out]; exact hbel, rfl⟩
        case round =>
          obtain ⟨k, hk2, rfl, hbel2, hcc⟩ := hrel
          rw [HW0.out] at hbel2
          have HCC := Lib.hid hcc
          clear hcc
          by_cases hlt2 : k < m.length
          · have := E0.out; omega
          · obtain rfl : k = m.length := by omega
            have hr : Hid (R = 0) := by show R = 0; rw [hR.out, HCC.out, List.drop_of_length_le (by omega)]; cases prevOf m m.length <;> rfl
            go_wp2
            go_ret
            exact ⟨ret_int' hr.out.symm, hbw.trans (hbel2.mono (by omega))⟩

set_option maxHeartbeats 4000000 in
theorem Check_chs (l : List Ty) (f : Int) (m : List Ch) (b o cap b2 o2 cap2 : Nat) (w : World) (hb : b < w.heap.size) (hty : ∀ i (h : i < l.length), tyAt w b (o + i * 3) l[i]) (hnm : ∀ x ∈ l, x.name.size ≤ maxLen)
    (hbig : big ⟨l, f, m⟩ = false) (hn : l ≠ []) (hb2 : b2 < w.heap.size) (hch2 : ∀ i (h : i < m.length), chAt w b2 (o2 + i * 2) m[i]) :
    Calls Tryz.prog 19 #[.agg #[.slice (some ⟨b, o, none⟩) l.length cap, .int .i64 f, .slice (some ⟨b2, o2, none⟩) m.length cap2]] w fun e w' => e = .returned (.int .i64 (chk ⟨l, f, m⟩)) ∧ Below w.heap.size w w' := by
  have ht1 : Hid (chkTypes l ≠ 0 → chk ⟨l, f, m⟩ = chkTypes l) := chk_types ⟨l, f, m⟩ hbig hn
  have ht2 : Hid (chkTypes l = 0 → okIdx ((l.length : Int) - 1) f = false → chk ⟨l, f, m⟩ = 1) := chk_first ⟨l, f, m⟩ hbig hn
  have ht3 : Hid (chkTypes l = 0 → okIdx ((l.length : Int) - 1) f = true → chk ⟨l, f, m⟩ = chkChs ((l.length : Int) - 1) none m) := chk_chs ⟨l, f, m⟩ hbig hn
  have HTY := Lib.hid hty
  have HNM := Lib.hid hnm
  have HC := Lib.hid hch2
  have hpos : 0 < l.length := List.length_pos_iff.2 hn
  simp only [big, decide_eq_false_iff_not] at hbig
  have hN : ¬ (250 : Int) < l.length := by omega
  have hM : ¬ (1000 : Int) < m.length := by omega
  have hN' : l.length ≤ 250 := by omega
  have hM' : m.length ≤ 1000 := by omega
  have hz : ((l.length : Int) == 0) = false := by simp; omega
  obtain ⟨R, eR⟩ : ∃ R : Int, chk ⟨l, f, m⟩ = R := ⟨_, rfl⟩
  rw [eR]
  have ER := Lib.hid eR
  clear hty hnm hbig hn eR hch2
  obtain ⟨w0, hw0⟩ : ∃ w0, w.alloc (.cells #[.slice (some ⟨b, o, none⟩) l.length cap, .int .i64 f, .slice (some ⟨b2, o2, none⟩) m.length cap2] 58) = w0 := ⟨_, rfl⟩
  have hbw : Below w.heap.size w w0 := by rw [← hw0]; exact (Below.refl _ _).alloc (Nat.le_refl _) _
  have hsz : w0.heap.size = w.heap.size + 1 := by rw [← hw0]; simp
  have hq0 : w0.cell? ⟨w.heap.size, 0, none⟩ = some (.slice (some ⟨b, o, none⟩) l.length cap) := by rw [← hw0]; simp [go_sem]
  have hq1 : w0.cell? ⟨w.heap.size, 1, none⟩ = some (.int .i64 f) := by rw [← hw0]; simp [go_sem]
  have hq2 : w0.cell? ⟨w.heap.size, 2, none⟩ = some (.slice (some ⟨b2, o2, none⟩) m.length cap2) := by rw [← hw0]; simp [go_sem]
  have HW0 := Lib.hid hw0
  have HSZ := Lib.hid hsz
  clear hw0 hsz
  have HQ0 := Lib.hid hq0
  have HQ1 := Lib.hid hq1
  have HQ2 := Lib.hid hq2
  clear hq0 hq1 hq2
  go_enter Tryz.func19, Tryz.ntmps19
  go_wp2
  go_loopw [27] (fun i wr => ∃ k : Nat, k ≤ l.length ∧ i = .int .i64 k ∧ Below (w.heap.size + 1) (w.alloc (.cells #[.slice (some ⟨b, o, none⟩) l.length cap, .int .i64 f, .slice (some ⟨b2, o2, none⟩) m.length cap2] 58)) wr ∧ chkTypes l = chkTypes (l.drop k)) (fun i _ => l.length - (intOf i).toNat)
  case atStart => exact ⟨0, Nat.zero_le _, rfl, Below.refl _ _, rfl⟩
  case round =>
    obtain ⟨k, hk, rfl, hbel, hch⟩ := hrel
    rw [HW0.out] at hbel
    have HCH := Lib.hid hch
    clear hch
    by_cases hlt : k < l.length
    · obtain ⟨x, ex⟩ : ∃ x, l[k] = x := ⟨_, rfl⟩
      have hat := ((HTY.out k hlt).mono hbw hb).mono hbel (by omega)
      have hnx := HNM.out l[k] (List.getElem_mem hlt)
      rw [ex] at hat hnx
      obtain ⟨c0, c1, c2⟩ := hat
      have EX := Lib.hid ex
      clear ex
      cases ho : wiB x.off (-75600) 75600
      · have hr : Hid (R = 1) := by
          have h1 := chkTypes_off l k hlt (by rw [EX.out]; exact ho)
          have h2 : chkTypes l = 1 := by rw [HCH.out, h1]
          have h3 := ht1.out (by rw [h2]; decide)
          show R = 1
          rw [← ER.out, h3, h2]
        go_wp2_with (first | (go_at_call 50; refine (tab_within _ _ _ _).mono ?_; rintro e w' ⟨rfl, rfl⟩))
        go_ret
        exact ⟨ret_int' hr.out.symm, hbw.trans ((hbel.mono (by omega)).alloc (by have := hbel.size; have := HSZ.out; omega) _)⟩
      · cases ha : abbrB x.name
        · have hr : Hid (R = 3) := by
            have h1 := chkTypes_abbr l k hlt (by rw [EX.out]; exact ho) (by rw [EX.out]; exact ha)
            have h2 : chkTypes l = 3 := by rw [HCH.out, h1]
            have h3 := ht1.out (by rw [h2]; decide)
            show R = 3
            rw [← ER.out, h3, h2]
          go_wp2_with (first | (go_at_call 50; refine (tab_within _ _ _ _).mono ?_; rintro e w' ⟨rfl, rfl⟩) | (go_at_call 44; refine (isAbbr_any _ _ hnx).mono ?_; rintro e w' ⟨rfl, rfl⟩))
          go_ret
          exact ⟨ret_int' hr.out.symm, hbw.trans ((hbel.mono (by omega)).alloc (by have := hbel.size; have := HSZ.out; omega) _)⟩
        · have hstep : Hid (chkTypes l = chkTypes (l.drop (k + 1))) := by
            show _ = _
            rw [HCH.out, chkTypes_drop l k hlt (by rw [EX.out]; exact ho) (by rw [EX.out]; exact ha)]
          go_wp2_with (first | (go_at_call 50; refine (tab_within _ _ _ _).mono ?_; rintro e w' ⟨rfl, rfl⟩) | (go_at_call 44; refine (isAbbr_any _ _ hnx).mono ?_; rintro e w' ⟨rfl, rfl⟩))
          go_roundw
          case rel => exact ⟨k + 1, by omega, by go_num, by rw [HW0.out]; exact hbel.alloc (by have := hbel.size; have := HSZ.out; omega) _, hstep.out⟩
          case measure => simp [intOf]; omega
    · obtain rfl : k = l.length := by omega
      have h0 : chkTypes l = 0 := by rw [HCH.out, List.drop_of_length_le (by omega)]; rfl
      have H0 := Lib.hid h0
      clear h0
      have hq0 := ((bcellB hbel).1 w.heap.size 0 (by omega)).trans HQ0.out
      have hq1 := ((bcellB hbel).1 w.heap.size 1 (by omega)).trans HQ1.out
      have hq2 := ((bcellB hbel).1 w.heap.size 2 (by omega)).trans HQ2.out
      cases hfi : wiB f 0 ((l.length : Int) - 1)
      · have hr : Hid (R = 1) := by
          show R = 1
          rw [← ER.out, ht2.out H0.out hfi]
        go_wp2_with (first | (go_at_call 50; refine (tab_within _ _ _ _).mono ?_; rintro e w' ⟨rfl, rfl⟩))
        go_ret
        exact ⟨ret_int' hr.out.symm, hbw.trans (hbel.mono (by omega))⟩
      · have hR : Hid (R = chkChs ((l.length : Int) - 1) none m) := by
          show R = _
          rw [← ER.out, ht3.out H0.out hfi]
        go_wp2_with (first | (go_at_call 50; refine (tab_within _ _ _ _).mono ?_; rintro e w' ⟨rfl, rfl⟩))
        go_loopw [52] (fun i w2 => ∃ k : Nat, k ≤ m.length ∧ i = .int .i64 k ∧ Below (w.heap.size + 1) (w.alloc (.cells #[.slice (some ⟨b, o, none⟩) l.length cap, .int .i64 f, .slice (some ⟨b2, o2, none⟩) m.length cap2] 58)) w2 ∧ chkChs ((l.length : Int) - 1) none m = chkChs ((l.length : Int) - 1) (prevOf m k) (m.drop k)) (fun i _ => m.length - (intOf i).toNat)
        case atStart => exact ⟨0, Nat.zero_le _, rfl, by rw [HW0.out]; exact hbel, rfl⟩
        case round =>
          obtain ⟨k, hk2, rfl, hbel2, hcc⟩ := hrel
          rw [HW0.out] at hbel2
          have HCC := Lib.hid hcc
          clear hcc
          by_cases hlt2 : k < m.length
          · obtain ⟨x, ex⟩ : ∃ x, m[k] = x := ⟨_, rfl⟩
            have hat := ((HC.out k hlt2).mono hbw hb2).mono hbel2 (by omega)
            rw [ex] at hat
            obtain ⟨c0, c1⟩ := hat
            have EX := Lib.hid ex
            clear ex
            have hs2 := hbel2.size
            have hs0 := HSZ.out
            cases ho : wiB x.t (-1099511627776) 1099511627776
            · have hr : Hid (R = 1) := by
                show R = 1
                rw [hR.out, HCC.out, chkChs_bad _ m k hlt2 (by rw [EX.out, okTime_wi, ho]; rfl)]
              go_wp2_with (first | (go_at_call 50; refine (tab_within _ _ _ _).mono ?_; rintro e w' ⟨rfl, rfl⟩))
              go_ret
              exact ⟨ret_int' hr.out.symm, hbw.trans ((hbel2.mono (by omega)).alloc (by omega) _)⟩
            · cases hi : wiB x.k 0 ((l.length : Int) - 1)
              · have hr : Hid (R = 1) := by
                  show R = 1
                  rw [hR.out, HCC.out, chkChs_bad _ m k hlt2 (by rw [EX.out, okTime_wi, ho, okIdx_wi, hi]; rfl)]
                go_wp2_with (first | (go_at_call 50; refine (tab_within _ _ _ _).mono ?_; rintro e w' ⟨rfl, rfl⟩))
                go_ret
                exact ⟨ret_int' hr.out.symm, hbw.trans ((hbel2.mono (by omega)).alloc (by omega) _)⟩
              · have hok : Hid ((okTime x.t && okIdx ((l.length : Int) - 1) x.k) = true) := by show _ = _; rw [okTime_wi, ho, okIdx_wi, hi]; rfl
                cases k with
                | zero =>
                  simp only [Nat.zero_mul, Nat.add_zero] at c0 c1
                  have hstep : Hid (chkChs ((l.length : Int) - 1) none m = chkChs ((l.length : Int) - 1) (prevOf m 1) (m.drop 1)) := by
                    show _ = _
                    rw [HCC.out, chkChs_drop _ m 0 hlt2 (by rw [EX.out]; exact hok.out) rfl]
                  go_wp2_with (first | (go_at_call 50; refine (tab_within _ _ _ _).mono ?_; rintro e w' ⟨rfl, rfl⟩))
                  go_quiet (fail)
                  go_wp2
                  go_roundw
                  case rel => exact ⟨1, by omega, by go_num, by rw [HW0.out]; exact below_drewN' (hbel2.alloc (by omega) _) _, hstep.out⟩
                  case measure => simp [intOf]; omega
                | succ j =>
                  obtain ⟨y, ey⟩ : ∃ y, m[j] = y := ⟨_, rfl⟩
                  have hay := ((HC.out j (by omega)).mono hbw hb2).mono hbel2 (by omega)
                  rw [ey] at hay
                  obtain ⟨y0, y1⟩ := hay
                  have hq2 := ((bcellB hbel2).1 w.heap.size 2 (by omega)).trans HQ2.out
                  have hprev : prevOf m (j + 1) = some y.t := by simp only [prevOf]; rw [List.getElem?_eq_getElem (by omega), ey]; rfl
                  have HP := Lib.hid hprev
                  clear ey hprev
                  have q1 : IntKind.i64.wrap ((j : Int) + 1 - 1) = (j : Int) := by rw [show (j : Int) + 1 - 1 = j by omega]; exact IntWalk.i64_in _ (by omega)
                  have q2 : (j : Int) < (m.length : Int) := by omega
                  have q3 : w.heap.size < wr.heap.size := by omega
                  have q4 : b2 < wr.heap.size := by omega
                  by_cases hle : x.t ≤ y.t
                  · have hr : Hid (R = 5) := by
                      show R = 5
                      rw [hR.out, HCC.out, chkChs_back _ m (j + 1) hlt2 (by rw [EX.out]; exact hok.out) (by rw [HP.out, EX.out]; simpa [before] using hle)]
                    go_wp2_with (first | (go_at_call 50; refine (tab_within _ _ _ _).mono ?_; rintro e w' ⟨rfl, rfl⟩))
                    go_quiet (fail)
                    go_wp2
                    go_ret
                    exact ⟨ret_int' hr.out.symm, hbw.trans (below_drewN' ((hbel2.mono (by omega)).alloc (by omega) _) _)⟩
                  · have hstep : Hid (chkChs ((l.length : Int) - 1) none m = chkChs ((l.length : Int) - 1) (prevOf m (j + 1 + 1)) (m.drop (j + 1 + 1))) := by
                      show _ = _
                      rw [HCC.out, chkChs_drop _ m (j + 1) hlt2 (by rw [EX.out]; exact hok.out) (by rw [HP.out, EX.out]; simpa [before] using hle)]
                    go_wp2_with (first | (go_at_call 50; refine (tab_within _ _ _ _).mono ?_; rintro e w' ⟨rfl, rfl⟩))
                    go_quiet (fail)
                    go_wp2
                    go_roundw
                    case rel => exact ⟨j + 1 + 1, by omega, by go_num, by rw [HW0.out]; exact below_drewN' (hbel2.alloc (by omega) _) _, hstep.out⟩
                    case measure => simp [intOf]; omega
          · obtain rfl : k = m.length := by omega
            have hr : Hid (R = 0) := by show R = 0; rw [hR.out, HCC.out, List.drop_of_length_le (by omega)]; cases prevOf m m.length <;> rfl
            go_wp2
            go_ret
            exact ⟨ret_int' hr.out.symm, hbw.trans (hbel2.mono (by omega))⟩

/-- table.Check, of whatever table. -/
theorem Check_any (t : Tab) (v : Value) (w : World) (hv : TabAt w v t) :
    Calls Tryz.prog 19 #[v] w fun e w' => e = .returned (.int .i64 (chk t)) ∧ Below w.heap.size w w' := by
  cases hbg : big t
  · by_cases hn : t.types = []
    · exact Check_none t v w hv hbg hn
    · obtain ⟨sv, cv, rfl, ⟨⟨p, cap, rfl, hs⟩, hl1, hnm⟩, ⟨⟨p2, cap2, rfl, hc⟩, hl2⟩⟩ := hv.val
      obtain ⟨b, o, rfl, hb, hty⟩ := hs hn
      obtain ⟨l, f, m⟩ := t
      by_cases hm : m = []
      · exact Check_nochs l f m b o cap cap2 p2 w hb hty hnm hbg hn hm
      · obtain ⟨b2, o2, rfl, hb2, hch⟩ := hc hm
        exact Check_chs l f m b o cap b2 o2 cap2 w hb hty hnm hbg hn hb2 hch
  · exact Check_big t v w hv hbg

end Go.Proofs.YtomahddiclkepaaGreatDoor
namespace Go.Proofs.YtomahddiclkepaaGreatDoor
open Go.RowKit
set_option linter.unusedVariables false
set_option linter.unusedSimpArgs false

def tAt (m : List Ch) (i : Nat) : Int := (m[i]?.map (·.t)).getD 0
def kAt (m : List Ch) (i : Nat) : Int := (m[i]?.map (·.k)).getD 0
def tyD (l : List Ty) (k : Int) : Ty := l[k.toNat]?.getD ⟨0, false, ⟨#[]⟩⟩

theorem chkTypes_ok : ∀ (l : List Ty), chkTypes l = 0 → ∀ x ∈ l, okOff x.off = true ∧ abbrB x.name = true
  | [], _, x, hx => by simp at hx
  | y :: r, h, x, hx => by
    unfold chkTypes at h
    split at h
    · split at h
      · rcases List.mem_cons.1 hx with rfl | hx
        · exact ⟨‹_›, ‹_›⟩
        · exact chkTypes_ok r h x hx
      · omega
    · omega

theorem chkChs_ok (last : Int) : ∀ (m : List Ch) (prev : Option Int), chkChs last prev m = 0 →
    (∀ x ∈ m, okTime x.t = true ∧ okIdx last x.k = true) ∧ (∀ p, prev = some p → ∀ x ∈ m, p < x.t) ∧ m.Pairwise (fun a b => a.t < b.t)
  | [], _, _ => ⟨by simp, by simp, List.Pairwise.nil⟩
  | c :: r, prev, h => by
    unfold chkChs at h
    split at h
    · split at h
      · omega
      · rename_i h1 h2
        obtain ⟨i1, i2, i3⟩ := chkChs_ok last r (some c.t) h
        simp only [Bool.and_eq_true] at h1
        have hp : ∀ p, prev = some p → p < c.t := by
          intro p hp
          subst hp
          simpa [before] using h2
        refine ⟨fun x hx => ?_, fun p hpp x hx => ?_, ?_⟩
        · rcases List.mem_cons.1 hx with rfl | hx
          · exact h1
          · exact i1 x hx
        · rcases List.mem_cons.1 hx with rfl | hx
          · exact hp p hpp
          · have := i2 c.t rfl x hx
            have := hp p hpp
            omega
        · exact List.Pairwise.cons (fun x hx => i2 c.t rfl x hx) i3
    · omega

structure OkTab (t : Tab) : Prop where
  ne : t.types ≠ []
  many : t.types.length ≤ 250
  chs : t.chs.length ≤ 1000
  type : ∀ x ∈ t.types, -75600 ≤ x.off ∧ x.off ≤ 75600 ∧ abbrB x.name = true
  first : 0 ≤ t.first ∧ t.first < t.types.length
  ch : ∀ x ∈ t.chs, -1099511627776 ≤ x.t ∧ x.t ≤ 1099511627776 ∧ 0 ≤ x.k ∧ x.k < t.types.length
  rise : t.chs.Pairwise (fun a b => a.t < b.t)

theorem chk_ok (t : Tab) (h : chk t = 0) : OkTab t := by
  unfold chk at h
  split at h
  · omega
  · rename_i hb
    split at h
    · omega
    · rename_i hn
      split at h
      · rename_i ht
        split at h
        · rename_i hf
          obtain ⟨c1, _, c3⟩ := chkChs_ok _ _ _ h
          have hb' : ¬ (250 < t.types.length ∨ 1000 < t.chs.length) := by simpa [big] using hb
          simp only [okIdx, decide_eq_true_eq] at hf
          refine ⟨hn, by omega, by omega, fun x hx => ?_, by omega, fun x hx => ?_, c3⟩
          · have := chkTypes_ok _ ht x hx
            simp only [okOff, decide_eq_true_eq] at this
            exact ⟨this.1.1, this.1.2, this.2⟩
          · have := c1 x hx
            simp only [okTime, okIdx, decide_eq_true_eq] at this
            omega
        · omega
      · exact absurd h ‹_›

theorem tAt_mono (m : List Ch) (h : m.Pairwise (fun a b => a.t < b.t)) (i j : Nat) (hij : i ≤ j) (hj : j < m.length) : tAt m i ≤ tAt m j := by
  unfold tAt
  rw [List.getElem?_eq_getElem hj, List.getElem?_eq_getElem (by omega)]
  by_cases e : i = j
  · subst e; exact Int.le_refl _
  · have := List.pairwise_iff_getElem.1 h i j (by omega) hj (by omega)
    simp; omega

theorem length_sub {α : Type} [DecidableEq α] : ∀ (l m : List α), l.Nodup → (∀ x ∈ l, x ∈ m) → l.length ≤ m.length
  | [], m, _, _ => Nat.zero_le _
  | a :: l, m, hn, hs => by
    rw [List.nodup_cons] at hn
    have ha := hs a (by simp)
    have := length_sub l (m.erase a) hn.2 (fun x hx => (List.mem_erase_of_ne (fun (e : x = a) => hn.1 (by rw [← e]; exact hx))).2 (hs x (by simp [hx])))
    rw [List.length_erase_of_mem ha] at this
    have : 0 < m.length := List.length_pos_of_mem ha
    simp; omega


def cntOf (m : List Ch) (x : Int) : Nat := cntF (fun i => decide (x < tAt m i)) m.length
def kOf (f : Int) (m : List Ch) (x : Int) : Int := if cntOf m x = 0 then f else kAt m (cntOf m x - 1)
def tyOf (t : Tab) (x : Int) : Ty := tyD t.types (kOf t.first t.chs x)

theorem cntOf_le (m : List Ch) (x : Int) : cntOf m x ≤ m.length := by
  unfold cntOf cntF
  have := List.countP_le_length (p := fun i => !decide (x < tAt m i)) (l := List.range m.length)
  simpa using this

end Go.Proofs.YtomahddiclkepaaGreatDoor
namespace Go.Proofs.YtomahddiclkepaaGreatDoor
open Go.RowKit
set_option linter.unusedVariables false
set_option linter.unusedSimpArgs false

set_option maxHeartbeats 1000000 in
theorem Of1_any (bt bx b2 o2 n cap : Nat) (x y : Int) (i : Nat) (W : World) (hi : i < n)
    (ht : W.cell? ⟨bt, 2, none⟩ = some (.slice (some ⟨b2, o2, none⟩) n cap)) (hx : W.cell? ⟨bx, 0, none⟩ = some (.int .i64 x)) (hc : W.cell? ⟨b2, o2 + i * 2, none⟩ = some (.int .i64 y)) :
    Calls Tryz.prog 110 (#[.int .i64 i] ++ #[.pointer (some ⟨bt, 0, none⟩), .pointer (some ⟨bx, 0, none⟩)]) W fun e w' => e = .returned (.bool (decide (x < y))) ∧ Below W.heap.size W w' := by
  have hiz : (i : Int) < (n : Int) := by omega
  go_enter Tryz.func110, Tryz.ntmps110
  go_wp2
  go_quiet (fail)
  go_wp2
  go_ret
  exact ⟨rfl, below_drewN' (Below.refl _ _) _⟩

set_option maxHeartbeats 2000000 in
/-- a table with changes -/
theorem Of_chs (l : List Ty) (f : Nat) (m : List Ch) (x : Int) (b o cap b2 o2 cap2 : Nat) (w : World) (hb : b < w.heap.size) (hty : ∀ i (h : i < l.length), tyAt w b (o + i * 3) l[i])
    (hb2 : b2 < w.heap.size) (hch : ∀ i (h : i < m.length), chAt w b2 (o2 + i * 2) m[i]) (hf : f < l.length) (hk : ∀ i, i < m.length → 0 ≤ kAt m i ∧ kAt m i < l.length) (hsz : m.length ≤ 1000) (hl : l.length ≤ 250)
    (hsort : ∀ i j, i ≤ j → j < m.length → tAt m i ≤ tAt m j) (T : Ty) (hT : tyD l (kOf f m x) = T) :
    Calls Tryz.prog 52 #[.agg #[.slice (some ⟨b, o, none⟩) l.length cap, .int .i64 f, .slice (some ⟨b2, o2, none⟩) m.length cap2], .int .i64 x] w fun e w' => e = .returned (tyV T) ∧ Below w.heap.size w w' := by
  obtain ⟨W0, hW0⟩ : ∃ W0, ((w.alloc (.cells #[.slice (some ⟨b, o, none⟩) l.length cap, .int .i64 f, .slice (some ⟨b2, o2, none⟩) m.length cap2] 58)).alloc (.cells #[.int .i64 x] 3)).alloc (.cells #[.int .i64 0, .bool false, .string ⟨#[]⟩] 51) = W0 := ⟨_, rfl⟩
  have hB0 : Below w.heap.size w W0 := by rw [← hW0]; exact (((Below.refl _ w).alloc (Nat.le_refl _) _).alloc (by simp) _).alloc (by simp; omega) _
  have hS0 : W0.heap.size = w.heap.size + 3 := by rw [← hW0]; simp
  have q2 : W0.cell? ⟨w.heap.size, 2, none⟩ = some (.slice (some ⟨b2, o2, none⟩) m.length cap2) := by rw [← hW0]; simp [go_sem]
  have q0 : W0.cell? ⟨w.heap.size, 0, none⟩ = some (.slice (some ⟨b, o, none⟩) l.length cap) := by rw [← hW0]; simp [go_sem]
  have q1 : W0.cell? ⟨w.heap.size, 1, none⟩ = some (.int .i64 f) := by rw [← hW0]; simp [go_sem]
  have qx : W0.cell? ⟨w.heap.size + 1, 0, none⟩ = some (.int .i64 x) := by rw [← hW0]; simp [go_sem]
  have r0 : W0.cell? ⟨w.heap.size + 1 + 1, 0, none⟩ = some (.int .i64 0) := by rw [← hW0]; simp [go_sem]
  have r1 : W0.cell? ⟨w.heap.size + 1 + 1, 1, none⟩ = some (.bool false) := by rw [← hW0]; simp [go_sem]
  have r2 : W0.cell? ⟨w.heap.size + 1 + 1, 2, none⟩ = some (.string ⟨#[]⟩) := by rw [← hW0]; simp [go_sem]
  have z0 : ∀ j, W0.frozen? ⟨w.heap.size + 1 + 1, j, none⟩ = false := by intro j; rw [← hW0]; simp [go_sem]
  have eg : ∀ args w, (callFunc 110 args).run Tryz.prog w = .ok (.enter 110 args) w := enters_of Tryz.func110 (by kernel_rfl) rfl
  have hS := Search_any 110 #[.pointer (some ⟨w.heap.size, 0, none⟩), .pointer (some ⟨w.heap.size + 1, 0, none⟩)] m.length (fun i => decide (x < tAt m i)) W0 eg (by omega)
    (fun W i hbW hi => Of1_any w.heap.size (w.heap.size + 1) b2 o2 m.length cap2 x (tAt m i) i W hi ((hbW.cell (by show w.heap.size < _; omega)).trans q2) ((hbW.cell (by show w.heap.size + 1 < _; omega)).trans qx)
      ((hbW.cell (by show b2 < _; omega)).trans ((hB0.cell (by exact hb2)).trans (by rw [(hch i hi).1]; simp [tAt, hi]))))
    (fun i j hij hj h => by
      have := hsort i j hij hj
      simp only [decide_eq_true_eq] at h ⊢; omega)
  have hle := cntOf_le m x
  have hcd : cntF (fun i => decide (x < tAt m i)) m.length = cntOf m x := rfl
  rw [hcd] at hS
  obtain ⟨c, hc⟩ : ∃ c, cntOf m x = c := ⟨_, rfl⟩
  rw [hc] at hS hle
  unfold kOf at hT
  rw [hc] at hT
  have HS := Lib.hid hS
  have HW0 := Lib.hid hW0
  have HTY := Lib.hid hty
  have HCH := Lib.hid hch
  have HK := Lib.hid hk
  have HT := Lib.hid hT
  have Q0 := Lib.hid q0
  have Q1 := Lib.hid q1
  have Q2 := Lib.hid q2
  have R0 := Lib.hid r0
  have R1 := Lib.hid r1
  have R2 := Lib.hid r2
  have Z0 := Lib.hid z0
  have S0 := Lib.hid hS0
  clear hS hW0 hty hch hk hsort eg hcd hc hT q0 q1 q2 qx r0 r1 r2 z0 hS0
  cases c with
  | zero =>
    have hT2 : Hid (l[f] = T) := by
      have := HT.out
      rw [if_pos rfl] at this
      show l[f] = T
      rw [← this]; simp [tyD, hf]
    have hat := HTY.out f hf
    rw [hT2.out] at hat
    go_enter Tryz.func52, Tryz.ntmps52
    go_wp2_with fail
    rw [HW0.out]
    refine HS.out.mono ?_
    rintro e w1 ⟨rfl, hb1⟩
    have s0 := S0.out
    obtain ⟨c0, c1, c2⟩ := (hat.mono hB0 hb).mono hb1 (by omega)
    have q0 := (hb1.cell (p := ⟨w.heap.size, 0, none⟩) (by show w.heap.size < _; omega)).trans Q0.out
    have q1 := (hb1.cell (p := ⟨w.heap.size, 1, none⟩) (by show w.heap.size < _; omega)).trans Q1.out
    have r0 := (hb1.cell (p := ⟨w.heap.size + 1 + 1, 0, none⟩) (by show w.heap.size + 1 + 1 < _; omega)).trans R0.out
    have r1 := (hb1.cell (p := ⟨w.heap.size + 1 + 1, 1, none⟩) (by show w.heap.size + 1 + 1 < _; omega)).trans R1.out
    have r2 := (hb1.cell (p := ⟨w.heap.size + 1 + 1, 2, none⟩) (by show w.heap.size + 1 + 1 < _; omega)).trans R2.out
    have f0 := (hb1.frozen (p := ⟨w.heap.size + 1 + 1, 0, none⟩) (by show w.heap.size + 1 + 1 < _; omega)).trans (Z0.out 0)
    have f1 := (hb1.frozen (p := ⟨w.heap.size + 1 + 1, 1, none⟩) (by show w.heap.size + 1 + 1 < _; omega)).trans (Z0.out 1)
    have f2 := (hb1.frozen (p := ⟨w.heap.size + 1 + 1, 2, none⟩) (by show w.heap.size + 1 + 1 < _; omega)).trans (Z0.out 2)
    have hB1 := hB0.trans (hb1.mono (by omega))
    have HB1 := Lib.hid hB1
    clear hb1 hB1 s0
    go_wp2
    refine bodyPost_ret (v := tyV T) (by simp [results, Tryz.results52, go_sem, r0, r1, r2]) rfl ⟨rfl, ?_⟩
    exact ((HB1.out.setCell (by simp; omega) _).setCell (by simp; omega) _).setCell (by simp; omega) _
  | succ c =>
    have hcm : c < m.length := by omega
    have hk2 := HK.out c hcm
    obtain ⟨kn, hkn⟩ := Int.eq_ofNat_of_zero_le hk2.1
    rw [hkn] at hk2
    have hkl : kn < l.length := by omega
    have hT2 : Hid (l[kn] = T) := by
      have := HT.out
      rw [if_neg (by omega), Nat.add_sub_cancel, hkn] at this
      show l[kn] = T
      rw [← this]; simp [tyD, hkl]
    have ek : m[c].k = kn := by rw [← hkn]; simp [kAt, hcm]
    have EK := Lib.hid ek
    have hat := HTY.out kn hkl
    rw [hT2.out] at hat
    have hac := HCH.out c hcm
    have p1 : IntKind.i64.wrap ((c : Int) + 1 - 1) = (c : Int) := by rw [show (c : Int) + 1 - 1 = c by omega]; exact IntWalk.i64_in _ (by omega)
    have p2 : (c : Int) < (m.length : Int) := by omega
    have p3 : (kn : Int) < (l.length : Int) := by omega
    have p4 : (((c : Int) + 1) == 0) = false := by simp; omega
    clear hk2 hkn ek
    go_enter Tryz.func52, Tryz.ntmps52
    go_wp2_with fail
    rw [HW0.out]
    refine HS.out.mono ?_
    rintro e w1 ⟨rfl, hb1⟩
    have s0 := S0.out
    obtain ⟨c0, c1, c2⟩ := (hat.mono hB0 hb).mono hb1 (by omega)
    have d1 := (hac.mono hB0 hb2).mono hb1 (by omega)
    have d2 := d1.2
    rw [EK.out] at d2
    clear d1
    have q2 := (hb1.cell (p := ⟨w.heap.size, 2, none⟩) (by show w.heap.size < _; omega)).trans Q2.out
    have q0 := (hb1.cell (p := ⟨w.heap.size, 0, none⟩) (by show w.heap.size < _; omega)).trans Q0.out
    have q1 := (hb1.cell (p := ⟨w.heap.size, 1, none⟩) (by show w.heap.size < _; omega)).trans Q1.out
    have r0 := (hb1.cell (p := ⟨w.heap.size + 1 + 1, 0, none⟩) (by show w.heap.size + 1 + 1 < _; omega)).trans R0.out
    have r1 := (hb1.cell (p := ⟨w.heap.size + 1 + 1, 1, none⟩) (by show w.heap.size + 1 + 1 < _; omega)).trans R1.out
    have r2 := (hb1.cell (p := ⟨w.heap.size + 1 + 1, 2, none⟩) (by show w.heap.size + 1 + 1 < _; omega)).trans R2.out
    have f0 := (hb1.frozen (p := ⟨w.heap.size + 1 + 1, 0, none⟩) (by show w.heap.size + 1 + 1 < _; omega)).trans (Z0.out 0)
    have f1 := (hb1.frozen (p := ⟨w.heap.size + 1 + 1, 1, none⟩) (by show w.heap.size + 1 + 1 < _; omega)).trans (Z0.out 1)
    have f2 := (hb1.frozen (p := ⟨w.heap.size + 1 + 1, 2, none⟩) (by show w.heap.size + 1 + 1 < _; omega)).trans (Z0.out 2)
    have hB1 := hB0.trans (hb1.mono (by omega))
    have HB1 := Lib.hid hB1
    clear hb1 hB1 s0
    rw [show (((c + 1 : Nat)) : Int) = (c : Int) + 1 by omega]
    go_wp2
    go_region
    all_goals
      go_wp2
      refine bodyPost_ret (v := tyV T) (by simp [results, Tryz.results52, go_sem, r0, r1, r2]) rfl ⟨rfl, ?_⟩
      exact ((HB1.out.drew.setCell (by simp; omega) _).setCell (by simp; omega) _).setCell (by simp; omega) _

set_option maxHeartbeats 2000000 in
/-- a table without changes -/
theorem Of_nochs (l : List Ty) (f : Nat) (x : Int) (b o cap cap2 : Nat) (p2 : Option Addr) (w : World) (hb : b < w.heap.size) (hty : ∀ i (h : i < l.length), tyAt w b (o + i * 3) l[i])
    (hf : f < l.length) (hl : l.length ≤ 250) (T : Ty) (hT : tyD l f = T) :
    Calls Tryz.prog 52 #[.agg #[.slice (some ⟨b, o, none⟩) l.length cap, .int .i64 f, .slice p2 0 cap2], .int .i64 x] w fun e w' => e = .returned (tyV T) ∧ Below w.heap.size w w' := by
  obtain ⟨W0, hW0⟩ : ∃ W0, ((w.alloc (.cells #[.slice (some ⟨b, o, none⟩) l.length cap, .int .i64 f, .slice p2 0 cap2] 58)).alloc (.cells #[.int .i64 x] 3)).alloc (.cells #[.int .i64 0, .bool false, .string ⟨#[]⟩] 51) = W0 := ⟨_, rfl⟩
  have hB0 : Below w.heap.size w W0 := by rw [← hW0]; exact (((Below.refl _ w).alloc (Nat.le_refl _) _).alloc (by simp) _).alloc (by simp; omega) _
  have hS0 : W0.heap.size = w.heap.size + 3 := by rw [← hW0]; simp
  have q2 : W0.cell? ⟨w.heap.size, 2, none⟩ = some (.slice p2 0 cap2) := by rw [← hW0]; simp [go_sem]
  have q0 : W0.cell? ⟨w.heap.size, 0, none⟩ = some (.slice (some ⟨b, o, none⟩) l.length cap) := by rw [← hW0]; simp [go_sem]
  have q1 : W0.cell? ⟨w.heap.size, 1, none⟩ = some (.int .i64 f) := by rw [← hW0]; simp [go_sem]
  have qx : W0.cell? ⟨w.heap.size + 1, 0, none⟩ = some (.int .i64 x) := by rw [← hW0]; simp [go_sem]
  have r0 : W0.cell? ⟨w.heap.size + 1 + 1, 0, none⟩ = some (.int .i64 0) := by rw [← hW0]; simp [go_sem]
  have r1 : W0.cell? ⟨w.heap.size + 1 + 1, 1, none⟩ = some (.bool false) := by rw [← hW0]; simp [go_sem]
  have r2 : W0.cell? ⟨w.heap.size + 1 + 1, 2, none⟩ = some (.string ⟨#[]⟩) := by rw [← hW0]; simp [go_sem]
  have z0 : ∀ j, W0.frozen? ⟨w.heap.size + 1 + 1, j, none⟩ = false := by intro j; rw [← hW0]; simp [go_sem]
  have eg : ∀ args w, (callFunc 110 args).run Tryz.prog w = .ok (.enter 110 args) w := enters_of Tryz.func110 (by kernel_rfl) rfl
  have hS := Search_any 110 #[.pointer (some ⟨w.heap.size, 0, none⟩), .pointer (some ⟨w.heap.size + 1, 0, none⟩)] 0 (fun i => true) W0 eg (by omega) (fun W i hbW hi => absurd hi (by omega)) (fun i j hij hj h => absurd hj (by omega))
  have hcd : cntF (fun i => true) 0 = 0 := rfl
  rw [hcd] at hS
  have HS := Lib.hid hS
  have HW0 := Lib.hid hW0
  have HTY := Lib.hid hty
  have HT := Lib.hid hT
  have Q0 := Lib.hid q0
  have Q1 := Lib.hid q1
  have R0 := Lib.hid r0
  have R1 := Lib.hid r1
  have R2 := Lib.hid r2
  have Z0 := Lib.hid z0
  have S0 := Lib.hid hS0
  clear hS hW0 hty eg hcd hT q0 q1 q2 qx r0 r1 r2 z0 hS0
  have hT2 : Hid (l[f] = T) := by
    show l[f] = T
    rw [← HT.out]; simp [tyD, hf]
  have hat := HTY.out f hf
  rw [hT2.out] at hat
  go_enter Tryz.func52, Tryz.ntmps52
  go_wp2_with fail
  rw [HW0.out]
  refine HS.out.mono ?_
  rintro e w1 ⟨rfl, hb1⟩
  have s0 := S0.out
  obtain ⟨c0, c1, c2⟩ := (hat.mono hB0 hb).mono hb1 (by omega)
  have q0 := (hb1.cell (p := ⟨w.heap.size, 0, none⟩) (by show w.heap.size < _; omega)).trans Q0.out
  have q1 := (hb1.cell (p := ⟨w.heap.size, 1, none⟩) (by show w.heap.size < _; omega)).trans Q1.out
  have r0 := (hb1.cell (p := ⟨w.heap.size + 1 + 1, 0, none⟩) (by show w.heap.size + 1 + 1 < _; omega)).trans R0.out
  have r1 := (hb1.cell (p := ⟨w.heap.size + 1 + 1, 1, none⟩) (by show w.heap.size + 1 + 1 < _; omega)).trans R1.out
  have r2 := (hb1.cell (p := ⟨w.heap.size + 1 + 1, 2, none⟩) (by show w.heap.size + 1 + 1 < _; omega)).trans R2.out
  have f0 := (hb1.frozen (p := ⟨w.heap.size + 1 + 1, 0, none⟩) (by show w.heap.size + 1 + 1 < _; omega)).trans (Z0.out 0)
  have f1 := (hb1.frozen (p := ⟨w.heap.size + 1 + 1, 1, none⟩) (by show w.heap.size + 1 + 1 < _; omega)).trans (Z0.out 1)
  have f2 := (hb1.frozen (p := ⟨w.heap.size + 1 + 1, 2, none⟩) (by show w.heap.size + 1 + 1 < _; omega)).trans (Z0.out 2)
  have hB1 := hB0.trans (hb1.mono (by omega))
  have HB1 := Lib.hid hB1
  clear hb1 hB1 s0
  go_wp2
  refine bodyPost_ret (v := tyV T) (by simp [results, Tryz.results52, go_sem, r0, r1, r2]) rfl ⟨rfl, ?_⟩
  exact ((HB1.out.setCell (by simp; omega) _).setCell (by simp; omega) _).setCell (by simp; omega) _

end Go.Proofs.YtomahddiclkepaaGreatDoor
namespace Go.Proofs.YtomahddiclkepaaGreatDoor
open Go.RowKit
set_option linter.unusedVariables false
set_option linter.unusedSimpArgs false

theorem Of_any (t : Tab) (v : Value) (x : Int) (w : World) (hv : TabAt w v t) (hok : chk t = 0) :
    Calls Tryz.prog 52 #[v, .int .i64 x] w fun e w' => e = .returned (tyV (tyOf t x)) ∧ Below w.heap.size w w' := by
  have ok := chk_ok t hok
  obtain ⟨sv, cv, rfl, ⟨⟨p, cap, rfl, hs⟩, hl1, hnm⟩, ⟨⟨p2, cap2, rfl, hc⟩, hl2⟩⟩ := hv.val
  obtain ⟨b, o, rfl, hb, hty⟩ := hs ok.ne
  obtain ⟨l, f, m⟩ := t
  obtain ⟨h1, h2, h3, h4, h5, h6, h7⟩ := ok
  dsimp only at h1 h2 h3 h4 h5 h6 h7 hs hc hty hl1 hl2 hnm ⊢
  obtain ⟨fn, hfn⟩ := Int.eq_ofNat_of_zero_le h5.1
  subst hfn
  by_cases hm : m = []
  · subst hm
    exact Of_nochs l fn x b o cap cap2 p2 w hb hty (by omega) h2 _ rfl
  · obtain ⟨b2, o2, rfl, hb2, hch⟩ := hc hm
    exact Of_chs l fn m x b o cap b2 o2 cap2 w hb hty hb2 hch (by omega) (fun i hi => by
      have := h6 m[i] (List.getElem_mem hi)
      simp [kAt, hi]; omega) h3 h2 (fun i j hij hj => tAt_mono m h7 i j hij hj) _ rfl

theorem TabAt.parts {w : World} {v : Value} {t : Tab} (h : TabAt w v t) : ∃ sv cv, v = .agg #[sv, .int .i64 t.first, cv] := by
  obtain ⟨sv, cv, hv, _, _⟩ := h.val
  exact ⟨sv, cv, hv⟩
end Go.Proofs.YtomahddiclkepaaGreatDoor
namespace Go.Proofs.YtomahddiclkepaaGreatDoor
open Go.RowKit Go.Joins
set_option linter.unusedVariables false
set_option linter.unusedSimpArgs false

theorem box3 {w W0 : World} {a b c : Value} {T : TypeId} (h : w.alloc (.cells #[a, b, c] T) = W0) :
    Below w.heap.size w W0 ∧ W0.heap.size = w.heap.size + 1 ∧ W0.cell? ⟨w.heap.size, 0, none⟩ = some a ∧ W0.cell? ⟨w.heap.size, 1, none⟩ = some b ∧ W0.cell? ⟨w.heap.size, 2, none⟩ = some c := by
  subst h
  exact ⟨(Below.refl _ _).alloc (Nat.le_refl _) _, by simp, by simp [go_sem], by simp [go_sem], by simp [go_sem]⟩

end Go.Proofs.YtomahddiclkepaaGreatDoor
namespace Go.Proofs.YtomahddiclkepaaGreatDoor
open Go.RowKit
set_option linter.unusedVariables false
set_option linter.unusedSimpArgs false

theorem tyOf_off (t : Tab) (x : Int) (ok : OkTab t) : -75600 ≤ (tyOf t x).off ∧ (tyOf t x).off ≤ 75600 := by
  have hd : ∀ k : Int, -75600 ≤ (tyD t.types k).off ∧ (tyD t.types k).off ≤ 75600 := by
    intro k
    unfold tyD
    cases h : t.types[k.toNat]? with
    | none => simp
    | some y => have := ok.type y (List.mem_of_getElem? h); simp; omega
  exact hd _

end Go.Proofs.YtomahddiclkepaaGreatDoor
