/- The last step of a law's row where of the new world 'Below' alone is known. (A lemma that the guide gives to copy.) All arguments of a law read behind the call as before it, where of old memory nothing has turned. rule.all, rule.IsAbbr: what each returns. Condition: the text within the form's own reach. Tables in plain Lean: what they hold, and what table.Check says of them. table.within and table.Check: what each returns. table.Check of a table that has types and is not too large: what it returns. What a table that may be has: plain facts. Normal tables: plain Lean, but for what they say at a time. Rows of one's own: what keeps them, their cells. A type's comparison. Types and changes in memory of one's own; their comparison; slices.Index and slices.Equal of them. -/
import Derived.Test.YtomahddiclkepaaDoorRows
import Derived.WalkKit
import Derived.ProofKit
import Derived.OpenShut
import Derived.Below
import Derived.ChangeSame
import Derived.Carry
import Derived.Lib.SmallJoins
import Derived.WalkSpells
import Derived.WalkLawsBesides
import Derived.Lib.Hide
import Derived.Lib.IndexAny
import Derived.Deep.QuietTactic
import Derived.BigQuiet
import Derived.Test.YtomahddiclkepaaDoorShelf
import Derived.OwnWalk
import Derived.Laws.NewBlocks
import Derived.Laws.OwnMore
import Derived.Laws.StructEq
import Derived.Deep.RegionLaw
import Derived.Deep.RegionHeld3
import Derived.Deep.AppendLies
namespace Go.Proofs.YtomahddiclkepaaDoor
open Go.ChangeShapes Go.WideShapes Go.ChangeAt Go.RowKit
set_option linter.unusedVariables false
theorem own : ownKnob Tryd.prog.godebug = none := by kernel_rfl
section
variable {H : Type} {enc : TypeId × Value → H} {P : Program}
theorem post_of_below {f : Func} {s : ChangeSpec} {apart fresh handsOn again : Bool} {W W' : World} {args : Array Value} {v : Value} {ds gs : List (DataW H)} {before pa pv : List MemPlace}
 (hW : DataW.Whole enc P f.params.toList s.vars apart W args.toList ds gs before)
 (hres : ∀ (b : Nat) (sp : Nat → Bool) (hd : Bool), DataW.TrodAll enc P W' b sp hd f.resultTypes.toList (v.resultList f.resultTypes.size) (s.fn H (ds ++ gs)).results [])
 (hargs : ∀ sp : Nat → Bool, (∀ p ∈ before, sp p.block = true) → DataW.TrodAll enc P W' 0 sp true f.params.toList args.toList (s.fn H (ds ++ gs)).args pa)
 (hvars : ∀ sp : Nat → Bool, (∀ p ∈ before, sp p.block = true) → DataW.TrodVars enc P W' sp s.vars (s.fn H (ds ++ gs)).vars pv)
 (hps : before = pa ++ pv) (hb : Below W.heap.size W W')
 (hok : ∀ (j : Nat) (t : TypeId) (r : Value), f.resultTypes[j]? = some t → (v.resultList f.resultTypes.size)[j]? = some r → Value.okWide P W' .any 0 t r) :
 s.post enc P f apart fresh handsOn again W args v W' := by
 have hlt : ∀ p ∈ before, p.block < W.heap.size := fun p hp => hW.lt p hp
 have hold : ∀ p ∈ before, (fun b => decide (b < W.heap.size)) p.block = true := fun p hp => by simpa using hlt p hp
 refine ⟨ds, gs, before, [], pa, pv, hW, hres _ _ _, hargs _ hold, hvars _ hold, World.keptBut_mono (fun p hp => ⟨hp, ?_⟩) (hb.frame (· ∈ before)), fun _ => ?_⟩
 ·rw [hps, List.mem_append] at hp
  exact Or.inr hp
 ·obtain ⟨_, _, _, _, _, hz, hn⟩ := hW
  refine ⟨hok, _, _, ([] ++ pa) ++ pv, ⟨[] ++ pa, pv, trodAll_append (hargs _ (fun _ _ => rfl)) (hres _ _ _), hvars _ (fun _ _ => rfl), rfl, ?_, ?_⟩, ?_⟩
  ·intro b off hp
   have hin : MemPlace.cell b off ∈ before := by rw [hps]; simpa using hp
   rw [hb.frozen (hlt _ hin)]
   exact hz b off hin
  ·intro ha
   have := hn ha
   rw [hps] at this
   simpa using this
  ·intro p hp _
   rw [hps]
   simpa using hp
end
end Go.Proofs.YtomahddiclkepaaDoor
namespace Go.Proofs.YtomahddiclkepaaDoor
open Go.ChangeShapes Go.WideShapes Go.ChangeAt Go.RowKit
set_option linter.unusedVariables false
theorem laidOut : laidOutB Tryd.prog = true := by kernel_rfl
theorem trodAll_stays {H : Type} {enc : TypeId × Value → H} {P : Program} {W W' : World} {sp : Nat → Bool} (hl : laidOutB P = true) (hb : Below W.heap.size W W') :
 ∀ (ts : List TypeId) (vs : List Value) (ds : List (DataW H)) (ps : List MemPlace), (ts.all fun t => P.readableRec t && decide (t < P.types.size)) = true → (∀ p ∈ ps, p.block < W.heap.size) → (∀ p ∈ ps, sp p.block = true) →
  DataW.TrodAll enc P W 0 (fun _ => true) true ts vs ds ps → DataW.TrodAll enc P W' 0 sp true ts vs ds ps
 | [], [], [], _, _, _, _, h => h
 | t :: ts, v :: vs, d :: ds, ps, hts, hlt, hsp, ⟨p, q, h1, h2, e⟩ => by
  simp only [List.all_cons, Bool.and_eq_true, decide_eq_true_eq] at hts
  refine ⟨p, q, ?_, trodAll_stays hl hb ts vs ds q hts.2 (fun x hx => hlt x (by rw [e]; exact List.mem_append_right _ hx)) (fun x hx => hsp x (by rw [e]; exact List.mem_append_right _ hx)) h2, e⟩
  exact WideElems.Trod_stays hl hts.1.1 hts.1.2 h1 (fun x hx => hb.same (hlt x (by rw [e]; exact List.mem_append_left _ hx))) (fun x hx => hsp x (by rw [e]; exact List.mem_append_left _ hx))
 | [], [], _ :: _, _, _, _, _, h => h.elim
 | [], _ :: _, _, _, _, _, _, h => h.elim
 | _ :: _, [], _, _, _, _, _, h => h.elim
 | _ :: _, _ :: _, [], _, _, _, _, h => h.elim
end Go.Proofs.YtomahddiclkepaaDoor
namespace Go.Proofs.YtomahddiclkepaaDoor
open Go.RowKit
set_option linter.unusedVariables false
set_option linter.unusedSimpArgs false
theorem ret_int' {k : IntKind} {a b : Int} (h : a = b) : Ending.returned (.int k a) = .returned (.int k b) := by rw [h]
theorem ret_bool' {a b : Bool} (h : a = b) : Ending.returned (.bool a) = .returned (.bool b) := by rw [h]
def letterB (c : Int) : Bool := decide (97 ≤ c ∧ c ≤ 122 ∨ 65 ≤ c ∧ c ≤ 90)
def digitB (c : Int) : Bool := decide (48 ≤ c ∧ c ≤ 57)
theorem isLetter_any (c : Int) (w : World) :
 Calls Tryd.prog 43 #[.int .u8 c] w fun e w' => e = .returned (.bool (letterB c)) ∧ w = w' := by
 by_cases h1 : 97 ≤ c <;> by_cases h2 : c ≤ 122 <;> by_cases h3 : 65 ≤ c <;> by_cases h4 : c ≤ 90 <;>
 first
 | omega
 | (go_enter Tryd.func43, Tryd.ntmps43
    go_wp2
    go_ret
    exact ⟨ret_bool' (by simp [letterB, h1, h2, h3, h4]), rfl⟩)
theorem isDigit_any (c : Int) (w : World) :
 Calls Tryd.prog 44 #[.int .u8 c] w fun e w' => e = .returned (.bool (digitB c)) ∧ w = w' := by
 by_cases h1 : 48 ≤ c <;> by_cases h2 : c ≤ 57 <;>
 ·go_enter Tryd.func44, Tryd.ntmps44
  go_wp2
  go_ret
  exact ⟨ret_bool' (by simp [digitB, h1, h2]), rfl⟩
def signB (others : List UInt8) (c : UInt8) : Bool := letterB c.toNat || digitB c.toNat || others.contains c
def allB (s : ByteArray) (most : Int) (others : ByteArray) : Bool := s.data.toList.all (signB others.data.toList) && (!s.data.toList.isEmpty) && decide ((s.size : Int) ≤ most)
theorem drop_at (s : ByteArray) (k : Nat) (h : k < s.size) : s.data.toList.drop k = s[k] :: s.data.toList.drop (k + 1) := by
 rw [List.drop_eq_getElem_cons (by simpa using h)]; rfl
theorem extract_one (s : ByteArray) (k : Nat) (h : k < s.size) : s.extract k (k + 1) = ⟨#[s[k]]⟩ := by
 apply ByteArray.ext
 apply Array.toList_inj.1
 rw [Lib.extract_data]
 simp only [Nat.add_sub_cancel_left]
 rw [drop_at s k h]; rfl
set_option maxHeartbeats 1000000 in
theorem all_any (s others : ByteArray) (most : Int) (w : World) (hs : s.size ≤ maxLen) :
 Calls Tryd.prog 29 #[.string s, .int .i64 most, .string others] w fun e w' => e = .returned (.bool (allB s most others)) ∧ w = w' := by
 unfold maxLen at hs
 go_enter Tryd.func29, Tryd.ntmps29
 go_wp2
 go_loop [10] (fun t => ∃ k : Nat, k ≤ s.size ∧ t = .int .i64 k ∧ s.data.toList.all (signB others.data.toList) = (s.data.toList.drop k).all (signB others.data.toList)) (fun t => s.size - (intOf t).toNat)
 case atStart => exact ⟨0, Nat.zero_le _, rfl, rfl⟩
 case round =>
  obtain ⟨k, hk, rfl, hall⟩ := hrel
  have HA := Lib.hid hall
  clear hall
  by_cases hlt : k < s.size
  ·have hd := Lib.hid (drop_at s k hlt)
   have he := Lib.hid (extract_one s k hlt)
   cases h1 : letterB (s[k].toNat : Int)
   ·cases h2 : digitB (s[k].toNat : Int)
    ·cases h3 : decide (0 ≤ Lib.indexByte others.data.toList s[k])
     ·have hf : Hid (signB others.data.toList s[k] = false) := by
       show signB _ _ = false
       unfold signB; rw [h1, h2, Lib.contains_iff_indexByte, h3]; rfl
      go_wp2_with (first | (go_at_call 43; refine (isLetter_any _ _).mono ?_; rintro e w' ⟨rfl, rfl⟩) | (go_at_call 44; refine (isDigit_any _ _).mono ?_; rintro e w' ⟨rfl, rfl⟩) | (go_at_call 45; rw [he.out]; refine (Tryd.strings_Contains_one _ _ _).mono ?_; rintro e w' ⟨rfl, rfl⟩))
      go_ret
      exact ⟨ret_bool' (by unfold allB; rw [HA.out, hd.out, List.all_cons, hf.out]; rfl), rfl⟩
     ·have hf : Hid (signB others.data.toList s[k] = true) := by
       show signB _ _ = true
       unfold signB; rw [h1, h2, Lib.contains_iff_indexByte, h3]; rfl
      go_wp2_with (first | (go_at_call 43; refine (isLetter_any _ _).mono ?_; rintro e w' ⟨rfl, rfl⟩) | (go_at_call 44; refine (isDigit_any _ _).mono ?_; rintro e w' ⟨rfl, rfl⟩) | (go_at_call 45; rw [he.out]; refine (Tryd.strings_Contains_one _ _ _).mono ?_; rintro e w' ⟨rfl, rfl⟩))
      go_round
      case rel => exact ⟨k + 1, by omega, by go_num, by rw [HA.out, hd.out, List.all_cons, hf.out, Bool.true_and]⟩
      case measure => simp [intOf]; omega
    ·have hf : Hid (signB others.data.toList s[k] = true) := by
      show signB _ _ = true
      unfold signB; rw [h1, h2]; rfl
     go_wp2_with (first | (go_at_call 43; refine (isLetter_any _ _).mono ?_; rintro e w' ⟨rfl, rfl⟩) | (go_at_call 44; refine (isDigit_any _ _).mono ?_; rintro e w' ⟨rfl, rfl⟩))
     go_round
     case rel => exact ⟨k + 1, by omega, by go_num, by rw [HA.out, hd.out, List.all_cons, hf.out, Bool.true_and]⟩
     case measure => simp [intOf]; omega
   ·have hf : Hid (signB others.data.toList s[k] = true) := by
     show signB _ _ = true
     unfold signB; rw [h1]; rfl
    go_wp2_with (first | (go_at_call 43; refine (isLetter_any _ _).mono ?_; rintro e w' ⟨rfl, rfl⟩))
    go_round
    case rel => exact ⟨k + 1, by omega, by go_num, by rw [HA.out, hd.out, List.all_cons, hf.out, Bool.true_and]⟩
    case measure => simp [intOf]; omega
  ·obtain rfl : k = s.size := by omega
   have hall : s.data.toList.all (signB others.data.toList) = true := by rw [HA.out, List.drop_of_length_le (by simp)]; rfl
   have HT := Lib.hid hall
   clear hall
   by_cases he : s.toList = []
   ·have hE : Hid (s.data.toList = []) := by show _ = _; rw [← ByteArray.toList_eq, he]
    go_wp2
    go_ret
    exact ⟨ret_bool' (by unfold allB; rw [hE.out]; rfl), rfl⟩
   ·have he2 : s.toList.isEmpty = false := by simpa using he
    have hE : Hid (s.data.toList.isEmpty = false) := by show _ = _; rw [← ByteArray.toList_eq, he2]
    by_cases hm : (s.size : Int) ≤ most
    ·go_wp2
     go_ret
     exact ⟨ret_bool' (by unfold allB; rw [HT.out, hE.out, decide_eq_true hm]; simp [he2]), rfl⟩
    ·go_wp2
     go_ret
     exact ⟨ret_bool' (by unfold allB; rw [HT.out, hE.out, decide_eq_false (by omega)]; simp [he2]), rfl⟩
def abbrB (s : ByteArray) : Bool := allB s 8 ⟨#[43, 45]⟩
theorem isAbbr_any (s : ByteArray) (w : World) (hs : s.size ≤ maxLen) :
 Calls Tryd.prog 23 #[.string s] w fun e w' => e = .returned (.bool (abbrB s)) ∧ w = w' := by
 go_enter Tryd.func23, Tryd.ntmps23
 go_wp2_with fail
 refine (all_any _ _ _ _ hs).mono ?_
 rintro e w' ⟨rfl, rfl⟩
 go_wp2
 go_ret
 exact ⟨rfl, rfl⟩
end Go.Proofs.YtomahddiclkepaaDoor
namespace Go.Proofs.YtomahddiclkepaaDoor
open Go.RowKit
set_option linter.unusedVariables false
structure Ty where
 off : Int
 save : Bool
 name : ByteArray
abbrev tyV (x : Ty) : Value := .agg #[.int .i64 x.off, .bool x.save, .string x.name]
structure Ch where
 t : Int
 k : Int
structure Tab where
 types : List Ty
 first : Int
 chs : List Ch
def okOff (x : Int) : Bool := decide (-75600 ≤ x ∧ x ≤ 75600)
def okTime (x : Int) : Bool := decide (-1099511627776 ≤ x ∧ x ≤ 1099511627776)
def okIdx (last x : Int) : Bool := decide (0 ≤ x ∧ x ≤ last)
def chkTypes : List Ty → Int
 | [] => 0
 | x :: r => if okOff x.off = true then (if abbrB x.name = true then chkTypes r else 3) else 1
def before (prev : Option Int) (x : Int) : Bool := match prev with
 | some p => decide (x ≤ p)
 | none => false
def chkChs (last : Int) : Option Int → List Ch → Int
 | _, [] => 0
 | prev, c :: r => if (okTime c.t && okIdx last c.k) = true then (if before prev c.t = true then 5 else chkChs last (some c.t) r) else 1
def big (t : Tab) : Bool := decide (250 < t.types.length ∨ 1000 < t.chs.length)
def chk (t : Tab) : Int :=
 if big t = true then 2 else
 if t.types = [] then 5 else
 if chkTypes t.types = 0 then (if okIdx ((t.types.length : Int) - 1) t.first = true then chkChs ((t.types.length : Int) - 1) none t.chs else 1) else chkTypes t.types
def prevOf (l : List Ch) : Nat → Option Int
 | 0 => none
 | k + 1 => (l[k]?).map (·.t)
def tyAt (w : World) (b o : Nat) (x : Ty) : Prop :=
 w.cell? ⟨b, o, none⟩ = some (.int .i64 x.off) ∧ w.cell? ⟨b, o + 1, none⟩ = some (.bool x.save) ∧ w.cell? ⟨b, o + 2, none⟩ = some (.string x.name)
def chAt (w : World) (b o : Nat) (x : Ch) : Prop :=
 w.cell? ⟨b, o, none⟩ = some (.int .i64 x.t) ∧ w.cell? ⟨b, o + 1, none⟩ = some (.int .i64 x.k)
structure SlTy (w : World) (v : Value) (l : List Ty) : Prop where
 shape : ∃ p cap, v = .slice p l.length cap ∧ (l ≠ [] → ∃ b o, p = some ⟨b, o, none⟩ ∧ b < w.heap.size ∧ ∀ i (h : i < l.length), tyAt w b (o + i * 3) l[i])
 size : l.length ≤ maxLen
 names : ∀ x ∈ l, x.name.size ≤ maxLen
structure SlCh (w : World) (v : Value) (l : List Ch) : Prop where
 shape : ∃ p cap, v = .slice p l.length cap ∧ (l ≠ [] → ∃ b o, p = some ⟨b, o, none⟩ ∧ b < w.heap.size ∧ ∀ i (h : i < l.length), chAt w b (o + i * 2) l[i])
 size : l.length ≤ maxLen
structure TabAt (w : World) (v : Value) (t : Tab) : Prop where
 val : ∃ sv cv, v = .agg #[sv, .int .i64 t.first, cv] ∧ SlTy w sv t.types ∧ SlCh w cv t.chs
theorem tyAt.below {w w' : World} {b o : Nat} {x : Ty} (h : tyAt w b o x) (hb : Below w.heap.size w w') (hlt : b < w.heap.size) : tyAt w' b o x :=
 ⟨(hb.cell (p := ⟨b, o, none⟩) hlt).trans h.1, (hb.cell (p := ⟨b, o + 1, none⟩) hlt).trans h.2.1, (hb.cell (p := ⟨b, o + 2, none⟩) hlt).trans h.2.2⟩
theorem chAt.below {w w' : World} {b o : Nat} {x : Ch} (h : chAt w b o x) (hb : Below w.heap.size w w') (hlt : b < w.heap.size) : chAt w' b o x :=
 ⟨(hb.cell (p := ⟨b, o, none⟩) hlt).trans h.1, (hb.cell (p := ⟨b, o + 1, none⟩) hlt).trans h.2⟩
theorem SlTy.below {w w' : World} {v : Value} {l : List Ty} (h : SlTy w v l) (hb : Below w.heap.size w w') : SlTy w' v l := by
 obtain ⟨⟨p, cap, hv, hc⟩, h2, h3⟩ := h
 refine ⟨⟨p, cap, hv, fun hne => ?_⟩, h2, h3⟩
 obtain ⟨b, o, hp, hlt, hat⟩ := hc hne
 exact ⟨b, o, hp, Nat.lt_of_lt_of_le hlt hb.size, fun i h => (hat i h).below hb hlt⟩
theorem SlCh.below {w w' : World} {v : Value} {l : List Ch} (h : SlCh w v l) (hb : Below w.heap.size w w') : SlCh w' v l := by
 obtain ⟨⟨p, cap, hv, hc⟩, h2⟩ := h
 refine ⟨⟨p, cap, hv, fun hne => ?_⟩, h2⟩
 obtain ⟨b, o, hp, hlt, hat⟩ := hc hne
 exact ⟨b, o, hp, Nat.lt_of_lt_of_le hlt hb.size, fun i h => (hat i h).below hb hlt⟩
theorem TabAt.below {w w' : World} {v : Value} {t : Tab} (h : TabAt w v t) (hb : Below w.heap.size w w') : TabAt w' v t := by
 obtain ⟨sv, cv, hv, h1, h2⟩ := h.val
 exact ⟨sv, cv, hv, h1.below hb, h2.below hb⟩
theorem chkTypes_drop (l : List Ty) (k : Nat) (h : k < l.length) (ho : okOff l[k].off = true) (ha : abbrB l[k].name = true) : chkTypes (l.drop k) = chkTypes (l.drop (k + 1)) := by
 rw [List.drop_eq_getElem_cons h]; simp [chkTypes, ho, ha]
theorem chkTypes_off (l : List Ty) (k : Nat) (h : k < l.length) (ho : okOff l[k].off = false) : chkTypes (l.drop k) = 1 := by
 rw [List.drop_eq_getElem_cons h]; simp [chkTypes, ho]
theorem chkTypes_abbr (l : List Ty) (k : Nat) (h : k < l.length) (ho : okOff l[k].off = true) (ha : abbrB l[k].name = false) : chkTypes (l.drop k) = 3 := by
 rw [List.drop_eq_getElem_cons h]; simp [chkTypes, ho, ha]
theorem chkChs_drop (last : Int) (l : List Ch) (k : Nat) (h : k < l.length) (ho : (okTime l[k].t && okIdx last l[k].k) = true) (hb : before (prevOf l k) l[k].t = false) :
 chkChs last (prevOf l k) (l.drop k) = chkChs last (prevOf l (k + 1)) (l.drop (k + 1)) := by
 rw [List.drop_eq_getElem_cons h]
 have e : prevOf l (k + 1) = some l[k].t := by simp [prevOf, h]
 rw [e]
 simp only [chkChs, ho, hb]; simp
theorem chkChs_bad (last : Int) (l : List Ch) (k : Nat) (h : k < l.length) (ho : (okTime l[k].t && okIdx last l[k].k) = false) :
 chkChs last (prevOf l k) (l.drop k) = 1 := by
 rw [List.drop_eq_getElem_cons h]; simp only [chkChs, ho]; simp
theorem chkChs_back (last : Int) (l : List Ch) (k : Nat) (h : k < l.length) (ho : (okTime l[k].t && okIdx last l[k].k) = true) (hb : before (prevOf l k) l[k].t = true) :
 chkChs last (prevOf l k) (l.drop k) = 5 := by
 rw [List.drop_eq_getElem_cons h]; simp only [chkChs, ho, hb]; simp
end Go.Proofs.YtomahddiclkepaaDoor
namespace Go.Proofs.YtomahddiclkepaaDoor
open Go.RowKit
set_option linter.unusedVariables false
set_option linter.unusedSimpArgs false
def wiB (n a b : Int) : Bool := decide (a ≤ n ∧ n ≤ b)
theorem tab_within (n a b : Int) (w : World) :
 Calls Tryd.prog 22 #[.int .i64 n, .int .i64 a, .int .i64 b] w fun e w' => e = .returned (.bool (wiB n a b)) ∧ w = w' := by
 by_cases h1 : a ≤ n <;> by_cases h2 : n ≤ b <;>
 ·go_enter Tryd.func22, Tryd.ntmps22
  go_wp2
  go_ret
  exact ⟨ret_bool' (by simp [wiB, h1, h2]), rfl⟩
theorem okTime_wi (x : Int) : okTime x = wiB x (-1099511627776) 1099511627776 := rfl
theorem okIdx_wi (l x : Int) : okIdx l x = wiB x 0 l := rfl
theorem Check_big (t : Tab) (v : Value) (w : World) (hv : TabAt w v t) (hbig : big t = true) :
 Calls Tryd.prog 18 #[v] w fun e w' => e = .returned (.int .i64 (chk t)) ∧ Below w.heap.size w w' := by
 obtain ⟨sv, cv, rfl, ⟨⟨p, cap, rfl, hs⟩, hl1, hnm⟩, ⟨⟨p2, cap2, rfl, hc⟩, hl2⟩⟩ := hv.val
 have hk : Hid (chk t = 2) := by show _ = _; unfold chk; rw [if_pos hbig]
 simp only [big, decide_eq_true_eq] at hbig
 clear hs hc hnm
 by_cases h1 : (250 : Int) < t.types.length
 ·go_enter Tryd.func18, Tryd.ntmps18
  go_wp2
  go_ret
  exact ⟨ret_int' hk.out.symm, (Below.refl _ _).alloc (Nat.le_refl _) _⟩
 ·have h2 : (1000 : Int) < t.chs.length := by omega
  go_enter Tryd.func18, Tryd.ntmps18
  go_wp2
  go_ret
  exact ⟨ret_int' hk.out.symm, (Below.refl _ _).alloc (Nat.le_refl _) _⟩
theorem Check_none (t : Tab) (v : Value) (w : World) (hv : TabAt w v t) (hbig : big t = false) (hn : t.types = []) :
 Calls Tryd.prog 18 #[v] w fun e w' => e = .returned (.int .i64 (chk t)) ∧ Below w.heap.size w w' := by
 obtain ⟨sv, cv, rfl, ⟨⟨p, cap, rfl, hs⟩, hl1, hnm⟩, ⟨⟨p2, cap2, rfl, hc⟩, hl2⟩⟩ := hv.val
 have hk : Hid (chk t = 5) := by show _ = _; unfold chk; rw [if_neg (by simp [hbig]), if_pos hn]
 simp only [big, decide_eq_false_iff_not] at hbig
 have e0 : t.types.length = 0 := by rw [hn]; rfl
 have h2 : ¬ (1000 : Int) < t.chs.length := by omega
 clear hs hc hnm hbig hn hv
 rw [e0]
 go_enter Tryd.func18, Tryd.ntmps18
 go_wp2
 go_ret
 exact ⟨ret_int' hk.out.symm, (Below.refl _ _).alloc (Nat.le_refl _) _⟩
theorem tyAt.mono {w w' : World} {B b o : Nat} {x : Ty} (h : tyAt w b o x) (hb : Below B w w') (hlt : b < B) : tyAt w' b o x :=
 ⟨(hb.cell (p := ⟨b, o, none⟩) hlt).trans h.1, (hb.cell (p := ⟨b, o + 1, none⟩) hlt).trans h.2.1, (hb.cell (p := ⟨b, o + 2, none⟩) hlt).trans h.2.2⟩
theorem chAt.mono {w w' : World} {B b o : Nat} {x : Ch} (h : chAt w b o x) (hb : Below B w w') (hlt : b < B) : chAt w' b o x :=
 ⟨(hb.cell (p := ⟨b, o, none⟩) hlt).trans h.1, (hb.cell (p := ⟨b, o + 1, none⟩) hlt).trans h.2⟩
theorem bcellB {B : Nat} {W w1 : World} (hb : Below B W w1) : (∀ b o, b < B → w1.cell? ⟨b, o, none⟩ = W.cell? ⟨b, o, none⟩) ∧ (∀ b o, b < B → w1.frozen? ⟨b, o, none⟩ = W.frozen? ⟨b, o, none⟩) :=
 ⟨fun b o h => hb.cell (p := ⟨b, o, none⟩) h, fun b o h => hb.frozen (p := ⟨b, o, none⟩) h⟩
theorem below_drewN' {B : Nat} {a w : World} (h : Below B a w) (n : Nat) : Below B a (w.drewN n) := ⟨h.os, h.tape, h.output, h.size, h.block⟩
theorem chk_types (t : Tab) (hbig : big t = false) (hn : t.types ≠ []) (h : chkTypes t.types ≠ 0) : chk t = chkTypes t.types := by
 unfold chk; rw [if_neg (by simp [hbig]), if_neg hn, if_neg h]
theorem chk_first (t : Tab) (hbig : big t = false) (hn : t.types ≠ []) (h : chkTypes t.types = 0) (hf : okIdx ((t.types.length : Int) - 1) t.first = false) : chk t = 1 := by
 unfold chk; rw [if_neg (by simp [hbig]), if_neg hn, if_pos h, if_neg (by simp [hf])]
theorem chk_chs (t : Tab) (hbig : big t = false) (hn : t.types ≠ []) (h : chkTypes t.types = 0) (hf : okIdx ((t.types.length : Int) - 1) t.first = true) : chk t = chkChs ((t.types.length : Int) - 1) none t.chs := by
 unfold chk; rw [if_neg (by simp [hbig]), if_neg hn, if_pos h, if_pos hf]
set_option maxHeartbeats 4000000 in
theorem Check_nochs (l : List Ty) (f : Int) (m : List Ch) (b o cap cap2 : Nat) (p2 : Option Addr) (w : World) (hb : b < w.heap.size) (hty : ∀ i (h : i < l.length), tyAt w b (o + i * 3) l[i]) (hnm : ∀ x ∈ l, x.name.size ≤ maxLen)
 (hbig : big ⟨l, f, m⟩ = false) (hn : l ≠ []) (hm : m = []) :
 Calls Tryd.prog 18 #[.agg #[.slice (some ⟨b, o, none⟩) l.length cap, .int .i64 f, .slice p2 m.length cap2]] w fun e w' => e = .returned (.int .i64 (chk ⟨l, f, m⟩)) ∧ Below w.heap.size w w' := by
 have ht1 : Hid (chkTypes l ≠ 0 → chk ⟨l, f, m⟩ = chkTypes l) := chk_types ⟨l, f, m⟩ hbig hn
 have ht2 : Hid (chkTypes l = 0 → okIdx ((l.length : Int) - 1) f = false → chk ⟨l, f, m⟩ = 1) := chk_first ⟨l, f, m⟩ hbig hn
 have ht3 : Hid (chkTypes l = 0 → okIdx ((l.length : Int) - 1) f = true → chk ⟨l, f, m⟩ = chkChs ((l.length : Int) - 1) none m) := chk_chs ⟨l, f, m⟩ hbig hn
 have HTY := Lib.hid hty
 have HNM := Lib.hid hnm
 have E0 : Hid (m.length = 0) := by show m.length = 0; rw [hm]; rfl
 have HM := Lib.hid hm
 have hpos : 0 < l.length := List.length_pos_iff.2 hn
 simp only [big, decide_eq_false_iff_not] at hbig
 have hN : ¬ (250 : Int) < l.length := by omega
 have hM : ¬ (1000 : Int) < m.length := by omega
 have hN' : l.length ≤ 250 := by omega
 have hM' : m.length ≤ 1000 := by omega
 have hz : ((l.length : Int) == 0) = false := by simp; omega
 obtain ⟨R, eR⟩ : ∃ R : Int, chk ⟨l, f, m⟩ = R := ⟨_, rfl⟩
 rw [eR]
 have ER := Lib.hid eR
 clear hty hnm hbig hn eR hm
 obtain ⟨w0, hw0⟩ : ∃ w0, w.alloc (.cells #[.slice (some ⟨b, o, none⟩) l.length cap, .int .i64 f, .slice p2 m.length cap2] 30) = w0 := ⟨_, rfl⟩
 have hbw : Below w.heap.size w w0 := by rw [← hw0]; exact (Below.refl _ _).alloc (Nat.le_refl _) _
 have hsz : w0.heap.size = w.heap.size + 1 := by rw [← hw0]; simp
 have hq0 : w0.cell? ⟨w.heap.size, 0, none⟩ = some (.slice (some ⟨b, o, none⟩) l.length cap) := by rw [← hw0]; simp [go_sem]
 have hq1 : w0.cell? ⟨w.heap.size, 1, none⟩ = some (.int .i64 f) := by rw [← hw0]; simp [go_sem]
 have hq2 : w0.cell? ⟨w.heap.size, 2, none⟩ = some (.slice p2 m.length cap2) := by rw [← hw0]; simp [go_sem]
 have HW0 := Lib.hid hw0
 have HSZ := Lib.hid hsz
 clear hw0 hsz
 have HQ0 := Lib.hid hq0
 have HQ1 := Lib.hid hq1
 have HQ2 := Lib.hid hq2
 clear hq0 hq1 hq2
 go_enter Tryd.func18, Tryd.ntmps18
 go_wp2
 go_loopw [27] (fun i wr => ∃ k : Nat, k ≤ l.length ∧ i = .int .i64 k ∧ Below (w.heap.size + 1) (w.alloc (.cells #[.slice (some ⟨b, o, none⟩) l.length cap, .int .i64 f, .slice p2 m.length cap2] 30)) wr ∧ chkTypes l = chkTypes (l.drop k)) (fun i _ => l.length - (intOf i).toNat)
 case atStart => exact ⟨0, Nat.zero_le _, rfl, Below.refl _ _, rfl⟩
 case round =>
  obtain ⟨k, hk, rfl, hbel, hch⟩ := hrel
  rw [HW0.out] at hbel
  have HCH := Lib.hid hch
  clear hch
  by_cases hlt : k < l.length
  ·obtain ⟨x, ex⟩ : ∃ x, l[k] = x := ⟨_, rfl⟩
   have hat := ((HTY.out k hlt).mono hbw hb).mono hbel (by omega)
   have hnx := HNM.out l[k] (List.getElem_mem hlt)
   rw [ex] at hat hnx
   obtain ⟨c0, c1, c2⟩ := hat
   have EX := Lib.hid ex
   clear ex
   cases ho : wiB x.off (-75600) 75600
   ·have hr : Hid (R = 1) := by
     have h1 := chkTypes_off l k hlt (by rw [EX.out]; exact ho)
     have h2 : chkTypes l = 1 := by rw [HCH.out, h1]
     have h3 := ht1.out (by rw [h2]; decide)
     show R = 1
     rw [← ER.out, h3, h2]
    go_wp2_with (first | (go_at_call 22; refine (tab_within _ _ _ _).mono ?_; rintro e w' ⟨rfl, rfl⟩))
    go_ret
    exact ⟨ret_int' hr.out.symm, hbw.trans ((hbel.mono (by omega)).alloc (by have := hbel.size; have := HSZ.out; omega) _)⟩
   ·cases ha : abbrB x.name
    ·have hr : Hid (R = 3) := by
      have h1 := chkTypes_abbr l k hlt (by rw [EX.out]; exact ho) (by rw [EX.out]; exact ha)
      have h2 : chkTypes l = 3 := by rw [HCH.out, h1]
      have h3 := ht1.out (by rw [h2]; decide)
      show R = 3
      rw [← ER.out, h3, h2]
     go_wp2_with (first | (go_at_call 22; refine (tab_within _ _ _ _).mono ?_; rintro e w' ⟨rfl, rfl⟩) | (go_at_call 23; refine (isAbbr_any _ _ hnx).mono ?_; rintro e w' ⟨rfl, rfl⟩))
     go_ret
     exact ⟨ret_int' hr.out.symm, hbw.trans ((hbel.mono (by omega)).alloc (by have := hbel.size; have := HSZ.out; omega) _)⟩
    ·have hstep : Hid (chkTypes l = chkTypes (l.drop (k + 1))) := by
      show _ = _
      rw [HCH.out, chkTypes_drop l k hlt (by rw [EX.out]; exact ho) (by rw [EX.out]; exact ha)]
     go_wp2_with (first | (go_at_call 22; refine (tab_within _ _ _ _).mono ?_; rintro e w' ⟨rfl, rfl⟩) | (go_at_call 23; refine (isAbbr_any _ _ hnx).mono ?_; rintro e w' ⟨rfl, rfl⟩))
     go_roundw
     case rel => exact ⟨k + 1, by omega, by go_num, by rw [HW0.out]; exact hbel.alloc (by have := hbel.size; have := HSZ.out; omega) _, hstep.out⟩
     case measure => simp [intOf]; omega
  ·obtain rfl : k = l.length := by omega
   have h0 : chkTypes l = 0 := by rw [HCH.out, List.drop_of_length_le (by omega)]; rfl
   have H0 := Lib.hid h0
   clear h0
   have hq0 := ((bcellB hbel).1 w.heap.size 0 (by omega)).trans HQ0.out
   have hq1 := ((bcellB hbel).1 w.heap.size 1 (by omega)).trans HQ1.out
   have hq2 := ((bcellB hbel).1 w.heap.size 2 (by omega)).trans HQ2.out
   cases hfi : wiB f 0 ((l.length : Int) - 1)
   ·have hr : Hid (R = 1) := by
     show R = 1
     rw [← ER.out, ht2.out H0.out hfi]
    go_wp2_with (first | (go_at_call 22; refine (tab_within _ _ _ _).mono ?_; rintro e w' ⟨rfl, rfl⟩))
    go_ret
    exact ⟨ret_int' hr.out.symm, hbw.trans (hbel.mono (by omega))⟩
   ·have hR : Hid (R = chkChs ((l.length : Int) - 1) none m) := by
     show R = _
     rw [← ER.out, ht3.out H0.out hfi]
    go_wp2_with (first | (go_at_call 22; refine (tab_within _ _ _ _).mono ?_; rintro e w' ⟨rfl, rfl⟩))
    go_loopw [52] (fun i w2 => ∃ k : Nat, k ≤ m.length ∧ i = .int .i64 k ∧ Below (w.heap.size + 1) (w.alloc (.cells #[.slice (some ⟨b, o, none⟩) l.length cap, .int .i64 f, .slice p2 m.length cap2] 30)) w2 ∧ chkChs ((l.length : Int) - 1) none m = chkChs ((l.length : Int) - 1) (prevOf m k) (m.drop k)) (fun i _ => m.length - (intOf i).toNat)
    case atStart => exact ⟨0, Nat.zero_le _, rfl, by rw [HW0.out]; exact hbel, rfl⟩
    case round =>
     obtain ⟨k, hk2, rfl, hbel2, hcc⟩ := hrel
     rw [HW0.out] at hbel2
     have HCC := Lib.hid hcc
     clear hcc
     by_cases hlt2 : k < m.length
     ·have := E0.out; omega
     ·obtain rfl : k = m.length := by omega
      have hr : Hid (R = 0) := by show R = 0; rw [hR.out, HCC.out, List.drop_of_length_le (by omega)]; cases prevOf m m.length <;> rfl
      go_wp2
      go_ret
      exact ⟨ret_int' hr.out.symm, hbw.trans (hbel2.mono (by omega))⟩
set_option maxHeartbeats 4000000 in
theorem Check_chs (l : List Ty) (f : Int) (m : List Ch) (b o cap b2 o2 cap2 : Nat) (w : World) (hb : b < w.heap.size) (hty : ∀ i (h : i < l.length), tyAt w b (o + i * 3) l[i]) (hnm : ∀ x ∈ l, x.name.size ≤ maxLen)
 (hbig : big ⟨l, f, m⟩ = false) (hn : l ≠ []) (hb2 : b2 < w.heap.size) (hch2 : ∀ i (h : i < m.length), chAt w b2 (o2 + i * 2) m[i]) :
 Calls Tryd.prog 18 #[.agg #[.slice (some ⟨b, o, none⟩) l.length cap, .int .i64 f, .slice (some ⟨b2, o2, none⟩) m.length cap2]] w fun e w' => e = .returned (.int .i64 (chk ⟨l, f, m⟩)) ∧ Below w.heap.size w w' := by
 have ht1 : Hid (chkTypes l ≠ 0 → chk ⟨l, f, m⟩ = chkTypes l) := chk_types ⟨l, f, m⟩ hbig hn
 have ht2 : Hid (chkTypes l = 0 → okIdx ((l.length : Int) - 1) f = false → chk ⟨l, f, m⟩ = 1) := chk_first ⟨l, f, m⟩ hbig hn
 have ht3 : Hid (chkTypes l = 0 → okIdx ((l.length : Int) - 1) f = true → chk ⟨l, f, m⟩ = chkChs ((l.length : Int) - 1) none m) := chk_chs ⟨l, f, m⟩ hbig hn
 have HTY := Lib.hid hty
 have HNM := Lib.hid hnm
 have HC := Lib.hid hch2
 have hpos : 0 < l.length := List.length_pos_iff.2 hn
 simp only [big, decide_eq_false_iff_not] at hbig
 have hN : ¬ (250 : Int) < l.length := by omega
 have hM : ¬ (1000 : Int) < m.length := by omega
 have hN' : l.length ≤ 250 := by omega
 have hM' : m.length ≤ 1000 := by omega
 have hz : ((l.length : Int) == 0) = false := by simp; omega
 obtain ⟨R, eR⟩ : ∃ R : Int, chk ⟨l, f, m⟩ = R := ⟨_, rfl⟩
 rw [eR]
 have ER := Lib.hid eR
 clear hty hnm hbig hn eR hch2
 obtain ⟨w0, hw0⟩ : ∃ w0, w.alloc (.cells #[.slice (some ⟨b, o, none⟩) l.length cap, .int .i64 f, .slice (some ⟨b2, o2, none⟩) m.length cap2] 30) = w0 := ⟨_, rfl⟩
 have hbw : Below w.heap.size w w0 := by rw [← hw0]; exact (Below.refl _ _).alloc (Nat.le_refl _) _
 have hsz : w0.heap.size = w.heap.size + 1 := by rw [← hw0]; simp
 have hq0 : w0.cell? ⟨w.heap.size, 0, none⟩ = some (.slice (some ⟨b, o, none⟩) l.length cap) := by rw [← hw0]; simp [go_sem]
 have hq1 : w0.cell? ⟨w.heap.size, 1, none⟩ = some (.int .i64 f) := by rw [← hw0]; simp [go_sem]
 have hq2 : w0.cell? ⟨w.heap.size, 2, none⟩ = some (.slice (some ⟨b2, o2, none⟩) m.length cap2) := by rw [← hw0]; simp [go_sem]
 have HW0 := Lib.hid hw0
 have HSZ := Lib.hid hsz
 clear hw0 hsz
 have HQ0 := Lib.hid hq0
 have HQ1 := Lib.hid hq1
 have HQ2 := Lib.hid hq2
 clear hq0 hq1 hq2
 go_enter Tryd.func18, Tryd.ntmps18
 go_wp2
 go_loopw [27] (fun i wr => ∃ k : Nat, k ≤ l.length ∧ i = .int .i64 k ∧ Below (w.heap.size + 1) (w.alloc (.cells #[.slice (some ⟨b, o, none⟩) l.length cap, .int .i64 f, .slice (some ⟨b2, o2, none⟩) m.length cap2] 30)) wr ∧ chkTypes l = chkTypes (l.drop k)) (fun i _ => l.length - (intOf i).toNat)
 case atStart => exact ⟨0, Nat.zero_le _, rfl, Below.refl _ _, rfl⟩
 case round =>
  obtain ⟨k, hk, rfl, hbel, hch⟩ := hrel
  rw [HW0.out] at hbel
  have HCH := Lib.hid hch
  clear hch
  by_cases hlt : k < l.length
  ·obtain ⟨x, ex⟩ : ∃ x, l[k] = x := ⟨_, rfl⟩
   have hat := ((HTY.out k hlt).mono hbw hb).mono hbel (by omega)
   have hnx := HNM.out l[k] (List.getElem_mem hlt)
   rw [ex] at hat hnx
   obtain ⟨c0, c1, c2⟩ := hat
   have EX := Lib.hid ex
   clear ex
   cases ho : wiB x.off (-75600) 75600
   ·have hr : Hid (R = 1) := by
     have h1 := chkTypes_off l k hlt (by rw [EX.out]; exact ho)
     have h2 : chkTypes l = 1 := by rw [HCH.out, h1]
     have h3 := ht1.out (by rw [h2]; decide)
     show R = 1
     rw [← ER.out, h3, h2]
    go_wp2_with (first | (go_at_call 22; refine (tab_within _ _ _ _).mono ?_; rintro e w' ⟨rfl, rfl⟩))
    go_ret
    exact ⟨ret_int' hr.out.symm, hbw.trans ((hbel.mono (by omega)).alloc (by have := hbel.size; have := HSZ.out; omega) _)⟩
   ·cases ha : abbrB x.name
    ·have hr : Hid (R = 3) := by
      have h1 := chkTypes_abbr l k hlt (by rw [EX.out]; exact ho) (by rw [EX.out]; exact ha)
      have h2 : chkTypes l = 3 := by rw [HCH.out, h1]
      have h3 := ht1.out (by rw [h2]; decide)
      show R = 3
      rw [← ER.out, h3, h2]
     go_wp2_with (first | (go_at_call 22; refine (tab_within _ _ _ _).mono ?_; rintro e w' ⟨rfl, rfl⟩) | (go_at_call 23; refine (isAbbr_any _ _ hnx).mono ?_; rintro e w' ⟨rfl, rfl⟩))
     go_ret
     exact ⟨ret_int' hr.out.symm, hbw.trans ((hbel.mono (by omega)).alloc (by have := hbel.size; have := HSZ.out; omega) _)⟩
    ·have hstep : Hid (chkTypes l = chkTypes (l.drop (k + 1))) := by
      show _ = _
      rw [HCH.out, chkTypes_drop l k hlt (by rw [EX.out]; exact ho) (by rw [EX.out]; exact ha)]
     go_wp2_with (first | (go_at_call 22; refine (tab_within _ _ _ _).mono ?_; rintro e w' ⟨rfl, rfl⟩) | (go_at_call 23; refine (isAbbr_any _ _ hnx).mono ?_; rintro e w' ⟨rfl, rfl⟩))
     go_roundw
     case rel => exact ⟨k + 1, by omega, by go_num, by rw [HW0.out]; exact hbel.alloc (by have := hbel.size; have := HSZ.out; omega) _, hstep.out⟩
     case measure => simp [intOf]; omega
  ·obtain rfl : k = l.length := by omega
   have h0 : chkTypes l = 0 := by rw [HCH.out, List.drop_of_length_le (by omega)]; rfl
   have H0 := Lib.hid h0
   clear h0
   have hq0 := ((bcellB hbel).1 w.heap.size 0 (by omega)).trans HQ0.out
   have hq1 := ((bcellB hbel).1 w.heap.size 1 (by omega)).trans HQ1.out
   have hq2 := ((bcellB hbel).1 w.heap.size 2 (by omega)).trans HQ2.out
   cases hfi : wiB f 0 ((l.length : Int) - 1)
   ·have hr : Hid (R = 1) := by
     show R = 1
     rw [← ER.out, ht2.out H0.out hfi]
    go_wp2_with (first | (go_at_call 22; refine (tab_within _ _ _ _).mono ?_; rintro e w' ⟨rfl, rfl⟩))
    go_ret
    exact ⟨ret_int' hr.out.symm, hbw.trans (hbel.mono (by omega))⟩
   ·have hR : Hid (R = chkChs ((l.length : Int) - 1) none m) := by
     show R = _
     rw [← ER.out, ht3.out H0.out hfi]
    go_wp2_with (first | (go_at_call 22; refine (tab_within _ _ _ _).mono ?_; rintro e w' ⟨rfl, rfl⟩))
    go_loopw [52] (fun i w2 => ∃ k : Nat, k ≤ m.length ∧ i = .int .i64 k ∧ Below (w.heap.size + 1) (w.alloc (.cells #[.slice (some ⟨b, o, none⟩) l.length cap, .int .i64 f, .slice (some ⟨b2, o2, none⟩) m.length cap2] 30)) w2 ∧ chkChs ((l.length : Int) - 1) none m = chkChs ((l.length : Int) - 1) (prevOf m k) (m.drop k)) (fun i _ => m.length - (intOf i).toNat)
    case atStart => exact ⟨0, Nat.zero_le _, rfl, by rw [HW0.out]; exact hbel, rfl⟩
    case round =>
     obtain ⟨k, hk2, rfl, hbel2, hcc⟩ := hrel
     rw [HW0.out] at hbel2
     have HCC := Lib.hid hcc
     clear hcc
     by_cases hlt2 : k < m.length
     ·obtain ⟨x, ex⟩ : ∃ x, m[k] = x := ⟨_, rfl⟩
      have hat := ((HC.out k hlt2).mono hbw hb2).mono hbel2 (by omega)
      rw [ex] at hat
      obtain ⟨c0, c1⟩ := hat
      have EX := Lib.hid ex
      clear ex
      have hs2 := hbel2.size
      have hs0 := HSZ.out
      cases ho : wiB x.t (-1099511627776) 1099511627776
      ·have hr : Hid (R = 1) := by
        show R = 1
        rw [hR.out, HCC.out, chkChs_bad _ m k hlt2 (by rw [EX.out, okTime_wi, ho]; rfl)]
       go_wp2_with (first | (go_at_call 22; refine (tab_within _ _ _ _).mono ?_; rintro e w' ⟨rfl, rfl⟩))
       go_ret
       exact ⟨ret_int' hr.out.symm, hbw.trans ((hbel2.mono (by omega)).alloc (by omega) _)⟩
      ·cases hi : wiB x.k 0 ((l.length : Int) - 1)
       ·have hr : Hid (R = 1) := by
         show R = 1
         rw [hR.out, HCC.out, chkChs_bad _ m k hlt2 (by rw [EX.out, okTime_wi, ho, okIdx_wi, hi]; rfl)]
        go_wp2_with (first | (go_at_call 22; refine (tab_within _ _ _ _).mono ?_; rintro e w' ⟨rfl, rfl⟩))
        go_ret
        exact ⟨ret_int' hr.out.symm, hbw.trans ((hbel2.mono (by omega)).alloc (by omega) _)⟩
       ·have hok : Hid ((okTime x.t && okIdx ((l.length : Int) - 1) x.k) = true) := by show _ = _; rw [okTime_wi, ho, okIdx_wi, hi]; rfl
        cases k with
        | zero =>
         simp only [Nat.zero_mul, Nat.add_zero] at c0 c1
         have hstep : Hid (chkChs ((l.length : Int) - 1) none m = chkChs ((l.length : Int) - 1) (prevOf m 1) (m.drop 1)) := by
          show _ = _
          rw [HCC.out, chkChs_drop _ m 0 hlt2 (by rw [EX.out]; exact hok.out) rfl]
         go_wp2_with (first | (go_at_call 22; refine (tab_within _ _ _ _).mono ?_; rintro e w' ⟨rfl, rfl⟩))
         go_quiet (fail)
         go_wp2
         go_roundw
         case rel => exact ⟨1, by omega, by go_num, by rw [HW0.out]; exact below_drewN' (hbel2.alloc (by omega) _) _, hstep.out⟩
         case measure => simp [intOf]; omega
        | succ j =>
         obtain ⟨y, ey⟩ : ∃ y, m[j] = y := ⟨_, rfl⟩
         have hay := ((HC.out j (by omega)).mono hbw hb2).mono hbel2 (by omega)
         rw [ey] at hay
         obtain ⟨y0, y1⟩ := hay
         have hq2 := ((bcellB hbel2).1 w.heap.size 2 (by omega)).trans HQ2.out
         have hprev : prevOf m (j + 1) = some y.t := by simp only [prevOf]; rw [List.getElem?_eq_getElem (by omega), ey]; rfl
         have HP := Lib.hid hprev
         clear ey hprev
         have q1 : IntKind.i64.wrap ((j : Int) + 1 - 1) = (j : Int) := by rw [show (j : Int) + 1 - 1 = j by omega]; exact IntWalk.i64_in _ (by omega)
         have q2 : (j : Int) < (m.length : Int) := by omega
         have q3 : w.heap.size < wr.heap.size := by omega
         have q4 : b2 < wr.heap.size := by omega
         by_cases hle : x.t ≤ y.t
         ·have hr : Hid (R = 5) := by
           show R = 5
           rw [hR.out, HCC.out, chkChs_back _ m (j + 1) hlt2 (by rw [EX.out]; exact hok.out) (by rw [HP.out, EX.out]; simpa [before] using hle)]
          go_wp2_with (first | (go_at_call 22; refine (tab_within _ _ _ _).mono ?_; rintro e w' ⟨rfl, rfl⟩))
          go_quiet (fail)
          go_wp2
          go_ret
          exact ⟨ret_int' hr.out.symm, hbw.trans (below_drewN' ((hbel2.mono (by omega)).alloc (by omega) _) _)⟩
         ·have hstep : Hid (chkChs ((l.length : Int) - 1) none m = chkChs ((l.length : Int) - 1) (prevOf m (j + 1 + 1)) (m.drop (j + 1 + 1))) := by
           show _ = _
           rw [HCC.out, chkChs_drop _ m (j + 1) hlt2 (by rw [EX.out]; exact hok.out) (by rw [HP.out, EX.out]; simpa [before] using hle)]
          go_wp2_with (first | (go_at_call 22; refine (tab_within _ _ _ _).mono ?_; rintro e w' ⟨rfl, rfl⟩))
          go_quiet (fail)
          go_wp2
          go_roundw
          case rel => exact ⟨j + 1 + 1, by omega, by go_num, by rw [HW0.out]; exact below_drewN' (hbel2.alloc (by omega) _) _, hstep.out⟩
          case measure => simp [intOf]; omega
     ·obtain rfl : k = m.length := by omega
      have hr : Hid (R = 0) := by show R = 0; rw [hR.out, HCC.out, List.drop_of_length_le (by omega)]; cases prevOf m m.length <;> rfl
      go_wp2
      go_ret
      exact ⟨ret_int' hr.out.symm, hbw.trans (hbel2.mono (by omega))⟩
theorem Check_any (t : Tab) (v : Value) (w : World) (hv : TabAt w v t) :
 Calls Tryd.prog 18 #[v] w fun e w' => e = .returned (.int .i64 (chk t)) ∧ Below w.heap.size w w' := by
 cases hbg : big t
 ·by_cases hn : t.types = []
  ·exact Check_none t v w hv hbg hn
  ·obtain ⟨sv, cv, rfl, ⟨⟨p, cap, rfl, hs⟩, hl1, hnm⟩, ⟨⟨p2, cap2, rfl, hc⟩, hl2⟩⟩ := hv.val
   obtain ⟨b, o, rfl, hb, hty⟩ := hs hn
   obtain ⟨l, f, m⟩ := t
   by_cases hm : m = []
   ·exact Check_nochs l f m b o cap cap2 p2 w hb hty hnm hbg hn hm
   ·obtain ⟨b2, o2, rfl, hb2, hch⟩ := hc hm
    exact Check_chs l f m b o cap b2 o2 cap2 w hb hty hnm hbg hn hb2 hch
 ·exact Check_big t v w hv hbg
def tyD (l : List Ty) (k : Int) : Ty := l[k.toNat]?.getD ⟨0, false, ⟨#[]⟩⟩
theorem chkTypes_ok : ∀ (l : List Ty), chkTypes l = 0 → ∀ x ∈ l, okOff x.off = true ∧ abbrB x.name = true
 | [], _, x, hx => by simp at hx
 | y :: r, h, x, hx => by
  unfold chkTypes at h
  split at h
  ·split at h
   ·rcases List.mem_cons.1 hx with rfl | hx
    ·exact ⟨‹_›, ‹_›⟩
    ·exact chkTypes_ok r h x hx
   ·omega
  ·omega
theorem chkChs_ok (last : Int) : ∀ (m : List Ch) (prev : Option Int), chkChs last prev m = 0 →
 (∀ x ∈ m, okTime x.t = true ∧ okIdx last x.k = true) ∧ (∀ p, prev = some p → ∀ x ∈ m, p < x.t) ∧ m.Pairwise (fun a b => a.t < b.t)
 | [], _, _ => ⟨by simp, by simp, List.Pairwise.nil⟩
 | c :: r, prev, h => by
  unfold chkChs at h
  split at h
  ·split at h
   ·omega
   ·rename_i h1 h2
    obtain ⟨i1, i2, i3⟩ := chkChs_ok last r (some c.t) h
    simp only [Bool.and_eq_true] at h1
    have hp : ∀ p, prev = some p → p < c.t := by
     intro p hp
     subst hp
     simpa [before] using h2
    refine ⟨fun x hx => ?_, fun p hpp x hx => ?_, ?_⟩
    ·rcases List.mem_cons.1 hx with rfl | hx
     ·exact h1
     ·exact i1 x hx
    ·rcases List.mem_cons.1 hx with rfl | hx
     ·exact hp p hpp
     ·have := i2 c.t rfl x hx
      have := hp p hpp
      omega
    ·exact List.Pairwise.cons (fun x hx => i2 c.t rfl x hx) i3
  ·omega
structure OkTab (t : Tab) : Prop where
 ne : t.types ≠ []
 many : t.types.length ≤ 250
 chs : t.chs.length ≤ 1000
 type : ∀ x ∈ t.types, -75600 ≤ x.off ∧ x.off ≤ 75600 ∧ abbrB x.name = true
 first : 0 ≤ t.first ∧ t.first < t.types.length
 ch : ∀ x ∈ t.chs, -1099511627776 ≤ x.t ∧ x.t ≤ 1099511627776 ∧ 0 ≤ x.k ∧ x.k < t.types.length
 rise : t.chs.Pairwise (fun a b => a.t < b.t)
theorem chk_ok (t : Tab) (h : chk t = 0) : OkTab t := by
 unfold chk at h
 split at h
 ·omega
 ·rename_i hb
  split at h
  ·omega
  ·rename_i hn
   split at h
   ·rename_i ht
    split at h
    ·rename_i hf
     obtain ⟨c1, _, c3⟩ := chkChs_ok _ _ _ h
     have hb' : ¬ (250 < t.types.length ∨ 1000 < t.chs.length) := by simpa [big] using hb
     simp only [okIdx, decide_eq_true_eq] at hf
     refine ⟨hn, by omega, by omega, fun x hx => ?_, by omega, fun x hx => ?_, c3⟩
     ·have := chkTypes_ok _ ht x hx
      simp only [okOff, decide_eq_true_eq] at this
      exact ⟨this.1.1, this.1.2, this.2⟩
     ·have := c1 x hx
      simp only [okTime, okIdx, decide_eq_true_eq] at this
      omega
    ·omega
   ·exact absurd h ‹_›
theorem length_sub {α : Type} [DecidableEq α] : ∀ (l m : List α), l.Nodup → (∀ x ∈ l, x ∈ m) → l.length ≤ m.length
 | [], m, _, _ => Nat.zero_le _
 | a :: l, m, hn, hs => by
  rw [List.nodup_cons] at hn
  have ha := hs a (by simp)
  have := length_sub l (m.erase a) hn.2 (fun x hx => (List.mem_erase_of_ne (fun (e : x = a) => hn.1 (by rw [← e]; exact hx))).2 (hs x (by simp [hx])))
  rw [List.length_erase_of_mem ha] at this
  have : 0 < m.length := List.length_pos_of_mem ha
  simp; omega
end Go.Proofs.YtomahddiclkepaaDoor
namespace Go.Proofs.YtomahddiclkepaaDoor
open Classical
set_option linter.unusedVariables false
structure NS where
 types : List Ty
 chs : List Ch
 last : Ty
noncomputable def idxTy (l : List Ty) (x : Ty) : Nat := l.findIdx (fun y => decide (y = x))
noncomputable def addTy (l : List Ty) (x : Ty) : List Ty := if x ∈ l then l else l ++ [x]
noncomputable def stepN (s : NS) (c : Int × Ty) : NS := if c.2 = s.last then s else ⟨addTy s.types c.2, s.chs ++ [⟨c.1, idxTy s.types c.2⟩], c.2⟩
def begN (x : Ty) : NS := ⟨[x], [], x⟩
noncomputable def makeN (x : Ty) (l : List (Int × Ty)) : NS := l.foldl stepN (begN x)
noncomputable def normR (x : Ty) (l : List (Int × Ty)) : Tab := ⟨(makeN x l).types, 0, (makeN x l).chs⟩
def resH (t : Tab) : Ty := tyD t.types t.first
def resL (t : Tab) : List (Int × Ty) := t.chs.map fun c => (c.t, tyD t.types c.k)
noncomputable def normT (t : Tab) : Tab := normR (resH t) (resL t)
noncomputable def squ : Ty → List (Int × Ty) → List (Int × Ty)
 | _, [] => []
 | last, c :: r => if c.2 = last then squ last r else c :: squ c.2 r
theorem idx_in {l : List Ty} {x : Ty} (h : x ∈ l) : idxTy l x < l.length ∧ tyD l (idxTy l x : Nat) = x := by
 have hlt : idxTy l x < l.length := List.findIdx_lt_length_of_exists ⟨x, h, by simp⟩
 refine ⟨hlt, ?_⟩
 have h2 := List.findIdx_getElem (p := fun y => decide (y = x)) (xs := l) (w := hlt)
 have h3 : l[l.findIdx fun y => decide (y = x)] = x := by simpa using h2
 unfold tyD idxTy
 rw [show ((l.findIdx (fun y => decide (y = x)) : Nat) : Int).toNat = l.findIdx (fun y => decide (y = x)) by omega, List.getElem?_eq_getElem (show l.findIdx (fun y => decide (y = x)) < l.length from hlt)]
 exact h3
theorem idx_out {l : List Ty} {x : Ty} (h : x ∉ l) : idxTy l x = l.length := by
 unfold idxTy
 exact List.findIdx_eq_length_of_false (fun y hy => by simp; rintro rfl; exact h hy)
theorem tyD_app (l m : List Ty) (k : Int) (h0 : 0 ≤ k) (h : k < l.length) : tyD (l ++ m) k = tyD l k := by
 unfold tyD
 rw [List.getElem?_append_left (by omega)]
theorem tyD_add (l : List Ty) (x : Ty) (k : Int) (h0 : 0 ≤ k) (h : k < l.length) : tyD (addTy l x) k = tyD l k := by
 unfold addTy
 split
 ·rfl
 ·exact tyD_app _ _ _ h0 h
theorem tyD_idx (l : List Ty) (x : Ty) : tyD (addTy l x) (idxTy l x : Nat) = x ∧ idxTy l x < (addTy l x).length := by
 unfold addTy
 split
 ·next h => exact ⟨(idx_in h).2, (idx_in h).1⟩
 ·next h =>
  rw [idx_out h]
  refine ⟨?_, by simp⟩
  unfold tyD
  simp
theorem add_length (l : List Ty) (x : Ty) : l.length ≤ (addTy l x).length := by
 unfold addTy; split <;> simp
theorem add_nodup {l : List Ty} {x : Ty} (h : l.Nodup) : (addTy l x).Nodup := by
 unfold addTy
 split
 ·exact h
 ·next hx =>
  rw [List.nodup_append]
  refine ⟨h, by simp, ?_⟩
  intro a ha b hb
  simp only [List.mem_singleton] at hb
  subst hb
  rintro rfl
  exact hx ha
theorem mem_add {l : List Ty} {x y : Ty} : y ∈ addTy l x ↔ y ∈ l ∨ y = x := by
 unfold addTy
 split
 ·next h => exact ⟨.inl, fun h2 => h2.elim id (fun e => e ▸ h)⟩
 ·simp
structure NInv (x : Ty) (s : NS) : Prop where
 nodup : s.types.Nodup
 head : tyD s.types 0 = x
 pos : 0 < s.types.length
 lastIn : s.last ∈ s.types
 ks : ∀ c ∈ s.chs, 0 ≤ c.k ∧ c.k < s.types.length
theorem begN_inv (x : Ty) : NInv x (begN x) := ⟨by simp [begN], by simp [begN, tyD], by simp [begN], by simp [begN], by simp [begN]⟩
theorem stepN_inv {x : Ty} {s : NS} (h : NInv x s) (c : Int × Ty) : NInv x (stepN s c) := by
 unfold stepN
 split
 ·exact h
 ·have hl := add_length s.types c.2
  refine ⟨add_nodup h.nodup, (tyD_add _ _ 0 (by omega) (by have := h.pos; omega)).trans h.head, by have := h.pos; show 0 < (addTy s.types c.2).length; omega, mem_add.2 (.inr rfl), ?_⟩
  intro d hd
  simp only [List.mem_append, List.mem_singleton] at hd
  show 0 ≤ d.k ∧ d.k < ((addTy s.types c.2).length : Int)
  rcases hd with hd | rfl
  ·have := h.ks d hd; omega
  ·have := (tyD_idx s.types c.2).2
   show 0 ≤ ((idxTy s.types c.2 : Nat) : Int) ∧ ((idxTy s.types c.2 : Nat) : Int) < _
   omega
theorem makeN_inv {x : Ty} (l : List (Int × Ty)) : ∀ s, NInv x s → NInv x (l.foldl stepN s) := by
 induction l with
 | nil => intro s h; exact h
 | cons c r ih => intro s h; exact ih _ (stepN_inv h c)
def resS (s : NS) : List (Int × Ty) := s.chs.map fun c => (c.t, tyD s.types c.k)
theorem stepN_res {x : Ty} {s : NS} (h : NInv x s) (c : Int × Ty) : resS (stepN s c) = resS s ++ (if c.2 = s.last then [] else [c]) := by
 unfold stepN
 split
 ·simp
 ·unfold resS
  simp only [List.map_append, List.map_cons, List.map_nil]
  congr 1
  ·apply List.map_congr_left
   intro d hd
   have := h.ks d hd
   rw [tyD_add _ _ _ this.1 this.2]
  ·rw [(tyD_idx s.types c.2).1]
theorem makeN_res {x : Ty} (l : List (Int × Ty)) : ∀ s, NInv x s → resS (l.foldl stepN s) = resS s ++ squ s.last l := by
 induction l with
 | nil => intro s _; simp [squ]
 | cons c r ih =>
  intro s h
  rw [List.foldl_cons, ih _ (stepN_inv h c), stepN_res h c]
  simp only [squ]
  by_cases e : c.2 = s.last
  ·have : stepN s c = s := if_pos e
   rw [if_pos e, if_pos e, this]
   simp
  ·have : (stepN s c).last = c.2 := by unfold stepN; rw [if_neg e]
   rw [if_neg e, if_neg e, this]
   simp
theorem squ_sub (l : List (Int × Ty)) : ∀ last, (squ last l).Sublist l := by
 induction l with
 | nil => intro last; exact List.Sublist.refl _
 | cons c r ih =>
  intro last
  simp only [squ]
  split
  ·exact (ih last).cons c
  ·exact (ih c.2).cons_cons c
theorem makeN_types {x : Ty} (l : List (Int × Ty)) : ∀ s : NS, ∀ y ∈ (l.foldl stepN s).types, y ∈ s.types ∨ ∃ c ∈ l, c.2 = y := by
 induction l with
 | nil => intro s y hy; exact .inl hy
 | cons c r ih =>
  intro s y hy
  rw [List.foldl_cons] at hy
  rcases ih _ y hy with h | ⟨d, hd, rfl⟩
  ·unfold stepN at h
   split at h
   ·exact .inl h
   ·rcases mem_add.1 h with h | h
    ·exact .inl h
    ·exact .inr ⟨c, by simp, h.symm⟩
  ·exact .inr ⟨d, by simp [hd], rfl⟩
theorem tyD_mem (l : List Ty) (k : Int) (h0 : 0 ≤ k) (h : k < l.length) : tyD l k ∈ l := by
 unfold tyD
 rw [List.getElem?_eq_getElem (by omega)]
 exact List.getElem_mem _
end Go.Proofs.YtomahddiclkepaaDoor
namespace Go.Proofs.YtomahddiclkepaaDoor
open Go.RowKit
set_option linter.unusedVariables false
set_option linter.unusedSimpArgs false
theorem own_keep {W W' : World} {B : Nat} {e : TypeId} {s n : Nat} {v : Value} {xs : List Value} (h : W.ownsRow B e s v n xs) (hk : ∀ g, v.ownBlock = some g → W'.heap[g]? = W.heap[g]?) : W'.ownsRow B e s v n xs := by
 obtain ⟨h1, h2⟩ := h
 refine ⟨h1, ?_⟩
 rcases h2 with h2 | ⟨g, cap, cur, rfl, hb, hg, r⟩
 ·exact .inl h2
 ·exact .inr ⟨g, cap, cur, rfl, hb, (hk g rfl).trans hg, r⟩
theorem own_cells {W : World} {B : Nat} {e : TypeId} {s n : Nat} {v : Value} {xs : List Value} (h : W.ownsRow B e s v n xs) : (v = .slice none 0 0 ∧ n = 0) ∨ ∃ g cap, v = .slice (some ⟨g, 0, none⟩) n cap ∧ B ≤ g ∧ g < W.heap.size ∧ ∀ i u, xs[i]? = some u → W.cell? ⟨g, i, none⟩ = some u := by
 rcases h.2 with h2 | ⟨g, cap, cur, rfl, hb, hg, hn, hm, hs, ht⟩
 ·exact .inl h2
 ·refine .inr ⟨g, cap, rfl, hb, (Array.getElem?_eq_some_iff.1 hg).1, fun i u hu => ?_⟩
  rw [cell_of_row W g i cur _ (0, 0) hg]
  rw [← ht, List.getElem?_take] at hu
  split at hu
  ·simpa using hu
  ·cases hu
theorem own_apart {W : World} {B B' : Nat} {e e' : TypeId} {s s' n n' : Nat} {v v' : Value} {xs xs' : List Value} (h : W.ownsRow B e s v n xs) (h' : W.ownsRow B' e' s' v' n' xs') (hne : e ≠ e') : v.ownBlock = none ∨ v.ownBlock ≠ v'.ownBlock := by
 rcases h.2 with ⟨rfl, _⟩ | ⟨g, cap, cur, rfl, _, hg, _⟩
 ·exact .inl rfl
 ·refine .inr fun e0 => ?_
  rcases h'.2 with ⟨rfl, _⟩ | ⟨g', cap', cur', rfl, _, hg', _⟩
  ·simp [Value.ownBlock] at e0
  ·simp only [Value.ownBlock] at e0
   injection e0 with e0
   subst e0
   rw [hg] at hg'
   injection hg' with hg'
   injection hg' with _ h2
   exact hne h2
theorem own_sliceN {W : World} {B : Nat} {e : TypeId} {s n : Nat} {v : Value} {xs : List Value} (h : W.ownsRow B e s v n xs) : ∃ A c, v = .slice A n c := by
 rcases h.2 with ⟨rfl, rfl⟩ | ⟨g, cap, cur, rfl, _⟩
 ·exact ⟨_, _, rfl⟩
 ·exact ⟨_, _, rfl⟩
theorem alloc_at (w : World) (o : Obj) (k : Nat) (h : k = w.heap.size) : (w.alloc o).heap[k]? = some o := by subst h; exact heap_alloc_new w o
theorem own_base {W : World} {B B' : Nat} {e : TypeId} {s n : Nat} {v : Value} {xs : List Value} (h : W.ownsRow B e s v n xs) (hB : B' ≤ B) : W.ownsRow B' e s v n xs := by
 obtain ⟨h1, h2⟩ := h
 refine ⟨h1, ?_⟩
 rcases h2 with h2 | ⟨g, cap, cur, rfl, hb, hg, r⟩
 ·exact .inl h2
 ·exact .inr ⟨g, cap, cur, rfl, Nat.le_trans hB hb, hg, r⟩
end Go.Proofs.YtomahddiclkepaaDoor
namespace Go.Proofs.YtomahddiclkepaaDoor
open Go.RowKit
open Classical
set_option linter.unusedVariables false
set_option linter.unusedSimpArgs false
theorem fieldsTyN : (Tryd.prog.fieldsOf 37).toList = [{ name := "Offset", type := 3, offset := 0, embedded := false, tag := "", pkgPath := "", byteOffset := 0 }, { name := "Save", type := 4, offset := 1, embedded := false, tag := "", pkgPath := "", byteOffset := 8 }, { name := "Name", type := 9, offset := 2, embedded := false, tag := "", pkgPath := "", byteOffset := 16 }] := by kernel_rfl
theorem agg_tyN : Tryd.prog.underlying 37 = some (.struct (Tryd.prog.fieldsOf 37)) := by kernel_rfl
theorem stood_tyN : Tryd.prog.stoodInHeld 37 = false := by kernel_rfl
theorem ty_eq {x y : Ty} : x = y ↔ x.off = y.off ∧ x.save = y.save ∧ x.name = y.name := by
 cases x; cases y; simp
theorem bytes_ne {a b : ByteArray} (h : a ≠ b) : (a.toList == b.toList) = false := by
 cases he : a.toList == b.toList
 ·rfl
 ·have : a.toList = b.toList := by simpa using he
  rw [ByteArray.toList_eq, ByteArray.toList_eq] at this
  exact absurd (by cases a; cases b; simp_all) h
theorem eql_ty (x y : Ty) (W : World) : (binOp .eql 37 (.agg #[.int .i64 x.off, .bool x.save, .string x.name]) (.agg #[.int .i64 y.off, .bool y.save, .string y.name])).run Tryd.prog W = .ok (.bool (decide (x = y))) W := by
 rw [run_eql_struct, run_equalIn_agg W 9999 _ _ _ agg_tyN stood_tyN, fieldsTyN]
 by_cases h1 : x.off = y.off
 ·by_cases h2 : x.save = y.save
  ·by_cases h3 : x.name = y.name
   ·have e : x = y := ty_eq.2 ⟨h1, h2, h3⟩
    simp [go_sem, Op.eqFields, Tryd.underlying3, Tryd.underlying4, Tryd.underlying9, e]
   ·have e : ¬ x = y := fun e => h3 (by rw [e])
    simp [go_sem, Op.eqFields, Tryd.underlying3, Tryd.underlying4, Tryd.underlying9, e, h1, h2, bytes_ne h3]
  ·have e : ¬ x = y := fun e => h2 (by rw [e])
   simp [go_sem, Op.eqFields, Tryd.underlying3, Tryd.underlying4, Tryd.underlying9, e, h1, h2]
 ·have e : ¬ x = y := fun e => h1 (by rw [e])
  simp [go_sem, Op.eqFields, Tryd.underlying3, Tryd.underlying4, Tryd.underlying9, e, h1]
theorem neq_tyN (x y : Ty) (W : World) : (binOp .neq 37 (.agg #[.int .i64 x.off, .bool x.save, .string x.name]) (.agg #[.int .i64 y.off, .bool y.save, .string y.name])).run Tryd.prog W = .ok (.bool (!decide (x = y))) W := by
 rw [run_neq_struct, run_equalIn_agg W 9999 _ _ _ agg_tyN stood_tyN, fieldsTyN]
 by_cases h1 : x.off = y.off
 ·by_cases h2 : x.save = y.save
  ·by_cases h3 : x.name = y.name
   ·have e : x = y := ty_eq.2 ⟨h1, h2, h3⟩
    simp [go_sem, Op.eqFields, Tryd.underlying3, Tryd.underlying4, Tryd.underlying9, e]
   ·have e : ¬ x = y := fun e => h3 (by rw [e])
    simp [go_sem, Op.eqFields, Tryd.underlying3, Tryd.underlying4, Tryd.underlying9, e, h1, h2, bytes_ne h3]
  ·have e : ¬ x = y := fun e => h2 (by rw [e])
   simp [go_sem, Op.eqFields, Tryd.underlying3, Tryd.underlying4, Tryd.underlying9, e, h1, h2]
 ·have e : ¬ x = y := fun e => h1 (by rw [e])
  simp [go_sem, Op.eqFields, Tryd.underlying3, Tryd.underlying4, Tryd.underlying9, e, h1]
end Go.Proofs.YtomahddiclkepaaDoor
namespace Go.Proofs.YtomahddiclkepaaDoor
open Go.RowKit Go.Joins
open Classical
set_option linter.unusedVariables false
set_option linter.unusedSimpArgs false
def tyC (x : Ty) : List Value := [.int .i64 x.off, .bool x.save, .string x.name]
def chC (x : Ch) : List Value := [.int .i64 x.t, .int .i64 x.k]
def tyCells (l : List Ty) : List Value := l.flatMap tyC
def chCells (l : List Ch) : List Value := l.flatMap chC
theorem tyCells_snoc (l : List Ty) (x : Ty) : tyCells (l ++ [x]) = tyCells l ++ tyC x := by simp [tyCells]
theorem chCells_snoc (l : List Ch) (x : Ch) : chCells (l ++ [x]) = chCells l ++ chC x := by simp [chCells]
theorem tyCells_get : ∀ (l : List Ty) (i : Nat) (h : i < l.length), (tyCells l)[i * 3]? = some (.int .i64 l[i].off) ∧ (tyCells l)[i * 3 + 1]? = some (.bool l[i].save) ∧ (tyCells l)[i * 3 + 2]? = some (.string l[i].name)
 | [], i, h => by simp at h
 | x :: r, 0, _ => by simp [tyCells, tyC]
 | x :: r, i + 1, h => by
  have := tyCells_get r i (by simpa using h)
  have e : tyCells (x :: r) = tyC x ++ tyCells r := by simp [tyCells]
  rw [e]
  have e3 : (tyC x).length = 3 := rfl
  rw [List.getElem?_append_right (by rw [e3]; omega), List.getElem?_append_right (by rw [e3]; omega), List.getElem?_append_right (by rw [e3]; omega), e3,
   show (i + 1) * 3 - 3 = i * 3 by omega, show (i + 1) * 3 + 1 - 3 = i * 3 + 1 by omega, show (i + 1) * 3 + 2 - 3 = i * 3 + 2 by omega]
  simpa using this
theorem chCells_get : ∀ (l : List Ch) (i : Nat) (h : i < l.length), (chCells l)[i * 2]? = some (.int .i64 l[i].t) ∧ (chCells l)[i * 2 + 1]? = some (.int .i64 l[i].k)
 | [], i, h => by simp at h
 | x :: r, 0, _ => by simp [chCells, chC]
 | x :: r, i + 1, h => by
  have := chCells_get r i (by simpa using h)
  have e : chCells (x :: r) = chC x ++ chCells r := by simp [chCells]
  rw [e]
  have e3 : (chC x).length = 2 := rfl
  rw [List.getElem?_append_right (by rw [e3]; omega), List.getElem?_append_right (by rw [e3]; omega), e3,
   show (i + 1) * 2 - 2 = i * 2 by omega, show (i + 1) * 2 + 1 - 2 = i * 2 + 1 by omega]
  simpa using this
theorem own_types {W : World} {B : Nat} {v : Value} {l : List Ty} (h : W.ownsRow B 37 3 v l.length (tyCells l)) (hl : l.length ≤ 100000000) (hn : ∀ x ∈ l, x.name.size ≤ maxLen) : SlTy W v l := by
 refine ⟨?_, by simp only [maxLen]; omega, hn⟩
 rcases own_cells h with ⟨rfl, h0⟩ | ⟨g, cap, rfl, hb, hg, hc⟩
 ·have : l = [] := List.eq_nil_of_length_eq_zero h0
  subst this
  exact ⟨none, 0, rfl, fun h => absurd rfl h⟩
 ·refine ⟨_, cap, rfl, fun _ => ⟨g, 0, rfl, hg, fun i hi => ?_⟩⟩
  obtain ⟨k1, k2, k3⟩ := tyCells_get l i hi
  exact ⟨by rw [Nat.zero_add]; exact hc _ _ k1, by rw [Nat.zero_add]; exact hc _ _ k2, by rw [Nat.zero_add]; exact hc _ _ k3⟩
theorem own_chs {W : World} {B : Nat} {v : Value} {l : List Ch} (h : W.ownsRow B 40 2 v l.length (chCells l)) (hl : l.length ≤ 100000000) : SlCh W v l := by
 refine ⟨?_, by simp only [maxLen]; omega⟩
 rcases own_cells h with ⟨rfl, h0⟩ | ⟨g, cap, rfl, hb, hg, hc⟩
 ·have : l = [] := List.eq_nil_of_length_eq_zero h0
  subst this
  exact ⟨none, 0, rfl, fun h => absurd rfl h⟩
 ·refine ⟨_, cap, rfl, fun _ => ⟨g, 0, rfl, hg, fun i hi => ?_⟩⟩
  obtain ⟨k1, k2⟩ := chCells_get l i hi
  exact ⟨by rw [Nat.zero_add]; exact hc _ _ k1, by rw [Nat.zero_add]; exact hc _ _ k2⟩
theorem fieldsChN : (Tryd.prog.fieldsOf 40).toList = [{ name := "At", type := 3, offset := 0, embedded := false, tag := "", pkgPath := "", byteOffset := 0 }, { name := "Type", type := 3, offset := 1, embedded := false, tag := "", pkgPath := "", byteOffset := 8 }] := by kernel_rfl
theorem agg_chN : Tryd.prog.underlying 40 = some (.struct (Tryd.prog.fieldsOf 40)) := by kernel_rfl
theorem stood_chN : Tryd.prog.stoodInHeld 40 = false := by kernel_rfl
theorem ch_eq {x y : Ch} : x = y ↔ x.t = y.t ∧ x.k = y.k := by
 cases x; cases y; simp
theorem neq_chN (x y : Ch) (W : World) : (binOp .neq 40 (.agg #[.int .i64 x.t, .int .i64 x.k]) (.agg #[.int .i64 y.t, .int .i64 y.k])).run Tryd.prog W = .ok (.bool (!decide (x = y))) W := by
 rw [run_neq_struct, run_equalIn_agg W 9999 _ _ _ agg_chN stood_chN, fieldsChN]
 by_cases h1 : x.t = y.t
 ·by_cases h2 : x.k = y.k
  ·have e : x = y := ch_eq.2 ⟨h1, h2⟩
   simp [go_sem, Op.eqFields, Tryd.underlying3, e]
  ·have e : ¬ x = y := fun e => h2 (by rw [e])
   simp [go_sem, Op.eqFields, Tryd.underlying3, e, h1, h2]
 ·have e : ¬ x = y := fun e => h1 (by rw [e])
  simp [go_sem, Op.eqFields, Tryd.underlying3, e, h1]
theorem below_drewNm {B : Nat} {a w : World} (h : Below B a w) (n : Nat) : Below B a (w.drewN n) := ⟨h.os, h.tape, h.output, h.size, h.block⟩
noncomputable def idxI (l : List Ty) (x : Ty) : Int := if x ∈ l then (idxTy l x : Int) else -1
theorem idx_first {l : List Ty} {x : Ty} {k : Nat} (hk : k < l.length) (hx : l[k] = x) (hno : ∀ j (h : j < k), l[j]'(by omega) ≠ x) : idxTy l x = k := by
 unfold idxTy
 rw [List.findIdx_eq hk]
 exact ⟨by simp [hx], fun j hj => by simpa using hno j hj⟩
set_option maxRecDepth 100000 in
set_option maxHeartbeats 1000000 in
theorem IndexTy_any (l : List Ty) (x : Ty) (v : Value) (w : World) (h1 : SlTy w v l) (hl : l.length ≤ 100000000) :
 Calls Tryd.prog 46 #[v, tyV x] w fun e w' => e = .returned (.int .i64 (idxI l x)) ∧ Below w.heap.size w w' := by
 obtain ⟨p, cap, rfl, g1⟩ := h1.shape
 have HA := Lib.hid g1
 clear h1 g1
 go_enter Tryd.func46, Tryd.ntmps46
 go_wp2
 go_loopw [8] (fun i wr => ∃ k : Nat, k ≤ l.length ∧ i = .int .i64 k ∧ (∀ j (h : j < k) (h2 : j < l.length), l[j] ≠ x) ∧ Below (w.alloc (.cells #[.int .i64 x.off, .bool x.save, .string x.name] 37)).heap.size (w.alloc (.cells #[.int .i64 x.off, .bool x.save, .string x.name] 37)) wr) (fun i _ => l.length - (intOf i).toNat)
 case atStart => exact ⟨0, Nat.zero_le _, rfl, fun j h => absurd h (Nat.not_lt_zero j), Below.refl _ _⟩
 case round =>
  obtain ⟨k, hk, rfl, hno, hbel⟩ := hrel
  have hbw : Below w.heap.size w wr := ((Below.refl _ w).alloc (Nat.le_refl _) _).trans (hbel.mono (by simp))
  have f0 : wr.cell? ⟨w.heap.size, 0, none⟩ = some (.int .i64 x.off) := (hbel.cell (p := ⟨w.heap.size, 0, none⟩) (by simp)).trans ((cell_of_row _ _ _ _ _ _ (heap_alloc_new w _)).trans rfl)
  have f1 : wr.cell? ⟨w.heap.size, 1, none⟩ = some (.bool x.save) := (hbel.cell (p := ⟨w.heap.size, 1, none⟩) (by simp)).trans ((cell_of_row _ _ _ _ _ _ (heap_alloc_new w _)).trans rfl)
  have f2 : wr.cell? ⟨w.heap.size, 2, none⟩ = some (.string x.name) := (hbel.cell (p := ⟨w.heap.size, 2, none⟩) (by simp)).trans ((cell_of_row _ _ _ _ _ _ (heap_alloc_new w _)).trans rfl)
  have HBL := Lib.hid hbel
  have HBW := Lib.hid hbw
  have HNO := Lib.hid hno
  clear hbel hbw hno
  by_cases hlt : k < l.length
  ·obtain ⟨y, ey⟩ : ∃ y, l[k] = y := ⟨_, rfl⟩
   have hne0 : l ≠ [] := by intro e; rw [e] at hlt; simp at hlt
   obtain ⟨b, o, rfl, hb, ha0⟩ := HA.out hne0
   have ha := (ha0 k hlt).below HBW.out hb
   rw [ey] at ha
   obtain ⟨a0, a1, a2⟩ := ha
   have hlb := World.block_lt_of_cell? _ _ a0
   have hq := eql_ty x y
   have EY := Lib.hid ey
   clear ey ha0 hne0
   by_cases hxy : x = y
   ·have hR : Hid (idxI l x = (k : Int)) := by
     show _ = _
     unfold idxI
     have hm : x ∈ l := by rw [hxy, ← EY.out]; exact List.getElem_mem _
     rw [if_pos hm, idx_first hlt (by rw [EY.out, hxy]) (fun j hj => HNO.out j hj (by omega))]
    have hd : decide (x = y) = true := by simpa using hxy
    rw [hd] at hq
    clear hxy hd
    go_wp2
    go_quiet (fail)
    go_wp2
    go_ret
    exact ⟨ret_int' hR.out.symm, below_drewNm HBW.out _⟩
   ·have hd : decide (x = y) = false := by simpa using hxy
    rw [hd] at hq
    have hno' : ∀ j (h : j < k + 1) (h2 : j < l.length), l[j] ≠ x := fun j hj h2 => by
     by_cases e : j = k
     ·subst e; rw [EY.out]; exact fun e2 => hxy e2.symm
     ·exact HNO.out j (by omega) h2
    have HN2 := Lib.hid hno'
    clear hno' hd hxy
    go_wp2
    go_quiet (fail)
    go_wp2
    go_roundw
    case rel => exact ⟨k + 1, by omega, by go_num, HN2.out, below_drewNm HBL.out _⟩
    case measure => simp [intOf]; omega
  ·have hR : Hid (idxI l x = -1) := by
    show _ = _
    unfold idxI
    rw [if_neg]
    intro hm
    obtain ⟨j, hj, e⟩ := List.getElem_of_mem hm
    exact HNO.out j (by omega) hj e
   go_wp2
   go_ret
   exact ⟨ret_int' hR.out.symm, HBW.out⟩
end Go.Proofs.YtomahddiclkepaaDoor
