/- A table's book: that it may be, what it says, and that its table is made again: plain facts. The spans in which two tables differ: plain Lean. Laws of tables by names: plain facts for the walks. sort.Search (at a function that leaves what lay below), table.Of, table.At, wall.check, wall.Local: what each returns. table.Of: the type at a time, of a table that may be. table.Of of a table that may be. wall.pieces: the pieces of a table that may be, one behind the other. wall.pieces: the pieces of a table without changes; and of whatever table that may be. wall.Find: the times at which clocks show a local time. The plain laws of pieces, of the types at times, of the times found. Normal tables: plain Lean. clock.Span: what it returns. Pieces of a text between letters, and what digits say: plain Lean. strconv.Atoi at every text: the number; nil just where it is one. A text cut at each instance of a letter: plain Lean. -/
import Derived.Test.YtomahddiclkepaaGreatDoorQa03
import Derived.Test.YtomahddiclkepaaGreatDoorQa09
import Derived.Test.YtomahddiclkepaaGreatDoorQa01
import Derived.Deep.LoopGhost
import Derived.RegionTactic
import Derived.ChangeAlike
import Derived.BigRegion
import Derived.Sort.Walk0
import Derived.StillTailTactics
import Derived.Lib.SmallJoins
import Derived.RangeFuncNested
import Derived.RangeFuncBox
import Derived.RangeFuncBound
import Derived.RangeFuncCalls
import Derived.RangeFuncLeaves
import Derived.Shelf.Abstract
import Derived.OwnWalkIn
import Derived.TacticsInMore
import Derived.LoopNIn
import Derived.LoopIn
import Derived.BigRegionIn
import Derived.Sort.QuietIn
import Derived.Maps.AppendAt
import Derived.Test.YtomahddiclkepaaGreatDoorQa02
import Derived.Lib.FieldsP
import Derived.Laws.RangeString
import Derived.Lib.AtoiAllCases
import Derived.Shelf.Strconv.AtoiAll
import Derived.Shelf.Strconv.ErrVarAll
import Derived.Lib.Split
import Derived.Lib.SplitLaws
namespace Go.Proofs.YtomahddiclkepaaGreatDoor
open Go.RowKit Go.Joins Go.Maps
open Classical
set_option linter.unusedVariables false
set_option linter.unusedSimpArgs false
def toEr (x : BB.Er) : Er := ⟨x.off, x.rul, x.save, x.fmt, x.til⟩
def bErs (N : Tab) : List Er := (List.range (N.chs.length + 1)).map fun i => toEr (BB.erAt N i)
theorem bErs_len (N : Tab) : (bErs N).length = N.chs.length + 1 := by simp [bErs]
theorem bErs_at (N : Tab) (k : Nat) (h : k < N.chs.length + 1) : eraAt (bErs N) k = toEr (BB.erAt N k) := by
 unfold eraAt bErs
 rw [List.getElem?_map, List.getElem?_range h]
 rfl
theorem segT_mem {N : Tab} (ok : OkTab N) (i : Nat) (hi : i ≤ N.chs.length) : BB.segT N i ∈ N.types := by
 have h : 0 ≤ BB.segK N i ∧ BB.segK N i < N.types.length := by
  unfold BB.segK
  split
  ·exact ok.first
  ·have h : i - 1 < N.chs.length := by omega
   have := ok.ch N.chs[i - 1] (List.getElem_mem h)
   unfold kAt
   rw [List.getElem?_eq_getElem h]
   exact ⟨this.2.2.1, this.2.2.2⟩
 unfold BB.segT tyD
 have h2 : (BB.segK N i).toNat < N.types.length := by omega
 rw [List.getElem?_eq_getElem h2]
 exact List.getElem_mem h2
theorem er_off (x : Ty) (u : Int) : (toEr (BB.erOf x u)).off + (toEr (BB.erOf x u)).sv = x.off := by
 show BB.erOff x + BB.erSave x = x.off
 unfold BB.erOff BB.erSave
 split <;> omega
theorem er_sv (x : Ty) (u : Int) : decide (0 < (toEr (BB.erOf x u)).sv) = x.save := by
 show decide (0 < BB.erSave x) = x.save
 unfold BB.erSave
 cases x.save <;> decide
theorem er_svb (x : Ty) (u : Int) : 0 ≤ (toEr (BB.erOf x u)).sv ∧ (toEr (BB.erOf x u)).sv ≤ 10800 := by
 show 0 ≤ BB.erSave x ∧ BB.erSave x ≤ 10800
 unfold BB.erSave
 split <;> omega
theorem er_abE {x : Ty} (h : abbrB x.name = true) (u : Int) : abbrF (toEr (BB.erOf x u)).fm.data.toList (toEr (BB.erOf x u)).sv dashB.data.toList = (x.name.data.toList, 0) :=
 abbrF_self (f := x.name.data.toList) (by rw [show txt x.name.data.toList = x.name from by unfold txt; simp]; exact h) (er_svb x u).1 (er_svb x u).2
structure Bkd (N : Tab) (nm : ByteArray) : Prop where
 ok : OkTab N
 norm : normT N = N
 name : nameB nm = true
 len : N.chs.length < 700
 st : ∀ c ∈ N.chs, stampE c.t = 0
 er : ∀ i, i ≤ N.chs.length → BB.erOk (BB.segT N i) = true
theorem bkd_of {t : Tab} {nm : ByteArray} (h : BB.backC t nm = 0) : Bkd (normT t) nm ∧ chk t = 0 := by
 unfold BB.backC at h
 split at h
 ·exact absurd h (by assumption)
 rename_i h1
 split at h
 ·cases h
 rename_i h2
 split at h
 ·cases h
 rename_i h3
 split at h
 ·cases h
 rename_i h4
 split at h
 ·cases h
 rename_i h5
 have hc : chk t = 0 := Classical.not_not.1 h1
 refine ⟨⟨norm_ok t (chk_ok t hc), normT_norm t, by simpa using h2, by omega, fun c hc => ?_, fun i hi => ?_⟩, hc⟩
 ·have h6 : BB.okSB c.t = true := by
   cases e : BB.okSB c.t with
   | true => rfl
   | false => exact absurd ⟨c, hc, e⟩ h4
  unfold BB.okSB at h6
  unfold stampE
  rw [if_pos (of_decide_eq_true h6)]
 ·cases e : BB.erOk (BB.segT (normT t) i) with
  | true => rfl
  | false => exact absurd ⟨i, hi, e⟩ h5
theorem er_ruE (x : Ty) (u : Int) : (toEr (BB.erOf x u)).ru.data.toList = [] := rfl
theorem er_ruA (N : Tab) (i : Nat) : (toEr (BB.erAt N i)).ru.data.toList = [] := rfl
section
variable {N : Tab} {nm : ByteArray}
theorem bErs_ok (h : Bkd N nm) (k : Nat) (hk : k < N.chs.length + 1) : EraOk [] (eraAt (bErs N) k) := by
 rw [bErs_at N k hk]
 have hm := segT_mem h.ok k (by omega)
 have hn := (h.ok.type _ hm).2.2
 have ho := h.er k (by omega)
 unfold BB.erOk at ho
 have ho := of_decide_eq_true ho
 refine ⟨ho.1, ho.2, (er_svb _ _).1, (er_svb _ _).2, fun g => absurd rfl g, fun g => absurd rfl g, ?_⟩
 unfold abbrsChk
 rw [if_pos (er_ruA N k)]
 unfold abE
 exact congrArg Prod.snd (er_abE hn (BB.segU N k))
theorem bErs_un (h : Bkd N nm) (k : Nat) (hk : k < N.chs.length) : (eraAt (bErs N) k).un = tAt N.chs k := by
 rw [bErs_at N k (by omega)]
 show BB.segU N k = _
 unfold BB.segU
 rw [if_pos hk]
theorem tAt_memB (m : List Ch) (k : Nat) (hk : k < m.length) : ∃ c ∈ m, tAt m k = c.t := by
 refine ⟨m[k], List.getElem_mem hk, ?_⟩
 unfold tAt
 rw [List.getElem?_eq_getElem hk]
 rfl
theorem bErs_chk (h : Bkd N nm) (k : Nat) (hk : k < (bErs N).length) : eraChk [] (bErs N) k = 0 := by
 rw [bErs_len] at hk
 have e := bErs_ok h k hk
 have hl := bErs_len N
 unfold eraChk
 dsimp only
 rw [if_neg (by have := e.o1; have := e.o2; have := e.s1; have := e.s2; omega), if_neg (fun g => g.1 (e.sr g.2)), if_neg (fun g => g.1 (by rw [bErs_at N k hk]; rfl)), if_neg (fun g => g e.ab)]
 by_cases hkl : k + 1 = (bErs N).length
 ·rw [if_pos hkl, if_neg]
  intro g
  refine g ?_
  rw [bErs_at N k hk]
  show BB.segU N k = 0
  unfold BB.segU
  rw [if_neg (by omega)]
 ·rw [if_neg hkl]
  have hk2 : k < N.chs.length := by omega
  obtain ⟨c, hc, ec⟩ := tAt_memB N.chs k hk2
  have hs := h.st c hc
  have hb := stampE_bd hs
  rw [← ec] at hs hb
  rw [bErs_un h k hk2, if_neg (by omega), if_neg (fun g => g hs), if_neg]
  rintro ⟨g1, g2⟩
  rw [bErs_un h (k - 1) (by omega)] at g2
  have := List.pairwise_iff_getElem.1 h.ok.rise (k - 1) k (by omega) hk2 (by omega)
  unfold tAt at g2
  rw [List.getElem?_eq_getElem hk2, List.getElem?_eq_getElem (show k - 1 < N.chs.length by omega)] at g2
  simp only [Option.map_some, Option.getD_some] at g2
  omega
theorem bBk_chk (h : Bkd N nm) (ev : Value) : bkChk (oneB [] nm ev (bErs N)) = 0 :=
 oneB_chk (by decide) (fun r hr => by cases hr) h.name (fun e => by have := bErs_len N; rw [e] at this; cases this) (by rw [bErs_len]; have := h.len; omega) (bErs_chk h)
theorem bErs_which (h : Bkd N nm) (y : Int) : whichF (bErs N) y = cntOf N.chs y := by
 unfold whichF cntOf
 rw [bErs_len, Nat.add_sub_cancel]
 unfold cntF
 refine List.countP_congr fun i hi => ?_
 simp only [bErs_un h i (List.mem_range.1 hi)]
theorem bErs_says (h : Bkd N nm) (y : Int) : stF [] (bErs N) y = tyOf N y := by
 have hw := bErs_which h y
 have hle := cntOf_le N.chs y
 unfold stF tdA
 rw [hw, bErs_at N _ (by omega)]
 have hm := segT_mem h.ok (cntOf N.chs y) hle
 have hn := (h.ok.type _ hm).2.2
 have e1 : tyOf N y = BB.segT N (cntOf N.chs y) := rfl
 rw [e1]
 generalize hx : BB.segT N (cntOf N.chs y) = x at *
 have e2 : BB.erAt N (cntOf N.chs y) = BB.erOf x (BB.segU N (cntOf N.chs y)) := by unfold BB.erAt; rw [hx]
 rw [e2]
 generalize BB.segU N (cntOf N.chs y) = u
 have e3 : tdR [] (toEr (BB.erOf x u)) = ⟨toEr (BB.erOf x u), [], dashB⟩ := by unfold tdR; rw [if_pos (er_ruE x u)]
 rw [e3]
 have e4 : svT ⟨toEr (BB.erOf x u), [], dashB⟩ y = ((toEr (BB.erOf x u)).sv, dashB) := rfl
 unfold tdTy nmT
 rw [e4]
 dsimp only
 rw [er_off, er_sv, er_abE hn]
 cases x
 simp only [Ty.mk.injEq, true_and]
 unfold txt
 simp
theorem bErs_tds (h : Bkd N nm) : TdsOk [] (bErs N) := by
 have ho := bk_eras (bBk_chk h undef) (z := ⟨nm, undef, bErs N⟩) (List.mem_singleton.2 rfl)
 refine tdsOk_of ho ?_
 rw [firstE_zero]
 intro x hx
 obtain ⟨i, hi, rfl⟩ := List.mem_map.1 hx
 unfold tdE
 rw [if_pos (er_ruA N i)]
theorem norm_made (h : Bkd N nm) {fr te : Int} (hc : ∀ c ∈ N.chs, fr < c.t ∧ c.t < te) : normR (stF [] (bErs N) fr) (candsF [] (bErs N) fr te) = N := by
 have hd := bErs_tds h
 have hv : ∀ y, valL (resH N) (resL N) y = tyOf N y := fun y => (tyOf_valV N h.ok y).symm
 have hr : RiseL (resL N) := by
  unfold resL RiseL
  exact List.pairwise_map.2 h.ok.rise
 have h0 : stF [] (bErs N) fr = resH N := by
  rw [bErs_says h, ← hv]
  rcases valL_mem (resL N) fr (resH N) with e | ⟨c, hm, g, -⟩
  ·exact e
  ·obtain ⟨d, hd, rfl⟩ := List.mem_map.1 hm
   have := (hc d hd).1
   simp only at g
   omega
 have e1 : squ (stF [] (bErs N) fr) (candsF [] (bErs N) fr te) = squ (resH N) (resL N) := by
  refine rise_ext (chg_rise hd fr te) (squ_rise hr _) fun c => ?_
  rw [chg_mem hd fr te c, squ_mem hr c, hv, hv, bErs_says h, bErs_says h]
  constructor
  ·rintro ⟨-, -, a, b⟩; exact ⟨a, b⟩
  ·rintro ⟨a, b⟩
   have hin : ∃ d ∈ resL N, d.1 = c.1 := Classical.byContradiction fun g => a (by
    rw [← hv, ← hv]
    exact valL_none (fun d hd e => g ⟨d, hd, e⟩) _)
   obtain ⟨d, hd, e⟩ := hin
   obtain ⟨q, hq, rfl⟩ := List.mem_map.1 hd
   have := hc q hq
   simp only at e
   rw [e] at this
   exact ⟨this.1, this.2, a, b⟩
 rw [← normR_squ, e1, h0, normR_squ]
 exact h.norm
theorem back_made (h : Bkd N nm) (ev : Value) {fr te : Int} (hc : ∀ c ∈ N.chs, fr < c.t ∧ c.t < te) (h1 : stampE fr = 0) (h2 : stampE te = 0) (h3 : fr < te) : mkT (oneB [] nm ev (bErs N)) nm fr te = (0, N) := by
 rw [mkT_of (oneB_rsv (bBk_chk h ev))]
 show mkE [] (bErs N) fr te = _
 unfold mkE
 have e := norm_made h hc
 have hd := (bErs_tds h)
 have he : firstE (tdE []) (bErs N) = 0 := by
  rw [firstE_zero]
  intro x hx
  obtain ⟨i, hi, rfl⟩ := List.mem_map.1 hx
  unfold tdE
  rw [if_pos (er_ruA N i)]
 rw [if_neg (fun g => g h1), if_neg (fun g => g h2), if_neg (by omega), if_neg (fun g => g he), e]
 rw [if_neg (by have := h.ok.many; have := h.ok.chs; omega)]
theorem back_state (h : Bkd N nm) (ev : Value) {y : Int} (h1 : stampE y = 0) : stR (oneB [] nm ev (bErs N)) nm y = (0, tyOf N y) := by
 unfold stR
 rw [oneB_rsv (bBk_chk h ev)]
 dsimp only
 rw [if_neg (fun g => g h1)]
 have he : tdE (oneB [] nm ev (bErs N)).rules (eraAt (bErs N) (whichF (bErs N) y)) = 0 := by
  have hw := bErs_which h y
  have := cntOf_le N.chs y
  rw [bErs_at N _ (by omega)]
  unfold tdE
  rw [if_pos (er_ruA N _)]
 rw [if_neg (fun g => g he)]
 have := bErs_says h y
 unfold stF tdA at this
 exact congrArg (Prod.mk (0 : Int)) this
end
end Go.Proofs.YtomahddiclkepaaGreatDoor
namespace Go.Proofs.YtomahddiclkepaaGreatDoor
open Classical
set_option linter.unusedVariables false
def stepB (eq : Int → Bool) (out : List (Int × Int)) (f t : Int) : List (Int × Int) :=
 if f = t ∨ eq f = true then out else
 match out.getLast? with
 | some p => if p.2 = f then out.dropLast ++ [(p.1, t)] else out ++ [(f, t)]
 | none => out ++ [(f, t)]
def outN (eq : Int → Bool) (L : List Int) : Nat → List (Int × Int)
 | 0 => []
 | k + 1 => stepB eq (outN eq L k) (L.getD k 0) (L.getD (k + 1) 0)
def inSB (f t : Int) (c : Ch) : Bool := decide (f < c.t ∧ c.t < t)
def ptsB (l : List Ch) (f t : Int) : List Int := f :: t :: ((l.filter (inSB f t)).map (·.t))
def srtB (l : List Ch) (f t : Int) : List Int := (ptsB l f t).mergeSort (fun x y => decide (x ≤ y))
noncomputable def eqB (a b : Tab) (x : Int) : Bool := decide (tyOf a x = tyOf b x)
noncomputable def outB (a b : Tab) (f t : Int) : List (Int × Int) := outN (eqB a b) (srtB (a.chs ++ b.chs) f t) ((srtB (a.chs ++ b.chs) f t).length - 1)
structure BInv (eq : Int → Bool) (f cur : Int) (out : List (Int × Int)) : Prop where
 proper : ∀ p ∈ out, f ≤ p.1 ∧ p.1 < p.2 ∧ p.2 ≤ cur
 apart : out.Pairwise (fun p q => p.2 < q.1)
 cover : ∀ y, f ≤ y → y < cur → ((∃ p ∈ out, p.1 ≤ y ∧ y < p.2) ↔ eq y = false)
theorem BInv.more {eq : Int → Bool} {f cur nxt : Int} {out : List (Int × Int)} (h : BInv eq f cur out) (h1 : cur < nxt) (hf : f ≤ cur) (he : eq cur = false) (hc : ∀ y, cur ≤ y → y < nxt → eq y = eq cur) (hl : ∀ p ∈ out, p.2 < cur) :
  BInv eq f nxt (out ++ [(cur, nxt)]) := by
 refine ⟨fun p hp => ?_, ?_, fun y hy1 hy2 => ?_⟩
 ·rcases List.mem_append.1 hp with hp | hp
  ·have := h.proper p hp; omega
  ·simp only [List.mem_singleton] at hp; subst hp; exact ⟨hf, h1, Int.le_refl _⟩
 ·rw [List.pairwise_append]
  refine ⟨h.apart, by simp, fun p hp q hq => ?_⟩
  simp only [List.mem_singleton] at hq; subst hq
  exact hl p hp
 ·by_cases hyc : y < cur
  ·rw [← h.cover y hy1 hyc]
   constructor
   ·rintro ⟨p, hp, hp2⟩
    rcases List.mem_append.1 hp with hp | hp
    ·exact ⟨p, hp, hp2⟩
    ·simp only [List.mem_singleton] at hp; subst hp; exact absurd hp2.1 (by show ¬ cur ≤ y; omega)
   ·rintro ⟨p, hp, hp2⟩
    exact ⟨p, by simp [hp], hp2⟩
  ·rw [hc y (by omega) hy2, he]
   simp only [iff_true]
   exact ⟨(cur, nxt), by simp, by show cur ≤ y; omega, hy2⟩
theorem BInv.step {eq : Int → Bool} {f cur nxt : Int} {out : List (Int × Int)} (h : BInv eq f cur out) (h1 : cur ≤ nxt) (hf : f ≤ cur) (hc : ∀ y, cur ≤ y → y < nxt → eq y = eq cur) : BInv eq f nxt (stepB eq out cur nxt) := by
 unfold stepB
 split
 ·next hs =>
  refine ⟨fun p hp => by have := h.proper p hp; omega, h.apart, fun y hy1 hy2 => ?_⟩
  by_cases hyc : y < cur
  ·exact h.cover y hy1 hyc
  ·have he : eq cur = true := hs.resolve_left (by omega)
   rw [hc y (by omega) hy2, he]
   simp only [Bool.true_eq_false, iff_false]
   rintro ⟨p, hp, hp2⟩
   have := h.proper p hp
   omega
 ·next hs =>
  have hlt : cur < nxt := by
   have : cur ≠ nxt := fun e => hs (.inl e)
   omega
  have he : eq cur = false := by
   cases e : eq cur
   ·rfl
   ·exact absurd (.inr e) hs
  split
  ·next p hp =>
   obtain ⟨init, rfl⟩ := List.getLast?_eq_some_iff.1 hp
   have hpp := h.proper p (by simp)
   have hap := List.pairwise_append.1 h.apart
   split
   ·next e =>
    rw [List.dropLast_concat]
    refine ⟨fun q hq => ?_, ?_, fun y hy1 hy2 => ?_⟩
    ·rcases List.mem_append.1 hq with hq | hq
     ·have := h.proper q (by simp [hq]); omega
     ·simp only [List.mem_singleton] at hq; subst hq; exact ⟨hpp.1, by show p.1 < nxt; omega, Int.le_refl _⟩
    ·rw [List.pairwise_append]
     refine ⟨hap.1, by simp, fun a ha q hq => ?_⟩
     simp only [List.mem_singleton] at hq; subst hq
     exact hap.2.2 a ha p (by simp)
    ·by_cases hyc : y < cur
     ·rw [← h.cover y hy1 hyc]
      constructor
      ·rintro ⟨q, hq, hq2⟩
       rcases List.mem_append.1 hq with hq | hq
       ·exact ⟨q, by simp [hq], hq2⟩
       ·simp only [List.mem_singleton] at hq; subst hq
        exact ⟨p, by simp, hq2.1, by omega⟩
      ·rintro ⟨q, hq, hq2⟩
       rcases List.mem_append.1 hq with hq | hq
       ·exact ⟨q, by simp [hq], hq2⟩
       ·simp only [List.mem_singleton] at hq; subst hq
        exact ⟨(q.1, nxt), by simp, hq2.1, by show y < nxt; omega⟩
     ·rw [hc y (by omega) hy2, he]
      simp only [iff_true]
      exact ⟨(p.1, nxt), by simp, by show p.1 ≤ y; omega, hy2⟩
   ·next e =>
    refine h.more hlt hf he hc fun q hq => ?_
    rcases List.mem_append.1 hq with hq | hq
    ·have := hap.2.2 q hq p (by simp)
     omega
    ·simp only [List.mem_singleton] at hq; subst hq; omega
  ·next hn =>
   rw [List.getLast?_eq_none_iff] at hn
   subst hn
   exact h.more hlt hf he hc (by simp)
theorem outN_inv (eq : Int → Bool) (L : List Int) (f : Int) (h0 : L.getD 0 0 = f) (hf : ∀ x ∈ L, f ≤ x) (hs : L.Pairwise (· ≤ ·)) (hc : ∀ k, k + 1 < L.length → ∀ y, L.getD k 0 ≤ y → y < L.getD (k + 1) 0 → eq y = eq (L.getD k 0)) :
  ∀ k, k < L.length → BInv eq f (L.getD k 0) (outN eq L k) := by
 intro k
 induction k with
 | zero => intro _; rw [h0]; exact ⟨by simp [outN], by simp [outN], fun y h1 h2 => by omega⟩
 | succ k ih =>
  intro hk
  have g0 : L.getD k 0 = L[k]'(by omega) := by simp [List.getD, List.getElem?_eq_getElem (show k < L.length by omega)]
  have g1 : L.getD (k + 1) 0 = L[k + 1] := by simp [List.getD, List.getElem?_eq_getElem hk]
  refine (ih (by omega)).step ?_ ?_ (hc k hk)
  ·rw [g0, g1]
   exact List.pairwise_iff_getElem.1 hs k (k + 1) (by omega) hk (by omega)
  ·rw [g0]
   exact hf _ (List.getElem_mem _)
theorem srtB_perm (l : List Ch) (f t : Int) : (srtB l f t).Perm (ptsB l f t) := List.mergeSort_perm _ _
theorem srtB_sorted (l : List Ch) (f t : Int) : (srtB l f t).Pairwise (· ≤ ·) := by
 have := List.pairwise_mergeSort (le := fun x y : Int => decide (x ≤ y)) (fun a b c h1 h2 => by simp at *; omega) (fun a b => by simp; omega) (ptsB l f t)
 exact this.imp (by intro a b h; simpa using h)
theorem ptsB_in {l : List Ch} {f t x : Int} (hft : f ≤ t) (h : x ∈ ptsB l f t) : f ≤ x ∧ x ≤ t := by
 unfold ptsB at h
 simp only [List.mem_cons, List.mem_map, List.mem_filter, inSB, decide_eq_true_eq] at h
 rcases h with rfl | rfl | ⟨c, ⟨_, h⟩, rfl⟩ <;> omega
theorem srtB_len (l : List Ch) (f t : Int) : (srtB l f t).length = (l.filter (inSB f t)).length + 2 := by
 have := (srtB_perm l f t).length_eq
 rw [this]
 simp [ptsB]
theorem srtB_in {l : List Ch} {f t x : Int} (hft : f ≤ t) (h : x ∈ srtB l f t) : f ≤ x ∧ x ≤ t := ptsB_in hft ((srtB_perm l f t).subset h)
theorem srtB_first (l : List Ch) (f t : Int) (hft : f ≤ t) : (srtB l f t).getD 0 0 = f := by
 have hl := srtB_len l f t
 have h0 : 0 < (srtB l f t).length := by omega
 have g : (srtB l f t).getD 0 0 = (srtB l f t)[0] := by simp [List.getD, List.getElem?_eq_getElem h0]
 rw [g]
 have h1 := srtB_in hft (List.getElem_mem h0)
 have hm : f ∈ srtB l f t := (srtB_perm l f t).symm.subset (by simp [ptsB])
 obtain ⟨j, hj, e⟩ := List.getElem_of_mem hm
 by_cases hj0 : j = 0
 ·subst hj0; exact e
 ·have := List.pairwise_iff_getElem.1 (srtB_sorted l f t) 0 j h0 hj (by omega)
  omega
theorem srtB_last (l : List Ch) (f t : Int) (hft : f ≤ t) : (srtB l f t).getD ((srtB l f t).length - 1) 0 = t := by
 have hl := srtB_len l f t
 have h0 : (srtB l f t).length - 1 < (srtB l f t).length := by omega
 have g : (srtB l f t).getD ((srtB l f t).length - 1) 0 = (srtB l f t)[(srtB l f t).length - 1] := by simp [List.getD, List.getElem?_eq_getElem h0]
 rw [g]
 have h1 := srtB_in hft (List.getElem_mem h0)
 have hm : t ∈ srtB l f t := (srtB_perm l f t).symm.subset (by simp [ptsB])
 obtain ⟨j, hj, e⟩ := List.getElem_of_mem hm
 by_cases hj0 : j = (srtB l f t).length - 1
 ·subst hj0; exact e
 ·have := List.pairwise_iff_getElem.1 (srtB_sorted l f t) j ((srtB l f t).length - 1) hj h0 (by omega)
  omega
theorem srtB_gap (l : List Ch) (f t : Int) (hft : f ≤ t) (k : Nat) (hk : k + 1 < (srtB l f t).length) (c : Ch) (hc : c ∈ l) (h1 : (srtB l f t).getD k 0 < c.t) (h2 : c.t < (srtB l f t).getD (k + 1) 0) : False := by
 have g0 : (srtB l f t).getD k 0 = (srtB l f t)[k]'(by omega) := by simp [List.getD, List.getElem?_eq_getElem (show k < (srtB l f t).length by omega)]
 have g1 : (srtB l f t).getD (k + 1) 0 = (srtB l f t)[k + 1] := by simp [List.getD, List.getElem?_eq_getElem hk]
 rw [g0] at h1
 rw [g1] at h2
 have i0 := srtB_in hft (List.getElem_mem (show k < (srtB l f t).length by omega))
 have i1 := srtB_in hft (List.getElem_mem hk)
 have hm : c.t ∈ srtB l f t := by
  refine (srtB_perm l f t).symm.subset ?_
  unfold ptsB
  simp only [List.mem_cons, List.mem_map, List.mem_filter, inSB, decide_eq_true_eq]
  exact .inr (.inr ⟨c, ⟨hc, by omega⟩, rfl⟩)
 obtain ⟨j, hj, e⟩ := List.getElem_of_mem hm
 have hs := List.pairwise_iff_getElem.1 (srtB_sorted l f t)
 rcases Nat.lt_or_ge k j with h | h
 ·rcases Nat.lt_or_ge (k + 1) j with h' | h'
  ·have := hs (k + 1) j hk hj h'; omega
  ·obtain rfl : j = k + 1 := by omega
   omega
 ·rcases Nat.lt_or_ge j k with h' | h'
  ·have := hs j k hj (by omega) h'; omega
  ·obtain rfl : j = k := by omega
   omega
theorem valL_const (l : List (Int × Ty)) (x y : Int) (hxy : x ≤ y) : ∀ acc, (∀ c ∈ l, ¬ (x < c.1 ∧ c.1 ≤ y)) → valL acc l x = valL acc l y := by
 induction l with
 | nil => intro acc _; rfl
 | cons c r ih =>
  intro acc h
  have hc := h c (by simp)
  have e : (if c.1 ≤ x then c.2 else acc) = (if c.1 ≤ y then c.2 else acc) := by
   by_cases h1 : c.1 ≤ x
   ·rw [if_pos h1, if_pos (by omega)]
   ·rw [if_neg h1, if_neg (by omega)]
  show valL (if c.1 ≤ x then c.2 else acc) r x = valL (if c.1 ≤ y then c.2 else acc) r y
  rw [e]
  exact ih _ (fun d hd => h d (by simp [hd]))
theorem tyOf_const (t : Tab) (ok : OkTab t) (x y : Int) (hxy : x ≤ y) (h : ∀ c ∈ t.chs, ¬ (x < c.t ∧ c.t ≤ y)) : tyOf t x = tyOf t y := by
 rw [tyOf_valV t ok, tyOf_valV t ok]
 refine valL_const _ _ _ hxy _ fun c hc => ?_
 obtain ⟨d, hd, rfl⟩ := List.mem_map.1 hc
 exact h d hd
theorem outB_inv (a b : Tab) (f t : Int) (hft : f ≤ t) (oka : OkTab a) (okb : OkTab b) : BInv (eqB a b) f t (outB a b f t) := by
 have hl := srtB_len (a.chs ++ b.chs) f t
 have h := outN_inv (eqB a b) (srtB (a.chs ++ b.chs) f t) f (srtB_first _ _ _ hft) (fun x hx => (srtB_in hft hx).1) (srtB_sorted _ _ _) (fun k hk y h1 h2 => ?_) ((srtB (a.chs ++ b.chs) f t).length - 1) (by omega)
 ·rw [srtB_last _ _ _ hft] at h
  exact h
 ·have gap := srtB_gap (a.chs ++ b.chs) f t hft k hk
  unfold eqB
  rw [tyOf_const a oka _ y h1 (fun c hc h3 => gap c (by simp [hc]) h3.1 (by omega)), tyOf_const b okb _ y h1 (fun c hc h3 => gap c (by simp [hc]) h3.1 (by omega))]
theorem stepB_len (eq : Int → Bool) (out : List (Int × Int)) (f t : Int) : (stepB eq out f t).length ≤ out.length + 1 := by
 unfold stepB
 split
 ·omega
 ·split
  ·next p hp =>
   obtain ⟨init, rfl⟩ := List.getLast?_eq_some_iff.1 hp
   split
   ·rw [List.dropLast_concat]; simp
   ·simp
  ·simp
theorem outN_len (eq : Int → Bool) (L : List Int) : ∀ k, (outN eq L k).length ≤ k
 | 0 => by simp [outN]
 | k + 1 => by
  have := stepB_len eq (outN eq L k) (L.getD k 0) (L.getD (k + 1) 0)
  have := outN_len eq L k
  show (stepB _ _ _ _).length ≤ _
  omega
end Go.Proofs.YtomahddiclkepaaGreatDoor
namespace Go.Proofs.YtomahddiclkepaaGreatDoor
open Go.RowKit Go.Joins Go.Maps
open Classical
set_option linter.unusedVariables false
set_option linter.unusedSimpArgs false
section
variable {b : Bk} {nm : ByteArray} {fr te : Int} {T : Tab}
theorem mk_made (h : mkT b nm fr te = (0, T)) : ∃ z ∈ b.zones, rsv b nm = (some z, 0) ∧ bkChk b = 0 ∧ Made b.rules z.eras fr te T := by
 have := mkT_zero (b := b) (nm := nm) (fr := fr) (te := te) (by rw [h])
 rw [h] at this
 exact this
theorem mk_says (h : mkT b nm fr te = (0, T)) {y : Int} (h1 : fr ≤ y) (h2 : y < te) : stR b nm y = (0, tyOf T y) := by
 obtain ⟨z, hz, hr, hb, m⟩ := mk_made h
 rw [made_says m h1 h2]
 exact made_st hz hr m h1 h2
end
end Go.Proofs.YtomahddiclkepaaGreatDoor
namespace Go.Proofs.YtomahddiclkepaaGreatDoor
open Go.RowKit
set_option linter.unusedVariables false
set_option linter.unusedSimpArgs false
set_option maxHeartbeats 4000000 in
theorem Search_any (g : Nat) (cb : Array Value) (n : Nat) (p : Nat → Bool) (w : World) (eg : ∀ args w, (callFunc g args).run Tryz.prog w = .ok (.enter g args) w) (hsz : n < 4611686018427387904)
  (hf : ∀ (W : World) (i : Nat), Below w.heap.size w W → i < n → Calls Tryz.prog g (#[.int .i64 i] ++ cb) W fun e w' => e = .returned (.bool (p i)) ∧ Below W.heap.size W w')
  (hmono : ∀ a b, a ≤ b → b < n → p a = true → p b = true) :
  Calls Tryz.prog 103 #[.int .i64 n, .func (.func g) #[] cb] w fun e w' => e = .returned (.int .i64 (cntF p n : Nat)) ∧ Below w.heap.size w w' := by
 have HF := Lib.hid hf
 have M := Lib.hid hmono
 clear hf hmono
 obtain ⟨cnt, hcnt⟩ : ∃ cnt, cntF p n = cnt := ⟨_, rfl⟩
 rw [hcnt]
 have CN := Lib.hid hcnt
 clear hcnt
 go_enter Tryz.func103, Tryz.ntmps103
 go_wp2
 go_loopg [5, 6] n (fun kx s5 s6 wr => ∃ (lo hi : Nat), s5 = .int .i64 lo ∧ s6 = .int .i64 hi ∧ lo ≤ hi ∧ hi ≤ n ∧ hi - lo ≤ kx ∧ Below w.heap.size w wr ∧
  Hid ((∀ t, t < lo → p t = false) ∧ (∀ t, hi ≤ t → t < n → p t = true)))
 case atStart => exact ⟨0, n, rfl, rfl, Nat.zero_le _, Nat.le_refl _, by omega, Below.refl _ _, (⟨fun t ht => absurd ht (Nat.not_lt_zero _), fun t h1 h2 => by omega⟩ : (∀ t, t < 0 → p t = false) ∧ (∀ t, n ≤ t → t < n → p t = true))⟩
 case round =>
  obtain ⟨lo, hi, rfl, rfl, hlh, hin, hg, hbel, I⟩ := hrel
  by_cases hlt : lo < hi
  ·have hc := HF.out wr ((lo + hi) / 2) hbel (by omega)
   rw [show (((lo + hi) / 2 : Nat) : Int) = ((lo : Int) + (hi : Int)) / 2 by omega] at hc
   have HB := Lib.hid hbel
   clear hbel
   cases hp : p ((lo + hi) / 2) <;> rw [hp] at hc
   ·have HP := Lib.hid hp
    clear hp
    go_wp2_with (go_at_fn g; refine hc.mono ?_; rintro e w' ⟨rfl, hb2⟩)
    go_roundg (hi - ((lo + hi) / 2 + 1))
    case measure => omega
    case rel =>
     have I2 : Hid ((∀ t, t < (lo + hi) / 2 + 1 → p t = false) ∧ (∀ t, hi ≤ t → t < n → p t = true)) := ⟨fun t ht => (by
      cases h : p t with
      | false => rfl
      | true => have := M.out t ((lo + hi) / 2) (by omega) (by omega) h; rw [HP.out] at this; cases this), I.out.2⟩
     exact ⟨(lo + hi) / 2 + 1, hi, by rw [show ((lo : Int) + (hi : Int)) / 2 + 1 = (((lo + hi) / 2 + 1 : Nat) : Int) by omega], rfl, by omega, hin, Nat.le_refl _, HB.out.trans (hb2.mono HB.out.size), I2⟩
   ·have HP := Lib.hid hp
    clear hp
    go_wp2_with (go_at_fn g; refine hc.mono ?_; rintro e w' ⟨rfl, hb2⟩)
    go_roundg ((lo + hi) / 2 - lo)
    case measure => omega
    case rel =>
     have I2 : Hid ((∀ t, t < lo → p t = false) ∧ (∀ t, (lo + hi) / 2 ≤ t → t < n → p t = true)) := ⟨I.out.1, fun t ht htn => M.out ((lo + hi) / 2) t ht htn HP.out⟩
     exact ⟨lo, (lo + hi) / 2, rfl, by rw [show ((lo : Int) + (hi : Int)) / 2 = (((lo + hi) / 2 : Nat) : Int) by omega], by omega, by omega, Nat.le_refl _, HB.out.trans (hb2.mono HB.out.size), I2⟩
  ·obtain rfl : hi = lo := by omega
   have ecnt : cnt = hi := by rw [← CN.out]; exact cntF_boundary p n hi hin I.out.1 I.out.2
   subst ecnt
   go_wp2
   go_ret
   exact ⟨rfl, hbel⟩
set_option maxHeartbeats 1000000 in
theorem Of1_any (bt bx b2 o2 n cap : Nat) (x y : Int) (i : Nat) (W : World) (hi : i < n)
  (ht : W.cell? ⟨bt, 2, none⟩ = some (.slice (some ⟨b2, o2, none⟩) n cap)) (hx : W.cell? ⟨bx, 0, none⟩ = some (.int .i64 x)) (hc : W.cell? ⟨b2, o2 + i * 2, none⟩ = some (.int .i64 y)) :
  Calls Tryz.prog 110 (#[.int .i64 i] ++ #[.pointer (some ⟨bt, 0, none⟩), .pointer (some ⟨bx, 0, none⟩)]) W fun e w' => e = .returned (.bool (decide (x < y))) ∧ Below W.heap.size W w' := by
 have hiz : (i : Int) < (n : Int) := by omega
 go_enter Tryz.func110, Tryz.ntmps110
 go_wp2
 go_quiet (fail)
 go_wp2
 go_ret
 exact ⟨rfl, below_drewN' (Below.refl _ _) _⟩
set_option maxHeartbeats 2000000 in
theorem Of_chs (l : List Ty) (f : Nat) (m : List Ch) (x : Int) (b o cap b2 o2 cap2 : Nat) (w : World) (hb : b < w.heap.size) (hty : ∀ i (h : i < l.length), tyAt w b (o + i * 3) l[i])
  (hb2 : b2 < w.heap.size) (hch : ∀ i (h : i < m.length), chAt w b2 (o2 + i * 2) m[i]) (hf : f < l.length) (hk : ∀ i, i < m.length → 0 ≤ kAt m i ∧ kAt m i < l.length) (hsz : m.length ≤ 1000) (hl : l.length ≤ 250)
  (hsort : ∀ i j, i ≤ j → j < m.length → tAt m i ≤ tAt m j) (T : Ty) (hT : tyD l (kOf f m x) = T) :
  Calls Tryz.prog 52 #[.agg #[.slice (some ⟨b, o, none⟩) l.length cap, .int .i64 f, .slice (some ⟨b2, o2, none⟩) m.length cap2], .int .i64 x] w fun e w' => e = .returned (tyV T) ∧ Below w.heap.size w w' := by
 obtain ⟨W0, hW0⟩ : ∃ W0, ((w.alloc (.cells #[.slice (some ⟨b, o, none⟩) l.length cap, .int .i64 f, .slice (some ⟨b2, o2, none⟩) m.length cap2] 58)).alloc (.cells #[.int .i64 x] 3)).alloc (.cells #[.int .i64 0, .bool false, .string ⟨#[]⟩] 51) = W0 := ⟨_, rfl⟩
 have hB0 : Below w.heap.size w W0 := by rw [← hW0]; exact (((Below.refl _ w).alloc (Nat.le_refl _) _).alloc (by simp) _).alloc (by simp; omega) _
 have hS0 : W0.heap.size = w.heap.size + 3 := by rw [← hW0]; simp
 have q2 : W0.cell? ⟨w.heap.size, 2, none⟩ = some (.slice (some ⟨b2, o2, none⟩) m.length cap2) := by rw [← hW0]; simp [go_sem]
 have q0 : W0.cell? ⟨w.heap.size, 0, none⟩ = some (.slice (some ⟨b, o, none⟩) l.length cap) := by rw [← hW0]; simp [go_sem]
 have q1 : W0.cell? ⟨w.heap.size, 1, none⟩ = some (.int .i64 f) := by rw [← hW0]; simp [go_sem]
 have qx : W0.cell? ⟨w.heap.size + 1, 0, none⟩ = some (.int .i64 x) := by rw [← hW0]; simp [go_sem]
 have r0 : W0.cell? ⟨w.heap.size + 1 + 1, 0, none⟩ = some (.int .i64 0) := by rw [← hW0]; simp [go_sem]
 have r1 : W0.cell? ⟨w.heap.size + 1 + 1, 1, none⟩ = some (.bool false) := by rw [← hW0]; simp [go_sem]
 have r2 : W0.cell? ⟨w.heap.size + 1 + 1, 2, none⟩ = some (.string ⟨#[]⟩) := by rw [← hW0]; simp [go_sem]
 have z0 : ∀ j, W0.frozen? ⟨w.heap.size + 1 + 1, j, none⟩ = false := by intro j; rw [← hW0]; simp [go_sem]
 have eg : ∀ args w, (callFunc 110 args).run Tryz.prog w = .ok (.enter 110 args) w := enters_of Tryz.func110 (by kernel_rfl) rfl
 have hS := Search_any 110 #[.pointer (some ⟨w.heap.size, 0, none⟩), .pointer (some ⟨w.heap.size + 1, 0, none⟩)] m.length (fun i => decide (x < tAt m i)) W0 eg (by omega)
  (fun W i hbW hi => Of1_any w.heap.size (w.heap.size + 1) b2 o2 m.length cap2 x (tAt m i) i W hi ((hbW.cell (by show w.heap.size < _; omega)).trans q2) ((hbW.cell (by show w.heap.size + 1 < _; omega)).trans qx)
   ((hbW.cell (by show b2 < _; omega)).trans ((hB0.cell (by exact hb2)).trans (by rw [(hch i hi).1]; simp [tAt, hi]))))
  (fun i j hij hj h => by
   have := hsort i j hij hj
   simp only [decide_eq_true_eq] at h ⊢; omega)
 have hle := cntOf_le m x
 have hcd : cntF (fun i => decide (x < tAt m i)) m.length = cntOf m x := rfl
 rw [hcd] at hS
 obtain ⟨c, hc⟩ : ∃ c, cntOf m x = c := ⟨_, rfl⟩
 rw [hc] at hS hle
 unfold kOf at hT
 rw [hc] at hT
 have HS := Lib.hid hS
 have HW0 := Lib.hid hW0
 have HTY := Lib.hid hty
 have HCH := Lib.hid hch
 have HK := Lib.hid hk
 have HT := Lib.hid hT
 have Q0 := Lib.hid q0
 have Q1 := Lib.hid q1
 have Q2 := Lib.hid q2
 have R0 := Lib.hid r0
 have R1 := Lib.hid r1
 have R2 := Lib.hid r2
 have Z0 := Lib.hid z0
 have S0 := Lib.hid hS0
 clear hS hW0 hty hch hk hsort eg hcd hc hT q0 q1 q2 qx r0 r1 r2 z0 hS0
 cases c with
 | zero =>
  have hT2 : Hid (l[f] = T) := by
   have := HT.out
   rw [if_pos rfl] at this
   show l[f] = T
   rw [← this]; simp [tyD, hf]
  have hat := HTY.out f hf
  rw [hT2.out] at hat
  go_enter Tryz.func52, Tryz.ntmps52
  go_wp2_with fail
  rw [HW0.out]
  refine HS.out.mono ?_
  rintro e w1 ⟨rfl, hb1⟩
  have s0 := S0.out
  obtain ⟨c0, c1, c2⟩ := (hat.mono hB0 hb).mono hb1 (by omega)
  have q0 := (hb1.cell (p := ⟨w.heap.size, 0, none⟩) (by show w.heap.size < _; omega)).trans Q0.out
  have q1 := (hb1.cell (p := ⟨w.heap.size, 1, none⟩) (by show w.heap.size < _; omega)).trans Q1.out
  have r0 := (hb1.cell (p := ⟨w.heap.size + 1 + 1, 0, none⟩) (by show w.heap.size + 1 + 1 < _; omega)).trans R0.out
  have r1 := (hb1.cell (p := ⟨w.heap.size + 1 + 1, 1, none⟩) (by show w.heap.size + 1 + 1 < _; omega)).trans R1.out
  have r2 := (hb1.cell (p := ⟨w.heap.size + 1 + 1, 2, none⟩) (by show w.heap.size + 1 + 1 < _; omega)).trans R2.out
  have f0 := (hb1.frozen (p := ⟨w.heap.size + 1 + 1, 0, none⟩) (by show w.heap.size + 1 + 1 < _; omega)).trans (Z0.out 0)
  have f1 := (hb1.frozen (p := ⟨w.heap.size + 1 + 1, 1, none⟩) (by show w.heap.size + 1 + 1 < _; omega)).trans (Z0.out 1)
  have f2 := (hb1.frozen (p := ⟨w.heap.size + 1 + 1, 2, none⟩) (by show w.heap.size + 1 + 1 < _; omega)).trans (Z0.out 2)
  have hB1 := hB0.trans (hb1.mono (by omega))
  have HB1 := Lib.hid hB1
  clear hb1 hB1 s0
  go_wp2
  refine bodyPost_ret (v := tyV T) (by simp [results, Tryz.results52, go_sem, r0, r1, r2]) rfl ⟨rfl, ?_⟩
  exact ((HB1.out.setCell (by simp; omega) _).setCell (by simp; omega) _).setCell (by simp; omega) _
 | succ c =>
  have hcm : c < m.length := by omega
  have hk2 := HK.out c hcm
  obtain ⟨kn, hkn⟩ := Int.eq_ofNat_of_zero_le hk2.1
  rw [hkn] at hk2
  have hkl : kn < l.length := by omega
  have hT2 : Hid (l[kn] = T) := by
   have := HT.out
   rw [if_neg (by omega), Nat.add_sub_cancel, hkn] at this
   show l[kn] = T
   rw [← this]; simp [tyD, hkl]
  have ek : m[c].k = kn := by rw [← hkn]; simp [kAt, hcm]
  have EK := Lib.hid ek
  have hat := HTY.out kn hkl
  rw [hT2.out] at hat
  have hac := HCH.out c hcm
  have p1 : IntKind.i64.wrap ((c : Int) + 1 - 1) = (c : Int) := by rw [show (c : Int) + 1 - 1 = c by omega]; exact IntWalk.i64_in _ (by omega)
  have p2 : (c : Int) < (m.length : Int) := by omega
  have p3 : (kn : Int) < (l.length : Int) := by omega
  have p4 : (((c : Int) + 1) == 0) = false := by simp; omega
  clear hk2 hkn ek
  go_enter Tryz.func52, Tryz.ntmps52
  go_wp2_with fail
  rw [HW0.out]
  refine HS.out.mono ?_
  rintro e w1 ⟨rfl, hb1⟩
  have s0 := S0.out
  obtain ⟨c0, c1, c2⟩ := (hat.mono hB0 hb).mono hb1 (by omega)
  have d1 := (hac.mono hB0 hb2).mono hb1 (by omega)
  have d2 := d1.2
  rw [EK.out] at d2
  clear d1
  have q2 := (hb1.cell (p := ⟨w.heap.size, 2, none⟩) (by show w.heap.size < _; omega)).trans Q2.out
  have q0 := (hb1.cell (p := ⟨w.heap.size, 0, none⟩) (by show w.heap.size < _; omega)).trans Q0.out
  have q1 := (hb1.cell (p := ⟨w.heap.size, 1, none⟩) (by show w.heap.size < _; omega)).trans Q1.out
  have r0 := (hb1.cell (p := ⟨w.heap.size + 1 + 1, 0, none⟩) (by show w.heap.size + 1 + 1 < _; omega)).trans R0.out
  have r1 := (hb1.cell (p := ⟨w.heap.size + 1 + 1, 1, none⟩) (by show w.heap.size + 1 + 1 < _; omega)).trans R1.out
  have r2 := (hb1.cell (p := ⟨w.heap.size + 1 + 1, 2, none⟩) (by show w.heap.size + 1 + 1 < _; omega)).trans R2.out
  have f0 := (hb1.frozen (p := ⟨w.heap.size + 1 + 1, 0, none⟩) (by show w.heap.size + 1 + 1 < _; omega)).trans (Z0.out 0)
  have f1 := (hb1.frozen (p := ⟨w.heap.size + 1 + 1, 1, none⟩) (by show w.heap.size + 1 + 1 < _; omega)).trans (Z0.out 1)
  have f2 := (hb1.frozen (p := ⟨w.heap.size + 1 + 1, 2, none⟩) (by show w.heap.size + 1 + 1 < _; omega)).trans (Z0.out 2)
  have hB1 := hB0.trans (hb1.mono (by omega))
  have HB1 := Lib.hid hB1
  clear hb1 hB1 s0
  rw [show (((c + 1 : Nat)) : Int) = (c : Int) + 1 by omega]
  go_wp2
  go_region
  all_goals
   go_wp2
   refine bodyPost_ret (v := tyV T) (by simp [results, Tryz.results52, go_sem, r0, r1, r2]) rfl ⟨rfl, ?_⟩
   exact ((HB1.out.drew.setCell (by simp; omega) _).setCell (by simp; omega) _).setCell (by simp; omega) _
set_option maxHeartbeats 2000000 in
theorem Of_nochs (l : List Ty) (f : Nat) (x : Int) (b o cap cap2 : Nat) (p2 : Option Addr) (w : World) (hb : b < w.heap.size) (hty : ∀ i (h : i < l.length), tyAt w b (o + i * 3) l[i])
  (hf : f < l.length) (hl : l.length ≤ 250) (T : Ty) (hT : tyD l f = T) :
  Calls Tryz.prog 52 #[.agg #[.slice (some ⟨b, o, none⟩) l.length cap, .int .i64 f, .slice p2 0 cap2], .int .i64 x] w fun e w' => e = .returned (tyV T) ∧ Below w.heap.size w w' := by
 obtain ⟨W0, hW0⟩ : ∃ W0, ((w.alloc (.cells #[.slice (some ⟨b, o, none⟩) l.length cap, .int .i64 f, .slice p2 0 cap2] 58)).alloc (.cells #[.int .i64 x] 3)).alloc (.cells #[.int .i64 0, .bool false, .string ⟨#[]⟩] 51) = W0 := ⟨_, rfl⟩
 have hB0 : Below w.heap.size w W0 := by rw [← hW0]; exact (((Below.refl _ w).alloc (Nat.le_refl _) _).alloc (by simp) _).alloc (by simp; omega) _
 have hS0 : W0.heap.size = w.heap.size + 3 := by rw [← hW0]; simp
 have q2 : W0.cell? ⟨w.heap.size, 2, none⟩ = some (.slice p2 0 cap2) := by rw [← hW0]; simp [go_sem]
 have q0 : W0.cell? ⟨w.heap.size, 0, none⟩ = some (.slice (some ⟨b, o, none⟩) l.length cap) := by rw [← hW0]; simp [go_sem]
 have q1 : W0.cell? ⟨w.heap.size, 1, none⟩ = some (.int .i64 f) := by rw [← hW0]; simp [go_sem]
 have qx : W0.cell? ⟨w.heap.size + 1, 0, none⟩ = some (.int .i64 x) := by rw [← hW0]; simp [go_sem]
 have r0 : W0.cell? ⟨w.heap.size + 1 + 1, 0, none⟩ = some (.int .i64 0) := by rw [← hW0]; simp [go_sem]
 have r1 : W0.cell? ⟨w.heap.size + 1 + 1, 1, none⟩ = some (.bool false) := by rw [← hW0]; simp [go_sem]
 have r2 : W0.cell? ⟨w.heap.size + 1 + 1, 2, none⟩ = some (.string ⟨#[]⟩) := by rw [← hW0]; simp [go_sem]
 have z0 : ∀ j, W0.frozen? ⟨w.heap.size + 1 + 1, j, none⟩ = false := by intro j; rw [← hW0]; simp [go_sem]
 have eg : ∀ args w, (callFunc 110 args).run Tryz.prog w = .ok (.enter 110 args) w := enters_of Tryz.func110 (by kernel_rfl) rfl
 have hS := Search_any 110 #[.pointer (some ⟨w.heap.size, 0, none⟩), .pointer (some ⟨w.heap.size + 1, 0, none⟩)] 0 (fun i => true) W0 eg (by omega) (fun W i hbW hi => absurd hi (by omega)) (fun i j hij hj h => absurd hj (by omega))
 have hcd : cntF (fun i => true) 0 = 0 := rfl
 rw [hcd] at hS
 have HS := Lib.hid hS
 have HW0 := Lib.hid hW0
 have HTY := Lib.hid hty
 have HT := Lib.hid hT
 have Q0 := Lib.hid q0
 have Q1 := Lib.hid q1
 have R0 := Lib.hid r0
 have R1 := Lib.hid r1
 have R2 := Lib.hid r2
 have Z0 := Lib.hid z0
 have S0 := Lib.hid hS0
 clear hS hW0 hty eg hcd hT q0 q1 q2 qx r0 r1 r2 z0 hS0
 have hT2 : Hid (l[f] = T) := by
  show l[f] = T
  rw [← HT.out]; simp [tyD, hf]
 have hat := HTY.out f hf
 rw [hT2.out] at hat
 go_enter Tryz.func52, Tryz.ntmps52
 go_wp2_with fail
 rw [HW0.out]
 refine HS.out.mono ?_
 rintro e w1 ⟨rfl, hb1⟩
 have s0 := S0.out
 obtain ⟨c0, c1, c2⟩ := (hat.mono hB0 hb).mono hb1 (by omega)
 have q0 := (hb1.cell (p := ⟨w.heap.size, 0, none⟩) (by show w.heap.size < _; omega)).trans Q0.out
 have q1 := (hb1.cell (p := ⟨w.heap.size, 1, none⟩) (by show w.heap.size < _; omega)).trans Q1.out
 have r0 := (hb1.cell (p := ⟨w.heap.size + 1 + 1, 0, none⟩) (by show w.heap.size + 1 + 1 < _; omega)).trans R0.out
 have r1 := (hb1.cell (p := ⟨w.heap.size + 1 + 1, 1, none⟩) (by show w.heap.size + 1 + 1 < _; omega)).trans R1.out
 have r2 := (hb1.cell (p := ⟨w.heap.size + 1 + 1, 2, none⟩) (by show w.heap.size + 1 + 1 < _; omega)).trans R2.out
 have f0 := (hb1.frozen (p := ⟨w.heap.size + 1 + 1, 0, none⟩) (by show w.heap.size + 1 + 1 < _; omega)).trans (Z0.out 0)
 have f1 := (hb1.frozen (p := ⟨w.heap.size + 1 + 1, 1, none⟩) (by show w.heap.size + 1 + 1 < _; omega)).trans (Z0.out 1)
 have f2 := (hb1.frozen (p := ⟨w.heap.size + 1 + 1, 2, none⟩) (by show w.heap.size + 1 + 1 < _; omega)).trans (Z0.out 2)
 have hB1 := hB0.trans (hb1.mono (by omega))
 have HB1 := Lib.hid hB1
 clear hb1 hB1 s0
 go_wp2
 refine bodyPost_ret (v := tyV T) (by simp [results, Tryz.results52, go_sem, r0, r1, r2]) rfl ⟨rfl, ?_⟩
 exact ((HB1.out.setCell (by simp; omega) _).setCell (by simp; omega) _).setCell (by simp; omega) _
theorem Of_any (t : Tab) (v : Value) (x : Int) (w : World) (hv : TabAt w v t) (hok : chk t = 0) :
  Calls Tryz.prog 52 #[v, .int .i64 x] w fun e w' => e = .returned (tyV (tyOf t x)) ∧ Below w.heap.size w w' := by
 have ok := chk_ok t hok
 obtain ⟨sv, cv, rfl, ⟨⟨p, cap, rfl, hs⟩, hl1, hnm⟩, ⟨⟨p2, cap2, rfl, hc⟩, hl2⟩⟩ := hv.val
 obtain ⟨b, o, rfl, hb, hty⟩ := hs ok.ne
 obtain ⟨l, f, m⟩ := t
 obtain ⟨h1, h2, h3, h4, h5, h6, h7⟩ := ok
 dsimp only at h1 h2 h3 h4 h5 h6 h7 hs hc hty hl1 hl2 hnm ⊢
 obtain ⟨fn, hfn⟩ := Int.eq_ofNat_of_zero_le h5.1
 subst hfn
 by_cases hm : m = []
 ·subst hm
  exact Of_nochs l fn x b o cap cap2 p2 w hb hty (by omega) h2 _ rfl
 ·obtain ⟨b2, o2, rfl, hb2, hch⟩ := hc hm
  exact Of_chs l fn m x b o cap b2 o2 cap2 w hb hty hb2 hch (by omega) (fun i hi => by
   have := h6 m[i] (List.getElem_mem hi)
   simp [kAt, hi]; omega) h3 h2 (fun i j hij hj => tAt_mono m h7 i j hij hj) _ rfl
end Go.Proofs.YtomahddiclkepaaGreatDoor
namespace Go.Proofs.YtomahddiclkepaaGreatDoor
open Go.RowKit Go.Shelf
set_option linter.unusedVariables false
set_option linter.unusedSimpArgs false
attribute [local go_sem] Oper.semAt_some
def idAt (f : Int) (m : List Ch) : Nat → Int
 | 0 => f
 | k + 1 => kAt m k
attribute [local go_sem] Oper.semAt_some
attribute [local go_sem] Oper.semAt_some
theorem boundary_ex (p : Nat → Bool) : ∀ (n : Nat), (∀ a b, a ≤ b → b < n → p a = true → p b = true) → ∃ h, h ≤ n ∧ (∀ t, t < h → p t = false) ∧ (∀ t, h ≤ t → t < n → p t = true)
 | 0, _ => ⟨0, Nat.le_refl _, fun t h => absurd h (Nat.not_lt_zero _), fun t _ h => absurd h (Nat.not_lt_zero _)⟩
 | n + 1, hm => by
  obtain ⟨h, h1, h2, h3⟩ := boundary_ex p n (fun a b hab hb => hm a b hab (by omega))
  by_cases e : h = n
  ·subst e
   cases hp : p h
   ·refine ⟨h + 1, Nat.le_refl _, fun t ht => ?_, fun t h4 h5 => by omega⟩
    by_cases e2 : t = h
    ·rw [e2]; exact hp
    ·exact h2 t (by omega)
   ·refine ⟨h, by omega, h2, fun t h4 h5 => ?_⟩
    obtain rfl : t = h := by omega
    exact hp
  ·refine ⟨h, by omega, h2, fun t h4 h5 => ?_⟩
   by_cases e2 : t = n
   ·subst e2
    exact hm h t h4 (by omega) (h3 h (Nat.le_refl _) (by omega))
   ·exact h3 t h4 (by omega)
theorem tAt_in (m : List Ch) (i : Nat) (h : i < m.length) : tAt m i = m[i].t := by simp [tAt, h]
theorem cnt_mono (t : Tab) (ok : OkTab t) (y : Int) : ∀ a b, a ≤ b → b < t.chs.length → decide (y < tAt t.chs a) = true → decide (y < tAt t.chs b) = true := by
 intro a b hab hb h
 have := tAt_mono t.chs ok.rise a b hab hb
 simp only [decide_eq_true_eq] at h ⊢
 omega
theorem cntOf_spec (t : Tab) (ok : OkTab t) (y : Int) : cntOf t.chs y ≤ t.chs.length ∧ (∀ i, i < cntOf t.chs y → tAt t.chs i ≤ y) ∧ (∀ i, cntOf t.chs y ≤ i → i < t.chs.length → y < tAt t.chs i) := by
 obtain ⟨h, h1, h2, h3⟩ := boundary_ex (fun i => decide (y < tAt t.chs i)) t.chs.length (cnt_mono t ok y)
 have e : cntOf t.chs y = h := cntF_boundary _ _ _ h1 h2 h3
 rw [e]
 exact ⟨h1, fun i hi => by simpa using h2 i hi, fun i hi hl => by simpa using h3 i hi hl⟩
theorem tyOf_piece (t : Tab) (y : Int) : tyOf t y = tyD t.types (idAt t.first t.chs (cntOf t.chs y)) := by
 unfold tyOf kOf
 cases e : cntOf t.chs y with
 | zero => rfl
 | succ j => simp [idAt]
end Go.Proofs.YtomahddiclkepaaGreatDoor
namespace Go.Proofs.YtomahddiclkepaaGreatDoor
open Classical
set_option linter.unusedVariables false
theorem valL_take (m : List Ch) (T : List Ty) (y : Int) (f : Int) : ∀ n, n ≤ m.length → (∀ i, i < n → tAt m i ≤ y) → valL (tyD T f) ((m.take n).map fun c => (c.t, tyD T c.k)) y = tyD T (idAt f m n) := by
 intro n
 induction n with
 | zero => intro _ _; simp [valL, idAt]
 | succ n ih =>
  intro hn h
  have hlt : n < m.length := by omega
  have e := ih (by omega) (fun i hi => h i (by omega))
  rw [List.take_succ_eq_append_getElem hlt, List.map_append]
  unfold valL at e ⊢
  rw [List.foldl_append, e]
  have := h n (by omega)
  rw [tAt_in m n hlt] at this
  simp only [List.map_cons, List.map_nil, List.foldl_cons, List.foldl_nil, if_pos this]
  simp [idAt, kAt, hlt]
theorem tyOf_val (t : Tab) (ok : OkTab t) (y : Int) : tyOf t y = valL (resH t) (resL t) y := by
 obtain ⟨c1, c2, c3⟩ := cntOf_spec t ok y
 rw [tyOf_piece]
 have e1 := valL_take t.chs t.types y t.first (cntOf t.chs y) c1 c2
 have e2 : resL t = (t.chs.take (cntOf t.chs y)).map (fun c => (c.t, tyD t.types c.k)) ++ (t.chs.drop (cntOf t.chs y)).map (fun c => (c.t, tyD t.types c.k)) := by
  rw [← List.map_append, List.take_append_drop]; rfl
 rw [e2]
 unfold resH
 have e3 : ∀ a b : List (Int × Ty), valL (tyD t.types t.first) (a ++ b) y = valL (valL (tyD t.types t.first) a y) b y := fun a b => by unfold valL; rw [List.foldl_append]
 rw [e3, e1, valL_late]
 intro c hc
 obtain ⟨d, hd, rfl⟩ := List.mem_map.1 hc
 obtain ⟨i, hi, rfl⟩ := List.getElem_of_mem hd
 rw [List.getElem_drop]
 have := c3 (cntOf t.chs y + i) (by omega) (by simp at hi; omega)
 rw [tAt_in _ _ (by simp at hi; omega)] at this
 exact this
theorem norm_says (t : Tab) (ok : OkTab t) (y : Int) : tyOf (normT t) y = tyOf t y := by
 rw [tyOf_val _ (norm_ok t ok), tyOf_val t ok]
 have e1 : resL (normT t) = squ (resH t) (resL t) := resL_norm _ _
 have e2 : resH (normT t) = resH t := resH_norm _ _
 rw [e1, e2]
 exact valL_squ _ _ _ _ (resL_rise t ok) (.inl rfl)
end Go.Proofs.YtomahddiclkepaaGreatDoor
namespace Go.Proofs.YtomahddiclkepaaGreatDoor
open Go.RowKit Go.Joins
set_option linter.unusedVariables false
set_option linter.unusedSimpArgs false
set_option maxRecDepth 100000 in
set_option maxHeartbeats 1000000 in
theorem Span_pos (n : Int) (w : World) (h0 : 0 ≤ n) (h1 : n ≤ 604800) (ht : Tab10 w) :
  Calls Tryz.prog 72 #[.int .i64 n] w fun e w' => e = .returned (.tuple #[.string (txt (spanP n)), .int .i64 0]) ∧ Below w.heap.size w w' := by
 have HT := Lib.hid ht
 clear ht
 have ha : ¬ n < -604800 := by omega
 have hb : ¬ 604800 < n := by omega
 go_enter Tryz.func72, Tryz.ntmps72
 go_wp2_with fail
 refine (itoa_text _ _ (by omega) (by omega) HT.out).mono ?_
 have hA := itoa_len3 (n := n / 3600) (by omega) (by omega)
 rw [← txt_size] at hA
 obtain ⟨A, eA⟩ : ∃ A, txt (Lib.itoa (n / 3600)) = A := ⟨_, rfl⟩
 rw [eA] at hA ⊢
 have EA := Lib.hid eA
 clear eA
 rintro e w1 ⟨rfl, hb1⟩
 go_wp2_with fail
 refine (two_any _ _ (by omega) (by omega)).mono ?_
 obtain ⟨B, eB⟩ : ∃ B, txt (T2 (n / 60 % 60)) = B := ⟨_, rfl⟩
 rw [eB]
 have hB2 : B.size ≤ 2 := by rw [← eB, txt_size, T2_length]; omega
 have EB := Lib.hid eB
 clear eB
 rintro e w2 ⟨rfl, hb2⟩
 have b2 := hb1.trans (hb2.mono hb1.size)
 by_cases hz : n % 60 = 0
 ·go_wp2_with fail
  go_ret2
  refine ⟨?_, b2⟩
  show Ending.returned (.tuple #[.string (txt [] ++ A ++ ⟨#[58]⟩ ++ B), .int .i64 0]) = _
  rw [← EA.out, ← EB.out, cat1, spanP, if_pos hz]
  rfl
 ·go_wp2_with fail
  refine (two_any _ _ (by omega) (by omega)).mono ?_
  obtain ⟨C, eC⟩ : ∃ C, txt (T2 (n % 60)) = C := ⟨_, rfl⟩
  rw [eC]
  have hC2 : C.size ≤ 2 := by rw [← eC, txt_size, T2_length]; omega
  have EC := Lib.hid eC
  clear eC
  rintro e w3 ⟨rfl, hb3⟩
  go_wp2_with fail
  go_ret2
  refine ⟨?_, b2.trans (hb3.mono b2.size)⟩
  show Ending.returned (.tuple #[.string (txt [] ++ A ++ ⟨#[58]⟩ ++ B ++ (⟨#[58]⟩ ++ C)), .int .i64 0]) = _
  rw [← EA.out, ← EB.out, ← EC.out, cat2, spanP, if_neg hz]
  rfl
set_option maxRecDepth 100000 in
set_option maxHeartbeats 1000000 in
theorem Span_neg (n : Int) (w : World) (h0 : 0 < n) (h1 : n ≤ 604800) (ht : Tab10 w) :
  Calls Tryz.prog 72 #[.int .i64 (-n)] w fun e w' => e = .returned (.tuple #[.string (txt (45 :: spanP n)), .int .i64 0]) ∧ Below w.heap.size w w' := by
 have HT := Lib.hid ht
 clear ht
 have ha : ¬ -n < -604800 := by omega
 have hb : ¬ 604800 < -n := by omega
 go_enter Tryz.func72, Tryz.ntmps72
 go_wp2_with fail
 refine (itoa_text _ _ (by omega) (by omega) HT.out).mono ?_
 have hA := itoa_len3 (n := n / 3600) (by omega) (by omega)
 rw [← txt_size] at hA
 obtain ⟨A, eA⟩ : ∃ A, txt (Lib.itoa (n / 3600)) = A := ⟨_, rfl⟩
 rw [eA] at hA ⊢
 have EA := Lib.hid eA
 clear eA
 rintro e w1 ⟨rfl, hb1⟩
 go_wp2_with fail
 refine (two_any _ _ (by omega) (by omega)).mono ?_
 obtain ⟨B, eB⟩ : ∃ B, txt (T2 (n / 60 % 60)) = B := ⟨_, rfl⟩
 rw [eB]
 have hB2 : B.size ≤ 2 := by rw [← eB, txt_size, T2_length]; omega
 have EB := Lib.hid eB
 clear eB
 rintro e w2 ⟨rfl, hb2⟩
 have b2 := hb1.trans (hb2.mono hb1.size)
 by_cases hz : n % 60 = 0
 ·go_wp2_with fail
  go_ret2
  refine ⟨?_, b2⟩
  show Ending.returned (.tuple #[.string (txt [45] ++ A ++ ⟨#[58]⟩ ++ B), .int .i64 0]) = _
  rw [← EA.out, ← EB.out, cat1, spanP, if_pos hz]
  rfl
 ·go_wp2_with fail
  refine (two_any _ _ (by omega) (by omega)).mono ?_
  obtain ⟨C, eC⟩ : ∃ C, txt (T2 (n % 60)) = C := ⟨_, rfl⟩
  rw [eC]
  have hC2 : C.size ≤ 2 := by rw [← eC, txt_size, T2_length]; omega
  have EC := Lib.hid eC
  clear eC
  rintro e w3 ⟨rfl, hb3⟩
  go_wp2_with fail
  go_ret2
  refine ⟨?_, b2.trans (hb3.mono b2.size)⟩
  show Ending.returned (.tuple #[.string (txt [45] ++ A ++ ⟨#[58]⟩ ++ B ++ (⟨#[58]⟩ ++ C)), .int .i64 0]) = _
  rw [← EA.out, ← EB.out, ← EC.out, cat2, spanP, if_neg hz]
  rfl
theorem Span_ok (n : Int) (w : World) (h0 : -604800 ≤ n) (h1 : n ≤ 604800) (ht : Tab10 w) :
  Calls Tryz.prog 72 #[.int .i64 n] w fun e w' => e = .returned (.tuple #[.string (txt (spanT n)), .int .i64 0]) ∧ Below w.heap.size w w' := by
 unfold spanT
 by_cases h : n < 0
 ·rw [if_pos h]
  have := Span_neg (-n) w (by omega) (by omega) ht
  rw [Int.neg_neg] at this
  exact this
 ·rw [if_neg h]; exact Span_pos n w (by omega) h1 ht
end Go.Proofs.YtomahddiclkepaaGreatDoor
namespace Go.Proofs.YtomahddiclkepaaGreatDoor
open Go
set_option linter.unusedVariables false
theorem fold_ge (l : List UInt8) : ∀ acc : Nat, acc ≤ l.foldl (fun a c => 10 * a + (c.toNat - 48)) acc := by
 induction l with
 | nil => intro acc; exact Nat.le_refl _
 | cons c r ih =>
  intro acc
  simp only [List.foldl_cons]
  have := ih (10 * acc + (c.toNat - 48))
  omega
theorem parseU (l : List UInt8) (hd : ∀ c ∈ l, isDg c) : ∀ acc : Nat, l.foldl (fun a c => 10 * a + (c.toNat - 48)) acc < 1844674407370955162 →
  Lib.parseUint10 acc l = .ok (l.foldl (fun a c => 10 * a + (c.toNat - 48)) acc) := by
 induction l with
 | nil => intro acc _; rfl
 | cons c r ih =>
  intro acc h
  simp only [List.foldl_cons] at h ⊢
  have hc := hd c (by simp)
  have hge := fold_ge r (10 * acc + (c.toNat - 48))
  unfold isDg at hc
  rw [Lib.parseUint10, if_pos hc, if_neg (by omega), if_neg (by omega), show acc * 10 + (c.toNat - 48) = 10 * acc + (c.toNat - 48) by omega]
  exact ih (fun x hx => hd x (by simp [hx])) _ h
def atoiV (l : List UInt8) : Int :=
 match Lib.atoiAll l with
 | .ok v => v
 | .range => Lib.atoiSat l
 | _ => 0
theorem atoi_dg {l : List UInt8} (hn : l ≠ []) (hd : ∀ c ∈ l, isDg c) (h : numV l < 1844674407370955162) : Lib.atoiAll l = .ok (numV l : Int) := by
 match l, hn with
 | c :: r, _ =>
  have hc := hd c (by simp)
  unfold isDg at hc
  rw [Lib.atoiAll_plain c r (by omega) (by omega), Lib.parseMag, if_neg (by simp), parseU _ hd 0 h]
  have : numV (c :: r) < 1844674407370955162 := h
  unfold Lib.signless
  exact if_neg (by unfold numV at this; omega)
theorem atoiV_dg {l : List UInt8} (hn : l ≠ []) (hd : ∀ c ∈ l, isDg c) (h : numV l < 1844674407370955162) : atoiV l = numV l := by
 unfold atoiV
 rw [atoi_dg hn hd h]
theorem atoiV_itoa {n : Int} (h0 : 0 ≤ n) (h1 : n < 1844674407370955162) : atoiV (Lib.itoa n) = n := by
 have e : numV (Lib.itoa n) = n.toNat := by rw [itoa_nn h0, numV_dec]
 rw [atoiV_dg (itoa_ne h0) (itoa_dg h0) (by omega), e]
 omega
theorem numV_T2 {n : Int} (h0 : 0 ≤ n) (h1 : n < 100) : numV (T2 n) = n.toNat := by
 simp only [numV, T2, List.foldl_cons, List.foldl_nil, UInt8.toNat_ofNat']
 omega
theorem atoiV_T2 {n : Int} (h0 : 0 ≤ n) (h1 : n < 100) : atoiV (T2 n) = n := by
 rw [atoiV_dg (by simp [T2]) (T2_dg h0 h1) (by rw [numV_T2 h0 h1]; omega), numV_T2 h0 h1]
 omega
theorem atoiV_bd (l : List UInt8) : -9223372036854775808 ≤ atoiV l ∧ atoiV l ≤ 9223372036854775807 := by
 unfold atoiV
 split
 ·next v h => exact Lib.atoiAll_bounds h
 ·unfold Lib.atoiSat; split <;> omega
 ·omega
def sepP (x : Nat) : Bool := decide (x < 48) || decide (57 < x)
def joinG : List (List UInt8 × UInt8) → List UInt8 → List UInt8
 | [], l => l
 | (g, c) :: r, l => g ++ c :: joinG r l
def spG (pos : Nat) : List (List UInt8 × UInt8) → List UInt8 → List (Nat × Nat)
 | [], l => [(pos, pos + l.length)]
 | (g, c) :: r, l => (pos, pos + g.length) :: spG (pos + g.length + 1) r l
theorem txt_get (l : List UInt8) (i : Nat) (h : i < (txt l).size) : (txt l)[i]'h = l[i]'(by rw [txt_size] at h; exact h) := rfl
theorem dec_txt (pre post : List UInt8) (c : UInt8) (h : c.toNat < 128) : Utf8.decode (txt (pre ++ c :: post)) pre.length = (c.toNat, 1) := by
 have hl : pre.length < (txt (pre ++ c :: post)).size := by rw [txt_size]; simp
 have e : (txt (pre ++ c :: post))[pre.length]'hl = c := by
  rw [txt_get]
  simp
 rw [decode_ascii _ _ hl (by rw [e]; exact h), e]
theorem sepP_dg {c : UInt8} (h : isDg c) : sepP c.toNat = false := by
 unfold isDg at h
 unfold sepP
 simp; omega
theorem dg_lt {c : UInt8} (h : isDg c) : c.toNat < 128 := by unfold isDg at h; omega
theorem run_some (g : List UInt8) : ∀ (pre post : List UInt8) (f a : Nat) (acc : List (Nat × Nat)), (∀ c ∈ g, isDg c) →
  Lib.spansFromP sepP (txt (pre ++ (g ++ post))) (f + g.length) pre.length (some a) acc = Lib.spansFromP sepP (txt (pre ++ (g ++ post))) f (pre.length + g.length) (some a) acc := by
 induction g with
 | nil => intro pre post f a acc _; rfl
 | cons c r ih =>
  intro pre post f a acc hd
  have hc := hd c (by simp)
  have hlt : pre.length < (txt (pre ++ (c :: r ++ post))).size := by rw [txt_size]; simp
  have e := dec_txt pre (r ++ post) c (dg_lt hc)
  show Lib.spansFromP sepP _ ((f + r.length) + 1) _ _ _ = _
  rw [Lib.spansFromP, if_pos hlt]
  rw [show pre ++ (c :: r ++ post) = pre ++ c :: (r ++ post) by simp, e]
  simp only [sepP_dg hc]
  have := ih (pre ++ [c]) post f a acc (fun x hx => hd x (by simp [hx]))
  simp only [List.append_assoc, List.cons_append, List.nil_append, List.length_append, List.length_cons, List.length_nil] at this ⊢
  rw [if_neg (by simp), this]
  congr 1
  omega
theorem run_none (g : List UInt8) (hg : g ≠ []) (pre post : List UInt8) (f : Nat) (acc : List (Nat × Nat)) (hd : ∀ c ∈ g, isDg c) :
  Lib.spansFromP sepP (txt (pre ++ (g ++ post))) (f + g.length) pre.length none acc = Lib.spansFromP sepP (txt (pre ++ (g ++ post))) f (pre.length + g.length) (some pre.length) acc := by
 match g, hg with
 | c :: r, _ =>
  have hc := hd c (by simp)
  have hlt : pre.length < (txt (pre ++ (c :: r ++ post))).size := by rw [txt_size]; simp
  have e := dec_txt pre (r ++ post) c (dg_lt hc)
  show Lib.spansFromP sepP _ ((f + r.length) + 1) _ _ _ = _
  rw [Lib.spansFromP, if_pos hlt]
  rw [show pre ++ (c :: r ++ post) = pre ++ c :: (r ++ post) by simp, e]
  simp only [sepP_dg hc]
  have := run_some r (pre ++ [c]) post f pre.length acc (fun x hx => hd x (by simp [hx]))
  simp only [List.append_assoc, List.cons_append, List.nil_append, List.length_append, List.length_cons, List.length_nil] at this ⊢
  rw [if_neg (by simp), this]
  congr 1
  omega
theorem run_sep (c : UInt8) (hc : c.toNat < 128) (hs : sepP c.toNat = true) (pre post : List UInt8) (f a : Nat) (acc : List (Nat × Nat)) :
  Lib.spansFromP sepP (txt (pre ++ c :: post)) (f + 1) pre.length (some a) acc = Lib.spansFromP sepP (txt (pre ++ c :: post)) f (pre.length + 1) none (acc ++ [(a, pre.length)]) := by
 have hlt : pre.length < (txt (pre ++ c :: post)).size := by rw [txt_size]; simp
 rw [Lib.spansFromP, if_pos hlt, dec_txt pre post c hc]
 simp only [hs, if_true]
def okG (r : List (List UInt8 × UInt8)) : Prop := ∀ x ∈ r, x.1 ≠ [] ∧ (∀ c ∈ x.1, isDg c) ∧ x.2.toNat < 128 ∧ sepP x.2.toNat = true
theorem groups (last : List UInt8) (hl : last ≠ []) (hd : ∀ c ∈ last, isDg c) : ∀ (r : List (List UInt8 × UInt8)) (pre : List UInt8) (acc : List (Nat × Nat)), okG r →
  Lib.closeSpans (txt (pre ++ joinG r last)) (Lib.spansFromP sepP (txt (pre ++ joinG r last)) (joinG r last).length pre.length none acc) = acc ++ spG pre.length r last := by
 intro r
 induction r with
 | nil =>
  intro pre acc _
  have := run_none last hl pre [] 0 acc hd
  simp only [List.append_nil, Nat.zero_add] at this
  simp only [joinG, spG]
  rw [this]
  simp [Lib.spansFromP, Lib.closeSpans, txt_size]
 | cons x r ih =>
  intro pre acc hok
  obtain ⟨g, c⟩ := x
  obtain ⟨h1, h2, h3, h4⟩ := hok (g, c) (by simp)
  simp only [joinG, spG]
  have e1 := run_none g h1 pre (c :: joinG r last) ((joinG r last).length + 1) acc h2
  rw [show (g ++ c :: joinG r last).length = (joinG r last).length + 1 + g.length by simp; omega, e1]
  have e2 := run_sep c h3 h4 (pre ++ g) (joinG r last) (joinG r last).length pre.length acc
  simp only [List.append_assoc, List.length_append] at e2
  rw [e2]
  have e3 := ih (pre ++ g ++ [c]) (acc ++ [(pre.length, pre.length + g.length)]) (fun y hy => hok y (by simp [hy]))
  simp only [List.append_assoc, List.length_append, List.cons_append, List.nil_append, List.length_cons, List.length_nil] at e3
  rw [show pre.length + (g.length + (0 + 1)) = pre.length + g.length + 1 by omega] at e3
  rw [e3]
theorem ext_mid (pre g post : List UInt8) : (txt (pre ++ (g ++ post))).extract pre.length (pre.length + g.length) = txt g := by
 apply ByteArray.ext
 apply Array.ext'
 rw [Lib.extract_data, txt_data, txt_data]
 simp
theorem groups_ext (last : List UInt8) : ∀ (r : List (List UInt8 × UInt8)) (pre : List UInt8),
  (spG pre.length r last).map (fun x => (txt (pre ++ joinG r last)).extract x.1 x.2) = r.map (fun x => txt x.1) ++ [txt last] := by
 intro r
 induction r with
 | nil =>
  intro pre
  have := ext_mid pre last []
  simp only [List.append_nil] at this
  simp [spG, joinG, this]
 | cons x r ih =>
  intro pre
  obtain ⟨g, c⟩ := x
  simp only [spG, joinG, List.map_cons, List.cons_append, List.cons.injEq]
  refine ⟨ext_mid pre g (c :: joinG r last), ?_⟩
  have := ih (pre ++ g ++ [c])
  simp only [List.append_assoc, List.length_append, List.cons_append, List.nil_append, List.length_cons, List.length_nil] at this
  rw [show pre.length + (g.length + (0 + 1)) = pre.length + g.length + 1 by omega] at this
  exact this
theorem fields_groups (r : List (List UInt8 × UInt8)) (last : List UInt8) (hok : okG r) (hl : last ≠ []) (hd : ∀ c ∈ last, isDg c) :
  Lib.goFieldsP sepP (txt (joinG r last)) = r.map (fun x => txt x.1) ++ [txt last] := by
 unfold Lib.goFieldsP Lib.spansOfP
 have h1 := groups last hl hd r [] [] hok
 have h2 := groups_ext last r []
 simp only [List.nil_append, List.length_nil] at h1 h2
 rw [txt_size, h1, h2]
theorem fields_stamp (t : Int) (h1 : -135140 ≤ t / 86400) (h2 : t / 86400 ≤ 157053) :
  Lib.goFieldsP sepP (txt (stampT t)) = [txt (Lib.itoa (Civ.yy (t / 86400))), txt (T2 (Civ.mm (t / 86400))), txt (T2 (Civ.dd (t / 86400))), txt (T2 (t % 86400 / 3600)), txt (T2 (t % 86400 / 60 % 60)), txt (T2 (t % 86400 % 60))] := by
 obtain ⟨hv, -⟩ := Civ.date_valid (t / 86400) h1 h2
 have hb := Civ.mlen_bd (Civ.yy (t / 86400)) (Civ.mm (t / 86400)) hv.2.2.1 hv.2.2.2.1
 obtain ⟨v1, v2, v3, v4, v5, v6⟩ := hv
 have key := fields_groups [(Lib.itoa (Civ.yy (t / 86400)), 45), (T2 (Civ.mm (t / 86400)), 45), (T2 (Civ.dd (t / 86400)), 84), (T2 (t % 86400 / 3600), 58), (T2 (t % 86400 / 60 % 60), 58)] (T2 (t % 86400 % 60))
  (by
   have d2 : ∀ n : Int, 0 ≤ n → n < 100 → T2 n ≠ [] ∧ ∀ c ∈ T2 n, isDg c := fun n a b => ⟨by simp [T2], T2_dg a b⟩
   intro x hx
   simp only [List.mem_cons, List.not_mem_nil, or_false] at hx
   rcases hx with rfl | rfl | rfl | rfl | rfl
   ·exact ⟨itoa_ne (by omega), itoa_dg (by omega), by show (45 : UInt8).toNat < 128; decide, by show sepP (45 : UInt8).toNat = true; decide⟩
   ·exact ⟨(d2 _ (by omega) (by omega)).1, (d2 _ (by omega) (by omega)).2, by show (45 : UInt8).toNat < 128; decide, by show sepP (45 : UInt8).toNat = true; decide⟩
   ·exact ⟨(d2 _ (by omega) (by omega)).1, (d2 _ (by omega) (by omega)).2, by show (84 : UInt8).toNat < 128; decide, by show sepP (84 : UInt8).toNat = true; decide⟩
   ·exact ⟨(d2 _ (by omega) (by omega)).1, (d2 _ (by omega) (by omega)).2, by show (58 : UInt8).toNat < 128; decide, by show sepP (58 : UInt8).toNat = true; decide⟩
   ·exact ⟨(d2 _ (by omega) (by omega)).1, (d2 _ (by omega) (by omega)).2, by show (58 : UInt8).toNat < 128; decide, by show sepP (58 : UInt8).toNat = true; decide⟩)
  (by simp [T2]) (T2_dg (by omega) (by omega))
 have e : joinG [(Lib.itoa (Civ.yy (t / 86400)), 45), (T2 (Civ.mm (t / 86400)), 45), (T2 (Civ.dd (t / 86400)), 84), (T2 (t % 86400 / 3600), 58), (T2 (t % 86400 / 60 % 60), 58)] (T2 (t % 86400 % 60)) = stampT t := by
  unfold stampT
  simp [joinG]
 rw [e] at key
 rw [key]
 rfl
end Go.Proofs.YtomahddiclkepaaGreatDoor
namespace Go.Proofs.YtomahddiclkepaaGreatDoor
open Go.RowKit Go.Joins
set_option linter.unusedVariables false
def IfaceV (w : World) (g : Nat) : Prop := ∃ ev, w.cell? ⟨g, 0, none⟩ = some ev ∧ (ev = .nilIface ∨ ∃ te pe, ev = .iface te pe)
theorem IfaceV.below {w w' : World} {g : Nat} (h : IfaceV w g) (hb : Below w.heap.size w w') : IfaceV w' g := by
 obtain ⟨ev, h1, h2⟩ := h
 exact ⟨ev, (hb.cell (show (⟨g, 0, none⟩ : Addr).block < w.heap.size from Lib.lt_of_cell h1)).trans h1, h2⟩
def NumErrs (w : World) : Prop := IfaceV w 6 ∧ IfaceV w 7
theorem NumErrs.below {w w' : World} (h : NumErrs w) (hb : Below w.heap.size w w') : NumErrs w' := ⟨h.1.below hb, h.2.below hb⟩
section
variable {P : Program} {ρ : Go.Shelf.Ren}
theorem atoi_bad1 (L : LaysC.n172 P ρ) (s : ByteArray) (hlim : s.size ≤ 281474976710656) (ev : Value) (w : World) (hv : w.cell? ⟨(ρ.g 15), 0, none⟩ = some ev) (hev : ev = .nilIface ∨ ∃ te pe, ev = .iface te pe)
  (h1 : ∀ v, Lib.atoiAll s.data.toList ≠ .ok v) (h2 : Lib.atoiAll s.data.toList ≠ .range) :
  Calls P (ρ.f 172) #[.string s] w fun e w' => ∃ t p, e = .returned (.tuple #[.int .i64 0, .iface t p]) ∧ Below w.heap.size w w' := by
 rcases h : Lib.atoiAll s.data.toList with v | _ | _
 ·exact absurd h (h1 v)
 ·exact (Any.strconv_Atoi_syntax L s hlim h ev w hv hev).mono fun e w' ⟨N, he, _, _, hb⟩ => ⟨_, _, he, hb⟩
 ·exact absurd h h2
theorem atoi_bad2 (L : LaysC.n172 P ρ) (s : ByteArray) (hlim : s.size ≤ 281474976710656) (ev : Value) (w : World) (hv : w.cell? ⟨(ρ.g 16), 0, none⟩ = some ev) (hev : ev = .nilIface ∨ ∃ te pe, ev = .iface te pe)
  (h : Lib.atoiAll s.data.toList = .range) :
  Calls P (ρ.f 172) #[.string s] w fun e w' => ∃ t p, e = .returned (.tuple #[.int .i64 (Lib.atoiSat s.data.toList), .iface t p]) ∧ Below w.heap.size w w' :=
 (Any.strconv_Atoi_range L s hlim h ev w hv hev).mono fun e w' ⟨N, he, _, _, hb⟩ => ⟨_, _, he, hb⟩
end
theorem Atoi_bad1 (s : ByteArray) (hlim : s.size ≤ 281474976710656) (ev : Value) (w : World) (hv : w.cell? ⟨6, 0, none⟩ = some ev) (hev : ev = .nilIface ∨ ∃ te pe, ev = .iface te pe)
  (h1 : ∀ v, Lib.atoiAll s.data.toList ≠ .ok v) (h2 : Lib.atoiAll s.data.toList ≠ .range) :
  Calls Tryz.prog 137 #[.string s] w fun e w' => ∃ t p, e = .returned (.tuple #[.int .i64 0, .iface t p]) ∧ Below w.heap.size w w' :=
 atoi_bad1 Tryz.laysC172 s hlim ev w hv hev h1 h2
theorem Atoi_bad2 (s : ByteArray) (hlim : s.size ≤ 281474976710656) (ev : Value) (w : World) (hv : w.cell? ⟨7, 0, none⟩ = some ev) (hev : ev = .nilIface ∨ ∃ te pe, ev = .iface te pe)
  (h : Lib.atoiAll s.data.toList = .range) :
  Calls Tryz.prog 137 #[.string s] w fun e w' => ∃ t p, e = .returned (.tuple #[.int .i64 (Lib.atoiSat s.data.toList), .iface t p]) ∧ Below w.heap.size w w' :=
 atoi_bad2 Tryz.laysC172 s hlim ev w hv hev h
theorem Atoi_any (l : List UInt8) (w : World) (hl : l.length ≤ 281474976710656) (hv : NumErrs w) :
  Calls Tryz.prog 137 #[.string (txt l)] w fun e w' => ∃ ev, e = .returned (.tuple #[.int .i64 (atoiV l), ev]) ∧ Below w.heap.size w w' ∧
   ((∃ v, Lib.atoiAll l = .ok v ∧ ev = .nilIface) ∨ ((∀ v, Lib.atoiAll l ≠ .ok v) ∧ ∃ t p, ev = .iface t p)) := by
 obtain ⟨⟨v1, c1, k1⟩, ⟨v2, c2, k2⟩⟩ := hv
 have hs : (txt l).size = l.length := txt_size l
 unfold atoiV
 rcases h : Lib.atoiAll l with v | _ | _
 ·refine (Tryz.strconv_Atoi_ok (txt l) (by omega) v (by rw [txt_data]; exact h) w).mono ?_
  rintro e w' ⟨rfl, hw⟩
  refine ⟨_, rfl, ?_, .inl ⟨v, rfl, rfl⟩⟩
  rcases hw with rfl | ⟨t, rfl⟩
  ·exact Below.refl _ _
  ·exact below_bytesWorld _ _ _ _ (Nat.le_refl _)
 ·refine (Atoi_bad1 (txt l) (by omega) v1 w c1 k1 (by rw [txt_data, h]; intro v hv; cases hv) (by rw [txt_data, h]; intro hv; cases hv)).mono ?_
  rintro e w' ⟨t, p, rfl, hb⟩
  exact ⟨_, rfl, hb, .inr ⟨(fun v hv => by cases hv), _, _, rfl⟩⟩
 ·refine (Atoi_bad2 (txt l) (by omega) v2 w c2 k2 (by rw [txt_data]; exact h)).mono ?_
  rintro e w' ⟨t, p, rfl, hb⟩
  rw [txt_data]
  exact ⟨_, rfl, hb, .inr ⟨(fun v hv => by cases hv), _, _, rfl⟩⟩
end Go.Proofs.YtomahddiclkepaaGreatDoor
namespace Go.Proofs.YtomahddiclkepaaGreatDoor
open Go
set_option linter.unusedVariables false
def consHd (x : UInt8) : List (List UInt8) → List (List UInt8)
 | [] => [[x]]
 | h :: t => (x :: h) :: t
def splitC (c : UInt8) : List UInt8 → List (List UInt8)
 | [] => [[]]
 | x :: r => if x = c then [] :: splitC c r else consHd x (splitC c r)
theorem splitC_ne (c : UInt8) (l : List UInt8) : splitC c l ≠ [] := by
 cases l with
 | nil => simp [splitC]
 | cons x r =>
  simp only [splitC]
  split
  ·simp
  ·cases splitC c r <;> simp [consHd]
theorem consHd_length (x : UInt8) {l : List (List UInt8)} (h : l ≠ []) : (consHd x l).length = l.length := by
 cases l with
 | nil => exact absurd rfl h
 | cons a t => rfl
theorem splitC_length (c : UInt8) (l : List UInt8) : (splitC c l).length = l.count c + 1 := by
 induction l with
 | nil => rfl
 | cons x r ih =>
  simp only [splitC]
  split
  ·next h => subst h; simp [ih]
  ·next h => rw [consHd_length x (splitC_ne c r), ih, List.count_cons_of_ne (by simpa using h)]
theorem split_one (c : UInt8) (l : List UInt8) : Lib.split l [c] = splitC c l := by
 induction l with
 | nil => rfl
 | cons x r ih =>
  unfold Lib.split at ih ⊢
  by_cases h : x = c
  ·subst h
   rw [Lib.count_cons_eq, show 1 + Lib.count r [x] = Lib.count r [x] + 1 by omega]
   have hi : Lib.index (x :: r) [x] = 0 := by simp [Lib.index]
   simp only [Lib.splitK, hi, splitC, if_true]
   rw [← ih]
   simp
  ·rw [Lib.count_cons_ne x c r h]
   simp only [splitC, if_neg h]
   rw [← ih]
   cases hk : Lib.count r [c] with
   | zero => rfl
   | succ k =>
    have hp : [c].isPrefixOf (x :: r) = false := by
     simp only [List.isPrefixOf_cons_cons, Bool.and_eq_false_iff]
     left
     simpa using fun e => h e.symm
    have hir : Lib.index r [c] ≠ -1 := fun e => by rw [Lib.count_miss e] at hk; omega
    have hge := Lib.index_ge r [c]
    have hi : Lib.index (x :: r) [c] = Lib.index r [c] + 1 := by
     rw [Lib.index, hp, if_neg (by simp), if_neg (by simpa using hir)]
    have e1 : (Lib.index r [c] == -1) = false := by simpa using hir
    have e2 : (Lib.index r [c] + 1 == -1) = false := by simp; omega
    simp only [Lib.splitK, hi, e1, e2, consHd]
    rw [show (Lib.index r [c] + 1).toNat = (Lib.index r [c]).toNat + 1 by omega]
    simp
theorem splitB_one (c : UInt8) (l : List UInt8) : Lib.splitB (txt [c]) 0 (Lib.countB (txt l) (txt [c])) (txt l) = (splitC c l).map txt := by
 have h := Lib.splitB_data (txt [c]) 0 (Lib.countB (txt l) (txt [c])) (txt l)
 have hc : Lib.countB (txt l) (txt [c]) = Lib.count l [c] := by unfold Lib.countB; rw [txt_data, txt_data]
 rw [txt_data, txt_data, hc] at h
 have hs : Lib.splitK [c] 0 (Lib.count l [c]) l = splitC c l := split_one c l
 rw [hs] at h
 rw [hc, ← h, List.map_map]
 have : (txt ∘ fun x : ByteArray => x.data.toList) = id := by funext x; rfl
 rw [this, List.map_id]
theorem splitC_head (c : UInt8) (g r : List UInt8) (h : ∀ x ∈ g, x ≠ c) : splitC c (g ++ c :: r) = g :: splitC c r := by
 induction g with
 | nil => simp [splitC]
 | cons x g ih =>
  have hx := h x (by simp)
  simp only [List.cons_append, splitC, if_neg hx]
  rw [ih (fun y hy => h y (by simp [hy]))]
  rfl
theorem splitC_last (c : UInt8) (g : List UInt8) (h : ∀ x ∈ g, x ≠ c) : splitC c g = [g] := by
 induction g with
 | nil => rfl
 | cons x g ih =>
  have hx := h x (by simp)
  simp only [splitC, if_neg hx]
  rw [ih (fun y hy => h y (by simp [hy]))]
  rfl
theorem splitC_small (c : UInt8) (l : List UInt8) : ∀ x ∈ splitC c l, x.length ≤ l.length := by
 induction l with
 | nil => intro x hx; simp [splitC] at hx; subst hx; simp
 | cons y r ih =>
  intro x hx
  simp only [splitC] at hx
  split at hx
  ·rcases List.mem_cons.1 hx with rfl | hx
   ·simp
   ·have := ih x hx; simp; omega
  ·cases hs : splitC c r with
   | nil => exact absurd hs (splitC_ne c r)
   | cons a t =>
    rw [hs] at hx ih
    rcases List.mem_cons.1 hx with rfl | hx
    ·have := ih a (by simp); simp; omega
    ·have := ih x (by simp [hx]); simp; omega
end Go.Proofs.YtomahddiclkepaaGreatDoor
