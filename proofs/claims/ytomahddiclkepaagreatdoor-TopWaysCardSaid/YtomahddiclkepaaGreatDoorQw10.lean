/- Part of the proof. -/
import Derived.Test.YtomahddiclkepaaGreatDoorQw00
import Derived.Test.YtomahddiclkepaaGreatDoorQw09
import Derived.Test.YtomahddiclkepaaGreatDoorQw03
import Derived.Test.YtomahddiclkepaaGreatDoorQw01
import Derived.Test.YtomahddiclkepaaGreatDoorQw02
import Derived.Lib.FieldsP
import Derived.Laws.RangeString
import Derived.Lib.AtoiAllCases
import Derived.Shelf.Strconv.AtoiAll
import Derived.Shelf.Strconv.ErrVarAll
import Derived.Lib.Split
import Derived.Lib.SplitLaws
set_option maxHeartbeats 20000000
set_option maxRecDepth 1000000
set_option linter.unusedVariables false
set_option linter.unusedSimpArgs false
namespace Go.Proofs.YtomahddiclkepaaGreatDoor
open Go.RowKit Go.Joins Go.Maps
open Classical
def lastF (l : List Er) (k : Nat) (te : Int) : Int := if k + 1 < l.length then min (te - 1) ((eraAt l k).un - 1) else te - 1
def winF (x : Td) (a c : Int) : List Tn := x.ts.filter fun u => decide (a <= u.a /\ u.a <= c)
def evF (x : Td) (a c : Int) : List (Int × Ty) := (winF x a c).map fun u => (u.a, tdTy x u.a)
noncomputable def candF (rules : List Ru) (l : List Er) (te : Int) : Nat -> Int -> Nat -> List (Int × Ty)
 | 0, _, _ => []
 | n + 1, fr, k =>
  if k + 1 = l.length \/ te <= (eraAt l k).un then evF (tdA rules l k) fr (lastF l k te) else
  evF (tdA rules l k) fr (lastF l k te) ++ ((eraAt l k).un, tdTy (tdA rules l (k + 1)) (eraAt l k).un) :: candF rules l te n ((eraAt l k).un + 1) (k + 1)
noncomputable def candsF (rules : List Ru) (l : List Er) (fr te : Int) : List (Int × Ty) := candF rules l te (l.length - whichF l fr) (fr + 1) (whichF l fr)
def zTab : Tab := ⟨[], 0, []⟩
noncomputable def mkE (rules : List Ru) (l : List Er) (fr te : Int) : Int × Tab :=
 if stampE fr ≠ 0 then (stampE fr, zTab) else if stampE te ≠ 0 then (stampE te, zTab) else if te <= fr then (1, zTab) else
 if firstE (tdE rules) l ≠ 0 then (firstE (tdE rules) l, zTab) else
 if 250 < (normR (stF rules l fr) (candsF rules l fr te)).types.length \/ 1000 < (normR (stF rules l fr) (candsF rules l fr te)).chs.length then (2, zTab) else
 (0, normR (stF rules l fr) (candsF rules l fr te))
noncomputable def mkT (b : Bk) (nm : ByteArray) (fr te : Int) : Int × Tab :=
 match (rsv b nm).1 with
 | none => ((rsv b nm).2, zTab)
 | some z => mkE b.rules z.eras fr te
theorem evF_mem {x : Td} {a c : Int} {e : Int × Ty} : e ∈ evF x a c ↔ ∃ u ∈ x.ts, a <= u.a /\ u.a <= c /\ e = (u.a, tdTy x u.a) := by
 unfold evF winF
 rw [List.mem_map]
 constructor
 ·rintro ⟨u, hu, rfl⟩
  have := List.mem_filter.1 hu
  have h2 : a <= u.a /\ u.a <= c := of_decide_eq_true this.2
  exact ⟨u, this.1, h2.1, h2.2, rfl⟩
 ·rintro ⟨u, hu, h1, h2, rfl⟩
  exact ⟨u, List.mem_filter.2 ⟨hu, decide_eq_true ⟨h1, h2⟩⟩, rfl⟩
theorem rises_pw {l : List Tn} (h : Rises l) : l.Pairwise fun a b => a.a < b.a := List.pairwise_iff_getElem.2 fun i j hi hj hij => rises_mono h j i hij hj
theorem evF_rise {x : Td} (h : Rises x.ts) (a c : Int) : RiseL (evF x a c) := by
 unfold RiseL evF winF
 rw [List.pairwise_map]
 exact (rises_pw h).sublist List.filter_sublist
theorem cntT_step {l : List Tn} (h : Rises l) {z : Int} (hz : ∀ u ∈ l, u.a ≠ z) : cntT l z = cntT l (z - 1) := by
 obtain ⟨h1, h2, h3⟩ := cntT_spec h (z - 1)
 refine cntT_eq h h1 (fun i hi => by have := h2 i hi; omega) fun i hi hl => ?_
 have h4 := h3 i hi hl
 have := hz _ (List.getElem_mem hl)
 rw [tnA_at l i hl] at h4 ⊢
 omega
theorem svT_cnt {x : Td} {s t : Int} (h : cntT x.ts s = cntT x.ts t) : svT x s = svT x t := by unfold svT; rw [h]
theorem tdTy_cnt {x : Td} {s t : Int} (h : cntT x.ts s = cntT x.ts t) : tdTy x s = tdTy x t := by unfold tdTy nmT; rw [svT_cnt h]
section
variable {rules : List Ru} {l : List Er}
structure TdsOk (rules : List Ru) (l : List Er) : Prop where
 o : ErasOk rules l
 r : ∀ k, k < l.length -> Rises (tdA rules l k).ts
theorem tdsOk_of (h : ErasOk rules l) (h2 : firstE (tdE rules) l = 0) : TdsOk rules l := by
 refine ⟨h, fun k hk => ?_⟩
 unfold tdA
 rw [eraAt_in l k hk]
 exact tdR_rises ((firstE_zero _ _).1 h2 _ (List.getElem_mem hk))
theorem cand_end {te : Int} {n k : Nat} {fr : Int} (h : k + 1 = l.length \/ te <= (eraAt l k).un) : candF rules l te (n + 1) fr k = evF (tdA rules l k) fr (lastF l k te) := by rw [candF, if_pos h]
theorem cand_go {te : Int} {n k : Nat} {fr : Int} (h : ¬ (k + 1 = l.length \/ te <= (eraAt l k).un)) : candF rules l te (n + 1) fr k = evF (tdA rules l k) fr (lastF l k te) ++ ((eraAt l k).un, tdTy (tdA rules l (k + 1)) (eraAt l k).un) :: candF rules l te n ((eraAt l k).un + 1) (k + 1) := by rw [candF, if_neg h]
theorem lastF_le (k : Nat) (te : Int) : lastF l k te <= te - 1 /\ (k + 1 < l.length -> lastF l k te <= (eraAt l k).un - 1) := by
 unfold lastF
 split
 ·exact ⟨Int.min_le_left _ _, fun _ => Int.min_le_right _ _⟩
 ·rename_i h; exact ⟨Int.le_refl _, fun g => absurd g h⟩
theorem lastF_ge {k : Nat} {te z : Int} (h1 : z <= te - 1) (h2 : k + 1 < l.length -> z <= (eraAt l k).un - 1) : z <= lastF l k te := by
 unfold lastF
 split
 ·rename_i h; exact Int.le_min.2 ⟨h1, h2 h⟩
 ·exact h1
theorem cand_spec (h : TdsOk rules l) (te : Int) : ∀ (n k : Nat) (fr : Int), n = l.length - k -> k < l.length -> (∀ i, i < k -> (eraAt l i).un < fr) -> (k + 1 < l.length -> fr <= (eraAt l k).un) ->
 RiseL (candF rules l te n fr k) /\ (∀ c ∈ candF rules l te n fr k, fr <= c.1 /\ c.1 < te /\ c.2 = stF rules l c.1 /\ ((∃ i, i + 1 < l.length /\ (eraAt l i).un = c.1) \/ ∃ u ∈ (tdA rules l (whichF l c.1)).ts, u.a = c.1)) /\
  ∀ z, fr <= z -> z < te -> ((∃ i, i + 1 < l.length /\ (eraAt l i).un = z) \/ ∃ u ∈ (tdA rules l (whichF l z)).ts, u.a = z) -> ∃ c ∈ candF rules l te n fr k, c.1 = z
 | 0, k, fr, hn, hk, _, _ => by omega
 | n + 1, k, fr, hn, hk, hlo, hhi => by
  have hl1 := lastF_le (l := l) k te
  have hw : ∀ z, fr <= z -> z <= lastF l k te -> whichF l z = k := fun z h1 h2 =>
   which_of h.o hk (fun i hi => by have := hlo i hi; omega) fun g => by have := hl1.2 g; omega
  have hev : ∀ c ∈ evF (tdA rules l k) fr (lastF l k te), fr <= c.1 /\ c.1 <= lastF l k te /\ c.2 = stF rules l c.1 /\ ∃ u ∈ (tdA rules l (whichF l c.1)).ts, u.a = c.1 := by
   intro c hc
   obtain ⟨u, hu, h1, h2, rfl⟩ := evF_mem.1 hc
   dsimp only
   rw [hw u.a h1 h2]
   refine ⟨h1, h2, ?_, u, hu, rfl⟩
   unfold stF
   rw [hw u.a h1 h2]
  have hin : ∀ z, fr <= z -> z <= lastF l k te -> (∃ u ∈ (tdA rules l (whichF l z)).ts, u.a = z) -> ∃ c ∈ evF (tdA rules l k) fr (lastF l k te), c.1 = z := by
   rintro z h1 h2 ⟨u, hu, rfl⟩
   rw [hw u.a h1 h2] at hu
   exact ⟨_, evF_mem.2 ⟨u, hu, h1, h2, rfl⟩, rfl⟩
  have hun : ∀ z, fr <= z -> (k + 1 < l.length -> z < (eraAt l k).un) -> ¬ ∃ i, i + 1 < l.length /\ (eraAt l i).un = z := by
   rintro z h1 h2 ⟨i, hi, rfl⟩
   by_cases e : i < k
   ·have := hlo i e; omega
   ·by_cases e2 : i = k
    ·subst e2; have := h2 hi; omega
    ·have := eras_mono h.o i k (by omega) hi
     have := h2 (by omega)
     omega
  by_cases hE : k + 1 = l.length \/ te <= (eraAt l k).un
  ·rw [cand_end hE]
   refine ⟨evF_rise (h.r k hk) _ _, fun c hc => ?_, fun z h1 h2 h3 => ?_⟩
   ·obtain ⟨a, b, c1, d⟩ := hev c hc
    exact ⟨a, by omega, c1, .inr d⟩
   ·have hz : k + 1 < l.length -> z < (eraAt l k).un := fun g => by omega
    rcases h3 with h3 | h3
    ·exact absurd h3 (hun z h1 hz)
    ·exact hin z h1 (lastF_ge (by omega) fun g => by have := hz g; omega) h3
  ·rw [cand_go hE]
   have hkk : k + 1 < l.length := by omega
   have hto : (eraAt l k).un < te := by omega
   have hfu := hhi hkk
   have hlast : lastF l k te <= (eraAt l k).un - 1 := hl1.2 hkk
   have hwu : whichF l (eraAt l k).un = k + 1 := which_of h.o hkk (fun i hi => by
    by_cases e : i = k
    ·subst e; exact Int.le_refl _
    ·have := eras_mono h.o k i (by omega) hkk; omega) fun g => eras_mono h.o (k + 1) k (by omega) g
   obtain ⟨r1, r2, r3⟩ := cand_spec h te n (k + 1) ((eraAt l k).un + 1) (by omega) hkk (fun i hi => by
    by_cases e : i = k
    ·subst e; omega
    ·have := eras_mono h.o k i (by omega) hkk; omega) (fun g => by have := eras_mono h.o (k + 1) k (by omega) g; omega)
   refine ⟨?_, fun c hc => ?_, fun z h1 h2 h3 => ?_⟩
   ·unfold RiseL
    rw [List.pairwise_append]
    refine ⟨evF_rise (h.r k hk) _ _, List.pairwise_cons.2 ⟨fun c hc => ?_, r1⟩, fun c hc d hd => ?_⟩
    ·have := (r2 c hc).1
     dsimp only; omega
    ·have := (hev c hc).2.1
     rcases List.mem_cons.1 hd with rfl | hd
     ·dsimp only; omega
     ·have := (r2 d hd).1; omega
   ·rcases List.mem_append.1 hc with hc | hc
    ·obtain ⟨a, b, c1, d⟩ := hev c hc
     exact ⟨a, by omega, c1, .inr d⟩
    ·rcases List.mem_cons.1 hc with rfl | hc
     ·refine ⟨hfu, hto, ?_, .inl ⟨k, hkk, rfl⟩⟩
      dsimp only
      unfold stF
      rw [hwu]
     ·obtain ⟨a, b, c1, d⟩ := r2 c hc
      exact ⟨by omega, b, c1, d⟩
   ·rcases Int.lt_trichotomy z (eraAt l k).un with g | g | g
    ·rcases h3 with h3 | h3
     ·exact absurd h3 (hun z h1 fun _ => g)
     ·obtain ⟨c, hc, e⟩ := hin z h1 (lastF_ge (by omega) fun _ => by omega) h3
      exact ⟨c, List.mem_append_left _ hc, e⟩
    ·exact ⟨_, List.mem_append_right _ (List.mem_cons_self ..), g.symm⟩
    ·obtain ⟨c, hc, e⟩ := r3 z (by omega) h2 h3
     exact ⟨c, List.mem_append_right _ (List.mem_cons_of_mem _ hc), e⟩
theorem cands_spec (h : TdsOk rules l) (fr te : Int) :
 RiseL (candsF rules l fr te) /\ (∀ c ∈ candsF rules l fr te, fr < c.1 /\ c.1 < te /\ c.2 = stF rules l c.1 /\ ((∃ i, i + 1 < l.length /\ (eraAt l i).un = c.1) \/ ∃ u ∈ (tdA rules l (whichF l c.1)).ts, u.a = c.1)) /\
  ∀ z, fr < z -> z < te -> ((∃ i, i + 1 < l.length /\ (eraAt l i).un = z) \/ ∃ u ∈ (tdA rules l (whichF l z)).ts, u.a = z) -> ∃ c ∈ candsF rules l fr te, c.1 = z := by
 obtain ⟨w1, w2, w3⟩ := which_spec h.o fr
 have hp : 0 < l.length := List.length_pos_iff.2 h.o.ne
 obtain ⟨r1, r2, r3⟩ := cand_spec h te (l.length - whichF l fr) (whichF l fr) (fr + 1) rfl (by omega) (fun i hi => by have := w2 i hi; omega) (fun g => by have := w3 _ (Nat.le_refl _) (by omega); omega)
 exact ⟨r1, fun c hc => by obtain ⟨a, b⟩ := r2 c hc; exact ⟨by omega, b⟩, fun z h1 h2 h3 => r3 z (by omega) h2 h3⟩
theorem stF_step (h : TdsOk rules l) {z : Int} (h1 : ¬ ∃ i, i + 1 < l.length /\ (eraAt l i).un = z) (h2 : ¬ ∃ u ∈ (tdA rules l (whichF l z)).ts, u.a = z) : stF rules l z = stF rules l (z - 1) := by
 obtain ⟨w1, w2, w3⟩ := which_spec h.o z
 have hp : 0 < l.length := List.length_pos_iff.2 h.o.ne
 have hw : whichF l (z - 1) = whichF l z := which_of h.o (by omega) (fun i hi => by
  have h3 := w2 i hi
  have : (eraAt l i).un ≠ z := fun e => h1 ⟨i, by omega, e⟩
  omega) fun g => by have := w3 _ (Nat.le_refl _) (by omega); omega
 unfold stF
 rw [hw]
 exact tdTy_cnt (cntT_step (h.r _ (by omega)) fun u hu e => h2 ⟨u, hu, e⟩)
theorem stF_val (h : TdsOk rules l) {fr te y : Int} (h1 : fr <= y) (h2 : y < te) : valL (stF rules l fr) (candsF rules l fr te) y = stF rules l y := by
 obtain ⟨r1, r2, r3⟩ := cands_spec h fr te
 have := valL_fun r1 (stF rules l) fr (fun c hc => (r2 c hc).1) (fun c hc => (r2 c hc).2.2.1) (y - fr).toNat fun z hz1 hz2 hz => by
  refine stF_step h (fun g => ?_) fun g => ?_
  ·obtain ⟨c, hc, e⟩ := r3 z hz1 (by omega) (.inl g); exact hz c hc e
  ·obtain ⟨c, hc, e⟩ := r3 z hz1 (by omega) (.inr g); exact hz c hc e
 rwa [show fr + (((y - fr).toNat : Nat) : Int) = y by omega] at this
theorem chg_mem (h : TdsOk rules l) (fr te : Int) (c : Int × Ty) : c ∈ squ (stF rules l fr) (candsF rules l fr te) ↔ (fr < c.1 /\ c.1 < te /\ stF rules l c.1 ≠ stF rules l (c.1 - 1) /\ c.2 = stF rules l c.1) := by
 obtain ⟨r1, r2, r3⟩ := cands_spec h fr te
 rw [squ_mem r1]
 constructor
 ·rintro ⟨h1, h2⟩
  have : ∃ d ∈ candsF rules l fr te, d.1 = c.1 := Classical.byContradiction fun g => h1 (valL_none (fun d hd e => g ⟨d, hd, e⟩) _)
  obtain ⟨d, hd, e⟩ := this
  obtain ⟨a, b, -, -⟩ := r2 d hd
  rw [stF_val h (by omega) (by omega), stF_val h (by omega) (by omega)] at h1
  rw [stF_val h (by omega) (by omega)] at h2
  exact ⟨by omega, by omega, h1, h2⟩
 ·rintro ⟨a, b, h1, h2⟩
  rw [stF_val h (by omega) (by omega), stF_val h (by omega) (by omega)]
  exact ⟨h1, h2⟩
theorem chg_rise (h : TdsOk rules l) (fr te : Int) : RiseL (squ (stF rules l fr) (candsF rules l fr te)) := squ_rise (cands_spec h fr te).1 _
end
end Go.Proofs.YtomahddiclkepaaGreatDoor
namespace Go.Proofs.YtomahddiclkepaaGreatDoor
open Go.RowKit Go.Joins
open Classical
def okL (l : List UInt8) : Bool := l.all (signB [43, 45])
theorem abbrB_iff (l : List UInt8) : abbrB (txt l) = true ↔ okL l = true /\ l ≠ [] /\ l.length <= 8 := by
 unfold abbrB allB okL
 rw [Bool.and_eq_true, Bool.and_eq_true, decide_eq_true_eq]
 have e : (txt l).data.toList = l := txt_data l
 have e2 : (txt l).size = l.length := by
  show (txt l).data.size = _
  rw [<- Array.length_toList, e]
 rw [e, e2]
 have e3 : (⟨#[43, 45]⟩ : ByteArray).data.toList = [43, 45] := rfl
 rw [e3]
 constructor
 ·rintro ⟨⟨h1, h2⟩, h3⟩
  exact ⟨h1, by simpa using h2, by omega⟩
 ·rintro ⟨h1, h2, h3⟩
  exact ⟨⟨h1, by simpa using h2⟩, by omega⟩
theorem okL_app (a c : List UInt8) : okL (a ++ c) = true ↔ okL a = true /\ okL c = true := by unfold okL; rw [List.all_append, Bool.and_eq_true]
theorem abbrF_ok {f l : List UInt8} {s : Int} (h : (abbrF f s l).2 = 0) : (abbrF f s l).1 = abbrN f s l /\ (splitF f).2.2.2 = true /\ letterOk l = true /\ 0 <= s /\ s <= 10800 /\ (abbrN f s l).length <= 8 /\ abbrN f s l ≠ [] := by
 unfold abbrF at h ⊢
 by_cases h1 : (splitF f).2.2.2 = false \/ letterOk l = false
 ·rw [if_pos h1] at h; cases h
 ·rw [if_neg h1] at h ⊢
  by_cases h2 : ¬ (0 <= s /\ s <= 10800)
  ·rw [if_pos h2] at h; cases h
  ·rw [if_neg h2] at h ⊢
   by_cases h3 : 8 < (abbrN f s l).length
   ·rw [if_pos h3] at h; cases h
   ·rw [if_neg h3] at h ⊢
    by_cases h4 : abbrN f s l = []
    ·rw [if_pos h4] at h; cases h
    ·rw [if_neg h4]
     rw [not_or] at h1
     exact ⟨rfl, by simpa using h1.1, by simpa using h1.2, by omega, by omega, by omega, h4⟩
theorem abbrN_okL {f l : List UInt8} {s : Int} (h1 : (splitF f).2.2.2 = true) (h2 : letterOk l = true) : okL (abbrN f s l) = true := by
 have hl : okL (if l = [45] then [] else l) = true := by
  by_cases e : l = [45]
  ·rw [if_pos e]; rfl
  ·rw [if_neg e]
   unfold letterOk at h2
   rw [Bool.or_eq_true] at h2
   rcases h2 with h2 | h2
   ·exact absurd (of_decide_eq_true h2) e
   ·exact ((abbrB_iff l).1 h2).1
 unfold splitF at h1
 unfold abbrN splitF
 by_cases g1 : 12 < f.length
 ·rw [if_pos g1] at h1; cases h1
 ·rw [if_neg g1] at h1
  rw [if_neg g1]
  by_cases g2 : (Lib.cut f [47]).2.2 = true
  ·rw [if_pos g2] at h1
   rw [if_pos g2]
   dsimp only at h1 ⊢
   rw [Bool.and_eq_true] at h1
   rw [if_pos rfl]
   split
   ·exact ((abbrB_iff _).1 h1.1).1
   ·exact ((abbrB_iff _).1 h1.2).1
  ·rw [if_neg g2] at h1
   rw [if_neg g2]
   by_cases g3 : (Lib.cut f [37]).2.2 = true
   ·rw [if_pos g3] at h1
    rw [if_pos g3]
    dsimp only at h1 ⊢
    rw [if_neg (by decide), if_pos rfl]
    have hab : okL ((Lib.cut f [37]).1 ++ (Lib.cut f [37]).2.1) = true := by
     rw [Bool.or_eq_true] at h1
     rcases h1 with h1 | h1
     ·rw [of_decide_eq_true h1]; rfl
     ·rw [Bool.and_eq_true] at h1
      exact ((abbrB_iff _).1 h1.2).1
    rw [okL_app] at hab
    rw [okL_app, okL_app]
    exact ⟨hab.1, hl, hab.2⟩
   ·rw [if_neg g3] at h1
    rw [if_neg g3]
    dsimp only at h1 ⊢
    rw [if_neg (by decide), if_neg (by decide)]
    exact ((abbrB_iff _).1 h1).1
theorem abbrF_abbr {f l : List UInt8} {s : Int} (h : (abbrF f s l).2 = 0) : abbrB (txt (abbrF f s l).1) = true := by
 obtain ⟨e, h1, h2, -, -, h3, h4⟩ := abbrF_ok h
 rw [e, abbrB_iff]
 exact ⟨abbrN_okL h1 h2, h4, h3⟩
theorem cut_noA {l : List UInt8} {c : UInt8} (h : c ∉ l) : (Lib.cut l [c]).2.2 = false := by
 have hi : Lib.index l [c] = -1 := Lib.index_none fun j hj => by
  cases ho : Lib.occAt l [c] j
  ·rfl
  ·exact absurd (List.mem_of_getElem? (Lib.occAt_head rfl ho)) h
 unfold Lib.cut
 rw [hi, if_neg (by omega)]
theorem okL_no {l : List UInt8} (h : okL l = true) : (47 : UInt8) ∉ l /\ (37 : UInt8) ∉ l := by
 unfold okL at h
 rw [List.all_eq_true] at h
 refine ⟨fun g => ?_, fun g => ?_⟩
 ·have := h _ g; revert this; decide
 ·have := h _ g; revert this; decide
theorem abbrF_self {f : List UInt8} {s : Int} (h : abbrB (txt f) = true) (h0 : 0 <= s) (h1 : s <= 10800) : abbrF f s [45] = (f, 0) := by
 obtain ⟨h2, h3, h4⟩ := (abbrB_iff f).1 h
 obtain ⟨n1, n2⟩ := okL_no h2
 have e : splitF f = (f, [], [], true) := by
  unfold splitF
  rw [if_neg (by omega), cut_noA n1, cut_noA n2, if_neg (by decide), if_neg (by decide), h]
 have e2 : abbrN f s [45] = f := by unfold abbrN; rw [e]; rfl
 unfold abbrF
 rw [e, e2, if_neg (by simp [letterOk]), if_neg (by omega), if_neg (by omega), if_neg h3]
end Go.Proofs.YtomahddiclkepaaGreatDoor
namespace Go.Proofs.YtomahddiclkepaaGreatDoor
open Classical
theorem bnd_exV (p : Nat -> Bool) : ∀ (n : Nat), (∀ a b, a <= b -> b < n -> p a = true -> p b = true) -> ∃ h, h <= n /\ (∀ t, t < h -> p t = false) /\ (∀ t, h <= t -> t < n -> p t = true)
 | 0, _ => ⟨0, Nat.le_refl _, fun t h => absurd h (Nat.not_lt_zero _), fun t _ h => absurd h (Nat.not_lt_zero _)⟩
 | n + 1, hm => by
  obtain ⟨h, h1, h2, h3⟩ := bnd_exV p n fun a b hab hb => hm a b hab (by omega)
  by_cases e : p n = true
  ·exact ⟨h, by omega, h2, fun t ht htn => by
    by_cases ht2 : t = n
    ·rw [ht2]; exact e
    ·exact h3 t ht (by omega)⟩
  ·refine ⟨n + 1, Nat.le_refl _, fun t ht => ?_, fun t h4 h5 => by omega⟩
   cases ep : p t with
   | false => rfl
   | true => exact absurd (hm t n (by omega) (by omega) ep) e
theorem cntOf_specV (t : Tab) (ok : OkTab t) (y : Int) : cntOf t.chs y <= t.chs.length /\ (∀ i, i < cntOf t.chs y -> tAt t.chs i <= y) /\ (∀ i, cntOf t.chs y <= i -> i < t.chs.length -> y < tAt t.chs i) := by
 obtain ⟨h, h1, h2, h3⟩ := bnd_exV (fun i => decide (y < tAt t.chs i)) t.chs.length (fun a b hab hb hp => by
  have := tAt_mono t.chs ok.rise a b hab hb
  simp only [decide_eq_true_eq] at hp ⊢
  omega)
 have e : cntOf t.chs y = h := cntF_boundary _ _ _ h1 h2 h3
 rw [e]
 exact ⟨h1, fun i hi => by simpa using h2 i hi, fun i hi hl => by simpa using h3 i hi hl⟩
theorem valL_app (x : Ty) (a b : List (Int × Ty)) (y : Int) : valL x (a ++ b) y = valL (valL x a y) b y := by unfold valL; rw [List.foldl_append]
theorem valL_takeV (m : List Ch) (T : List Ty) (y : Int) (f : Int) : ∀ n, n <= m.length -> (∀ i, i < n -> tAt m i <= y) -> valL (tyD T f) ((m.take n).map fun c => (c.t, tyD T c.k)) y = tyD T (if n = 0 then f else kAt m (n - 1)) := by
 intro n
 cases n with
 | zero => intro _ _; simp [valL]
 | succ n =>
  intro hn h
  have hlt : n < m.length := by omega
  rw [List.take_succ_eq_append_getElem hlt, List.map_append, valL_app]
  have := h n (by omega)
  have e : tAt m n = m[n].t := by simp [tAt, hlt]
  rw [e] at this
  simp only [List.map_cons, List.map_nil, valL, List.foldl_cons, List.foldl_nil, if_pos this]
  simp [kAt, hlt]
theorem tyOf_valV (t : Tab) (ok : OkTab t) (y : Int) : tyOf t y = valL (resH t) (resL t) y := by
 obtain ⟨c1, c2, c3⟩ := cntOf_specV t ok y
 have e1 := valL_takeV t.chs t.types y t.first (cntOf t.chs y) c1 c2
 have e2 : resL t = (t.chs.take (cntOf t.chs y)).map (fun c => (c.t, tyD t.types c.k)) ++ (t.chs.drop (cntOf t.chs y)).map (fun c => (c.t, tyD t.types c.k)) := by
  rw [<- List.map_append, List.take_append_drop]; rfl
 rw [e2, valL_app]
 unfold resH
 rw [e1, valL_late]
 ·rfl
 intro c hc
 obtain ⟨d, hd, rfl⟩ := List.mem_map.1 hc
 obtain ⟨i, hi, rfl⟩ := List.getElem_of_mem hd
 rw [List.getElem_drop]
 have hlt : cntOf t.chs y + i < t.chs.length := by rw [List.length_drop] at hi; omega
 have := c3 (cntOf t.chs y + i) (by omega) hlt
 have e : tAt t.chs (cntOf t.chs y + i) = t.chs[cntOf t.chs y + i].t := by simp [tAt, hlt]
 rw [e] at this
 exact this
end Go.Proofs.YtomahddiclkepaaGreatDoor
namespace Go.Proofs.YtomahddiclkepaaGreatDoor
open Go.RowKit Go.Joins Go.Maps
open Classical
section
variable {rules : List Ru} {l : List Er} {fr te : Int}
theorem stF_ok (h : TdsOk rules l) (y : Int) : -75600 <= (stF rules l y).off /\ (stF rules l y).off <= 75600 /\ abbrB (stF rules l y).name = true := by
 have hp : 0 < l.length := List.length_pos_iff.2 h.o.ne
 have hw := (which_spec h.o y).1
 have hk : whichF l y < l.length := by omega
 have ho := h.o.ok _ (List.getElem_mem hk)
 rw [<- eraAt_in l _ hk] at ho
 obtain ⟨s1, s2, s3, -⟩ := sv_ok ho y
 have e : (tdR rules (eraAt l (whichF l y))).er = eraAt l (whichF l y) := tdR_er _ _
 have o1 := ho.o1
 have o2 := ho.o2
 unfold stF tdTy tdA nmT
 dsimp only
 rw [e]
 refine ⟨by omega, by omega, abbrF_abbr s1⟩
theorem stampE_mid {a b y : Int} (ha : stampE a = 0) (hb : stampE b = 0) (h1 : a <= y) (h2 : y <= b) : stampE y = 0 := by
 unfold stampE at *
 split at ha
 ·rename_i g1
  split at hb
  ·rename_i g2
   rw [if_pos (by omega)]
  ·cases hb
 ·cases ha
structure Made (rules : List Ru) (l : List Er) (fr te : Int) (t : Tab) : Prop where
 d : TdsOk rules l
 s1 : stampE fr = 0
 s2 : stampE te = 0
 lt : fr < te
 er : firstE (tdE rules) l = 0
 ok : OkTab t
 eq : t = normR (stF rules l fr) (candsF rules l fr te)
theorem stampE_bd {y : Int} (h : stampE y = 0) : -1099511627776 <= y /\ y <= 1099511627776 := by
 unfold stampE at h
 split at h
 ·omega
 ·cases h
theorem mkE_ok (ho : ErasOk rules l) {t : Tab} (h : mkE rules l fr te = (0, t)) : Made rules l fr te t := by
 unfold mkE at h
 split at h
 ·rename_i h1; injection h with h _; exact absurd h h1
 rename_i h1
 split at h
 ·rename_i h2; injection h with h _; exact absurd h h2
 rename_i h2
 split at h
 ·cases h
 rename_i h3
 split at h
 ·rename_i h4; injection h with h _; exact absurd h h4
 rename_i h4
 split at h
 ·cases h
 rename_i h5
 injection h with _ h
 have hd := tdsOk_of ho (Classical.not_not.1 h4)
 have hc := cands_spec hd fr te
 have b1 := stampE_bd (Classical.not_not.1 h1)
 have b2 := stampE_bd (Classical.not_not.1 h2)
 refine ⟨hd, Classical.not_not.1 h1, Classical.not_not.1 h2, by omega, Classical.not_not.1 h4, ?_, h.symm⟩
 rw [<- h]
 refine normR_ok hc.1 (fun y hy => ?_) (fun c hm => ?_) (by omega) (by omega)
 ·rcases hy with rfl | ⟨c, hm, rfl⟩
  ·exact stF_ok hd fr
  ·rw [(hc.2.1 c hm).2.2.1]
   exact stF_ok hd _
 ·have := hc.2.1 c hm
  omega
def chgT (t : Tab) : List Int := t.chs.map (·.t)
theorem made_resL {t : Tab} (m : Made rules l fr te t) : resL t = squ (stF rules l fr) (candsF rules l fr te) := by rw [m.eq, resL_norm]
theorem made_resH {t : Tab} (m : Made rules l fr te t) : resH t = stF rules l fr := by rw [m.eq, resH_norm]
theorem made_chg {t : Tab} (m : Made rules l fr te t) (z : Int) : z ∈ chgT t ↔ (fr < z /\ z < te /\ stF rules l z ≠ stF rules l (z - 1)) := by
 have e : chgT t = (squ (stF rules l fr) (candsF rules l fr te)).map (·.1) := by rw [m.eq]; exact norm_chT _ _
 rw [e, List.mem_map]
 constructor
 ·rintro ⟨c, hc, rfl⟩
  obtain ⟨a, b, c1, -⟩ := (chg_mem m.d fr te c).1 hc
  exact ⟨a, b, c1⟩
 ·rintro ⟨a, b, c⟩
  exact ⟨(z, stF rules l z), (chg_mem m.d fr te _).2 ⟨a, b, c, rfl⟩, rfl⟩
theorem made_says {t : Tab} (m : Made rules l fr te t) {y : Int} (h1 : fr <= y) (h2 : y < te) : tyOf t y = stF rules l y := by
 rw [tyOf_valV t m.ok, made_resL m, made_resH m, valL_squ _ _ _ _ (cands_spec m.d fr te).1 (.inl rfl)]
 exact stF_val m.d h1 h2
theorem made_norm {t : Tab} (m : Made rules l fr te t) : normT t = t := by
 unfold normT
 rw [made_resL m, made_resH m, normR_squ, <- m.eq]
end
end Go.Proofs.YtomahddiclkepaaGreatDoor
namespace Go.Proofs.YtomahddiclkepaaGreatDoor
open Go.RowKit Go.Joins Go.Maps
open Classical
theorem rsv_zero {b : Bk} {nm : ByteArray} {z : Zo} {c : Int} (h : rsv b nm = (some z, c)) : c = 0 /\ z ∈ b.zones /\ bkChk b = 0 := by
 by_cases hb : bkChk b = 0
 ·rw [rsv_go hb] at h
  obtain ⟨h1, h2⟩ := resF_in h
  exact ⟨h2, h1, hb⟩
 ·rw [rsv_bad hb] at h; cases h
theorem resF_not0 {zs : List Zo} {ls : List Lk} : ∀ {n : Nat} {k : ByteArray} {c : Int}, resF zs ls n k = (none, c) -> c ≠ 0 := by
 intro n
 induction n with
 | zero => intro k c h; cases h; decide
 | succ n ih =>
  intro k c h
  rw [resF] at h
  split at h
  ·cases h
  ·split at h
   ·cases h; decide
   ·exact ih h
theorem rsv_not0 {b : Bk} {nm : ByteArray} {c : Int} (h : rsv b nm = (none, c)) : c ≠ 0 := by
 by_cases hb : bkChk b = 0
 ·rw [rsv_go hb] at h; exact resF_not0 h
 ·rw [rsv_bad hb] at h
  injection h with _ h
  rwa [<- h]
theorem stR_none {b : Bk} {nm : ByteArray} {c : Int} (h : rsv b nm = (none, c)) (t : Int) : stR b nm t = (c, ty0) := by unfold stR; rw [h]
theorem stR_some {b : Bk} {nm : ByteArray} {z : Zo} {c : Int} (h : rsv b nm = (some z, c)) (t : Int) : stR b nm t = (if stampE t ≠ 0 then (stampE t, ty0) else
 if tdE b.rules (eraAt z.eras (whichF z.eras t)) ≠ 0 then (tdE b.rules (eraAt z.eras (whichF z.eras t)), ty0) else (0, stF b.rules z.eras t)) := by unfold stR; rw [h]; rfl
theorem era_in {rules : List Ru} {l : List Er} (h : ErasOk rules l) (t : Int) : ∃ hk : whichF l t < l.length, eraAt l (whichF l t) = l[whichF l t] := by
 have hp : 0 < l.length := List.length_pos_iff.2 h.ne
 have hk : whichF l t < l.length := by have := (which_spec h t).1; omega
 exact ⟨hk, eraAt_in l _ hk⟩
def oneB (rules : List Ru) (nm : ByteArray) (ev : Value) (l : List Er) : Bk := ⟨rules, [⟨nm, ev, l⟩], []⟩
theorem oneB_chk {rules : List Ru} {nm : ByteArray} {ev : Value} {l : List Er} (hr : rules.length <= 40) (ho : ∀ r ∈ rules, ruChk r = 0) (hn : nameB nm = true) (hl : l ≠ []) (hl2 : l.length <= 700) (he : ∀ k, k < l.length -> eraChk rules l k = 0) : bkChk (oneB rules nm ev l) = 0 := by
 have h0 : ¬ (40 < (oneB rules nm ev l).rules.length \/ 20 < (oneB rules nm ev l).zones.length \/ 20 < (oneB rules nm ev l).links.length) := by
  show ¬ (40 < rules.length \/ 20 < 1 \/ 20 < 0)
  omega
 have hz : firstE (chkZ (oneB rules nm ev l)) (List.range (oneB rules nm ev l).zones.length) = 0 := by
  refine (firstE_zero _ _).2 fun i hi => ?_
  have hi : i < 1 := List.mem_range.1 hi
  obtain rfl : i = 0 := by omega
  show zoneChk rules [] ⟨nm, ev, l⟩ = 0
  unfold zoneChk
  rw [if_neg (by rw [hn]; simp), if_neg (by simp), if_neg hl, if_neg (show ¬ 700 < l.length by omega)]
  exact (firstE_zero _ _).2 fun k hk => he k (List.mem_range.1 hk)
 rw [bkChk_l _ h0 ((firstE_zero _ _).2 ho) hz]
 rfl
theorem oneB_rsv {rules : List Ru} {nm : ByteArray} {ev : Value} {l : List Er} (h : bkChk (oneB rules nm ev l) = 0) : rsv (oneB rules nm ev l) nm = (some ⟨nm, ev, l⟩, 0) :=
 rsv_zone h (z := ⟨nm, ev, l⟩) (List.mem_singleton.2 rfl)
def zB : ByteArray := ⟨#[90]⟩
section
variable {rules : List Ru} {l : List Er} {fr te p q : Int}
theorem mkE_bad (h : (mkE rules l fr te).1 ≠ 0) : (mkE rules l fr te).2 = zTab := by
 unfold mkE at h ⊢
 split
 ·rfl
 rename_i h1
 split
 ·rfl
 rename_i h2
 split
 ·rfl
 rename_i h3
 split
 ·rfl
 rename_i h4
 split
 ·rfl
 rename_i h5
 rw [if_neg h1, if_neg h2, if_neg h3, if_neg h4, if_neg h5] at h
 exact absurd rfl h
end
theorem mkT_of {b : Bk} {nm : ByteArray} {z : Zo} {c : Int} (h : rsv b nm = (some z, c)) (fr te : Int) : mkT b nm fr te = mkE b.rules z.eras fr te := by unfold mkT; rw [h]
theorem mkT_none {b : Bk} {nm : ByteArray} {c : Int} (h : rsv b nm = (none, c)) (fr te : Int) : mkT b nm fr te = (c, zTab) := by unfold mkT; rw [h]
theorem mkT_zero {b : Bk} {nm : ByteArray} {fr te : Int} (h : (mkT b nm fr te).1 = 0) : ∃ z ∈ b.zones, rsv b nm = (some z, 0) /\ bkChk b = 0 /\ Made b.rules z.eras fr te (mkT b nm fr te).2 := by
 cases e : rsv b nm with
 | mk zo c =>
  cases zo with
  | none => rw [mkT_none e] at h; exact absurd h (rsv_not0 e)
  | some z =>
   obtain ⟨rfl, h2, h3⟩ := rsv_zero e
   rw [mkT_of e] at h ⊢
   exact ⟨z, h2, rfl, h3, mkE_ok (bk_eras h3 h2) (by rw [<- h])⟩
theorem mkT_bad {b : Bk} {nm : ByteArray} {fr te : Int} (h : (mkT b nm fr te).1 ≠ 0) : (mkT b nm fr te).2 = zTab := by
 cases e : rsv b nm with
 | mk zo c =>
  cases zo with
  | none => rw [mkT_none e]
  | some z => rw [mkT_of e] at h ⊢; exact mkE_bad h
theorem made_st {b : Bk} {nm : ByteArray} {z : Zo} {fr te y : Int} {t : Tab} (hz : z ∈ b.zones) (hr : rsv b nm = (some z, 0)) (m : Made b.rules z.eras fr te t) (h1 : fr <= y) (h2 : y < te) : stR b nm y = (0, stF b.rules z.eras y) := by
 have hp : 0 < z.eras.length := List.length_pos_iff.2 m.d.o.ne
 have hk : whichF z.eras y < z.eras.length := by have := (which_spec m.d.o y).1; omega
 have e1 : tdE b.rules (eraAt z.eras (whichF z.eras y)) = 0 := by
  rw [eraAt_in _ _ hk]
  exact (firstE_zero _ _).1 m.er _ (List.getElem_mem hk)
 unfold stR
 rw [hr]
 dsimp only
 rw [if_neg (fun g => g (stampE_mid m.s1 m.s2 h1 (by omega))), if_neg (fun g => g e1)]
 rfl
end Go.Proofs.YtomahddiclkepaaGreatDoor
namespace Go.Proofs.YtomahddiclkepaaGreatDoor
open Go.RowKit Go.Joins Go.Maps
open Classical
section
variable {b : Bk} {nm : ByteArray} {fr te : Int} {T : Tab}
theorem mk_made (h : mkT b nm fr te = (0, T)) : ∃ z ∈ b.zones, rsv b nm = (some z, 0) /\ bkChk b = 0 /\ Made b.rules z.eras fr te T := by
 have := mkT_zero (b := b) (nm := nm) (fr := fr) (te := te) (by rw [h])
 rw [h] at this
 exact this
theorem mk_none {C : Int} (h : mkT b nm fr te = (C, T)) (hc : C ≠ 0) : T = zTab := by
 have := mkT_bad (b := b) (nm := nm) (fr := fr) (te := te) (by rw [h]; exact hc)
 rw [h] at this
 exact this
theorem mem_chgT {c : Ch} (h : c ∈ T.chs) : c.t ∈ chgT T := List.mem_map.2 ⟨c, h, rfl⟩
theorem mk_chg (h : mkT b nm fr te = (0, T)) : normT T = T /\ chk T = 0 /\ (∀ c ∈ T.chs, fr < c.t /\ c.t < te) /\ fr < te := by
 obtain ⟨z, hz, hr, hb, m⟩ := mk_made h
 refine ⟨made_norm m, ok_chk _ m.ok, fun c hc => ?_, m.lt⟩
 have := (made_chg m c.t).1 (mem_chgT hc)
 exact ⟨this.1, this.2.1⟩
theorem mk_says (h : mkT b nm fr te = (0, T)) {y : Int} (h1 : fr <= y) (h2 : y < te) : stR b nm y = (0, tyOf T y) := by
 obtain ⟨z, hz, hr, hb, m⟩ := mk_made h
 rw [made_says m h1 h2]
 exact made_st hz hr m h1 h2
end
end Go.Proofs.YtomahddiclkepaaGreatDoor
namespace Go.Proofs.YtomahddiclkepaaGreatDoor
open Go.RowKit Go.Joins
theorem Span_pos (n : Int) (w : World) (h0 : 0 <= n) (h1 : n <= 604800) (ht : Tab10 w) :
 Calls Tryz.prog 72 #[.int .i64 n] w fun e w' => e = .returned (.tuple #[.string (txt (spanP n)), .int .i64 0]) /\ Below w.heap.size w w' := by
 have HT := qH ht
 clear ht
 have ha : ¬ n < -604800 := by omega
 have hb : ¬ 604800 < n := by omega
 go_enter Tryz.func72, Tryz.ntmps72
 go_wp2_with fail
 refine (itoa_text _ _ (by omega) (by omega) HT.out).mono ?_
 have hA := itoa_len3 (n := n / 3600) (by omega) (by omega)
 rw [<- txt_size] at hA
 obtain ⟨A, eA⟩ : ∃ A, txt (Lib.itoa (n / 3600)) = A := ⟨_, rfl⟩
 rw [eA] at hA ⊢
 have EA := qH eA
 clear eA
 rintro e w1 ⟨rfl, hb1⟩
 go_wp2_with fail
 refine (two_any _ _ (by omega) (by omega)).mono ?_
 obtain ⟨B, eB⟩ : ∃ B, txt (T2 (n / 60 % 60)) = B := ⟨_, rfl⟩
 rw [eB]
 have hB2 : B.size <= 2 := by rw [<- eB, txt_size, T2_length]; omega
 have EB := qH eB
 clear eB
 rintro e w2 ⟨rfl, hb2⟩
 have b2 := hb1.trans (hb2.mono hb1.size)
 by_cases hz : n % 60 = 0
 ·go_wp2_with fail
  go_ret2
  refine ⟨?_, b2⟩
  show Ending.returned (.tuple #[.string (txt [] ++ A ++ ⟨#[58]⟩ ++ B), .int .i64 0]) = _
  rw [<- EA.out, <- EB.out, cat1, spanP, if_pos hz]
  rfl
 ·go_wp2_with fail
  refine (two_any _ _ (by omega) (by omega)).mono ?_
  obtain ⟨C, eC⟩ : ∃ C, txt (T2 (n % 60)) = C := ⟨_, rfl⟩
  rw [eC]
  have hC2 : C.size <= 2 := by rw [<- eC, txt_size, T2_length]; omega
  have EC := qH eC
  clear eC
  rintro e w3 ⟨rfl, hb3⟩
  go_wp2_with fail
  go_ret2
  refine ⟨?_, b2.trans (hb3.mono b2.size)⟩
  show Ending.returned (.tuple #[.string (txt [] ++ A ++ ⟨#[58]⟩ ++ B ++ (⟨#[58]⟩ ++ C)), .int .i64 0]) = _
  rw [<- EA.out, <- EB.out, <- EC.out, cat2, spanP, if_neg hz]
  rfl
theorem Span_neg (n : Int) (w : World) (h0 : 0 < n) (h1 : n <= 604800) (ht : Tab10 w) :
 Calls Tryz.prog 72 #[.int .i64 (-n)] w fun e w' => e = .returned (.tuple #[.string (txt (45 :: spanP n)), .int .i64 0]) /\ Below w.heap.size w w' := by
 have HT := qH ht
 clear ht
 have ha : ¬ -n < -604800 := by omega
 have hb : ¬ 604800 < -n := by omega
 go_enter Tryz.func72, Tryz.ntmps72
 go_wp2_with fail
 refine (itoa_text _ _ (by omega) (by omega) HT.out).mono ?_
 have hA := itoa_len3 (n := n / 3600) (by omega) (by omega)
 rw [<- txt_size] at hA
 obtain ⟨A, eA⟩ : ∃ A, txt (Lib.itoa (n / 3600)) = A := ⟨_, rfl⟩
 rw [eA] at hA ⊢
 have EA := qH eA
 clear eA
 rintro e w1 ⟨rfl, hb1⟩
 go_wp2_with fail
 refine (two_any _ _ (by omega) (by omega)).mono ?_
 obtain ⟨B, eB⟩ : ∃ B, txt (T2 (n / 60 % 60)) = B := ⟨_, rfl⟩
 rw [eB]
 have hB2 : B.size <= 2 := by rw [<- eB, txt_size, T2_length]; omega
 have EB := qH eB
 clear eB
 rintro e w2 ⟨rfl, hb2⟩
 have b2 := hb1.trans (hb2.mono hb1.size)
 by_cases hz : n % 60 = 0
 ·go_wp2_with fail
  go_ret2
  refine ⟨?_, b2⟩
  show Ending.returned (.tuple #[.string (txt [45] ++ A ++ ⟨#[58]⟩ ++ B), .int .i64 0]) = _
  rw [<- EA.out, <- EB.out, cat1, spanP, if_pos hz]
  rfl
 ·go_wp2_with fail
  refine (two_any _ _ (by omega) (by omega)).mono ?_
  obtain ⟨C, eC⟩ : ∃ C, txt (T2 (n % 60)) = C := ⟨_, rfl⟩
  rw [eC]
  have hC2 : C.size <= 2 := by rw [<- eC, txt_size, T2_length]; omega
  have EC := qH eC
  clear eC
  rintro e w3 ⟨rfl, hb3⟩
  go_wp2_with fail
  go_ret2
  refine ⟨?_, b2.trans (hb3.mono b2.size)⟩
  show Ending.returned (.tuple #[.string (txt [45] ++ A ++ ⟨#[58]⟩ ++ B ++ (⟨#[58]⟩ ++ C)), .int .i64 0]) = _
  rw [<- EA.out, <- EB.out, <- EC.out, cat2, spanP, if_neg hz]
  rfl
theorem Span_ok (n : Int) (w : World) (h0 : -604800 <= n) (h1 : n <= 604800) (ht : Tab10 w) :
 Calls Tryz.prog 72 #[.int .i64 n] w fun e w' => e = .returned (.tuple #[.string (txt (spanT n)), .int .i64 0]) /\ Below w.heap.size w w' := by
 unfold spanT
 by_cases h : n < 0
 ·rw [if_pos h]
  have := Span_neg (-n) w (by omega) (by omega) ht
  rw [Int.neg_neg] at this
  exact this
 ·rw [if_neg h]; exact Span_pos n w (by omega) h1 ht
end Go.Proofs.YtomahddiclkepaaGreatDoor
namespace Go.Proofs.YtomahddiclkepaaGreatDoor
open Go
theorem fold_ge (l : List UInt8) : ∀ acc : Nat, acc <= l.foldl (fun a c => 10 * a + (c.toNat - 48)) acc := by
 induction l with
 | nil => intro acc; exact Nat.le_refl _
 | cons c r ih =>
  intro acc
  simp only [List.foldl_cons]
  have := ih (10 * acc + (c.toNat - 48))
  omega
theorem parseU (l : List UInt8) (hd : ∀ c ∈ l, isDg c) : ∀ acc : Nat, l.foldl (fun a c => 10 * a + (c.toNat - 48)) acc < 1844674407370955162 ->
 Lib.parseUint10 acc l = .ok (l.foldl (fun a c => 10 * a + (c.toNat - 48)) acc) := by
 induction l with
 | nil => intro acc _; rfl
 | cons c r ih =>
  intro acc h
  simp only [List.foldl_cons] at h ⊢
  have hc := hd c (by simp)
  have hge := fold_ge r (10 * acc + (c.toNat - 48))
  unfold isDg at hc
  rw [Lib.parseUint10, if_pos hc, if_neg (by omega), if_neg (by omega), show acc * 10 + (c.toNat - 48) = 10 * acc + (c.toNat - 48) by omega]
  exact ih (fun x hx => hd x (by simp [hx])) _ h
def atoiV (l : List UInt8) : Int :=
 match Lib.atoiAll l with
 | .ok v => v
 | .range => Lib.atoiSat l
 | _ => 0
theorem atoi_dg {l : List UInt8} (hn : l ≠ []) (hd : ∀ c ∈ l, isDg c) (h : numV l < 1844674407370955162) : Lib.atoiAll l = .ok (numV l : Int) := by
 match l, hn with
 | c :: r, _ =>
  have hc := hd c (by simp)
  unfold isDg at hc
  rw [Lib.atoiAll_plain c r (by omega) (by omega), Lib.parseMag, if_neg (by simp), parseU _ hd 0 h]
  have : numV (c :: r) < 1844674407370955162 := h
  unfold Lib.signless
  exact if_neg (by unfold numV at this; omega)
theorem atoiV_dg {l : List UInt8} (hn : l ≠ []) (hd : ∀ c ∈ l, isDg c) (h : numV l < 1844674407370955162) : atoiV l = numV l := by
 unfold atoiV
 rw [atoi_dg hn hd h]
theorem atoiV_itoa {n : Int} (h0 : 0 <= n) (h1 : n < 1844674407370955162) : atoiV (Lib.itoa n) = n := by
 have e : numV (Lib.itoa n) = n.toNat := by rw [itoa_nn h0, numV_dec]
 rw [atoiV_dg (itoa_ne h0) (itoa_dg h0) (by omega), e]
 omega
theorem numV_T2 {n : Int} (h0 : 0 <= n) (h1 : n < 100) : numV (T2 n) = n.toNat := by
 simp only [numV, T2, List.foldl_cons, List.foldl_nil, UInt8.toNat_ofNat']
 omega
theorem atoiV_T2 {n : Int} (h0 : 0 <= n) (h1 : n < 100) : atoiV (T2 n) = n := by
 rw [atoiV_dg (by simp [T2]) (T2_dg h0 h1) (by rw [numV_T2 h0 h1]; omega), numV_T2 h0 h1]
 omega
theorem atoiV_bd (l : List UInt8) : -9223372036854775808 <= atoiV l /\ atoiV l <= 9223372036854775807 := by
 unfold atoiV
 split
 ·next v h => exact Lib.atoiAll_bounds h
 ·unfold Lib.atoiSat; split <;> omega
 ·omega
def sepP (x : Nat) : Bool := decide (x < 48) || decide (57 < x)
def joinG : List (List UInt8 × UInt8) -> List UInt8 -> List UInt8
 | [], l => l
 | (g, c) :: r, l => g ++ c :: joinG r l
def spG (pos : Nat) : List (List UInt8 × UInt8) -> List UInt8 -> List (Nat × Nat)
 | [], l => [(pos, pos + l.length)]
 | (g, c) :: r, l => (pos, pos + g.length) :: spG (pos + g.length + 1) r l
theorem txt_get (l : List UInt8) (i : Nat) (h : i < (txt l).size) : (txt l)[i]'h = l[i]'(by rw [txt_size] at h; exact h) := rfl
theorem dec_txt (pre post : List UInt8) (c : UInt8) (h : c.toNat < 128) : Utf8.decode (txt (pre ++ c :: post)) pre.length = (c.toNat, 1) := by
 have hl : pre.length < (txt (pre ++ c :: post)).size := by rw [txt_size]; simp
 have e : (txt (pre ++ c :: post))[pre.length]'hl = c := by
  rw [txt_get]
  simp
 rw [decode_ascii _ _ hl (by rw [e]; exact h), e]
theorem sepP_dg {c : UInt8} (h : isDg c) : sepP c.toNat = false := by
 unfold isDg at h
 unfold sepP
 simp; omega
theorem dg_lt {c : UInt8} (h : isDg c) : c.toNat < 128 := by unfold isDg at h; omega
theorem run_some (g : List UInt8) : ∀ (pre post : List UInt8) (f a : Nat) (acc : List (Nat × Nat)), (∀ c ∈ g, isDg c) ->
 Lib.spansFromP sepP (txt (pre ++ (g ++ post))) (f + g.length) pre.length (some a) acc = Lib.spansFromP sepP (txt (pre ++ (g ++ post))) f (pre.length + g.length) (some a) acc := by
 induction g with
 | nil => intro pre post f a acc _; rfl
 | cons c r ih =>
  intro pre post f a acc hd
  have hc := hd c (by simp)
  have hlt : pre.length < (txt (pre ++ (c :: r ++ post))).size := by rw [txt_size]; simp
  have e := dec_txt pre (r ++ post) c (dg_lt hc)
  show Lib.spansFromP sepP _ ((f + r.length) + 1) _ _ _ = _
  rw [Lib.spansFromP, if_pos hlt]
  rw [show pre ++ (c :: r ++ post) = pre ++ c :: (r ++ post) by simp, e]
  simp only [sepP_dg hc]
  have := ih (pre ++ [c]) post f a acc (fun x hx => hd x (by simp [hx]))
  simp only [List.append_assoc, List.cons_append, List.nil_append, List.length_append, List.length_cons, List.length_nil] at this ⊢
  rw [if_neg (by simp), this]
  congr 1
  omega
theorem run_none (g : List UInt8) (hg : g ≠ []) (pre post : List UInt8) (f : Nat) (acc : List (Nat × Nat)) (hd : ∀ c ∈ g, isDg c) :
 Lib.spansFromP sepP (txt (pre ++ (g ++ post))) (f + g.length) pre.length none acc = Lib.spansFromP sepP (txt (pre ++ (g ++ post))) f (pre.length + g.length) (some pre.length) acc := by
 match g, hg with
 | c :: r, _ =>
  have hc := hd c (by simp)
  have hlt : pre.length < (txt (pre ++ (c :: r ++ post))).size := by rw [txt_size]; simp
  have e := dec_txt pre (r ++ post) c (dg_lt hc)
  show Lib.spansFromP sepP _ ((f + r.length) + 1) _ _ _ = _
  rw [Lib.spansFromP, if_pos hlt]
  rw [show pre ++ (c :: r ++ post) = pre ++ c :: (r ++ post) by simp, e]
  simp only [sepP_dg hc]
  have := run_some r (pre ++ [c]) post f pre.length acc (fun x hx => hd x (by simp [hx]))
  simp only [List.append_assoc, List.cons_append, List.nil_append, List.length_append, List.length_cons, List.length_nil] at this ⊢
  rw [if_neg (by simp), this]
  congr 1
  omega
theorem run_sep (c : UInt8) (hc : c.toNat < 128) (hs : sepP c.toNat = true) (pre post : List UInt8) (f a : Nat) (acc : List (Nat × Nat)) :
 Lib.spansFromP sepP (txt (pre ++ c :: post)) (f + 1) pre.length (some a) acc = Lib.spansFromP sepP (txt (pre ++ c :: post)) f (pre.length + 1) none (acc ++ [(a, pre.length)]) := by
 have hlt : pre.length < (txt (pre ++ c :: post)).size := by rw [txt_size]; simp
 rw [Lib.spansFromP, if_pos hlt, dec_txt pre post c hc]
 simp only [hs, if_true]
def okG (r : List (List UInt8 × UInt8)) : Prop := ∀ x ∈ r, x.1 ≠ [] /\ (∀ c ∈ x.1, isDg c) /\ x.2.toNat < 128 /\ sepP x.2.toNat = true
theorem groups (last : List UInt8) (hl : last ≠ []) (hd : ∀ c ∈ last, isDg c) : ∀ (r : List (List UInt8 × UInt8)) (pre : List UInt8) (acc : List (Nat × Nat)), okG r ->
 Lib.closeSpans (txt (pre ++ joinG r last)) (Lib.spansFromP sepP (txt (pre ++ joinG r last)) (joinG r last).length pre.length none acc) = acc ++ spG pre.length r last := by
 intro r
 induction r with
 | nil =>
  intro pre acc _
  have := run_none last hl pre [] 0 acc hd
  simp only [List.append_nil, Nat.zero_add] at this
  simp only [joinG, spG]
  rw [this]
  simp [Lib.spansFromP, Lib.closeSpans, txt_size]
 | cons x r ih =>
  intro pre acc hok
  obtain ⟨g, c⟩ := x
  obtain ⟨h1, h2, h3, h4⟩ := hok (g, c) (by simp)
  simp only [joinG, spG]
  have e1 := run_none g h1 pre (c :: joinG r last) ((joinG r last).length + 1) acc h2
  rw [show (g ++ c :: joinG r last).length = (joinG r last).length + 1 + g.length by simp; omega, e1]
  have e2 := run_sep c h3 h4 (pre ++ g) (joinG r last) (joinG r last).length pre.length acc
  simp only [List.append_assoc, List.length_append] at e2
  rw [e2]
  have e3 := ih (pre ++ g ++ [c]) (acc ++ [(pre.length, pre.length + g.length)]) (fun y hy => hok y (by simp [hy]))
  simp only [List.append_assoc, List.length_append, List.cons_append, List.nil_append, List.length_cons, List.length_nil] at e3
  rw [show pre.length + (g.length + (0 + 1)) = pre.length + g.length + 1 by omega] at e3
  rw [e3]
theorem ext_mid (pre g post : List UInt8) : (txt (pre ++ (g ++ post))).extract pre.length (pre.length + g.length) = txt g := by
 apply ByteArray.ext
 apply Array.ext'
 rw [Lib.extract_data, txt_data, txt_data]
 simp
theorem groups_ext (last : List UInt8) : ∀ (r : List (List UInt8 × UInt8)) (pre : List UInt8),
 (spG pre.length r last).map (fun x => (txt (pre ++ joinG r last)).extract x.1 x.2) = r.map (fun x => txt x.1) ++ [txt last] := by
 intro r
 induction r with
 | nil =>
  intro pre
  have := ext_mid pre last []
  simp only [List.append_nil] at this
  simp [spG, joinG, this]
 | cons x r ih =>
  intro pre
  obtain ⟨g, c⟩ := x
  simp only [spG, joinG, List.map_cons, List.cons_append, List.cons.injEq]
  refine ⟨ext_mid pre g (c :: joinG r last), ?_⟩
  have := ih (pre ++ g ++ [c])
  simp only [List.append_assoc, List.length_append, List.cons_append, List.nil_append, List.length_cons, List.length_nil] at this
  rw [show pre.length + (g.length + (0 + 1)) = pre.length + g.length + 1 by omega] at this
  exact this
theorem fields_groups (r : List (List UInt8 × UInt8)) (last : List UInt8) (hok : okG r) (hl : last ≠ []) (hd : ∀ c ∈ last, isDg c) :
 Lib.goFieldsP sepP (txt (joinG r last)) = r.map (fun x => txt x.1) ++ [txt last] := by
 unfold Lib.goFieldsP Lib.spansOfP
 have h1 := groups last hl hd r [] [] hok
 have h2 := groups_ext last r []
 simp only [List.nil_append, List.length_nil] at h1 h2
 rw [txt_size, h1, h2]
theorem fields_stamp (t : Int) (h1 : -135140 <= t / 86400) (h2 : t / 86400 <= 157053) :
 Lib.goFieldsP sepP (txt (stampT t)) = [txt (Lib.itoa (Civ.yy (t / 86400))), txt (T2 (Civ.mm (t / 86400))), txt (T2 (Civ.dd (t / 86400))), txt (T2 (t % 86400 / 3600)), txt (T2 (t % 86400 / 60 % 60)), txt (T2 (t % 86400 % 60))] := by
 obtain ⟨hv, -⟩ := Civ.date_valid (t / 86400) h1 h2
 have hb := Civ.mlen_bd (Civ.yy (t / 86400)) (Civ.mm (t / 86400)) hv.2.2.1 hv.2.2.2.1
 obtain ⟨v1, v2, v3, v4, v5, v6⟩ := hv
 have key := fields_groups [(Lib.itoa (Civ.yy (t / 86400)), 45), (T2 (Civ.mm (t / 86400)), 45), (T2 (Civ.dd (t / 86400)), 84), (T2 (t % 86400 / 3600), 58), (T2 (t % 86400 / 60 % 60), 58)] (T2 (t % 86400 % 60))
  (by
    have d2 : ∀ n : Int, 0 <= n -> n < 100 -> T2 n ≠ [] /\ ∀ c ∈ T2 n, isDg c := fun n a b => ⟨by simp [T2], T2_dg a b⟩
    intro x hx
    simp only [List.mem_cons, List.not_mem_nil, or_false] at hx
    rcases hx with rfl | rfl | rfl | rfl | rfl
    ·exact ⟨itoa_ne (by omega), itoa_dg (by omega), by show (45 : UInt8).toNat < 128; decide, by show sepP (45 : UInt8).toNat = true; decide⟩
    ·exact ⟨(d2 _ (by omega) (by omega)).1, (d2 _ (by omega) (by omega)).2, by show (45 : UInt8).toNat < 128; decide, by show sepP (45 : UInt8).toNat = true; decide⟩
    ·exact ⟨(d2 _ (by omega) (by omega)).1, (d2 _ (by omega) (by omega)).2, by show (84 : UInt8).toNat < 128; decide, by show sepP (84 : UInt8).toNat = true; decide⟩
    ·exact ⟨(d2 _ (by omega) (by omega)).1, (d2 _ (by omega) (by omega)).2, by show (58 : UInt8).toNat < 128; decide, by show sepP (58 : UInt8).toNat = true; decide⟩
    ·exact ⟨(d2 _ (by omega) (by omega)).1, (d2 _ (by omega) (by omega)).2, by show (58 : UInt8).toNat < 128; decide, by show sepP (58 : UInt8).toNat = true; decide⟩)
  (by simp [T2]) (T2_dg (by omega) (by omega))
 have e : joinG [(Lib.itoa (Civ.yy (t / 86400)), 45), (T2 (Civ.mm (t / 86400)), 45), (T2 (Civ.dd (t / 86400)), 84), (T2 (t % 86400 / 3600), 58), (T2 (t % 86400 / 60 % 60), 58)] (T2 (t % 86400 % 60)) = stampT t := by
  unfold stampT
  simp [joinG]
 rw [e] at key
 rw [key]
 rfl
end Go.Proofs.YtomahddiclkepaaGreatDoor
namespace Go.Proofs.YtomahddiclkepaaGreatDoor
open Go.RowKit Go.Joins
def IfaceV (w : World) (g : Nat) : Prop := ∃ ev, w.cell? ⟨g, 0, none⟩ = some ev /\ (ev = .nilIface \/ ∃ te pe, ev = .iface te pe)
theorem IfaceV.below {w w' : World} {g : Nat} (h : IfaceV w g) (hb : Below w.heap.size w w') : IfaceV w' g := by
 obtain ⟨ev, h1, h2⟩ := h
 exact ⟨ev, (hb.cell (show (⟨g, 0, none⟩ : Addr).block < w.heap.size from Lib.lt_of_cell h1)).trans h1, h2⟩
def NumErrs (w : World) : Prop := IfaceV w 6 /\ IfaceV w 7
theorem NumErrs.below {w w' : World} (h : NumErrs w) (hb : Below w.heap.size w w') : NumErrs w' := ⟨h.1.below hb, h.2.below hb⟩
section
variable {P : Program} {ρ : Go.Shelf.Ren}
theorem atoi_bad1 (L : LaysC.n172 P ρ) (s : ByteArray) (hlim : s.size <= 281474976710656) (ev : Value) (w : World) (hv : w.cell? ⟨(ρ.g 15), 0, none⟩ = some ev) (hev : ev = .nilIface \/ ∃ te pe, ev = .iface te pe)
 (h1 : ∀ v, Lib.atoiAll s.data.toList ≠ .ok v) (h2 : Lib.atoiAll s.data.toList ≠ .range) :
 Calls P (ρ.f 172) #[.string s] w fun e w' => ∃ t p, e = .returned (.tuple #[.int .i64 0, .iface t p]) /\ Below w.heap.size w w' := by
 rcases h : Lib.atoiAll s.data.toList with v | _ | _
 ·exact absurd h (h1 v)
 ·exact (Any.strconv_Atoi_syntax L s hlim h ev w hv hev).mono fun e w' ⟨N, he, _, _, hb⟩ => ⟨_, _, he, hb⟩
 ·exact absurd h h2
theorem atoi_bad2 (L : LaysC.n172 P ρ) (s : ByteArray) (hlim : s.size <= 281474976710656) (ev : Value) (w : World) (hv : w.cell? ⟨(ρ.g 16), 0, none⟩ = some ev) (hev : ev = .nilIface \/ ∃ te pe, ev = .iface te pe)
 (h : Lib.atoiAll s.data.toList = .range) :
 Calls P (ρ.f 172) #[.string s] w fun e w' => ∃ t p, e = .returned (.tuple #[.int .i64 (Lib.atoiSat s.data.toList), .iface t p]) /\ Below w.heap.size w w' :=
 (Any.strconv_Atoi_range L s hlim h ev w hv hev).mono fun e w' ⟨N, he, _, _, hb⟩ => ⟨_, _, he, hb⟩
end
theorem Atoi_bad1 (s : ByteArray) (hlim : s.size <= 281474976710656) (ev : Value) (w : World) (hv : w.cell? ⟨6, 0, none⟩ = some ev) (hev : ev = .nilIface \/ ∃ te pe, ev = .iface te pe)
 (h1 : ∀ v, Lib.atoiAll s.data.toList ≠ .ok v) (h2 : Lib.atoiAll s.data.toList ≠ .range) :
 Calls Tryz.prog 137 #[.string s] w fun e w' => ∃ t p, e = .returned (.tuple #[.int .i64 0, .iface t p]) /\ Below w.heap.size w w' :=
 atoi_bad1 Tryz.laysC172 s hlim ev w hv hev h1 h2
theorem Atoi_bad2 (s : ByteArray) (hlim : s.size <= 281474976710656) (ev : Value) (w : World) (hv : w.cell? ⟨7, 0, none⟩ = some ev) (hev : ev = .nilIface \/ ∃ te pe, ev = .iface te pe)
 (h : Lib.atoiAll s.data.toList = .range) :
 Calls Tryz.prog 137 #[.string s] w fun e w' => ∃ t p, e = .returned (.tuple #[.int .i64 (Lib.atoiSat s.data.toList), .iface t p]) /\ Below w.heap.size w w' :=
 atoi_bad2 Tryz.laysC172 s hlim ev w hv hev h
theorem Atoi_any (l : List UInt8) (w : World) (hl : l.length <= 281474976710656) (hv : NumErrs w) :
 Calls Tryz.prog 137 #[.string (txt l)] w fun e w' => ∃ ev, e = .returned (.tuple #[.int .i64 (atoiV l), ev]) /\ Below w.heap.size w w' /\
  ((∃ v, Lib.atoiAll l = .ok v /\ ev = .nilIface) \/ ((∀ v, Lib.atoiAll l ≠ .ok v) /\ ∃ t p, ev = .iface t p)) := by
 obtain ⟨⟨v1, c1, k1⟩, ⟨v2, c2, k2⟩⟩ := hv
 have hs : (txt l).size = l.length := txt_size l
 unfold atoiV
 rcases h : Lib.atoiAll l with v | _ | _
 ·refine (Tryz.strconv_Atoi_ok (txt l) (by omega) v (by rw [txt_data]; exact h) w).mono ?_
  rintro e w' ⟨rfl, hw⟩
  refine ⟨_, rfl, ?_, .inl ⟨v, rfl, rfl⟩⟩
  rcases hw with rfl | ⟨t, rfl⟩
  ·exact Below.refl _ _
  ·exact below_bytesWorld _ _ _ _ (Nat.le_refl _)
 ·refine (Atoi_bad1 (txt l) (by omega) v1 w c1 k1 (by rw [txt_data, h]; intro v hv; cases hv) (by rw [txt_data, h]; intro hv; cases hv)).mono ?_
  rintro e w' ⟨t, p, rfl, hb⟩
  exact ⟨_, rfl, hb, .inr ⟨(fun v hv => by cases hv), _, _, rfl⟩⟩
 ·refine (Atoi_bad2 (txt l) (by omega) v2 w c2 k2 (by rw [txt_data]; exact h)).mono ?_
  rintro e w' ⟨t, p, rfl, hb⟩
  rw [txt_data]
  exact ⟨_, rfl, hb, .inr ⟨(fun v hv => by cases hv), _, _, rfl⟩⟩
end Go.Proofs.YtomahddiclkepaaGreatDoor
namespace Go.Proofs.YtomahddiclkepaaGreatDoor
open Go
def consHd (x : UInt8) : List (List UInt8) -> List (List UInt8)
 | [] => [[x]]
 | h :: t => (x :: h) :: t
def splitC (c : UInt8) : List UInt8 -> List (List UInt8)
 | [] => [[]]
 | x :: r => if x = c then [] :: splitC c r else consHd x (splitC c r)
theorem splitC_ne (c : UInt8) (l : List UInt8) : splitC c l ≠ [] := by
 cases l with
 | nil => simp [splitC]
 | cons x r =>
  simp only [splitC]
  split
  ·simp
  ·cases splitC c r <;> simp [consHd]
theorem consHd_length (x : UInt8) {l : List (List UInt8)} (h : l ≠ []) : (consHd x l).length = l.length := by
 cases l with
 | nil => exact absurd rfl h
 | cons a t => rfl
theorem splitC_length (c : UInt8) (l : List UInt8) : (splitC c l).length = l.count c + 1 := by
 induction l with
 | nil => rfl
 | cons x r ih =>
  simp only [splitC]
  split
  ·next h => subst h; simp [ih]
  ·next h => rw [consHd_length x (splitC_ne c r), ih, List.count_cons_of_ne (by simpa using h)]
theorem split_one (c : UInt8) (l : List UInt8) : Lib.split l [c] = splitC c l := by
 induction l with
 | nil => rfl
 | cons x r ih =>
  unfold Lib.split at ih ⊢
  by_cases h : x = c
  ·subst h
   rw [Lib.count_cons_eq, show 1 + Lib.count r [x] = Lib.count r [x] + 1 by omega]
   have hi : Lib.index (x :: r) [x] = 0 := by simp [Lib.index]
   simp only [Lib.splitK, hi, splitC, if_true]
   rw [<- ih]
   simp
  ·rw [Lib.count_cons_ne x c r h]
   simp only [splitC, if_neg h]
   rw [<- ih]
   cases hk : Lib.count r [c] with
   | zero => rfl
   | succ k =>
    have hp : [c].isPrefixOf (x :: r) = false := by
     simp only [List.isPrefixOf_cons_cons, Bool.and_eq_false_iff]
     left
     simpa using fun e => h e.symm
    have hir : Lib.index r [c] ≠ -1 := fun e => by rw [Lib.count_miss e] at hk; omega
    have hge := Lib.index_ge r [c]
    have hi : Lib.index (x :: r) [c] = Lib.index r [c] + 1 := by
     rw [Lib.index, hp, if_neg (by simp), if_neg (by simpa using hir)]
    have e1 : (Lib.index r [c] == -1) = false := by simpa using hir
    have e2 : (Lib.index r [c] + 1 == -1) = false := by simp; omega
    simp only [Lib.splitK, hi, e1, e2, consHd]
    rw [show (Lib.index r [c] + 1).toNat = (Lib.index r [c]).toNat + 1 by omega]
    simp
theorem splitB_one (c : UInt8) (l : List UInt8) : Lib.splitB (txt [c]) 0 (Lib.countB (txt l) (txt [c])) (txt l) = (splitC c l).map txt := by
 have h := Lib.splitB_data (txt [c]) 0 (Lib.countB (txt l) (txt [c])) (txt l)
 have hc : Lib.countB (txt l) (txt [c]) = Lib.count l [c] := by unfold Lib.countB; rw [txt_data, txt_data]
 rw [txt_data, txt_data, hc] at h
 have hs : Lib.splitK [c] 0 (Lib.count l [c]) l = splitC c l := split_one c l
 rw [hs] at h
 rw [hc, <- h, List.map_map]
 have : (txt ∘ fun x : ByteArray => x.data.toList) = id := by funext x; rfl
 rw [this, List.map_id]
theorem splitC_head (c : UInt8) (g r : List UInt8) (h : ∀ x ∈ g, x ≠ c) : splitC c (g ++ c :: r) = g :: splitC c r := by
 induction g with
 | nil => simp [splitC]
 | cons x g ih =>
  have hx := h x (by simp)
  simp only [List.cons_append, splitC, if_neg hx]
  rw [ih (fun y hy => h y (by simp [hy]))]
  rfl
theorem splitC_last (c : UInt8) (g : List UInt8) (h : ∀ x ∈ g, x ≠ c) : splitC c g = [g] := by
 induction g with
 | nil => rfl
 | cons x g ih =>
  have hx := h x (by simp)
  simp only [splitC, if_neg hx]
  rw [ih (fun y hy => h y (by simp [hy]))]
  rfl
theorem splitC_small (c : UInt8) (l : List UInt8) : ∀ x ∈ splitC c l, x.length <= l.length := by
 induction l with
 | nil => intro x hx; simp [splitC] at hx; subst hx; simp
 | cons y r ih =>
  intro x hx
  simp only [splitC] at hx
  split at hx
  ·rcases List.mem_cons.1 hx with rfl | hx
   ·simp
   ·have := ih x hx; simp; omega
  ·cases hs : splitC c r with
   | nil => exact absurd hs (splitC_ne c r)
   | cons a t =>
    rw [hs] at hx ih
    rcases List.mem_cons.1 hx with rfl | hx
    ·have := ih a (by simp); simp; omega
    ·have := ih x (by simp [hx]); simp; omega
end Go.Proofs.YtomahddiclkepaaGreatDoor
namespace Go.Proofs.YtomahddiclkepaaGreatDoor
open Go.RowKit Go.Joins
theorem splitC_any (c : UInt8) (l : List UInt8) (w : World) (hl : l.length < 4294967281) (hm : MaxLen w) :
 Calls Tryz.prog 36 #[.string (txt l), .string (txt [c])] w fun e w' => ∃ A, e = .returned (.slice (some ⟨A, 0, none⟩) (splitC c l).length (splitC c l).length) /\ w.heap.size <= A /\ A < w'.heap.size /\
  (∀ j (h : j < (splitC c l).length), w'.cell? ⟨A, j, none⟩ = some (.string (txt ((splitC c l)[j]'h)))) /\ Below w.heap.size w w' := by
 obtain ⟨m, hm⟩ := hm
 have hn : (splitC c l).length = Lib.countB (txt l) (txt [c]) + 1 := by
  rw [splitC_length]; unfold Lib.countB; rw [txt_data, txt_data, Lib.count_one]
 refine (Tryz.strings_Split (txt l) (txt [c]) m w (by rw [txt_size]; exact hl) hm (by rw [txt_size]; simp)).mono ?_
 rintro e w' ⟨rfl, rfl⟩
 rw [splitB_one]
 refine ⟨w.heap.size, by rw [hn], Nat.le_refl _, by simp, ?_, (Below.refl _ _).alloc (Nat.le_refl _) _⟩
 intro j h
 rw [cell_of_row _ _ _ _ _ _ (heap_alloc_new w _)]
 simp [h]
theorem cutPrefix_any (l p : List UInt8) (w : World) :
 Calls Tryz.prog 141 #[.string (txt l), .string (txt p)] w fun e w' => e = .returned (.tuple #[.string (txt (Lib.trimPrefix l p)), .bool (Lib.hasPrefix l p)]) /\ w' = w := by
 have := Tryz.strings_CutPrefix (txt l) (txt p) w
 rwa [txt_data, txt_data] at this
theorem Span_no (n : Int) (w : World) (h : n < -604800 \/ 604800 < n) :
 Calls Tryz.prog 72 #[.int .i64 n] w fun e w' => e = .returned (.tuple #[.string ⟨#[]⟩, .int .i64 1]) /\ Below w.heap.size w w' := by
 rcases h with h | h
 ·go_enter Tryz.func72, Tryz.ntmps72
  go_wp2
  go_ret2
  exact ⟨rfl, Below.refl _ _⟩
 ·have h1 : ¬ n < -604800 := by omega
  go_enter Tryz.func72, Tryz.ntmps72
  go_wp2
  go_ret2
  exact ⟨rfl, Below.refl _ _⟩
def mulS : Nat -> Int
 | 0 => 3600
 | 1 => 60
 | 2 => 1
 | _ => 0
def stepS (a v : Int) (k : Nat) : Int := wrap64 (a + wrap64 (min v 1000 * mulS k))
def accS (L : List (List UInt8)) : Nat -> Int
 | 0 => 0
 | k + 1 => stepS (accS L k) (atoiV (L.getD k [])) k
def rawS (l : List UInt8) : Int :=
 let L := splitC 58 (Lib.trimPrefix l [45])
 let v := accS L L.length
 if Lib.hasPrefix l [45] = true then wrap64 (-v) else v
theorem ReadSpan_raw (l : List UInt8) (w : World) (hl : l.length < 4294967281) (ht : Tab10 w) (hn : NumErrs w) (hm : MaxLen w) (R : Int × Int)
 (hR : (-604800 <= rawS l /\ rawS l <= 604800 /\ spanT (rawS l) = l /\ R = (rawS l, 0)) \/ (-604800 <= rawS l /\ rawS l <= 604800 /\ spanT (rawS l) ≠ l /\ R = (0, 3)) \/ ((rawS l < -604800 \/ 604800 < rawS l) /\ R = (0, 3))) :
 Calls Tryz.prog 140 #[.string (txt l)] w fun e w' => e = .returned (.tuple #[.int .i64 R.1, .int .i64 R.2]) /\ Below w.heap.size w w' := by
 have HT := qH ht
 have HN := qH hn
 have HM := qH hm
 have hk1 : (Lib.trimPrefix l [45]).length < 4294967281 := by have := Lib.trimPrefix_le l [45]; omega
 have HCP := qH (fun W => cutPrefix_any l [45] W)
 have HSP := qH (fun W hW => splitC_any 58 (Lib.trimPrefix l [45]) W hk1 hW)
 have hsm : ∀ x ∈ splitC 58 (Lib.trimPrefix l [45]), x.length <= 281474976710656 := fun x hx => by
  have := splitC_small 58 _ x hx
  omega
 have hLb : (splitC 58 (Lib.trimPrefix l [45])).length < 4294967290 := by
  rw [splitC_length]
  have := List.count_le_length (a := 58) (l := Lib.trimPrefix l [45])
  omega
 have eRaw : rawS l = if Lib.hasPrefix l [45] = true then wrap64 (-(accS (splitC 58 (Lib.trimPrefix l [45])) (splitC 58 (Lib.trimPrefix l [45])).length)) else accS (splitC 58 (Lib.trimPrefix l [45])) (splitC 58 (Lib.trimPrefix l [45])).length := rfl
 rw [show (txt [45] : ByteArray) = ⟨#[45]⟩ from rfl] at HCP
 rw [show (txt [58] : ByteArray) = ⟨#[58]⟩ from rfl] at HSP
 obtain ⟨r, er⟩ : ∃ r, rawS l = r := ⟨_, rfl⟩
 rw [er] at eRaw hR
 have HER := qH eRaw
 obtain ⟨S, eS⟩ : ∃ S, txt l = S := ⟨_, rfl⟩
 rw [eS] at HCP ⊢
 have ES := qH eS
 have hLne := splitC_ne 58 (Lib.trimPrefix l [45])
 clear ht hn hm hk1 eRaw er eS hl
 generalize Lib.hasPrefix l [45] = neg at HCP HER
 generalize txt (Lib.trimPrefix l [45]) = T at HCP HSP
 generalize splitC 58 (Lib.trimPrefix l [45]) = L at HSP hsm HER hLne hLb
 go_enter Tryz.func140, Tryz.ntmps140
 go_wp2_with fail
 refine (HCP.out _).mono ?_
 rintro e w1 ⟨rfl, rfl⟩
 go_wp2_with fail
 refine (HSP.out _ HM.out).mono ?_
 rintro e w1 ⟨A, rfl, hA, hA2, hc, hb⟩
 have HC := qH hc
 clear hc
 go_wp2_with fail
 go_loopw [6, 21] (fun n i wr => ∃ k : Nat, k <= L.length /\ i = .int .i64 k /\ n = .int .i64 (accS L k) /\ Below w1.heap.size w1 wr) (fun _ i _ => L.length - (intOf i).toNat)
 case atStart => exact ⟨0, by omega, by go_num, rfl, Below.refl _ _⟩
 case round =>
  obtain ⟨k, hk, rfl, rfl, hbw⟩ := hrel
  have HBW := qH hbw
  have hA3 : A < wr.heap.size := by have := hbw.size; omega
  clear hbw
  by_cases hkL : k < L.length
  ·have cA := (HBW.out.cell (p := ⟨A, k, none⟩) hA2).trans (HC.out k hkL)
   have hsk := hsm (L[k]'hkL) (List.getElem_mem _)
   have ex0 : accS L (k + 1) = stepS (accS L k) (atoiV (L[k]'hkL)) k := by
    show stepS _ _ _ = _
    rw [List.getD_eq_getElem?_getD, List.getElem?_eq_getElem hkL]; rfl
   obtain ⟨x, ex⟩ : ∃ x, L[k]'hkL = x := ⟨_, rfl⟩
   rw [ex] at cA hsk ex0
   have EX0 := qH ex0
   clear ex ex0 hR
   go_wp2_with fail
   refine (Atoi_any x _ hsk (HN.out.below (hb.trans (HBW.out.mono hb.size)))).mono ?_
   obtain ⟨v, ev⟩ : ∃ v, atoiV x = v := ⟨_, rfl⟩
   have hv := atoiV_bd x
   rw [ev] at hv
   rw [ev]
   rw [ev] at EX0
   clear ev
   generalize accS L k = a at EX0
   rintro e w2 ⟨er, rfl, hb2, -⟩
   have HBX := qH (HBW.out.trans (hb2.mono HBW.out.size))
   have hcell : (w2.alloc (.cells #[.int .i64 3600, .int .i64 60, .int .i64 1, .int .i64 0] 3)).cell? ⟨w2.heap.size, (min (k : Int) 3).toNat, none⟩ = some (.int .i64 (mulS k)) := by
    rw [cell_of_row _ _ _ _ _ _ (heap_alloc_new w2 _)]
    rcases (by omega : k = 0 \/ k = 1 \/ k = 2 \/ 3 <= k) with rfl | rfl | rfl | hk3
    ·rfl
    ·rfl
    ·rfl
    ·rw [show (min (k : Int) 3).toNat = 3 by omega]
     obtain ⟨j, rfl⟩ : ∃ j, k = j + 3 := ⟨k - 3, by omega⟩
     rfl
   obtain ⟨mu, emu⟩ : ∃ mu, mulS k = mu := ⟨_, rfl⟩
   have EX1 : Hid (accS L (k + 1) = wrap64 (a + wrap64 (min v 1000 * mu))) := by
    show _ = _
    rw [EX0.out, <- emu]; rfl
   rw [emu] at hcell
   clear EX0 emu
   go_wp2
   go_roundw
   case rel => exact ⟨k + 1, by omega, by go_num, by rw [EX1.out], HBX.out.alloc HBX.out.size _⟩
   case measure => simp [intOf]; omega
  ·obtain rfl : k = L.length := by omega
   have HBA := qH (hb.trans (HBW.out.mono hb.size))
   cases neg
   ·have e := HER.out
    simp only [Bool.false_eq_true, if_false] at e
    rw [<- e]
    clear e
    go_wp2_with fail
    rcases hR with ⟨t1, t2, t3, rfl⟩ | ⟨t1, t2, t3, rfl⟩ | ⟨t1, rfl⟩
    ·refine (Span_ok r _ t1 t2 (HT.out.below HBA.out)).mono ?_
     rw [t3, ES.out]
     rintro e w3 ⟨rfl, hb3⟩
     clear t3
     go_wp2
     go_ret2
     exact ⟨rfl, HBA.out.trans (hb3.mono HBA.out.size)⟩
    ·refine (Span_ok r _ t1 t2 (HT.out.below HBA.out)).mono ?_
     have hne : ((txt (spanT r)).toList == S.toList) = false := by
      rw [<- ES.out]; exact txt_ne t3
     generalize txt (spanT r) = U at hne
     rintro e w3 ⟨rfl, hb3⟩
     clear t3
     go_wp2
     go_ret2
     exact ⟨rfl, HBA.out.trans (hb3.mono HBA.out.size)⟩
    ·refine (Span_no r _ t1).mono ?_
     rintro e w3 ⟨rfl, hb3⟩
     clear t1
     go_wp2
     go_ret2
     exact ⟨rfl, HBA.out.trans (hb3.mono HBA.out.size)⟩
   ·have e := qH HER.out
    simp only [if_true] at e
    go_wp2_with fail
    rw [<- e.out]
    clear e
    rcases hR with ⟨t1, t2, t3, rfl⟩ | ⟨t1, t2, t3, rfl⟩ | ⟨t1, rfl⟩
    ·refine (Span_ok r _ t1 t2 (HT.out.below HBA.out)).mono ?_
     rw [t3, ES.out]
     rintro e w3 ⟨rfl, hb3⟩
     clear t3
     go_wp2
     go_ret2
     exact ⟨rfl, HBA.out.trans (hb3.mono HBA.out.size)⟩
    ·refine (Span_ok r _ t1 t2 (HT.out.below HBA.out)).mono ?_
     have hne : ((txt (spanT r)).toList == S.toList) = false := by
      rw [<- ES.out]; exact txt_ne t3
     generalize txt (spanT r) = U at hne
     rintro e w3 ⟨rfl, hb3⟩
     clear t3
     go_wp2
     go_ret2
     exact ⟨rfl, HBA.out.trans (hb3.mono HBA.out.size)⟩
    ·refine (Span_no r _ t1).mono ?_
     rintro e w3 ⟨rfl, hb3⟩
     clear t1
     go_wp2
     go_ret2
     exact ⟨rfl, HBA.out.trans (hb3.mono HBA.out.size)⟩
def inS (n : Int) : Prop := -604800 <= n /\ n <= 604800
theorem ReadSpan_no (l : List UInt8) (w : World) (hl : l.length < 4294967281) (hno : ∀ n, inS n -> spanT n ≠ l) (ht : Tab10 w) (hn : NumErrs w) (hm : MaxLen w) :
 Calls Tryz.prog 140 #[.string (txt l)] w fun e w' => e = .returned (.tuple #[.int .i64 0, .int .i64 3]) /\ Below w.heap.size w w' := by
 refine ReadSpan_raw l w hl ht hn hm (0, 3) ?_
 by_cases h : inS (rawS l)
 ·exact .inr (.inl ⟨h.1, h.2, hno _ h, rfl⟩)
 ·exact .inr (.inr ⟨by unfold inS at h; omega, rfl⟩)
theorem pieces_spanP {n : Int} (h0 : 0 <= n) (h1 : n <= 604800) : accS (splitC 58 (spanP n)) (splitC 58 (spanP n)).length = n := by
 have hd : ∀ l : List UInt8, (∀ c ∈ l, isDg c) -> ∀ c ∈ l, c ≠ 58 := fun l h c hc => dg_ne (h c hc) 58 (by decide)
 have hI := hd _ (itoa_dg (show 0 <= n / 3600 by omega))
 have hM := hd _ (T2_dg (show 0 <= n / 60 % 60 by omega) (by omega))
 have hS := hd _ (T2_dg (show 0 <= n % 60 by omega) (by omega))
 have e0 : atoiV (Lib.itoa (n / 3600)) = n / 3600 := atoiV_itoa (by omega) (by omega)
 have e1 : atoiV (T2 (n / 60 % 60)) = n / 60 % 60 := atoiV_T2 (by omega) (by omega)
 have e2 : atoiV (T2 (n % 60)) = n % 60 := atoiV_T2 (by omega) (by omega)
 have w1 : wrap64 (0 + wrap64 (min (n / 3600) 1000 * 3600)) = n / 3600 * 3600 := by
  rw [Int.min_eq_left (by omega), IntWalk.wrap64_in (n / 3600 * 3600) (by omega), IntWalk.wrap64_in _ (by omega)]; omega
 have w2 : wrap64 (n / 3600 * 3600 + wrap64 (min (n / 60 % 60) 1000 * 60)) = n / 3600 * 3600 + n / 60 % 60 * 60 := by
  rw [Int.min_eq_left (by omega), IntWalk.wrap64_in (n / 60 % 60 * 60) (by omega), IntWalk.wrap64_in _ (by omega)]
 have w3 : wrap64 (n / 3600 * 3600 + n / 60 % 60 * 60 + wrap64 (min (n % 60) 1000 * 1)) = n := by
  rw [Int.min_eq_left (by omega), IntWalk.wrap64_in (n % 60 * 1) (by omega), IntWalk.wrap64_in _ (by omega)]; omega
 unfold spanP
 by_cases hz : n % 60 = 0
 ·rw [if_pos hz, List.append_nil]
  have e : splitC 58 (Lib.itoa (n / 3600) ++ ([58] ++ T2 (n / 60 % 60))) = [Lib.itoa (n / 3600), T2 (n / 60 % 60)] := by
   rw [List.singleton_append, splitC_head 58 _ _ hI, splitC_last 58 _ hM]
  rw [e]
  simp only [List.length_cons, List.length_nil, accS, List.getD_cons_zero, List.getD_cons_succ, stepS, mulS, e0, e1, w1, w2]
  omega
 ·rw [if_neg hz]
  have e : splitC 58 (Lib.itoa (n / 3600) ++ ([58] ++ (T2 (n / 60 % 60) ++ ([58] ++ T2 (n % 60))))) = [Lib.itoa (n / 3600), T2 (n / 60 % 60), T2 (n % 60)] := by
   rw [List.singleton_append, List.singleton_append, splitC_head 58 _ _ hI, splitC_head 58 _ _ hM, splitC_last 58 _ hS]
  rw [e]
  simp only [List.length_cons, List.length_nil, accS, List.getD_cons_zero, List.getD_cons_succ, stepS, mulS, e0, e1, e2, w1, w2, w3]
theorem rawS_eq (l : List UInt8) : rawS l = if Lib.hasPrefix l [45] = true then wrap64 (-(accS (splitC 58 (Lib.trimPrefix l [45])) (splitC 58 (Lib.trimPrefix l [45])).length)) else accS (splitC 58 (Lib.trimPrefix l [45])) (splitC 58 (Lib.trimPrefix l [45])).length := rfl
theorem rawS_span {n : Int} (h : inS n) : rawS (spanT n) = n := by
 unfold inS at h
 rw [rawS_eq]
 unfold spanT
 by_cases hn : n < 0
 ·rw [if_pos hn]
  have hp : Lib.hasPrefix (45 :: spanP (-n)) [45] = true := by simp [Lib.hasPrefix]
  have ht : Lib.trimPrefix (45 :: spanP (-n)) [45] = spanP (-n) := by simp [Lib.trimPrefix, hp]
  rw [hp, ht, pieces_spanP (by omega) (by omega)]
  simp only [if_true, Int.neg_neg]
  exact IntWalk.wrap64_in _ (by omega)
 ·rw [if_neg hn]
  have hp := span_plus (n := n) (by omega)
  have ht : Lib.trimPrefix (spanP n) [45] = spanP n := by simp [Lib.trimPrefix, hp]
  rw [hp, ht, pieces_spanP (by omega) (by omega)]
  simp
theorem spanT_len {n : Int} (h : inS n) : (spanT n).length <= 10 := by
 unfold inS at h
 unfold spanT
 split
 ·have := spanP_len (n := -n) (by omega) (by omega); simp; omega
 ·have := spanP_len (n := n) (by omega) (by omega); omega
theorem ReadSpan_ok (n : Int) (w : World) (h : inS n) (ht : Tab10 w) (hn : NumErrs w) (hm : MaxLen w) :
 Calls Tryz.prog 140 #[.string (txt (spanT n))] w fun e w' => e = .returned (.tuple #[.int .i64 n, .int .i64 0]) /\ Below w.heap.size w w' := by
 have hl := spanT_len h
 refine ReadSpan_raw (spanT n) w (by omega) ht hn hm (n, 0) (.inl ?_)
 rw [rawS_span h]
 exact ⟨h.1, h.2, rfl, rfl⟩
end Go.Proofs.YtomahddiclkepaaGreatDoor
