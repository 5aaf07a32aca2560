/- table.Make: what it answers; when a table changes: plain. What a table says at a time, by its changes: plain. The laws of tables that are made, in plain words. Laws of two tables of one zone: parts of a span, spans that meet; a table and the state: plain. A table's book: that it may be, what it says, and that its table is made again: plain facts. The spans in which two tables differ: plain Lean. sort.Search (at a function that leaves what lay below), table.Of, table.At, wall.check, wall.Local: what each returns. table.Of of a table that may be. wall.pieces: the pieces of a table that may be, one behind the other. wall.pieces: the pieces of a table without changes; and of whatever table that may be. wall.Find: the times at which clocks show a local time. clock.Span: what it returns. Pieces of a text between letters, and what digits say: plain Lean. strconv.Atoi at every text: the number; nil just where it is one. A text cut at each instance of a letter: plain Lean. -/
import Derived.Test.YtomahddiclkepaaGreatDoorQt07
import Derived.Test.YtomahddiclkepaaGreatDoorQt08
import Derived.Deep.LoopGhost
import Derived.RegionTactic
import Derived.ChangeAlike
import Derived.BigRegion
import Derived.Sort.Walk0
import Derived.StillTailTactics
import Derived.Lib.SmallJoins
import Derived.RangeFuncNested
import Derived.RangeFuncBox
import Derived.RangeFuncBound
import Derived.RangeFuncCalls
import Derived.RangeFuncLeaves
import Derived.Shelf.Abstract
import Derived.OwnWalkIn
import Derived.TacticsInMore
import Derived.LoopNIn
import Derived.LoopIn
import Derived.BigRegionIn
import Derived.Sort.QuietIn
import Derived.Maps.AppendAt
import Derived.Test.YtomahddiclkepaaGreatDoorQt01
import Derived.Lib.FieldsP
import Derived.Laws.RangeString
import Derived.Lib.AtoiAllCases
import Derived.Shelf.Strconv.AtoiAll
import Derived.Shelf.Strconv.ErrVarAll
import Derived.Lib.Split
import Derived.Lib.SplitLaws
namespace Go.Proofs.YtomahddiclkepaaGreatDoor
open Go.RowKit Go.Joins Go.Maps
open Classical
set_option linter.unusedVariables false
set_option linter.unusedSimpArgs false

def lastF (l : List Er) (k : Nat) (te : Int) : Int := if k + 1 < l.length then min (te - 1) ((eraAt l k).un - 1) else te - 1
def winF (x : Td) (a c : Int) : List Tn := x.ts.filter fun u => decide (a ≤ u.a ∧ u.a ≤ c)
def evF (x : Td) (a c : Int) : List (Int × Ty) := (winF x a c).map fun u => (u.a, tdTy x u.a)
/-- all times at which the table may change -/
noncomputable def candF (rules : List Ru) (l : List Er) (te : Int) : Nat → Int → Nat → List (Int × Ty)
  | 0, _, _ => []
  | n + 1, fr, k =>
    if k + 1 = l.length ∨ te ≤ (eraAt l k).un then evF (tdA rules l k) fr (lastF l k te) else
    evF (tdA rules l k) fr (lastF l k te) ++ ((eraAt l k).un, tdTy (tdA rules l (k + 1)) (eraAt l k).un) :: candF rules l te n ((eraAt l k).un + 1) (k + 1)
noncomputable def candsF (rules : List Ru) (l : List Er) (fr te : Int) : List (Int × Ty) := candF rules l te (l.length - whichF l fr) (fr + 1) (whichF l fr)
def zTab : Tab := ⟨[], 0, []⟩
/-- what table.Make answers, of eras -/
noncomputable def mkE (rules : List Ru) (l : List Er) (fr te : Int) : Int × Tab :=
  if stampE fr ≠ 0 then (stampE fr, zTab) else if stampE te ≠ 0 then (stampE te, zTab) else if te ≤ fr then (1, zTab) else
  if firstE (tdE rules) l ≠ 0 then (firstE (tdE rules) l, zTab) else
  if 250 < (normR (stF rules l fr) (candsF rules l fr te)).types.length ∨ 1000 < (normR (stF rules l fr) (candsF rules l fr te)).chs.length then (2, zTab) else
  (0, normR (stF rules l fr) (candsF rules l fr te))
noncomputable def mkT (b : Bk) (nm : ByteArray) (fr te : Int) : Int × Tab :=
  match (rsv b nm).1 with
  | none => ((rsv b nm).2, zTab)
  | some z => mkE b.rules z.eras fr te

theorem evF_mem {x : Td} {a c : Int} {e : Int × Ty} : e ∈ evF x a c ↔ ∃ u ∈ x.ts, a ≤ u.a ∧ u.a ≤ c ∧ e = (u.a, tdTy x u.a) := by
  unfold evF winF
  rw [List.mem_map]
  constructor
  · rintro ⟨u, hu, rfl⟩
    have := List.mem_filter.1 hu
    have h2 : a ≤ u.a ∧ u.a ≤ c := of_decide_eq_true this.2
    exact ⟨u, this.1, h2.1, h2.2, rfl⟩
  · rintro ⟨u, hu, h1, h2, rfl⟩
    exact ⟨u, List.mem_filter.2 ⟨hu, decide_eq_true ⟨h1, h2⟩⟩, rfl⟩
theorem rises_pw {l : List Tn} (h : Rises l) : l.Pairwise fun a b => a.a < b.a := List.pairwise_iff_getElem.2 fun i j hi hj hij => rises_mono h j i hij hj
theorem evF_rise {x : Td} (h : Rises x.ts) (a c : Int) : RiseL (evF x a c) := by
  unfold RiseL evF winF
  rw [List.pairwise_map]
  exact (rises_pw h).sublist List.filter_sublist
/-- the same type between turns -/
theorem cntT_step {l : List Tn} (h : Rises l) {z : Int} (hz : ∀ u ∈ l, u.a ≠ z) : cntT l z = cntT l (z - 1) := by
  obtain ⟨h1, h2, h3⟩ := cntT_spec h (z - 1)
  refine cntT_eq h h1 (fun i hi => by have := h2 i hi; omega) fun i hi hl => ?_
  have h4 := h3 i hi hl
  have := hz _ (List.getElem_mem hl)
  rw [tnA_at l i hl] at h4 ⊢
  omega
theorem svT_cnt {x : Td} {s t : Int} (h : cntT x.ts s = cntT x.ts t) : svT x s = svT x t := by unfold svT; rw [h]
theorem tdTy_cnt {x : Td} {s t : Int} (h : cntT x.ts s = cntT x.ts t) : tdTy x s = tdTy x t := by unfold tdTy nmT; rw [svT_cnt h]

section
variable {rules : List Ru} {l : List Er}
/-- eras whose turns may be -/
structure TdsOk (rules : List Ru) (l : List Er) : Prop where
  o : ErasOk rules l
  r : ∀ k, k < l.length → Rises (tdA rules l k).ts
theorem tdsOk_of (h : ErasOk rules l) (h2 : firstE (tdE rules) l = 0) : TdsOk rules l := by
  refine ⟨h, fun k hk => ?_⟩
  unfold tdA
  rw [eraAt_in l k hk]
  exact tdR_rises ((firstE_zero _ _).1 h2 _ (List.getElem_mem hk))
theorem cand_end {te : Int} {n k : Nat} {fr : Int} (h : k + 1 = l.length ∨ te ≤ (eraAt l k).un) : candF rules l te (n + 1) fr k = evF (tdA rules l k) fr (lastF l k te) := by rw [candF, if_pos h]
theorem cand_go {te : Int} {n k : Nat} {fr : Int} (h : ¬ (k + 1 = l.length ∨ te ≤ (eraAt l k).un)) : candF rules l te (n + 1) fr k = evF (tdA rules l k) fr (lastF l k te) ++ ((eraAt l k).un, tdTy (tdA rules l (k + 1)) (eraAt l k).un) :: candF rules l te n ((eraAt l k).un + 1) (k + 1) := by rw [candF, if_neg h]
theorem lastF_le (k : Nat) (te : Int) : lastF l k te ≤ te - 1 ∧ (k + 1 < l.length → lastF l k te ≤ (eraAt l k).un - 1) := by
  unfold lastF
  split
  · exact ⟨Int.min_le_left _ _, fun _ => Int.min_le_right _ _⟩
  · rename_i h; exact ⟨Int.le_refl _, fun g => absurd g h⟩
theorem lastF_ge {k : Nat} {te z : Int} (h1 : z ≤ te - 1) (h2 : k + 1 < l.length → z ≤ (eraAt l k).un - 1) : z ≤ lastF l k te := by
  unfold lastF
  split
  · rename_i h; exact Int.le_min.2 ⟨h1, h2 h⟩
  · exact h1
/-- what the candidates are -/
theorem cand_spec (h : TdsOk rules l) (te : Int) : ∀ (n k : Nat) (fr : Int), n = l.length - k → k < l.length → (∀ i, i < k → (eraAt l i).un < fr) → (k + 1 < l.length → fr ≤ (eraAt l k).un) →
    RiseL (candF rules l te n fr k) ∧ (∀ c ∈ candF rules l te n fr k, fr ≤ c.1 ∧ c.1 < te ∧ c.2 = stF rules l c.1 ∧ ((∃ i, i + 1 < l.length ∧ (eraAt l i).un = c.1) ∨ ∃ u ∈ (tdA rules l (whichF l c.1)).ts, u.a = c.1)) ∧
      ∀ z, fr ≤ z → z < te → ((∃ i, i + 1 < l.length ∧ (eraAt l i).un = z) ∨ ∃ u ∈ (tdA rules l (whichF l z)).ts, u.a = z) → ∃ c ∈ candF rules l te n fr k, c.1 = z
  | 0, k, fr, hn, hk, _, _ => by omega
  | n + 1, k, fr, hn, hk, hlo, hhi => by
    have hl1 := lastF_le (l := l) k te
    have hw : ∀ z, fr ≤ z → z ≤ lastF l k te → whichF l z = k := fun z h1 h2 =>
      which_of h.o hk (fun i hi => by have := hlo i hi; omega) fun g => by have := hl1.2 g; omega
    have hev : ∀ c ∈ evF (tdA rules l k) fr (lastF l k te), fr ≤ c.1 ∧ c.1 ≤ lastF l k te ∧ c.2 = stF rules l c.1 ∧ ∃ u ∈ (tdA rules l (whichF l c.1)).ts, u.a = c.1 := by
      intro c hc
      obtain ⟨u, hu, h1, h2, rfl⟩ := evF_mem.1 hc
      dsimp only
      rw [hw u.a h1 h2]
      refine ⟨h1, h2, ?_, u, hu, rfl⟩
      unfold stF
      rw [hw u.a h1 h2]
    have hin : ∀ z, fr ≤ z → z ≤ lastF l k te → (∃ u ∈ (tdA rules l (whichF l z)).ts, u.a = z) → ∃ c ∈ evF (tdA rules l k) fr (lastF l k te), c.1 = z := by
      rintro z h1 h2 ⟨u, hu, rfl⟩
      rw [hw u.a h1 h2] at hu
      exact ⟨_, evF_mem.2 ⟨u, hu, h1, h2, rfl⟩, rfl⟩
    have hun : ∀ z, fr ≤ z → (k + 1 < l.length → z < (eraAt l k).un) → ¬ ∃ i, i + 1 < l.length ∧ (eraAt l i).un = z := by
      rintro z h1 h2 ⟨i, hi, rfl⟩
      by_cases e : i < k
      · have := hlo i e; omega
      · by_cases e2 : i = k
        · subst e2; have := h2 hi; omega
        · have := eras_mono h.o i k (by omega) hi
          have := h2 (by omega)
          omega
    by_cases hE : k + 1 = l.length ∨ te ≤ (eraAt l k).un
    · rw [cand_end hE]
      refine ⟨evF_rise (h.r k hk) _ _, fun c hc => ?_, fun z h1 h2 h3 => ?_⟩
      · obtain ⟨a, b, c1, d⟩ := hev c hc
        exact ⟨a, by omega, c1, .inr d⟩
      · have hz : k + 1 < l.length → z < (eraAt l k).un := fun g => by omega
        rcases h3 with h3 | h3
        · exact absurd h3 (hun z h1 hz)
        · exact hin z h1 (lastF_ge (by omega) fun g => by have := hz g; omega) h3
    · rw [cand_go hE]
      have hkk : k + 1 < l.length := by omega
      have hto : (eraAt l k).un < te := by omega
      have hfu := hhi hkk
      have hlast : lastF l k te ≤ (eraAt l k).un - 1 := hl1.2 hkk
      have hwu : whichF l (eraAt l k).un = k + 1 := which_of h.o hkk (fun i hi => by
        by_cases e : i = k
        · subst e; exact Int.le_refl _
        · have := eras_mono h.o k i (by omega) hkk; omega) fun g => eras_mono h.o (k + 1) k (by omega) g
      obtain ⟨r1, r2, r3⟩ := cand_spec h te n (k + 1) ((eraAt l k).un + 1) (by omega) hkk (fun i hi => by
        by_cases e : i = k
        · subst e; omega
        · have := eras_mono h.o k i (by omega) hkk; omega) (fun g => by have := eras_mono h.o (k + 1) k (by omega) g; omega)
      refine ⟨?_, fun c hc => ?_, fun z h1 h2 h3 => ?_⟩
      · unfold RiseL
        rw [List.pairwise_append]
        refine ⟨evF_rise (h.r k hk) _ _, List.pairwise_cons.2 ⟨fun c hc => ?_, r1⟩, fun c hc d hd => ?_⟩
        · have := (r2 c hc).1
          dsimp only; omega
        · have := (hev c hc).2.1
          rcases List.mem_cons.1 hd with rfl | hd
          · dsimp only; omega
          · have := (r2 d hd).1; omega
      · rcases List.mem_append.1 hc with hc | hc
        · obtain ⟨a, b, c1, d⟩ := hev c hc
          exact ⟨a, by omega, c1, .inr d⟩
        · rcases List.mem_cons.1 hc with rfl | hc
          · refine ⟨hfu, hto, ?_, .inl ⟨k, hkk, rfl⟩⟩
            dsimp only
            unfold stF
            rw [hwu]
          · obtain ⟨a, b, c1, d⟩ := r2 c hc
            exact ⟨by omega, b, c1, d⟩
      · rcases Int.lt_trichotomy z (eraAt l k).un with g | g | g
        · rcases h3 with h3 | h3
          · exact absurd h3 (hun z h1 fun _ => g)
          · obtain ⟨c, hc, e⟩ := hin z h1 (lastF_ge (by omega) fun _ => by omega) h3
            exact ⟨c, List.mem_append_left _ hc, e⟩
        · exact ⟨_, List.mem_append_right _ (List.mem_cons_self ..), g.symm⟩
        · obtain ⟨c, hc, e⟩ := r3 z (by omega) h2 h3
          exact ⟨c, List.mem_append_right _ (List.mem_cons_of_mem _ hc), e⟩
theorem cands_spec (h : TdsOk rules l) (fr te : Int) :
    RiseL (candsF rules l fr te) ∧ (∀ c ∈ candsF rules l fr te, fr < c.1 ∧ c.1 < te ∧ c.2 = stF rules l c.1 ∧ ((∃ i, i + 1 < l.length ∧ (eraAt l i).un = c.1) ∨ ∃ u ∈ (tdA rules l (whichF l c.1)).ts, u.a = c.1)) ∧
      ∀ z, fr < z → z < te → ((∃ i, i + 1 < l.length ∧ (eraAt l i).un = z) ∨ ∃ u ∈ (tdA rules l (whichF l z)).ts, u.a = z) → ∃ c ∈ candsF rules l fr te, c.1 = z := by
  obtain ⟨w1, w2, w3⟩ := which_spec h.o fr
  have hp : 0 < l.length := List.length_pos_iff.2 h.o.ne
  obtain ⟨r1, r2, r3⟩ := cand_spec h te (l.length - whichF l fr) (whichF l fr) (fr + 1) rfl (by omega) (fun i hi => by have := w2 i hi; omega) (fun g => by have := w3 _ (Nat.le_refl _) (by omega); omega)
  exact ⟨r1, fun c hc => by obtain ⟨a, b⟩ := r2 c hc; exact ⟨by omega, b⟩, fun z h1 h2 h3 => r3 z (by omega) h2 h3⟩
/-- between its times nothing turns -/
theorem stF_step (h : TdsOk rules l) {z : Int} (h1 : ¬ ∃ i, i + 1 < l.length ∧ (eraAt l i).un = z) (h2 : ¬ ∃ u ∈ (tdA rules l (whichF l z)).ts, u.a = z) : stF rules l z = stF rules l (z - 1) := by
  obtain ⟨w1, w2, w3⟩ := which_spec h.o z
  have hp : 0 < l.length := List.length_pos_iff.2 h.o.ne
  have hw : whichF l (z - 1) = whichF l z := which_of h.o (by omega) (fun i hi => by
    have h3 := w2 i hi
    have : (eraAt l i).un ≠ z := fun e => h1 ⟨i, by omega, e⟩
    omega) fun g => by have := w3 _ (Nat.le_refl _) (by omega); omega
  unfold stF
  rw [hw]
  exact tdTy_cnt (cntT_step (h.r _ (by omega)) fun u hu e => h2 ⟨u, hu, e⟩)
theorem stF_val (h : TdsOk rules l) {fr te y : Int} (h1 : fr ≤ y) (h2 : y < te) : valL (stF rules l fr) (candsF rules l fr te) y = stF rules l y := by
  obtain ⟨r1, r2, r3⟩ := cands_spec h fr te
  have := valL_fun r1 (stF rules l) fr (fun c hc => (r2 c hc).1) (fun c hc => (r2 c hc).2.2.1) (y - fr).toNat fun z hz1 hz2 hz => by
    refine stF_step h (fun g => ?_) fun g => ?_
    · obtain ⟨c, hc, e⟩ := r3 z hz1 (by omega) (.inl g); exact hz c hc e
    · obtain ⟨c, hc, e⟩ := r3 z hz1 (by omega) (.inr g); exact hz c hc e
  rwa [show fr + (((y - fr).toNat : Nat) : Int) = y by omega] at this
/-- the changes of a table are where it is another type than a second ahead -/
theorem chg_mem (h : TdsOk rules l) (fr te : Int) (c : Int × Ty) : c ∈ squ (stF rules l fr) (candsF rules l fr te) ↔ (fr < c.1 ∧ c.1 < te ∧ stF rules l c.1 ≠ stF rules l (c.1 - 1) ∧ c.2 = stF rules l c.1) := by
  obtain ⟨r1, r2, r3⟩ := cands_spec h fr te
  rw [squ_mem r1]
  constructor
  · rintro ⟨h1, h2⟩
    have : ∃ d ∈ candsF rules l fr te, d.1 = c.1 := Classical.byContradiction fun g => h1 (valL_none (fun d hd e => g ⟨d, hd, e⟩) _)
    obtain ⟨d, hd, e⟩ := this
    obtain ⟨a, b, -, -⟩ := r2 d hd
    rw [stF_val h (by omega) (by omega), stF_val h (by omega) (by omega)] at h1
    rw [stF_val h (by omega) (by omega)] at h2
    exact ⟨by omega, by omega, h1, h2⟩
  · rintro ⟨a, b, h1, h2⟩
    rw [stF_val h (by omega) (by omega), stF_val h (by omega) (by omega)]
    exact ⟨h1, h2⟩
theorem chg_rise (h : TdsOk rules l) (fr te : Int) : RiseL (squ (stF rules l fr) (candsF rules l fr te)) := squ_rise (cands_spec h fr te).1 _
end
end Go.Proofs.YtomahddiclkepaaGreatDoor
namespace Go.Proofs.YtomahddiclkepaaGreatDoor
open Classical
set_option linter.unusedVariables false
set_option linter.unusedSimpArgs false

theorem bnd_exV (p : Nat → Bool) : ∀ (n : Nat), (∀ a b, a ≤ b → b < n → p a = true → p b = true) → ∃ h, h ≤ n ∧ (∀ t, t < h → p t = false) ∧ (∀ t, h ≤ t → t < n → p t = true)
  | 0, _ => ⟨0, Nat.le_refl _, fun t h => absurd h (Nat.not_lt_zero _), fun t _ h => absurd h (Nat.not_lt_zero _)⟩
  | n + 1, hm => by
    obtain ⟨h, h1, h2, h3⟩ := bnd_exV p n fun a b hab hb => hm a b hab (by omega)
    by_cases e : p n = true
    · exact ⟨h, by omega, h2, fun t ht htn => by
        by_cases ht2 : t = n
        · rw [ht2]; exact e
        · exact h3 t ht (by omega)⟩
    · refine ⟨n + 1, Nat.le_refl _, fun t ht => ?_, fun t h4 h5 => by omega⟩
      cases ep : p t with
      | false => rfl
      | true => exact absurd (hm t n (by omega) (by omega) ep) e
theorem cntOf_specV (t : Tab) (ok : OkTab t) (y : Int) : cntOf t.chs y ≤ t.chs.length ∧ (∀ i, i < cntOf t.chs y → tAt t.chs i ≤ y) ∧ (∀ i, cntOf t.chs y ≤ i → i < t.chs.length → y < tAt t.chs i) := by
  obtain ⟨h, h1, h2, h3⟩ := bnd_exV (fun i => decide (y < tAt t.chs i)) t.chs.length (fun a b hab hb hp => by
    have := tAt_mono t.chs ok.rise a b hab hb
    simp only [decide_eq_true_eq] at hp ⊢
    omega)
  have e : cntOf t.chs y = h := cntF_boundary _ _ _ h1 h2 h3
  rw [e]
  exact ⟨h1, fun i hi => by simpa using h2 i hi, fun i hi hl => by simpa using h3 i hi hl⟩
theorem valL_app (x : Ty) (a b : List (Int × Ty)) (y : Int) : valL x (a ++ b) y = valL (valL x a y) b y := by unfold valL; rw [List.foldl_append]
theorem valL_takeV (m : List Ch) (T : List Ty) (y : Int) (f : Int) : ∀ n, n ≤ m.length → (∀ i, i < n → tAt m i ≤ y) → valL (tyD T f) ((m.take n).map fun c => (c.t, tyD T c.k)) y = tyD T (if n = 0 then f else kAt m (n - 1)) := by
  intro n
  cases n with
  | zero => intro _ _; simp [valL]
  | succ n =>
    intro hn h
    have hlt : n < m.length := by omega
    rw [List.take_succ_eq_append_getElem hlt, List.map_append, valL_app]
    have := h n (by omega)
    have e : tAt m n = m[n].t := by simp [tAt, hlt]
    rw [e] at this
    simp only [List.map_cons, List.map_nil, valL, List.foldl_cons, List.foldl_nil, if_pos this]
    simp [kAt, hlt]
theorem tyOf_valV (t : Tab) (ok : OkTab t) (y : Int) : tyOf t y = valL (resH t) (resL t) y := by
  obtain ⟨c1, c2, c3⟩ := cntOf_specV t ok y
  have e1 := valL_takeV t.chs t.types y t.first (cntOf t.chs y) c1 c2
  have e2 : resL t = (t.chs.take (cntOf t.chs y)).map (fun c => (c.t, tyD t.types c.k)) ++ (t.chs.drop (cntOf t.chs y)).map (fun c => (c.t, tyD t.types c.k)) := by
    rw [← List.map_append, List.take_append_drop]; rfl
  rw [e2, valL_app]
  unfold resH
  rw [e1, valL_late]
  · rfl
  intro c hc
  obtain ⟨d, hd, rfl⟩ := List.mem_map.1 hc
  obtain ⟨i, hi, rfl⟩ := List.getElem_of_mem hd
  rw [List.getElem_drop]
  have hlt : cntOf t.chs y + i < t.chs.length := by rw [List.length_drop] at hi; omega
  have := c3 (cntOf t.chs y + i) (by omega) hlt
  have e : tAt t.chs (cntOf t.chs y + i) = t.chs[cntOf t.chs y + i].t := by simp [tAt, hlt]
  rw [e] at this
  exact this
end Go.Proofs.YtomahddiclkepaaGreatDoor
namespace Go.Proofs.YtomahddiclkepaaGreatDoor
open Go.RowKit Go.Joins Go.Maps
open Classical
set_option linter.unusedVariables false
set_option linter.unusedSimpArgs false

section
variable {rules : List Ru} {l : List Er} {fr te : Int}
/-- a type that it is at a time may be in a table -/
theorem stF_ok (h : TdsOk rules l) (y : Int) : -75600 ≤ (stF rules l y).off ∧ (stF rules l y).off ≤ 75600 ∧ abbrB (stF rules l y).name = true := by
  have hp : 0 < l.length := List.length_pos_iff.2 h.o.ne
  have hw := (which_spec h.o y).1
  have hk : whichF l y < l.length := by omega
  have ho := h.o.ok _ (List.getElem_mem hk)
  rw [← eraAt_in l _ hk] at ho
  obtain ⟨s1, s2, s3, -⟩ := sv_ok ho y
  have e : (tdR rules (eraAt l (whichF l y))).er = eraAt l (whichF l y) := tdR_er _ _
  have o1 := ho.o1
  have o2 := ho.o2
  unfold stF tdTy tdA nmT
  dsimp only
  rw [e]
  refine ⟨by omega, by omega, abbrF_abbr s1⟩
/-- a table that was made -/
structure Made (rules : List Ru) (l : List Er) (fr te : Int) (t : Tab) : Prop where
  d : TdsOk rules l
  s1 : stampE fr = 0
  s2 : stampE te = 0
  lt : fr < te
  er : firstE (tdE rules) l = 0
  ok : OkTab t
  eq : t = normR (stF rules l fr) (candsF rules l fr te)
theorem stampE_bd {y : Int} (h : stampE y = 0) : -1099511627776 ≤ y ∧ y ≤ 1099511627776 := by
  unfold stampE at h
  split at h
  · omega
  · cases h
theorem mkE_ok (ho : ErasOk rules l) {t : Tab} (h : mkE rules l fr te = (0, t)) : Made rules l fr te t := by
  unfold mkE at h
  split at h
  · rename_i h1; injection h with h _; exact absurd h h1
  rename_i h1
  split at h
  · rename_i h2; injection h with h _; exact absurd h h2
  rename_i h2
  split at h
  · cases h
  rename_i h3
  split at h
  · rename_i h4; injection h with h _; exact absurd h h4
  rename_i h4
  split at h
  · cases h
  rename_i h5
  injection h with _ h
  have hd := tdsOk_of ho (Classical.not_not.1 h4)
  have hc := cands_spec hd fr te
  have b1 := stampE_bd (Classical.not_not.1 h1)
  have b2 := stampE_bd (Classical.not_not.1 h2)
  refine ⟨hd, Classical.not_not.1 h1, Classical.not_not.1 h2, by omega, Classical.not_not.1 h4, ?_, h.symm⟩
  rw [← h]
  refine normR_ok hc.1 (fun y hy => ?_) (fun c hm => ?_) (by omega) (by omega)
  · rcases hy with rfl | ⟨c, hm, rfl⟩
    · exact stF_ok hd fr
    · rw [(hc.2.1 c hm).2.2.1]
      exact stF_ok hd _
  · have := hc.2.1 c hm
    omega
end
end Go.Proofs.YtomahddiclkepaaGreatDoor
namespace Go.Proofs.YtomahddiclkepaaGreatDoor
open Go.RowKit Go.Joins Go.Maps
open Classical
set_option linter.unusedVariables false
set_option linter.unusedSimpArgs false

section
variable {rules : List Ru} {l : List Er} {fr te p q : Int}
theorem mkE_bad (h : (mkE rules l fr te).1 ≠ 0) : (mkE rules l fr te).2 = zTab := by
  unfold mkE at h ⊢
  split
  · rfl
  rename_i h1
  split
  · rfl
  rename_i h2
  split
  · rfl
  rename_i h3
  split
  · rfl
  rename_i h4
  split
  · rfl
  rename_i h5
  rw [if_neg h1, if_neg h2, if_neg h3, if_neg h4, if_neg h5] at h
  exact absurd rfl h
end

theorem mkT_of {b : Bk} {nm : ByteArray} {z : Zo} {c : Int} (h : rsv b nm = (some z, c)) (fr te : Int) : mkT b nm fr te = mkE b.rules z.eras fr te := by unfold mkT; rw [h]
theorem mkT_none {b : Bk} {nm : ByteArray} {c : Int} (h : rsv b nm = (none, c)) (fr te : Int) : mkT b nm fr te = (c, zTab) := by unfold mkT; rw [h]
theorem mkT_zero {b : Bk} {nm : ByteArray} {fr te : Int} (h : (mkT b nm fr te).1 = 0) : ∃ z ∈ b.zones, rsv b nm = (some z, 0) ∧ bkChk b = 0 ∧ Made b.rules z.eras fr te (mkT b nm fr te).2 := by
  cases e : rsv b nm with
  | mk zo c =>
    cases zo with
    | none => rw [mkT_none e] at h; exact absurd h (rsv_not0 e)
    | some z =>
      obtain ⟨rfl, h2, h3⟩ := rsv_zero e
      rw [mkT_of e] at h ⊢
      exact ⟨z, h2, rfl, h3, mkE_ok (bk_eras h3 h2) (by rw [← h])⟩
theorem mkT_bad {b : Bk} {nm : ByteArray} {fr te : Int} (h : (mkT b nm fr te).1 ≠ 0) : (mkT b nm fr te).2 = zTab := by
  cases e : rsv b nm with
  | mk zo c =>
    cases zo with
    | none => rw [mkT_none e]
    | some z => rw [mkT_of e] at h ⊢; exact mkE_bad h
end Go.Proofs.YtomahddiclkepaaGreatDoor
namespace Go.Proofs.YtomahddiclkepaaGreatDoor
open Go.RowKit Go.Joins Go.Maps
open Classical
set_option linter.unusedVariables false
set_option linter.unusedSimpArgs false

def toEr (x : BB.Er) : Er := ⟨x.off, x.rul, x.save, x.fmt, x.til⟩
def bErs (N : Tab) : List Er := (List.range (N.chs.length + 1)).map fun i => toEr (BB.erAt N i)
theorem bErs_len (N : Tab) : (bErs N).length = N.chs.length + 1 := by simp [bErs]
theorem bErs_at (N : Tab) (k : Nat) (h : k < N.chs.length + 1) : eraAt (bErs N) k = toEr (BB.erAt N k) := by
  unfold eraAt bErs
  rw [List.getElem?_map, List.getElem?_range h]
  rfl
theorem segT_mem {N : Tab} (ok : OkTab N) (i : Nat) (hi : i ≤ N.chs.length) : BB.segT N i ∈ N.types := by
  have h : 0 ≤ BB.segK N i ∧ BB.segK N i < N.types.length := by
    unfold BB.segK
    split
    · exact ok.first
    · have h : i - 1 < N.chs.length := by omega
      have := ok.ch N.chs[i - 1] (List.getElem_mem h)
      unfold kAt
      rw [List.getElem?_eq_getElem h]
      exact ⟨this.2.2.1, this.2.2.2⟩
  unfold BB.segT tyD
  have h2 : (BB.segK N i).toNat < N.types.length := by omega
  rw [List.getElem?_eq_getElem h2]
  exact List.getElem_mem h2
theorem er_off (x : Ty) (u : Int) : (toEr (BB.erOf x u)).off + (toEr (BB.erOf x u)).sv = x.off := by
  show BB.erOff x + BB.erSave x = x.off
  unfold BB.erOff BB.erSave
  split <;> omega
theorem er_sv (x : Ty) (u : Int) : decide (0 < (toEr (BB.erOf x u)).sv) = x.save := by
  show decide (0 < BB.erSave x) = x.save
  unfold BB.erSave
  cases x.save <;> decide
theorem er_svb (x : Ty) (u : Int) : 0 ≤ (toEr (BB.erOf x u)).sv ∧ (toEr (BB.erOf x u)).sv ≤ 10800 := by
  show 0 ≤ BB.erSave x ∧ BB.erSave x ≤ 10800
  unfold BB.erSave
  split <;> omega
theorem er_abE {x : Ty} (h : abbrB x.name = true) (u : Int) : abbrF (toEr (BB.erOf x u)).fm.data.toList (toEr (BB.erOf x u)).sv dashB.data.toList = (x.name.data.toList, 0) :=
  abbrF_self (f := x.name.data.toList) (by rw [show txt x.name.data.toList = x.name from by unfold txt; simp]; exact h) (er_svb x u).1 (er_svb x u).2
/-- a table that may be, as back.Book takes it -/
structure Bkd (N : Tab) (nm : ByteArray) : Prop where
  ok : OkTab N
  norm : normT N = N
  name : nameB nm = true
  len : N.chs.length < 700
  st : ∀ c ∈ N.chs, stampE c.t = 0
  er : ∀ i, i ≤ N.chs.length → BB.erOk (BB.segT N i) = true
theorem er_ruE (x : Ty) (u : Int) : (toEr (BB.erOf x u)).ru.data.toList = [] := rfl
theorem er_ruA (N : Tab) (i : Nat) : (toEr (BB.erAt N i)).ru.data.toList = [] := rfl
section
variable {N : Tab} {nm : ByteArray}
theorem bErs_ok (h : Bkd N nm) (k : Nat) (hk : k < N.chs.length + 1) : EraOk [] (eraAt (bErs N) k) := by
  rw [bErs_at N k hk]
  have hm := segT_mem h.ok k (by omega)
  have hn := (h.ok.type _ hm).2.2
  have ho := h.er k (by omega)
  unfold BB.erOk at ho
  have ho := of_decide_eq_true ho
  refine ⟨ho.1, ho.2, (er_svb _ _).1, (er_svb _ _).2, fun g => absurd rfl g, fun g => absurd rfl g, ?_⟩
  unfold abbrsChk
  rw [if_pos (er_ruA N k)]
  unfold abE
  exact congrArg Prod.snd (er_abE hn (BB.segU N k))
theorem bErs_un (h : Bkd N nm) (k : Nat) (hk : k < N.chs.length) : (eraAt (bErs N) k).un = tAt N.chs k := by
  rw [bErs_at N k (by omega)]
  show BB.segU N k = _
  unfold BB.segU
  rw [if_pos hk]
theorem tAt_memB (m : List Ch) (k : Nat) (hk : k < m.length) : ∃ c ∈ m, tAt m k = c.t := by
  refine ⟨m[k], List.getElem_mem hk, ?_⟩
  unfold tAt
  rw [List.getElem?_eq_getElem hk]
  rfl
theorem bErs_chk (h : Bkd N nm) (k : Nat) (hk : k < (bErs N).length) : eraChk [] (bErs N) k = 0 := by
  rw [bErs_len] at hk
  have e := bErs_ok h k hk
  have hl := bErs_len N
  unfold eraChk
  dsimp only
  rw [if_neg (by have := e.o1; have := e.o2; have := e.s1; have := e.s2; omega), if_neg (fun g => g.1 (e.sr g.2)), if_neg (fun g => g.1 (by rw [bErs_at N k hk]; rfl)), if_neg (fun g => g e.ab)]
  by_cases hkl : k + 1 = (bErs N).length
  · rw [if_pos hkl, if_neg]
    intro g
    refine g ?_
    rw [bErs_at N k hk]
    show BB.segU N k = 0
    unfold BB.segU
    rw [if_neg (by omega)]
  · rw [if_neg hkl]
    have hk2 : k < N.chs.length := by omega
    obtain ⟨c, hc, ec⟩ := tAt_memB N.chs k hk2
    have hs := h.st c hc
    have hb := stampE_bd hs
    rw [← ec] at hs hb
    rw [bErs_un h k hk2, if_neg (by omega), if_neg (fun g => g hs), if_neg]
    rintro ⟨g1, g2⟩
    rw [bErs_un h (k - 1) (by omega)] at g2
    have := List.pairwise_iff_getElem.1 h.ok.rise (k - 1) k (by omega) hk2 (by omega)
    unfold tAt at g2
    rw [List.getElem?_eq_getElem hk2, List.getElem?_eq_getElem (show k - 1 < N.chs.length by omega)] at g2
    simp only [Option.map_some, Option.getD_some] at g2
    omega
theorem bBk_chk (h : Bkd N nm) (ev : Value) : bkChk (oneB [] nm ev (bErs N)) = 0 :=
  oneB_chk (by decide) (fun r hr => by cases hr) h.name (fun e => by have := bErs_len N; rw [e] at this; cases this) (by rw [bErs_len]; have := h.len; omega) (bErs_chk h)
theorem bErs_which (h : Bkd N nm) (y : Int) : whichF (bErs N) y = cntOf N.chs y := by
  unfold whichF cntOf
  rw [bErs_len, Nat.add_sub_cancel]
  unfold cntF
  refine List.countP_congr fun i hi => ?_
  simp only [bErs_un h i (List.mem_range.1 hi)]
theorem bErs_says (h : Bkd N nm) (y : Int) : stF [] (bErs N) y = tyOf N y := by
  have hw := bErs_which h y
  have hle := cntOf_le N.chs y
  unfold stF tdA
  rw [hw, bErs_at N _ (by omega)]
  have hm := segT_mem h.ok (cntOf N.chs y) hle
  have hn := (h.ok.type _ hm).2.2
  have e1 : tyOf N y = BB.segT N (cntOf N.chs y) := rfl
  rw [e1]
  generalize hx : BB.segT N (cntOf N.chs y) = x at *
  have e2 : BB.erAt N (cntOf N.chs y) = BB.erOf x (BB.segU N (cntOf N.chs y)) := by unfold BB.erAt; rw [hx]
  rw [e2]
  generalize BB.segU N (cntOf N.chs y) = u
  have e3 : tdR [] (toEr (BB.erOf x u)) = ⟨toEr (BB.erOf x u), [], dashB⟩ := by unfold tdR; rw [if_pos (er_ruE x u)]
  rw [e3]
  have e4 : svT ⟨toEr (BB.erOf x u), [], dashB⟩ y = ((toEr (BB.erOf x u)).sv, dashB) := rfl
  unfold tdTy nmT
  rw [e4]
  dsimp only
  rw [er_off, er_sv, er_abE hn]
  cases x
  simp only [Ty.mk.injEq, true_and]
  unfold txt
  simp
theorem bErs_tds (h : Bkd N nm) : TdsOk [] (bErs N) := by
  have ho := bk_eras (bBk_chk h undef) (z := ⟨nm, undef, bErs N⟩) (List.mem_singleton.2 rfl)
  refine tdsOk_of ho ?_
  rw [firstE_zero]
  intro x hx
  obtain ⟨i, hi, rfl⟩ := List.mem_map.1 hx
  unfold tdE
  rw [if_pos (er_ruA N i)]
theorem norm_made (h : Bkd N nm) {fr te : Int} (hc : ∀ c ∈ N.chs, fr < c.t ∧ c.t < te) : normR (stF [] (bErs N) fr) (candsF [] (bErs N) fr te) = N := by
  have hd := bErs_tds h
  have hv : ∀ y, valL (resH N) (resL N) y = tyOf N y := fun y => (tyOf_valV N h.ok y).symm
  have hr : RiseL (resL N) := by
    unfold resL RiseL
    exact List.pairwise_map.2 h.ok.rise
  have h0 : stF [] (bErs N) fr = resH N := by
    rw [bErs_says h, ← hv]
    rcases valL_mem (resL N) fr (resH N) with e | ⟨c, hm, g, -⟩
    · exact e
    · obtain ⟨d, hd, rfl⟩ := List.mem_map.1 hm
      have := (hc d hd).1
      simp only at g
      omega
  have e1 : squ (stF [] (bErs N) fr) (candsF [] (bErs N) fr te) = squ (resH N) (resL N) := by
    refine rise_ext (chg_rise hd fr te) (squ_rise hr _) fun c => ?_
    rw [chg_mem hd fr te c, squ_mem hr c, hv, hv, bErs_says h, bErs_says h]
    constructor
    · rintro ⟨-, -, a, b⟩; exact ⟨a, b⟩
    · rintro ⟨a, b⟩
      have hin : ∃ d ∈ resL N, d.1 = c.1 := Classical.byContradiction fun g => a (by
        rw [← hv, ← hv]
        exact valL_none (fun d hd e => g ⟨d, hd, e⟩) _)
      obtain ⟨d, hd, e⟩ := hin
      obtain ⟨q, hq, rfl⟩ := List.mem_map.1 hd
      have := hc q hq
      simp only at e
      rw [e] at this
      exact ⟨this.1, this.2, a, b⟩
  rw [← normR_squ, e1, h0, normR_squ]
  exact h.norm
/-- its table is made again -/
theorem back_made (h : Bkd N nm) (ev : Value) {fr te : Int} (hc : ∀ c ∈ N.chs, fr < c.t ∧ c.t < te) (h1 : stampE fr = 0) (h2 : stampE te = 0) (h3 : fr < te) : mkT (oneB [] nm ev (bErs N)) nm fr te = (0, N) := by
  rw [mkT_of (oneB_rsv (bBk_chk h ev))]
  show mkE [] (bErs N) fr te = _
  unfold mkE
  have e := norm_made h hc
  have hd := (bErs_tds h)
  have he : firstE (tdE []) (bErs N) = 0 := by
    rw [firstE_zero]
    intro x hx
    obtain ⟨i, hi, rfl⟩ := List.mem_map.1 hx
    unfold tdE
    rw [if_pos (er_ruA N i)]
  rw [if_neg (fun g => g h1), if_neg (fun g => g h2), if_neg (by omega), if_neg (fun g => g he), e]
  rw [if_neg (by have := h.ok.many; have := h.ok.chs; omega)]
end
end Go.Proofs.YtomahddiclkepaaGreatDoor
namespace Go.Proofs.YtomahddiclkepaaGreatDoor
open Classical
set_option linter.unusedVariables false

def stepB (eq : Int → Bool) (out : List (Int × Int)) (f t : Int) : List (Int × Int) :=
  if f = t ∨ eq f = true then out else
  match out.getLast? with
  | some p => if p.2 = f then out.dropLast ++ [(p.1, t)] else out ++ [(f, t)]
  | none => out ++ [(f, t)]
structure BInv (eq : Int → Bool) (f cur : Int) (out : List (Int × Int)) : Prop where
  proper : ∀ p ∈ out, f ≤ p.1 ∧ p.1 < p.2 ∧ p.2 ≤ cur
  apart : out.Pairwise (fun p q => p.2 < q.1)
  cover : ∀ y, f ≤ y → y < cur → ((∃ p ∈ out, p.1 ≤ y ∧ y < p.2) ↔ eq y = false)

theorem BInv.more {eq : Int → Bool} {f cur nxt : Int} {out : List (Int × Int)} (h : BInv eq f cur out) (h1 : cur < nxt) (hf : f ≤ cur) (he : eq cur = false) (hc : ∀ y, cur ≤ y → y < nxt → eq y = eq cur) (hl : ∀ p ∈ out, p.2 < cur) :
    BInv eq f nxt (out ++ [(cur, nxt)]) := by
  refine ⟨fun p hp => ?_, ?_, fun y hy1 hy2 => ?_⟩
  · rcases List.mem_append.1 hp with hp | hp
    · have := h.proper p hp; omega
    · simp only [List.mem_singleton] at hp; subst hp; exact ⟨hf, h1, Int.le_refl _⟩
  · rw [List.pairwise_append]
    refine ⟨h.apart, by simp, fun p hp q hq => ?_⟩
    simp only [List.mem_singleton] at hq; subst hq
    exact hl p hp
  · by_cases hyc : y < cur
    · rw [← h.cover y hy1 hyc]
      constructor
      · rintro ⟨p, hp, hp2⟩
        rcases List.mem_append.1 hp with hp | hp
        · exact ⟨p, hp, hp2⟩
        · simp only [List.mem_singleton] at hp; subst hp; exact absurd hp2.1 (by show ¬ cur ≤ y; omega)
      · rintro ⟨p, hp, hp2⟩
        exact ⟨p, by simp [hp], hp2⟩
    · rw [hc y (by omega) hy2, he]
      simp only [iff_true]
      exact ⟨(cur, nxt), by simp, by show cur ≤ y; omega, hy2⟩
theorem BInv.step {eq : Int → Bool} {f cur nxt : Int} {out : List (Int × Int)} (h : BInv eq f cur out) (h1 : cur ≤ nxt) (hf : f ≤ cur) (hc : ∀ y, cur ≤ y → y < nxt → eq y = eq cur) : BInv eq f nxt (stepB eq out cur nxt) := by
  unfold stepB
  split
  · next hs =>
    refine ⟨fun p hp => by have := h.proper p hp; omega, h.apart, fun y hy1 hy2 => ?_⟩
    by_cases hyc : y < cur
    · exact h.cover y hy1 hyc
    · have he : eq cur = true := hs.resolve_left (by omega)
      rw [hc y (by omega) hy2, he]
      simp only [Bool.true_eq_false, iff_false]
      rintro ⟨p, hp, hp2⟩
      have := h.proper p hp
      omega
  · next hs =>
    have hlt : cur < nxt := by
      have : cur ≠ nxt := fun e => hs (.inl e)
      omega
    have he : eq cur = false := by
      cases e : eq cur
      · rfl
      · exact absurd (.inr e) hs
    split
    · next p hp =>
      obtain ⟨init, rfl⟩ := List.getLast?_eq_some_iff.1 hp
      have hpp := h.proper p (by simp)
      have hap := List.pairwise_append.1 h.apart
      split
      · next e =>
        rw [List.dropLast_concat]
        refine ⟨fun q hq => ?_, ?_, fun y hy1 hy2 => ?_⟩
        · rcases List.mem_append.1 hq with hq | hq
          · have := h.proper q (by simp [hq]); omega
          · simp only [List.mem_singleton] at hq; subst hq; exact ⟨hpp.1, by show p.1 < nxt; omega, Int.le_refl _⟩
        · rw [List.pairwise_append]
          refine ⟨hap.1, by simp, fun a ha q hq => ?_⟩
          simp only [List.mem_singleton] at hq; subst hq
          exact hap.2.2 a ha p (by simp)
        · by_cases hyc : y < cur
          · rw [← h.cover y hy1 hyc]
            constructor
            · rintro ⟨q, hq, hq2⟩
              rcases List.mem_append.1 hq with hq | hq
              · exact ⟨q, by simp [hq], hq2⟩
              · simp only [List.mem_singleton] at hq; subst hq
                exact ⟨p, by simp, hq2.1, by omega⟩
            · rintro ⟨q, hq, hq2⟩
              rcases List.mem_append.1 hq with hq | hq
              · exact ⟨q, by simp [hq], hq2⟩
              · simp only [List.mem_singleton] at hq; subst hq
                exact ⟨(q.1, nxt), by simp, hq2.1, by show y < nxt; omega⟩
          · rw [hc y (by omega) hy2, he]
            simp only [iff_true]
            exact ⟨(p.1, nxt), by simp, by show p.1 ≤ y; omega, hy2⟩
      · next e =>
        refine h.more hlt hf he hc fun q hq => ?_
        rcases List.mem_append.1 hq with hq | hq
        · have := hap.2.2 q hq p (by simp)
          omega
        · simp only [List.mem_singleton] at hq; subst hq; omega
    · next hn =>
      rw [List.getLast?_eq_none_iff] at hn
      subst hn
      exact h.more hlt hf he hc (by simp)

end Go.Proofs.YtomahddiclkepaaGreatDoor
namespace Go.Proofs.YtomahddiclkepaaGreatDoor
open Go.RowKit
set_option linter.unusedVariables false
set_option linter.unusedSimpArgs false

set_option maxHeartbeats 4000000 in
theorem Search_any (g : Nat) (cb : Array Value) (n : Nat) (p : Nat → Bool) (w : World) (eg : ∀ args w, (callFunc g args).run Tryz.prog w = .ok (.enter g args) w) (hsz : n < 4611686018427387904)
    (hf : ∀ (W : World) (i : Nat), Below w.heap.size w W → i < n → Calls Tryz.prog g (#[.int .i64 i] ++ cb) W fun e w' => e = .returned (.bool (p i)) ∧ Below W.heap.size W w')
    (hmono : ∀ a b, a ≤ b → b < n → p a = true → p b = true) :
    Calls Tryz.prog 103 #[.int .i64 n, .func (.func g) #[] cb] w fun e w' => e = .returned (.int .i64 (cntF p n : Nat)) ∧ Below w.heap.size w w' := by
  have HF := Lib.hid hf
  have M := Lib.hid hmono
  clear hf hmono
  obtain ⟨cnt, hcnt⟩ : ∃ cnt, cntF p n = cnt := ⟨_, rfl⟩
  rw [hcnt]
  have CN := Lib.hid hcnt
  clear hcnt
  go_enter Tryz.func103, Tryz.ntmps103
  go_wp2
  go_loopg [5, 6] n (fun kx s5 s6 wr => ∃ (lo hi : Nat), s5 = .int .i64 lo ∧ s6 = .int .i64 hi ∧ lo ≤ hi ∧ hi ≤ n ∧ hi - lo ≤ kx ∧ Below w.heap.size w wr ∧
    Hid ((∀ t, t < lo → p t = false) ∧ (∀ t, hi ≤ t → t < n → p t = true)))
  case atStart => exact ⟨0, n, rfl, rfl, Nat.zero_le _, Nat.le_refl _, by omega, Below.refl _ _, (⟨fun t ht => absurd ht (Nat.not_lt_zero _), fun t h1 h2 => by omega⟩ : (∀ t, t < 0 → p t = false) ∧ (∀ t, n ≤ t → t < n → p t = true))⟩
  case round =>
    obtain ⟨lo, hi, rfl, rfl, hlh, hin, hg, hbel, I⟩ := hrel
    by_cases hlt : lo < hi
    · have hc := HF.out wr ((lo + hi) / 2) hbel (by omega)
      rw [show (((lo + hi) / 2 : Nat) : Int) = ((lo : Int) + (hi : Int)) / 2 by omega] at hc
      have HB := Lib.hid hbel
      clear hbel
      cases hp : p ((lo + hi) / 2) <;> rw [hp] at hc
      · have HP := Lib.hid hp
        clear hp
        go_wp2_with (go_at_fn g; refine hc.mono ?_; rintro e w' ⟨rfl, hb2⟩)
        go_roundg (hi - ((lo + hi) / 2 + 1))
        case measure => omega
        case rel =>
          have I2 : Hid ((∀ t, t < (lo + hi) / 2 + 1 → p t = false) ∧ (∀ t, hi ≤ t → t < n → p t = true)) := ⟨fun t ht => (by
            cases h : p t with
            | false => rfl
            | true => have := M.out t ((lo + hi) / 2) (by omega) (by omega) h; rw [HP.out] at this; cases this), I.out.2⟩
          exact ⟨(lo + hi) / 2 + 1, hi, by rw [show ((lo : Int) + (hi : Int)) / 2 + 1 = (((lo + hi) / 2 + 1 : Nat) : Int) by omega], rfl, by omega, hin, Nat.le_refl _, HB.out.trans (hb2.mono HB.out.size), I2⟩
      · have HP := Lib.hid hp
        clear hp
        go_wp2_with (go_at_fn g; refine hc.mono ?_; rintro e w' ⟨rfl, hb2⟩)
        go_roundg ((lo + hi) / 2 - lo)
        case measure => omega
        case rel =>
          have I2 : Hid ((∀ t, t < lo → p t = false) ∧ (∀ t, (lo + hi) / 2 ≤ t → t < n → p t = true)) := ⟨I.out.1, fun t ht htn => M.out ((lo + hi) / 2) t ht htn HP.out⟩
          exact ⟨lo, (lo + hi) / 2, rfl, by rw [show ((lo : Int) + (hi : Int)) / 2 = (((lo + hi) / 2 : Nat) : Int) by omega], by omega, by omega, Nat.le_refl _, HB.out.trans (hb2.mono HB.out.size), I2⟩
    · obtain rfl : hi = lo := by omega
      have ecnt : cnt = hi := by rw [← CN.out]; exact cntF_boundary p n hi hin I.out.1 I.out.2
      subst ecnt
      go_wp2
      go_ret
      exact ⟨rfl, hbel⟩

end Go.Proofs.YtomahddiclkepaaGreatDoor
namespace Go.Proofs.YtomahddiclkepaaGreatDoor
open Go.RowKit
set_option linter.unusedVariables false
set_option linter.unusedSimpArgs false

theorem TabAt.parts {w : World} {v : Value} {t : Tab} (h : TabAt w v t) : ∃ sv cv, v = .agg #[sv, .int .i64 t.first, cv] := by
  obtain ⟨sv, cv, hv, _, _⟩ := h.val
  exact ⟨sv, cv, hv⟩
end Go.Proofs.YtomahddiclkepaaGreatDoor
namespace Go.Proofs.YtomahddiclkepaaGreatDoor
open Go.RowKit Go.Shelf
set_option linter.unusedVariables false
set_option linter.unusedSimpArgs false

attribute [local go_sem] Oper.semAt_some

/-- what a round keeps: what lay below n₀, and each table's and each change's own box -/
structure KpT (n₀ : Nat) (W W' : World) : Prop where
  size : W.heap.size ≤ W'.heap.size
  low : ∀ k, k < n₀ → W'.heap[k]? = W.heap[k]?
  box : ∀ (k : Nat) (cs : Array Value) (T : TypeId), W.heap[k]? = some (Obj.cells cs T (0, 0)) → (T = 58 ∨ T = 61) → W'.heap[k]? = some (Obj.cells cs T (0, 0))
theorem KpT.trans {n₀ : Nat} {A C D : World} (h : KpT n₀ A C) (k : KpT n₀ C D) : KpT n₀ A D :=
  ⟨Nat.le_trans h.size k.size, fun i hi => (k.low i hi).trans (h.low i hi), fun i cs T h1 h2 => k.box i cs T (h.box i cs T h1 h2) h2⟩
theorem KpT.refl (n₀ : Nat) (W : World) : KpT n₀ W W := ⟨Nat.le_refl _, fun _ _ => rfl, fun _ _ _ h _ => h⟩
theorem KpT.cell {n₀ : Nat} {W W' : World} (h : KpT n₀ W W') {b o : Nat} (hb : b < n₀) : W'.cell? ⟨b, o, none⟩ = W.cell? ⟨b, o, none⟩ := World.cell?_of_block (w := W) (h.low b hb)
theorem KpT.of_below {n₀ : Nat} {W W' : World} (h : Below W.heap.size W W') (hn : n₀ ≤ W.heap.size) : KpT n₀ W W' :=
  ⟨h.size, fun k hk => h.block k (by omega), fun k cs T h1 _ => (h.block k (Array.getElem?_eq_some_iff.1 h1).1).trans h1⟩
end Go.Proofs.YtomahddiclkepaaGreatDoor
namespace Go.Proofs.YtomahddiclkepaaGreatDoor
open Go.RowKit Go.Shelf
set_option linter.unusedVariables false
set_option linter.unusedSimpArgs false

attribute [local go_sem] Oper.semAt_some

end Go.Proofs.YtomahddiclkepaaGreatDoor
namespace Go.Proofs.YtomahddiclkepaaGreatDoor
open Go.RowKit Go.Shelf
set_option linter.unusedVariables false
set_option linter.unusedSimpArgs false

attribute [local go_sem] Oper.semAt_some

theorem KpT.alloc {n₀ : Nat} (W : World) (hn : n₀ ≤ W.heap.size) (o : Obj) : KpT n₀ W (W.alloc o) := KpT.of_below ((Below.refl _ W).alloc (Nat.le_refl _) o) hn

end Go.Proofs.YtomahddiclkepaaGreatDoor
namespace Go.Proofs.YtomahddiclkepaaGreatDoor
open Go.RowKit Go.Joins
set_option linter.unusedVariables false
set_option linter.unusedSimpArgs false

set_option maxRecDepth 100000 in
set_option maxHeartbeats 1000000 in
theorem Span_pos (n : Int) (w : World) (h0 : 0 ≤ n) (h1 : n ≤ 604800) (ht : Tab10 w) :
    Calls Tryz.prog 72 #[.int .i64 n] w fun e w' => e = .returned (.tuple #[.string (txt (spanP n)), .int .i64 0]) ∧ Below w.heap.size w w' := by
  have HT := Lib.hid ht
  clear ht
  have ha : ¬ n < -604800 := by omega
  have hb : ¬ 604800 < n := by omega
  go_enter Tryz.func72, Tryz.ntmps72
  go_wp2_with fail
  refine (itoa_text _ _ (by omega) (by omega) HT.out).mono ?_
  have hA := itoa_len3 (n := n / 3600) (by omega) (by omega)
  rw [← txt_size] at hA
  obtain ⟨A, eA⟩ : ∃ A, txt (Lib.itoa (n / 3600)) = A := ⟨_, rfl⟩
  rw [eA] at hA ⊢
  have EA := Lib.hid eA
  clear eA
  rintro e w1 ⟨rfl, hb1⟩
  go_wp2_with fail
  refine (two_any _ _ (by omega) (by omega)).mono ?_
  obtain ⟨B, eB⟩ : ∃ B, txt (T2 (n / 60 % 60)) = B := ⟨_, rfl⟩
  rw [eB]
  have hB2 : B.size ≤ 2 := by rw [← eB, txt_size, T2_length]; omega
  have EB := Lib.hid eB
  clear eB
  rintro e w2 ⟨rfl, hb2⟩
  have b2 := hb1.trans (hb2.mono hb1.size)
  by_cases hz : n % 60 = 0
  · go_wp2_with fail
    go_ret2
    refine ⟨?_, b2⟩
    show Ending.returned (.tuple #[.string (txt [] ++ A ++ ⟨#[58]⟩ ++ B), .int .i64 0]) = _
    rw [← EA.out, ← EB.out, cat1, spanP, if_pos hz]
    rfl
  · go_wp2_with fail
    refine (two_any _ _ (by omega) (by omega)).mono ?_
    obtain ⟨C, eC⟩ : ∃ C, txt (T2 (n % 60)) = C := ⟨_, rfl⟩
    rw [eC]
    have hC2 : C.size ≤ 2 := by rw [← eC, txt_size, T2_length]; omega
    have EC := Lib.hid eC
    clear eC
    rintro e w3 ⟨rfl, hb3⟩
    go_wp2_with fail
    go_ret2
    refine ⟨?_, b2.trans (hb3.mono b2.size)⟩
    show Ending.returned (.tuple #[.string (txt [] ++ A ++ ⟨#[58]⟩ ++ B ++ (⟨#[58]⟩ ++ C)), .int .i64 0]) = _
    rw [← EA.out, ← EB.out, ← EC.out, cat2, spanP, if_neg hz]
    rfl
set_option maxRecDepth 100000 in
set_option maxHeartbeats 1000000 in
theorem Span_neg (n : Int) (w : World) (h0 : 0 < n) (h1 : n ≤ 604800) (ht : Tab10 w) :
    Calls Tryz.prog 72 #[.int .i64 (-n)] w fun e w' => e = .returned (.tuple #[.string (txt (45 :: spanP n)), .int .i64 0]) ∧ Below w.heap.size w w' := by
  have HT := Lib.hid ht
  clear ht
  have ha : ¬ -n < -604800 := by omega
  have hb : ¬ 604800 < -n := by omega
  go_enter Tryz.func72, Tryz.ntmps72
  go_wp2_with fail
  refine (itoa_text _ _ (by omega) (by omega) HT.out).mono ?_
  have hA := itoa_len3 (n := n / 3600) (by omega) (by omega)
  rw [← txt_size] at hA
  obtain ⟨A, eA⟩ : ∃ A, txt (Lib.itoa (n / 3600)) = A := ⟨_, rfl⟩
  rw [eA] at hA ⊢
  have EA := Lib.hid eA
  clear eA
  rintro e w1 ⟨rfl, hb1⟩
  go_wp2_with fail
  refine (two_any _ _ (by omega) (by omega)).mono ?_
  obtain ⟨B, eB⟩ : ∃ B, txt (T2 (n / 60 % 60)) = B := ⟨_, rfl⟩
  rw [eB]
  have hB2 : B.size ≤ 2 := by rw [← eB, txt_size, T2_length]; omega
  have EB := Lib.hid eB
  clear eB
  rintro e w2 ⟨rfl, hb2⟩
  have b2 := hb1.trans (hb2.mono hb1.size)
  by_cases hz : n % 60 = 0
  · go_wp2_with fail
    go_ret2
    refine ⟨?_, b2⟩
    show Ending.returned (.tuple #[.string (txt [45] ++ A ++ ⟨#[58]⟩ ++ B), .int .i64 0]) = _
    rw [← EA.out, ← EB.out, cat1, spanP, if_pos hz]
    rfl
  · go_wp2_with fail
    refine (two_any _ _ (by omega) (by omega)).mono ?_
    obtain ⟨C, eC⟩ : ∃ C, txt (T2 (n % 60)) = C := ⟨_, rfl⟩
    rw [eC]
    have hC2 : C.size ≤ 2 := by rw [← eC, txt_size, T2_length]; omega
    have EC := Lib.hid eC
    clear eC
    rintro e w3 ⟨rfl, hb3⟩
    go_wp2_with fail
    go_ret2
    refine ⟨?_, b2.trans (hb3.mono b2.size)⟩
    show Ending.returned (.tuple #[.string (txt [45] ++ A ++ ⟨#[58]⟩ ++ B ++ (⟨#[58]⟩ ++ C)), .int .i64 0]) = _
    rw [← EA.out, ← EB.out, ← EC.out, cat2, spanP, if_neg hz]
    rfl

theorem Span_ok (n : Int) (w : World) (h0 : -604800 ≤ n) (h1 : n ≤ 604800) (ht : Tab10 w) :
    Calls Tryz.prog 72 #[.int .i64 n] w fun e w' => e = .returned (.tuple #[.string (txt (spanT n)), .int .i64 0]) ∧ Below w.heap.size w w' := by
  unfold spanT
  by_cases h : n < 0
  · rw [if_pos h]
    have := Span_neg (-n) w (by omega) (by omega) ht
    rw [Int.neg_neg] at this
    exact this
  · rw [if_neg h]; exact Span_pos n w (by omega) h1 ht
end Go.Proofs.YtomahddiclkepaaGreatDoor
namespace Go.Proofs.YtomahddiclkepaaGreatDoor
open Go
set_option linter.unusedVariables false

theorem fold_ge (l : List UInt8) : ∀ acc : Nat, acc ≤ l.foldl (fun a c => 10 * a + (c.toNat - 48)) acc := by
  induction l with
  | nil => intro acc; exact Nat.le_refl _
  | cons c r ih =>
    intro acc
    simp only [List.foldl_cons]
    have := ih (10 * acc + (c.toNat - 48))
    omega
theorem parseU (l : List UInt8) (hd : ∀ c ∈ l, isDg c) : ∀ acc : Nat, l.foldl (fun a c => 10 * a + (c.toNat - 48)) acc < 1844674407370955162 →
    Lib.parseUint10 acc l = .ok (l.foldl (fun a c => 10 * a + (c.toNat - 48)) acc) := by
  induction l with
  | nil => intro acc _; rfl
  | cons c r ih =>
    intro acc h
    simp only [List.foldl_cons] at h ⊢
    have hc := hd c (by simp)
    have hge := fold_ge r (10 * acc + (c.toNat - 48))
    unfold isDg at hc
    rw [Lib.parseUint10, if_pos hc, if_neg (by omega), if_neg (by omega), show acc * 10 + (c.toNat - 48) = 10 * acc + (c.toNat - 48) by omega]
    exact ih (fun x hx => hd x (by simp [hx])) _ h
/-- the number of strconv.Atoi, whatever the text -/
def atoiV (l : List UInt8) : Int :=
  match Lib.atoiAll l with
  | .ok v => v
  | .range => Lib.atoiSat l
  | _ => 0
theorem atoi_dg {l : List UInt8} (hn : l ≠ []) (hd : ∀ c ∈ l, isDg c) (h : numV l < 1844674407370955162) : Lib.atoiAll l = .ok (numV l : Int) := by
  match l, hn with
  | c :: r, _ =>
    have hc := hd c (by simp)
    unfold isDg at hc
    rw [Lib.atoiAll_plain c r (by omega) (by omega), Lib.parseMag, if_neg (by simp), parseU _ hd 0 h]
    have : numV (c :: r) < 1844674407370955162 := h
    unfold Lib.signless
    exact if_neg (by unfold numV at this; omega)
theorem atoiV_dg {l : List UInt8} (hn : l ≠ []) (hd : ∀ c ∈ l, isDg c) (h : numV l < 1844674407370955162) : atoiV l = numV l := by
  unfold atoiV
  rw [atoi_dg hn hd h]
theorem atoiV_itoa {n : Int} (h0 : 0 ≤ n) (h1 : n < 1844674407370955162) : atoiV (Lib.itoa n) = n := by
  have e : numV (Lib.itoa n) = n.toNat := by rw [itoa_nn h0, numV_dec]
  rw [atoiV_dg (itoa_ne h0) (itoa_dg h0) (by omega), e]
  omega
theorem numV_T2 {n : Int} (h0 : 0 ≤ n) (h1 : n < 100) : numV (T2 n) = n.toNat := by
  simp only [numV, T2, List.foldl_cons, List.foldl_nil, UInt8.toNat_ofNat']
  omega
theorem atoiV_T2 {n : Int} (h0 : 0 ≤ n) (h1 : n < 100) : atoiV (T2 n) = n := by
  rw [atoiV_dg (by simp [T2]) (T2_dg h0 h1) (by rw [numV_T2 h0 h1]; omega), numV_T2 h0 h1]
  omega
theorem atoiV_bd (l : List UInt8) : -9223372036854775808 ≤ atoiV l ∧ atoiV l ≤ 9223372036854775807 := by
  unfold atoiV
  split
  · next v h => exact Lib.atoiAll_bounds h
  · unfold Lib.atoiSat; split <;> omega
  · omega

/-- what is no digit -/
def sepP (x : Nat) : Bool := decide (x < 48) || decide (57 < x)
def joinG : List (List UInt8 × UInt8) → List UInt8 → List UInt8
  | [], l => l
  | (g, c) :: r, l => g ++ c :: joinG r l
def spG (pos : Nat) : List (List UInt8 × UInt8) → List UInt8 → List (Nat × Nat)
  | [], l => [(pos, pos + l.length)]
  | (g, c) :: r, l => (pos, pos + g.length) :: spG (pos + g.length + 1) r l

theorem txt_get (l : List UInt8) (i : Nat) (h : i < (txt l).size) : (txt l)[i]'h = l[i]'(by rw [txt_size] at h; exact h) := rfl
theorem dec_txt (pre post : List UInt8) (c : UInt8) (h : c.toNat < 128) : Utf8.decode (txt (pre ++ c :: post)) pre.length = (c.toNat, 1) := by
  have hl : pre.length < (txt (pre ++ c :: post)).size := by rw [txt_size]; simp
  have e : (txt (pre ++ c :: post))[pre.length]'hl = c := by
    rw [txt_get]
    simp
  rw [decode_ascii _ _ hl (by rw [e]; exact h), e]
theorem sepP_dg {c : UInt8} (h : isDg c) : sepP c.toNat = false := by
  unfold isDg at h
  unfold sepP
  simp; omega
theorem dg_lt {c : UInt8} (h : isDg c) : c.toNat < 128 := by unfold isDg at h; omega

/-- digits behind a digit -/
theorem run_some (g : List UInt8) : ∀ (pre post : List UInt8) (f a : Nat) (acc : List (Nat × Nat)), (∀ c ∈ g, isDg c) →
    Lib.spansFromP sepP (txt (pre ++ (g ++ post))) (f + g.length) pre.length (some a) acc = Lib.spansFromP sepP (txt (pre ++ (g ++ post))) f (pre.length + g.length) (some a) acc := by
  induction g with
  | nil => intro pre post f a acc _; rfl
  | cons c r ih =>
    intro pre post f a acc hd
    have hc := hd c (by simp)
    have hlt : pre.length < (txt (pre ++ (c :: r ++ post))).size := by rw [txt_size]; simp
    have e := dec_txt pre (r ++ post) c (dg_lt hc)
    show Lib.spansFromP sepP _ ((f + r.length) + 1) _ _ _ = _
    rw [Lib.spansFromP, if_pos hlt]
    rw [show pre ++ (c :: r ++ post) = pre ++ c :: (r ++ post) by simp, e]
    simp only [sepP_dg hc]
    have := ih (pre ++ [c]) post f a acc (fun x hx => hd x (by simp [hx]))
    simp only [List.append_assoc, List.cons_append, List.nil_append, List.length_append, List.length_cons, List.length_nil] at this ⊢
    rw [if_neg (by simp), this]
    congr 1
    omega
/-- a group of digits at its first place -/
theorem run_none (g : List UInt8) (hg : g ≠ []) (pre post : List UInt8) (f : Nat) (acc : List (Nat × Nat)) (hd : ∀ c ∈ g, isDg c) :
    Lib.spansFromP sepP (txt (pre ++ (g ++ post))) (f + g.length) pre.length none acc = Lib.spansFromP sepP (txt (pre ++ (g ++ post))) f (pre.length + g.length) (some pre.length) acc := by
  match g, hg with
  | c :: r, _ =>
    have hc := hd c (by simp)
    have hlt : pre.length < (txt (pre ++ (c :: r ++ post))).size := by rw [txt_size]; simp
    have e := dec_txt pre (r ++ post) c (dg_lt hc)
    show Lib.spansFromP sepP _ ((f + r.length) + 1) _ _ _ = _
    rw [Lib.spansFromP, if_pos hlt]
    rw [show pre ++ (c :: r ++ post) = pre ++ c :: (r ++ post) by simp, e]
    simp only [sepP_dg hc]
    have := run_some r (pre ++ [c]) post f pre.length acc (fun x hx => hd x (by simp [hx]))
    simp only [List.append_assoc, List.cons_append, List.nil_append, List.length_append, List.length_cons, List.length_nil] at this ⊢
    rw [if_neg (by simp), this]
    congr 1
    omega
theorem run_sep (c : UInt8) (hc : c.toNat < 128) (hs : sepP c.toNat = true) (pre post : List UInt8) (f a : Nat) (acc : List (Nat × Nat)) :
    Lib.spansFromP sepP (txt (pre ++ c :: post)) (f + 1) pre.length (some a) acc = Lib.spansFromP sepP (txt (pre ++ c :: post)) f (pre.length + 1) none (acc ++ [(a, pre.length)]) := by
  have hlt : pre.length < (txt (pre ++ c :: post)).size := by rw [txt_size]; simp
  rw [Lib.spansFromP, if_pos hlt, dec_txt pre post c hc]
  simp only [hs, if_true]

def okG (r : List (List UInt8 × UInt8)) : Prop := ∀ x ∈ r, x.1 ≠ [] ∧ (∀ c ∈ x.1, isDg c) ∧ x.2.toNat < 128 ∧ sepP x.2.toNat = true
theorem groups (last : List UInt8) (hl : last ≠ []) (hd : ∀ c ∈ last, isDg c) : ∀ (r : List (List UInt8 × UInt8)) (pre : List UInt8) (acc : List (Nat × Nat)), okG r →
    Lib.closeSpans (txt (pre ++ joinG r last)) (Lib.spansFromP sepP (txt (pre ++ joinG r last)) (joinG r last).length pre.length none acc) = acc ++ spG pre.length r last := by
  intro r
  induction r with
  | nil =>
    intro pre acc _
    have := run_none last hl pre [] 0 acc hd
    simp only [List.append_nil, Nat.zero_add] at this
    simp only [joinG, spG]
    rw [this]
    simp [Lib.spansFromP, Lib.closeSpans, txt_size]
  | cons x r ih =>
    intro pre acc hok
    obtain ⟨g, c⟩ := x
    obtain ⟨h1, h2, h3, h4⟩ := hok (g, c) (by simp)
    simp only [joinG, spG]
    have e1 := run_none g h1 pre (c :: joinG r last) ((joinG r last).length + 1) acc h2
    rw [show (g ++ c :: joinG r last).length = (joinG r last).length + 1 + g.length by simp; omega, e1]
    have e2 := run_sep c h3 h4 (pre ++ g) (joinG r last) (joinG r last).length pre.length acc
    simp only [List.append_assoc, List.length_append] at e2
    rw [e2]
    have e3 := ih (pre ++ g ++ [c]) (acc ++ [(pre.length, pre.length + g.length)]) (fun y hy => hok y (by simp [hy]))
    simp only [List.append_assoc, List.length_append, List.cons_append, List.nil_append, List.length_cons, List.length_nil] at e3
    rw [show pre.length + (g.length + (0 + 1)) = pre.length + g.length + 1 by omega] at e3
    rw [e3]
theorem ext_mid (pre g post : List UInt8) : (txt (pre ++ (g ++ post))).extract pre.length (pre.length + g.length) = txt g := by
  apply ByteArray.ext
  apply Array.ext'
  rw [Lib.extract_data, txt_data, txt_data]
  simp
theorem groups_ext (last : List UInt8) : ∀ (r : List (List UInt8 × UInt8)) (pre : List UInt8),
    (spG pre.length r last).map (fun x => (txt (pre ++ joinG r last)).extract x.1 x.2) = r.map (fun x => txt x.1) ++ [txt last] := by
  intro r
  induction r with
  | nil =>
    intro pre
    have := ext_mid pre last []
    simp only [List.append_nil] at this
    simp [spG, joinG, this]
  | cons x r ih =>
    intro pre
    obtain ⟨g, c⟩ := x
    simp only [spG, joinG, List.map_cons, List.cons_append, List.cons.injEq]
    refine ⟨ext_mid pre g (c :: joinG r last), ?_⟩
    have := ih (pre ++ g ++ [c])
    simp only [List.append_assoc, List.length_append, List.cons_append, List.nil_append, List.length_cons, List.length_nil] at this
    rw [show pre.length + (g.length + (0 + 1)) = pre.length + g.length + 1 by omega] at this
    exact this
/-- a text of groups of digits -/
theorem fields_groups (r : List (List UInt8 × UInt8)) (last : List UInt8) (hok : okG r) (hl : last ≠ []) (hd : ∀ c ∈ last, isDg c) :
    Lib.goFieldsP sepP (txt (joinG r last)) = r.map (fun x => txt x.1) ++ [txt last] := by
  unfold Lib.goFieldsP Lib.spansOfP
  have h1 := groups last hl hd r [] [] hok
  have h2 := groups_ext last r []
  simp only [List.nil_append, List.length_nil] at h1 h2
  rw [txt_size, h1, h2]

/-- the pieces of a time's text -/
theorem fields_stamp (t : Int) (h1 : -135140 ≤ t / 86400) (h2 : t / 86400 ≤ 157053) :
    Lib.goFieldsP sepP (txt (stampT t)) = [txt (Lib.itoa (Civ.yy (t / 86400))), txt (T2 (Civ.mm (t / 86400))), txt (T2 (Civ.dd (t / 86400))), txt (T2 (t % 86400 / 3600)), txt (T2 (t % 86400 / 60 % 60)), txt (T2 (t % 86400 % 60))] := by
  obtain ⟨hv, -⟩ := Civ.date_valid (t / 86400) h1 h2
  have hb := Civ.mlen_bd (Civ.yy (t / 86400)) (Civ.mm (t / 86400)) hv.2.2.1 hv.2.2.2.1
  obtain ⟨v1, v2, v3, v4, v5, v6⟩ := hv
  have key := fields_groups [(Lib.itoa (Civ.yy (t / 86400)), 45), (T2 (Civ.mm (t / 86400)), 45), (T2 (Civ.dd (t / 86400)), 84), (T2 (t % 86400 / 3600), 58), (T2 (t % 86400 / 60 % 60), 58)] (T2 (t % 86400 % 60))
    (by
      have d2 : ∀ n : Int, 0 ≤ n → n < 100 → T2 n ≠ [] ∧ ∀ c ∈ T2 n, isDg c := fun n a b => ⟨by simp [T2], T2_dg a b⟩
      intro x hx
      simp only [List.mem_cons, List.not_mem_nil, or_false] at hx
      rcases hx with rfl | rfl | rfl | rfl | rfl
      · exact ⟨itoa_ne (by omega), itoa_dg (by omega), by show (45 : UInt8).toNat < 128; decide, by show sepP (45 : UInt8).toNat = true; decide⟩
      · exact ⟨(d2 _ (by omega) (by omega)).1, (d2 _ (by omega) (by omega)).2, by show (45 : UInt8).toNat < 128; decide, by show sepP (45 : UInt8).toNat = true; decide⟩
      · exact ⟨(d2 _ (by omega) (by omega)).1, (d2 _ (by omega) (by omega)).2, by show (84 : UInt8).toNat < 128; decide, by show sepP (84 : UInt8).toNat = true; decide⟩
      · exact ⟨(d2 _ (by omega) (by omega)).1, (d2 _ (by omega) (by omega)).2, by show (58 : UInt8).toNat < 128; decide, by show sepP (58 : UInt8).toNat = true; decide⟩
      · exact ⟨(d2 _ (by omega) (by omega)).1, (d2 _ (by omega) (by omega)).2, by show (58 : UInt8).toNat < 128; decide, by show sepP (58 : UInt8).toNat = true; decide⟩)
    (by simp [T2]) (T2_dg (by omega) (by omega))
  have e : joinG [(Lib.itoa (Civ.yy (t / 86400)), 45), (T2 (Civ.mm (t / 86400)), 45), (T2 (Civ.dd (t / 86400)), 84), (T2 (t % 86400 / 3600), 58), (T2 (t % 86400 / 60 % 60), 58)] (T2 (t % 86400 % 60)) = stampT t := by
    unfold stampT
    simp [joinG]
  rw [e] at key
  rw [key]
  rfl
end Go.Proofs.YtomahddiclkepaaGreatDoor
namespace Go.Proofs.YtomahddiclkepaaGreatDoor
open Go.RowKit Go.Joins
set_option linter.unusedVariables false

/-- a variable of an interface type holds something -/
def IfaceV (w : World) (g : Nat) : Prop := ∃ ev, w.cell? ⟨g, 0, none⟩ = some ev ∧ (ev = .nilIface ∨ ∃ te pe, ev = .iface te pe)
theorem IfaceV.below {w w' : World} {g : Nat} (h : IfaceV w g) (hb : Below w.heap.size w w') : IfaceV w' g := by
  obtain ⟨ev, h1, h2⟩ := h
  exact ⟨ev, (hb.cell (show (⟨g, 0, none⟩ : Addr).block < w.heap.size from Lib.lt_of_cell h1)).trans h1, h2⟩
/-- strconv's two errors lie there -/
def NumErrs (w : World) : Prop := IfaceV w 6 ∧ IfaceV w 7
theorem NumErrs.below {w w' : World} (h : NumErrs w) (hb : Below w.heap.size w w') : NumErrs w' := ⟨h.1.below hb, h.2.below hb⟩

section
variable {P : Program} {ρ : Go.Shelf.Ren}
theorem atoi_bad1 (L : LaysC.n172 P ρ) (s : ByteArray) (hlim : s.size ≤ 281474976710656) (ev : Value) (w : World) (hv : w.cell? ⟨(ρ.g 15), 0, none⟩ = some ev) (hev : ev = .nilIface ∨ ∃ te pe, ev = .iface te pe)
    (h1 : ∀ v, Lib.atoiAll s.data.toList ≠ .ok v) (h2 : Lib.atoiAll s.data.toList ≠ .range) :
    Calls P (ρ.f 172) #[.string s] w fun e w' => ∃ t p, e = .returned (.tuple #[.int .i64 0, .iface t p]) ∧ Below w.heap.size w w' := by
  rcases h : Lib.atoiAll s.data.toList with v | _ | _
  · exact absurd h (h1 v)
  · exact (Any.strconv_Atoi_syntax L s hlim h ev w hv hev).mono fun e w' ⟨N, he, _, _, hb⟩ => ⟨_, _, he, hb⟩
  · exact absurd h h2
theorem atoi_bad2 (L : LaysC.n172 P ρ) (s : ByteArray) (hlim : s.size ≤ 281474976710656) (ev : Value) (w : World) (hv : w.cell? ⟨(ρ.g 16), 0, none⟩ = some ev) (hev : ev = .nilIface ∨ ∃ te pe, ev = .iface te pe)
    (h : Lib.atoiAll s.data.toList = .range) :
    Calls P (ρ.f 172) #[.string s] w fun e w' => ∃ t p, e = .returned (.tuple #[.int .i64 (Lib.atoiSat s.data.toList), .iface t p]) ∧ Below w.heap.size w w' :=
  (Any.strconv_Atoi_range L s hlim h ev w hv hev).mono fun e w' ⟨N, he, _, _, hb⟩ => ⟨_, _, he, hb⟩
end
theorem Atoi_bad1 (s : ByteArray) (hlim : s.size ≤ 281474976710656) (ev : Value) (w : World) (hv : w.cell? ⟨6, 0, none⟩ = some ev) (hev : ev = .nilIface ∨ ∃ te pe, ev = .iface te pe)
    (h1 : ∀ v, Lib.atoiAll s.data.toList ≠ .ok v) (h2 : Lib.atoiAll s.data.toList ≠ .range) :
    Calls Tryz.prog 137 #[.string s] w fun e w' => ∃ t p, e = .returned (.tuple #[.int .i64 0, .iface t p]) ∧ Below w.heap.size w w' :=
  atoi_bad1 Tryz.laysC172 s hlim ev w hv hev h1 h2
theorem Atoi_bad2 (s : ByteArray) (hlim : s.size ≤ 281474976710656) (ev : Value) (w : World) (hv : w.cell? ⟨7, 0, none⟩ = some ev) (hev : ev = .nilIface ∨ ∃ te pe, ev = .iface te pe)
    (h : Lib.atoiAll s.data.toList = .range) :
    Calls Tryz.prog 137 #[.string s] w fun e w' => ∃ t p, e = .returned (.tuple #[.int .i64 (Lib.atoiSat s.data.toList), .iface t p]) ∧ Below w.heap.size w w' :=
  atoi_bad2 Tryz.laysC172 s hlim ev w hv hev h

theorem Atoi_any (l : List UInt8) (w : World) (hl : l.length ≤ 281474976710656) (hv : NumErrs w) :
    Calls Tryz.prog 137 #[.string (txt l)] w fun e w' => ∃ ev, e = .returned (.tuple #[.int .i64 (atoiV l), ev]) ∧ Below w.heap.size w w' ∧
      ((∃ v, Lib.atoiAll l = .ok v ∧ ev = .nilIface) ∨ ((∀ v, Lib.atoiAll l ≠ .ok v) ∧ ∃ t p, ev = .iface t p)) := by
  obtain ⟨⟨v1, c1, k1⟩, ⟨v2, c2, k2⟩⟩ := hv
  have hs : (txt l).size = l.length := txt_size l
  unfold atoiV
  rcases h : Lib.atoiAll l with v | _ | _
  · refine (Tryz.strconv_Atoi_ok (txt l) (by omega) v (by rw [txt_data]; exact h) w).mono ?_
    rintro e w' ⟨rfl, hw⟩
    refine ⟨_, rfl, ?_, .inl ⟨v, rfl, rfl⟩⟩
    rcases hw with rfl | ⟨t, rfl⟩
    · exact Below.refl _ _
    · exact below_bytesWorld _ _ _ _ (Nat.le_refl _)
  · refine (Atoi_bad1 (txt l) (by omega) v1 w c1 k1 (by rw [txt_data, h]; intro v hv; cases hv) (by rw [txt_data, h]; intro hv; cases hv)).mono ?_
    rintro e w' ⟨t, p, rfl, hb⟩
    exact ⟨_, rfl, hb, .inr ⟨(fun v hv => by cases hv), _, _, rfl⟩⟩
  · refine (Atoi_bad2 (txt l) (by omega) v2 w c2 k2 (by rw [txt_data]; exact h)).mono ?_
    rintro e w' ⟨t, p, rfl, hb⟩
    rw [txt_data]
    exact ⟨_, rfl, hb, .inr ⟨(fun v hv => by cases hv), _, _, rfl⟩⟩
end Go.Proofs.YtomahddiclkepaaGreatDoor
namespace Go.Proofs.YtomahddiclkepaaGreatDoor
open Go
set_option linter.unusedVariables false

def consHd (x : UInt8) : List (List UInt8) → List (List UInt8)
  | [] => [[x]]
  | h :: t => (x :: h) :: t
def splitC (c : UInt8) : List UInt8 → List (List UInt8)
  | [] => [[]]
  | x :: r => if x = c then [] :: splitC c r else consHd x (splitC c r)
theorem splitC_ne (c : UInt8) (l : List UInt8) : splitC c l ≠ [] := by
  cases l with
  | nil => simp [splitC]
  | cons x r =>
    simp only [splitC]
    split
    · simp
    · cases splitC c r <;> simp [consHd]
theorem consHd_length (x : UInt8) {l : List (List UInt8)} (h : l ≠ []) : (consHd x l).length = l.length := by
  cases l with
  | nil => exact absurd rfl h
  | cons a t => rfl
theorem splitC_length (c : UInt8) (l : List UInt8) : (splitC c l).length = l.count c + 1 := by
  induction l with
  | nil => rfl
  | cons x r ih =>
    simp only [splitC]
    split
    · next h => subst h; simp [ih]
    · next h => rw [consHd_length x (splitC_ne c r), ih, List.count_cons_of_ne (by simpa using h)]

theorem split_one (c : UInt8) (l : List UInt8) : Lib.split l [c] = splitC c l := by
  induction l with
  | nil => rfl
  | cons x r ih =>
    unfold Lib.split at ih ⊢
    by_cases h : x = c
    · subst h
      rw [Lib.count_cons_eq, show 1 + Lib.count r [x] = Lib.count r [x] + 1 by omega]
      have hi : Lib.index (x :: r) [x] = 0 := by simp [Lib.index]
      simp only [Lib.splitK, hi, splitC, if_true]
      rw [← ih]
      simp
    · rw [Lib.count_cons_ne x c r h]
      simp only [splitC, if_neg h]
      rw [← ih]
      cases hk : Lib.count r [c] with
      | zero => rfl
      | succ k =>
        have hp : [c].isPrefixOf (x :: r) = false := by
          simp only [List.isPrefixOf_cons_cons, Bool.and_eq_false_iff]
          left
          simpa using fun e => h e.symm
        have hir : Lib.index r [c] ≠ -1 := fun e => by rw [Lib.count_miss e] at hk; omega
        have hge := Lib.index_ge r [c]
        have hi : Lib.index (x :: r) [c] = Lib.index r [c] + 1 := by
          rw [Lib.index, hp, if_neg (by simp), if_neg (by simpa using hir)]
        have e1 : (Lib.index r [c] == -1) = false := by simpa using hir
        have e2 : (Lib.index r [c] + 1 == -1) = false := by simp; omega
        simp only [Lib.splitK, hi, e1, e2, consHd]
        rw [show (Lib.index r [c] + 1).toNat = (Lib.index r [c]).toNat + 1 by omega]
        simp
theorem splitB_one (c : UInt8) (l : List UInt8) : Lib.splitB (txt [c]) 0 (Lib.countB (txt l) (txt [c])) (txt l) = (splitC c l).map txt := by
  have h := Lib.splitB_data (txt [c]) 0 (Lib.countB (txt l) (txt [c])) (txt l)
  have hc : Lib.countB (txt l) (txt [c]) = Lib.count l [c] := by unfold Lib.countB; rw [txt_data, txt_data]
  rw [txt_data, txt_data, hc] at h
  have hs : Lib.splitK [c] 0 (Lib.count l [c]) l = splitC c l := split_one c l
  rw [hs] at h
  rw [hc, ← h, List.map_map]
  have : (txt ∘ fun x : ByteArray => x.data.toList) = id := by funext x; rfl
  rw [this, List.map_id]
/-- a piece without the letter, then the letter -/
theorem splitC_head (c : UInt8) (g r : List UInt8) (h : ∀ x ∈ g, x ≠ c) : splitC c (g ++ c :: r) = g :: splitC c r := by
  induction g with
  | nil => simp [splitC]
  | cons x g ih =>
    have hx := h x (by simp)
    simp only [List.cons_append, splitC, if_neg hx]
    rw [ih (fun y hy => h y (by simp [hy]))]
    rfl
theorem splitC_last (c : UInt8) (g : List UInt8) (h : ∀ x ∈ g, x ≠ c) : splitC c g = [g] := by
  induction g with
  | nil => rfl
  | cons x g ih =>
    have hx := h x (by simp)
    simp only [splitC, if_neg hx]
    rw [ih (fun y hy => h y (by simp [hy]))]
    rfl
theorem splitC_small (c : UInt8) (l : List UInt8) : ∀ x ∈ splitC c l, x.length ≤ l.length := by
  induction l with
  | nil => intro x hx; simp [splitC] at hx; subst hx; simp
  | cons y r ih =>
    intro x hx
    simp only [splitC] at hx
    split at hx
    · rcases List.mem_cons.1 hx with rfl | hx
      · simp
      · have := ih x hx; simp; omega
    · cases hs : splitC c r with
      | nil => exact absurd hs (splitC_ne c r)
      | cons a t =>
        rw [hs] at hx ih
        rcases List.mem_cons.1 hx with rfl | hx
        · have := ih a (by simp); simp; omega
        · have := ih x (by simp [hx]); simp; omega
end Go.Proofs.YtomahddiclkepaaGreatDoor
