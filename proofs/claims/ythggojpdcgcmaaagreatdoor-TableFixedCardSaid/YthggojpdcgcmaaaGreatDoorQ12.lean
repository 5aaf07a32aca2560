/- What a table says at a time, by its changes: plain. The laws of tables that are made, in plain words. Laws of two tables of one zone: parts of a span, spans that meet; a table and the state: plain. table.Make: its error answer; what it returns. table.Make: what the maker has left to do; eras with turns in memory, in use. A loop's body out of a function's code. table.Make: behind the maker's begin. -/
import Derived.Test.YthggojpdcgcmaaaGreatDoorQ10
import Derived.Test.YthggojpdcgcmaaaGreatDoorQ08
import Derived.Test.YthggojpdcgcmaaaGreatDoorQ11
import Derived.Test.YthggojpdcgcmaaaGreatDoorProg
namespace Go.Proofs.YthggojpdcgcmaaaGreatDoor
open Classical
set_option linter.unusedVariables false
set_option linter.unusedSimpArgs false

theorem bnd_exV (p : Nat → Bool) : ∀ (n : Nat), (∀ a b, a ≤ b → b < n → p a = true → p b = true) → ∃ h, h ≤ n ∧ (∀ t, t < h → p t = false) ∧ (∀ t, h ≤ t → t < n → p t = true)
  | 0, _ => ⟨0, Nat.le_refl _, fun t h => absurd h (Nat.not_lt_zero _), fun t _ h => absurd h (Nat.not_lt_zero _)⟩
  | n + 1, hm => by
    obtain ⟨h, h1, h2, h3⟩ := bnd_exV p n fun a b hab hb => hm a b hab (by omega)
    by_cases e : p n = true
    · exact ⟨h, by omega, h2, fun t ht htn => by
        by_cases ht2 : t = n
        · rw [ht2]; exact e
        · exact h3 t ht (by omega)⟩
    · refine ⟨n + 1, Nat.le_refl _, fun t ht => ?_, fun t h4 h5 => by omega⟩
      cases ep : p t with
      | false => rfl
      | true => exact absurd (hm t n (by omega) (by omega) ep) e
theorem cntOf_specV (t : Tab) (ok : OkTab t) (y : Int) : cntOf t.chs y ≤ t.chs.length ∧ (∀ i, i < cntOf t.chs y → tAt t.chs i ≤ y) ∧ (∀ i, cntOf t.chs y ≤ i → i < t.chs.length → y < tAt t.chs i) := by
  obtain ⟨h, h1, h2, h3⟩ := bnd_exV (fun i => decide (y < tAt t.chs i)) t.chs.length (fun a b hab hb hp => by
    have := tAt_mono t.chs ok.rise a b hab hb
    simp only [decide_eq_true_eq] at hp ⊢
    omega)
  have e : cntOf t.chs y = h := cntF_boundary _ _ _ h1 h2 h3
  rw [e]
  exact ⟨h1, fun i hi => by simpa using h2 i hi, fun i hi hl => by simpa using h3 i hi hl⟩
theorem valL_app (x : Ty) (a b : List (Int × Ty)) (y : Int) : valL x (a ++ b) y = valL (valL x a y) b y := by unfold valL; rw [List.foldl_append]
theorem valL_takeV (m : List Ch) (T : List Ty) (y : Int) (f : Int) : ∀ n, n ≤ m.length → (∀ i, i < n → tAt m i ≤ y) → valL (tyD T f) ((m.take n).map fun c => (c.t, tyD T c.k)) y = tyD T (if n = 0 then f else kAt m (n - 1)) := by
  intro n
  cases n with
  | zero => intro _ _; simp [valL]
  | succ n =>
    intro hn h
    have hlt : n < m.length := by omega
    rw [List.take_succ_eq_append_getElem hlt, List.map_append, valL_app]
    have := h n (by omega)
    have e : tAt m n = m[n].t := by simp [tAt, hlt]
    rw [e] at this
    simp only [List.map_cons, List.map_nil, valL, List.foldl_cons, List.foldl_nil, if_pos this]
    simp [kAt, hlt]
theorem tyOf_valV (t : Tab) (ok : OkTab t) (y : Int) : tyOf t y = valL (resH t) (resL t) y := by
  obtain ⟨c1, c2, c3⟩ := cntOf_specV t ok y
  have e1 := valL_takeV t.chs t.types y t.first (cntOf t.chs y) c1 c2
  have e2 : resL t = (t.chs.take (cntOf t.chs y)).map (fun c => (c.t, tyD t.types c.k)) ++ (t.chs.drop (cntOf t.chs y)).map (fun c => (c.t, tyD t.types c.k)) := by
    rw [← List.map_append, List.take_append_drop]; rfl
  rw [e2, valL_app]
  unfold resH
  rw [e1, valL_late]
  · rfl
  intro c hc
  obtain ⟨d, hd, rfl⟩ := List.mem_map.1 hc
  obtain ⟨i, hi, rfl⟩ := List.getElem_of_mem hd
  rw [List.getElem_drop]
  have hlt : cntOf t.chs y + i < t.chs.length := by rw [List.length_drop] at hi; omega
  have := c3 (cntOf t.chs y + i) (by omega) hlt
  have e : tAt t.chs (cntOf t.chs y + i) = t.chs[cntOf t.chs y + i].t := by simp [tAt, hlt]
  rw [e] at this
  exact this
end Go.Proofs.YthggojpdcgcmaaaGreatDoor
namespace Go.Proofs.YthggojpdcgcmaaaGreatDoor
open Go.RowKit Go.Joins Go.Maps
open Classical
set_option linter.unusedVariables false
set_option linter.unusedSimpArgs false

section
variable {rules : List Ru} {l : List Er} {fr te : Int}
/-- a type that it is at a time may be in a table -/
theorem stF_ok (h : TdsOk rules l) (y : Int) : -75600 ≤ (stF rules l y).off ∧ (stF rules l y).off ≤ 75600 ∧ abbrB (stF rules l y).name = true := by
  have hp : 0 < l.length := List.length_pos_iff.2 h.o.ne
  have hw := (which_spec h.o y).1
  have hk : whichF l y < l.length := by omega
  have ho := h.o.ok _ (List.getElem_mem hk)
  rw [← eraAt_in l _ hk] at ho
  obtain ⟨s1, s2, s3, -⟩ := sv_ok ho y
  have e : (tdR rules (eraAt l (whichF l y))).er = eraAt l (whichF l y) := tdR_er _ _
  have o1 := ho.o1
  have o2 := ho.o2
  unfold stF tdTy tdA nmT
  dsimp only
  rw [e]
  refine ⟨by omega, by omega, abbrF_abbr s1⟩
theorem stampE_mid {a b y : Int} (ha : stampE a = 0) (hb : stampE b = 0) (h1 : a ≤ y) (h2 : y ≤ b) : stampE y = 0 := by
  unfold stampE at *
  split at ha
  · rename_i g1
    split at hb
    · rename_i g2
      rw [if_pos (by omega)]
    · cases hb
  · cases ha
/-- a table that was made -/
structure Made (rules : List Ru) (l : List Er) (fr te : Int) (t : Tab) : Prop where
  d : TdsOk rules l
  s1 : stampE fr = 0
  s2 : stampE te = 0
  lt : fr < te
  er : firstE (tdE rules) l = 0
  ok : OkTab t
  eq : t = normR (stF rules l fr) (candsF rules l fr te)
theorem stampE_bd {y : Int} (h : stampE y = 0) : -1099511627776 ≤ y ∧ y ≤ 1099511627776 := by
  unfold stampE at h
  split at h
  · omega
  · cases h
theorem mkE_ok (ho : ErasOk rules l) {t : Tab} (h : mkE rules l fr te = (0, t)) : Made rules l fr te t := by
  unfold mkE at h
  split at h
  · rename_i h1; injection h with h _; exact absurd h h1
  rename_i h1
  split at h
  · rename_i h2; injection h with h _; exact absurd h h2
  rename_i h2
  split at h
  · cases h
  rename_i h3
  split at h
  · rename_i h4; injection h with h _; exact absurd h h4
  rename_i h4
  split at h
  · cases h
  rename_i h5
  injection h with _ h
  have hd := tdsOk_of ho (Classical.not_not.1 h4)
  have hc := cands_spec hd fr te
  have b1 := stampE_bd (Classical.not_not.1 h1)
  have b2 := stampE_bd (Classical.not_not.1 h2)
  refine ⟨hd, Classical.not_not.1 h1, Classical.not_not.1 h2, by omega, Classical.not_not.1 h4, ?_, h.symm⟩
  rw [← h]
  refine normR_ok hc.1 (fun y hy => ?_) (fun c hm => ?_) (by omega) (by omega)
  · rcases hy with rfl | ⟨c, hm, rfl⟩
    · exact stF_ok hd fr
    · rw [(hc.2.1 c hm).2.2.1]
      exact stF_ok hd _
  · have := hc.2.1 c hm
    omega
/-- its changes -/
def chgT (t : Tab) : List Int := t.chs.map (·.t)
theorem made_resL {t : Tab} (m : Made rules l fr te t) : resL t = squ (stF rules l fr) (candsF rules l fr te) := by rw [m.eq, resL_norm]
theorem made_resH {t : Tab} (m : Made rules l fr te t) : resH t = stF rules l fr := by rw [m.eq, resH_norm]
theorem made_chg {t : Tab} (m : Made rules l fr te t) (z : Int) : z ∈ chgT t ↔ (fr < z ∧ z < te ∧ stF rules l z ≠ stF rules l (z - 1)) := by
  have e : chgT t = (squ (stF rules l fr) (candsF rules l fr te)).map (·.1) := by rw [m.eq]; exact norm_chT _ _
  rw [e, List.mem_map]
  constructor
  · rintro ⟨c, hc, rfl⟩
    obtain ⟨a, b, c1, -⟩ := (chg_mem m.d fr te c).1 hc
    exact ⟨a, b, c1⟩
  · rintro ⟨a, b, c⟩
    exact ⟨(z, stF rules l z), (chg_mem m.d fr te _).2 ⟨a, b, c, rfl⟩, rfl⟩
theorem made_rise {t : Tab} (m : Made rules l fr te t) : (chgT t).Pairwise (· < ·) := List.pairwise_map.2 m.ok.rise
/-- it says what it is -/
theorem made_says {t : Tab} (m : Made rules l fr te t) {y : Int} (h1 : fr ≤ y) (h2 : y < te) : tyOf t y = stF rules l y := by
  rw [tyOf_valV t m.ok, made_resL m, made_resH m, valL_squ _ _ _ _ (cands_spec m.d fr te).1 (.inl rfl)]
  exact stF_val m.d h1 h2
/-- it is normal -/
theorem made_norm {t : Tab} (m : Made rules l fr te t) : normT t = t := by
  unfold normT
  rw [made_resL m, made_resH m, normR_squ, ← m.eq]
/-- where there is no change it is the same -/
theorem made_steady {t : Tab} (m : Made rules l fr te t) {x : Int} (h1 : fr ≤ x) : ∀ (n : Nat), x + n < te → (∀ z ∈ chgT t, ¬ (x < z ∧ z ≤ x + n)) → stF rules l (x + n) = stF rules l x
  | 0, _, _ => by rw [show x + ((0 : Nat) : Int) = x by omega]
  | n + 1, h2, hz => by
    have ih := made_steady m h1 n (by omega) fun z hm g => hz z hm ⟨g.1, by omega⟩
    rw [← ih]
    refine Classical.byContradiction fun g => hz (x + ((n + 1 : Nat) : Int)) ((made_chg m _).2 ⟨by omega, h2, ?_⟩) ⟨by omega, Int.le_refl _⟩
    rwa [show x + ((n + 1 : Nat) : Int) - 1 = x + (n : Int) by omega]
/-- without rules it changes where its eras end -/
theorem made_fixed {t : Tab} (m : Made rules l fr te t) (hr : ∀ x ∈ l, x.ru.data.toList = []) {z : Int} (hz : z ∈ chgT t) : ∃ x ∈ l, x.un = z := by
  obtain ⟨a, b, c⟩ := (made_chg m z).1 hz
  refine Classical.byContradiction fun g => c (stF_step m.d (fun ⟨i, hi, e⟩ => g ⟨l[i], List.getElem_mem _, ?_⟩) fun ⟨u, hu, e⟩ => ?_)
  · rw [← eraAt_in l i (by omega)]; exact e
  · have hp : 0 < l.length := List.length_pos_iff.2 m.d.o.ne
    have hk : whichF l z < l.length := by have := (which_spec m.d.o z).1; omega
    have h0 := hr _ (List.getElem_mem hk)
    rw [← eraAt_in l _ hk] at h0
    unfold tdA tdR at hu
    rw [if_pos h0] at hu
    cases hu
theorem rise_extI : ∀ {l m : List Int}, l.Pairwise (· < ·) → m.Pairwise (· < ·) → (∀ c, c ∈ l ↔ c ∈ m) → l = m
  | [], [], _, _, _ => rfl
  | [], d :: m, _, _, h => absurd ((h d).2 (List.mem_cons_self ..)) (List.not_mem_nil)
  | c :: l, [], _, _, h => absurd ((h c).1 (List.mem_cons_self ..)) (List.not_mem_nil)
  | c :: l, d :: m, hl, hm, h => by
    have hp := List.pairwise_cons.1 hl
    have hq := List.pairwise_cons.1 hm
    have e : c = d := by
      rcases List.mem_cons.1 ((h c).1 (List.mem_cons_self ..)) with e | h1
      · exact e
      · rcases List.mem_cons.1 ((h d).2 (List.mem_cons_self ..)) with e | h2
        · exact e.symm
        · have := hq.1 c h1; have := hp.1 d h2; omega
    subst e
    rw [rise_extI hp.2 hq.2 fun x => ?_]
    constructor
    · intro hx
      rcases List.mem_cons.1 ((h x).1 (List.mem_cons_of_mem _ hx)) with rfl | h1
      · have := hp.1 x hx; omega
      · exact h1
    · intro hx
      rcases List.mem_cons.1 ((h x).2 (List.mem_cons_of_mem _ hx)) with rfl | h1
      · have := hq.1 x hx; omega
      · exact h1
/-- the changes of a part of the span -/
theorem made_part {t u : Tab} {p q : Int} (m : Made rules l fr te t) (n : Made rules l p q u) (h1 : fr ≤ p) (h2 : q ≤ te) : chgT u = (chgT t).filter fun z => decide (p < z ∧ z < q) := by
  refine rise_extI (made_rise n) ((made_rise m).sublist List.filter_sublist) fun z => ?_
  rw [List.mem_filter, made_chg n, made_chg m, decide_eq_true_eq]
  constructor
  · rintro ⟨a, b, c⟩; exact ⟨⟨by omega, by omega, c⟩, a, b⟩
  · rintro ⟨⟨a, b, c⟩, d, e⟩; exact ⟨d, e, c⟩
end
end Go.Proofs.YthggojpdcgcmaaaGreatDoor
namespace Go.Proofs.YthggojpdcgcmaaaGreatDoor
open Go.RowKit Go.Joins Go.Maps
open Classical
set_option linter.unusedVariables false
set_option linter.unusedSimpArgs false

section
variable {rules : List Ru} {l : List Er} {fr te p q : Int}
theorem squ_part (h : TdsOk rules l) (h1 : fr ≤ p) (h2 : q ≤ te) : squ (stF rules l p) (candsF rules l p q) = (squ (stF rules l fr) (candsF rules l fr te)).filter fun c => decide (p < c.1 ∧ c.1 < q) := by
  refine rise_ext (chg_rise h _ _) ((chg_rise h fr te).sublist List.filter_sublist) fun c => ?_
  rw [List.mem_filter, chg_mem h, chg_mem h, decide_eq_true_eq]
  constructor
  · rintro ⟨a, b, c1, d⟩; exact ⟨⟨by omega, by omega, c1, d⟩, a, b⟩
  · rintro ⟨⟨a, b, c1, d⟩, e, f⟩; exact ⟨e, f, c1, d⟩
theorem types_sub (h : TdsOk rules l) (h1 : fr ≤ p) (h3 : p < te) (h2 : q ≤ te) : ∀ y ∈ (normR (stF rules l p) (candsF rules l p q)).types, y ∈ (normR (stF rules l fr) (candsF rules l fr te)).types := by
  intro y hy
  rw [norm_tyMem] at hy ⊢
  rcases hy with rfl | ⟨c, hc, e⟩
  · have hv : valL (stF rules l fr) (squ (stF rules l fr) (candsF rules l fr te)) p = stF rules l p := by
      rw [valL_squ _ _ _ _ (cands_spec h fr te).1 (.inl rfl)]
      exact stF_val h h1 h3
    rcases valL_mem (squ (stF rules l fr) (candsF rules l fr te)) p (stF rules l fr) with e | ⟨c, hc, -, e⟩
    · exact .inl (by rw [← hv, e])
    · exact .inr ⟨c, hc, by rw [← e, hv]⟩
  · rw [squ_part h h1 h2] at hc
    exact .inr ⟨c, (List.mem_filter.1 hc).1, e⟩
theorem part_size (h : TdsOk rules l) (h1 : fr ≤ p) (h3 : p < te) (h2 : q ≤ te) : (normR (stF rules l p) (candsF rules l p q)).types.length ≤ (normR (stF rules l fr) (candsF rules l fr te)).types.length ∧ (normR (stF rules l p) (candsF rules l p q)).chs.length ≤ (normR (stF rules l fr) (candsF rules l fr te)).chs.length := by
  refine ⟨length_sub _ _ (norm_nodup _ _) (types_sub h h1 h3 h2), ?_⟩
  rw [norm_chsLen, norm_chsLen, squ_part h h1 h2]
  exact List.length_filter_le _ _
/-- a table of a part of a span is made, if the whole one is -/
theorem mkE_part (ho : ErasOk rules l) (h1 : fr ≤ p) (h3 : p < q) (h2 : q ≤ te) (he : (mkE rules l fr te).1 = 0) : (mkE rules l p q).1 = 0 := by
  have m := mkE_ok ho (t := (mkE rules l fr te).2) (by rw [← he])
  have hs := m.ok
  rw [m.eq] at hs
  have hz := part_size m.d (q := q) h1 (by omega) h2
  unfold mkE
  rw [if_neg (fun g => g (stampE_mid m.s1 m.s2 h1 (by omega))), if_neg (fun g => g (stampE_mid m.s1 m.s2 (by omega) h2)), if_neg (by omega), if_neg (fun g => g m.er), if_neg (by have := hs.many; have := hs.chs; omega)]
/-- errors of tables: where both ends are times, a table fails as any other, or is too large -/
theorem mkE_err (h1 : stampE fr = 0) (h2 : stampE te = 0) (h3 : fr < te) : (mkE rules l fr te).1 = (if firstE (tdE rules) l ≠ 0 then firstE (tdE rules) l else if 250 < (normR (stF rules l fr) (candsF rules l fr te)).types.length ∨ 1000 < (normR (stF rules l fr) (candsF rules l fr te)).chs.length then 2 else 0) := by
  unfold mkE
  rw [if_neg (fun g => g h1), if_neg (fun g => g h2), if_neg (by omega)]
  split
  · rfl
  · split <;> rfl
theorem mkE_bad (h : (mkE rules l fr te).1 ≠ 0) : (mkE rules l fr te).2 = zTab := by
  unfold mkE at h ⊢
  split
  · rfl
  rename_i h1
  split
  · rfl
  rename_i h2
  split
  · rfl
  rename_i h3
  split
  · rfl
  rename_i h4
  split
  · rfl
  rename_i h5
  rw [if_neg h1, if_neg h2, if_neg h3, if_neg h4, if_neg h5] at h
  exact absurd rfl h
theorem count3 (a : Int) : ∀ (m : List Int), m.Pairwise (· < ·) → m.length = (m.filter fun z => decide (z < a)).length + (if a ∈ m then 1 else 0) + (m.filter fun z => decide (a < z)).length
  | [], _ => by simp
  | c :: m, h => by
    have hp := List.pairwise_cons.1 h
    have ih := count3 a m hp.2
    rcases Int.lt_trichotomy c a with g | g | g
    · rw [List.filter_cons_of_pos (by simpa using g), List.filter_cons_of_neg (by simp; omega)]
      simp only [List.length_cons, List.mem_cons]
      have : (a = c ∨ a ∈ m) ↔ a ∈ m := ⟨fun x => x.elim (fun e => by omega) id, .inr⟩
      have e2 : (if a = c ∨ a ∈ m then 1 else 0) = (if a ∈ m then 1 else 0) := by
        by_cases g2 : a ∈ m
        · rw [if_pos g2, if_pos (this.2 g2)]
        · rw [if_neg g2, if_neg (fun x => g2 (this.1 x))]
      rw [e2]
      omega
    · subst g
      have hn : c ∉ m := fun hm => by have := hp.1 c hm; omega
      rw [if_neg hn] at ih
      rw [List.filter_cons_of_neg (by simp), List.filter_cons_of_neg (by simp), if_pos (List.mem_cons_self ..)]
      simp only [List.length_cons]
      omega
    · rw [List.filter_cons_of_neg (by simp; omega), List.filter_cons_of_pos (by simpa using g)]
      simp only [List.length_cons, List.mem_cons]
      have : (a = c ∨ a ∈ m) ↔ a ∈ m := ⟨fun x => x.elim (fun e => by omega) id, .inr⟩
      have e2 : (if a = c ∨ a ∈ m then 1 else 0) = (if a ∈ m then 1 else 0) := by
        by_cases g2 : a ∈ m
        · rw [if_pos g2, if_pos (this.2 g2)]
        · rw [if_neg g2, if_neg (fun x => g2 (this.1 x))]
      rw [e2]
      omega
/-- two spans that meet -/
theorem made_join {t u v : Tab} {a : Int} (m : Made rules l fr te t) (n : Made rules l fr a u) (k : Made rules l a te v) : t.chs.length = u.chs.length + (if a ∈ chgT t then 1 else 0) + v.chs.length := by
  have e := count3 a (chgT t) (made_rise m)
  have h1 := n.lt
  have h2 := k.lt
  have e1 : (chgT t).filter (fun z => decide (z < a)) = chgT u := by
    rw [made_part m n (Int.le_refl _) (by omega)]
    refine List.filter_congr fun z hz => ?_
    have := ((made_chg m z).1 hz).1
    exact decide_eq_decide.2 ⟨fun h => ⟨this, h⟩, fun h => h.2⟩
  have e2 : (chgT t).filter (fun z => decide (a < z)) = chgT v := by
    rw [made_part m k (by omega) (Int.le_refl _)]
    refine List.filter_congr fun z hz => ?_
    have := ((made_chg m z).1 hz).2.1
    exact decide_eq_decide.2 ⟨fun h => ⟨h, this⟩, fun h => h.1⟩
  rw [e1, e2] at e
  have e3 : ∀ t : Tab, (chgT t).length = t.chs.length := fun t => List.length_map ..
  rw [e3, e3, e3] at e
  exact e
end

/-! tables of names -/
theorem mkT_of {b : Bk} {nm : ByteArray} {z : Zo} {c : Int} (h : rsv b nm = (some z, c)) (fr te : Int) : mkT b nm fr te = mkE b.rules z.eras fr te := by unfold mkT; rw [h]
theorem mkT_none {b : Bk} {nm : ByteArray} {c : Int} (h : rsv b nm = (none, c)) (fr te : Int) : mkT b nm fr te = (c, zTab) := by unfold mkT; rw [h]
theorem mkT_zero {b : Bk} {nm : ByteArray} {fr te : Int} (h : (mkT b nm fr te).1 = 0) : ∃ z ∈ b.zones, rsv b nm = (some z, 0) ∧ bkChk b = 0 ∧ Made b.rules z.eras fr te (mkT b nm fr te).2 := by
  cases e : rsv b nm with
  | mk zo c =>
    cases zo with
    | none => rw [mkT_none e] at h; exact absurd h (rsv_not0 e)
    | some z =>
      obtain ⟨rfl, h2, h3⟩ := rsv_zero e
      rw [mkT_of e] at h ⊢
      exact ⟨z, h2, rfl, h3, mkE_ok (bk_eras h3 h2) (by rw [← h])⟩
theorem mkT_bad {b : Bk} {nm : ByteArray} {fr te : Int} (h : (mkT b nm fr te).1 ≠ 0) : (mkT b nm fr te).2 = zTab := by
  cases e : rsv b nm with
  | mk zo c =>
    cases zo with
    | none => rw [mkT_none e]
    | some z => rw [mkT_of e] at h ⊢; exact mkE_bad h
/-- in the span of its table a name has a time -/
theorem made_st {b : Bk} {nm : ByteArray} {z : Zo} {fr te y : Int} {t : Tab} (hz : z ∈ b.zones) (hr : rsv b nm = (some z, 0)) (m : Made b.rules z.eras fr te t) (h1 : fr ≤ y) (h2 : y < te) : stR b nm y = (0, stF b.rules z.eras y) := by
  have hp : 0 < z.eras.length := List.length_pos_iff.2 m.d.o.ne
  have hk : whichF z.eras y < z.eras.length := by have := (which_spec m.d.o y).1; omega
  have e1 : tdE b.rules (eraAt z.eras (whichF z.eras y)) = 0 := by
    rw [eraAt_in _ _ hk]
    exact (firstE_zero _ _).1 m.er _ (List.getElem_mem hk)
  unfold stR
  rw [hr]
  dsimp only
  rw [if_neg (fun g => g (stampE_mid m.s1 m.s2 h1 (by omega))), if_neg (fun g => g e1)]
  rfl
/-- TableJoin -/
theorem join_law {b : Bk} {nm : ByteArray} {fr a te : Int} (h1 : stampE fr = 0) (h2 : stampE te = 0) (h3 : fr < a) (h4 : a < te) :
    if (mkT b nm fr te).1 = 0 ∧ (mkT b nm fr a).1 = 0 ∧ (mkT b nm a te).1 = 0 then (mkT b nm fr te).2.chs.length = (mkT b nm fr a).2.chs.length + (if a ∈ chgT (mkT b nm fr te).2 then 1 else 0) + (mkT b nm a te).2.chs.length
    else ((mkT b nm fr te).1 = (mkT b nm fr a).1 ∧ (mkT b nm fr a).1 = (mkT b nm a te).1) ∨ (mkT b nm fr te).1 = 2 := by
  cases e : rsv b nm with
  | mk zo c =>
    cases zo with
    | none =>
      rw [mkT_none e, mkT_none e, mkT_none e, if_neg (fun g => rsv_not0 e g.1)]
      exact .inl ⟨rfl, rfl⟩
    | some z =>
      obtain ⟨rfl, hz, hb⟩ := rsv_zero e
      have ho := bk_eras hb hz
      rw [mkT_of e, mkT_of e, mkT_of e]
      by_cases he : (mkE b.rules z.eras fr te).1 = 0
      · have hf := mkE_part ho (p := fr) (q := a) (Int.le_refl _) h3 (by omega) he
        have hg := mkE_part ho (p := a) (q := te) (by omega) h4 (Int.le_refl _) he
        rw [if_pos ⟨he, hf, hg⟩]
        exact made_join (mkE_ok ho (by rw [← he])) (mkE_ok ho (by rw [← hf])) (mkE_ok ho (by rw [← hg]))
      · rw [if_neg (fun g => he g.1)]
        have ha := stampE_mid h1 h2 (Int.le_of_lt h3) (Int.le_of_lt h4)
        rw [mkE_err h1 h2 (by omega)] at he ⊢
        rw [mkE_err h1 ha h3, mkE_err ha h2 h4]
        by_cases hf : firstE (tdE b.rules) z.eras ≠ 0
        · rw [if_pos hf, if_pos hf, if_pos hf]; exact .inl ⟨rfl, rfl⟩
        · rw [if_neg hf] at he ⊢
          split at he
          · rename_i h; rw [if_pos h]; exact .inr rfl
          · exact absurd rfl he
theorem mk_links {b : Bk} {x : Lk} (hx : x ∈ b.links) (fr te : Int) : mkT b x.nm fr te = mkT b x.to fr te := by
  by_cases hb : bkChk b = 0
  · unfold mkT; rw [(rsv_link hb hx).1]
  · rw [mkT_none (rsv_bad hb), mkT_none (rsv_bad hb)]

end Go.Proofs.YthggojpdcgcmaaaGreatDoor
namespace Go.Proofs.YthggojpdcgcmaaaGreatDoor
open Go.RowKit Go.Joins Go.Maps
open Classical
set_option linter.unusedVariables false
set_option linter.unusedSimpArgs false

def MkTPost (R : Int × Tab) (w : World) (e : Ending) (w' : World) : Prop := ∃ sv cv, e = .returned (.tuple #[.agg #[sv, .int .i64 0, cv], .int .i64 R.1]) ∧ w'.ownsRow w.heap.size 40 3 sv R.2.types.length (tyCells R.2.types) ∧ w'.ownsRow w.heap.size 56 2 cv R.2.chs.length (chCells R.2.chs) ∧ Below w.heap.size w w'
theorem MkTPost.bad {R : Int × Tab} {c : Int} {w w' : World} (h : R = (c, zTab)) (hb : Below w.heap.size w w') : MkTPost R w (.returned (.tuple #[.agg #[.slice none 0 0, .int .i64 0, .slice none 0 0], .int .i64 c])) w' := by
  subst h
  exact ⟨_, _, rfl, World.ownsRow_nil _ _ _ _, World.ownsRow_nil _ _ _ _, hb⟩
set_option maxHeartbeats 2000000 in
theorem MakeNone_any (c : Int) (w : World) : Calls Tryz.prog 39 #[.int .i64 c] w fun e w' => e = .returned (.tuple #[.agg #[.slice none 0 0, .int .i64 0, .slice none 0 0], .int .i64 c]) ∧ Below w.heap.size w w' := by
  obtain ⟨W0, e0⟩ : ∃ W0, w.alloc (.cells #[.slice none 0 0, .int .i64 0, .slice none 0 0] 52) = W0 := ⟨_, rfl⟩
  have hx : W0.heap[w.heap.size]? = some (.cells #[.slice none 0 0, .int .i64 0, .slice none 0 0] 52 (0, 0)) := by rw [← e0]; exact heap_alloc_new w _
  have v0 : W0.cell? ⟨w.heap.size, 0, none⟩ = some (.slice none 0 0) := (cell_of_row W0 _ 0 _ _ _ hx).trans rfl
  have v1 : W0.cell? ⟨w.heap.size, 1, none⟩ = some (.int .i64 0) := (cell_of_row W0 _ 1 _ _ _ hx).trans rfl
  have v2 : W0.cell? ⟨w.heap.size, 2, none⟩ = some (.slice none 0 0) := (cell_of_row W0 _ 2 _ _ _ hx).trans rfl
  have HB : Hid (Below w.heap.size w W0) := by rw [← e0]; exact (Below.refl _ _).alloc (Nat.le_refl _) _
  have HE := Lib.hid e0
  clear hx e0
  go_enter Tryz.func39, Tryz.ntmps39
  go_wp2_with fail
  rw [HE.out]
  exact bodyPost_ret (v := .tuple #[.agg #[.slice none 0 0, .int .i64 0, .slice none 0 0], .int .i64 c]) (by simp [results, Tryz.results39, go_sem, v0, v1, v2]) rfl ⟨rfl, HB.out⟩
end Go.Proofs.YthggojpdcgcmaaaGreatDoor
namespace Go.Proofs.YthggojpdcgcmaaaGreatDoor
open Go.RowKit Go.Joins Go.Maps
open Classical
set_option linter.unusedVariables false
set_option linter.unusedSimpArgs false

/-- the maker's way from `s` to `F` -/
structure MInv (F s : NS) (L : List (Int × Ty)) : Prop where
  eq : L.foldl stepN s = F
  tl : s.types.length + L.length ≤ 2000000
  cl : s.chs.length + L.length ≤ 2000000
  pos : 0 < s.types.length
  nm : ∀ y ∈ s.types, y.name.size ≤ maxLen
  ln : ∀ c ∈ L, c.2.name.size ≤ maxLen
theorem MInv.small {F s : NS} {L : List (Int × Ty)} (h : MInv F s L) : NSm s := ⟨by have := h.tl; omega, by have := h.cl; omega, h.pos, h.nm⟩
theorem MInv.step {F s : NS} {c : Int × Ty} {L : List (Int × Ty)} (h : MInv F s (c :: L)) : MInv F (stepN s c) L := by
  have e := h.eq
  have h1 := h.tl
  have h2 := h.cl
  simp only [List.length_cons] at h1 h2
  have hp := h.pos
  have hln : ∀ d ∈ L, d.2.name.size ≤ maxLen := fun d hd => h.ln d (List.mem_cons_of_mem _ hd)
  rw [List.foldl_cons] at e
  refine ⟨e, ?_, ?_, ?_, ?_, hln⟩ <;> unfold stepN <;> by_cases hc : c.2 = s.last
  · rw [if_pos hc]; omega
  · rw [if_neg hc]
    simp only [addTy]
    split
    · omega
    · simp only [List.length_append, List.length_cons, List.length_nil]; omega
  · rw [if_pos hc]; omega
  · rw [if_neg hc]
    simp only [List.length_append, List.length_cons, List.length_nil]; omega
  · rw [if_pos hc]; exact hp
  · rw [if_neg hc]
    simp only [addTy]
    split
    · exact hp
    · simp only [List.length_append, List.length_cons, List.length_nil]; omega
  · rw [if_pos hc]; exact h.nm
  · rw [if_neg hc]
    simp only [addTy]
    split
    · exact h.nm
    · intro y hy
      rcases List.mem_append.1 hy with hy | hy
      · exact h.nm y hy
      · rw [List.mem_singleton.1 hy]; exact h.ln c List.mem_cons_self
theorem MInv.done {F s : NS} (h : MInv F s []) : s = F := h.eq
theorem cand_len {rules : List Ru} (ho : ∀ r ∈ rules, OkRu r) (l : List Er) (te : Int) : ∀ (n k : Nat) (fr : Int), (candF rules l te n fr k).length ≤ n * 1501
  | 0, _, _ => Nat.zero_le _
  | n + 1, k, fr => by
    have h1 : ∀ a c, (evF (tdA rules l k) a c).length ≤ 1500 := by
      intro a c
      unfold evF winF
      rw [List.length_map]
      exact Nat.le_trans (List.length_filter_le _ _) (tdR_len ho _)
    have h2 := cand_len ho l te n (k + 1) ((eraAt l k).un + 1)
    have h3 := h1 fr (lastF l k te)
    rw [candF]
    split
    · omega
    · simp only [List.length_append, List.length_cons]; omega
theorem minv_start {rules : List Ru} {l : List Er} (hok : TdsOk rules l) (ho : ∀ r ∈ rules, OkRu r) (hl : l.length ≤ 1000) (fr te : Int) : MInv (makeN (stF rules l fr) (candsF rules l fr te)) (begN (stF rules l fr)) (candF rules l te (l.length - whichF l fr) (fr + 1) (whichF l fr)) := by
  have hn := cand_len ho l te (l.length - whichF l fr) (whichF l fr) (fr + 1)
  have hsz : ∀ y, (stF rules l y).name.size ≤ maxLen := fun y => by
    have := abbr_sizeT _ (stF_ok hok y).2.2
    simp only [maxLen]; omega
  refine ⟨rfl, ?_, ?_, ?_, ?_, ?_⟩
  · simp only [begN, List.length_cons, List.length_nil]; omega
  · simp only [begN, List.length_nil]; omega
  · simp [begN]
  · intro y hy
    simp only [begN, List.mem_singleton] at hy
    rw [hy]; exact hsz _
  · intro c hc
    rw [((cands_spec hok fr te).2.1 c hc).2.2.1]
    exact hsz _
theorem ev_win (x : Td) (a c : Int) : evF x a c = (winL x.ts a c).map fun t => (t, tdTy x t) := by
  unfold evF winF winL
  rw [List.map_map]
  rfl

theorem tmFlat_at : ∀ (ms : List TdM) (k : Nat) (hk : k < ms.length) (j : Nat) (u : Value), (tdCells ms[k].td ms[k].tv)[j]? = some u → (tmFlat ms)[k * 7 + j]? = some u
  | m :: r, 0, _, j, u, h => by
    have hj : j < 7 := (Array.getElem?_eq_some_iff.mp h).1
    show (tmL m ++ tmFlat r)[0 * 7 + j]? = some u
    rw [Nat.zero_mul, Nat.zero_add, List.getElem?_append_left (by exact hj)]
    simpa using h
  | m :: r, k + 1, hk, j, u, h => by
    have := tmFlat_at r k (by simpa using hk) j u (by simpa using h)
    show (tmL m ++ tmFlat r)[(k + 1) * 7 + j]? = some u
    rw [List.getElem?_append_right (by show 7 ≤ _; omega)]
    show (tmFlat r)[(k + 1) * 7 + j - 7]? = some u
    rw [show (k + 1) * 7 + j - 7 = k * 7 + j by omega]
    exact this
/-- one of the eras with turns, as the walk uses it -/
structure EraUse (rules : List Ru) (l : List Er) (W : World) (g k : Nat) (p : Option Addr) (n c : Nat) : Prop where
  c0 : W.cell? ⟨g, k * 7, none⟩ = some (.int .i64 (tdA rules l k).er.off)
  c1 : W.cell? ⟨g, k * 7 + 1, none⟩ = some (.string (tdA rules l k).er.ru)
  c2 : W.cell? ⟨g, k * 7 + 2, none⟩ = some (.int .i64 (tdA rules l k).er.sv)
  c3 : W.cell? ⟨g, k * 7 + 3, none⟩ = some (.string (tdA rules l k).er.fm)
  c4 : W.cell? ⟨g, k * 7 + 4, none⟩ = some (.int .i64 (tdA rules l k).er.un)
  c5 : W.cell? ⟨g, k * 7 + 5, none⟩ = some (.slice p n c)
  c6 : W.cell? ⟨g, k * 7 + 6, none⟩ = some (.string (tdA rules l k).fst)
  tdat : ∀ t, Calls Tryz.prog 37 #[.agg (tdCells (tdA rules l k) (.slice p n c)), .int .i64 t] W fun e w' => e = .returned (tyV (tdTy (tdA rules l k) t)) ∧ Below W.heap.size W w'
  len : (tdA rules l k).ts.length ≤ 1500
  win : ∀ a z, Calls Tryz.prog 41 #[.agg (tdCells (tdA rules l k) (.slice p n c)), .int .i64 a, .int .i64 z] W (WinPost (winL (tdA rules l k).ts a z) W)
theorem tds_use {rules : List Ru} {l : List Er} {ms : List TdM} {v : Value} {W : World} {B : Nat} (hok : TdsOk rules l) (ho : ∀ r ∈ rules, OkRu r) (hms : ms.map (·.td) = l.map (tdR rules)) (hts : TdsAt W B v ms) (hne : 0 < l.length) (hm : MaxLen W) :
    ∃ g cap, ∃ P : Nat → Option Addr × Nat × Nat, v = .slice (some ⟨g, 0, none⟩) l.length cap ∧ l.length ≤ cap ∧ g < W.heap.size ∧ ∀ W', Below W.heap.size W W' → ∀ k, k < l.length → EraUse rules l W' g k (P k).1 (P k).2.1 (P k).2.2 := by
  have hlen : ms.length = l.length := by have := congrArg List.length hms; simpa using this
  rcases own_cells hts.row with ⟨-, h0⟩ | ⟨g, cap, hv, hb, hg, hc⟩
  · omega
  obtain ⟨hcap, -⟩ : ms.length ≤ cap ∧ True := by
    rcases hts.row.2 with ⟨-, h0⟩ | ⟨g2, cap2, cur, e, -, -, h3, -⟩
    · omega
    · rw [hv] at e
      simp only [Value.slice.injEq, true_and] at e
      obtain ⟨-, rfl⟩ := e
      exact ⟨h3, trivial⟩
  have hex : ∀ k, ∃ t : Option Addr × Nat × Nat, ∀ hk : k < ms.length, ms[k].tv = .slice t.1 t.2.1 t.2.2 ∧ t.2.1 = ms[k].td.ts.length := by
    intro k
    by_cases hk : k < ms.length
    · obtain ⟨p, c, e⟩ := own_sliceN (hts.ts ms[k] (List.getElem_mem hk))
      exact ⟨(p, _, c), fun _ => ⟨e, rfl⟩⟩
    · exact ⟨(none, 0, 0), fun h => absurd h hk⟩
  obtain ⟨P, hP⟩ := Classical.axiomOfChoice hex
  refine ⟨g, cap, P, by rw [hv, hlen], by omega, hg, fun W' hb' k hk => ?_⟩
  have hkm : k < ms.length := by omega
  have etd : ms[k].td = tdA rules l k := by
    unfold tdA
    rw [eraAt_in _ _ hk]
    have : (ms.map (·.td))[k]'(by simpa using hkm) = (l.map (tdR rules))[k]'(by simpa using hk) := by congr 1
    simpa using this
  have hrow := hts.ts ms[k] (List.getElem_mem hkm)
  rw [etd] at hrow
  have hcl : ∀ j u, (tdCells (tdA rules l k) ms[k].tv)[j]? = some u → W'.cell? ⟨g, k * 7 + j, none⟩ = some u := by
    intro j u hu
    rw [← etd] at hu
    exact (hb'.cell (p := ⟨g, k * 7 + j, none⟩) hg).trans (hc _ _ (tmFlat_at ms k hkm j u hu))
  obtain ⟨hp1, hp2⟩ := hP k hkm
  rw [etd] at hp2
  rw [hp1] at hrow hcl
  generalize P k = t at hrow hcl hp2
  obtain ⟨p, n, c⟩ := t
  dsimp only at hrow hcl hp2 ⊢
  subst hp2
  have hx : EraOk rules (eraAt l k) := by rw [eraAt_in _ _ hk]; exact hok.o.ok _ (List.getElem_mem hk)
  have hlen5 : (tdA rules l k).ts.length ≤ 1500 := tdR_len ho _
  have hrows : RowsAt tnC 3 W'.heap.size W' (.slice p (tdA rules l k).ts.length c) (tdA rules l k).ts := by
    have h1 := own_rowsT hrow (by omega)
    exact (RowsAt.below (h1.mono (Nat.le_refl _)) hb' (Nat.le_refl _)).mono hb'.size
  have he : (tdA rules l k).er = eraAt l k := tdR_er _ _
  refine ⟨hcl 0 _ rfl, hcl 1 _ rfl, hcl 2 _ rfl, hcl 3 _ rfl, hcl 4 _ rfl, hcl 5 _ rfl, hcl 6 _ rfl, fun t => ?_, hlen5, fun a z => Within_any _ _ a z W' hrows (by omega)⟩
  obtain ⟨s1, s2, s3, -⟩ := sv_ok hx t
  have ho1 := hx.o1
  have ho2 := hx.o2
  refine TdAt_any _ _ t W' hrows (hok.r k hk) (by rw [he]; omega) (by rw [he]; omega) (by rw [he]; exact abE_fm s1) (abbr_lt s1) s2 s3 (hm.below hb') (by omega)
theorem minv_in {rules : List Ru} {l : List Er} {te f : Int} {k : Nat} {F s : NS} (hk : k < l.length) (h : MInv F s (candF rules l te (l.length - k) f k)) :
    ∃ R, MInv F s (((winL (tdA rules l k).ts f (lastF l k te)).drop 0).map (fun t => (t, tdTy (tdA rules l k) t)) ++ R) ∧ (k + 1 = l.length ∨ te ≤ (eraAt l k).un → R = []) ∧
      (¬ (k + 1 = l.length ∨ te ≤ (eraAt l k).un) → R = ((eraAt l k).un, tdTy (tdA rules l (k + 1)) (eraAt l k).un) :: candF rules l te (l.length - (k + 1)) ((eraAt l k).un + 1) (k + 1)) := by
  rw [show l.length - k = (l.length - (k + 1)) + 1 by omega] at h
  rw [List.drop_zero, ← ev_win]
  by_cases c : k + 1 = l.length ∨ te ≤ (eraAt l k).un
  · rw [cand_end c] at h
    exact ⟨[], by rw [List.append_nil]; exact h, fun _ => rfl, fun g => absurd c g⟩
  · rw [cand_go c] at h
    exact ⟨_, h, fun g => absurd g c, fun _ => rfl⟩
theorem minv_next {X : Int → Ty} {F s : NS} {W : List Int} {R : List (Int × Ty)} {j : Nat} (hj : j < W.length) (h : MInv F s ((W.drop j).map (fun t => (t, X t)) ++ R)) : NSm s ∧ MInv F (stepN s (W[j], X W[j])) ((W.drop (j + 1)).map (fun t => (t, X t)) ++ R) := by
  rw [List.drop_eq_getElem_cons hj, List.map_cons, List.cons_append] at h
  exact ⟨h.small, h.step⟩
theorem minv_rest {X : Int → Ty} {F s : NS} {W : List Int} {R : List (Int × Ty)} {j : Nat} (hj : ¬ j < W.length) (h : MInv F s ((W.drop j).map (fun t => (t, X t)) ++ R)) : MInv F s R := by
  rw [List.drop_eq_nil_of_le (by omega)] at h
  exact h
/-- blocks of numbers stay -/
def KeepI (w w' : World) : Prop := ∀ (b : Nat) (cs : Array Value) (f : Nat × Nat), w.heap[b]? = some (Obj.cells cs 3 f) → w'.heap[b]? = some (Obj.cells cs 3 f)
theorem KeepI.refl (w : World) : KeepI w w := fun _ _ _ h => h
theorem KeepI.trans {a b c : World} (h : KeepI a b) (g : KeepI b c) : KeepI a c := fun x cs f e => g x cs f (h x cs f e)
theorem KeepI.below {w w' : World} (h : Below w.heap.size w w') : KeepI w w' := fun b cs f e => (h.block b (Array.getElem?_eq_some_iff.mp e).1).trans e
theorem change_int {w w' : World} {M b0 : Nat} {sv cv : Value} {s : NS} (hm : Mk w M b0 sv cv s) (hk : ∀ b, b < w.heap.size → b ≠ M → sv.ownBlock ≠ some b → cv.ownBlock ≠ some b → w'.heap[b]? = w.heap[b]?) : KeepI w w' := by
  intro b cs f e
  refine (hk b (Array.getElem?_eq_some_iff.mp e).1 (fun g => ?_) (own_type hm.rowT e (by decide)) (own_type hm.rowC e (by decide))).trans e
  have h2 := hm.blk
  rw [← g, e] at h2
  injection h2 with h2
  injection h2 with _ h3 _
  exact absurd h3 (by decide)
theorem int_row {w w' : World} {B : Nat} {v : Value} {L : List Int} (h : w.ownsRow B 3 1 v L.length (L.map (Value.int .i64))) (hk : KeepI w w') : w'.ownsRow B 3 1 v L.length (L.map (Value.int .i64)) := by
  refine own_keep h fun g e => ?_
  rcases h.2 with ⟨e1, _⟩ | ⟨g2, cap, cur, e1, _, hg, _⟩
  · rw [e1] at e; cases e
  · rw [e1] at e
    simp only [Value.ownBlock] at e
    injection e with e
    subst e
    rw [hg]
    exact hk _ _ _ hg
theorem int_cell {w : World} {B : Nat} {A : Option Addr} {c : Nat} {L : List Int} (h : w.ownsRow B 3 1 (.slice A L.length c) L.length (L.map (Value.int .i64))) {j : Nat} (hj : j < L.length) : ∃ g, A = some ⟨g, 0, none⟩ ∧ L.length ≤ c ∧ g < w.heap.size ∧ w.cell? ⟨g, j, none⟩ = some (.int .i64 L[j]) := by
  rcases own_cells h with ⟨e, h0⟩ | ⟨g, cap, e, hb, hg, hc⟩
  · omega
  · simp only [Value.slice.injEq, true_and] at e
    obtain ⟨rfl, rfl⟩ := e
    refine ⟨g, rfl, ?_, hg, hc j _ (by simp [hj])⟩
    rcases h.2 with ⟨e1, _⟩ | ⟨g2, cap, cur, e1, _, hg, h3, _⟩
    · cases e1
    · simp only [Value.slice.injEq, true_and] at e1
      obtain ⟨-, rfl⟩ := e1
      exact h3
end Go.Proofs.YthggojpdcgcmaaaGreatDoor
namespace Go.Proofs.YthggojpdcgcmaaaGreatDoor
def loopsIn : Code → List Code
  | .loop c => c :: loopsIn c
  | .seq a b => loopsIn a ++ loopsIn b
  | .block _ c => loopsIn c
  | .scope c => loopsIn c
  | .cond _ a b => loopsIn a ++ loopsIn b
  | _ => []
def loopAt (f : Func) (n : Nat) : Code := ((f.body.map loopsIn).getD []).getD n .skip
end Go.Proofs.YthggojpdcgcmaaaGreatDoor
namespace Go.Proofs.YthggojpdcgcmaaaGreatDoor
open Go.RowKit Go.Joins Go.Maps
open Classical
set_option linter.unusedVariables false
set_option linter.unusedSimpArgs false

theorem own_less {W : World} {B B' : Nat} {e : TypeId} {s n : Nat} {v : Value} {xs : List Value} (h : W.ownsRow B e s v n xs) (hb : B' ≤ B) : W.ownsRow B' e s v n xs :=
  ⟨h.1, h.2.imp id fun ⟨g, cap, cur, a, b, c⟩ => ⟨g, cap, cur, a, Nat.le_trans hb b, c⟩⟩
structure TJ (W5 : World) (M b0 : Nat) (s : NS) (c : Int × Ty) (wx : World) : Prop where
  b : Below W5.heap.size W5 wx
  j : ∃ s' sv cv, (s' = s ∨ s' = stepN s c) ∧ NSm s' ∧ Mk wx M b0 sv cv s'
def MkD (M b0 : Nat) (s : NS) (c : Int × Ty) (w : World) : Prop := ∃ sv cv, Mk w M b0 sv cv (stepN s c)
theorem TJ.drew {W5 : World} {M b0 : Nat} {s : NS} {c : Int × Ty} {wx : World} (h : TJ W5 M b0 s c wx) : TJ W5 M b0 s c wx.drew := by
  obtain ⟨s', sv, cv, a, n, m⟩ := h.j
  exact ⟨h.b.drew, s', sv, cv, a, n, m.keep fun b hb => rfl⟩
theorem TJ.next {W5 : World} {M b0 : Nat} {s : NS} {c : Int × Ty} {wx w' : World} (h : TJ W5 M b0 s c wx) (hb : Below wx.heap.size wx w') : TJ W5 M b0 s c w' := by
  obtain ⟨s', sv, cv, a, n, m⟩ := h.j
  exact ⟨h.b.trans (hb.mono h.b.size), s', sv, cv, a, n, m.keep fun b hl => hb.block b hl⟩
theorem stepN_twice (s : NS) (c : Int × Ty) : stepN (stepN s c) c = stepN s c := by
  by_cases h : c.2 = s.last
  · have e : stepN s c = s := by unfold stepN; rw [if_pos h]
    rw [e, e]
  · have e : (stepN s c).last = c.2 := by unfold stepN; rw [if_neg h]
    show (if c.2 = (stepN s c).last then stepN s c else _) = _
    rw [if_pos e.symm]
theorem TJ.change {W5 : World} {M b0 : Nat} {s : NS} {t : Int} {x : Ty} {wx : World} (h : TJ W5 M b0 s (t, x) wx) (hn : NSm (stepN s (t, x))) (hb : W5.heap.size ≤ b0) :
    Calls Tryz.prog 42 #[.pointer (some ⟨M, 0, none⟩), .int .i64 t, tyV x] wx fun e w' => e = .returned (.tuple #[]) ∧ TJ W5 M b0 s (t, x) w' ∧ MkD M b0 s (t, x) w' := by
  obtain ⟨s', sv, cv, a, n, m⟩ := h.j
  refine (Change_any M b0 sv cv s' t x wx m (by have h1 := m.hM; have h2 := m.lt; omega) n).mono fun e w' h => ?_
  obtain ⟨h1, ⟨sv2, cv2, h2⟩, h3⟩ := h
  have e2 : stepN s' (t, x) = stepN s (t, x) := by
    rcases a with rfl | rfl
    · rfl
    · exact stepN_twice _ _
  rw [e2] at h2
  exact ⟨h1, ⟨‹TJ W5 M b0 s (t, x) wx›.b.trans (h3.mono hb), _, sv2, cv2, .inr rfl, hn, h2⟩, sv2, cv2, h2⟩
def tailAt : Code → Nat → Code
  | c, 0 => c
  | .seq _ b, n + 1 => tailAt b n
  | c, _ + 1 => c
def tailOf (f : Func) (n : Nat) : Code := tailAt (f.body.getD .skip) n

set_option maxRecDepth 1000000 in
set_option maxHeartbeats 20000000 in
theorem Tm_tail (rules : List Ru) (l : List Er) (fr te : Int) (F : NS) (S : Int × Tab) (x0 : Ty) (w W5 w8 : World) (sp rb g cap M b0 k0 : Nat) (P : Nat → Option Addr × Nat × Nat) (sv cv : Value) (z0 z1 z2 z3 z4 z7 z9 z10 z11 z12 z13 z14 z18 z19 z20 z21 z22 z23 z24 z25 z26 z27 z28 z29 z30 z31 z32 z33 z34 z35 z36 z37 z38 z39 z40 z41 z42 z43 z44 z45 z46 z47 z48 z49 z50 z51 z52 z53 z54 z55 z56 z57 z58 z59 z60 z61 z62 z63 z64 z65 z66 z67 z68 z69 z70 z71 z72 z73 z74 z75 z76 z77 z78 z79 z80 z81 z82 z83 z84 z85 z86 z87 z88 z89 z90 z91 z92 z93 z94 z95 z96 z97 z98 z99 z100 z101 z102 z103 z104 z105 z106 z107 z108 z109 z110 z111 z112 z113 z114 z115 z116 z117 z118 z119 z120 z121 z122 z123 z124 z125 z126 z127 z128 z129 z130 z131 z132 z133 z134 z135 z136 z137 z138 z139 z140 z141 z142 z143 z144 z145 z146 z147 z148 z149 z150 z151 z152 z153 z154 z155 z156 z157 z158 z159 z160 z161 z162 z163 z164 z165 z166 z167 z168 z169 z170 z171 z172 z173 z174 z175 z176 z177 z178 z179 z180 z181 z182 z183 z184 z185 z186 z187 z188 z189 z190 z191 z192 z193 z194 z195 z196 z197 z198 z199 z200 z201 z202 z203 z204 z205 z206 z207 : Value)
    (hf1 : -4611686018427387904 ≤ fr) (hf2 : fr ≤ 4611686018427387904) (ht1 : -4611686018427387904 ≤ te) (ht2 : te ≤ 4611686018427387904)
    (HE0 : Hid (ErasOk rules l)) (hcap : l.length ≤ cap) (hg5 : g < W5.heap.size) (hk0 : k0 < l.length) (hb05 : W5.heap.size ≤ b0) (hb08 : b0 ≤ w8.heap.size)
    (HUSE : Hid (∀ W', Below W5.heap.size W5 W' → ∀ k, k < l.length → EraUse rules l W' g k (P k).1 (P k).2.1 (P k).2.2))
    (HMI : Hid (MInv F (begN x0) (candF rules l te (l.length - k0) (fr + 1) k0))) (HMK : Hid (Mk w8 M b0 sv cv (begN x0))) (HB58 : Hid (Below W5.heap.size W5 w8))
    (SPAN : Hid (∀ W', Below W5.heap.size W5 W' → W'.cell? ⟨sp, 0, none⟩ = some (.int .i64 fr) ∧ W'.cell? ⟨sp, 1, none⟩ = some (.int .i64 te)))
    (RES : Hid (∀ W', Below W5.heap.size W5 W' → W'.cell? ⟨rb, 0, none⟩ = some (.slice none 0 0) ∧ W'.cell? ⟨rb, 1, none⟩ = some (.int .i64 0) ∧ W'.cell? ⟨rb, 2, none⟩ = some (.slice none 0 0) ∧ W'.frozen? ⟨rb, 0, none⟩ = false ∧ W'.frozen? ⟨rb, 1, none⟩ = false ∧ W'.frozen? ⟨rb, 2, none⟩ = false))
    (FIN : Hid (∀ (W' : World) (R : Int × Tab) (u v : Value), Below W5.heap.size W5 W' → S = R → W'.ownsRow W5.heap.size 40 3 u R.2.types.length (tyCells R.2.types) → W'.ownsRow W5.heap.size 56 2 v R.2.chs.length (chCells R.2.chs) → ∃ W9, ((W'.setCell ⟨rb, 0, none⟩ u).setCell ⟨rb, 1, none⟩ (.int .i64 0)).setCell ⟨rb, 2, none⟩ v = W9 ∧ W9.cell? ⟨rb, 0, none⟩ = some u ∧ W9.cell? ⟨rb, 1, none⟩ = some (.int .i64 0) ∧ W9.cell? ⟨rb, 2, none⟩ = some v ∧ MkTPost S w (.returned (.tuple #[.agg #[u, .int .i64 0, v], .int .i64 R.1])) W9))
    (HSF : Hid (S = if 250 < F.types.length ∨ 1000 < F.chs.length then (2, zTab) else (0, ⟨F.types, 0, F.chs⟩))) :
    Code.wp Tryz.prog (tailOf Tryz.f19 10) (bodyPost Tryz.prog Tryz.f19 (MkTPost S w)) ⟨#[z0, z1, z2, z3, z4, .pointer (some ⟨sp, 0, none⟩), .pointer (some ⟨rb, 0, none⟩), z7, .func (.func 39) #[] #[], z9, z10, z11, z12, z13, z14, .slice (some ⟨g, 0, none⟩) l.length cap, .int .i64 (k0 : Nat), .pointer (some ⟨M, 0, none⟩), z18, z19, z20, z21, z22, z23, z24, z25, z26, z27, z28, z29, z30, z31, z32, z33, z34, z35, z36, z37, z38, z39, z40, z41, z42, z43, z44, z45, z46, z47, z48, z49, z50, z51, z52, z53, z54, z55, z56, z57, z58, z59, z60, z61, z62, z63, z64, z65, z66, z67, z68, z69, z70, z71, z72, z73, z74, z75, z76, z77, z78, z79, z80, z81, z82, z83, z84, z85, z86, z87, z88, z89, z90, z91, z92, z93, z94, z95, z96, z97, z98, z99, z100, z101, z102, z103, z104, z105, z106, z107, z108, z109, z110, z111, z112, z113, z114, z115, z116, z117, z118, z119, z120, z121, z122, z123, z124, z125, z126, z127, z128, z129, z130, z131, z132, z133, z134, z135, z136, z137, z138, z139, z140, z141, z142, z143, z144, z145, z146, z147, z148, z149, z150, z151, z152, z153, z154, z155, z156, z157, z158, z159, z160, z161, z162, z163, z164, z165, z166, z167, z168, z169, z170, z171, z172, z173, z174, z175, z176, z177, z178, z179, z180, z181, z182, z183, z184, z185, z186, z187, z188, z189, z190, z191, z192, z193, z194, z195, z196, z197, z198, z199, z200, z201, z202, z203, z204, z205, z206, z207], []⟩ w8 := by
  obtain ⟨g3, g4⟩ := SPAN.out w8 HB58.out
  show Code.wp _ (Code.seq _ _) _ _ _
  dsimp only [tailOf, Tryz.f19, Option.getD, tailAt]
  go_wp2_with fail
  have hfr1 : IntKind.i64.wrap (fr + 1) = fr + 1 := IntWalk.i64_in _ (by omega)
  try rw [hfr1]
  go_loopw [16, 18] (fun v16 v18 wr => ∃ (k : Nat) (f : Int) (s : NS) (sv cv : Value), k < l.length ∧ v16 = .int .i64 k ∧ v18 = .int .i64 f ∧ Hid (MInv F s (candF rules l te (l.length - k) f k)) ∧ Hid (Mk wr M b0 sv cv s) ∧ Hid (Below W5.heap.size W5 wr)) (fun v16 _ _ => l.length - (intOf v16).toNat)
  case atStart => exact ⟨k0, fr + 1, begN x0, sv, cv, hk0, rfl, rfl, HMI, HMK, HB58⟩
  case round =>
    clear HMI HMK HB58 hb08 g3 g4
    obtain ⟨k, f, s, sv, cv, hk, rfl, rfl, HMI, HMK, HBR⟩ := hrel
    have hkz : (k : Int) < (l.length : Int) := by omega
    have hkp : (0 : Int) ≤ (k : Int) := Int.natCast_nonneg _
    have hl7 : l.length ≤ 700 := HE0.out.le
    have hzr := HBR.out.size
    have hgr : g < wr.heap.size := by omega
    obtain ⟨R, hin, hr1, hr2⟩ := minv_in hk HMI.out
    have HIN := Lib.hid hin
    have HR1 := Lib.hid hr1
    have HR2 := Lib.hid hr2
    clear hin hr1 hr2
    obtain ⟨u0, u1, u2, u3, u4, u5, u6, -, -⟩ := HUSE.out wr HBR.out k hk
    obtain ⟨g3, g4⟩ := SPAN.out wr HBR.out
    have hlw : IntKind.i64.wrap ((l.length : Int) - 1) = (l.length : Int) - 1 := IntWalk.i64_in _ (by omega)
    have htw : IntKind.i64.wrap (te - 1) = te - 1 := IntWalk.i64_in _ (by omega)
    have HUN := HE0.out.un k
    have her : (tdA rules l k).er.un = (eraAt l k).un := by unfold tdA; rw [tdR_er]
    have HER := Lib.hid her
    rw [← her] at HUN
    clear her
    by_cases hlast : k + 1 < l.length
    · have hl1 : (k : Int) < (l.length : Int) - 1 := by omega
      obtain ⟨hu1, hu2, -⟩ := HUN hlast
      have huw : IntKind.i64.wrap ((tdA rules l k).er.un - 1) = (tdA rules l k).er.un - 1 := IntWalk.i64_in _ (by omega)
      have HLF : Hid (lastF l k te = min (te - 1) ((tdA rules l k).er.un - 1)) := by show _ = _; unfold lastF; rw [if_pos hlast, ← HER.out]
      go_upto_region 25 with fail
      have HWI := Lib.hid ((HUSE.out wr HBR.out k hk).win f (lastF l k te))
      have HLE := Lib.hid ((HUSE.out wr HBR.out k hk).len)
      rw [HLF.out] at HWI
      go_wp2_with fail
      refine HWI.out.mono ?_
      rintro e w4 ⟨vo, rfl, hrow, hb4⟩
      have hwl := winL_le (tdA rules l k).ts f (lastF l k te)
      rw [HLF.out] at hwl
      have hle := HLE.out
      obtain ⟨WL, eWL⟩ : ∃ WL, winL (tdA rules l k).ts f (min (te - 1) ((tdA rules l k).er.un - 1)) = WL := ⟨_, rfl⟩
      rw [eWL] at hrow hwl
      dsimp only
      have HMI4 := Lib.hid HIN.out
      have eWL2 : winL (tdA rules l k).ts f (lastF l k te) = WL := by rw [HLF.out]; exact eWL
      rw [eWL2] at HMI4
      have hn15 : WL.length ≤ 1500 := by omega
      obtain ⟨A, cA, rfl⟩ := own_sliceN hrow
      have HROW := Lib.hid hrow
      have HMK4 := Lib.hid (HMK.out.keep fun b hb => hb4.block b hb)
      have HB4 := Lib.hid (HBR.out.trans (hb4.mono hzr))
      clear hrow hb4 eWL eWL2 hle hwl HLE HWI HIN HMI HMK u0 u1 u2 u3 u4 u5 u6 g3 g4
      obtain ⟨w3, rfl⟩ : ∃ x, x = wr := ⟨_, rfl⟩
      go_wp2_with fail
      go_loopw [127] (fun v127 wr => ∃ (j : Nat) (s : NS) (sv cv : Value), j ≤ WL.length ∧ v127 = .int .i64 j ∧ Hid (MInv F s ((WL.drop j).map (fun t => (t, tdTy (tdA rules l k) t)) ++ R)) ∧ Hid (Mk wr M b0 sv cv s) ∧ Hid (Below W5.heap.size W5 wr) ∧ Hid (KeepI w4 wr)) (fun v127 _ => WL.length - (intOf v127).toNat)
      case atStart => exact ⟨0, s, sv, cv, Nat.zero_le _, rfl, HMI4, HMK4, HB4, Lib.hid (KeepI.refl _)⟩
      case round =>
        clear HMI4 HMK4
        obtain ⟨j, s, sv, cv, hj, rfl, HMI, HMK, HBR, HKI⟩ := hrel
        have hzr := HBR.out.size
        have hgr : g < wr.heap.size := by omega
        by_cases hjn : j < WL.length
        · obtain ⟨hns, HM2⟩ := minv_next (X := tdTy (tdA rules l k)) hjn HMI.out
          have HNS := Lib.hid hns
          have HM3 := Lib.hid HM2
          obtain ⟨g2, rfl, hc2, hg2, hx⟩ := int_cell (int_row HROW.out HKI.out) hjn
          obtain ⟨a, ea⟩ : ∃ a, WL[j] = a := ⟨_, rfl⟩
          rw [ea] at hx HM3
          have HTA := Lib.hid ((HUSE.out wr HBR.out k hk).tdat a)
          obtain ⟨x1, ex1⟩ : ∃ x1, tdTy (tdA rules l k) a = x1 := ⟨_, rfl⟩
          rw [ex1] at HM3 HTA
          obtain ⟨u0, u1, u2, u3, u4, u5, u6, -, -⟩ := HUSE.out wr HBR.out k hk
          have hjz : (j : Int) < (WL.length : Int) := by omega
          have hjp : (0 : Int) ≤ (j : Int) := Int.natCast_nonneg _
          clear hns HM2 ea ex1 HMI
          go_wp2_with fail
          refine HTA.out.mono ?_
          rintro e w5 ⟨rfl, hb5⟩
          have HMK5 := Lib.hid (HMK.out.keep fun b hb => hb5.block b hb)
          have HB5 := Lib.hid (HBR.out.trans (hb5.mono hzr))
          have HKI5 := Lib.hid (HKI.out.trans (KeepI.below hb5))
          have hb05w : b0 ≤ w5.heap.size := by have h1 := HMK5.out.hM; have h2 := HMK5.out.lt; omega
          have HCH := Lib.hid (ChangeK_any M b0 sv cv s a x1 w5 HMK5.out hb05w HNS.out)
          clear HTA HMK hb5 hx HKI u0 u1 u2 u3 u4 u5 u6
          go_wp2_with fail
          refine HCH.out.mono ?_
          rintro e w6 ⟨rfl, ⟨sv6, cv6, hm6⟩, hb6, hk6⟩
          have HM6 := Lib.hid hm6
          have HB6 := Lib.hid (HB5.out.trans (hb6.mono hb05))
          have HKI6 := Lib.hid (HKI5.out.trans (change_int HMK5.out hk6))
          clear hm6 hb6 hk6 HCH
          go_wp2_with fail
          go_roundw
          case rel => exact ⟨j + 1, _, sv6, cv6, hjn, by go_num, HM3, HM6, HB6, HKI6⟩
          case measure => simp [intOf]; omega
        · obtain rfl : j = WL.length := by omega
          have HR0 := Lib.hid (minv_rest (X := tdTy (tdA rules l k)) hjn HMI.out)
          clear HMI HROW HKI hjn HB4
          obtain ⟨u0, u1, u2, u3, u4, u5, u6, -, -⟩ := HUSE.out wr HBR.out k hk
          obtain ⟨g3, g4⟩ := SPAN.out wr HBR.out
          have hke : ¬ (k : Int) = (l.length : Int) - 1 := by omega
          by_cases hge : te ≤ (tdA rules l k).er.un
          · go_wp2_with fail
            go_quiet (fail)
            obtain ⟨w7, e7⟩ : ∃ w7, wr.drewN nq = w7 := ⟨_, rfl⟩
            have HB7 : Hid (Below W5.heap.size W5 w7) := by rw [← e7]; exact below_drewNm HBR.out _
            have HMK7 : Hid (Mk w7 M b0 sv cv s) := by rw [← e7]; exact HMK.out.keep fun b hb => rfl
            rw [e7]
            have hz7 := HB7.out.size
            clear e7 HMK HBR
            have hR := HR1.out (.inr (by rw [← HER.out]; exact hge))
            rw [hR] at HR0
            have hsF := HR0.out.done
            rw [hsF] at HMK7
            clear hsF
            have hMl : M < w7.heap.size := HMK7.out.lt
            have HRT := Lib.hid HMK7.out.rowT
            have HRC := Lib.hid HMK7.out.rowC
            obtain ⟨A1, C1, rfl⟩ := own_sliceN HRT.out
            obtain ⟨A2, C2, rfl⟩ := own_sliceN HRC.out
            obtain ⟨m0, m1, m2, -, -, -, mz⟩ := mkCells HMK7.out.blk
            clear hR HR0 HR1 HR2 u0 u1 u2 u3 u4 u5 u6 g3 g4 HMK7
            by_cases h1 : 250 < F.types.length
            · have h1z : (250 : Int) < (F.types.length : Int) := by omega
              have hS : S = (2, zTab) := by rw [HSF.out, if_pos (by omega)]
              have HS1 := Lib.hid hS
              clear hS HSF
              go_wp2_with fail
              refine (MakeNone_any 2 _).mono ?_
              rintro e w9 ⟨rfl, hb9⟩
              have HB9 := Lib.hid (HB7.out.trans (hb9.mono hz7))
              obtain ⟨r0, r1, r2, f0, f1, f2⟩ := RES.out w9 HB9.out
              clear hb9 m0 m1 m2
              go_wp2_with fail
              obtain ⟨W9, e9, v0, v1, v2, hP⟩ := FIN.out w9 (2, zTab) (.slice none 0 0) (.slice none 0 0) HB9.out HS1.out (World.ownsRow_nil _ _ _ _) (World.ownsRow_nil _ _ _ _)
              rw [e9]
              exact bodyPost_ret (v := .tuple #[.agg #[.slice none 0 0, .int .i64 0, .slice none 0 0], .int .i64 2]) (by simp [results, Tryz.results19, go_sem, v0, v1, v2]) rfl hP
            · have h1z : ¬ (250 : Int) < (F.types.length : Int) := by omega
              by_cases h2 : 1000 < F.chs.length
              · have h2z : (1000 : Int) < (F.chs.length : Int) := by omega
                have hS : S = (2, zTab) := by rw [HSF.out, if_pos (by omega)]
                have HS1 := Lib.hid hS
                clear hS HSF
                go_wp2_with fail
                refine (MakeNone_any 2 _).mono ?_
                rintro e w9 ⟨rfl, hb9⟩
                have HB9 := Lib.hid (HB7.out.trans (hb9.mono hz7))
                obtain ⟨r0, r1, r2, f0, f1, f2⟩ := RES.out w9 HB9.out
                clear hb9 m0 m1 m2
                go_wp2_with fail
                obtain ⟨W9, e9, v0, v1, v2, hP⟩ := FIN.out w9 (2, zTab) (.slice none 0 0) (.slice none 0 0) HB9.out HS1.out (World.ownsRow_nil _ _ _ _) (World.ownsRow_nil _ _ _ _)
                rw [e9]
                exact bodyPost_ret (v := .tuple #[.agg #[.slice none 0 0, .int .i64 0, .slice none 0 0], .int .i64 2]) (by simp [results, Tryz.results19, go_sem, v0, v1, v2]) rfl hP
              · have h2z : ¬ (1000 : Int) < (F.chs.length : Int) := by omega
                have hS : S = (0, ⟨F.types, 0, F.chs⟩) := by rw [HSF.out, if_neg (by omega)]
                have HS1 := Lib.hid hS
                obtain ⟨r0, r1, r2, f0, f1, f2⟩ := RES.out w7 HB7.out
                clear hS HSF
                go_wp2_with fail
                obtain ⟨W9, e9, v0, v1, v2, hP⟩ := FIN.out w7 (0, ⟨F.types, 0, F.chs⟩) (.slice A1 F.types.length C1) (.slice A2 F.chs.length C2) HB7.out HS1.out (own_less HRT.out hb05) (own_less HRC.out hb05)
                rw [e9]
                exact bodyPost_ret (v := .tuple #[.agg #[.slice A1 F.types.length C1, .int .i64 0, .slice A2 F.chs.length C2], .int .i64 0]) (by simp [results, Tryz.results19, go_sem, v0, v1, v2]) rfl hP
          · go_wp2_with fail
            go_quiet (fail)
            obtain ⟨w7, e7⟩ : ∃ w7, wr.drewN nq = w7 := ⟨_, rfl⟩
            have HB7 : Hid (Below W5.heap.size W5 w7) := by rw [← e7]; exact below_drewNm HBR.out _
            have HMK7 : Hid (Mk w7 M b0 sv cv s) := by rw [← e7]; exact HMK.out.keep fun b hb => rfl
            rw [e7]
            have hz7 := HB7.out.size
            clear e7 HMK HBR
            have hR := HR2.out (by rw [← HER.out]; omega)
            rw [hR, ← HER.out] at HR0
            have hnm0 := HR0.out.small
            have HST := Lib.hid HR0.out.step
            obtain ⟨x1, ex1⟩ : ∃ x1, tdTy (tdA rules l (k + 1)) (tdA rules l k).er.un = x1 := ⟨_, rfl⟩
            rw [ex1] at HST
            have HSN := Lib.hid HST.out.small
            have HTJ : Hid (TJ W5 M b0 s ((tdA rules l k).er.un, x1) w7) := ⟨HB7.out, s, sv, cv, .inl rfl, hnm0, HMK7.out⟩
            have KS : Hid (∀ wx, TJ W5 M b0 s ((tdA rules l k).er.un, x1) wx → TJ W5 M b0 s ((tdA rules l k).er.un, x1) wx ∧ wx.cell? ⟨g, k * 7 + 4, none⟩ = some (.int .i64 (tdA rules l k).er.un) ∧ wx.cell? ⟨g, (k + 1) * 7, none⟩ = some (.int .i64 (tdA rules l (k + 1)).er.off) ∧ wx.cell? ⟨g, (k + 1) * 7 + 1, none⟩ = some (.string (tdA rules l (k + 1)).er.ru) ∧ wx.cell? ⟨g, (k + 1) * 7 + 2, none⟩ = some (.int .i64 (tdA rules l (k + 1)).er.sv) ∧ wx.cell? ⟨g, (k + 1) * 7 + 3, none⟩ = some (.string (tdA rules l (k + 1)).er.fm) ∧ wx.cell? ⟨g, (k + 1) * 7 + 4, none⟩ = some (.int .i64 (tdA rules l (k + 1)).er.un) ∧ wx.cell? ⟨g, (k + 1) * 7 + 5, none⟩ = some (.slice (P (k + 1)).1 (P (k + 1)).2.1 (P (k + 1)).2.2) ∧ wx.cell? ⟨g, (k + 1) * 7 + 6, none⟩ = some (.string (tdA rules l (k + 1)).fst)) := by
              show ∀ wx, _
              intro wx hb
              obtain ⟨-, -, -, -, v4, -, -, -, -⟩ := HUSE.out wx hb.b k hk
              obtain ⟨y0, y1, y2, y3, y4, y5, y6, -, -⟩ := HUSE.out wx hb.b (k + 1) hlast
              exact ⟨hb, v4, y0, y1, y2, y3, y4, y5, y6⟩
            have KR : Hid (∀ wx, TJ W5 M b0 s ((tdA rules l k).er.un, x1) wx ∧ wx.cell? ⟨g, k * 7 + 4, none⟩ = some (.int .i64 (tdA rules l k).er.un) ∧ wx.cell? ⟨g, (k + 1) * 7, none⟩ = some (.int .i64 (tdA rules l (k + 1)).er.off) ∧ wx.cell? ⟨g, (k + 1) * 7 + 1, none⟩ = some (.string (tdA rules l (k + 1)).er.ru) ∧ wx.cell? ⟨g, (k + 1) * 7 + 2, none⟩ = some (.int .i64 (tdA rules l (k + 1)).er.sv) ∧ wx.cell? ⟨g, (k + 1) * 7 + 3, none⟩ = some (.string (tdA rules l (k + 1)).er.fm) ∧ wx.cell? ⟨g, (k + 1) * 7 + 4, none⟩ = some (.int .i64 (tdA rules l (k + 1)).er.un) ∧ wx.cell? ⟨g, (k + 1) * 7 + 5, none⟩ = some (.slice (P (k + 1)).1 (P (k + 1)).2.1 (P (k + 1)).2.2) ∧ wx.cell? ⟨g, (k + 1) * 7 + 6, none⟩ = some (.string (tdA rules l (k + 1)).fst) → TJ W5 M b0 s ((tdA rules l k).er.un, x1) wx) := fun wx h => h.1
            have HTA : Hid (∀ wx, TJ W5 M b0 s ((tdA rules l k).er.un, x1) wx → Calls Tryz.prog 37 #[.agg (tdCells (tdA rules l (k + 1)) (.slice (P (k + 1)).1 (P (k + 1)).2.1 (P (k + 1)).2.2)), .int .i64 (tdA rules l k).er.un] wx fun e w' => e = .returned (tyV x1) ∧ TJ W5 M b0 s ((tdA rules l k).er.un, x1) w') := by
              show ∀ wx, _
              intro wx hb
              refine ((HUSE.out wx hb.b (k + 1) hlast).tdat (tdA rules l k).er.un).mono fun e w' h => ?_
              rw [ex1] at h
              exact ⟨h.1, hb.next h.2⟩
            have HCA : Hid (∀ wx, TJ W5 M b0 s ((tdA rules l k).er.un, x1) wx → Calls Tryz.prog 42 #[.pointer (some ⟨M, 0, none⟩), .int .i64 (tdA rules l k).er.un, tyV x1] wx fun e w' => e = .returned (.tuple #[]) ∧ TJ W5 M b0 s ((tdA rules l k).er.un, x1) w' ∧ MkD M b0 s ((tdA rules l k).er.un, x1) w') := by
              show ∀ wx, _
              intro wx hb
              exact hb.change HSN.out hb05
            obtain ⟨-, v4, y0, y1, y2, y3, y4, y5, y6⟩ := KS.out w7 HTJ.out
            have huw2 : IntKind.i64.wrap ((tdA rules l k).er.un + 1) = (tdA rules l k).er.un + 1 := IntWalk.i64_in _ (by omega)
            have hkw : IntKind.i64.wrap ((k : Int) + 1) = (k : Int) + 1 := IntWalk.i64_in _ (by omega)
            have hkz1 : (k : Int) + 1 < (l.length : Int) := by omega
            have hkp1 : (0 : Int) ≤ (k : Int) + 1 := by omega
            have hgr7 : g < w7.heap.size := by omega
            have hkb : ((k : Int) == (l.length : Int) - 1) = false := by simpa using hke
            clear hR HR0 HR1 HR2 u0 u1 u2 u3 u4 u5 u6 g3 g4 HMK7 hnm0 HB7 ex1 HER HLF hl1 huw HUN
            go_wp2_with fail
            all_goals try (exfalso; first | omega | (rename _ ∨ _ => hh; rcases hh with hh | hh <;> first | omega | (rw [hkb] at hh; cases hh)))
            go_region_held3 (fun wx => TJ W5 M b0 s ((tdA rules l k).er.un, x1) wx ∧ wx.cell? ⟨g, k * 7 + 4, none⟩ = some (.int .i64 (tdA rules l k).er.un) ∧ wx.cell? ⟨g, (k + 1) * 7, none⟩ = some (.int .i64 (tdA rules l (k + 1)).er.off) ∧ wx.cell? ⟨g, (k + 1) * 7 + 1, none⟩ = some (.string (tdA rules l (k + 1)).er.ru) ∧ wx.cell? ⟨g, (k + 1) * 7 + 2, none⟩ = some (.int .i64 (tdA rules l (k + 1)).er.sv) ∧ wx.cell? ⟨g, (k + 1) * 7 + 3, none⟩ = some (.string (tdA rules l (k + 1)).er.fm) ∧ wx.cell? ⟨g, (k + 1) * 7 + 4, none⟩ = some (.int .i64 (tdA rules l (k + 1)).er.un) ∧ wx.cell? ⟨g, (k + 1) * 7 + 5, none⟩ = some (.slice (P (k + 1)).1 (P (k + 1)).2.1 (P (k + 1)).2.2) ∧ wx.cell? ⟨g, (k + 1) * 7 + 6, none⟩ = some (.string (tdA rules l (k + 1)).fst)) ((refine KS.out _ ?_; repeat (first | (with_reducible assumption) | (with_reducible exact HTJ.out) | (with_reducible refine TJ.drew ?_)))) (first
              | (go_at_call 37; refine (HTA.out _ (KR.out _ (by assumption))).mono ?_; rintro e w8 ⟨rfl, hj8⟩)
              | (go_at_call 42; refine (HCA.out _ (KR.out _ (by assumption))).mono ?_; rintro e w9 ⟨rfl, hj9, hd9⟩))
            go_wp2_with fail
            obtain ⟨sv9, cv9, hm9⟩ := hd9
            go_roundw
            case rel => exact ⟨k + 1, (tdA rules l k).er.un + 1, _, sv9, cv9, hlast, by go_num, rfl, HST, Lib.hid hm9, Lib.hid hj9.b⟩
            case measure => simp [intOf]; omega
    · have hl1 : ¬ (k : Int) < (l.length : Int) - 1 := by omega
      have HLF : Hid (lastF l k te = te - 1) := by show _ = _; unfold lastF; rw [if_neg hlast]
      go_upto_region 25 with fail
      have HWI := Lib.hid ((HUSE.out wr HBR.out k hk).win f (lastF l k te))
      have HLE := Lib.hid ((HUSE.out wr HBR.out k hk).len)
      rw [HLF.out] at HWI
      go_wp2_with fail
      refine HWI.out.mono ?_
      rintro e w4 ⟨vo, rfl, hrow, hb4⟩
      have hwl := winL_le (tdA rules l k).ts f (lastF l k te)
      rw [HLF.out] at hwl
      have hle := HLE.out
      obtain ⟨WL, eWL⟩ : ∃ WL, winL (tdA rules l k).ts f (te - 1) = WL := ⟨_, rfl⟩
      rw [eWL] at hrow hwl
      dsimp only
      have HMI4 := Lib.hid HIN.out
      have eWL2 : winL (tdA rules l k).ts f (lastF l k te) = WL := by rw [HLF.out]; exact eWL
      rw [eWL2] at HMI4
      have hn15 : WL.length ≤ 1500 := by omega
      obtain ⟨A, cA, rfl⟩ := own_sliceN hrow
      have HROW := Lib.hid hrow
      have HMK4 := Lib.hid (HMK.out.keep fun b hb => hb4.block b hb)
      have HB4 := Lib.hid (HBR.out.trans (hb4.mono hzr))
      clear hrow hb4 eWL eWL2 hle hwl HLE HWI HIN HMI HMK u0 u1 u2 u3 u4 u5 u6 g3 g4
      obtain ⟨w3, rfl⟩ : ∃ x, x = wr := ⟨_, rfl⟩
      go_wp2_with fail
      go_loopw [127] (fun v127 wr => ∃ (j : Nat) (s : NS) (sv cv : Value), j ≤ WL.length ∧ v127 = .int .i64 j ∧ Hid (MInv F s ((WL.drop j).map (fun t => (t, tdTy (tdA rules l k) t)) ++ R)) ∧ Hid (Mk wr M b0 sv cv s) ∧ Hid (Below W5.heap.size W5 wr) ∧ Hid (KeepI w4 wr)) (fun v127 _ => WL.length - (intOf v127).toNat)
      case atStart => exact ⟨0, s, sv, cv, Nat.zero_le _, rfl, HMI4, HMK4, HB4, Lib.hid (KeepI.refl _)⟩
      case round =>
        clear HMI4 HMK4
        obtain ⟨j, s, sv, cv, hj, rfl, HMI, HMK, HBR, HKI⟩ := hrel
        have hzr := HBR.out.size
        have hgr : g < wr.heap.size := by omega
        by_cases hjn : j < WL.length
        · obtain ⟨hns, HM2⟩ := minv_next (X := tdTy (tdA rules l k)) hjn HMI.out
          have HNS := Lib.hid hns
          have HM3 := Lib.hid HM2
          obtain ⟨g2, rfl, hc2, hg2, hx⟩ := int_cell (int_row HROW.out HKI.out) hjn
          obtain ⟨a, ea⟩ : ∃ a, WL[j] = a := ⟨_, rfl⟩
          rw [ea] at hx HM3
          have HTA := Lib.hid ((HUSE.out wr HBR.out k hk).tdat a)
          obtain ⟨x1, ex1⟩ : ∃ x1, tdTy (tdA rules l k) a = x1 := ⟨_, rfl⟩
          rw [ex1] at HM3 HTA
          obtain ⟨u0, u1, u2, u3, u4, u5, u6, -, -⟩ := HUSE.out wr HBR.out k hk
          have hjz : (j : Int) < (WL.length : Int) := by omega
          have hjp : (0 : Int) ≤ (j : Int) := Int.natCast_nonneg _
          clear hns HM2 ea ex1 HMI
          go_wp2_with fail
          refine HTA.out.mono ?_
          rintro e w5 ⟨rfl, hb5⟩
          have HMK5 := Lib.hid (HMK.out.keep fun b hb => hb5.block b hb)
          have HB5 := Lib.hid (HBR.out.trans (hb5.mono hzr))
          have HKI5 := Lib.hid (HKI.out.trans (KeepI.below hb5))
          have hb05w : b0 ≤ w5.heap.size := by have h1 := HMK5.out.hM; have h2 := HMK5.out.lt; omega
          have HCH := Lib.hid (ChangeK_any M b0 sv cv s a x1 w5 HMK5.out hb05w HNS.out)
          clear HTA HMK hb5 hx HKI u0 u1 u2 u3 u4 u5 u6
          go_wp2_with fail
          refine HCH.out.mono ?_
          rintro e w6 ⟨rfl, ⟨sv6, cv6, hm6⟩, hb6, hk6⟩
          have HM6 := Lib.hid hm6
          have HB6 := Lib.hid (HB5.out.trans (hb6.mono hb05))
          have HKI6 := Lib.hid (HKI5.out.trans (change_int HMK5.out hk6))
          clear hm6 hb6 hk6 HCH
          go_wp2_with fail
          go_roundw
          case rel => exact ⟨j + 1, _, sv6, cv6, hjn, by go_num, HM3, HM6, HB6, HKI6⟩
          case measure => simp [intOf]; omega
        · obtain rfl : j = WL.length := by omega
          have HR0 := Lib.hid (minv_rest (X := tdTy (tdA rules l k)) hjn HMI.out)
          clear HMI HROW HKI hjn HB4
          obtain ⟨u0, u1, u2, u3, u4, u5, u6, -, -⟩ := HUSE.out wr HBR.out k hk
          obtain ⟨g3, g4⟩ := SPAN.out wr HBR.out
          have hke : (k : Int) = (l.length : Int) - 1 := by omega
          go_wp2_with fail
          go_quiet (fail)
          obtain ⟨w7, e7⟩ : ∃ w7, wr.drewN nq = w7 := ⟨_, rfl⟩
          have HB7 : Hid (Below W5.heap.size W5 w7) := by rw [← e7]; exact below_drewNm HBR.out _
          have HMK7 : Hid (Mk w7 M b0 sv cv s) := by rw [← e7]; exact HMK.out.keep fun b hb => rfl
          rw [e7]
          have hz7 := HB7.out.size
          clear e7 HMK HBR
          have hR := HR1.out (.inl (by omega))
          rw [hR] at HR0
          have hsF := HR0.out.done
          rw [hsF] at HMK7
          clear hsF
          have hMl : M < w7.heap.size := HMK7.out.lt
          have HRT := Lib.hid HMK7.out.rowT
          have HRC := Lib.hid HMK7.out.rowC
          obtain ⟨A1, C1, rfl⟩ := own_sliceN HRT.out
          obtain ⟨A2, C2, rfl⟩ := own_sliceN HRC.out
          obtain ⟨m0, m1, m2, -, -, -, mz⟩ := mkCells HMK7.out.blk
          clear hR HR0 HR1 HR2 u0 u1 u2 u3 u4 u5 u6 g3 g4 HMK7
          by_cases h1 : 250 < F.types.length
          · have h1z : (250 : Int) < (F.types.length : Int) := by omega
            have hS : S = (2, zTab) := by rw [HSF.out, if_pos (by omega)]
            have HS1 := Lib.hid hS
            clear hS HSF
            go_wp2_with fail
            refine (MakeNone_any 2 _).mono ?_
            rintro e w9 ⟨rfl, hb9⟩
            have HB9 := Lib.hid (HB7.out.trans (hb9.mono hz7))
            obtain ⟨r0, r1, r2, f0, f1, f2⟩ := RES.out w9 HB9.out
            clear hb9 m0 m1 m2
            go_wp2_with fail
            obtain ⟨W9, e9, v0, v1, v2, hP⟩ := FIN.out w9 (2, zTab) (.slice none 0 0) (.slice none 0 0) HB9.out HS1.out (World.ownsRow_nil _ _ _ _) (World.ownsRow_nil _ _ _ _)
            rw [e9]
            exact bodyPost_ret (v := .tuple #[.agg #[.slice none 0 0, .int .i64 0, .slice none 0 0], .int .i64 2]) (by simp [results, Tryz.results19, go_sem, v0, v1, v2]) rfl hP
          · have h1z : ¬ (250 : Int) < (F.types.length : Int) := by omega
            by_cases h2 : 1000 < F.chs.length
            · have h2z : (1000 : Int) < (F.chs.length : Int) := by omega
              have hS : S = (2, zTab) := by rw [HSF.out, if_pos (by omega)]
              have HS1 := Lib.hid hS
              clear hS HSF
              go_wp2_with fail
              refine (MakeNone_any 2 _).mono ?_
              rintro e w9 ⟨rfl, hb9⟩
              have HB9 := Lib.hid (HB7.out.trans (hb9.mono hz7))
              obtain ⟨r0, r1, r2, f0, f1, f2⟩ := RES.out w9 HB9.out
              clear hb9 m0 m1 m2
              go_wp2_with fail
              obtain ⟨W9, e9, v0, v1, v2, hP⟩ := FIN.out w9 (2, zTab) (.slice none 0 0) (.slice none 0 0) HB9.out HS1.out (World.ownsRow_nil _ _ _ _) (World.ownsRow_nil _ _ _ _)
              rw [e9]
              exact bodyPost_ret (v := .tuple #[.agg #[.slice none 0 0, .int .i64 0, .slice none 0 0], .int .i64 2]) (by simp [results, Tryz.results19, go_sem, v0, v1, v2]) rfl hP
            · have h2z : ¬ (1000 : Int) < (F.chs.length : Int) := by omega
              have hS : S = (0, ⟨F.types, 0, F.chs⟩) := by rw [HSF.out, if_neg (by omega)]
              have HS1 := Lib.hid hS
              obtain ⟨r0, r1, r2, f0, f1, f2⟩ := RES.out w7 HB7.out
              clear hS HSF
              go_wp2_with fail
              obtain ⟨W9, e9, v0, v1, v2, hP⟩ := FIN.out w7 (0, ⟨F.types, 0, F.chs⟩) (.slice A1 F.types.length C1) (.slice A2 F.chs.length C2) HB7.out HS1.out (own_less HRT.out hb05) (own_less HRC.out hb05)
              rw [e9]
              exact bodyPost_ret (v := .tuple #[.agg #[.slice A1 F.types.length C1, .int .i64 0, .slice A2 F.chs.length C2], .int .i64 0]) (by simp [results, Tryz.results19, go_sem, v0, v1, v2]) rfl hP
end Go.Proofs.YthggojpdcgcmaaaGreatDoor
