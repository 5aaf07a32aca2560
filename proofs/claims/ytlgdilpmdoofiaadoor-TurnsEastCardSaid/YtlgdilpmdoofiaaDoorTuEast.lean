/- TurnsEast: the plain law and the walk. -/
import Derived.Test.YtlgdilpmdoofiaaDoorTuRise
import Derived.Test.YtlgdilpmdoofiaaDoorRest0
namespace Go.Proofs.YtlgdilpmdoofiaaDoor
open Go.RowKit Go.Joins
open Classical
set_option linter.unusedVariables false
set_option linter.unusedSimpArgs false

def shT (d : Int) (t : Tn) : Tn := ⟨t.a + d, t.s, t.lt⟩
theorem outF_none {off save : Int} {last : Option Int} {x : Int × Ru} {r : List (Int × Ru)} (h : lastB off save x last = true) : outF off save last (x :: r) = none := by
  have e : outF off save last (x :: r) = if lastB off save x last = true then none else (outF off x.2.sv (some (clkT off save x)) r).map fun l => ⟨clkT off save x, x.2.sv, x.2.lt⟩ :: l := outF_cons ..
  rw [e, if_pos h]
theorem outF_go {off save : Int} {last : Option Int} {x : Int × Ru} {r : List (Int × Ru)} (h : lastB off save x last = false) : outF off save last (x :: r) = (outF off x.2.sv (some (clkT off save x)) r).map fun l => ⟨clkT off save x, x.2.sv, x.2.lt⟩ :: l := by
  have e : outF off save last (x :: r) = if lastB off save x last = true then none else (outF off x.2.sv (some (clkT off save x)) r).map fun l => ⟨clkT off save x, x.2.sv, x.2.lt⟩ :: l := outF_cons ..
  rw [e, if_neg (by rw [h]; simp)]
theorem outF_shift (x y d : Int) : ∀ (S : List (Int × Ru)) (save : Int) (last : Option Int), (∀ p ∈ S, ∀ save, clkT y save p = clkT x save p + d) → outF y save (last.map (· + d)) S = (outF x save last S).map (List.map (shT d)) := by
  intro S
  induction S with
  | nil => intro save last _; rfl
  | cons p r ih =>
    intro save last h
    have h0 := h p (List.mem_cons_self ..)
    have hl : lastB y save p (last.map (· + d)) = lastB x save p last := by
      cases last with
      | none => rfl
      | some m =>
        show decide (clkT y save p ≤ m + d) = decide (clkT x save p ≤ m)
        rw [h0]
        by_cases g : clkT x save p ≤ m
        · rw [decide_eq_true g, decide_eq_true (by omega)]
        · rw [decide_eq_false g, decide_eq_false (by omega)]
    cases hb : lastB x save p last with
    | true => rw [outF_none (hl.trans hb), outF_none hb]; rfl
    | false =>
      rw [outF_go (hl.trans hb), outF_go hb, h0]
      have e := ih p.2.sv (some (clkT x save p)) fun q hq => h q (List.mem_cons_of_mem _ hq)
      rw [show (some (clkT x save p)).map (· + d) = some (clkT x save p + d) from rfl] at e
      rw [e, Option.map_map, Option.map_map]
      rfl
theorem nomsOf_mem {rules : List Ru} {nm : ByteArray} {p : Int × Ru} (h : p ∈ srt (nomsOf dayN rules nm)) : p.2 ∈ rules ∧ p.2.nm = nm := by
  have h := List.mem_mergeSort.1 h
  unfold nomsOf at h
  obtain ⟨r, hr, hx⟩ := List.mem_flatMap.1 h
  unfold nomOf at hx
  obtain ⟨i, -, rfl⟩ := List.mem_map.1 hx
  have := List.mem_filter.1 hr
  exact ⟨this.1, by simpa using this.2⟩
theorem mkR_shift {rules : List Ru} {nm : ByteArray} {x y d : Int} (h : ∀ r ∈ rules, r.nm = nm → ∀ a save, clkT y save (a, r) = clkT x save (a, r) + d) : mkR rules nm y = ((mkR rules nm x).1, (mkR rules nm x).2.map (shT d)) := by
  have e := outF_shift x y d (srt (nomsOf dayN rules nm)) 0 none fun p hp save => h p.2 (nomsOf_mem hp).1 (nomsOf_mem hp).2 p.1 save
  rw [show (none : Option Int).map (· + d) = none from rfl] at e
  unfold mkR
  split
  · rfl
  · split
    · rfl
    · rw [e]
      cases outF x 0 none (srt (nomsOf dayN rules nm)) <;> rfl
theorem ofR_shift {b : Bk} {nm : ByteArray} {x y d : Int} (hx : ¬ (x < -64800 ∨ 64800 < x)) (hy : ¬ (y < -64800 ∨ 64800 < y)) (h : ∀ r ∈ b.rules, r.nm = nm → ∀ a save, clkT y save (a, r) = clkT x save (a, r) + d) : ofR b nm y = ((ofR b nm x).1, (ofR b nm x).2.map (shT d)) := by
  by_cases hc : bkChk b = 0
  · rw [ofR_mk hc hx, ofR_mk hc hy]; exact mkR_shift h
  · rw [ofR_bad hc, ofR_bad hc]; rfl
theorem clk_wall {r : Ru} (o : 0 ≤ r.ck ∧ r.ck ≤ 2) (h : r.ck ≠ 2) (x y a save : Int) : clkT y save (a, r) = clkT x save (a, r) + (x - y) := by
  unfold clkT
  simp only
  by_cases h0 : r.ck = 0
  · rw [if_pos h0, if_pos h0]; omega
  · rw [if_neg h0, if_neg h0, if_pos (by omega), if_pos (by omega)]; omega
theorem clk_univ {r : Ru} (h : r.ck = 2) (x y a save : Int) : clkT y save (a, r) = clkT x save (a, r) + 0 := by
  unfold clkT
  simp only
  rw [if_neg (by omega), if_neg (by omega), if_neg (by omega), if_neg (by omega), Int.add_zero]
def wallB (rules : List Ru) (nm : ByteArray) : Bool := rules.all fun r => if r.nm = nm then decide (r.ck ≠ 2) else true
def univB (rules : List Ru) (nm : ByteArray) : Bool := rules.all fun r => if r.nm = nm then decide (r.ck = 2) else true
/-- the law, plain -/
theorem east_law {b : Bk} {nm : ByteArray} {x y : Int} (hx : ¬ (x < -64800 ∨ 64800 < x)) (hy : ¬ (y < -64800 ∨ 64800 < y)) (h : wallB b.rules nm = true ∨ univB b.rules nm = true) :
    ofR b nm y = ((ofR b nm x).1, (ofR b nm x).2.map (shT (if univB b.rules nm = true then 0 else x - y))) := by
  by_cases hc : bkChk b = 0
  · obtain ⟨-, ok⟩ := bk_rules hc
    refine ofR_shift hx hy fun r hr hn a save => ?_
    by_cases hu : univB b.rules nm = true
    · rw [if_pos hu]
      have := List.all_eq_true.1 hu r hr
      rw [if_pos hn] at this
      exact clk_univ (by simpa using this) x y a save
    · rw [if_neg hu]
      have := List.all_eq_true.1 (h.resolve_right hu) r hr
      rw [if_pos hn] at this
      exact clk_wall ⟨(ok r hr).c1, (ok r hr).c2⟩ (by simpa using this) x y a save
  · rw [ofR_bad hc, ofR_bad hc]; rfl
theorem outF_bd {A B off : Int} (h1 : -64800 ≤ off) (h2 : off ≤ 64800) : ∀ (S : List (Int × Ru)) (save : Int) (last : Option Int) (l : List Tn), outF off save last S = some l → 0 ≤ save → save ≤ 10800 → (∀ p ∈ S, A ≤ p.1 ∧ p.1 ≤ B ∧ 0 ≤ p.2.sv ∧ p.2.sv ≤ 10800) → ∀ t ∈ l, A - 100000 ≤ t.a ∧ t.a ≤ B + 100000 := by
  intro S
  induction S with
  | nil => intro save last l h _ _ _ t ht; unfold outF at h; injection h with h; subst h; cases ht
  | cons x r ih =>
    intro save last l h s1 s2 hp t ht
    obtain ⟨-, l2, e, rfl⟩ := outF_some h
    have h0 := hp x (List.mem_cons_self ..)
    rcases List.mem_cons.1 ht with rfl | ht
    · show A - 100000 ≤ clkT off save x ∧ clkT off save x ≤ B + 100000
      unfold clkT
      split
      · omega
      · split <;> omega
    · exact ih _ _ _ e h0.2.2.1 h0.2.2.2 (fun p hp2 => hp p (List.mem_cons_of_mem _ hp2)) t ht
theorem ofR_bd {b : Bk} {nm : ByteArray} {off : Int} : ∀ t ∈ (ofR b nm off).2, -4000000000 ≤ t.a ∧ t.a ≤ 6000000000 := by
  intro t ht
  by_cases h : (ofR b nm off).1 = 0
  · obtain ⟨h1, h2⟩ := ofR_ok h
    obtain ⟨-, ok⟩ := bk_rules h1
    by_cases ho : off < -64800 ∨ 64800 < off
    · rw [ofR_1 h1 ho] at ht; cases ht
    · rw [h2] at h ht
      have := outF_bd (A := -3000000000) (B := 5000000000) (by omega) (by omega) _ _ _ _ (mkR_ok h) (by omega) (by omega) (fun p hp => by
        have hm := List.mem_mergeSort.1 hp
        obtain ⟨o, b1, b2⟩ := nomsOf_bd ok nm p hm
        exact ⟨b1, b2, o.s1, o.s2⟩) t ht
      omega
  · rw [ofR_bad2 h] at ht; cases ht
theorem wallB_snoc (l : List Ru) (r : Ru) (nm : ByteArray) : wallB (l ++ [r]) nm = (wallB l nm && (if r.nm = nm then decide (r.ck ≠ 2) else true)) := by
  unfold wallB; rw [List.all_append]; simp
theorem univB_snoc (l : List Ru) (r : Ru) (nm : ByteArray) : univB (l ++ [r]) nm = (univB l nm && (if r.nm = nm then decide (r.ck = 2) else true)) := by
  unfold univB; rw [List.all_append]; simp
end Go.Proofs.YtlgdilpmdoofiaaDoor
