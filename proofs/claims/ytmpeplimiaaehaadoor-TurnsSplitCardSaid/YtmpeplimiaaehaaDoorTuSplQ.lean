/- TurnsSplit: the plain law: a rule in two parts has the same turns. -/
import Derived.Test.YtmpeplimiaaehaaDoorQ07
import Derived.Test.YtmpeplimiaaehaaDoorQ08
namespace Go.Proofs.YtmpeplimiaaehaaDoor
open Go.RowKit Go.Joins
open Classical
set_option linter.unusedVariables false
set_option linter.unusedSimpArgs false

def loR (r : Ru) (m : Int) : Ru := ⟨r.nm, r.yf, m, r.mo, r.dk, r.dw, r.dn, r.tm, r.ck, r.sv, r.lt⟩
def hiR (r : Ru) (m : Int) : Ru := ⟨r.nm, m + 1, r.yt, r.mo, r.dk, r.dw, r.dn, r.tm, r.ck, r.sv, r.lt⟩
def barR (r : Ru) : Ru := ⟨r.nm, 0, 0, r.mo, r.dk, r.dw, r.dn, r.tm, r.ck, r.sv, r.lt⟩
def barX (x : Int × Ru) : Int × Ru := (x.1, barR x.2)
theorem outF_bar (off : Int) : ∀ (S : List (Int × Ru)) (save : Int) (last : Option Int), outF off save last (S.map barX) = outF off save last S
  | [], _, _ => rfl
  | x :: r, save, last => by
    have e : clkT off save (barX x) = clkT off save x := rfl
    rw [List.map_cons, outF_cons, outF_cons, e]
    have e2 : outF off (barX x).2.sv (some (clkT off save x)) (r.map barX) = outF off x.2.sv (some (clkT off save x)) r := outF_bar off r _ _
    rw [e2]
    rfl
theorem srt_bar (m : List (Int × Ru)) : (srt m).map barX = srt (m.map barX) := List.map_mergeSort fun a _ b _ => rfl
theorem outF_same {off : Int} {M N : List (Int × Ru)} (h : M.map barX = N.map barX) : outF off 0 none (srt M) = outF off 0 none (srt N) := by
  rw [← outF_bar off (srt M), ← outF_bar off (srt N), srt_bar, srt_bar, h]
theorem nom_split {r : Ru} {m : Int} (h1 : r.yf ≤ m) (h2 : m < r.yt) : (nomOf dayN (loR r m)).map barX ++ (nomOf dayN (hiR r m)).map barX = (nomOf dayN r).map barX := by
  unfold nomOf
  have e1 : (loR r m).yt - (loR r m).yf + 1 = m - r.yf + 1 := rfl
  have e2 : (hiR r m).yt - (hiR r m).yf + 1 = r.yt - (m + 1) + 1 := rfl
  have e3 : (r.yt - r.yf + 1).toNat = (m - r.yf + 1).toNat + (r.yt - (m + 1) + 1).toNat := by omega
  rw [e1, e2, e3, List.range_add, List.map_map, List.map_map, List.map_map, List.map_append, List.map_map]
  congr 1
  refine List.map_congr_left fun i _ => ?_
  show ((86400 * dayN (hiR r m) (m + 1 + (i : Int)) + r.tm, barR (hiR r m)) : Int × Ru) = (86400 * dayN r (r.yf + (((m - r.yf + 1).toNat + i : Nat) : Int)) + r.tm, barR r)
  have e4 : r.yf + (((m - r.yf + 1).toNat + i : Nat) : Int) = m + 1 + (i : Int) := by omega
  rw [e4]
  rfl
/-- rules with one of them in two parts -/
structure SplitOf (A B : List Ru) (r : Ru) (m : Int) (rules rules' : List Ru) : Prop where
  e : rules = A ++ r :: B
  e' : rules' = A ++ loR r m :: hiR r m :: B
  h1 : r.yf ≤ m
  h2 : m < r.yt
section
variable {A B rules rules' : List Ru} {r : Ru} {m : Int}
theorem SplitOf.any (h : SplitOf A B r m rules rules') (nm : ByteArray) : (rules'.any fun r => decide (r.nm = nm)) = rules.any fun r => decide (r.nm = nm) := by
  rw [h.e, h.e']
  simp only [List.any_append, List.any_cons]
  have e1 : (loR r m).nm = r.nm := rfl
  have e2 : (hiR r m).nm = r.nm := rfl
  rw [e1, e2]
  cases decide (r.nm = nm) <;> simp
theorem SplitOf.years (h : SplitOf A B r m rules rules') (nm : ByteArray) : yearsOf rules' nm = yearsOf rules nm := by
  unfold yearsOf
  rw [h.e, h.e', List.filter_append, List.filter_append]
  by_cases g : r.nm = nm
  · have g1 : decide ((loR r m).nm = nm) = true := decide_eq_true g
    have g2 : decide ((hiR r m).nm = nm) = true := decide_eq_true g
    have g3 : decide (r.nm = nm) = true := decide_eq_true g
    rw [List.filter_cons_of_pos (p := fun r : Ru => decide (r.nm = nm)) g1, List.filter_cons_of_pos (p := fun r : Ru => decide (r.nm = nm)) g2, List.filter_cons_of_pos (p := fun r : Ru => decide (r.nm = nm)) g3]
    simp only [List.map_append, List.map_cons, List.sum_append, List.sum_cons]
    have e1 : (loR r m).yt - (loR r m).yf + 1 = m - r.yf + 1 := rfl
    have e2 : (hiR r m).yt - (hiR r m).yf + 1 = r.yt - (m + 1) + 1 := rfl
    rw [e1, e2]
    omega
  · have g1 : ¬ decide ((loR r m).nm = nm) = true := by rw [decide_eq_true_eq]; exact g
    have g2 : ¬ decide ((hiR r m).nm = nm) = true := by rw [decide_eq_true_eq]; exact g
    have g3 : ¬ decide (r.nm = nm) = true := by rw [decide_eq_true_eq]; exact g
    rw [List.filter_cons_of_neg (p := fun r : Ru => decide (r.nm = nm)) g1, List.filter_cons_of_neg (p := fun r : Ru => decide (r.nm = nm)) g2, List.filter_cons_of_neg (p := fun r : Ru => decide (r.nm = nm)) g3]
theorem SplitOf.noms (h : SplitOf A B r m rules rules') (nm : ByteArray) : (nomsOf dayN rules' nm).map barX = (nomsOf dayN rules nm).map barX := by
  unfold nomsOf
  rw [h.e, h.e', List.filter_append, List.filter_append]
  by_cases g : r.nm = nm
  · have g1 : decide ((loR r m).nm = nm) = true := decide_eq_true g
    have g2 : decide ((hiR r m).nm = nm) = true := decide_eq_true g
    have g3 : decide (r.nm = nm) = true := decide_eq_true g
    rw [List.filter_cons_of_pos (p := fun r : Ru => decide (r.nm = nm)) g1, List.filter_cons_of_pos (p := fun r : Ru => decide (r.nm = nm)) g2, List.filter_cons_of_pos (p := fun r : Ru => decide (r.nm = nm)) g3]
    simp only [List.flatMap_append, List.flatMap_cons, List.map_append]
    rw [← nom_split h.h1 h.h2, List.append_assoc]
  · have g1 : ¬ decide ((loR r m).nm = nm) = true := by rw [decide_eq_true_eq]; exact g
    have g2 : ¬ decide ((hiR r m).nm = nm) = true := by rw [decide_eq_true_eq]; exact g
    have g3 : ¬ decide (r.nm = nm) = true := by rw [decide_eq_true_eq]; exact g
    rw [List.filter_cons_of_neg (p := fun r : Ru => decide (r.nm = nm)) g1, List.filter_cons_of_neg (p := fun r : Ru => decide (r.nm = nm)) g2, List.filter_cons_of_neg (p := fun r : Ru => decide (r.nm = nm)) g3]
theorem SplitOf.made (h : SplitOf A B r m rules rules') (nm : ByteArray) (off : Int) : mkR rules' nm off = mkR rules nm off := by
  unfold mkR
  rw [h.any nm, h.years nm, outF_same (h.noms nm)]
theorem SplitOf.first (h : SplitOf A B r m rules rules') (f : Ru → Int) (h1 : f (loR r m) = f r) (h2 : f (hiR r m) = f r) : firstE f rules' = firstE f rules := by
  rw [h.e, h.e']
  have key : ∀ A : List Ru, firstE f (A ++ loR r m :: hiR r m :: B) = firstE f (A ++ r :: B) := by
    intro A
    induction A with
    | nil =>
      show (if f (loR r m) = 0 then (if f (hiR r m) = 0 then firstE f B else f (hiR r m)) else f (loR r m)) = if f r = 0 then firstE f B else f r
      rw [h1, h2]
      by_cases g : f r = 0
      · simp [g]
      · simp [g]
    | cons a A ih =>
      show (if f a = 0 then firstE f (A ++ loR r m :: hiR r m :: B) else f a) = if f a = 0 then firstE f (A ++ r :: B) else f a
      rw [ih]
  exact key A
theorem SplitOf.abbrs (h : SplitOf A B r m rules rules') (x : Er) : abbrsChk rules' x = abbrsChk rules x := by
  unfold abbrsChk
  rw [h.first (fun r : Ru => if r.nm = x.ru then abE x.fm r.sv r.lt else 0) rfl rfl]
theorem SplitOf.era (h : SplitOf A B r m rules rules') (l : List Er) (k : Nat) : eraChk rules' l k = eraChk rules l k := by
  unfold eraChk
  dsimp only
  rw [h.abbrs, h.any]
theorem SplitOf.zone (h : SplitOf A B r m rules rules') (be : List Zo) (z : Zo) : zoneChk rules' be z = zoneChk rules be z := by
  unfold zoneChk
  have : eraChk rules' z.eras = eraChk rules z.eras := funext fun k => h.era _ k
  rw [this]
/-- a book with a rule in two parts may be -/
theorem SplitOf.book {zs : List Zo} {ls : List Lk} (h : SplitOf A B r m rules rules') (hl : rules.length ≤ 39) (hb : bkChk ⟨rules, zs, ls⟩ = 0) : bkChk ⟨rules', zs, ls⟩ = 0 := by
  have hlen : rules'.length = rules.length + 1 := by rw [h.e, h.e']; simp; omega
  have hk := bk_len hb
  have hz := bk_parts hb
  have ho := (bk_rules hb).2
  have h0 : ¬ (40 < (⟨rules', zs, ls⟩ : Bk).rules.length ∨ 20 < (⟨rules', zs, ls⟩ : Bk).zones.length ∨ 20 < (⟨rules', zs, ls⟩ : Bk).links.length) := by
    have h1 : zs.length ≤ 20 := hk.2.1
    have h2 : ls.length ≤ 20 := hk.2.2
    show ¬ (40 < rules'.length ∨ 20 < zs.length ∨ 20 < ls.length)
    omega
  have h1 : firstE ruChk (⟨rules', zs, ls⟩ : Bk).rules = 0 := by
    refine (firstE_zero _ _).2 fun x hx => ?_
    have hx : x ∈ rules' := hx
    rw [h.e'] at hx
    have hr := ho r (by show r ∈ rules; rw [h.e]; simp)
    have a1 := h.h1
    have a2 := h.h2
    have a3 := hr.f1
    have a4 := hr.f2
    have a5 := hr.t2
    rcases List.mem_append.1 hx with hx | hx
    · exact ok_ru (ho x (by show x ∈ rules; rw [h.e]; exact List.mem_append_left _ hx))
    · rcases List.mem_cons.1 hx with rfl | hx
      · exact ok_ru ⟨hr.nm, hr.lt, hr.f1, hr.f2, h.h1, by show m ≤ 2100; omega, hr.m1, hr.m2, hr.d, hr.n, hr.a1, hr.a2, hr.c1, hr.c2, hr.s1, hr.s2⟩
      · rcases List.mem_cons.1 hx with rfl | hx
        · exact ok_ru ⟨hr.nm, hr.lt, by show 1900 ≤ m + 1; omega, by show m + 1 ≤ 2100; omega, by show m + 1 ≤ r.yt; omega, hr.t2, hr.m1, hr.m2, hr.d, hr.n, hr.a1, hr.a2, hr.c1, hr.c2, hr.s1, hr.s2⟩
        · exact ok_ru (ho x (by show x ∈ rules; rw [h.e]; exact List.mem_append_right _ (List.mem_cons_of_mem _ hx)))
  have h2 : firstE (chkZ ⟨rules', zs, ls⟩) (List.range (⟨rules', zs, ls⟩ : Bk).zones.length) = 0 := by
    refine (firstE_zero _ _).2 fun i hi => ?_
    have hi := List.mem_range.1 hi
    rw [chkZ_at _ i hi]
    show zoneChk rules' _ _ = 0
    rw [h.zone]
    exact hz.1 i hi
  rw [bkChk_l _ h0 h1 h2]
  refine (firstE_zero _ _).2 fun i hi => ?_
  have hi := List.mem_range.1 hi
  rw [chkL_at _ i hi]
  exact hz.2 i hi
theorem split_law {zs : List Zo} {ls : List Lk} (h : SplitOf A B r m rules rules') (hl : rules.length ≤ 39) (hb : bkChk ⟨rules, zs, ls⟩ = 0) (nm : ByteArray) (off : Int) : ofR ⟨rules', zs, ls⟩ nm off = ofR ⟨rules, zs, ls⟩ nm off := by
  have hb' := h.book hl hb
  by_cases h1 : off < -64800 ∨ 64800 < off
  · rw [ofR_1 hb h1, ofR_1 hb' h1]
  · rw [ofR_mk hb h1, ofR_mk hb' h1]
    exact h.made nm off
end
theorem split_at (rules : List Ru) (k : Nat) (hk : k < rules.length) (m : Int) (h1 : rules[k].yf ≤ m) (h2 : m < rules[k].yt) : SplitOf (rules.take k) (rules.drop (k + 1)) rules[k] m rules (rules.take k ++ loR rules[k] m :: hiR rules[k] m :: rules.drop (k + 1)) :=
  ⟨by rw [← List.drop_eq_getElem_cons hk, List.take_append_drop], rfl, h1, h2⟩
end Go.Proofs.YtmpeplimiaaehaaDoor
