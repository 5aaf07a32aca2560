/- RiteSame: the turns of a summer's two rules: plain facts. Formats that are an abbreviation, or two of them: plain. RiteSame: the book of a summer says the same: plain. rite.Book: the book of a summer, as it lies in memory. Rows of literals. append onto a row of one's own, at a step of a region that draws: what is appended may be nothing. -/
import Derived.Test.YtacogloheiendaaGreatDoorS07
import Derived.Test.YtacogloheiendaaGreatDoorS01
import Derived.Test.YtacogloheiendaaGreatDoorS02
import Derived.Test.YtacogloheiendaaGreatDoorS03
import Derived.Deep.DeepCutAuto
import Derived.Laws.AppendOwn
import Derived.Maps.AppendAt
import Derived.RegionTactic
namespace Go.Proofs.YtacogloheiendaaGreatDoor
open Go.RowKit Go.Joins Go.Maps
open Classical
set_option linter.unusedVariables false
set_option linter.unusedSimpArgs false

def riteB : ByteArray := ⟨#[114, 105, 116, 101]⟩
/-- the rule of a rite -/
def rtRu (r : Rt) (f t sv : Int) : Ru := ⟨riteB, f, t, r.m, if r.w = 5 then 2 else 3, r.d, if r.w = 5 then 0 else 7 * r.w - 6, r.t, 0, sv, dashB⟩
theorem dayN_rt (r : Rt) (f t sv y : Int) : dayN (rtRu r f t sv) y = rDay y r := by
  unfold dayN rDay rtRu
  dsimp only
  by_cases h : r.w = 5
  · simp [h]
  · simp [h]
def prs {α : Type} (x y : Nat → α) : Nat → Nat → List α
  | _, 0 => []
  | i, n + 1 => x i :: y i :: prs x y (i + 1) n
theorem prs_perm {α : Type} (x y : Nat → α) : ∀ (n i : Nat), ((List.range' i n).map x ++ (List.range' i n).map y).Perm (prs x y i n)
  | 0, i => by simp [prs]
  | n + 1, i => by
    rw [List.range'_succ, List.map_cons, List.map_cons, List.cons_append]
    unfold prs
    exact List.Perm.cons _ (List.perm_middle.trans (List.Perm.cons _ (prs_perm x y n (i + 1))))
theorem prs_sorted {α : Type} (k : α → Int) (x y : Nat → α) : ∀ (n i : Nat), (∀ j, i ≤ j → j < i + n → k (x j) < k (y j) ∧ k (y j) < k (x (j + 1))) → (prs x y i n).Pairwise (fun a b => k a < k b) ∧ ∀ u ∈ prs x y i n, k (x i) ≤ k u
  | 0, i, h => ⟨List.Pairwise.nil, fun u hu => by cases hu⟩
  | n + 1, i, h => by
    obtain ⟨h1, h2⟩ := prs_sorted k x y n (i + 1) fun j h1 h2 => h j (by omega) (by omega)
    obtain ⟨g1, g2⟩ := h i (Nat.le_refl _) (by omega)
    unfold prs
    refine ⟨List.Pairwise.cons (fun u hu => ?_) (List.Pairwise.cons (fun u hu => ?_) h1), fun u hu => ?_⟩
    · rcases List.mem_cons.1 hu with rfl | hu
      · exact g1
      · have := h2 u hu; omega
    · have := h2 u hu; omega
    · rcases List.mem_cons.1 hu with rfl | hu
      · exact Int.le_refl _
      · rcases List.mem_cons.1 hu with rfl | hu
        · omega
        · have := h2 u hu; omega
theorem strict_inj {α : Type} (k : α → Int) {l : List α} (h : l.Pairwise (fun a b => k a < k b)) {a b : α} (ha : a ∈ l) (hb : b ∈ l) (e : k a = k b) : a = b := by
  obtain ⟨i, hi, rfl⟩ := List.getElem_of_mem ha
  obtain ⟨j, hj, rfl⟩ := List.getElem_of_mem hb
  rw [List.pairwise_iff_getElem] at h
  by_cases h1 : i < j
  · have := h i j hi hj h1; omega
  · by_cases h2 : j < i
    · have := h j i hj hi h2; omega
    · obtain rfl : i = j := by omega
      rfl
/-- a sorted row of the same moments is what sorting makes -/
theorem srt_eq {m l : List (Int × Ru)} (hp : m.Perm l) (hs : l.Pairwise (fun a b => a.1 < b.1)) : srt m = l := by
  have hm : (srt m).Perm m := List.mergeSort_perm _ _
  have hl := hm.trans hp
  refine List.Perm.eq_of_pairwise (le := fun a b : Int × Ru => a.1 ≤ b.1) (fun a b ha hb h1 h2 => ?_) ?_ (hs.imp fun h => Int.le_of_lt h) hl
  · exact strict_inj (·.1) hs (hl.mem_iff.1 ha) hb (Int.le_antisymm h1 h2)
  · have := List.pairwise_mergeSort (le := nle) (fun a b c h1 h2 => by simp only [nle, decide_eq_true_eq] at *; omega) (fun a b => by simp only [nle, Bool.or_eq_true, decide_eq_true_eq]; omega) m
    exact this.imp fun h => by simpa [nle] using h
def tnsP (off : Int) (a b : Nat → Int) (X Y : Ru) : Nat → Nat → Int → List Tn
  | _, 0, _ => []
  | i, n + 1, s0 => ⟨a i - (off + s0), X.sv, X.lt⟩ :: ⟨b i - (off + X.sv), Y.sv, Y.lt⟩ :: tnsP off a b X Y (i + 1) n Y.sv
theorem clk_0 (off s v : Int) (R : Ru) (h : R.ck = 0) : clkT off s (v, R) = v - (off + s) := by unfold clkT; rw [if_pos h]
theorem outF_consL (off save : Int) (last : Option Int) (x : Int × Ru) (r : List (Int × Ru)) : outF off save last (x :: r) = if lastB off save x last = true then none else (outF off x.2.sv (some (clkT off save x)) r).map fun l => ⟨clkT off save x, x.2.sv, x.2.lt⟩ :: l := outF_cons ..
theorem outF_prs (off : Int) (a b : Nat → Int) (X Y : Ru) (hX : X.ck = 0) (hY : Y.ck = 0) : ∀ (n i : Nat) (s0 : Int) (last : Option Int), (∀ m, last = some m → m < a i - (off + s0)) →
    (∀ j, i ≤ j → j < i + n → a j - (off + s0) < b j - (off + X.sv) ∧ a j - (off + Y.sv) < b j - (off + X.sv) ∧ b j - (off + X.sv) < a (j + 1) - (off + Y.sv)) →
    outF off s0 last (prs (fun j => (a j, X)) (fun j => (b j, Y)) i n) = some (tnsP off a b X Y i n s0)
  | 0, i, s0, last, _, _ => rfl
  | n + 1, i, s0, last, hl, h => by
    obtain ⟨g1, g2, g3⟩ := h i (Nat.le_refl _) (by omega)
    have ih := outF_prs off a b X Y hX hY n (i + 1) Y.sv (some (b i - (off + X.sv))) (fun m e => by injection e with e; omega) (fun j h1 h2 => by
      obtain ⟨f1, f2, f3⟩ := h j (by omega) (by omega)
      exact ⟨f2, f2, f3⟩)
    unfold prs tnsP
    have e1 : lastB off s0 (a i, X) last = false := by
      cases last with
      | none => rfl
      | some m =>
        have := hl m rfl
        show decide (clkT off s0 (a i, X) ≤ m) = false
        rw [clk_0 _ _ _ _ hX]
        simp only [decide_eq_false_iff_not]
        omega
    have e2 : lastB off X.sv (b i, Y) (some (clkT off s0 (a i, X))) = false := by
      show decide (clkT off X.sv (b i, Y) ≤ clkT off s0 (a i, X)) = false
      rw [clk_0 _ _ _ _ hX, clk_0 _ _ _ _ hY]
      simp only [decide_eq_false_iff_not]
      omega
    rw [outF_consL, if_neg (by rw [e1]; simp), outF_consL, if_neg (by rw [e2]; simp)]
    dsimp only
    rw [clk_0 _ _ _ _ hX, clk_0 _ _ _ _ hY, ih]
    rfl
/-- which saving holds at a time: that of the year -/
theorem tnsP_late (off : Int) (a b : Nat → Int) (X Y : Ru) (t : Int) : ∀ (n i : Nat) (s0 : Int), (∀ j, i ≤ j → j < i + n → t < a j - (off + s0) ∧ t < a j - (off + Y.sv) ∧ t < b j - (off + X.sv)) → ∀ u ∈ tnsP off a b X Y i n s0, t < u.a
  | 0, _, _, _, u, hu => by cases hu
  | n + 1, i, s0, h, u, hu => by
    unfold tnsP at hu
    obtain ⟨g1, g2, g3⟩ := h i (Nat.le_refl _) (by omega)
    rcases List.mem_cons.1 hu with rfl | hu
    · exact g1
    · rcases List.mem_cons.1 hu with rfl | hu
      · exact g3
      · exact tnsP_late off a b X Y t n (i + 1) Y.sv (fun j h1 h2 => by
          obtain ⟨f1, f2, f3⟩ := h j (by omega) (by omega)
          exact ⟨f2, f2, f3⟩) u hu
theorem fold_prs (off : Int) (a b : Nat → Int) (X Y : Ru) (t : Int) (k : Nat) : ∀ (n i : Nat) (s0 v : Int), i ≤ k → k < i + n →
    (∀ j, i ≤ j → j < k → a j - (off + Y.sv) ≤ t ∧ b j - (off + X.sv) ≤ t) →
    (∀ j, k < j → j < i + n → t < a j - (off + Y.sv) ∧ t < b j - (off + X.sv)) →
    (tnsP off a b X Y i n s0).foldl (fun s u => if u.a ≤ t then u.s else s) v =
      if b k - (off + X.sv) ≤ t then Y.sv else if a k - (off + (if k = i then s0 else Y.sv)) ≤ t then X.sv else if k = i then v else Y.sv
  | 0, i, s0, v, h1, h2, _, _ => by omega
  | n + 1, i, s0, v, h1, h2, he, hl => by
    unfold tnsP
    rw [List.foldl_cons, List.foldl_cons]
    dsimp only
    by_cases hk : k = i
    · subst hk
      rw [if_pos rfl, if_pos rfl, foldl_late (tnsP_late off a b X Y t n (k + 1) Y.sv fun j f1 f2 => by
        obtain ⟨f3, f4⟩ := hl j (by omega) (by omega)
        exact ⟨f3, f3, f4⟩)]
    · obtain ⟨g1, g2⟩ := he i (Nat.le_refl _) (by omega)
      rw [if_pos g2, fold_prs off a b X Y t k n (i + 1) Y.sv Y.sv (by omega) (by omega) (fun j h3 h4 => ?_) (fun j h3 h4 => hl j h3 (by omega))]
      · rw [if_neg hk, if_neg hk]
        simp
      · exact he j (by omega) h4
def rA (r : Rt) (f : Int) (j : Nat) : Int := 86400 * rDay (f + (j : Int)) r + r.t
theorem nomOf_rt (r : Rt) (f t sv : Int) : nomOf dayN (rtRu r f t sv) = (List.range' 0 (t - f + 1).toNat).map fun j => (rA r f j, rtRu r f t sv) := by
  unfold nomOf
  rw [List.range_eq_range']
  refine List.map_congr_left fun i _ => ?_
  show (86400 * dayN (rtRu r f t sv) (f + (i : Int)) + r.t, rtRu r f t sv) = _
  rw [dayN_rt]
  rfl
theorem noms_rt (r q : Rt) (f t d d' : Int) : nomsOf dayN [rtRu r f t d, rtRu q f t d'] riteB = nomOf dayN (rtRu r f t d) ++ nomOf dayN (rtRu q f t d') := by
  unfold nomsOf
  have e1 : (decide ((rtRu r f t d).nm = riteB)) = true := decide_eq_true rfl
  have e2 : (decide ((rtRu q f t d').nm = riteB)) = true := decide_eq_true rfl
  rw [List.filter_cons, if_pos e1, List.filter_cons, if_pos e2]
  simp
/-- where a summer's rites lie in the year -/
structure RsOk (p : Px) : Prop where
  ok : OkPx p
  m1 : 3 ≤ p.s.m
  m2 : p.s.m ≤ 10
  m3 : 3 ≤ p.e.m
  m4 : p.e.m ≤ 10
  ap : p.s.m + 2 ≤ p.e.m ∨ p.e.m + 2 ≤ p.s.m
theorem rs_in (r : Rt) (y : Int) (h1 : 1600 ≤ y) (h2 : y ≤ 2399) (hr : okRt r = true) (m1 : 3 ≤ r.m) (m2 : r.m ≤ 10) : Civ.jan1 y + 59 ≤ rDay y r ∧ rDay y r + 62 ≤ Civ.jan1 (y + 1) ∧ Civ.jan1 y + Civ.cum y r.m ≤ rDay y r ∧ rDay y r < Civ.jan1 y + Civ.cum y (r.m + 1) := by
  obtain ⟨d, hv, e, -⟩ := rDay_in y r h1 h2 hr
  obtain ⟨-, -, v1, v2, v3, v4⟩ := hv
  have e2 := Civ.days_eq y r.m d v1 v2
  have e3 := Civ.cum_succ y r.m v1 v2
  have e4 := Civ.jan1_succ y
  have e5 := Civ.lp01 y
  have e6 := Civ.mlen_bd y r.m v1 v2
  rw [e, e2]
  have e7 : 59 ≤ Civ.cum y r.m ∧ Civ.cum y (r.m + 1) + 61 ≤ 365 + Civ.lp y := by
    rcases (show r.m = 3 ∨ r.m = 4 ∨ r.m = 5 ∨ r.m = 6 ∨ r.m = 7 ∨ r.m = 8 ∨ r.m = 9 ∨ r.m = 10 by omega) with h | h | h | h | h | h | h | h <;> rw [h] <;> simp [Civ.cum] <;> omega
  omega
theorem rs_apart (r q : Rt) (y : Int) (h1 : 1600 ≤ y) (h2 : y ≤ 2399) (hr : okRt r = true) (hq : okRt q = true) (m1 : 3 ≤ r.m) (m2 : q.m ≤ 10) (h : r.m + 2 ≤ q.m) : rDay y r + 28 < rDay y q := by
  have a := rs_in r y h1 h2 hr m1 (by omega)
  have b := rs_in q y h1 h2 hq (by omega) m2
  have c := Civ.cum_mono y (r.m + 1) q.m (by omega) (by omega) (by omega)
  have c2 := Civ.mlen_bd y (r.m + 1) (by omega) (by omega)
  omega
theorem rA_gap (r q : Rt) (f : Int) (j : Nat) (h1 : 1600 ≤ f + (j : Int)) (h2 : f + (j : Int) + 1 ≤ 2399) (hr : okRt r = true) (hq : okRt q = true) (m1 : 3 ≤ r.m) (m2 : q.m ≤ 10) (h : r.m + 2 ≤ q.m) : rA r f j + 2000000 < rA q f j ∧ rA q f j + 2000000 < rA r f (j + 1) := by
  have a := rs_apart r q (f + (j : Int)) h1 (by omega) hr hq m1 m2 h
  have b := rs_in q (f + (j : Int)) h1 (by omega) hq (by omega) m2
  have e : f + ((j + 1 : Nat) : Int) = f + (j : Int) + 1 := by omega
  have c := rs_in r (f + ((j + 1 : Nat) : Int)) (by omega) (by omega) hr m1 (by omega)
  have t1 := okRt_iff.1 hr
  have t2 := okRt_iff.1 hq
  unfold rA
  rw [e] at c ⊢
  omega
theorem rs_gen (r q : Rt) (off f t dr dq : Int) (hr : okRt r = true) (hq : okRt q = true) (m1 : 3 ≤ r.m) (m2 : q.m ≤ 10) (h : r.m + 2 ≤ q.m) (a1 : 0 ≤ dr) (a2 : dr ≤ 10800) (b1 : 0 ≤ dq) (b2 : dq ≤ 10800) (f1 : 1900 ≤ f) (f2 : t ≤ 2100) :
    outF off 0 none (prs (fun j => (rA r f j, rtRu r f t dr)) (fun j => (rA q f j, rtRu q f t dq)) 0 (t - f + 1).toNat) = some (tnsP off (rA r f) (rA q f) (rtRu r f t dr) (rtRu q f t dq) 0 (t - f + 1).toNat 0) ∧
      (prs (fun j => (rA r f j, rtRu r f t dr)) (fun j => (rA q f j, rtRu q f t dq)) 0 (t - f + 1).toNat).Pairwise (fun a b => a.1 < b.1) := by
  have key : ∀ j : Nat, 0 ≤ j → j < 0 + (t - f + 1).toNat → rA r f j + 2000000 < rA q f j ∧ rA q f j + 2000000 < rA r f (j + 1) := fun j _ h2 => rA_gap r q f j (by omega) (by omega) hr hq m1 m2 h
  have s1 : (rtRu r f t dr).sv = dr := rfl
  have s2 : (rtRu q f t dq).sv = dq := rfl
  refine ⟨outF_prs off _ _ _ _ rfl rfl _ 0 0 none (fun m e => by cases e) fun j h1 h2 => ?_, (prs_sorted (fun u : Int × Ru => u.1) _ _ _ 0 fun j h1 h2 => ?_).1⟩
  · have := key j h1 h2
    rw [s1, s2]
    omega
  · have := key j h1 h2
    show rA r f j < rA q f j ∧ rA q f j < rA r f (j + 1)
    omega
def rsRules (p : Px) (f t : Int) : List Ru := [rtRu p.s f t (p.aoff - p.off), rtRu p.e f t 0]
def rsTns (p : Px) (f t : Int) : List Tn :=
  if p.s.m < p.e.m then tnsP p.off (rA p.s f) (rA p.e f) (rtRu p.s f t (p.aoff - p.off)) (rtRu p.e f t 0) 0 (t - f + 1).toNat 0
  else tnsP p.off (rA p.e f) (rA p.s f) (rtRu p.e f t 0) (rtRu p.s f t (p.aoff - p.off)) 0 (t - f + 1).toNat 0
theorem rs_mk (p : Px) (f t : Int) (h : RsOk p) (f1 : 1900 ≤ f) (f2 : t ≤ 2100) (f3 : f ≤ t) : mkR (rsRules p f t) riteB p.off = (0, rsTns p f t) := by
  have o := h.ok
  have d1 := o.a1
  have d2 := o.a2
  refine mkR_0 ?_ ?_ ?_
  · unfold rsRules
    rw [List.any_cons, decide_eq_true (show (rtRu p.s f t (p.aoff - p.off)).nm = riteB from rfl)]
    rfl
  · unfold yearsOf rsRules
    have e1 : (decide ((rtRu p.s f t (p.aoff - p.off)).nm = riteB)) = true := decide_eq_true rfl
    have e2 : (decide ((rtRu p.e f t 0).nm = riteB)) = true := decide_eq_true rfl
    rw [List.filter_cons, if_pos e1, List.filter_cons, if_pos e2]
    show ¬ 1500 < (t - f + 1) + ((t - f + 1) + 0)
    omega
  · unfold rsRules
    rw [noms_rt, nomOf_rt, nomOf_rt]
    unfold rsTns
    by_cases hm : p.s.m < p.e.m
    · rw [if_pos hm]
      have hg := rs_gen p.s p.e p.off f t (p.aoff - p.off) 0 o.s o.e h.m1 h.m4 (by have := h.ap; omega) (by omega) (by omega) (by omega) (by omega) f1 f2
      rw [srt_eq (prs_perm _ _ _ 0) hg.2]
      exact hg.1
    · rw [if_neg hm]
      have hg := rs_gen p.e p.s p.off f t 0 (p.aoff - p.off) o.e o.s h.m3 h.m2 (by have := h.ap; omega) (by omega) (by omega) (by omega) (by omega) f1 f2
      rw [srt_eq (List.perm_append_comm.trans (prs_perm _ _ _ 0)) hg.2]
      exact hg.1
/-- which saving holds: that of the summer -/
theorem rs_val (p : Px) (f t x y : Int) (h : RsOk p) (f1 : 1900 ≤ f) (f2 : t ≤ 2100) (y1 : f ≤ y) (y2 : y ≤ t) (x1 : 86400 * Civ.jan1 y ≤ x + p.off) (x2 : x + p.off < 86400 * Civ.jan1 (y + 1)) (x3 : 86400 * Civ.jan1 (f + 1) ≤ x) (hy : yOf p x = y) :
    svF (rsTns p f t) x = if sumB p x = true then p.aoff - p.off else 0 := by
  have o := h.ok
  have d1 := o.a1
  have d2 := o.a2
  have tb1 := okRt_iff.1 o.s
  have tb2 := okRt_iff.1 o.e
  have o1 := o.o1
  have o2 := o.o2
  obtain ⟨k, ek⟩ : ∃ k : Nat, f + (k : Int) = y := ⟨(y - f).toNat, by omega⟩
  have hk : k < 0 + (t - f + 1).toNat := by omega
  have bef : ∀ (r : Rt), okRt r = true → 3 ≤ r.m → r.m ≤ 10 → ∀ j : Nat, 0 ≤ j → j < k → rA r f j + 5000000 ≤ x + p.off := by
    intro r hr m1 m2 j _ hj
    have a := rs_in r (f + (j : Int)) (by omega) (by omega) hr m1 m2
    have b := Civ.jan1_mono (show f + (j : Int) + 1 ≤ y by omega)
    have t1 := okRt_iff.1 hr
    unfold rA
    omega
  have aft : ∀ (r : Rt), okRt r = true → 3 ≤ r.m → r.m ≤ 10 → ∀ j : Nat, k < j → j < 0 + (t - f + 1).toNat → x + p.off + 5000000 < rA r f j := by
    intro r hr m1 m2 j h1 h2
    have a := rs_in r (f + (j : Int)) (by omega) (by omega) hr m1 m2
    have b := Civ.jan1_mono (show y + 1 ≤ f + (j : Int) by omega)
    have t1 := okRt_iff.1 hr
    unfold rA
    omega
  have eS : rA p.s f k - p.off = tS p y := by unfold rA tS; rw [ek]
  have eE : rA p.e f k - p.aoff = tE p y := by unfold rA tE; rw [ek]
  unfold svF rsTns sumB
  rw [hy]
  unfold isS
  by_cases hm : p.s.m < p.e.m
  · have hg := rA_gap p.s p.e f k (by omega) (by omega) o.s o.e h.m1 h.m4 (by have := h.ap; omega)
    rw [if_pos hm, fold_prs p.off _ _ _ _ x k _ 0 0 0 (Nat.zero_le _) hk (fun j h1 h2 => ?_) (fun j h1 h2 => ?_)]
    · have s1 : (rtRu p.s f t (p.aoff - p.off)).sv = p.aoff - p.off := rfl
      have s2 : (rtRu p.e f t 0).sv = 0 := rfl
      rw [s1, s2]
      simp only [decide_eq_true_eq, ite_self]
      split <;> split <;> (try split) <;> omega
    · have s1 : (rtRu p.s f t (p.aoff - p.off)).sv = p.aoff - p.off := rfl
      have s2 : (rtRu p.e f t 0).sv = 0 := rfl
      rw [s1, s2]
      have := bef p.s o.s h.m1 h.m2 j h1 h2
      have := bef p.e o.e h.m3 h.m4 j h1 h2
      omega
    · have s1 : (rtRu p.s f t (p.aoff - p.off)).sv = p.aoff - p.off := rfl
      have s2 : (rtRu p.e f t 0).sv = 0 := rfl
      rw [s1, s2]
      have := aft p.s o.s h.m1 h.m2 j h1 h2
      have := aft p.e o.e h.m3 h.m4 j h1 h2
      omega
  · have hg := rA_gap p.e p.s f k (by omega) (by omega) o.e o.s h.m3 h.m2 (by have := h.ap; omega)
    rw [if_neg hm, fold_prs p.off _ _ _ _ x k _ 0 0 0 (Nat.zero_le _) hk (fun j h1 h2 => ?_) (fun j h1 h2 => ?_)]
    · have s1 : (rtRu p.s f t (p.aoff - p.off)).sv = p.aoff - p.off := rfl
      have s2 : (rtRu p.e f t 0).sv = 0 := rfl
      rw [s1, s2]
      simp only [decide_eq_true_eq]
      by_cases hk0 : k = 0
      · subst hk0
        have a := rs_in p.s (f + ((0 : Nat) : Int)) (by omega) (by omega) o.s h.m1 h.m2
        have e0 : f + ((0 : Nat) : Int) = f := by omega
        have hS : tS p y ≤ x := by
          rw [← eS]
          unfold rA
          rw [e0] at a ⊢
          omega
        rw [if_pos (by omega), if_pos (by omega)]
      · simp only [if_neg hk0]
        split <;> split <;> (try split) <;> omega
    · have s1 : (rtRu p.s f t (p.aoff - p.off)).sv = p.aoff - p.off := rfl
      have s2 : (rtRu p.e f t 0).sv = 0 := rfl
      rw [s1, s2]
      have := bef p.s o.s h.m1 h.m2 j h1 h2
      have := bef p.e o.e h.m3 h.m4 j h1 h2
      omega
    · have s1 : (rtRu p.s f t (p.aoff - p.off)).sv = p.aoff - p.off := rfl
      have s2 : (rtRu p.e f t 0).sv = 0 := rfl
      rw [s1, s2]
      have := aft p.s o.s h.m1 h.m2 j h1 h2
      have := aft p.e o.e h.m3 h.m4 j h1 h2
      omega
end Go.Proofs.YtacogloheiendaaGreatDoor
namespace Go.Proofs.YtacogloheiendaaGreatDoor
open Go.RowKit Go.Joins
open Classical
set_option linter.unusedVariables false
set_option linter.unusedSimpArgs false

theorem splitF_self {f : List UInt8} (h : abbrB (txt f) = true) : splitF f = (f, [], [], true) := by
  obtain ⟨h2, h3, h4⟩ := (abbrB_iff f).1 h
  obtain ⟨n1, n2⟩ := okL_no h2
  unfold splitF
  rw [if_neg (by omega), cut_noA n1, cut_noA n2, if_neg (by decide), if_neg (by decide), h]
theorem splitF_two {a b : List UInt8} (ha : abbrB (txt a) = true) (hb : abbrB (txt b) = true) (hl : a.length + b.length ≤ 11) : splitF (a ++ 47 :: b) = (a, b, [47], true) := by
  obtain ⟨h2, h3, h4⟩ := (abbrB_iff a).1 ha
  obtain ⟨n1, n2⟩ := okL_no h2
  have hc := cut_sep a b 47 (fun c hc e => n1 (e ▸ hc))
  unfold splitF
  rw [if_neg (by rw [List.length_append, List.length_cons]; omega), hc, if_pos rfl]
  show (a, b, [47], abbrB (txt a) && abbrB (txt b)) = _
  rw [ha, hb]; rfl
theorem abbr_two {a b : List UInt8} (ha : abbrB (txt a) = true) (hb : abbrB (txt b) = true) (hl : a.length + b.length ≤ 11) (s : Int) (h0 : 0 ≤ s) (h1 : s ≤ 10800) : abbrF (a ++ 47 :: b) s [45] = (if s = 0 then a else b, 0) := by
  obtain ⟨-, a3, a4⟩ := (abbrB_iff a).1 ha
  obtain ⟨-, b3, b4⟩ := (abbrB_iff b).1 hb
  have e := splitF_two ha hb hl
  have e2 := abbrN_1 (a ++ 47 :: b) [45] a b true s e
  unfold abbrF
  rw [e, e2, if_neg (by simp [letterOk]), if_neg (by omega)]
  by_cases hs : s = 0
  · rw [if_pos hs, if_neg (by omega), if_neg a3]
  · rw [if_neg hs, if_neg (by omega), if_neg b3]
end Go.Proofs.YtacogloheiendaaGreatDoor
namespace Go.Proofs.YtacogloheiendaaGreatDoor
open Go.RowKit Go.Joins Go.Maps
open Classical
set_option linter.unusedVariables false
set_option linter.unusedSimpArgs false

theorem rtRu_chk (r : Rt) (f t sv : Int) (hr : okRt r = true) (f1 : 1900 ≤ f) (f2 : f ≤ t) (f3 : t ≤ 2100) (s1 : 0 ≤ sv) (s2 : sv ≤ 10800) : ruChk (rtRu r f t sv) = 0 := by
  obtain ⟨h1, h2, h3, h4, h5, h6, h7, h8⟩ := okRt_iff.1 hr
  have hm := Civ.mlen_bd 1901 r.m h1 h2
  have hd : dayB (rtRu r f t sv).dk (rtRu r f t sv).dw (rtRu r f t sv).dn = true := by
    unfold dayB rtRu
    dsimp only
    by_cases e : r.w = 5
    · rw [if_pos e, if_pos e]
      exact decide_eq_true (.inr (.inl ⟨rfl, h5, h6, rfl⟩))
    · rw [if_neg e, if_neg e]
      exact decide_eq_true (.inr (.inr ⟨.inl rfl, h5, h6, by omega, by omega⟩))
  have hn : (rtRu r f t sv).dn ≤ 22 := by
    unfold rtRu
    dsimp only
    split <;> omega
  have hl : (rtRu r f t sv).lt.toList = [45] := by show dashB.toList = [45]; rw [Lib.toList_data]; rfl
  have hnm : nameB (rtRu r f t sv).nm = true := by show nameB riteB = true; decide
  have e1 : (rtRu r f t sv).yf = f := rfl
  have e2 : (rtRu r f t sv).yt = t := rfl
  have e3 : (rtRu r f t sv).mo = r.m := rfl
  have e4 : (rtRu r f t sv).tm = r.t := rfl
  have e5 : (rtRu r f t sv).ck = 0 := rfl
  have e6 : (rtRu r f t sv).sv = sv := rfl
  unfold ruChk
  rw [hnm, hd, e1, e2, e3, e4, e5, e6, if_neg (by simp), if_neg (fun g => g.1 hl), if_neg (by omega), if_neg (by omega), if_neg (by omega), if_neg (by simp), if_neg (by omega), if_neg (by omega), if_neg (by omega), if_neg (by omega)]
def rsEra (p : Px) : Er := ⟨p.off, if p.also.toList = [] then ⟨#[]⟩ else riteB, 0, if p.also.toList = [] then p.name else p.name ++ (⟨#[47]⟩ ++ p.also), 0⟩
/-- what rite.Book makes -/
def rsBk (p : Px) (nm : ByteArray) (ev : Value) (f t : Int) : Bk := oneB (if p.also.toList = [] then [] else rsRules p f t) nm ev [rsEra p]
/-- the book of a summer -/
theorem rs_two (p : Px) (nm : ByteArray) (ev : Value) (f t x y : Int) (ha : p.also.toList ≠ []) (hw1 : abbrB p.name = true) (hw2 : abbrB p.also = true) (hl : p.name.size + p.also.size ≤ 11) (hn : nameB nm = true) (h : OkPx p) (f1 : 1900 ≤ f) (f2 : t ≤ 2100) (f3 : f ≤ t) :
    bkChk (rsBk p nm ev f t) = 0 ∧ (RsOk p → f ≤ y → y ≤ t → 86400 * Civ.jan1 y ≤ x + p.off → x + p.off < 86400 * Civ.jan1 (y + 1) → 86400 * Civ.jan1 (f + 1) ≤ x → yOf p x = y → stampE x = 0 →
      stR (rsBk p nm ev f t) nm x = (0, if sumB p x = true then ⟨p.aoff, true, p.also⟩ else ⟨p.off, false, p.name⟩)) := by
  have d1 := h.a1
  have d2 := h.a2
  have hro : ∀ r ∈ rsRules p f t, ruChk r = 0 := by
    intro r hr
    unfold rsRules at hr
    rcases List.mem_cons.1 hr with rfl | hr
    · exact rtRu_chk _ _ _ _ h.s f1 f3 f2 (by omega) (by omega)
    · obtain rfl := List.mem_singleton.1 hr
      exact rtRu_chk _ _ _ _ h.e f1 f3 f2 (by omega) (by omega)
  have hrb : riteB.data.toList ≠ [] := by decide
  have eA : p.name ++ (⟨#[47]⟩ ++ p.also) = txt (p.name.data.toList ++ 47 :: p.also.data.toList) := by
    have e1 : p.name = txt p.name.data.toList := rfl
    have e2 : p.also = txt p.also.data.toList := rfl
    have e3 : (⟨#[47]⟩ : ByteArray) = txt [47] := rfl
    conv => lhs; rw [e1, e2, e3, txt_append, txt_append]
    rfl
  have e0 : rsBk p nm ev f t = oneB (rsRules p f t) nm ev [rsEra p] := by unfold rsBk; rw [if_neg ha]
  rw [e0]
  obtain ⟨z, ez⟩ : ∃ z : Er, rsEra p = z := ⟨_, rfl⟩
  have x1 : z.off = p.off := by rw [← ez]; rfl
  have x2 : z.ru = riteB := by rw [← ez]; unfold rsEra; dsimp only; rw [if_neg ha]
  have x3 : z.sv = 0 := by rw [← ez]; rfl
  have x4 : z.fm.data.toList = p.name.data.toList ++ 47 :: p.also.data.toList := by rw [← ez]; unfold rsEra; dsimp only; rw [if_neg ha, eA, txt_data]
  have x5 : z.un = 0 := by rw [← ez]; rfl
  rw [ez]
  have s1 : p.name.data.toList.length = p.name.size := by rw [Array.length_toList]; rfl
  have s2 : p.also.data.toList.length = p.also.size := by rw [Array.length_toList]; rfl
  have hab : ∀ s : Int, 0 ≤ s → s ≤ 10800 → abbrF z.fm.data.toList s [45] = (if s = 0 then p.name.data.toList else p.also.data.toList, 0) := fun s h0 h1 => by
    rw [x4]
    exact abbr_two (by rw [txt_data']; exact hw1) (by rw [txt_data']; exact hw2) (by omega) s h0 h1
  have hlt : ∀ r ∈ rsRules p f t, r.lt.data.toList = [45] ∧ 0 ≤ r.sv ∧ r.sv ≤ 10800 := by
    intro r hr
    unfold rsRules at hr
    rcases List.mem_cons.1 hr with rfl | hr
    · refine ⟨rfl, ?_, ?_⟩
      · show 0 ≤ p.aoff - p.off; omega
      · show p.aoff - p.off ≤ 10800; omega
    · obtain rfl := List.mem_singleton.1 hr
      exact ⟨rfl, by show (0 : Int) ≤ 0; omega, by show (0 : Int) ≤ 10800; omega⟩
  have hx : EraOk (rsRules p f t) z := by
    refine ⟨by have := h.o1; omega, by have := h.o2; omega, by omega, by omega, fun _ => x3, fun _ => ⟨rtRu p.s f t (p.aoff - p.off), List.mem_cons_self .., by rw [x2]; rfl⟩, ?_⟩
    unfold abbrsChk
    rw [if_neg (by rw [x2]; exact hrb)]
    have h1 : firstE (fun r : Ru => if r.nm = z.ru then abE z.fm r.sv r.lt else 0) (rsRules p f t) = 0 := by
      refine (firstE_zero _ _).2 fun r hr => ?_
      split
      · obtain ⟨l1, l2, l3⟩ := hlt r hr
        unfold abE
        rw [l1, hab _ l2 l3]
      · rfl
    rw [if_pos h1]
    unfold abE
    have e45 : (⟨#[45]⟩ : ByteArray).data.toList = [45] := rfl
    rw [e45, hab 0 (by omega) (by omega)]
  have hc : bkChk (oneB (rsRules p f t) nm ev [z]) = 0 := by
    refine oneB_chk (by show 2 ≤ 40; omega) hro hn (by simp) (by simp) fun i hi => ?_
    have hi : i < 1 := hi
    obtain rfl : i = 0 := by omega
    exact eraChk_un hx x5
  refine ⟨hc, fun ho y1 y2 q1 q2 q3 hy ht => ?_⟩
  rw [stR_some (oneB_rsv hc), if_neg (fun g => g ht), which_one]
  have e1 : eraAt [z] 0 = z := rfl
  have e0 : (oneB (rsRules p f t) nm ev [z]).rules = rsRules p f t := rfl
  have hmk := rs_mk p f t ho f1 f2 f3
  have e4 : tdE (rsRules p f t) z = 0 := by unfold tdE; rw [if_neg (by rw [x2]; exact hrb), x1, x2, hmk]
  have e5 : tdR (rsRules p f t) z = ⟨z, rsTns p f t, firstLt (rsTns p f t)⟩ := by unfold tdR; rw [if_neg (by rw [x2]; exact hrb), x1, x2, hmk]
  rw [e0, e1, e4, if_neg (by simp)]
  have e6 : stF (rsRules p f t) [z] x = tdTy (tdR (rsRules p f t) z) x := rfl
  have hrs := tdR_rises e4
  have e7 : (svT (tdR (rsRules p f t) z) x).1 = if sumB p x = true then p.aoff - p.off else 0 := by
    rw [← rs_val p f t x y ho f1 f2 y1 y2 q1 q2 q3 hy, ← svF_sv hrs (by rw [tdR_er]; exact x3) x, e5]
  have e8 : (svT (tdR (rsRules p f t) z) x).2.data.toList = [45] := by
    have hall : ∀ u ∈ rsTns p f t, u.lt.data.toList = [45] := by
      intro u hu
      have hu2 : u ∈ (mkR (rsRules p f t) riteB p.off).2 := by rw [hmk]; exact hu
      obtain ⟨r, hr, -, -, el⟩ := mkR_mem hu2
      rw [el]
      exact (hlt r hr).1
    by_cases hc0 : cntT (tdR (rsRules p f t) z).ts x = 0
    · rw [svT_0 hc0, e5]
      show (firstLt (rsTns p f t)).data.toList = [45]
      rcases firstLt_of (rsTns p f t) with e | ⟨u, hu, -, e⟩
      · rw [e]; rfl
      · rw [e]; exact hall u hu
    · obtain ⟨hlt2, es⟩ := svT_s hc0
      rw [es]
      have h9 : ∀ u ∈ (tdR (rsRules p f t) z).ts, u.lt.data.toList = [45] := by rw [e5]; exact hall
      exact h9 _ (List.getElem_mem hlt2)
  rw [e6]
  unfold tdTy nmT
  rw [tdR_er, x1, e7, e8]
  by_cases hs : sumB p x = true
  · rw [if_pos hs, if_pos hs, hab _ (by omega) (by omega), if_neg (by omega), decide_eq_true (by omega)]
    have e9 : p.off + (p.aoff - p.off) = p.aoff := by omega
    rw [e9]
    rfl
  · rw [if_neg hs, if_neg hs, hab _ (by omega) (by omega), if_pos rfl, decide_eq_false (by omega), Int.add_zero]
    rfl
/-- the book of one that has no summer -/
theorem rs_one (p : Px) (nm : ByteArray) (ev : Value) (f t x : Int) (ha : p.also.toList = []) (hw1 : abbrB p.name = true) (hn : nameB nm = true) (o1 : -64800 ≤ p.off) (o2 : p.off ≤ 64800) (ht : stampE x = 0) :
    bkChk (rsBk p nm ev f t) = 0 ∧ stR (rsBk p nm ev f t) nm x = (0, ⟨p.off, false, p.name⟩) := by
  have e0 : rsBk p nm ev f t = oneB [] nm ev [rsEra p] := by unfold rsBk; rw [if_pos ha]
  rw [e0]
  obtain ⟨z, ez⟩ : ∃ z : Er, rsEra p = z := ⟨_, rfl⟩
  have x1 : z.off = p.off := by rw [← ez]; rfl
  have x2 : z.ru.data.toList = [] := by rw [← ez]; unfold rsEra; dsimp only; rw [if_pos ha]
  have x3 : z.sv = 0 := by rw [← ez]; rfl
  have x4 : z.fm = p.name := by rw [← ez]; unfold rsEra; dsimp only; rw [if_pos ha]
  have x5 : z.un = 0 := by rw [← ez]; rfl
  rw [ez]
  have hw : abbrB (txt p.name.data.toList) = true := hw1
  have hab : abbrF z.fm.data.toList 0 [45] = (p.name.data.toList, 0) := by
    obtain ⟨-, a3, a4⟩ := (abbrB_iff _).1 hw
    have e := splitF_self hw
    rw [x4]
    unfold abbrF
    rw [abbrN_3 _ [45] _ [] true 0 e, e, if_neg (by simp [letterOk]), if_neg (by omega), if_neg (by omega), if_neg a3]
  have hx : EraOk [] z := by
    refine ⟨by omega, by omega, by omega, by omega, fun _ => x3, fun g => absurd x2 g, ?_⟩
    unfold abbrsChk
    rw [if_pos x2]
    unfold abE
    have e45 : (⟨#[45]⟩ : ByteArray).data.toList = [45] := rfl
    rw [x3, e45, hab]
  have hc : bkChk (oneB [] nm ev [z]) = 0 := by
    refine oneB_chk (by simp) (fun r hr => by cases hr) hn (by simp) (by simp) fun i hi => ?_
    have hi : i < 1 := hi
    obtain rfl : i = 0 := by omega
    exact eraChk_un hx x5
  refine ⟨hc, ?_⟩
  rw [stR_some (oneB_rsv hc), if_neg (fun g => g ht), which_one]
  have e1 : eraAt [z] 0 = z := rfl
  have e0 : (oneB [] nm ev [z]).rules = [] := rfl
  have e4 : tdE [] z = 0 := by unfold tdE; rw [if_pos x2]
  have e5 : tdR [] z = ⟨z, [], dashB⟩ := by unfold tdR; rw [if_pos x2]
  rw [e0, e1, e4, if_neg (by simp)]
  have e6 : stF [] [z] x = tdTy (tdR [] z) x := rfl
  have e7 : svT (tdR [] z) x = (0, dashB) := by
    rw [e5]
    unfold svT
    dsimp only
    show (z.sv, dashB) = _
    rw [x3]
  rw [e6]
  unfold tdTy nmT
  rw [tdR_er, x1, e7]
  have e45 : dashB.data.toList = [45] := rfl
  dsimp only
  rw [e45, hab, decide_eq_false (by omega), Int.add_zero]
  rfl
end Go.Proofs.YtacogloheiendaaGreatDoor
namespace Go.Proofs.YtacogloheiendaaGreatDoor
open Go.RowKit Go.Joins
open Classical
set_option linter.unusedVariables false
set_option linter.unusedSimpArgs false

def bkNoneR : Value := .agg #[.slice none 0 0, .slice none 0 0, .slice none 0 0]
/-- the errors ahead of the format's -/
def rbE (p : Px) (nm : ByteArray) : Int := if pxChk p ≠ 0 then pxChk p else if nameB nm = false then 3 else 0
/-- the summer in its box, and the book under way -/
structure RbM (w W : World) (p : Px) : Prop where
  px : PxBx W w.heap.size p
  bk : W.heap[w.heap.size + 1]? = some (.cells #[.slice none 0 0, .slice none 0 0, .slice none 0 0] 32 (0, 0))
  b : Below w.heap.size w W
theorem RbM.start {w W0 : World} {p : Px} (e : (w.alloc (.cells (pxCells p) 25)).alloc (.cells #[.slice none 0 0, .slice none 0 0, .slice none 0 0] 32) = W0) : RbM w W0 p := by
  subst e
  refine ⟨?_, ?_, ((Below.refl _ _).alloc (Nat.le_refl _) _).alloc (by simp) _⟩
  · show _ = _
    rw [Below.heap_alloc _ _ _ (by simp)]
    exact PxBx.box w p
  · exact alloc_at _ _ _ (by simp)
theorem RbM.lt {w W : World} {p : Px} (h : RbM w W p) : w.heap.size + 1 < W.heap.size := (Array.getElem?_eq_some_iff.mp h.bk).1
theorem RbM.go {w W W' : World} {p : Px} (h : RbM w W p) (hb : Below W.heap.size W W') : RbM w W' p :=
  ⟨h.px.below hb, (hb.block _ h.lt).trans h.bk, h.b.trans (hb.mono h.b.size)⟩
theorem RbM.cells {w W : World} {p : Px} (h : RbM w W p) : W.cell? ⟨w.heap.size + 1, 0, none⟩ = some (.slice none 0 0) ∧ W.cell? ⟨w.heap.size + 1, 1, none⟩ = some (.slice none 0 0) ∧ W.cell? ⟨w.heap.size + 1, 2, none⟩ = some (.slice none 0 0) ∧
    W.frozen? ⟨w.heap.size + 1, 0, none⟩ = false ∧ W.frozen? ⟨w.heap.size + 1, 1, none⟩ = false ∧ W.frozen? ⟨w.heap.size + 1, 2, none⟩ = false :=
  ⟨(cell_of_row W _ 0 _ _ _ h.bk).trans rfl, (cell_of_row W _ 1 _ _ _ h.bk).trans rfl, (cell_of_row W _ 2 _ _ _ h.bk).trans rfl, by simp [World.frozen?, h.bk], by simp [World.frozen?, h.bk], by simp [World.frozen?, h.bk]⟩
theorem RbM.out {w W : World} {p : Px} (h : RbM w W p) (x y z : Value) :
    ∃ W', ((W.setCell ⟨w.heap.size + 1, 0, none⟩ x).setCell ⟨w.heap.size + 1, 1, none⟩ y).setCell ⟨w.heap.size + 1, 2, none⟩ z = W' ∧ Below w.heap.size w W' ∧
      W'.cell? ⟨w.heap.size + 1, 0, none⟩ = some x ∧ W'.cell? ⟨w.heap.size + 1, 1, none⟩ = some y ∧ W'.cell? ⟨w.heap.size + 1, 2, none⟩ = some z ∧ ∀ b, b ≠ w.heap.size + 1 → W'.heap[b]? = W.heap[b]? := by
  obtain ⟨W', e, hb, hr, ho⟩ := end_cellsR h.bk x y z
  exact ⟨W', e, h.b.trans (hb _ (by omega)), (cell_of_row W' _ 0 _ _ _ hr).trans rfl, (cell_of_row W' _ 1 _ _ _ hr).trans rfl, (cell_of_row W' _ 2 _ _ _ hr).trans rfl, ho⟩
set_option maxRecDepth 100000 in
set_option maxHeartbeats 4000000 in
theorem RtBook_bad (p : Px) (nm : ByteArray) (f t : Int) (w : World) (h1 : p.name.size ≤ maxLen) (h2 : p.also.size ≤ maxLen) (hs : nm.size ≤ maxLen) (h : rbE p nm ≠ 0) :
    Calls Tryz.prog 6 #[pxV p, .string nm, .int .i64 f, .int .i64 t] w fun e w' => e = .returned (.tuple #[bkNoneR, .int .i64 (rbE p nm)]) ∧ Below w.heap.size w w' := by
  obtain ⟨W0, eW⟩ : ∃ W0, (w.alloc (.cells (pxCells p) 25)).alloc (.cells #[.slice none 0 0, .slice none 0 0, .slice none 0 0] 32) = W0 := ⟨_, rfl⟩
  have HM := Lib.hid (RbM.start eW)
  have HEW := Lib.hid eW
  have HC := Lib.hid (fun W => rCheck_any p W h1 h2)
  have HNM := Lib.hid (fun W => isName_any nm W hs)
  obtain ⟨x0, x1, x2, x3, x4, x5, x6, x7, x8, x9, x10, x11⟩ := HM.out.px.cells
  obtain ⟨z0, z1, z2, zf0, zf1, zf2⟩ := HM.out.cells
  have hl0 := HM.out.lt
  clear eW
  by_cases hc : pxChk p = 0
  · have hn : nameB nm = false := by
      cases e : nameB nm with
      | false => rfl
      | true => exact absurd (by unfold rbE; rw [if_neg (by omega), if_neg (by rw [e]; simp)]) h
    have er : rbE p nm = 3 := by unfold rbE; rw [if_neg (by omega), if_pos hn]
    rw [hc] at HC
    rw [hn] at HNM
    rw [er] at h ⊢
    go_enter Tryz.func6, Tryz.ntmps6
    go_wp2_with fail
    rw [HEW.out]
    refine (HC.out _).mono ?_
    rintro e w1 ⟨rfl, hb1⟩
    have HM1 := Lib.hid (HM.out.go hb1)
    clear hb1 HM x0 x1 x2 x3 x4 x5 x6 x7 x8 x9 x10 x11 z0 z1 z2 zf0 zf1 zf2 hl0
    obtain ⟨x0, x1, x2, x3, x4, x5, x6, x7, x8, x9, x10, x11⟩ := HM1.out.px.cells
    obtain ⟨z0, z1, z2, zf0, zf1, zf2⟩ := HM1.out.cells
    have hl0 := HM1.out.lt
    go_wp2_with fail
    refine (HNM.out _).mono ?_
    rintro e w' ⟨rfl, rfl⟩
    go_wp2
    obtain ⟨W9, e9, hb9, v0, v1, v2, -⟩ := HM1.out.out (.slice none 0 0) (.slice none 0 0) (.slice none 0 0)
    rw [e9]
    exact bodyPost_ret (v := .tuple #[bkNoneR, .int .i64 3]) (by simp [results, Tryz.results6, go_sem, v0, v1, v2, bkNoneR]) rfl ⟨rfl, hb9⟩
  · have er : rbE p nm = pxChk p := by unfold rbE; rw [if_pos hc]
    rw [er] at h ⊢
    obtain ⟨C, eC⟩ : ∃ C, pxChk p = C := ⟨_, rfl⟩
    rw [eC] at HC h ⊢
    have hc' : (C == 0) = false := by simpa using h
    have hc'' : (C != 0) = true := by simpa using h
    clear er eC hc
    go_enter Tryz.func6, Tryz.ntmps6
    go_wp2_with fail
    rw [HEW.out]
    refine (HC.out _).mono ?_
    rintro e w1 ⟨rfl, hb1⟩
    have HM1 := Lib.hid (HM.out.go hb1)
    clear hb1 HM x0 x1 x2 x3 x4 x5 x6 x7 x8 x9 x10 x11 z0 z1 z2 zf0 zf1 zf2 hl0
    obtain ⟨x0, x1, x2, x3, x4, x5, x6, x7, x8, x9, x10, x11⟩ := HM1.out.px.cells
    obtain ⟨z0, z1, z2, zf0, zf1, zf2⟩ := HM1.out.cells
    have hl0 := HM1.out.lt
    go_wp2
    obtain ⟨W9, e9, hb9, v0, v1, v2, -⟩ := HM1.out.out (.slice none 0 0) (.slice none 0 0) (.slice none 0 0)
    rw [e9]
    exact bodyPost_ret (v := .tuple #[bkNoneR, .int .i64 C]) (by simp [results, Tryz.results6, go_sem, v0, v1, v2, bkNoneR]) rfl ⟨rfl, hb9⟩
/-- a book of one zone with one era, as it lies -/
theorem oneBook_at {W : World} {rv : Value} {rules : List Ru} (hr : RowsAt (fun r : Ru => (ruCells r).toList) 11 W.heap.size W rv rules) (hs : ∀ r ∈ rules, SzR r) {Z E : Nat} {nm : ByteArray} {x : Er}
    (hE : W.heap[E]? = some (.cells (erCells x) 54 (0, 0))) (hZ : W.heap[Z]? = some (.cells #[.string nm, .slice (some ⟨E, 0, none⟩) 1 1] 62 (0, 0))) (hx : SzE x) (hn : nm.size ≤ 140737488351232) :
    BookAt W.heap.size W rv (.slice (some ⟨Z, 0, none⟩) 1 1) (.slice none 0 0) (oneB rules nm (.slice (some ⟨E, 0, none⟩) 1 1) [x]) := by
  have hEl : E < W.heap.size := (Array.getElem?_eq_some_iff.mp hE).1
  have hZl : Z < W.heap.size := (Array.getElem?_eq_some_iff.mp hZ).1
  refine ⟨hr, ⟨_, 1, rfl, ⟨by show 1 ≤ _; omega, Nat.le_refl _⟩, fun _ => ⟨Z, 0, rfl, hZl, fun i hi j u hu => ?_⟩⟩, fun z hz => ?_, ⟨none, 0, rfl, ⟨by show 0 ≤ _; omega, Nat.le_refl _⟩, fun h => absurd rfl h⟩, hs, fun z hz => ?_, fun z hz => (by cases hz)⟩
  · have hi : i < 1 := hi
    obtain rfl : i = 0 := by omega
    rw [show 0 + 0 * 2 + j = j by omega, cell_of_row W Z j _ _ _ hZ]
    have hu : ([.string nm, .slice (some ⟨E, 0, none⟩) 1 1] : List Value)[j]? = some u := hu
    rw [← hu]
    simp
  · obtain rfl := List.mem_singleton.1 hz
    refine ⟨_, 1, rfl, ⟨by show 1 ≤ _; omega, Nat.le_refl _⟩, fun _ => ⟨E, 0, rfl, hEl, fun i hi j u hu => ?_⟩⟩
    have hi : i < 1 := hi
    obtain rfl : i = 0 := by omega
    rw [show 0 + 0 * 5 + j = j by omega, cell_of_row W E j _ _ _ hE]
    have e : ((erCells [x][0]).toList : List Value) = (erCells x).toList := rfl
    rw [← Array.getElem?_toList]
    exact hu
  · obtain rfl := List.mem_singleton.1 hz
    exact ⟨hn, fun y hy => by obtain rfl := List.mem_singleton.1 hy; exact hx⟩
set_option maxRecDepth 100000 in
set_option maxHeartbeats 4000000 in
/-- where there is no summer -/
theorem RtBook_one (p : Px) (nm : ByteArray) (f t : Int) (w : World) (h1 : p.name.size ≤ maxLen) (h2 : p.also.size ≤ maxLen) (hs : nm.size ≤ 140737488351232) (h : pxChk p = 0) (hn : nameB nm = true) (f1 : 1900 ≤ f) (f2 : f ≤ t) (f3 : t ≤ 2100) (ha : p.also.toList = []) (hsz : p.name.size ≤ 100) (o1 : -64800 ≤ p.off) (o2 : p.off ≤ 64800) :
    Calls Tryz.prog 6 #[pxV p, .string nm, .int .i64 f, .int .i64 t] w fun e w' => Below w.heap.size w w' ∧ ∃ rv zv ev, e = .returned (.tuple #[.agg #[rv, zv, .slice none 0 0], .int .i64 0]) ∧ BookAt w'.heap.size w' rv zv (.slice none 0 0) (rsBk p nm ev f t) := by
  obtain ⟨W0, eW⟩ : ∃ W0, (w.alloc (.cells (pxCells p) 25)).alloc (.cells #[.slice none 0 0, .slice none 0 0, .slice none 0 0] 32) = W0 := ⟨_, rfl⟩
  have HM := Lib.hid (RbM.start eW)
  have HEW := Lib.hid eW
  have HC := Lib.hid (fun W => rCheck_any p W h1 h2)
  have HNM := Lib.hid (fun W => isName_any nm W (by simp only [maxLen]; omega))
  have HW1 := Lib.hid (fun W => rite_within f 1900 2100 W)
  have HW2 := Lib.hid (fun W => rite_within t f 2100 W)
  have e1 : withinB f 1900 2100 = true := by simp [withinB]; omega
  have e2 : withinB t f 2100 = true := by simp [withinB]; omega
  rw [e1] at HW1
  rw [e2] at HW2
  rw [h] at HC
  rw [hn] at HNM
  have ha2 : p.also.toList.isEmpty = true := by simpa using ha
  have eB : ∀ ev, rsBk p nm ev f t = oneB [] nm ev [⟨p.off, ⟨#[]⟩, 0, p.name, 0⟩] := fun ev => by unfold rsBk rsEra; rw [if_pos ha, if_pos ha, if_pos ha]
  have EB := Lib.hid eB
  have ha3 : p.also = ⟨#[]⟩ := by
    apply ByteArray.ext
    apply Array.ext'
    have := ha
    rw [Lib.toList_data] at this
    simpa using this
  obtain ⟨x0, x1, x2, x3, x4, x5, x6, x7, x8, x9, x10, x11⟩ := HM.out.px.cells
  obtain ⟨z0, z1, z2, zf0, zf1, zf2⟩ := HM.out.cells
  have hl0 := HM.out.lt
  clear eW e1 e2 eB h hn ha ha3
  go_enter Tryz.func6, Tryz.ntmps6
  go_wp2_with fail
  rw [HEW.out]
  refine (HC.out _).mono ?_
  rintro e w1 ⟨rfl, hb1⟩
  have HM1 := Lib.hid (HM.out.go hb1)
  clear hb1 HM x0 x1 x2 x3 x4 x5 x6 x7 x8 x9 x10 x11 z0 z1 z2 zf0 zf1 zf2 hl0
  obtain ⟨x0, x1, x2, x3, x4, x5, x6, x7, x8, x9, x10, x11⟩ := HM1.out.px.cells
  obtain ⟨z0, z1, z2, zf0, zf1, zf2⟩ := HM1.out.cells
  have hl0 := HM1.out.lt
  go_wp2_with fail
  refine (HNM.out _).mono ?_
  rintro e w' ⟨rfl, rfl⟩
  go_wp2_with fail
  refine (HW1.out _).mono ?_
  rintro e w' ⟨rfl, rfl⟩
  go_wp2_with fail
  refine (HW2.out _).mono ?_
  rintro e w' ⟨rfl, rfl⟩
  obtain ⟨W5, e5⟩ : ∃ W5, w1.alloc (.cells #[.int .i64 p.off, .string ⟨#[]⟩, .int .i64 0, .string p.name, .int .i64 0] 54) = W5 := ⟨_, rfl⟩
  obtain ⟨eb, eeb⟩ : ∃ eb, w1.heap.size = eb := ⟨_, rfl⟩
  have hb5 : Below w1.heap.size w1 W5 := by rw [← e5]; exact (Below.refl _ _).alloc (Nat.le_refl _) _
  have hx5 : W5.heap[eb]? = some (.cells #[.int .i64 p.off, .string ⟨#[]⟩, .int .i64 0, .string p.name, .int .i64 0] 54 (0, 0)) := by rw [← e5]; exact alloc_at _ _ _ eeb.symm
  have HM5 := Lib.hid (HM1.out.go hb5)
  have HE5 := Lib.hid e5
  have HX5 := Lib.hid hx5
  have HEB := Lib.hid eeb
  clear hb5 hx5 e5 eeb
  go_upto_region 9 with fail
  rw [HE5.out, HEB.out]
  have hx5 := HX5.out
  have y0 : W5.cell? ⟨eb, 0, none⟩ = some (.int .i64 p.off) := (cell_of_row W5 _ 0 _ _ _ hx5).trans rfl
  have y1 : W5.cell? ⟨eb, 1, none⟩ = some (.string ⟨#[]⟩) := (cell_of_row W5 _ 1 _ _ _ hx5).trans rfl
  have y2 : W5.cell? ⟨eb, 2, none⟩ = some (.int .i64 0) := (cell_of_row W5 _ 2 _ _ _ hx5).trans rfl
  have y3 : W5.cell? ⟨eb, 3, none⟩ = some (.string p.name) := (cell_of_row W5 _ 3 _ _ _ hx5).trans rfl
  have y4 : W5.cell? ⟨eb, 4, none⟩ = some (.int .i64 0) := (cell_of_row W5 _ 4 _ _ _ hx5).trans rfl
  have hyl : eb < W5.heap.size := (Array.getElem?_eq_some_iff.mp hx5).1
  clear hx5 HM1 x0 x1 x2 x3 x4 x5 x6 x7 x8 x9 x10 x11 z0 z1 z2 zf0 zf1 zf2 hl0
  obtain ⟨x0, x1, x2, x3, x4, x5, x6, x7, x8, x9, x10, x11⟩ := HM5.out.px.cells
  obtain ⟨z0, z1, z2, zf0, zf1, zf2⟩ := HM5.out.cells
  have hl0 := HM5.out.lt
  obtain ⟨W6, e6⟩ : ∃ W6, (W5.alloc (.cells #[.int .i64 p.off, .string ⟨#[]⟩, .int .i64 0, .string p.name, .int .i64 0] 54)).alloc (.cells #[.string nm, .slice (some ⟨W5.heap.size, 0, none⟩) 1 1] 62) = W6 := ⟨_, rfl⟩
  have HE6 := Lib.hid e6
  clear e6
  have hM6 : RbM w ((W5.alloc (.cells #[.int .i64 p.off, .string ⟨#[]⟩, .int .i64 0, .string p.name, .int .i64 0] 54)).alloc (.cells #[.string nm, .slice (some ⟨W5.heap.size, 0, none⟩) 1 1] 62)) p := HM5.out.go (((Below.refl _ _).alloc (Nat.le_refl _) _).alloc (by simp) _)
  obtain ⟨q0, q1, q2, qf0, qf1, qf2⟩ := hM6.cells
  have HM6 := Lib.hid hM6
  clear hM6
  go_upto_region 20 with fail
  clear z0 z1 z2 zf0 zf1 zf2 x0 x1 x2 x3 x4 x5 x6 x7 x8 x9 x10 x11
  go_wp2
  obtain ⟨W9, e9, hb9, v0, v1, v2, ho⟩ := HM6.out.out (.slice none 0 0) (.slice (some ⟨W5.heap.size + 1, 0, none⟩) 1 1) (.slice none 0 0)
  rw [e9]
  have g5 : W9.heap[W5.heap.size]? = some (.cells #[.int .i64 p.off, .string ⟨#[]⟩, .int .i64 0, .string p.name, .int .i64 0] 54 (0, 0)) := by
    rw [ho _ (by omega), Below.heap_alloc _ _ _ (by simp)]
    exact heap_alloc_new W5 _
  have g6 : W9.heap[W5.heap.size + 1]? = some (.cells #[.string nm, .slice (some ⟨W5.heap.size, 0, none⟩) 1 1] 62 (0, 0)) := by
    rw [ho _ (by omega)]
    exact alloc_at _ _ _ (by simp)
  refine bodyPost_ret (v := .tuple #[.agg #[.slice none 0 0, .slice (some ⟨W5.heap.size + 1, 0, none⟩) 1 1, .slice none 0 0], .int .i64 0]) (by simp [results, Tryz.results6, go_sem, v0, v1, v2]) rfl ⟨hb9, _, _, .slice (some ⟨W5.heap.size, 0, none⟩) 1 1, rfl, ?_⟩
  rw [EB.out]
  exact oneBook_at (rules := []) ⟨none, 0, rfl, ⟨by simp, by simp⟩, fun h => absurd rfl h⟩ (fun r hr => by cases hr) g5 g6 ⟨by show 0 ≤ _; omega, by show p.name.size ≤ _; omega, by show _ ≤ p.off; omega, by show p.off ≤ _; omega, by show _ ≤ (0 : Int); omega, by show (0 : Int) ≤ _; omega, by show _ ≤ (0 : Int); omega, by show (0 : Int) ≤ _; omega⟩ hs
end Go.Proofs.YtacogloheiendaaGreatDoor
namespace Go.Proofs.YtacogloheiendaaGreatDoor
open Go.RowKit Go.Joins
open Classical
set_option linter.unusedVariables false
set_option linter.unusedSimpArgs false

theorem flat_getN {α : Type} {cells : α → List Value} {k : Nat} (hk : ∀ x, (cells x).length = k) : ∀ (l : List α) (i : Nat) (h : i < l.length) (j : Nat), j < k → (l.flatMap cells)[i * k + j]? = (cells l[i])[j]?
  | [], i, h, _, _ => absurd h (by simp)
  | x :: r, 0, _, j, hj => by
    rw [List.flatMap_cons, Nat.zero_mul, Nat.zero_add, List.getElem?_append_left (by rw [hk]; exact hj)]
    rfl
  | x :: r, i + 1, h, j, hj => by
    have := flat_getN hk r i (by simpa using h) j hj
    rw [List.flatMap_cons, List.getElem?_append_right (by rw [hk, Nat.add_mul]; omega), hk, show (i + 1) * k + j - k = i * k + j by rw [Nat.add_mul]; omega, this]
    rfl
end Go.Proofs.YtacogloheiendaaGreatDoor
namespace Go.Proofs.YtacogloheiendaaGreatDoor
set_option linter.unusedVariables false
set_option linter.unusedSimpArgs false

theorem wp_append_ownA {P : Program} (w : World) {o : Oper} {a : Act} {K : Act → World → Prop} {Q : Exit → Act → World → Prop} (s x : Operand) (t : TypeId)
    (ho : o.op = .call { callee := .builtin .append, args := #[s, x], argTypes := #[t, t] })
    (base : Nat) (e : TypeId) (i : TypeInfo) (z : Value) (size bytes : Nat) (ht : P.underlying t = some (.slice e)) (hi : P.info? e = some i) (hz : i.zero = some z)
    (hsize : i.size = size) (hby : i.bytes = bytes) (hzs : z.cells.size = size) (hsz : 0 < size)
    (v : Value) (n : Nat) (xs : List Value) (hs : a.eval s = v) (hown : w.ownsRow base e size v n xs)
    (ad : Addr) (m c : Nat) (news : List Value) (hx : a.eval x = .slice (some ad) m c) (hl : news.length = m * size) (hnews : ∀ j u, news[j]? = some u → w.cell? (ad.add j) = some u) (h1 : ∀ u ∈ news, u.oneCell' = true)
    (h63 : n + m ≤ maxLen) (hbytes : (n + m) * bytes ≤ 140737488355328) (hbase : base ≤ w.heap.size)
    (h : ∀ v' w', w'.ownsRow base e size v' (n + m) (xs ++ news) → w.grownBy w' v.ownBlock → (v'.ownBlock = v.ownBlock ∨ v'.ownBlock = some w.heap.size) → K (a.put o.dst v') w') : o.wp P a w K Q := by
  obtain ⟨v', w', hr, h2, h3, _, h5⟩ := run_append_own_at (P := P) w base t o.type e i z size bytes ht hi hz hsize hby hzs hsz v n xs hown ad m c news hl hnews h1 h63 hbytes hbase
  unfold Oper.wp execOp
  simp only [ho, resolve, invoke, builtin, Sem.run_bind, Sem.run_pure, Result.andThen_ok, List.map_toArray, List.map_cons, List.map_nil, hs, hx, hr]
  exact h v' w' h2 h3 h5
theorem step_append_ownA {P : Program} (w : World) {ops : Array Oper} {o : Oper} {a : Act} {K : Act → World → Prop} {Q : Exit → Act → World → Prop} {E : Prop} (hgd : o.guard = none) (s x : Operand) (t : TypeId)
    (ho : o.op = .call { callee := .builtin .append, args := #[s, x], argTypes := #[t, t] })
    (base : Nat) (e : TypeId) (i : TypeInfo) (z : Value) (size bytes : Nat) (ht : P.underlying t = some (.slice e)) (hi : P.info? e = some i) (hz : i.zero = some z)
    (hsize : i.size = size) (hby : i.bytes = bytes) (hzs : z.cells.size = size) (hsz : 0 < size)
    (v : Value) (n : Nat) (xs : List Value) (hs : a.eval s = v) (hown : w.ownsRow base e size v n xs)
    (ad : Addr) (m c : Nat) (news : List Value) (hx : a.eval x = .slice (some ad) m c) (hl : news.length = m * size) (hnews : ∀ j u, news[j]? = some u → w.cell? (ad.add j) = some u) (h1 : ∀ u ∈ news, u.oneCell' = true)
    (h63 : n + m ≤ maxLen) (hbytes : (n + m) * bytes ≤ 140737488355328) (hbase : base ≤ w.heap.size)
    (h : ∀ v' w', w'.ownsRow base e size v' (n + m) (xs ++ news) → w.grownBy w' v.ownBlock → (v'.ownBlock = v.ownBlock ∨ v'.ownBlock = some w.heap.size) → K (a.put o.dst v') w') :
    if Region.wanted o (yielded ops a.tmps) = true then Oper.wp P o a w K Q else E := by
  have hw : Region.wanted o (yielded ops a.tmps) = true := by simp [Region.wanted, hgd]
  rw [if_pos hw]
  exact wp_append_ownA w s x t ho base e i z size bytes ht hi hz hsize hby hzs hsz v n xs hs hown ad m c news hx hl hnews h1 h63 hbytes hbase h
end Go.Proofs.YtacogloheiendaaGreatDoor
