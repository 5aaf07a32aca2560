/- A stable sort by a key, block by block: plain laws. An element: its key and its tag (its place at first). slices.SortStableFunc at the rules' nominal times: the row; the comparison; swapRange. slices.SortStableFunc at the rules' nominal times: rotate. slices.SortStableFunc at the rules' nominal times: the insertion sort. slices.SortStableFunc at the rules' nominal times: symMerge where one side has one element. slices.SortStableFunc at the rules' nominal times: symMerge where the other side has one element. slices.SortStableFunc at the rules' nominal times: symMerge. -/
import Derived.Sort.LotA
import Derived.Test.YtacogloheiendaaGreatDoorRows
import Derived.WalkKit
import Derived.WalkSpells
import Derived.WalkLawsBesides
import Derived.Lib.Hide
import Derived.Deep.QuietTactic
import Derived.BigQuiet
import Derived.BigRegion
import Derived.Deep.LoopGhost
import Derived.Handy
import Derived.Shelf.SlSortCmp.QuietGrown
import Derived.Sort.WalkA
import Derived.Deep.DeepCutAuto
namespace Go.Proofs.YtacogloheiendaaGreatDoor
open Go.Sort
set_option linter.unusedVariables false
set_option linter.unusedSimpArgs false

abbrev El := Int × Nat
def elL (x y : El) : Bool := decide (x.1 < y.1 ∨ (x.1 = y.1 ∧ x.2 < y.2))
def elK (x y : El) : Bool := decide (x.1 < y.1)
def elLe (x y : El) : Prop := x.1 < y.1 ∨ (x.1 = y.1 ∧ x.2 ≤ y.2)

theorem elL_no {x y : El} : elL x y = false ↔ elLe y x := by
  unfold elL elLe
  rw [decide_eq_false_iff_not]
  omega
theorem swo_elL : SWO elL := by
  refine ⟨fun x => ?_, fun x y z h1 h2 => ?_, fun x y z h1 h2 => ?_⟩
  · simp [elL]
  · simp only [elL, decide_eq_true_eq] at *; omega
  · simp only [elL, decide_eq_false_iff_not] at *; omega
theorem elL_total (x y : El) (h1 : elL x y = false) (h2 : elL y x = false) : x = y := by
  rw [elL_no] at h1 h2
  unfold elLe at h1 h2
  apply Prod.ext <;> omega

def SoIn (a b : Nat) (d : Array El) : Prop := ∀ i j, a ≤ i → i < j → j < b → elLe d[i]! d[j]!
/-- all tags from a up to m are less than those from m up to b -/
def TagLt (a m b : Nat) (d : Array El) : Prop := ∀ i j, a ≤ i → i < m → m ≤ j → j < b → d[i]!.2 < d[j]!.2

theorem soIn_iff {a b : Nat} {d : Array El} : SortedIn elL a b d ↔ SoIn a b d := by
  unfold SortedIn SoIn
  simp only [elL_no]

theorem so_ins1 (d e : Array El) (a b i : Nat) (hs : SoIn (a + 1) b d) (ht : TagLt a (a + 1) b d) (hi : a + 1 ≤ i) (hib : i ≤ b)
    (h1 : ∀ h, a + 1 ≤ h → h < i → d[h]!.1 < d[a]!.1) (h2 : ∀ h, i ≤ h → h < b → d[a]!.1 ≤ d[h]!.1)
    (he : ∀ p, e[p]! = if a ≤ p ∧ p + 1 < i then d[p + 1]! else if p + 1 = i then d[a]! else d[p]!) : SoIn a b e := by
  intro p q hap hpq hqb
  rw [he p, he q]
  by_cases p1 : p + 1 < i
  · rw [if_pos ⟨hap, p1⟩]
    by_cases q1 : q + 1 < i
    · rw [if_pos ⟨by omega, q1⟩]
      exact hs (p + 1) (q + 1) (by omega) (by omega) (by omega)
    · rw [if_neg (by omega)]
      by_cases q2 : q + 1 = i
      · rw [if_pos q2]
        exact Or.inl (h1 (p + 1) (by omega) (by omega))
      · rw [if_neg q2]
        exact hs (p + 1) q (by omega) (by omega) (by omega)
  · rw [if_neg (by omega), if_neg (by omega : ¬ (a ≤ q ∧ q + 1 < i)), if_neg (by omega : ¬ q + 1 = i)]
    by_cases p2 : p + 1 = i
    · rw [if_pos p2]
      have g1 := h2 q (by omega) hqb
      have g2 := ht a q (Nat.le_refl _) (by omega) (by omega) hqb
      unfold elLe
      omega
    · rw [if_neg p2]
      exact hs p q (by omega) hpq hqb

theorem so_ins2 (d e : Array El) (a m i : Nat) (hs : SoIn a m d) (ht : TagLt a m (m + 1) d) (hi : a ≤ i) (him : i ≤ m)
    (h1 : ∀ h, a ≤ h → h < i → d[h]!.1 ≤ d[m]!.1) (h2 : ∀ h, i ≤ h → h < m → d[m]!.1 < d[h]!.1)
    (he : ∀ p, e[p]! = if p = i then d[m]! else if i < p ∧ p ≤ m then d[p - 1]! else d[p]!) : SoIn a (m + 1) e := by
  intro p q hap hpq hqb
  rw [he p, he q]
  by_cases p1 : p = i
  · rw [if_pos p1, if_neg (by omega), if_pos (by omega)]
    exact Or.inl (h2 (q - 1) (by omega) (by omega))
  · rw [if_neg p1]
    by_cases p2 : i < p
    · rw [if_pos ⟨p2, by omega⟩, if_neg (by omega), if_pos ⟨by omega, by omega⟩]
      exact hs (p - 1) (q - 1) (by omega) (by omega) (by omega)
    · rw [if_neg (by omega)]
      by_cases q1 : q = i
      · rw [if_pos q1]
        have g1 := h1 p hap (by omega)
        have g2 := ht p m hap (by omega) (Nat.le_refl _) (by omega)
        unfold elLe
        omega
      · rw [if_neg q1]
        by_cases q2 : i < q
        · rw [if_pos ⟨q2, by omega⟩]
          exact hs p (q - 1) hap (by omega) (by omega)
        · rw [if_neg (by omega)]
          exact hs p q hap hpq (by omega)

/-- e is d with the parts [a, m) and [m, b) exchanged -/
def RotIs (a m b : Nat) (d e : Array El) : Prop := ∀ p, e[p]! = if a ≤ p ∧ p + m < a + b then d[p + m - a]! else if a + b ≤ p + m ∧ p < b then d[p + m - b]! else d[p]!

theorem rot_left (a b : Nat) (d : Array El) (h : a ≤ b) : RotIs a a b d d := by
  intro p
  by_cases h1 : a ≤ p ∧ p + a < a + b
  · rw [if_pos h1, show p + a - a = p from by omega]
  · rw [if_neg h1, if_neg (by omega)]
theorem rot_right (a b : Nat) (d : Array El) (h : a ≤ b) : RotIs a b b d d := by
  intro p
  rw [if_neg (by omega)]
  by_cases h1 : a + b ≤ p + b ∧ p < b
  · rw [if_pos h1, show p + b - b = p from by omega]
  · rw [if_neg h1]

structure Split (a m b s : Nat) (d : Array El) : Prop where
  h1 : a < m
  h2 : m < b
  s1 : a ≤ s
  s2 : s ≤ m
  s3 : s ≤ (a + b) / 2
  s4 : (a + b) / 2 + m ≤ s + b
  lo : a < s → s + b > (a + b) / 2 + m → d[s - 1]!.1 ≤ d[(a + b) / 2 + m - s]!.1
  hi : s < m → s < (a + b) / 2 → d[(a + b) / 2 + m - 1 - s]!.1 < d[s]!.1

structure Halves (a mid b s e : Nat) (d : Array El) : Prop where
  l1 : SoIn a s d
  l2 : SoIn s mid d
  lt : TagLt a s mid d
  r1 : SoIn mid e d
  r2 : SoIn e b d
  rt : TagLt mid e b d
  x : ∀ i j, a ≤ i → i < mid → mid ≤ j → j < b → elLe d[i]! d[j]!

theorem elLe_refl (x : El) : elLe x x := by unfold elLe; omega
theorem so_le {a b : Nat} {d : Array El} (h : SoIn a b d) {i j : Nat} (hi : a ≤ i) (hij : i ≤ j) (hj : j < b) : elLe d[i]! d[j]! := by
  by_cases e : i = j
  · subst e; exact elLe_refl _
  · exact h i j hi (by omega) hj

theorem split_halves {a m b s mid e : Nat} {d d1 : Array El} (hm : mid = (a + b) / 2) (he : e = mid + m - s) (hp : Split a m b s d) (hs1 : SoIn a m d) (hs2 : SoIn m b d) (ht : TagLt a m b d) (hr : RotIs s m e d d1) : Halves a mid b s e d1 := by
  obtain ⟨k1, k2, s1, s2, s3, s4, lo, hi⟩ := hp
  rw [← hm] at s3 s4 lo hi
  have em : e + s = mid + m := by omega
  have g0 : ∀ p, p < s → d1[p]! = d[p]! := fun p h => by rw [hr p, if_neg (by omega), if_neg (by omega)]
  have g1 : ∀ p, s ≤ p → p < mid → d1[p]! = d[p + m - s]! := fun p h h' => by rw [hr p, if_pos (by omega)]
  have g2 : ∀ p, mid ≤ p → p < e → d1[p]! = d[p + m - e]! := fun p h h' => by rw [hr p, if_neg (by omega), if_pos (by omega)]
  have g3 : ∀ p, e ≤ p → d1[p]! = d[p]! := fun p h => by rw [hr p, if_neg (by omega), if_neg (by omega)]
  refine ⟨fun i j h1 h2 h3 => ?_, fun i j h1 h2 h3 => ?_, fun i j h1 h2 h3 h4 => ?_, fun i j h1 h2 h3 => ?_, fun i j h1 h2 h3 => ?_, fun i j h1 h2 h3 h4 => ?_, fun i j h1 h2 h3 h4 => ?_⟩
  · rw [g0 i (by omega), g0 j (by omega)]; exact hs1 i j h1 h2 (by omega)
  · rw [g1 i h1 (by omega), g1 j (by omega) h3]; exact hs2 _ _ (by omega) (by omega) (by omega)
  · rw [g0 i h2, g1 j h3 h4]; exact ht _ _ h1 (by omega) (by omega) (by omega)
  · rw [g2 i h1 (by omega), g2 j (by omega) h3]; exact hs1 _ _ (by omega) (by omega) (by omega)
  · rw [g3 i h1, g3 j (by omega)]; exact hs2 _ _ (by omega) h2 h3
  · rw [g2 i h1 h2, g3 j h3]; exact ht _ _ (by omega) (by omega) (by omega) h4
  · by_cases i1 : i < s
    · rw [g0 i i1]
      by_cases j1 : j < e
      · rw [g2 j h3 j1]
        exact hs1 _ _ h1 (by omega) (by omega)
      · rw [g3 j (by omega)]
        have f1 := lo (by omega) (by omega)
        have f2 := so_le hs1 (i := i) (j := s - 1) h1 (by omega) (by omega)
        have f3 := so_le hs2 (i := mid + m - s) (j := j) (by omega) (by omega) h4
        have f4 := ht (s - 1) (mid + m - s) (by omega) (by omega) (by omega) (by omega)
        unfold elLe at *
        omega
    · rw [g1 i (by omega) h2]
      by_cases j1 : j < e
      · rw [g2 j h3 j1]
        have f1 := hi (by omega) (by omega)
        have f2 := so_le hs2 (i := i + m - s) (j := mid + m - 1 - s) (by omega) (by omega) (by omega)
        have f3 := so_le hs1 (i := s) (j := j + m - e) (by omega) (by omega) (by omega)
        unfold elLe at *
        omega
      · rw [g3 j (by omega)]
        exact hs2 _ _ (by omega) (by omega) h4

theorem perm_so {a b : Nat} {d d' : Array El} (h : PermIn a b d d') {lo hi : Nat} (hd : hi ≤ a ∨ b ≤ lo) (hs : SoIn lo hi d) : SoIn lo hi d' := by
  intro i j h1 h2 h3
  rw [h.2.1 i (by omega), h.2.1 j (by omega)]
  exact hs i j h1 h2 h3
theorem perm_tag {a b : Nat} {d d' : Array El} (h : PermIn a b d d') (hb : b ≤ d.size) {lo mi hi : Nat} (hd : (lo ≤ a ∧ b ≤ mi) ∨ (mi ≤ a ∧ b ≤ hi) ∨ hi ≤ a ∨ b ≤ lo) (hs : TagLt lo mi hi d) : TagLt lo mi hi d' := by
  intro i j h1 h2 h3 h4
  by_cases i1 : a ≤ i ∧ i < b
  · by_cases j1 : a ≤ j ∧ j < b
    · omega
    · rw [h.2.1 j (by omega)]
      exact permIn_all d d' a b (fun x => x.2 < d[j]!.2) hb h (fun k k1 k2 => hs k j (by omega) (by omega) h3 h4) i i1.1 i1.2
  · rw [h.2.1 i (by omega)]
    by_cases j1 : a ≤ j ∧ j < b
    · exact permIn_all d d' a b (fun x => d[i]!.2 < x.2) hb h (fun k k1 k2 => hs i k h1 h2 (by omega) (by omega)) j j1.1 j1.2
    · rw [h.2.1 j (by omega)]
      exact hs i j h1 h2 h3 h4

theorem so_join {a mid b : Nat} {d d2 d3 : Array El} (hm : a ≤ mid) (hmb : mid ≤ b) (hb : b ≤ d.size) (hx : ∀ i j, a ≤ i → i < mid → mid ≤ j → j < b → elLe d[i]! d[j]!)
    (p1 : PermIn a mid d d2) (s1 : SoIn a mid d2) (p2 : PermIn mid b d2 d3) (s2 : SoIn mid b d3) : SoIn a b d3 ∧ PermIn a b d d3 := by
  have z2 : d2.size = d.size := p1.1
  refine ⟨fun i j h1 h2 h3 => ?_, permIn_trans _ _ _ _ _ (permIn_mono _ _ _ _ _ _ (Nat.le_refl _) hmb hb p1) (permIn_mono _ _ _ _ _ _ hm (Nat.le_refl _) (by omega) p2)⟩
  by_cases j1 : j < mid
  · rw [p2.2.1 i (by omega), p2.2.1 j (by omega)]; exact s1 i j h1 h2 j1
  · by_cases i1 : i < mid
    · rw [p2.2.1 i (by omega)]
      have y1 : ∀ k, mid ≤ k → k < b → elLe d2[i]! d[k]! := fun k k1 k2 =>
        permIn_all d d2 a mid (fun x => elLe x d[k]!) (by omega) p1 (fun q q1 q2 => hx q k q1 q2 k1 k2) i h1 i1
      exact permIn_all d2 d3 mid b (fun x => elLe d2[i]! x) (by omega) p2 (fun q q1 q2 => by rw [p1.2.1 q (by omega)]; exact y1 q q1 q2) j (by omega) h3
    · exact s2 i j (by omega) h2 h3

theorem ins_tag (a : Nat) : ∀ (j : Nat) (d : Array El), j < d.size → (∀ p, a ≤ p → p < j → d[p]!.2 < d[j]!.2) → insInner elK a j d = insInner elL a j d
  | 0, d, _, _ => rfl
  | j + 1, d, hj, ht => by
    unfold insInner
    by_cases h : j + 1 > a
    · have e : elK d[j + 1]! d[j]! = elL d[j + 1]! d[j]! := by
        have := ht j (by omega) (by omega)
        unfold elK elL
        rw [decide_eq_decide]
        omega
      rw [e]
      split
      · refine ins_tag a j _ (by rw [swp_size]; omega) (fun p h1 h2 => ?_)
        rw [swp_get d hj (by omega), swp_get d hj (by omega), if_neg (by omega), if_neg (by omega), if_pos rfl]
        exact ht p h1 (by omega)
      · rfl
    · simp [h]

theorem insInner_perm (hS : SWO elL) (a i : Nat) (d : Array El) (hai : a ≤ i) (hi : i < d.size) (hs : SortedIn elL a i d) : PermIn a (i + 1) d (insInner elL a i d) :=
  (insInner_spec hS swp_permIn permIn_refl permIn_trans a (i + 1) i (by omega) i d hai (Nat.le_refl _) hi ⟨fun p q hap hpq hqi _ hq => hs p q hap hpq (by omega), fun q h1 h2 => by omega⟩).1
theorem insInner_sorts (hS : SWO elL) (a i : Nat) (d : Array El) (hai : a ≤ i) (hi : i < d.size) (hs : SortedIn elL a i d) : SortedIn elL a (i + 1) (insInner elL a i d) :=
  (insInner_spec hS swp_permIn permIn_refl permIn_trans a (i + 1) i (by omega) i d hai (Nat.le_refl _) hi ⟨fun p q hap hpq hqi _ hq => hs p q hap hpq (by omega), fun q h1 h2 => by omega⟩).2

theorem insOuter_tag (a b : Nat) : ∀ (n i : Nat) (d : Array El), b - i = n → a ≤ i → b ≤ d.size → SortedIn elL a i d → (∀ p q, a ≤ p → p < q → q < b → i ≤ q → d[p]!.2 < d[q]!.2) → insOuter elK a b i d = insOuter elL a b i d
  | 0, i, d, hn, _, _, _, _ => by rw [insOuter, if_neg (by omega)]; rw [insOuter, if_neg (by omega)]
  | n + 1, i, d, hn, hai, hb, hs, ht => by
    rw [insOuter, if_pos (by omega)]
    conv => rhs; rw [insOuter, if_pos (by omega)]
    rw [ins_tag a i d (by omega) (fun p h1 h2 => ht p i h1 h2 (by omega) (Nat.le_refl _))]
    have hp := insInner_perm swo_elL a i d hai (by omega) hs
    refine insOuter_tag a b n (i + 1) _ (by omega) (by omega) (by rw [hp.1]; exact hb) (insInner_sorts swo_elL a i d hai (by omega) hs) (fun p q h1 h2 h3 h4 => ?_)
    rw [hp.2.1 q (by omega)]
    by_cases p1 : p < i + 1
    · exact permIn_all d _ a (i + 1) (fun x => x.2 < d[q]!.2) (by omega) hp (fun k k1 k2 => ht k q k1 (by omega) h3 (by omega)) p h1 p1
    · rw [hp.2.1 p (by omega)]
      exact ht p q h1 h2 h3 (by omega)

theorem ins_so (a b : Nat) (d : Array El) (hab : a ≤ b) (hb : b ≤ d.size) (ht : ∀ p q, a ≤ p → p < q → q < b → d[p]!.2 < d[q]!.2) : PermIn a b d (insertionSort elK d a b) ∧ SoIn a b (insertionSort elK d a b) := by
  have e : insertionSort elK d a b = insertionSort elL d a b := by
    unfold insertionSort
    exact insOuter_tag a b _ (a + 1) d rfl (by omega) hb (fun i j h1 h2 h3 => by omega) (fun p q h1 h2 h3 _ => ht p q h1 h2 h3)
  rw [e]
  have h := insertionSort_holds (lt := elL) swo_elL d a b hab hb
  exact ⟨h.1, soIn_iff.1 h.2⟩

/-- the blocks of bs elements from 0 up to c: each is sorted, and has lesser tags than what is behind it -/
def BlkR (bs lo hi n : Nat) (d : Array El) : Prop := ∀ k, lo + k * bs < hi → SoIn (lo + k * bs) (min (lo + k * bs + bs) n) d ∧ TagLt (lo + k * bs) (min (lo + k * bs + bs) n) n d

theorem blk_end {bs n : Nat} {d : Array El} (h : BlkR bs 0 n n d) (hn : n ≤ bs) : SoIn 0 n d := by
  by_cases e : n = 0
  · subst e; intro i j _ _ h3; omega
  · have := (h 0 (by omega)).1
    simp only [Nat.zero_mul, Nat.zero_add, Nat.add_zero] at this
    rwa [Nat.min_eq_right hn] at this

/-- one more block of insertion sort -/
theorem blk_ins {n a b : Nat} {d d' : Array El} (hn : n = d.size) (hab : a ≤ b) (hbn : b ≤ n) (t : Nat) (ha : a = t * 20) (hb : b = a + 20 ∨ b = n ∧ n < a + 20) (h : BlkR 20 0 a n d) (ht : ∀ p q, a ≤ p → p < q → q < n → d[p]!.2 < d[q]!.2)
    (hp : PermIn a b d d') (hs : SoIn a b d') : BlkR 20 0 b n d' ∧ (∀ p q, b ≤ p → p < q → q < n → d'[p]!.2 < d'[q]!.2) := by
  refine ⟨fun k hk => ?_, fun p q h1 h2 h3 => by rw [hp.2.1 p (by omega), hp.2.1 q (by omega)]; exact ht p q (by omega) h2 h3⟩
  by_cases hkt : k < t
  · have g := h k (by omega)
    refine ⟨perm_so hp (by omega) g.1, perm_tag hp (by omega) (by omega) g.2⟩
  · obtain rfl : k = t := by omega
    have e : min (0 + k * 20 + 20) n = b := by omega
    rw [e, show 0 + k * 20 = a from by omega]
    refine ⟨hs, perm_tag hp (by omega) (by omega) (fun i j h1 h2 h3 h4 => ht i j h1 (by omega) h4)⟩

/-- one more merge -/
theorem blk_merge {bs n a b t : Nat} {d d' : Array El} (hn : n = d.size) (hbs : 0 < bs) (ha : a = t * (2 * bs)) (hb : b = min (a + 2 * bs) n) (hab : a ≤ b) (h1 : BlkR (2 * bs) 0 a n d) (h2 : BlkR bs a n n d)
    (hp : PermIn a b d d') (hs : SoIn a b d') : BlkR (2 * bs) 0 b n d' ∧ BlkR bs b n n d' := by
  have tg : TagLt a b n d := by
    intro i j i1 i2 j1 j2
    by_cases i3 : i < a + bs
    · have g := (h2 0 (by omega)).2
      simp only [Nat.zero_mul, Nat.add_zero] at g
      exact g i j i1 (by omega) (by omega) j2
    · have g := (h2 1 (by omega)).2
      simp only [Nat.one_mul] at g
      exact g i j (by omega) (by omega) (by omega) j2
  refine ⟨fun k hk => ?_, fun k hk => ?_⟩
  · by_cases hkt : k < t
    · have e1 : k * (2 * bs) + 2 * bs ≤ t * (2 * bs) := by
        have := Nat.mul_le_mul_right (2 * bs) (show k + 1 ≤ t from hkt)
        rwa [Nat.add_mul, Nat.one_mul] at this
      have g := h1 k (by omega)
      exact ⟨perm_so hp (by omega) g.1, perm_tag hp (by omega) (by omega) g.2⟩
    · have e2 : k < t + 1 := by
        refine Nat.lt_of_mul_lt_mul_right (a := 2 * bs) ?_
        rw [Nat.add_mul, Nat.one_mul]
        omega
      obtain rfl : k = t := by omega
      rw [← ha, Nat.zero_add, ← hb]
      exact ⟨hs, perm_tag hp (by omega) (by omega) tg⟩
  · by_cases hbn : b = n
    · omega
    · have e : b + k * bs = a + (k + 2) * bs := by rw [Nat.add_mul]; omega
      rw [e] at hk ⊢
      have g := h2 (k + 2) hk
      have e3 : a + (k + 2) * bs ≥ b := by omega
      exact ⟨perm_so hp (by omega) g.1, perm_tag hp (by omega) (by omega) g.2⟩

/-- behind the merges: blocks of twice as many; one alone at the end stays as it is -/
theorem blk_last {bs n a t : Nat} {d : Array El} (hbs : 0 < bs) (ha : a = t * (2 * bs)) (han : a ≤ n) (hl : n ≤ a + bs) (h1 : BlkR (2 * bs) 0 a n d) (h2 : BlkR bs a n n d) : BlkR (2 * bs) 0 n n d := by
  intro k hk
  by_cases hkt : k < t
  · have e1 : k * (2 * bs) + 2 * bs ≤ t * (2 * bs) := by
      have := Nat.mul_le_mul_right (2 * bs) (show k + 1 ≤ t from hkt)
      rwa [Nat.add_mul, Nat.one_mul] at this
    exact h1 k (by omega)
  · have e2 : k < t + 1 := by
      refine Nat.lt_of_mul_lt_mul_right (a := 2 * bs) ?_
      rw [Nat.add_mul, Nat.one_mul]
      omega
    obtain rfl : k = t := by omega
    have g := h2 0 (by omega)
    simp only [Nat.zero_mul, Nat.add_zero] at g
    rw [← ha, Nat.zero_add]
    have e3 : min (a + 2 * bs) n = min (a + bs) n := by omega
    rw [e3]
    exact g

/-- what two neighbours of blocks have, for a merge -/
theorem blk_two {bs n a : Nat} {d : Array El} (hn : a + bs < n) (h2 : BlkR bs a n n d) : SoIn a (a + bs) d ∧ SoIn (a + bs) (min (a + 2 * bs) n) d ∧ TagLt a (a + bs) (min (a + 2 * bs) n) d := by
  have g0 := h2 0 (by omega)
  have g1 := h2 1 (by omega)
  simp only [Nat.zero_mul, Nat.add_zero, Nat.one_mul] at g0 g1
  rw [Nat.min_eq_left (by omega)] at g0
  refine ⟨g0.1, ?_, fun i j i1 i2 j1 j2 => g0.2 i j i1 i2 j1 (by omega)⟩
  have e : min (a + bs + bs) n = min (a + 2 * bs) n := by omega
  rw [e] at g1
  exact g1.1

def tagged (l : List Int) : List El := l.zipIdx
def soList (l : List Int) : List El := (tagged l).mergeSort (fun x y => !elL y x)
theorem so_list (l : List Int) (d' : Array El) (hp : PermIn 0 l.length (tagged l).toArray d') (hs : SoIn 0 l.length d') : d'.toList = soList l := by
  have e : (tagged l).toArray.size = l.length := by simp [tagged]
  have h := sorted_unique_holds (lt := elL) swo_elL elL_total (tagged l).toArray d' (by rw [e]; exact hp) (by rw [e]; exact soIn_iff.2 hs)
  simpa [soList] using h
theorem tagged_inc (l : List Int) : ∀ p q, 0 ≤ p → p < q → q < l.length → (tagged l).toArray[p]!.2 < (tagged l).toArray[q]!.2 := by
  intro p q _ h1 h2
  rw [getElem!_pos _ p (by simp [tagged]; omega), getElem!_pos _ q (by simp [tagged]; omega)]
  simp [tagged]
  exact h1

end Go.Proofs.YtacogloheiendaaGreatDoor
namespace Go.Proofs.YtacogloheiendaaGreatDoor
open Go.RowKit Go.Sort
set_option linter.unusedVariables false
set_option linter.unusedSimpArgs false

/-- the row: keys, and pointers by tags -/
structure Hol (pt : Nat → Nat) (blk : Nat) (d : Array El) (W : World) : Prop where
  k : ∀ i, i < d.size → W.cell? ⟨blk, i * 2, none⟩ = some (.int .i64 d[i]!.1)
  p : ∀ i, i < d.size → W.cell? ⟨blk, i * 2 + 1, none⟩ = some (.pointer (some ⟨pt d[i]!.2, 0, none⟩))
  f : ∀ i, i < d.size * 2 → W.frozen? ⟨blk, i, none⟩ = false
structure SoW (pt : Nat → Nat) (w0 : World) (blk : Nat) (d : Array El) (W : World) : Prop where
  g : w0.grownBy W (some blk)
  h : Hol pt blk d W
  b : blk < w0.heap.size
theorem SoW.lt {pt : Nat → Nat} {w0 W : World} {blk : Nat} {d : Array El} (h : SoW pt w0 blk d W) : blk < W.heap.size := Nat.lt_of_lt_of_le h.b h.g.size
theorem grownBy_drewN {w0 W : World} {r : Option Nat} (h : w0.grownBy W r) (n : Nat) : w0.grownBy (W.drewN n) r := ⟨h.os, h.tape, h.output, h.size, h.block⟩
theorem Hol.drewN {pt : Nat → Nat} {W : World} {blk : Nat} {d : Array El} (h : Hol pt blk d W) (n : Nat) : Hol pt blk d (W.drewN n) := ⟨h.k, h.p, h.f⟩
theorem SoW.drewN {pt : Nat → Nat} {w0 W : World} {blk : Nat} {d : Array El} (h : SoW pt w0 blk d W) (n : Nat) : SoW pt w0 blk d (W.drewN n) := ⟨grownBy_drewN h.g n, h.h.drewN n, h.b⟩
theorem SoW.drew {pt : Nat → Nat} {w0 W : World} {blk : Nat} {d : Array El} (h : SoW pt w0 blk d W) : SoW pt w0 blk d W.drew := h.drewN 1
theorem Hol.below {pt : Nat → Nat} {W W' : World} {blk : Nat} {d : Array El} (h : Hol pt blk d W) (hb : Below W.heap.size W W') (hl : blk < W.heap.size) : Hol pt blk d W' :=
  ⟨fun i hi => (hb.cell (p := ⟨blk, i * 2, none⟩) hl).trans (h.k i hi), fun i hi => (hb.cell (p := ⟨blk, i * 2 + 1, none⟩) hl).trans (h.p i hi), fun i hi => (hb.frozen (p := ⟨blk, i, none⟩) hl).trans (h.f i hi)⟩
theorem grownBy_below {w0 W W' : World} {r : Option Nat} (h : w0.grownBy W r) (hb : Below W.heap.size W W') : w0.grownBy W' r :=
  ⟨hb.os.trans h.os, hb.tape.trans h.tape, hb.output.trans h.output, Nat.le_trans h.size hb.size, fun i hi hr => (hb.block i (Nat.lt_of_lt_of_le hi h.size)).trans (h.block i hi hr)⟩
theorem SoW.below {pt : Nat → Nat} {w0 W W' : World} {blk : Nat} {d : Array El} (h : SoW pt w0 blk d W) (hb : Below W.heap.size W W') : SoW pt w0 blk d W' := ⟨grownBy_below h.g hb, h.h.below hb h.lt, h.b⟩

theorem grownBy_set {w0 W : World} {blk : Nat} (h : w0.grownBy W (some blk)) (o : Nat) (v : Value) : w0.grownBy (W.setCell ⟨blk, o, none⟩ v) (some blk) := by
  refine ⟨h.os, h.tape, h.output, by simpa using h.size, fun i hi hr => ?_⟩
  rw [← h.block i hi hr]
  exact Below.heap_setCell W ⟨blk, o, none⟩ v i (by intro e; exact hr (congrArg some e))
/-- two elements are exchanged -/
theorem SoW.swap {pt : Nat → Nat} {w0 W : World} {blk : Nat} {d : Array El} (h : SoW pt w0 blk d W) (i j : Nat) (hi : i < d.size) (hj : j < d.size) (hij : i ≠ j) :
    SoW pt w0 blk (swp d i j) ((((W.setCell ⟨blk, i * 2, none⟩ (.int .i64 d[j]!.1)).setCell ⟨blk, i * 2 + 1, none⟩ (.pointer (some ⟨pt d[j]!.2, 0, none⟩))).setCell ⟨blk, j * 2, none⟩ (.int .i64 d[i]!.1)).setCell ⟨blk, j * 2 + 1, none⟩ (.pointer (some ⟨pt d[i]!.2, 0, none⟩))) := by
  have same : ∀ (X : World) (o : Nat) (v : Value), (X.cell? ⟨blk, o, none⟩).isSome = true → (X.setCell ⟨blk, o, none⟩ v).cell? ⟨blk, o, none⟩ = some v := fun X o v hs => World.cell?_setCell_same' _ _ _ hs
  have far : ∀ (X : World) (o o' : Nat) (v : Value), o ≠ o' → (X.setCell ⟨blk, o, none⟩ v).cell? ⟨blk, o', none⟩ = X.cell? ⟨blk, o', none⟩ := fun X o o' v hne => World.cell?_setCell_other _ _ _ _ (by intro e; injection e with e1 e2; exact hne e2)
  have ki := h.h.k i hi; have pi := h.h.p i hi; have kj := h.h.k j hj; have pj := h.h.p j hj
  refine ⟨grownBy_set (grownBy_set (grownBy_set (grownBy_set h.g _ _) _ _) _ _) _ _, ⟨fun q hq => ?_, fun q hq => ?_, fun q hq => ?_⟩, h.b⟩
  · rw [swp_size] at hq
    rw [swp_get d hi hj]
    by_cases q1 : q = j
    · subst q1
      rw [if_pos rfl, far _ _ _ _ (by omega), same _ _ _ (by rw [far _ _ _ _ (by omega), far _ _ _ _ (by omega), kj]; rfl)]
    · rw [if_neg q1]
      by_cases q2 : q = i
      · subst q2
        rw [if_pos rfl, far _ _ _ _ (by omega), far _ _ _ _ (by omega), far _ _ _ _ (by omega), same _ _ _ (by rw [ki]; rfl)]
      · rw [if_neg q2, far _ _ _ _ (by omega), far _ _ _ _ (by omega), far _ _ _ _ (by omega), far _ _ _ _ (by omega), h.h.k q hq]
  · rw [swp_size] at hq
    rw [swp_get d hi hj]
    by_cases q1 : q = j
    · subst q1
      rw [if_pos rfl, same _ _ _ (by rw [far _ _ _ _ (by omega), far _ _ _ _ (by omega), far _ _ _ _ (by omega), pj]; rfl)]
    · rw [if_neg q1]
      by_cases q2 : q = i
      · subst q2
        rw [if_pos rfl, far _ _ _ _ (by omega), far _ _ _ _ (by omega), same _ _ _ (by rw [far _ _ _ _ (by omega), pi]; rfl)]
      · rw [if_neg q2, far _ _ _ _ (by omega), far _ _ _ _ (by omega), far _ _ _ _ (by omega), far _ _ _ _ (by omega), h.h.p q hq]
  · rw [swp_size] at hq
    rw [World.frozen?_setCell, World.frozen?_setCell, World.frozen?_setCell, World.frozen?_setCell]
    exact h.h.f q hq

theorem isNaN_any (n : Int) (w : World) : Calls Tryz.prog 94 #[.int .i64 n] w fun e w' => e = .returned (.bool false) ∧ w = w' := by
  go_enter Tryz.func94, Tryz.ntmps94
  go_wp2
  go_ret
  exact ⟨by simp, rfl⟩
def cmpI (a b : Int) : Int := if a < b then -1 else if b < a then 1 else 0
theorem cmpI_neg (a b : Int) : cmpI a b < 0 ↔ a < b := by unfold cmpI; split <;> (try split) <;> omega
theorem cmpI_lt {a b : Int} (h : a < b) : cmpI a b = -1 := by unfold cmpI; rw [if_pos h]
theorem cmpI_gt {a b : Int} (h : b < a) : cmpI a b = 1 := by unfold cmpI; rw [if_neg (by omega), if_pos h]
theorem cmpI_eq {a b : Int} (h1 : ¬ a < b) (h2 : ¬ b < a) : cmpI a b = 0 := by unfold cmpI; rw [if_neg h1, if_neg h2]
theorem ret_intS {k : IntKind} {a b : Int} (h : a = b) : Ending.returned (.int k a) = .returned (.int k b) := by rw [h]
theorem compare_any (a b : Int) (w : World) : Calls Tryz.prog 78 #[.int .i64 a, .int .i64 b] w fun e w' => e = .returned (.int .i64 (cmpI a b)) ∧ w = w' := by
  by_cases h1 : a < b
  · go_enter Tryz.func78, Tryz.ntmps78
    go_wp2_with (first | (go_at_call 94; refine (isNaN_any _ _).mono ?_; rintro e w' ⟨rfl, rfl⟩))
    go_ret
    exact ⟨ret_intS (cmpI_lt (by omega)).symm, rfl⟩
  · by_cases h2 : b < a
    · go_enter Tryz.func78, Tryz.ntmps78
      go_wp2_with (first | (go_at_call 94; refine (isNaN_any _ _).mono ?_; rintro e w' ⟨rfl, rfl⟩))
      go_ret
      exact ⟨ret_intS (cmpI_gt (by omega)).symm, rfl⟩
    · go_enter Tryz.func78, Tryz.ntmps78
      go_wp2_with (first | (go_at_call 94; refine (isNaN_any _ _).mono ?_; rintro e w' ⟨rfl, rfl⟩))
      go_ret
      exact ⟨ret_intS (cmpI_eq (by omega) (by omega)).symm, rfl⟩
set_option maxRecDepth 100000 in
set_option maxHeartbeats 2000000 in
theorem swapRange_any (pt : Nat → Nat) (w0 : World) (blk cap a b n : Nat) (d : Array El) (W : World) (hS : SoW pt w0 blk d W) (hsz : d.size ≤ 4000000) (hab : a + n ≤ b) (hb : b + n ≤ d.size) :
    Calls Tryz.prog 126 #[.slice (some ⟨blk, 0, none⟩) d.size cap, .int .i64 a, .int .i64 b, .int .i64 n, .func (.func 77) #[] #[]] W fun e w' => e = .returned (.tuple #[]) ∧
      ∃ d', SoW pt w0 blk d' w' ∧ d'.size = d.size ∧ (∀ lo hi, lo ≤ a → b + n ≤ hi → hi ≤ d.size → PermIn lo hi d d') ∧ ∀ p, d'[p]! = if a ≤ p ∧ p < a + n then d[p + b - a]! else if b ≤ p ∧ p < b + n then d[p + a - b]! else d[p]! := by
  have HS := Lib.hid hS
  clear hS
  go_enter Tryz.func126, Tryz.ntmps126
  go_wp2
  go_loopw [10] (fun vi wr => ∃ (i : Nat) (dk : Array El), vi = .int .i64 i ∧ i ≤ n ∧ Hid (SoW pt w0 blk dk wr) ∧ dk.size = d.size ∧ Hid (∀ lo hi, lo ≤ a → b + n ≤ hi → hi ≤ d.size → PermIn lo hi d dk) ∧ Hid (∀ p, dk[p]! = if a ≤ p ∧ p < a + i then d[p + b - a]! else if b ≤ p ∧ p < b + i then d[p + a - b]! else d[p]!)) (fun vi _ => n - (intOf vi).toNat)
  case atStart => exact ⟨0, d, rfl, Nat.zero_le _, HS, rfl, Lib.hid (fun lo hi _ _ _ => permIn_refl _ _ _), Lib.hid (fun p => by rw [if_neg (by omega), if_neg (by omega)])⟩
  case round =>
    obtain ⟨i, dk, rfl, hin, HW, hsk, HP, HD⟩ := hrel
    by_cases hlt : i < n
    · have c1 := HW.out.h.k (a + i) (by omega)
      have c2 := HW.out.h.p (a + i) (by omega)
      have c3 := HW.out.h.k (b + i) (by omega)
      have c4 := HW.out.h.p (b + i) (by omega)
      have f1 := HW.out.h.f ((a + i) * 2) (by omega)
      have f2 := HW.out.h.f ((a + i) * 2 + 1) (by omega)
      have f3 := HW.out.h.f ((b + i) * 2) (by omega)
      have f4 := HW.out.h.f ((b + i) * 2 + 1) (by omega)
      have e1 : ((a : Int) + (i : Int)).toNat = a + i := by omega
      have e2 : ((b : Int) + (i : Int)).toNat = b + i := by omega
      have p1 : (0 : Int) ≤ (a : Int) + (i : Int) := by omega
      have p2 : (0 : Int) ≤ (b : Int) + (i : Int) := by omega
      have b1 : (a : Int) + (i : Int) < (d.size : Int) := by omega
      have b2 : (b : Int) + (i : Int) < (d.size : Int) := by omega
      have r1 : IntKind.i64.wrap ((a : Int) + (i : Int)) = (a : Int) + (i : Int) := by rw [IntKind.wrap_i64]; omega
      have r2 : IntKind.i64.wrap ((b : Int) + (i : Int)) = (b : Int) + (i : Int) := by rw [IntKind.wrap_i64]; omega
      obtain ⟨k1, ek1⟩ : ∃ x, dk[a + i]! = x := ⟨_, rfl⟩
      obtain ⟨k2, ek2⟩ : ∃ x, dk[b + i]! = x := ⟨_, rfl⟩
      have hsw := Lib.hid (HW.out.drew.swap (a + i) (b + i) (by omega) (by omega) (by omega))
      rw [ek1, ek2] at hsw
      rw [ek1] at c1 c2
      rw [ek2] at c3 c4
      have EK := Lib.hid (And.intro ek1 ek2)
      clear ek1 ek2
      go_wp2_with fail
      go_big_region
      go_wp2_with fail
      go_roundw
      case rel =>
        refine ⟨i + 1, swp dk (a + i) (b + i), by go_num, by omega, hsw, by rw [swp_size]; exact hsk, Lib.hid (fun lo hi h1 h2 h3 => permIn_trans _ _ _ _ _ (HP.out lo hi h1 h2 h3) (swp_permIn _ _ _ _ _ (by omega) (by omega) (by omega) (by omega) (by omega))), Lib.hid (fun p => ?_)⟩
        rw [swp_get dk (by omega) (by omega), HD.out p, HD.out (a + i), HD.out (b + i)]
        by_cases q1 : p = b + i
        · subst q1
          rw [if_pos rfl, if_neg (show ¬ (a ≤ a + i ∧ a + i < a + i) by omega), if_neg (show ¬ (b ≤ a + i ∧ a + i < b + i) by omega), if_neg (show ¬ (a ≤ b + i ∧ b + i < a + (i + 1)) by omega), if_pos (show b ≤ b + i ∧ b + i < b + (i + 1) by omega), show b + i + a - b = a + i from by omega]
        · rw [if_neg q1]
          by_cases q2 : p = a + i
          · subst q2
            rw [if_pos rfl, if_neg (show ¬ (a ≤ b + i ∧ b + i < a + i) by omega), if_neg (show ¬ (b ≤ b + i ∧ b + i < b + i) by omega), if_pos (show a ≤ a + i ∧ a + i < a + (i + 1) by omega), show a + i + b - a = b + i from by omega]
          · rw [if_neg q2]
            by_cases q3 : a ≤ p ∧ p < a + i
            · rw [if_pos q3, if_pos (show a ≤ p ∧ p < a + (i + 1) by omega)]
            · rw [if_neg q3, if_neg (show ¬ (a ≤ p ∧ p < a + (i + 1)) by omega)]
              by_cases q4 : b ≤ p ∧ p < b + i
              · rw [if_pos q4, if_pos (show b ≤ p ∧ p < b + (i + 1) by omega)]
              · rw [if_neg q4, if_neg (show ¬ (b ≤ p ∧ p < b + (i + 1)) by omega)]
      case measure => simp [intOf]; omega
    · obtain rfl : i = n := by omega
      go_wp2
      go_end0
      exact ⟨rfl, dk, HW.out, hsk, HP.out, HD.out⟩
end Go.Proofs.YtacogloheiendaaGreatDoor
namespace Go.Proofs.YtacogloheiendaaGreatDoor
open Go.RowKit Go.Sort
set_option linter.unusedVariables false
set_option linter.unusedSimpArgs false

/-- what is still to be done: the part [m - i, m + j) of dk, rotated, is e; all else is e already -/
def RotLeft (m i j : Nat) (e dk : Array El) : Prop := ∀ p, e[p]! = if m ≤ p + i ∧ p + i < m + j then dk[p + i]! else if m + j ≤ p + i ∧ p < m + j then dk[p - j]! else dk[p]!

theorem rot_more (m i j : Nat) (e d d' : Array El) (hij : j < i) (him : i ≤ m) (h : RotLeft m i j e d)
    (hd : ∀ p, d'[p]! = if m - i ≤ p ∧ p < m - i + j then d[p + m - (m - i)]! else if m ≤ p ∧ p < m + j then d[p + (m - i) - m]! else d[p]!) : RotLeft m (i - j) j e d' := by
  intro p
  rw [h p]
  by_cases c1 : m ≤ p + i ∧ p + i < m + j
  · rw [if_pos c1, if_neg (show ¬ (m ≤ p + (i - j) ∧ p + (i - j) < m + j) by omega), if_neg (show ¬ (m + j ≤ p + (i - j) ∧ p < m + j) by omega), hd p, if_pos (show m - i ≤ p ∧ p < m - i + j by omega), show p + m - (m - i) = p + i from by omega]
  · rw [if_neg c1]
    by_cases c2 : m + j ≤ p + i ∧ p < m + j
    · rw [if_pos c2]
      by_cases c3 : m ≤ p + (i - j) ∧ p + (i - j) < m + j
      · rw [if_pos c3, hd, if_neg (show ¬ (m - i ≤ p + (i - j) ∧ p + (i - j) < m - i + j) by omega), if_pos c3, show p + (i - j) + (m - i) - m = p - j from by omega]
      · rw [if_neg c3, if_pos (show m + j ≤ p + (i - j) ∧ p < m + j by omega), hd, if_neg (show ¬ (m - i ≤ p - j ∧ p - j < m - i + j) by omega), if_neg (show ¬ (m ≤ p - j ∧ p - j < m + j) by omega)]
    · rw [if_neg c2, if_neg (show ¬ (m ≤ p + (i - j) ∧ p + (i - j) < m + j) by omega), if_neg (show ¬ (m + j ≤ p + (i - j) ∧ p < m + j) by omega), hd, if_neg (show ¬ (m - i ≤ p ∧ p < m - i + j) by omega), if_neg (show ¬ (m ≤ p ∧ p < m + j) by omega)]
theorem rot_less (m i j : Nat) (e d d' : Array El) (hij : i < j) (him : i ≤ m) (h : RotLeft m i j e d)
    (hd : ∀ p, d'[p]! = if m - i ≤ p ∧ p < m - i + i then d[p + (m + j - i) - (m - i)]! else if m + j - i ≤ p ∧ p < m + j - i + i then d[p + (m - i) - (m + j - i)]! else d[p]!) : RotLeft m i (j - i) e d' := by
  intro p
  rw [h p]
  by_cases c1 : m ≤ p + i ∧ p + i < m + j
  · rw [if_pos c1]
    by_cases c3 : m ≤ p + i ∧ p + i < m + (j - i)
    · rw [if_pos c3, hd, if_neg (show ¬ (m - i ≤ p + i ∧ p + i < m - i + i) by omega), if_neg (show ¬ (m + j - i ≤ p + i ∧ p + i < m + j - i + i) by omega)]
    · rw [if_neg c3, if_pos (show m + (j - i) ≤ p + i ∧ p < m + (j - i) by omega), hd, if_pos (show m - i ≤ p - (j - i) ∧ p - (j - i) < m - i + i by omega), show p - (j - i) + (m + j - i) - (m - i) = p + i from by omega]
  · rw [if_neg c1, if_neg (show ¬ (m ≤ p + i ∧ p + i < m + (j - i)) by omega)]
    by_cases c2 : m + j ≤ p + i ∧ p < m + j
    · rw [if_pos c2, if_neg (show ¬ (m + (j - i) ≤ p + i ∧ p < m + (j - i)) by omega), hd, if_neg (show ¬ (m - i ≤ p ∧ p < m - i + i) by omega), if_pos (show m + j - i ≤ p ∧ p < m + j - i + i by omega), show p + (m - i) - (m + j - i) = p - j from by omega]
    · rw [if_neg c2, if_neg (show ¬ (m + (j - i) ≤ p + i ∧ p < m + (j - i)) by omega), hd, if_neg (show ¬ (m - i ≤ p ∧ p < m - i + i) by omega), if_neg (show ¬ (m + j - i ≤ p ∧ p < m + j - i + i) by omega)]
theorem rot_same (m i : Nat) (e d d' : Array El) (him : i ≤ m) (h : RotLeft m i i e d)
    (hd : ∀ p, d'[p]! = if m - i ≤ p ∧ p < m - i + i then d[p + m - (m - i)]! else if m ≤ p ∧ p < m + i then d[p + (m - i) - m]! else d[p]!) : ∀ p : Nat, e[p]! = d'[p]! := by
  intro p
  rw [h p, hd p]
  by_cases c1 : m ≤ p + i ∧ p + i < m + i
  · rw [if_pos c1, if_pos (show m - i ≤ p ∧ p < m - i + i by omega), show p + m - (m - i) = p + i from by omega]
  · rw [if_neg c1, if_neg (show ¬ (m - i ≤ p ∧ p < m - i + i) by omega)]
    by_cases c2 : m + i ≤ p + i ∧ p < m + i
    · rw [if_pos c2, if_pos (show m ≤ p ∧ p < m + i by omega), show p + (m - i) - m = p - i from by omega]
    · rw [if_neg c2, if_neg (show ¬ (m ≤ p ∧ p < m + i) by omega)]

theorem rot_exists (a m b : Nat) (d : Array El) (h1 : a ≤ m) (h2 : m ≤ b) (hb : b ≤ d.size) : ∃ e : Array El, RotIs a m b d e := by
  refine ⟨(Array.range d.size).map (fun p => if a ≤ p ∧ p + m < a + b then d[p + m - a]! else if a + b ≤ p + m ∧ p < b then d[p + m - b]! else d[p]!), fun p => ?_⟩
  by_cases hp : p < d.size
  · rw [getElem!_pos _ p (by simpa using hp)]
    simp
  · rw [getElem!_neg _ p (by simpa using hp), if_neg (by omega), if_neg (by omega), getElem!_neg d p hp]
theorem rot_start (a m b : Nat) (d e : Array El) (h1 : a ≤ m) (h2 : m ≤ b) (h : RotIs a m b d e) : RotLeft m (m - a) (b - m) e d := by
  intro p
  rw [h p]
  by_cases c1 : a ≤ p ∧ p + m < a + b
  · rw [if_pos c1, if_pos (show m ≤ p + (m - a) ∧ p + (m - a) < m + (b - m) by omega), show p + m - a = p + (m - a) from by omega]
  · rw [if_neg c1, if_neg (show ¬ (m ≤ p + (m - a) ∧ p + (m - a) < m + (b - m)) by omega)]
    by_cases c2 : a + b ≤ p + m ∧ p < b
    · rw [if_pos c2, if_pos (show m + (b - m) ≤ p + (m - a) ∧ p < m + (b - m) by omega), show p + m - b = p - (b - m) from by omega]
    · rw [if_neg c2, if_neg (show ¬ (m + (b - m) ≤ p + (m - a) ∧ p < m + (b - m)) by omega)]

set_option maxRecDepth 100000 in
set_option maxHeartbeats 2000000 in
theorem rotate_any (pt : Nat → Nat) (w0 : World) (blk cap a m b : Nat) (d : Array El) (W : World) (hS : SoW pt w0 blk d W) (hsz : d.size ≤ 4000000) (ham : a < m) (hmb : m < b) (hb : b ≤ d.size) :
    Calls Tryz.prog 121 #[.slice (some ⟨blk, 0, none⟩) d.size cap, .int .i64 a, .int .i64 m, .int .i64 b, .func (.func 77) #[] #[]] W fun e w' => e = .returned (.tuple #[]) ∧
      ∃ d', SoW pt w0 blk d' w' ∧ d'.size = d.size ∧ PermIn a b d d' ∧ RotIs a m b d d' := by
  obtain ⟨E, hE⟩ := rot_exists a m b d (by omega) (by omega) hb
  have HE := Lib.hid hE
  have HS := Lib.hid hS
  have HR0 := Lib.hid (rot_start a m b d E (by omega) (by omega) hE)
  obtain ⟨i0, ei0⟩ : ∃ i, m - a = i := ⟨_, rfl⟩
  obtain ⟨j0, ej0⟩ : ∃ j, b - m = j := ⟨_, rfl⟩
  rw [ei0, ej0] at HR0
  have zi : (m : Int) - (a : Int) = (i0 : Int) := by omega
  have zj : (b : Int) - (m : Int) = (j0 : Int) := by omega
  have hi0 : i0 + a = m := by omega
  have hj0 : j0 + m = b := by omega
  clear hS hE ei0 ej0
  go_enter Tryz.func121, Tryz.ntmps121
  go_wp2
  clear zi zj
  go_loopw [10, 11] (fun vi vj wr => ∃ (i j : Nat) (dk : Array El), vi = .int .i64 i ∧ vj = .int .i64 j ∧ 0 < i ∧ 0 < j ∧ i + a ≤ m ∧ m + j ≤ b ∧ Hid (SoW pt w0 blk dk wr) ∧ dk.size = d.size ∧ Hid (PermIn a b d dk) ∧ Hid (RotLeft m i j E dk)) (fun vi vj _ => (intOf vi).toNat + (intOf vj).toNat)
  case atStart => exact ⟨i0, j0, d, rfl, rfl, by omega, by omega, by omega, by omega, HS, rfl, Lib.hid (permIn_refl _ _ _), HR0⟩
  case round =>
    obtain ⟨i, j, dk, rfl, rfl, hi, hj, him, hjb, HW, hsk, HP, HR⟩ := hrel
    by_cases heq : i = j
    · subst heq
      have zm : (m : Int) - (i : Int) = ((m - i : Nat) : Int) := by omega
      have hcall := swapRange_any pt w0 blk cap (m - i) m i dk wr HW.out (by omega) (by omega) (by omega)
      rw [hsk] at hcall
      have HC := Lib.hid hcall
      clear hcall
      go_wp2_with (first | (go_at_call 126; refine HC.out.mono ?_; rintro e w' ⟨rfl, d', hS', hz', hp', hd'⟩; have HQ := Lib.hid (And.intro hS' (And.intro hz' (And.intro hp' hd'))); clear hS' hz' hp' hd'))
      go_end0
      obtain ⟨hS', hz', hp', hd'⟩ := HQ.out
      refine ⟨rfl, d', hS', hz', permIn_trans _ _ _ _ _ HP.out (hp' a b (by omega) (by omega) (by omega)), fun p => ?_⟩
      rw [← rot_same m i E dk d' (by omega) HR.out hd' p]
      exact HE.out p
    · have hne : ((i : Int) == (j : Int)) = false := by simp; omega
      by_cases hlt : j < i
      · have zm : (m : Int) - (i : Int) = ((m - i : Nat) : Int) := by omega
        have hcall := swapRange_any pt w0 blk cap (m - i) m j dk wr HW.out (by omega) (by omega) (by omega)
        rw [hsk] at hcall
        have HC := Lib.hid hcall
        clear hcall
        go_wp2_with (first | (go_at_call 126; refine HC.out.mono ?_; rintro e w' ⟨rfl, d', hS', hz', hp', hd'⟩; have HQ := Lib.hid (And.intro hS' (And.intro hz' (And.intro hp' hd'))); clear hS' hz' hp' hd'))
        go_roundw
        case rel =>
          obtain ⟨hS', hz', hp', hd'⟩ := HQ.out
          exact ⟨i - j, j, d', by go_num, rfl, by omega, hj, by omega, hjb, Lib.hid hS', hz', Lib.hid (permIn_trans _ _ _ _ _ HP.out (hp' a b (by omega) (by omega) (by omega))), Lib.hid (rot_more m i j E dk d' hlt (by omega) HR.out hd')⟩
        case measure => simp [intOf]; omega
      · have zm : (m : Int) - (i : Int) = ((m - i : Nat) : Int) := by omega
        have zn : (m : Int) + (j : Int) - (i : Int) = ((m + j - i : Nat) : Int) := by omega
        have hcall := swapRange_any pt w0 blk cap (m - i) (m + j - i) i dk wr HW.out (by omega) (by omega) (by omega)
        rw [hsk] at hcall
        have HC := Lib.hid hcall
        clear hcall
        go_wp2_with (first | (go_at_call 126; refine HC.out.mono ?_; rintro e w' ⟨rfl, d', hS', hz', hp', hd'⟩; have HQ := Lib.hid (And.intro hS' (And.intro hz' (And.intro hp' hd'))); clear hS' hz' hp' hd'))
        go_roundw
        case rel =>
          obtain ⟨hS', hz', hp', hd'⟩ := HQ.out
          exact ⟨i, j - i, d', rfl, by go_num, hi, by omega, him, by omega, Lib.hid hS', hz', Lib.hid (permIn_trans _ _ _ _ _ HP.out (hp' a b (by omega) (by omega) (by omega))), Lib.hid (rot_less m i j E dk d' (by omega) (by omega) HR.out hd')⟩
        case measure => simp [intOf]; omega
end Go.Proofs.YtacogloheiendaaGreatDoor
namespace Go.Proofs.YtacogloheiendaaGreatDoor
open Go.RowKit Go.Sort
set_option linter.unusedVariables false
set_option linter.unusedSimpArgs false

theorem mixedO : Tryz.prog.follows .mixedOrders = true := by kernel_rfl
theorem below_grow (w : World) (n : Nat) (os : Array Obj) : Below w.heap.size w (grow (w.drewN n) os) := by
  refine ⟨rfl, rfl, rfl, ?_, fun i hi => ?_⟩
  · show w.heap.size ≤ (w.heap ++ os).size
    simp
  · show (w.heap ++ os)[i]? = _
    rw [Array.getElem?_append_left hi]
theorem cmp_grow (a b : Int) (p q : Option Addr) (w : World) : Calls Tryz.prog 77 #[.agg #[.int .i64 a, .pointer p], .agg #[.int .i64 b, .pointer q]] w fun e w' => e = .returned (.int .i64 (cmpI a b)) ∧ ∃ q os', w' = grow (w.drewN q) os' := by
  go_enter Tryz.func77, Tryz.ntmps77
  go_wp2_with (first | (go_at_call 78; refine (compare_any _ _ _).mono ?_; rintro e w' ⟨rfl, rfl⟩))
  go_ret
  refine ⟨rfl, 0, #[.cells #[.int .i64 a, .pointer p] 136 (0, 0), .cells #[.int .i64 b, .pointer q] 136 (0, 0)], ?_⟩
  show (w.alloc _).alloc _ = _
  rw [alloc_eq_grow, alloc_eq_grow, grow_grow]
  rfl
theorem SoW.kG {pt : Nat → Nat} {w0 W : World} {blk : Nat} {d : Array El} (h : SoW pt w0 blk d W) (i : Nat) (hi : i < d.size) (n : Nat) (os : Array Obj) : (grow (W.drewN n) os).cell? ⟨blk, i * 2, none⟩ = some (.int .i64 d[i]!.1) :=
  cell_grown h.lt (h.h.k i hi) n os
theorem SoW.pG {pt : Nat → Nat} {w0 W : World} {blk : Nat} {d : Array El} (h : SoW pt w0 blk d W) (i : Nat) (hi : i < d.size) (n : Nat) (os : Array Obj) : (grow (W.drewN n) os).cell? ⟨blk, i * 2 + 1, none⟩ = some (.pointer (some ⟨pt d[i]!.2, 0, none⟩)) :=
  cell_grown h.lt (h.h.p i hi) n os
theorem SoW.grown {pt : Nat → Nat} {w0 W : World} {blk : Nat} {d : Array El} (h : SoW pt w0 blk d W) (n : Nat) (os : Array Obj) : SoW pt w0 blk d (grow (W.drewN n) os) := h.below (below_grow W n os)

set_option maxRecDepth 100000 in
set_option maxHeartbeats 4000000 in
theorem insertion_any (pt : Nat → Nat) (w0 : World) (blk cap a b : Nat) (d : Array El) (W : World) (hS : SoW pt w0 blk d W) (hsz : d.size ≤ 4000000) (hab : a ≤ b) (hb : b ≤ d.size) :
    Calls Tryz.prog 107 #[.slice (some ⟨blk, 0, none⟩) d.size cap, .int .i64 a, .int .i64 b, .func (.func 77) #[] #[]] W fun e w' => e = .returned (.tuple #[]) ∧
      SoW pt w0 blk (insertionSort elK d a b) w' ∧ (insertionSort elK d a b).size = d.size := by
  have HS := Lib.hid hS
  have mixed := mixedO
  have HCM := Lib.hid cmp_grow
  clear hS
  go_enter Tryz.func107, Tryz.ntmps107
  go_wp2
  go_loopg [8] (b - a) (fun g1 vi wr => ∃ (i : Nat) (dk : Array El), vi = .int .i64 i ∧ a < i ∧ i ≤ b + 1 ∧ b + 1 - i ≤ g1 + 1 ∧ dk.size = d.size ∧ Hid (SoW pt w0 blk dk wr) ∧ Hid (insOuter elK a b i dk = insOuter elK a b (a + 1) d))
  case atStart => exact ⟨a + 1, d, by go_num, by omega, by omega, by omega, rfl, HS, rfl⟩
  case round =>
    obtain ⟨i, dk, rfl, hai, hib, hg1, hsk, HW, HO⟩ := hrel
    by_cases hlt : i < b
    · have hltz : (i : Int) < (b : Int) := by omega
      go_wp2
      go_loopg [9] i (fun g2 vj wr2 => ∃ (j : Nat) (dj : Array El), vj = .int .i64 j ∧ a ≤ j ∧ j ≤ i ∧ j ≤ g2 ∧ dj.size = d.size ∧ Hid (SoW pt w0 blk dj wr2) ∧ Hid (insInner elK a j dj = insInner elK a i dk))
      case atStart => exact ⟨i, dk, rfl, by omega, Nat.le_refl _, Nat.le_refl _, hsk, HW, rfl⟩
      case round =>
        obtain ⟨j, dj, rfl, haj, hji, hg2, hsj, HV, HI⟩ := hrel
        have out : (j ≤ a ∨ elK dj[j]! dj[j - 1]! = false) → Hid (insOuter elK a b (i + 1) dj = insOuter elK a b (a + 1) d) := fun hs => by
          show _ = _
          rw [← HO.out, insOuter_go _ _ _ _ _ hlt, ← HI.out, insInner_stop _ _ _ _ hs]
        have OUT := Lib.hid out
        clear out
        by_cases hja : a < j
        · have hjaz : (a : Int) < (j : Int) := by omega
          obtain ⟨q, rfl⟩ : ∃ q, j = q + 1 := ⟨j - 1, by omega⟩
          have hwp : IntKind.i64.wrap (q : Int) = (q : Int) := by rw [IntKind.wrap_i64]; omega
          have jz : (q : Int) + 1 < (d.size : Int) := by omega
          have jz1 : (q : Int) < (d.size : Int) := by omega
          have hjaz' : (a : Int) < (q : Int) + 1 := by omega
          have p0 : (0 : Int) ≤ (q : Int) + 1 := by omega
          have e0 : ((q : Int) + 1).toNat = q + 1 := by omega
          simp only [Nat.add_sub_cancel] at OUT
          obtain ⟨x, ex⟩ : ∃ x, dj[q + 1]! = x := ⟨_, rfl⟩
          obtain ⟨y, ey⟩ : ∃ x, dj[q]! = x := ⟨_, rfl⟩
          have g1 := HV.out.kG (q + 1) (by omega)
          have g2 := HV.out.pG (q + 1) (by omega)
          have g3 := HV.out.kG q (by omega)
          have g4 := HV.out.pG q (by omega)
          rw [ex] at g1 g2
          rw [ey] at g3 g4
          rw [ex, ey] at OUT
          have EX := Lib.hid (And.intro ex ey)
          clear ex ey
          by_cases hlv : cmpI x.1 y.1 < 0
          · have hd : decide (cmpI x.1 y.1 < 0) = true := decide_eq_true hlv
            go_wp2_with fail
            go_quiet_grown (first | (go_at_call 77; refine Calls.grown_of (HCM.out _ _ _ _ _)))
            go_wp2_with fail
            have HV2 := Lib.hid (HV.out.grown nq osq)
            clear g1 g2 g3 g4
            generalize grow (wr.drewN nq) osq = wg at HV2 ⊢
            have hsw := Lib.hid (HV2.out.drew.swap (q + 1) q (by omega) (by omega) (by omega))
            have c1 := HV2.out.h.k (q + 1) (by omega)
            have c2 := HV2.out.h.p (q + 1) (by omega)
            have c3 := HV2.out.h.k q (by omega)
            have c4 := HV2.out.h.p q (by omega)
            have f1 := HV2.out.h.f ((q + 1) * 2) (by omega)
            have f2 := HV2.out.h.f ((q + 1) * 2 + 1) (by omega)
            have f3 := HV2.out.h.f (q * 2) (by omega)
            have f4 := HV2.out.h.f (q * 2 + 1) (by omega)
            rw [EX.out.1] at c1 c2
            rw [EX.out.2] at c3 c4
            rw [EX.out.1, EX.out.2] at hsw
            go_big_region
            go_wp2
            go_roundg q
            case measure => omega
            case rel =>
              refine ⟨q, swp dj (q + 1) q, by first | rfl | go_num, by omega, by omega, Nat.le_refl _, by rw [swp_size]; exact hsj, hsw, (show Hid _ from ?_)⟩
              show _ = _
              have := insInner_go elK a (q + 1) dj hja (by simp only [Nat.add_sub_cancel]; rw [EX.out.1, EX.out.2]; exact decide_eq_true ((cmpI_neg _ _).1 hlv))
              simp only [Nat.add_sub_cancel] at this
              rw [← HI.out, this]
          · have hd : decide (cmpI x.1 y.1 < 0) = false := decide_eq_false hlv
            go_wp2_with fail
            go_quiet_grown (first | (go_at_call 77; refine Calls.grown_of (HCM.out _ _ _ _ _)))
            go_wp2
            go_roundg (b - (i + 1))
            case measure => omega
            case rel => exact ⟨i + 1, dj, by go_num, by omega, by omega, by omega, hsj, Lib.hid (HV.out.grown nq osq), OUT.out (Or.inr (decide_eq_false (fun h => by have := (cmpI_neg x.1 y.1).2 h; omega)))⟩
        · have hjaz : decide ((j : Int) > (a : Int)) = false := decide_eq_false (by omega)
          have hjaz' : ¬ (a : Int) < (j : Int) := by omega
          have HDR := Lib.hid HV.out.drew
          go_wp2_with fail
          go_big_region
          all_goals go_wp2
          go_roundg (b - (i + 1))
          case measure => omega
          case rel => exact ⟨i + 1, dj, by go_num, by omega, by omega, by omega, hsj, HDR, OUT.out (Or.inl (by omega))⟩
    · have hltz : ¬ (i : Int) < (b : Int) := by omega
      go_wp2
      go_end0
      have e : insertionSort elK d a b = dk := by unfold Sort.insertionSort; rw [← HO.out, insOuter_stop _ _ _ _ _ hlt]
      rw [e]
      exact ⟨rfl, HW.out, hsk⟩
end Go.Proofs.YtacogloheiendaaGreatDoor
namespace Go.Proofs.YtacogloheiendaaGreatDoor
open Go.RowKit Go.Sort
set_option linter.unusedVariables false
set_option linter.unusedSimpArgs false

theorem ins1_all (d : Array El) (a b i : Nat) (hs : SoIn (a + 1) b d) (h : Nat) (h1 : a + 1 ≤ h) (h2 : h < b) :
    (d[h]!.1 < d[a]!.1 → ∀ q, a + 1 ≤ q → q < h + 1 → d[q]!.1 < d[a]!.1) ∧ (¬ d[h]!.1 < d[a]!.1 → ∀ q, h ≤ q → q < b → d[a]!.1 ≤ d[q]!.1) := by
  refine ⟨fun hl q q1 q2 => ?_, fun hl q q1 q2 => ?_⟩
  · have := so_le hs (i := q) (j := h) q1 (by omega) h2
    unfold elLe at this; omega
  · have := so_le hs (i := h) (j := q) h1 q1 q2
    unfold elLe at this; omega
theorem ins2_all (d : Array El) (a m : Nat) (hs : SoIn a m d) (h : Nat) (h1 : a ≤ h) (h2 : h < m) :
    (¬ d[m]!.1 < d[h]!.1 → ∀ q, a ≤ q → q < h + 1 → d[q]!.1 ≤ d[m]!.1) ∧ (d[m]!.1 < d[h]!.1 → ∀ q, h ≤ q → q < m → d[m]!.1 < d[q]!.1) := by
  refine ⟨fun hl q q1 q2 => ?_, fun hl q q1 q2 => ?_⟩
  · have := so_le hs (i := q) (j := h) q1 (by omega) h2
    unfold elLe at this; omega
  · have := so_le hs (i := h) (j := q) h1 q1 q2
    unfold elLe at this; omega
def MvUp (d : Array El) (a k : Nat) (dk : Array El) : Prop := ∀ p, dk[p]! = if a ≤ p ∧ p < k then d[p + 1]! else if p = k then d[a]! else d[p]!
def MvDn (d : Array El) (m k : Nat) (dk : Array El) : Prop := ∀ p, dk[p]! = if p = k then d[m]! else if k < p ∧ p ≤ m then d[p - 1]! else d[p]!
theorem mvUp_step {d dk : Array El} {a k : Nat} (h : MvUp d a k dk) (ha : a ≤ k) (hk : k + 1 < dk.size) : MvUp d a (k + 1) (swp dk k (k + 1)) := by
  intro p
  rw [swp_get dk (by omega) hk, h k, h (k + 1), h p]
  rw [if_neg (show ¬ (a ≤ k ∧ k < k) by omega), if_pos rfl, if_neg (show ¬ (a ≤ k + 1 ∧ k + 1 < k) by omega), if_neg (show ¬ k + 1 = k by omega)]
  by_cases p1 : p = k + 1
  · rw [if_pos p1, if_neg (show ¬ (a ≤ p ∧ p < k + 1) by omega), if_pos p1]
  · rw [if_neg p1]
    by_cases p2 : p = k
    · rw [if_pos p2, if_pos (show a ≤ p ∧ p < k + 1 by omega), p2]
    · rw [if_neg p2]
      by_cases p3 : a ≤ p ∧ p < k
      · rw [if_pos p3, if_pos (show a ≤ p ∧ p < k + 1 by omega)]
      · rw [if_neg p3, if_neg p2, if_neg (show ¬ (a ≤ p ∧ p < k + 1) by omega), if_neg p1]
theorem mvDn_step {d dk : Array El} {m k : Nat} (h : MvDn d m (k + 1) dk) (hm : k + 1 ≤ m) (hk : k + 1 < dk.size) : MvDn d m k (swp dk (k + 1) k) := by
  intro p
  rw [swp_get dk hk (by omega), h k, h (k + 1), h p]
  rw [if_neg (show ¬ k = k + 1 by omega), if_neg (show ¬ (k + 1 < k ∧ k ≤ m) by omega), if_pos rfl]
  by_cases p1 : p = k
  · rw [if_pos p1, if_pos p1]
  · rw [if_neg p1, if_neg p1]
    by_cases p2 : p = k + 1
    · rw [if_pos p2, if_pos (show k < p ∧ p ≤ m by omega), p2, Nat.add_sub_cancel]
    · rw [if_neg p2, if_neg p2]
      by_cases p3 : k + 1 < p ∧ p ≤ m
      · rw [if_pos p3, if_pos (show k < p ∧ p ≤ m by omega)]
      · rw [if_neg p3, if_neg (show ¬ (k < p ∧ p ≤ m) by omega)]

set_option maxRecDepth 100000 in
set_option maxHeartbeats 4000000 in
theorem symM1 (pt : Nat → Nat) (w0 : World) (blk cap a b : Nat) (d : Array El) (W : World) (hS : SoW pt w0 blk d W) (hsz : d.size ≤ 4000000) (hab : a + 1 < b) (hb : b ≤ d.size) (hs2 : SoIn (a + 1) b d) (ht : TagLt a (a + 1) b d) :
    Calls Tryz.prog 108 #[.slice (some ⟨blk, 0, none⟩) d.size cap, .int .i64 a, .int .i64 ((a + 1 : Nat) : Int), .int .i64 b, .func (.func 77) #[] #[]] W fun e w' => e = .returned (.tuple #[]) ∧
      ∃ d', SoW pt w0 blk d' w' ∧ d'.size = d.size ∧ PermIn a b d d' ∧ SoIn a b d' := by
  have HS := Lib.hid hS
  have mixed := mixedO
  have HCM := Lib.hid cmp_grow
  have HS2 := Lib.hid hs2
  have HT := Lib.hid ht
  obtain ⟨m, em⟩ : ∃ m, a + 1 = m := ⟨_, rfl⟩
  rw [em]
  have hm1 : a + 1 ≤ m := by omega
  have hm2 : m ≤ a + 1 := by omega
  have hz : (m : Int) - (a : Int) = 1 := by omega
  clear hS hs2 ht em
  go_enter Tryz.func108, Tryz.ntmps108
  go_wp2_with fail
  clear hz
  go_loopg [10, 11] (b - m) (fun kx vi vj wr => ∃ (i j : Nat), vi = .int .i64 i ∧ vj = .int .i64 j ∧ a + 1 ≤ i ∧ i ≤ j ∧ j ≤ b ∧ j - i ≤ kx ∧ Hid (SoW pt w0 blk d wr) ∧ Hid ((∀ q, a + 1 ≤ q → q < i → d[q]!.1 < d[a]!.1) ∧ (∀ q, j ≤ q → q < b → d[a]!.1 ≤ d[q]!.1)))
  case atStart => exact ⟨m, b, rfl, rfl, hm1, by omega, Nat.le_refl _, Nat.le_refl _, HS, Lib.hid ⟨fun q q1 q2 => by omega, fun q q1 q2 => by omega⟩⟩
  case round =>
    obtain ⟨i, j, rfl, rfl, hai, hij, hjb, hk, HW, HI⟩ := hrel
    by_cases hlt : i < j
    · obtain ⟨h, eh⟩ : ∃ h, (i + j) / 2 = h := ⟨_, rfl⟩
      have h1 : i ≤ h := by omega
      have h2 : h < j := by omega
      have zh : (((i : Int) + (j : Int)) / 2).toNat = h := by omega
      have ph : (0 : Int) ≤ ((i : Int) + (j : Int)) / 2 := by omega
      have bh : ((i : Int) + (j : Int)) / 2 < (d.size : Int) := by omega
      have ba : (a : Int) < (d.size : Int) := by omega
      have EH : Hid (((i : Int) + (j : Int)) / 2 = (h : Int)) := by show _ = _; omega
      have HA := Lib.hid (ins1_all d a b i HS2.out h (by omega) (by omega))
      have g1 := HW.out.kG h (by omega)
      have g2 := HW.out.pG h (by omega)
      have g3 := HW.out.kG a (by omega)
      have g4 := HW.out.pG a (by omega)
      obtain ⟨x, ex⟩ : ∃ x, d[h]! = x := ⟨_, rfl⟩
      obtain ⟨y, ey⟩ : ∃ x, d[a]! = x := ⟨_, rfl⟩
      rw [ex] at g1 g2 HA
      rw [ey] at g3 g4 HA HI
      have EY := Lib.hid ey
      clear ex ey eh
      by_cases hlv : cmpI x.1 y.1 < 0
      · have hd : decide (cmpI x.1 y.1 < 0) = true := decide_eq_true hlv
        go_wp2_with fail
        go_quiet_grown (first | (go_at_call 77; refine Calls.grown_of (HCM.out _ _ _ _ _)))
        clear g1 g2 g3 g4
        go_wp2_with fail
        go_roundg (j - (h + 1))
        case measure => omega
        case rel =>
          exact ⟨h + 1, j, by rw [EH.out]; go_num, rfl, by omega, by omega, hjb, Nat.le_refl _, Lib.hid (HW.out.grown nq osq), Lib.hid ⟨by rw [EY.out]; exact HA.out.1 ((cmpI_neg _ _).1 hlv), by rw [EY.out]; exact HI.out.2⟩⟩
      · have hd : decide (cmpI x.1 y.1 < 0) = false := decide_eq_false hlv
        go_wp2_with fail
        go_quiet_grown (first | (go_at_call 77; refine Calls.grown_of (HCM.out _ _ _ _ _)))
        clear g1 g2 g3 g4
        go_wp2_with fail
        go_roundg (h - i)
        case measure => omega
        case rel =>
          have hq : ¬ x.1 < y.1 := fun h' => by have := (cmpI_neg x.1 y.1).2 h'; omega
          exact ⟨i, h, rfl, by rw [EH.out], hai, by omega, by omega, Nat.le_refl _, Lib.hid (HW.out.grown nq osq), Lib.hid ⟨by rw [EY.out]; exact HI.out.1, by rw [EY.out]; exact HA.out.2 (by omega)⟩⟩
    · obtain rfl : j = i := by omega
      go_wp2_with fail
      go_loopg [13] (j - a) (fun kx vk wr2 => ∃ (k : Nat) (dk : Array El), vk = .int .i64 k ∧ a ≤ k ∧ k + 1 ≤ j ∧ j - k ≤ kx + 1 ∧ dk.size = d.size ∧ Hid (SoW pt w0 blk dk wr2) ∧ Hid (PermIn a b d dk) ∧ Hid (MvUp d a k dk))
      case atStart => exact ⟨a, d, rfl, Nat.le_refl _, by omega, by omega, rfl, HW, Lib.hid (permIn_refl _ _ _), Lib.hid (fun p => by rw [if_neg (show ¬ (a ≤ p ∧ p < a) by omega)]; split <;> (try rfl); rename_i e; rw [e])⟩
      case round =>
        obtain ⟨k, dk, rfl, hak, hkj, hk2, hsk, HW2, HP, HM⟩ := hrel
        by_cases hlt2 : k + 1 < j
        · have z1 : (k : Int) < (j : Int) - 1 := by omega
          have e0 : ((k : Int) + 1).toNat = k + 1 := by omega
          have p0 : (0 : Int) ≤ (k : Int) + 1 := by omega
          have jz : (k : Int) + 1 < (d.size : Int) := by omega
          have jz1 : (k : Int) < (d.size : Int) := by omega
          have hwp : IntKind.i64.wrap ((k : Int) + 1) = (k : Int) + 1 := by rw [IntKind.wrap_i64]; omega
          have hsw := Lib.hid (HW2.out.drew.swap k (k + 1) (by omega) (by omega) (by omega))
          have c1 := HW2.out.h.k (k + 1) (by omega)
          have c2 := HW2.out.h.p (k + 1) (by omega)
          have c3 := HW2.out.h.k k (by omega)
          have c4 := HW2.out.h.p k (by omega)
          have f1 := HW2.out.h.f ((k + 1) * 2) (by omega)
          have f2 := HW2.out.h.f ((k + 1) * 2 + 1) (by omega)
          have f3 := HW2.out.h.f (k * 2) (by omega)
          have f4 := HW2.out.h.f (k * 2 + 1) (by omega)
          obtain ⟨x, ex⟩ : ∃ x, dk[k + 1]! = x := ⟨_, rfl⟩
          obtain ⟨y, ey⟩ : ∃ x, dk[k]! = x := ⟨_, rfl⟩
          rw [ex] at c1 c2 hsw
          rw [ey] at c3 c4 hsw
          clear ex ey
          go_wp2_with fail
          go_big_region
          go_wp2_with fail
          go_roundg (j - (k + 1) - 1)
          case measure => omega
          case rel => exact ⟨k + 1, swp dk k (k + 1), by go_num, by omega, by omega, by omega, by rw [swp_size]; exact hsk, hsw, Lib.hid (permIn_trans _ _ _ _ _ HP.out (swp_permIn _ _ _ _ _ (by omega) (by omega) (by omega) (by omega) (by omega))), Lib.hid (mvUp_step HM.out hak (by omega))⟩
        · have z1 : ¬ (k : Int) < (j : Int) - 1 := by omega
          go_wp2_with fail
          refine bodyPost_ret (results_none rfl _ _ _) rfl ?_
          refine ⟨rfl, dk, HW2.out, hsk, HP.out, ?_⟩
          refine so_ins1 d dk a b j HS2.out HT.out hai hjb HI.out.1 HI.out.2 (fun p => ?_)
          rw [HM.out p]
          have ekj : k + 1 = j := by omega
          by_cases p1 : a ≤ p ∧ p < k
          · rw [if_pos p1, if_pos (show a ≤ p ∧ p + 1 < j by omega)]
          · rw [if_neg p1, if_neg (show ¬ (a ≤ p ∧ p + 1 < j) by omega)]
            by_cases p2 : p = k
            · rw [if_pos p2, if_pos (show p + 1 = j by omega)]
            · rw [if_neg p2, if_neg (show ¬ p + 1 = j by omega)]
end Go.Proofs.YtacogloheiendaaGreatDoor
namespace Go.Proofs.YtacogloheiendaaGreatDoor
open Go.RowKit Go.Sort
set_option linter.unusedVariables false
set_option linter.unusedSimpArgs false

set_option maxRecDepth 100000 in
set_option maxHeartbeats 4000000 in
theorem symM2 (pt : Nat → Nat) (w0 : World) (blk cap a m : Nat) (d : Array El) (W : World) (hS : SoW pt w0 blk d W) (hsz : d.size ≤ 4000000) (ham : a + 1 < m) (hb : m + 1 ≤ d.size) (hs1 : SoIn a m d) (ht : TagLt a m (m + 1) d) :
    Calls Tryz.prog 108 #[.slice (some ⟨blk, 0, none⟩) d.size cap, .int .i64 a, .int .i64 m, .int .i64 ((m + 1 : Nat) : Int), .func (.func 77) #[] #[]] W fun e w' => e = .returned (.tuple #[]) ∧
      ∃ d', SoW pt w0 blk d' w' ∧ d'.size = d.size ∧ PermIn a (m + 1) d d' ∧ SoIn a (m + 1) d' := by
  have HS := Lib.hid hS
  have mixed := mixedO
  have HCM := Lib.hid cmp_grow
  have HS1 := Lib.hid hs1
  have HT := Lib.hid ht
  obtain ⟨b, eb⟩ : ∃ b, m + 1 = b := ⟨_, rfl⟩
  have EB := Lib.hid eb
  rw [eb]
  have hm1 : m + 1 ≤ b := by omega
  have hm2 : b ≤ m + 1 := by omega
  have hz : ((m : Int) - (a : Int) == 1) = false := by simp; omega
  have hz3 : (b : Int) - (m : Int) = 1 := by omega
  have hz4 : ¬ (m : Int) - (a : Int) = 1 := by omega
  clear hS hs1 ht eb
  go_enter Tryz.func108, Tryz.ntmps108
  go_wp2_with fail
  clear hz hz3 hz4
  go_loopg [14, 15] (m - a) (fun kx vi vj wr => ∃ (i j : Nat), vi = .int .i64 i ∧ vj = .int .i64 j ∧ a ≤ i ∧ i ≤ j ∧ j ≤ m ∧ j - i ≤ kx ∧ Hid (SoW pt w0 blk d wr) ∧ Hid ((∀ q, a ≤ q → q < i → d[q]!.1 ≤ d[m]!.1) ∧ (∀ q, j ≤ q → q < m → d[m]!.1 < d[q]!.1)))
  case atStart => exact ⟨a, m, rfl, rfl, Nat.le_refl _, by omega, Nat.le_refl _, Nat.le_refl _, HS, Lib.hid ⟨fun q q1 q2 => by omega, fun q q1 q2 => by omega⟩⟩
  case round =>
    obtain ⟨i, j, rfl, rfl, hai, hij, hjm, hk, HW, HI⟩ := hrel
    by_cases hlt : i < j
    · obtain ⟨h, eh⟩ : ∃ h, (i + j) / 2 = h := ⟨_, rfl⟩
      have h1 : i ≤ h := by omega
      have h2 : h < j := by omega
      have zh : (((i : Int) + (j : Int)) / 2).toNat = h := by omega
      have ph : (0 : Int) ≤ ((i : Int) + (j : Int)) / 2 := by omega
      have bh : ((i : Int) + (j : Int)) / 2 < (d.size : Int) := by omega
      have ba : (m : Int) < (d.size : Int) := by omega
      have EH : Hid (((i : Int) + (j : Int)) / 2 = (h : Int)) := by show _ = _; omega
      have HA := Lib.hid (ins2_all d a m HS1.out h (by omega) (by omega))
      have g1 := HW.out.kG h (by omega)
      have g2 := HW.out.pG h (by omega)
      have g3 := HW.out.kG m (by omega)
      have g4 := HW.out.pG m (by omega)
      obtain ⟨x, ex⟩ : ∃ x, d[h]! = x := ⟨_, rfl⟩
      obtain ⟨y, ey⟩ : ∃ x, d[m]! = x := ⟨_, rfl⟩
      rw [ex] at g1 g2 HA
      rw [ey] at g3 g4 HA HI
      have EY := Lib.hid ey
      clear ex ey eh
      by_cases hlv : cmpI y.1 x.1 < 0
      · have hd : decide (cmpI y.1 x.1 < 0) = true := decide_eq_true hlv
        go_wp2_with fail
        go_quiet_grown (first | (go_at_call 77; refine Calls.grown_of (HCM.out _ _ _ _ _)))
        clear g1 g2 g3 g4
        go_wp2_with fail
        go_roundg (h - i)
        case measure => omega
        case rel =>
          have hq : y.1 < x.1 := (cmpI_neg y.1 x.1).1 hlv
          exact ⟨i, h, rfl, by rw [EH.out], hai, by omega, by omega, Nat.le_refl _, Lib.hid (HW.out.grown nq osq), Lib.hid ⟨by rw [EY.out]; exact HI.out.1, by rw [EY.out]; exact HA.out.2 hq⟩⟩
      · have hd : decide (cmpI y.1 x.1 < 0) = false := decide_eq_false hlv
        go_wp2_with fail
        go_quiet_grown (first | (go_at_call 77; refine Calls.grown_of (HCM.out _ _ _ _ _)))
        clear g1 g2 g3 g4
        go_wp2_with fail
        go_roundg (j - (h + 1))
        case measure => omega
        case rel =>
          have hq : ¬ y.1 < x.1 := fun h' => by have := (cmpI_neg y.1 x.1).2 h'; omega
          exact ⟨h + 1, j, by rw [EH.out]; go_num, rfl, by omega, by omega, hjm, Nat.le_refl _, Lib.hid (HW.out.grown nq osq), Lib.hid ⟨by rw [EY.out]; exact HA.out.1 (by omega), by rw [EY.out]; exact HI.out.2⟩⟩
    · obtain rfl : j = i := by omega
      go_wp2_with fail
      go_loopg [17] (m - j) (fun kx vk wr2 => ∃ (k : Nat) (dk : Array El), vk = .int .i64 k ∧ j ≤ k ∧ k ≤ m ∧ k - j ≤ kx ∧ dk.size = d.size ∧ Hid (SoW pt w0 blk dk wr2) ∧ Hid (PermIn a b d dk) ∧ Hid (MvDn d m k dk))
      case atStart => exact ⟨m, d, rfl, by omega, Nat.le_refl _, Nat.le_refl _, rfl, HW, Lib.hid (permIn_refl _ _ _), Lib.hid (fun p => by split; (rename_i e; rw [e]); rw [if_neg (show ¬ (m < p ∧ p ≤ m) by omega)])⟩
      case round =>
        obtain ⟨k, dk, rfl, hjk, hkm, hk2, hsk, HW2, HP, HM⟩ := hrel
        by_cases hlt2 : j < k
        · obtain ⟨q, rfl⟩ : ∃ q, k = q + 1 := ⟨k - 1, by omega⟩
          have z1 : (j : Int) < (q : Int) + 1 := by omega
          have e0 : ((q : Int) + 1).toNat = q + 1 := by omega
          have p0 : (0 : Int) ≤ (q : Int) + 1 := by omega
          have jz : (q : Int) + 1 < (d.size : Int) := by omega
          have jz1 : (q : Int) < (d.size : Int) := by omega
          have hwp : IntKind.i64.wrap (q : Int) = (q : Int) := by rw [IntKind.wrap_i64]; omega
          have hsw := Lib.hid (HW2.out.drew.swap (q + 1) q (by omega) (by omega) (by omega))
          have c1 := HW2.out.h.k (q + 1) (by omega)
          have c2 := HW2.out.h.p (q + 1) (by omega)
          have c3 := HW2.out.h.k q (by omega)
          have c4 := HW2.out.h.p q (by omega)
          have f1 := HW2.out.h.f ((q + 1) * 2) (by omega)
          have f2 := HW2.out.h.f ((q + 1) * 2 + 1) (by omega)
          have f3 := HW2.out.h.f (q * 2) (by omega)
          have f4 := HW2.out.h.f (q * 2 + 1) (by omega)
          obtain ⟨x, ex⟩ : ∃ x, dk[q + 1]! = x := ⟨_, rfl⟩
          obtain ⟨y, ey⟩ : ∃ x, dk[q]! = x := ⟨_, rfl⟩
          rw [ex] at c1 c2 hsw
          rw [ey] at c3 c4 hsw
          clear ex ey
          go_wp2_with fail
          go_big_region
          go_wp2_with fail
          go_roundg (q - j)
          case measure => omega
          case rel => exact ⟨q, swp dk (q + 1) q, by first | rfl | go_num, by omega, by omega, Nat.le_refl _, by rw [swp_size]; exact hsk, hsw, Lib.hid (permIn_trans _ _ _ _ _ HP.out (swp_permIn _ _ _ _ _ (by omega) (by omega) (by omega) (by omega) (by omega))), Lib.hid (mvDn_step HM.out hkm (by omega))⟩
        · have z1 : ¬ (j : Int) < (k : Int) := by omega
          go_wp2_with fail
          refine bodyPost_ret (results_none rfl _ _ _) rfl ?_
          refine ⟨rfl, dk, HW2.out, hsk, HP.out, ?_⟩
          have ekj : k = j := by omega
          rw [← EB.out]
          refine so_ins2 d dk a m j HS1.out HT.out hai hjm HI.out.1 HI.out.2 (fun p => ?_)
          rw [HM.out p, ekj]
end Go.Proofs.YtacogloheiendaaGreatDoor
namespace Go.Proofs.YtacogloheiendaaGreatDoor
open Go.RowKit Go.Sort
set_option linter.unusedVariables false
set_option linter.unusedSimpArgs false

structure SymF (a m b mid n lo r0 P : Nat) : Prop where
  m1 : 2 * mid ≤ a + b
  m2 : a + b ≤ 2 * mid + 1
  n1 : n = mid + m
  p1 : P + 1 = n
  c : (mid < m ∧ lo + b = n ∧ r0 = mid) ∨ (m ≤ mid ∧ lo = a ∧ r0 = m)
theorem symF_mk (a m b : Nat) (h1 : a < m) (h2 : m < b) : ∃ mid n lo r0 P, SymF a m b mid n lo r0 P := by
  by_cases h : (a + b) / 2 < m
  · exact ⟨(a + b) / 2, (a + b) / 2 + m, (a + b) / 2 + m - b, (a + b) / 2, (a + b) / 2 + m - 1, by omega, by omega, rfl, by omega, Or.inl ⟨h, by omega, rfl⟩⟩
  · exact ⟨(a + b) / 2, (a + b) / 2 + m, a, m, (a + b) / 2 + m - 1, by omega, by omega, rfl, by omega, Or.inr ⟨by omega, rfl, rfl⟩⟩
theorem sym_mono {a m b mid n lo r0 P : Nat} (hf : SymF a m b mid n lo r0 P) (h1 : a < m) (h2 : m < b) {d : Array El} (hs1 : SoIn a m d) (hs2 : SoIn m b d) (c : Nat) (c1 : lo ≤ c) (c2 : c < r0) :
    (¬ d[P - c]!.1 < d[c]!.1 → ∀ q, lo ≤ q → q < c + 1 → ¬ d[P - q]!.1 < d[q]!.1) ∧ (d[P - c]!.1 < d[c]!.1 → ∀ q, c ≤ q → q < r0 → d[P - q]!.1 < d[q]!.1) := by
  obtain ⟨g1, g2, g3, g4, g5⟩ := hf
  refine ⟨fun h q q1 q2 => ?_, fun h q q1 q2 => ?_⟩
  · have e1 := so_le hs1 (i := q) (j := c) (by omega) (by omega) (by omega)
    have e2 := so_le hs2 (i := P - c) (j := P - q) (by omega) (by omega) (by omega)
    unfold elLe at e1 e2; omega
  · have e1 := so_le hs1 (i := c) (j := q) (by omega) (by omega) (by omega)
    have e2 := so_le hs2 (i := P - q) (j := P - c) (by omega) (by omega) (by omega)
    unfold elLe at e1 e2; omega
theorem sym_split {a m b mid n lo r0 P s : Nat} (hf : SymF a m b mid n lo r0 P) (h1 : a < m) (h2 : m < b) {d : Array El} (s1 : lo ≤ s) (s2 : s ≤ r0) (hlo : ∀ q, lo ≤ q → q < s → ¬ d[P - q]!.1 < d[q]!.1) (hhi : ∀ q, s ≤ q → q < r0 → d[P - q]!.1 < d[q]!.1) : mid = (a + b) / 2 ∧ Split a m b s d := by
  obtain ⟨g1, g2, g3, g4, g5⟩ := hf
  have em : mid = (a + b) / 2 := by omega
  refine ⟨em, h1, h2, by omega, by omega, by omega, by omega, fun k1 k2 => ?_, fun k1 k2 => ?_⟩
  · have := hlo (s - 1) (by omega) (by omega)
    rw [show P - (s - 1) = (a + b) / 2 + m - s from by omega] at this
    omega
  · have := hhi s (Nat.le_refl _) (by omega)
    rwa [show P - s = (a + b) / 2 + m - 1 - s from by omega] at this

def afterReg (n : Nat) : Code → Option Code
  | .seq a b => match a with
    | .region k _ _ => if k = n then some b else afterReg n b
    | _ => match afterReg n a with
      | some c => some c
      | none => afterReg n b
  | .block _ c => afterReg n c
  | .loop c => afterReg n c
  | .scope c => afterReg n c
  | .cond _ a b => match afterReg n a with
    | some c => some c
    | none => afterReg n b
  | _ => none
def headIf : Code → Nat
  | .seq (.region k _ _) (.cond _ _ _) => k
  | _ => 0
def afterIf (n : Nat) : Code → Option Code
  | .seq a b => if headIf a = n then some b else match afterIf n a with
      | some c => some c
      | none => afterIf n b
  | .block _ c => afterIf n c
  | .loop c => afterIf n c
  | .scope c => afterIf n c
  | .cond _ a b => match afterIf n a with
    | some c => some c
    | none => afterIf n b
  | _ => none
noncomputable def symE1 : Code := (Tryz.f108.body.bind (afterReg 38)).getD .skip
noncomputable def symE2 : Code := (Tryz.f108.body.bind (afterIf 39)).getD .skip
noncomputable def symE3 : Code := (Tryz.f108.body.bind (afterIf 41)).getD .skip
def SymIH (pt : Nat → Nat) (w0 : World) (blk cap a b n : Nat) : Prop := ∀ (a' m' b' : Nat) (d' : Array El) (W' : World), b' - a' < b - a → SoW pt w0 blk d' W' → d'.size = n → a' < m' → m' < b' → b' ≤ n → SoIn a' m' d' → SoIn m' b' d' → TagLt a' m' b' d' →
      Calls Tryz.prog 108 #[.slice (some ⟨blk, 0, none⟩) n cap, .int .i64 a', .int .i64 m', .int .i64 b', .func (.func 77) #[] #[]] W' fun e w' => e = .returned (.tuple #[]) ∧ ∃ d'', SoW pt w0 blk d'' w' ∧ d''.size = n ∧ PermIn a' b' d' d'' ∧ SoIn a' b' d''

set_option maxRecDepth 1000000 in
set_option maxHeartbeats 8000000 in
theorem symT3 (pt : Nat → Nat) (w0 : World) (blk cap a m b mid r E : Nat) (d d1 d2 : Array El) (wr : World) (hsz : d.size ≤ 4000000) (ham : a + 1 < m) (hmb : m + 1 < b) (hb : b ≤ d.size) (k1 : a ≤ r) (k2 : r ≤ m) (k3 : r ≤ mid) (E1 : E + r ≤ mid + m) (E1p : mid + m ≤ E + r) (E2 : E ≤ b) (E3 : mid ≤ E) (M1 : a < mid) (M2 : mid < b) (hih : SymIH pt w0 blk cap a b d.size) (h1 : d1.size = d.size ∧ PermIn a b d d1) (hv : Halves a mid b r E d1) (h2 : SoW pt w0 blk d2 wr ∧ d2.size = d.size ∧ PermIn a mid d1 d2 ∧ SoIn a mid d2)
    (u5 u6 u7 u8 u9 u10 u11 u12 u13 u14 u15 u16 u17 u19 u21 u22 u23 u25 u26 u27 u28 u29 u30 u31 u32 u33 u34 u35 u36 u37 u38 u39 u40 u41 u42 u43 u44 u45 u46 u47 u48 u49 u50 u51 u52 u53 u54 u55 u56 u57 u58 u59 u60 u61 u62 u63 u64 u65 u66 u67 u68 u69 u70 u71 u72 u73 u74 u75 u76 u77 u78 u79 u80 u81 u82 u83 u84 u85 u86 u87 u88 u89 u90 u91 u92 u93 u94 u95 u96 u97 u98 u99 u100 u101 u102 u103 u104 u105 u106 u107 u108 u109 u110 u111 u112 u113 u114 u115 u116 u117 u118 u119 u120 u121 u122 u123 u124 u125 u126 u127 u128 u129 u130 u131 u132 u133 u134 u135 u136 u137 u138 u139 u140 u141 u142 u143 u144 u145 u146 u147 u148 u149 u150 u151 u152 u153 u154 u155 u156 u157 u158 u159 u160 u161 u162 u163 u164 u165 u166 u167 u168 u169 u170 u171 u172 u173 u174 u175 u176 u177 u178 u179 u180 u181 u182 u183 u184 u185 u186 u187 u188 u189 u190 u191 u192 u193 u194 u195 u196 u197 u198 u199 u200 u201 u202 u203 u204 u205 u206 u207 u208 u209 u210 u211 u212 u213 u214 u215 u216 u217 u218 u219 : Value) :
    Code.wp Tryz.prog symE3 (bodyPost Tryz.prog Tryz.f108 fun e w' => e = .returned (.tuple #[]) ∧ ∃ d', SoW pt w0 blk d' w' ∧ d'.size = d.size ∧ PermIn a b d d' ∧ SoIn a b d') ⟨List.toArray ((.slice (some ⟨blk, 0, none⟩) d.size cap) :: (.int .i64 a) :: (.int .i64 m) :: (.int .i64 b) :: (.func (.func 77) #[] #[]) :: u5 :: u6 :: u7 :: u8 :: u9 :: u10 :: u11 :: u12 :: u13 :: u14 :: u15 :: u16 :: u17 :: (.int .i64 mid) :: u19 :: (.int .i64 r) :: u21 :: u22 :: u23 :: (.int .i64 E) :: u25 :: u26 :: u27 :: u28 :: u29 :: u30 :: u31 :: u32 :: u33 :: u34 :: u35 :: u36 :: u37 :: u38 :: u39 :: u40 :: u41 :: u42 :: u43 :: u44 :: u45 :: u46 :: u47 :: u48 :: u49 :: u50 :: u51 :: u52 :: u53 :: u54 :: u55 :: u56 :: u57 :: u58 :: u59 :: u60 :: u61 :: u62 :: u63 :: u64 :: u65 :: u66 :: u67 :: u68 :: u69 :: u70 :: u71 :: u72 :: u73 :: u74 :: u75 :: u76 :: u77 :: u78 :: u79 :: u80 :: u81 :: u82 :: u83 :: u84 :: u85 :: u86 :: u87 :: u88 :: u89 :: u90 :: u91 :: u92 :: u93 :: u94 :: u95 :: u96 :: u97 :: u98 :: u99 :: u100 :: u101 :: u102 :: u103 :: u104 :: u105 :: u106 :: u107 :: u108 :: u109 :: u110 :: u111 :: u112 :: u113 :: u114 :: u115 :: u116 :: u117 :: u118 :: u119 :: u120 :: u121 :: u122 :: u123 :: u124 :: u125 :: u126 :: u127 :: u128 :: u129 :: u130 :: u131 :: u132 :: u133 :: u134 :: u135 :: u136 :: u137 :: u138 :: u139 :: u140 :: u141 :: u142 :: u143 :: u144 :: u145 :: u146 :: u147 :: u148 :: u149 :: u150 :: u151 :: u152 :: u153 :: u154 :: u155 :: u156 :: u157 :: u158 :: u159 :: u160 :: u161 :: u162 :: u163 :: u164 :: u165 :: u166 :: u167 :: u168 :: u169 :: u170 :: u171 :: u172 :: u173 :: u174 :: u175 :: u176 :: u177 :: u178 :: u179 :: u180 :: u181 :: u182 :: u183 :: u184 :: u185 :: u186 :: u187 :: u188 :: u189 :: u190 :: u191 :: u192 :: u193 :: u194 :: u195 :: u196 :: u197 :: u198 :: u199 :: u200 :: u201 :: u202 :: u203 :: u204 :: u205 :: u206 :: u207 :: u208 :: u209 :: u210 :: u211 :: u212 :: u213 :: u214 :: u215 :: u216 :: u217 :: u218 :: u219 :: []), []⟩ wr := by
  have IH := Lib.hid hih
  have fin : Hid (∀ d3 w', SoW pt w0 blk d3 w' → PermIn mid b d2 d3 → SoIn mid b d3 → ∃ d', SoW pt w0 blk d' w' ∧ d'.size = d.size ∧ PermIn a b d d' ∧ SoIn a b d') := by
    show ∀ d3 w', _
    intro d3 w' g1 g2 g3
    have hj := so_join (d := d1) (by omega) (by omega) (by rw [h1.1]; exact hb) hv.x h2.2.2.1 h2.2.2.2 g2 g3
    exact ⟨d3, g1, g2.1.trans h2.2.1, permIn_trans _ _ _ _ _ h1.2 hj.2, hj.1⟩
  have hmr : SoIn mid E d2 ∧ SoIn E b d2 ∧ TagLt mid E b d2 :=
    ⟨perm_so h2.2.2.1 (by omega) hv.r1, perm_so h2.2.2.1 (by omega) hv.r2, perm_tag h2.2.2.1 (by rw [h1.1]; omega) (by omega) hv.rt⟩
  have HMR := Lib.hid hmr
  have H2 := Lib.hid h2
  clear hmr h1 hv h2 hih
  conv => arg 2; whnf
  go_upto_region 43 with fail
  go_cut [213] (fun sx wx => sx = .bool (decide (mid < E ∧ E < b)) ∧ wx = wr)
  case first =>
    by_cases d1 : mid < E
    · have z1 : (mid : Int) < (E : Int) := by omega
      by_cases d2 : E < b
      · have z2 : (E : Int) < (b : Int) := by omega
        go_wp2_with fail
        go_meet
        exact ⟨by simp [d1, d2], rfl⟩
      · have z2 : ¬ (E : Int) < (b : Int) := by omega
        go_wp2_with fail
        go_meet
        exact ⟨by simp [d1, d2], rfl⟩
    · have z1 : ¬ (mid : Int) < (E : Int) := by omega
      go_wp2_with fail
      go_meet
      exact ⟨by simp [d1], rfl⟩
  case rest =>
  obtain ⟨rfl, rfl⟩ := hcut
  by_cases dd : mid < E ∧ E < b
  · have hr := IH.out mid E b d2 wc (by omega) H2.out.1 H2.out.2.1 dd.1 dd.2 (by omega) HMR.out.1 HMR.out.2.1 HMR.out.2.2
    have HR := Lib.hid hr
    clear hr
    have zd : decide (mid < E ∧ E < b) = true := decide_eq_true dd
    rw [zd]
    clear zd
    go_wp2_with (first | (go_at_call 108; refine HR.out.mono ?_; rintro e w' ⟨rfl, d3, hS1, hz1, hp1, hr1⟩; have HQ := Lib.hid (And.intro hS1 (And.intro hz1 (And.intro hp1 hr1))); clear hS1 hz1 hp1 hr1))
    go_end0
    exact ⟨rfl, fin.out d3 w' HQ.out.1 HQ.out.2.2.1 HQ.out.2.2.2⟩
  · have zd : decide (mid < E ∧ E < b) = false := decide_eq_false dd
    rw [zd]
    clear zd
    go_wp2_with fail
    go_end0
    refine ⟨rfl, fin.out d2 wc H2.out.1 (permIn_refl _ _ _) ?_⟩
    by_cases e1 : mid = E
    · have := HMR.out.2.1; rwa [← e1] at this
    · have := HMR.out.1; rwa [show E = b from by omega] at this
end Go.Proofs.YtacogloheiendaaGreatDoor
