/- The plain laws of pieces, of the types at times, of the times found. -/
import Derived.Test.YteoliifghhlinaaFind
namespace Go.Proofs.Yteoliifghhlinaa
open Go.RowKit Go.Shelf
set_option linter.unusedVariables false
set_option linter.unusedSimpArgs false

theorem boundary_ex (p : Nat → Bool) : ∀ (n : Nat), (∀ a b, a ≤ b → b < n → p a = true → p b = true) → ∃ h, h ≤ n ∧ (∀ t, t < h → p t = false) ∧ (∀ t, h ≤ t → t < n → p t = true)
  | 0, _ => ⟨0, Nat.le_refl _, fun t h => absurd h (Nat.not_lt_zero _), fun t _ h => absurd h (Nat.not_lt_zero _)⟩
  | n + 1, hm => by
    obtain ⟨h, h1, h2, h3⟩ := boundary_ex p n (fun a b hab hb => hm a b hab (by omega))
    by_cases e : h = n
    · subst e
      cases hp : p h
      · refine ⟨h + 1, Nat.le_refl _, fun t ht => ?_, fun t h4 h5 => by omega⟩
        by_cases e2 : t = h
        · rw [e2]; exact hp
        · exact h2 t (by omega)
      · refine ⟨h, by omega, h2, fun t h4 h5 => ?_⟩
        obtain rfl : t = h := by omega
        exact hp
    · refine ⟨h, by omega, h2, fun t h4 h5 => ?_⟩
      by_cases e2 : t = n
      · subst e2
        exact hm h t h4 (by omega) (h3 h (Nat.le_refl _) (by omega))
      · exact h3 t h4 (by omega)

theorem tAt_in (m : List Ch) (i : Nat) (h : i < m.length) : tAt m i = m[i].t := by simp [tAt, h]

theorem cnt_mono (t : Tab) (ok : OkTab t) (y : Int) : ∀ a b, a ≤ b → b < t.chs.length → decide (y < tAt t.chs a) = true → decide (y < tAt t.chs b) = true := by
  intro a b hab hb h
  have := tAt_mono t.chs ok.rise a b hab hb
  simp only [decide_eq_true_eq] at h ⊢
  omega

theorem cntOf_eq (m : List Ch) (y : Int) (h : Nat) (hn : h ≤ m.length) (h1 : ∀ t, t < h → tAt m t ≤ y) (h2 : ∀ t, h ≤ t → t < m.length → y < tAt m t) : cntOf m y = h :=
  cntF_boundary _ _ _ hn (fun t ht => by simpa using h1 t ht) (fun t h3 h4 => by simpa using h2 t h3 h4)

theorem cntOf_spec (t : Tab) (ok : OkTab t) (y : Int) : cntOf t.chs y ≤ t.chs.length ∧ (∀ i, i < cntOf t.chs y → tAt t.chs i ≤ y) ∧ (∀ i, cntOf t.chs y ≤ i → i < t.chs.length → y < tAt t.chs i) := by
  obtain ⟨h, h1, h2, h3⟩ := boundary_ex (fun i => decide (y < tAt t.chs i)) t.chs.length (cnt_mono t ok y)
  have e : cntOf t.chs y = h := cntF_boundary _ _ _ h1 h2 h3
  rw [e]
  exact ⟨h1, fun i hi => by simpa using h2 i hi, fun i hi hl => by simpa using h3 i hi hl⟩

/-- a time lies in the piece of its number -/
theorem piece_of (t : Tab) (ok : OkTab t) (y : Int) (hy : -4611686018427387904 ≤ y) (hy2 : y < 4611686018427387903) : frAt t.chs (cntOf t.chs y) ≤ y ∧ y < toAt t.chs (cntOf t.chs y) := by
  obtain ⟨h1, h2, h3⟩ := cntOf_spec t ok y
  constructor
  · cases e : cntOf t.chs y with
    | zero => exact hy
    | succ j => exact h2 j (by omega)
  · unfold toAt
    split
    · rename_i h; exact h3 _ (Nat.le_refl _) h
    · exact hy2

theorem piece_num (t : Tab) (ok : OkTab t) (y : Int) (j : Nat) (hj : j ≤ t.chs.length) (h1 : frAt t.chs j ≤ y) (h2 : y < toAt t.chs j) : cntOf t.chs y = j := by
  refine cntOf_eq _ _ _ hj (fun i hi => ?_) (fun i hi hl => ?_)
  · cases j with
    | zero => omega
    | succ j =>
      have := tAt_mono t.chs ok.rise i j (by omega) (by omega)
      simp only [frAt] at h1
      omega
  · have := tAt_mono t.chs ok.rise j i hi hl
    unfold toAt at h2
    rw [if_pos (by omega)] at h2
    omega

theorem tyOf_piece (t : Tab) (y : Int) : tyOf t y = tyD t.types (idAt t.first t.chs (cntOf t.chs y)) := by
  unfold tyOf kOf
  cases e : cntOf t.chs y with
  | zero => rfl
  | succ j => simp [idAt]

theorem mem_uptoP (t : Tab) (k : Nat) (x : Pc) : x ∈ uptoP t k ↔ ∃ j, j < k ∧ pcAt t j = x := by
  simp [uptoP]

theorem mem_fnd (l : Int) (ps : List Pc) (y : Int) : y ∈ fnd l ps ↔ ∃ x ∈ ps, hit l x = true ∧ wrap64 (l - x.off) = y := by
  simp [fnd, and_assoc]

theorem pc_off (t : Tab) (ok : OkTab t) (j : Nat) : -75600 ≤ (pcAt t j).off ∧ (pcAt t j).off ≤ 75600 := by
  have hd : ∀ k : Int, -75600 ≤ (tyD t.types k).off ∧ (tyD t.types k).off ≤ 75600 := by
    intro k
    unfold tyD
    cases h : t.types[k.toNat]? with
    | none => simp
    | some y => have := ok.type y (List.mem_of_getElem? h); simp; omega
  exact hd _

theorem wrap_small (l o : Int) (h1 : -1099511627776 ≤ l) (h2 : l ≤ 1099511627776) (h3 : -75600 ≤ o) (h4 : o ≤ 75600) : wrap64 (l - o) = l - o :=
  IntWalk.wrap64_in _ ⟨by omega, by omega⟩

abbrev fndT (t : Tab) (l : Int) : List Int := fnd l (uptoP t (t.chs.length + 1))

/-- what is found -/
theorem mem_fndT (t : Tab) (ok : OkTab t) (l : Int) (h1 : -1099511627776 ≤ l) (h2 : l ≤ 1099511627776) (y : Int) : y ∈ fndT t l ↔ y + (tyOf t y).off = l := by
  rw [mem_fnd]
  constructor
  · rintro ⟨x, hx, hh, rfl⟩
    obtain ⟨j, hj, rfl⟩ := (mem_uptoP _ _ _).1 hx
    have ho := pc_off t ok j
    simp only [hit, decide_eq_true_eq] at hh
    rw [wrap_small l _ h1 h2 ho.1 ho.2] at hh ⊢
    have := piece_num t ok (l - (pcAt t j).off) j (by omega) hh.1 hh.2
    rw [tyOf_piece, this]
    simp only [pcAt]
    omega
  · intro h
    have ho := tyOf_off t y ok
    obtain ⟨p1, p2⟩ := piece_of t ok y (by omega) (by omega)
    have hl := (cntOf_spec t ok y).1
    have e : (pcAt t (cntOf t.chs y)).off = (tyOf t y).off := by rw [tyOf_piece]; rfl
    refine ⟨pcAt t (cntOf t.chs y), (mem_uptoP _ _ _).2 ⟨_, by omega, rfl⟩, ?_, ?_⟩
    · simp only [hit, decide_eq_true_eq]
      rw [e, wrap_small l _ h1 h2 ho.1 ho.2]
      rw [show l - (tyOf t y).off = y by omega]
      exact ⟨p1, p2⟩
    · rw [e, wrap_small l _ h1 h2 ho.1 ho.2]; omega

/-- one behind the other -/
theorem fndT_rise (t : Tab) (ok : OkTab t) (l : Int) : (fndT t l).Pairwise (fun a b => a < b) := by
  unfold fndT fnd uptoP
  rw [List.pairwise_map, List.pairwise_filter, List.pairwise_map]
  have h0 : (List.range (t.chs.length + 1)).Pairwise (fun a b => a < b ∧ b < t.chs.length + 1) := by
    rw [List.pairwise_iff_getElem]
    intro i j hi hj hij
    simp at hi hj ⊢
    omega
  refine h0.imp fun {i j} h hi hj => ?_
  simp only [hit, decide_eq_true_eq] at hi hj
  have h1 : toAt t.chs i ≤ frAt t.chs j := by
    unfold toAt
    rw [if_pos (by omega)]
    obtain ⟨j', rfl⟩ : ∃ j', j = j' + 1 := ⟨j - 1, by omega⟩
    exact tAt_mono t.chs ok.rise i j' (by omega) (by omega)
  have h2 := hi.2
  have h3 := hj.1
  simp only [pcAt] at h2 h3 ⊢
  omega

theorem length_sub {α : Type} [DecidableEq α] : ∀ (l m : List α), l.Nodup → (∀ x ∈ l, x ∈ m) → l.length ≤ m.length
  | [], m, _, _ => Nat.zero_le _
  | a :: l, m, hn, hs => by
    rw [List.nodup_cons] at hn
    have ha := hs a (by simp)
    have := length_sub l (m.erase a) hn.2 (fun x hx => (List.mem_erase_of_ne (fun (e : x = a) => hn.1 (by rw [← e]; exact hx))).2 (hs x (by simp [hx])))
    rw [List.length_erase_of_mem ha] at this
    have : 0 < m.length := List.length_pos_of_mem ha
    simp; omega

theorem tyOf_mem (t : Tab) (ok : OkTab t) (y : Int) : tyOf t y ∈ t.types := by
  rw [tyOf_piece]
  have hid : 0 ≤ idAt t.first t.chs (cntOf t.chs y) ∧ idAt t.first t.chs (cntOf t.chs y) < t.types.length := by
    have := (cntOf_spec t ok y).1
    cases e : cntOf t.chs y with
    | zero => exact ok.first
    | succ j =>
      have := ok.ch t.chs[j] (List.getElem_mem (by omega))
      simp only [idAt, kAt]
      rw [List.getElem?_eq_getElem (by omega)]
      simp; omega
  unfold tyD
  rw [List.getElem?_eq_getElem (by omega)]
  exact List.getElem_mem _

/-- no more than there are types -/
theorem fndT_many (t : Tab) (ok : OkTab t) (l : Int) (h1 : -1099511627776 ≤ l) (h2 : l ≤ 1099511627776) : (fndT t l).length ≤ t.types.length := by
  have e := length_sub ((fndT t l).map fun y => l - y) (t.types.map (·.off)) ?_ ?_
  · simpa using e
  · rw [List.nodup_iff_pairwise_ne, List.pairwise_map]
    exact (fndT_rise t ok l).imp fun h => by omega
  · intro x hx
    obtain ⟨y, hy, rfl⟩ := List.mem_map.1 hx
    rw [mem_fndT t ok l h1 h2] at hy
    exact List.mem_map.2 ⟨_, tyOf_mem t ok y, by omega⟩

end Go.Proofs.Yteoliifghhlinaa
