/- The plain law of wall.Next. -/
import Derived.Test.YtddkedghpapepaaNext
namespace Go.Proofs.Ytddkedghpapepaa
open Go.RowKit Go.Shelf
set_option linter.unusedVariables false
set_option linter.unusedSimpArgs false

theorem nwt_rng (af sec : Int) (x : Pc) : 0 ≤ nwt af sec x ∧ nwt af sec x < 86400 := by unfold nwt; omega

theorem nval_in (af sec : Int) (x : Pc) (h1 : -1000000000 ≤ nfr af x) (h2 : nfr af x ≤ 1000000000) : nval af sec x = nfr af x + nwt af sec x := by
  have := nwt_rng af sec x
  exact IntWalk.wrap64_in _ ⟨by omega, by omega⟩

theorem nfr_low (af : Int) (x : Pc) : af + 1 ≤ nfr af x := by unfold nfr; omega

/-- a piece that is reached does not begin late -/
theorem nfr_reach (t : Tab) (ok : OkTab t) (af sec : Int) (h1 : -200000 ≤ af) (h2 : af ≤ 200000) (k : Nat) (hk : k ≤ t.chs.length) (hno : ∀ j, j < k → nhit af sec (pcAt t j) = false) :
    ∀ j : Nat, j ≤ k → nfr af (pcAt t j) ≤ 200001 + 86400 * (j : Int)
  | 0, _ => by simp only [nfr, pcAt, frAt]; omega
  | j + 1, hj => by
    have ih := nfr_reach t ok af sec h1 h2 k hk hno j (by omega)
    have hlow := nfr_low af (pcAt t j)
    have hc := ok.chs
    have hn := hno j (by omega)
    have hw := nwt_rng af sec (pcAt t j)
    have hv := nval_in af sec (pcAt t j) (by omega) (by omega)
    simp only [nhit, decide_eq_false_iff_not] at hn
    rw [hv] at hn
    have hb : (pcAt t j).b = tAt t.chs j := by simp only [pcAt, toAt]; rw [if_pos (by omega)]
    have ha : nfr af (pcAt t (j + 1)) = max (tAt t.chs j) (af + 1) := rfl
    rw [hb] at hn
    rw [ha]
    omega

structure NX (t : Tab) (af sec n : Int) : Prop where
  low : af < n
  high : n ≤ 100000000
  shows : (n + (tyOf t n).off) % 86400 = sec
  first : ∀ y, af < y → y < n → (y + (tyOf t y).off) % 86400 ≠ sec

theorem next_law (t : Tab) (ok : OkTab t) (af sec : Int) (h1 : -200000 ≤ af) (h2 : af ≤ 200000) (hs1 : 0 ≤ sec) (hs2 : sec < 86400) (k : Nat) (hk : k ≤ t.chs.length) (hno : ∀ j, j < k → nhit af sec (pcAt t j) = false)
    (hyes : nhit af sec (pcAt t k) = true) : NX t af sec (nval af sec (pcAt t k)) := by
  have hr := nfr_reach t ok af sec h1 h2 k hk hno
  have hc := ok.chs
  have hsh : ∀ j, j ≤ k → nval af sec (pcAt t j) = nfr af (pcAt t j) + (sec - (nfr af (pcAt t j) + (pcAt t j).off) % 86400) % 86400 := by
    intro j hj
    have hlow := nfr_low af (pcAt t j)
    have hrj := hr j hj
    have ho := pc_off t ok j
    rw [nval_in af sec _ (by omega) (by omega)]
    unfold nwt
    rw [IntWalk.wrap64_in (nfr af (pcAt t j) + (pcAt t j).off) ⟨by omega, by omega⟩]
  have hk0 := hr k (Nat.le_refl _)
  have hl0 := nfr_low af (pcAt t k)
  have hs0 := hsh k (Nat.le_refl _)
  simp only [nhit, decide_eq_true_eq] at hyes
  have hfa : ∀ j, (pcAt t j).a ≤ nfr af (pcAt t j) := fun j => by unfold nfr; omega
  have hcn : cntOf t.chs (nval af sec (pcAt t k)) = k := by
    refine piece_num t ok _ k hk ?_ hyes.2
    have := hfa k
    have : (pcAt t k).a = frAt t.chs k := rfl
    omega
  have hty : (tyOf t (nval af sec (pcAt t k))).off = (pcAt t k).off := by rw [tyOf_piece, hcn]; rfl
  refine ⟨by omega, by omega, ?_, ?_⟩
  · rw [hty, hs0]
    omega
  · intro y hy1 hy2
    obtain ⟨p1, p2⟩ := piece_of t ok y (by omega) (by omega)
    have hj := (cntOf_spec t ok y).1
    obtain ⟨j, ej⟩ : ∃ j, cntOf t.chs y = j := ⟨_, rfl⟩
    have htj : (tyOf t y).off = (pcAt t j).off := by rw [tyOf_piece, ej]; rfl
    rw [ej] at p1 p2 hj
    rw [htj]
    have hjk : j ≤ k := by
      rcases Nat.lt_or_ge k j with h | h
      · exfalso
        have e1 : (pcAt t k).b = tAt t.chs k := by simp only [pcAt, toAt]; rw [if_pos (by omega)]
        obtain ⟨i, rfl⟩ : ∃ i, j = i + 1 := ⟨j - 1, by omega⟩
        have := tAt_mono t.chs ok.rise k i (by omega) (by omega)
        simp only [frAt] at p1
        have := hyes.2
        omega
      · exact h
    have hF : nfr af (pcAt t j) ≤ y := by
      have : (pcAt t j).a = frAt t.chs j := rfl
      unfold nfr; omega
    have hV : y < nval af sec (pcAt t j) := by
      rcases Nat.lt_or_ge j k with h | h
      · have := hno j h
        simp only [nhit, decide_eq_false_iff_not] at this
        have e2 : (pcAt t j).b = toAt t.chs j := rfl
        omega
      · obtain rfl : j = k := by omega
        exact hy2
    have hsj := hsh j hjk
    rw [hsj] at hV
    omega

end Go.Proofs.Ytddkedghpapepaa
