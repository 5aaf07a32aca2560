/- table.At; WallLongDays: its walk. -/
import Derived.Test.YtddkedghpapepaaWallC
import Derived.Test.YtddkedghpapepaaLongMath
namespace Go.Proofs.Ytddkedghpapepaa
open Go.RowKit Go.Shelf
set_option linter.unusedVariables false
set_option linter.unusedSimpArgs false

def atOf (t : Tab) : Nat → Int
  | 0 => -1099511627776
  | k + 1 => tAt t.chs k
def endOf (t : Tab) (k : Nat) : Int := if k < t.chs.length then tAt t.chs k else 1099511627776

theorem give_cnt (t : Tab) (ok : OkTab t) (k : Nat) (hk : k ≤ t.chs.length) (l h : Int) (hl1 : -100000000 ≤ l) (hl2 : l ≤ 100000000) (hh1 : -100000000 ≤ h) (hh2 : h ≤ 100000000) :
    max 0 (min (endOf t k) (h - (tyOf t (atOf t k)).off) - max (atOf t k) (l - (tyOf t (atOf t k)).off)) = give l h (pcAt t k) := by
  have hch : ∀ i, i < t.chs.length → -1099511627776 ≤ tAt t.chs i ∧ tAt t.chs i ≤ 1099511627776 := fun i hi => by
    rw [tAt_in _ _ hi]
    have := ok.ch _ (List.getElem_mem hi)
    omega
  have ho := pc_off t ok k
  have ho2 := tyOf_off t (atOf t k) ok
  have hcase : (pcAt t k).off = (tyOf t (atOf t k)).off ∨ (k = 0 ∧ 0 < t.chs.length ∧ tAt t.chs 0 = -1099511627776) := by
    cases k with
    | zero =>
      by_cases hn : t.chs.length = 0
      · left
        have : cntOf t.chs (-1099511627776) = 0 := piece_num t ok _ 0 (by omega) (by simp [frAt]) (by simp [toAt, hn])
        simp only [atOf]
        rw [tyOf_piece, this]; rfl
      · by_cases he : tAt t.chs 0 = -1099511627776
        · exact .inr ⟨rfl, by omega, he⟩
        · left
          have h0 := hch 0 (by omega)
          have : cntOf t.chs (-1099511627776) = 0 := piece_num t ok _ 0 (by omega) (by simp [frAt]) (by unfold toAt; rw [if_pos (by omega)]; omega)
          simp only [atOf]
          rw [tyOf_piece, this]; rfl
    | succ j =>
      left
      have h0 := hch j (by omega)
      have : cntOf t.chs (tAt t.chs j) = j + 1 := piece_num t ok _ (j + 1) hk (by simp [frAt]) (by
        unfold toAt
        split
        · rename_i hlt
          rw [tAt_in _ _ (by omega), tAt_in _ _ hlt]
          exact List.pairwise_iff_getElem.1 ok.rise j (j + 1) (by omega) hlt (by omega)
        · omega)
      simp only [atOf]
      rw [tyOf_piece, this]; rfl
  rcases hcase with he | ⟨rfl, h0, h1⟩
  · rw [← he]
    unfold give seg endOf
    rw [he] at ho ⊢
    have hfr : max (atOf t k) (l - (tyOf t (atOf t k)).off) = max (pcAt t k).a (l - (tyOf t (atOf t k)).off) := by
      cases k with
      | zero => simp only [atOf, pcAt, frAt] at ho2 ⊢; omega
      | succ j => simp only [atOf, pcAt, frAt]
    rw [hfr]
    split
    · rename_i hlt
      have : (pcAt t k).b = tAt t.chs k := by simp only [pcAt, toAt]; rw [if_pos hlt]
      rw [this]
    · rename_i hlt
      have : (pcAt t k).b = 4611686018427387903 := by simp only [pcAt, toAt]; rw [if_neg hlt]
      rw [this]
      omega
  · unfold give seg endOf
    rw [if_pos h0, h1]
    have e1 : (pcAt t 0).b = -1099511627776 := by simp only [pcAt, toAt]; rw [if_pos h0, h1]
    have e2 : (pcAt t 0).a = -4611686018427387904 := rfl
    rw [e1, e2]
    simp only [atOf] at ho2 ⊢
    omega

theorem giveAll_succ (l h : Int) (t : Tab) (k : Nat) : giveAll l h (uptoP t (k + 1)) = giveAll l h (uptoP t k) + give l h (pcAt t k) := by
  rw [uptoP_succ]; simp [giveAll]

/-- the days' sum -/
def sumL (t : Tab) (f : Int) (n : Nat) : Int := giveAll (86400 * f) (86400 * (f + n)) (uptoP t (t.chs.length + 1))
theorem sumL_zero (t : Tab) (f : Int) : sumL t f 0 = 0 := by
  have := giveAll_bound (86400 * f) (86400 * (f + (0 : Nat))) (by omega) (uptoP t (t.chs.length + 1))
  have e : (86400 * (f + (0 : Nat)) - 86400 * f) = 0 := by omega
  rw [e, Int.zero_mul] at this
  unfold sumL
  omega
theorem sumL_succ (t : Tab) (ok : OkTab t) (f : Int) (n : Nat) (h1 : -1000 ≤ f) (h2 : f ≤ 1000) (h3 : n ≤ 1000) : sumL t f (n + 1) = sumL t f n + lngT t (f + n) := by
  unfold sumL
  rw [lngT_eq t ok _ (by omega) (by omega), ← giveAll_join (86400 * f) (86400 * (f + n)) (86400 * (f + (n + 1 : Nat))) (by omega) (by omega)]
  rw [show f + (n : Int) + 1 = f + ((n + 1 : Nat) : Int) by omega]
theorem sumL_bound (t : Tab) (f : Int) (n : Nat) (hn : n ≤ 9) (hc : t.chs.length ≤ 1000) : 0 ≤ sumL t f n ∧ sumL t f n ≤ 10000000000 := by
  have h := giveAll_bound (86400 * f) (86400 * (f + n)) (by omega) (uptoP t (t.chs.length + 1))
  rw [uptoP_length] at h
  unfold sumL
  refine ⟨h.1, Int.le_trans h.2 ?_⟩
  have : 86400 * (f + n) - 86400 * f = 86400 * n := by omega
  rw [this]
  have h5 : (86400 * (n : Int)) * ((t.chs.length + 1 : Nat) : Int) ≤ (86400 * 9) * 1001 := Int.mul_le_mul (by omega) (by omega) (by omega) (by omega)
  omega

theorem froz {W : World} {B : Nat} {cs : Array Value} {T : TypeId} (h : W.heap[B]? = some (Obj.cells cs T (0, 0))) (i : Nat) : W.frozen? ⟨B, i, none⟩ = false := by simp [World.frozen?, h]

set_option maxHeartbeats 4000000 in
theorem At_ok (t : Tab) (v : Value) (x : Int) (w : World) (hv : TabAt w v t) (h0 : chk t = 0) :
    Calls Try.prog 22 #[v, .int .i64 x] w fun e w' => e = .returned (.tuple #[tyV (tyOf t x), .int .i64 0]) ∧ Below w.heap.size w w' := by
  obtain ⟨sv, cv, rfl⟩ := hv.parts
  obtain ⟨W0, hW0⟩ : ∃ W0, w.alloc (.cells #[sv, .int .i64 t.first, cv] 25) = W0 := ⟨_, rfl⟩
  obtain ⟨hB, hS, q0, q1, q2⟩ := box3 hW0
  obtain ⟨W1, hW1⟩ : ∃ W1, W0.alloc (.cells #[.int .i64 0, .bool false, .string ⟨#[]⟩] 32) = W1 := ⟨_, rfl⟩
  have n1 := World.alloc_heap_new W0 (.cells #[.int .i64 0, .bool false, .string ⟨#[]⟩] 32)
  have b1 : Below w.heap.size w W1 := by rw [← hW1]; exact hB.alloc (by omega) _
  have bb1 : Below W0.heap.size W0 W1 := by rw [← hW1]; exact (Below.refl _ _).alloc (Nat.le_refl _) _
  have s1 : W1.heap.size = w.heap.size + 2 := by rw [← hW1]; simp; omega
  rw [hW1, hS] at n1
  have HCC := Check_any t _ _ (hv.below b1)
  rw [h0] at HCC
  have HO := Lib.hid (fun W (hb : Below w.heap.size w W) => Of_any t _ x W (hv.below hb) h0)
  obtain ⟨T, eT⟩ : ∃ T, tyOf t x = T := ⟨_, rfl⟩
  rw [eT] at HO
  rw [eT]
  have HC := Lib.hid HCC
  have HW0 := Lib.hid hW0
  have HW1 := Lib.hid hW1
  have HB1 := Lib.hid b1
  have N1 := Lib.hid n1
  have Q0 := Lib.hid ((bb1.cell (p := ⟨w.heap.size, 0, none⟩) (by show w.heap.size < _; omega)).trans q0)
  have Q1 := Lib.hid ((bb1.cell (p := ⟨w.heap.size, 1, none⟩) (by show w.heap.size < _; omega)).trans q1)
  have Q2 := Lib.hid ((bb1.cell (p := ⟨w.heap.size, 2, none⟩) (by show w.heap.size < _; omega)).trans q2)
  have S1 := Lib.hid s1
  clear hv h0 hW0 hW1 hB hS q0 q1 q2 n1 b1 bb1 s1 HCC eT
  go_enter Try.func22, Try.ntmps22
  go_wp2_with fail
  rw [HW0.out, HW1.out]
  refine HC.out.mono ?_
  rintro e w1 ⟨rfl, hb1⟩
  rw [S1.out] at hb1
  have q0 := (hb1.cell (p := ⟨w.heap.size, 0, none⟩) (by show w.heap.size < _; omega)).trans Q0.out
  have q1 := (hb1.cell (p := ⟨w.heap.size, 1, none⟩) (by show w.heap.size < _; omega)).trans Q1.out
  have q2 := (hb1.cell (p := ⟨w.heap.size, 2, none⟩) (by show w.heap.size < _; omega)).trans Q2.out
  have bw1 := HB1.out.trans (hb1.mono (by omega))
  go_wp2_with fail
  refine (HO.out _ bw1).mono ?_
  rintro e w2 ⟨rfl, hb2⟩
  have hs1 : w.heap.size + 2 ≤ w1.heap.size := by have := hb1.size; have := S1.out; omega
  have n2 := (hb2.block (w.heap.size + 1) (by omega)).trans ((hb1.block (w.heap.size + 1) (by omega)).trans N1.out)
  obtain ⟨r0, r1, r2⟩ := cells3 n2
  have f0 := froz n2 0
  have f1 := froz n2 1
  have f2 := froz n2 2
  have HB2 := Lib.hid (bw1.trans (hb2.mono bw1.size))
  have hlt2 : w.heap.size + 1 < w2.heap.size := by have := hb2.size; omega
  clear n2 hb1 hb2 bw1 q0 q1 q2
  simp only [tyV]
  go_wp2
  refine bodyPost_ret (v := .tuple #[tyV T, .int .i64 0]) (by simp [results, Try.results22, go_sem, r0, r1, r2]) rfl ⟨rfl, ?_⟩
  exact ((HB2.out.setCell (by simp) _).setCell (by simp) _).setCell (by simp) _

end Go.Proofs.Ytddkedghpapepaa
