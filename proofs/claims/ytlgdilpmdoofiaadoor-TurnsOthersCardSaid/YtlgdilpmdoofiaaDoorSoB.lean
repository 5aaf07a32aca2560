/- slices.SortStableFunc at the rules' nominal times: the insertion sort. slices.SortStableFunc at the rules' nominal times: symMerge where one side has one element. slices.SortStableFunc at the rules' nominal times: symMerge where the other side has one element. -/
import Derived.Test.YtlgdilpmdoofiaaDoorSoA
import Derived.Shelf.SlSortCmp.QuietGrown
import Derived.Sort.WalkA
namespace Go.Proofs.YtlgdilpmdoofiaaDoor
open Go.RowKit Go.Sort
set_option linter.unusedVariables false
set_option linter.unusedSimpArgs false

theorem mixedO : Tryd.prog.follows .mixedOrders = true := by kernel_rfl
theorem below_grow (w : World) (n : Nat) (os : Array Obj) : Below w.heap.size w (grow (w.drewN n) os) := by
  refine ⟨rfl, rfl, rfl, ?_, fun i hi => ?_⟩
  · show w.heap.size ≤ (w.heap ++ os).size
    simp
  · show (w.heap ++ os)[i]? = _
    rw [Array.getElem?_append_left hi]
theorem cmp_grow (a b : Int) (p q : Option Addr) (w : World) : Calls Tryd.prog 61 #[.agg #[.int .i64 a, .pointer p], .agg #[.int .i64 b, .pointer q]] w fun e w' => e = .returned (.int .i64 (cmpI a b)) ∧ ∃ q os', w' = grow (w.drewN q) os' := by
  go_enter Tryd.func61, Tryd.ntmps61
  go_wp2_with (first | (go_at_call 62; refine (compare_any _ _ _).mono ?_; rintro e w' ⟨rfl, rfl⟩))
  go_ret
  refine ⟨rfl, 0, #[.cells #[.int .i64 a, .pointer p] 126 (0, 0), .cells #[.int .i64 b, .pointer q] 126 (0, 0)], ?_⟩
  show (w.alloc _).alloc _ = _
  rw [alloc_eq_grow, alloc_eq_grow, grow_grow]
  rfl
theorem SoW.kG {pt : Nat → Nat} {w0 W : World} {blk : Nat} {d : Array El} (h : SoW pt w0 blk d W) (i : Nat) (hi : i < d.size) (n : Nat) (os : Array Obj) : (grow (W.drewN n) os).cell? ⟨blk, i * 2, none⟩ = some (.int .i64 d[i]!.1) :=
  cell_grown h.lt (h.h.k i hi) n os
theorem SoW.pG {pt : Nat → Nat} {w0 W : World} {blk : Nat} {d : Array El} (h : SoW pt w0 blk d W) (i : Nat) (hi : i < d.size) (n : Nat) (os : Array Obj) : (grow (W.drewN n) os).cell? ⟨blk, i * 2 + 1, none⟩ = some (.pointer (some ⟨pt d[i]!.2, 0, none⟩)) :=
  cell_grown h.lt (h.h.p i hi) n os
theorem SoW.grown {pt : Nat → Nat} {w0 W : World} {blk : Nat} {d : Array El} (h : SoW pt w0 blk d W) (n : Nat) (os : Array Obj) : SoW pt w0 blk d (grow (W.drewN n) os) := h.below (below_grow W n os)

set_option maxRecDepth 100000 in
set_option maxHeartbeats 4000000 in
theorem insertion_any (pt : Nat → Nat) (w0 : World) (blk cap a b : Nat) (d : Array El) (W : World) (hS : SoW pt w0 blk d W) (hsz : d.size ≤ 4000000) (hab : a ≤ b) (hb : b ≤ d.size) :
    Calls Tryd.prog 112 #[.slice (some ⟨blk, 0, none⟩) d.size cap, .int .i64 a, .int .i64 b, .func (.func 61) #[] #[]] W fun e w' => e = .returned (.tuple #[]) ∧
      SoW pt w0 blk (insertionSort elK d a b) w' ∧ (insertionSort elK d a b).size = d.size := by
  have HS := Lib.hid hS
  have mixed := mixedO
  have HCM := Lib.hid cmp_grow
  clear hS
  go_enter Tryd.func112, Tryd.ntmps112
  go_wp2
  go_loopg [8] (b - a) (fun g1 vi wr => ∃ (i : Nat) (dk : Array El), vi = .int .i64 i ∧ a < i ∧ i ≤ b + 1 ∧ b + 1 - i ≤ g1 + 1 ∧ dk.size = d.size ∧ Hid (SoW pt w0 blk dk wr) ∧ Hid (insOuter elK a b i dk = insOuter elK a b (a + 1) d))
  case atStart => exact ⟨a + 1, d, by go_num, by omega, by omega, by omega, rfl, HS, rfl⟩
  case round =>
    obtain ⟨i, dk, rfl, hai, hib, hg1, hsk, HW, HO⟩ := hrel
    by_cases hlt : i < b
    · have hltz : (i : Int) < (b : Int) := by omega
      go_wp2
      go_loopg [9] i (fun g2 vj wr2 => ∃ (j : Nat) (dj : Array El), vj = .int .i64 j ∧ a ≤ j ∧ j ≤ i ∧ j ≤ g2 ∧ dj.size = d.size ∧ Hid (SoW pt w0 blk dj wr2) ∧ Hid (insInner elK a j dj = insInner elK a i dk))
      case atStart => exact ⟨i, dk, rfl, by omega, Nat.le_refl _, Nat.le_refl _, hsk, HW, rfl⟩
      case round =>
        obtain ⟨j, dj, rfl, haj, hji, hg2, hsj, HV, HI⟩ := hrel
        have out : (j ≤ a ∨ elK dj[j]! dj[j - 1]! = false) → Hid (insOuter elK a b (i + 1) dj = insOuter elK a b (a + 1) d) := fun hs => by
          show _ = _
          rw [← HO.out, insOuter_go _ _ _ _ _ hlt, ← HI.out, insInner_stop _ _ _ _ hs]
        have OUT := Lib.hid out
        clear out
        by_cases hja : a < j
        · have hjaz : (a : Int) < (j : Int) := by omega
          obtain ⟨q, rfl⟩ : ∃ q, j = q + 1 := ⟨j - 1, by omega⟩
          have hwp : IntKind.i64.wrap (q : Int) = (q : Int) := by rw [IntKind.wrap_i64]; omega
          have jz : (q : Int) + 1 < (d.size : Int) := by omega
          have jz1 : (q : Int) < (d.size : Int) := by omega
          have hjaz' : (a : Int) < (q : Int) + 1 := by omega
          have p0 : (0 : Int) ≤ (q : Int) + 1 := by omega
          have e0 : ((q : Int) + 1).toNat = q + 1 := by omega
          simp only [Nat.add_sub_cancel] at OUT
          obtain ⟨x, ex⟩ : ∃ x, dj[q + 1]! = x := ⟨_, rfl⟩
          obtain ⟨y, ey⟩ : ∃ x, dj[q]! = x := ⟨_, rfl⟩
          have g1 := HV.out.kG (q + 1) (by omega)
          have g2 := HV.out.pG (q + 1) (by omega)
          have g3 := HV.out.kG q (by omega)
          have g4 := HV.out.pG q (by omega)
          rw [ex] at g1 g2
          rw [ey] at g3 g4
          rw [ex, ey] at OUT
          have EX := Lib.hid (And.intro ex ey)
          clear ex ey
          by_cases hlv : cmpI x.1 y.1 < 0
          · have hd : decide (cmpI x.1 y.1 < 0) = true := decide_eq_true hlv
            go_wp2_with fail
            go_quiet_grown (first | (go_at_call 61; refine Calls.grown_of (HCM.out _ _ _ _ _)))
            go_wp2_with fail
            have HV2 := Lib.hid (HV.out.grown nq osq)
            clear g1 g2 g3 g4
            generalize grow (wr.drewN nq) osq = wg at HV2 ⊢
            have hsw := Lib.hid (HV2.out.drew.swap (q + 1) q (by omega) (by omega) (by omega))
            have c1 := HV2.out.h.k (q + 1) (by omega)
            have c2 := HV2.out.h.p (q + 1) (by omega)
            have c3 := HV2.out.h.k q (by omega)
            have c4 := HV2.out.h.p q (by omega)
            have f1 := HV2.out.h.f ((q + 1) * 2) (by omega)
            have f2 := HV2.out.h.f ((q + 1) * 2 + 1) (by omega)
            have f3 := HV2.out.h.f (q * 2) (by omega)
            have f4 := HV2.out.h.f (q * 2 + 1) (by omega)
            rw [EX.out.1] at c1 c2
            rw [EX.out.2] at c3 c4
            rw [EX.out.1, EX.out.2] at hsw
            go_big_region
            go_wp2
            go_roundg q
            case measure => omega
            case rel =>
              refine ⟨q, swp dj (q + 1) q, by first | rfl | go_num, by omega, by omega, Nat.le_refl _, by rw [swp_size]; exact hsj, hsw, (show Hid _ from ?_)⟩
              show _ = _
              have := insInner_go elK a (q + 1) dj hja (by simp only [Nat.add_sub_cancel]; rw [EX.out.1, EX.out.2]; exact decide_eq_true ((cmpI_neg _ _).1 hlv))
              simp only [Nat.add_sub_cancel] at this
              rw [← HI.out, this]
          · have hd : decide (cmpI x.1 y.1 < 0) = false := decide_eq_false hlv
            go_wp2_with fail
            go_quiet_grown (first | (go_at_call 61; refine Calls.grown_of (HCM.out _ _ _ _ _)))
            go_wp2
            go_roundg (b - (i + 1))
            case measure => omega
            case rel => exact ⟨i + 1, dj, by go_num, by omega, by omega, by omega, hsj, Lib.hid (HV.out.grown nq osq), OUT.out (Or.inr (decide_eq_false (fun h => by have := (cmpI_neg x.1 y.1).2 h; omega)))⟩
        · have hjaz : decide ((j : Int) > (a : Int)) = false := decide_eq_false (by omega)
          have hjaz' : ¬ (a : Int) < (j : Int) := by omega
          have HDR := Lib.hid HV.out.drew
          go_wp2_with fail
          go_big_region
          all_goals go_wp2
          go_roundg (b - (i + 1))
          case measure => omega
          case rel => exact ⟨i + 1, dj, by go_num, by omega, by omega, by omega, hsj, HDR, OUT.out (Or.inl (by omega))⟩
    · have hltz : ¬ (i : Int) < (b : Int) := by omega
      go_wp2
      go_end0
      have e : insertionSort elK d a b = dk := by unfold Sort.insertionSort; rw [← HO.out, insOuter_stop _ _ _ _ _ hlt]
      rw [e]
      exact ⟨rfl, HW.out, hsk⟩
end Go.Proofs.YtlgdilpmdoofiaaDoor
namespace Go.Proofs.YtlgdilpmdoofiaaDoor
open Go.RowKit Go.Sort
set_option linter.unusedVariables false
set_option linter.unusedSimpArgs false

theorem ins1_all (d : Array El) (a b i : Nat) (hs : SoIn (a + 1) b d) (h : Nat) (h1 : a + 1 ≤ h) (h2 : h < b) :
    (d[h]!.1 < d[a]!.1 → ∀ q, a + 1 ≤ q → q < h + 1 → d[q]!.1 < d[a]!.1) ∧ (¬ d[h]!.1 < d[a]!.1 → ∀ q, h ≤ q → q < b → d[a]!.1 ≤ d[q]!.1) := by
  refine ⟨fun hl q q1 q2 => ?_, fun hl q q1 q2 => ?_⟩
  · have := so_le hs (i := q) (j := h) q1 (by omega) h2
    unfold elLe at this; omega
  · have := so_le hs (i := h) (j := q) h1 q1 q2
    unfold elLe at this; omega
theorem ins2_all (d : Array El) (a m : Nat) (hs : SoIn a m d) (h : Nat) (h1 : a ≤ h) (h2 : h < m) :
    (¬ d[m]!.1 < d[h]!.1 → ∀ q, a ≤ q → q < h + 1 → d[q]!.1 ≤ d[m]!.1) ∧ (d[m]!.1 < d[h]!.1 → ∀ q, h ≤ q → q < m → d[m]!.1 < d[q]!.1) := by
  refine ⟨fun hl q q1 q2 => ?_, fun hl q q1 q2 => ?_⟩
  · have := so_le hs (i := q) (j := h) q1 (by omega) h2
    unfold elLe at this; omega
  · have := so_le hs (i := h) (j := q) h1 q1 q2
    unfold elLe at this; omega
def MvUp (d : Array El) (a k : Nat) (dk : Array El) : Prop := ∀ p, dk[p]! = if a ≤ p ∧ p < k then d[p + 1]! else if p = k then d[a]! else d[p]!
def MvDn (d : Array El) (m k : Nat) (dk : Array El) : Prop := ∀ p, dk[p]! = if p = k then d[m]! else if k < p ∧ p ≤ m then d[p - 1]! else d[p]!
theorem mvUp_step {d dk : Array El} {a k : Nat} (h : MvUp d a k dk) (ha : a ≤ k) (hk : k + 1 < dk.size) : MvUp d a (k + 1) (swp dk k (k + 1)) := by
  intro p
  rw [swp_get dk (by omega) hk, h k, h (k + 1), h p]
  rw [if_neg (show ¬ (a ≤ k ∧ k < k) by omega), if_pos rfl, if_neg (show ¬ (a ≤ k + 1 ∧ k + 1 < k) by omega), if_neg (show ¬ k + 1 = k by omega)]
  by_cases p1 : p = k + 1
  · rw [if_pos p1, if_neg (show ¬ (a ≤ p ∧ p < k + 1) by omega), if_pos p1]
  · rw [if_neg p1]
    by_cases p2 : p = k
    · rw [if_pos p2, if_pos (show a ≤ p ∧ p < k + 1 by omega), p2]
    · rw [if_neg p2]
      by_cases p3 : a ≤ p ∧ p < k
      · rw [if_pos p3, if_pos (show a ≤ p ∧ p < k + 1 by omega)]
      · rw [if_neg p3, if_neg p2, if_neg (show ¬ (a ≤ p ∧ p < k + 1) by omega), if_neg p1]
theorem mvDn_step {d dk : Array El} {m k : Nat} (h : MvDn d m (k + 1) dk) (hm : k + 1 ≤ m) (hk : k + 1 < dk.size) : MvDn d m k (swp dk (k + 1) k) := by
  intro p
  rw [swp_get dk hk (by omega), h k, h (k + 1), h p]
  rw [if_neg (show ¬ k = k + 1 by omega), if_neg (show ¬ (k + 1 < k ∧ k ≤ m) by omega), if_pos rfl]
  by_cases p1 : p = k
  · rw [if_pos p1, if_pos p1]
  · rw [if_neg p1, if_neg p1]
    by_cases p2 : p = k + 1
    · rw [if_pos p2, if_pos (show k < p ∧ p ≤ m by omega), p2, Nat.add_sub_cancel]
    · rw [if_neg p2, if_neg p2]
      by_cases p3 : k + 1 < p ∧ p ≤ m
      · rw [if_pos p3, if_pos (show k < p ∧ p ≤ m by omega)]
      · rw [if_neg p3, if_neg (show ¬ (k < p ∧ p ≤ m) by omega)]

set_option maxRecDepth 100000 in
set_option maxHeartbeats 4000000 in
theorem symM1 (pt : Nat → Nat) (w0 : World) (blk cap a b : Nat) (d : Array El) (W : World) (hS : SoW pt w0 blk d W) (hsz : d.size ≤ 4000000) (hab : a + 1 < b) (hb : b ≤ d.size) (hs2 : SoIn (a + 1) b d) (ht : TagLt a (a + 1) b d) :
    Calls Tryd.prog 113 #[.slice (some ⟨blk, 0, none⟩) d.size cap, .int .i64 a, .int .i64 ((a + 1 : Nat) : Int), .int .i64 b, .func (.func 61) #[] #[]] W fun e w' => e = .returned (.tuple #[]) ∧
      ∃ d', SoW pt w0 blk d' w' ∧ d'.size = d.size ∧ PermIn a b d d' ∧ SoIn a b d' := by
  have HS := Lib.hid hS
  have mixed := mixedO
  have HCM := Lib.hid cmp_grow
  have HS2 := Lib.hid hs2
  have HT := Lib.hid ht
  obtain ⟨m, em⟩ : ∃ m, a + 1 = m := ⟨_, rfl⟩
  rw [em]
  have hm1 : a + 1 ≤ m := by omega
  have hm2 : m ≤ a + 1 := by omega
  have hz : (m : Int) - (a : Int) = 1 := by omega
  clear hS hs2 ht em
  go_enter Tryd.func113, Tryd.ntmps113
  go_wp2_with fail
  clear hz
  go_loopg [10, 11] (b - m) (fun kx vi vj wr => ∃ (i j : Nat), vi = .int .i64 i ∧ vj = .int .i64 j ∧ a + 1 ≤ i ∧ i ≤ j ∧ j ≤ b ∧ j - i ≤ kx ∧ Hid (SoW pt w0 blk d wr) ∧ Hid ((∀ q, a + 1 ≤ q → q < i → d[q]!.1 < d[a]!.1) ∧ (∀ q, j ≤ q → q < b → d[a]!.1 ≤ d[q]!.1)))
  case atStart => exact ⟨m, b, rfl, rfl, hm1, by omega, Nat.le_refl _, Nat.le_refl _, HS, Lib.hid ⟨fun q q1 q2 => by omega, fun q q1 q2 => by omega⟩⟩
  case round =>
    obtain ⟨i, j, rfl, rfl, hai, hij, hjb, hk, HW, HI⟩ := hrel
    by_cases hlt : i < j
    · obtain ⟨h, eh⟩ : ∃ h, (i + j) / 2 = h := ⟨_, rfl⟩
      have h1 : i ≤ h := by omega
      have h2 : h < j := by omega
      have zh : (((i : Int) + (j : Int)) / 2).toNat = h := by omega
      have ph : (0 : Int) ≤ ((i : Int) + (j : Int)) / 2 := by omega
      have bh : ((i : Int) + (j : Int)) / 2 < (d.size : Int) := by omega
      have ba : (a : Int) < (d.size : Int) := by omega
      have EH : Hid (((i : Int) + (j : Int)) / 2 = (h : Int)) := by show _ = _; omega
      have HA := Lib.hid (ins1_all d a b i HS2.out h (by omega) (by omega))
      have g1 := HW.out.kG h (by omega)
      have g2 := HW.out.pG h (by omega)
      have g3 := HW.out.kG a (by omega)
      have g4 := HW.out.pG a (by omega)
      obtain ⟨x, ex⟩ : ∃ x, d[h]! = x := ⟨_, rfl⟩
      obtain ⟨y, ey⟩ : ∃ x, d[a]! = x := ⟨_, rfl⟩
      rw [ex] at g1 g2 HA
      rw [ey] at g3 g4 HA HI
      have EY := Lib.hid ey
      clear ex ey eh
      by_cases hlv : cmpI x.1 y.1 < 0
      · have hd : decide (cmpI x.1 y.1 < 0) = true := decide_eq_true hlv
        go_wp2_with fail
        go_quiet_grown (first | (go_at_call 61; refine Calls.grown_of (HCM.out _ _ _ _ _)))
        clear g1 g2 g3 g4
        go_wp2_with fail
        go_roundg (j - (h + 1))
        case measure => omega
        case rel =>
          exact ⟨h + 1, j, by rw [EH.out]; go_num, rfl, by omega, by omega, hjb, Nat.le_refl _, Lib.hid (HW.out.grown nq osq), Lib.hid ⟨by rw [EY.out]; exact HA.out.1 ((cmpI_neg _ _).1 hlv), by rw [EY.out]; exact HI.out.2⟩⟩
      · have hd : decide (cmpI x.1 y.1 < 0) = false := decide_eq_false hlv
        go_wp2_with fail
        go_quiet_grown (first | (go_at_call 61; refine Calls.grown_of (HCM.out _ _ _ _ _)))
        clear g1 g2 g3 g4
        go_wp2_with fail
        go_roundg (h - i)
        case measure => omega
        case rel =>
          have hq : ¬ x.1 < y.1 := fun h' => by have := (cmpI_neg x.1 y.1).2 h'; omega
          exact ⟨i, h, rfl, by rw [EH.out], hai, by omega, by omega, Nat.le_refl _, Lib.hid (HW.out.grown nq osq), Lib.hid ⟨by rw [EY.out]; exact HI.out.1, by rw [EY.out]; exact HA.out.2 (by omega)⟩⟩
    · obtain rfl : j = i := by omega
      go_wp2_with fail
      go_loopg [13] (j - a) (fun kx vk wr2 => ∃ (k : Nat) (dk : Array El), vk = .int .i64 k ∧ a ≤ k ∧ k + 1 ≤ j ∧ j - k ≤ kx + 1 ∧ dk.size = d.size ∧ Hid (SoW pt w0 blk dk wr2) ∧ Hid (PermIn a b d dk) ∧ Hid (MvUp d a k dk))
      case atStart => exact ⟨a, d, rfl, Nat.le_refl _, by omega, by omega, rfl, HW, Lib.hid (permIn_refl _ _ _), Lib.hid (fun p => by rw [if_neg (show ¬ (a ≤ p ∧ p < a) by omega)]; split <;> (try rfl); rename_i e; rw [e])⟩
      case round =>
        obtain ⟨k, dk, rfl, hak, hkj, hk2, hsk, HW2, HP, HM⟩ := hrel
        by_cases hlt2 : k + 1 < j
        · have z1 : (k : Int) < (j : Int) - 1 := by omega
          have e0 : ((k : Int) + 1).toNat = k + 1 := by omega
          have p0 : (0 : Int) ≤ (k : Int) + 1 := by omega
          have jz : (k : Int) + 1 < (d.size : Int) := by omega
          have jz1 : (k : Int) < (d.size : Int) := by omega
          have hwp : IntKind.i64.wrap ((k : Int) + 1) = (k : Int) + 1 := by rw [IntKind.wrap_i64]; omega
          have hsw := Lib.hid (HW2.out.drew.swap k (k + 1) (by omega) (by omega) (by omega))
          have c1 := HW2.out.h.k (k + 1) (by omega)
          have c2 := HW2.out.h.p (k + 1) (by omega)
          have c3 := HW2.out.h.k k (by omega)
          have c4 := HW2.out.h.p k (by omega)
          have f1 := HW2.out.h.f ((k + 1) * 2) (by omega)
          have f2 := HW2.out.h.f ((k + 1) * 2 + 1) (by omega)
          have f3 := HW2.out.h.f (k * 2) (by omega)
          have f4 := HW2.out.h.f (k * 2 + 1) (by omega)
          obtain ⟨x, ex⟩ : ∃ x, dk[k + 1]! = x := ⟨_, rfl⟩
          obtain ⟨y, ey⟩ : ∃ x, dk[k]! = x := ⟨_, rfl⟩
          rw [ex] at c1 c2 hsw
          rw [ey] at c3 c4 hsw
          clear ex ey
          go_wp2_with fail
          go_big_region
          go_wp2_with fail
          go_roundg (j - (k + 1) - 1)
          case measure => omega
          case rel => exact ⟨k + 1, swp dk k (k + 1), by go_num, by omega, by omega, by omega, by rw [swp_size]; exact hsk, hsw, Lib.hid (permIn_trans _ _ _ _ _ HP.out (swp_permIn _ _ _ _ _ (by omega) (by omega) (by omega) (by omega) (by omega))), Lib.hid (mvUp_step HM.out hak (by omega))⟩
        · have z1 : ¬ (k : Int) < (j : Int) - 1 := by omega
          go_wp2_with fail
          refine bodyPost_ret (results_none rfl _ _ _) rfl ?_
          refine ⟨rfl, dk, HW2.out, hsk, HP.out, ?_⟩
          refine so_ins1 d dk a b j HS2.out HT.out hai hjb HI.out.1 HI.out.2 (fun p => ?_)
          rw [HM.out p]
          have ekj : k + 1 = j := by omega
          by_cases p1 : a ≤ p ∧ p < k
          · rw [if_pos p1, if_pos (show a ≤ p ∧ p + 1 < j by omega)]
          · rw [if_neg p1, if_neg (show ¬ (a ≤ p ∧ p + 1 < j) by omega)]
            by_cases p2 : p = k
            · rw [if_pos p2, if_pos (show p + 1 = j by omega)]
            · rw [if_neg p2, if_neg (show ¬ p + 1 = j by omega)]
end Go.Proofs.YtlgdilpmdoofiaaDoor
namespace Go.Proofs.YtlgdilpmdoofiaaDoor
open Go.RowKit Go.Sort
set_option linter.unusedVariables false
set_option linter.unusedSimpArgs false

set_option maxRecDepth 100000 in
set_option maxHeartbeats 4000000 in
theorem symM2 (pt : Nat → Nat) (w0 : World) (blk cap a m : Nat) (d : Array El) (W : World) (hS : SoW pt w0 blk d W) (hsz : d.size ≤ 4000000) (ham : a + 1 < m) (hb : m + 1 ≤ d.size) (hs1 : SoIn a m d) (ht : TagLt a m (m + 1) d) :
    Calls Tryd.prog 113 #[.slice (some ⟨blk, 0, none⟩) d.size cap, .int .i64 a, .int .i64 m, .int .i64 ((m + 1 : Nat) : Int), .func (.func 61) #[] #[]] W fun e w' => e = .returned (.tuple #[]) ∧
      ∃ d', SoW pt w0 blk d' w' ∧ d'.size = d.size ∧ PermIn a (m + 1) d d' ∧ SoIn a (m + 1) d' := by
  have HS := Lib.hid hS
  have mixed := mixedO
  have HCM := Lib.hid cmp_grow
  have HS1 := Lib.hid hs1
  have HT := Lib.hid ht
  obtain ⟨b, eb⟩ : ∃ b, m + 1 = b := ⟨_, rfl⟩
  have EB := Lib.hid eb
  rw [eb]
  have hm1 : m + 1 ≤ b := by omega
  have hm2 : b ≤ m + 1 := by omega
  have hz : ((m : Int) - (a : Int) == 1) = false := by simp; omega
  have hz3 : (b : Int) - (m : Int) = 1 := by omega
  have hz4 : ¬ (m : Int) - (a : Int) = 1 := by omega
  clear hS hs1 ht eb
  go_enter Tryd.func113, Tryd.ntmps113
  go_wp2_with fail
  clear hz hz3 hz4
  go_loopg [14, 15] (m - a) (fun kx vi vj wr => ∃ (i j : Nat), vi = .int .i64 i ∧ vj = .int .i64 j ∧ a ≤ i ∧ i ≤ j ∧ j ≤ m ∧ j - i ≤ kx ∧ Hid (SoW pt w0 blk d wr) ∧ Hid ((∀ q, a ≤ q → q < i → d[q]!.1 ≤ d[m]!.1) ∧ (∀ q, j ≤ q → q < m → d[m]!.1 < d[q]!.1)))
  case atStart => exact ⟨a, m, rfl, rfl, Nat.le_refl _, by omega, Nat.le_refl _, Nat.le_refl _, HS, Lib.hid ⟨fun q q1 q2 => by omega, fun q q1 q2 => by omega⟩⟩
  case round =>
    obtain ⟨i, j, rfl, rfl, hai, hij, hjm, hk, HW, HI⟩ := hrel
    by_cases hlt : i < j
    · obtain ⟨h, eh⟩ : ∃ h, (i + j) / 2 = h := ⟨_, rfl⟩
      have h1 : i ≤ h := by omega
      have h2 : h < j := by omega
      have zh : (((i : Int) + (j : Int)) / 2).toNat = h := by omega
      have ph : (0 : Int) ≤ ((i : Int) + (j : Int)) / 2 := by omega
      have bh : ((i : Int) + (j : Int)) / 2 < (d.size : Int) := by omega
      have ba : (m : Int) < (d.size : Int) := by omega
      have EH : Hid (((i : Int) + (j : Int)) / 2 = (h : Int)) := by show _ = _; omega
      have HA := Lib.hid (ins2_all d a m HS1.out h (by omega) (by omega))
      have g1 := HW.out.kG h (by omega)
      have g2 := HW.out.pG h (by omega)
      have g3 := HW.out.kG m (by omega)
      have g4 := HW.out.pG m (by omega)
      obtain ⟨x, ex⟩ : ∃ x, d[h]! = x := ⟨_, rfl⟩
      obtain ⟨y, ey⟩ : ∃ x, d[m]! = x := ⟨_, rfl⟩
      rw [ex] at g1 g2 HA
      rw [ey] at g3 g4 HA HI
      have EY := Lib.hid ey
      clear ex ey eh
      by_cases hlv : cmpI y.1 x.1 < 0
      · have hd : decide (cmpI y.1 x.1 < 0) = true := decide_eq_true hlv
        go_wp2_with fail
        go_quiet_grown (first | (go_at_call 61; refine Calls.grown_of (HCM.out _ _ _ _ _)))
        clear g1 g2 g3 g4
        go_wp2_with fail
        go_roundg (h - i)
        case measure => omega
        case rel =>
          have hq : y.1 < x.1 := (cmpI_neg y.1 x.1).1 hlv
          exact ⟨i, h, rfl, by rw [EH.out], hai, by omega, by omega, Nat.le_refl _, Lib.hid (HW.out.grown nq osq), Lib.hid ⟨by rw [EY.out]; exact HI.out.1, by rw [EY.out]; exact HA.out.2 hq⟩⟩
      · have hd : decide (cmpI y.1 x.1 < 0) = false := decide_eq_false hlv
        go_wp2_with fail
        go_quiet_grown (first | (go_at_call 61; refine Calls.grown_of (HCM.out _ _ _ _ _)))
        clear g1 g2 g3 g4
        go_wp2_with fail
        go_roundg (j - (h + 1))
        case measure => omega
        case rel =>
          have hq : ¬ y.1 < x.1 := fun h' => by have := (cmpI_neg y.1 x.1).2 h'; omega
          exact ⟨h + 1, j, by rw [EH.out]; go_num, rfl, by omega, by omega, hjm, Nat.le_refl _, Lib.hid (HW.out.grown nq osq), Lib.hid ⟨by rw [EY.out]; exact HA.out.1 (by omega), by rw [EY.out]; exact HI.out.2⟩⟩
    · obtain rfl : j = i := by omega
      go_wp2_with fail
      go_loopg [17] (m - j) (fun kx vk wr2 => ∃ (k : Nat) (dk : Array El), vk = .int .i64 k ∧ j ≤ k ∧ k ≤ m ∧ k - j ≤ kx ∧ dk.size = d.size ∧ Hid (SoW pt w0 blk dk wr2) ∧ Hid (PermIn a b d dk) ∧ Hid (MvDn d m k dk))
      case atStart => exact ⟨m, d, rfl, by omega, Nat.le_refl _, Nat.le_refl _, rfl, HW, Lib.hid (permIn_refl _ _ _), Lib.hid (fun p => by split; (rename_i e; rw [e]); rw [if_neg (show ¬ (m < p ∧ p ≤ m) by omega)])⟩
      case round =>
        obtain ⟨k, dk, rfl, hjk, hkm, hk2, hsk, HW2, HP, HM⟩ := hrel
        by_cases hlt2 : j < k
        · obtain ⟨q, rfl⟩ : ∃ q, k = q + 1 := ⟨k - 1, by omega⟩
          have z1 : (j : Int) < (q : Int) + 1 := by omega
          have e0 : ((q : Int) + 1).toNat = q + 1 := by omega
          have p0 : (0 : Int) ≤ (q : Int) + 1 := by omega
          have jz : (q : Int) + 1 < (d.size : Int) := by omega
          have jz1 : (q : Int) < (d.size : Int) := by omega
          have hwp : IntKind.i64.wrap (q : Int) = (q : Int) := by rw [IntKind.wrap_i64]; omega
          have hsw := Lib.hid (HW2.out.drew.swap (q + 1) q (by omega) (by omega) (by omega))
          have c1 := HW2.out.h.k (q + 1) (by omega)
          have c2 := HW2.out.h.p (q + 1) (by omega)
          have c3 := HW2.out.h.k q (by omega)
          have c4 := HW2.out.h.p q (by omega)
          have f1 := HW2.out.h.f ((q + 1) * 2) (by omega)
          have f2 := HW2.out.h.f ((q + 1) * 2 + 1) (by omega)
          have f3 := HW2.out.h.f (q * 2) (by omega)
          have f4 := HW2.out.h.f (q * 2 + 1) (by omega)
          obtain ⟨x, ex⟩ : ∃ x, dk[q + 1]! = x := ⟨_, rfl⟩
          obtain ⟨y, ey⟩ : ∃ x, dk[q]! = x := ⟨_, rfl⟩
          rw [ex] at c1 c2 hsw
          rw [ey] at c3 c4 hsw
          clear ex ey
          go_wp2_with fail
          go_big_region
          go_wp2_with fail
          go_roundg (q - j)
          case measure => omega
          case rel => exact ⟨q, swp dk (q + 1) q, by first | rfl | go_num, by omega, by omega, Nat.le_refl _, by rw [swp_size]; exact hsk, hsw, Lib.hid (permIn_trans _ _ _ _ _ HP.out (swp_permIn _ _ _ _ _ (by omega) (by omega) (by omega) (by omega) (by omega))), Lib.hid (mvDn_step HM.out hkm (by omega))⟩
        · have z1 : ¬ (j : Int) < (k : Int) := by omega
          go_wp2_with fail
          refine bodyPost_ret (results_none rfl _ _ _) rfl ?_
          refine ⟨rfl, dk, HW2.out, hsk, HP.out, ?_⟩
          have ekj : k = j := by omega
          rw [← EB.out]
          refine so_ins2 d dk a m j HS1.out HT.out hai hjm HI.out.1 HI.out.2 (fun p => ?_)
          rw [HM.out p, ekj]
end Go.Proofs.YtlgdilpmdoofiaaDoor
