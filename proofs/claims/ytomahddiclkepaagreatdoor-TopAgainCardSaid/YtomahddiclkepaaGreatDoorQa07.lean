/- slices.SortStableFunc at the rules' nominal times: the insertion sort. slices.SortStableFunc at the rules' nominal times: symMerge where one side has one element. slices.SortStableFunc at the rules' nominal times: symMerge where the other side has one element. slices.SortStableFunc at the rules' nominal times: symMerge. slices.SortStableFunc at the rules' nominal times: symMerge. slices.SortStableFunc at the rules' nominal times: symMerge. slices.SortStableFunc at the rules' nominal times: symMerge. slices.SortStableFunc at the rules' nominal times: whole. -/
import Derived.Test.YtomahddiclkepaaGreatDoorQa06
import Derived.Shelf.SlSortCmp.QuietGrown
import Derived.Sort.WalkA
import Derived.Deep.DeepCutAuto
namespace Go.Proofs.YtomahddiclkepaaGreatDoor
open Go.RowKit Go.Sort
set_option linter.unusedVariables false
set_option linter.unusedSimpArgs false
theorem mixedO : Tryz.prog.follows .mixedOrders = true := by kernel_rfl
theorem below_grow (w : World) (n : Nat) (os : Array Obj) : Below w.heap.size w (grow (w.drewN n) os) := by
 refine ⟨rfl, rfl, rfl, ?_, fun i hi => ?_⟩
 ·show w.heap.size ≤ (w.heap ++ os).size
  simp
 ·show (w.heap ++ os)[i]? = _
  rw [Array.getElem?_append_left hi]
theorem cmp_grow (a b : Int) (p q : Option Addr) (w : World) : Calls Tryz.prog 95 #[.agg #[.int .i64 a, .pointer p], .agg #[.int .i64 b, .pointer q]] w fun e w' => e = .returned (.int .i64 (cmpI a b)) ∧ ∃ q os', w' = grow (w.drewN q) os' := by
 go_enter Tryz.func95, Tryz.ntmps95
 go_wp2_with (first | (go_at_call 96; refine (compare_any _ _ _).mono ?_; rintro e w' ⟨rfl, rfl⟩))
 go_ret
 refine ⟨rfl, 0, #[.cells #[.int .i64 a, .pointer p] 180 (0, 0), .cells #[.int .i64 b, .pointer q] 180 (0, 0)], ?_⟩
 show (w.alloc _).alloc _ = _
 rw [alloc_eq_grow, alloc_eq_grow, grow_grow]
 rfl
theorem SoW.kG {pt : Nat → Nat} {w0 W : World} {blk : Nat} {d : Array El} (h : SoW pt w0 blk d W) (i : Nat) (hi : i < d.size) (n : Nat) (os : Array Obj) : (grow (W.drewN n) os).cell? ⟨blk, i * 2, none⟩ = some (.int .i64 d[i]!.1) :=
 cell_grown h.lt (h.h.k i hi) n os
theorem SoW.pG {pt : Nat → Nat} {w0 W : World} {blk : Nat} {d : Array El} (h : SoW pt w0 blk d W) (i : Nat) (hi : i < d.size) (n : Nat) (os : Array Obj) : (grow (W.drewN n) os).cell? ⟨blk, i * 2 + 1, none⟩ = some (.pointer (some ⟨pt d[i]!.2, 0, none⟩)) :=
 cell_grown h.lt (h.h.p i hi) n os
theorem SoW.grown {pt : Nat → Nat} {w0 W : World} {blk : Nat} {d : Array El} (h : SoW pt w0 blk d W) (n : Nat) (os : Array Obj) : SoW pt w0 blk d (grow (W.drewN n) os) := h.below (below_grow W n os)
set_option maxRecDepth 100000 in
set_option maxHeartbeats 4000000 in
theorem insertion_any (pt : Nat → Nat) (w0 : World) (blk cap a b : Nat) (d : Array El) (W : World) (hS : SoW pt w0 blk d W) (hsz : d.size ≤ 4000000) (hab : a ≤ b) (hb : b ≤ d.size) :
  Calls Tryz.prog 184 #[.slice (some ⟨blk, 0, none⟩) d.size cap, .int .i64 a, .int .i64 b, .func (.func 95) #[] #[]] W fun e w' => e = .returned (.tuple #[]) ∧
   SoW pt w0 blk (insertionSort elK d a b) w' ∧ (insertionSort elK d a b).size = d.size := by
 have HS := Lib.hid hS
 have mixed := mixedO
 have HCM := Lib.hid cmp_grow
 clear hS
 go_enter Tryz.func184, Tryz.ntmps184
 go_wp2
 go_loopg [8] (b - a) (fun g1 vi wr => ∃ (i : Nat) (dk : Array El), vi = .int .i64 i ∧ a < i ∧ i ≤ b + 1 ∧ b + 1 - i ≤ g1 + 1 ∧ dk.size = d.size ∧ Hid (SoW pt w0 blk dk wr) ∧ Hid (insOuter elK a b i dk = insOuter elK a b (a + 1) d))
 case atStart => exact ⟨a + 1, d, by go_num, by omega, by omega, by omega, rfl, HS, rfl⟩
 case round =>
  obtain ⟨i, dk, rfl, hai, hib, hg1, hsk, HW, HO⟩ := hrel
  by_cases hlt : i < b
  ·have hltz : (i : Int) < (b : Int) := by omega
   go_wp2
   go_loopg [9] i (fun g2 vj wr2 => ∃ (j : Nat) (dj : Array El), vj = .int .i64 j ∧ a ≤ j ∧ j ≤ i ∧ j ≤ g2 ∧ dj.size = d.size ∧ Hid (SoW pt w0 blk dj wr2) ∧ Hid (insInner elK a j dj = insInner elK a i dk))
   case atStart => exact ⟨i, dk, rfl, by omega, Nat.le_refl _, Nat.le_refl _, hsk, HW, rfl⟩
   case round =>
    obtain ⟨j, dj, rfl, haj, hji, hg2, hsj, HV, HI⟩ := hrel
    have out : (j ≤ a ∨ elK dj[j]! dj[j - 1]! = false) → Hid (insOuter elK a b (i + 1) dj = insOuter elK a b (a + 1) d) := fun hs => by
     show _ = _
     rw [← HO.out, insOuter_go _ _ _ _ _ hlt, ← HI.out, insInner_stop _ _ _ _ hs]
    have OUT := Lib.hid out
    clear out
    by_cases hja : a < j
    ·have hjaz : (a : Int) < (j : Int) := by omega
     obtain ⟨q, rfl⟩ : ∃ q, j = q + 1 := ⟨j - 1, by omega⟩
     have hwp : IntKind.i64.wrap (q : Int) = (q : Int) := by rw [IntKind.wrap_i64]; omega
     have jz : (q : Int) + 1 < (d.size : Int) := by omega
     have jz1 : (q : Int) < (d.size : Int) := by omega
     have hjaz' : (a : Int) < (q : Int) + 1 := by omega
     have p0 : (0 : Int) ≤ (q : Int) + 1 := by omega
     have e0 : ((q : Int) + 1).toNat = q + 1 := by omega
     simp only [Nat.add_sub_cancel] at OUT
     obtain ⟨x, ex⟩ : ∃ x, dj[q + 1]! = x := ⟨_, rfl⟩
     obtain ⟨y, ey⟩ : ∃ x, dj[q]! = x := ⟨_, rfl⟩
     have g1 := HV.out.kG (q + 1) (by omega)
     have g2 := HV.out.pG (q + 1) (by omega)
     have g3 := HV.out.kG q (by omega)
     have g4 := HV.out.pG q (by omega)
     rw [ex] at g1 g2
     rw [ey] at g3 g4
     rw [ex, ey] at OUT
     have EX := Lib.hid (And.intro ex ey)
     clear ex ey
     by_cases hlv : cmpI x.1 y.1 < 0
     ·have hd : decide (cmpI x.1 y.1 < 0) = true := decide_eq_true hlv
      go_wp2_with fail
      go_quiet_grown (first | (go_at_call 95; refine Calls.grown_of (HCM.out _ _ _ _ _)))
      go_wp2_with fail
      have HV2 := Lib.hid (HV.out.grown nq osq)
      clear g1 g2 g3 g4
      generalize grow (wr.drewN nq) osq = wg at HV2 ⊢
      have hsw := Lib.hid (HV2.out.drew.swap (q + 1) q (by omega) (by omega) (by omega))
      have c1 := HV2.out.h.k (q + 1) (by omega)
      have c2 := HV2.out.h.p (q + 1) (by omega)
      have c3 := HV2.out.h.k q (by omega)
      have c4 := HV2.out.h.p q (by omega)
      have f1 := HV2.out.h.f ((q + 1) * 2) (by omega)
      have f2 := HV2.out.h.f ((q + 1) * 2 + 1) (by omega)
      have f3 := HV2.out.h.f (q * 2) (by omega)
      have f4 := HV2.out.h.f (q * 2 + 1) (by omega)
      rw [EX.out.1] at c1 c2
      rw [EX.out.2] at c3 c4
      rw [EX.out.1, EX.out.2] at hsw
      go_big_region
      go_wp2
      go_roundg q
      case measure => omega
      case rel =>
       refine ⟨q, swp dj (q + 1) q, by first | rfl | go_num, by omega, by omega, Nat.le_refl _, by rw [swp_size]; exact hsj, hsw, (show Hid _ from ?_)⟩
       show _ = _
       have := insInner_go elK a (q + 1) dj hja (by simp only [Nat.add_sub_cancel]; rw [EX.out.1, EX.out.2]; exact decide_eq_true ((cmpI_neg _ _).1 hlv))
       simp only [Nat.add_sub_cancel] at this
       rw [← HI.out, this]
     ·have hd : decide (cmpI x.1 y.1 < 0) = false := decide_eq_false hlv
      go_wp2_with fail
      go_quiet_grown (first | (go_at_call 95; refine Calls.grown_of (HCM.out _ _ _ _ _)))
      go_wp2
      go_roundg (b - (i + 1))
      case measure => omega
      case rel => exact ⟨i + 1, dj, by go_num, by omega, by omega, by omega, hsj, Lib.hid (HV.out.grown nq osq), OUT.out (Or.inr (decide_eq_false (fun h => by have := (cmpI_neg x.1 y.1).2 h; omega)))⟩
    ·have hjaz : decide ((j : Int) > (a : Int)) = false := decide_eq_false (by omega)
     have hjaz' : ¬ (a : Int) < (j : Int) := by omega
     have HDR := Lib.hid HV.out.drew
     go_wp2_with fail
     go_big_region
     all_goals go_wp2
     go_roundg (b - (i + 1))
     case measure => omega
     case rel => exact ⟨i + 1, dj, by go_num, by omega, by omega, by omega, hsj, HDR, OUT.out (Or.inl (by omega))⟩
  ·have hltz : ¬ (i : Int) < (b : Int) := by omega
   go_wp2
   go_end0
   have e : insertionSort elK d a b = dk := by unfold Sort.insertionSort; rw [← HO.out, insOuter_stop _ _ _ _ _ hlt]
   rw [e]
   exact ⟨rfl, HW.out, hsk⟩
end Go.Proofs.YtomahddiclkepaaGreatDoor
namespace Go.Proofs.YtomahddiclkepaaGreatDoor
open Go.RowKit Go.Sort
set_option linter.unusedVariables false
set_option linter.unusedSimpArgs false
theorem ins1_all (d : Array El) (a b i : Nat) (hs : SoIn (a + 1) b d) (h : Nat) (h1 : a + 1 ≤ h) (h2 : h < b) :
  (d[h]!.1 < d[a]!.1 → ∀ q, a + 1 ≤ q → q < h + 1 → d[q]!.1 < d[a]!.1) ∧ (¬ d[h]!.1 < d[a]!.1 → ∀ q, h ≤ q → q < b → d[a]!.1 ≤ d[q]!.1) := by
 refine ⟨fun hl q q1 q2 => ?_, fun hl q q1 q2 => ?_⟩
 ·have := so_le hs (i := q) (j := h) q1 (by omega) h2
  unfold elLe at this; omega
 ·have := so_le hs (i := h) (j := q) h1 q1 q2
  unfold elLe at this; omega
theorem ins2_all (d : Array El) (a m : Nat) (hs : SoIn a m d) (h : Nat) (h1 : a ≤ h) (h2 : h < m) :
  (¬ d[m]!.1 < d[h]!.1 → ∀ q, a ≤ q → q < h + 1 → d[q]!.1 ≤ d[m]!.1) ∧ (d[m]!.1 < d[h]!.1 → ∀ q, h ≤ q → q < m → d[m]!.1 < d[q]!.1) := by
 refine ⟨fun hl q q1 q2 => ?_, fun hl q q1 q2 => ?_⟩
 ·have := so_le hs (i := q) (j := h) q1 (by omega) h2
  unfold elLe at this; omega
 ·have := so_le hs (i := h) (j := q) h1 q1 q2
  unfold elLe at this; omega
def MvUp (d : Array El) (a k : Nat) (dk : Array El) : Prop := ∀ p, dk[p]! = if a ≤ p ∧ p < k then d[p + 1]! else if p = k then d[a]! else d[p]!
def MvDn (d : Array El) (m k : Nat) (dk : Array El) : Prop := ∀ p, dk[p]! = if p = k then d[m]! else if k < p ∧ p ≤ m then d[p - 1]! else d[p]!
theorem mvUp_step {d dk : Array El} {a k : Nat} (h : MvUp d a k dk) (ha : a ≤ k) (hk : k + 1 < dk.size) : MvUp d a (k + 1) (swp dk k (k + 1)) := by
 intro p
 rw [swp_get dk (by omega) hk, h k, h (k + 1), h p]
 rw [if_neg (show ¬ (a ≤ k ∧ k < k) by omega), if_pos rfl, if_neg (show ¬ (a ≤ k + 1 ∧ k + 1 < k) by omega), if_neg (show ¬ k + 1 = k by omega)]
 by_cases p1 : p = k + 1
 ·rw [if_pos p1, if_neg (show ¬ (a ≤ p ∧ p < k + 1) by omega), if_pos p1]
 ·rw [if_neg p1]
  by_cases p2 : p = k
  ·rw [if_pos p2, if_pos (show a ≤ p ∧ p < k + 1 by omega), p2]
  ·rw [if_neg p2]
   by_cases p3 : a ≤ p ∧ p < k
   ·rw [if_pos p3, if_pos (show a ≤ p ∧ p < k + 1 by omega)]
   ·rw [if_neg p3, if_neg p2, if_neg (show ¬ (a ≤ p ∧ p < k + 1) by omega), if_neg p1]
theorem mvDn_step {d dk : Array El} {m k : Nat} (h : MvDn d m (k + 1) dk) (hm : k + 1 ≤ m) (hk : k + 1 < dk.size) : MvDn d m k (swp dk (k + 1) k) := by
 intro p
 rw [swp_get dk hk (by omega), h k, h (k + 1), h p]
 rw [if_neg (show ¬ k = k + 1 by omega), if_neg (show ¬ (k + 1 < k ∧ k ≤ m) by omega), if_pos rfl]
 by_cases p1 : p = k
 ·rw [if_pos p1, if_pos p1]
 ·rw [if_neg p1, if_neg p1]
  by_cases p2 : p = k + 1
  ·rw [if_pos p2, if_pos (show k < p ∧ p ≤ m by omega), p2, Nat.add_sub_cancel]
  ·rw [if_neg p2, if_neg p2]
   by_cases p3 : k + 1 < p ∧ p ≤ m
   ·rw [if_pos p3, if_pos (show k < p ∧ p ≤ m by omega)]
   ·rw [if_neg p3, if_neg (show ¬ (k < p ∧ p ≤ m) by omega)]
set_option maxRecDepth 100000 in
set_option maxHeartbeats 4000000 in
theorem symM1 (pt : Nat → Nat) (w0 : World) (blk cap a b : Nat) (d : Array El) (W : World) (hS : SoW pt w0 blk d W) (hsz : d.size ≤ 4000000) (hab : a + 1 < b) (hb : b ≤ d.size) (hs2 : SoIn (a + 1) b d) (ht : TagLt a (a + 1) b d) :
  Calls Tryz.prog 185 #[.slice (some ⟨blk, 0, none⟩) d.size cap, .int .i64 a, .int .i64 ((a + 1 : Nat) : Int), .int .i64 b, .func (.func 95) #[] #[]] W fun e w' => e = .returned (.tuple #[]) ∧
   ∃ d', SoW pt w0 blk d' w' ∧ d'.size = d.size ∧ PermIn a b d d' ∧ SoIn a b d' := by
 have HS := Lib.hid hS
 have mixed := mixedO
 have HCM := Lib.hid cmp_grow
 have HS2 := Lib.hid hs2
 have HT := Lib.hid ht
 obtain ⟨m, em⟩ : ∃ m, a + 1 = m := ⟨_, rfl⟩
 rw [em]
 have hm1 : a + 1 ≤ m := by omega
 have hm2 : m ≤ a + 1 := by omega
 have hz : (m : Int) - (a : Int) = 1 := by omega
 clear hS hs2 ht em
 go_enter Tryz.func185, Tryz.ntmps185
 go_wp2_with fail
 clear hz
 go_loopg [10, 11] (b - m) (fun kx vi vj wr => ∃ (i j : Nat), vi = .int .i64 i ∧ vj = .int .i64 j ∧ a + 1 ≤ i ∧ i ≤ j ∧ j ≤ b ∧ j - i ≤ kx ∧ Hid (SoW pt w0 blk d wr) ∧ Hid ((∀ q, a + 1 ≤ q → q < i → d[q]!.1 < d[a]!.1) ∧ (∀ q, j ≤ q → q < b → d[a]!.1 ≤ d[q]!.1)))
 case atStart => exact ⟨m, b, rfl, rfl, hm1, by omega, Nat.le_refl _, Nat.le_refl _, HS, Lib.hid ⟨fun q q1 q2 => by omega, fun q q1 q2 => by omega⟩⟩
 case round =>
  obtain ⟨i, j, rfl, rfl, hai, hij, hjb, hk, HW, HI⟩ := hrel
  by_cases hlt : i < j
  ·obtain ⟨h, eh⟩ : ∃ h, (i + j) / 2 = h := ⟨_, rfl⟩
   have h1 : i ≤ h := by omega
   have h2 : h < j := by omega
   have zh : (((i : Int) + (j : Int)) / 2).toNat = h := by omega
   have ph : (0 : Int) ≤ ((i : Int) + (j : Int)) / 2 := by omega
   have bh : ((i : Int) + (j : Int)) / 2 < (d.size : Int) := by omega
   have ba : (a : Int) < (d.size : Int) := by omega
   have EH : Hid (((i : Int) + (j : Int)) / 2 = (h : Int)) := by show _ = _; omega
   have HA := Lib.hid (ins1_all d a b i HS2.out h (by omega) (by omega))
   have g1 := HW.out.kG h (by omega)
   have g2 := HW.out.pG h (by omega)
   have g3 := HW.out.kG a (by omega)
   have g4 := HW.out.pG a (by omega)
   obtain ⟨x, ex⟩ : ∃ x, d[h]! = x := ⟨_, rfl⟩
   obtain ⟨y, ey⟩ : ∃ x, d[a]! = x := ⟨_, rfl⟩
   rw [ex] at g1 g2 HA
   rw [ey] at g3 g4 HA HI
   have EY := Lib.hid ey
   clear ex ey eh
   by_cases hlv : cmpI x.1 y.1 < 0
   ·have hd : decide (cmpI x.1 y.1 < 0) = true := decide_eq_true hlv
    go_wp2_with fail
    go_quiet_grown (first | (go_at_call 95; refine Calls.grown_of (HCM.out _ _ _ _ _)))
    clear g1 g2 g3 g4
    go_wp2_with fail
    go_roundg (j - (h + 1))
    case measure => omega
    case rel =>
     exact ⟨h + 1, j, by rw [EH.out]; go_num, rfl, by omega, by omega, hjb, Nat.le_refl _, Lib.hid (HW.out.grown nq osq), Lib.hid ⟨by rw [EY.out]; exact HA.out.1 ((cmpI_neg _ _).1 hlv), by rw [EY.out]; exact HI.out.2⟩⟩
   ·have hd : decide (cmpI x.1 y.1 < 0) = false := decide_eq_false hlv
    go_wp2_with fail
    go_quiet_grown (first | (go_at_call 95; refine Calls.grown_of (HCM.out _ _ _ _ _)))
    clear g1 g2 g3 g4
    go_wp2_with fail
    go_roundg (h - i)
    case measure => omega
    case rel =>
     have hq : ¬ x.1 < y.1 := fun h' => by have := (cmpI_neg x.1 y.1).2 h'; omega
     exact ⟨i, h, rfl, by rw [EH.out], hai, by omega, by omega, Nat.le_refl _, Lib.hid (HW.out.grown nq osq), Lib.hid ⟨by rw [EY.out]; exact HI.out.1, by rw [EY.out]; exact HA.out.2 (by omega)⟩⟩
  ·obtain rfl : j = i := by omega
   go_wp2_with fail
   go_loopg [13] (j - a) (fun kx vk wr2 => ∃ (k : Nat) (dk : Array El), vk = .int .i64 k ∧ a ≤ k ∧ k + 1 ≤ j ∧ j - k ≤ kx + 1 ∧ dk.size = d.size ∧ Hid (SoW pt w0 blk dk wr2) ∧ Hid (PermIn a b d dk) ∧ Hid (MvUp d a k dk))
   case atStart => exact ⟨a, d, rfl, Nat.le_refl _, by omega, by omega, rfl, HW, Lib.hid (permIn_refl _ _ _), Lib.hid (fun p => by rw [if_neg (show ¬ (a ≤ p ∧ p < a) by omega)]; split <;> (try rfl); rename_i e; rw [e])⟩
   case round =>
    obtain ⟨k, dk, rfl, hak, hkj, hk2, hsk, HW2, HP, HM⟩ := hrel
    by_cases hlt2 : k + 1 < j
    ·have z1 : (k : Int) < (j : Int) - 1 := by omega
     have e0 : ((k : Int) + 1).toNat = k + 1 := by omega
     have p0 : (0 : Int) ≤ (k : Int) + 1 := by omega
     have jz : (k : Int) + 1 < (d.size : Int) := by omega
     have jz1 : (k : Int) < (d.size : Int) := by omega
     have hwp : IntKind.i64.wrap ((k : Int) + 1) = (k : Int) + 1 := by rw [IntKind.wrap_i64]; omega
     have hsw := Lib.hid (HW2.out.drew.swap k (k + 1) (by omega) (by omega) (by omega))
     have c1 := HW2.out.h.k (k + 1) (by omega)
     have c2 := HW2.out.h.p (k + 1) (by omega)
     have c3 := HW2.out.h.k k (by omega)
     have c4 := HW2.out.h.p k (by omega)
     have f1 := HW2.out.h.f ((k + 1) * 2) (by omega)
     have f2 := HW2.out.h.f ((k + 1) * 2 + 1) (by omega)
     have f3 := HW2.out.h.f (k * 2) (by omega)
     have f4 := HW2.out.h.f (k * 2 + 1) (by omega)
     obtain ⟨x, ex⟩ : ∃ x, dk[k + 1]! = x := ⟨_, rfl⟩
     obtain ⟨y, ey⟩ : ∃ x, dk[k]! = x := ⟨_, rfl⟩
     rw [ex] at c1 c2 hsw
     rw [ey] at c3 c4 hsw
     clear ex ey
     go_wp2_with fail
     go_big_region
     go_wp2_with fail
     go_roundg (j - (k + 1) - 1)
     case measure => omega
     case rel => exact ⟨k + 1, swp dk k (k + 1), by go_num, by omega, by omega, by omega, by rw [swp_size]; exact hsk, hsw, Lib.hid (permIn_trans _ _ _ _ _ HP.out (swp_permIn _ _ _ _ _ (by omega) (by omega) (by omega) (by omega) (by omega))), Lib.hid (mvUp_step HM.out hak (by omega))⟩
    ·have z1 : ¬ (k : Int) < (j : Int) - 1 := by omega
     go_wp2_with fail
     refine bodyPost_ret (results_none rfl _ _ _) rfl ?_
     refine ⟨rfl, dk, HW2.out, hsk, HP.out, ?_⟩
     refine so_ins1 d dk a b j HS2.out HT.out hai hjb HI.out.1 HI.out.2 (fun p => ?_)
     rw [HM.out p]
     have ekj : k + 1 = j := by omega
     by_cases p1 : a ≤ p ∧ p < k
     ·rw [if_pos p1, if_pos (show a ≤ p ∧ p + 1 < j by omega)]
     ·rw [if_neg p1, if_neg (show ¬ (a ≤ p ∧ p + 1 < j) by omega)]
      by_cases p2 : p = k
      ·rw [if_pos p2, if_pos (show p + 1 = j by omega)]
      ·rw [if_neg p2, if_neg (show ¬ p + 1 = j by omega)]
end Go.Proofs.YtomahddiclkepaaGreatDoor
namespace Go.Proofs.YtomahddiclkepaaGreatDoor
open Go.RowKit Go.Sort
set_option linter.unusedVariables false
set_option linter.unusedSimpArgs false
set_option maxRecDepth 100000 in
set_option maxHeartbeats 4000000 in
theorem symM2 (pt : Nat → Nat) (w0 : World) (blk cap a m : Nat) (d : Array El) (W : World) (hS : SoW pt w0 blk d W) (hsz : d.size ≤ 4000000) (ham : a + 1 < m) (hb : m + 1 ≤ d.size) (hs1 : SoIn a m d) (ht : TagLt a m (m + 1) d) :
  Calls Tryz.prog 185 #[.slice (some ⟨blk, 0, none⟩) d.size cap, .int .i64 a, .int .i64 m, .int .i64 ((m + 1 : Nat) : Int), .func (.func 95) #[] #[]] W fun e w' => e = .returned (.tuple #[]) ∧
   ∃ d', SoW pt w0 blk d' w' ∧ d'.size = d.size ∧ PermIn a (m + 1) d d' ∧ SoIn a (m + 1) d' := by
 have HS := Lib.hid hS
 have mixed := mixedO
 have HCM := Lib.hid cmp_grow
 have HS1 := Lib.hid hs1
 have HT := Lib.hid ht
 obtain ⟨b, eb⟩ : ∃ b, m + 1 = b := ⟨_, rfl⟩
 have EB := Lib.hid eb
 rw [eb]
 have hm1 : m + 1 ≤ b := by omega
 have hm2 : b ≤ m + 1 := by omega
 have hz : ((m : Int) - (a : Int) == 1) = false := by simp; omega
 have hz3 : (b : Int) - (m : Int) = 1 := by omega
 have hz4 : ¬ (m : Int) - (a : Int) = 1 := by omega
 clear hS hs1 ht eb
 go_enter Tryz.func185, Tryz.ntmps185
 go_wp2_with fail
 clear hz hz3 hz4
 go_loopg [14, 15] (m - a) (fun kx vi vj wr => ∃ (i j : Nat), vi = .int .i64 i ∧ vj = .int .i64 j ∧ a ≤ i ∧ i ≤ j ∧ j ≤ m ∧ j - i ≤ kx ∧ Hid (SoW pt w0 blk d wr) ∧ Hid ((∀ q, a ≤ q → q < i → d[q]!.1 ≤ d[m]!.1) ∧ (∀ q, j ≤ q → q < m → d[m]!.1 < d[q]!.1)))
 case atStart => exact ⟨a, m, rfl, rfl, Nat.le_refl _, by omega, Nat.le_refl _, Nat.le_refl _, HS, Lib.hid ⟨fun q q1 q2 => by omega, fun q q1 q2 => by omega⟩⟩
 case round =>
  obtain ⟨i, j, rfl, rfl, hai, hij, hjm, hk, HW, HI⟩ := hrel
  by_cases hlt : i < j
  ·obtain ⟨h, eh⟩ : ∃ h, (i + j) / 2 = h := ⟨_, rfl⟩
   have h1 : i ≤ h := by omega
   have h2 : h < j := by omega
   have zh : (((i : Int) + (j : Int)) / 2).toNat = h := by omega
   have ph : (0 : Int) ≤ ((i : Int) + (j : Int)) / 2 := by omega
   have bh : ((i : Int) + (j : Int)) / 2 < (d.size : Int) := by omega
   have ba : (m : Int) < (d.size : Int) := by omega
   have EH : Hid (((i : Int) + (j : Int)) / 2 = (h : Int)) := by show _ = _; omega
   have HA := Lib.hid (ins2_all d a m HS1.out h (by omega) (by omega))
   have g1 := HW.out.kG h (by omega)
   have g2 := HW.out.pG h (by omega)
   have g3 := HW.out.kG m (by omega)
   have g4 := HW.out.pG m (by omega)
   obtain ⟨x, ex⟩ : ∃ x, d[h]! = x := ⟨_, rfl⟩
   obtain ⟨y, ey⟩ : ∃ x, d[m]! = x := ⟨_, rfl⟩
   rw [ex] at g1 g2 HA
   rw [ey] at g3 g4 HA HI
   have EY := Lib.hid ey
   clear ex ey eh
   by_cases hlv : cmpI y.1 x.1 < 0
   ·have hd : decide (cmpI y.1 x.1 < 0) = true := decide_eq_true hlv
    go_wp2_with fail
    go_quiet_grown (first | (go_at_call 95; refine Calls.grown_of (HCM.out _ _ _ _ _)))
    clear g1 g2 g3 g4
    go_wp2_with fail
    go_roundg (h - i)
    case measure => omega
    case rel =>
     have hq : y.1 < x.1 := (cmpI_neg y.1 x.1).1 hlv
     exact ⟨i, h, rfl, by rw [EH.out], hai, by omega, by omega, Nat.le_refl _, Lib.hid (HW.out.grown nq osq), Lib.hid ⟨by rw [EY.out]; exact HI.out.1, by rw [EY.out]; exact HA.out.2 hq⟩⟩
   ·have hd : decide (cmpI y.1 x.1 < 0) = false := decide_eq_false hlv
    go_wp2_with fail
    go_quiet_grown (first | (go_at_call 95; refine Calls.grown_of (HCM.out _ _ _ _ _)))
    clear g1 g2 g3 g4
    go_wp2_with fail
    go_roundg (j - (h + 1))
    case measure => omega
    case rel =>
     have hq : ¬ y.1 < x.1 := fun h' => by have := (cmpI_neg y.1 x.1).2 h'; omega
     exact ⟨h + 1, j, by rw [EH.out]; go_num, rfl, by omega, by omega, hjm, Nat.le_refl _, Lib.hid (HW.out.grown nq osq), Lib.hid ⟨by rw [EY.out]; exact HA.out.1 (by omega), by rw [EY.out]; exact HI.out.2⟩⟩
  ·obtain rfl : j = i := by omega
   go_wp2_with fail
   go_loopg [17] (m - j) (fun kx vk wr2 => ∃ (k : Nat) (dk : Array El), vk = .int .i64 k ∧ j ≤ k ∧ k ≤ m ∧ k - j ≤ kx ∧ dk.size = d.size ∧ Hid (SoW pt w0 blk dk wr2) ∧ Hid (PermIn a b d dk) ∧ Hid (MvDn d m k dk))
   case atStart => exact ⟨m, d, rfl, by omega, Nat.le_refl _, Nat.le_refl _, rfl, HW, Lib.hid (permIn_refl _ _ _), Lib.hid (fun p => by split; (rename_i e; rw [e]); rw [if_neg (show ¬ (m < p ∧ p ≤ m) by omega)])⟩
   case round =>
    obtain ⟨k, dk, rfl, hjk, hkm, hk2, hsk, HW2, HP, HM⟩ := hrel
    by_cases hlt2 : j < k
    ·obtain ⟨q, rfl⟩ : ∃ q, k = q + 1 := ⟨k - 1, by omega⟩
     have z1 : (j : Int) < (q : Int) + 1 := by omega
     have e0 : ((q : Int) + 1).toNat = q + 1 := by omega
     have p0 : (0 : Int) ≤ (q : Int) + 1 := by omega
     have jz : (q : Int) + 1 < (d.size : Int) := by omega
     have jz1 : (q : Int) < (d.size : Int) := by omega
     have hwp : IntKind.i64.wrap (q : Int) = (q : Int) := by rw [IntKind.wrap_i64]; omega
     have hsw := Lib.hid (HW2.out.drew.swap (q + 1) q (by omega) (by omega) (by omega))
     have c1 := HW2.out.h.k (q + 1) (by omega)
     have c2 := HW2.out.h.p (q + 1) (by omega)
     have c3 := HW2.out.h.k q (by omega)
     have c4 := HW2.out.h.p q (by omega)
     have f1 := HW2.out.h.f ((q + 1) * 2) (by omega)
     have f2 := HW2.out.h.f ((q + 1) * 2 + 1) (by omega)
     have f3 := HW2.out.h.f (q * 2) (by omega)
     have f4 := HW2.out.h.f (q * 2 + 1) (by omega)
     obtain ⟨x, ex⟩ : ∃ x, dk[q + 1]! = x := ⟨_, rfl⟩
     obtain ⟨y, ey⟩ : ∃ x, dk[q]! = x := ⟨_, rfl⟩
     rw [ex] at c1 c2 hsw
     rw [ey] at c3 c4 hsw
     clear ex ey
     go_wp2_with fail
     go_big_region
     go_wp2_with fail
     go_roundg (q - j)
     case measure => omega
     case rel => exact ⟨q, swp dk (q + 1) q, by first | rfl | go_num, by omega, by omega, Nat.le_refl _, by rw [swp_size]; exact hsk, hsw, Lib.hid (permIn_trans _ _ _ _ _ HP.out (swp_permIn _ _ _ _ _ (by omega) (by omega) (by omega) (by omega) (by omega))), Lib.hid (mvDn_step HM.out hkm (by omega))⟩
    ·have z1 : ¬ (j : Int) < (k : Int) := by omega
     go_wp2_with fail
     refine bodyPost_ret (results_none rfl _ _ _) rfl ?_
     refine ⟨rfl, dk, HW2.out, hsk, HP.out, ?_⟩
     have ekj : k = j := by omega
     rw [← EB.out]
     refine so_ins2 d dk a m j HS1.out HT.out hai hjm HI.out.1 HI.out.2 (fun p => ?_)
     rw [HM.out p, ekj]
end Go.Proofs.YtomahddiclkepaaGreatDoor
namespace Go.Proofs.YtomahddiclkepaaGreatDoor
open Go.RowKit Go.Sort
set_option linter.unusedVariables false
set_option linter.unusedSimpArgs false
structure SymF (a m b mid n lo r0 P : Nat) : Prop where
 m1 : 2 * mid ≤ a + b
 m2 : a + b ≤ 2 * mid + 1
 n1 : n = mid + m
 p1 : P + 1 = n
 c : (mid < m ∧ lo + b = n ∧ r0 = mid) ∨ (m ≤ mid ∧ lo = a ∧ r0 = m)
theorem symF_mk (a m b : Nat) (h1 : a < m) (h2 : m < b) : ∃ mid n lo r0 P, SymF a m b mid n lo r0 P := by
 by_cases h : (a + b) / 2 < m
 ·exact ⟨(a + b) / 2, (a + b) / 2 + m, (a + b) / 2 + m - b, (a + b) / 2, (a + b) / 2 + m - 1, by omega, by omega, rfl, by omega, Or.inl ⟨h, by omega, rfl⟩⟩
 ·exact ⟨(a + b) / 2, (a + b) / 2 + m, a, m, (a + b) / 2 + m - 1, by omega, by omega, rfl, by omega, Or.inr ⟨by omega, rfl, rfl⟩⟩
theorem sym_mono {a m b mid n lo r0 P : Nat} (hf : SymF a m b mid n lo r0 P) (h1 : a < m) (h2 : m < b) {d : Array El} (hs1 : SoIn a m d) (hs2 : SoIn m b d) (c : Nat) (c1 : lo ≤ c) (c2 : c < r0) :
  (¬ d[P - c]!.1 < d[c]!.1 → ∀ q, lo ≤ q → q < c + 1 → ¬ d[P - q]!.1 < d[q]!.1) ∧ (d[P - c]!.1 < d[c]!.1 → ∀ q, c ≤ q → q < r0 → d[P - q]!.1 < d[q]!.1) := by
 obtain ⟨g1, g2, g3, g4, g5⟩ := hf
 refine ⟨fun h q q1 q2 => ?_, fun h q q1 q2 => ?_⟩
 ·have e1 := so_le hs1 (i := q) (j := c) (by omega) (by omega) (by omega)
  have e2 := so_le hs2 (i := P - c) (j := P - q) (by omega) (by omega) (by omega)
  unfold elLe at e1 e2; omega
 ·have e1 := so_le hs1 (i := c) (j := q) (by omega) (by omega) (by omega)
  have e2 := so_le hs2 (i := P - q) (j := P - c) (by omega) (by omega) (by omega)
  unfold elLe at e1 e2; omega
theorem sym_split {a m b mid n lo r0 P s : Nat} (hf : SymF a m b mid n lo r0 P) (h1 : a < m) (h2 : m < b) {d : Array El} (s1 : lo ≤ s) (s2 : s ≤ r0) (hlo : ∀ q, lo ≤ q → q < s → ¬ d[P - q]!.1 < d[q]!.1) (hhi : ∀ q, s ≤ q → q < r0 → d[P - q]!.1 < d[q]!.1) : mid = (a + b) / 2 ∧ Split a m b s d := by
 obtain ⟨g1, g2, g3, g4, g5⟩ := hf
 have em : mid = (a + b) / 2 := by omega
 refine ⟨em, h1, h2, by omega, by omega, by omega, by omega, fun k1 k2 => ?_, fun k1 k2 => ?_⟩
 ·have := hlo (s - 1) (by omega) (by omega)
  rw [show P - (s - 1) = (a + b) / 2 + m - s from by omega] at this
  omega
 ·have := hhi s (Nat.le_refl _) (by omega)
  rwa [show P - s = (a + b) / 2 + m - 1 - s from by omega] at this
def afterReg (n : Nat) : Code → Option Code
 | .seq a b => match a with
  | .region k _ _ => if k = n then some b else afterReg n b
  | _ => match afterReg n a with
   | some c => some c
   | none => afterReg n b
 | .block _ c => afterReg n c
 | .loop c => afterReg n c
 | .scope c => afterReg n c
 | .cond _ a b => match afterReg n a with
  | some c => some c
  | none => afterReg n b
 | _ => none
def headIf : Code → Nat
 | .seq (.region k _ _) (.cond _ _ _) => k
 | _ => 0
def afterIf (n : Nat) : Code → Option Code
 | .seq a b => if headIf a = n then some b else match afterIf n a with
   | some c => some c
   | none => afterIf n b
 | .block _ c => afterIf n c
 | .loop c => afterIf n c
 | .scope c => afterIf n c
 | .cond _ a b => match afterIf n a with
  | some c => some c
  | none => afterIf n b
 | _ => none
noncomputable def symE1 : Code := (Tryz.f185.body.bind (afterReg 38)).getD .skip
noncomputable def symE2 : Code := (Tryz.f185.body.bind (afterIf 39)).getD .skip
noncomputable def symE3 : Code := (Tryz.f185.body.bind (afterIf 41)).getD .skip
def SymIH (pt : Nat → Nat) (w0 : World) (blk cap a b n : Nat) : Prop := ∀ (a' m' b' : Nat) (d' : Array El) (W' : World), b' - a' < b - a → SoW pt w0 blk d' W' → d'.size = n → a' < m' → m' < b' → b' ≤ n → SoIn a' m' d' → SoIn m' b' d' → TagLt a' m' b' d' →
   Calls Tryz.prog 185 #[.slice (some ⟨blk, 0, none⟩) n cap, .int .i64 a', .int .i64 m', .int .i64 b', .func (.func 95) #[] #[]] W' fun e w' => e = .returned (.tuple #[]) ∧ ∃ d'', SoW pt w0 blk d'' w' ∧ d''.size = n ∧ PermIn a' b' d' d'' ∧ SoIn a' b' d''
set_option maxRecDepth 1000000 in
set_option maxHeartbeats 8000000 in
theorem symT3 (pt : Nat → Nat) (w0 : World) (blk cap a m b mid r E : Nat) (d d1 d2 : Array El) (wr : World) (hsz : d.size ≤ 4000000) (ham : a + 1 < m) (hmb : m + 1 < b) (hb : b ≤ d.size) (k1 : a ≤ r) (k2 : r ≤ m) (k3 : r ≤ mid) (E1 : E + r ≤ mid + m) (E1p : mid + m ≤ E + r) (E2 : E ≤ b) (E3 : mid ≤ E) (M1 : a < mid) (M2 : mid < b) (hih : SymIH pt w0 blk cap a b d.size) (h1 : d1.size = d.size ∧ PermIn a b d d1) (hv : Halves a mid b r E d1) (h2 : SoW pt w0 blk d2 wr ∧ d2.size = d.size ∧ PermIn a mid d1 d2 ∧ SoIn a mid d2)
  (u5 u6 u7 u8 u9 u10 u11 u12 u13 u14 u15 u16 u17 u19 u21 u22 u23 u25 u26 u27 u28 u29 u30 u31 u32 u33 u34 u35 u36 u37 u38 u39 u40 u41 u42 u43 u44 u45 u46 u47 u48 u49 u50 u51 u52 u53 u54 u55 u56 u57 u58 u59 u60 u61 u62 u63 u64 u65 u66 u67 u68 u69 u70 u71 u72 u73 u74 u75 u76 u77 u78 u79 u80 u81 u82 u83 u84 u85 u86 u87 u88 u89 u90 u91 u92 u93 u94 u95 u96 u97 u98 u99 u100 u101 u102 u103 u104 u105 u106 u107 u108 u109 u110 u111 u112 u113 u114 u115 u116 u117 u118 u119 u120 u121 u122 u123 u124 u125 u126 u127 u128 u129 u130 u131 u132 u133 u134 u135 u136 u137 u138 u139 u140 u141 u142 u143 u144 u145 u146 u147 u148 u149 u150 u151 u152 u153 u154 u155 u156 u157 u158 u159 u160 u161 u162 u163 u164 u165 u166 u167 u168 u169 u170 u171 u172 u173 u174 u175 u176 u177 u178 u179 u180 u181 u182 u183 u184 u185 u186 u187 u188 u189 u190 u191 u192 u193 u194 u195 u196 u197 u198 u199 u200 u201 u202 u203 u204 u205 u206 u207 u208 u209 u210 u211 u212 u213 u214 u215 u216 u217 u218 u219 : Value) :
  Code.wp Tryz.prog symE3 (bodyPost Tryz.prog Tryz.f185 fun e w' => e = .returned (.tuple #[]) ∧ ∃ d', SoW pt w0 blk d' w' ∧ d'.size = d.size ∧ PermIn a b d d' ∧ SoIn a b d') ⟨List.toArray ((.slice (some ⟨blk, 0, none⟩) d.size cap) :: (.int .i64 a) :: (.int .i64 m) :: (.int .i64 b) :: (.func (.func 95) #[] #[]) :: u5 :: u6 :: u7 :: u8 :: u9 :: u10 :: u11 :: u12 :: u13 :: u14 :: u15 :: u16 :: u17 :: (.int .i64 mid) :: u19 :: (.int .i64 r) :: u21 :: u22 :: u23 :: (.int .i64 E) :: u25 :: u26 :: u27 :: u28 :: u29 :: u30 :: u31 :: u32 :: u33 :: u34 :: u35 :: u36 :: u37 :: u38 :: u39 :: u40 :: u41 :: u42 :: u43 :: u44 :: u45 :: u46 :: u47 :: u48 :: u49 :: u50 :: u51 :: u52 :: u53 :: u54 :: u55 :: u56 :: u57 :: u58 :: u59 :: u60 :: u61 :: u62 :: u63 :: u64 :: u65 :: u66 :: u67 :: u68 :: u69 :: u70 :: u71 :: u72 :: u73 :: u74 :: u75 :: u76 :: u77 :: u78 :: u79 :: u80 :: u81 :: u82 :: u83 :: u84 :: u85 :: u86 :: u87 :: u88 :: u89 :: u90 :: u91 :: u92 :: u93 :: u94 :: u95 :: u96 :: u97 :: u98 :: u99 :: u100 :: u101 :: u102 :: u103 :: u104 :: u105 :: u106 :: u107 :: u108 :: u109 :: u110 :: u111 :: u112 :: u113 :: u114 :: u115 :: u116 :: u117 :: u118 :: u119 :: u120 :: u121 :: u122 :: u123 :: u124 :: u125 :: u126 :: u127 :: u128 :: u129 :: u130 :: u131 :: u132 :: u133 :: u134 :: u135 :: u136 :: u137 :: u138 :: u139 :: u140 :: u141 :: u142 :: u143 :: u144 :: u145 :: u146 :: u147 :: u148 :: u149 :: u150 :: u151 :: u152 :: u153 :: u154 :: u155 :: u156 :: u157 :: u158 :: u159 :: u160 :: u161 :: u162 :: u163 :: u164 :: u165 :: u166 :: u167 :: u168 :: u169 :: u170 :: u171 :: u172 :: u173 :: u174 :: u175 :: u176 :: u177 :: u178 :: u179 :: u180 :: u181 :: u182 :: u183 :: u184 :: u185 :: u186 :: u187 :: u188 :: u189 :: u190 :: u191 :: u192 :: u193 :: u194 :: u195 :: u196 :: u197 :: u198 :: u199 :: u200 :: u201 :: u202 :: u203 :: u204 :: u205 :: u206 :: u207 :: u208 :: u209 :: u210 :: u211 :: u212 :: u213 :: u214 :: u215 :: u216 :: u217 :: u218 :: u219 :: []), []⟩ wr := by
 have IH := Lib.hid hih
 have fin : Hid (∀ d3 w', SoW pt w0 blk d3 w' → PermIn mid b d2 d3 → SoIn mid b d3 → ∃ d', SoW pt w0 blk d' w' ∧ d'.size = d.size ∧ PermIn a b d d' ∧ SoIn a b d') := by
  show ∀ d3 w', _
  intro d3 w' g1 g2 g3
  have hj := so_join (d := d1) (by omega) (by omega) (by rw [h1.1]; exact hb) hv.x h2.2.2.1 h2.2.2.2 g2 g3
  exact ⟨d3, g1, g2.1.trans h2.2.1, permIn_trans _ _ _ _ _ h1.2 hj.2, hj.1⟩
 have hmr : SoIn mid E d2 ∧ SoIn E b d2 ∧ TagLt mid E b d2 :=
  ⟨perm_so h2.2.2.1 (by omega) hv.r1, perm_so h2.2.2.1 (by omega) hv.r2, perm_tag h2.2.2.1 (by rw [h1.1]; omega) (by omega) hv.rt⟩
 have HMR := Lib.hid hmr
 have H2 := Lib.hid h2
 clear hmr h1 hv h2 hih
 conv => arg 2; whnf
 go_upto_region 43 with fail
 go_cut [213] (fun sx wx => sx = .bool (decide (mid < E ∧ E < b)) ∧ wx = wr)
 case first =>
  by_cases d1 : mid < E
  ·have z1 : (mid : Int) < (E : Int) := by omega
   by_cases d2 : E < b
   ·have z2 : (E : Int) < (b : Int) := by omega
    go_wp2_with fail
    go_meet
    exact ⟨by simp [d1, d2], rfl⟩
   ·have z2 : ¬ (E : Int) < (b : Int) := by omega
    go_wp2_with fail
    go_meet
    exact ⟨by simp [d1, d2], rfl⟩
  ·have z1 : ¬ (mid : Int) < (E : Int) := by omega
   go_wp2_with fail
   go_meet
   exact ⟨by simp [d1], rfl⟩
 case rest =>
 obtain ⟨rfl, rfl⟩ := hcut
 by_cases dd : mid < E ∧ E < b
 ·have hr := IH.out mid E b d2 wc (by omega) H2.out.1 H2.out.2.1 dd.1 dd.2 (by omega) HMR.out.1 HMR.out.2.1 HMR.out.2.2
  have HR := Lib.hid hr
  clear hr
  have zd : decide (mid < E ∧ E < b) = true := decide_eq_true dd
  rw [zd]
  clear zd
  go_wp2_with (first | (go_at_call 185; refine HR.out.mono ?_; rintro e w' ⟨rfl, d3, hS1, hz1, hp1, hr1⟩; have HQ := Lib.hid (And.intro hS1 (And.intro hz1 (And.intro hp1 hr1))); clear hS1 hz1 hp1 hr1))
  go_end0
  exact ⟨rfl, fin.out d3 w' HQ.out.1 HQ.out.2.2.1 HQ.out.2.2.2⟩
 ·have zd : decide (mid < E ∧ E < b) = false := decide_eq_false dd
  rw [zd]
  clear zd
  go_wp2_with fail
  go_end0
  refine ⟨rfl, fin.out d2 wc H2.out.1 (permIn_refl _ _ _) ?_⟩
  by_cases e1 : mid = E
  ·have := HMR.out.2.1; rwa [← e1] at this
  ·have := HMR.out.1; rwa [show E = b from by omega] at this
set_option maxRecDepth 1000000 in
set_option maxHeartbeats 8000000 in
theorem symT2 (pt : Nat → Nat) (w0 : World) (blk cap a m b mid r E : Nat) (d d1 : Array El) (wr : World) (hsz : d.size ≤ 4000000) (ham : a + 1 < m) (hmb : m + 1 < b) (hb : b ≤ d.size) (k1 : a ≤ r) (k2 : r ≤ m) (k3 : r ≤ mid) (E1 : E + r ≤ mid + m) (E1p : mid + m ≤ E + r) (E2 : E ≤ b) (E3 : mid ≤ E) (M1 : a < mid) (M2 : mid < b) (hih : SymIH pt w0 blk cap a b d.size) (h1 : SoW pt w0 blk d1 wr ∧ d1.size = d.size ∧ PermIn a b d d1) (hv : Halves a mid b r E d1)
  (u5 u6 u7 u8 u9 u10 u11 u12 u13 u14 u15 u16 u17 u19 u21 u22 u23 u25 u26 u27 u28 u29 u30 u31 u32 u33 u34 u35 u36 u37 u38 u39 u40 u41 u42 u43 u44 u45 u46 u47 u48 u49 u50 u51 u52 u53 u54 u55 u56 u57 u58 u59 u60 u61 u62 u63 u64 u65 u66 u67 u68 u69 u70 u71 u72 u73 u74 u75 u76 u77 u78 u79 u80 u81 u82 u83 u84 u85 u86 u87 u88 u89 u90 u91 u92 u93 u94 u95 u96 u97 u98 u99 u100 u101 u102 u103 u104 u105 u106 u107 u108 u109 u110 u111 u112 u113 u114 u115 u116 u117 u118 u119 u120 u121 u122 u123 u124 u125 u126 u127 u128 u129 u130 u131 u132 u133 u134 u135 u136 u137 u138 u139 u140 u141 u142 u143 u144 u145 u146 u147 u148 u149 u150 u151 u152 u153 u154 u155 u156 u157 u158 u159 u160 u161 u162 u163 u164 u165 u166 u167 u168 u169 u170 u171 u172 u173 u174 u175 u176 u177 u178 u179 u180 u181 u182 u183 u184 u185 u186 u187 u188 u189 u190 u191 u192 u193 u194 u195 u196 u197 u198 u199 u200 u201 u202 u203 u204 u205 u206 u207 u208 u209 u210 u211 u212 u213 u214 u215 u216 u217 u218 u219 : Value) :
  Code.wp Tryz.prog symE2 (bodyPost Tryz.prog Tryz.f185 fun e w' => e = .returned (.tuple #[]) ∧ ∃ d', SoW pt w0 blk d' w' ∧ d'.size = d.size ∧ PermIn a b d d' ∧ SoIn a b d') ⟨List.toArray ((.slice (some ⟨blk, 0, none⟩) d.size cap) :: (.int .i64 a) :: (.int .i64 m) :: (.int .i64 b) :: (.func (.func 95) #[] #[]) :: u5 :: u6 :: u7 :: u8 :: u9 :: u10 :: u11 :: u12 :: u13 :: u14 :: u15 :: u16 :: u17 :: (.int .i64 mid) :: u19 :: (.int .i64 r) :: u21 :: u22 :: u23 :: (.int .i64 E) :: u25 :: u26 :: u27 :: u28 :: u29 :: u30 :: u31 :: u32 :: u33 :: u34 :: u35 :: u36 :: u37 :: u38 :: u39 :: u40 :: u41 :: u42 :: u43 :: u44 :: u45 :: u46 :: u47 :: u48 :: u49 :: u50 :: u51 :: u52 :: u53 :: u54 :: u55 :: u56 :: u57 :: u58 :: u59 :: u60 :: u61 :: u62 :: u63 :: u64 :: u65 :: u66 :: u67 :: u68 :: u69 :: u70 :: u71 :: u72 :: u73 :: u74 :: u75 :: u76 :: u77 :: u78 :: u79 :: u80 :: u81 :: u82 :: u83 :: u84 :: u85 :: u86 :: u87 :: u88 :: u89 :: u90 :: u91 :: u92 :: u93 :: u94 :: u95 :: u96 :: u97 :: u98 :: u99 :: u100 :: u101 :: u102 :: u103 :: u104 :: u105 :: u106 :: u107 :: u108 :: u109 :: u110 :: u111 :: u112 :: u113 :: u114 :: u115 :: u116 :: u117 :: u118 :: u119 :: u120 :: u121 :: u122 :: u123 :: u124 :: u125 :: u126 :: u127 :: u128 :: u129 :: u130 :: u131 :: u132 :: u133 :: u134 :: u135 :: u136 :: u137 :: u138 :: u139 :: u140 :: u141 :: u142 :: u143 :: u144 :: u145 :: u146 :: u147 :: u148 :: u149 :: u150 :: u151 :: u152 :: u153 :: u154 :: u155 :: u156 :: u157 :: u158 :: u159 :: u160 :: u161 :: u162 :: u163 :: u164 :: u165 :: u166 :: u167 :: u168 :: u169 :: u170 :: u171 :: u172 :: u173 :: u174 :: u175 :: u176 :: u177 :: u178 :: u179 :: u180 :: u181 :: u182 :: u183 :: u184 :: u185 :: u186 :: u187 :: u188 :: u189 :: u190 :: u191 :: u192 :: u193 :: u194 :: u195 :: u196 :: u197 :: u198 :: u199 :: u200 :: u201 :: u202 :: u203 :: u204 :: u205 :: u206 :: u207 :: u208 :: u209 :: u210 :: u211 :: u212 :: u213 :: u214 :: u215 :: u216 :: u217 :: u218 :: u219 :: []), []⟩ wr := by
 have IH := Lib.hid hih
 have H1 := Lib.hid h1
 have HV := Lib.hid hv
 clear h1 hv hih
 conv => arg 2; whnf
 go_upto_region 41 with fail
 go_cut [199] (fun sx wx => sx = .bool (decide (a < r ∧ r < mid)) ∧ wx = wr)
 case first =>
  by_cases d1 : a < r
  ·have z1 : (a : Int) < (r : Int) := by omega
   by_cases d2 : r < mid
   ·have z2 : (r : Int) < (mid : Int) := by omega
    go_wp2_with fail
    go_meet
    exact ⟨by simp [d1, d2], rfl⟩
   ·have z2 : ¬ (r : Int) < (mid : Int) := by omega
    go_wp2_with fail
    go_meet
    exact ⟨by simp [d1, d2], rfl⟩
  ·have z1 : ¬ (a : Int) < (r : Int) := by omega
   go_wp2_with fail
   go_meet
   exact ⟨by simp [d1], rfl⟩
 case rest =>
 obtain ⟨rfl, rfl⟩ := hcut
 go_upto_if 199 with fail
 go_cut [24] (fun s24 wx => s24 = .int .i64 E ∧ ∃ d2, Hid (SoW pt w0 blk d2 wx ∧ d2.size = d.size ∧ PermIn a mid d1 d2 ∧ SoIn a mid d2))
 case first =>
  by_cases dd : a < r ∧ r < mid
  ·have hr := IH.out a r mid d1 wc (by omega) H1.out.1 H1.out.2.1 dd.1 dd.2 (by omega) HV.out.l1 HV.out.l2 HV.out.lt
   have HR := Lib.hid hr
   clear hr
   have zd : decide (a < r ∧ r < mid) = true := decide_eq_true dd
   rw [zd]
   clear zd
   go_wp2_with (first | (go_at_call 185; refine HR.out.mono ?_; rintro e w' ⟨rfl, d2, hS1, hz1, hp1, hr1⟩; have HQ := Lib.hid (And.intro hS1 (And.intro hz1 (And.intro hp1 hr1))); clear hS1 hz1 hp1 hr1))
   go_meet
   exact ⟨rfl, d2, HQ⟩
  ·have zd : decide (a < r ∧ r < mid) = false := decide_eq_false dd
   rw [zd]
   clear zd
   go_wp2_with fail
   go_meet
   refine ⟨rfl, d1, Lib.hid ⟨H1.out.1, H1.out.2.1, permIn_refl _ _ _, ?_⟩⟩
   by_cases e1 : a = r
   ·have := HV.out.l2; rwa [← e1] at this
   ·have := HV.out.l1; rwa [show r = mid from by omega] at this
 case rest =>
 obtain ⟨rfl, d2, H2⟩ := hcut
 go_step
 exact symT3 pt w0 blk cap a m b mid r E d d1 d2 _ hsz ham hmb hb k1 k2 k3 E1 E1p E2 E3 M1 M2 IH.out ⟨H1.out.2.1, H1.out.2.2⟩ HV.out H2.out _ _ _ _ _ _ _ _ _ _ _ _ _ _ _ _ _ _ _ _ _ _ _ _ _ _ _ _ _ _ _ _ _ _ _ _ _ _ _ _ _ _ _ _ _ _ _ _ _ _ _ _ _ _ _ _ _ _ _ _ _ _ _ _ _ _ _ _ _ _ _ _ _ _ _ _ _ _ _ _ _ _ _ _ _ _ _ _ _ _ _ _ _ _ _ _ _ _ _ _ _ _ _ _ _ _ _ _ _ _ _ _ _ _ _ _ _ _ _ _ _ _ _ _ _ _ _ _ _ _ _ _ _ _ _ _ _ _ _ _ _ _ _ _ _ _ _ _ _ _ _ _ _ _ _ _ _ _ _ _ _ _ _ _ _ _ _ _ _ _ _ _ _ _ _ _ _ _ _ _ _ _ _ _ _ _ _ _ _ _ _ _ _ _ _ _ _ _ _ _ _ _ _ _ _ _ _ _ _ _ _ _
set_option maxRecDepth 1000000 in
set_option maxHeartbeats 8000000 in
theorem symT1 (pt : Nat → Nat) (w0 : World) (blk cap a m b mid r E : Nat) (d : Array El) (wr : World) (hsz : d.size ≤ 4000000) (ham : a + 1 < m) (hmb : m + 1 < b) (hb : b ≤ d.size) (k1 : a ≤ r) (k2 : r ≤ m) (k3 : r ≤ mid) (E1 : E + r ≤ mid + m) (E1p : mid + m ≤ E + r) (E2 : E ≤ b) (E3 : mid ≤ E) (M1 : a < mid) (M2 : mid < b) (hih : SymIH pt w0 blk cap a b d.size) (hW : SoW pt w0 blk d wr) (hH : ∀ (d1 : Array El), RotIs r m E d d1 → Halves a mid b r E d1)
  (u5 u6 u7 u8 u9 u10 u11 u12 u13 u14 u15 u16 u17 u19 u21 u22 u23 u25 u26 u27 u28 u29 u30 u31 u32 u33 u34 u35 u36 u37 u38 u39 u40 u41 u42 u43 u44 u45 u46 u47 u48 u49 u50 u51 u52 u53 u54 u55 u56 u57 u58 u59 u60 u61 u62 u63 u64 u65 u66 u67 u68 u69 u70 u71 u72 u73 u74 u75 u76 u77 u78 u79 u80 u81 u82 u83 u84 u85 u86 u87 u88 u89 u90 u91 u92 u93 u94 u95 u96 u97 u98 u99 u100 u101 u102 u103 u104 u105 u106 u107 u108 u109 u110 u111 u112 u113 u114 u115 u116 u117 u118 u119 u120 u121 u122 u123 u124 u125 u126 u127 u128 u129 u130 u131 u132 u133 u134 u135 u136 u137 u138 u139 u140 u141 u142 u143 u144 u145 u146 u147 u148 u149 u150 u151 u152 u153 u154 u155 u156 u157 u158 u159 u160 u161 u162 u163 u164 u165 u166 u167 u168 u169 u170 u171 u172 u173 u174 u175 u176 u177 u178 u179 u180 u181 u182 u183 u184 u185 u186 u187 u188 u189 u190 u191 u192 u193 u194 u195 u196 u197 u198 u199 u200 u201 u202 u203 u204 u205 u206 u207 u208 u209 u210 u211 u212 u213 u214 u215 u216 u217 u218 u219 : Value) :
  Code.wp Tryz.prog symE1 (bodyPost Tryz.prog Tryz.f185 fun e w' => e = .returned (.tuple #[]) ∧ ∃ d', SoW pt w0 blk d' w' ∧ d'.size = d.size ∧ PermIn a b d d' ∧ SoIn a b d') ⟨List.toArray ((.slice (some ⟨blk, 0, none⟩) d.size cap) :: (.int .i64 a) :: (.int .i64 m) :: (.int .i64 b) :: (.func (.func 95) #[] #[]) :: u5 :: u6 :: u7 :: u8 :: u9 :: u10 :: u11 :: u12 :: u13 :: u14 :: u15 :: u16 :: u17 :: (.int .i64 mid) :: u19 :: (.int .i64 r) :: u21 :: u22 :: u23 :: (.int .i64 E) :: u25 :: u26 :: u27 :: u28 :: u29 :: u30 :: u31 :: u32 :: u33 :: u34 :: u35 :: u36 :: u37 :: u38 :: u39 :: u40 :: u41 :: u42 :: u43 :: u44 :: u45 :: u46 :: u47 :: u48 :: u49 :: u50 :: u51 :: u52 :: u53 :: u54 :: u55 :: u56 :: u57 :: u58 :: u59 :: u60 :: u61 :: u62 :: u63 :: u64 :: u65 :: u66 :: u67 :: u68 :: u69 :: u70 :: u71 :: u72 :: u73 :: u74 :: u75 :: u76 :: u77 :: u78 :: u79 :: u80 :: u81 :: u82 :: u83 :: u84 :: u85 :: u86 :: u87 :: u88 :: u89 :: u90 :: u91 :: u92 :: u93 :: u94 :: u95 :: u96 :: u97 :: u98 :: u99 :: u100 :: u101 :: u102 :: u103 :: u104 :: u105 :: u106 :: u107 :: u108 :: u109 :: u110 :: u111 :: u112 :: u113 :: u114 :: u115 :: u116 :: u117 :: u118 :: u119 :: u120 :: u121 :: u122 :: u123 :: u124 :: u125 :: u126 :: u127 :: u128 :: u129 :: u130 :: u131 :: u132 :: u133 :: u134 :: u135 :: u136 :: u137 :: u138 :: u139 :: u140 :: u141 :: u142 :: u143 :: u144 :: u145 :: u146 :: u147 :: u148 :: u149 :: u150 :: u151 :: u152 :: u153 :: u154 :: u155 :: u156 :: u157 :: u158 :: u159 :: u160 :: u161 :: u162 :: u163 :: u164 :: u165 :: u166 :: u167 :: u168 :: u169 :: u170 :: u171 :: u172 :: u173 :: u174 :: u175 :: u176 :: u177 :: u178 :: u179 :: u180 :: u181 :: u182 :: u183 :: u184 :: u185 :: u186 :: u187 :: u188 :: u189 :: u190 :: u191 :: u192 :: u193 :: u194 :: u195 :: u196 :: u197 :: u198 :: u199 :: u200 :: u201 :: u202 :: u203 :: u204 :: u205 :: u206 :: u207 :: u208 :: u209 :: u210 :: u211 :: u212 :: u213 :: u214 :: u215 :: u216 :: u217 :: u218 :: u219 :: []), []⟩ wr := by
 have HW := Lib.hid hW
 have HH := Lib.hid hH
 have IH := Lib.hid hih
 clear hW hH hih
 conv => arg 2; whnf
 go_upto_region 39 with fail
 go_cut [185] (fun sx wx => sx = .bool (decide (r < m ∧ m < E)) ∧ wx = wr)
 case first =>
  by_cases d1 : r < m
  ·have z1 : (r : Int) < (m : Int) := by omega
   by_cases d2 : m < E
   ·have z2 : (m : Int) < (E : Int) := by omega
    go_wp2_with fail
    go_meet
    exact ⟨by simp [d1, d2], rfl⟩
   ·have z2 : ¬ (m : Int) < (E : Int) := by omega
    go_wp2_with fail
    go_meet
    exact ⟨by simp [d1, d2], rfl⟩
  ·have z1 : ¬ (r : Int) < (m : Int) := by omega
   go_wp2_with fail
   go_meet
   exact ⟨by simp [d1], rfl⟩
 case rest =>
 obtain ⟨rfl, rfl⟩ := hcut
 go_upto_if 185 with fail
 go_cut [24] (fun s24 wx => s24 = .int .i64 E ∧ ∃ d1, Hid (SoW pt w0 blk d1 wx ∧ d1.size = d.size ∧ PermIn a b d d1 ∧ RotIs r m E d d1))
 case first =>
  by_cases dd : r < m ∧ m < E
  ·have hr := rotate_any pt w0 blk cap r m E d wc HW.out hsz dd.1 dd.2 (by omega)
   have HR := Lib.hid hr
   clear hr
   have zd : decide (r < m ∧ m < E) = true := decide_eq_true dd
   rw [zd]
   clear zd
   go_wp2_with (first | (go_at_call 212; refine HR.out.mono ?_; rintro e w' ⟨rfl, d1, hS1, hz1, hp1, hr1⟩; have HQ := Lib.hid (And.intro hS1 (And.intro hz1 (And.intro hp1 hr1))); clear hS1 hz1 hp1 hr1))
   go_meet
   obtain ⟨hS1, hz1, hp1, hr1⟩ := HQ.out
   exact ⟨rfl, d1, Lib.hid ⟨hS1, hz1, permIn_mono _ _ _ _ _ _ (by omega) (by omega) (by omega) hp1, hr1⟩⟩
  ·have zd : decide (r < m ∧ m < E) = false := decide_eq_false dd
   rw [zd]
   clear zd
   go_wp2_with fail
   go_meet
   refine ⟨rfl, d, Lib.hid ⟨HW.out, rfl, permIn_refl _ _ _, ?_⟩⟩
   by_cases e1 : r = m
   ·rw [e1]; exact rot_left m E d (by omega)
   ·rw [show E = m from by omega]; exact rot_right r m d (by omega)
 case rest =>
 obtain ⟨rfl, d1, H1⟩ := hcut
 go_step
 exact symT2 pt w0 blk cap a m b mid r E d d1 _ hsz ham hmb hb k1 k2 k3 E1 E1p E2 E3 M1 M2 IH.out ⟨H1.out.1, H1.out.2.1, H1.out.2.2.1⟩ (HH.out d1 H1.out.2.2.2) _ _ _ _ _ _ _ _ _ _ _ _ _ _ _ _ _ _ _ _ _ _ _ _ _ _ _ _ _ _ _ _ _ _ _ _ _ _ _ _ _ _ _ _ _ _ _ _ _ _ _ _ _ _ _ _ _ _ _ _ _ _ _ _ _ _ _ _ _ _ _ _ _ _ _ _ _ _ _ _ _ _ _ _ _ _ _ _ _ _ _ _ _ _ _ _ _ _ _ _ _ _ _ _ _ _ _ _ _ _ _ _ _ _ _ _ _ _ _ _ _ _ _ _ _ _ _ _ _ _ _ _ _ _ _ _ _ _ _ _ _ _ _ _ _ _ _ _ _ _ _ _ _ _ _ _ _ _ _ _ _ _ _ _ _ _ _ _ _ _ _ _ _ _ _ _ _ _ _ _ _ _ _ _ _ _ _ _ _ _ _ _ _ _ _ _ _ _ _ _ _ _ _ _ _ _ _ _ _ _ _ _
set_option maxRecDepth 100000 in
set_option maxHeartbeats 8000000 in
theorem symM3 (pt : Nat → Nat) (w0 : World) (blk cap a m b : Nat) (d : Array El) (W : World) (hS : SoW pt w0 blk d W) (hsz : d.size ≤ 4000000) (ham : a + 1 < m) (hmb : m + 1 < b) (hb : b ≤ d.size) (hs1 : SoIn a m d) (hs2 : SoIn m b d) (ht : TagLt a m b d)
  (ih : ∀ (a' m' b' : Nat) (d' : Array El) (W' : World), b' - a' < b - a → SoW pt w0 blk d' W' → d'.size = d.size → a' < m' → m' < b' → b' ≤ d.size → SoIn a' m' d' → SoIn m' b' d' → TagLt a' m' b' d' →
   Calls Tryz.prog 185 #[.slice (some ⟨blk, 0, none⟩) d.size cap, .int .i64 a', .int .i64 m', .int .i64 b', .func (.func 95) #[] #[]] W' fun e w' => e = .returned (.tuple #[]) ∧ ∃ d'', SoW pt w0 blk d'' w' ∧ d''.size = d.size ∧ PermIn a' b' d' d'' ∧ SoIn a' b' d'') :
  Calls Tryz.prog 185 #[.slice (some ⟨blk, 0, none⟩) d.size cap, .int .i64 a, .int .i64 m, .int .i64 b, .func (.func 95) #[] #[]] W fun e w' => e = .returned (.tuple #[]) ∧
   ∃ d', SoW pt w0 blk d' w' ∧ d'.size = d.size ∧ PermIn a b d d' ∧ SoIn a b d' := by
 have HS := Lib.hid hS
 have mixed := mixedO
 have HCM := Lib.hid cmp_grow
 have HS1 := Lib.hid hs1
 have HS2 := Lib.hid hs2
 have HT := Lib.hid ht
 have IH := Lib.hid ih
 obtain ⟨mid, n, lo, r0, P, hf⟩ := symF_mk a m b (by omega) (by omega)
 have HF := Lib.hid hf
 have hz : ((m : Int) - (a : Int) == 1) = false := by simp; omega
 have hz1 : ¬ (m : Int) - (a : Int) = 1 := by omega
 have hz2 : ((b : Int) - (m : Int) == 1) = false := by simp; omega
 have hz3 : ¬ (b : Int) - (m : Int) = 1 := by omega
 have q1 : 2 * mid ≤ a + b := hf.m1
 have q2 : a + b ≤ 2 * mid + 1 := hf.m2
 have q3 : n ≤ mid + m := by have := hf.n1; omega
 have q4 : mid + m ≤ n := by have := hf.n1; omega
 clear hS hs1 hs2 ht ih hf
 go_enter Tryz.func185, Tryz.ntmps185
 go_upto_if 140 with fail
 go_cut [18, 19, 20, 21] (fun s18 s19 s20 s21 wx => s18 = .int .i64 mid ∧ s19 = .int .i64 n ∧ s20 = .int .i64 lo ∧ s21 = .int .i64 r0 ∧ wx = W)
 case first =>
  have emid : Hid (((a : Int) + (b : Int)) / 2 = (mid : Int)) := by show _ = _; omega
  go_wp2_with fail
  all_goals go_meet
  all_goals
   rw [emid.out]
   have hc := HF.out.c
   have e := emid.out
   refine ⟨rfl, ?_, ?_, ?_, rfl⟩
   ·congr 1; omega
   ·congr 1; omega
   ·congr 1; omega
 case rest =>
  obtain ⟨rfl, rfl, rfl, rfl, rfl⟩ := hcut
  go_upto_region 32 with fail
  have ep : Hid ((n : Int) - 1 = (P : Int)) := by show _ = _; have := HF.out.p1; omega
  go_cut [22] (fun s22 wx => s22 = .int .i64 P ∧ wx = wc)
  case first =>
   go_wp2_with fail
   go_meet
   exact ⟨by rw [← ep.out], rfl⟩
  case rest =>
   obtain ⟨rfl, rfl⟩ := hcut
   go_wp2_with fail
   go_loopg [20, 21] (r0 - lo) (fun kx vi vj wr => ∃ (s r : Nat), vi = .int .i64 s ∧ vj = .int .i64 r ∧ lo ≤ s ∧ s ≤ r ∧ r ≤ r0 ∧ r - s ≤ kx ∧ Hid (SoW pt w0 blk d wr) ∧ Hid ((∀ q, lo ≤ q → q < s → ¬ d[P - q]!.1 < d[q]!.1) ∧ (∀ q, r ≤ q → q < r0 → d[P - q]!.1 < d[q]!.1)))
   case atStart => exact ⟨lo, r0, rfl, rfl, Nat.le_refl _, by have := HF.out.c; omega, Nat.le_refl _, Nat.le_refl _, HS, Lib.hid ⟨fun q q1 q2 => by omega, fun q q1 q2 => by omega⟩⟩
   case round =>
    obtain ⟨s, r, rfl, rfl, hls, hsr, hr0, hk, HW, HI⟩ := hrel
    by_cases hlt : s < r
    ·obtain ⟨c, ec⟩ : ∃ c, (s + r) / 2 = c := ⟨_, rfl⟩
     have hb1 : a ≤ c ∧ c < m ∧ m ≤ P - c ∧ P - c < b ∧ c ≤ P := by
      obtain ⟨_, _, _, _, h5⟩ := HF.out
      omega
     obtain ⟨hb1, hb2, hb3, hb4, hb5⟩ := hb1
     have h1 : s ≤ c := by omega
     have h2 : c < r := by omega
     obtain ⟨u, eu⟩ : ∃ u, P - c = u := ⟨_, rfl⟩
     have HM := Lib.hid (sym_mono HF.out (by omega) (by omega) HS1.out HS2.out c (by omega) (by omega))
     rw [eu] at HM hb3 hb4
     have zc : (((s : Int) + (r : Int)) / 2).toNat = c := by omega
     have pc : (0 : Int) ≤ ((s : Int) + (r : Int)) / 2 := by omega
     have bc : ((s : Int) + (r : Int)) / 2 < (d.size : Int) := by omega
     have zu : ((P : Int) - ((s : Int) + (r : Int)) / 2).toNat = u := by omega
     have pu : (0 : Int) ≤ (P : Int) - ((s : Int) + (r : Int)) / 2 := by omega
     have pu2 : ((s : Int) + (r : Int)) / 2 ≤ (P : Int) := by omega
     have bu2 : (P : Int) < (d.size : Int) + ((s : Int) + (r : Int)) / 2 := by omega
     have bu : (P : Int) - ((s : Int) + (r : Int)) / 2 < (d.size : Int) := by omega
     have wu : IntKind.i64.wrap ((P : Int) - ((s : Int) + (r : Int)) / 2) = (P : Int) - ((s : Int) + (r : Int)) / 2 := by rw [IntKind.wrap_i64]; omega
     have EC : Hid (((s : Int) + (r : Int)) / 2 = (c : Int)) := by show _ = _; omega
     have g1 := HW.out.kG c (by omega)
     have g2 := HW.out.pG c (by omega)
     have g3 := HW.out.kG u (by omega)
     have g4 := HW.out.pG u (by omega)
     obtain ⟨x, ex⟩ : ∃ x, d[c]! = x := ⟨_, rfl⟩
     obtain ⟨y, ey⟩ : ∃ x, d[u]! = x := ⟨_, rfl⟩
     rw [ex] at g1 g2 HM
     rw [ey] at g3 g4 HM
     clear ex ey ec eu
     by_cases hlv : cmpI y.1 x.1 < 0
     ·have hd : decide (cmpI y.1 x.1 < 0) = true := decide_eq_true hlv
      go_wp2_with fail
      go_quiet_grown (first | (go_at_call 95; refine Calls.grown_of (HCM.out _ _ _ _ _)))
      clear g1 g2 g3 g4
      go_wp2_with fail
      go_roundg (c - s)
      case measure => omega
      case rel =>
       have hq : y.1 < x.1 := (cmpI_neg y.1 x.1).1 hlv
       exact ⟨s, c, rfl, by rw [EC.out], hls, by omega, by omega, Nat.le_refl _, Lib.hid (HW.out.grown nq osq), Lib.hid ⟨HI.out.1, HM.out.2 hq⟩⟩
     ·have hd : decide (cmpI y.1 x.1 < 0) = false := decide_eq_false hlv
      go_wp2_with fail
      go_quiet_grown (first | (go_at_call 95; refine Calls.grown_of (HCM.out _ _ _ _ _)))
      clear g1 g2 g3 g4
      go_wp2_with fail
      go_roundg (r - (c + 1))
      case measure => omega
      case rel =>
       have hq : ¬ y.1 < x.1 := fun h' => by have := (cmpI_neg y.1 x.1).2 h'; omega
       exact ⟨c + 1, r, by rw [EC.out]; go_num, rfl, by omega, by omega, hr0, Nat.le_refl _, Lib.hid (HW.out.grown nq osq), Lib.hid ⟨HM.out.1 (by omega), HI.out.2⟩⟩
    ·obtain rfl : r = s := by omega
     obtain ⟨em, hsp⟩ := sym_split HF.out (by omega) (by omega) hls hr0 HI.out.1 HI.out.2
     obtain ⟨E, eE⟩ : ∃ E, mid + m - r = E := ⟨_, rfl⟩
     have HH := Lib.hid (fun (d1 : Array El) (hr : RotIs r m E d d1) => split_halves em eE.symm hsp HS1.out HS2.out HT.out hr)
     have k1 := hsp.s1; have k2 := hsp.s2; have k3 := hsp.s3; have k4 := hsp.s4
     rw [← em] at k3 k4
     have zE : Hid ((n : Int) - (r : Int) = (E : Int)) := by show _ = _; omega
     have E1 : E + r = mid + m := by omega
     have E2 : E ≤ b := by omega
     have E3 : mid ≤ E := by omega
     clear em hsp eE
     go_upto_region 38 with fail
     go_cut [24] (fun s24 wx => s24 = .int .i64 E ∧ wx = wr)
     case first =>
      go_wp2_with fail
      go_meet
      exact ⟨by rw [← zE.out], rfl⟩
     case rest =>
     obtain ⟨rfl, rfl⟩ := hcut
     go_step
     have M1 : a < mid := by omega
     have M2 : mid < b := by omega
     exact symT1 pt w0 blk cap a m b mid r E d _ hsz ham hmb hb k1 k2 k3 (by omega) (by omega) E2 E3 M1 M2 IH.out HW.out HH.out _ _ _ _ _ _ _ _ _ _ _ _ _ _ _ _ _ _ _ _ _ _ _ _ _ _ _ _ _ _ _ _ _ _ _ _ _ _ _ _ _ _ _ _ _ _ _ _ _ _ _ _ _ _ _ _ _ _ _ _ _ _ _ _ _ _ _ _ _ _ _ _ _ _ _ _ _ _ _ _ _ _ _ _ _ _ _ _ _ _ _ _ _ _ _ _ _ _ _ _ _ _ _ _ _ _ _ _ _ _ _ _ _ _ _ _ _ _ _ _ _ _ _ _ _ _ _ _ _ _ _ _ _ _ _ _ _ _ _ _ _ _ _ _ _ _ _ _ _ _ _ _ _ _ _ _ _ _ _ _ _ _ _ _ _ _ _ _ _ _ _ _ _ _ _ _ _ _ _ _ _ _ _ _ _ _ _ _ _ _ _ _ _ _ _ _ _ _ _ _ _ _ _ _ _ _ _ _ _ _ _ _
theorem symMerge_any (pt : Nat → Nat) (w0 : World) (blk cap n : Nat) (hsz : n ≤ 4000000) : ∀ (N a m b : Nat) (d : Array El) (W : World), b - a < N → SoW pt w0 blk d W → d.size = n → a < m → m < b → b ≤ n → SoIn a m d → SoIn m b d → TagLt a m b d →
  Calls Tryz.prog 185 #[.slice (some ⟨blk, 0, none⟩) n cap, .int .i64 a, .int .i64 m, .int .i64 b, .func (.func 95) #[] #[]] W fun e w' => e = .returned (.tuple #[]) ∧ ∃ d', SoW pt w0 blk d' w' ∧ d'.size = n ∧ PermIn a b d d' ∧ SoIn a b d'
 | 0, a, m, b, d, W, h, _, _, _, _, _, _, _, _ => absurd h (Nat.not_lt_zero _)
 | N + 1, a, m, b, d, W, h, hS, hn, ham, hmb, hb, hs1, hs2, ht => by
  subst hn
  by_cases e1 : m = a + 1
  ·subst e1
   exact symM1 pt w0 blk cap a b d W hS hsz hmb hb hs2 ht
  ·by_cases e2 : b = m + 1
   ·subst e2
    exact symM2 pt w0 blk cap a m d W hS hsz (by omega) hb hs1 ht
   ·exact symM3 pt w0 blk cap a m b d W hS hsz (by omega) (by omega) hb hs1 hs2 ht (fun a' m' b' d' W' hlt hS' hn' h1 h2 h3 h4 h5 h6 => symMerge_any pt w0 blk cap d.size hsz N a' m' b' d' W' (by omega) hS' hn' h1 h2 h3 h4 h5 h6)
set_option maxRecDepth 100000 in
set_option maxHeartbeats 4000000 in
theorem stable_any (pt : Nat → Nat) (w0 : World) (blk cap n : Nat) (hsz : n ≤ 4000000) (d : Array El) (W : World) (hS : SoW pt w0 blk d W) (hn : d.size = n) (ht : ∀ p q, 0 ≤ p → p < q → q < n → d[p]!.2 < d[q]!.2) :
  Calls Tryz.prog 145 #[.slice (some ⟨blk, 0, none⟩) n cap, .int .i64 n, .func (.func 95) #[] #[]] W fun e w' => e = .returned (.tuple #[]) ∧ ∃ d', SoW pt w0 blk d' w' ∧ d'.size = n ∧ PermIn 0 n d d' ∧ SoIn 0 n d' := by
 have HS := Lib.hid hS
 have HT := Lib.hid ht
 have HI := Lib.hid (fun a b dk wr => insertion_any pt w0 blk cap a b dk wr)
 have HM := Lib.hid (fun a m b dk wr => symMerge_any pt w0 blk cap n hsz (b - a + 1) a m b dk wr (by omega))
 clear hS ht
 go_enter Tryz.func145, Tryz.ntmps145
 go_wp2_with fail
 go_loopg [7, 8] n (fun kx vi vj wr => ∃ (t a b : Nat) (dk : Array El), vi = .int .i64 a ∧ vj = .int .i64 b ∧ a ≤ t * 20 ∧ t * 20 ≤ a ∧ b ≤ a + 20 ∧ a + 20 ≤ b ∧ a ≤ n ∧ n - a ≤ kx ∧ dk.size = n ∧ Hid (SoW pt w0 blk dk wr) ∧ Hid (PermIn 0 n d dk) ∧ Hid (BlkR 20 0 a n dk) ∧ Hid (∀ p q, a ≤ p → p < q → q < n → dk[p]!.2 < dk[q]!.2))
 case atStart => exact ⟨0, 0, 20, d, rfl, rfl, by omega, by omega, by omega, by omega, Nat.zero_le _, by omega, hn, HS, Lib.hid (permIn_refl _ _ _), Lib.hid (fun k hk => by omega), HT⟩
 case round =>
  obtain ⟨t, a, b, dk, rfl, rfl, t1, t2, b1, b2, han, hk, hsk, HW, HP, HB, HG⟩ := hrel
  by_cases hlt : b ≤ n
  ·have hc := HI.out a b dk wr HW.out (by omega) (by omega) (by omega)
   rw [hsk] at hc
   have HC := Lib.hid hc
   clear hc
   go_wp2_with (first | (go_at_call 184; refine HC.out.mono ?_; rintro e w' ⟨rfl, hS1, hz1⟩; have HQ := Lib.hid (And.intro hS1 hz1); clear hS1 hz1))
   go_roundg (n - b)
   case measure => omega
   case rel =>
    have g := ins_so a b dk (by omega) (by omega) (fun p q h1 h2 h3 => HG.out p q h1 h2 (by omega))
    have g2 := blk_ins (n := n) hsk.symm (by omega) (by omega) t (by omega) (Or.inl (by omega)) HB.out HG.out g.1 g.2
    exact ⟨t + 1, b, b + 20, _, rfl, by go_num, by omega, by omega, by omega, by omega, hlt, Nat.le_refl _, HQ.out.2, Lib.hid HQ.out.1, Lib.hid (permIn_trans _ _ _ _ _ HP.out (permIn_mono _ _ _ _ _ _ (Nat.zero_le _) hlt (by omega) g.1)), Lib.hid g2.1, Lib.hid g2.2⟩
  ·have hc := HI.out a n dk wr HW.out (by omega) (by omega) (by omega)
   rw [hsk] at hc
   have HC := Lib.hid hc
   have g := ins_so a n dk (by omega) (by omega) (fun p q h1 h2 h3 => HG.out p q h1 h2 (by omega))
   have g2 := blk_ins (n := n) hsk.symm (by omega) (Nat.le_refl _) t (by omega) (Or.inr ⟨rfl, by omega⟩) HB.out HG.out g.1 g.2
   have hp1 := permIn_trans _ _ _ _ _ HP.out (permIn_mono _ _ _ _ _ _ (Nat.zero_le _) (Nat.le_refl _) (by omega) g.1)
   obtain ⟨d1, e1⟩ : ∃ d1, insertionSort elK dk a n = d1 := ⟨_, rfl⟩
   rw [e1] at HC hp1 g2
   have HP1 := Lib.hid hp1
   have HB1 := Lib.hid g2.1
   clear hc g g2 hp1 e1 HP HB HG HW
   go_wp2_with (first | (go_at_call 184; refine HC.out.mono ?_; rintro e w' ⟨rfl, hS1, hz1⟩; have HQ := Lib.hid (And.intro hS1 hz1); clear hS1 hz1))
   clear HC
   go_loopg [6] n (fun kx vb wr2 => ∃ (bs : Nat) (dk : Array El), vb = .int .i64 bs ∧ 20 ≤ bs ∧ n - bs ≤ kx ∧ dk.size = n ∧ Hid (SoW pt w0 blk dk wr2) ∧ Hid (PermIn 0 n d dk) ∧ Hid (BlkR bs 0 n n dk))
   case atStart => exact ⟨20, d1, rfl, Nat.le_refl _, by omega, HQ.out.2, Lib.hid HQ.out.1, HP1, HB1⟩
   case round =>
    obtain ⟨bs, dk, rfl, hbs, hk2, hsk2, HW, HP, HB⟩ := hrel
    by_cases hbn : bs < n
    ·go_wp2_with fail
     go_loopg [7, 8] n (fun kx vi vj wr3 => ∃ (t a b : Nat) (dk : Array El), vi = .int .i64 a ∧ vj = .int .i64 b ∧ Hid (a = t * (2 * bs)) ∧ b ≤ a + 2 * bs ∧ a + 2 * bs ≤ b ∧ a ≤ n ∧ n - a ≤ kx ∧ dk.size = n ∧ Hid (SoW pt w0 blk dk wr3) ∧ Hid (PermIn 0 n d dk) ∧ Hid (BlkR (2 * bs) 0 a n dk) ∧ Hid (BlkR bs a n n dk))
     case atStart => exact ⟨0, 0, 2 * bs, dk, rfl, by go_num, Lib.hid (by simp), by omega, by omega, Nat.zero_le _, by omega, hsk2, HW, HP, Lib.hid (fun k hk => by omega), HB⟩
     case round =>
      obtain ⟨t, a2, b2, dk2, rfl, rfl, ta, c1, c2, ha2, hk3, hsk3, HW3, HP3, HB3, HR3⟩ := hrel
      by_cases hb2 : b2 ≤ n
      ·have hz : 0 < 2 * bs := by omega
       obtain ⟨g1, g2, g3⟩ := blk_two (bs := bs) (n := n) (a := a2) (d := dk2) (by omega) HR3.out
       have emin : min (a2 + 2 * bs) n = b2 := by omega
       rw [emin] at g2 g3
       have hr := HM.out a2 (a2 + bs) b2 dk2 wr HW3.out hsk3 (by omega) (by omega) hb2 g1 g2 g3
       rw [show ((a2 + bs : Nat) : Int) = (a2 : Int) + (bs : Int) from by omega] at hr
       have HC := Lib.hid hr
       clear hr g1 g2 g3 emin
       go_wp2_with (first | (go_at_call 185; refine HC.out.mono ?_; rintro e w' ⟨rfl, d', hS1, hz1, hp1, hs1⟩; have HQ2 := Lib.hid (And.intro hS1 (And.intro hz1 (And.intro hp1 hs1))); clear hS1 hz1 hp1 hs1))
       go_roundg (n - b2)
       case measure => omega
       case rel =>
        obtain ⟨hS1, hz1, hp1, hs1⟩ := HQ2.out
        have g := blk_merge (n := n) (t := t) (b := b2) hsk3.symm (by omega) ta.out (by omega) (by omega) HB3.out HR3.out hp1 hs1
        exact ⟨t + 1, b2, b2 + 2 * bs, d', rfl, by go_num, Lib.hid (by have := ta.out; rw [Nat.add_mul, Nat.one_mul]; omega), by omega, by omega, hb2, Nat.le_refl _, hz1, Lib.hid hS1, Lib.hid (permIn_trans _ _ _ _ _ HP3.out (permIn_mono _ _ _ _ _ _ (Nat.zero_le _) hb2 (by omega) hp1)), Lib.hid g.1, Lib.hid g.2⟩
      ·by_cases hm : a2 + bs < n
       ·obtain ⟨g1, g2, g3⟩ := blk_two (bs := bs) (n := n) (a := a2) (d := dk2) hm HR3.out
        have emin : min (a2 + 2 * bs) n = n := by omega
        rw [emin] at g2 g3
        have hr := HM.out a2 (a2 + bs) n dk2 wr HW3.out hsk3 (by omega) hm (Nat.le_refl _) g1 g2 g3
        rw [show ((a2 + bs : Nat) : Int) = (a2 : Int) + (bs : Int) from by omega] at hr
        have HC := Lib.hid hr
        have hz : (a2 : Int) + (bs : Int) < (n : Int) := by omega
        clear hr g1 g2 g3 emin
        go_wp2_with (first | (go_at_call 185; refine HC.out.mono ?_; rintro e w' ⟨rfl, d', hS1, hz1, hp1, hs1⟩; have HQ2 := Lib.hid (And.intro hS1 (And.intro hz1 (And.intro hp1 hs1))); clear hS1 hz1 hp1 hs1))
        go_roundg (n - 2 * bs)
        case measure => omega
        case rel =>
         obtain ⟨hS1, hz1, hp1, hs1⟩ := HQ2.out
         have g := blk_merge (n := n) (t := t) (b := n) hsk3.symm (by omega) ta.out (by omega) ha2 HB3.out HR3.out hp1 hs1
         exact ⟨2 * bs, d', by go_num, by omega, Nat.le_refl _, hz1, Lib.hid hS1, Lib.hid (permIn_trans _ _ _ _ _ HP3.out (permIn_mono _ _ _ _ _ _ (Nat.zero_le _) (Nat.le_refl _) (by omega) hp1)), Lib.hid g.1⟩
       ·have hz : ¬ (a2 : Int) + (bs : Int) < (n : Int) := by omega
        go_wp2_with fail
        go_roundg (n - 2 * bs)
        case measure => omega
        case rel =>
         have g := blk_last (n := n) (t := t) (by omega) ta.out ha2 (by omega) HB3.out HR3.out
         exact ⟨2 * bs, dk2, by go_num, by omega, Nat.le_refl _, hsk3, HW3, HP3, Lib.hid g⟩
    ·go_wp2_with fail
     go_end0
     exact ⟨rfl, dk, HW.out, hsk2, HP.out, blk_end HB.out (by omega)⟩
set_option maxHeartbeats 1000000 in
theorem SortStable_any (pt : Nat → Nat) (w0 : World) (blk cap n : Nat) (hsz : n ≤ 4000000) (d : Array El) (W : World) (hS : SoW pt w0 blk d W) (hn : d.size = n) (ht : ∀ p q, 0 ≤ p → p < q → q < n → d[p]!.2 < d[q]!.2) :
  Calls Tryz.prog 94 #[.slice (some ⟨blk, 0, none⟩) n cap, .func (.func 95) #[] #[]] W fun e w' => e = .returned (.tuple #[]) ∧ ∃ d', SoW pt w0 blk d' w' ∧ d'.size = n ∧ PermIn 0 n d d' ∧ SoIn 0 n d' := by
 have HC := Lib.hid (stable_any pt w0 blk cap n hsz d W hS hn ht)
 clear hS ht hn
 go_enter Tryz.func94, Tryz.ntmps94
 go_wp2_with (first | (go_at_call 145; refine HC.out.mono ?_; rintro e w' ⟨rfl, d', hq⟩; have HQ := Lib.hid hq; clear hq))
 go_end0
 exact ⟨rfl, d', HQ.out⟩
end Go.Proofs.YtomahddiclkepaaGreatDoor
