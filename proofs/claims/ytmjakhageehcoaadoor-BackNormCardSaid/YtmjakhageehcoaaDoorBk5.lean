/- BookEq of equal books; BackNorm: the law's walk. -/
import Derived.Test.YtmjakhageehcoaaDoorBk4
import Derived.Deep.RegionHeld3
namespace Go.Proofs.YtmjakhageehcoaaDoor
open Go.RowKit Go.Joins
open Classical
set_option linter.unusedVariables false
set_option linter.unusedSimpArgs false

theorem EqRule_nil (w : World) : Calls Tryd.prog 28 #[.slice none 0 0, .slice none 0 0] w fun e w' => e = .returned (.bool true) ∧ w = w' := by
  go_enter Tryd.func28, Tryd.ntmps28
  go_wp2
  go_loop [14] (fun i => i = .int .i64 0) (fun _ => 0)
  case atStart => rfl
  case round =>
    subst hrel
    go_wp2
    go_ret
    exact ⟨rfl, rfl⟩
theorem EqLink_nil (w : World) : Calls Tryd.prog 29 #[.slice none 0 0, .slice none 0 0] w fun e w' => e = .returned (.bool true) ∧ w = w' := by
  go_enter Tryd.func29, Tryd.ntmps29
  go_wp2
  go_loop [14] (fun i => i = .int .i64 0) (fun _ => 0)
  case atStart => rfl
  case round =>
    subst hrel
    go_wp2
    go_ret
    exact ⟨rfl, rfl⟩

set_option maxHeartbeats 1000000 in
theorem EqEr_same (l : List Er) (v v2 : Value) (w : World) (h1 : SlEr w v l) (h2 : SlEr w v2 l) :
    Calls Tryd.prog 50 #[v, v2] w fun e w' => e = .returned (.bool true) ∧ Below w.heap.size w w' := by
  obtain ⟨p, cap, rfl, g1⟩ := h1.shape
  obtain ⟨q, cap2, rfl, g2⟩ := h2.shape
  have hl := h1.size
  unfold maxLen at hl
  have HG1 := Lib.hid g1
  have HG2 := Lib.hid g2
  clear h1 h2 g1 g2
  go_enter Tryd.func50, Tryd.ntmps50
  go_wp2
  go_loopw [14] (fun i wr => ∃ k : Nat, k ≤ l.length ∧ i = .int .i64 k ∧ Below w.heap.size w wr) (fun i _ => l.length - (intOf i).toNat)
  case atStart => exact ⟨0, Nat.zero_le _, rfl, Below.refl _ _⟩
  case round =>
    obtain ⟨k, hk, rfl, hbr⟩ := hrel
    have HBR := Lib.hid hbr
    have hzr := hbr.size
    clear hbr
    by_cases hlt : k < l.length
    · have hne : l ≠ [] := fun e => by rw [e] at hlt; exact absurd hlt (Nat.not_lt_zero _)
      obtain ⟨b, o, rfl, hb, hat⟩ := HG1.out hne
      obtain ⟨b2, o2, rfl, hb2, hat2⟩ := HG2.out hne
      have e1 := (hat k hlt).below HBR.out hb
      have e2 := (hat2 k hlt).below HBR.out hb2
      obtain ⟨x, ex⟩ : ∃ x, l[k] = x := ⟨_, rfl⟩
      rw [ex] at e1 e2
      obtain ⟨xo, xr, xs, xf, xt⟩ := x
      obtain ⟨a0, a1, a2, a3, a4⟩ := e1
      obtain ⟨c0, c1, c2, c3, c4⟩ := e2
      simp only at a0 a1 a2 a3 a4 c0 c1 c2 c3 c4
      have hb' : b < wr.heap.size := Nat.lt_of_lt_of_le hb hzr
      have hb2' : b2 < wr.heap.size := Nat.lt_of_lt_of_le hb2 hzr
      clear hat hat2 ex hne
      go_upto_region 6 with fail
      obtain ⟨W5, e5⟩ : ∃ W5, wr.alloc (.cells #[.int .i64 xo, .string xr, .int .i64 xs, .string xf, .int .i64 xt] 41) = W5 := ⟨_, rfl⟩
      rw [e5]
      have g5 : W5.heap[wr.heap.size]? = some (.cells #[.int .i64 xo, .string xr, .int .i64 xs, .string xf, .int .i64 xt] 41 (0, 0)) := by rw [← e5]; exact heap_alloc_new wr _
      have hb5 : Below wr.heap.size wr W5 := by rw [← e5]; exact (Below.refl _ _).alloc (Nat.le_refl _) _
      obtain ⟨z0, z1, z2, z3, z4, -⟩ := cells5 g5
      have d0 := (hb5.cell (p := ⟨b2, o2 + k * 5, none⟩) hb2').trans c0
      have d1 := (hb5.cell (p := ⟨b2, o2 + k * 5 + 1, none⟩) hb2').trans c1
      have d2 := (hb5.cell (p := ⟨b2, o2 + k * 5 + 2, none⟩) hb2').trans c2
      have d3 := (hb5.cell (p := ⟨b2, o2 + k * 5 + 3, none⟩) hb2').trans c3
      have d4 := (hb5.cell (p := ⟨b2, o2 + k * 5 + 4, none⟩) hb2').trans c4
      have HZ := Lib.hid (HBR.out.trans (hb5.mono hzr))
      clear e5 g5 hb5 a0 a1 a2 a3 a4 c0 c1 c2 c3 c4
      go_quiet (fail)
      go_wp2
      go_roundw
      case rel => exact ⟨k + 1, hlt, by go_num, below_drewN' HZ.out _⟩
      case measure => simp [intOf]; omega
    · obtain rfl : k = l.length := by omega
      go_wp2
      go_ret
      exact ⟨rfl, HBR.out⟩
end Go.Proofs.YtmjakhageehcoaaDoor
