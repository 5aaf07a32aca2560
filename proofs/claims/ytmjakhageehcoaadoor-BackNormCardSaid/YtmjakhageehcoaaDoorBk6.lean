/- ZoneEq, BookEq of equal books; BackNorm: the law's walk. -/
import Derived.Test.YtmjakhageehcoaaDoorBk5
namespace Go.Proofs.YtmjakhageehcoaaDoor
open Go.RowKit Go.Joins
open Classical
set_option linter.unusedVariables false
set_option linter.unusedSimpArgs false

theorem ZoneEq_same (nm : ByteArray) (L : List Er) (p1 : Option Addr) (c1 : Nat) (p2 : Option Addr) (c2 : Nat) (w : World) (h1 : SlEr w (.slice p1 L.length c1) L) (h2 : SlEr w (.slice p2 L.length c2) L) :
    Calls Tryd.prog 30 #[.agg #[.string nm, .slice p1 L.length c1], .agg #[.string nm, .slice p2 L.length c2]] w fun e w' => e = .returned (.bool true) ∧ Below w.heap.size w w' := by
  obtain ⟨W0, eW⟩ : ∃ W0, (w.alloc (.cells #[.string nm, .slice p1 L.length c1] 39)).alloc (.cells #[.string nm, .slice p2 L.length c2] 39) = W0 := ⟨_, rfl⟩
  obtain ⟨hz, g0, g1, hb0⟩ := two_alB eW
  have HEW := Lib.hid eW
  have HB := Lib.hid hb0
  have HQ := Lib.hid (EqEr_same L _ _ W0 (h1.below hb0) (h2.below hb0))
  have x0 : W0.cell? ⟨w.heap.size, 0, none⟩ = some (.string nm) := (cell_of_row W0 _ 0 _ _ _ g0).trans rfl
  have x1 : W0.cell? ⟨w.heap.size, 1, none⟩ = some (.slice p1 L.length c1) := (cell_of_row W0 _ 1 _ _ _ g0).trans rfl
  have y0 : W0.cell? ⟨w.heap.size + 1, 0, none⟩ = some (.string nm) := (cell_of_row W0 _ 0 _ _ _ g1).trans rfl
  have y1 : W0.cell? ⟨w.heap.size + 1, 1, none⟩ = some (.slice p2 L.length c2) := (cell_of_row W0 _ 1 _ _ _ g1).trans rfl
  clear eW hb0 h1 h2 g0 g1 hz
  go_enter Tryd.func30, Tryd.ntmps30
  go_wp2_with fail
  rw [HEW.out]
  refine HQ.out.mono ?_
  rintro e w1 ⟨rfl, hb1⟩
  have HB1 := Lib.hid (HB.out.trans (hb1.mono HB.out.size))
  clear hb1
  go_wp2
  go_ret
  exact ⟨rfl, HB1.out⟩

set_option maxRecDepth 100000 in
theorem BookEq_none (w : World) : Calls Tryd.prog 13 #[bkNone, bkNone] w fun e w' => e = .returned (.bool true) ∧ Below w.heap.size w w' := by
  go_enter Tryd.func13, Tryd.ntmps13
  go_wp2_with fail
  refine (EqRule_nil _).mono ?_
  rintro e w' ⟨rfl, rfl⟩
  go_wp2_with fail
  refine (EqLink_nil _).mono ?_
  rintro e w' ⟨rfl, rfl⟩
  go_wp2
  go_loop [32] (fun i => i = .int .i64 0) (fun _ => 0)
  case atStart => rfl
  case round =>
    subst hrel
    go_wp2
    go_ret
    exact ⟨rfl, ((Below.refl _ _).alloc (Nat.le_refl _) _).alloc (by simp) _⟩

set_option maxRecDepth 100000 in
set_option maxHeartbeats 4000000 in
theorem BookEq_same (nm : ByteArray) (L : List Er) (Z1 z1 : Nat) (p1 : Option Addr) (c1 : Nat) (Z2 z2 : Nat) (p2 : Option Addr) (c2 : Nat) (w : World) (h1 : BkAt w Z1 z1 p1 c1 nm L) (h2 : BkAt w Z2 z2 p2 c2 nm L) :
    Calls Tryd.prog 13 #[bkV Z1 z1, bkV Z2 z2] w fun e w' => e = .returned (.bool true) ∧ Below w.heap.size w w' := by
  obtain ⟨W0, eW⟩ : ∃ W0, (w.alloc (.cells #[.slice none 0 0, .slice (some ⟨Z1, 0, none⟩) 1 z1, .slice none 0 0] 31)).alloc (.cells #[.slice none 0 0, .slice (some ⟨Z2, 0, none⟩) 1 z2, .slice none 0 0] 31) = W0 := ⟨_, rfl⟩
  obtain ⟨hz, g0, g1, hb0⟩ := two_alB eW
  have HEW := Lib.hid eW
  have HB := Lib.hid hb0
  have k1 := h1.below hb0
  have k2 := h2.below hb0
  have H1 := Lib.hid k1
  have H2 := Lib.hid k2
  have G0 := Lib.hid g0
  have G1 := Lib.hid g1
  have x0 : W0.cell? ⟨w.heap.size, 0, none⟩ = some (.slice none 0 0) := (cell_of_row W0 _ 0 _ _ _ g0).trans rfl
  have x1 : W0.cell? ⟨w.heap.size, 1, none⟩ = some (.slice (some ⟨Z1, 0, none⟩) 1 z1) := (cell_of_row W0 _ 1 _ _ _ g0).trans rfl
  have x2 : W0.cell? ⟨w.heap.size, 2, none⟩ = some (.slice none 0 0) := (cell_of_row W0 _ 2 _ _ _ g0).trans rfl
  have y0 : W0.cell? ⟨w.heap.size + 1, 0, none⟩ = some (.slice none 0 0) := (cell_of_row W0 _ 0 _ _ _ g1).trans rfl
  have y1 : W0.cell? ⟨w.heap.size + 1, 1, none⟩ = some (.slice (some ⟨Z2, 0, none⟩) 1 z2) := (cell_of_row W0 _ 1 _ _ _ g1).trans rfl
  have y2 : W0.cell? ⟨w.heap.size + 1, 2, none⟩ = some (.slice none 0 0) := (cell_of_row W0 _ 2 _ _ _ g1).trans rfl
  have hl0 := (Array.getElem?_eq_some_iff.mp g0).1
  have hl1 := (Array.getElem?_eq_some_iff.mp g1).1
  have HZQ := Lib.hid (fun W (hb : Below W0.heap.size W0 W) => ZoneEq_same nm L p1 c1 p2 c2 W (k1.ers.below hb) (k2.ers.below hb))
  obtain ⟨s0, s1, hZ1⟩ := k1.cells
  obtain ⟨r0, r1, hZ2⟩ := k2.cells
  have KB : Hid (∀ wx, Below W0.heap.size W0 wx → (Below W0.heap.size W0 wx ∧ wx.cell? ⟨w.heap.size, 1, none⟩ = some (.slice (some ⟨Z1, 0, none⟩) 1 z1) ∧ wx.cell? ⟨w.heap.size + 1, 1, none⟩ = some (.slice (some ⟨Z2, 0, none⟩) 1 z2) ∧ wx.cell? ⟨Z1, 0, none⟩ = some (.string nm) ∧ wx.cell? ⟨Z1, 1, none⟩ = some (.slice p1 L.length c1) ∧ wx.cell? ⟨Z2, 0, none⟩ = some (.string nm) ∧ wx.cell? ⟨Z2, 1, none⟩ = some (.slice p2 L.length c2))) := by
    show ∀ wx, Below W0.heap.size W0 wx → _
    intro wx hb
    exact ⟨hb, (hb.cell (p := ⟨w.heap.size, 1, none⟩) hl0).trans x1, (hb.cell (p := ⟨w.heap.size + 1, 1, none⟩) hl1).trans y1, (hb.cell (p := ⟨Z1, 0, none⟩) hZ1).trans s0, (hb.cell (p := ⟨Z1, 1, none⟩) hZ1).trans s1, (hb.cell (p := ⟨Z2, 0, none⟩) hZ2).trans r0, (hb.cell (p := ⟨Z2, 1, none⟩) hZ2).trans r1⟩
  have KR : Hid (∀ wx, (Below W0.heap.size W0 wx ∧ wx.cell? ⟨w.heap.size, 1, none⟩ = some (.slice (some ⟨Z1, 0, none⟩) 1 z1) ∧ wx.cell? ⟨w.heap.size + 1, 1, none⟩ = some (.slice (some ⟨Z2, 0, none⟩) 1 z2) ∧ wx.cell? ⟨Z1, 0, none⟩ = some (.string nm) ∧ wx.cell? ⟨Z1, 1, none⟩ = some (.slice p1 L.length c1) ∧ wx.cell? ⟨Z2, 0, none⟩ = some (.string nm) ∧ wx.cell? ⟨Z2, 1, none⟩ = some (.slice p2 L.length c2)) → Below W0.heap.size W0 wx) := by
    show ∀ wx, _ → Below W0.heap.size W0 wx
    exact fun wx h => h.1
  clear eW hb0 h1 h2 g0 g1 hz k1 k2 s0 s1 r0 r1
  go_enter Tryd.func13, Tryd.ntmps13
  go_wp2_with fail
  rw [HEW.out]
  refine (EqRule_nil _).mono ?_
  rintro e w' ⟨rfl, rfl⟩
  go_wp2_with fail
  refine (EqLink_nil _).mono ?_
  rintro e w' ⟨rfl, rfl⟩
  go_wp2_with fail
  go_loopw [32] (fun i wr => ∃ k : Nat, k ≤ 1 ∧ i = .int .i64 k ∧ Below W0.heap.size W0 wr) (fun i _ => 1 - (intOf i).toNat)
  case atStart => exact ⟨0, Nat.zero_le _, rfl, Below.refl _ _⟩
  case round =>
    obtain ⟨k, hk, rfl, hbr⟩ := hrel
    have HBR := Lib.hid hbr
    have hzr := hbr.size
    clear hbr x0 x2 y0 y2 x1 y1
    have hk2 : k = 0 ∨ k = 1 := by omega
    clear hk
    rcases hk2 with rfl | rfl
    · go_upto_region 6 with fail
      go_cut [46] (fun s46 wx => s46 = .bool false ∧ Below W0.heap.size W0 wx)
      case first =>
        go_region_held3 (fun wx => Below W0.heap.size W0 wx ∧ wx.cell? ⟨w.heap.size, 1, none⟩ = some (.slice (some ⟨Z1, 0, none⟩) 1 z1) ∧ wx.cell? ⟨w.heap.size + 1, 1, none⟩ = some (.slice (some ⟨Z2, 0, none⟩) 1 z2) ∧ wx.cell? ⟨Z1, 0, none⟩ = some (.string nm) ∧ wx.cell? ⟨Z1, 1, none⟩ = some (.slice p1 L.length c1) ∧ wx.cell? ⟨Z2, 0, none⟩ = some (.string nm) ∧ wx.cell? ⟨Z2, 1, none⟩ = some (.slice p2 L.length c2)) ((refine KB.out _ ?_; repeat (first | (with_reducible assumption) | (with_reducible exact HBR.out) | (with_reducible exact Below.refl _ _) | (with_reducible refine Below.drew ?_))))
          (first
            | (go_at_call 30; refine (HZQ.out _ (KR.out _ (by assumption))).mono ?_; rintro e w2 ⟨rfl, hb2⟩; have hB2 := ((KR.out _ (by assumption)).trans (hb2.mono (KR.out _ (by assumption)).size)); clear hb2))
        all_goals go_wp2_with fail
        all_goals go_meet
        all_goals exact ⟨rfl, KR.out _ (by assumption)⟩
      case rest =>
        obtain ⟨rfl, hbc⟩ := hcut
        have HBC := Lib.hid hbc
        clear hbc
        go_wp2
        go_roundw
        case rel => exact ⟨1, by omega, rfl, HBC.out⟩
        case measure => simp [intOf]
    · go_wp2
      go_ret
      exact ⟨rfl, HB.out.trans (HBR.out.mono HB.out.size)⟩
end Go.Proofs.YtmjakhageehcoaaDoor
