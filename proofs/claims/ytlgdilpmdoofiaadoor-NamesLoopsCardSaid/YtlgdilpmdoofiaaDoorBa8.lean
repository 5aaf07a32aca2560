/- (checker).link: what it returns. -/
import Derived.Test.YtlgdilpmdoofiaaDoorBa7
namespace Go.Proofs.YtlgdilpmdoofiaaDoor
open Go.RowKit Go.Joins
open Classical
set_option linter.unusedVariables false
set_option linter.unusedSimpArgs false

theorem lkZoF_any (y : Zo) (zb : Nat) (nm : ByteArray) (w : World) (hx : w.cell? ⟨zb, 0, none⟩ = some (.string nm)) :
    Calls Tryd.prog 67 (#[.agg (zoCells y).toArray] ++ #[.pointer (some ⟨zb, 0, none⟩)]) w fun e w' => e = .returned (.bool (decide (y.nm = nm))) ∧ Below w.heap.size w w' := by
  have hlt : zb < w.heap.size := World.block_lt_of_cell? _ _ hx
  have HE := Lib.hid (str_eqB y.nm nm)
  obtain ⟨ynm, yev, yer⟩ := y
  show Calls _ _ #[.agg #[.string ynm, yev], .pointer (some ⟨zb, 0, none⟩)] _ _
  go_enter Tryd.func67, Tryd.ntmps67
  go_wp2_with fail
  go_ret
  exact ⟨ret_bB HE.out, (Below.refl _ _).alloc (Nat.le_refl _) _⟩
theorem lkLkF_any (y : Lk) (zb : Nat) (nm : ByteArray) (w : World) (hx : w.cell? ⟨zb, 0, none⟩ = some (.string nm)) :
    Calls Tryd.prog 70 (#[.agg (lkCells y).toArray] ++ #[.pointer (some ⟨zb, 0, none⟩)]) w fun e w' => e = .returned (.bool (decide (y.nm = nm))) ∧ Below w.heap.size w w' := by
  have hlt : zb < w.heap.size := World.block_lt_of_cell? _ _ hx
  have HE := Lib.hid (str_eqB y.nm nm)
  obtain ⟨ynm, yto⟩ := y
  show Calls _ _ #[.agg #[.string ynm, .string yto], .pointer (some ⟨zb, 0, none⟩)] _ _
  go_enter Tryd.func70, Tryd.ntmps70
  go_wp2_with fail
  go_ret
  exact ⟨ret_bB HE.out, (Below.refl _ _).alloc (Nat.le_refl _) _⟩

set_option maxHeartbeats 2000000 in
theorem lkZone_any (b : Bk) (rv zv lv : Value) (cb tb : Nat) (nm : ByteArray) (w : World) (hC : ChkBx w cb rv zv lv) (hT : w.cell? ⟨tb, 0, none⟩ = some (.pointer (some ⟨cb, 0, none⟩))) (hz : RowsAt zoCells 2 w.heap.size w zv b.zones) :
    Calls Tryd.prog 66 (#[.string nm] ++ #[.pointer (some ⟨tb, 0, none⟩)]) w fun e w' => e = .returned (.bool (isZone b nm)) ∧ Below w.heap.size w w' := by
  have htb : tb < w.heap.size := World.block_lt_of_cell? _ _ hT
  have hcb : cb < w.heap.size := (Array.getElem?_eq_some_iff.mp hC).1
  obtain ⟨W0, eW⟩ : ∃ W0, w.alloc (.cells #[.string nm] 9) = W0 := ⟨_, rfl⟩
  have hb0 : Below w.heap.size w W0 := by rw [← eW]; exact (Below.refl _ _).alloc (Nat.le_refl _) _
  have hbx : W0.heap[w.heap.size]? = some (.cells #[.string nm] 9 (0, 0)) := by rw [← eW]; exact heap_alloc_new w _
  have hl0 : w.heap.size < W0.heap.size := by rw [← eW]; simp
  have x0 := (cell_of_row W0 _ 0 _ _ _ hbx).trans rfl
  have z1 := (cell_of_row W0 cb 1 _ _ _ (hC.below hb0 hcb)).trans rfl
  have t0 := (hb0.cell (p := ⟨tb, 0, none⟩) htb).trans hT
  have eg : ∀ args w, (callFunc 67 args).run Tryd.prog w = .ok (.enter 67 args) w := enters_of Tryd.func67 (by kernel_rfl) rfl
  have HH := Lib.hid (hasZo_any b.zones zv 67 #[.pointer (some ⟨w.heap.size, 0, none⟩)] (fun y => decide (y.nm = nm)) W0 eg ((hz.below hb0 (Nat.le_refl _)).mono hb0.size) (fun W hb y hy => lkZoF_any y w.heap.size nm W ((hb.cell (p := ⟨w.heap.size, 0, none⟩) hl0).trans x0)))
  obtain ⟨H, eH⟩ : ∃ H, isZone b nm = H := ⟨_, rfl⟩
  have eH2 : (b.zones.any fun y => decide (y.nm = nm)) = H := eH
  rw [eH2] at HH
  rw [eH]
  have HEW := Lib.hid eW
  have HB0 := Lib.hid hb0
  have hcb0 : cb < W0.heap.size := by omega
  have htb0 : tb < W0.heap.size := by omega
  clear eW hb0 hC hbx hT hz eH eH2 eg
  go_enter Tryd.func66, Tryd.ntmps66
  go_upto_region 1 with fail
  rw [HEW.out]
  go_wp2_with fail
  refine HH.out.mono ?_
  rintro e w1 ⟨rfl, hb⟩
  have HB1 := Lib.hid hb
  clear hb
  go_wp2_with fail
  go_ret
  exact ⟨rfl, HB0.out.trans (HB1.out.mono HB0.out.size)⟩
set_option maxHeartbeats 2000000 in
theorem lkLink_any (l : List Lk) (v : Value) (nm : ByteArray) (w : World) (hz : RowsAt lkCells 2 w.heap.size w v l) :
    Calls Tryd.prog 68 (#[v, .string nm] ++ #[]) w fun e w' => e = .returned (.bool (isLink l nm)) ∧ Below w.heap.size w w' := by
  obtain ⟨W0, eW⟩ : ∃ W0, w.alloc (.cells #[.string nm] 9) = W0 := ⟨_, rfl⟩
  have hb0 : Below w.heap.size w W0 := by rw [← eW]; exact (Below.refl _ _).alloc (Nat.le_refl _) _
  have hbx : W0.heap[w.heap.size]? = some (.cells #[.string nm] 9 (0, 0)) := by rw [← eW]; exact heap_alloc_new w _
  have hl0 : w.heap.size < W0.heap.size := by rw [← eW]; simp
  have x0 := (cell_of_row W0 _ 0 _ _ _ hbx).trans rfl
  have eg : ∀ args w, (callFunc 70 args).run Tryd.prog w = .ok (.enter 70 args) w := enters_of Tryd.func70 (by kernel_rfl) rfl
  have HH := Lib.hid (hasLk_any l v 70 #[.pointer (some ⟨w.heap.size, 0, none⟩)] (fun y => decide (y.nm = nm)) W0 eg ((hz.below hb0 (Nat.le_refl _)).mono hb0.size) (fun W hb y hy => lkLkF_any y w.heap.size nm W ((hb.cell (p := ⟨w.heap.size, 0, none⟩) hl0).trans x0)))
  obtain ⟨H, eH⟩ : ∃ H, isLink l nm = H := ⟨_, rfl⟩
  have eH2 : (l.any fun y => decide (y.nm = nm)) = H := eH
  rw [eH2] at HH
  rw [eH]
  have HEW := Lib.hid eW
  have HB0 := Lib.hid hb0
  clear eW hb0 hbx hz eH eH2 eg
  go_enter Tryd.func68, Tryd.ntmps68
  go_upto_region 1 with fail
  rw [HEW.out]
  go_wp2_with fail
  refine HH.out.mono ?_
  rintro e w1 ⟨rfl, hb⟩
  have HB1 := Lib.hid hb
  clear hb
  go_wp2_with fail
  go_ret
  exact ⟨rfl, HB0.out.trans (HB1.out.mono HB0.out.size)⟩
theorem linkChk_3 (b : Bk) (be : List Lk) (x : Lk) (h : nameB x.nm = false ∨ nameB x.to = false) : linkChk b be x = 3 := by unfold linkChk; rw [if_pos h]
theorem linkChk_7 (b : Bk) (be : List Lk) (x : Lk) (h : nameB x.nm = true) (h2 : nameB x.to = true) (h3 : isZone b x.nm = true ∨ isLink be x.nm = true) : linkChk b be x = 7 := by unfold linkChk; rw [if_neg (by rw [h, h2]; simp), if_pos h3]
theorem linkChk_6 (b : Bk) (be : List Lk) (x : Lk) (h : nameB x.nm = true) (h2 : nameB x.to = true) (h3 : ¬ (isZone b x.nm = true ∨ isLink be x.nm = true)) (h4 : isZone b x.to = false ∧ isLink b.links x.to = false) : linkChk b be x = 6 := by unfold linkChk; rw [if_neg (by rw [h, h2]; simp), if_neg h3, if_pos h4]
theorem linkChk_0 (b : Bk) (be : List Lk) (x : Lk) (h : nameB x.nm = true) (h2 : nameB x.to = true) (h3 : ¬ (isZone b x.nm = true ∨ isLink be x.nm = true)) (h4 : ¬ (isZone b x.to = false ∧ isLink b.links x.to = false)) : linkChk b be x = 0 := by unfold linkChk; rw [if_neg (by rw [h, h2]; simp), if_neg h3, if_neg h4]
end Go.Proofs.YtlgdilpmdoofiaaDoor
