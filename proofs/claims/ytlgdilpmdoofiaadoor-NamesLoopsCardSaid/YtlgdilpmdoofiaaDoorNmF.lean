/- ZoneEq of equal zones; the closed fact of names. -/
import Derived.Test.YtlgdilpmdoofiaaDoorNmE
import Derived.Test.YtlgdilpmdoofiaaDoorRowLit
import Derived.Test.YtlgdilpmdoofiaaDoorNmZ
namespace Go.Proofs.YtlgdilpmdoofiaaDoor
open Go.RowKit Go.Joins Go.Maps
open Classical
set_option linter.unusedVariables false
set_option linter.unusedSimpArgs false

theorem EqEr_self (l : List Er) (v v2 : Value) (w : World) (h1 : RowsAt erL 5 w.heap.size w v l) (h2 : RowsAt erL 5 w.heap.size w v2 l) :
    Calls Tryd.prog 33 #[v, v2] w fun e w' => e = .returned (.bool true) ∧ Below w.heap.size w w' := by
  have h := EqEr_any l l v v2 w h1 h2
  have e : decide (l = l) = true := decide_eq_true rfl
  rwa [e] at h
set_option maxRecDepth 100000 in
set_option maxHeartbeats 1000000 in
theorem ZoneEq_self (nm : ByteArray) (l : List Er) (v v2 : Value) (w : World) (h1 : RowsAt erL 5 w.heap.size w v l) (h2 : RowsAt erL 5 w.heap.size w v2 l) :
    Calls Tryd.prog 24 #[.agg #[.string nm, v], .agg #[.string nm, v2]] w fun e w' => e = .returned (.bool true) ∧ Below w.heap.size w w' := by
  obtain ⟨p1, c1, rfl, hl1, hr1⟩ := h1
  obtain ⟨p2, c2, rfl, hl2, hr2⟩ := h2
  obtain ⟨W0, eW⟩ : ∃ W0, (w.alloc (.cells #[.string nm, .slice p1 l.length c1] 53)).alloc (.cells #[.string nm, .slice p2 l.length c2] 53) = W0 := ⟨_, rfl⟩
  have hb0 : Below w.heap.size w W0 := by rw [← eW]; exact ((Below.refl _ _).alloc (Nat.le_refl _) _).alloc (by simp) _
  have hx0 : W0.heap[w.heap.size]? = some (.cells #[.string nm, .slice p1 l.length c1] 53 (0, 0)) := by
    rw [← eW]
    exact (Below.heap_alloc _ _ _ (by simp)).trans (heap_alloc_new w _)
  have hx1 : W0.heap[w.heap.size + 1]? = some (.cells #[.string nm, .slice p2 l.length c2] 53 (0, 0)) := by
    rw [← eW]
    exact alloc_at _ _ _ (by simp)
  have x0 := (cell_of_row W0 _ 0 _ _ _ hx0).trans rfl
  have x1 := (cell_of_row W0 _ 1 _ _ _ hx0).trans rfl
  have y0 := (cell_of_row W0 _ 0 _ _ _ hx1).trans rfl
  have y1 := (cell_of_row W0 _ 1 _ _ _ hx1).trans rfl
  have g1 : RowsAt erL 5 W0.heap.size W0 (.slice p1 l.length c1) l := (RowsAt.below ⟨p1, c1, rfl, hl1, hr1⟩ hb0 (Nat.le_refl _)).mono hb0.size
  have g2 : RowsAt erL 5 W0.heap.size W0 (.slice p2 l.length c2) l := (RowsAt.below ⟨p2, c2, rfl, hl2, hr2⟩ hb0 (Nat.le_refl _)).mono hb0.size
  have HEQ := Lib.hid (EqEr_self l _ _ W0 g1 g2)
  have HEW := Lib.hid eW
  have HB0 := Lib.hid hb0
  have t0 : (nm.toList == nm.toList) = true := beq_self_eq_true _
  clear eW hb0 hx0 hx1 g1 g2 hr1 hr2
  go_enter Tryd.func24, Tryd.ntmps24
  go_upto_region 1 with fail
  rw [HEW.out]
  go_wp2_with fail
  refine HEQ.out.mono ?_
  rintro e w1 ⟨rfl, hb1⟩
  go_wp2_with fail
  go_ret
  exact ⟨rfl, HB0.out.trans (hb1.mono HB0.out.size)⟩

def er0 : Er := ⟨0, ⟨#[]⟩, 0, ⟨#[88]⟩, 0⟩
def bk0 (ev : Value) : Bk := ⟨[], [⟨⟨#[65]⟩, ev, [er0]⟩], [⟨⟨#[66]⟩, ⟨#[67]⟩⟩, ⟨⟨#[67]⟩, ⟨#[65]⟩⟩]⟩
theorem bk0_chk (ev : Value) : bkChk (bk0 ev) = 0 := by kernel_rfl
theorem bk0_rsv (ev : Value) : rsv (bk0 ev) ⟨#[66]⟩ = (some ⟨⟨#[65]⟩, ev, [er0]⟩, 0) := by
  rw [rsv_go (bk0_chk ev), size_DL (bk0_chk ev)]
  kernel_rfl

set_option maxRecDepth 100000 in
set_option maxHeartbeats 4000000 in
theorem named_any (w : World) (hm : MaxLen w) (ht : Tab10 w) :
    Calls Tryd.prog 22 #[] w fun e w' => e = .returned (.bool true) ∧ Below w.heap.size w w' := by
  obtain ⟨W1, eW⟩ : ∃ W1, (((w.alloc (.cells #[.int .i64 0, .string ⟨#[]⟩, .int .i64 0, .string ⟨#[88]⟩, .int .i64 0] 65)).alloc (.cells #[.string ⟨#[65]⟩, .slice (some ⟨w.heap.size, 0, none⟩) 1 1] 53)).alloc (.cells #[.string ⟨#[66]⟩, .string ⟨#[67]⟩, .string ⟨#[67]⟩, .string ⟨#[65]⟩] 58)).alloc (.cells #[.slice none 0 0, .slice (some ⟨w.heap.size + 1, 0, none⟩) 1 1, .slice (some ⟨w.heap.size + 1 + 1, 0, none⟩) 2 2] 26) = W1 := ⟨_, rfl⟩
  have hb1 : Below w.heap.size w W1 := by rw [← eW]; exact ((((Below.refl _ _).alloc (Nat.le_refl _) _).alloc (by simp) _).alloc (by simp <;> omega) _).alloc (by simp <;> omega) _
  have hz1 : W1.heap.size = w.heap.size + 4 := by rw [← eW]; simp
  have hE : W1.heap[w.heap.size]? = some (.cells #[.int .i64 0, .string ⟨#[]⟩, .int .i64 0, .string ⟨#[88]⟩, .int .i64 0] 65 (0, 0)) := by
    rw [← eW, Below.heap_alloc _ _ _ (by simp <;> omega), Below.heap_alloc _ _ _ (by simp <;> omega), Below.heap_alloc _ _ _ (by simp)]
    exact heap_alloc_new w _
  have hZ : W1.heap[w.heap.size + 1]? = some (.cells #[.string ⟨#[65]⟩, .slice (some ⟨w.heap.size, 0, none⟩) 1 1] 53 (0, 0)) := by
    rw [← eW, Below.heap_alloc _ _ _ (by simp <;> omega), Below.heap_alloc _ _ _ (by simp)]
    exact alloc_at _ _ _ (by simp)
  have hL : W1.heap[w.heap.size + 1 + 1]? = some (.cells #[.string ⟨#[66]⟩, .string ⟨#[67]⟩, .string ⟨#[67]⟩, .string ⟨#[65]⟩] 58 (0, 0)) := by
    rw [← eW, Below.heap_alloc _ _ _ (by simp)]
    exact alloc_at _ _ _ (by simp)
  have hx1 : W1.heap[w.heap.size + 1 + 1 + 1]? = some (.cells #[.slice none 0 0, .slice (some ⟨w.heap.size + 1, 0, none⟩) 1 1, .slice (some ⟨w.heap.size + 1 + 1, 0, none⟩) 2 2] 26 (0, 0)) := by
    rw [← eW]
    exact alloc_at _ _ _ (by simp)
  have x0 := (cell_of_row W1 _ 0 _ _ _ hx1).trans rfl
  have x1 := (cell_of_row W1 _ 1 _ _ _ hx1).trans rfl
  have x2 := (cell_of_row W1 _ 2 _ _ _ hx1).trans rfl
  have rz : RowsAt zoCells 2 W1.heap.size W1 (.slice (some ⟨w.heap.size + 1, 0, none⟩) 1 1) ([⟨⟨#[65]⟩, .slice (some ⟨w.heap.size, 0, none⟩) 1 1, [er0]⟩] : List Zo) := by
    refine rows_lit (cells := zoCells) (k := 2) (fun _ => rfl) hZ ?_ ?_ ?_ ?_
    · rfl
    · rfl
    · decide
    · omega
  have rl : RowsAt lkCells 2 W1.heap.size W1 (.slice (some ⟨w.heap.size + 1 + 1, 0, none⟩) 2 2) ([⟨⟨#[66]⟩, ⟨#[67]⟩⟩, ⟨⟨#[67]⟩, ⟨#[65]⟩⟩] : List Lk) := by
    refine rows_lit (cells := lkCells) (k := 2) (fun _ => rfl) hL ?_ ?_ ?_ ?_
    · rfl
    · rfl
    · decide
    · omega
  have hBK : BookAt W1.heap.size W1 (.slice none 0 0) (.slice (some ⟨w.heap.size + 1, 0, none⟩) 1 1) (.slice (some ⟨w.heap.size + 1 + 1, 0, none⟩) 2 2) (bk0 (.slice (some ⟨w.heap.size, 0, none⟩) 1 1)) := by
    refine ⟨rows_nilN, rz, ?_, rl, fun r hr => absurd hr (List.not_mem_nil), ?_, ?_⟩
    · intro z hz
      obtain rfl := List.mem_singleton.1 hz
      refine rows_lit (cells := fun x : Er => (erCells x).toList) (k := 5) (l := [er0]) (fun _ => rfl) hE ?_ ?_ ?_ ?_
      · rfl
      · rfl
      · decide
      · omega
    · intro z hz
      obtain rfl := List.mem_singleton.1 hz
      refine ⟨(show ByteArray.size ⟨#[65]⟩ ≤ 140737488351232 by decide), fun x hx => ?_⟩
      obtain rfl := List.mem_singleton.1 hx
      exact ⟨by decide, by decide, by decide, by decide, by decide, by decide, by decide, by decide⟩
    · intro x hx
      rcases List.mem_cons.1 hx with rfl | hx
      · exact ⟨by decide, by decide⟩
      · obtain rfl := List.mem_singleton.1 hx
        exact ⟨by decide, by decide⟩
  have hrs := Resolve_any _ _ _ _ ⟨#[66]⟩ W1 hBK (by decide) (hm.below hb1) (ht.below hb1)
  rw [bk0_rsv] at hrs
  have HRS := Lib.hid hrs
  have HEW := Lib.hid eW
  have HB1 := Lib.hid hb1
  clear eW hb1 hz1 hE hZ hL hx1 hBK hrs hm ht rz rl
  go_enter Tryd.func22, Tryd.ntmps22
  go_upto_region 2 with fail
  rw [HEW.out]
  go_wp2_with fail
  refine HRS.out.mono ?_
  rintro e w2 ⟨vo, rfl, hrow, hb2⟩
  obtain ⟨A, c, rfl⟩ := own_sliceN hrow
  have HB2 := Lib.hid (HB1.out.trans (hb2.mono HB1.out.size))
  clear hrow hb2 x0 x1 x2 HRS
  simp only [zNm, zEr]
  go_wp2_with fail
  go_ret
  exact ⟨rfl, HB2.out.alloc HB2.out.size _⟩
end Go.Proofs.YtlgdilpmdoofiaaDoor
