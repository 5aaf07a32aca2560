/- The reference's Eq of two equal lists (types, changes, bytes), TableEq of two equal tables. -/
import Derived.Test.YtddkedghpapepaaPack3
import Derived.Laws.StructEq
namespace Go.Proofs.Ytddkedghpapepaa
open Go.RowKit Go.Joins
set_option linter.unusedVariables false
set_option linter.unusedSimpArgs false

theorem fieldsTy : (Try.prog.fieldsOf 32).toList = [{ name := "Offset", type := 3, offset := 0, embedded := false, tag := "", pkgPath := "", byteOffset := 0 }, { name := "Save", type := 4, offset := 1, embedded := false, tag := "", pkgPath := "", byteOffset := 8 }, { name := "Name", type := 9, offset := 2, embedded := false, tag := "", pkgPath := "", byteOffset := 16 }] := by kernel_rfl
theorem fieldsCh : (Try.prog.fieldsOf 36).toList = [{ name := "At", type := 3, offset := 0, embedded := false, tag := "", pkgPath := "", byteOffset := 0 }, { name := "Type", type := 3, offset := 1, embedded := false, tag := "", pkgPath := "", byteOffset := 8 }] := by kernel_rfl
theorem agg_ty : Try.prog.underlying 32 = some (.struct (Try.prog.fieldsOf 32)) := by kernel_rfl
theorem agg_ch : Try.prog.underlying 36 = some (.struct (Try.prog.fieldsOf 36)) := by kernel_rfl
theorem stood_ty : Try.prog.stoodInHeld 32 = false := by kernel_rfl
theorem stood_ch : Try.prog.stoodInHeld 36 = false := by kernel_rfl

theorem neq_ty (x : Ty) (W : World) : (binOp .neq 32 (.agg #[.int .i64 x.off, .bool x.save, .string x.name]) (.agg #[.int .i64 x.off, .bool x.save, .string x.name])).run Try.prog W = .ok (.bool false) W := by
  rw [run_neq_struct, run_equalIn_agg W 9999 _ _ _ agg_ty stood_ty, fieldsTy]
  simp [go_sem, Op.eqFields, Try.underlying3, Try.underlying4, Try.underlying9]
theorem neq_ch (x : Ch) (W : World) : (binOp .neq 36 (.agg #[.int .i64 x.t, .int .i64 x.k]) (.agg #[.int .i64 x.t, .int .i64 x.k])).run Try.prog W = .ok (.bool false) W := by
  rw [run_neq_struct, run_equalIn_agg W 9999 _ _ _ agg_ch stood_ch, fieldsCh]
  simp [go_sem, Op.eqFields, Try.underlying3]

set_option maxRecDepth 100000 in
set_option maxHeartbeats 1000000 in
theorem EqTy_same (l : List Ty) (v v2 : Value) (w : World) (h1 : SlTy w v l) (h2 : SlTy w v2 l) :
    Calls Try.prog 38 #[v, v2] w fun e w' => e = .returned (.bool true) ∧ Below w.heap.size w w' := by
  obtain ⟨p, cap, rfl, g1⟩ := h1.shape
  have hl := h2.size
  unfold maxLen at hl
  obtain ⟨p2, cap2, rfl, g2⟩ := h2.shape
  have HA := Lib.hid g1
  have HB := Lib.hid g2
  clear h1 h2 g1 g2
  go_enter Try.func38, Try.ntmps38
  go_wp2
  go_loopw [14] (fun i wr => ∃ k : Nat, k ≤ l.length ∧ i = .int .i64 k ∧ Below w.heap.size w wr) (fun i _ => l.length - (intOf i).toNat)
  case atStart => exact ⟨0, Nat.zero_le _, rfl, Below.refl _ _⟩
  case round =>
    obtain ⟨k, hk, rfl, hbel⟩ := hrel
    by_cases hlt : k < l.length
    · obtain ⟨x, ex⟩ : ∃ x, l[k] = x := ⟨_, rfl⟩
      have hne0 : l ≠ [] := by intro e; rw [e] at hlt; simp at hlt
      obtain ⟨b, o, rfl, hb, ha0⟩ := HA.out hne0
      obtain ⟨b2, o2, rfl, hb2, hc0⟩ := HB.out hne0
      have ha := (ha0 k hlt).below hbel hb
      have hc := (hc0 k hlt).below hbel hb2
      rw [ex] at ha hc
      obtain ⟨a0, a1, a2⟩ := ha
      obtain ⟨d0, d1, d2⟩ := hc
      have hlb := World.block_lt_of_cell? _ _ a0
      have hlb2 := World.block_lt_of_cell? _ _ d0
      have hne := neq_ty x
      have HBL := Lib.hid hbel
      clear ex hbel ha0 hc0 hne0
      go_wp2
      go_quiet (fail)
      go_wp2
      go_roundw
      case rel => exact ⟨k + 1, by omega, by go_num, below_drewN' (HBL.out.alloc HBL.out.size _) _⟩
      case measure => simp [intOf]; omega
    · go_wp2
      go_ret
      exact ⟨rfl, hbel⟩
set_option maxRecDepth 100000 in
set_option maxHeartbeats 1000000 in
theorem EqCh_same (l : List Ch) (v v2 : Value) (w : World) (h1 : SlCh w v l) (h2 : SlCh w v2 l) :
    Calls Try.prog 39 #[v, v2] w fun e w' => e = .returned (.bool true) ∧ Below w.heap.size w w' := by
  obtain ⟨p, cap, rfl, g1⟩ := h1.shape
  have hl := h2.size
  unfold maxLen at hl
  obtain ⟨p2, cap2, rfl, g2⟩ := h2.shape
  have HA := Lib.hid g1
  have HB := Lib.hid g2
  clear h1 h2 g1 g2
  go_enter Try.func39, Try.ntmps39
  go_wp2
  go_loopw [14] (fun i wr => ∃ k : Nat, k ≤ l.length ∧ i = .int .i64 k ∧ Below w.heap.size w wr) (fun i _ => l.length - (intOf i).toNat)
  case atStart => exact ⟨0, Nat.zero_le _, rfl, Below.refl _ _⟩
  case round =>
    obtain ⟨k, hk, rfl, hbel⟩ := hrel
    by_cases hlt : k < l.length
    · obtain ⟨x, ex⟩ : ∃ x, l[k] = x := ⟨_, rfl⟩
      have hne0 : l ≠ [] := by intro e; rw [e] at hlt; simp at hlt
      obtain ⟨b, o, rfl, hb, ha0⟩ := HA.out hne0
      obtain ⟨b2, o2, rfl, hb2, hc0⟩ := HB.out hne0
      have ha := (ha0 k hlt).below hbel hb
      have hc := (hc0 k hlt).below hbel hb2
      rw [ex] at ha hc
      obtain ⟨a0, a1⟩ := ha
      obtain ⟨d0, d1⟩ := hc
      have hlb := World.block_lt_of_cell? _ _ a0
      have hlb2 := World.block_lt_of_cell? _ _ d0
      have hne := neq_ch x
      have HBL := Lib.hid hbel
      clear ex hbel ha0 hc0 hne0
      go_wp2
      go_quiet (fail)
      go_wp2
      go_roundw
      case rel => exact ⟨k + 1, by omega, by go_num, below_drewN' (HBL.out.alloc HBL.out.size _) _⟩
      case measure => simp [intOf]; omega
    · go_wp2
      go_ret
      exact ⟨rfl, hbel⟩
set_option maxRecDepth 100000 in
set_option maxHeartbeats 1000000 in
theorem EqB_same (l : List Int) (A A2 : Option Addr) (cap cap2 : Nat) (w : World) (hl : l.length ≤ 140737488351232) (h1 : Lib.BytesIn w A l.length l) (h2 : Lib.BytesIn w A2 l.length l) :
    Calls Try.prog 26 #[.slice A l.length cap, .slice A2 l.length cap2] w fun e w' => e = .returned (.bool true) ∧ w = w' := by
  have HA := Lib.hid h1
  have HB := Lib.hid h2
  clear h1 h2
  go_enter Try.func26, Try.ntmps26
  go_wp2
  go_loop [14] (fun i => ∃ k : Nat, k ≤ l.length ∧ i = .int .i64 k) (fun i => l.length - (intOf i).toNat)
  case atStart => exact ⟨0, Nat.zero_le _, rfl⟩
  case round =>
    obtain ⟨k, hk, rfl⟩ := hrel
    by_cases hlt : k < l.length
    · obtain ⟨b, o, rfl, ha⟩ := HA.out (by omega)
      obtain ⟨b2, o2, rfl, hc⟩ := HB.out (by omega)
      have a0 := ha k hlt
      have d0 := hc k hlt
      obtain ⟨x, ex⟩ : ∃ x, l.getD k 0 = x := ⟨_, rfl⟩
      rw [ex] at a0 d0
      clear ha hc ex
      go_wp2
      go_round
      case rel => exact ⟨k + 1, by omega, by go_num⟩
      case measure => simp [intOf]; omega
    · go_wp2
      go_ret
      exact ⟨rfl, rfl⟩

set_option maxRecDepth 100000 in
set_option maxHeartbeats 1000000 in
theorem TableEq_same (t : Tab) (v v2 : Value) (w : World) (h1 : TabAt w v t) (h2 : TabAt w v2 t) :
    Calls Try.prog 25 #[v, v2] w fun e w' => e = .returned (.bool true) ∧ Below w.heap.size w w' := by
  obtain ⟨sv, cv, rfl, a1, a2⟩ := h1.val
  obtain ⟨sv2, cv2, rfl, d1, d2⟩ := h2.val
  obtain ⟨W0, hW0⟩ : ∃ W0, (w.alloc (.cells #[sv, .int .i64 t.first, cv] 25)).alloc (.cells #[sv2, .int .i64 t.first, cv2] 25) = W0 := ⟨_, rfl⟩
  have hb : Below w.heap.size w W0 := by rw [← hW0]; exact ((Below.refl _ _).alloc (Nat.le_refl _) _).alloc (by simp) _
  have e1 : W0.heap[w.heap.size]? = some (.cells #[sv, .int .i64 t.first, cv] 25 (0, 0)) := by
    rw [← hW0, Below.heap_alloc _ _ _ (by simp)]; exact heap_alloc_new w _
  have e2 : W0.heap[w.heap.size + 1]? = some (.cells #[sv2, .int .i64 t.first, cv2] 25 (0, 0)) := by
    rw [← hW0]; have := heap_alloc_new (w.alloc (.cells #[sv, .int .i64 t.first, cv] 25)) (.cells #[sv2, .int .i64 t.first, cv2] 25)
    simpa using this
  have HET := Lib.hid (EqTy_same t.types sv sv2 W0 (a1.below hb) (d1.below hb))
  have HEC : Hid (∀ W, Below w.heap.size w W → Calls Try.prog 39 #[cv, cv2] W fun e w' => e = .returned (.bool true) ∧ Below W.heap.size W w') := fun W hW => EqCh_same t.chs cv cv2 W (a2.below hW) (d2.below hW)
  have HW0 := Lib.hid hW0
  have HB := Lib.hid hb
  have E1 := Lib.hid e1
  have E2 := Lib.hid e2
  have hz : w.heap.size < W0.heap.size := (Array.getElem?_eq_some_iff.1 e1).1
  have hz2 : w.heap.size + 1 < W0.heap.size := (Array.getElem?_eq_some_iff.1 e2).1
  clear h1 h2 a1 a2 d1 d2 hW0 hb e1 e2
  go_enter Try.func25, Try.ntmps25
  go_upto_region 1 with (fail)
  rw [HW0.out]
  obtain ⟨c0, c1, c2⟩ := cellsX E1.out
  obtain ⟨d0, d1, d2⟩ := cellsX E2.out
  go_wp2_with fail
  refine HET.out.mono ?_
  rintro e w1 ⟨rfl, hb1⟩
  obtain ⟨c0, c1, c2⟩ := cellsX ((hb1.block _ hz).trans E1.out)
  obtain ⟨d0, d1, d2⟩ := cellsX ((hb1.block _ hz2).trans E2.out)
  have HB1 := Lib.hid (HB.out.trans (hb1.mono HB.out.size))
  go_wp2_with fail
  refine (HEC.out _ HB1.out).mono ?_
  rintro e w2 ⟨rfl, hb2⟩
  go_wp2
  go_ret
  exact ⟨rfl, HB1.out.trans (hb2.mono HB1.out.size)⟩
end Go.Proofs.Ytddkedghpapepaa
