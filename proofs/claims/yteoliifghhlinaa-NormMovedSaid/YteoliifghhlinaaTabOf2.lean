/- table.Of: the type at a time, of a table that may be. -/
import Derived.Test.YteoliifghhlinaaTabOf
import Derived.StillTailTactics
namespace Go.Proofs.Yteoliifghhlinaa
open Go.RowKit
set_option linter.unusedVariables false
set_option linter.unusedSimpArgs false

def tAt (m : List Ch) (i : Nat) : Int := (m[i]?.map (·.t)).getD 0
def kAt (m : List Ch) (i : Nat) : Int := (m[i]?.map (·.k)).getD 0
def cntOf (m : List Ch) (x : Int) : Nat := cntF (fun i => decide (x < tAt m i)) m.length
def kOf (f : Int) (m : List Ch) (x : Int) : Int := if cntOf m x = 0 then f else kAt m (cntOf m x - 1)
def tyD (l : List Ty) (k : Int) : Ty := l[k.toNat]?.getD ⟨0, false, ⟨#[]⟩⟩
def tyOf (t : Tab) (x : Int) : Ty := tyD t.types (kOf t.first t.chs x)
abbrev tyV (x : Ty) : Value := .agg #[.int .i64 x.off, .bool x.save, .string x.name]

theorem cntOf_le (m : List Ch) (x : Int) : cntOf m x ≤ m.length := by
  unfold cntOf cntF
  have := List.countP_le_length (p := fun i => !decide (x < tAt m i)) (l := List.range m.length)
  simpa using this

set_option maxHeartbeats 1000000 in
theorem Of1_any (bt bx b2 o2 n cap : Nat) (x y : Int) (i : Nat) (W : World) (hi : i < n)
    (ht : W.cell? ⟨bt, 2, none⟩ = some (.slice (some ⟨b2, o2, none⟩) n cap)) (hx : W.cell? ⟨bx, 0, none⟩ = some (.int .i64 x)) (hc : W.cell? ⟨b2, o2 + i * 2, none⟩ = some (.int .i64 y)) :
    Calls Try.prog 45 (#[.int .i64 i] ++ #[.pointer (some ⟨bt, 0, none⟩), .pointer (some ⟨bx, 0, none⟩)]) W fun e w' => e = .returned (.bool (decide (x < y))) ∧ Below W.heap.size W w' := by
  have hiz : (i : Int) < (n : Int) := by omega
  go_enter Try.func45, Try.ntmps45
  go_wp2
  go_quiet (fail)
  go_wp2
  go_ret
  exact ⟨rfl, below_drewN' (Below.refl _ _) _⟩

set_option maxHeartbeats 2000000 in
/-- a table with changes -/
theorem Of_chs (l : List Ty) (f : Nat) (m : List Ch) (x : Int) (b o cap b2 o2 cap2 : Nat) (w : World) (hb : b < w.heap.size) (hty : ∀ i (h : i < l.length), tyAt w b (o + i * 3) l[i])
    (hb2 : b2 < w.heap.size) (hch : ∀ i (h : i < m.length), chAt w b2 (o2 + i * 2) m[i]) (hf : f < l.length) (hk : ∀ i, i < m.length → 0 ≤ kAt m i ∧ kAt m i < l.length) (hsz : m.length ≤ 1000) (hl : l.length ≤ 250)
    (hsort : ∀ i j, i ≤ j → j < m.length → tAt m i ≤ tAt m j) (T : Ty) (hT : tyD l (kOf f m x) = T) :
    Calls Try.prog 30 #[.agg #[.slice (some ⟨b, o, none⟩) l.length cap, .int .i64 f, .slice (some ⟨b2, o2, none⟩) m.length cap2], .int .i64 x] w fun e w' => e = .returned (tyV T) ∧ Below w.heap.size w w' := by
  obtain ⟨W0, hW0⟩ : ∃ W0, ((w.alloc (.cells #[.slice (some ⟨b, o, none⟩) l.length cap, .int .i64 f, .slice (some ⟨b2, o2, none⟩) m.length cap2] 25)).alloc (.cells #[.int .i64 x] 3)).alloc (.cells #[.int .i64 0, .bool false, .string ⟨#[]⟩] 46) = W0 := ⟨_, rfl⟩
  have hB0 : Below w.heap.size w W0 := by rw [← hW0]; exact (((Below.refl _ w).alloc (Nat.le_refl _) _).alloc (by simp) _).alloc (by simp; omega) _
  have hS0 : W0.heap.size = w.heap.size + 3 := by rw [← hW0]; simp
  have q2 : W0.cell? ⟨w.heap.size, 2, none⟩ = some (.slice (some ⟨b2, o2, none⟩) m.length cap2) := by rw [← hW0]; simp [go_sem]
  have q0 : W0.cell? ⟨w.heap.size, 0, none⟩ = some (.slice (some ⟨b, o, none⟩) l.length cap) := by rw [← hW0]; simp [go_sem]
  have q1 : W0.cell? ⟨w.heap.size, 1, none⟩ = some (.int .i64 f) := by rw [← hW0]; simp [go_sem]
  have qx : W0.cell? ⟨w.heap.size + 1, 0, none⟩ = some (.int .i64 x) := by rw [← hW0]; simp [go_sem]
  have r0 : W0.cell? ⟨w.heap.size + 1 + 1, 0, none⟩ = some (.int .i64 0) := by rw [← hW0]; simp [go_sem]
  have r1 : W0.cell? ⟨w.heap.size + 1 + 1, 1, none⟩ = some (.bool false) := by rw [← hW0]; simp [go_sem]
  have r2 : W0.cell? ⟨w.heap.size + 1 + 1, 2, none⟩ = some (.string ⟨#[]⟩) := by rw [← hW0]; simp [go_sem]
  have z0 : ∀ j, W0.frozen? ⟨w.heap.size + 1 + 1, j, none⟩ = false := by intro j; rw [← hW0]; simp [go_sem]
  have eg : ∀ args w, (callFunc 45 args).run Try.prog w = .ok (.enter 45 args) w := enters_of Try.func45 (by kernel_rfl) rfl
  have hS := Search_any 45 #[.pointer (some ⟨w.heap.size, 0, none⟩), .pointer (some ⟨w.heap.size + 1, 0, none⟩)] m.length (fun i => decide (x < tAt m i)) W0 eg (by omega)
    (fun W i hbW hi => Of1_any w.heap.size (w.heap.size + 1) b2 o2 m.length cap2 x (tAt m i) i W hi ((hbW.cell (by show w.heap.size < _; omega)).trans q2) ((hbW.cell (by show w.heap.size + 1 < _; omega)).trans qx)
      ((hbW.cell (by show b2 < _; omega)).trans ((hB0.cell (by exact hb2)).trans (by rw [(hch i hi).1]; simp [tAt, hi]))))
    (fun i j hij hj h => by
      have := hsort i j hij hj
      simp only [decide_eq_true_eq] at h ⊢; omega)
  have hle := cntOf_le m x
  have hcd : cntF (fun i => decide (x < tAt m i)) m.length = cntOf m x := rfl
  rw [hcd] at hS
  obtain ⟨c, hc⟩ : ∃ c, cntOf m x = c := ⟨_, rfl⟩
  rw [hc] at hS hle
  unfold kOf at hT
  rw [hc] at hT
  have HS := Lib.hid hS
  have HW0 := Lib.hid hW0
  have HTY := Lib.hid hty
  have HCH := Lib.hid hch
  have HK := Lib.hid hk
  have HT := Lib.hid hT
  have Q0 := Lib.hid q0
  have Q1 := Lib.hid q1
  have Q2 := Lib.hid q2
  have R0 := Lib.hid r0
  have R1 := Lib.hid r1
  have R2 := Lib.hid r2
  have Z0 := Lib.hid z0
  have S0 := Lib.hid hS0
  clear hS hW0 hty hch hk hsort eg hcd hc hT q0 q1 q2 qx r0 r1 r2 z0 hS0
  cases c with
  | zero =>
    have hT2 : Hid (l[f] = T) := by
      have := HT.out
      rw [if_pos rfl] at this
      show l[f] = T
      rw [← this]; simp [tyD, hf]
    have hat := HTY.out f hf
    rw [hT2.out] at hat
    go_enter Try.func30, Try.ntmps30
    go_wp2_with fail
    rw [HW0.out]
    refine HS.out.mono ?_
    rintro e w1 ⟨rfl, hb1⟩
    have s0 := S0.out
    obtain ⟨c0, c1, c2⟩ := (hat.mono hB0 hb).mono hb1 (by omega)
    have q0 := (hb1.cell (p := ⟨w.heap.size, 0, none⟩) (by show w.heap.size < _; omega)).trans Q0.out
    have q1 := (hb1.cell (p := ⟨w.heap.size, 1, none⟩) (by show w.heap.size < _; omega)).trans Q1.out
    have r0 := (hb1.cell (p := ⟨w.heap.size + 1 + 1, 0, none⟩) (by show w.heap.size + 1 + 1 < _; omega)).trans R0.out
    have r1 := (hb1.cell (p := ⟨w.heap.size + 1 + 1, 1, none⟩) (by show w.heap.size + 1 + 1 < _; omega)).trans R1.out
    have r2 := (hb1.cell (p := ⟨w.heap.size + 1 + 1, 2, none⟩) (by show w.heap.size + 1 + 1 < _; omega)).trans R2.out
    have f0 := (hb1.frozen (p := ⟨w.heap.size + 1 + 1, 0, none⟩) (by show w.heap.size + 1 + 1 < _; omega)).trans (Z0.out 0)
    have f1 := (hb1.frozen (p := ⟨w.heap.size + 1 + 1, 1, none⟩) (by show w.heap.size + 1 + 1 < _; omega)).trans (Z0.out 1)
    have f2 := (hb1.frozen (p := ⟨w.heap.size + 1 + 1, 2, none⟩) (by show w.heap.size + 1 + 1 < _; omega)).trans (Z0.out 2)
    have hB1 := hB0.trans (hb1.mono (by omega))
    have HB1 := Lib.hid hB1
    clear hb1 hB1 s0
    go_wp2
    refine bodyPost_ret (v := tyV T) (by simp [results, Try.results30, go_sem, r0, r1, r2]) rfl ⟨rfl, ?_⟩
    exact ((HB1.out.setCell (by simp; omega) _).setCell (by simp; omega) _).setCell (by simp; omega) _
  | succ c =>
    have hcm : c < m.length := by omega
    have hk2 := HK.out c hcm
    obtain ⟨kn, hkn⟩ := Int.eq_ofNat_of_zero_le hk2.1
    rw [hkn] at hk2
    have hkl : kn < l.length := by omega
    have hT2 : Hid (l[kn] = T) := by
      have := HT.out
      rw [if_neg (by omega), Nat.add_sub_cancel, hkn] at this
      show l[kn] = T
      rw [← this]; simp [tyD, hkl]
    have ek : m[c].k = kn := by rw [← hkn]; simp [kAt, hcm]
    have EK := Lib.hid ek
    have hat := HTY.out kn hkl
    rw [hT2.out] at hat
    have hac := HCH.out c hcm
    have p1 : IntKind.i64.wrap ((c : Int) + 1 - 1) = (c : Int) := by rw [show (c : Int) + 1 - 1 = c by omega]; exact IntWalk.i64_in _ (by omega)
    have p2 : (c : Int) < (m.length : Int) := by omega
    have p3 : (kn : Int) < (l.length : Int) := by omega
    have p4 : (((c : Int) + 1) == 0) = false := by simp; omega
    clear hk2 hkn ek
    go_enter Try.func30, Try.ntmps30
    go_wp2_with fail
    rw [HW0.out]
    refine HS.out.mono ?_
    rintro e w1 ⟨rfl, hb1⟩
    have s0 := S0.out
    obtain ⟨c0, c1, c2⟩ := (hat.mono hB0 hb).mono hb1 (by omega)
    have d1 := (hac.mono hB0 hb2).mono hb1 (by omega)
    have d2 := d1.2
    rw [EK.out] at d2
    clear d1
    have q2 := (hb1.cell (p := ⟨w.heap.size, 2, none⟩) (by show w.heap.size < _; omega)).trans Q2.out
    have q0 := (hb1.cell (p := ⟨w.heap.size, 0, none⟩) (by show w.heap.size < _; omega)).trans Q0.out
    have q1 := (hb1.cell (p := ⟨w.heap.size, 1, none⟩) (by show w.heap.size < _; omega)).trans Q1.out
    have r0 := (hb1.cell (p := ⟨w.heap.size + 1 + 1, 0, none⟩) (by show w.heap.size + 1 + 1 < _; omega)).trans R0.out
    have r1 := (hb1.cell (p := ⟨w.heap.size + 1 + 1, 1, none⟩) (by show w.heap.size + 1 + 1 < _; omega)).trans R1.out
    have r2 := (hb1.cell (p := ⟨w.heap.size + 1 + 1, 2, none⟩) (by show w.heap.size + 1 + 1 < _; omega)).trans R2.out
    have f0 := (hb1.frozen (p := ⟨w.heap.size + 1 + 1, 0, none⟩) (by show w.heap.size + 1 + 1 < _; omega)).trans (Z0.out 0)
    have f1 := (hb1.frozen (p := ⟨w.heap.size + 1 + 1, 1, none⟩) (by show w.heap.size + 1 + 1 < _; omega)).trans (Z0.out 1)
    have f2 := (hb1.frozen (p := ⟨w.heap.size + 1 + 1, 2, none⟩) (by show w.heap.size + 1 + 1 < _; omega)).trans (Z0.out 2)
    have hB1 := hB0.trans (hb1.mono (by omega))
    have HB1 := Lib.hid hB1
    clear hb1 hB1 s0
    rw [show (((c + 1 : Nat)) : Int) = (c : Int) + 1 by omega]
    go_wp2
    go_region
    all_goals
      go_wp2
      refine bodyPost_ret (v := tyV T) (by simp [results, Try.results30, go_sem, r0, r1, r2]) rfl ⟨rfl, ?_⟩
      exact ((HB1.out.drew.setCell (by simp; omega) _).setCell (by simp; omega) _).setCell (by simp; omega) _

set_option maxHeartbeats 2000000 in
/-- a table without changes -/
theorem Of_nochs (l : List Ty) (f : Nat) (x : Int) (b o cap cap2 : Nat) (p2 : Option Addr) (w : World) (hb : b < w.heap.size) (hty : ∀ i (h : i < l.length), tyAt w b (o + i * 3) l[i])
    (hf : f < l.length) (hl : l.length ≤ 250) (T : Ty) (hT : tyD l f = T) :
    Calls Try.prog 30 #[.agg #[.slice (some ⟨b, o, none⟩) l.length cap, .int .i64 f, .slice p2 0 cap2], .int .i64 x] w fun e w' => e = .returned (tyV T) ∧ Below w.heap.size w w' := by
  obtain ⟨W0, hW0⟩ : ∃ W0, ((w.alloc (.cells #[.slice (some ⟨b, o, none⟩) l.length cap, .int .i64 f, .slice p2 0 cap2] 25)).alloc (.cells #[.int .i64 x] 3)).alloc (.cells #[.int .i64 0, .bool false, .string ⟨#[]⟩] 46) = W0 := ⟨_, rfl⟩
  have hB0 : Below w.heap.size w W0 := by rw [← hW0]; exact (((Below.refl _ w).alloc (Nat.le_refl _) _).alloc (by simp) _).alloc (by simp; omega) _
  have hS0 : W0.heap.size = w.heap.size + 3 := by rw [← hW0]; simp
  have q2 : W0.cell? ⟨w.heap.size, 2, none⟩ = some (.slice p2 0 cap2) := by rw [← hW0]; simp [go_sem]
  have q0 : W0.cell? ⟨w.heap.size, 0, none⟩ = some (.slice (some ⟨b, o, none⟩) l.length cap) := by rw [← hW0]; simp [go_sem]
  have q1 : W0.cell? ⟨w.heap.size, 1, none⟩ = some (.int .i64 f) := by rw [← hW0]; simp [go_sem]
  have qx : W0.cell? ⟨w.heap.size + 1, 0, none⟩ = some (.int .i64 x) := by rw [← hW0]; simp [go_sem]
  have r0 : W0.cell? ⟨w.heap.size + 1 + 1, 0, none⟩ = some (.int .i64 0) := by rw [← hW0]; simp [go_sem]
  have r1 : W0.cell? ⟨w.heap.size + 1 + 1, 1, none⟩ = some (.bool false) := by rw [← hW0]; simp [go_sem]
  have r2 : W0.cell? ⟨w.heap.size + 1 + 1, 2, none⟩ = some (.string ⟨#[]⟩) := by rw [← hW0]; simp [go_sem]
  have z0 : ∀ j, W0.frozen? ⟨w.heap.size + 1 + 1, j, none⟩ = false := by intro j; rw [← hW0]; simp [go_sem]
  have eg : ∀ args w, (callFunc 45 args).run Try.prog w = .ok (.enter 45 args) w := enters_of Try.func45 (by kernel_rfl) rfl
  have hS := Search_any 45 #[.pointer (some ⟨w.heap.size, 0, none⟩), .pointer (some ⟨w.heap.size + 1, 0, none⟩)] 0 (fun i => true) W0 eg (by omega) (fun W i hbW hi => absurd hi (by omega)) (fun i j hij hj h => absurd hj (by omega))
  have hcd : cntF (fun i => true) 0 = 0 := rfl
  rw [hcd] at hS
  have HS := Lib.hid hS
  have HW0 := Lib.hid hW0
  have HTY := Lib.hid hty
  have HT := Lib.hid hT
  have Q0 := Lib.hid q0
  have Q1 := Lib.hid q1
  have R0 := Lib.hid r0
  have R1 := Lib.hid r1
  have R2 := Lib.hid r2
  have Z0 := Lib.hid z0
  have S0 := Lib.hid hS0
  clear hS hW0 hty eg hcd hT q0 q1 q2 qx r0 r1 r2 z0 hS0
  have hT2 : Hid (l[f] = T) := by
    show l[f] = T
    rw [← HT.out]; simp [tyD, hf]
  have hat := HTY.out f hf
  rw [hT2.out] at hat
  go_enter Try.func30, Try.ntmps30
  go_wp2_with fail
  rw [HW0.out]
  refine HS.out.mono ?_
  rintro e w1 ⟨rfl, hb1⟩
  have s0 := S0.out
  obtain ⟨c0, c1, c2⟩ := (hat.mono hB0 hb).mono hb1 (by omega)
  have q0 := (hb1.cell (p := ⟨w.heap.size, 0, none⟩) (by show w.heap.size < _; omega)).trans Q0.out
  have q1 := (hb1.cell (p := ⟨w.heap.size, 1, none⟩) (by show w.heap.size < _; omega)).trans Q1.out
  have r0 := (hb1.cell (p := ⟨w.heap.size + 1 + 1, 0, none⟩) (by show w.heap.size + 1 + 1 < _; omega)).trans R0.out
  have r1 := (hb1.cell (p := ⟨w.heap.size + 1 + 1, 1, none⟩) (by show w.heap.size + 1 + 1 < _; omega)).trans R1.out
  have r2 := (hb1.cell (p := ⟨w.heap.size + 1 + 1, 2, none⟩) (by show w.heap.size + 1 + 1 < _; omega)).trans R2.out
  have f0 := (hb1.frozen (p := ⟨w.heap.size + 1 + 1, 0, none⟩) (by show w.heap.size + 1 + 1 < _; omega)).trans (Z0.out 0)
  have f1 := (hb1.frozen (p := ⟨w.heap.size + 1 + 1, 1, none⟩) (by show w.heap.size + 1 + 1 < _; omega)).trans (Z0.out 1)
  have f2 := (hb1.frozen (p := ⟨w.heap.size + 1 + 1, 2, none⟩) (by show w.heap.size + 1 + 1 < _; omega)).trans (Z0.out 2)
  have hB1 := hB0.trans (hb1.mono (by omega))
  have HB1 := Lib.hid hB1
  clear hb1 hB1 s0
  go_wp2
  refine bodyPost_ret (v := tyV T) (by simp [results, Try.results30, go_sem, r0, r1, r2]) rfl ⟨rfl, ?_⟩
  exact ((HB1.out.setCell (by simp; omega) _).setCell (by simp; omega) _).setCell (by simp; omega) _

end Go.Proofs.Yteoliifghhlinaa
