/- The closed fact of states. table.Of: the type at a time, of a table that may be. table.Of of a table that may be. sample(): what it returns. table.At of a table that is right. tabled(): the closed fact of the laws of tables. The last step of a law's row where of the new world 'Below' alone is known. (A lemma that the guide gives to copy.) All arguments of a law read behind the call as before it, where of old memory nothing has turned. What a row's list of package-level variables gives: strconv's table of powers of ten. What a row's list of package-level variables gives, and bytealg's MaxLen. turns.Make: what it returns. A law's argument of type Rule, as it comes in. -/
import Derived.Test.YthggojpdcgcmaaaGreatDoorQ11
import Derived.Test.YthggojpdcgcmaaaGreatDoorQ13
import Derived.Test.YthggojpdcgcmaaaGreatDoorQ08
import Derived.Test.YthggojpdcgcmaaaGreatDoorQ09
import Derived.StillTailTactics
import Derived.Lib.SmallJoins
import Derived.RangeFuncRecord
import Derived.Test.YthggojpdcgcmaaaGreatDoorRows
import Derived.WalkKit
import Derived.ProofKit
import Derived.OpenShut
import Derived.Below
import Derived.ChangeSame
import Derived.Carry
import Derived.Test.YthggojpdcgcmaaaGreatDoorCards
import Derived.Test.YthggojpdcgcmaaaGreatDoorTie
import Derived.Test.YthggojpdcgcmaaaGreatDoorQ01
import Derived.LaidMore
import Derived.Deep.DeepHandedRow
import Derived.Deep.DeepWitnessRowRef
import Derived.Lib.LaidTab
import Derived.Stop.LaidErr
import Derived.Test.YthggojpdcgcmaaaGreatDoorQ07
import Derived.Deep.DeepCutAuto
import Derived.Deep.CutRange
import Derived.Deep.CutBlock
import Derived.Test.YthggojpdcgcmaaaGreatDoorQ02
import Derived.Deep.Slices
import Derived.Deep.Fields
namespace Go.Proofs.YthggojpdcgcmaaaGreatDoor
open Go.RowKit Go.Joins Go.Maps
open Classical
set_option linter.unusedVariables false
set_option linter.unusedSimpArgs false

def aB : ByteArray := ⟨#[65]⟩
def cetB : ByteArray := ⟨#[67, 69, 84]⟩
def fix0 : Er := ⟨3600, ⟨#[]⟩, 0, cetB, 0⟩
theorem fix_chk (ev : Value) : bkChk (oneB [] aB ev [fix0]) = 0 := by kernel_rfl
theorem fix_ty (t : Int) : stF [] [fix0] t = ⟨3600, false, cetB⟩ := by
  have e : abbrF cetB.data.toList 0 [45] = ([67, 69, 84], 0) := abbrF_self (by decide) (by decide) (by decide)
  unfold stF tdA
  rw [which_one]
  have e1 : eraAt [fix0] 0 = fix0 := rfl
  rw [e1, (tdE_nil (rules := []) (x := fix0) rfl).2]
  unfold tdTy nmT
  rw [svT_0 rfl]
  show (⟨3600 + 0, decide ((0 : Int) < 0), txt (abbrF cetB.data.toList 0 [45]).1⟩ : Ty) = _
  rw [e]
  rfl
theorem fix_st (ev : Value) : stR (oneB [] aB ev [fix0]) aB 0 = (0, ⟨3600, false, cetB⟩) := by
  rw [stR_some (oneB_rsv (fix_chk ev)), if_neg (by decide), which_one]
  have e1 : eraAt [fix0] 0 = fix0 := rfl
  have e2 : tdE (oneB [] aB ev [fix0]).rules fix0 = 0 := (tdE_nil rfl).1
  rw [e1, e2, if_neg (by simp)]
  have e3 : stF (oneB [] aB ev [fix0]).rules [fix0] 0 = stF [] [fix0] 0 := rfl
  rw [e3, fix_ty]
theorem fixed_any (w : World) : Calls Tryz.prog 31 #[] w fun e w' => ∃ Z E, e = .returned (.agg #[.slice none 0 0, .slice (some ⟨Z, 0, none⟩) 1 1, .slice none 0 0]) ∧ Hid (BookAt w'.heap.size w' (.slice none 0 0) (.slice (some ⟨Z, 0, none⟩) 1 1) (.slice none 0 0) (oneB [] aB (.slice (some ⟨E, 0, none⟩) 1 1) [fix0])) ∧ Below w.heap.size w w' := by
  obtain ⟨W1, eW⟩ : ∃ W1, ((w.alloc (.cells #[.slice none 0 0, .slice (some ⟨w.heap.size + 1 + 1, 0, none⟩) 1 1, .slice none 0 0] 26)).alloc (.cells #[.int .i64 3600, .string ⟨#[]⟩, .int .i64 0, .string ⟨#[67, 69, 84]⟩, .int .i64 0] 35)).alloc (.cells #[.string ⟨#[65]⟩, .slice (some ⟨w.heap.size + 1, 0, none⟩) 1 1] 38) = W1 := ⟨_, rfl⟩
  have hb1 : Below w.heap.size w W1 := by rw [← eW]; exact (((Below.refl _ _).alloc (Nat.le_refl _) _).alloc (by simp) _).alloc (by simp; omega) _
  have hz1 : W1.heap.size = w.heap.size + 3 := by rw [← eW]; simp
  have hR : W1.heap[w.heap.size]? = some (.cells #[.slice none 0 0, .slice (some ⟨w.heap.size + 1 + 1, 0, none⟩) 1 1, .slice none 0 0] 26 (0, 0)) := by
    rw [← eW, Below.heap_alloc _ _ _ (by simp; omega), Below.heap_alloc _ _ _ (by simp)]
    exact heap_alloc_new w _
  have hE : W1.heap[w.heap.size + 1]? = some (.cells #[.int .i64 3600, .string ⟨#[]⟩, .int .i64 0, .string ⟨#[67, 69, 84]⟩, .int .i64 0] 35 (0, 0)) := by
    rw [← eW, Below.heap_alloc _ _ _ (by simp)]
    exact alloc_at _ _ _ (by simp)
  have hZ : W1.heap[w.heap.size + 1 + 1]? = some (.cells #[.string ⟨#[65]⟩, .slice (some ⟨w.heap.size + 1, 0, none⟩) 1 1] 38 (0, 0)) := by
    rw [← eW]
    exact alloc_at _ _ _ (by simp)
  have v0 : W1.cell? ⟨w.heap.size, 0, none⟩ = some (.slice none 0 0) := (cell_of_row W1 _ 0 _ _ _ hR).trans rfl
  have v1 : W1.cell? ⟨w.heap.size, 1, none⟩ = some (.slice (some ⟨w.heap.size + 1 + 1, 0, none⟩) 1 1) := (cell_of_row W1 _ 1 _ _ _ hR).trans rfl
  have v2 : W1.cell? ⟨w.heap.size, 2, none⟩ = some (.slice none 0 0) := (cell_of_row W1 _ 2 _ _ _ hR).trans rfl
  have HEW := Lib.hid eW
  have HB1 := Lib.hid hb1
  have HZ1 := Lib.hid hz1
  have HE := Lib.hid hE
  have HZ := Lib.hid hZ
  clear eW hb1 hz1 hR hE hZ
  go_enter Tryz.func31, Tryz.ntmps31
  go_wp2_with fail
  rw [HEW.out]
  refine bodyPost_ret (v := .agg #[.slice none 0 0, .slice (some ⟨w.heap.size + 1 + 1, 0, none⟩) 1 1, .slice none 0 0]) (by simp [results, Tryz.results31, go_sem, v0, v1, v2]) rfl ⟨w.heap.size + 1 + 1, w.heap.size + 1, rfl, ?_, HB1.out⟩
  have hz := HZ1.out
  show BookAt _ _ _ _ _ _
  refine ⟨rows_nilN, ?_, ?_, rows_nilN, fun r hr => absurd hr (List.not_mem_nil), ?_, fun x hx => absurd hx (List.not_mem_nil)⟩
  · refine rows_lit (cells := zoCells) (k := 2) (l := [(⟨aB, .slice (some ⟨w.heap.size + 1, 0, none⟩) 1 1, [fix0]⟩ : Zo)]) (fun _ => rfl) HZ.out ?_ ?_ ?_ ?_
    · rfl
    · rfl
    · decide
    · omega
  · intro z hz
    obtain rfl := List.mem_singleton.1 hz
    refine rows_lit (cells := fun x : Er => (erCells x).toList) (k := 5) (l := [fix0]) (fun _ => rfl) HE.out ?_ ?_ ?_ ?_
    · rfl
    · rfl
    · decide
    · omega
  · intro z hz
    obtain rfl := List.mem_singleton.1 hz
    refine ⟨(show ByteArray.size ⟨#[65]⟩ ≤ 140737488351232 by decide), fun x hx => ?_⟩
    obtain rfl := List.mem_singleton.1 hx
    exact ⟨by decide, by decide, by decide, by decide, by decide, by decide, by decide, by decide⟩

set_option maxHeartbeats 4000000 in
theorem stated_any (MK : MakeSays) (w : World) (hm : MaxLen w) (ht : Tab10 w) :
    Calls Tryz.prog 12 #[] w fun e w' => e = .returned (.bool true) ∧ Below w.heap.size w w' := by
  have HM := Lib.hid hm
  have HT := Lib.hid ht
  have HFX := Lib.hid (fixed_any w)
  clear hm ht
  go_enter Tryz.func12, Tryz.ntmps12
  go_wp2_with fail
  refine HFX.out.mono ?_
  rintro e w1 ⟨Z, E, rfl, HBK, hb1⟩
  have hst := StAt_any MK _ _ _ _ aB 0 w1 HBK.out (by decide) (by decide) (by decide) (HM.out.below hb1) (HT.out.below hb1)
  rw [fix_st] at hst
  have HST : Hid (Calls Tryz.prog 16 #[.agg #[.slice none 0 0, .slice (some ⟨Z, 0, none⟩) 1 1, .slice none 0 0], .string ⟨#[65]⟩, .int .i64 0] w1 fun e w' => e = .returned (.tuple #[.agg #[.int .i64 3600, .bool false, .string ⟨#[67, 69, 84]⟩], .int .i64 0]) ∧ Below w1.heap.size w1 w') := hst
  have HB1 := Lib.hid hb1
  clear hst hb1 HFX
  go_wp2_with fail
  refine HST.out.mono ?_
  rintro e w2 ⟨rfl, hb2⟩
  have HB2 := Lib.hid (HB1.out.trans (hb2.mono HB1.out.size))
  have hq := fun W => eql_tySelf 3600 false ⟨#[67, 69, 84]⟩ W
  clear hb2 HST
  go_wp2_with fail
  go_ret
  exact ⟨rfl, HB2.out.alloc HB2.out.size _⟩
end Go.Proofs.YthggojpdcgcmaaaGreatDoor
namespace Go.Proofs.YthggojpdcgcmaaaGreatDoor
open Go.RowKit
set_option linter.unusedVariables false
set_option linter.unusedSimpArgs false

set_option maxHeartbeats 1000000 in
theorem Of1_any (bt bx b2 o2 n cap : Nat) (x y : Int) (i : Nat) (W : World) (hi : i < n)
    (ht : W.cell? ⟨bt, 2, none⟩ = some (.slice (some ⟨b2, o2, none⟩) n cap)) (hx : W.cell? ⟨bx, 0, none⟩ = some (.int .i64 x)) (hc : W.cell? ⟨b2, o2 + i * 2, none⟩ = some (.int .i64 y)) :
    Calls Tryz.prog 83 (#[.int .i64 i] ++ #[.pointer (some ⟨bt, 0, none⟩), .pointer (some ⟨bx, 0, none⟩)]) W fun e w' => e = .returned (.bool (decide (x < y))) ∧ Below W.heap.size W w' := by
  have hiz : (i : Int) < (n : Int) := by omega
  go_enter Tryz.func83, Tryz.ntmps83
  go_wp2
  go_quiet (fail)
  go_wp2
  go_ret
  exact ⟨rfl, below_drewN' (Below.refl _ _) _⟩

set_option maxHeartbeats 2000000 in
/-- a table with changes -/
theorem Of_chs (l : List Ty) (f : Nat) (m : List Ch) (x : Int) (b o cap b2 o2 cap2 : Nat) (w : World) (hb : b < w.heap.size) (hty : ∀ i (h : i < l.length), tyAt w b (o + i * 3) l[i])
    (hb2 : b2 < w.heap.size) (hch : ∀ i (h : i < m.length), chAt w b2 (o2 + i * 2) m[i]) (hf : f < l.length) (hk : ∀ i, i < m.length → 0 ≤ kAt m i ∧ kAt m i < l.length) (hsz : m.length ≤ 1000) (hl : l.length ≤ 250)
    (hsort : ∀ i j, i ≤ j → j < m.length → tAt m i ≤ tAt m j) (T : Ty) (hT : tyD l (kOf f m x) = T) :
    Calls Tryz.prog 48 #[.agg #[.slice (some ⟨b, o, none⟩) l.length cap, .int .i64 f, .slice (some ⟨b2, o2, none⟩) m.length cap2], .int .i64 x] w fun e w' => e = .returned (tyV T) ∧ Below w.heap.size w w' := by
  obtain ⟨W0, hW0⟩ : ∃ W0, ((w.alloc (.cells #[.slice (some ⟨b, o, none⟩) l.length cap, .int .i64 f, .slice (some ⟨b2, o2, none⟩) m.length cap2] 52)).alloc (.cells #[.int .i64 x] 3)).alloc (.cells #[.int .i64 0, .bool false, .string ⟨#[]⟩] 40) = W0 := ⟨_, rfl⟩
  have hB0 : Below w.heap.size w W0 := by rw [← hW0]; exact (((Below.refl _ w).alloc (Nat.le_refl _) _).alloc (by simp) _).alloc (by simp; omega) _
  have hS0 : W0.heap.size = w.heap.size + 3 := by rw [← hW0]; simp
  have q2 : W0.cell? ⟨w.heap.size, 2, none⟩ = some (.slice (some ⟨b2, o2, none⟩) m.length cap2) := by rw [← hW0]; simp [go_sem]
  have q0 : W0.cell? ⟨w.heap.size, 0, none⟩ = some (.slice (some ⟨b, o, none⟩) l.length cap) := by rw [← hW0]; simp [go_sem]
  have q1 : W0.cell? ⟨w.heap.size, 1, none⟩ = some (.int .i64 f) := by rw [← hW0]; simp [go_sem]
  have qx : W0.cell? ⟨w.heap.size + 1, 0, none⟩ = some (.int .i64 x) := by rw [← hW0]; simp [go_sem]
  have r0 : W0.cell? ⟨w.heap.size + 1 + 1, 0, none⟩ = some (.int .i64 0) := by rw [← hW0]; simp [go_sem]
  have r1 : W0.cell? ⟨w.heap.size + 1 + 1, 1, none⟩ = some (.bool false) := by rw [← hW0]; simp [go_sem]
  have r2 : W0.cell? ⟨w.heap.size + 1 + 1, 2, none⟩ = some (.string ⟨#[]⟩) := by rw [← hW0]; simp [go_sem]
  have z0 : ∀ j, W0.frozen? ⟨w.heap.size + 1 + 1, j, none⟩ = false := by intro j; rw [← hW0]; simp [go_sem]
  have eg : ∀ args w, (callFunc 83 args).run Tryz.prog w = .ok (.enter 83 args) w := enters_of Tryz.func83 (by kernel_rfl) rfl
  have hS := Search_any 83 #[.pointer (some ⟨w.heap.size, 0, none⟩), .pointer (some ⟨w.heap.size + 1, 0, none⟩)] m.length (fun i => decide (x < tAt m i)) W0 eg (by omega)
    (fun W i hbW hi => Of1_any w.heap.size (w.heap.size + 1) b2 o2 m.length cap2 x (tAt m i) i W hi ((hbW.cell (by show w.heap.size < _; omega)).trans q2) ((hbW.cell (by show w.heap.size + 1 < _; omega)).trans qx)
      ((hbW.cell (by show b2 < _; omega)).trans ((hB0.cell (by exact hb2)).trans (by rw [(hch i hi).1]; simp [tAt, hi]))))
    (fun i j hij hj h => by
      have := hsort i j hij hj
      simp only [decide_eq_true_eq] at h ⊢; omega)
  have hle := cntOf_le m x
  have hcd : cntF (fun i => decide (x < tAt m i)) m.length = cntOf m x := rfl
  rw [hcd] at hS
  obtain ⟨c, hc⟩ : ∃ c, cntOf m x = c := ⟨_, rfl⟩
  rw [hc] at hS hle
  unfold kOf at hT
  rw [hc] at hT
  have HS := Lib.hid hS
  have HW0 := Lib.hid hW0
  have HTY := Lib.hid hty
  have HCH := Lib.hid hch
  have HK := Lib.hid hk
  have HT := Lib.hid hT
  have Q0 := Lib.hid q0
  have Q1 := Lib.hid q1
  have Q2 := Lib.hid q2
  have R0 := Lib.hid r0
  have R1 := Lib.hid r1
  have R2 := Lib.hid r2
  have Z0 := Lib.hid z0
  have S0 := Lib.hid hS0
  clear hS hW0 hty hch hk hsort eg hcd hc hT q0 q1 q2 qx r0 r1 r2 z0 hS0
  cases c with
  | zero =>
    have hT2 : Hid (l[f] = T) := by
      have := HT.out
      rw [if_pos rfl] at this
      show l[f] = T
      rw [← this]; simp [tyD, hf]
    have hat := HTY.out f hf
    rw [hT2.out] at hat
    go_enter Tryz.func48, Tryz.ntmps48
    go_wp2_with fail
    rw [HW0.out]
    refine HS.out.mono ?_
    rintro e w1 ⟨rfl, hb1⟩
    have s0 := S0.out
    obtain ⟨c0, c1, c2⟩ := (hat.mono hB0 hb).mono hb1 (by omega)
    have q0 := (hb1.cell (p := ⟨w.heap.size, 0, none⟩) (by show w.heap.size < _; omega)).trans Q0.out
    have q1 := (hb1.cell (p := ⟨w.heap.size, 1, none⟩) (by show w.heap.size < _; omega)).trans Q1.out
    have r0 := (hb1.cell (p := ⟨w.heap.size + 1 + 1, 0, none⟩) (by show w.heap.size + 1 + 1 < _; omega)).trans R0.out
    have r1 := (hb1.cell (p := ⟨w.heap.size + 1 + 1, 1, none⟩) (by show w.heap.size + 1 + 1 < _; omega)).trans R1.out
    have r2 := (hb1.cell (p := ⟨w.heap.size + 1 + 1, 2, none⟩) (by show w.heap.size + 1 + 1 < _; omega)).trans R2.out
    have f0 := (hb1.frozen (p := ⟨w.heap.size + 1 + 1, 0, none⟩) (by show w.heap.size + 1 + 1 < _; omega)).trans (Z0.out 0)
    have f1 := (hb1.frozen (p := ⟨w.heap.size + 1 + 1, 1, none⟩) (by show w.heap.size + 1 + 1 < _; omega)).trans (Z0.out 1)
    have f2 := (hb1.frozen (p := ⟨w.heap.size + 1 + 1, 2, none⟩) (by show w.heap.size + 1 + 1 < _; omega)).trans (Z0.out 2)
    have hB1 := hB0.trans (hb1.mono (by omega))
    have HB1 := Lib.hid hB1
    clear hb1 hB1 s0
    go_wp2
    refine bodyPost_ret (v := tyV T) (by simp [results, Tryz.results48, go_sem, r0, r1, r2]) rfl ⟨rfl, ?_⟩
    exact ((HB1.out.setCell (by simp; omega) _).setCell (by simp; omega) _).setCell (by simp; omega) _
  | succ c =>
    have hcm : c < m.length := by omega
    have hk2 := HK.out c hcm
    obtain ⟨kn, hkn⟩ := Int.eq_ofNat_of_zero_le hk2.1
    rw [hkn] at hk2
    have hkl : kn < l.length := by omega
    have hT2 : Hid (l[kn] = T) := by
      have := HT.out
      rw [if_neg (by omega), Nat.add_sub_cancel, hkn] at this
      show l[kn] = T
      rw [← this]; simp [tyD, hkl]
    have ek : m[c].k = kn := by rw [← hkn]; simp [kAt, hcm]
    have EK := Lib.hid ek
    have hat := HTY.out kn hkl
    rw [hT2.out] at hat
    have hac := HCH.out c hcm
    have p1 : IntKind.i64.wrap ((c : Int) + 1 - 1) = (c : Int) := by rw [show (c : Int) + 1 - 1 = c by omega]; exact IntWalk.i64_in _ (by omega)
    have p2 : (c : Int) < (m.length : Int) := by omega
    have p3 : (kn : Int) < (l.length : Int) := by omega
    have p4 : (((c : Int) + 1) == 0) = false := by simp; omega
    clear hk2 hkn ek
    go_enter Tryz.func48, Tryz.ntmps48
    go_wp2_with fail
    rw [HW0.out]
    refine HS.out.mono ?_
    rintro e w1 ⟨rfl, hb1⟩
    have s0 := S0.out
    obtain ⟨c0, c1, c2⟩ := (hat.mono hB0 hb).mono hb1 (by omega)
    have d1 := (hac.mono hB0 hb2).mono hb1 (by omega)
    have d2 := d1.2
    rw [EK.out] at d2
    clear d1
    have q2 := (hb1.cell (p := ⟨w.heap.size, 2, none⟩) (by show w.heap.size < _; omega)).trans Q2.out
    have q0 := (hb1.cell (p := ⟨w.heap.size, 0, none⟩) (by show w.heap.size < _; omega)).trans Q0.out
    have q1 := (hb1.cell (p := ⟨w.heap.size, 1, none⟩) (by show w.heap.size < _; omega)).trans Q1.out
    have r0 := (hb1.cell (p := ⟨w.heap.size + 1 + 1, 0, none⟩) (by show w.heap.size + 1 + 1 < _; omega)).trans R0.out
    have r1 := (hb1.cell (p := ⟨w.heap.size + 1 + 1, 1, none⟩) (by show w.heap.size + 1 + 1 < _; omega)).trans R1.out
    have r2 := (hb1.cell (p := ⟨w.heap.size + 1 + 1, 2, none⟩) (by show w.heap.size + 1 + 1 < _; omega)).trans R2.out
    have f0 := (hb1.frozen (p := ⟨w.heap.size + 1 + 1, 0, none⟩) (by show w.heap.size + 1 + 1 < _; omega)).trans (Z0.out 0)
    have f1 := (hb1.frozen (p := ⟨w.heap.size + 1 + 1, 1, none⟩) (by show w.heap.size + 1 + 1 < _; omega)).trans (Z0.out 1)
    have f2 := (hb1.frozen (p := ⟨w.heap.size + 1 + 1, 2, none⟩) (by show w.heap.size + 1 + 1 < _; omega)).trans (Z0.out 2)
    have hB1 := hB0.trans (hb1.mono (by omega))
    have HB1 := Lib.hid hB1
    clear hb1 hB1 s0
    rw [show (((c + 1 : Nat)) : Int) = (c : Int) + 1 by omega]
    go_wp2
    go_region
    all_goals
      go_wp2
      refine bodyPost_ret (v := tyV T) (by simp [results, Tryz.results48, go_sem, r0, r1, r2]) rfl ⟨rfl, ?_⟩
      exact ((HB1.out.drew.setCell (by simp; omega) _).setCell (by simp; omega) _).setCell (by simp; omega) _

set_option maxHeartbeats 2000000 in
/-- a table without changes -/
theorem Of_nochs (l : List Ty) (f : Nat) (x : Int) (b o cap cap2 : Nat) (p2 : Option Addr) (w : World) (hb : b < w.heap.size) (hty : ∀ i (h : i < l.length), tyAt w b (o + i * 3) l[i])
    (hf : f < l.length) (hl : l.length ≤ 250) (T : Ty) (hT : tyD l f = T) :
    Calls Tryz.prog 48 #[.agg #[.slice (some ⟨b, o, none⟩) l.length cap, .int .i64 f, .slice p2 0 cap2], .int .i64 x] w fun e w' => e = .returned (tyV T) ∧ Below w.heap.size w w' := by
  obtain ⟨W0, hW0⟩ : ∃ W0, ((w.alloc (.cells #[.slice (some ⟨b, o, none⟩) l.length cap, .int .i64 f, .slice p2 0 cap2] 52)).alloc (.cells #[.int .i64 x] 3)).alloc (.cells #[.int .i64 0, .bool false, .string ⟨#[]⟩] 40) = W0 := ⟨_, rfl⟩
  have hB0 : Below w.heap.size w W0 := by rw [← hW0]; exact (((Below.refl _ w).alloc (Nat.le_refl _) _).alloc (by simp) _).alloc (by simp; omega) _
  have hS0 : W0.heap.size = w.heap.size + 3 := by rw [← hW0]; simp
  have q2 : W0.cell? ⟨w.heap.size, 2, none⟩ = some (.slice p2 0 cap2) := by rw [← hW0]; simp [go_sem]
  have q0 : W0.cell? ⟨w.heap.size, 0, none⟩ = some (.slice (some ⟨b, o, none⟩) l.length cap) := by rw [← hW0]; simp [go_sem]
  have q1 : W0.cell? ⟨w.heap.size, 1, none⟩ = some (.int .i64 f) := by rw [← hW0]; simp [go_sem]
  have qx : W0.cell? ⟨w.heap.size + 1, 0, none⟩ = some (.int .i64 x) := by rw [← hW0]; simp [go_sem]
  have r0 : W0.cell? ⟨w.heap.size + 1 + 1, 0, none⟩ = some (.int .i64 0) := by rw [← hW0]; simp [go_sem]
  have r1 : W0.cell? ⟨w.heap.size + 1 + 1, 1, none⟩ = some (.bool false) := by rw [← hW0]; simp [go_sem]
  have r2 : W0.cell? ⟨w.heap.size + 1 + 1, 2, none⟩ = some (.string ⟨#[]⟩) := by rw [← hW0]; simp [go_sem]
  have z0 : ∀ j, W0.frozen? ⟨w.heap.size + 1 + 1, j, none⟩ = false := by intro j; rw [← hW0]; simp [go_sem]
  have eg : ∀ args w, (callFunc 83 args).run Tryz.prog w = .ok (.enter 83 args) w := enters_of Tryz.func83 (by kernel_rfl) rfl
  have hS := Search_any 83 #[.pointer (some ⟨w.heap.size, 0, none⟩), .pointer (some ⟨w.heap.size + 1, 0, none⟩)] 0 (fun i => true) W0 eg (by omega) (fun W i hbW hi => absurd hi (by omega)) (fun i j hij hj h => absurd hj (by omega))
  have hcd : cntF (fun i => true) 0 = 0 := rfl
  rw [hcd] at hS
  have HS := Lib.hid hS
  have HW0 := Lib.hid hW0
  have HTY := Lib.hid hty
  have HT := Lib.hid hT
  have Q0 := Lib.hid q0
  have Q1 := Lib.hid q1
  have R0 := Lib.hid r0
  have R1 := Lib.hid r1
  have R2 := Lib.hid r2
  have Z0 := Lib.hid z0
  have S0 := Lib.hid hS0
  clear hS hW0 hty eg hcd hT q0 q1 q2 qx r0 r1 r2 z0 hS0
  have hT2 : Hid (l[f] = T) := by
    show l[f] = T
    rw [← HT.out]; simp [tyD, hf]
  have hat := HTY.out f hf
  rw [hT2.out] at hat
  go_enter Tryz.func48, Tryz.ntmps48
  go_wp2_with fail
  rw [HW0.out]
  refine HS.out.mono ?_
  rintro e w1 ⟨rfl, hb1⟩
  have s0 := S0.out
  obtain ⟨c0, c1, c2⟩ := (hat.mono hB0 hb).mono hb1 (by omega)
  have q0 := (hb1.cell (p := ⟨w.heap.size, 0, none⟩) (by show w.heap.size < _; omega)).trans Q0.out
  have q1 := (hb1.cell (p := ⟨w.heap.size, 1, none⟩) (by show w.heap.size < _; omega)).trans Q1.out
  have r0 := (hb1.cell (p := ⟨w.heap.size + 1 + 1, 0, none⟩) (by show w.heap.size + 1 + 1 < _; omega)).trans R0.out
  have r1 := (hb1.cell (p := ⟨w.heap.size + 1 + 1, 1, none⟩) (by show w.heap.size + 1 + 1 < _; omega)).trans R1.out
  have r2 := (hb1.cell (p := ⟨w.heap.size + 1 + 1, 2, none⟩) (by show w.heap.size + 1 + 1 < _; omega)).trans R2.out
  have f0 := (hb1.frozen (p := ⟨w.heap.size + 1 + 1, 0, none⟩) (by show w.heap.size + 1 + 1 < _; omega)).trans (Z0.out 0)
  have f1 := (hb1.frozen (p := ⟨w.heap.size + 1 + 1, 1, none⟩) (by show w.heap.size + 1 + 1 < _; omega)).trans (Z0.out 1)
  have f2 := (hb1.frozen (p := ⟨w.heap.size + 1 + 1, 2, none⟩) (by show w.heap.size + 1 + 1 < _; omega)).trans (Z0.out 2)
  have hB1 := hB0.trans (hb1.mono (by omega))
  have HB1 := Lib.hid hB1
  clear hb1 hB1 s0
  go_wp2
  refine bodyPost_ret (v := tyV T) (by simp [results, Tryz.results48, go_sem, r0, r1, r2]) rfl ⟨rfl, ?_⟩
  exact ((HB1.out.setCell (by simp; omega) _).setCell (by simp; omega) _).setCell (by simp; omega) _

end Go.Proofs.YthggojpdcgcmaaaGreatDoor
namespace Go.Proofs.YthggojpdcgcmaaaGreatDoor
open Go.RowKit
set_option linter.unusedVariables false
set_option linter.unusedSimpArgs false

theorem Of_any (t : Tab) (v : Value) (x : Int) (w : World) (hv : TabAt w v t) (hok : chk t = 0) :
    Calls Tryz.prog 48 #[v, .int .i64 x] w fun e w' => e = .returned (tyV (tyOf t x)) ∧ Below w.heap.size w w' := by
  have ok := chk_ok t hok
  obtain ⟨sv, cv, rfl, ⟨⟨p, cap, rfl, hs⟩, hl1, hnm⟩, ⟨⟨p2, cap2, rfl, hc⟩, hl2⟩⟩ := hv.val
  obtain ⟨b, o, rfl, hb, hty⟩ := hs ok.ne
  obtain ⟨l, f, m⟩ := t
  obtain ⟨h1, h2, h3, h4, h5, h6, h7⟩ := ok
  dsimp only at h1 h2 h3 h4 h5 h6 h7 hs hc hty hl1 hl2 hnm ⊢
  obtain ⟨fn, hfn⟩ := Int.eq_ofNat_of_zero_le h5.1
  subst hfn
  by_cases hm : m = []
  · subst hm
    exact Of_nochs l fn x b o cap cap2 p2 w hb hty (by omega) h2 _ rfl
  · obtain ⟨b2, o2, rfl, hb2, hch⟩ := hc hm
    exact Of_chs l fn m x b o cap b2 o2 cap2 w hb hty hb2 hch (by omega) (fun i hi => by
      have := h6 m[i] (List.getElem_mem hi)
      simp [kAt, hi]; omega) h3 h2 (fun i j hij hj => tAt_mono m h7 i j hij hj) _ rfl

theorem TabAt.parts {w : World} {v : Value} {t : Tab} (h : TabAt w v t) : ∃ sv cv, v = .agg #[sv, .int .i64 t.first, cv] := by
  obtain ⟨sv, cv, hv, _, _⟩ := h.val
  exact ⟨sv, cv, hv⟩
end Go.Proofs.YthggojpdcgcmaaaGreatDoor
namespace Go.Proofs.YthggojpdcgcmaaaGreatDoor
open Go.RowKit Go.Joins
set_option linter.unusedVariables false
set_option linter.unusedSimpArgs false

theorem box3 {w W0 : World} {a b c : Value} {T : TypeId} (h : w.alloc (.cells #[a, b, c] T) = W0) :
    Below w.heap.size w W0 ∧ W0.heap.size = w.heap.size + 1 ∧ W0.cell? ⟨w.heap.size, 0, none⟩ = some a ∧ W0.cell? ⟨w.heap.size, 1, none⟩ = some b ∧ W0.cell? ⟨w.heap.size, 2, none⟩ = some c := by
  subst h
  exact ⟨(Below.refl _ _).alloc (Nat.le_refl _) _, by simp, by simp [go_sem], by simp [go_sem], by simp [go_sem]⟩

def samT : Tab := ⟨[⟨0, false, ⟨#[65]⟩⟩, ⟨3600, false, ⟨#[66]⟩⟩], 0, [⟨10000, 1⟩, ⟨20000, 0⟩]⟩

theorem sam_tab {w W : World} (hs : W.heap.size = w.heap.size + 3) (h1 : W.heap[w.heap.size + 1]? = some (Obj.cells #[.int .i64 0, .bool false, .string ⟨#[65]⟩, .int .i64 3600, .bool false, .string ⟨#[66]⟩] 40 (0, 0)))
    (h2 : W.heap[w.heap.size + 1 + 1]? = some (Obj.cells #[.int .i64 10000, .int .i64 1, .int .i64 20000, .int .i64 0] 56 (0, 0))) :
    TabAt W (.agg #[.slice (some ⟨w.heap.size + 1, 0, none⟩) 2 2, .int .i64 0, .slice (some ⟨w.heap.size + 1 + 1, 0, none⟩) 2 2]) samT := by
  refine ⟨_, _, rfl, ⟨⟨_, 2, rfl, fun _ => ⟨_, _, rfl, by omega, fun i hi => ?_⟩⟩, by decide, by decide⟩, ⟨⟨_, 2, rfl, fun _ => ⟨_, _, rfl, by omega, fun i hi => ?_⟩⟩, by decide⟩⟩
  · have : i < 2 := hi
    rcases i with _ | _ | i
    · refine ⟨?_, ?_, ?_⟩ <;> simp [World.cell?, h1, samT]
    · refine ⟨?_, ?_, ?_⟩ <;> simp [World.cell?, h1, samT]
    · omega
  · have : i < 2 := hi
    rcases i with _ | _ | i
    · refine ⟨?_, ?_⟩ <;> simp [World.cell?, h2, samT]
    · refine ⟨?_, ?_⟩ <;> simp [World.cell?, h2, samT]
    · omega

set_option maxHeartbeats 4000000 in
theorem sample_any (w : World) :
    Calls Tryz.prog 38 #[] w fun e w' => ∃ v, e = .returned v ∧ TabAt w' v samT ∧ Below w.heap.size w w' := by
  go_enter Tryz.func38, Tryz.ntmps38
  go_wp2
  obtain ⟨w1, h1⟩ : ∃ w1, w.alloc (Obj.cells #[.slice (some ⟨w.heap.size + 1, 0, none⟩) 2 2, .int .i64 0, .slice (some ⟨w.heap.size + 1 + 1, 0, none⟩) 2 2] 52) = w1 := ⟨_, rfl⟩
  obtain ⟨b1, s1, q0, q1, q2⟩ := box3 h1
  rw [h1]
  obtain ⟨w2, h2⟩ : ∃ w2, w1.alloc (Obj.cells #[.int .i64 0, .bool false, .string ⟨#[65]⟩, .int .i64 3600, .bool false, .string ⟨#[66]⟩] 40) = w2 := ⟨_, rfl⟩
  have s2 : w2.heap.size = w.heap.size + 2 := by rw [← h2]; simp; omega
  have n2 := heap_alloc_new w1 (Obj.cells #[.int .i64 0, .bool false, .string ⟨#[65]⟩, .int .i64 3600, .bool false, .string ⟨#[66]⟩] 40)
  have b2 : Below w.heap.size w w2 := by rw [← h2]; exact b1.alloc (by omega) _
  have bb2 : Below w1.heap.size w1 w2 := by rw [← h2]; exact (Below.refl _ _).alloc (Nat.le_refl _) _
  rw [h2, s1] at n2
  rw [h2]
  obtain ⟨w3, h3⟩ : ∃ w3, w2.alloc (Obj.cells #[.int .i64 10000, .int .i64 1, .int .i64 20000, .int .i64 0] 56) = w3 := ⟨_, rfl⟩
  have s3 : w3.heap.size = w.heap.size + 3 := by rw [← h3]; simp; omega
  have n3 := heap_alloc_new w2 (Obj.cells #[.int .i64 10000, .int .i64 1, .int .i64 20000, .int .i64 0] 56)
  have b3 : Below w.heap.size w w3 := by rw [← h3]; exact b2.alloc (by omega) _
  have bb3 : Below w2.heap.size w2 w3 := by rw [← h3]; exact (Below.refl _ _).alloc (Nat.le_refl _) _
  rw [h3, s2] at n3
  rw [h3]
  have m2 := (bb3.block (w.heap.size + 1) (by omega)).trans n2
  have k0 := (bb3.cell (p := ⟨w.heap.size, 0, none⟩) (by show w.heap.size < _; omega)).trans ((bb2.cell (p := ⟨w.heap.size, 0, none⟩) (by show w.heap.size < _; omega)).trans q0)
  have k1 := (bb3.cell (p := ⟨w.heap.size, 1, none⟩) (by show w.heap.size < _; omega)).trans ((bb2.cell (p := ⟨w.heap.size, 1, none⟩) (by show w.heap.size < _; omega)).trans q1)
  have k2 := (bb3.cell (p := ⟨w.heap.size, 2, none⟩) (by show w.heap.size < _; omega)).trans ((bb2.cell (p := ⟨w.heap.size, 2, none⟩) (by show w.heap.size < _; omega)).trans q2)
  refine bodyPost_ret (v := .agg #[.slice (some ⟨w.heap.size + 1, 0, none⟩) 2 2, .int .i64 0, .slice (some ⟨w.heap.size + 1 + 1, 0, none⟩) 2 2]) (by simp [results, Tryz.results38, go_sem, k0, k1, k2]) rfl ?_
  exact ⟨_, rfl, sam_tab s3 m2 n3, b3⟩

theorem sam_chkZ : chk samT = 0 := by decide
end Go.Proofs.YthggojpdcgcmaaaGreatDoor
namespace Go.Proofs.YthggojpdcgcmaaaGreatDoor
open Go.RowKit Go.Shelf

set_option linter.unusedVariables false
set_option linter.unusedSimpArgs false
theorem cells3A {W : World} {B : Nat} {a b c : Value} {T : TypeId} (h : W.heap[B]? = some (.cells #[a, b, c] T (0, 0))) : W.cell? ⟨B, 0, none⟩ = some a ∧ W.cell? ⟨B, 1, none⟩ = some b ∧ W.cell? ⟨B, 2, none⟩ = some c := by
  refine ⟨?_, ?_, ?_⟩ <;> simp [World.cell?, h]

theorem froz {W : World} {B : Nat} {cs : Array Value} {T : TypeId} (h : W.heap[B]? = some (Obj.cells cs T (0, 0))) (i : Nat) : W.frozen? ⟨B, i, none⟩ = false := by simp [World.frozen?, h]

set_option maxHeartbeats 4000000 in
theorem At_ok (t : Tab) (v : Value) (x : Int) (w : World) (hv : TabAt w v t) (h0 : chk t = 0) :
    Calls Tryz.prog 24 #[v, .int .i64 x] w fun e w' => e = .returned (.tuple #[tyV (tyOf t x), .int .i64 0]) ∧ Below w.heap.size w w' := by
  obtain ⟨sv, cv, rfl⟩ := hv.parts
  obtain ⟨W0, hW0⟩ : ∃ W0, w.alloc (.cells #[sv, .int .i64 t.first, cv] 52) = W0 := ⟨_, rfl⟩
  obtain ⟨hB, hS, q0, q1, q2⟩ := box3 hW0
  obtain ⟨W1, hW1⟩ : ∃ W1, W0.alloc (.cells #[.int .i64 0, .bool false, .string ⟨#[]⟩] 40) = W1 := ⟨_, rfl⟩
  have n1 := World.alloc_heap_new W0 (.cells #[.int .i64 0, .bool false, .string ⟨#[]⟩] 40)
  have b1 : Below w.heap.size w W1 := by rw [← hW1]; exact hB.alloc (by omega) _
  have bb1 : Below W0.heap.size W0 W1 := by rw [← hW1]; exact (Below.refl _ _).alloc (Nat.le_refl _) _
  have s1 : W1.heap.size = w.heap.size + 2 := by rw [← hW1]; simp; omega
  rw [hW1, hS] at n1
  have HCC := Check_any t _ _ (hv.below b1)
  rw [h0] at HCC
  have HO := Lib.hid (fun W (hb : Below w.heap.size w W) => Of_any t _ x W (hv.below hb) h0)
  obtain ⟨T, eT⟩ : ∃ T, tyOf t x = T := ⟨_, rfl⟩
  rw [eT] at HO
  rw [eT]
  have HC := Lib.hid HCC
  have HW0 := Lib.hid hW0
  have HW1 := Lib.hid hW1
  have HB1 := Lib.hid b1
  have N1 := Lib.hid n1
  have Q0 := Lib.hid ((bb1.cell (p := ⟨w.heap.size, 0, none⟩) (by show w.heap.size < _; omega)).trans q0)
  have Q1 := Lib.hid ((bb1.cell (p := ⟨w.heap.size, 1, none⟩) (by show w.heap.size < _; omega)).trans q1)
  have Q2 := Lib.hid ((bb1.cell (p := ⟨w.heap.size, 2, none⟩) (by show w.heap.size < _; omega)).trans q2)
  have S1 := Lib.hid s1
  clear hv h0 hW0 hW1 hB hS q0 q1 q2 n1 b1 bb1 s1 HCC eT
  go_enter Tryz.func24, Tryz.ntmps24
  go_wp2_with fail
  rw [HW0.out, HW1.out]
  refine HC.out.mono ?_
  rintro e w1 ⟨rfl, hb1⟩
  rw [S1.out] at hb1
  have q0 := (hb1.cell (p := ⟨w.heap.size, 0, none⟩) (by show w.heap.size < _; omega)).trans Q0.out
  have q1 := (hb1.cell (p := ⟨w.heap.size, 1, none⟩) (by show w.heap.size < _; omega)).trans Q1.out
  have q2 := (hb1.cell (p := ⟨w.heap.size, 2, none⟩) (by show w.heap.size < _; omega)).trans Q2.out
  have bw1 := HB1.out.trans (hb1.mono (by omega))
  go_wp2_with fail
  refine (HO.out _ bw1).mono ?_
  rintro e w2 ⟨rfl, hb2⟩
  have hs1 : w.heap.size + 2 ≤ w1.heap.size := by have := hb1.size; have := S1.out; omega
  have n2 := (hb2.block (w.heap.size + 1) (by omega)).trans ((hb1.block (w.heap.size + 1) (by omega)).trans N1.out)
  obtain ⟨r0, r1, r2⟩ := cells3A n2
  have f0 := froz n2 0
  have f1 := froz n2 1
  have f2 := froz n2 2
  have HB2 := Lib.hid (bw1.trans (hb2.mono bw1.size))
  have hlt2 : w.heap.size + 1 < w2.heap.size := by have := hb2.size; omega
  clear n2 hb1 hb2 bw1 q0 q1 q2
  simp only [tyV]
  go_wp2
  refine bodyPost_ret (v := .tuple #[tyV T, .int .i64 0]) (by simp [results, Tryz.results24, go_sem, r0, r1, r2]) rfl ⟨rfl, ?_⟩
  exact ((HB2.out.setCell (by simp) _).setCell (by simp) _).setCell (by simp) _
end Go.Proofs.YthggojpdcgcmaaaGreatDoor
namespace Go.Proofs.YthggojpdcgcmaaaGreatDoor
open Go.RowKit Go.Joins Go.Maps
open Classical
set_option linter.unusedVariables false
set_option linter.unusedSimpArgs false

theorem fix_mk (ev : Value) : mkT (oneB [] aB ev [fix0]) aB 0 5 = (0, ⟨[⟨3600, false, cetB⟩], 0, []⟩) := by
  rw [mkT_of (oneB_rsv (fix_chk ev))]
  have e0 : firstE (tdE (oneB [] aB ev [fix0]).rules) [fix0] = 0 := by
    rw [firstE_zero]
    intro x hx
    rw [List.mem_singleton.1 hx]
    exact (tdE_nil rfl).1
  have e1 : candsF (oneB [] aB ev [fix0]).rules [fix0] 0 5 = [] := by
    unfold candsF
    rw [which_one]
    show candF _ [fix0] 5 1 1 0 = []
    rw [cand_end (.inl rfl)]
    have e2 : (tdA (oneB [] aB ev [fix0]).rules [fix0] 0).ts = [] := by
      unfold tdA
      show (tdR _ fix0).ts = []
      rw [(tdE_nil rfl).2]
    unfold evF winF
    rw [e2]
    rfl
  have e3 : stF (oneB [] aB ev [fix0]).rules [fix0] 0 = ⟨3600, false, cetB⟩ := fix_ty 0
  show mkE (oneB [] aB ev [fix0]).rules [fix0] 0 5 = _
  unfold mkE
  rw [if_neg (by decide), if_neg (by decide), if_neg (by decide), if_neg (fun h => h e0), e1, e3]
  have e4 : normR (⟨3600, false, cetB⟩ : Ty) [] = ⟨[⟨3600, false, cetB⟩], 0, []⟩ := rfl
  rw [e4]
  rw [if_neg (by simp)]
theorem sam_ty : tyOf samT 10000 = ⟨3600, false, ⟨#[66]⟩⟩ := by kernel_rfl
set_option maxHeartbeats 4000000 in
theorem tabled_any (MK : MakeSays) (w : World) (hm : MaxLen w) (ht : Tab10 w) :
    Calls Tryz.prog 17 #[] w fun e w' => e = .returned (.bool true) ∧ Below w.heap.size w w' := by
  have HM := Lib.hid hm
  have HT := Lib.hid ht
  clear hm ht
  go_enter Tryz.func17, Tryz.ntmps17
  go_wp2_with fail
  refine (sample_any w).mono ?_
  rintro e w1 ⟨v, rfl, hv, hb1⟩
  have HAT := Lib.hid (At_ok samT v 10000 w1 hv sam_chkZ)
  have HB1 := Lib.hid hb1
  rw [sam_ty] at HAT
  clear hb1 hv
  go_wp2_with fail
  refine HAT.out.mono ?_
  rintro e w2 ⟨rfl, hb2⟩
  have HB2 := Lib.hid (HB1.out.trans (hb2.mono HB1.out.size))
  clear hb2 HAT
  go_wp2_with fail
  obtain ⟨xb, exb⟩ : ∃ xb, w2.heap.size = xb := ⟨_, rfl⟩
  obtain ⟨w3, e3⟩ : ∃ w3, w2.alloc (.cells #[.int .i64 3600, .bool false, .string ⟨#[66]⟩] 40) = w3 := ⟨_, rfl⟩
  have hx3 : w3.heap[xb]? = some (.cells #[.int .i64 3600, .bool false, .string ⟨#[66]⟩] 40 (0, 0)) := by rw [← e3]; exact alloc_at _ _ _ exb.symm
  have hb3 : Below w2.heap.size w2 w3 := by rw [← e3]; exact (Below.refl _ _).alloc (Nat.le_refl _) _
  have hz3 : xb < w3.heap.size := by rw [← e3]; simp; omega
  have HB3 := Lib.hid (HB2.out.trans (hb3.mono HB2.out.size))
  have HX3 := Lib.hid hx3
  rw [exb, e3]
  clear hx3 hb3 e3 exb
  refine (fixed_any w3).mono ?_
  rintro e w4 ⟨Z, E, rfl, HBK, hb4⟩
  have HB4 := Lib.hid (HB3.out.trans (hb4.mono HB3.out.size))
  have HX4 := Lib.hid ((hb4.block xb hz3).trans HX3.out)
  have hz4 : xb < w4.heap.size := by have := hb4.size; omega
  have hmk := MakeT_any MK _ _ _ _ aB 0 5 w4 HBK.out (by decide) (by decide) (by decide) (by decide) (by decide) (HM.out.below HB4.out) (HT.out.below HB4.out)
  rw [fix_mk] at hmk
  have HMK := Lib.hid hmk
  clear hb4 hmk HX3
  go_wp2_with fail
  refine HMK.out.mono ?_
  rintro e w5 ⟨sv, cv, rfl, hsv, hcv, hb5⟩
  have HB5 := Lib.hid (HB4.out.trans (hb5.mono HB4.out.size))
  have HX5 := Lib.hid ((hb5.block xb hz4).trans HX4.out)
  have hz5 : xb < w5.heap.size := by have := hb5.size; omega
  rcases own_cells hsv with ⟨-, h0⟩ | ⟨g, cap, rfl, hbg, hg, hgc⟩
  · cases h0
  obtain ⟨A2, c2, rfl⟩ := own_sliceN hcv
  have y0 := hgc 0 _ rfl
  have y1 := hgc 1 _ rfl
  have y2 := hgc 2 _ rfl
  simp only [List.length_cons, List.length_nil] at *
  have x2 : w5.cell? ⟨xb, 2, none⟩ = some (.string ⟨#[66]⟩) := (cell_of_row w5 _ 2 _ _ _ HX5.out).trans rfl
  clear hsv hcv hb5 HMK hgc
  go_wp2_with fail
  have hcet : (cetB.toList == [67, 69, 84]) = true := by kernel_rfl
  rw [hcet]
  go_ret
  exact ⟨rfl, HB5.out.alloc HB5.out.size _⟩
end Go.Proofs.YthggojpdcgcmaaaGreatDoor
namespace Go.Proofs.YthggojpdcgcmaaaGreatDoor
open Go.ChangeShapes Go.WideShapes Go.ChangeAt Go.RowKit
set_option linter.unusedVariables false

theorem own : ownKnob Tryz.prog.godebug = none := by kernel_rfl

section
variable {H : Type} {enc : TypeId × Value → H} {P : Program}
theorem post_of_below {f : Func} {s : ChangeSpec} {apart fresh handsOn again : Bool} {W W' : World} {args : Array Value} {v : Value} {ds gs : List (DataW H)} {before pa pv : List MemPlace}
    (hW : DataW.Whole enc P f.params.toList s.vars apart W args.toList ds gs before)
    (hres : ∀ (b : Nat) (sp : Nat → Bool) (hd : Bool), DataW.TrodAll enc P W' b sp hd f.resultTypes.toList (v.resultList f.resultTypes.size) (s.fn H (ds ++ gs)).results [])
    (hargs : ∀ sp : Nat → Bool, (∀ p ∈ before, sp p.block = true) → DataW.TrodAll enc P W' 0 sp true f.params.toList args.toList (s.fn H (ds ++ gs)).args pa)
    (hvars : ∀ sp : Nat → Bool, (∀ p ∈ before, sp p.block = true) → DataW.TrodVars enc P W' sp s.vars (s.fn H (ds ++ gs)).vars pv)
    (hps : before = pa ++ pv) (hb : Below W.heap.size W W')
    (hok : ∀ (j : Nat) (t : TypeId) (r : Value), f.resultTypes[j]? = some t → (v.resultList f.resultTypes.size)[j]? = some r → Value.okWide P W' .any 0 t r) :
    s.post enc P f apart fresh handsOn again W args v W' := by
  have hlt : ∀ p ∈ before, p.block < W.heap.size := fun p hp => hW.lt p hp
  have hold : ∀ p ∈ before, (fun b => decide (b < W.heap.size)) p.block = true := fun p hp => by simpa using hlt p hp
  refine ⟨ds, gs, before, [], pa, pv, hW, hres _ _ _, hargs _ hold, hvars _ hold, World.keptBut_mono (fun p hp => ⟨hp, ?_⟩) (hb.frame (· ∈ before)), fun _ => ?_⟩
  · rw [hps, List.mem_append] at hp
    exact Or.inr hp
  · obtain ⟨_, _, _, _, _, hz, hn⟩ := hW
    refine ⟨hok, _, _, ([] ++ pa) ++ pv, ⟨[] ++ pa, pv, trodAll_append (hargs _ (fun _ _ => rfl)) (hres _ _ _), hvars _ (fun _ _ => rfl), rfl, ?_, ?_⟩, ?_⟩
    · intro b off hp
      have hin : MemPlace.cell b off ∈ before := by rw [hps]; simpa using hp
      rw [hb.frozen (hlt _ hin)]
      exact hz b off hin
    · intro ha
      have := hn ha
      rw [hps] at this
      simpa using this
    · intro p hp _
      rw [hps]
      simpa using hp
end

end Go.Proofs.YthggojpdcgcmaaaGreatDoor
namespace Go.Proofs.YthggojpdcgcmaaaGreatDoor
open Go.ChangeShapes Go.WideShapes Go.ChangeAt Go.RowKit
set_option linter.unusedVariables false

theorem laidOut : laidOutB Tryz.prog = true := by kernel_rfl

theorem trodAll_stays {H : Type} {enc : TypeId × Value → H} {P : Program} {W W' : World} {sp : Nat → Bool} (hl : laidOutB P = true) (hb : Below W.heap.size W W') :
    ∀ (ts : List TypeId) (vs : List Value) (ds : List (DataW H)) (ps : List MemPlace), (ts.all fun t => P.readableRec t && decide (t < P.types.size)) = true → (∀ p ∈ ps, p.block < W.heap.size) → (∀ p ∈ ps, sp p.block = true) →
      DataW.TrodAll enc P W 0 (fun _ => true) true ts vs ds ps → DataW.TrodAll enc P W' 0 sp true ts vs ds ps
  | [], [], [], _, _, _, _, h => h
  | t :: ts, v :: vs, d :: ds, ps, hts, hlt, hsp, ⟨p, q, h1, h2, e⟩ => by
    simp only [List.all_cons, Bool.and_eq_true, decide_eq_true_eq] at hts
    refine ⟨p, q, ?_, trodAll_stays hl hb ts vs ds q hts.2 (fun x hx => hlt x (by rw [e]; exact List.mem_append_right _ hx)) (fun x hx => hsp x (by rw [e]; exact List.mem_append_right _ hx)) h2, e⟩
    exact WideElems.Trod_stays hl hts.1.1 hts.1.2 h1 (fun x hx => hb.same (hlt x (by rw [e]; exact List.mem_append_left _ hx))) (fun x hx => hsp x (by rw [e]; exact List.mem_append_left _ hx))
  | [], [], _ :: _, _, _, _, _, h => h.elim
  | [], _ :: _, _, _, _, _, _, h => h.elim
  | _ :: _, [], _, _, _, _, _, h => h.elim
  | _ :: _, _ :: _, [], _, _, _, _, h => h.elim

end Go.Proofs.YthggojpdcgcmaaaGreatDoor
namespace Go.Proofs.YthggojpdcgcmaaaGreatDoor
open Go.ChangeShapes Go.WideShapes Go.ChangeAt Go.RowKit
set_option linter.unusedVariables false

theorem gPow : Tryz.prog.globalNamed "internal/strconv.uint64pow10" = some 0 := by kernel_rfl
theorem gPowType : (Tryz.prog.globals[0]?).map (·.type) = some 215 := by kernel_rfl
theorem tab10_of {W : World} {a b : String × DataW Unit} {rest : List (String × DataW Unit)} (h : laidMet Tryz.prog (a :: b :: ("internal/strconv.uint64pow10", Rows.laid_internal_strconv_uint64pow10) :: rest) W) : Tab10 W :=
  Lib.tabIs_of_head (rest := rest) gPow gPowType Tryz.underlying215 Tryz.underlying188 (by kernel_rfl) (by kernel_rfl) h.tail.tail
end Go.Proofs.YthggojpdcgcmaaaGreatDoor
namespace Go.Proofs.YthggojpdcgcmaaaGreatDoor
open Go.ChangeShapes Go.WideShapes Go.ChangeAt Go.RowKit
set_option linter.unusedVariables false

theorem maxLen_of {W : World} (h : W.ShapedOpen Tryz.prog) : MaxLen W :=
  Go.Proofs.cell_of_shapedOpen_int (zero := #[.int .i64 0]) (t := 3) h (of_decide_eq_true (by kernel_rfl)) (by kernel_rfl) rfl (by kernel_rfl) (by kernel_rfl) Tryz.underlying3
end Go.Proofs.YthggojpdcgcmaaaGreatDoor
namespace Go.Proofs.YthggojpdcgcmaaaGreatDoor
open Go.RowKit Go.Joins
open Classical
set_option linter.unusedVariables false
set_option linter.unusedSimpArgs false

set_option maxRecDepth 100000 in
set_option maxHeartbeats 8000000 in
theorem Make_any (rules : List Ru) (nm : ByteArray) (off : Int) (rv : Value) (w : World) (hR : RowsAt (fun r : Ru => (ruCells r).toList) 11 w.heap.size w rv rules) (ho : ∀ r ∈ rules, OkRu r) (hl : rules.length ≤ 40) (hf1 : -75600 ≤ off) (hf2 : off ≤ 75600) :
    Calls Tryz.prog 33 #[rv, .string nm, .int .i64 off] w (MakePost rules nm off w) := by
  obtain ⟨i1, hi1, hz10, hz11, hz12⟩ := info_parts infoNb
  obtain ⟨p, cap, rfl, hlen, hrow⟩ := hR
  have HRow := Lib.hid hrow
  have HO := Lib.hid ho
  clear hrow ho
  go_enter Tryz.func33, Tryz.ntmps33
  go_wp2_with fail
  go_loopw [8, 9, 10, 23] (fun v8 v9 v10 i wr => ∃ (k : Nat) (Y : Int) (is : Bool) (l : List Nb), k ≤ rules.length ∧ i = .int .i64 k ∧ v9 = .int .i64 Y ∧ v10 = .bool is ∧ 0 ≤ Y ∧ Y ≤ 201 * k ∧ l.length ≤ 1500 ∧ Hid (MkR rules nm k Y is l) ∧ Hid (NbAt wr w.heap.size v8 l) ∧ Hid (Below w.heap.size w wr)) (fun _ _ _ i _ => rules.length - (intOf i).toNat)
  case atStart => exact ⟨0, 0, false, [], Nat.zero_le _, rfl, rfl, rfl, by omega, by omega, by simp, MkR.zero _ _, ⟨World.ownsRow_nil _ _ _ _, fun x hx => absurd hx (List.not_mem_nil)⟩, Lib.hid (Below.refl _ _)⟩
  case round =>
    obtain ⟨k, Y, is, l, hk, rfl, rfl, rfl, hY0, hY1, hll, HM, HN, HB⟩ := hrel
    have hzr := HB.out.size
    by_cases hlt : k < rules.length
    · obtain ⟨b, o, rfl, hbl, hcs⟩ := HRow.out (List.ne_nil_of_length_pos (by omega))
      have hck := hcs k hlt
      have HOK := Lib.hid (HO.out rules[k] (List.getElem_mem hlt))
      have HSK := Lib.hid (HM.out.skip hlt)
      have HLA := Lib.hid (HM.out.large hlt)
      have HMO := Lib.hid (HM.out.more hlt)
      obtain ⟨q, eq⟩ : ∃ q, rules[k] = q := ⟨_, rfl⟩
      rw [eq] at hck HOK HSK HLA HMO
      obtain ⟨B0, eB0⟩ : ∃ B0, w.heap.size = B0 := ⟨_, rfl⟩
      rw [eB0] at hzr HN
      have HB00 := Lib.hid eB0
      have up : ∀ j u, w.cell? ⟨b, o + k * 11 + j, none⟩ = some u → wr.cell? ⟨b, o + k * 11 + j, none⟩ = some u := fun j u h => (HB.out.cell (p := ⟨b, o + k * 11 + j, none⟩) hbl).trans h
      clear eq hcs eB0
      obtain ⟨nm2, yf, yt, mo, dk, dw, dn, tm, ck, sv, lt⟩ := q
      have z0 := up 0 _ (hck 0 _ rfl)
      have z1 := up 1 _ (hck 1 _ rfl)
      have z2 := up 2 _ (hck 2 _ rfl)
      have z3 := up 3 _ (hck 3 _ rfl)
      have z4 := up 4 _ (hck 4 _ rfl)
      have z5 := up 5 _ (hck 5 _ rfl)
      have z6 := up 6 _ (hck 6 _ rfl)
      have z7 := up 7 _ (hck 7 _ rfl)
      have z8 := up 8 _ (hck 8 _ rfl)
      have z9 := up 9 _ (hck 9 _ rfl)
      have z10 := up 10 _ (hck 10 _ rfl)
      clear up hck
      rw [Nat.add_zero] at z0
      simp only at HSK HLA HMO
      obtain ⟨W1, eW1⟩ : ∃ W1, wr.alloc (.cells #[.string nm2, .int .i64 yf, .int .i64 yt, .int .i64 mo, .int .i64 dk, .int .i64 dw, .int .i64 dn, .int .i64 tm, .int .i64 ck, .int .i64 sv, .string lt] 115) = W1 := ⟨_, rfl⟩
      have hbx : RuBx W1 wr.heap.size ⟨nm2, yf, yt, mo, dk, dw, dn, tm, ck, sv, lt⟩ := by rw [← eW1]; exact heap_alloc_new wr _
      have HN1 : Hid (NbAt W1 B0 u8 l) := by rw [← eW1]; exact HN.out.alloc _
      have HB1 : Hid (Below w.heap.size w W1) := by rw [← eW1]; exact HB.out.alloc HB.out.size _
      have hw1 : wr.heap.size < W1.heap.size := hbx.lt
      have HX1 := Lib.hid hbx
      have HEW := Lib.hid eW1
      obtain ⟨bx, ebx⟩ : ∃ bx, wr.heap.size = bx := ⟨_, rfl⟩
      rw [ebx] at HX1 hw1 hzr
      have HBX := Lib.hid ebx
      obtain ⟨x0, x1, x2, x3, x4, x5, x6, x7, x8, x9, x10⟩ := HX1.out.cells
      obtain ⟨f1, f2, t1, t2⟩ := And.intro HOK.out.f1 (And.intro HOK.out.f2 (And.intro HOK.out.t1 HOK.out.t2))
      simp only at x0 x1 x2 x3 x4 x5 x6 x7 x8 x9 x10 f1 f2 t1 t2
      clear ebx eW1 hbx
      by_cases hnm : nm2 = nm
      · have t0 : (nm2.toList == nm.toList) = true := by rw [hnm]; exact beq_self_eq_true _
        have t0n : (!(nm2.toList == nm.toList)) = false := by rw [t0]; rfl
        by_cases hy : 1500 < Y + (yt - yf + 1)
        · have HLA2 := Lib.hid (HLA.out hnm hy)
          clear HLA HMO HSK hnm
          go_upto_region 6 with fail
          rw [HEW.out, HBX.out]
          go_wp2_with fail
          go_roundw
          case rel => exact ⟨k + 1, Y + (yt - yf + 1), true, l, by omega, by go_num, by go_num, rfl, by omega, by omega, hll, HLA2, by rw [HB00.out]; exact HN1, HB1⟩
          case measure => simp [intOf]; omega
        · obtain ⟨C, hC⟩ : ∃ C : Nat, (C : Int) = yt - yf + 1 := ⟨(yt - yf + 1).toNat, by omega⟩
          have HMO2 := Lib.hid (HMO.out hnm t1 bx C hC)
          have hlen2 : l.length + C ≤ 1500 := by have := HM.out.len HO.out (by omega); omega
          clear HLA HMO HSK hnm
          go_upto_region 6 with fail
          rw [HEW.out, HBX.out]
          go_wp2_with fail
          go_loopw [8, 13] (fun v8 v13 wx => ∃ j : Nat, j ≤ C ∧ v13 = .int .i64 (yf + j) ∧ Hid (NbAt wx B0 v8 (l ++ nomB ⟨nm2, yf, yt, mo, dk, dw, dn, tm, ck, sv, lt⟩ bx j)) ∧ Hid (RuBx wx bx ⟨nm2, yf, yt, mo, dk, dw, dn, tm, ck, sv, lt⟩) ∧ Hid (Below w.heap.size w wx)) (fun _ v13 _ => (yt + 1 - intOf v13).toNat)
          case atStart => exact ⟨0, Nat.zero_le _, by go_num, by show NbAt _ _ _ _; rw [show nomB _ bx 0 = [] from rfl, List.append_nil]; exact HN1.out, HX1, HB1⟩
          case round =>
            obtain ⟨j, hj, rfl, HNJ, HXJ, HBJ⟩ := hrel
            have hzj := HBJ.out.size
            rw [HB00.out] at hzj
            obtain ⟨L, eL⟩ : ∃ L, l ++ nomB ⟨nm2, yf, yt, mo, dk, dw, dn, tm, ck, sv, lt⟩ bx j = L := ⟨_, rfl⟩
            have hLl : L.length ≤ 1500 := by rw [← eL, List.length_append, nomB_len]; omega
            have HSN : Hid (l ++ nomB ⟨nm2, yf, yt, mo, dk, dw, dn, tm, ck, sv, lt⟩ bx (j + 1) = L ++ [(86400 * dayN ⟨nm2, yf, yt, mo, dk, dw, dn, tm, ck, sv, lt⟩ (yf + j) + tm, ⟨nm2, yf, yt, mo, dk, dw, dn, tm, ck, sv, lt⟩, bx)]) := by show _ = _; rw [nomB_snoc, ← List.append_assoc, eL]
            rw [eL] at HNJ
            have EL := Lib.hid eL
            clear eL
            have hbj : bx < wr.heap.size := HXJ.out.lt
            have hxs := HXJ.out.cells
            simp only at hxs
            obtain ⟨y0, y1, y2, y3, y4, y5, y6, y7, y8, y9, y10⟩ := hxs
            by_cases hjc : j < C
            · have hyb : yf + (j : Int) ≤ yt := by omega
              have hyb2 : yf ≤ yf + (j : Int) := by omega
              have HOF := Lib.hid (Of_ru ⟨nm2, yf, yt, mo, dk, dw, dn, tm, ck, sv, lt⟩ HOK.out (yf + j) hyb2 hyb wr)
              have hbd := dayN_bd HOK.out (y := yf + j) hyb2 hyb
              obtain ⟨N, eN⟩ : ∃ N, dayN ⟨nm2, yf, yt, mo, dk, dw, dn, tm, ck, sv, lt⟩ (yf + j) = N := ⟨_, rfl⟩
              rw [eN] at HOF HSN hbd
              obtain ⟨hN1, hN2⟩ := hbd
              have ha1 := HOK.out.a1
              have ha2 := HOK.out.a2
              simp only at ha1 ha2
              have HY7 := Lib.hid y7
              clear eN
              go_wp2_with fail
              refine HOF.out.mono ?_
              rintro e w8 ⟨rfl, hb8⟩
              have HB8 := Lib.hid hb8
              have hz8 := hb8.size
              have y7 := (hb8.cell (p := ⟨bx, 7, none⟩) hbj).trans HY7.out
              have HN8 := Lib.hid (HNJ.out.below hb8)
              have HX8 := Lib.hid (HXJ.out.below hb8)
              have hbx8 : bx < w8.heap.size := by omega
              clear hb8 HOF
              obtain ⟨A, cS, rfl⟩ := own_sliceN HN8.out.row
              have HML : L.length + 1 ≤ maxLen := by simp only [maxLen]; omega
              have HMB : (L.length + 1) * 16 ≤ 140737488355328 := by omega
              have HROW := Lib.hid (World.ownsRow.alloc HN8.out.row (.cells #[.int .i64 (86400 * N + tm), .pointer (some ⟨bx, 0, none⟩)] 133))
              have HNEW := Lib.hid (World.news_of_block (cs := #[.int .i64 (86400 * N + tm), .pointer (some ⟨bx, 0, none⟩)]) (t := 133) (fr := (0, 0)) (heap_alloc_new w8 (.cells #[.int .i64 (86400 * N + tm), .pointer (some ⟨bx, 0, none⟩)] 133)))
              have HSZ : B0 ≤ (w8.alloc (.cells #[.int .i64 (86400 * N + tm), .pointer (some ⟨bx, 0, none⟩)] 133)).heap.size := by simp; omega
              go_wp2_with (at_builtin; refine wpList_append_own _ rfl _ _ 129 rfl B0 133 i1 (.agg #[.int .i64 0, .pointer none]) 2 16 undNb hi1 hz10 hz11 hz12 rfl (by decide) _ _ _ rfl HROW.out ⟨w8.heap.size, 0, none⟩ 1 1 [.int .i64 (86400 * N + tm), .pointer (some ⟨bx, 0, none⟩)] rfl rfl HNEW.out (by simp [Value.oneCell']) HML HMB HSZ ?_; intro v' w10 hown10 hgrow10 _)
              have HR := Lib.hid (NbAt.snoc (x := (86400 * N + tm, ⟨nm2, yf, yt, mo, dk, dw, dn, tm, ck, sv, lt⟩, bx)) HN8.out HX8.out hown10 hgrow10)
              have HXE := Lib.hid (box_kept HROW.out (HX8.out.alloc _) (by decide) hgrow10)
              go_roundw
              case rel =>
                refine ⟨j + 1, hjc, by go_num, by rw [HSN.out]; exact HR, HXE, ?_⟩
                obtain rfl := HB00.out
                exact (((HBJ.out.trans (HB8.out.mono HBJ.out.size)).alloc (by omega) _).grown hgrow10 HSZ fun q hq => (World.ownsRow.lt HROW.out q hq).1)
              case measure => simp [intOf]; omega
            · obtain rfl : j = C := by omega
              have hyb : ¬ yf + (j : Int) ≤ yt := by omega
              go_wp2_with fail
              go_roundw
              case rel => exact ⟨k + 1, Y + (yt - yf + 1), true, L, by omega, by go_num, by go_num, rfl, by omega, by omega, by omega, by rw [← EL.out]; exact HMO2, by rw [HB00.out]; exact HNJ, HBJ⟩
              case measure => simp [intOf]; omega
      · have t0 : (nm2.toList == nm.toList) = false := by
          cases e : nm2.toList == nm.toList
          · rfl
          · exact absurd (ByteArray.ext (Array.toList_inj.1 (by rw [← ByteArray.toList_eq, ← ByteArray.toList_eq]; simpa using e))) hnm
        have t0n : (!(nm2.toList == nm.toList)) = true := by rw [t0]; rfl
        have HSK2 := Lib.hid (HSK.out hnm)
        clear HSK hnm
        go_upto_region 6 with fail
        rw [HEW.out, HBX.out]
        go_wp2_with fail
        go_roundw
        case rel => exact ⟨k + 1, Y, is, l, by omega, by go_num, rfl, rfl, hY0, by omega, hll, HSK2, by rw [HB00.out]; exact HN1, HB1⟩
        case measure => simp [intOf]; omega
    · obtain rfl : k = rules.length := by omega
      obtain ⟨hMy, hMs, hMl⟩ := HM.out
      rw [List.take_length] at hMy hMs hMl
      have hmb := HO.out
      have HBE := HB
      cases is with
      | false =>
        have HE := Lib.hid (mkR_6 (off := off) hMs.symm)
        clear hMy hMs hMl hmb
        go_wp2_with fail
        go_ret2
        exact MakePost.bad HE.out HBE.out
      | true =>
      by_cases hy : 1500 < Y
      · have HE := Lib.hid (mkR_2 (off := off) hMs.symm (by rw [← hMy]; exact hy))
        clear hMy hMs hMl hmb
        go_wp2_with fail
        go_ret2
        exact MakePost.bad HE.out HBE.out
      · have hlen : (l.length : Int) = Y := HM.out.len HO.out (by omega)
        have hpos := yearsOf_pos nm rules hmb hMs.symm
        rw [← hMy] at hpos
        have hne : 0 < l.length := by omega
        have hSl := hMl (by omega)
        rcases own_cells HN.out.row with ⟨-, h0⟩ | ⟨g, cS, rfl, hg1, hg2, -⟩
        · omega
        have HSO := Lib.hid (SortStable_any (ptL l) wr g cS l.length (by omega) (tagged (l.map (·.1))).toArray wr (nbAt_so HN.out) (by simp [tagged]) (by have := tagged_inc (l.map (·.1)); rwa [List.length_map] at this))
        obtain ⟨S, eS⟩ : ∃ S, srt (nomsOf dayN rules nm) = S := ⟨_, rfl⟩
        have h5 : outF off 0 none S = none → mkR rules nm off = (5, []) := fun h => mkR_5 hMs.symm (by rw [← hMy]; exact hy) (by rw [eS]; exact h)
        have h0 : ∀ o, outF off 0 none S = some o → mkR rules nm off = (0, o) := fun o h => mkR_0 hMs.symm (by rw [← hMy]; exact hy) (by rw [eS]; exact h)
        obtain ⟨T, eT⟩ : ∃ T, nbT l = T := ⟨_, rfl⟩
        have hTS : nbM T = S := by rw [← eT, nbT_M, ← eS, ← hSl]; rfl
        have hTl : T.length = l.length := by rw [← eT, nbT_len]
        have hTb : ∀ x ∈ T, OkRu x.2.1 ∧ -3000000000 ≤ x.1 ∧ x.1 ≤ 5000000000 := by
          intro x hx
          have hm : (x.1, x.2.1) ∈ nomsOf dayN rules nm := by
            have : (x.1, x.2.1) ∈ srt (nomsOf dayN rules nm) := by rw [eS, ← hTS]; exact List.mem_map_of_mem hx
            exact List.mem_mergeSort.1 this
          exact nomsOf_bd hmb nm _ hm
        have H5 := Lib.hid h5
        have H0 := Lib.hid h0
        have HTS := Lib.hid hTS
        have HTB := Lib.hid hTb
        have HTL := Lib.hid hTl
        have hTl2 : T.length ≤ 1500 := by omega
        have ET := Lib.hid eT
        have hgw : w.heap.size ≤ wr.heap.size := HB.out.size
        clear hMy hMs hMl hmb hpos hSl eS h5 h0 hTS hTl hTb eT HM hlen hll
        go_wp2_with fail
        refine HSO.out.mono ?_
        rintro e W2 ⟨rfl, d', hS, hn, hp, ho⟩
        have hT := so_nbRd HN.out hS hp ho
        rw [ET.out] at hT
        have HT := Lib.hid hT
        have HB6 := Lib.hid (HBE.out.grown hS.g hgw (fun q hq => by injection hq with hq; omega))
        clear hS hn hp ho hT HSO HN HB HBE ET
        go_wp2_with fail
        go_loopw [16, 17, 78] (fun v16 v17 i wx => ∃ (k : Nat) (sv : Int) (out : List Tn), k ≤ l.length ∧ i = .int .i64 k ∧ v17 = .int .i64 sv ∧ 0 ≤ sv ∧ sv ≤ 10800 ∧ Hid (OutR off S k sv out) ∧ Hid (wx.ownsRow W2.heap.size 44 3 v16 k (tnCells out)) ∧ Hid (Below W2.heap.size W2 wx)) (fun _ _ i _ => l.length - (intOf i).toNat)
        case atStart => exact ⟨0, 0, [], Nat.zero_le _, rfl, rfl, by omega, by omega, OutR.zero _ _, World.ownsRow_nil _ _ _ _, Lib.hid (Below.refl _ _)⟩
        case round =>
          obtain ⟨k, sv, out, hk, rfl, rfl, hs0, hs1, HOR, HNR, HBR⟩ := hrel
          by_cases hkn : k < l.length
          · have hkt : k < T.length := by rw [HTL.out]; exact hkn
            have hks : k < S.length := by rw [← HTS.out]; unfold nbM; rw [List.length_map]; exact hkt
            have hSk : S[k]'hks = (T[k].1, T[k].2.1) := by
              have e : (nbM T)[k]? = some (T[k].1, T[k].2.1) := by unfold nbM; rw [List.getElem?_map, List.getElem?_eq_getElem hkt]; rfl
              rw [HTS.out, List.getElem?_eq_getElem hks] at e
              injection e
            have HOB := Lib.hid (HOR.out.bad hks)
            have HOM := Lib.hid (HOR.out.more hks)
            rw [hSk] at HOB HOM
            have HTW := HT.out.below HBR.out
            have hgr : g < wr.heap.size := HTW.lt
            have a0 := HTW.k k hkt
            have a1 := HTW.p k hkt
            have hX := HTW.bx T[k] (List.getElem_mem hkt)
            have hB := HTB.out T[k] (List.getElem_mem hkt)
            obtain ⟨x, ex⟩ : ∃ x, T[k] = x := ⟨_, rfl⟩
            rw [ex] at a0 a1 hX hB HOB HOM
            clear hSk HTW ex hks
            obtain ⟨at1, q, bx⟩ := x
            obtain ⟨nm2, yf, yt, mo, dk, dw, dn, tm, ck, sv2, lt⟩ := q
            obtain ⟨o, hA1, hA2⟩ := hB
            have hbxr : bx < wr.heap.size := hX.lt
            have hxs := hX.cells
            have c1 := o.c1
            have c2 := o.c2
            have s1 := o.s1
            have s2 := o.s2
            simp only at a0 a1 hX hA1 hA2 hbxr hxs c1 c2 s1 s2 HOB HOM
            obtain ⟨x0, x1, x2, x3, x4, x5, x6, x7, x8, x9, x10⟩ := hxs
            clear x0 x1 x2 x3 x4 x5 x6 x7 o
            have HX := Lib.hid hX
            have hs20 := s1
            have hs21 := s2
            clear hX
            obtain ⟨t, et⟩ : ∃ t, clkT off sv (at1, ⟨nm2, yf, yt, mo, dk, dw, dn, tm, ck, sv2, lt⟩) = t := ⟨_, rfl⟩
            rw [et] at HOB HOM
            have ET := Lib.hid et
            clear et
            obtain ⟨W5, eW5⟩ : ∃ W5, wr.alloc (.cells #[.int .i64 at1, .pointer (some ⟨bx, 0, none⟩)] 133) = W5 := ⟨_, rfl⟩
            have hb5 : Below wr.heap.size wr W5 := by rw [← eW5]; exact (Below.refl _ _).alloc (Nat.le_refl _) _
            have hn5 : W5.heap[wr.heap.size]? = some (.cells #[.int .i64 at1, .pointer (some ⟨bx, 0, none⟩)] 133 (0, 0)) := by rw [← eW5]; exact heap_alloc_new wr _
            have hz5 : W5.heap.size = wr.heap.size + 1 := by rw [← eW5]; simp
            have n0 : W5.cell? ⟨wr.heap.size, 0, none⟩ = some (.int .i64 at1) := (cell_of_row W5 _ 0 _ _ _ hn5).trans rfl
            have n1 : W5.cell? ⟨wr.heap.size, 1, none⟩ = some (.pointer (some ⟨bx, 0, none⟩)) := (cell_of_row W5 _ 1 _ _ _ hn5).trans rfl
            have b9 : W5.cell? ⟨bx, 9, none⟩ = some (.int .i64 sv2) := (hb5.cell (p := ⟨bx, 9, none⟩) hbxr).trans x9
            have b10 : W5.cell? ⟨bx, 10, none⟩ = some (.string lt) := (hb5.cell (p := ⟨bx, 10, none⟩) hbxr).trans x10
            have b8 : W5.cell? ⟨bx, 8, none⟩ = some (.int .i64 ck) := (hb5.cell (p := ⟨bx, 8, none⟩) hbxr).trans x8
            have hl5 : wr.heap.size < W5.heap.size := by omega
            have hbx5 : bx < W5.heap.size := by omega
            have KS : Hid (∀ wx, Below W5.heap.size W5 wx → Below W5.heap.size W5 wx ∧ wx.cell? ⟨wr.heap.size, 0, none⟩ = some (.int .i64 at1) ∧ wx.cell? ⟨wr.heap.size, 1, none⟩ = some (.pointer (some ⟨bx, 0, none⟩)) ∧ wx.cell? ⟨bx, 9, none⟩ = some (.int .i64 sv2) ∧ wx.cell? ⟨bx, 10, none⟩ = some (.string lt)) := by
              show ∀ wx, _
              exact fun wx hb => ⟨hb, (hb.cell (p := ⟨wr.heap.size, 0, none⟩) hl5).trans n0, (hb.cell (p := ⟨wr.heap.size, 1, none⟩) hl5).trans n1, (hb.cell (p := ⟨bx, 9, none⟩) hbx5).trans b9, (hb.cell (p := ⟨bx, 10, none⟩) hbx5).trans b10⟩
            have KAL : Hid (∀ wx ob, Below W5.heap.size W5 wx → Below W5.heap.size W5 (wx.alloc ob)) := by
              show ∀ wx ob, _
              exact fun wx ob h => h.alloc h.size ob
            have HB5 := Lib.hid hb5
            have HN5 := Lib.hid hn5
            have HZ5 := Lib.hid hz5
            have HEW5 := Lib.hid eW5
            clear eW5 hb5 hn5 hz5
            go_upto_region 26 with fail
            rw [HEW5.out]
            go_cut [20] from 83 to 95 (fun sx wx => sx = .pointer (some ⟨W5.heap.size, 0, none⟩) ∧ wx = (W5.alloc (.cells #[.int .i64 at1, .int .i64 sv2, .string lt] 44)).drew)
            case first =>
              clear x8 x9 x10 b8 a0 a1
              go_region_held3 (fun wx => Below W5.heap.size W5 wx ∧ wx.cell? ⟨wr.heap.size, 0, none⟩ = some (.int .i64 at1) ∧ wx.cell? ⟨wr.heap.size, 1, none⟩ = some (.pointer (some ⟨bx, 0, none⟩)) ∧ wx.cell? ⟨bx, 9, none⟩ = some (.int .i64 sv2) ∧ wx.cell? ⟨bx, 10, none⟩ = some (.string lt)) ((refine KS.out _ ?_; repeat (first | (with_reducible assumption) | (with_reducible exact Below.refl _ _) | (with_reducible refine Below.drew ?_) | (with_reducible refine KAL.out _ _ ?_)))) (fail)
              all_goals go_wp2_with fail
              all_goals go_meet
              all_goals exact ⟨rfl, rfl⟩
            case rest =>
            obtain ⟨rfl, rfl⟩ := hcut
            clear KS KAL b10 n0 x8 x9 x10 a0 a1
            go_upto_block 7 with fail
            go_cut [108] from 97 to 116 (fun sx wx => wx = (W5.alloc (.cells #[.int .i64 t, .int .i64 sv2, .string lt] 44)).drew)
            case first =>
              have et := ET.out
              unfold clkT at et
              simp only at et
              by_cases hc0 : ck = 0
              · rw [if_pos hc0] at et
                subst hc0
                subst et
                go_wp2_with fail
                go_meet
                exact rfl
              · rw [if_neg hc0] at et
                have z0 : (ck == 0) = false := by simpa using hc0
                by_cases hc1 : ck = 1
                · rw [if_pos hc1] at et
                  subst hc1
                  subst et
                  go_wp2_with fail
                  go_meet
                  exact rfl
                · rw [if_neg hc1] at et
                  have z1 : (ck == 1) = false := by simpa using hc1
                  subst et
                  go_wp2_with fail
                  go_meet
                  exact rfl
            case rest =>
            obtain ⟨W3, eW3⟩ : ∃ W3, (W5.alloc (.cells #[.int .i64 t, .int .i64 sv2, .string lt] 44)).drew = W3 := ⟨_, rfl⟩
            rw [eW3] at hcut
            have hb35 : Below W5.heap.size W5 W3 := by rw [← eW3]; exact ((Below.refl _ _).alloc (Nat.le_refl _) _).drew
            have hb3 : Below wr.heap.size wr W3 := HB5.out.trans (hb35.mono (by have := HZ5.out; omega))
            have hN3 : W3.heap[wr.heap.size]? = some (.cells #[.int .i64 at1, .pointer (some ⟨bx, 0, none⟩)] 133 (0, 0)) := (hb35.block _ hl5).trans HN5.out
            have hT3 : W3.heap[wr.heap.size + 1]? = some (.cells #[.int .i64 t, .int .i64 sv2, .string lt] 44 (0, 0)) := by
              rw [← eW3]
              exact alloc_at _ _ _ (by have := HZ5.out; omega)
            have hz3 : wr.heap.size + 2 ≤ W3.heap.size := by rw [← eW3]; have := HZ5.out; simp [World.drew]; omega
            have p1 : W3.cell? ⟨wr.heap.size, 1, none⟩ = some (.pointer (some ⟨bx, 0, none⟩)) := (cell_of_row W3 _ 1 _ _ _ hN3).trans rfl
            have q0 : W3.cell? ⟨wr.heap.size + 1, 0, none⟩ = some (.int .i64 t) := (cell_of_row W3 _ 0 _ _ _ hT3).trans rfl
            have q1 : W3.cell? ⟨wr.heap.size + 1, 1, none⟩ = some (.int .i64 sv2) := (cell_of_row W3 _ 1 _ _ _ hT3).trans rfl
            have q2 : W3.cell? ⟨wr.heap.size + 1, 2, none⟩ = some (.string lt) := (cell_of_row W3 _ 2 _ _ _ hT3).trans rfl
            have y9 : W3.cell? ⟨bx, 9, none⟩ = some (.int .i64 sv2) := (hb35.cell (p := ⟨bx, 9, none⟩) hbx5).trans b9
            obtain ⟨A, cO, rfl⟩ := own_sliceN HNR.out
            have HNR3 : Hid (W3.ownsRow W2.heap.size 44 3 (.slice A k cO) k (tnCells out)) := own_keep HNR.out fun g' e' => hb3.block g' (World.ownsRow.lt HNR.out g' e').2
            have hz2 : W2.heap.size ≤ W3.heap.size := by have := HBR.out.size; omega
            have HB3 : Hid (Below W2.heap.size W2 W3) := HBR.out.trans (hb3.mono HBR.out.size)
            rw [HZ5.out]
            obtain ⟨nb, enb⟩ : ∃ nb, wr.heap.size = nb := ⟨_, rfl⟩
            rw [enb] at p1 q0 q1 q2 hz3 hbxr hgr ⊢
            have hol := HOR.out.1
            have HLA : Hid (0 < k → ∃ g2 c2 m, (Value.slice A k cO) = .slice (some ⟨g2, 0, none⟩) k c2 ∧ g2 < W3.heap.size ∧ out[k - 1]? = some m ∧ W3.cell? ⟨g2, (k - 1) * 3, none⟩ = some (.int .i64 m.a)) := by
              show 0 < k → _
              intro h0
              rcases own_cells HNR3.out with ⟨-, h1⟩ | ⟨g2, c2, e2, -, h2, h3⟩
              · omega
              · have hl : k - 1 < out.length := by omega
                exact ⟨g2, c2, out[k - 1], e2, h2, List.getElem?_eq_getElem hl, h3 _ _ (tnCells_get out (k - 1) hl).1⟩
            obtain ⟨BB, hBB0, hBB1⟩ : ∃ BB : Bool, (k = 0 → BB = false) ∧ (∀ m, 0 < k → out[k - 1]? = some m → BB = decide (t ≤ m.a)) := by
              by_cases h0 : 0 < k
              · obtain ⟨g2, c2, m, -, -, e3, -⟩ := HLA.out h0
                exact ⟨decide (t ≤ m.a), fun h => by omega, fun m2 _ e4 => by rw [e3] at e4; injection e4 with e4; rw [e4]⟩
              · exact ⟨false, fun _ => rfl, fun m h => absurd h h0⟩
            have HBT : Hid (BB = true → outF off 0 none S = none) := by
              show BB = true → _
              intro hb
              by_cases h0 : 0 < k
              · obtain ⟨g2, c2, m, -, -, e3, -⟩ := HLA.out h0
                refine HOB.out h0 m e3 ?_
                have := hBB1 m h0 e3
                rw [hb] at this
                exact of_decide_eq_true this.symm
              · rw [hBB0 (by omega)] at hb; cases hb
            have HBF : Hid (BB = false → OutR off S (k + 1) sv2 (out ++ [⟨t, sv2, lt⟩])) := by
              show BB = false → _
              intro hb
              refine HOM.out fun m h0 e3 => ?_
              have := hBB1 m h0 e3
              rw [hb] at this
              have := of_decide_eq_false this.symm
              omega
            have HBB0 := Lib.hid hBB0
            have HBB1 := Lib.hid hBB1
            have hol1 : out.length ≤ 1500 := by omega
            have HOL := Lib.hid hol
            have HENB := Lib.hid enb
            clear hBB0 hBB1 hb3 hb35 hN3 hT3 eW3 HNR HOR HOM HOB ET HTB HTS hol enb HBR s1 s2 n1 b8 hl5 hbx5 HB5 HN5 HZ5 HEW5 b9
            subst hcut
            go_upto_region 32 with fail
            go_cut [129] from 117 to 129 (fun sx wx => sx = .bool BB ∧ ∃ nq, wx = wc.drewN nq)
            case first =>
              by_cases h0 : 0 < k
              · obtain ⟨g2, c2, m, e2, hg2, e3, hc⟩ := HLA.out h0
                simp only [Value.slice.injEq, true_and] at e2
                obtain ⟨rfl, rfl⟩ := e2
                have hBB := HBB1.out m h0 e3
                clear e3
                have hk1 : (0 : Int) < (k : Int) := by omega
                have hk2 : (0 : Int) ≤ (k : Int) - 1 := by omega
                have hk3 : (k : Int) - 1 < (k : Int) := by omega
                have hk4 : ((k : Int) - 1).toNat = k - 1 := by omega
                have hk5 : k - 1 < k := by omega
                by_cases hle : t ≤ m.a
                · rw [decide_eq_true hle] at hBB
                  subst hBB
                  go_quiet (fail)
                  go_wp2_with fail
                  go_meet
                  exact ⟨rfl, _, rfl⟩
                · rw [decide_eq_false hle] at hBB
                  subst hBB
                  go_quiet (fail)
                  go_wp2_with fail
                  go_meet
                  exact ⟨rfl, _, rfl⟩
              · have hBB := HBB0.out (by omega)
                subst hBB
                have hk0 : ¬ (0 : Int) < (k : Int) := by omega
                go_quiet (fail)
                go_wp2_with fail
                go_meet
                exact ⟨rfl, _, rfl⟩
            case rest =>
            obtain ⟨rfl, nq, rfl⟩ := hcut
            cases BB with
            | true =>
              have HE := Lib.hid (H5.out (HBT.out rfl))
              have HBD := Lib.hid (HB6.out.trans (HB3.out.mono HB6.out.size))
              go_wp2_with fail
              go_ret2
              exact MakePost.bad HE.out (below_drewN HBD.out nq)
            | false =>
              have HRF := Lib.hid (HBF.out rfl)
              obtain ⟨W4, e4⟩ : ∃ W4, wc.drewN nq = W4 := ⟨_, rfl⟩
              rw [e4]
              have HNR4 : Hid (W4.ownsRow W2.heap.size 44 3 (.slice A k cO) k (tnCells out)) := by rw [← e4]; exact HNR3
              have HB4 : Hid (Below W2.heap.size W2 W4) := by rw [← e4]; exact below_drewN HB3.out nq
              have p1 : W4.cell? ⟨nb, 1, none⟩ = some (.pointer (some ⟨bx, 0, none⟩)) := by rw [← e4]; exact p1
              have q0 : W4.cell? ⟨nb + 1, 0, none⟩ = some (.int .i64 t) := by rw [← e4]; exact q0
              have q1 : W4.cell? ⟨nb + 1, 1, none⟩ = some (.int .i64 sv2) := by rw [← e4]; exact q1
              have q2 : W4.cell? ⟨nb + 1, 2, none⟩ = some (.string lt) := by rw [← e4]; exact q2
              have y9 : W4.cell? ⟨bx, 9, none⟩ = some (.int .i64 sv2) := by rw [← e4]; exact y9
              have hz4 : wc.heap.size ≤ W4.heap.size := by rw [← e4]; exact Nat.le_refl _
              have hbxw : bx < W4.heap.size := by omega
              have hnbw : nb < W4.heap.size := by omega
              have hnbw1 : nb + 1 < W4.heap.size := by omega
              have hz24 : W2.heap.size ≤ W4.heap.size := by omega
              clear e4
              obtain ⟨i2, hi2, hz20, hz21, hz22⟩ := info_parts infoTn
              have HROW := Lib.hid (World.ownsRow.alloc HNR4.out (.cells #[.int .i64 t, .int .i64 sv2, .string lt] 44))
              have HNEW := Lib.hid (World.news_of_block (cs := #[.int .i64 t, .int .i64 sv2, .string lt]) (t := 44) (fr := (0, 0)) (heap_alloc_new W4 (.cells #[.int .i64 t, .int .i64 sv2, .string lt] 44)))
              have HSZ : W2.heap.size ≤ (W4.alloc (.cells #[.int .i64 t, .int .i64 sv2, .string lt] 44)).heap.size := by simp; omega
              have HML : k + 1 ≤ maxLen := by simp only [maxLen]; omega
              have HMB : (k + 1) * 32 ≤ 140737488355328 := by omega
              go_wp2_with (at_builtin; refine wpList_append_own _ rfl _ _ 30 rfl W2.heap.size 44 i2 (.agg #[.int .i64 0, .int .i64 0, .string ⟨#[]⟩]) 3 32 undTn hi2 hz20 hz21 hz22 rfl (by decide) _ _ _ rfl HROW.out ⟨W4.heap.size, 0, none⟩ 1 1 [.int .i64 t, .int .i64 sv2, .string lt] rfl rfl HNEW.out (by simp [Value.oneCell']) HML HMB HSZ ?_; intro v' w10 hown10 hgrow10 _)
              go_roundw
              case rel =>
                refine ⟨k + 1, sv2, out ++ [⟨t, sv2, lt⟩], hkn, by go_num, rfl, hs20, hs21, HRF, by show World.ownsRow _ _ _ _ _ _ _; rw [tnCells_snoc]; exact hown10, ?_⟩
                exact ((HB4.out.alloc hz24 _).grown hgrow10 HSZ fun q hq => (World.ownsRow.lt HROW.out q hq).1)
              case measure => simp [intOf]; omega
          · obtain rfl : k = l.length := by omega
            have HE := Lib.hid (H0.out out (HOR.out.done (by rw [← HTS.out]; unfold nbM; rw [List.length_map, HTL.out]; exact Nat.le_refl _)))
            have hol := HOR.out.1
            have HRW : Hid (wr.ownsRow w.heap.size 44 3 u16 out.length (tnCells out)) := by show World.ownsRow _ _ _ _ _ _ _; rw [hol]; exact own_base HNR.out HB6.out.size
            have HBD := Lib.hid (HB6.out.trans (HBR.out.mono HB6.out.size))
            clear hol
            go_wp2_with fail
            go_ret2
            exact MakePost.ok HE.out HRW.out HBD.out
end Go.Proofs.YthggojpdcgcmaaaGreatDoor
namespace Go.Proofs.YthggojpdcgcmaaaGreatDoor
open Go.ChangeShapes Go.WideShapes Go.Deep Go.RowKit Go.Joins
set_option linter.unusedVariables false
set_option linter.unusedSimpArgs false

theorem list11 {α : Type} (l : List α) (h : l.length = 11) : ∃ a b c d e f g h' i j k, l = [a, b, c, d, e, f, g, h', i, j, k] := by
  match l, h with
  | [a, b, c, d, e, f, g, h', i, j, k], _ => exact ⟨a, b, c, d, e, f, g, h', i, j, k, rfl⟩

section
variable {H : Type} {enc : TypeId × Value → H} {w : World} {base : Nat} {spare : Nat → Bool} {held : Bool}
theorem trod_iR {fuel : Nat} {v : Value} {x : DataW H × List MemPlace} (h : DataW.trod enc Tryz.prog w base spare held fuel 3 [v] = some x) : ∃ n, v = .int .i64 n := by
  obtain ⟨b, e, _, _⟩ := DataW.trod_int Tryz.underlying3 h
  simp only [List.cons.injEq, and_true] at e
  exact ⟨b, e⟩
theorem trod_sR {fuel : Nat} {v : Value} {x : DataW H × List MemPlace} (h : DataW.trod enc Tryz.prog w base spare held fuel 9 [v] = some x) : ∃ s, v = .string s ∧ s.size ≤ maxLen := by
  obtain ⟨b, e, _, hs⟩ := DataW.trod_string Tryz.underlying9 h
  simp only [List.cons.injEq, and_true] at e
  exact ⟨b, e, hs⟩
set_option maxRecDepth 100000 in
theorem Dy_open {fuel : Nat} {a b c : Value} {x : DataW H × List MemPlace} (h : DataW.trod enc Tryz.prog w base spare held fuel 113 [a, b, c] = some x) : ∃ k wd n : Int, a = .int .i64 k ∧ b = .int .i64 wd ∧ c = .int .i64 n := by
  obtain ⟨xs, n, _, _, _, hl, hf⟩ := DataW.trod_struct Tryz.underlying113 h
  have hl3 : xs.length = 3 := hl
  have h0 := hf 0 _ rfl
  have h1 := hf 1 _ rfl
  have h2 := hf 2 _ rfl
  rw [List.getElem?_eq_getElem (by omega)] at h0 h1 h2
  obtain ⟨m, rfl⟩ := trod_iR (v := a) h0
  obtain ⟨k, rfl⟩ := trod_iR (v := b) h1
  obtain ⟨e, rfl⟩ := trod_iR (v := c) h2
  exact ⟨m, k, e, rfl, rfl, rfl⟩

theorem cellsRu : Tryz.prog.cellsOf 115 = 11 := by kernel_rfl
set_option maxRecDepth 100000 in
/-- the cells of a rule that can be read -/
theorem Ru_trod {fuel : Nat} {l : List Value} {x : DataW H × List MemPlace} (hl : l.length = 11) (h : DataW.trod enc Tryz.prog w base spare held fuel 115 l = some x) :
    ∃ q : Ru, l = (ruCells q).toList ∧ q.nm.size ≤ maxLen ∧ q.lt.size ≤ maxLen := by
  obtain ⟨c0, c1, c2, c3, c4, c5, c6, c7, c8, c9, c10, rfl⟩ := list11 l hl
  obtain ⟨xs, n, _, _, _, hl, hf⟩ := DataW.trod_struct Tryz.underlying115 h
  have hl9 : xs.length = 9 := hl
  have h0 := hf 0 _ rfl
  have h1 := hf 1 _ rfl
  have h2 := hf 2 _ rfl
  have h3 := hf 3 _ rfl
  have h4 := hf 4 _ rfl
  have h5 := hf 5 _ rfl
  have h6 := hf 6 _ rfl
  have h7 := hf 7 _ rfl
  have h8 := hf 8 _ rfl
  rw [List.getElem?_eq_getElem (by omega)] at h0 h1 h2 h3 h4 h5 h6 h7 h8
  obtain ⟨nm, rfl, s1⟩ := trod_sR (v := c0) h0
  obtain ⟨yf, rfl⟩ := trod_iR (v := c1) h1
  obtain ⟨yt, rfl⟩ := trod_iR (v := c2) h2
  obtain ⟨mo, rfl⟩ := trod_iR (v := c3) h3
  obtain ⟨dk, dw, dn, rfl, rfl, rfl⟩ := Dy_open (a := c4) (b := c5) (c := c6) (h4 : DataW.trod enc Tryz.prog w base spare held n 113 [c4, c5, c6] = _)
  obtain ⟨tm, rfl⟩ := trod_iR (v := c7) h5
  obtain ⟨ck, rfl⟩ := trod_iR (v := c8) h6
  obtain ⟨sv, rfl⟩ := trod_iR (v := c9) h7
  obtain ⟨lt, rfl, s2⟩ := trod_sR (v := c10) h8
  exact ⟨⟨nm, yf, yt, mo, dk, dw, dn, tm, ck, sv, lt⟩, rfl, s1, s2⟩
set_option maxRecDepth 100000 in
theorem Ru_open {r : Reach} {b0 : Nat} {v : Value} {d : DataW H} {p : List MemPlace} (hv : Value.okWide Tryz.prog w r b0 115 v) (h : DataW.Trod enc Tryz.prog w base spare held 115 v d p) :
    ∃ q : Ru, v = ruV q ∧ q.nm.size ≤ maxLen ∧ q.lt.size ≤ maxLen := by
  obtain ⟨cs, rfl, hsz⟩ := okWide_struct Tryz.underlying115 hv
  obtain ⟨l⟩ := cs
  obtain ⟨fuel, hf⟩ := h
  obtain ⟨q, rfl, s1, s2⟩ := Ru_trod (l := l) (hsz.trans cellsRu) hf
  exact ⟨q, rfl, s1, s2⟩
end
end Go.Proofs.YthggojpdcgcmaaaGreatDoor
