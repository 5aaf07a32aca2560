/- Part of the proof. -/
import Derived.Test.YtomahddiclkepaaGreatDoorQw00
import Derived.Test.YtomahddiclkepaaGreatDoorQw01
import Derived.Test.YtomahddiclkepaaGreatDoorQw02
import Derived.Test.YtomahddiclkepaaGreatDoorQw10
import Derived.Deep.RegionHeld3
import Derived.BigRegion
import Derived.Laws.BitsLemmas
import Derived.RegionTactic
import Derived.Maps.Own
import Derived.Maps.OwnOps
import Derived.Maps.OwnSet
import Derived.Maps.RangeWalk
import Derived.Maps.StringElems
set_option maxHeartbeats 20000000
set_option maxRecDepth 1000000
set_option linter.unusedVariables false
set_option linter.unusedSimpArgs false
namespace Go.Proofs.YtomahddiclkepaaGreatDoor
open Go.RowKit Go.Joins
theorem bcell' {W w1 : World} (hb : Below W.heap.size W w1) : (∀ b o, b < W.heap.size -> w1.cell? ⟨b, o, none⟩ = W.cell? ⟨b, o, none⟩) /\ (∀ b o, b < W.heap.size -> w1.frozen? ⟨b, o, none⟩ = W.frozen? ⟨b, o, none⟩) :=
 ⟨fun b o h => hb.cell (p := ⟨b, o, none⟩) h, fun b o h => hb.frozen (p := ⟨b, o, none⟩) h⟩
def weekB : List UInt8 := [83, 117, 110, 77, 111, 110, 84, 117, 101, 87, 101, 100, 84, 104, 117, 70, 114, 105, 83, 97, 116]
def wordT (wd : Int) : List UInt8 := (weekB.drop (3 * wd).toNat).take 3
def dayT (k wd n : Int) : List UInt8 :=
 if k = 2 then [108, 97, 115, 116] ++ wordT wd else if k = 3 then wordT wd ++ ([62, 61] ++ Lib.itoa n) else if k = 4 then wordT wd ++ ([60, 61] ++ Lib.itoa n) else Lib.itoa n
theorem wd_cases {wd : Int} (h0 : 0 <= wd) (h6 : wd <= 6) : wd = 0 \/ wd = 1 \/ wd = 2 \/ wd = 3 \/ wd = 4 \/ wd = 5 \/ wd = 6 := by omega
theorem wordT_length {wd : Int} (h0 : 0 <= wd) (h6 : wd <= 6) : (wordT wd).length = 3 := by
 rcases wd_cases h0 h6 with rfl | rfl | rfl | rfl | rfl | rfl | rfl <;> rfl
theorem week_ext {wd : Int} (h0 : 0 <= wd) (h6 : wd <= 6) : (txt weekB).extract (3 * wd).toNat (3 * wd + 3).toNat = txt (wordT wd) := by
 apply ByteArray.ext
 apply Array.ext'
 rw [Lib.extract_data, txt_data, txt_data]
 unfold wordT
 rw [show (3 * wd + 3).toNat - (3 * wd).toNat = 3 by omega]
theorem itoa_31 {n : Int} (h0 : 0 <= n) (h1 : n <= 31) : (Lib.itoa n).length <= 2 := by
 rw [itoa_nn h0, Lib.decDigits_length]
 by_cases h : n.toNat < 10
 ·rw [Lib.nDigits_small h]; omega
 ·rw [Lib.nDigits_big h, Lib.nDigits_small (by omega)]; omega
theorem Text_ok (k wd n : Int) (w : World) (h0 : dayB k wd n = true) (ht : Tab10 w) :
 Calls Tryz.prog 71 #[dayV k wd n] w fun e w' => e = .returned (.tuple #[.string (txt (dayT k wd n)), .int .i64 0]) /\ Below w.heap.size w w' := by
 have HT := qH ht
 have HCK := qH (fun W => Check_ok k wd n W h0)
 simp only [dayB, decide_eq_true_eq] at h0
 have hw0 : 0 <= wd := by omega
 have hw6 : wd <= 6 := by omega
 have hn0 : 0 <= n := by omega
 have hn1 : n <= 31 := by omega
 have hwl : (txt (wordT wd)).size = 3 := by rw [txt_size, wordT_length hw0 hw6]
 have hil : (txt (Lib.itoa n)).size <= 2 := by rw [txt_size]; exact itoa_31 hn0 hn1
 have hwe := week_ext hw0 hw6
 have hwk : txt weekB = ⟨#[83, 117, 110, 77, 111, 110, 84, 117, 101, 87, 101, 100, 84, 104, 117, 70, 114, 105, 83, 97, 116]⟩ := rfl
 rw [hwk] at hwe
 have hsl : ∀ W : World, (Instr.slice 9 (.string ⟨#[83, 117, 110, 77, 111, 110, 84, 117, 101, 87, 101, 100, 84, 104, 117, 70, 114, 105, 83, 97, 116]⟩) (some (.int .i64 (3 * wd))) (some (.int .i64 (3 * wd + 3))) none).run Tryz.prog W = .ok (.string (txt (wordT wd))) W := fun W => by
  rw [run_slice_string (P := Tryz.prog) W _ _ _ _ _ _ Tryz.underlying9 (by omega) (by omega) (by show 3 * wd + 3 <= ((21 : Nat) : Int); omega), hwe]
 have hw1 : IntKind.i64.wrap (3 * wd) = 3 * wd := by rw [IntKind.wrap_i64]; omega
 have hw2 : IntKind.i64.wrap (3 * wd + 3) = 3 * wd + 3 := by rw [IntKind.wrap_i64]; omega
 have HIT := qH (fun W hW => itoa_text n W (by omega) (by omega) hW)
 have eD : txt (dayT k wd n) = if k = 2 then ⟨#[108, 97, 115, 116]⟩ ++ txt (wordT wd) else if k = 3 then txt (wordT wd) ++ ⟨#[62, 61]⟩ ++ txt (Lib.itoa n) else if k = 4 then txt (wordT wd) ++ ⟨#[60, 61]⟩ ++ txt (Lib.itoa n) else txt (Lib.itoa n) := by
  rw [show (⟨#[108, 97, 115, 116]⟩ : ByteArray) = txt [108, 97, 115, 116] from rfl, show (⟨#[62, 61]⟩ : ByteArray) = txt [62, 61] from rfl, show (⟨#[60, 61]⟩ : ByteArray) = txt [60, 61] from rfl]
  simp only [txt_append]
  unfold dayT
  split
  ·rfl
  ·split
   ·simp
   ·split
    ·simp
    ·rfl
 rw [eD]
 clear eD hwk ht hwe
 generalize txt (wordT wd) = WD at hsl hwl
 obtain ⟨IT, eI⟩ : ∃ IT, txt (Lib.itoa n) = IT := ⟨_, rfl⟩
 rw [eI] at hil HIT
 rw [eI]
 clear eI
 have h : (k = 1 \/ k = 2) \/ k = 3 \/ k = 4 := by omega
 clear h0
 rcases h with (rfl | rfl) | rfl | rfl
 ·skip
  go_enter Tryz.func71, Tryz.ntmps71
  go_wp2_with fail
  refine (HCK.out _).mono ?_
  rintro e w1 ⟨rfl, hb1⟩
  have c1 : Below w.heap.size w w1 := ((Below.refl _ w).alloc (Nat.le_refl _) _).trans (hb1.mono (by simp))
  have HC1 := qH c1
  have f1 : w1.cell? ⟨w.heap.size, 1, none⟩ = some (.int .i64 wd) := ((bcell' hb1).1 w.heap.size 1 (by simp)).trans ((cell_of_row _ _ _ _ _ _ (heap_alloc_new w _)).trans rfl)
  have f2 : w1.cell? ⟨w.heap.size, 2, none⟩ = some (.int .i64 n) := ((bcell' hb1).1 w.heap.size 2 (by simp)).trans ((cell_of_row _ _ _ _ _ _ (heap_alloc_new w _)).trans rfl)
  have f0 : w1.cell? ⟨w.heap.size, 0, none⟩ = some (.int .i64 1) := ((bcell' hb1).1 w.heap.size 0 (by simp)).trans ((cell_of_row _ _ _ _ _ _ (heap_alloc_new w _)).trans rfl)
  have hlt : w.heap.size < w1.heap.size := by have := hb1.size; simp at this; omega
  clear hb1
  go_wp2_with fail
  go_region_held3 (fun w' => w'.cell? ⟨w.heap.size, 1, none⟩ = some (.int .i64 wd) /\ w'.cell? ⟨w.heap.size, 2, none⟩ = some (.int .i64 n))
   (first
     | go_keep
     | (exact ⟨(hb2.cell (p := ⟨w.heap.size, 1, none⟩) hlt).trans f1, (hb2.cell (p := ⟨w.heap.size, 2, none⟩) hlt).trans f2⟩))
   (first
     | (go_at_call 73; refine (HIT.out _ (Tab10.below HT.out (below_drewN' HC1.out 1))).mono ?_; rintro e w2 ⟨rfl, hb2⟩))
  have f0' : w2.cell? ⟨w.heap.size, 0, none⟩ = some (.int .i64 1) := (hb2.cell (p := ⟨w.heap.size, 0, none⟩) hlt).trans f0
  have hlt2 : w.heap.size < w2.heap.size := by have := hb2.size; simp at this; omega
  have c2 : Below w.heap.size w w2 := (below_drewN' HC1.out 1).trans (hb2.mono (by have := HC1.out.size; simpa using this))
  clear hb2 f0 f1 f2 hlt
  go_wp2
  go_ret2
  exact ⟨rfl, c2⟩
 ·skip
  go_enter Tryz.func71, Tryz.ntmps71
  go_wp2_with fail
  refine (HCK.out _).mono ?_
  rintro e w1 ⟨rfl, hb1⟩
  have c1 : Below w.heap.size w w1 := ((Below.refl _ w).alloc (Nat.le_refl _) _).trans (hb1.mono (by simp))
  have HC1 := qH c1
  have f1 : w1.cell? ⟨w.heap.size, 1, none⟩ = some (.int .i64 wd) := ((bcell' hb1).1 w.heap.size 1 (by simp)).trans ((cell_of_row _ _ _ _ _ _ (heap_alloc_new w _)).trans rfl)
  have f2 : w1.cell? ⟨w.heap.size, 2, none⟩ = some (.int .i64 n) := ((bcell' hb1).1 w.heap.size 2 (by simp)).trans ((cell_of_row _ _ _ _ _ _ (heap_alloc_new w _)).trans rfl)
  have f0 : w1.cell? ⟨w.heap.size, 0, none⟩ = some (.int .i64 2) := ((bcell' hb1).1 w.heap.size 0 (by simp)).trans ((cell_of_row _ _ _ _ _ _ (heap_alloc_new w _)).trans rfl)
  have hlt : w.heap.size < w1.heap.size := by have := hb1.size; simp at this; omega
  clear hb1
  go_wp2_with fail
  go_region_held3 (fun w' => w'.cell? ⟨w.heap.size, 1, none⟩ = some (.int .i64 wd) /\ w'.cell? ⟨w.heap.size, 2, none⟩ = some (.int .i64 n))
   (first
     | go_keep
     | (exact ⟨(hb2.cell (p := ⟨w.heap.size, 1, none⟩) hlt).trans f1, (hb2.cell (p := ⟨w.heap.size, 2, none⟩) hlt).trans f2⟩))
   (first
     | (go_at_call 73; refine (HIT.out _ (Tab10.below HT.out (below_drewN' HC1.out 1))).mono ?_; rintro e w2 ⟨rfl, hb2⟩))
  have f0' : w2.cell? ⟨w.heap.size, 0, none⟩ = some (.int .i64 2) := (hb2.cell (p := ⟨w.heap.size, 0, none⟩) hlt).trans f0
  have hlt2 : w.heap.size < w2.heap.size := by have := hb2.size; simp at this; omega
  have c2 : Below w.heap.size w w2 := (below_drewN' HC1.out 1).trans (hb2.mono (by have := HC1.out.size; simpa using this))
  clear hb2 f0 f1 f2 hlt
  go_wp2
  go_ret2
  exact ⟨rfl, c2⟩
 ·skip
  go_enter Tryz.func71, Tryz.ntmps71
  go_wp2_with fail
  refine (HCK.out _).mono ?_
  rintro e w1 ⟨rfl, hb1⟩
  have c1 : Below w.heap.size w w1 := ((Below.refl _ w).alloc (Nat.le_refl _) _).trans (hb1.mono (by simp))
  have HC1 := qH c1
  have f1 : w1.cell? ⟨w.heap.size, 1, none⟩ = some (.int .i64 wd) := ((bcell' hb1).1 w.heap.size 1 (by simp)).trans ((cell_of_row _ _ _ _ _ _ (heap_alloc_new w _)).trans rfl)
  have f2 : w1.cell? ⟨w.heap.size, 2, none⟩ = some (.int .i64 n) := ((bcell' hb1).1 w.heap.size 2 (by simp)).trans ((cell_of_row _ _ _ _ _ _ (heap_alloc_new w _)).trans rfl)
  have f0 : w1.cell? ⟨w.heap.size, 0, none⟩ = some (.int .i64 3) := ((bcell' hb1).1 w.heap.size 0 (by simp)).trans ((cell_of_row _ _ _ _ _ _ (heap_alloc_new w _)).trans rfl)
  have hlt : w.heap.size < w1.heap.size := by have := hb1.size; simp at this; omega
  clear hb1
  go_wp2_with fail
  go_region_held3 (fun w' => w'.cell? ⟨w.heap.size, 1, none⟩ = some (.int .i64 wd) /\ w'.cell? ⟨w.heap.size, 2, none⟩ = some (.int .i64 n))
   (first
     | go_keep
     | (exact ⟨(hb2.cell (p := ⟨w.heap.size, 1, none⟩) hlt).trans f1, (hb2.cell (p := ⟨w.heap.size, 2, none⟩) hlt).trans f2⟩))
   (first
     | (go_at_call 73; refine (HIT.out _ (Tab10.below HT.out (below_drewN' HC1.out 1))).mono ?_; rintro e w2 ⟨rfl, hb2⟩))
  have f0' : w2.cell? ⟨w.heap.size, 0, none⟩ = some (.int .i64 3) := (hb2.cell (p := ⟨w.heap.size, 0, none⟩) hlt).trans f0
  have hlt2 : w.heap.size < w2.heap.size := by have := hb2.size; simp at this; omega
  have c2 : Below w.heap.size w w2 := (below_drewN' HC1.out 1).trans (hb2.mono (by have := HC1.out.size; simpa using this))
  clear hb2 f0 f1 f2 hlt
  go_wp2
  go_ret2
  exact ⟨rfl, c2⟩
 ·skip
  go_enter Tryz.func71, Tryz.ntmps71
  go_wp2_with fail
  refine (HCK.out _).mono ?_
  rintro e w1 ⟨rfl, hb1⟩
  have c1 : Below w.heap.size w w1 := ((Below.refl _ w).alloc (Nat.le_refl _) _).trans (hb1.mono (by simp))
  have HC1 := qH c1
  have f1 : w1.cell? ⟨w.heap.size, 1, none⟩ = some (.int .i64 wd) := ((bcell' hb1).1 w.heap.size 1 (by simp)).trans ((cell_of_row _ _ _ _ _ _ (heap_alloc_new w _)).trans rfl)
  have f2 : w1.cell? ⟨w.heap.size, 2, none⟩ = some (.int .i64 n) := ((bcell' hb1).1 w.heap.size 2 (by simp)).trans ((cell_of_row _ _ _ _ _ _ (heap_alloc_new w _)).trans rfl)
  have f0 : w1.cell? ⟨w.heap.size, 0, none⟩ = some (.int .i64 4) := ((bcell' hb1).1 w.heap.size 0 (by simp)).trans ((cell_of_row _ _ _ _ _ _ (heap_alloc_new w _)).trans rfl)
  have hlt : w.heap.size < w1.heap.size := by have := hb1.size; simp at this; omega
  clear hb1
  go_wp2_with fail
  go_region_held3 (fun w' => w'.cell? ⟨w.heap.size, 1, none⟩ = some (.int .i64 wd) /\ w'.cell? ⟨w.heap.size, 2, none⟩ = some (.int .i64 n))
   (first
     | go_keep
     | (exact ⟨(hb2.cell (p := ⟨w.heap.size, 1, none⟩) hlt).trans f1, (hb2.cell (p := ⟨w.heap.size, 2, none⟩) hlt).trans f2⟩))
   (first
     | (go_at_call 73; refine (HIT.out _ (Tab10.below HT.out (below_drewN' HC1.out 1))).mono ?_; rintro e w2 ⟨rfl, hb2⟩))
  have f0' : w2.cell? ⟨w.heap.size, 0, none⟩ = some (.int .i64 4) := (hb2.cell (p := ⟨w.heap.size, 0, none⟩) hlt).trans f0
  have hlt2 : w.heap.size < w2.heap.size := by have := hb2.size; simp at this; omega
  have c2 : Below w.heap.size w w2 := (below_drewN' HC1.out 1).trans (hb2.mono (by have := HC1.out.size; simpa using this))
  clear hb2 f0 f1 f2 hlt
  go_wp2
  go_ret2
  exact ⟨rfl, c2⟩
theorem Text_no (k wd n : Int) (w : World) (h0 : dayB k wd n = false) :
 Calls Tryz.prog 71 #[dayV k wd n] w fun e w' => e = .returned (.tuple #[.string ⟨#[]⟩, .int .i64 1]) /\ Below w.heap.size w w' := by
 have HCK := qH (fun W => Check_no k wd n W h0)
 clear h0
 go_enter Tryz.func71, Tryz.ntmps71
 go_wp2_with fail
 refine (HCK.out _).mono ?_
 rintro e w1 ⟨rfl, hb1⟩
 have c1 : Below w.heap.size w w1 := ((Below.refl _ w).alloc (Nat.le_refl _) _).trans (hb1.mono (by simp))
 go_wp2
 go_ret2
 exact ⟨rfl, c1⟩
def wordsL : List ByteArray := [⟨#[83, 117, 110]⟩, ⟨#[77, 111, 110]⟩, ⟨#[84, 117, 101]⟩, ⟨#[87, 101, 100]⟩, ⟨#[84, 104, 117]⟩, ⟨#[70, 114, 105]⟩, ⟨#[83, 97, 116]⟩]
def wdayV (l : List UInt8) : Int := Lib.idxOfS wordsL (txt l)
theorem weekday_any (l : List UInt8) (w : World) :
 Calls Tryz.prog 178 #[.string (txt l)] w fun e w' => e = .returned (.int .i64 (wdayV l)) /\ Below w.heap.size w w' := by
 have hI : Calls Tryz.prog 208 #[.slice (some ⟨w.heap.size, 0, none⟩) 7 7, .string (txt l)] (w.alloc (.cells #[.string ⟨#[83, 117, 110]⟩, .string ⟨#[77, 111, 110]⟩, .string ⟨#[84, 117, 101]⟩, .string ⟨#[87, 101, 100]⟩, .string ⟨#[84, 104, 117]⟩, .string ⟨#[70, 114, 105]⟩, .string ⟨#[83, 97, 116]⟩] 9)) fun e w' => e = .returned (.int .i64 (wdayV l)) /\ w' = (w.alloc (.cells #[.string ⟨#[83, 117, 110]⟩, .string ⟨#[77, 111, 110]⟩, .string ⟨#[84, 117, 101]⟩, .string ⟨#[87, 101, 100]⟩, .string ⟨#[84, 104, 117]⟩, .string ⟨#[70, 114, 105]⟩, .string ⟨#[83, 97, 116]⟩] 9)) := by
  refine Tryz.slices_Index_string w.heap.size 0 7 7 wordsL (txt l) _ (by decide) (by decide) (fun j hj => ?_)
  rw [cell_of_row _ _ _ _ _ _ (heap_alloc_new w _)]
  have hj7 : j < 7 := hj
  rcases (by omega : j = 0 \/ j = 1 \/ j = 2 \/ j = 3 \/ j = 4 \/ j = 5 \/ j = 6) with rfl | rfl | rfl | rfl | rfl | rfl | rfl <;> rfl
 generalize txt l = S at hI
 obtain ⟨V, eV⟩ : ∃ V, wdayV l = V := ⟨_, rfl⟩
 rw [eV] at hI
 rw [eV]
 have HI := qH hI
 clear hI eV
 go_enter Tryz.func178, Tryz.ntmps178
 go_wp2_with fail
 refine HI.out.mono ?_
 rintro e w2 ⟨rfl, rfl⟩
 go_wp2
 go_ret
 exact ⟨rfl, (Below.refl _ _).alloc (Nat.le_refl _) _⟩
end Go.Proofs.YtomahddiclkepaaGreatDoor
namespace Go.Proofs.YtomahddiclkepaaGreatDoor
open Go.RowKit Go.Joins
open Classical
def ckT (b : Int) : List UInt8 := if b = 1 then [115] else if b = 2 then [117] else []
def ruW (r : Ru) : List (List UInt8) :=
 [[114, 117, 108, 101], r.nm.data.toList, Lib.itoa r.yf, Lib.itoa r.yt, Lib.itoa r.mo, dayT r.dk r.dw r.dn, spanT r.tm ++ ckT r.ck, spanT r.sv, r.lt.data.toList]
def glue : List (List UInt8) -> List UInt8
 | [] => []
 | [x] => x
 | x :: y :: r => x ++ 32 :: glue (y :: r)
def ruText (r : Ru) : List UInt8 := glue (ruW r)
theorem split_glue : ∀ (ws : List (List UInt8)), ws ≠ [] -> (∀ x ∈ ws, ∀ c ∈ x, c ≠ 32) -> splitC 32 (glue ws) = ws
 | [], h, _ => absurd rfl h
 | [x], _, h => splitC_last 32 x (h x (by simp))
 | x :: y :: r, _, h => by
  show splitC 32 (x ++ 32 :: glue (y :: r)) = _
  rw [splitC_head 32 x _ (h x (by simp)), split_glue (y :: r) (by simp) (fun z hz => h z (by simp only [List.mem_cons] at hz ⊢; exact Or.inr hz))]
theorem sign_ne {s : ByteArray} {most : Int} {o : ByteArray} (h : allB s most o = true) (ho : ∀ c ∈ o.data.toList, c ≠ 32) : ∀ c ∈ s.data.toList, c ≠ 32 := by
 unfold allB at h
 simp only [Bool.and_eq_true, List.all_eq_true] at h
 intro c hc e
 have := h.1.1 c hc
 subst e
 unfold signB letterB digitB at this
 simp only [Bool.or_eq_true, decide_eq_true_eq, List.contains_iff_mem] at this
 rcases this with (h | h) | h
 ·have e : ((32 : UInt8).toNat : Int) = 32 := rfl
  omega
 ·have e : ((32 : UInt8).toNat : Int) = 32 := rfl
  omega
 ·exact ho _ h rfl
end Go.Proofs.YtomahddiclkepaaGreatDoor
namespace Go.Proofs.YtomahddiclkepaaGreatDoor
open Go.RowKit Go.Joins Go.Maps
theorem keyI : Keyed Tryz.prog 3 := int_keyed Tryz.underlying3
def dayS0 (l : List UInt8) : Int × Int × List UInt8 := if Lib.hasPrefix l [108, 97, 115, 116] = true then (2, wdayV (Lib.trimPrefix l [108, 97, 115, 116]), [48]) else (1, 0, l)
def dayHit (l : List UInt8) (k : Int) (sg : List UInt8) (st : Int × Int × List UInt8) : Int × Int × List UInt8 :=
 if (Lib.cut l sg).2.2 = true then (k, wdayV (Lib.cut l sg).1, (Lib.cut l sg).2.1) else st
def DayRes (l : List UInt8) (st : Int × Int × List UInt8) (R : Int × Int × Int × Int) : Prop :=
 (dayB st.1 st.2.1 (atoiV st.2.2) = true /\ dayT st.1 st.2.1 (atoiV st.2.2) = l /\ R = (st.1, st.2.1, atoiV st.2.2, 0)) \/
 (dayB st.1 st.2.1 (atoiV st.2.2) = true /\ dayT st.1 st.2.1 (atoiV st.2.2) ≠ l /\ R = (0, 0, 0, 3)) \/
 (dayB st.1 st.2.1 (atoiV st.2.2) = false /\ R = (0, 0, 0, 3))
noncomputable def signsD : DataW Unit := ((DataW.map []).put (.int .i64 3) (.lit (.string [62, 61]))).put (.int .i64 4) (.lit (.string [60, 61]))
theorem signs_made (W : World) (B : Nat) (hB : W.heap.size = B) :
 ∃ W1 W2 : World, (Instr.mapUpdate 257 (.map (some B)) (.int .i64 3) (.string ⟨#[62, 61]⟩)).run Tryz.prog (W.alloc (.map #[] 0)) = .ok () W1 /\
  (Instr.mapUpdate 257 (.map (some B)) (.int .i64 4) (.string ⟨#[60, 61]⟩)).run Tryz.prog W1 = .ok () W2 /\
  W2.ownsMap Tryz.prog 3 (plainElem Tryz.prog 9) B 2 signsD /\ W.grownBy W2 none := by
 subst hB
 obtain ⟨W1, r1, o1, g1⟩ := (World.ownsMap_made (H := Unit) W Tryz.prog 3 (plainElem Tryz.prog 9)).update keyI Tryz.underlying257 (by unfold maxLen; omega) (key := .int .i64 3) (val := .string ⟨#[62, 61]⟩) (keyOf_int_mk Tryz.underlying3 (by decide)) (plainElem_string Tryz.underlying9 (by decide))
 obtain ⟨W2, r2, o2, g2⟩ := o1.update keyI Tryz.underlying257 (by unfold maxLen; omega) (key := .int .i64 4) (val := .string ⟨#[60, 61]⟩) (keyOf_int_mk Tryz.underlying3 (by decide)) (plainElem_string Tryz.underlying9 (by decide))
 refine ⟨W1, W2, r1, r2, o2, ?_⟩
 exact ((World.grownBy_alloc W (.map #[] 0) none).andThen g1 (fun j hj => by cases hj; exact Or.inl (Nat.le_refl _))).andThen g2 (fun j hj => by cases hj; exact Or.inl (Nat.le_refl _))
theorem sign3 {c : ByteArray} (h : ∀ zd, signsD.atKey (.int .i64 3) zd = .lit (.string c.data.toList)) : c = ⟨#[62, 61]⟩ := by
 have h1 : signsD.atKey (.int .i64 3) .nil = .lit (.string [62, 61]) := by rfl
 have h2 := (h .nil).symm.trans h1
 injection h2 with h2
 injection h2 with h2
 exact txt_inj (a := c.data.toList) (b := [62, 61]) (by rw [h2]) ▸ rfl
theorem sign4 {c : ByteArray} (h : ∀ zd, signsD.atKey (.int .i64 4) zd = .lit (.string c.data.toList)) : c = ⟨#[60, 61]⟩ := by
 have h1 : signsD.atKey (.int .i64 4) .nil = .lit (.string [60, 61]) := by rfl
 have h2 := (h .nil).symm.trans h1
 injection h2 with h2
 injection h2 with h2
 exact txt_inj (a := c.data.toList) (b := [60, 61]) (by rw [h2]) ▸ rfl
theorem signs_has (kl : Lit) (h : Maps.has signsD kl = true) : kl = .int .i64 3 \/ kl = .int .i64 4 := by
 have e : signsD = .map [(.int .i64 3, .lit (.string [62, 61])), (.int .i64 4, .lit (.string [60, 61]))] := by rfl
 rw [e] at h
 simp only [Maps.has, List.any_cons, List.any_nil, Bool.or_false, Bool.or_eq_true] at h
 rcases h with h | h
 ·left; cases kl <;> simp_all [Lit.sameKey]
 ·right; cases kl <;> simp_all [Lit.sameKey]
theorem signs_has3 : Maps.has signsD (.int .i64 3) = true := by rfl
theorem signs_has4 : Maps.has signsD (.int .i64 4) = true := by rfl
theorem heap_setCd {w : World} {R i : Nat} {cs : Array Value} {T : TypeId} {f : Nat × Nat} (h : w.heap[R]? = some (.cells cs T f)) (v : Value) : (w.setCell ⟨R, i, none⟩ v).heap[R]? = some (.cells (cs.setIfInBounds i v) T f) := by
 simp [World.setCell, Array.getElem?_modify, h]
theorem end_cellsD {W : World} {g : Nat} {a b c : Value} {T : TypeId} (h : W.heap[g]? = some (.cells #[a, b, c] T (0, 0))) (x y z : Value) :
 ∃ W', ((W.setCell ⟨g, 0, none⟩ x).setCell ⟨g, 1, none⟩ y).setCell ⟨g, 2, none⟩ z = W' /\ (∀ B, B <= g -> Below B W W') /\ W'.heap[g]? = some (.cells #[x, y, z] T (0, 0)) /\ ∀ b, b ≠ g -> W'.heap[b]? = W.heap[b]? := by
 refine ⟨_, rfl, fun B hB => (((Below.refl _ _).setCell (by exact hB) _).setCell (by exact hB) _).setCell (by exact hB) _, ?_, fun b hb => (Below.heap_setCell _ _ _ _ hb).trans ((Below.heap_setCell _ _ _ _ hb).trans (Below.heap_setCell _ _ _ _ hb))⟩
 rw [heap_setCd (i := 2) (heap_setCd (i := 1) (heap_setCd (i := 0) h x) y) z]
 rfl
theorem left_off {left : Lit -> Bool} {x : Int} (y : Int) (h : x ≠ y) : (left (.int .i64 y) && !(Lit.int .i64 y).sameKey (.int .i64 x)) = left (.int .i64 y) := by
 have : (Lit.int .i64 y).sameKey (.int .i64 x) = false := by simp [Lit.sameKey]; omega
 rw [this]; simp
theorem left_on {left : Lit -> Bool} (x : Int) : (left (.int .i64 x) && !(Lit.int .i64 x).sameKey (.int .i64 x)) = false := by simp [Lit.sameKey]
theorem ranges_below {H : Type} {w w' : World} {P : Program} {k : TypeId} {R : Value -> Option (DataW H × List MemPlace)} {b r n : Nat} {D : DataW H} {left : Lit -> Bool} {cnt : Nat} (h : w.ranges P k R b r n D left cnt) (hb : Below w.heap.size w w') : w'.ranges P k R b r n D left cnt :=
 h.kept (row := none) ⟨hb.os, hb.tape, hb.output, hb.size, fun i hi _ => hb.block i hi⟩ (by simp) (by simp)
theorem ranges_set {H : Type} {w : World} {P : Program} {k : TypeId} {R : Value -> Option (DataW H × List MemPlace)} {b r n : Nat} {D : DataW H} {left : Lit -> Bool} {cnt : Nat} (h : w.ranges P k R b r n D left cnt) (X i : Nat) (v : Value) (h1 : b ≠ X) (h2 : r ≠ X) : (w.setCell ⟨X, i, none⟩ v).ranges P k R b r n D left cnt :=
 h.kept (row := some X) ⟨rfl, rfl, rfl, by simp [World.setCell], fun j hj hne => Below.heap_setCell _ _ _ j (fun e => hne (by rw [e]))⟩ (by simpa using h1) (by simpa using h2)
theorem Read_walk (l : List UInt8) (w : World) (hl : l.length <= 4294967280) (ht : Tab10 w) (hn : NumErrs w) (hm : MaxLen w)
 (P : Bool -> Bool -> Int × Int × List UInt8 -> Prop) (p0 : P true true (dayS0 l))
 (pA : ∀ b st, P true b st -> P false b (dayHit l 3 [62, 61] st)) (pB : ∀ b st, P b true st -> P b false (dayHit l 4 [60, 61] st))
 (psm : ∀ a b st, P a b st -> st.2.2.length <= 281474976710656)
 (R : Int × Int × Int × Int) (hend : ∀ st, P false false st -> DayRes l st R) :
 Calls Tryz.prog 138 #[.string (txt l)] w fun e w' => e = .returned (.tuple #[dayV R.1 R.2.1 R.2.2.1, .int .i64 R.2.2.2]) /\ Below w.heap.size w w' := by
 have HT := qH ht
 have HN := qH hn
 have HM := qH hm
 have HCP := qH (fun W => cutPrefix_any l [108, 97, 115, 116] W)
 have HWD := qH (fun W => weekday_any (Lib.trimPrefix l [108, 97, 115, 116]) W)
 rw [show (txt [108, 97, 115, 116] : ByteArray) = ⟨#[108, 97, 115, 116]⟩ from rfl] at HCP
 have HCA := qH (fun W hW => cut_any l [62, 61] W (by omega) hW)
 have HCB := qH (fun W hW => cut_any l [60, 61] W (by omega) hW)
 rw [show (txt [62, 61] : ByteArray) = ⟨#[62, 61]⟩ from rfl] at HCA
 rw [show (txt [60, 61] : ByteArray) = ⟨#[60, 61]⟩ from rfl] at HCB
 have P0 := qH p0
 have PA := qH pA
 have PB := qH pB
 have PSM := qH psm
 have HEND := qH hend
 obtain ⟨S, eS⟩ : ∃ S, txt l = S := ⟨_, rfl⟩
 rw [eS] at HCP HCA HCB ⊢
 have ES := qH eS
 clear ht hn hm p0 pA pB psm hend
 go_enter Tryz.func138, Tryz.ntmps138
 go_wp2_with fail
 refine (HCP.out _).mono ?_
 rintro e w1 ⟨rfl, rfl⟩
 cases hpf : Lib.hasPrefix l [108, 97, 115, 116]
 ·have eS0 : dayS0 l = (1, 0, l) := by unfold dayS0; rw [hpf]; rfl
  rw [eS0] at P0
  go_wp2_with fail
  obtain ⟨W, eW⟩ : ∃ W, (w.alloc (.cells #[.int .i64 0, .int .i64 0, .int .i64 0] 85)).alloc (.cells #[.int .i64 1, .int .i64 0, .int .i64 0] 85) = W := ⟨_, rfl⟩
  rw [eW]
  have hbW : Below w.heap.size w W := by rw [<- eW]; exact ((Below.refl _ _).alloc (Nat.le_refl _) _).alloc (by simp) _
  have hX : W.heap[w.heap.size + 1]? = some (.cells #[.int .i64 1, .int .i64 0, .int .i64 0] 85 (0, 0)) := by
   rw [<- eW]
   have := heap_alloc_new (w.alloc (.cells #[.int .i64 0, .int .i64 0, .int .i64 0] 85)) (.cells #[.int .i64 1, .int .i64 0, .int .i64 0] 85)
   simpa using this
  have hZ : W.heap[w.heap.size]? = some (.cells #[.int .i64 0, .int .i64 0, .int .i64 0] 85 (0, 0)) := by
   rw [<- eW, Below.heap_alloc _ _ _ (by simp)]
   exact heap_alloc_new w _
  clear eW eS0 hpf
  have HBW := qH hbW
  have HX := qH hX
  have HZ := qH hZ
  have hXlt : w.heap.size + 1 < W.heap.size := (Array.getElem?_eq_some_iff.mp hX).1
  clear hbW hX hZ
  obtain ⟨W1, W2, r1, r2, hown, hgr⟩ := signs_made W W.heap.size rfl
  rw [run_makeMap]
  go_wp2_with (at_range; refine wpList_range_own _ rfl _ 257 rfl 3 9 keyI Tryz.underlying257 _ _ 2 _ rfl hown ?_; intro w0 hrg0 hg0 hs0)
  go_frame
  have hWW : W.heap.size < W2.heap.size := hown.lt
  have hgA := hgr.andThen hg0 (fun j hj => by cases hj)
  have hX0 := (hgA.block _ hXlt (by simp)).trans HX.out
  have hZ0 := (hgA.block w.heap.size (by omega) (by simp)).trans HZ.out
  have hb0 := HBW.out.grown hgA HBW.out.size (fun j hj => by cases hj)
  clear hgr hg0 hgA hs0 hown r1 r2
  go_loopw [5] (fun s5 wr => ∃ (k wd : Int) (rest : List UInt8) (left : Lit -> Bool) (cnt : Nat), s5 = .string (txt rest) /\ wr.heap[w.heap.size + 1]? = some (.cells #[.int .i64 k, .int .i64 wd, .int .i64 0] 85 (0, 0)) /\ wr.heap[w.heap.size]? = some (.cells #[.int .i64 0, .int .i64 0, .int .i64 0] 85 (0, 0)) /\
   wr.ranges Tryz.prog 3 (plainElem Tryz.prog 9) W.heap.size W2.heap.size 2 signsD left cnt /\ P (left (.int .i64 3)) (left (.int .i64 4)) (k, wd, rest) /\ (∀ kl, left kl = true -> kl = .int .i64 3 \/ kl = .int .i64 4) /\ Below w.heap.size w wr) (fun _ wr => wr.rangeLeft W.heap.size W2.heap.size)
  case atStart => exact ⟨1, 0, l, _, _, by rw [ES.out], hX0, hZ0, hrg0, by rw [signs_has3, signs_has4]; exact P0.out, signs_has, hb0⟩
  case round =>
   obtain ⟨k, wd, rest, left, cnt, rfl, hXr, hZr, hrg, hP, hle, hbr⟩ := hrel
   have HXR := qH hXr
   have HZR := qH hZr
   have HP := qH hP
   have HLE := qH hle
   have HBR := qH hbr
   have hsr : W2.heap.size < wr.heap.size := hrg.lt
   clear hXr hZr hP hle hbr hX0 hZ0 hrg0 hb0
   go_wp2_with (first
    | (at_next; refine wpList_next_ranges_is _ rfl _ rfl 3 9 .i64 keyI Tryz.underlying3 Tryz.underlying9 W.heap.size W2.heap.size 2 _ _ _ rfl hrg ?_ ?_)
    | go_in)
   ·intro _ hl0
    have hPe : P false false (k, wd, rest) := by
     have h := HP.out
     rw [hl0, hl0] at h
     exact h
    have hsm := PSM.out _ _ _ hPe
    have hres := HEND.out _ hPe
    unfold DayRes at hres
    simp only at hres hsm
    have hXl : w.heap.size + 1 < wr.heap.size := (Array.getElem?_eq_some_iff.mp HXR.out).1
    clear hl0 hPe hrg
    go_wp2_with fail
    refine (Atoi_any rest _ hsm (HN.out.below HBR.out)).mono ?_
    rintro e w2 ⟨ev, rfl, hb2, -⟩
    have HB2 := qH (HBR.out.trans (hb2.mono HBR.out.size))
    have HX2 := qH ((hb2.block _ hXl).trans HXR.out)
    have HZ2 := qH ((hb2.block w.heap.size (by omega)).trans HZR.out)
    have hX2l : w.heap.size + 1 < w2.heap.size := by have := hb2.size; omega
    clear hb2
    obtain ⟨N, eN⟩ : ∃ N, atoiV rest = N := ⟨_, rfl⟩
    rw [eN] at hres
    rw [eN]
    clear eN
    have c2 : w2.cell? ⟨w.heap.size + 1, 2, none⟩ = some (.int .i64 0) := (cell_of_row w2 _ 2 _ _ _ HX2.out).trans rfl
    have z2 : w2.frozen? ⟨w.heap.size + 1, 2, none⟩ = false := by simp [World.frozen?, HX2.out]
    obtain ⟨w3, ew3⟩ : ∃ w3, w2.setCell ⟨w.heap.size + 1, 2, none⟩ (.int .i64 N) = w3 := ⟨_, rfl⟩
    have hX3 := heap_setCd (i := 2) HX2.out (.int .i64 N)
    have hZ3 : (w2.setCell ⟨w.heap.size + 1, 2, none⟩ (.int .i64 N)).heap[w.heap.size]? = some (.cells #[.int .i64 0, .int .i64 0, .int .i64 0] 85 (0, 0)) := (Below.heap_setCell _ _ _ _ (by show w.heap.size ≠ w.heap.size + 1; omega)).trans HZ2.out
    have hb3 := HB2.out.setCell (p := ⟨w.heap.size + 1, 2, none⟩) (by show w.heap.size <= w.heap.size + 1; omega) (.int .i64 N)
    rw [ew3] at hX3 hZ3 hb3
    have hl3 : w.heap.size + 1 < w3.heap.size := (Array.getElem?_eq_some_iff.mp hX3).1
    have d0 : w3.cell? ⟨w.heap.size + 1, 0, none⟩ = some (.int .i64 k) := (cell_of_row w3 _ 0 _ _ _ hX3).trans rfl
    have d1 : w3.cell? ⟨w.heap.size + 1, 1, none⟩ = some (.int .i64 wd) := (cell_of_row w3 _ 1 _ _ _ hX3).trans rfl
    have d2 : w3.cell? ⟨w.heap.size + 1, 2, none⟩ = some (.int .i64 N) := (cell_of_row w3 _ 2 _ _ _ hX3).trans rfl
    go_wp2_with fail
    have HX3 := qH hX3
    have HZ3 := qH hZ3
    have HB3 := qH hb3
    clear hX3 hZ3 hb3
    have hfin : ∀ (w4 : World), Below w3.heap.size w3 w4 -> w4.heap[w.heap.size + 1]? = some (.cells #[.int .i64 k, .int .i64 wd, .int .i64 N] 85 (0, 0)) /\ w4.heap[w.heap.size]? = some (.cells #[.int .i64 0, .int .i64 0, .int .i64 0] 85 (0, 0)) /\ Below w.heap.size w w4 /\ w.heap.size + 1 < w4.heap.size := fun w4 hb4 =>
     ⟨(hb4.block _ hl3).trans HX3.out, (hb4.block _ (by omega)).trans HZ3.out, HB3.out.trans (hb4.mono HB3.out.size), by have := hb4.size; omega⟩
    have HFIN := qH hfin
    clear hfin
    rcases hres with ⟨hB, hT, rfl⟩ | ⟨hB, hT, rfl⟩ | ⟨hB, rfl⟩
    ·refine (Text_ok k wd N w3 hB (HT.out.below HB3.out)).mono ?_
     rw [hT, ES.out]
     rintro e w4 ⟨rfl, hb4⟩
     obtain ⟨x4, y4, b4, l4⟩ := HFIN.out w4 hb4
     clear hT hb4
     have e0 : w4.cell? ⟨w.heap.size + 1, 0, none⟩ = some (.int .i64 k) := (cell_of_row w4 _ 0 _ _ _ x4).trans rfl
     have e1 : w4.cell? ⟨w.heap.size + 1, 1, none⟩ = some (.int .i64 wd) := (cell_of_row w4 _ 1 _ _ _ x4).trans rfl
     have e2 : w4.cell? ⟨w.heap.size + 1, 2, none⟩ = some (.int .i64 N) := (cell_of_row w4 _ 2 _ _ _ x4).trans rfl
     have g0 : w4.cell? ⟨w.heap.size, 0, none⟩ = some (.int .i64 0) := (cell_of_row w4 _ 0 _ _ _ y4).trans rfl
     have g1 : w4.cell? ⟨w.heap.size, 1, none⟩ = some (.int .i64 0) := (cell_of_row w4 _ 1 _ _ _ y4).trans rfl
     have g2 : w4.cell? ⟨w.heap.size, 2, none⟩ = some (.int .i64 0) := (cell_of_row w4 _ 2 _ _ _ y4).trans rfl
     have z0 : w4.frozen? ⟨w.heap.size, 0, none⟩ = false := by simp [World.frozen?, y4]
     have z1 : w4.frozen? ⟨w.heap.size, 1, none⟩ = false := by simp [World.frozen?, y4]
     have z2' : w4.frozen? ⟨w.heap.size, 2, none⟩ = false := by simp [World.frozen?, y4]
     go_wp2_with fail
     obtain ⟨W9, e9, hB9, hh9, ho9⟩ := end_cellsD y4 (.int .i64 k) (.int .i64 wd) (.int .i64 N)
     rw [e9]
     have v0 : W9.cell? ⟨w.heap.size, 0, none⟩ = some (.int .i64 k) := (cell_of_row W9 _ 0 _ _ _ hh9).trans rfl
     have v1 : W9.cell? ⟨w.heap.size, 1, none⟩ = some (.int .i64 wd) := (cell_of_row W9 _ 1 _ _ _ hh9).trans rfl
     have v2 : W9.cell? ⟨w.heap.size, 2, none⟩ = some (.int .i64 N) := (cell_of_row W9 _ 2 _ _ _ hh9).trans rfl
     refine bodyPost_ret (v := .tuple #[dayV k wd N, .int .i64 0]) (by simp [results, Tryz.results138, go_sem, v0, v1, v2]) rfl ⟨rfl, b4.trans (hB9 _ (Nat.le_refl _))⟩
    ·refine (Text_ok k wd N w3 hB (HT.out.below HB3.out)).mono ?_
     have hne : ((txt (dayT k wd N)).toList == S.toList) = false := by rw [<- ES.out]; exact txt_ne hT
     generalize txt (dayT k wd N) = U at hne
     rintro e w4 ⟨rfl, hb4⟩
     obtain ⟨x4, y4, b4, l4⟩ := HFIN.out w4 hb4
     clear hT hb4
     have e0 : w4.cell? ⟨w.heap.size + 1, 0, none⟩ = some (.int .i64 k) := (cell_of_row w4 _ 0 _ _ _ x4).trans rfl
     have e1 : w4.cell? ⟨w.heap.size + 1, 1, none⟩ = some (.int .i64 wd) := (cell_of_row w4 _ 1 _ _ _ x4).trans rfl
     have e2 : w4.cell? ⟨w.heap.size + 1, 2, none⟩ = some (.int .i64 N) := (cell_of_row w4 _ 2 _ _ _ x4).trans rfl
     have g0 : w4.cell? ⟨w.heap.size, 0, none⟩ = some (.int .i64 0) := (cell_of_row w4 _ 0 _ _ _ y4).trans rfl
     have g1 : w4.cell? ⟨w.heap.size, 1, none⟩ = some (.int .i64 0) := (cell_of_row w4 _ 1 _ _ _ y4).trans rfl
     have g2 : w4.cell? ⟨w.heap.size, 2, none⟩ = some (.int .i64 0) := (cell_of_row w4 _ 2 _ _ _ y4).trans rfl
     have z0 : w4.frozen? ⟨w.heap.size, 0, none⟩ = false := by simp [World.frozen?, y4]
     have z1 : w4.frozen? ⟨w.heap.size, 1, none⟩ = false := by simp [World.frozen?, y4]
     have z2' : w4.frozen? ⟨w.heap.size, 2, none⟩ = false := by simp [World.frozen?, y4]
     go_wp2_with fail
     obtain ⟨W9, e9, hB9, hh9, ho9⟩ := end_cellsD y4 (.int .i64 0) (.int .i64 0) (.int .i64 0)
     rw [e9]
     have v0 : W9.cell? ⟨w.heap.size, 0, none⟩ = some (.int .i64 0) := (cell_of_row W9 _ 0 _ _ _ hh9).trans rfl
     have v1 : W9.cell? ⟨w.heap.size, 1, none⟩ = some (.int .i64 0) := (cell_of_row W9 _ 1 _ _ _ hh9).trans rfl
     have v2 : W9.cell? ⟨w.heap.size, 2, none⟩ = some (.int .i64 0) := (cell_of_row W9 _ 2 _ _ _ hh9).trans rfl
     refine bodyPost_ret (v := .tuple #[dayV 0 0 0, .int .i64 3]) (by simp [results, Tryz.results138, go_sem, v0, v1, v2]) rfl ⟨rfl, b4.trans (hB9 _ (Nat.le_refl _))⟩
    ·refine (Text_no k wd N w3 hB).mono ?_
     rintro e w4 ⟨rfl, hb4⟩
     obtain ⟨x4, y4, b4, l4⟩ := HFIN.out w4 hb4
     clear hb4
     have e0 : w4.cell? ⟨w.heap.size + 1, 0, none⟩ = some (.int .i64 k) := (cell_of_row w4 _ 0 _ _ _ x4).trans rfl
     have e1 : w4.cell? ⟨w.heap.size + 1, 1, none⟩ = some (.int .i64 wd) := (cell_of_row w4 _ 1 _ _ _ x4).trans rfl
     have e2 : w4.cell? ⟨w.heap.size + 1, 2, none⟩ = some (.int .i64 N) := (cell_of_row w4 _ 2 _ _ _ x4).trans rfl
     have g0 : w4.cell? ⟨w.heap.size, 0, none⟩ = some (.int .i64 0) := (cell_of_row w4 _ 0 _ _ _ y4).trans rfl
     have g1 : w4.cell? ⟨w.heap.size, 1, none⟩ = some (.int .i64 0) := (cell_of_row w4 _ 1 _ _ _ y4).trans rfl
     have g2 : w4.cell? ⟨w.heap.size, 2, none⟩ = some (.int .i64 0) := (cell_of_row w4 _ 2 _ _ _ y4).trans rfl
     have z0 : w4.frozen? ⟨w.heap.size, 0, none⟩ = false := by simp [World.frozen?, y4]
     have z1 : w4.frozen? ⟨w.heap.size, 1, none⟩ = false := by simp [World.frozen?, y4]
     have z2' : w4.frozen? ⟨w.heap.size, 2, none⟩ = false := by simp [World.frozen?, y4]
     go_wp2_with fail
     obtain ⟨W9, e9, hB9, hh9, ho9⟩ := end_cellsD y4 (.int .i64 0) (.int .i64 0) (.int .i64 0)
     rw [e9]
     have v0 : W9.cell? ⟨w.heap.size, 0, none⟩ = some (.int .i64 0) := (cell_of_row W9 _ 0 _ _ _ hh9).trans rfl
     have v1 : W9.cell? ⟨w.heap.size, 1, none⟩ = some (.int .i64 0) := (cell_of_row W9 _ 1 _ _ _ hh9).trans rfl
     have v2 : W9.cell? ⟨w.heap.size, 2, none⟩ = some (.int .i64 0) := (cell_of_row W9 _ 2 _ _ _ hh9).trans rfl
     refine bodyPost_ret (v := .tuple #[dayV 0 0 0, .int .i64 3]) (by simp [results, Tryz.results138, go_sem, v0, v1, v2]) rfl ⟨rfl, b4.trans (hB9 _ (Nat.le_refl _))⟩
   ·intro x c w1 cnt1 hwx hwc hlx hat hrg1 hlt hg1 hs1 hen
    have hb1 := HBR.out.grown hg1 HBR.out.size (fun j hj => by cases hj; omega)
    have hX1 := (hg1.block (w.heap.size + 1) (by omega) (by simp; omega)).trans HXR.out
    have hZ1 := (hg1.block w.heap.size (by omega) (by simp; omega)).trans HZR.out
    have HB1 := qH hb1
    have HX1 := qH hX1
    have HZ1 := qH hZ1
    have HRG1 := qH hrg1
    clear hb1 hX1 hZ1 hrg1 hg1
    rcases HLE.out _ hlx with e | e
    ·obtain rfl : x = 3 := by injection e
     have hc := sign3 hat
     subst hc
     clear e hat hwx hwc
     have hPn : P (left (.int .i64 3) && !(Lit.int .i64 3).sameKey (.int .i64 3)) (left (.int .i64 4) && !(Lit.int .i64 4).sameKey (.int .i64 3)) (dayHit l 3 [62, 61] (k, wd, rest)) := by
      have h := HP.out
      rw [left_on, left_off 4 (by decide)]
      rw [hlx] at h
      exact PA.out _ _ h
     have HPN := qH hPn
     have hLE : ∀ kl, (left kl && !kl.sameKey (.int .i64 3)) = true -> kl = .int .i64 3 \/ kl = .int .i64 4 := fun kl h => HLE.out kl (by simp only [Bool.and_eq_true] at h; exact h.1)
     have HLN := qH hLE
     have hX1l : w.heap.size + 1 < w1.heap.size := (Array.getElem?_eq_some_iff.mp HX1.out).1
     clear hPn hLE hlx
     go_wp2_with fail
     refine (HCA.out _ (HM.out.below HB1.out)).mono ?_
     obtain ⟨cu, ecu⟩ : ∃ cu, Lib.cut l [62, 61] = cu := ⟨_, rfl⟩
     unfold dayHit at HPN
     rw [ecu] at HPN
     rw [ecu]
     clear ecu
     rintro e w2 ⟨rfl, hb2⟩
     have HB2 := qH (HB1.out.trans (hb2.mono HB1.out.size))
     have HX2 := qH ((hb2.block _ hX1l).trans HX1.out)
     have HZ2 := qH ((hb2.block w.heap.size (by omega)).trans HZ1.out)
     have HRG2 := qH (ranges_below HRG1.out hb2)
     have hX2l : w.heap.size + 1 < w2.heap.size := by have := hb2.size; omega
     clear hb2
     cases hcu : cu.2.2
     ·rw [hcu] at HPN
      go_wp2
      go_roundw
      case rel => exact ⟨k, wd, rest, _, cnt1, rfl, HX2.out, HZ2.out, HRG2.out, HPN.out, HLN.out, HB2.out⟩
      case measure => rw [HRG2.out.left_eq, hrg.left_eq]; exact hlt
     ·rw [hcu] at HPN
      go_wp2_with fail
      refine (weekday_any cu.1 _).mono ?_
      rintro e w3 ⟨rfl, hb3⟩
      have HB3 := qH (HB2.out.trans (hb3.mono HB2.out.size))
      have HX3 := qH ((hb3.block _ hX2l).trans HX2.out)
      have HZ3 := qH ((hb3.block w.heap.size (by omega)).trans HZ2.out)
      have HRG3 := qH (ranges_below HRG2.out hb3)
      have hX3l : w.heap.size + 1 < w3.heap.size := by have := hb3.size; omega
      have c0 : w3.cell? ⟨w.heap.size + 1, 0, none⟩ = some (.int .i64 k) := (cell_of_row w3 _ 0 _ _ _ HX3.out).trans rfl
      have c1 : w3.cell? ⟨w.heap.size + 1, 1, none⟩ = some (.int .i64 wd) := (cell_of_row w3 _ 1 _ _ _ HX3.out).trans rfl
      have z0 : w3.frozen? ⟨w.heap.size + 1, 0, none⟩ = false := by simp [World.frozen?, HX3.out]
      have z1 : w3.frozen? ⟨w.heap.size + 1, 1, none⟩ = false := by simp [World.frozen?, HX3.out]
      have hcc : (w3.setCell ⟨w.heap.size + 1, 0, none⟩ (.int .i64 3)).cell? ⟨w.heap.size + 1, 1, none⟩ = some (.int .i64 wd) := (cell_of_row _ _ 1 _ _ _ (heap_setCd HX3.out _)).trans rfl
      have hzz : (w3.setCell ⟨w.heap.size + 1, 0, none⟩ (.int .i64 3)).frozen? ⟨w.heap.size + 1, 1, none⟩ = false := by simp [World.frozen?, heap_setCd HX3.out]
      clear hb3
      go_wp2
      go_roundw
      case rel =>
       refine ⟨3, wdayV cu.1, cu.2.1, _, cnt1, rfl, (heap_setCd (heap_setCd HX3.out _) _).trans rfl, ?_, ranges_set (ranges_set HRG3.out _ _ _ (by omega) (by omega)) _ _ _ (by omega) (by omega), HPN.out, HLN.out, (HB3.out.setCell (by show w.heap.size <= w.heap.size + 1; omega) _).setCell (by show w.heap.size <= w.heap.size + 1; omega) _⟩
       rw [Below.heap_setCell _ _ _ _ (by show w.heap.size ≠ w.heap.size + 1; omega), Below.heap_setCell _ _ _ _ (by show w.heap.size ≠ w.heap.size + 1; omega)]
       exact HZ3.out
      case measure =>
       rw [(ranges_set (ranges_set HRG3.out (w.heap.size + 1) 0 (.int .i64 3) (by omega) (by omega)) (w.heap.size + 1) 1 (.int .i64 (wdayV cu.1)) (by omega) (by omega)).left_eq, hrg.left_eq]; exact hlt
    ·obtain rfl : x = 4 := by injection e
     have hc := sign4 hat
     subst hc
     clear e hat hwx hwc
     have hPn : P (left (.int .i64 3) && !(Lit.int .i64 3).sameKey (.int .i64 4)) (left (.int .i64 4) && !(Lit.int .i64 4).sameKey (.int .i64 4)) (dayHit l 4 [60, 61] (k, wd, rest)) := by
      have h := HP.out
      rw [left_on, left_off 3 (by decide)]
      rw [hlx] at h
      exact PB.out _ _ h
     have HPN := qH hPn
     have hLE : ∀ kl, (left kl && !kl.sameKey (.int .i64 4)) = true -> kl = .int .i64 3 \/ kl = .int .i64 4 := fun kl h => HLE.out kl (by simp only [Bool.and_eq_true] at h; exact h.1)
     have HLN := qH hLE
     have hX1l : w.heap.size + 1 < w1.heap.size := (Array.getElem?_eq_some_iff.mp HX1.out).1
     clear hPn hLE hlx
     go_wp2_with fail
     refine (HCB.out _ (HM.out.below HB1.out)).mono ?_
     obtain ⟨cu, ecu⟩ : ∃ cu, Lib.cut l [60, 61] = cu := ⟨_, rfl⟩
     unfold dayHit at HPN
     rw [ecu] at HPN
     rw [ecu]
     clear ecu
     rintro e w2 ⟨rfl, hb2⟩
     have HB2 := qH (HB1.out.trans (hb2.mono HB1.out.size))
     have HX2 := qH ((hb2.block _ hX1l).trans HX1.out)
     have HZ2 := qH ((hb2.block w.heap.size (by omega)).trans HZ1.out)
     have HRG2 := qH (ranges_below HRG1.out hb2)
     have hX2l : w.heap.size + 1 < w2.heap.size := by have := hb2.size; omega
     clear hb2
     cases hcu : cu.2.2
     ·rw [hcu] at HPN
      go_wp2
      go_roundw
      case rel => exact ⟨k, wd, rest, _, cnt1, rfl, HX2.out, HZ2.out, HRG2.out, HPN.out, HLN.out, HB2.out⟩
      case measure => rw [HRG2.out.left_eq, hrg.left_eq]; exact hlt
     ·rw [hcu] at HPN
      go_wp2_with fail
      refine (weekday_any cu.1 _).mono ?_
      rintro e w3 ⟨rfl, hb3⟩
      have HB3 := qH (HB2.out.trans (hb3.mono HB2.out.size))
      have HX3 := qH ((hb3.block _ hX2l).trans HX2.out)
      have HZ3 := qH ((hb3.block w.heap.size (by omega)).trans HZ2.out)
      have HRG3 := qH (ranges_below HRG2.out hb3)
      have hX3l : w.heap.size + 1 < w3.heap.size := by have := hb3.size; omega
      have c0 : w3.cell? ⟨w.heap.size + 1, 0, none⟩ = some (.int .i64 k) := (cell_of_row w3 _ 0 _ _ _ HX3.out).trans rfl
      have c1 : w3.cell? ⟨w.heap.size + 1, 1, none⟩ = some (.int .i64 wd) := (cell_of_row w3 _ 1 _ _ _ HX3.out).trans rfl
      have z0 : w3.frozen? ⟨w.heap.size + 1, 0, none⟩ = false := by simp [World.frozen?, HX3.out]
      have z1 : w3.frozen? ⟨w.heap.size + 1, 1, none⟩ = false := by simp [World.frozen?, HX3.out]
      have hcc : (w3.setCell ⟨w.heap.size + 1, 0, none⟩ (.int .i64 4)).cell? ⟨w.heap.size + 1, 1, none⟩ = some (.int .i64 wd) := (cell_of_row _ _ 1 _ _ _ (heap_setCd HX3.out _)).trans rfl
      have hzz : (w3.setCell ⟨w.heap.size + 1, 0, none⟩ (.int .i64 4)).frozen? ⟨w.heap.size + 1, 1, none⟩ = false := by simp [World.frozen?, heap_setCd HX3.out]
      clear hb3
      go_wp2
      go_roundw
      case rel =>
       refine ⟨4, wdayV cu.1, cu.2.1, _, cnt1, rfl, (heap_setCd (heap_setCd HX3.out _) _).trans rfl, ?_, ranges_set (ranges_set HRG3.out _ _ _ (by omega) (by omega)) _ _ _ (by omega) (by omega), HPN.out, HLN.out, (HB3.out.setCell (by show w.heap.size <= w.heap.size + 1; omega) _).setCell (by show w.heap.size <= w.heap.size + 1; omega) _⟩
       rw [Below.heap_setCell _ _ _ _ (by show w.heap.size ≠ w.heap.size + 1; omega), Below.heap_setCell _ _ _ _ (by show w.heap.size ≠ w.heap.size + 1; omega)]
       exact HZ3.out
      case measure =>
       rw [(ranges_set (ranges_set HRG3.out (w.heap.size + 1) 0 (.int .i64 4) (by omega) (by omega)) (w.heap.size + 1) 1 (.int .i64 (wdayV cu.1)) (by omega) (by omega)).left_eq, hrg.left_eq]; exact hlt
 ·obtain ⟨wd0, ewd⟩ : ∃ wd0, wdayV (Lib.trimPrefix l [108, 97, 115, 116]) = wd0 := ⟨_, rfl⟩
  have eS0 : dayS0 l = (2, wd0, [48]) := by unfold dayS0; rw [hpf, ewd]; rfl
  rw [eS0] at P0
  rw [ewd] at HWD
  clear ewd eS0 hpf
  go_wp2_with fail
  obtain ⟨W0, eW⟩ : ∃ W0, (w.alloc (.cells #[.int .i64 0, .int .i64 0, .int .i64 0] 85)).alloc (.cells #[.int .i64 1, .int .i64 0, .int .i64 0] 85) = W0 := ⟨_, rfl⟩
  rw [eW]
  have hbW0 : Below w.heap.size w W0 := by rw [<- eW]; exact ((Below.refl _ _).alloc (Nat.le_refl _) _).alloc (by simp) _
  have hX00 : W0.heap[w.heap.size + 1]? = some (.cells #[.int .i64 1, .int .i64 0, .int .i64 0] 85 (0, 0)) := by
   rw [<- eW]
   have := heap_alloc_new (w.alloc (.cells #[.int .i64 0, .int .i64 0, .int .i64 0] 85)) (.cells #[.int .i64 1, .int .i64 0, .int .i64 0] 85)
   simpa using this
  have hZ00 : W0.heap[w.heap.size]? = some (.cells #[.int .i64 0, .int .i64 0, .int .i64 0] 85 (0, 0)) := by
   rw [<- eW, Below.heap_alloc _ _ _ (by simp)]
   exact heap_alloc_new w _
  have hW0l : w.heap.size + 1 < W0.heap.size := (Array.getElem?_eq_some_iff.mp hX00).1
  clear eW
  refine (HWD.out _).mono ?_
  rintro e w5 ⟨rfl, hb5⟩
  have hX5 := (hb5.block _ hW0l).trans hX00
  have hZ5 := (hb5.block w.heap.size (by omega)).trans hZ00
  have hbW5 := hbW0.trans (hb5.mono hbW0.size)
  have hX5l : w.heap.size + 1 < w5.heap.size := (Array.getElem?_eq_some_iff.mp hX5).1
  have c0 : w5.cell? ⟨w.heap.size + 1, 0, none⟩ = some (.int .i64 1) := (cell_of_row w5 _ 0 _ _ _ hX5).trans rfl
  have z0 : w5.frozen? ⟨w.heap.size + 1, 0, none⟩ = false := by simp [World.frozen?, hX5]
  have hcc : (w5.setCell ⟨w.heap.size + 1, 0, none⟩ (.int .i64 2)).cell? ⟨w.heap.size + 1, 1, none⟩ = some (.int .i64 0) := (cell_of_row _ _ 1 _ _ _ (heap_setCd hX5 _)).trans rfl
  have hzz : (w5.setCell ⟨w.heap.size + 1, 0, none⟩ (.int .i64 2)).frozen? ⟨w.heap.size + 1, 1, none⟩ = false := by simp [World.frozen?, heap_setCd hX5]
  have c1 : w5.cell? ⟨w.heap.size + 1, 1, none⟩ = some (.int .i64 0) := (cell_of_row w5 _ 1 _ _ _ hX5).trans rfl
  have z1 : w5.frozen? ⟨w.heap.size + 1, 1, none⟩ = false := by simp [World.frozen?, hX5]
  clear hb5 hbW0 hX00 hZ00
  go_wp2_with fail
  obtain ⟨W, eW⟩ : ∃ W, (w5.setCell ⟨w.heap.size + 1, 0, none⟩ (.int .i64 2)).setCell ⟨w.heap.size + 1, 1, none⟩ (.int .i64 wd0) = W := ⟨_, rfl⟩
  rw [eW]
  have hbW : Below w.heap.size w W := by rw [<- eW]; exact (hbW5.setCell (by show w.heap.size <= w.heap.size + 1; omega) _).setCell (by show w.heap.size <= w.heap.size + 1; omega) _
  have hX : W.heap[w.heap.size + 1]? = some (.cells #[.int .i64 2, .int .i64 wd0, .int .i64 0] 85 (0, 0)) := by
   rw [<- eW]; exact (heap_setCd (heap_setCd hX5 _) _).trans rfl
  have hZ : W.heap[w.heap.size]? = some (.cells #[.int .i64 0, .int .i64 0, .int .i64 0] 85 (0, 0)) := by
   rw [<- eW, Below.heap_setCell _ _ _ _ (by show w.heap.size ≠ w.heap.size + 1; omega), Below.heap_setCell _ _ _ _ (by show w.heap.size ≠ w.heap.size + 1; omega)]
   exact hZ5
  clear eW hX5 hZ5 hbW5 hX5l c0 z0 hcc hzz c1 z1 hW0l
  have HBW := qH hbW
  have HX := qH hX
  have HZ := qH hZ
  have hXlt : w.heap.size + 1 < W.heap.size := (Array.getElem?_eq_some_iff.mp hX).1
  clear hbW hX hZ
  obtain ⟨W1, W2, r1, r2, hown, hgr⟩ := signs_made W W.heap.size rfl
  rw [run_makeMap]
  go_wp2_with (at_range; refine wpList_range_own _ rfl _ 257 rfl 3 9 keyI Tryz.underlying257 _ _ 2 _ rfl hown ?_; intro w0 hrg0 hg0 hs0)
  go_frame
  have hWW : W.heap.size < W2.heap.size := hown.lt
  have hgA := hgr.andThen hg0 (fun j hj => by cases hj)
  have hX0 := (hgA.block _ hXlt (by simp)).trans HX.out
  have hZ0 := (hgA.block w.heap.size (by omega) (by simp)).trans HZ.out
  have hb0 := HBW.out.grown hgA HBW.out.size (fun j hj => by cases hj)
  clear hgr hg0 hgA hs0 hown r1 r2
  go_loopw [5] (fun s5 wr => ∃ (k wd : Int) (rest : List UInt8) (left : Lit -> Bool) (cnt : Nat), s5 = .string (txt rest) /\ wr.heap[w.heap.size + 1]? = some (.cells #[.int .i64 k, .int .i64 wd, .int .i64 0] 85 (0, 0)) /\ wr.heap[w.heap.size]? = some (.cells #[.int .i64 0, .int .i64 0, .int .i64 0] 85 (0, 0)) /\
   wr.ranges Tryz.prog 3 (plainElem Tryz.prog 9) W.heap.size W2.heap.size 2 signsD left cnt /\ P (left (.int .i64 3)) (left (.int .i64 4)) (k, wd, rest) /\ (∀ kl, left kl = true -> kl = .int .i64 3 \/ kl = .int .i64 4) /\ Below w.heap.size w wr) (fun _ wr => wr.rangeLeft W.heap.size W2.heap.size)
  case atStart => exact ⟨2, wd0, [48], _, _, rfl, hX0, hZ0, hrg0, by rw [signs_has3, signs_has4]; exact P0.out, signs_has, hb0⟩
  case round =>
   obtain ⟨k, wd, rest, left, cnt, rfl, hXr, hZr, hrg, hP, hle, hbr⟩ := hrel
   have HXR := qH hXr
   have HZR := qH hZr
   have HP := qH hP
   have HLE := qH hle
   have HBR := qH hbr
   have hsr : W2.heap.size < wr.heap.size := hrg.lt
   clear hXr hZr hP hle hbr hX0 hZ0 hrg0 hb0
   go_wp2_with (first
    | (at_next; refine wpList_next_ranges_is _ rfl _ rfl 3 9 .i64 keyI Tryz.underlying3 Tryz.underlying9 W.heap.size W2.heap.size 2 _ _ _ rfl hrg ?_ ?_)
    | go_in)
   ·intro _ hl0
    have hPe : P false false (k, wd, rest) := by
     have h := HP.out
     rw [hl0, hl0] at h
     exact h
    have hsm := PSM.out _ _ _ hPe
    have hres := HEND.out _ hPe
    unfold DayRes at hres
    simp only at hres hsm
    have hXl : w.heap.size + 1 < wr.heap.size := (Array.getElem?_eq_some_iff.mp HXR.out).1
    clear hl0 hPe hrg
    go_wp2_with fail
    refine (Atoi_any rest _ hsm (HN.out.below HBR.out)).mono ?_
    rintro e w2 ⟨ev, rfl, hb2, -⟩
    have HB2 := qH (HBR.out.trans (hb2.mono HBR.out.size))
    have HX2 := qH ((hb2.block _ hXl).trans HXR.out)
    have HZ2 := qH ((hb2.block w.heap.size (by omega)).trans HZR.out)
    have hX2l : w.heap.size + 1 < w2.heap.size := by have := hb2.size; omega
    clear hb2
    obtain ⟨N, eN⟩ : ∃ N, atoiV rest = N := ⟨_, rfl⟩
    rw [eN] at hres
    rw [eN]
    clear eN
    have c2 : w2.cell? ⟨w.heap.size + 1, 2, none⟩ = some (.int .i64 0) := (cell_of_row w2 _ 2 _ _ _ HX2.out).trans rfl
    have z2 : w2.frozen? ⟨w.heap.size + 1, 2, none⟩ = false := by simp [World.frozen?, HX2.out]
    obtain ⟨w3, ew3⟩ : ∃ w3, w2.setCell ⟨w.heap.size + 1, 2, none⟩ (.int .i64 N) = w3 := ⟨_, rfl⟩
    have hX3 := heap_setCd (i := 2) HX2.out (.int .i64 N)
    have hZ3 : (w2.setCell ⟨w.heap.size + 1, 2, none⟩ (.int .i64 N)).heap[w.heap.size]? = some (.cells #[.int .i64 0, .int .i64 0, .int .i64 0] 85 (0, 0)) := (Below.heap_setCell _ _ _ _ (by show w.heap.size ≠ w.heap.size + 1; omega)).trans HZ2.out
    have hb3 := HB2.out.setCell (p := ⟨w.heap.size + 1, 2, none⟩) (by show w.heap.size <= w.heap.size + 1; omega) (.int .i64 N)
    rw [ew3] at hX3 hZ3 hb3
    have hl3 : w.heap.size + 1 < w3.heap.size := (Array.getElem?_eq_some_iff.mp hX3).1
    have d0 : w3.cell? ⟨w.heap.size + 1, 0, none⟩ = some (.int .i64 k) := (cell_of_row w3 _ 0 _ _ _ hX3).trans rfl
    have d1 : w3.cell? ⟨w.heap.size + 1, 1, none⟩ = some (.int .i64 wd) := (cell_of_row w3 _ 1 _ _ _ hX3).trans rfl
    have d2 : w3.cell? ⟨w.heap.size + 1, 2, none⟩ = some (.int .i64 N) := (cell_of_row w3 _ 2 _ _ _ hX3).trans rfl
    go_wp2_with fail
    have HX3 := qH hX3
    have HZ3 := qH hZ3
    have HB3 := qH hb3
    clear hX3 hZ3 hb3
    have hfin : ∀ (w4 : World), Below w3.heap.size w3 w4 -> w4.heap[w.heap.size + 1]? = some (.cells #[.int .i64 k, .int .i64 wd, .int .i64 N] 85 (0, 0)) /\ w4.heap[w.heap.size]? = some (.cells #[.int .i64 0, .int .i64 0, .int .i64 0] 85 (0, 0)) /\ Below w.heap.size w w4 /\ w.heap.size + 1 < w4.heap.size := fun w4 hb4 =>
     ⟨(hb4.block _ hl3).trans HX3.out, (hb4.block _ (by omega)).trans HZ3.out, HB3.out.trans (hb4.mono HB3.out.size), by have := hb4.size; omega⟩
    have HFIN := qH hfin
    clear hfin
    rcases hres with ⟨hB, hT, rfl⟩ | ⟨hB, hT, rfl⟩ | ⟨hB, rfl⟩
    ·refine (Text_ok k wd N w3 hB (HT.out.below HB3.out)).mono ?_
     rw [hT, ES.out]
     rintro e w4 ⟨rfl, hb4⟩
     obtain ⟨x4, y4, b4, l4⟩ := HFIN.out w4 hb4
     clear hT hb4
     have e0 : w4.cell? ⟨w.heap.size + 1, 0, none⟩ = some (.int .i64 k) := (cell_of_row w4 _ 0 _ _ _ x4).trans rfl
     have e1 : w4.cell? ⟨w.heap.size + 1, 1, none⟩ = some (.int .i64 wd) := (cell_of_row w4 _ 1 _ _ _ x4).trans rfl
     have e2 : w4.cell? ⟨w.heap.size + 1, 2, none⟩ = some (.int .i64 N) := (cell_of_row w4 _ 2 _ _ _ x4).trans rfl
     have g0 : w4.cell? ⟨w.heap.size, 0, none⟩ = some (.int .i64 0) := (cell_of_row w4 _ 0 _ _ _ y4).trans rfl
     have g1 : w4.cell? ⟨w.heap.size, 1, none⟩ = some (.int .i64 0) := (cell_of_row w4 _ 1 _ _ _ y4).trans rfl
     have g2 : w4.cell? ⟨w.heap.size, 2, none⟩ = some (.int .i64 0) := (cell_of_row w4 _ 2 _ _ _ y4).trans rfl
     have z0 : w4.frozen? ⟨w.heap.size, 0, none⟩ = false := by simp [World.frozen?, y4]
     have z1 : w4.frozen? ⟨w.heap.size, 1, none⟩ = false := by simp [World.frozen?, y4]
     have z2' : w4.frozen? ⟨w.heap.size, 2, none⟩ = false := by simp [World.frozen?, y4]
     go_wp2_with fail
     obtain ⟨W9, e9, hB9, hh9, ho9⟩ := end_cellsD y4 (.int .i64 k) (.int .i64 wd) (.int .i64 N)
     rw [e9]
     have v0 : W9.cell? ⟨w.heap.size, 0, none⟩ = some (.int .i64 k) := (cell_of_row W9 _ 0 _ _ _ hh9).trans rfl
     have v1 : W9.cell? ⟨w.heap.size, 1, none⟩ = some (.int .i64 wd) := (cell_of_row W9 _ 1 _ _ _ hh9).trans rfl
     have v2 : W9.cell? ⟨w.heap.size, 2, none⟩ = some (.int .i64 N) := (cell_of_row W9 _ 2 _ _ _ hh9).trans rfl
     refine bodyPost_ret (v := .tuple #[dayV k wd N, .int .i64 0]) (by simp [results, Tryz.results138, go_sem, v0, v1, v2]) rfl ⟨rfl, b4.trans (hB9 _ (Nat.le_refl _))⟩
    ·refine (Text_ok k wd N w3 hB (HT.out.below HB3.out)).mono ?_
     have hne : ((txt (dayT k wd N)).toList == S.toList) = false := by rw [<- ES.out]; exact txt_ne hT
     generalize txt (dayT k wd N) = U at hne
     rintro e w4 ⟨rfl, hb4⟩
     obtain ⟨x4, y4, b4, l4⟩ := HFIN.out w4 hb4
     clear hT hb4
     have e0 : w4.cell? ⟨w.heap.size + 1, 0, none⟩ = some (.int .i64 k) := (cell_of_row w4 _ 0 _ _ _ x4).trans rfl
     have e1 : w4.cell? ⟨w.heap.size + 1, 1, none⟩ = some (.int .i64 wd) := (cell_of_row w4 _ 1 _ _ _ x4).trans rfl
     have e2 : w4.cell? ⟨w.heap.size + 1, 2, none⟩ = some (.int .i64 N) := (cell_of_row w4 _ 2 _ _ _ x4).trans rfl
     have g0 : w4.cell? ⟨w.heap.size, 0, none⟩ = some (.int .i64 0) := (cell_of_row w4 _ 0 _ _ _ y4).trans rfl
     have g1 : w4.cell? ⟨w.heap.size, 1, none⟩ = some (.int .i64 0) := (cell_of_row w4 _ 1 _ _ _ y4).trans rfl
     have g2 : w4.cell? ⟨w.heap.size, 2, none⟩ = some (.int .i64 0) := (cell_of_row w4 _ 2 _ _ _ y4).trans rfl
     have z0 : w4.frozen? ⟨w.heap.size, 0, none⟩ = false := by simp [World.frozen?, y4]
     have z1 : w4.frozen? ⟨w.heap.size, 1, none⟩ = false := by simp [World.frozen?, y4]
     have z2' : w4.frozen? ⟨w.heap.size, 2, none⟩ = false := by simp [World.frozen?, y4]
     go_wp2_with fail
     obtain ⟨W9, e9, hB9, hh9, ho9⟩ := end_cellsD y4 (.int .i64 0) (.int .i64 0) (.int .i64 0)
     rw [e9]
     have v0 : W9.cell? ⟨w.heap.size, 0, none⟩ = some (.int .i64 0) := (cell_of_row W9 _ 0 _ _ _ hh9).trans rfl
     have v1 : W9.cell? ⟨w.heap.size, 1, none⟩ = some (.int .i64 0) := (cell_of_row W9 _ 1 _ _ _ hh9).trans rfl
     have v2 : W9.cell? ⟨w.heap.size, 2, none⟩ = some (.int .i64 0) := (cell_of_row W9 _ 2 _ _ _ hh9).trans rfl
     refine bodyPost_ret (v := .tuple #[dayV 0 0 0, .int .i64 3]) (by simp [results, Tryz.results138, go_sem, v0, v1, v2]) rfl ⟨rfl, b4.trans (hB9 _ (Nat.le_refl _))⟩
    ·refine (Text_no k wd N w3 hB).mono ?_
     rintro e w4 ⟨rfl, hb4⟩
     obtain ⟨x4, y4, b4, l4⟩ := HFIN.out w4 hb4
     clear hb4
     have e0 : w4.cell? ⟨w.heap.size + 1, 0, none⟩ = some (.int .i64 k) := (cell_of_row w4 _ 0 _ _ _ x4).trans rfl
     have e1 : w4.cell? ⟨w.heap.size + 1, 1, none⟩ = some (.int .i64 wd) := (cell_of_row w4 _ 1 _ _ _ x4).trans rfl
     have e2 : w4.cell? ⟨w.heap.size + 1, 2, none⟩ = some (.int .i64 N) := (cell_of_row w4 _ 2 _ _ _ x4).trans rfl
     have g0 : w4.cell? ⟨w.heap.size, 0, none⟩ = some (.int .i64 0) := (cell_of_row w4 _ 0 _ _ _ y4).trans rfl
     have g1 : w4.cell? ⟨w.heap.size, 1, none⟩ = some (.int .i64 0) := (cell_of_row w4 _ 1 _ _ _ y4).trans rfl
     have g2 : w4.cell? ⟨w.heap.size, 2, none⟩ = some (.int .i64 0) := (cell_of_row w4 _ 2 _ _ _ y4).trans rfl
     have z0 : w4.frozen? ⟨w.heap.size, 0, none⟩ = false := by simp [World.frozen?, y4]
     have z1 : w4.frozen? ⟨w.heap.size, 1, none⟩ = false := by simp [World.frozen?, y4]
     have z2' : w4.frozen? ⟨w.heap.size, 2, none⟩ = false := by simp [World.frozen?, y4]
     go_wp2_with fail
     obtain ⟨W9, e9, hB9, hh9, ho9⟩ := end_cellsD y4 (.int .i64 0) (.int .i64 0) (.int .i64 0)
     rw [e9]
     have v0 : W9.cell? ⟨w.heap.size, 0, none⟩ = some (.int .i64 0) := (cell_of_row W9 _ 0 _ _ _ hh9).trans rfl
     have v1 : W9.cell? ⟨w.heap.size, 1, none⟩ = some (.int .i64 0) := (cell_of_row W9 _ 1 _ _ _ hh9).trans rfl
     have v2 : W9.cell? ⟨w.heap.size, 2, none⟩ = some (.int .i64 0) := (cell_of_row W9 _ 2 _ _ _ hh9).trans rfl
     refine bodyPost_ret (v := .tuple #[dayV 0 0 0, .int .i64 3]) (by simp [results, Tryz.results138, go_sem, v0, v1, v2]) rfl ⟨rfl, b4.trans (hB9 _ (Nat.le_refl _))⟩
   ·intro x c w1 cnt1 hwx hwc hlx hat hrg1 hlt hg1 hs1 hen
    have hb1 := HBR.out.grown hg1 HBR.out.size (fun j hj => by cases hj; omega)
    have hX1 := (hg1.block (w.heap.size + 1) (by omega) (by simp; omega)).trans HXR.out
    have hZ1 := (hg1.block w.heap.size (by omega) (by simp; omega)).trans HZR.out
    have HB1 := qH hb1
    have HX1 := qH hX1
    have HZ1 := qH hZ1
    have HRG1 := qH hrg1
    clear hb1 hX1 hZ1 hrg1 hg1
    rcases HLE.out _ hlx with e | e
    ·obtain rfl : x = 3 := by injection e
     have hc := sign3 hat
     subst hc
     clear e hat hwx hwc
     have hPn : P (left (.int .i64 3) && !(Lit.int .i64 3).sameKey (.int .i64 3)) (left (.int .i64 4) && !(Lit.int .i64 4).sameKey (.int .i64 3)) (dayHit l 3 [62, 61] (k, wd, rest)) := by
      have h := HP.out
      rw [left_on, left_off 4 (by decide)]
      rw [hlx] at h
      exact PA.out _ _ h
     have HPN := qH hPn
     have hLE : ∀ kl, (left kl && !kl.sameKey (.int .i64 3)) = true -> kl = .int .i64 3 \/ kl = .int .i64 4 := fun kl h => HLE.out kl (by simp only [Bool.and_eq_true] at h; exact h.1)
     have HLN := qH hLE
     have hX1l : w.heap.size + 1 < w1.heap.size := (Array.getElem?_eq_some_iff.mp HX1.out).1
     clear hPn hLE hlx
     go_wp2_with fail
     refine (HCA.out _ (HM.out.below HB1.out)).mono ?_
     obtain ⟨cu, ecu⟩ : ∃ cu, Lib.cut l [62, 61] = cu := ⟨_, rfl⟩
     unfold dayHit at HPN
     rw [ecu] at HPN
     rw [ecu]
     clear ecu
     rintro e w2 ⟨rfl, hb2⟩
     have HB2 := qH (HB1.out.trans (hb2.mono HB1.out.size))
     have HX2 := qH ((hb2.block _ hX1l).trans HX1.out)
     have HZ2 := qH ((hb2.block w.heap.size (by omega)).trans HZ1.out)
     have HRG2 := qH (ranges_below HRG1.out hb2)
     have hX2l : w.heap.size + 1 < w2.heap.size := by have := hb2.size; omega
     clear hb2
     cases hcu : cu.2.2
     ·rw [hcu] at HPN
      go_wp2
      go_roundw
      case rel => exact ⟨k, wd, rest, _, cnt1, rfl, HX2.out, HZ2.out, HRG2.out, HPN.out, HLN.out, HB2.out⟩
      case measure => rw [HRG2.out.left_eq, hrg.left_eq]; exact hlt
     ·rw [hcu] at HPN
      go_wp2_with fail
      refine (weekday_any cu.1 _).mono ?_
      rintro e w3 ⟨rfl, hb3⟩
      have HB3 := qH (HB2.out.trans (hb3.mono HB2.out.size))
      have HX3 := qH ((hb3.block _ hX2l).trans HX2.out)
      have HZ3 := qH ((hb3.block w.heap.size (by omega)).trans HZ2.out)
      have HRG3 := qH (ranges_below HRG2.out hb3)
      have hX3l : w.heap.size + 1 < w3.heap.size := by have := hb3.size; omega
      have c0 : w3.cell? ⟨w.heap.size + 1, 0, none⟩ = some (.int .i64 k) := (cell_of_row w3 _ 0 _ _ _ HX3.out).trans rfl
      have c1 : w3.cell? ⟨w.heap.size + 1, 1, none⟩ = some (.int .i64 wd) := (cell_of_row w3 _ 1 _ _ _ HX3.out).trans rfl
      have z0 : w3.frozen? ⟨w.heap.size + 1, 0, none⟩ = false := by simp [World.frozen?, HX3.out]
      have z1 : w3.frozen? ⟨w.heap.size + 1, 1, none⟩ = false := by simp [World.frozen?, HX3.out]
      have hcc : (w3.setCell ⟨w.heap.size + 1, 0, none⟩ (.int .i64 3)).cell? ⟨w.heap.size + 1, 1, none⟩ = some (.int .i64 wd) := (cell_of_row _ _ 1 _ _ _ (heap_setCd HX3.out _)).trans rfl
      have hzz : (w3.setCell ⟨w.heap.size + 1, 0, none⟩ (.int .i64 3)).frozen? ⟨w.heap.size + 1, 1, none⟩ = false := by simp [World.frozen?, heap_setCd HX3.out]
      clear hb3
      go_wp2
      go_roundw
      case rel =>
       refine ⟨3, wdayV cu.1, cu.2.1, _, cnt1, rfl, (heap_setCd (heap_setCd HX3.out _) _).trans rfl, ?_, ranges_set (ranges_set HRG3.out _ _ _ (by omega) (by omega)) _ _ _ (by omega) (by omega), HPN.out, HLN.out, (HB3.out.setCell (by show w.heap.size <= w.heap.size + 1; omega) _).setCell (by show w.heap.size <= w.heap.size + 1; omega) _⟩
       rw [Below.heap_setCell _ _ _ _ (by show w.heap.size ≠ w.heap.size + 1; omega), Below.heap_setCell _ _ _ _ (by show w.heap.size ≠ w.heap.size + 1; omega)]
       exact HZ3.out
      case measure =>
       rw [(ranges_set (ranges_set HRG3.out (w.heap.size + 1) 0 (.int .i64 3) (by omega) (by omega)) (w.heap.size + 1) 1 (.int .i64 (wdayV cu.1)) (by omega) (by omega)).left_eq, hrg.left_eq]; exact hlt
    ·obtain rfl : x = 4 := by injection e
     have hc := sign4 hat
     subst hc
     clear e hat hwx hwc
     have hPn : P (left (.int .i64 3) && !(Lit.int .i64 3).sameKey (.int .i64 4)) (left (.int .i64 4) && !(Lit.int .i64 4).sameKey (.int .i64 4)) (dayHit l 4 [60, 61] (k, wd, rest)) := by
      have h := HP.out
      rw [left_on, left_off 3 (by decide)]
      rw [hlx] at h
      exact PB.out _ _ h
     have HPN := qH hPn
     have hLE : ∀ kl, (left kl && !kl.sameKey (.int .i64 4)) = true -> kl = .int .i64 3 \/ kl = .int .i64 4 := fun kl h => HLE.out kl (by simp only [Bool.and_eq_true] at h; exact h.1)
     have HLN := qH hLE
     have hX1l : w.heap.size + 1 < w1.heap.size := (Array.getElem?_eq_some_iff.mp HX1.out).1
     clear hPn hLE hlx
     go_wp2_with fail
     refine (HCB.out _ (HM.out.below HB1.out)).mono ?_
     obtain ⟨cu, ecu⟩ : ∃ cu, Lib.cut l [60, 61] = cu := ⟨_, rfl⟩
     unfold dayHit at HPN
     rw [ecu] at HPN
     rw [ecu]
     clear ecu
     rintro e w2 ⟨rfl, hb2⟩
     have HB2 := qH (HB1.out.trans (hb2.mono HB1.out.size))
     have HX2 := qH ((hb2.block _ hX1l).trans HX1.out)
     have HZ2 := qH ((hb2.block w.heap.size (by omega)).trans HZ1.out)
     have HRG2 := qH (ranges_below HRG1.out hb2)
     have hX2l : w.heap.size + 1 < w2.heap.size := by have := hb2.size; omega
     clear hb2
     cases hcu : cu.2.2
     ·rw [hcu] at HPN
      go_wp2
      go_roundw
      case rel => exact ⟨k, wd, rest, _, cnt1, rfl, HX2.out, HZ2.out, HRG2.out, HPN.out, HLN.out, HB2.out⟩
      case measure => rw [HRG2.out.left_eq, hrg.left_eq]; exact hlt
     ·rw [hcu] at HPN
      go_wp2_with fail
      refine (weekday_any cu.1 _).mono ?_
      rintro e w3 ⟨rfl, hb3⟩
      have HB3 := qH (HB2.out.trans (hb3.mono HB2.out.size))
      have HX3 := qH ((hb3.block _ hX2l).trans HX2.out)
      have HZ3 := qH ((hb3.block w.heap.size (by omega)).trans HZ2.out)
      have HRG3 := qH (ranges_below HRG2.out hb3)
      have hX3l : w.heap.size + 1 < w3.heap.size := by have := hb3.size; omega
      have c0 : w3.cell? ⟨w.heap.size + 1, 0, none⟩ = some (.int .i64 k) := (cell_of_row w3 _ 0 _ _ _ HX3.out).trans rfl
      have c1 : w3.cell? ⟨w.heap.size + 1, 1, none⟩ = some (.int .i64 wd) := (cell_of_row w3 _ 1 _ _ _ HX3.out).trans rfl
      have z0 : w3.frozen? ⟨w.heap.size + 1, 0, none⟩ = false := by simp [World.frozen?, HX3.out]
      have z1 : w3.frozen? ⟨w.heap.size + 1, 1, none⟩ = false := by simp [World.frozen?, HX3.out]
      have hcc : (w3.setCell ⟨w.heap.size + 1, 0, none⟩ (.int .i64 4)).cell? ⟨w.heap.size + 1, 1, none⟩ = some (.int .i64 wd) := (cell_of_row _ _ 1 _ _ _ (heap_setCd HX3.out _)).trans rfl
      have hzz : (w3.setCell ⟨w.heap.size + 1, 0, none⟩ (.int .i64 4)).frozen? ⟨w.heap.size + 1, 1, none⟩ = false := by simp [World.frozen?, heap_setCd HX3.out]
      clear hb3
      go_wp2
      go_roundw
      case rel =>
       refine ⟨4, wdayV cu.1, cu.2.1, _, cnt1, rfl, (heap_setCd (heap_setCd HX3.out _) _).trans rfl, ?_, ranges_set (ranges_set HRG3.out _ _ _ (by omega) (by omega)) _ _ _ (by omega) (by omega), HPN.out, HLN.out, (HB3.out.setCell (by show w.heap.size <= w.heap.size + 1; omega) _).setCell (by show w.heap.size <= w.heap.size + 1; omega) _⟩
       rw [Below.heap_setCell _ _ _ _ (by show w.heap.size ≠ w.heap.size + 1; omega), Below.heap_setCell _ _ _ _ (by show w.heap.size ≠ w.heap.size + 1; omega)]
       exact HZ3.out
      case measure =>
       rw [(ranges_set (ranges_set HRG3.out (w.heap.size + 1) 0 (.int .i64 4) (by omega) (by omega)) (w.heap.size + 1) 1 (.int .i64 (wdayV cu.1)) (by omega) (by omega)).left_eq, hrg.left_eq]; exact hlt
end Go.Proofs.YtomahddiclkepaaGreatDoor
