/- day.Text and day.weekday: what each returns. -/
import Derived.Test.YtfocdcdggidboaaGreatDoorDay1
import Derived.Test.YtfocdcdggidboaaGreatDoorClk5a
import Derived.Test.YtfocdcdggidboaaGreatDoorFldMath
import Derived.Deep.RegionHeld3
import Derived.BigRegion
import Derived.Laws.BitsLemmas
import Derived.RegionTactic
namespace Go.Proofs.YtfocdcdggidboaaGreatDoor
open Go.RowKit Go.Joins
set_option linter.unusedVariables false
set_option linter.unusedSimpArgs false

theorem bcell' {W w1 : World} (hb : Below W.heap.size W w1) : (∀ b o, b < W.heap.size → w1.cell? ⟨b, o, none⟩ = W.cell? ⟨b, o, none⟩) ∧ (∀ b o, b < W.heap.size → w1.frozen? ⟨b, o, none⟩ = W.frozen? ⟨b, o, none⟩) :=
  ⟨fun b o h => hb.cell (p := ⟨b, o, none⟩) h, fun b o h => hb.frozen (p := ⟨b, o, none⟩) h⟩

def weekB : List UInt8 := [83, 117, 110, 77, 111, 110, 84, 117, 101, 87, 101, 100, 84, 104, 117, 70, 114, 105, 83, 97, 116]
def wordT (wd : Int) : List UInt8 := (weekB.drop (3 * wd).toNat).take 3
/-- a day as a text -/
def dayT (k wd n : Int) : List UInt8 :=
  if k = 2 then [108, 97, 115, 116] ++ wordT wd else if k = 3 then wordT wd ++ ([62, 61] ++ Lib.itoa n) else if k = 4 then wordT wd ++ ([60, 61] ++ Lib.itoa n) else Lib.itoa n

theorem wd_cases {wd : Int} (h0 : 0 ≤ wd) (h6 : wd ≤ 6) : wd = 0 ∨ wd = 1 ∨ wd = 2 ∨ wd = 3 ∨ wd = 4 ∨ wd = 5 ∨ wd = 6 := by omega
theorem wordT_length {wd : Int} (h0 : 0 ≤ wd) (h6 : wd ≤ 6) : (wordT wd).length = 3 := by
  rcases wd_cases h0 h6 with rfl | rfl | rfl | rfl | rfl | rfl | rfl <;> rfl
theorem week_ext {wd : Int} (h0 : 0 ≤ wd) (h6 : wd ≤ 6) : (txt weekB).extract (3 * wd).toNat (3 * wd + 3).toNat = txt (wordT wd) := by
  apply ByteArray.ext
  apply Array.ext'
  rw [Lib.extract_data, txt_data, txt_data]
  unfold wordT
  rw [show (3 * wd + 3).toNat - (3 * wd).toNat = 3 by omega]
theorem itoa_31 {n : Int} (h0 : 0 ≤ n) (h1 : n ≤ 31) : (Lib.itoa n).length ≤ 2 := by
  rw [itoa_nn h0, Lib.decDigits_length]
  by_cases h : n.toNat < 10
  · rw [Lib.nDigits_small h]; omega
  · rw [Lib.nDigits_big h, Lib.nDigits_small (by omega)]; omega

set_option maxRecDepth 100000 in
set_option maxHeartbeats 4000000 in
theorem Text_ok (k wd n : Int) (w : World) (h0 : dayB k wd n = true) (ht : Tab10 w) :
    Calls Tryz.prog 30 #[dayV k wd n] w fun e w' => e = .returned (.tuple #[.string (txt (dayT k wd n)), .int .i64 0]) ∧ Below w.heap.size w w' := by
  have HT := Lib.hid ht
  have HCK := Lib.hid (fun W => Check_ok k wd n W h0)
  simp only [dayB, decide_eq_true_eq] at h0
  have hw0 : 0 ≤ wd := by omega
  have hw6 : wd ≤ 6 := by omega
  have hn0 : 0 ≤ n := by omega
  have hn1 : n ≤ 31 := by omega
  have hwl : (txt (wordT wd)).size = 3 := by rw [txt_size, wordT_length hw0 hw6]
  have hil : (txt (Lib.itoa n)).size ≤ 2 := by rw [txt_size]; exact itoa_31 hn0 hn1
  have hwe := week_ext hw0 hw6
  have hwk : txt weekB = ⟨#[83, 117, 110, 77, 111, 110, 84, 117, 101, 87, 101, 100, 84, 104, 117, 70, 114, 105, 83, 97, 116]⟩ := rfl
  rw [hwk] at hwe
  have hsl : ∀ W : World, (Instr.slice 9 (.string ⟨#[83, 117, 110, 77, 111, 110, 84, 117, 101, 87, 101, 100, 84, 104, 117, 70, 114, 105, 83, 97, 116]⟩) (some (.int .i64 (3 * wd))) (some (.int .i64 (3 * wd + 3))) none).run Tryz.prog W = .ok (.string (txt (wordT wd))) W := fun W => by
    rw [run_slice_string (P := Tryz.prog) W _ _ _ _ _ _ Tryz.underlying9 (by omega) (by omega) (by show 3 * wd + 3 ≤ ((21 : Nat) : Int); omega), hwe]
  have hw1 : IntKind.i64.wrap (3 * wd) = 3 * wd := by rw [IntKind.wrap_i64]; omega
  have hw2 : IntKind.i64.wrap (3 * wd + 3) = 3 * wd + 3 := by rw [IntKind.wrap_i64]; omega
  have HIT := Lib.hid (fun W hW => itoa_text n W (by omega) (by omega) hW)
  have eD : txt (dayT k wd n) = if k = 2 then ⟨#[108, 97, 115, 116]⟩ ++ txt (wordT wd) else if k = 3 then txt (wordT wd) ++ ⟨#[62, 61]⟩ ++ txt (Lib.itoa n) else if k = 4 then txt (wordT wd) ++ ⟨#[60, 61]⟩ ++ txt (Lib.itoa n) else txt (Lib.itoa n) := by
    rw [show (⟨#[108, 97, 115, 116]⟩ : ByteArray) = txt [108, 97, 115, 116] from rfl, show (⟨#[62, 61]⟩ : ByteArray) = txt [62, 61] from rfl, show (⟨#[60, 61]⟩ : ByteArray) = txt [60, 61] from rfl]
    simp only [txt_append]
    unfold dayT
    split
    · rfl
    · split
      · simp
      · split
        · simp
        · rfl
  rw [eD]
  clear eD hwk ht hwe
  generalize txt (wordT wd) = WD at hsl hwl
  obtain ⟨IT, eI⟩ : ∃ IT, txt (Lib.itoa n) = IT := ⟨_, rfl⟩
  rw [eI] at hil HIT
  rw [eI]
  clear eI
  have h : (k = 1 ∨ k = 2) ∨ k = 3 ∨ k = 4 := by omega
  clear h0
  rcases h with (rfl | rfl) | rfl | rfl
  · skip
    go_enter Tryz.func30, Tryz.ntmps30
    go_wp2_with fail
    refine (HCK.out _).mono ?_
    rintro e w1 ⟨rfl, hb1⟩
    have c1 : Below w.heap.size w w1 := ((Below.refl _ w).alloc (Nat.le_refl _) _).trans (hb1.mono (by simp))
    have HC1 := Lib.hid c1
    have f1 : w1.cell? ⟨w.heap.size, 1, none⟩ = some (.int .i64 wd) := ((bcell' hb1).1 w.heap.size 1 (by simp)).trans ((cell_of_row _ _ _ _ _ _ (heap_alloc_new w _)).trans rfl)
    have f2 : w1.cell? ⟨w.heap.size, 2, none⟩ = some (.int .i64 n) := ((bcell' hb1).1 w.heap.size 2 (by simp)).trans ((cell_of_row _ _ _ _ _ _ (heap_alloc_new w _)).trans rfl)
    have f0 : w1.cell? ⟨w.heap.size, 0, none⟩ = some (.int .i64 1) := ((bcell' hb1).1 w.heap.size 0 (by simp)).trans ((cell_of_row _ _ _ _ _ _ (heap_alloc_new w _)).trans rfl)
    have hlt : w.heap.size < w1.heap.size := by have := hb1.size; simp at this; omega
    clear hb1
    go_wp2_with fail
    go_region_held3 (fun w' => w'.cell? ⟨w.heap.size, 1, none⟩ = some (.int .i64 wd) ∧ w'.cell? ⟨w.heap.size, 2, none⟩ = some (.int .i64 n))
      (first
        | go_keep
        | (exact ⟨(hb2.cell (p := ⟨w.heap.size, 1, none⟩) hlt).trans f1, (hb2.cell (p := ⟨w.heap.size, 2, none⟩) hlt).trans f2⟩))
      (first
        | (go_at_call 35; refine (HIT.out _ (Tab10.below HT.out (below_drewN' HC1.out 1))).mono ?_; rintro e w2 ⟨rfl, hb2⟩))
    have f0' : w2.cell? ⟨w.heap.size, 0, none⟩ = some (.int .i64 1) := (hb2.cell (p := ⟨w.heap.size, 0, none⟩) hlt).trans f0
    have hlt2 : w.heap.size < w2.heap.size := by have := hb2.size; simp at this; omega
    have c2 : Below w.heap.size w w2 := (below_drewN' HC1.out 1).trans (hb2.mono (by have := HC1.out.size; simpa using this))
    clear hb2 f0 f1 f2 hlt
    go_wp2
    go_ret2
    exact ⟨rfl, c2⟩
  · skip
    go_enter Tryz.func30, Tryz.ntmps30
    go_wp2_with fail
    refine (HCK.out _).mono ?_
    rintro e w1 ⟨rfl, hb1⟩
    have c1 : Below w.heap.size w w1 := ((Below.refl _ w).alloc (Nat.le_refl _) _).trans (hb1.mono (by simp))
    have HC1 := Lib.hid c1
    have f1 : w1.cell? ⟨w.heap.size, 1, none⟩ = some (.int .i64 wd) := ((bcell' hb1).1 w.heap.size 1 (by simp)).trans ((cell_of_row _ _ _ _ _ _ (heap_alloc_new w _)).trans rfl)
    have f2 : w1.cell? ⟨w.heap.size, 2, none⟩ = some (.int .i64 n) := ((bcell' hb1).1 w.heap.size 2 (by simp)).trans ((cell_of_row _ _ _ _ _ _ (heap_alloc_new w _)).trans rfl)
    have f0 : w1.cell? ⟨w.heap.size, 0, none⟩ = some (.int .i64 2) := ((bcell' hb1).1 w.heap.size 0 (by simp)).trans ((cell_of_row _ _ _ _ _ _ (heap_alloc_new w _)).trans rfl)
    have hlt : w.heap.size < w1.heap.size := by have := hb1.size; simp at this; omega
    clear hb1
    go_wp2_with fail
    go_region_held3 (fun w' => w'.cell? ⟨w.heap.size, 1, none⟩ = some (.int .i64 wd) ∧ w'.cell? ⟨w.heap.size, 2, none⟩ = some (.int .i64 n))
      (first
        | go_keep
        | (exact ⟨(hb2.cell (p := ⟨w.heap.size, 1, none⟩) hlt).trans f1, (hb2.cell (p := ⟨w.heap.size, 2, none⟩) hlt).trans f2⟩))
      (first
        | (go_at_call 35; refine (HIT.out _ (Tab10.below HT.out (below_drewN' HC1.out 1))).mono ?_; rintro e w2 ⟨rfl, hb2⟩))
    have f0' : w2.cell? ⟨w.heap.size, 0, none⟩ = some (.int .i64 2) := (hb2.cell (p := ⟨w.heap.size, 0, none⟩) hlt).trans f0
    have hlt2 : w.heap.size < w2.heap.size := by have := hb2.size; simp at this; omega
    have c2 : Below w.heap.size w w2 := (below_drewN' HC1.out 1).trans (hb2.mono (by have := HC1.out.size; simpa using this))
    clear hb2 f0 f1 f2 hlt
    go_wp2
    go_ret2
    exact ⟨rfl, c2⟩
  · skip
    go_enter Tryz.func30, Tryz.ntmps30
    go_wp2_with fail
    refine (HCK.out _).mono ?_
    rintro e w1 ⟨rfl, hb1⟩
    have c1 : Below w.heap.size w w1 := ((Below.refl _ w).alloc (Nat.le_refl _) _).trans (hb1.mono (by simp))
    have HC1 := Lib.hid c1
    have f1 : w1.cell? ⟨w.heap.size, 1, none⟩ = some (.int .i64 wd) := ((bcell' hb1).1 w.heap.size 1 (by simp)).trans ((cell_of_row _ _ _ _ _ _ (heap_alloc_new w _)).trans rfl)
    have f2 : w1.cell? ⟨w.heap.size, 2, none⟩ = some (.int .i64 n) := ((bcell' hb1).1 w.heap.size 2 (by simp)).trans ((cell_of_row _ _ _ _ _ _ (heap_alloc_new w _)).trans rfl)
    have f0 : w1.cell? ⟨w.heap.size, 0, none⟩ = some (.int .i64 3) := ((bcell' hb1).1 w.heap.size 0 (by simp)).trans ((cell_of_row _ _ _ _ _ _ (heap_alloc_new w _)).trans rfl)
    have hlt : w.heap.size < w1.heap.size := by have := hb1.size; simp at this; omega
    clear hb1
    go_wp2_with fail
    go_region_held3 (fun w' => w'.cell? ⟨w.heap.size, 1, none⟩ = some (.int .i64 wd) ∧ w'.cell? ⟨w.heap.size, 2, none⟩ = some (.int .i64 n))
      (first
        | go_keep
        | (exact ⟨(hb2.cell (p := ⟨w.heap.size, 1, none⟩) hlt).trans f1, (hb2.cell (p := ⟨w.heap.size, 2, none⟩) hlt).trans f2⟩))
      (first
        | (go_at_call 35; refine (HIT.out _ (Tab10.below HT.out (below_drewN' HC1.out 1))).mono ?_; rintro e w2 ⟨rfl, hb2⟩))
    have f0' : w2.cell? ⟨w.heap.size, 0, none⟩ = some (.int .i64 3) := (hb2.cell (p := ⟨w.heap.size, 0, none⟩) hlt).trans f0
    have hlt2 : w.heap.size < w2.heap.size := by have := hb2.size; simp at this; omega
    have c2 : Below w.heap.size w w2 := (below_drewN' HC1.out 1).trans (hb2.mono (by have := HC1.out.size; simpa using this))
    clear hb2 f0 f1 f2 hlt
    go_wp2
    go_ret2
    exact ⟨rfl, c2⟩
  · skip
    go_enter Tryz.func30, Tryz.ntmps30
    go_wp2_with fail
    refine (HCK.out _).mono ?_
    rintro e w1 ⟨rfl, hb1⟩
    have c1 : Below w.heap.size w w1 := ((Below.refl _ w).alloc (Nat.le_refl _) _).trans (hb1.mono (by simp))
    have HC1 := Lib.hid c1
    have f1 : w1.cell? ⟨w.heap.size, 1, none⟩ = some (.int .i64 wd) := ((bcell' hb1).1 w.heap.size 1 (by simp)).trans ((cell_of_row _ _ _ _ _ _ (heap_alloc_new w _)).trans rfl)
    have f2 : w1.cell? ⟨w.heap.size, 2, none⟩ = some (.int .i64 n) := ((bcell' hb1).1 w.heap.size 2 (by simp)).trans ((cell_of_row _ _ _ _ _ _ (heap_alloc_new w _)).trans rfl)
    have f0 : w1.cell? ⟨w.heap.size, 0, none⟩ = some (.int .i64 4) := ((bcell' hb1).1 w.heap.size 0 (by simp)).trans ((cell_of_row _ _ _ _ _ _ (heap_alloc_new w _)).trans rfl)
    have hlt : w.heap.size < w1.heap.size := by have := hb1.size; simp at this; omega
    clear hb1
    go_wp2_with fail
    go_region_held3 (fun w' => w'.cell? ⟨w.heap.size, 1, none⟩ = some (.int .i64 wd) ∧ w'.cell? ⟨w.heap.size, 2, none⟩ = some (.int .i64 n))
      (first
        | go_keep
        | (exact ⟨(hb2.cell (p := ⟨w.heap.size, 1, none⟩) hlt).trans f1, (hb2.cell (p := ⟨w.heap.size, 2, none⟩) hlt).trans f2⟩))
      (first
        | (go_at_call 35; refine (HIT.out _ (Tab10.below HT.out (below_drewN' HC1.out 1))).mono ?_; rintro e w2 ⟨rfl, hb2⟩))
    have f0' : w2.cell? ⟨w.heap.size, 0, none⟩ = some (.int .i64 4) := (hb2.cell (p := ⟨w.heap.size, 0, none⟩) hlt).trans f0
    have hlt2 : w.heap.size < w2.heap.size := by have := hb2.size; simp at this; omega
    have c2 : Below w.heap.size w w2 := (below_drewN' HC1.out 1).trans (hb2.mono (by have := HC1.out.size; simpa using this))
    clear hb2 f0 f1 f2 hlt
    go_wp2
    go_ret2
    exact ⟨rfl, c2⟩

set_option maxHeartbeats 1000000 in
theorem Text_no (k wd n : Int) (w : World) (h0 : dayB k wd n = false) :
    Calls Tryz.prog 30 #[dayV k wd n] w fun e w' => e = .returned (.tuple #[.string ⟨#[]⟩, .int .i64 1]) ∧ Below w.heap.size w w' := by
  have HCK := Lib.hid (fun W => Check_no k wd n W h0)
  clear h0
  go_enter Tryz.func30, Tryz.ntmps30
  go_wp2_with fail
  refine (HCK.out _).mono ?_
  rintro e w1 ⟨rfl, hb1⟩
  have c1 : Below w.heap.size w w1 := ((Below.refl _ w).alloc (Nat.le_refl _) _).trans (hb1.mono (by simp))
  go_wp2
  go_ret2
  exact ⟨rfl, c1⟩

def wordsL : List ByteArray := [⟨#[83, 117, 110]⟩, ⟨#[77, 111, 110]⟩, ⟨#[84, 117, 101]⟩, ⟨#[87, 101, 100]⟩, ⟨#[84, 104, 117]⟩, ⟨#[70, 114, 105]⟩, ⟨#[83, 97, 116]⟩]
/-- a word's weekday -/
def wdayV (l : List UInt8) : Int := Lib.idxOfS wordsL (txt l)
set_option maxHeartbeats 1000000 in
theorem weekday_any (l : List UInt8) (w : World) :
    Calls Tryz.prog 28 #[.string (txt l)] w fun e w' => e = .returned (.int .i64 (wdayV l)) ∧ Below w.heap.size w w' := by
  have hI : Calls Tryz.prog 49 #[.slice (some ⟨w.heap.size, 0, none⟩) 7 7, .string (txt l)] (w.alloc (.cells #[.string ⟨#[83, 117, 110]⟩, .string ⟨#[77, 111, 110]⟩, .string ⟨#[84, 117, 101]⟩, .string ⟨#[87, 101, 100]⟩, .string ⟨#[84, 104, 117]⟩, .string ⟨#[70, 114, 105]⟩, .string ⟨#[83, 97, 116]⟩] 9)) fun e w' => e = .returned (.int .i64 (wdayV l)) ∧ w' = (w.alloc (.cells #[.string ⟨#[83, 117, 110]⟩, .string ⟨#[77, 111, 110]⟩, .string ⟨#[84, 117, 101]⟩, .string ⟨#[87, 101, 100]⟩, .string ⟨#[84, 104, 117]⟩, .string ⟨#[70, 114, 105]⟩, .string ⟨#[83, 97, 116]⟩] 9)) := by
    refine Tryz.slices_Index_string w.heap.size 0 7 7 wordsL (txt l) _ (by decide) (by decide) (fun j hj => ?_)
    rw [cell_of_row _ _ _ _ _ _ (heap_alloc_new w _)]
    have hj7 : j < 7 := hj
    rcases (by omega : j = 0 ∨ j = 1 ∨ j = 2 ∨ j = 3 ∨ j = 4 ∨ j = 5 ∨ j = 6) with rfl | rfl | rfl | rfl | rfl | rfl | rfl <;> rfl
  generalize txt l = S at hI
  obtain ⟨V, eV⟩ : ∃ V, wdayV l = V := ⟨_, rfl⟩
  rw [eV] at hI
  rw [eV]
  have HI := Lib.hid hI
  clear hI eV
  go_enter Tryz.func28, Tryz.ntmps28
  go_wp2_with fail
  refine HI.out.mono ?_
  rintro e w2 ⟨rfl, rfl⟩
  go_wp2
  go_ret
  exact ⟨rfl, (Below.refl _ _).alloc (Nat.le_refl _) _⟩
end Go.Proofs.YtfocdcdggidboaaGreatDoor
