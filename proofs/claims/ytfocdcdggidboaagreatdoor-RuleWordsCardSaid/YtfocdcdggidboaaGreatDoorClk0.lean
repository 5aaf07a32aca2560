/- clock.two, clock.Span: what each returns. -/
import Derived.Test.YtfocdcdggidboaaGreatDoorClkMath
import Derived.Test.YtfocdcdggidboaaGreatDoorCiv0
import Derived.Test.YtfocdcdggidboaaGreatDoorShelf
import Derived.Shelf.Bytes.SlEqualAll
import Derived.Lib.SmallJoins
import Derived.Lib.AppendIntMem
namespace Go.Proofs.YtfocdcdggidboaaGreatDoor
open Go.RowKit Go.Joins
set_option linter.unusedVariables false
set_option linter.unusedSimpArgs false

/-- strconv's table of powers of ten lies there -/
def Tab10 (w : World) : Prop := Lib.TabIs Tryz.prog w "internal/strconv.uint64pow10" .u64 Lib.pow10Tab
theorem Tab10.below {w w' : World} (h : Tab10 w) (hb : Below w.heap.size w w') : Tab10 w' := (Lib.tabBelow_of_tabIs h) w' hb

theorem ret_text {a b : List UInt8} (h : a = b) : Ending.returned (.string (txt a)) = .returned (.string (txt b)) := by rw [h]
theorem itoa_text (n : Int) (w : World) (h0 : -9223372036854775808 ≤ n) (h1 : n ≤ 9223372036854775807) (ht : Tab10 w) :
    Calls Tryz.prog 35 #[.int .i64 n] w fun e w' => e = .returned (.string (txt (Lib.itoa n))) ∧ Below w.heap.size w w' :=
  (Tryz.strconv_Itoa n h0 h1 w ht).mono fun e w' ⟨he, k, os, hw⟩ => ⟨he, by rw [hw]; exact Lib.below_grow _ w (Nat.le_refl _) k os⟩

theorem und_bytes : Tryz.prog.underlying 77 = some (.slice 5) := by kernel_rfl

set_option maxHeartbeats 1000000 in
theorem two_any (n : Int) (w : World) (h0 : 0 ≤ n) (h1 : n < 100) :
    Calls Tryz.prog 53 #[.int .i64 n] w fun e w' => e = .returned (.string (txt (T2 n))) ∧ Below w.heap.size w w' := by
  have hcv : (convert 77 9 (.slice (some ⟨w.heap.size, 0, none⟩) 2 2)).run Tryz.prog (w.alloc (.cells #[.int .u8 (48 + n / 10), .int .u8 (48 + n % 10)] 5)) = .ok (.string (strOfNums [48 + n / 10, 48 + n % 10])) (w.alloc (.cells #[.int .u8 (48 + n / 10), .int .u8 (48 + n % 10)] 5)) := by
    refine Lib.BytesIn.convert (xs := [48 + n / 10, 48 + n % 10]) (fun _ => ⟨w.heap.size, 0, rfl, fun i hi => ?_⟩) rfl 2 _ 5 _ und_bytes Tryz.underlying5 (by kernel_rfl)
    have e := heap_alloc_new w (.cells #[.int .u8 (48 + n / 10), .int .u8 (48 + n % 10)] 5)
    rw [cell_of_row _ _ _ _ _ _ e]
    have hi2 : i < 2 := hi
    have : i = 0 ∨ i = 1 := by omega
    rcases this with rfl | rfl <;> rfl
  have hs : strOfNums [48 + n / 10, 48 + n % 10] = txt (T2 n) := by
    simp only [strOfNums, txt, T2, List.map_cons, List.map_nil]
    rw [show (48 + n / 10).toNat = 48 + (n / 10).toNat by omega, show (48 + n % 10).toNat = 48 + (n % 10).toNat by omega]
  rw [hs] at hcv
  clear hs
  go_enter Tryz.func53, Tryz.ntmps53
  go_wp2
  go_ret
  exact ⟨rfl, (Below.refl _ _).alloc (Nat.le_refl _) _⟩

theorem below_drewN' {B : Nat} {a w : World} (h : Below B a w) (n : Nat) : Below B a (w.drewN n) := ⟨h.os, h.tape, h.output, h.size, h.block⟩
theorem ret_2 {a b c d : Int} (h : a = b) (h2 : c = d) : Ending.returned (.tuple #[.int .i64 a, .int .i64 c]) = .returned (.tuple #[.int .i64 b, .int .i64 d]) := by rw [h, h2]

theorem itoa_len3 {n : Int} (h0 : 0 ≤ n) (h1 : n < 1000) : (Lib.itoa n).length ≤ 3 := by
  unfold Lib.itoa
  rw [if_neg (by omega), Lib.decDigits_length]
  by_cases a : n.toNat < 10
  · rw [Lib.nDigits_small a]; omega
  · rw [Lib.nDigits_big a]
    by_cases b : n.toNat / 10 < 10
    · rw [Lib.nDigits_small b]; omega
    · rw [Lib.nDigits_big b, Lib.nDigits_small (by omega)]; omega
theorem ret_span {a b : List UInt8} {x y : Int} (h : a = b) (h2 : x = y) : Ending.returned (.tuple #[.string (txt a), .int .i64 x]) = .returned (.tuple #[.string (txt b), .int .i64 y]) := by rw [h, h2]
theorem str_txt (l : List UInt8) : (⟨l.toArray⟩ : ByteArray) = txt l := rfl

theorem cat1 (p a b : List UInt8) : txt p ++ txt a ++ ⟨#[58]⟩ ++ txt b = txt (p ++ (a ++ ([58] ++ (b ++ [])))) := by
  rw [show (⟨#[58]⟩ : ByteArray) = txt [58] from rfl, txt_append, txt_append, txt_append]; simp
theorem cat2 (p a b c : List UInt8) : txt p ++ txt a ++ ⟨#[58]⟩ ++ txt b ++ (⟨#[58]⟩ ++ txt c) = txt (p ++ (a ++ ([58] ++ (b ++ ([58] ++ c))))) := by
  rw [show (⟨#[58]⟩ : ByteArray) = txt [58] from rfl, txt_append, txt_append, txt_append, txt_append, txt_append]; simp
set_option maxRecDepth 100000 in
set_option maxHeartbeats 1000000 in
theorem Span_pos (n : Int) (w : World) (h0 : 0 ≤ n) (h1 : n ≤ 604800) (ht : Tab10 w) :
    Calls Tryz.prog 32 #[.int .i64 n] w fun e w' => e = .returned (.tuple #[.string (txt (spanP n)), .int .i64 0]) ∧ Below w.heap.size w w' := by
  have HT := Lib.hid ht
  clear ht
  have ha : ¬ n < -604800 := by omega
  have hb : ¬ 604800 < n := by omega
  go_enter Tryz.func32, Tryz.ntmps32
  go_wp2_with fail
  refine (itoa_text _ _ (by omega) (by omega) HT.out).mono ?_
  have hA := itoa_len3 (n := n / 3600) (by omega) (by omega)
  rw [← txt_size] at hA
  obtain ⟨A, eA⟩ : ∃ A, txt (Lib.itoa (n / 3600)) = A := ⟨_, rfl⟩
  rw [eA] at hA ⊢
  have EA := Lib.hid eA
  clear eA
  rintro e w1 ⟨rfl, hb1⟩
  go_wp2_with fail
  refine (two_any _ _ (by omega) (by omega)).mono ?_
  obtain ⟨B, eB⟩ : ∃ B, txt (T2 (n / 60 % 60)) = B := ⟨_, rfl⟩
  rw [eB]
  have hB2 : B.size ≤ 2 := by rw [← eB, txt_size, T2_length]; omega
  have EB := Lib.hid eB
  clear eB
  rintro e w2 ⟨rfl, hb2⟩
  have b2 := hb1.trans (hb2.mono hb1.size)
  by_cases hz : n % 60 = 0
  · go_wp2_with fail
    go_ret2
    refine ⟨?_, b2⟩
    show Ending.returned (.tuple #[.string (txt [] ++ A ++ ⟨#[58]⟩ ++ B), .int .i64 0]) = _
    rw [← EA.out, ← EB.out, cat1, spanP, if_pos hz]
    rfl
  · go_wp2_with fail
    refine (two_any _ _ (by omega) (by omega)).mono ?_
    obtain ⟨C, eC⟩ : ∃ C, txt (T2 (n % 60)) = C := ⟨_, rfl⟩
    rw [eC]
    have hC2 : C.size ≤ 2 := by rw [← eC, txt_size, T2_length]; omega
    have EC := Lib.hid eC
    clear eC
    rintro e w3 ⟨rfl, hb3⟩
    go_wp2_with fail
    go_ret2
    refine ⟨?_, b2.trans (hb3.mono b2.size)⟩
    show Ending.returned (.tuple #[.string (txt [] ++ A ++ ⟨#[58]⟩ ++ B ++ (⟨#[58]⟩ ++ C)), .int .i64 0]) = _
    rw [← EA.out, ← EB.out, ← EC.out, cat2, spanP, if_neg hz]
    rfl
set_option maxRecDepth 100000 in
set_option maxHeartbeats 1000000 in
theorem Span_neg (n : Int) (w : World) (h0 : 0 < n) (h1 : n ≤ 604800) (ht : Tab10 w) :
    Calls Tryz.prog 32 #[.int .i64 (-n)] w fun e w' => e = .returned (.tuple #[.string (txt (45 :: spanP n)), .int .i64 0]) ∧ Below w.heap.size w w' := by
  have HT := Lib.hid ht
  clear ht
  have ha : ¬ -n < -604800 := by omega
  have hb : ¬ 604800 < -n := by omega
  go_enter Tryz.func32, Tryz.ntmps32
  go_wp2_with fail
  refine (itoa_text _ _ (by omega) (by omega) HT.out).mono ?_
  have hA := itoa_len3 (n := n / 3600) (by omega) (by omega)
  rw [← txt_size] at hA
  obtain ⟨A, eA⟩ : ∃ A, txt (Lib.itoa (n / 3600)) = A := ⟨_, rfl⟩
  rw [eA] at hA ⊢
  have EA := Lib.hid eA
  clear eA
  rintro e w1 ⟨rfl, hb1⟩
  go_wp2_with fail
  refine (two_any _ _ (by omega) (by omega)).mono ?_
  obtain ⟨B, eB⟩ : ∃ B, txt (T2 (n / 60 % 60)) = B := ⟨_, rfl⟩
  rw [eB]
  have hB2 : B.size ≤ 2 := by rw [← eB, txt_size, T2_length]; omega
  have EB := Lib.hid eB
  clear eB
  rintro e w2 ⟨rfl, hb2⟩
  have b2 := hb1.trans (hb2.mono hb1.size)
  by_cases hz : n % 60 = 0
  · go_wp2_with fail
    go_ret2
    refine ⟨?_, b2⟩
    show Ending.returned (.tuple #[.string (txt [45] ++ A ++ ⟨#[58]⟩ ++ B), .int .i64 0]) = _
    rw [← EA.out, ← EB.out, cat1, spanP, if_pos hz]
    rfl
  · go_wp2_with fail
    refine (two_any _ _ (by omega) (by omega)).mono ?_
    obtain ⟨C, eC⟩ : ∃ C, txt (T2 (n % 60)) = C := ⟨_, rfl⟩
    rw [eC]
    have hC2 : C.size ≤ 2 := by rw [← eC, txt_size, T2_length]; omega
    have EC := Lib.hid eC
    clear eC
    rintro e w3 ⟨rfl, hb3⟩
    go_wp2_with fail
    go_ret2
    refine ⟨?_, b2.trans (hb3.mono b2.size)⟩
    show Ending.returned (.tuple #[.string (txt [45] ++ A ++ ⟨#[58]⟩ ++ B ++ (⟨#[58]⟩ ++ C)), .int .i64 0]) = _
    rw [← EA.out, ← EB.out, ← EC.out, cat2, spanP, if_neg hz]
    rfl

theorem Span_ok (n : Int) (w : World) (h0 : -604800 ≤ n) (h1 : n ≤ 604800) (ht : Tab10 w) :
    Calls Tryz.prog 32 #[.int .i64 n] w fun e w' => e = .returned (.tuple #[.string (txt (spanT n)), .int .i64 0]) ∧ Below w.heap.size w w' := by
  unfold spanT
  by_cases h : n < 0
  · rw [if_pos h]
    have := Span_neg (-n) w (by omega) (by omega) ht
    rw [Int.neg_neg] at this
    exact this
  · rw [if_neg h]; exact Span_pos n w (by omega) h1 ht
end Go.Proofs.YtfocdcdggidboaaGreatDoor
