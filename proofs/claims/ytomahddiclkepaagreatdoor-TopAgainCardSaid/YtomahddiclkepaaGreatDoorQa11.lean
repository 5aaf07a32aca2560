/- strings.Split at one letter; clock.ReadSpan: what it returns. day.Text and day.weekday: what each returns. rule: the plain mathematics. day.Read: what it returns. -/
import Derived.Test.YtomahddiclkepaaGreatDoorQa10
import Derived.Test.YtomahddiclkepaaGreatDoorQa03
import Derived.Deep.RegionHeld3
import Derived.BigRegion
import Derived.Laws.BitsLemmas
import Derived.RegionTactic
import Derived.Maps.Own
import Derived.Maps.OwnOps
import Derived.Maps.OwnSet
import Derived.Maps.RangeWalk
import Derived.Maps.StringElems
namespace Go.Proofs.YtomahddiclkepaaGreatDoor
open Go.RowKit Go.Joins
set_option linter.unusedVariables false
set_option linter.unusedSimpArgs false
theorem splitC_any (c : UInt8) (l : List UInt8) (w : World) (hl : l.length < 4294967281) (hm : MaxLen w) :
  Calls Tryz.prog 36 #[.string (txt l), .string (txt [c])] w fun e w' => ∃ A, e = .returned (.slice (some ⟨A, 0, none⟩) (splitC c l).length (splitC c l).length) ∧ w.heap.size ≤ A ∧ A < w'.heap.size ∧
   (∀ j (h : j < (splitC c l).length), w'.cell? ⟨A, j, none⟩ = some (.string (txt ((splitC c l)[j]'h)))) ∧ Below w.heap.size w w' := by
 obtain ⟨m, hm⟩ := hm
 have hn : (splitC c l).length = Lib.countB (txt l) (txt [c]) + 1 := by
  rw [splitC_length]; unfold Lib.countB; rw [txt_data, txt_data, Lib.count_one]
 refine (Tryz.strings_Split (txt l) (txt [c]) m w (by rw [txt_size]; exact hl) hm (by rw [txt_size]; simp)).mono ?_
 rintro e w' ⟨rfl, rfl⟩
 rw [splitB_one]
 refine ⟨w.heap.size, by rw [hn], Nat.le_refl _, by simp, ?_, (Below.refl _ _).alloc (Nat.le_refl _) _⟩
 intro j h
 rw [cell_of_row _ _ _ _ _ _ (heap_alloc_new w _)]
 simp [h]
theorem cutPrefix_any (l p : List UInt8) (w : World) :
  Calls Tryz.prog 141 #[.string (txt l), .string (txt p)] w fun e w' => e = .returned (.tuple #[.string (txt (Lib.trimPrefix l p)), .bool (Lib.hasPrefix l p)]) ∧ w' = w := by
 have := Tryz.strings_CutPrefix (txt l) (txt p) w
 rwa [txt_data, txt_data] at this
theorem Span_no (n : Int) (w : World) (h : n < -604800 ∨ 604800 < n) :
  Calls Tryz.prog 72 #[.int .i64 n] w fun e w' => e = .returned (.tuple #[.string ⟨#[]⟩, .int .i64 1]) ∧ Below w.heap.size w w' := by
 rcases h with h | h
 ·go_enter Tryz.func72, Tryz.ntmps72
  go_wp2
  go_ret2
  exact ⟨rfl, Below.refl _ _⟩
 ·have h1 : ¬ n < -604800 := by omega
  go_enter Tryz.func72, Tryz.ntmps72
  go_wp2
  go_ret2
  exact ⟨rfl, Below.refl _ _⟩
def mulS : Nat → Int
 | 0 => 3600
 | 1 => 60
 | 2 => 1
 | _ => 0
def stepS (a v : Int) (k : Nat) : Int := wrap64 (a + wrap64 (min v 1000 * mulS k))
def accS (L : List (List UInt8)) : Nat → Int
 | 0 => 0
 | k + 1 => stepS (accS L k) (atoiV (L.getD k [])) k
def rawS (l : List UInt8) : Int :=
 let L := splitC 58 (Lib.trimPrefix l [45])
 let v := accS L L.length
 if Lib.hasPrefix l [45] = true then wrap64 (-v) else v
set_option maxRecDepth 100000 in
set_option maxHeartbeats 2000000 in
theorem ReadSpan_raw (l : List UInt8) (w : World) (hl : l.length < 4294967281) (ht : Tab10 w) (hn : NumErrs w) (hm : MaxLen w) (R : Int × Int)
  (hR : (-604800 ≤ rawS l ∧ rawS l ≤ 604800 ∧ spanT (rawS l) = l ∧ R = (rawS l, 0)) ∨ (-604800 ≤ rawS l ∧ rawS l ≤ 604800 ∧ spanT (rawS l) ≠ l ∧ R = (0, 3)) ∨ ((rawS l < -604800 ∨ 604800 < rawS l) ∧ R = (0, 3))) :
  Calls Tryz.prog 140 #[.string (txt l)] w fun e w' => e = .returned (.tuple #[.int .i64 R.1, .int .i64 R.2]) ∧ Below w.heap.size w w' := by
 have HT := Lib.hid ht
 have HN := Lib.hid hn
 have HM := Lib.hid hm
 have hk1 : (Lib.trimPrefix l [45]).length < 4294967281 := by have := Lib.trimPrefix_le l [45]; omega
 have HCP := Lib.hid (fun W => cutPrefix_any l [45] W)
 have HSP := Lib.hid (fun W hW => splitC_any 58 (Lib.trimPrefix l [45]) W hk1 hW)
 have hsm : ∀ x ∈ splitC 58 (Lib.trimPrefix l [45]), x.length ≤ 281474976710656 := fun x hx => by
  have := splitC_small 58 _ x hx
  omega
 have hLb : (splitC 58 (Lib.trimPrefix l [45])).length < 4294967290 := by
  rw [splitC_length]
  have := List.count_le_length (a := 58) (l := Lib.trimPrefix l [45])
  omega
 have eRaw : rawS l = if Lib.hasPrefix l [45] = true then wrap64 (-(accS (splitC 58 (Lib.trimPrefix l [45])) (splitC 58 (Lib.trimPrefix l [45])).length)) else accS (splitC 58 (Lib.trimPrefix l [45])) (splitC 58 (Lib.trimPrefix l [45])).length := rfl
 rw [show (txt [45] : ByteArray) = ⟨#[45]⟩ from rfl] at HCP
 rw [show (txt [58] : ByteArray) = ⟨#[58]⟩ from rfl] at HSP
 obtain ⟨r, er⟩ : ∃ r, rawS l = r := ⟨_, rfl⟩
 rw [er] at eRaw hR
 have HER := Lib.hid eRaw
 obtain ⟨S, eS⟩ : ∃ S, txt l = S := ⟨_, rfl⟩
 rw [eS] at HCP ⊢
 have ES := Lib.hid eS
 have hLne := splitC_ne 58 (Lib.trimPrefix l [45])
 clear ht hn hm hk1 eRaw er eS hl
 generalize Lib.hasPrefix l [45] = neg at HCP HER
 generalize txt (Lib.trimPrefix l [45]) = T at HCP HSP
 generalize splitC 58 (Lib.trimPrefix l [45]) = L at HSP hsm HER hLne hLb
 go_enter Tryz.func140, Tryz.ntmps140
 go_wp2_with fail
 refine (HCP.out _).mono ?_
 rintro e w1 ⟨rfl, rfl⟩
 go_wp2_with fail
 refine (HSP.out _ HM.out).mono ?_
 rintro e w1 ⟨A, rfl, hA, hA2, hc, hb⟩
 have HC := Lib.hid hc
 clear hc
 go_wp2_with fail
 go_loopw [6, 21] (fun n i wr => ∃ k : Nat, k ≤ L.length ∧ i = .int .i64 k ∧ n = .int .i64 (accS L k) ∧ Below w1.heap.size w1 wr) (fun _ i _ => L.length - (intOf i).toNat)
 case atStart => exact ⟨0, by omega, by go_num, rfl, Below.refl _ _⟩
 case round =>
  obtain ⟨k, hk, rfl, rfl, hbw⟩ := hrel
  have HBW := Lib.hid hbw
  have hA3 : A < wr.heap.size := by have := hbw.size; omega
  clear hbw
  by_cases hkL : k < L.length
  ·have cA := (HBW.out.cell (p := ⟨A, k, none⟩) hA2).trans (HC.out k hkL)
   have hsk := hsm (L[k]'hkL) (List.getElem_mem _)
   have ex0 : accS L (k + 1) = stepS (accS L k) (atoiV (L[k]'hkL)) k := by
    show stepS _ _ _ = _
    rw [List.getD_eq_getElem?_getD, List.getElem?_eq_getElem hkL]; rfl
   obtain ⟨x, ex⟩ : ∃ x, L[k]'hkL = x := ⟨_, rfl⟩
   rw [ex] at cA hsk ex0
   have EX0 := Lib.hid ex0
   clear ex ex0 hR
   go_wp2_with fail
   refine (Atoi_any x _ hsk (HN.out.below (hb.trans (HBW.out.mono hb.size)))).mono ?_
   obtain ⟨v, ev⟩ : ∃ v, atoiV x = v := ⟨_, rfl⟩
   have hv := atoiV_bd x
   rw [ev] at hv
   rw [ev]
   rw [ev] at EX0
   clear ev
   generalize accS L k = a at EX0
   rintro e w2 ⟨er, rfl, hb2, -⟩
   have HBX := Lib.hid (HBW.out.trans (hb2.mono HBW.out.size))
   have hcell : (w2.alloc (.cells #[.int .i64 3600, .int .i64 60, .int .i64 1, .int .i64 0] 3)).cell? ⟨w2.heap.size, (min (k : Int) 3).toNat, none⟩ = some (.int .i64 (mulS k)) := by
    rw [cell_of_row _ _ _ _ _ _ (heap_alloc_new w2 _)]
    rcases (by omega : k = 0 ∨ k = 1 ∨ k = 2 ∨ 3 ≤ k) with rfl | rfl | rfl | hk3
    ·rfl
    ·rfl
    ·rfl
    ·rw [show (min (k : Int) 3).toNat = 3 by omega]
     obtain ⟨j, rfl⟩ : ∃ j, k = j + 3 := ⟨k - 3, by omega⟩
     rfl
   obtain ⟨mu, emu⟩ : ∃ mu, mulS k = mu := ⟨_, rfl⟩
   have EX1 : Hid (accS L (k + 1) = wrap64 (a + wrap64 (min v 1000 * mu))) := by
    show _ = _
    rw [EX0.out, ← emu]; rfl
   rw [emu] at hcell
   clear EX0 emu
   go_wp2
   go_roundw
   case rel => exact ⟨k + 1, by omega, by go_num, by rw [EX1.out], HBX.out.alloc HBX.out.size _⟩
   case measure => simp [intOf]; omega
  ·obtain rfl : k = L.length := by omega
   have HBA := Lib.hid (hb.trans (HBW.out.mono hb.size))
   cases neg
   ·have e := HER.out
    simp only [Bool.false_eq_true, if_false] at e
    rw [← e]
    clear e
    go_wp2_with fail
    rcases hR with ⟨t1, t2, t3, rfl⟩ | ⟨t1, t2, t3, rfl⟩ | ⟨t1, rfl⟩
    ·refine (Span_ok r _ t1 t2 (HT.out.below HBA.out)).mono ?_
     rw [t3, ES.out]
     rintro e w3 ⟨rfl, hb3⟩
     clear t3
     go_wp2
     go_ret2
     exact ⟨rfl, HBA.out.trans (hb3.mono HBA.out.size)⟩
    ·refine (Span_ok r _ t1 t2 (HT.out.below HBA.out)).mono ?_
     have hne : ((txt (spanT r)).toList == S.toList) = false := by
      rw [← ES.out]; exact txt_ne t3
     generalize txt (spanT r) = U at hne
     rintro e w3 ⟨rfl, hb3⟩
     clear t3
     go_wp2
     go_ret2
     exact ⟨rfl, HBA.out.trans (hb3.mono HBA.out.size)⟩
    ·refine (Span_no r _ t1).mono ?_
     rintro e w3 ⟨rfl, hb3⟩
     clear t1
     go_wp2
     go_ret2
     exact ⟨rfl, HBA.out.trans (hb3.mono HBA.out.size)⟩
   ·have e := Lib.hid HER.out
    simp only [if_true] at e
    go_wp2_with fail
    rw [← e.out]
    clear e
    rcases hR with ⟨t1, t2, t3, rfl⟩ | ⟨t1, t2, t3, rfl⟩ | ⟨t1, rfl⟩
    ·refine (Span_ok r _ t1 t2 (HT.out.below HBA.out)).mono ?_
     rw [t3, ES.out]
     rintro e w3 ⟨rfl, hb3⟩
     clear t3
     go_wp2
     go_ret2
     exact ⟨rfl, HBA.out.trans (hb3.mono HBA.out.size)⟩
    ·refine (Span_ok r _ t1 t2 (HT.out.below HBA.out)).mono ?_
     have hne : ((txt (spanT r)).toList == S.toList) = false := by
      rw [← ES.out]; exact txt_ne t3
     generalize txt (spanT r) = U at hne
     rintro e w3 ⟨rfl, hb3⟩
     clear t3
     go_wp2
     go_ret2
     exact ⟨rfl, HBA.out.trans (hb3.mono HBA.out.size)⟩
    ·refine (Span_no r _ t1).mono ?_
     rintro e w3 ⟨rfl, hb3⟩
     clear t1
     go_wp2
     go_ret2
     exact ⟨rfl, HBA.out.trans (hb3.mono HBA.out.size)⟩
def inS (n : Int) : Prop := -604800 ≤ n ∧ n ≤ 604800
theorem ReadSpan_no (l : List UInt8) (w : World) (hl : l.length < 4294967281) (hno : ∀ n, inS n → spanT n ≠ l) (ht : Tab10 w) (hn : NumErrs w) (hm : MaxLen w) :
  Calls Tryz.prog 140 #[.string (txt l)] w fun e w' => e = .returned (.tuple #[.int .i64 0, .int .i64 3]) ∧ Below w.heap.size w w' := by
 refine ReadSpan_raw l w hl ht hn hm (0, 3) ?_
 by_cases h : inS (rawS l)
 ·exact .inr (.inl ⟨h.1, h.2, hno _ h, rfl⟩)
 ·exact .inr (.inr ⟨by unfold inS at h; omega, rfl⟩)
theorem pieces_spanP {n : Int} (h0 : 0 ≤ n) (h1 : n ≤ 604800) : accS (splitC 58 (spanP n)) (splitC 58 (spanP n)).length = n := by
 have hd : ∀ l : List UInt8, (∀ c ∈ l, isDg c) → ∀ c ∈ l, c ≠ 58 := fun l h c hc => dg_ne (h c hc) 58 (by decide)
 have hI := hd _ (itoa_dg (show 0 ≤ n / 3600 by omega))
 have hM := hd _ (T2_dg (show 0 ≤ n / 60 % 60 by omega) (by omega))
 have hS := hd _ (T2_dg (show 0 ≤ n % 60 by omega) (by omega))
 have e0 : atoiV (Lib.itoa (n / 3600)) = n / 3600 := atoiV_itoa (by omega) (by omega)
 have e1 : atoiV (T2 (n / 60 % 60)) = n / 60 % 60 := atoiV_T2 (by omega) (by omega)
 have e2 : atoiV (T2 (n % 60)) = n % 60 := atoiV_T2 (by omega) (by omega)
 have w1 : wrap64 (0 + wrap64 (min (n / 3600) 1000 * 3600)) = n / 3600 * 3600 := by
  rw [Int.min_eq_left (by omega), IntWalk.wrap64_in (n / 3600 * 3600) (by omega), IntWalk.wrap64_in _ (by omega)]; omega
 have w2 : wrap64 (n / 3600 * 3600 + wrap64 (min (n / 60 % 60) 1000 * 60)) = n / 3600 * 3600 + n / 60 % 60 * 60 := by
  rw [Int.min_eq_left (by omega), IntWalk.wrap64_in (n / 60 % 60 * 60) (by omega), IntWalk.wrap64_in _ (by omega)]
 have w3 : wrap64 (n / 3600 * 3600 + n / 60 % 60 * 60 + wrap64 (min (n % 60) 1000 * 1)) = n := by
  rw [Int.min_eq_left (by omega), IntWalk.wrap64_in (n % 60 * 1) (by omega), IntWalk.wrap64_in _ (by omega)]; omega
 unfold spanP
 by_cases hz : n % 60 = 0
 ·rw [if_pos hz, List.append_nil]
  have e : splitC 58 (Lib.itoa (n / 3600) ++ ([58] ++ T2 (n / 60 % 60))) = [Lib.itoa (n / 3600), T2 (n / 60 % 60)] := by
   rw [List.singleton_append, splitC_head 58 _ _ hI, splitC_last 58 _ hM]
  rw [e]
  simp only [List.length_cons, List.length_nil, accS, List.getD_cons_zero, List.getD_cons_succ, stepS, mulS, e0, e1, w1, w2]
  omega
 ·rw [if_neg hz]
  have e : splitC 58 (Lib.itoa (n / 3600) ++ ([58] ++ (T2 (n / 60 % 60) ++ ([58] ++ T2 (n % 60))))) = [Lib.itoa (n / 3600), T2 (n / 60 % 60), T2 (n % 60)] := by
   rw [List.singleton_append, List.singleton_append, splitC_head 58 _ _ hI, splitC_head 58 _ _ hM, splitC_last 58 _ hS]
  rw [e]
  simp only [List.length_cons, List.length_nil, accS, List.getD_cons_zero, List.getD_cons_succ, stepS, mulS, e0, e1, e2, w1, w2, w3]
theorem rawS_eq (l : List UInt8) : rawS l = if Lib.hasPrefix l [45] = true then wrap64 (-(accS (splitC 58 (Lib.trimPrefix l [45])) (splitC 58 (Lib.trimPrefix l [45])).length)) else accS (splitC 58 (Lib.trimPrefix l [45])) (splitC 58 (Lib.trimPrefix l [45])).length := rfl
theorem rawS_span {n : Int} (h : inS n) : rawS (spanT n) = n := by
 unfold inS at h
 rw [rawS_eq]
 unfold spanT
 by_cases hn : n < 0
 ·rw [if_pos hn]
  have hp : Lib.hasPrefix (45 :: spanP (-n)) [45] = true := by simp [Lib.hasPrefix]
  have ht : Lib.trimPrefix (45 :: spanP (-n)) [45] = spanP (-n) := by simp [Lib.trimPrefix, hp]
  rw [hp, ht, pieces_spanP (by omega) (by omega)]
  simp only [if_true, Int.neg_neg]
  exact IntWalk.wrap64_in _ (by omega)
 ·rw [if_neg hn]
  have hp := span_plus (n := n) (by omega)
  have ht : Lib.trimPrefix (spanP n) [45] = spanP n := by simp [Lib.trimPrefix, hp]
  rw [hp, ht, pieces_spanP (by omega) (by omega)]
  simp
theorem spanT_len {n : Int} (h : inS n) : (spanT n).length ≤ 10 := by
 unfold inS at h
 unfold spanT
 split
 ·have := spanP_len (n := -n) (by omega) (by omega); simp; omega
 ·have := spanP_len (n := n) (by omega) (by omega); omega
theorem ReadSpan_ok (n : Int) (w : World) (h : inS n) (ht : Tab10 w) (hn : NumErrs w) (hm : MaxLen w) :
  Calls Tryz.prog 140 #[.string (txt (spanT n))] w fun e w' => e = .returned (.tuple #[.int .i64 n, .int .i64 0]) ∧ Below w.heap.size w w' := by
 have hl := spanT_len h
 refine ReadSpan_raw (spanT n) w (by omega) ht hn hm (n, 0) (.inl ?_)
 rw [rawS_span h]
 exact ⟨h.1, h.2, rfl, rfl⟩
theorem bcell' {W w1 : World} (hb : Below W.heap.size W w1) : (∀ b o, b < W.heap.size → w1.cell? ⟨b, o, none⟩ = W.cell? ⟨b, o, none⟩) ∧ (∀ b o, b < W.heap.size → w1.frozen? ⟨b, o, none⟩ = W.frozen? ⟨b, o, none⟩) :=
 ⟨fun b o h => hb.cell (p := ⟨b, o, none⟩) h, fun b o h => hb.frozen (p := ⟨b, o, none⟩) h⟩
def weekB : List UInt8 := [83, 117, 110, 77, 111, 110, 84, 117, 101, 87, 101, 100, 84, 104, 117, 70, 114, 105, 83, 97, 116]
def wordT (wd : Int) : List UInt8 := (weekB.drop (3 * wd).toNat).take 3
def dayT (k wd n : Int) : List UInt8 :=
 if k = 2 then [108, 97, 115, 116] ++ wordT wd else if k = 3 then wordT wd ++ ([62, 61] ++ Lib.itoa n) else if k = 4 then wordT wd ++ ([60, 61] ++ Lib.itoa n) else Lib.itoa n
theorem wd_cases {wd : Int} (h0 : 0 ≤ wd) (h6 : wd ≤ 6) : wd = 0 ∨ wd = 1 ∨ wd = 2 ∨ wd = 3 ∨ wd = 4 ∨ wd = 5 ∨ wd = 6 := by omega
theorem wordT_length {wd : Int} (h0 : 0 ≤ wd) (h6 : wd ≤ 6) : (wordT wd).length = 3 := by
 rcases wd_cases h0 h6 with rfl | rfl | rfl | rfl | rfl | rfl | rfl <;> rfl
theorem week_ext {wd : Int} (h0 : 0 ≤ wd) (h6 : wd ≤ 6) : (txt weekB).extract (3 * wd).toNat (3 * wd + 3).toNat = txt (wordT wd) := by
 apply ByteArray.ext
 apply Array.ext'
 rw [Lib.extract_data, txt_data, txt_data]
 unfold wordT
 rw [show (3 * wd + 3).toNat - (3 * wd).toNat = 3 by omega]
theorem itoa_31 {n : Int} (h0 : 0 ≤ n) (h1 : n ≤ 31) : (Lib.itoa n).length ≤ 2 := by
 rw [itoa_nn h0, Lib.decDigits_length]
 by_cases h : n.toNat < 10
 ·rw [Lib.nDigits_small h]; omega
 ·rw [Lib.nDigits_big h, Lib.nDigits_small (by omega)]; omega
set_option maxRecDepth 100000 in
set_option maxHeartbeats 4000000 in
theorem Text_ok (k wd n : Int) (w : World) (h0 : dayB k wd n = true) (ht : Tab10 w) :
  Calls Tryz.prog 71 #[dayV k wd n] w fun e w' => e = .returned (.tuple #[.string (txt (dayT k wd n)), .int .i64 0]) ∧ Below w.heap.size w w' := by
 have HT := Lib.hid ht
 have HCK := Lib.hid (fun W => Check_ok k wd n W h0)
 simp only [dayB, decide_eq_true_eq] at h0
 have hw0 : 0 ≤ wd := by omega
 have hw6 : wd ≤ 6 := by omega
 have hn0 : 0 ≤ n := by omega
 have hn1 : n ≤ 31 := by omega
 have hwl : (txt (wordT wd)).size = 3 := by rw [txt_size, wordT_length hw0 hw6]
 have hil : (txt (Lib.itoa n)).size ≤ 2 := by rw [txt_size]; exact itoa_31 hn0 hn1
 have hwe := week_ext hw0 hw6
 have hwk : txt weekB = ⟨#[83, 117, 110, 77, 111, 110, 84, 117, 101, 87, 101, 100, 84, 104, 117, 70, 114, 105, 83, 97, 116]⟩ := rfl
 rw [hwk] at hwe
 have hsl : ∀ W : World, (Instr.slice 9 (.string ⟨#[83, 117, 110, 77, 111, 110, 84, 117, 101, 87, 101, 100, 84, 104, 117, 70, 114, 105, 83, 97, 116]⟩) (some (.int .i64 (3 * wd))) (some (.int .i64 (3 * wd + 3))) none).run Tryz.prog W = .ok (.string (txt (wordT wd))) W := fun W => by
  rw [run_slice_string (P := Tryz.prog) W _ _ _ _ _ _ Tryz.underlying9 (by omega) (by omega) (by show 3 * wd + 3 ≤ ((21 : Nat) : Int); omega), hwe]
 have hw1 : IntKind.i64.wrap (3 * wd) = 3 * wd := by rw [IntKind.wrap_i64]; omega
 have hw2 : IntKind.i64.wrap (3 * wd + 3) = 3 * wd + 3 := by rw [IntKind.wrap_i64]; omega
 have HIT := Lib.hid (fun W hW => itoa_text n W (by omega) (by omega) hW)
 have eD : txt (dayT k wd n) = if k = 2 then ⟨#[108, 97, 115, 116]⟩ ++ txt (wordT wd) else if k = 3 then txt (wordT wd) ++ ⟨#[62, 61]⟩ ++ txt (Lib.itoa n) else if k = 4 then txt (wordT wd) ++ ⟨#[60, 61]⟩ ++ txt (Lib.itoa n) else txt (Lib.itoa n) := by
  rw [show (⟨#[108, 97, 115, 116]⟩ : ByteArray) = txt [108, 97, 115, 116] from rfl, show (⟨#[62, 61]⟩ : ByteArray) = txt [62, 61] from rfl, show (⟨#[60, 61]⟩ : ByteArray) = txt [60, 61] from rfl]
  simp only [txt_append]
  unfold dayT
  split
  ·rfl
  ·split
   ·simp
   ·split
    ·simp
    ·rfl
 rw [eD]
 clear eD hwk ht hwe
 generalize txt (wordT wd) = WD at hsl hwl
 obtain ⟨IT, eI⟩ : ∃ IT, txt (Lib.itoa n) = IT := ⟨_, rfl⟩
 rw [eI] at hil HIT
 rw [eI]
 clear eI
 have h : (k = 1 ∨ k = 2) ∨ k = 3 ∨ k = 4 := by omega
 clear h0
 rcases h with (rfl | rfl) | rfl | rfl
 ·skip
  go_enter Tryz.func71, Tryz.ntmps71
  go_wp2_with fail
  refine (HCK.out _).mono ?_
  rintro e w1 ⟨rfl, hb1⟩
  have c1 : Below w.heap.size w w1 := ((Below.refl _ w).alloc (Nat.le_refl _) _).trans (hb1.mono (by simp))
  have HC1 := Lib.hid c1
  have f1 : w1.cell? ⟨w.heap.size, 1, none⟩ = some (.int .i64 wd) := ((bcell' hb1).1 w.heap.size 1 (by simp)).trans ((cell_of_row _ _ _ _ _ _ (heap_alloc_new w _)).trans rfl)
  have f2 : w1.cell? ⟨w.heap.size, 2, none⟩ = some (.int .i64 n) := ((bcell' hb1).1 w.heap.size 2 (by simp)).trans ((cell_of_row _ _ _ _ _ _ (heap_alloc_new w _)).trans rfl)
  have f0 : w1.cell? ⟨w.heap.size, 0, none⟩ = some (.int .i64 1) := ((bcell' hb1).1 w.heap.size 0 (by simp)).trans ((cell_of_row _ _ _ _ _ _ (heap_alloc_new w _)).trans rfl)
  have hlt : w.heap.size < w1.heap.size := by have := hb1.size; simp at this; omega
  clear hb1
  go_wp2_with fail
  go_region_held3 (fun w' => w'.cell? ⟨w.heap.size, 1, none⟩ = some (.int .i64 wd) ∧ w'.cell? ⟨w.heap.size, 2, none⟩ = some (.int .i64 n))
   (first
    | go_keep
    | (exact ⟨(hb2.cell (p := ⟨w.heap.size, 1, none⟩) hlt).trans f1, (hb2.cell (p := ⟨w.heap.size, 2, none⟩) hlt).trans f2⟩))
   (first
    | (go_at_call 73; refine (HIT.out _ (Tab10.below HT.out (below_drewN' HC1.out 1))).mono ?_; rintro e w2 ⟨rfl, hb2⟩))
  have f0' : w2.cell? ⟨w.heap.size, 0, none⟩ = some (.int .i64 1) := (hb2.cell (p := ⟨w.heap.size, 0, none⟩) hlt).trans f0
  have hlt2 : w.heap.size < w2.heap.size := by have := hb2.size; simp at this; omega
  have c2 : Below w.heap.size w w2 := (below_drewN' HC1.out 1).trans (hb2.mono (by have := HC1.out.size; simpa using this))
  clear hb2 f0 f1 f2 hlt
  go_wp2
  go_ret2
  exact ⟨rfl, c2⟩
 ·skip
  go_enter Tryz.func71, Tryz.ntmps71
  go_wp2_with fail
  refine (HCK.out _).mono ?_
  rintro e w1 ⟨rfl, hb1⟩
  have c1 : Below w.heap.size w w1 := ((Below.refl _ w).alloc (Nat.le_refl _) _).trans (hb1.mono (by simp))
  have HC1 := Lib.hid c1
  have f1 : w1.cell? ⟨w.heap.size, 1, none⟩ = some (.int .i64 wd) := ((bcell' hb1).1 w.heap.size 1 (by simp)).trans ((cell_of_row _ _ _ _ _ _ (heap_alloc_new w _)).trans rfl)
  have f2 : w1.cell? ⟨w.heap.size, 2, none⟩ = some (.int .i64 n) := ((bcell' hb1).1 w.heap.size 2 (by simp)).trans ((cell_of_row _ _ _ _ _ _ (heap_alloc_new w _)).trans rfl)
  have f0 : w1.cell? ⟨w.heap.size, 0, none⟩ = some (.int .i64 2) := ((bcell' hb1).1 w.heap.size 0 (by simp)).trans ((cell_of_row _ _ _ _ _ _ (heap_alloc_new w _)).trans rfl)
  have hlt : w.heap.size < w1.heap.size := by have := hb1.size; simp at this; omega
  clear hb1
  go_wp2_with fail
  go_region_held3 (fun w' => w'.cell? ⟨w.heap.size, 1, none⟩ = some (.int .i64 wd) ∧ w'.cell? ⟨w.heap.size, 2, none⟩ = some (.int .i64 n))
   (first
    | go_keep
    | (exact ⟨(hb2.cell (p := ⟨w.heap.size, 1, none⟩) hlt).trans f1, (hb2.cell (p := ⟨w.heap.size, 2, none⟩) hlt).trans f2⟩))
   (first
    | (go_at_call 73; refine (HIT.out _ (Tab10.below HT.out (below_drewN' HC1.out 1))).mono ?_; rintro e w2 ⟨rfl, hb2⟩))
  have f0' : w2.cell? ⟨w.heap.size, 0, none⟩ = some (.int .i64 2) := (hb2.cell (p := ⟨w.heap.size, 0, none⟩) hlt).trans f0
  have hlt2 : w.heap.size < w2.heap.size := by have := hb2.size; simp at this; omega
  have c2 : Below w.heap.size w w2 := (below_drewN' HC1.out 1).trans (hb2.mono (by have := HC1.out.size; simpa using this))
  clear hb2 f0 f1 f2 hlt
  go_wp2
  go_ret2
  exact ⟨rfl, c2⟩
 ·skip
  go_enter Tryz.func71, Tryz.ntmps71
  go_wp2_with fail
  refine (HCK.out _).mono ?_
  rintro e w1 ⟨rfl, hb1⟩
  have c1 : Below w.heap.size w w1 := ((Below.refl _ w).alloc (Nat.le_refl _) _).trans (hb1.mono (by simp))
  have HC1 := Lib.hid c1
  have f1 : w1.cell? ⟨w.heap.size, 1, none⟩ = some (.int .i64 wd) := ((bcell' hb1).1 w.heap.size 1 (by simp)).trans ((cell_of_row _ _ _ _ _ _ (heap_alloc_new w _)).trans rfl)
  have f2 : w1.cell? ⟨w.heap.size, 2, none⟩ = some (.int .i64 n) := ((bcell' hb1).1 w.heap.size 2 (by simp)).trans ((cell_of_row _ _ _ _ _ _ (heap_alloc_new w _)).trans rfl)
  have f0 : w1.cell? ⟨w.heap.size, 0, none⟩ = some (.int .i64 3) := ((bcell' hb1).1 w.heap.size 0 (by simp)).trans ((cell_of_row _ _ _ _ _ _ (heap_alloc_new w _)).trans rfl)
  have hlt : w.heap.size < w1.heap.size := by have := hb1.size; simp at this; omega
  clear hb1
  go_wp2_with fail
  go_region_held3 (fun w' => w'.cell? ⟨w.heap.size, 1, none⟩ = some (.int .i64 wd) ∧ w'.cell? ⟨w.heap.size, 2, none⟩ = some (.int .i64 n))
   (first
    | go_keep
    | (exact ⟨(hb2.cell (p := ⟨w.heap.size, 1, none⟩) hlt).trans f1, (hb2.cell (p := ⟨w.heap.size, 2, none⟩) hlt).trans f2⟩))
   (first
    | (go_at_call 73; refine (HIT.out _ (Tab10.below HT.out (below_drewN' HC1.out 1))).mono ?_; rintro e w2 ⟨rfl, hb2⟩))
  have f0' : w2.cell? ⟨w.heap.size, 0, none⟩ = some (.int .i64 3) := (hb2.cell (p := ⟨w.heap.size, 0, none⟩) hlt).trans f0
  have hlt2 : w.heap.size < w2.heap.size := by have := hb2.size; simp at this; omega
  have c2 : Below w.heap.size w w2 := (below_drewN' HC1.out 1).trans (hb2.mono (by have := HC1.out.size; simpa using this))
  clear hb2 f0 f1 f2 hlt
  go_wp2
  go_ret2
  exact ⟨rfl, c2⟩
 ·skip
  go_enter Tryz.func71, Tryz.ntmps71
  go_wp2_with fail
  refine (HCK.out _).mono ?_
  rintro e w1 ⟨rfl, hb1⟩
  have c1 : Below w.heap.size w w1 := ((Below.refl _ w).alloc (Nat.le_refl _) _).trans (hb1.mono (by simp))
  have HC1 := Lib.hid c1
  have f1 : w1.cell? ⟨w.heap.size, 1, none⟩ = some (.int .i64 wd) := ((bcell' hb1).1 w.heap.size 1 (by simp)).trans ((cell_of_row _ _ _ _ _ _ (heap_alloc_new w _)).trans rfl)
  have f2 : w1.cell? ⟨w.heap.size, 2, none⟩ = some (.int .i64 n) := ((bcell' hb1).1 w.heap.size 2 (by simp)).trans ((cell_of_row _ _ _ _ _ _ (heap_alloc_new w _)).trans rfl)
  have f0 : w1.cell? ⟨w.heap.size, 0, none⟩ = some (.int .i64 4) := ((bcell' hb1).1 w.heap.size 0 (by simp)).trans ((cell_of_row _ _ _ _ _ _ (heap_alloc_new w _)).trans rfl)
  have hlt : w.heap.size < w1.heap.size := by have := hb1.size; simp at this; omega
  clear hb1
  go_wp2_with fail
  go_region_held3 (fun w' => w'.cell? ⟨w.heap.size, 1, none⟩ = some (.int .i64 wd) ∧ w'.cell? ⟨w.heap.size, 2, none⟩ = some (.int .i64 n))
   (first
    | go_keep
    | (exact ⟨(hb2.cell (p := ⟨w.heap.size, 1, none⟩) hlt).trans f1, (hb2.cell (p := ⟨w.heap.size, 2, none⟩) hlt).trans f2⟩))
   (first
    | (go_at_call 73; refine (HIT.out _ (Tab10.below HT.out (below_drewN' HC1.out 1))).mono ?_; rintro e w2 ⟨rfl, hb2⟩))
  have f0' : w2.cell? ⟨w.heap.size, 0, none⟩ = some (.int .i64 4) := (hb2.cell (p := ⟨w.heap.size, 0, none⟩) hlt).trans f0
  have hlt2 : w.heap.size < w2.heap.size := by have := hb2.size; simp at this; omega
  have c2 : Below w.heap.size w w2 := (below_drewN' HC1.out 1).trans (hb2.mono (by have := HC1.out.size; simpa using this))
  clear hb2 f0 f1 f2 hlt
  go_wp2
  go_ret2
  exact ⟨rfl, c2⟩
set_option maxHeartbeats 1000000 in
theorem Text_no (k wd n : Int) (w : World) (h0 : dayB k wd n = false) :
  Calls Tryz.prog 71 #[dayV k wd n] w fun e w' => e = .returned (.tuple #[.string ⟨#[]⟩, .int .i64 1]) ∧ Below w.heap.size w w' := by
 have HCK := Lib.hid (fun W => Check_no k wd n W h0)
 clear h0
 go_enter Tryz.func71, Tryz.ntmps71
 go_wp2_with fail
 refine (HCK.out _).mono ?_
 rintro e w1 ⟨rfl, hb1⟩
 have c1 : Below w.heap.size w w1 := ((Below.refl _ w).alloc (Nat.le_refl _) _).trans (hb1.mono (by simp))
 go_wp2
 go_ret2
 exact ⟨rfl, c1⟩
def wordsL : List ByteArray := [⟨#[83, 117, 110]⟩, ⟨#[77, 111, 110]⟩, ⟨#[84, 117, 101]⟩, ⟨#[87, 101, 100]⟩, ⟨#[84, 104, 117]⟩, ⟨#[70, 114, 105]⟩, ⟨#[83, 97, 116]⟩]
def wdayV (l : List UInt8) : Int := Lib.idxOfS wordsL (txt l)
set_option maxHeartbeats 1000000 in
theorem weekday_any (l : List UInt8) (w : World) :
  Calls Tryz.prog 178 #[.string (txt l)] w fun e w' => e = .returned (.int .i64 (wdayV l)) ∧ Below w.heap.size w w' := by
 have hI : Calls Tryz.prog 208 #[.slice (some ⟨w.heap.size, 0, none⟩) 7 7, .string (txt l)] (w.alloc (.cells #[.string ⟨#[83, 117, 110]⟩, .string ⟨#[77, 111, 110]⟩, .string ⟨#[84, 117, 101]⟩, .string ⟨#[87, 101, 100]⟩, .string ⟨#[84, 104, 117]⟩, .string ⟨#[70, 114, 105]⟩, .string ⟨#[83, 97, 116]⟩] 9)) fun e w' => e = .returned (.int .i64 (wdayV l)) ∧ w' = (w.alloc (.cells #[.string ⟨#[83, 117, 110]⟩, .string ⟨#[77, 111, 110]⟩, .string ⟨#[84, 117, 101]⟩, .string ⟨#[87, 101, 100]⟩, .string ⟨#[84, 104, 117]⟩, .string ⟨#[70, 114, 105]⟩, .string ⟨#[83, 97, 116]⟩] 9)) := by
  refine Tryz.slices_Index_string w.heap.size 0 7 7 wordsL (txt l) _ (by decide) (by decide) (fun j hj => ?_)
  rw [cell_of_row _ _ _ _ _ _ (heap_alloc_new w _)]
  have hj7 : j < 7 := hj
  rcases (by omega : j = 0 ∨ j = 1 ∨ j = 2 ∨ j = 3 ∨ j = 4 ∨ j = 5 ∨ j = 6) with rfl | rfl | rfl | rfl | rfl | rfl | rfl <;> rfl
 generalize txt l = S at hI
 obtain ⟨V, eV⟩ : ∃ V, wdayV l = V := ⟨_, rfl⟩
 rw [eV] at hI
 rw [eV]
 have HI := Lib.hid hI
 clear hI eV
 go_enter Tryz.func178, Tryz.ntmps178
 go_wp2_with fail
 refine HI.out.mono ?_
 rintro e w2 ⟨rfl, rfl⟩
 go_wp2
 go_ret
 exact ⟨rfl, (Below.refl _ _).alloc (Nat.le_refl _) _⟩
end Go.Proofs.YtomahddiclkepaaGreatDoor
namespace Go.Proofs.YtomahddiclkepaaGreatDoor
open Go.RowKit Go.Joins
open Classical
set_option linter.unusedVariables false
set_option linter.unusedSimpArgs false
def ckT (b : Int) : List UInt8 := if b = 1 then [115] else if b = 2 then [117] else []
def ruW (r : Ru) : List (List UInt8) :=
 [[114, 117, 108, 101], r.nm.data.toList, Lib.itoa r.yf, Lib.itoa r.yt, Lib.itoa r.mo, dayT r.dk r.dw r.dn, spanT r.tm ++ ckT r.ck, spanT r.sv, r.lt.data.toList]
def glue : List (List UInt8) → List UInt8
 | [] => []
 | [x] => x
 | x :: y :: r => x ++ 32 :: glue (y :: r)
def ruText (r : Ru) : List UInt8 := glue (ruW r)
theorem split_glue : ∀ (ws : List (List UInt8)), ws ≠ [] → (∀ x ∈ ws, ∀ c ∈ x, c ≠ 32) → splitC 32 (glue ws) = ws
 | [], h, _ => absurd rfl h
 | [x], _, h => splitC_last 32 x (h x (by simp))
 | x :: y :: r, _, h => by
  show splitC 32 (x ++ 32 :: glue (y :: r)) = _
  rw [splitC_head 32 x _ (h x (by simp)), split_glue (y :: r) (by simp) (fun z hz => h z (by simp only [List.mem_cons] at hz ⊢; exact Or.inr hz))]
theorem sign_ne {s : ByteArray} {most : Int} {o : ByteArray} (h : allB s most o = true) (ho : ∀ c ∈ o.data.toList, c ≠ 32) : ∀ c ∈ s.data.toList, c ≠ 32 := by
 unfold allB at h
 simp only [Bool.and_eq_true, List.all_eq_true] at h
 intro c hc e
 have := h.1.1 c hc
 subst e
 unfold signB letterB digitB at this
 simp only [Bool.or_eq_true, decide_eq_true_eq, List.contains_iff_mem] at this
 rcases this with (h | h) | h
 ·have e : ((32 : UInt8).toNat : Int) = 32 := rfl
  omega
 ·have e : ((32 : UInt8).toNat : Int) = 32 := rfl
  omega
 ·exact ho _ h rfl
end Go.Proofs.YtomahddiclkepaaGreatDoor
namespace Go.Proofs.YtomahddiclkepaaGreatDoor
open Go.RowKit Go.Joins Go.Maps
set_option linter.unusedVariables false
set_option linter.unusedSimpArgs false
theorem keyI : Keyed Tryz.prog 3 := int_keyed Tryz.underlying3
def dayS0 (l : List UInt8) : Int × Int × List UInt8 := if Lib.hasPrefix l [108, 97, 115, 116] = true then (2, wdayV (Lib.trimPrefix l [108, 97, 115, 116]), [48]) else (1, 0, l)
def dayHit (l : List UInt8) (k : Int) (sg : List UInt8) (st : Int × Int × List UInt8) : Int × Int × List UInt8 :=
 if (Lib.cut l sg).2.2 = true then (k, wdayV (Lib.cut l sg).1, (Lib.cut l sg).2.1) else st
def DayRes (l : List UInt8) (st : Int × Int × List UInt8) (R : Int × Int × Int × Int) : Prop :=
 (dayB st.1 st.2.1 (atoiV st.2.2) = true ∧ dayT st.1 st.2.1 (atoiV st.2.2) = l ∧ R = (st.1, st.2.1, atoiV st.2.2, 0)) ∨
 (dayB st.1 st.2.1 (atoiV st.2.2) = true ∧ dayT st.1 st.2.1 (atoiV st.2.2) ≠ l ∧ R = (0, 0, 0, 3)) ∨
 (dayB st.1 st.2.1 (atoiV st.2.2) = false ∧ R = (0, 0, 0, 3))
noncomputable def signsD : DataW Unit := ((DataW.map []).put (.int .i64 3) (.lit (.string [62, 61]))).put (.int .i64 4) (.lit (.string [60, 61]))
theorem signs_made (W : World) (B : Nat) (hB : W.heap.size = B) :
  ∃ W1 W2 : World, (Instr.mapUpdate 257 (.map (some B)) (.int .i64 3) (.string ⟨#[62, 61]⟩)).run Tryz.prog (W.alloc (.map #[] 0)) = .ok () W1 ∧
   (Instr.mapUpdate 257 (.map (some B)) (.int .i64 4) (.string ⟨#[60, 61]⟩)).run Tryz.prog W1 = .ok () W2 ∧
   W2.ownsMap Tryz.prog 3 (plainElem Tryz.prog 9) B 2 signsD ∧ W.grownBy W2 none := by
 subst hB
 obtain ⟨W1, r1, o1, g1⟩ := (World.ownsMap_made (H := Unit) W Tryz.prog 3 (plainElem Tryz.prog 9)).update keyI Tryz.underlying257 (by unfold maxLen; omega) (key := .int .i64 3) (val := .string ⟨#[62, 61]⟩) (keyOf_int_mk Tryz.underlying3 (by decide)) (plainElem_string Tryz.underlying9 (by decide))
 obtain ⟨W2, r2, o2, g2⟩ := o1.update keyI Tryz.underlying257 (by unfold maxLen; omega) (key := .int .i64 4) (val := .string ⟨#[60, 61]⟩) (keyOf_int_mk Tryz.underlying3 (by decide)) (plainElem_string Tryz.underlying9 (by decide))
 refine ⟨W1, W2, r1, r2, o2, ?_⟩
 exact ((World.grownBy_alloc W (.map #[] 0) none).andThen g1 (fun j hj => by cases hj; exact Or.inl (Nat.le_refl _))).andThen g2 (fun j hj => by cases hj; exact Or.inl (Nat.le_refl _))
theorem sign3 {c : ByteArray} (h : ∀ zd, signsD.atKey (.int .i64 3) zd = .lit (.string c.data.toList)) : c = ⟨#[62, 61]⟩ := by
 have h1 : signsD.atKey (.int .i64 3) .nil = .lit (.string [62, 61]) := by rfl
 have h2 := (h .nil).symm.trans h1
 injection h2 with h2
 injection h2 with h2
 exact txt_inj (a := c.data.toList) (b := [62, 61]) (by rw [h2]) ▸ rfl
theorem sign4 {c : ByteArray} (h : ∀ zd, signsD.atKey (.int .i64 4) zd = .lit (.string c.data.toList)) : c = ⟨#[60, 61]⟩ := by
 have h1 : signsD.atKey (.int .i64 4) .nil = .lit (.string [60, 61]) := by rfl
 have h2 := (h .nil).symm.trans h1
 injection h2 with h2
 injection h2 with h2
 exact txt_inj (a := c.data.toList) (b := [60, 61]) (by rw [h2]) ▸ rfl
theorem signs_has (kl : Lit) (h : Maps.has signsD kl = true) : kl = .int .i64 3 ∨ kl = .int .i64 4 := by
 have e : signsD = .map [(.int .i64 3, .lit (.string [62, 61])), (.int .i64 4, .lit (.string [60, 61]))] := by rfl
 rw [e] at h
 simp only [Maps.has, List.any_cons, List.any_nil, Bool.or_false, Bool.or_eq_true] at h
 rcases h with h | h
 ·left; cases kl <;> simp_all [Lit.sameKey]
 ·right; cases kl <;> simp_all [Lit.sameKey]
theorem signs_has3 : Maps.has signsD (.int .i64 3) = true := by rfl
theorem signs_has4 : Maps.has signsD (.int .i64 4) = true := by rfl
end Go.Proofs.YtomahddiclkepaaGreatDoor
