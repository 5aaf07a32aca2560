/- strings.Split at one letter; clock.ReadSpan: what it returns. -/
import Derived.Test.YtfocdcdggidboaaGreatDoorAtoi
import Derived.Test.YtfocdcdggidboaaGreatDoorSplMath
import Derived.Test.YtfocdcdggidboaaGreatDoorClk5a
namespace Go.Proofs.YtfocdcdggidboaaGreatDoor
open Go.RowKit Go.Joins
set_option linter.unusedVariables false
set_option linter.unusedSimpArgs false

theorem splitC_any (c : UInt8) (l : List UInt8) (w : World) (hl : l.length < 4294967281) (hm : MaxLen w) :
    Calls Tryz.prog 12 #[.string (txt l), .string (txt [c])] w fun e w' => ∃ A, e = .returned (.slice (some ⟨A, 0, none⟩) (splitC c l).length (splitC c l).length) ∧ w.heap.size ≤ A ∧ A < w'.heap.size ∧
      (∀ j (h : j < (splitC c l).length), w'.cell? ⟨A, j, none⟩ = some (.string (txt ((splitC c l)[j]'h)))) ∧ Below w.heap.size w w' := by
  obtain ⟨m, hm⟩ := hm
  have hn : (splitC c l).length = Lib.countB (txt l) (txt [c]) + 1 := by
    rw [splitC_length]; unfold Lib.countB; rw [txt_data, txt_data, Lib.count_one]
  refine (Tryz.strings_Split (txt l) (txt [c]) m w (by rw [txt_size]; exact hl) hm (by rw [txt_size]; simp)).mono ?_
  rintro e w' ⟨rfl, rfl⟩
  rw [splitB_one]
  refine ⟨w.heap.size, by rw [hn], Nat.le_refl _, by simp, ?_, (Below.refl _ _).alloc (Nat.le_refl _) _⟩
  intro j h
  rw [cell_of_row _ _ _ _ _ _ (heap_alloc_new w _)]
  simp [h]

theorem cutPrefix_any (l p : List UInt8) (w : World) :
    Calls Tryz.prog 27 #[.string (txt l), .string (txt p)] w fun e w' => e = .returned (.tuple #[.string (txt (Lib.trimPrefix l p)), .bool (Lib.hasPrefix l p)]) ∧ w' = w := by
  have := Tryz.strings_CutPrefix (txt l) (txt p) w
  rwa [txt_data, txt_data] at this

theorem Span_no (n : Int) (w : World) (h : n < -604800 ∨ 604800 < n) :
    Calls Tryz.prog 32 #[.int .i64 n] w fun e w' => e = .returned (.tuple #[.string ⟨#[]⟩, .int .i64 1]) ∧ Below w.heap.size w w' := by
  rcases h with h | h
  · go_enter Tryz.func32, Tryz.ntmps32
    go_wp2
    go_ret2
    exact ⟨rfl, Below.refl _ _⟩
  · have h1 : ¬ n < -604800 := by omega
    go_enter Tryz.func32, Tryz.ntmps32
    go_wp2
    go_ret2
    exact ⟨rfl, Below.refl _ _⟩

def mulS : Nat → Int
  | 0 => 3600
  | 1 => 60
  | 2 => 1
  | _ => 0
def stepS (a v : Int) (k : Nat) : Int := wrap64 (a + wrap64 (min v 1000 * mulS k))
def accS (L : List (List UInt8)) : Nat → Int
  | 0 => 0
  | k + 1 => stepS (accS L k) (atoiV (L.getD k [])) k
/-- what a span's text is read as, ahead of the test -/
def rawS (l : List UInt8) : Int :=
  let L := splitC 58 (Lib.trimPrefix l [45])
  let v := accS L L.length
  if Lib.hasPrefix l [45] = true then wrap64 (-v) else v

set_option maxRecDepth 100000 in
set_option maxHeartbeats 2000000 in
theorem ReadSpan_raw (l : List UInt8) (w : World) (hl : l.length < 4294967281) (ht : Tab10 w) (hn : NumErrs w) (hm : MaxLen w) (R : Int × Int)
    (hR : (-604800 ≤ rawS l ∧ rawS l ≤ 604800 ∧ spanT (rawS l) = l ∧ R = (rawS l, 0)) ∨ (-604800 ≤ rawS l ∧ rawS l ≤ 604800 ∧ spanT (rawS l) ≠ l ∧ R = (0, 3)) ∨ ((rawS l < -604800 ∨ 604800 < rawS l) ∧ R = (0, 3))) :
    Calls Tryz.prog 16 #[.string (txt l)] w fun e w' => e = .returned (.tuple #[.int .i64 R.1, .int .i64 R.2]) ∧ Below w.heap.size w w' := by
  have HT := Lib.hid ht
  have HN := Lib.hid hn
  have HM := Lib.hid hm
  have hk1 : (Lib.trimPrefix l [45]).length < 4294967281 := by have := Lib.trimPrefix_le l [45]; omega
  have HCP := Lib.hid (fun W => cutPrefix_any l [45] W)
  have HSP := Lib.hid (fun W hW => splitC_any 58 (Lib.trimPrefix l [45]) W hk1 hW)
  have hsm : ∀ x ∈ splitC 58 (Lib.trimPrefix l [45]), x.length ≤ 281474976710656 := fun x hx => by
    have := splitC_small 58 _ x hx
    omega
  have hLb : (splitC 58 (Lib.trimPrefix l [45])).length < 4294967290 := by
    rw [splitC_length]
    have := List.count_le_length (a := 58) (l := Lib.trimPrefix l [45])
    omega
  have eRaw : rawS l = if Lib.hasPrefix l [45] = true then wrap64 (-(accS (splitC 58 (Lib.trimPrefix l [45])) (splitC 58 (Lib.trimPrefix l [45])).length)) else accS (splitC 58 (Lib.trimPrefix l [45])) (splitC 58 (Lib.trimPrefix l [45])).length := rfl
  rw [show (txt [45] : ByteArray) = ⟨#[45]⟩ from rfl] at HCP
  rw [show (txt [58] : ByteArray) = ⟨#[58]⟩ from rfl] at HSP
  obtain ⟨r, er⟩ : ∃ r, rawS l = r := ⟨_, rfl⟩
  rw [er] at eRaw hR
  have HER := Lib.hid eRaw
  obtain ⟨S, eS⟩ : ∃ S, txt l = S := ⟨_, rfl⟩
  rw [eS] at HCP ⊢
  have ES := Lib.hid eS
  have hLne := splitC_ne 58 (Lib.trimPrefix l [45])
  clear ht hn hm hk1 eRaw er eS hl
  generalize Lib.hasPrefix l [45] = neg at HCP HER
  generalize txt (Lib.trimPrefix l [45]) = T at HCP HSP
  generalize splitC 58 (Lib.trimPrefix l [45]) = L at HSP hsm HER hLne hLb
  go_enter Tryz.func16, Tryz.ntmps16
  go_wp2_with fail
  refine (HCP.out _).mono ?_
  rintro e w1 ⟨rfl, rfl⟩
  go_wp2_with fail
  refine (HSP.out _ HM.out).mono ?_
  rintro e w1 ⟨A, rfl, hA, hA2, hc, hb⟩
  have HC := Lib.hid hc
  clear hc
  go_wp2_with fail
  go_loopw [6, 21] (fun n i wr => ∃ k : Nat, k ≤ L.length ∧ i = .int .i64 k ∧ n = .int .i64 (accS L k) ∧ Below w1.heap.size w1 wr) (fun _ i _ => L.length - (intOf i).toNat)
  case atStart => exact ⟨0, by omega, by go_num, rfl, Below.refl _ _⟩
  case round =>
    obtain ⟨k, hk, rfl, rfl, hbw⟩ := hrel
    have HBW := Lib.hid hbw
    have hA3 : A < wr.heap.size := by have := hbw.size; omega
    clear hbw
    by_cases hkL : k < L.length
    · have cA := (HBW.out.cell (p := ⟨A, k, none⟩) hA2).trans (HC.out k hkL)
      have hsk := hsm (L[k]'hkL) (List.getElem_mem _)
      have ex0 : accS L (k + 1) = stepS (accS L k) (atoiV (L[k]'hkL)) k := by
        show stepS _ _ _ = _
        rw [List.getD_eq_getElem?_getD, List.getElem?_eq_getElem hkL]; rfl
      obtain ⟨x, ex⟩ : ∃ x, L[k]'hkL = x := ⟨_, rfl⟩
      rw [ex] at cA hsk ex0
      have EX0 := Lib.hid ex0
      clear ex ex0 hR
      go_wp2_with fail
      refine (Atoi_any x _ hsk (HN.out.below (hb.trans (HBW.out.mono hb.size)))).mono ?_
      obtain ⟨v, ev⟩ : ∃ v, atoiV x = v := ⟨_, rfl⟩
      have hv := atoiV_bd x
      rw [ev] at hv
      rw [ev]
      rw [ev] at EX0
      clear ev
      generalize accS L k = a at EX0
      rintro e w2 ⟨er, rfl, hb2, -⟩
      have HBX := Lib.hid (HBW.out.trans (hb2.mono HBW.out.size))
      have hcell : (w2.alloc (.cells #[.int .i64 3600, .int .i64 60, .int .i64 1, .int .i64 0] 3)).cell? ⟨w2.heap.size, (min (k : Int) 3).toNat, none⟩ = some (.int .i64 (mulS k)) := by
        rw [cell_of_row _ _ _ _ _ _ (heap_alloc_new w2 _)]
        rcases (by omega : k = 0 ∨ k = 1 ∨ k = 2 ∨ 3 ≤ k) with rfl | rfl | rfl | hk3
        · rfl
        · rfl
        · rfl
        · rw [show (min (k : Int) 3).toNat = 3 by omega]
          obtain ⟨j, rfl⟩ : ∃ j, k = j + 3 := ⟨k - 3, by omega⟩
          rfl
      obtain ⟨mu, emu⟩ : ∃ mu, mulS k = mu := ⟨_, rfl⟩
      have EX1 : Hid (accS L (k + 1) = wrap64 (a + wrap64 (min v 1000 * mu))) := by
        show _ = _
        rw [EX0.out, ← emu]; rfl
      rw [emu] at hcell
      clear EX0 emu
      go_wp2
      go_roundw
      case rel => exact ⟨k + 1, by omega, by go_num, by rw [EX1.out], HBX.out.alloc HBX.out.size _⟩
      case measure => simp [intOf]; omega
    · obtain rfl : k = L.length := by omega
      have HBA := Lib.hid (hb.trans (HBW.out.mono hb.size))
      cases neg
      · have e := HER.out
        simp only [Bool.false_eq_true, if_false] at e
        rw [← e]
        clear e
        go_wp2_with fail
        rcases hR with ⟨t1, t2, t3, rfl⟩ | ⟨t1, t2, t3, rfl⟩ | ⟨t1, rfl⟩
        · refine (Span_ok r _ t1 t2 (HT.out.below HBA.out)).mono ?_
          rw [t3, ES.out]
          rintro e w3 ⟨rfl, hb3⟩
          clear t3
          go_wp2
          go_ret2
          exact ⟨rfl, HBA.out.trans (hb3.mono HBA.out.size)⟩
        · refine (Span_ok r _ t1 t2 (HT.out.below HBA.out)).mono ?_
          have hne : ((txt (spanT r)).toList == S.toList) = false := by
            rw [← ES.out]; exact txt_ne t3
          generalize txt (spanT r) = U at hne
          rintro e w3 ⟨rfl, hb3⟩
          clear t3
          go_wp2
          go_ret2
          exact ⟨rfl, HBA.out.trans (hb3.mono HBA.out.size)⟩
        · refine (Span_no r _ t1).mono ?_
          rintro e w3 ⟨rfl, hb3⟩
          clear t1
          go_wp2
          go_ret2
          exact ⟨rfl, HBA.out.trans (hb3.mono HBA.out.size)⟩
      · have e := Lib.hid HER.out
        simp only [if_true] at e
        go_wp2_with fail
        rw [← e.out]
        clear e
        rcases hR with ⟨t1, t2, t3, rfl⟩ | ⟨t1, t2, t3, rfl⟩ | ⟨t1, rfl⟩
        · refine (Span_ok r _ t1 t2 (HT.out.below HBA.out)).mono ?_
          rw [t3, ES.out]
          rintro e w3 ⟨rfl, hb3⟩
          clear t3
          go_wp2
          go_ret2
          exact ⟨rfl, HBA.out.trans (hb3.mono HBA.out.size)⟩
        · refine (Span_ok r _ t1 t2 (HT.out.below HBA.out)).mono ?_
          have hne : ((txt (spanT r)).toList == S.toList) = false := by
            rw [← ES.out]; exact txt_ne t3
          generalize txt (spanT r) = U at hne
          rintro e w3 ⟨rfl, hb3⟩
          clear t3
          go_wp2
          go_ret2
          exact ⟨rfl, HBA.out.trans (hb3.mono HBA.out.size)⟩
        · refine (Span_no r _ t1).mono ?_
          rintro e w3 ⟨rfl, hb3⟩
          clear t1
          go_wp2
          go_ret2
          exact ⟨rfl, HBA.out.trans (hb3.mono HBA.out.size)⟩

def inS (n : Int) : Prop := -604800 ≤ n ∧ n ≤ 604800
theorem ReadSpan_no (l : List UInt8) (w : World) (hl : l.length < 4294967281) (hno : ∀ n, inS n → spanT n ≠ l) (ht : Tab10 w) (hn : NumErrs w) (hm : MaxLen w) :
    Calls Tryz.prog 16 #[.string (txt l)] w fun e w' => e = .returned (.tuple #[.int .i64 0, .int .i64 3]) ∧ Below w.heap.size w w' := by
  refine ReadSpan_raw l w hl ht hn hm (0, 3) ?_
  by_cases h : inS (rawS l)
  · exact .inr (.inl ⟨h.1, h.2, hno _ h, rfl⟩)
  · exact .inr (.inr ⟨by unfold inS at h; omega, rfl⟩)

theorem pieces_spanP {n : Int} (h0 : 0 ≤ n) (h1 : n ≤ 604800) : accS (splitC 58 (spanP n)) (splitC 58 (spanP n)).length = n := by
  have hd : ∀ l : List UInt8, (∀ c ∈ l, isDg c) → ∀ c ∈ l, c ≠ 58 := fun l h c hc => dg_ne (h c hc) 58 (by decide)
  have hI := hd _ (itoa_dg (show 0 ≤ n / 3600 by omega))
  have hM := hd _ (T2_dg (show 0 ≤ n / 60 % 60 by omega) (by omega))
  have hS := hd _ (T2_dg (show 0 ≤ n % 60 by omega) (by omega))
  have e0 : atoiV (Lib.itoa (n / 3600)) = n / 3600 := atoiV_itoa (by omega) (by omega)
  have e1 : atoiV (T2 (n / 60 % 60)) = n / 60 % 60 := atoiV_T2 (by omega) (by omega)
  have e2 : atoiV (T2 (n % 60)) = n % 60 := atoiV_T2 (by omega) (by omega)
  have w1 : wrap64 (0 + wrap64 (min (n / 3600) 1000 * 3600)) = n / 3600 * 3600 := by
    rw [Int.min_eq_left (by omega), IntWalk.wrap64_in (n / 3600 * 3600) (by omega), IntWalk.wrap64_in _ (by omega)]; omega
  have w2 : wrap64 (n / 3600 * 3600 + wrap64 (min (n / 60 % 60) 1000 * 60)) = n / 3600 * 3600 + n / 60 % 60 * 60 := by
    rw [Int.min_eq_left (by omega), IntWalk.wrap64_in (n / 60 % 60 * 60) (by omega), IntWalk.wrap64_in _ (by omega)]
  have w3 : wrap64 (n / 3600 * 3600 + n / 60 % 60 * 60 + wrap64 (min (n % 60) 1000 * 1)) = n := by
    rw [Int.min_eq_left (by omega), IntWalk.wrap64_in (n % 60 * 1) (by omega), IntWalk.wrap64_in _ (by omega)]; omega
  unfold spanP
  by_cases hz : n % 60 = 0
  · rw [if_pos hz, List.append_nil]
    have e : splitC 58 (Lib.itoa (n / 3600) ++ ([58] ++ T2 (n / 60 % 60))) = [Lib.itoa (n / 3600), T2 (n / 60 % 60)] := by
      rw [List.singleton_append, splitC_head 58 _ _ hI, splitC_last 58 _ hM]
    rw [e]
    simp only [List.length_cons, List.length_nil, accS, List.getD_cons_zero, List.getD_cons_succ, stepS, mulS, e0, e1, w1, w2]
    omega
  · rw [if_neg hz]
    have e : splitC 58 (Lib.itoa (n / 3600) ++ ([58] ++ (T2 (n / 60 % 60) ++ ([58] ++ T2 (n % 60))))) = [Lib.itoa (n / 3600), T2 (n / 60 % 60), T2 (n % 60)] := by
      rw [List.singleton_append, List.singleton_append, splitC_head 58 _ _ hI, splitC_head 58 _ _ hM, splitC_last 58 _ hS]
    rw [e]
    simp only [List.length_cons, List.length_nil, accS, List.getD_cons_zero, List.getD_cons_succ, stepS, mulS, e0, e1, e2, w1, w2, w3]
theorem rawS_eq (l : List UInt8) : rawS l = if Lib.hasPrefix l [45] = true then wrap64 (-(accS (splitC 58 (Lib.trimPrefix l [45])) (splitC 58 (Lib.trimPrefix l [45])).length)) else accS (splitC 58 (Lib.trimPrefix l [45])) (splitC 58 (Lib.trimPrefix l [45])).length := rfl
theorem rawS_span {n : Int} (h : inS n) : rawS (spanT n) = n := by
  unfold inS at h
  rw [rawS_eq]
  unfold spanT
  by_cases hn : n < 0
  · rw [if_pos hn]
    have hp : Lib.hasPrefix (45 :: spanP (-n)) [45] = true := by simp [Lib.hasPrefix]
    have ht : Lib.trimPrefix (45 :: spanP (-n)) [45] = spanP (-n) := by simp [Lib.trimPrefix, hp]
    rw [hp, ht, pieces_spanP (by omega) (by omega)]
    simp only [if_true, Int.neg_neg]
    exact IntWalk.wrap64_in _ (by omega)
  · rw [if_neg hn]
    have hp := span_plus (n := n) (by omega)
    have ht : Lib.trimPrefix (spanP n) [45] = spanP n := by simp [Lib.trimPrefix, hp]
    rw [hp, ht, pieces_spanP (by omega) (by omega)]
    simp
theorem spanT_len {n : Int} (h : inS n) : (spanT n).length ≤ 10 := by
  unfold inS at h
  unfold spanT
  split
  · have := spanP_len (n := -n) (by omega) (by omega); simp; omega
  · have := spanP_len (n := n) (by omega) (by omega); omega
theorem ReadSpan_ok (n : Int) (w : World) (h : inS n) (ht : Tab10 w) (hn : NumErrs w) (hm : MaxLen w) :
    Calls Tryz.prog 16 #[.string (txt (spanT n))] w fun e w' => e = .returned (.tuple #[.int .i64 n, .int .i64 0]) ∧ Below w.heap.size w w' := by
  have hl := spanT_len h
  refine ReadSpan_raw (spanT n) w (by omega) ht hn hm (n, 0) (.inl ?_)
  rw [rawS_span h]
  exact ⟨h.1, h.2, rfl, rfl⟩
end Go.Proofs.YtfocdcdggidboaaGreatDoor
