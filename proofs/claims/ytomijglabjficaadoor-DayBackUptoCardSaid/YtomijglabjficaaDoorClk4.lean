/- SpanOdd: its walk. -/
import Derived.Test.YtomijglabjficaaDoorClk2
import Derived.Test.YtomijglabjficaaDoorTxtMath
namespace Go.Proofs.YtomijglabjficaaDoor
open Go.RowKit Go.Joins
set_option linter.unusedVariables false
set_option linter.unusedSimpArgs false

theorem txt_arr (l : List UInt8) : (⟨l.toArray⟩ : ByteArray) = txt l := rfl
theorem lit_txt1 (a : UInt8) : (⟨#[a]⟩ : ByteArray) = txt [a] := rfl
theorem bytes_toList_txt (l : List UInt8) : (txt l).toList = l := by rw [ByteArray.toList_eq, txt_data]

theorem prefix_any (s p : List UInt8) (w : World) :
    Calls Tryd.prog 16 #[.string (txt s), .string (txt p)] w fun e w' => e = .returned (.bool (Lib.hasPrefix s p)) ∧ w' = w := by
  have := Tryd.strings_HasPrefix (txt s) (txt p) w
  rwa [txt_data, txt_data] at this

theorem spanP_len {n : Int} (h0 : 0 ≤ n) (h1 : n ≤ 604800) : (spanP n).length ≤ 9 := by
  unfold spanP
  have := itoa_len3 (n := n / 3600) (by omega) (by omega)
  simp only [List.length_append, T2_length, List.length_cons, List.length_nil]
  split <;> simp [T2_length] <;> omega

set_option maxRecDepth 100000 in
set_option maxHeartbeats 1000000 in
theorem SpanOdd_walk (n : Int) (w : World) (ht : Tab10 w) :
    Calls Tryd.prog 5 #[.int .i64 n] w fun e w' => e = .returned (.bool true) ∧ Below w.heap.size w w' := by
  have HT := Lib.hid ht
  clear ht
  have h0 : 0 ≤ n % 604800 := by omega
  have h1 : n % 604800 < 604800 := by omega
  obtain ⟨k, ek⟩ : ∃ k, n % 604800 = k := ⟨_, rfl⟩
  rw [ek] at h0 h1
  have EK := Lib.hid ek
  clear ek
  have hl := spanP_len (n := k + 1) (by omega) (by omega)
  have e1 : spanT (k + 1) = spanP (k + 1) := by unfold spanT; rw [if_neg (by omega)]
  have e2 : spanT (-(k + 1)) = 45 :: spanP (k + 1) := by unfold spanT; rw [if_pos (by omega), Int.neg_neg]
  have hp := span_plus (n := k + 1) (by omega)
  have E1 := Lib.hid e1
  have E2 := Lib.hid e2
  clear e1 e2
  go_enter Tryd.func5, Tryd.ntmps5
  go_wp2_with fail
  refine (clocked_any _ HT.out).mono ?_
  rintro e w1 ⟨rfl, hb1⟩
  go_wp2_with fail
  refine (Rest_any _ _ _ (by decide) (by decide)).mono ?_
  rw [EK.out]
  rintro e w2 ⟨rfl, rfl⟩
  go_wp2_with fail
  refine (Span_ok (k + 1) _ (by omega) (by omega) (HT.out.below hb1)).mono ?_
  rintro e w3 ⟨rfl, hb3⟩
  have c3 := hb1.trans (hb3.mono hb1.size)
  go_wp2_with fail
  refine (Span_ok (-(k + 1)) _ (by omega) (by omega) (HT.out.below c3)).mono ?_
  rintro e w4 ⟨rfl, hb4⟩
  have c4 := c3.trans (hb4.mono c3.size)
  rw [E1.out, E2.out]
  generalize hL : spanP (k + 1) = L at hl hp
  have k1 : ((txt (45 :: L)).toList == ((⟨#[45]⟩ : ByteArray) ++ txt L).toList) = true := by
    rw [lit_txt1, txt_append, bytes_toList_txt, bytes_toList_txt]; simp
  have k2 : (txt L).size ≤ 9 := by rw [txt_size]; exact hl
  obtain ⟨A, eA⟩ : ∃ A, txt L = A := ⟨_, rfl⟩
  obtain ⟨B, eB⟩ : ∃ B, txt (45 :: L) = B := ⟨_, rfl⟩
  have HA := Lib.hid eA
  rw [eA] at k1 k2
  rw [eA]
  rw [eB] at k1
  rw [eB]
  clear eA eB hL
  have hpr : ∀ W, Calls Tryd.prog 16 #[.string A, .string ⟨#[45]⟩] W fun e w' => e = .returned (.bool false) ∧ w' = W := fun W => by
    rw [← HA.out, ← hp]; exact prefix_any L [45] W
  go_wp2_with fail
  refine (hpr _).mono ?_
  rintro e w5 ⟨rfl, rfl⟩
  go_wp2
  go_ret
  exact ⟨rfl, c4⟩
end Go.Proofs.YtomijglabjficaaDoor
