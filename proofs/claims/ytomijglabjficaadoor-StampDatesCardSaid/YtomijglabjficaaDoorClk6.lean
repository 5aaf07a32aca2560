/- timeballref.Digits; StampDates: its walk. -/
import Derived.Test.YtomijglabjficaaDoorClk4
namespace Go.Proofs.YtomijglabjficaaDoor
open Go.RowKit Go.Joins
set_option linter.unusedVariables false
set_option linter.unusedSimpArgs false

set_option maxHeartbeats 1000000 in
theorem chr_any (n : Int) (w : World) (h0 : 0 ≤ n) (h1 : n < 128) :
    Calls Tryd.prog 36 #[.int .i64 n] w fun e w' => e = .returned (.string (txt [UInt8.ofNat n.toNat])) ∧ Below w.heap.size w w' := by
  have hcv : (convert 70 9 (.slice (some ⟨w.heap.size, 0, none⟩) 1 1)).run Tryd.prog (w.alloc (.cells #[.int .u8 n] 5)) = .ok (.string (strOfNums [n])) (w.alloc (.cells #[.int .u8 n] 5)) := by
    refine Lib.BytesIn.convert (xs := [n]) (fun _ => ⟨w.heap.size, 0, rfl, fun i hi => ?_⟩) rfl 1 _ 5 _ und_bytes Tryd.underlying5 (by kernel_rfl)
    have e := heap_alloc_new w (.cells #[.int .u8 n] 5)
    rw [cell_of_row _ _ _ _ _ _ e]
    have hi2 : i < 1 := hi
    have : i = 0 := by omega
    subst this
    rfl
  have hs : strOfNums [n] = txt [UInt8.ofNat n.toNat] := by simp only [strOfNums, txt, List.map_cons, List.map_nil]
  rw [hs] at hcv
  clear hs
  go_enter Tryd.func36, Tryd.ntmps36
  go_wp2
  go_ret
  exact ⟨rfl, (Below.refl _ _).alloc (Nat.le_refl _) _⟩

theorem nDig_le (u : Nat) : Lib.nDigits u ≤ u + 1 := by
  induction u using Nat.strongRecOn with
  | _ u ih =>
    by_cases h : u < 10
    · rw [Lib.nDigits_small h]; omega
    · rw [Lib.nDigits_big h]
      have := ih (u / 10) (by omega)
      omega
theorem dec_step {u : Nat} (h : ¬ u < 10) : Lib.decDigits u = Lib.decDigits (u / 10) ++ [UInt8.ofNat (48 + u % 10)] := by rw [Lib.decDigits, dif_neg h]

set_option maxHeartbeats 1000000 in
theorem Digits_nat : ∀ (u : Nat), u < 1000000 → ∀ w : World,
    Calls Tryd.prog 19 #[.int .i64 (u : Int)] w fun e w' => e = .returned (.string (txt (Lib.decDigits u))) ∧ Below w.heap.size w w' := by
  intro u
  induction u using Nat.strongRecOn with
  | _ u ih =>
    intro hu w
    by_cases h : u < 10
    · have e1 : (48 + (u : Int)).toNat = 48 + u := by omega
      rw [Lib.decDigits_one h]
      obtain ⟨c, ec⟩ : ∃ c, txt [UInt8.ofNat (48 + u)] = c := ⟨_, rfl⟩
      rw [ec]
      have EC := Lib.hid ec
      clear ec
      go_enter Tryd.func19, Tryd.ntmps19
      go_wp2_with fail
      refine (chr_any _ _ (by omega) (by omega)).mono ?_
      rw [e1, EC.out]
      rintro e w1 ⟨rfl, hb1⟩
      go_wp2
      go_ret
      exact ⟨rfl, hb1⟩
    · have e1 : (48 + (u : Int) % 10).toNat = 48 + u % 10 := by omega
      have e2 : (u : Int) / 10 = ((u / 10 : Nat) : Int) := by omega
      have hl : (txt (Lib.decDigits (u / 10))).size ≤ 1000000 := by
        rw [txt_size, Lib.decDigits_length]
        have := nDig_le (u / 10)
        omega
      have E2 := Lib.hid e2
      have hi := Lib.hid (ih (u / 10) (by omega) (by omega))
      rw [dec_step h, ← txt_append]
      have hB : (txt [UInt8.ofNat (48 + u % 10)]).size ≤ 1 := by rw [txt_size]; simp
      obtain ⟨B, eB⟩ : ∃ B, txt [UInt8.ofNat (48 + u % 10)] = B := ⟨_, rfl⟩
      rw [eB] at hB
      rw [eB]
      have EB := Lib.hid eB
      obtain ⟨A, eA⟩ : ∃ A, txt (Lib.decDigits (u / 10)) = A := ⟨_, rfl⟩
      rw [eA] at hl
      rw [eA]
      have EA := Lib.hid eA
      clear e2 ih eB eA
      go_enter Tryd.func19, Tryd.ntmps19
      go_wp2_with fail
      rw [E2.out]
      refine (hi.out _).mono ?_
      rw [EA.out]
      rintro e w1 ⟨rfl, hb1⟩
      go_wp2_with fail
      refine (chr_any _ _ (by omega) (by omega)).mono ?_
      rw [e1, EB.out]
      rintro e w2 ⟨rfl, hb2⟩
      go_wp2
      go_ret
      exact ⟨rfl, hb1.trans (hb2.mono hb1.size)⟩
theorem Digits_any (n : Int) (w : World) (h0 : 0 ≤ n) (h1 : n < 1000000) :
    Calls Tryd.prog 19 #[.int .i64 n] w fun e w' => e = .returned (.string (txt (Lib.itoa n))) ∧ Below w.heap.size w w' := by
  have := Digits_nat n.toNat (by omega) w
  rw [itoa_nn h0]
  rwa [show ((n.toNat : Nat) : Int) = n by omega] at this

theorem T2_low {h : Int} (h0 : 0 ≤ h) (h1 : h < 10) : T2 h = 48 :: Lib.itoa h := by
  rw [itoa_small h0 h1]
  unfold T2
  rw [show h / 10 = 0 by omega, show h % 10 = h by omega]
  rfl
theorem T2_high {h : Int} (h0 : 10 ≤ h) (h1 : h < 100) : T2 h = Lib.itoa h := by
  rw [itoa_nn (by omega), Lib.decDigits_two (by omega) (by omega)]
  unfold T2
  rw [show (h / 10).toNat = h.toNat / 10 by omega, show (h % 10).toNat = h.toNat % 10 by omega]
/-- hours, minutes and seconds -/
def hmsT (r : Int) : List UInt8 := T2 (r / 3600) ++ ([58] ++ (T2 (r / 60 % 60) ++ ([58] ++ T2 (r % 60))))
theorem stampT_at {y m d : Int} (hv : Civ.valid y m d) (r : Int) (h0 : 0 ≤ r) (h1 : r < 86400) :
    stampT (86400 * Civ.days y m d + r) = Lib.itoa y ++ ([45] ++ (T2 m ++ ([45] ++ (T2 d ++ ([84] ++ hmsT r))))) := by
  obtain ⟨e1, e2, e3⟩ := Civ.date_days hv (Civ.days_bd hv)
  unfold stampT hmsT
  rw [show (86400 * Civ.days y m d + r) / 86400 = Civ.days y m d by omega, show (86400 * Civ.days y m d + r) % 86400 = r by omega, e1, e2, e3]
end Go.Proofs.YtomijglabjficaaDoor
