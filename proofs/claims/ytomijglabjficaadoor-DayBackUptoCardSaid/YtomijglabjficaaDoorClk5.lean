/- SpanHours: its walk. -/
import Derived.Test.YtomijglabjficaaDoorClk4
namespace Go.Proofs.YtomijglabjficaaDoor
open Go.RowKit Go.Joins
set_option linter.unusedVariables false
set_option linter.unusedSimpArgs false

/-- internal/bytealg.MaxLen holds some number -/
def MaxLen (w : World) : Prop := ∃ m, w.cell? ⟨0, 0, none⟩ = some (.int .i64 m)
theorem MaxLen.below {w w' : World} (h : MaxLen w) (hb : Below w.heap.size w w') : MaxLen w' := by
  obtain ⟨m, hm⟩ := h
  exact ⟨m, (hb.cell (show (⟨0, 0, none⟩ : Addr).block < w.heap.size from Lib.lt_of_cell hm)).trans hm⟩
theorem below_drewN0 (w : World) (n : Nat) : Below w.heap.size w (w.drewN n) := below_drewN' (Below.refl _ _) n
theorem cut_any (s p : List UInt8) (w : World) (hs : s.length < 4294967281) (hm : MaxLen w) :
    Calls Tryd.prog 20 #[.string (txt s), .string (txt p)] w fun e w' => e = .returned (.tuple #[.string (txt (Lib.cut s p).1), .string (txt (Lib.cut s p).2.1), .bool (Lib.cut s p).2.2]) ∧ Below w.heap.size w w' := by
  obtain ⟨m, hm⟩ := hm
  have := Tryd.strings_Cut (txt s) (txt p) m w (by rw [txt_size]; exact hs) hm
  rw [txt_data, txt_data] at this
  refine this.mono ?_
  rintro e w' ⟨rfl, n, rfl⟩
  exact ⟨rfl, below_drewN0 w n⟩

theorem txt_ne {a b : List UInt8} (h : a ≠ b) : ((txt a).toList == (txt b).toList) = false := by
  rw [bytes_toList_txt, bytes_toList_txt]; simpa using h

set_option maxRecDepth 100000 in
set_option maxHeartbeats 1000000 in
theorem SpanHours_walk (n : Int) (w : World) (ht : Tab10 w) (hm : MaxLen w) :
    Calls Tryd.prog 7 #[.int .i64 n] w fun e w' => e = .returned (.bool true) ∧ Below w.heap.size w w' := by
  have HT := Lib.hid ht
  have HM := Lib.hid hm
  clear ht hm
  have h0 : 0 ≤ n % 601200 := by omega
  have h1 : n % 601200 < 601200 := by omega
  obtain ⟨k, ek⟩ : ∃ k, n % 601200 = k := ⟨_, rfl⟩
  rw [ek] at h0 h1
  have EK := Lib.hid ek
  clear ek
  have hl1 := spanP_len (n := k) (by omega) (by omega)
  have hl2 := spanP_len (n := k + 3600) (by omega) (by omega)
  have e1 : spanT k = spanP k := by unfold spanT; rw [if_neg (by omega)]
  have e2 : spanT (k + 3600) = spanP (k + 3600) := by unfold spanT; rw [if_neg (by omega)]
  have k1 := cut_span h0
  have k2 := cut_span (show 0 ≤ k + 3600 by omega)
  rw [spanR_hour] at k2
  have k3 := txt_ne (span_hour_ne h0)
  have hc1 : ∀ W, MaxLen W → Calls Tryd.prog 20 #[.string (txt (spanP k)), .string ⟨#[58]⟩] W fun e w' => e = .returned (.tuple #[.string (txt (Lib.itoa (k / 3600))), .string (txt (spanR k)), .bool true]) ∧ Below W.heap.size W w' := fun W hW => by
    have := cut_any (spanP k) [58] W (by omega) hW
    rwa [k1] at this
  have hc2 : ∀ W, MaxLen W → Calls Tryd.prog 20 #[.string (txt (spanP (k + 3600))), .string ⟨#[58]⟩] W fun e w' => e = .returned (.tuple #[.string (txt (Lib.itoa ((k + 3600) / 3600))), .string (txt (spanR k)), .bool true]) ∧ Below W.heap.size W w' := fun W hW => by
    have := cut_any (spanP (k + 3600)) [58] W (by omega) hW
    rwa [k2] at this
  have HC1 := Lib.hid hc1
  have HC2 := Lib.hid hc2
  have E1 := Lib.hid e1
  have E2 := Lib.hid e2
  clear e1 e2 k1 k2 hc1 hc2
  go_enter Tryd.func7, Tryd.ntmps7
  go_wp2_with fail
  refine (clocked_any _ HT.out).mono ?_
  rintro e w1 ⟨rfl, hb1⟩
  go_wp2_with fail
  refine (Rest_any _ _ _ (by decide) (by decide)).mono ?_
  rw [EK.out]
  rintro e w2 ⟨rfl, rfl⟩
  go_wp2_with fail
  refine (Span_ok k _ (by omega) (by omega) (HT.out.below hb1)).mono ?_
  rintro e w3 ⟨rfl, hb3⟩
  have c3 := hb1.trans (hb3.mono hb1.size)
  go_wp2_with fail
  refine (Span_ok (k + 3600) _ (by omega) (by omega) (HT.out.below c3)).mono ?_
  rintro e w4 ⟨rfl, hb4⟩
  have c4 := c3.trans (hb4.mono c3.size)
  rw [E1.out, E2.out]
  go_wp2_with fail
  refine (HC1.out _ (HM.out.below c4)).mono ?_
  rintro e w5 ⟨rfl, hb5⟩
  have c5 := c4.trans (hb5.mono c4.size)
  go_wp2_with fail
  refine (HC2.out _ (HM.out.below c5)).mono ?_
  rintro e w6 ⟨rfl, hb6⟩
  have c6 := c5.trans (hb6.mono c5.size)
  generalize txt (spanP k) = A at k3
  generalize txt (spanP (k + 3600)) = B at k3
  go_wp2
  go_ret
  exact ⟨rfl, c6⟩
end Go.Proofs.YtomijglabjficaaDoor
