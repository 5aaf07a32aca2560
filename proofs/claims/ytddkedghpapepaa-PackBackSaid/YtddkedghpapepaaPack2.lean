/- pack.Pack of any table; packed(); PackSize: its walk. -/
import Derived.Test.YtddkedghpapepaaPack1
import Derived.Test.YtddkedghpapepaaWalled
namespace Go.Proofs.Ytddkedghpapepaa
open Go.RowKit
set_option linter.unusedVariables false
set_option linter.unusedSimpArgs false

set_option maxRecDepth 100000 in
theorem Pack_bad (t : Tab) (v : Value) (w : World) (hv : TabAt w v t) (h : chk t ≠ 0) :
    Calls Try.prog 13 #[v] w fun e w' => e = .returned (.tuple #[.slice none 0 0, .int .i64 (chk t)]) ∧ Below w.heap.size w w' := by
  obtain ⟨sv, cv, rfl⟩ := hv.parts
  have hB : Below w.heap.size w (w.alloc (.cells #[sv, .int .i64 t.first, cv] 25)) := (Below.refl _ _).alloc (Nat.le_refl _) _
  have HCC := Lib.hid (Check_any t _ _ (hv.below hB))
  have HB := Lib.hid hB
  obtain ⟨R, eR⟩ : ∃ R : Int, chk t = R := ⟨_, rfl⟩
  rw [eR] at HCC h ⊢
  have hne : (R == 0) = false := by simpa using h
  clear hv hB eR h
  go_enter Try.func13, Try.ntmps13
  go_wp2_with fail
  refine HCC.out.mono ?_
  rintro e w1 ⟨rfl, hb1⟩
  go_wp2
  go_ret2
  exact ⟨rfl, HB.out.trans (hb1.mono HB.out.size)⟩

theorem samT_enc : enc samT = [84, 90, 98, 49, 2, 0, 0, 2, 128, 0, 0, 0, 0, 1, 65, 128, 0, 14, 16, 0, 1, 66, 128, 0, 0, 0, 0, 0, 39, 16, 1, 128, 0, 0, 0, 0, 0, 78, 32, 0] := by decide +kernel
theorem samT_chk : chk samT = 0 := by decide

/-- a row of bytes that is not empty -/
theorem BRow.form {w : World} {B : Nat} {v : Value} {l : List Int} (h : BRow w B v l) : ∃ p cap, v = .slice p l.length cap ∧ (l ≠ [] → ∃ g, p = some ⟨g, 0, none⟩ ∧ g < w.heap.size ∧ B ≤ g ∧ ∀ i (hi : i < l.length), w.cell? ⟨g, i, none⟩ = some (.int .u8 l[i])) := by
  rcases h.2 with ⟨rfl, h0⟩ | ⟨g, cap, cur, rfl, hb, hg, hn, hm, hs, ht⟩
  · have : l = [] := List.eq_nil_of_length_eq_zero h0
    subst this
    exact ⟨none, 0, rfl, fun h => absurd rfl h⟩
  · refine ⟨_, cap, rfl, fun _ => ⟨g, rfl, (Array.getElem?_eq_some_iff.1 hg).1, hb, fun i hi => ?_⟩⟩
    rw [cell_of_row w g i cur _ (0, 0) hg]
    have e : (cur.toList.take (l.length * 1))[i]? = (bts l)[i]? := by rw [ht]
    rw [List.getElem?_take] at e
    rw [if_pos (by omega)] at e
    simp only [Array.getElem?_toList] at e
    rw [e]
    simp [bts, hi]

set_option maxRecDepth 100000 in
set_option maxHeartbeats 1000000 in
theorem packed_any (w : World) :
    Calls Try.prog 12 #[] w fun e w' => e = .returned (.bool true) ∧ Below w.heap.size w w' := by
  go_enter Try.func12, Try.ntmps12
  go_wp2_with fail
  refine (sample_any _).mono ?_
  rintro e w1 ⟨v1, rfl, ht1, hb1⟩
  go_wp2_with fail
  refine (Pack_ok samT v1 w1 ht1 samT_chk).mono ?_
  rintro e w2 ⟨u, rfl, hr, hb2⟩
  obtain ⟨p, cap, rfl, hp⟩ := hr.form
  obtain ⟨g, rfl, hg, _, hc⟩ := hp (by rw [samT_enc]; simp)
  have h4 := hc 4 (by rw [samT_enc]; decide)
  have e4 : (enc samT)[4]'(by rw [samT_enc]; decide) = 2 := by simp [samT_enc]
  rw [e4] at h4
  have el : (enc samT).length = 40 := by rw [samT_enc]; rfl
  rw [el]
  have HB := Lib.hid (hb1.trans (hb2.mono hb1.size))
  clear hc hp hr ht1 hb1 hb2 e4 el
  go_wp2
  go_ret
  exact ⟨rfl, HB.out⟩

theorem nameSum_succ (l : List Ty) (k : Nat) (h : k < l.length) : nameSum (l.take (k + 1)) = nameSum (l.take k) + l[k].name.size := by
  unfold nameSum
  rw [List.take_succ_eq_append_getElem h, List.map_append, List.sum_append]
  simp

set_option maxRecDepth 100000 in
set_option maxHeartbeats 2000000 in
theorem PackSize_walk (t : Tab) (v : Value) (w : World) (hv : TabAt w v t) :
    Calls Try.prog 3 #[v] w fun e w' => e = .returned (.bool true) ∧ Below w.heap.size w w' := by
  obtain ⟨sv, cv, rfl, hsv, hcv⟩ := hv.val
  obtain ⟨ps, caps, rfl, hs⟩ := hsv.shape
  obtain ⟨pc, capc, rfl, hc⟩ := hcv.shape
  have hB : Below w.heap.size w (w.alloc (.cells #[.slice ps t.types.length caps, .int .i64 t.first, .slice pc t.chs.length capc] 25)) := (Below.refl _ _).alloc (Nat.le_refl _) _
  have HV := Lib.hid hv
  have HB := Lib.hid hB
  have HS := Lib.hid hs
  clear hv hB hsv hcv hs hc
  go_enter Try.func3, Try.ntmps3
  go_wp2_with fail
  refine (packed_any _).mono ?_
  rintro e w1 ⟨rfl, hb1⟩
  rw [World.size_alloc] at hb1
  have c0 := (hb1.cell (p := ⟨w.heap.size, 0, none⟩) (by show w.heap.size < _; omega))
  have c1 := (hb1.cell (p := ⟨w.heap.size, 1, none⟩) (by show w.heap.size < _; omega))
  have c2 := (hb1.cell (p := ⟨w.heap.size, 2, none⟩) (by show w.heap.size < _; omega))
  simp [go_sem] at c0 c1 c2
  have hl0 : w.heap.size < w1.heap.size := by have := hb1.size; simp at this; omega
  have HB1 := Lib.hid (HB.out.trans (hb1.mono (by omega)))
  clear hb1
  go_wp2_with fail
  by_cases hk : chk t = 0
  · refine (Pack_ok t _ _ (HV.out.below HB1.out) hk).mono ?_
    rintro e w2 ⟨u, rfl, hr, hb2⟩
    have ok := chk_ok t hk
    have hel := enc_length t
    have hes := enc_small t ok
    obtain ⟨p, cap, rfl, -⟩ := hr.form
    obtain ⟨NL, hNL⟩ : ∃ NL : Nat, (enc t).length = NL := ⟨_, rfl⟩
    rw [hNL] at hel hes ⊢
    have hns := nameSum_le t.types fun x hx => name_small x (ok.type x hx).2.2
    have hmany := ok.many
    have hchs := ok.chs
    have HNS : Hid (∀ k, nameSum (t.types.take k) ≤ 2000) := by
      intro k
      have h1 := nameSum_le (t.types.take k) fun x hx => name_small x (ok.type x (List.mem_of_mem_take hx)).2.2
      rw [List.length_take] at h1
      omega
    obtain ⟨b, o, rfl, hbl, hty⟩ := HS.out ok.ne
    have d0 := (hb2.cell (p := ⟨w.heap.size, 0, none⟩) hl0).trans c0
    have d1 := (hb2.cell (p := ⟨w.heap.size, 1, none⟩) hl0).trans c1
    have d2 := (hb2.cell (p := ⟨w.heap.size, 2, none⟩) hl0).trans c2
    have HTY := Lib.hid hty
    have HEL := Lib.hid hel
    have HB2 := Lib.hid (HB1.out.trans (hb2.mono HB1.out.size))
    have HSM := Lib.hid (fun x (hx : x ∈ t.types) => name_small x (ok.type x hx).2.2)
    clear hb2 c0 c1 c2 hr hk ok hel hNL hns hty HS HV
    go_wp2_with fail
    go_loopw [5, 30] (fun s5 s30 wr => ∃ k : Nat, k ≤ t.types.length ∧ s30 = .int .i64 k ∧ s5 = .int .i64 (8 + 6 * (t.types.length : Int) + 9 * (t.chs.length : Int) + (nameSum (t.types.take k) : Int)) ∧ Below w.heap.size w wr) (fun _ s30 _ => t.types.length - (intOf s30).toNat)
    case atStart => exact ⟨0, Nat.zero_le _, rfl, by simp [nameSum], HB2.out⟩
    case round =>
      obtain ⟨k, hk, rfl, rfl, hbel⟩ := hrel
      have hnk := HNS.out k
      have HBL := Lib.hid hbel
      obtain ⟨NS, eNS⟩ : ∃ NS : Nat, nameSum (t.types.take k) = NS := ⟨_, rfl⟩
      rw [eNS] at hnk ⊢
      have ENS := Lib.hid eNS
      clear hbel eNS
      by_cases hlt : k < t.types.length
      · obtain ⟨x, ex⟩ : ∃ x, t.types[k] = x := ⟨_, rfl⟩
        have hat := (HTY.out k hlt).below HBL.out hbl
        have hx := HSM.out _ (List.getElem_mem hlt)
        rw [ex] at hat hx
        have HNX : Hid (nameSum (t.types.take (k + 1)) = NS + x.name.size) := by
          show _ = _
          rw [nameSum_succ _ k hlt, ex, ENS.out]
        obtain ⟨c0, c1, c2⟩ := hat
        clear ex
        go_wp2
        go_roundw
        case rel => exact ⟨k + 1, by omega, by go_num, by rw [HNX.out]; go_num, HBL.out.alloc HBL.out.size _⟩
        case measure => simp [intOf]; omega
      · obtain rfl : k = t.types.length := by omega
        rw [List.take_length] at ENS
        have he : (NL : Int) = 8 + 6 * (t.types.length : Int) + 9 * (t.chs.length : Int) + (NS : Int) := by
          have h1 := HEL.out
          rw [ENS.out] at h1
          omega
        have hE : ((NL : Int) == 8 + 6 * (t.types.length : Int) + 9 * (t.chs.length : Int) + (NS : Int)) = true := by simpa using he
        clear he
        go_wp2
        go_ret
        exact ⟨ret_bool' (by first | rfl | exact hE), HBL.out⟩
  · refine (Pack_bad t _ _ (HV.out.below HB1.out) hk).mono ?_
    obtain ⟨R, eR⟩ : ∃ R : Int, chk t = R := ⟨_, rfl⟩
    rw [eR] at hk ⊢
    have hne : (R == 0) = false := by simpa using hk
    rintro e w2 ⟨rfl, hb2⟩
    have HB2 := Lib.hid (HB1.out.trans (hb2.mono HB1.out.size))
    clear hk eR hb2
    go_wp2
    go_ret
    exact ⟨rfl, HB2.out⟩
end Go.Proofs.Ytddkedghpapepaa
