/- The reference's Eq of spans (a span's two cells as those of a change). -/
import Derived.Test.YteoliifghhlinaaMk7
namespace Go.Proofs.Yteoliifghhlinaa
open Go.RowKit Go.Joins
open Classical
set_option linter.unusedVariables false
set_option linter.unusedSimpArgs false

theorem fieldsSpN : (Try.prog.fieldsOf 29).toList = [{ name := "From", type := 3, offset := 0, embedded := false, tag := "", pkgPath := "", byteOffset := 0 }, { name := "To", type := 3, offset := 1, embedded := false, tag := "", pkgPath := "", byteOffset := 8 }] := by kernel_rfl
theorem agg_spN : Try.prog.underlying 29 = some (.struct (Try.prog.fieldsOf 29)) := by kernel_rfl
theorem stood_spN : Try.prog.stoodInHeld 29 = false := by kernel_rfl
theorem neq_spN (x y : Ch) (W : World) : (binOp .neq 29 (.agg #[.int .i64 x.t, .int .i64 x.k]) (.agg #[.int .i64 y.t, .int .i64 y.k])).run Try.prog W = .ok (.bool (!decide (x = y))) W := by
  rw [run_neq_struct, run_equalIn_agg W 9999 _ _ _ agg_spN stood_spN, fieldsSpN]
  by_cases h1 : x.t = y.t
  · by_cases h2 : x.k = y.k
    · have e : x = y := ch_eq.2 ⟨h1, h2⟩
      simp [go_sem, Op.eqFields, Try.underlying3, e]
    · have e : ¬ x = y := fun e => h2 (by rw [e])
      simp [go_sem, Op.eqFields, Try.underlying3, e, h1, h2]
  · have e : ¬ x = y := fun e => h1 (by rw [e])
    simp [go_sem, Op.eqFields, Try.underlying3, e, h1]

set_option maxRecDepth 100000 in
set_option maxHeartbeats 1000000 in
theorem EqSp_any (l m : List Ch) (v v2 : Value) (w : World) (h1 : SlCh w v l) (h2 : SlCh w v2 m) :
    Calls Try.prog 19 #[v, v2] w fun e w' => e = .returned (.bool (decide (l = m))) ∧ Below w.heap.size w w' := by
  obtain ⟨p, cap, rfl, g1⟩ := h1.shape
  have hl := h1.size
  have hl2 := h2.size
  unfold maxLen at hl hl2
  obtain ⟨p2, cap2, rfl, g2⟩ := h2.shape
  have HA := Lib.hid g1
  have HB := Lib.hid g2
  clear h1 h2 g1 g2
  by_cases hlen : l.length = m.length
  · obtain ⟨R, eR⟩ : ∃ R, decide (l = m) = R := ⟨_, rfl⟩
    rw [eR]
    have ER := Lib.hid eR
    have HLEN := Lib.hid hlen
    rw [← hlen]
    clear eR hlen
    go_enter Try.func19, Try.ntmps19
    go_wp2
    go_loopw [14] (fun i wr => ∃ k : Nat, k ≤ l.length ∧ i = .int .i64 k ∧ (∀ j (h : j < k) (h1 : j < l.length) (h2 : j < m.length), l[j] = m[j]) ∧ Below w.heap.size w wr) (fun i _ => l.length - (intOf i).toNat)
    case atStart => exact ⟨0, Nat.zero_le _, rfl, fun j h => absurd h (Nat.not_lt_zero j), Below.refl _ _⟩
    case round =>
      obtain ⟨k, hk, rfl, hsame, hbel⟩ := hrel
      have HS := Lib.hid hsame
      clear hsame
      by_cases hlt : k < l.length
      · have hlt2 : k < m.length := by have := HLEN.out; omega
        obtain ⟨x, ex⟩ : ∃ x, l[k] = x := ⟨_, rfl⟩
        obtain ⟨y, ey⟩ : ∃ y, m[k] = y := ⟨_, rfl⟩
        have hne0 : l ≠ [] := by intro e; rw [e] at hlt; simp at hlt
        have hne1 : m ≠ [] := by intro e; rw [e] at hlt2; simp at hlt2
        obtain ⟨b, o, rfl, hb, ha0⟩ := HA.out hne0
        obtain ⟨b2, o2, rfl, hb2, hc0⟩ := HB.out hne1
        have ha := (ha0 k hlt).below hbel hb
        have hc := (hc0 k hlt2).below hbel hb2
        rw [ex] at ha
        rw [ey] at hc
        obtain ⟨a0, a1⟩ := ha
        obtain ⟨d0, d1⟩ := hc
        have hlb := World.block_lt_of_cell? _ _ a0
        have hlb2 := World.block_lt_of_cell? _ _ d0
        have hq := neq_spN x y
        have HBL := Lib.hid hbel
        by_cases hxy : x = y
        · have hd : (!decide (x = y)) = false := by simpa using hxy
          rw [hd] at hq
          have hs2 : ∀ j (h : j < k + 1) (h1 : j < l.length) (h2 : j < m.length), l[j] = m[j] := fun j hj h1 h2 => by
            by_cases e : j = k
            · subst e; rw [ex, ey, hxy]
            · exact HS.out j (by omega) h1 h2
          have HS2 := Lib.hid hs2
          clear ex ey hbel ha0 hc0 hne0 hne1 hxy hd hs2
          go_wp2
          go_quiet (fail)
          go_wp2
          go_roundw
          case rel => exact ⟨k + 1, by omega, by go_num, HS2.out, by first | exact below_drewNm HBL.out _ | exact below_drewNm (HBL.out.alloc HBL.out.size _) _⟩
          case measure => simp [intOf]; omega
        · have hd : (!decide (x = y)) = true := by simpa using hxy
          rw [hd] at hq
          have hR : Hid (R = false) := by
            show _ = _
            rw [← ER.out]
            have : l ≠ m := list_ne_at hlt hlt2 (by rw [ex, ey]; exact hxy)
            simpa using this
          clear ex ey hbel ha0 hc0 hne0 hne1 hxy hd
          go_wp2
          go_quiet (fail)
          go_wp2
          go_ret
          exact ⟨ret_bool' hR.out.symm, by first | exact below_drewNm HBL.out _ | exact below_drewNm (HBL.out.alloc HBL.out.size _) _⟩
      · obtain rfl : k = l.length := by omega
        have hR : Hid (R = true) := by
          show _ = _
          rw [← ER.out]
          have : l = m := list_eq_of HLEN.out (fun j h1 h2 => HS.out j h1 h1 h2)
          simpa using this
        go_wp2
        go_ret
        exact ⟨ret_bool' hR.out.symm, hbel⟩
  · have hR : decide (l = m) = false := by simp; intro e; exact hlen (by rw [e])
    rw [hR]
    have hli : ¬ (l.length : Int) = (m.length : Int) := by omega
    clear hR hlen
    go_enter Try.func19, Try.ntmps19
    go_wp2
    go_ret
    exact ⟨rfl, Below.refl _ _⟩

/-- spans, their cells read as changes -/
def spL (l : List (Int × Int)) : List Ch := l.map fun p => ⟨p.1, p.2⟩
theorem spL_len (l : List (Int × Int)) : (spL l).length = l.length := by simp [spL]
end Go.Proofs.Yteoliifghhlinaa
