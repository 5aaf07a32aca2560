/- The reference's Eq of eras, and ZoneEq. -/
import Derived.Test.YtlgdilpmdoofiaaDoorNm4
import Derived.Laws.StructEq
import Derived.Deep.DeepCutAuto
namespace Go.Proofs.YtlgdilpmdoofiaaDoor
open Go.RowKit Go.Joins
open Classical
set_option linter.unusedVariables false
set_option linter.unusedSimpArgs false

theorem ret_bE {a b : Bool} (h : a = b) : Ending.returned (.bool a) = .returned (.bool b) := by rw [h]
theorem bytes_neE {a b : ByteArray} (h : a ≠ b) : (a.toList == b.toList) = false := by
  cases he : a.toList == b.toList
  · rfl
  · have : a.toList = b.toList := by simpa using he
    rw [ByteArray.toList_eq, ByteArray.toList_eq] at this
    exact absurd (by cases a; cases b; simp_all) h
theorem er_eq {x y : Er} : x = y ↔ x.off = y.off ∧ x.ru = y.ru ∧ x.sv = y.sv ∧ x.fm = y.fm ∧ x.un = y.un := by
  cases x; cases y; simp
theorem fieldsEr : (Tryd.prog.fieldsOf 65).toList = [{ name := "Offset", type := 3, offset := 0, embedded := false, tag := "", pkgPath := "", byteOffset := 0 }, { name := "Rules", type := 9, offset := 1, embedded := false, tag := "", pkgPath := "", byteOffset := 8 }, { name := "Save", type := 3, offset := 2, embedded := false, tag := "", pkgPath := "", byteOffset := 24 }, { name := "Format", type := 9, offset := 3, embedded := false, tag := "", pkgPath := "", byteOffset := 32 }, { name := "Until", type := 3, offset := 4, embedded := false, tag := "", pkgPath := "", byteOffset := 48 }] := by kernel_rfl
theorem agg_er : Tryd.prog.underlying 65 = some (.struct (Tryd.prog.fieldsOf 65)) := by kernel_rfl
theorem stood_er : Tryd.prog.stoodInHeld 65 = false := by kernel_rfl
theorem neq_er (x y : Er) (W : World) : (binOp .neq 65 (.agg #[.int .i64 x.off, .string x.ru, .int .i64 x.sv, .string x.fm, .int .i64 x.un]) (.agg #[.int .i64 y.off, .string y.ru, .int .i64 y.sv, .string y.fm, .int .i64 y.un])).run Tryd.prog W = .ok (.bool (!decide (x = y))) W := by
  rw [run_neq_struct, run_equalIn_agg W 9999 _ _ _ agg_er stood_er, fieldsEr]
  by_cases h1 : x.off = y.off
  · by_cases h2 : x.ru = y.ru
    · by_cases h3 : x.sv = y.sv
      · by_cases h4 : x.fm = y.fm
        · by_cases h5 : x.un = y.un
          · have e : x = y := er_eq.2 ⟨h1, h2, h3, h4, h5⟩
            simp [go_sem, Op.eqFields, Tryd.underlying3, Tryd.underlying9, e]
          · have e : ¬ x = y := fun e => h5 (by rw [e])
            simp [go_sem, Op.eqFields, Tryd.underlying3, Tryd.underlying9, e, h1, h2, h3, h4, h5]
        · have e : ¬ x = y := fun e => h4 (by rw [e])
          simp [go_sem, Op.eqFields, Tryd.underlying3, Tryd.underlying9, e, h1, h2, h3, bytes_neE h4]
      · have e : ¬ x = y := fun e => h3 (by rw [e])
        simp [go_sem, Op.eqFields, Tryd.underlying3, Tryd.underlying9, e, h1, h2, h3]
    · have e : ¬ x = y := fun e => h2 (by rw [e])
      simp [go_sem, Op.eqFields, Tryd.underlying3, Tryd.underlying9, e, h1, bytes_neE h2]
  · have e : ¬ x = y := fun e => h1 (by rw [e])
    simp [go_sem, Op.eqFields, Tryd.underlying3, Tryd.underlying9, e, h1]
theorem list_neE {α : Type} {l m : List α} {k : Nat} (h1 : k < l.length) (h2 : k < m.length) (h : l[k] ≠ m[k]) : l ≠ m := by
  intro e
  subst e
  exact h rfl
theorem list_eqE {α : Type} {l m : List α} (h : l.length = m.length) (hs : ∀ j (h1 : j < l.length) (h2 : j < m.length), l[j] = m[j]) : l = m := List.ext_getElem h hs

set_option maxRecDepth 100000 in
set_option maxHeartbeats 1000000 in
theorem EqEr_any (l m : List Er) (v v2 : Value) (w : World) (h1 : RowsAt erL 5 w.heap.size w v l) (h2 : RowsAt erL 5 w.heap.size w v2 m) :
    Calls Tryd.prog 33 #[v, v2] w fun e w' => e = .returned (.bool (decide (l = m))) ∧ Below w.heap.size w w' := by
  obtain ⟨p, cap, rfl, hl, g1⟩ := h1
  obtain ⟨p2, cap2, rfl, hl2, g2⟩ := h2
  have HA := Lib.hid g1
  have HB := Lib.hid g2
  clear g1 g2
  by_cases hlen : l.length = m.length
  · obtain ⟨R, eR⟩ : ∃ R, decide (l = m) = R := ⟨_, rfl⟩
    rw [eR]
    have ER := Lib.hid eR
    have HLEN := Lib.hid hlen
    rw [← hlen] at hl2 ⊢
    clear eR hlen
    go_enter Tryd.func33, Tryd.ntmps33
    go_wp2
    go_loopw [14] (fun i wr => ∃ k : Nat, k ≤ l.length ∧ i = .int .i64 k ∧ (∀ j (h : j < k) (h1 : j < l.length) (h2 : j < m.length), l[j] = m[j]) ∧ Below w.heap.size w wr) (fun i _ => l.length - (intOf i).toNat)
    case atStart => exact ⟨0, Nat.zero_le _, rfl, fun j h => absurd h (Nat.not_lt_zero j), Below.refl _ _⟩
    case round =>
      obtain ⟨k, hk, rfl, hsame, hbel⟩ := hrel
      have HS := Lib.hid hsame
      clear hsame
      by_cases hlt : k < l.length
      · have hlt2 : k < m.length := by have := HLEN.out; omega
        obtain ⟨x, ex⟩ : ∃ x, l[k] = x := ⟨_, rfl⟩
        obtain ⟨y, ey⟩ : ∃ y, m[k] = y := ⟨_, rfl⟩
        have hne0 : l ≠ [] := by intro e; rw [e] at hlt; simp at hlt
        have hne1 : m ≠ [] := by intro e; rw [e] at hlt2; simp at hlt2
        obtain ⟨b, o, rfl, hb, ha0⟩ := HA.out hne0
        obtain ⟨b2, o2, rfl, hb2, hc0⟩ := HB.out hne1
        have ha := ha0 k hlt
        have hc := hc0 k hlt2
        rw [ex] at ha
        rw [ey] at hc
        have up : ∀ bb oo u, bb < w.heap.size → w.cell? ⟨bb, oo, none⟩ = some u → wr.cell? ⟨bb, oo, none⟩ = some u := fun bb oo u hlt h => (hbel.cell (p := ⟨bb, oo, none⟩) hlt).trans h
        have a0 := up _ _ _ hb (ha 0 _ rfl)
        have a1 := up _ _ _ hb (ha 1 _ rfl)
        have a2 := up _ _ _ hb (ha 2 _ rfl)
        have d0 := up _ _ _ hb2 (hc 0 _ rfl)
        have d1 := up _ _ _ hb2 (hc 1 _ rfl)
        have d2 := up _ _ _ hb2 (hc 2 _ rfl)
        have a3 := up _ _ _ hb (ha 3 _ rfl)
        have a4 := up _ _ _ hb (ha 4 _ rfl)
        have d3 := up _ _ _ hb2 (hc 3 _ rfl)
        have d4 := up _ _ _ hb2 (hc 4 _ rfl)
        rw [Nat.add_zero] at a0 d0
        have hlb := World.block_lt_of_cell? _ _ a0
        have hlb2 := World.block_lt_of_cell? _ _ d0
        have hq := neq_er x y
        have HBL := Lib.hid hbel
        by_cases hxy : x = y
        · have hd : (!decide (x = y)) = false := by simpa using hxy
          rw [hd] at hq
          have hs2 : ∀ j (h : j < k + 1) (h1 : j < l.length) (h2 : j < m.length), l[j] = m[j] := fun j hj h1 h2 => by
            by_cases e : j = k
            · subst e; rw [ex, ey, hxy]
            · exact HS.out j (by omega) h1 h2
          have HS2 := Lib.hid hs2
          clear ex ey hbel ha0 hc0 ha hc up hne0 hne1 hxy hd hs2
          go_wp2
          go_quiet (fail)
          go_wp2
          go_roundw
          case rel => exact ⟨k + 1, by omega, by go_num, HS2.out, by first | exact below_drewN HBL.out _ | exact below_drewN (HBL.out.alloc HBL.out.size _) _⟩
          case measure => simp [intOf]; omega
        · have hd : (!decide (x = y)) = true := by simpa using hxy
          rw [hd] at hq
          have hR : Hid (R = false) := by
            show _ = _
            rw [← ER.out]
            have : l ≠ m := list_neE hlt hlt2 (by rw [ex, ey]; exact hxy)
            simpa using this
          clear ex ey hbel ha0 hc0 ha hc up hne0 hne1 hxy hd
          go_wp2
          go_quiet (fail)
          go_wp2
          go_ret
          exact ⟨ret_bE hR.out.symm, by first | exact below_drewN HBL.out _ | exact below_drewN (HBL.out.alloc HBL.out.size _) _⟩
      · obtain rfl : k = l.length := by omega
        have hR : Hid (R = true) := by
          show _ = _
          rw [← ER.out]
          have : l = m := list_eqE HLEN.out (fun j h1 h2 => HS.out j h1 h1 h2)
          simpa using this
        go_wp2
        go_ret
        exact ⟨ret_bE hR.out.symm, hbel⟩
  · have hR : decide (l = m) = false := by simp; intro e; exact hlen (by rw [e])
    rw [hR]
    have hli : ¬ (l.length : Int) = (m.length : Int) := by omega
    clear hR hlen
    go_enter Tryd.func33, Tryd.ntmps33
    go_wp2
    go_ret
    exact ⟨rfl, Below.refl _ _⟩
end Go.Proofs.YtlgdilpmdoofiaaDoor
