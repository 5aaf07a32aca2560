/- WallNext: its walk. -/
import Derived.Test.YtddkedghpapepaaWallD
import Derived.Test.YtddkedghpapepaaNextMath
namespace Go.Proofs.Ytddkedghpapepaa
open Go.RowKit Go.Shelf
set_option linter.unusedVariables false
set_option linter.unusedSimpArgs false

set_option maxHeartbeats 4000000 in
theorem Next_no (t : Tab) (v : Value) (af sec : Int) (w : World) (hv : TabAt w v t) (h : chkW t af ≠ 0) :
    Calls Try.prog 20 #[v, .int .i64 af, .int .i64 sec] w fun e w' => e = .returned (.tuple #[.int .i64 0, .int .i64 (chkW t af)]) ∧ Below w.heap.size w w' := by
  obtain ⟨sv, cv, rfl, hs, hc⟩ := hv.val
  have hm := NMem.mk' w sv cv t.first af sec
  obtain ⟨W, hW⟩ : ∃ W, (((((w.alloc (.cells #[sv, .int .i64 t.first, cv] 25)).alloc (.cells #[.int .i64 af] 3)).alloc (.cells #[.int .i64 sec] 3)).alloc (.cells #[.int .i64 0] 3)).alloc (.cells #[.int .i64 0] 28)) = W := ⟨_, rfl⟩
  rw [hW] at hm
  have HCC := wcheck_any t _ af _ (hv.below hm.below)
  obtain ⟨K, eK⟩ : ∃ K : Int, chkW t af = K := ⟨_, rfl⟩
  rw [eK] at HCC h
  rw [eK]
  have hkb : (K == 0) = false := by simpa using h
  have HC := Lib.hid HCC
  have HW := Lib.hid hW
  have HM := Lib.hid hm
  clear hv hs hc hW hm HCC eK h
  go_enter Try.func20, Try.ntmps20
  go_wp2_with fail
  rw [HW.out]
  refine HC.out.mono ?_
  rintro e w1 ⟨rfl, hb1⟩
  have hsz1 := hb1.size
  rw [HM.out.size] at hb1 hsz1
  have br : Boxed w1 (w.heap.size + 1 + 1 + 1) 3 (.int .i64 0) := (hb1.block _ (by omega)).trans HM.out.br
  have be : Boxed w1 (w.heap.size + 1 + 1 + 1 + 1) 28 (.int .i64 0) := (hb1.block _ (by omega)).trans HM.out.be
  have r0 := br.cell
  have f0 := br.frozen
  have r1 := be.cell
  have f1 := be.frozen
  have bw1 := Lib.hid (HM.out.below.trans (hb1.mono (by omega)))
  clear hb1
  go_wp2
  refine bodyPost_ret (v := .tuple #[.int .i64 0, .int .i64 K]) (by simp [results, Try.results20, go_sem, r0, r1]) rfl ⟨rfl, ?_⟩
  exact (bw1.out.setCell (by simp; omega) _).setCell (by simp; omega) _

set_option maxRecDepth 100000 in
set_option maxHeartbeats 8000000 in
theorem WallNext_walk (t : Tab) (v : Value) (a1 a2 a3 : Int) (w : World) (hv : TabAt w v t) :
    Calls Try.prog 11 #[v, .int .i64 a1, .int .i64 a2, .int .i64 a3] w fun e w' => e = .returned (.bool true) ∧ Below w.heap.size w w' := by
  have hx1 : (0 : Int) ≤ a1 % 400000 := by omega
  have hx2 : a1 % 400000 < 400000 := by omega
  have hz1 : (0 : Int) ≤ a2 % 86400 := by omega
  have hz2 : a2 % 86400 < 86400 := by omega
  obtain ⟨sv, cv, rfl, hs, hc⟩ := hv.val
  obtain ⟨W0, hW0⟩ : ∃ W0, w.alloc (.cells #[sv, .int .i64 t.first, cv] 25) = W0 := ⟨_, rfl⟩
  obtain ⟨hB, hS, q0, q1, q2⟩ := box3 hW0
  have HB := Lib.hid hB
  have HS := Lib.hid hS
  have HV := Lib.hid hv
  have Q0 := Lib.hid q0
  have Q1 := Lib.hid q1
  have Q2 := Lib.hid q2
  have HW0 := Lib.hid hW0
  clear hB hS hv hs hc q0 q1 q2 hW0
  go_enter Try.func11, Try.ntmps11
  go_wp2_with fail
  rw [HW0.out]
  refine (walled_any _).mono ?_
  rintro e w1 ⟨rfl, hb1⟩
  have hz0 : w.heap.size < w1.heap.size := by have := HS.out; have := hb1.size; omega
  have c0 := (hb1.cell (p := ⟨w.heap.size, 0, none⟩) (by show w.heap.size < _; have := HS.out; omega)).trans Q0.out
  have c1 := (hb1.cell (p := ⟨w.heap.size, 1, none⟩) (by show w.heap.size < _; have := HS.out; omega)).trans Q1.out
  have c2 := (hb1.cell (p := ⟨w.heap.size, 2, none⟩) (by show w.heap.size < _; have := HS.out; omega)).trans Q2.out
  have B1 := Lib.hid (HB.out.trans (hb1.mono HB.out.size))
  clear hb1
  go_wp2_with fail
  refine (Rest_any _ _ _ (by omega) (by omega)).mono ?_
  rintro e w' ⟨rfl, rfl⟩
  go_wp2_with fail
  refine (Rest_any _ _ _ (by omega) (by omega)).mono ?_
  rintro e w' ⟨rfl, rfl⟩
  obtain ⟨A, eA⟩ : ∃ A, a1 % 400000 = A := ⟨_, rfl⟩
  obtain ⟨S, eS⟩ : ∃ S, a2 % 86400 = S := ⟨_, rfl⟩
  rw [eA] at hx1 hx2 ⊢
  rw [eS] at hz1 hz2 ⊢
  clear eA eS
  have hq : chkW t (A - 200000) = chk t := chkW_small t _ (by omega) (by omega)
  by_cases hk : chk t = 0
  · have ok := chk_ok t hk
    rw [hk] at hq
    have HL := Lib.hid (fun W (hb : Below w.heap.size w W) (x : Int) (h : chkW t x = 0) => Local_ok t _ x W (HV.out.below hb) h)
    have HOK := Lib.hid ok
    have HK := Lib.hid hk
    have HN := Lib.hid (Next_ok t _ (A - 200000) S w1 (HV.out.below B1.out) hq hz1 hz2)
    clear ok hk hq
    go_wp2_with fail
    refine HN.out.mono ?_
    rintro e w2 ⟨⟨k, hk, hno, hyes, rfl⟩, hb2⟩
    obtain ⟨n1, n2, n3, n4⟩ := next_law t HOK.out (A - 200000) S (by omega) (by omega) hz1 hz2 k hk hno hyes
    obtain ⟨N, eN⟩ : ∃ N, nval (A - 200000) S (pcAt t k) = N := ⟨_, rfl⟩
    rw [eN] at n1 n2 n3 n4 ⊢
    clear hno hyes eN hk
    have d0 := (hb2.cell (p := ⟨w.heap.size, 0, none⟩) hz0).trans c0
    have d1 := (hb2.cell (p := ⟨w.heap.size, 1, none⟩) hz0).trans c1
    have d2 := (hb2.cell (p := ⟨w.heap.size, 2, none⟩) hz0).trans c2
    have b2 : Below w.heap.size w w2 := B1.out.trans (hb2.mono B1.out.size)
    have hz2' : w.heap.size < w2.heap.size := by have := hb2.size; omega
    have ho := tyOf_off t N HOK.out
    have HL1 := Lib.hid (HL.out w2 b2 N (by rw [chkW_small t _ (by omega) (by omega)]; exact HK.out))
    obtain ⟨ON, eON⟩ : ∃ ON, (tyOf t N).off = ON := ⟨_, rfl⟩
    rw [eON] at HL1 n3 ho
    clear eON
    go_wp2_with fail
    refine HL1.out.mono ?_
    rintro e w3 ⟨rfl, hb3⟩
    have f0 := (hb3.cell (p := ⟨w.heap.size, 0, none⟩) hz2').trans d0
    have f1 := (hb3.cell (p := ⟨w.heap.size, 1, none⟩) hz2').trans d1
    have f2 := (hb3.cell (p := ⟨w.heap.size, 2, none⟩) hz2').trans d2
    have b3 : Below w.heap.size w w3 := b2.trans (hb3.mono b2.size)
    have hz3 : w.heap.size < w3.heap.size := by have := hb3.size; omega
    go_wp2_with fail
    refine (Rest_any _ _ _ (by omega) (by omega)).mono ?_
    rw [n3]
    rintro e w' ⟨rfl, rfl⟩
    go_wp2_with fail
    refine (Rest_any _ _ _ (by omega) (by omega)).mono ?_
    rintro e w' ⟨rfl, rfl⟩
    have m1 : 0 ≤ a3 % (N - (A - 200000)) := Int.emod_nonneg _ (by omega)
    have m2 : a3 % (N - (A - 200000)) < N - (A - 200000) := Int.emod_lt_of_pos _ (by omega)
    obtain ⟨R, eR⟩ : ∃ R, a3 % (N - (A - 200000)) = R := ⟨_, rfl⟩
    rw [eR] at m1 m2 ⊢
    clear eR
    have ho2 := tyOf_off t (A - 200000 + 1 + R) HOK.out
    have hns := n4 (A - 200000 + 1 + R) (by omega)
    have HL2 := Lib.hid (HL.out w3 b3 (A - 200000 + 1 + R) (by rw [chkW_small t _ (by omega) (by omega)]; exact HK.out))
    obtain ⟨OY, eOY⟩ : ∃ OY, (tyOf t (A - 200000 + 1 + R)).off = OY := ⟨_, rfl⟩
    rw [eOY] at HL2 ho2 hns
    clear eOY n4
    go_wp2_with fail
    refine HL2.out.mono ?_
    rintro e w4 ⟨rfl, hb4⟩
    have HB4 := Lib.hid (b3.trans (hb4.mono b3.size))
    clear hb2 hb3 hb4 b2 b3 c0 c1 c2 d0 d1 d2 f0 f1 f2
    by_cases he : A - 200000 + 1 + R = N
    · have heb : (A - 200000 + 1 + R == N) = true := by simpa using he
      go_wp2
      go_ret
      exact ⟨rfl, HB4.out⟩
    · have heb : (A - 200000 + 1 + R == N) = false := by simpa using he
      have hne := hns (by omega)
      have hneb : ((A - 200000 + 1 + R + OY) % 86400 == S) = false := by simpa using hne
      go_wp2_with fail
      refine (Rest_any _ _ _ (by omega) (by omega)).mono ?_
      rintro e w' ⟨rfl, rfl⟩
      go_wp2
      go_ret
      exact ⟨ret_bool' (by simpa using hne), HB4.out⟩
  · obtain ⟨K, eK⟩ : ∃ K : Int, chk t = K := ⟨_, rfl⟩
    rw [eK] at hq hk
    have hkb : (K == 0) = false := by simpa using hk
    have HN := Next_no t _ (A - 200000) S w1 (HV.out.below B1.out) (by rw [hq]; exact hk)
    rw [hq] at HN
    have HNN := Lib.hid HN
    clear HN hq eK hk
    go_wp2_with fail
    refine HNN.out.mono ?_
    rintro e w2 ⟨rfl, hb2⟩
    go_wp2
    go_ret
    exact ⟨rfl, B1.out.trans (hb2.mono B1.out.size)⟩

end Go.Proofs.Ytddkedghpapepaa
