/- WallForward: its walk. -/
import Derived.Test.YtddkedghpapepaaWallB
namespace Go.Proofs.Ytddkedghpapepaa
open Go.RowKit Go.Shelf
set_option linter.unusedVariables false
set_option linter.unusedSimpArgs false

/-- the table of the statement: A from the first, B from 'at' on -/
abbrev tabF (off at' : Int) : Tab := ⟨[⟨0, false, ⟨#[65]⟩⟩, ⟨off, false, ⟨#[66]⟩⟩], 0, [⟨at', 1⟩]⟩

theorem tabF_chk (off at' l : Int) (h1 : -10800 ≤ off) (h2 : off ≤ 10800) (h3 : 0 ≤ at') (h4 : at' < 1000000) (h5 : -100000000 ≤ l) (h6 : l ≤ 100000000) : chkW (tabF off at') l = 0 := by
  rw [chkW_small _ _ (by omega) (by omega)]
  have a1 : abbrB ⟨#[65]⟩ = true := by decide
  have a2 : abbrB ⟨#[66]⟩ = true := by decide
  have e1 : okOff off = true := by simp [okOff]; omega
  have e2 : okTime at' = true := by simp [okTime]; omega
  have e0 : okOff 0 = true := by decide
  have e3 : okIdx 1 0 = true := by decide
  have e4 : okIdx 1 1 = true := by decide
  simp [chk, big, chkTypes, chkChs, before, a1, a2, e0, e1, e2, e3, e4]

theorem tabF_fnd (off at' l : Int) (h1 : -10800 ≤ off) (h2 : off ≤ 10800) (h3 : 0 ≤ at') (h4 : at' < 1000000) (h5 : -100000000 ≤ l) (h6 : l ≤ 100000000) :
    fnd l (uptoP (tabF off at') ((tabF off at').chs.length + 1)) = (if l < at' then [l] else []) ++ (if at' ≤ l - off then [l - off] else []) := by
  have w0 : wrap64 (l - 0) = l := by rw [IntWalk.wrap64_in _ ⟨by omega, by omega⟩]; omega
  have w0' : wrap64 l = l := IntWalk.wrap64_in _ ⟨by omega, by omega⟩
  have w1 : wrap64 (l - off) = l - off := IntWalk.wrap64_in _ ⟨by omega, by omega⟩
  have p : uptoP (tabF off at') ((tabF off at').chs.length + 1) = [⟨-4611686018427387904, at', 0⟩, ⟨at', 4611686018427387903, off⟩] := by
    simp [uptoP, List.range_succ, pcAt, frAt, toAt, idAt, tAt, kAt, tyD]
  rw [p]
  have g0 : hit l ⟨-4611686018427387904, at', 0⟩ = decide (l < at') := by
    simp only [hit, w0, decide_eq_decide]; omega
  have g1 : hit l ⟨at', 4611686018427387903, off⟩ = decide (at' ≤ l - off) := by
    simp only [hit, w1, decide_eq_decide]; omega
  by_cases c0 : l < at' <;> by_cases c1 : at' ≤ l - off <;> simp [fnd, g0, g1, c0, c1, w0', w1]

theorem Find_F (off at' l : Int) (v : Value) (W : World) (ht : TabAt W v (tabF off at')) (h1 : -10800 ≤ off) (h2 : off ≤ 10800) (h3 : 0 ≤ at') (h4 : at' < 1000000) (h5 : -100000000 ≤ l) (h6 : l ≤ 100000000) (L : List Int)
    (hL : (if l < at' then [l] else []) ++ (if at' ≤ l - off then [l - off] else []) = L) :
    Calls Try.prog 16 #[v, .int .i64 l] W fun e w' => ∃ u, e = .returned (.tuple #[u, .int .i64 0]) ∧ SlInt w' u L ∧ Below W.heap.size W w' := by
  have := Find_int (tabF off at') v l W ht (tabF_chk off at' l h1 h2 h3 h4 h5 h6)
  rw [tabF_fnd off at' l h1 h2 h3 h4 h5 h6, hL] at this
  exact this

theorem tabF_mem {w W : World} (off at' : Int) (hs : W.heap.size = w.heap.size + 3) (h1 : W.heap[w.heap.size]? = some (Obj.cells #[.int .i64 0, .bool false, .string ⟨#[65]⟩, .int .i64 off, .bool false, .string ⟨#[66]⟩] 32 (0, 0)))
    (h2 : W.heap[w.heap.size + 1]? = some (Obj.cells #[.int .i64 at', .int .i64 1] 36 (0, 0))) :
    TabAt W (.agg #[.slice (some ⟨w.heap.size, 0, none⟩) 2 2, .int .i64 0, .slice (some ⟨w.heap.size + 1, 0, none⟩) 1 1]) (tabF off at') := by
  refine ⟨_, _, rfl, ⟨⟨_, 2, rfl, fun _ => ⟨_, _, rfl, by omega, fun i hi => ?_⟩⟩, by show 2 ≤ maxLen; decide, by intro x hx; simp only [List.mem_cons, List.not_mem_nil, or_false] at hx; rcases hx with rfl | rfl <;> (show 1 ≤ maxLen; decide)⟩, ⟨⟨_, 1, rfl, fun _ => ⟨_, _, rfl, by omega, fun i hi => ?_⟩⟩, by show 1 ≤ maxLen; decide⟩⟩
  · have : i < 2 := hi
    rcases i with _ | _ | i
    · refine ⟨?_, ?_, ?_⟩ <;> simp [World.cell?, h1]
    · refine ⟨?_, ?_, ?_⟩ <;> simp [World.cell?, h1]
    · omega
  · have : i < 1 := hi
    rcases i with _ | i
    · refine ⟨?_, ?_⟩ <;> simp [World.cell?, h2]
    · omega

structure FMem (w1 W : World) (off at' : Int) : Prop where
  tab : TabAt W (.agg #[.slice (some ⟨w1.heap.size, 0, none⟩) 2 2, .int .i64 0, .slice (some ⟨w1.heap.size + 1, 0, none⟩) 1 1]) (tabF off at')
  size : W.heap.size = w1.heap.size + 3
  c0 : W.cell? ⟨w1.heap.size + 1 + 1, 0, none⟩ = some (.slice (some ⟨w1.heap.size, 0, none⟩) 2 2)
  c1 : W.cell? ⟨w1.heap.size + 1 + 1, 1, none⟩ = some (.int .i64 0)
  c2 : W.cell? ⟨w1.heap.size + 1 + 1, 2, none⟩ = some (.slice (some ⟨w1.heap.size + 1, 0, none⟩) 1 1)
  below : Below w1.heap.size w1 W

theorem FMem.mk' (w1 : World) (off at' : Int) : FMem w1 (((w1.alloc (Obj.cells #[.int .i64 0, .bool false, .string ⟨#[65]⟩, .int .i64 off, .bool false, .string ⟨#[66]⟩] 32)).alloc (Obj.cells #[.int .i64 at', .int .i64 1] 36)).alloc
    (Obj.cells #[.slice (some ⟨w1.heap.size, 0, none⟩) 2 2, .int .i64 0, .slice (some ⟨w1.heap.size + 1, 0, none⟩) 1 1] 25)) off at' := by
  obtain ⟨wa, ha⟩ : ∃ wa, w1.alloc (Obj.cells #[.int .i64 0, .bool false, .string ⟨#[65]⟩, .int .i64 off, .bool false, .string ⟨#[66]⟩] 32) = wa := ⟨_, rfl⟩
  have na := World.alloc_heap_new w1 (Obj.cells #[.int .i64 0, .bool false, .string ⟨#[65]⟩, .int .i64 off, .bool false, .string ⟨#[66]⟩] 32)
  have ba : Below w1.heap.size w1 wa := by rw [← ha]; exact (Below.refl _ _).alloc (Nat.le_refl _) _
  have sa : wa.heap.size = w1.heap.size + 1 := by rw [← ha]; simp
  rw [ha] at na ⊢
  obtain ⟨wb, hb⟩ : ∃ wb, wa.alloc (Obj.cells #[.int .i64 at', .int .i64 1] 36) = wb := ⟨_, rfl⟩
  have nb := World.alloc_heap_new wa (Obj.cells #[.int .i64 at', .int .i64 1] 36)
  have bb : Below wa.heap.size wa wb := by rw [← hb]; exact (Below.refl _ _).alloc (Nat.le_refl _) _
  have sb : wb.heap.size = w1.heap.size + 2 := by rw [← hb]; simp; omega
  rw [hb, sa] at nb
  rw [hb]
  obtain ⟨wc, hc⟩ : ∃ wc, wb.alloc (Obj.cells #[.slice (some ⟨w1.heap.size, 0, none⟩) 2 2, .int .i64 0, .slice (some ⟨w1.heap.size + 1, 0, none⟩) 1 1] 25) = wc := ⟨_, rfl⟩
  have nc := World.alloc_heap_new wb (Obj.cells #[.slice (some ⟨w1.heap.size, 0, none⟩) 2 2, .int .i64 0, .slice (some ⟨w1.heap.size + 1, 0, none⟩) 1 1] 25)
  have bc : Below wb.heap.size wb wc := by rw [← hc]; exact (Below.refl _ _).alloc (Nat.le_refl _) _
  have sc : wc.heap.size = w1.heap.size + 3 := by rw [← hc]; simp; omega
  rw [hc, sb] at nc
  rw [hc]
  obtain ⟨k0, k1, k2⟩ := cells3 nc
  refine ⟨tabF_mem off at' sc ?_ ?_, sc, k0, k1, k2, ba.trans ((bb.trans (bc.mono bb.size)).mono ba.size)⟩
  · exact (bc.block _ (by omega)).trans ((bb.block _ (by omega)).trans na)
  · exact (bc.block _ (by omega)).trans nb

theorem FMem.step {w1 W W' : World} {off at' : Int} (h : FMem w1 W off at') (hb : Below W.heap.size W W') : TabAt W' (.agg #[.slice (some ⟨w1.heap.size, 0, none⟩) 2 2, .int .i64 0, .slice (some ⟨w1.heap.size + 1, 0, none⟩) 1 1]) (tabF off at') ∧
    W'.cell? ⟨w1.heap.size + 1 + 1, 0, none⟩ = some (.slice (some ⟨w1.heap.size, 0, none⟩) 2 2) ∧ W'.cell? ⟨w1.heap.size + 1 + 1, 1, none⟩ = some (.int .i64 0) ∧ W'.cell? ⟨w1.heap.size + 1 + 1, 2, none⟩ = some (.slice (some ⟨w1.heap.size + 1, 0, none⟩) 1 1) := by
  have hs := h.size
  exact ⟨h.tab.below hb, (hb.cell (p := ⟨w1.heap.size + 1 + 1, 0, none⟩) (by show w1.heap.size + 1 + 1 < _; omega)).trans h.c0, (hb.cell (p := ⟨w1.heap.size + 1 + 1, 1, none⟩) (by show w1.heap.size + 1 + 1 < _; omega)).trans h.c1, (hb.cell (p := ⟨w1.heap.size + 1 + 1, 2, none⟩) (by show w1.heap.size + 1 + 1 < _; omega)).trans h.c2⟩

set_option maxRecDepth 100000 in
set_option maxHeartbeats 8000000 in
theorem WallForward_walk (a0 a1 a2 : Int) (w : World) :
    Calls Try.prog 4 #[.int .i64 a0, .int .i64 a1, .int .i64 a2] w fun e w' => e = .returned (.bool true) ∧ Below w.heap.size w w' := by
  have hx1 : (0 : Int) ≤ a0 % 1000000 := by omega
  have hx2 : a0 % 1000000 < 1000000 := by omega
  have hy1 : (-10800 : Int) ≤ a1 % 21601 - 10800 := by omega
  have hy2 : a1 % 21601 - 10800 ≤ 10800 := by omega
  go_enter Try.func4, Try.ntmps4
  go_wp2_with fail
  refine (walled_any _).mono ?_
  rintro e w1 ⟨rfl, hb1⟩
  go_wp2_with fail
  refine (Rest_any _ _ _ (by omega) (by omega)).mono ?_
  rintro e w' ⟨rfl, rfl⟩
  go_wp2_with fail
  refine (Rest_any _ _ _ (by omega) (by omega)).mono ?_
  rintro e w' ⟨rfl, rfl⟩
  obtain ⟨A, eA⟩ : ∃ A, a0 % 1000000 = A := ⟨_, rfl⟩
  obtain ⟨B, eB⟩ : ∃ B, a1 % 21601 = B := ⟨_, rfl⟩
  rw [eA] at hx1 hx2 ⊢
  rw [eB] at hy1 hy2 ⊢
  clear eA eB
  by_cases hz : B - 10800 = 0
  · have hzb : (B - 10800 == 0) = true := by simpa using hz
    go_wp2
    go_ret
    exact ⟨rfl, hb1⟩
  · have hzb : (B - 10800 == 0) = false := by simpa using hz
    go_wp2_with fail
    have hm := FMem.mk' w1 (B - 10800) A
    obtain ⟨W, hW⟩ : ∃ W, (((w1.alloc (Obj.cells #[.int .i64 0, .bool false, .string ⟨#[65]⟩, .int .i64 (B - 10800), .bool false, .string ⟨#[66]⟩] 32)).alloc (Obj.cells #[.int .i64 A, .int .i64 1] 36)).alloc
      (Obj.cells #[.slice (some ⟨w1.heap.size, 0, none⟩) 2 2, .int .i64 0, .slice (some ⟨w1.heap.size + 1, 0, none⟩) 1 1] 25)) = W := ⟨_, rfl⟩
    rw [hW] at hm ⊢
    clear hW
    have hbW : Below w.heap.size w W := hb1.trans (hm.below.mono hb1.size)
    have HM := Lib.hid hm
    obtain ⟨ht0, c0, c1, c2⟩ := hm.step (Below.refl _ _)
    refine (Rest_any _ _ _ (by omega) (by omega)).mono ?_
    rintro e w' ⟨rfl, rfl⟩
    by_cases hpos : 0 < B - 10800
    · have hk1 : 0 ≤ a2 % (max (B - 10800) (-(B - 10800))) := Int.emod_nonneg _ (by omega)
      have hk2 : a2 % (max (B - 10800) (-(B - 10800))) < B - 10800 := by
        have := Int.emod_lt_of_pos a2 (show 0 < max (B - 10800) (-(B - 10800)) by omega)
        omega
      obtain ⟨k, ek⟩ : ∃ k, a2 % (max (B - 10800) (-(B - 10800))) = k := ⟨_, rfl⟩
      rw [ek] at hk1 hk2 ⊢
      clear ek hm
      go_wp2_with fail
      refine (Find_F (B - 10800) A _ _ _ ht0 (by omega) (by omega) (by omega) (by omega) (by omega) (by omega) [] (by rw [if_neg (by omega), if_neg (by omega)]; rfl)).mono ?_
      rintro e w2 ⟨u1, rfl, hu1, hb2⟩
      obtain ⟨ht2, d0, d1, d2⟩ := HM.out.step hb2
      go_wp2_with fail
      refine (Find_F (B - 10800) A _ _ _ ht2 (by omega) (by omega) (by omega) (by omega) (by omega) (by omega) [A - 1] (by rw [if_pos (by omega), if_neg (by omega)]; simp; omega)).mono ?_
      rintro e w3 ⟨u2, rfl, hu2, hb3⟩
      have b3 := hb2.trans (hb3.mono hb2.size)
      obtain ⟨ht3, f0, f1, f2⟩ := HM.out.step b3
      go_wp2_with fail
      refine (Find_F (B - 10800) A _ _ _ ht3 (by omega) (by omega) (by omega) (by omega) (by omega) (by omega) [A] (by rw [if_neg (by omega), if_pos (by omega)]; simp; omega)).mono ?_
      rintro e w4 ⟨u3, rfl, hu3, hb4⟩
      have b4 := b3.trans (hb4.mono b3.size)
      obtain ⟨⟨p1, q1, rfl, -⟩, -⟩ := hu1
      obtain ⟨⟨p2, q2, rfl, -⟩, -⟩ := hu2
      obtain ⟨⟨p3, q3, rfl, -⟩, -⟩ := hu3
      clear b3 hb2 hb3 hb4 ht0 ht2 ht3 c0 c1 c2 d0 d1 d2 f0 f1 f2
      go_wp2
      go_ret
      exact ⟨rfl, hbW.trans (b4.mono hbW.size)⟩
    · have hk1 : 0 ≤ a2 % (max (B - 10800) (-(B - 10800))) := Int.emod_nonneg _ (by omega)
      have hk2 : a2 % (max (B - 10800) (-(B - 10800))) < -(B - 10800) := by
        have := Int.emod_lt_of_pos a2 (show 0 < max (B - 10800) (-(B - 10800)) by omega)
        omega
      obtain ⟨k, ek⟩ : ∃ k, a2 % (max (B - 10800) (-(B - 10800))) = k := ⟨_, rfl⟩
      rw [ek] at hk1 hk2 ⊢
      clear ek hm
      go_wp2_with fail
      refine (Find_F (B - 10800) A _ _ _ ht0 (by omega) (by omega) (by omega) (by omega) (by omega) (by omega) [A + (B - 10800) + k, A + k] (by rw [if_pos (by omega), if_pos (by omega)]; simp; omega)).mono ?_
      rintro e w2 ⟨u1, rfl, hu1, hb2⟩
      obtain ⟨ht2, d0, d1, d2⟩ := HM.out.step hb2
      go_wp2_with fail
      refine (Find_F (B - 10800) A _ _ _ ht2 (by omega) (by omega) (by omega) (by omega) (by omega) (by omega) [A + (B - 10800) - 1] (by rw [if_pos (by omega), if_neg (by omega)]; simp; omega)).mono ?_
      rintro e w3 ⟨u2, rfl, hu2, hb3⟩
      have b3 := hb2.trans (hb3.mono hb2.size)
      obtain ⟨ht3, f0, f1, f2⟩ := HM.out.step b3
      go_wp2_with fail
      refine (Find_F (B - 10800) A _ _ _ ht3 (by omega) (by omega) (by omega) (by omega) (by omega) (by omega) [A - (B - 10800)] (by rw [if_neg (by omega), if_pos (by omega)]; simp; omega)).mono ?_
      rintro e w4 ⟨u3, rfl, hu3, hb4⟩
      have b4 := b3.trans (hb4.mono b3.size)
      have hu1' := (hu1.below hb3).below hb4
      obtain ⟨⟨p1, q1, rfl, hs1⟩, -⟩ := hu1'
      obtain ⟨bb, oo, rfl, hlt, hat⟩ := hs1 (by simp)
      obtain ⟨⟨p2, q2, rfl, -⟩, -⟩ := hu2
      obtain ⟨⟨p3, q3, rfl, -⟩, -⟩ := hu3
      have HAT := Lib.hid hat
      have HB4 := Lib.hid b4
      clear b3 b4 hb2 hb3 hb4 ht0 ht2 ht3 c0 c1 c2 d0 d1 d2 f0 f1 f2 hu1 hs1 hat
      go_wp2_with fail
      have hb5 : Below w4.heap.size w4 (w4.alloc (Obj.cells #[.int .i64 (A + (B - 10800) + k), .int .i64 (A + k)] 3)) := (Below.refl _ _).alloc (Nat.le_refl _) _
      have hn5 := World.alloc_heap_new w4 (Obj.cells #[.int .i64 (A + (B - 10800) + k), .int .i64 (A + k)] 3)
      refine (Eq_some [A + (B - 10800) + k, A + k] [A + (B - 10800) + k, A + k] bb oo q1 w4.heap.size 0 2 _ (by show 2 ≤ maxLen; decide) rfl (fun i hi => (hb5.cell (p := ⟨bb, oo + i, none⟩) hlt).trans (HAT.out i hi)) (fun i hi => ?_)).mono ?_
      · have : i < 2 := hi
        rcases i with _ | _ | i
        · exact (cells2 hn5).1
        · exact (cells2 hn5).2
        · omega
      rintro e w5 ⟨rfl, rfl⟩
      rw [decide_eq_true (Eq.refl [A + (B - 10800) + k, A + k])]
      go_wp2
      go_ret
      exact ⟨rfl, hbW.trans ((HB4.out.trans (hb5.mono HB4.out.size)).mono hbW.size)⟩

end Go.Proofs.Ytddkedghpapepaa
