/- TurnsEast: the walk. -/
import Derived.Test.YtlgdilpmdoofiaaDoorTuEast
namespace Go.Proofs.YtlgdilpmdoofiaaDoor
open Go.RowKit Go.Joins
open Classical
set_option linter.unusedVariables false
set_option linter.unusedSimpArgs false

set_option maxRecDepth 100000 in
set_option maxHeartbeats 8000000 in
theorem TurnsEast_walk (MK : MakeSays) (b : Bk) (rv zv lv : Value) (nm : ByteArray) (x0 y0 : Int) (w : World) (hB : BookAt w.heap.size w rv zv lv b) (hm : MaxLen w) (ht : Tab10 w) :
    Calls Tryd.prog 5 #[.agg #[rv, zv, lv], .string nm, .int .i64 x0, .int .i64 y0] w fun e w' => e = .returned (.bool true) ∧ Below w.heap.size w w' := by
  have hr := hB.r
  have hz := hB.z
  have hl := hB.l
  obtain ⟨p1, c1, rfl, hlen1, hrow1⟩ := hr
  obtain ⟨p2, c2, rfl, hlen2, hrow2⟩ := hz
  obtain ⟨p3, c3, rfl, hlen3, hrow3⟩ := hl
  obtain ⟨W0, eW⟩ : ∃ W0, w.alloc (.cells #[.slice p1 b.rules.length c1, .slice p2 b.zones.length c2, .slice p3 b.links.length c3] 26) = W0 := ⟨_, rfl⟩
  have hb0 : Below w.heap.size w W0 := by rw [← eW]; exact (Below.refl _ _).alloc (Nat.le_refl _) _
  have hbx : W0.heap[w.heap.size]? = some (.cells #[.slice p1 b.rules.length c1, .slice p2 b.zones.length c2, .slice p3 b.links.length c3] 26 (0, 0)) := by rw [← eW]; exact heap_alloc_new w _
  have hl0 : w.heap.size < W0.heap.size := by rw [← eW]; simp
  have HEW := Lib.hid eW
  have HB0 := Lib.hid hb0
  have HBX := Lib.hid hbx
  have HBK := Lib.hid hB
  have HRROW := Lib.hid hB.r
  have HTU := Lib.hid (turned_any MK W0 (hm.below hb0) (ht.below hb0))
  have HM := Lib.hid hm
  have HT := Lib.hid ht
  have HRE := Lib.hid (fun n W => Rest0_any n 129601 W (by omega) (by omega))
  have hX1 := Int.emod_nonneg x0 (show (129601 : Int) ≠ 0 by omega)
  have hX2 := Int.emod_lt_of_pos x0 (show (0 : Int) < 129601 by omega)
  have hY1 := Int.emod_nonneg y0 (show (129601 : Int) ≠ 0 by omega)
  have hY2 := Int.emod_lt_of_pos y0 (show (0 : Int) < 129601 by omega)
  clear eW hb0 hbx hB hm ht hrow1 hrow2 hrow3
  go_enter Tryd.func5, Tryd.ntmps5
  go_upto_region 1 with fail
  rw [HEW.out]
  go_wp2_with fail
  refine HTU.out.mono ?_
  rintro e w1 ⟨rfl, hb1⟩
  have HB1 := Lib.hid (HB0.out.trans (hb1.mono HB0.out.size))
  have hx1 := (hb1.block w.heap.size hl0).trans HBX.out
  have HBX1 := Lib.hid hx1
  have hl1 : w.heap.size < w1.heap.size := by have := hb1.size; omega
  have y0' := (cell_of_row w1 _ 0 _ _ _ hx1).trans rfl
  clear hb1 hx1 HTU
  go_wp2_with fail
  refine (HRE.out x0 _).mono ?_
  rintro e w' ⟨rfl, rfl⟩
  obtain ⟨X, eX⟩ : ∃ X, x0 % 129601 = X := ⟨_, rfl⟩
  rw [eX] at hX1 hX2 ⊢
  clear eX
  go_wp2_with fail
  refine (HRE.out y0 _).mono ?_
  rintro e w' ⟨rfl, rfl⟩
  obtain ⟨Y, eY⟩ : ∃ Y, y0 % 129601 = Y := ⟨_, rfl⟩
  rw [eY] at hY1 hY2 ⊢
  clear eY
  obtain ⟨pz, cz, ez, -, hrw⟩ := (HRROW.out.below HB1.out (Nat.le_refl _)).mono (Nat.le_of_lt hl1)
  simp only [Value.slice.injEq, true_and] at ez
  obtain ⟨rfl, rfl⟩ := ez
  have HRWX := Lib.hid hrw
  clear hrw HRROW
  go_wp2_with fail
  go_loopw [9, 10, 30] (fun v9 v10 i wr => ∃ (k : Nat) (F U : Bool), k ≤ b.rules.length ∧ i = .int .i64 k ∧ v9 = .bool F ∧ v10 = .bool U ∧ Hid (F = wallB (b.rules.take k) nm ∧ U = univB (b.rules.take k) nm) ∧ Hid (Below w1.heap.size w1 wr)) (fun _ _ i _ => b.rules.length - (intOf i).toNat)
  case atStart => exact ⟨0, true, true, Nat.zero_le _, rfl, rfl, rfl, ⟨rfl, rfl⟩, Lib.hid (Below.refl _ _)⟩
  case round =>
    obtain ⟨k, F, U, hk, rfl, rfl, rfl, HFU, HBR⟩ := hrel
    have hzr := HBR.out.size
    have hlr : w.heap.size < wr.heap.size := by omega
    by_cases hkl : k < b.rules.length
    · obtain ⟨bb, o, rfl, hbl, hcs⟩ := HRWX.out (List.ne_nil_of_length_pos (by omega))
      have hck := hcs k hkl
      have hfu : ∀ F2 U2, F2 = (F && (if b.rules[k].nm = nm then decide (b.rules[k].ck ≠ 2) else true)) → U2 = (U && (if b.rules[k].nm = nm then decide (b.rules[k].ck = 2) else true)) → F2 = wallB (b.rules.take (k + 1)) nm ∧ U2 = univB (b.rules.take (k + 1)) nm := by
        intro F2 U2 e1 e2
        rw [take_succ' _ _ hkl, wallB_snoc, univB_snoc, e1, e2, HFU.out.1, HFU.out.2]
        exact ⟨rfl, rfl⟩
      obtain ⟨q, eq⟩ : ∃ q, b.rules[k] = q := ⟨_, rfl⟩
      rw [eq] at hck hfu
      have HFN := Lib.hid hfu
      have up : ∀ j u, w1.cell? ⟨bb, o + k * 11 + j, none⟩ = some u → wr.cell? ⟨bb, o + k * 11 + j, none⟩ = some u := fun j u h => (HBR.out.cell (p := ⟨bb, o + k * 11 + j, none⟩) hbl).trans h
      clear eq hcs hfu
      obtain ⟨nm2, yf, yt, mo, dk, dw, dn, tm, ck, sv, lt⟩ := q
      have z0 := up 0 _ (hck 0 _ rfl)
      have z1 := up 1 _ (hck 1 _ rfl)
      have z2 := up 2 _ (hck 2 _ rfl)
      have z3 := up 3 _ (hck 3 _ rfl)
      have z4 := up 4 _ (hck 4 _ rfl)
      have z5 := up 5 _ (hck 5 _ rfl)
      have z6 := up 6 _ (hck 6 _ rfl)
      have z7 := up 7 _ (hck 7 _ rfl)
      have z8 := up 8 _ (hck 8 _ rfl)
      have z9 := up 9 _ (hck 9 _ rfl)
      have z10 := up 10 _ (hck 10 _ rfl)
      clear up hck
      rw [Nat.add_zero] at z0
      simp only at HFN
      obtain ⟨W2, eW2⟩ : ∃ W2, wr.alloc (.cells #[.string nm2, .int .i64 yf, .int .i64 yt, .int .i64 mo, .int .i64 dk, .int .i64 dw, .int .i64 dn, .int .i64 tm, .int .i64 ck, .int .i64 sv, .string lt] 35) = W2 := ⟨_, rfl⟩
      have hbx2 : RuBx W2 wr.heap.size ⟨nm2, yf, yt, mo, dk, dw, dn, tm, ck, sv, lt⟩ := by rw [← eW2]; exact heap_alloc_new wr _
      have HB2 : Hid (Below w1.heap.size w1 W2) := by rw [← eW2]; exact HBR.out.alloc HBR.out.size _
      obtain ⟨x0, x1, x2, x3, x4, x5, x6, x7, x8, x9, x10⟩ := hbx2.cells
      simp only at x0 x8
      have HEW2 := Lib.hid eW2
      clear eW2 hbx2 x1 x2 x3 x4 x5 x6 x7 x9 x10
      go_upto_region 8 with fail
      rw [HEW2.out]
      clear z0 z1 z2 z3 z4 z5 z6 z7 z8 z9 z10
      by_cases hnm : nm2 = nm
      · have t0 : (nm2.toList == nm.toList) = true := by rw [hnm]; exact beq_self_eq_true _
        simp only [if_pos hnm] at HFN
        clear hnm
        by_cases hck : ck = 2
        · subst hck
          have HF2 := Lib.hid (HFN.out false U (by simp) (by simp))
          clear HFN HFU
          go_wp2_with fail
          cases F <;> cases U
          all_goals go_quiet (fail)
          all_goals go_wp2_with fail
          all_goals go_roundw
          all_goals first
            | exact ⟨k + 1, false, _, by omega, by go_num, rfl, rfl, HF2, Lib.hid (below_drewN HB2.out _)⟩
            | (simp [intOf]; omega)
        · have hz : (ck == 2) = false := by simpa using hck
          have hz2 : (!ck == 2) = true := by rw [hz]; rfl
          have hz3 : (ck != 2) = true := hz2
          have HF2 := Lib.hid (HFN.out F false (by simp [hck]) (by simp [hck]))
          clear HFN HFU hck
          go_wp2_with fail
          cases F <;> cases U
          all_goals go_quiet (fail)
          all_goals go_wp2_with fail
          all_goals go_roundw
          all_goals first
            | exact ⟨k + 1, _, false, by omega, by go_num, by first | rfl | rw [hz3], rfl, HF2, Lib.hid (below_drewN HB2.out _)⟩
            | (simp [intOf]; omega)
      · have t0 : (nm2.toList == nm.toList) = false := bytes_neT hnm
        simp only [if_neg hnm] at HFN
        have HF2 := Lib.hid (HFN.out F U (by simp) (by simp))
        clear hnm HFN HFU
        go_wp2_with fail
        go_roundw
        case rel => exact ⟨k + 1, F, U, by omega, by go_num, rfl, rfl, HF2, HB2⟩
        case measure => simp [intOf]; omega
    · obtain rfl : k = b.rules.length := by omega
      have hfu := HFU.out
      rw [List.take_length] at hfu
      have HL := Lib.hid (east_law (b := b) (nm := nm) (x := X - 64800) (y := Y - 64800) (by omega) (by omega))
      rw [← hfu.1, ← hfu.2] at HL
      have hb3 := HBR.out
      have HX3 := (hb3.block w.heap.size hl1).trans HBX1.out
      have HB3 := Lib.hid (HB1.out.trans (hb3.mono (Nat.le_of_lt hl1)))
      have HBK3 := Lib.hid ((HBK.out.below HB3.out (Nat.le_refl _)).base (Nat.le_of_lt hlr))
      have HOF := Lib.hid (Of_book MK b _ _ _ nm (X - 64800) wr HBK3.out (HM.out.below HB3.out) (HT.out.below HB3.out))
      have g0 := (cell_of_row wr _ 0 _ _ _ HX3).trans rfl
      have g1 := (cell_of_row wr _ 1 _ _ _ HX3).trans rfl
      have g2 := (cell_of_row wr _ 2 _ _ _ HX3).trans rfl
      have HX3' := Lib.hid HX3
      clear hfu hb3 HX3 HBX HFU HBR HRWX y0'
      obtain ⟨W3, eW3⟩ : ∃ W3, wr = W3 := ⟨_, rfl⟩
      rw [eW3] at HOF HB3 g0 g1 g2 HX3' HBK3 hlr ⊢
      clear eW3 hzr
      go_wp2_with fail
      refine HOF.out.mono ?_
      rintro e w4 ⟨vo, rfl, hrow, hb4⟩
      have HLN := Lib.hid (ofR_len b nm (X - 64800))
      have HBD := Lib.hid (ofR_bd (b := b) (nm := nm) (off := X - 64800))
      obtain ⟨R, eR⟩ : ∃ R, ofR b nm (X - 64800) = R := ⟨_, rfl⟩
      rw [eR] at HLN HBD HL hrow ⊢
      obtain ⟨C, L⟩ := R
      simp only at HLN HBD HL hrow ⊢
      obtain ⟨A, cA, rfl⟩ := own_sliceN hrow
      have HB4 := Lib.hid (HB3.out.trans (hb4.mono HB3.out.size))
      have hx4 := (hb4.block w.heap.size hlr).trans HX3'.out
      have hl4 : w.heap.size < w4.heap.size := by have := hb4.size; omega
      have g0 := (cell_of_row w4 _ 0 _ _ _ hx4).trans rfl
      have g1 := (cell_of_row w4 _ 1 _ _ _ hx4).trans rfl
      have g2 := (cell_of_row w4 _ 2 _ _ _ hx4).trans rfl
      have HBK4 := Lib.hid ((HBK.out.below HB4.out (Nat.le_refl _)).base (Nat.le_of_lt hl4))
      have HOF2 := Lib.hid (Of_book MK b _ _ _ nm (Y - 64800) w4 HBK4.out (HM.out.below HB4.out) (HT.out.below HB4.out))
      have HR4 := Lib.hid (own_rowsT hrow (by have := HLN.out; omega))
      clear hb4 hx4 hrow eR HOF HBK3 HX3'
      go_wp2_with fail
      refine HOF2.out.mono ?_
      rintro e w5 ⟨vo2, rfl, hrow2, hb5⟩
      have HB5 := Lib.hid (HB4.out.trans (hb5.mono HB4.out.size))
      have HR5 := Lib.hid (HR4.out.below hb5 (Nat.le_refl _))
      have hR5b := own_rowsT hrow2 (by have := ofR_len b nm (Y - 64800); omega)
      have hh := HL.out
      clear hb5 hrow2 HOF2 HL
      by_cases hFU : F = true ∨ U = true
      · have hh2 := hh hFU
        rw [hh2] at hR5b ⊢
        simp only at hR5b ⊢
        obtain ⟨pv, cv, rfl, -, hS5⟩ := hR5b
        have HS5 := Lib.hid hS5
        have HML : Hid (∀ d, (L.map (shT d)).length = L.length) := fun d => List.length_map _
        rw [HML.out]
        clear hS5 hh2
        have hLn := HLN.out
        by_cases hU : U = true
        · subst hU
          simp only [if_true] at HS5
          cases F
          · skip
            clear hh hFU
            go_wp2_with fail
            go_loopw [83] (fun i wr => ∃ k : Nat, k ≤ L.length ∧ i = .int .i64 k ∧ Hid (∃ nq, wr = w5.drewN nq)) (fun i _ => L.length - (intOf i).toNat)
            case atStart => exact ⟨0, Nat.zero_le _, rfl, Lib.hid ⟨0, rfl⟩⟩
            case round =>
              obtain ⟨k, hk, rfl, HD⟩ := hrel
              by_cases hkl : k < L.length
              · obtain ⟨pz, cz, ez, -, hrw⟩ := HR5.out
                simp only [Value.slice.injEq, true_and] at ez
                obtain ⟨rfl, rfl⟩ := ez
                obtain ⟨b1, o1, rfl, hb1, hc1⟩ := hrw (List.ne_nil_of_length_pos (by omega))
                obtain ⟨b2, o2, rfl, hb2, hc2⟩ := HS5.out (List.ne_nil_of_length_pos (by rw [HML.out 0]; omega))
                have d1 := hc1 k hkl
                have d2 := hc2 k (by rw [HML.out 0]; exact hkl)
                have hMk : (L.map (shT 0))[k]'(by rw [HML.out 0]; exact hkl) = shT 0 L[k] := List.getElem_map _
                rw [hMk] at d2
                have hab := HBD.out L[k] (List.getElem_mem hkl)
                obtain ⟨q, eq⟩ : ∃ q, L[k] = q := ⟨_, rfl⟩
                rw [eq] at d1 d2 hab
                obtain ⟨a, s, lt⟩ := q
                obtain ⟨ha1, ha2⟩ := hab
                simp only at ha1 ha2
                obtain ⟨nq, hq⟩ := HD.out
                have g10 : wr.cell? ⟨b1, o1 + k * 3, none⟩ = some (.int .i64 a) := by rw [hq]; exact d1 0 _ rfl
                have g11 : wr.cell? ⟨b1, o1 + k * 3 + 1, none⟩ = some (.int .i64 s) := by rw [hq]; exact d1 1 _ rfl
                have g12 : wr.cell? ⟨b1, o1 + k * 3 + 2, none⟩ = some (.string lt) := by rw [hq]; exact d1 2 _ rfl
                have g20 : wr.cell? ⟨b2, o2 + k * 3, none⟩ = some (.int .i64 a) := by rw [hq]; exact (d2 0 _ rfl).trans (by simp [shT])
                have g21 : wr.cell? ⟨b2, o2 + k * 3 + 1, none⟩ = some (.int .i64 s) := by rw [hq]; exact d2 1 _ rfl
                have g22 : wr.cell? ⟨b2, o2 + k * 3 + 2, none⟩ = some (.string lt) := by rw [hq]; exact d2 2 _ rfl
                have HQ := Lib.hid hq
                have t0 : (lt.toList == lt.toList) = true := beq_self_eq_true _
                have t1 : (!lt.toList == lt.toList) = false := by rw [t0]; rfl
                clear hrw hc1 hc2 d1 d2 hMk eq hq
                go_wp2_with fail
                go_quiet (fail)
                go_wp2_with fail
                go_roundw
                case rel => exact ⟨k + 1, by omega, by go_num, by rw [HQ.out]; exact Lib.hid ⟨_, World.drewN_drewN _ _ _⟩⟩
                case measure => simp [intOf]; omega
              · obtain ⟨nq, hq⟩ := HD.out
                have HQ := Lib.hid hq
                have m5 : ¬ (k : Int) < (L.length : Int) := by omega
                clear hq
                go_wp2_with fail
                go_ret
                exact ⟨rfl, by rw [HQ.out]; exact below_drewN HB5.out _⟩
          · skip
            clear hh hFU
            go_wp2_with fail
            go_loopw [83] (fun i wr => ∃ k : Nat, k ≤ L.length ∧ i = .int .i64 k ∧ Hid (∃ nq, wr = w5.drewN nq)) (fun i _ => L.length - (intOf i).toNat)
            case atStart => exact ⟨0, Nat.zero_le _, rfl, Lib.hid ⟨0, rfl⟩⟩
            case round =>
              obtain ⟨k, hk, rfl, HD⟩ := hrel
              by_cases hkl : k < L.length
              · obtain ⟨pz, cz, ez, -, hrw⟩ := HR5.out
                simp only [Value.slice.injEq, true_and] at ez
                obtain ⟨rfl, rfl⟩ := ez
                obtain ⟨b1, o1, rfl, hb1, hc1⟩ := hrw (List.ne_nil_of_length_pos (by omega))
                obtain ⟨b2, o2, rfl, hb2, hc2⟩ := HS5.out (List.ne_nil_of_length_pos (by rw [HML.out 0]; omega))
                have d1 := hc1 k hkl
                have d2 := hc2 k (by rw [HML.out 0]; exact hkl)
                have hMk : (L.map (shT 0))[k]'(by rw [HML.out 0]; exact hkl) = shT 0 L[k] := List.getElem_map _
                rw [hMk] at d2
                have hab := HBD.out L[k] (List.getElem_mem hkl)
                obtain ⟨q, eq⟩ : ∃ q, L[k] = q := ⟨_, rfl⟩
                rw [eq] at d1 d2 hab
                obtain ⟨a, s, lt⟩ := q
                obtain ⟨ha1, ha2⟩ := hab
                simp only at ha1 ha2
                obtain ⟨nq, hq⟩ := HD.out
                have g10 : wr.cell? ⟨b1, o1 + k * 3, none⟩ = some (.int .i64 a) := by rw [hq]; exact d1 0 _ rfl
                have g11 : wr.cell? ⟨b1, o1 + k * 3 + 1, none⟩ = some (.int .i64 s) := by rw [hq]; exact d1 1 _ rfl
                have g12 : wr.cell? ⟨b1, o1 + k * 3 + 2, none⟩ = some (.string lt) := by rw [hq]; exact d1 2 _ rfl
                have g20 : wr.cell? ⟨b2, o2 + k * 3, none⟩ = some (.int .i64 a) := by rw [hq]; exact (d2 0 _ rfl).trans (by simp [shT])
                have g21 : wr.cell? ⟨b2, o2 + k * 3 + 1, none⟩ = some (.int .i64 s) := by rw [hq]; exact d2 1 _ rfl
                have g22 : wr.cell? ⟨b2, o2 + k * 3 + 2, none⟩ = some (.string lt) := by rw [hq]; exact d2 2 _ rfl
                have HQ := Lib.hid hq
                have t0 : (lt.toList == lt.toList) = true := beq_self_eq_true _
                have t1 : (!lt.toList == lt.toList) = false := by rw [t0]; rfl
                clear hrw hc1 hc2 d1 d2 hMk eq hq
                go_wp2_with fail
                go_quiet (fail)
                go_wp2_with fail
                go_roundw
                case rel => exact ⟨k + 1, by omega, by go_num, by rw [HQ.out]; exact Lib.hid ⟨_, World.drewN_drewN _ _ _⟩⟩
                case measure => simp [intOf]; omega
              · obtain ⟨nq, hq⟩ := HD.out
                have HQ := Lib.hid hq
                have m5 : ¬ (k : Int) < (L.length : Int) := by omega
                clear hq
                go_wp2_with fail
                go_ret
                exact ⟨rfl, by rw [HQ.out]; exact below_drewN HB5.out _⟩
        · have hF : F = true := hFU.resolve_right hU
          have hU2 : U = false := by simpa using hU
          subst hF
          subst hU2
          simp only [if_neg hU] at HS5
          clear hh hFU
          go_wp2_with fail
          go_loopw [83] (fun i wr => ∃ k : Nat, k ≤ L.length ∧ i = .int .i64 k ∧ Hid (∃ nq, wr = w5.drewN nq)) (fun i _ => L.length - (intOf i).toNat)
          case atStart => exact ⟨0, Nat.zero_le _, rfl, Lib.hid ⟨0, rfl⟩⟩
          case round =>
            obtain ⟨k, hk, rfl, HD⟩ := hrel
            by_cases hkl : k < L.length
            · obtain ⟨pz, cz, ez, -, hrw⟩ := HR5.out
              simp only [Value.slice.injEq, true_and] at ez
              obtain ⟨rfl, rfl⟩ := ez
              obtain ⟨b1, o1, rfl, hb1, hc1⟩ := hrw (List.ne_nil_of_length_pos (by omega))
              obtain ⟨b2, o2, rfl, hb2, hc2⟩ := HS5.out (List.ne_nil_of_length_pos (by rw [HML.out _]; omega))
              have d1 := hc1 k hkl
              have d2 := hc2 k (by rw [HML.out _]; exact hkl)
              have hMk : (L.map (shT (X - 64800 - (Y - 64800))))[k]'(by rw [HML.out _]; exact hkl) = shT (X - 64800 - (Y - 64800)) L[k] := List.getElem_map _
              rw [hMk] at d2
              have hab := HBD.out L[k] (List.getElem_mem hkl)
              obtain ⟨q, eq⟩ : ∃ q, L[k] = q := ⟨_, rfl⟩
              rw [eq] at d1 d2 hab
              obtain ⟨a, s, lt⟩ := q
              obtain ⟨ha1, ha2⟩ := hab
              simp only at ha1 ha2
              obtain ⟨nq, hq⟩ := HD.out
              have g10 : wr.cell? ⟨b1, o1 + k * 3, none⟩ = some (.int .i64 a) := by rw [hq]; exact d1 0 _ rfl
              have g11 : wr.cell? ⟨b1, o1 + k * 3 + 1, none⟩ = some (.int .i64 s) := by rw [hq]; exact d1 1 _ rfl
              have g12 : wr.cell? ⟨b1, o1 + k * 3 + 2, none⟩ = some (.string lt) := by rw [hq]; exact d1 2 _ rfl
              have g20 : wr.cell? ⟨b2, o2 + k * 3, none⟩ = some (.int .i64 (a + (X - 64800 - (Y - 64800)))) := by rw [hq]; exact (d2 0 _ rfl).trans (by simp [shT])
              have g21 : wr.cell? ⟨b2, o2 + k * 3 + 1, none⟩ = some (.int .i64 s) := by rw [hq]; exact d2 1 _ rfl
              have g22 : wr.cell? ⟨b2, o2 + k * 3 + 2, none⟩ = some (.string lt) := by rw [hq]; exact d2 2 _ rfl
              have HQ := Lib.hid hq
              have t0 : (lt.toList == lt.toList) = true := beq_self_eq_true _
              have t1 : (!lt.toList == lt.toList) = false := by rw [t0]; rfl
              clear hrw hc1 hc2 d1 d2 hMk eq hq
              go_wp2_with fail
              go_quiet (fail)
              go_wp2_with fail
              go_roundw
              case rel => exact ⟨k + 1, by omega, by go_num, by rw [HQ.out]; exact Lib.hid ⟨_, World.drewN_drewN _ _ _⟩⟩
              case measure => simp [intOf]; omega
            · obtain ⟨nq, hq⟩ := HD.out
              have HQ := Lib.hid hq
              have m5 : ¬ (k : Int) < (L.length : Int) := by omega
              clear hq
              go_wp2_with fail
              go_ret
              exact ⟨rfl, by rw [HQ.out]; exact below_drewN HB5.out _⟩
      · have hF : F = false := by simpa using fun h => hFU (Or.inl h)
        have hU : U = false := by simpa using fun h => hFU (Or.inr h)
        subst hF
        subst hU
        obtain ⟨R2, eR2⟩ : ∃ R2, ofR b nm (Y - 64800) = R2 := ⟨_, rfl⟩
        rw [eR2] at hR5b ⊢
        obtain ⟨C2, L2⟩ := R2
        simp only at hR5b ⊢
        clear hh hFU eR2 hR5b
        go_wp2_with fail
        go_ret
        exact ⟨rfl, HB5.out⟩
end Go.Proofs.YtlgdilpmdoofiaaDoor
