/- TurnsRise: the walk. -/
import Derived.Test.YtlgdilpmdoofiaaDoorTuB
namespace Go.Proofs.YtlgdilpmdoofiaaDoor
open Go.RowKit Go.Joins
open Classical
set_option linter.unusedVariables false
set_option linter.unusedSimpArgs false

theorem ofR_ok {b : Bk} {nm : ByteArray} {off : Int} (h : (ofR b nm off).1 = 0) : bkChk b = 0 ∧ ofR b nm off = mkR b.rules nm off := by
  by_cases h1 : bkChk b = 0
  · by_cases h2 : off < -64800 ∨ 64800 < off
    · rw [ofR_1 h1 h2] at h; cases h
    · exact ⟨h1, ofR_mk h1 h2⟩
  · rw [ofR_bad h1] at h; exact absurd h h1
theorem mkR_ok {rules : List Ru} {nm : ByteArray} {off : Int} (h : (mkR rules nm off).1 = 0) : outF off 0 none (srt (nomsOf dayN rules nm)) = some (mkR rules nm off).2 := by
  unfold mkR at h ⊢
  by_cases h1 : (rules.any fun r => decide (r.nm = nm)) = false
  · rw [if_pos h1] at h; cases h
  · rw [if_neg h1] at h ⊢
    by_cases h2 : 1500 < yearsOf rules nm
    · rw [if_pos h2] at h; cases h
    · rw [if_neg h2] at h ⊢
      cases e : outF off 0 none (srt (nomsOf dayN rules nm)) with
      | none => rw [e] at h; cases h
      | some l => rfl
theorem ofR_bad2 {b : Bk} {nm : ByteArray} {off : Int} (h : (ofR b nm off).1 ≠ 0) : (ofR b nm off).2 = [] := by
  by_cases h1 : bkChk b = 0
  · by_cases h2 : off < -64800 ∨ 64800 < off
    · rw [ofR_1 h1 h2]
    · rw [ofR_mk h1 h2] at h ⊢
      exact (mkR_len (bk_rules h1).2 nm off).2.2 h
  · rw [ofR_bad h1]
def Rises (l : List Tn) : Prop := ∀ i (h : i + 1 < l.length), l[i].a < l[i + 1].a
theorem ofR_rise {b : Bk} {nm : ByteArray} {off : Int} (h : (ofR b nm off).1 = 0) : Rises (ofR b nm off).2 ∧ ((ofR b nm off).2.length : Int) = yearsOf b.rules nm ∧ b.rules.length ≤ 40 ∧ ∀ r ∈ b.rules, OkRu r := by
  obtain ⟨h1, h2⟩ := ofR_ok h
  obtain ⟨r1, r2⟩ := bk_rules h1
  rw [h2] at h ⊢
  exact ⟨(outF_rise _ _ _ _ _ (mkR_ok h)).2, (mkR_len r2 nm off).2.1 h, r1, r2⟩

set_option maxRecDepth 100000 in
set_option maxHeartbeats 8000000 in
theorem TurnsRise_walk (MK : MakeSays) (b : Bk) (rv zv lv : Value) (nm : ByteArray) (off : Int) (w : World) (hB : BookAt w.heap.size w rv zv lv b) (hm : MaxLen w) (ht : Tab10 w) :
    Calls Tryd.prog 3 #[.agg #[rv, zv, lv], .string nm, .int .i64 off] w fun e w' => e = .returned (.bool true) ∧ Below w.heap.size w w' := by
  have hr := hB.r
  have hz := hB.z
  have hl := hB.l
  obtain ⟨p1, c1, rfl, hlen1, hrow1⟩ := hr
  obtain ⟨p2, c2, rfl, hlen2, hrow2⟩ := hz
  obtain ⟨p3, c3, rfl, hlen3, hrow3⟩ := hl
  obtain ⟨W0, eW⟩ : ∃ W0, w.alloc (.cells #[.slice p1 b.rules.length c1, .slice p2 b.zones.length c2, .slice p3 b.links.length c3] 26) = W0 := ⟨_, rfl⟩
  have hb0 : Below w.heap.size w W0 := by rw [← eW]; exact (Below.refl _ _).alloc (Nat.le_refl _) _
  have hbx : W0.heap[w.heap.size]? = some (.cells #[.slice p1 b.rules.length c1, .slice p2 b.zones.length c2, .slice p3 b.links.length c3] 26 (0, 0)) := by rw [← eW]; exact heap_alloc_new w _
  have hl0 : w.heap.size < W0.heap.size := by rw [← eW]; simp
  have HEW := Lib.hid eW
  have HB0 := Lib.hid hb0
  have HBX := Lib.hid hbx
  have HBK := Lib.hid hB
  have HRROW := Lib.hid hB.r
  have HTU := Lib.hid (turned_any MK W0 (hm.below hb0) (ht.below hb0))
  have HM := Lib.hid hm
  have HT := Lib.hid ht
  clear eW hb0 hbx hB hm ht hrow1 hrow2 hrow3
  go_enter Tryd.func3, Tryd.ntmps3
  go_upto_region 1 with fail
  rw [HEW.out]
  go_wp2_with fail
  refine HTU.out.mono ?_
  rintro e w1 ⟨rfl, hb1⟩
  have HB1 := Lib.hid (HB0.out.trans (hb1.mono HB0.out.size))
  have hx1 := (hb1.block w.heap.size hl0).trans HBX.out
  have HBX1 := Lib.hid hx1
  have hl1 : w.heap.size < w1.heap.size := by have := hb1.size; omega
  have x0 := (cell_of_row w1 _ 0 _ _ _ hx1).trans rfl
  have x1 := (cell_of_row w1 _ 1 _ _ _ hx1).trans rfl
  have x2 := (cell_of_row w1 _ 2 _ _ _ hx1).trans rfl
  have HBK1 := Lib.hid ((HBK.out.below HB1.out (Nat.le_refl _)).base (Nat.le_of_lt hl1))
  have HOF := Lib.hid (Of_book MK b _ _ _ nm off w1 HBK1.out (HM.out.below HB1.out) (HT.out.below HB1.out))
  clear hb1 hx1 HTU
  go_wp2_with fail
  refine HOF.out.mono ?_
  have HRI := Lib.hid (ofR_rise (b := b) (nm := nm) (off := off))
  have HBD := Lib.hid (ofR_bad2 (b := b) (nm := nm) (off := off))
  have HLN := Lib.hid (ofR_len b nm off)
  obtain ⟨R, eR⟩ : ∃ R, ofR b nm off = R := ⟨_, rfl⟩
  rw [eR] at HRI HBD HLN ⊢
  obtain ⟨C, L⟩ := R
  simp only at HRI HBD HLN
  clear eR HOF
  rintro e w2 ⟨vo, rfl, hrow, hb2⟩
  simp only at hrow ⊢
  obtain ⟨A, cA, rfl⟩ := own_sliceN hrow
  have HB2 := Lib.hid (HB1.out.trans (hb2.mono HB1.out.size))
  have HRW := Lib.hid (HRROW.out.below (HB1.out.trans (hb2.mono HB1.out.size)) (Nat.le_refl _))
  have HR2 := Lib.hid (own_rowsT hrow (by have := HLN.out; omega))
  have hx2 := (hb2.block w.heap.size hl1).trans HBX1.out
  have y0 := (cell_of_row w2 _ 0 _ _ _ hx2).trans rfl
  have hl2 : w.heap.size < w2.heap.size := by have := hb2.size; omega
  have hLn := HLN.out
  clear hb2 hx2 hrow x0 x1 x2
  by_cases hC : C = 0
  · subst hC
    obtain ⟨hri, hle, hrl, hok⟩ := HRI.out rfl
    have HRS := Lib.hid hri
    have HLE := Lib.hid hle
    have HOK := Lib.hid hok
    clear hri hle hok HRI HBD
    obtain ⟨pz, cz, ez, -, hrw⟩ := HRW.out.mono (Nat.le_of_lt hl2)
    simp only [Value.slice.injEq, true_and] at ez
    obtain ⟨rfl, rfl⟩ := ez
    have HRWX := Lib.hid hrw
    clear hrw HRW
    have hyb := yearsOf_bd nm b.rules fun r hr => by have o := HOK.out r hr; exact ⟨o.f1, o.t1, o.t2⟩
    have HN : Hid ((L.length : Int) = yearsOf b.rules nm) := HLE
    obtain ⟨Y, eY⟩ : ∃ Y, yearsOf b.rules nm = Y := ⟨_, rfl⟩
    have EY := Lib.hid eY
    clear eY
    go_wp2_with fail
    go_loopw [9, 30] (fun v9 i wr => ∃ (k : Nat) (Y : Int), k ≤ b.rules.length ∧ i = .int .i64 k ∧ v9 = .int .i64 Y ∧ 0 ≤ Y ∧ Y ≤ 201 * k ∧ Hid (Y = yearsOf (b.rules.take k) nm) ∧ Hid (Below w2.heap.size w2 wr)) (fun _ i _ => b.rules.length - (intOf i).toNat)
    case atStart => exact ⟨0, 0, Nat.zero_le _, rfl, rfl, by omega, by omega, rfl, Lib.hid (Below.refl _ _)⟩
    case round =>
      obtain ⟨k, Y1, hk, rfl, rfl, hY0, hY1, HY, HBR⟩ := hrel
      have hzr := HBR.out.size
      have hlr : w.heap.size < wr.heap.size := by omega
      by_cases hkl : k < b.rules.length
      · obtain ⟨bb, o, rfl, hbl, hcs⟩ := (HRWX.out) (List.ne_nil_of_length_pos (by omega))
        have hck := hcs k hkl
        have HOK1 := Lib.hid (HOK.out b.rules[k] (List.getElem_mem hkl))
        have hy : ∀ Z, Z = Y1 + (if b.rules[k].nm = nm then b.rules[k].yt - b.rules[k].yf + 1 else 0) → Z = yearsOf (b.rules.take (k + 1)) nm := by
          intro Z hZ
          rw [take_succ' _ _ hkl, yearsOf_snoc, hZ, HY.out]
        obtain ⟨q, eq⟩ : ∃ q, b.rules[k] = q := ⟨_, rfl⟩
        rw [eq] at hck HOK1 hy
        have HYN := Lib.hid hy
        have up : ∀ j u, w2.cell? ⟨bb, o + k * 11 + j, none⟩ = some u → wr.cell? ⟨bb, o + k * 11 + j, none⟩ = some u := fun j u h => (HBR.out.cell (p := ⟨bb, o + k * 11 + j, none⟩) hbl).trans h
        clear eq hcs hy
        obtain ⟨nm2, yf, yt, mo, dk, dw, dn, tm, ck, sv, lt⟩ := q
        have z0 := up 0 _ (hck 0 _ rfl)
        have z1 := up 1 _ (hck 1 _ rfl)
        have z2 := up 2 _ (hck 2 _ rfl)
        have z3 := up 3 _ (hck 3 _ rfl)
        have z4 := up 4 _ (hck 4 _ rfl)
        have z5 := up 5 _ (hck 5 _ rfl)
        have z6 := up 6 _ (hck 6 _ rfl)
        have z7 := up 7 _ (hck 7 _ rfl)
        have z8 := up 8 _ (hck 8 _ rfl)
        have z9 := up 9 _ (hck 9 _ rfl)
        have z10 := up 10 _ (hck 10 _ rfl)
        clear up hck
        rw [Nat.add_zero] at z0
        obtain ⟨f1, f2, t1, t2⟩ := And.intro HOK1.out.f1 (And.intro HOK1.out.f2 (And.intro HOK1.out.t1 HOK1.out.t2))
        simp only at f1 f2 t1 t2
        by_cases hnm : nm2 = nm
        · have t0 : (nm2.toList == nm.toList) = true := by rw [hnm]; exact beq_self_eq_true _
          have HY2 := Lib.hid (HYN.out (Y1 + (yt - yf + 1)) (by rw [if_pos hnm]))
          clear hnm HYN
          go_wp2_with fail
          go_roundw
          case rel => exact ⟨k + 1, Y1 + (yt - yf + 1), by omega, by go_num, by go_num, by omega, by omega, HY2, Lib.hid (HBR.out.alloc HBR.out.size _)⟩
          case measure => simp [intOf]; omega
        · have t0 : (nm2.toList == nm.toList) = false := bytes_neT hnm
          have HY2 := Lib.hid (HYN.out Y1 (by rw [if_neg hnm, Int.add_zero]))
          clear hnm HYN
          go_wp2_with fail
          go_roundw
          case rel => exact ⟨k + 1, Y1, by omega, by go_num, rfl, by omega, by omega, HY2, Lib.hid (HBR.out.alloc HBR.out.size _)⟩
          case measure => simp [intOf]; omega
      · obtain rfl : k = b.rules.length := by omega
        have hY2 := HY.out
        rw [List.take_length, EY.out] at hY2
        subst hY2
        have HLR := Lib.hid (HR2.out.below HBR.out (Nat.le_refl _))
        have HBW := Lib.hid (HB2.out.trans (HBR.out.mono (Nat.le_of_lt hl2)))
        have hle2 := HN.out
        rw [EY.out] at hle2
        clear HRWX HLE HN
        obtain ⟨W3, eW3⟩ : ∃ W3, wr = W3 := ⟨_, rfl⟩
        rw [eW3] at HLR HBW ⊢
        clear eW3
        go_wp2_with fail
        go_loopw [12] (fun i wr => ∃ k : Nat, 1 ≤ k ∧ k ≤ L.length + 1 ∧ i = .int .i64 k ∧ Hid (∃ nq, wr = W3.drewN nq)) (fun i _ => L.length + 1 - (intOf i).toNat)
        case atStart => exact ⟨1, Nat.le_refl _, by omega, rfl, Lib.hid ⟨0, rfl⟩⟩
        case round =>
          obtain ⟨k, hk1, hk2, rfl, HD⟩ := hrel
          by_cases hkl : k < L.length
          · obtain ⟨pz, cz, ez, -, hrw⟩ := HLR.out
            simp only [Value.slice.injEq, true_and] at ez
            obtain ⟨rfl, rfl⟩ := ez
            obtain ⟨bb, o, rfl, hbl, hcs⟩ := hrw (List.ne_nil_of_length_pos (by omega))
            have hri := HRS.out (k - 1) (by omega)
            have hc1 := hcs (k - 1) (by omega) 0 _ rfl
            have hc2 := hcs k hkl 0 _ rfl
            have e1 : L[k - 1 + 1]'(by omega) = L[k] := by congr 1; omega
            rw [e1] at hri
            obtain ⟨x, ex⟩ : ∃ x, (L[k - 1]'(by omega)).a = x := ⟨_, rfl⟩
            obtain ⟨y, ey⟩ : ∃ y, L[k].a = y := ⟨_, rfl⟩
            rw [ex] at hri hc1
            rw [ey] at hri hc2
            obtain ⟨nq, hq⟩ := HD.out
            have g1 : wr.cell? ⟨bb, o + (k - 1) * 3, none⟩ = some (.int .i64 x) := by rw [hq]; exact hc1
            have g2 : wr.cell? ⟨bb, o + k * 3, none⟩ = some (.int .i64 y) := by rw [hq]; exact hc2
            have HQ := Lib.hid hq
            have m1 : (0 : Int) ≤ (k : Int) - 1 := by omega
            have m2 : (k : Int) - 1 < (L.length : Int) := by omega
            have m3 : ((k : Int) - 1).toNat = k - 1 := by omega
            have m4 : k - 1 < L.length := by omega
            have m5 : (k : Int) < (L.length : Int) := by omega
            have m6 : ¬ y ≤ x := by omega
            clear hrw hcs hc1 hc2 e1 ex ey hq HRS
            go_wp2_with fail
            go_quiet (fail)
            go_wp2_with fail
            go_roundw
            case rel => exact ⟨k + 1, by omega, by omega, by go_num, by rw [HQ.out]; exact Lib.hid ⟨_, World.drewN_drewN _ _ _⟩⟩
            case measure => simp [intOf]; omega
          · obtain ⟨nq, hq⟩ := HD.out
            have HQ := Lib.hid hq
            have m5 : ¬ (k : Int) < (L.length : Int) := by omega
            have m7 : ((L.length : Int) == Y1) = true := by rw [hle2]; simp
            clear hq
            go_wp2_with fail
            go_ret
            exact ⟨rfl, by rw [HQ.out]; exact below_drewN HBW.out _⟩
  · have hCz : (C == 0) = false := by simpa using hC
    have hCz2 : (!(C == 0)) = true := by rw [hCz]; rfl
    have hL0 := HBD.out hC
    subst hL0
    clear hC
    go_wp2_with fail
    go_ret
    exact ⟨rfl, HB2.out⟩
end Go.Proofs.YtlgdilpmdoofiaaDoor
