/- table.Make: the walk. A span that a law draws. slices.Equal and the reference's Eq of types and of changes; TableEq. norm.Norm, norm.check, norm.Same, TableEq: what each returns. TableEq: what it returns. Laws of tables: what table.Make hands back, as a table in memory and in a box. Rows of literals. -/
import Derived.Test.YthggojpdcgcmaaaGreatDoorQ12
import Derived.Test.YthggojpdcgcmaaaGreatDoorQ01
import Derived.Test.YthggojpdcgcmaaaGreatDoorQ11
import Derived.Test.YthggojpdcgcmaaaGreatDoorQ02
namespace Go.Proofs.YthggojpdcgcmaaaGreatDoor
open Go.RowKit Go.Joins Go.Maps
open Classical
set_option linter.unusedVariables false
set_option linter.unusedSimpArgs false

set_option maxRecDepth 1000000 in
set_option maxHeartbeats 20000000 in
theorem MakeT_any (MK : MakeSays) (b : Bk) (rv zv lv : Value) (nm : ByteArray) (fr te : Int) (w : World) (hB : BookAt w.heap.size w rv zv lv b) (hn : nm.size ≤ 140737488351232) (hf1 : -4611686018427387904 ≤ fr) (hf2 : fr ≤ 4611686018427387904) (ht1 : -4611686018427387904 ≤ te) (ht2 : te ≤ 4611686018427387904) (hm : MaxLen w) (ht : Tab10 w) :
    Calls Tryz.prog 19 #[.agg #[rv, zv, lv], .string nm, .agg #[.int .i64 fr, .int .i64 te]] w (MkTPost (mkT b nm fr te) w) := by
  have HBK := Lib.hid hB
  obtain ⟨p1, c1, rfl, -, -⟩ := hB.r
  obtain ⟨p2, c2, rfl, -, -⟩ := hB.z
  obtain ⟨p3, c3, rfl, -, -⟩ := hB.l
  obtain ⟨W0, eW⟩ : ∃ W0, ((w.alloc (.cells #[.slice p1 b.rules.length c1, .slice p2 b.zones.length c2, .slice p3 b.links.length c3] 26)).alloc (.cells #[.int .i64 fr, .int .i64 te] 47)).alloc (.cells #[.slice none 0 0, .int .i64 0, .slice none 0 0] 52) = W0 := ⟨_, rfl⟩
  have hb0 : Below w.heap.size w W0 := by rw [← eW]; exact (((Below.refl _ _).alloc (Nat.le_refl _) _).alloc (by simp) _).alloc (by simp; omega) _
  have hz0 : W0.heap.size = w.heap.size + 3 := by rw [← eW]; simp
  have hbx : W0.heap[w.heap.size]? = some (.cells #[.slice p1 b.rules.length c1, .slice p2 b.zones.length c2, .slice p3 b.links.length c3] 26 (0, 0)) := by
    rw [← eW, Below.heap_alloc _ _ _ (by simp; omega), Below.heap_alloc _ _ _ (by simp)]
    exact heap_alloc_new w _
  have hsx : W0.heap[w.heap.size + 1]? = some (.cells #[.int .i64 fr, .int .i64 te] 47 (0, 0)) := by
    rw [← eW, Below.heap_alloc _ _ _ (by simp)]
    exact alloc_at _ _ _ (by simp)
  have hrx : W0.heap[w.heap.size + 1 + 1]? = some (.cells #[.slice none 0 0, .int .i64 0, .slice none 0 0] 52 (0, 0)) := by
    rw [← eW]
    exact alloc_at _ _ _ (by simp)
  have hl0 : w.heap.size + 1 + 1 < W0.heap.size := by omega
  have HEW := Lib.hid eW
  have HRX := Lib.hid hrx
  have HB0 := Lib.hid hb0
  have HM := Lib.hid hm
  have HT := Lib.hid ht
  have HRS := Lib.hid (Resolve_any b _ _ _ nm W0 ((hB.below hb0 (Nat.le_refl _)).baseN hb0.size) hn (hm.below hb0) (ht.below hb0))
  have HNO := Lib.hid (fun c h => mkT_none (b := b) (nm := nm) (c := c) h fr te)
  have HSO := Lib.hid (fun z c h => mkT_of (b := b) (nm := nm) (z := z) (c := c) h fr te)
  have HRV := Lib.hid (fun z c h => rsv_zero (b := b) (nm := nm) (z := z) (c := c) h)
  have HRN := Lib.hid (fun c h => rsv_not0 (b := b) (nm := nm) (c := c) h)
  obtain ⟨S, eS⟩ : ∃ S, mkT b nm fr te = S := ⟨_, rfl⟩
  rw [eS] at HNO HSO ⊢
  obtain ⟨R, eR⟩ : ∃ R, rsv b nm = R := ⟨_, rfl⟩
  rw [eR] at HRS HNO HSO HRV HRN
  -- an error's end
  have FIN : Hid (∀ (W' : World) (c : Int), Below W0.heap.size W0 W' → S = (c, zTab) → ∃ W9, ((W'.setCell ⟨w.heap.size + 1 + 1, 0, none⟩ (.slice none 0 0)).setCell ⟨w.heap.size + 1 + 1, 1, none⟩ (.int .i64 0)).setCell ⟨w.heap.size + 1 + 1, 2, none⟩ (.slice none 0 0) = W9 ∧ W9.cell? ⟨w.heap.size + 1 + 1, 0, none⟩ = some (.slice none 0 0) ∧ W9.cell? ⟨w.heap.size + 1 + 1, 1, none⟩ = some (.int .i64 0) ∧ W9.cell? ⟨w.heap.size + 1 + 1, 2, none⟩ = some (.slice none 0 0) ∧ MkTPost S w (.returned (.tuple #[.agg #[.slice none 0 0, .int .i64 0, .slice none 0 0], .int .i64 c])) W9) := by
    show ∀ W' c, _
    intro W' c hb hS
    obtain ⟨W9, e9, hh9, hb9⟩ := end_three ((hb.block (w.heap.size + 1 + 1) hl0).trans hrx) (.slice none 0 0) (.int .i64 0) (.slice none 0 0)
    exact ⟨W9, e9, (cell_of_row W9 _ 0 _ _ _ hh9).trans rfl, (cell_of_row W9 _ 1 _ _ _ hh9).trans rfl, (cell_of_row W9 _ 2 _ _ _ hh9).trans rfl, MkTPost.bad hS ((HB0.out.trans (hb.mono HB0.out.size)).trans (hb9 _ (by omega)))⟩
  have RES : Hid (∀ (W' : World), Below W0.heap.size W0 W' → W'.cell? ⟨w.heap.size + 1 + 1, 0, none⟩ = some (.slice none 0 0) ∧ W'.cell? ⟨w.heap.size + 1 + 1, 1, none⟩ = some (.int .i64 0) ∧ W'.cell? ⟨w.heap.size + 1 + 1, 2, none⟩ = some (.slice none 0 0) ∧ W'.frozen? ⟨w.heap.size + 1 + 1, 0, none⟩ = false ∧ W'.frozen? ⟨w.heap.size + 1 + 1, 1, none⟩ = false ∧ W'.frozen? ⟨w.heap.size + 1 + 1, 2, none⟩ = false) := by
    show ∀ W', _
    intro W' hb
    have h2 := (hb.block (w.heap.size + 1 + 1) hl0).trans hrx
    exact ⟨(cell_of_row W' _ 0 _ _ _ h2).trans rfl, (cell_of_row W' _ 1 _ _ _ h2).trans rfl, (cell_of_row W' _ 2 _ _ _ h2).trans rfl, by simp [World.frozen?, h2], by simp [World.frozen?, h2], by simp [World.frozen?, h2]⟩
  have BOX : Hid (∀ (W' : World), Below W0.heap.size W0 W' → W'.cell? ⟨w.heap.size, 0, none⟩ = some (.slice p1 b.rules.length c1) ∧ W'.cell? ⟨w.heap.size, 1, none⟩ = some (.slice p2 b.zones.length c2) ∧ W'.cell? ⟨w.heap.size, 2, none⟩ = some (.slice p3 b.links.length c3) ∧ W'.cell? ⟨w.heap.size + 1, 0, none⟩ = some (.int .i64 fr) ∧ W'.cell? ⟨w.heap.size + 1, 1, none⟩ = some (.int .i64 te)) := by
    show ∀ W', _
    intro W' hb
    have h2 := (hb.block w.heap.size (by omega)).trans hbx
    have h3 := (hb.block (w.heap.size + 1) (by omega)).trans hsx
    exact ⟨(cell_of_row W' _ 0 _ _ _ h2).trans rfl, (cell_of_row W' _ 1 _ _ _ h2).trans rfl, (cell_of_row W' _ 2 _ _ _ h2).trans rfl, (cell_of_row W' _ 0 _ _ _ h3).trans rfl, (cell_of_row W' _ 1 _ _ _ h3).trans rfl⟩
  have HNN := Lib.hid (fun c W => MakeNone_any c W)
  obtain ⟨x0, x1, x2, -, -⟩ := BOX.out W0 (Below.refl _ _)
  clear eW hb0 hbx hsx hrx hB hm ht eS eR
  go_enter Tryz.func19, Tryz.ntmps19
  go_upto_region 2 with fail
  rw [HEW.out]
  go_wp2_with fail
  refine HRS.out.mono ?_
  obtain ⟨Z, C⟩ := R
  rintro e w1 ⟨vo, rfl, hrow, hb1⟩
  simp only at hrow ⊢
  obtain ⟨A, cA, rfl⟩ := own_sliceN hrow
  obtain ⟨W2, e2⟩ : ∃ W2, w1.alloc (.cells #[.string (zNm Z), .slice A (zEr Z).length cA] 38) = W2 := ⟨_, rfl⟩
  obtain ⟨zb, ezb⟩ : ∃ zb, w1.heap.size = zb := ⟨_, rfl⟩
  have hzb : W0.heap.size ≤ zb := by rw [← ezb]; exact hb1.size
  have hx2 : W2.heap[zb]? = some (.cells #[.string (zNm Z), .slice A (zEr Z).length cA] 38 (0, 0)) := by rw [← e2]; exact alloc_at _ _ _ ezb.symm
  have hb2 : Below w1.heap.size w1 W2 := by rw [← e2]; exact (Below.refl _ _).alloc (Nat.le_refl _) _
  have hz2 : zb < W2.heap.size := by rw [← e2]; simp; omega
  have HB2 := Lib.hid (hb1.trans (hb2.mono hb1.size))
  have HX2 := Lib.hid hx2
  have HE2 := Lib.hid e2
  have HRW2 := Lib.hid (own_keep hrow fun g e => hb2.block g (World.ownsRow.lt hrow g e).2)
  clear hrow hb1 hb2 hx2 HRS x0 x1 x2 e2
  go_upto_region 3 with fail
  rw [HE2.out]
  cases Z with
  | none =>
    have hC := HRN.out C rfl
    have hS := HNO.out C rfl
    have hz : (C == 0) = false := by simpa using hC
    have hzz : (!C == 0) = true := by rw [hz]; rfl
    have HFI := Lib.hid (fun W' hb => FIN.out W' C hb hS)
    clear hC hS HNO HSO HRV HRN FIN BOX HRW2 HX2
    go_wp2_with fail
    refine (HNN.out C _).mono ?_
    rintro e w3 ⟨rfl, hb3⟩
    have HB3 := Lib.hid (HB2.out.trans (hb3.mono HB2.out.size))
    obtain ⟨r0, r1, r2, f0, f1, f2⟩ := RES.out w3 HB3.out
    clear hb3 RES
    go_wp2_with fail
    obtain ⟨W9, e9, v0, v1, v2, hP⟩ := HFI.out w3 HB3.out
    rw [e9]
    exact bodyPost_ret (v := .tuple #[.agg #[.slice none 0 0, .int .i64 0, .slice none 0 0], .int .i64 C]) (by simp [results, Tryz.results19, go_sem, v0, v1, v2]) rfl hP
  | some z =>
    obtain ⟨hC, hzz, hbk⟩ := HRV.out z C rfl
    subst hC
    have hS := HSO.out z 0 rfl
    have hE0 := bk_eras hbk hzz
    have HE0 := Lib.hid hE0
    have HBKC := Lib.hid hbk
    have HSS := Lib.hid hS
    have hel := hE0.le
    simp only [zNm, zEr] at HX2 HE2 HRW2 ⊢
    clear hS hzz hbk HNO HSO HRV HRN hE0
    obtain ⟨g0, g1, g2, g3, g4⟩ := BOX.out W2 HB2.out
    obtain ⟨W3, e3⟩ : ∃ W3, W2.alloc (.cells #[.int .i64 fr, .int .i64 te] 3) = W3 := ⟨_, rfl⟩
    obtain ⟨ib, eib⟩ : ∃ ib, W2.heap.size = ib := ⟨_, rfl⟩
    have hb3 : Below W2.heap.size W2 W3 := by rw [← e3]; exact (Below.refl _ _).alloc (Nat.le_refl _) _
    have hi3 : W3.heap[ib]? = some (.cells #[.int .i64 fr, .int .i64 te] 3 (0, 0)) := by rw [← e3]; exact alloc_at _ _ _ eib.symm
    have hz3 : ib < W3.heap.size := by rw [← e3]; simp; omega
    have HB3 := Lib.hid (HB2.out.trans (hb3.mono HB2.out.size))
    have HX3 := Lib.hid ((hb3.block zb hz2).trans HX2.out)
    have hzb3 : zb < W3.heap.size := by omega
    have HRW3 := Lib.hid (own_keep HRW2.out fun g e => hb3.block g (World.ownsRow.lt HRW2.out g e).2)
    have HI3 := Lib.hid hi3
    have HE3 := Lib.hid e3
    have HST : Hid (∀ (W : World) (t : Int), Below w.heap.size w W → -4611686018427387904 ≤ t → t ≤ 4611686018427387904 → Calls Tryz.prog 29 #[.int .i64 t] W fun e w' => (∃ s, e = .returned (.tuple #[.string s, .int .i64 (stampE t)])) ∧ Below W.heap.size W w') := by
      show ∀ W t, _
      intro W t hb h1 h2
      exact Stamp_any t W (by omega) (by omega) (HT.out.below hb)
    have HS1 : Hid (stampE fr ≠ 0 → S = (stampE fr, zTab)) := by
      show _ → _
      intro h
      rw [HSS.out]; unfold mkE; rw [if_pos h]
    have HS2 : Hid (stampE fr = 0 → stampE te ≠ 0 → S = (stampE te, zTab)) := by
      show _ → _ → _
      intro h h2
      rw [HSS.out]; unfold mkE; rw [if_neg (fun g => g h), if_pos h2]
    clear hb3 hi3 e3 HX2 HRW2
    have HIB := Lib.hid eib
    clear eib
    go_upto_region 5 with fail
    go_wp2_with fail
    rw [HE3.out, HIB.out]
    have HBW3 := Lib.hid (HB0.out.trans (HB3.out.mono HB0.out.size))
    go_loopw [41] (fun i wr => ∃ k : Nat, k ≤ 2 ∧ i = .int .i64 k ∧ (0 < k → stampE fr = 0) ∧ (1 < k → stampE te = 0) ∧ Hid (Below W3.heap.size W3 wr)) (fun i _ => 2 - (intOf i).toNat)
    case atStart => exact ⟨0, by omega, rfl, fun h => absurd h (by omega), fun h => absurd h (by omega), Lib.hid (Below.refl _ _)⟩
    case round =>
      obtain ⟨k, hk, rfl, hs1, hs2, HBR⟩ := hrel
      have hzr := HBR.out.size
      have HBWr := Lib.hid (HBW3.out.trans (HBR.out.mono HBW3.out.size))
      have hi := (HBR.out.block ib hz3).trans HI3.out
      have i0 : wr.cell? ⟨ib, 0, none⟩ = some (.int .i64 fr) := (cell_of_row wr _ 0 _ _ _ hi).trans rfl
      have i1 : wr.cell? ⟨ib, 1, none⟩ = some (.int .i64 te) := (cell_of_row wr _ 1 _ _ _ hi).trans rfl
      clear hi
      by_cases hk0 : k = 0
      · subst hk0
        have HSC := Lib.hid (HST.out wr fr HBWr.out hf1 hf2)
        obtain ⟨E, eE⟩ : ∃ E, stampE fr = E := ⟨_, rfl⟩
        rw [eE] at HSC
        have HEE := Lib.hid eE
        clear eE
        go_wp2_with fail
        refine HSC.out.mono ?_
        rintro e w4 ⟨⟨s4, rfl⟩, hb4⟩
        have HB4 := Lib.hid (HBR.out.trans (hb4.mono hzr))
        clear hb4 HSC
        by_cases hE : E = 0
        · subst hE
          go_wp2_with fail
          go_roundw
          case rel => exact ⟨0 + 1, by omega, by go_num, fun _ => HEE.out, fun h => absurd h (by omega), HB4⟩
          case measure => simp [intOf]
        · have hz : (E == 0) = false := by simpa using hE
          have hzz : (!E == 0) = true := by rw [hz]; rfl
          have HSE : Hid (S = (E, zTab)) := by show _ = _; have := HS1.out (by rw [HEE.out]; exact hE); rwa [HEE.out] at this
          have HB5 := Lib.hid (HB3.out.trans (HB4.out.mono HB3.out.size))
          clear hE
          have HFI := Lib.hid (fun W' hb => FIN.out W' E hb HSE.out)
          clear FIN BOX HSS HS1 HS2 HRW3 HX3 HI3 HE0
          go_wp2_with fail
          refine (HNN.out E _).mono ?_
          rintro e w9 ⟨rfl, hb9⟩
          have HB9 := Lib.hid (HB5.out.trans (hb9.mono HB5.out.size))
          obtain ⟨r0, r1, r2, f0, f1, f2⟩ := RES.out w9 HB9.out
          clear hb9 RES
          go_wp2_with fail
          obtain ⟨W9, e9, v0, v1, v2, hP⟩ := HFI.out w9 HB9.out
          rw [e9]
          exact bodyPost_ret (v := .tuple #[.agg #[.slice none 0 0, .int .i64 0, .slice none 0 0], .int .i64 (E)]) (by simp [results, Tryz.results19, go_sem, v0, v1, v2]) rfl hP
      · by_cases hk1 : k = 1
        · subst hk1
          have HS0 := Lib.hid (hs1 (by omega))
          have HSC := Lib.hid (HST.out wr te HBWr.out ht1 ht2)
          obtain ⟨E, eE⟩ : ∃ E, stampE te = E := ⟨_, rfl⟩
          rw [eE] at HSC
          have HEE := Lib.hid eE
          clear eE
          go_wp2_with fail
          refine HSC.out.mono ?_
          rintro e w4 ⟨⟨s4, rfl⟩, hb4⟩
          have HB4 := Lib.hid (HBR.out.trans (hb4.mono hzr))
          clear hb4 HSC
          by_cases hE : E = 0
          · subst hE
            go_wp2_with fail
            go_roundw
            case rel => exact ⟨1 + 1, by omega, by go_num, fun _ => HS0.out, fun _ => HEE.out, HB4⟩
            case measure => simp [intOf]
          · have hz : (E == 0) = false := by simpa using hE
            have hzz : (!E == 0) = true := by rw [hz]; rfl
            have HSE : Hid (S = (E, zTab)) := by show _ = _; have := HS2.out HS0.out (by rw [HEE.out]; exact hE); rwa [HEE.out] at this
            have HB5 := Lib.hid (HB3.out.trans (HB4.out.mono HB3.out.size))
            clear hE
            have HFI := Lib.hid (fun W' hb => FIN.out W' E hb HSE.out)
            clear FIN BOX HSS HS1 HS2 HRW3 HX3 HI3 HE0
            go_wp2_with fail
            refine (HNN.out E _).mono ?_
            rintro e w9 ⟨rfl, hb9⟩
            have HB9 := Lib.hid (HB5.out.trans (hb9.mono HB5.out.size))
            obtain ⟨r0, r1, r2, f0, f1, f2⟩ := RES.out w9 HB9.out
            clear hb9 RES
            go_wp2_with fail
            obtain ⟨W9, e9, v0, v1, v2, hP⟩ := HFI.out w9 HB9.out
            rw [e9]
            exact bodyPost_ret (v := .tuple #[.agg #[.slice none 0 0, .int .i64 0, .slice none 0 0], .int .i64 (E)]) (by simp [results, Tryz.results19, go_sem, v0, v1, v2]) rfl hP
        · obtain rfl : k = 2 := by omega
          have HSA := Lib.hid (hs1 (by omega))
          have HSB := Lib.hid (hs2 (by omega))
          have HB4 := Lib.hid (HB3.out.trans (HBR.out.mono HB3.out.size))
          have HX4 := Lib.hid ((HBR.out.block zb hzb3).trans HX3.out)
          have hzb4 : zb < wr.heap.size := by omega
          have HRW4 := Lib.hid (own_keep HRW3.out fun g e => HBR.out.block g (World.ownsRow.lt HRW3.out g e).2)
          obtain ⟨w4, e4⟩ : ∃ w4, wr = w4 := ⟨_, rfl⟩
          rw [e4] at HB4 HX4 hzb4 HRW4 ⊢
          obtain ⟨g0, g1, g2, g3, g4⟩ := BOX.out w4 HB4.out
          clear e4 HBR hzr HBWr i0 i1 hs1 hs2 hk0 hk1 HS1 HS2 HRW3 HX3 HI3
          go_upto_region 12 with fail
          have hWB := HB0.out.trans (HB4.out.mono HB0.out.size)
          by_cases hle : te ≤ fr
          · have hS1 : S = (1, zTab) := by rw [HSS.out]; unfold mkE; rw [if_neg (fun h => h HSA.out), if_neg (fun h => h HSB.out), if_pos hle]
            have HS1 := Lib.hid hS1
            clear hS1 hWB
            have HFI := Lib.hid (fun W' hb => FIN.out W' 1 hb HS1.out)
            clear FIN BOX HSS HSA HSB HRW4 HX4 HE0
            go_wp2_with fail
            refine (HNN.out 1 _).mono ?_
            rintro e w9 ⟨rfl, hb9⟩
            have HB9 := Lib.hid (HB4.out.trans (hb9.mono HB4.out.size))
            obtain ⟨r0, r1, r2, f0, f1, f2⟩ := RES.out w9 HB9.out
            clear hb9 RES
            go_wp2_with fail
            obtain ⟨W9, e9, v0, v1, v2, hP⟩ := HFI.out w9 HB9.out
            rw [e9]
            exact bodyPost_ret (v := .tuple #[.agg #[.slice none 0 0, .int .i64 0, .slice none 0 0], .int .i64 (1)]) (by simp [results, Tryz.results19, go_sem, v0, v1, v2]) rfl hP
          · have hnle : (decide (te ≤ fr)) = false := by simpa using hle
            have HER : Hid (∀ W, Below w4.heap.size w4 W → Calls Tryz.prog 36 #[.agg #[.slice p1 b.rules.length c1, .slice p2 b.zones.length c2, .slice p3 b.links.length c3], .agg #[.string z.nm, .slice A z.eras.length cA]] W (ErasPost b.rules z.eras W)) := by
              show ∀ W, _
              intro W hb
              have hbw := hWB.trans (hb.mono hWB.size)
              refine Eras_any MK b.rules _ _ _ _ z.eras _ W ((HBK.out.r.below hbw (Nat.le_refl _)).mono hbw.size) (bk_rules HBKC.out).2 (bk_rules HBKC.out).1 (RowsAt.mono (RowsAt.below (own_rowsG (cells := fun x : Er => (erCells x).toList) (k := 5) (fun _ => rfl) HRW4.out (by have := HE0.out.le; omega)) hb (Nat.le_refl _)) hb.size) (fun y hy => ?_) (by have := HE0.out.le; omega) ⟨_, _, _, rfl⟩ ⟨_, _, _, rfl⟩
              have h1 := (HE0.out.ok y hy).o1
              have h2 := (HE0.out.ok y hy).o2
              omega
            have x0 : w4.cell? ⟨zb, 0, none⟩ = some (.string z.nm) := (cell_of_row w4 _ 0 _ _ _ HX4.out).trans rfl
            have x1 : w4.cell? ⟨zb, 1, none⟩ = some (.slice A z.eras.length cA) := (cell_of_row w4 _ 1 _ _ _ HX4.out).trans rfl
            have HSS2 : Hid (S = if firstE (tdE b.rules) z.eras ≠ 0 then (firstE (tdE b.rules) z.eras, zTab) else
                if 250 < (normR (stF b.rules z.eras fr) (candsF b.rules z.eras fr te)).types.length ∨ 1000 < (normR (stF b.rules z.eras fr) (candsF b.rules z.eras fr te)).chs.length then (2, zTab) else (0, normR (stF b.rules z.eras fr) (candsF b.rules z.eras fr te))) := by
              show S = _
              rw [HSS.out]
              unfold mkE
              rw [if_neg (fun h => h HSA.out), if_neg (fun h => h HSB.out), if_neg hle]
            have HW4 := Lib.hid (HER.out w4 (Below.refl _ _))
            clear HER HSS HSA HSB hWB
            go_wp2_with fail
            refine HW4.out.mono ?_
            rintro e w5 ⟨hb5, hbad, hgood⟩
            have HB5 := Lib.hid (HB4.out.trans (hb5.mono HB4.out.size))
            have HX5 := Lib.hid ((hb5.block zb hzb4).trans HX4.out)
            have hzb5 : zb < w5.heap.size := by have := hb5.size; omega
            have HRW5 := Lib.hid (own_keep HRW4.out fun g e => hb5.block g (World.ownsRow.lt HRW4.out g e).2)
            clear HW4 g0 g1 g2 g3 g4 x0 x1
            by_cases hE : firstE (tdE b.rules) z.eras = 0
            case neg =>
              obtain rfl := hbad hE
              have hS1 := HSS2.out
              rw [if_pos hE] at hS1
              have HS1 := Lib.hid hS1
              obtain ⟨E, eE⟩ : ∃ E, firstE (tdE b.rules) z.eras = E := ⟨_, rfl⟩
              rw [eE] at HS1 hE ⊢
              have hz : (E == 0) = false := by simpa using hE
              have hzz : (!E == 0) = true := by rw [hz]; rfl
              clear hE hS1 hbad hgood HSS2 hb5 eE
              have HFI := Lib.hid (fun W' hb => FIN.out W' E hb HS1.out)
              clear FIN BOX HRW4 HX4 HRW5 HX5 HE0
              go_wp2_with fail
              refine (HNN.out E _).mono ?_
              rintro e w9 ⟨rfl, hb9⟩
              have HB9 := Lib.hid (HB5.out.trans (hb9.mono HB5.out.size))
              obtain ⟨r0, r1, r2, f0, f1, f2⟩ := RES.out w9 HB9.out
              clear hb9 RES
              go_wp2_with fail
              obtain ⟨W9, e9, v0, v1, v2, hP⟩ := HFI.out w9 HB9.out
              rw [e9]
              exact bodyPost_ret (v := .tuple #[.agg #[.slice none 0 0, .int .i64 0, .slice none 0 0], .int .i64 (E)]) (by simp [results, Tryz.results19, go_sem, v0, v1, v2]) rfl hP
            case pos =>
              obtain ⟨tv, ms, rfl, hms, hts⟩ := hgood hE
              have hlen : ms.length = z.eras.length := by have := congrArg List.length hms; simpa using this
              have HSS3 : Hid (S = if 250 < (normR (stF b.rules z.eras fr) (candsF b.rules z.eras fr te)).types.length ∨ 1000 < (normR (stF b.rules z.eras fr) (candsF b.rules z.eras fr te)).chs.length then (2, zTab) else (0, normR (stF b.rules z.eras fr) (candsF b.rules z.eras fr te))) := by
                show S = _
                have := HSS2.out
                rwa [if_neg (fun h => h hE)] at this
              have HMS := Lib.hid hms
              have HTS := Lib.hid hts
              have HOK := Lib.hid (tdsOk_of HE0.out hE)
              clear hms hts hbad hgood hb5 HSS2 hE
              have hw05 : W0.heap.size ≤ w5.heap.size := HB5.out.size
              have hl5 : z.eras.length ≤ 1000 := by have := HE0.out.le; omega
              obtain ⟨wh1, wh2, wh3⟩ := which_spec HE0.out fr
              have hRU := (bk_rules HBKC.out).2
              obtain ⟨g, cap, P, rfl, hcap, hg5, huse⟩ := tds_use HOK.out hRU HMS.out HTS.out (List.length_pos_iff.2 HE0.out.ne) (HM.out.below (HB0.out.trans (HB5.out.mono HB0.out.size)))
              have HUSE := Lib.hid huse
              have HWH := Lib.hid (Which_any (rules := b.rules) z.eras (.slice A z.eras.length cA) fr w5.heap.size w5 ((own_rowsG (cells := fun x : Er => (erCells x).toList) (k := 5) (fun _ => rfl) HRW5.out (by omega)).mono (by omega)) (Nat.le_refl _) HE0.out)
              have HMI := Lib.hid (minv_start HOK.out hRU hl5 fr te)
              obtain ⟨F, eF⟩ : ∃ F, makeN (stF b.rules z.eras fr) (candsF b.rules z.eras fr te) = F := ⟨_, rfl⟩
              have HSF : Hid (S = if 250 < F.types.length ∨ 1000 < F.chs.length then (2, zTab) else (0, ⟨F.types, 0, F.chs⟩)) := by
                show S = _
                have := HSS3.out
                unfold normR at this
                rwa [eF] at this
              rw [eF] at HMI
              obtain ⟨k0, ek⟩ : ∃ k0, whichF z.eras fr = k0 := ⟨_, rfl⟩
              have hst : stF b.rules z.eras fr = tdTy (tdA b.rules z.eras k0) fr := by unfold stF; rw [ek]
              have hpos := List.length_pos_iff.2 HE0.out.ne
              rw [ek] at HWH HMI wh1
              have hk0 : k0 < z.eras.length := by omega
              rw [hst] at HMI
              have x1 : w5.cell? ⟨zb, 1, none⟩ = some (.slice A z.eras.length cA) := (cell_of_row w5 _ 1 _ _ _ HX5.out).trans rfl
              obtain ⟨g0, g1, g2, g3, g4⟩ := BOX.out w5 HB5.out
              clear huse wh2 wh3 HMS HTS HSS3 eF ek hst hRU hlen HX4 HRW4 HRW5 HOK hw05 g4
              go_wp2_with fail
              refine HWH.out.mono ?_
              rintro e w6 ⟨rfl, hb6⟩
              have HB56 := Lib.hid hb6
              have HB6 := Lib.hid (HB5.out.trans (hb6.mono HB5.out.size))
              obtain ⟨g0, g1, g2, g3, g4⟩ := BOX.out w6 HB6.out
              have hu6 := HUSE.out w6 hb6 k0 hk0
              clear hb6 HWH HX5 x1 hzb4 hzb5
              have HU6 := Lib.hid hu6
              have hk0z : (k0 : Int) < (z.eras.length : Int) := by omega
              have hk0p : (0 : Int) ≤ (k0 : Int) := Int.natCast_nonneg _
              have hg6 : g < w6.heap.size := by have := HB56.out.size; omega
              have hw56 : w5.heap.size ≤ w6.heap.size := HB56.out.size
              have hw06 : W0.heap.size ≤ w6.heap.size := HB6.out.size
              have hTA : ∀ wx, Below w6.heap.size w6 wx → Calls Tryz.prog 37 #[.agg (tdCells (tdA b.rules z.eras k0) (.slice (P k0).1 (P k0).2.1 (P k0).2.2)), .int .i64 fr] wx fun e w' => e = .returned (tyV (tdTy (tdA b.rules z.eras k0) fr)) ∧ Below wx.heap.size wx w' := by
                intro wx hb
                exact (HUSE.out wx (HB56.out.trans (hb.mono hw56)) k0 hk0).tdat fr
              have KS : Hid (∀ wx, Below w6.heap.size w6 wx → Below w6.heap.size w6 wx ∧ wx.cell? ⟨g, k0 * 7, none⟩ = some (.int .i64 (tdA b.rules z.eras k0).er.off) ∧ wx.cell? ⟨g, k0 * 7 + 1, none⟩ = some (.string (tdA b.rules z.eras k0).er.ru) ∧ wx.cell? ⟨g, k0 * 7 + 2, none⟩ = some (.int .i64 (tdA b.rules z.eras k0).er.sv) ∧ wx.cell? ⟨g, k0 * 7 + 3, none⟩ = some (.string (tdA b.rules z.eras k0).er.fm) ∧ wx.cell? ⟨g, k0 * 7 + 4, none⟩ = some (.int .i64 (tdA b.rules z.eras k0).er.un) ∧ wx.cell? ⟨g, k0 * 7 + 5, none⟩ = some (.slice (P k0).1 (P k0).2.1 (P k0).2.2) ∧ wx.cell? ⟨g, k0 * 7 + 6, none⟩ = some (.string (tdA b.rules z.eras k0).fst) ∧ wx.cell? ⟨w.heap.size + 1, 0, none⟩ = some (.int .i64 fr)) := by
                show ∀ wx, _
                intro wx hb
                obtain ⟨v0, v1, v2, v3, v4, v5, v6, -, -⟩ := HUSE.out wx (HB56.out.trans (hb.mono hw56)) k0 hk0
                obtain ⟨-, -, -, q3, -⟩ := BOX.out wx (HB6.out.trans (hb.mono hw06))
                exact ⟨hb, v0, v1, v2, v3, v4, v5, v6, q3⟩
              have KR : Hid (∀ wx, Below w6.heap.size w6 wx ∧ wx.cell? ⟨g, k0 * 7, none⟩ = some (.int .i64 (tdA b.rules z.eras k0).er.off) ∧ wx.cell? ⟨g, k0 * 7 + 1, none⟩ = some (.string (tdA b.rules z.eras k0).er.ru) ∧ wx.cell? ⟨g, k0 * 7 + 2, none⟩ = some (.int .i64 (tdA b.rules z.eras k0).er.sv) ∧ wx.cell? ⟨g, k0 * 7 + 3, none⟩ = some (.string (tdA b.rules z.eras k0).er.fm) ∧ wx.cell? ⟨g, k0 * 7 + 4, none⟩ = some (.int .i64 (tdA b.rules z.eras k0).er.un) ∧ wx.cell? ⟨g, k0 * 7 + 5, none⟩ = some (.slice (P k0).1 (P k0).2.1 (P k0).2.2) ∧ wx.cell? ⟨g, k0 * 7 + 6, none⟩ = some (.string (tdA b.rules z.eras k0).fst) ∧ wx.cell? ⟨w.heap.size + 1, 0, none⟩ = some (.int .i64 fr) → Below w6.heap.size w6 wx) := fun wx h => h.1
              obtain ⟨u0, u1, u2, u3, u4, u5, u6, -, -⟩ := hu6
              obtain ⟨x0, ex0⟩ : ∃ x0, tdTy (tdA b.rules z.eras k0) fr = x0 := ⟨_, rfl⟩
              rw [ex0] at hTA HMI
              have HTA := Lib.hid hTA
              clear hTA
              go_wp2_with fail
              go_region_held3 (fun wx => Below w6.heap.size w6 wx ∧ wx.cell? ⟨g, k0 * 7, none⟩ = some (.int .i64 (tdA b.rules z.eras k0).er.off) ∧ wx.cell? ⟨g, k0 * 7 + 1, none⟩ = some (.string (tdA b.rules z.eras k0).er.ru) ∧ wx.cell? ⟨g, k0 * 7 + 2, none⟩ = some (.int .i64 (tdA b.rules z.eras k0).er.sv) ∧ wx.cell? ⟨g, k0 * 7 + 3, none⟩ = some (.string (tdA b.rules z.eras k0).er.fm) ∧ wx.cell? ⟨g, k0 * 7 + 4, none⟩ = some (.int .i64 (tdA b.rules z.eras k0).er.un) ∧ wx.cell? ⟨g, k0 * 7 + 5, none⟩ = some (.slice (P k0).1 (P k0).2.1 (P k0).2.2) ∧ wx.cell? ⟨g, k0 * 7 + 6, none⟩ = some (.string (tdA b.rules z.eras k0).fst) ∧ wx.cell? ⟨w.heap.size + 1, 0, none⟩ = some (.int .i64 fr)) ((refine KS.out _ ?_; repeat (first | (with_reducible assumption) | (with_reducible exact Below.refl _ _) | (with_reducible refine Below.drew ?_)))) (first
                | (go_at_call 37; refine (HTA.out _ (KR.out _ (by assumption))).mono ?_; rintro e w7 ⟨rfl, hb7⟩; have hB7 := ((KR.out _ (by assumption)).trans (hb7.mono (KR.out _ (by assumption)).size)); clear hb7)
                | (go_at_call 40; refine (Begin_any x0 _).mono ?_; rintro e w8 ⟨M, sv, cv, rfl, hmk, hb8⟩; have hB8 := (hB7.trans (hb8.mono hB7.size)); clear hb8))
              have hb08 : w7.heap.size ≤ w8.heap.size := by have h1 := hmk.hM; have h2 := hmk.lt; omega
              have hb07 : w5.heap.size ≤ w7.heap.size := by have := hB7.size; omega
              have hl8 : W0.heap.size ≤ w5.heap.size := HB5.out.size
              have HB58 := HB56.out.trans (hB8.mono hw56)
              have UP : ∀ W', Below w5.heap.size w5 W' → Below W0.heap.size W0 W' := fun W' hb => HB5.out.trans (hb.mono hl8)
              rename ∀ (a : Act) (w : World), Code.wp _ _ _ a w → _ => hcont
              refine hcont _ _ ?_
              refine Tm_tail b.rules z.eras fr te F S x0 w w5 w8 (w.heap.size + 1) (w.heap.size + 1 + 1) g cap M w7.heap.size k0 P sv cv _ _ _ _ _ _ _ _ _ _ _ _ _ _ _ _ _ _ _ _ _ _ _ _ _ _ _ _ _ _ _ _ _ _ _ _ _ _ _ _ _ _ _ _ _ _ _ _ _ _ _ _ _ _ _ _ _ _ _ _ _ _ _ _ _ _ _ _ _ _ _ _ _ _ _ _ _ _ _ _ _ _ _ _ _ _ _ _ _ _ _ _ _ _ _ _ _ _ _ _ _ _ _ _ _ _ _ _ _ _ _ _ _ _ _ _ _ _ _ _ _ _ _ _ _ _ _ _ _ _ _ _ _ _ _ _ _ _ _ _ _ _ _ _ _ _ _ _ _ _ _ _ _ _ _ _ _ _ _ _ _ _ _ _ _ _ _ _ _ _ _ _ _ _ _ _ _ _ _ _ _ _ _ _ _ _ _ _ _ _ _ _ _ _ _ _ _ _ _ _ _ _ hf1 hf2 ht1 ht2 HE0 hcap hg5 hk0 hb07 hb08 HUSE HMI (Lib.hid hmk) (Lib.hid HB58) (Lib.hid ?_) (Lib.hid ?_) (Lib.hid ?_) HSF
              · intro W' hb
                obtain ⟨-, -, -, q3, q4⟩ := BOX.out W' (UP W' hb)
                exact ⟨q3, q4⟩
              · intro W' hb
                exact RES.out W' (UP W' hb)
              · intro W' R u v hb hS hu hv
                obtain ⟨W9, e9, hb9, hh9, hk9⟩ := end_cellsM (((UP W' hb).block (w.heap.size + 1 + 1) hl0).trans HRX.out) u (.int .i64 0) v
                subst hS
                refine ⟨W9, e9, (cell_of_row W9 _ 0 _ _ _ hh9).trans rfl, (cell_of_row W9 _ 1 _ _ _ hh9).trans rfl, (cell_of_row W9 _ 2 _ _ _ hh9).trans rfl, u, v, rfl, ?_, ?_, (HB0.out.trans ((UP W' hb).mono HB0.out.size)).trans (hb9 _ (by omega))⟩
                · exact own_keep (own_less hu (by omega)) fun g e => hk9 g (by have := (World.ownsRow.lt hu g e).1; omega)
                · exact own_keep (own_less hv (by omega)) fun g e => hk9 g (by have := (World.ownsRow.lt hv g e).1; omega)
end Go.Proofs.YthggojpdcgcmaaaGreatDoor
namespace Go.Proofs.YthggojpdcgcmaaaGreatDoor
open Go.RowKit Go.Joins
open Classical
set_option linter.unusedVariables false
set_option linter.unusedSimpArgs false

def spTo (a b : Int) : Int := min (tD a + 1 + b % 40000000) (tD (-1))
theorem spTo_bd (a b : Int) : tD a ≤ spTo a b ∧ spTo a b ≤ 13569465600 := by
  unfold spTo
  have h1 := tD_bd2 a
  have h2 := tD_bd2 (-1)
  have h3 : tD (-1) = 13569465599 := by unfold tD; decide
  omega
theorem end_twoS {W : World} {rb : Nat} {a b : Value} {T : TypeId} (h : W.heap[rb]? = some (.cells #[a, b] T (0, 0))) (x y : Value) :
    ∃ W', ((W.setCell ⟨rb, 0, none⟩ x).setCell ⟨rb, 1, none⟩ y) = W' ∧ W'.heap[rb]? = some (.cells #[x, y] T (0, 0)) ∧ ∀ B, B ≤ rb → Below B W W' := by
  refine ⟨_, rfl, ?_, fun B hB => ((Below.refl _ _).setCell hB _).setCell hB _⟩
  simp [World.setCell, Array.getElem?_modify, h]
theorem set_oneS {W : World} {rb : Nat} {a b : Value} {T : TypeId} (h : W.heap[rb]? = some (.cells #[a, b] T (0, 0))) (y : Value) :
    ∃ W', W.setCell ⟨rb, 1, none⟩ y = W' ∧ W'.heap[rb]? = some (.cells #[a, y] T (0, 0)) ∧ ∀ B, B ≤ rb → Below B W W' := by
  refine ⟨_, rfl, ?_, fun B hB => (Below.refl _ _).setCell hB _⟩
  simp [World.setCell, Array.getElem?_modify, h]
set_option maxHeartbeats 2000000 in
theorem span_any (a b : Int) (w : World) :
    Calls Tryz.prog 18 #[.int .i64 a, .int .i64 b] w fun e w' => e = .returned (.agg #[.int .i64 (tD a), .int .i64 (spTo a b)]) ∧ Below w.heap.size w w' := by
  obtain ⟨W0, eW⟩ : ∃ W0, w.alloc (.cells #[.int .i64 0, .int .i64 0] 47) = W0 := ⟨_, rfl⟩
  have hb0 : Below w.heap.size w W0 := by rw [← eW]; exact (Below.refl _ _).alloc (Nat.le_refl _) _
  have hz0 : W0.heap.size = w.heap.size + 1 := by rw [← eW]; simp
  have hrx : W0.heap[w.heap.size]? = some (.cells #[.int .i64 0, .int .i64 0] 47 (0, 0)) := by rw [← eW]; exact heap_alloc_new w _
  have HEW := Lib.hid eW
  have HB0 := Lib.hid hb0
  have HRX := Lib.hid hrx
  have hT1 := tD_bd2 a
  clear eW hb0 hrx
  go_enter Tryz.func18, Tryz.ntmps18
  go_upto_region 1 with fail
  rw [HEW.out]
  go_wp2_with fail
  refine (timeOf_any a W0).mono ?_
  rintro e w1 ⟨rfl, hb1⟩
  go_wp2_with fail
  obtain ⟨sb, esb⟩ : ∃ sb, w1.heap.size = sb := ⟨_, rfl⟩
  obtain ⟨w2, e2⟩ : ∃ w2, w1.alloc (.cells #[.int .i64 (tD a), .int .i64 0] 47) = w2 := ⟨_, rfl⟩
  have hb2 : Below w1.heap.size w1 w2 := by rw [← e2]; exact (Below.refl _ _).alloc (Nat.le_refl _) _
  have hx2 : w2.heap[sb]? = some (.cells #[.int .i64 (tD a), .int .i64 0] 47 (0, 0)) := by rw [← e2]; exact alloc_at _ _ _ esb.symm
  have hs2 : sb < w2.heap.size := by rw [← e2]; simp; omega
  have hs1 : W0.heap.size ≤ sb := by have := hb1.size; omega
  have HB2 := Lib.hid (hb1.trans (hb2.mono hb1.size))
  have HX2 := Lib.hid hx2
  rw [esb, e2]
  have s0 : w2.cell? ⟨sb, 0, none⟩ = some (.int .i64 (tD a)) := (cell_of_row w2 _ 0 _ _ _ hx2).trans rfl
  have HR : Hid (∀ wx, Calls Tryz.prog 13 #[.int .i64 b, .int .i64 40000000] wx fun e w' => e = .returned (.int .i64 (b % 40000000)) ∧ wx = w') := fun wx => Rest0_any b 40000000 wx (by decide) (by decide)
  have HT1 := Lib.hid (fun wx => timeOf_any (-1) wx)
  have hw1 : IntKind.i64.wrap (tD a + 1) = tD a + 1 := IntWalk.i64_in _ (by omega)
  have hb40 : 0 ≤ b % 40000000 ∧ b % 40000000 < 40000000 := by omega
  have hw2 : IntKind.i64.wrap (tD a + 1 + b % 40000000) = tD a + 1 + b % 40000000 := IntWalk.i64_in _ (by omega)
  have KX : Hid (∀ wx, Below w2.heap.size w2 wx → wx.cell? ⟨sb, 0, none⟩ = some (.int .i64 (tD a)) ∧ wx.cell? ⟨sb, 1, none⟩ = some (.int .i64 0) ∧ wx.frozen? ⟨sb, 1, none⟩ = false) := by
    show ∀ wx, _
    intro wx hb
    have h := (hb.block sb hs2).trans HX2.out
    exact ⟨(cell_of_row wx _ 0 _ _ _ h).trans rfl, (cell_of_row wx _ 1 _ _ _ h).trans rfl, by simp [World.frozen?, h]⟩
  clear hb1 hb2 e2 esb hx2
  go_region_law (first
    | (go_simp; go_at_call 13; refine (HR.out _).mono ?_; rintro e w' ⟨rfl, rfl⟩)
    | (go_simp; go_at_call 14; refine (HT1.out _).mono ?_; rintro e w4 ⟨rfl, hb4⟩; have hB4 : Below w2.heap.size w2 w4 := (((Below.refl _ _).drew).trans hb4); obtain ⟨k0, k1, k2⟩ := KX.out w4 hB4; have hK4 := ((hB4.block sb hs2).trans HX2.out)))
  all_goals
    have esp : min (tD a + 1 + b % 40000000) (tD (-1)) = spTo a b := rfl
    rw [esp]
    obtain ⟨w5, e5, hh5, hb5⟩ := set_oneS hK4 (.int .i64 (spTo a b))
    rw [e5]
    have hB5 : Below W0.heap.size W0 w5 := (HB2.out.trans (hB4.mono HB2.out.size)).trans (hb5 _ hs1)
    have hr5 := (hB5.block w.heap.size (by omega)).trans HRX.out
    have t0 : w5.cell? ⟨sb, 0, none⟩ = some (.int .i64 (tD a)) := (cell_of_row w5 _ 0 _ _ _ hh5).trans rfl
    have t1 : w5.cell? ⟨sb, 1, none⟩ = some (.int .i64 (spTo a b)) := (cell_of_row w5 _ 1 _ _ _ hh5).trans rfl
    have r0 : w5.cell? ⟨w.heap.size, 0, none⟩ = some (.int .i64 0) := (cell_of_row w5 _ 0 _ _ _ hr5).trans rfl
    have r1 : w5.cell? ⟨w.heap.size, 1, none⟩ = some (.int .i64 0) := (cell_of_row w5 _ 1 _ _ _ hr5).trans rfl
    have f0 : w5.frozen? ⟨w.heap.size, 0, none⟩ = false := by simp [World.frozen?, hr5]
    have f1 : w5.frozen? ⟨w.heap.size, 1, none⟩ = false := by simp [World.frozen?, hr5]
    obtain ⟨w9, e9, hh9, hb9⟩ := end_twoS hr5 (.int .i64 (tD a)) (.int .i64 (spTo a b))
    have v0 : w9.cell? ⟨w.heap.size, 0, none⟩ = some (.int .i64 (tD a)) := (cell_of_row w9 _ 0 _ _ _ hh9).trans rfl
    have v1 : w9.cell? ⟨w.heap.size, 1, none⟩ = some (.int .i64 (spTo a b)) := (cell_of_row w9 _ 1 _ _ _ hh9).trans rfl
    have hP : Below w.heap.size w w9 := (HB0.out.trans (hB5.mono HB0.out.size)).trans (hb9 _ (Nat.le_refl _))
    clear k0 k1 k2 hK4 hB4 hb4 hh5 hb5 hr5 e5 s0 esp hh9 hb9
    go_wp2_with fail
    try rw [e9]
    exact bodyPost_ret (v := .agg #[.int .i64 (tD a), .int .i64 (spTo a b)]) (by simp [results, Tryz.results18, go_sem, v0, v1]) rfl ⟨rfl, hP⟩
end Go.Proofs.YthggojpdcgcmaaaGreatDoor
namespace Go.Proofs.YthggojpdcgcmaaaGreatDoor
open Go.RowKit Go.Joins
open Classical
set_option linter.unusedVariables false
set_option linter.unusedSimpArgs false

theorem list_ne_at {α : Type} {l m : List α} {k : Nat} (h1 : k < l.length) (h2 : k < m.length) (h : l[k] ≠ m[k]) : l ≠ m := by
  intro e; subst e; exact h rfl
theorem list_eq_of {α : Type} {l m : List α} (hl : l.length = m.length) (h : ∀ j (h1 : j < l.length) (h2 : j < m.length), l[j] = m[j]) : l = m :=
  List.ext_getElem hl h

set_option maxRecDepth 100000 in
set_option maxHeartbeats 1000000 in
theorem EqTy_any (l m : List Ty) (v v2 : Value) (w : World) (h1 : SlTy w v l) (h2 : SlTy w v2 m) :
    Calls Tryz.prog 43 #[v, v2] w fun e w' => e = .returned (.bool (decide (l = m))) ∧ Below w.heap.size w w' := by
  obtain ⟨p, cap, rfl, g1⟩ := h1.shape
  have hl := h1.size
  have hl2 := h2.size
  unfold maxLen at hl hl2
  obtain ⟨p2, cap2, rfl, g2⟩ := h2.shape
  have HA := Lib.hid g1
  have HB := Lib.hid g2
  clear h1 h2 g1 g2
  by_cases hlen : l.length = m.length
  · obtain ⟨R, eR⟩ : ∃ R, decide (l = m) = R := ⟨_, rfl⟩
    rw [eR]
    have ER := Lib.hid eR
    have HLEN := Lib.hid hlen
    rw [← hlen]
    clear eR hlen
    go_enter Tryz.func43, Tryz.ntmps43
    go_wp2
    go_loopw [14] (fun i wr => ∃ k : Nat, k ≤ l.length ∧ i = .int .i64 k ∧ (∀ j (h : j < k) (h1 : j < l.length) (h2 : j < m.length), l[j] = m[j]) ∧ Below w.heap.size w wr) (fun i _ => l.length - (intOf i).toNat)
    case atStart => exact ⟨0, Nat.zero_le _, rfl, fun j h => absurd h (Nat.not_lt_zero j), Below.refl _ _⟩
    case round =>
      obtain ⟨k, hk, rfl, hsame, hbel⟩ := hrel
      have HS := Lib.hid hsame
      clear hsame
      by_cases hlt : k < l.length
      · have hlt2 : k < m.length := by have := HLEN.out; omega
        obtain ⟨x, ex⟩ : ∃ x, l[k] = x := ⟨_, rfl⟩
        obtain ⟨y, ey⟩ : ∃ y, m[k] = y := ⟨_, rfl⟩
        have hne0 : l ≠ [] := by intro e; rw [e] at hlt; simp at hlt
        have hne1 : m ≠ [] := by intro e; rw [e] at hlt2; simp at hlt2
        obtain ⟨b, o, rfl, hb, ha0⟩ := HA.out hne0
        obtain ⟨b2, o2, rfl, hb2, hc0⟩ := HB.out hne1
        have ha := (ha0 k hlt).below hbel hb
        have hc := (hc0 k hlt2).below hbel hb2
        rw [ex] at ha
        rw [ey] at hc
        obtain ⟨a0, a1, a2⟩ := ha
        obtain ⟨d0, d1, d2⟩ := hc
        have hlb := World.block_lt_of_cell? _ _ a0
        have hlb2 := World.block_lt_of_cell? _ _ d0
        have hq := neq_tyN x y
        have HBL := Lib.hid hbel
        by_cases hxy : x = y
        · have hd : (!decide (x = y)) = false := by simpa using hxy
          rw [hd] at hq
          have hs2 : ∀ j (h : j < k + 1) (h1 : j < l.length) (h2 : j < m.length), l[j] = m[j] := fun j hj h1 h2 => by
            by_cases e : j = k
            · subst e; rw [ex, ey, hxy]
            · exact HS.out j (by omega) h1 h2
          have HS2 := Lib.hid hs2
          clear ex ey hbel ha0 hc0 hne0 hne1 hxy hd hs2
          go_wp2
          go_quiet (fail)
          go_wp2
          go_roundw
          case rel => exact ⟨k + 1, by omega, by go_num, HS2.out, by first | exact below_drewNm HBL.out _ | exact below_drewNm (HBL.out.alloc HBL.out.size _) _⟩
          case measure => simp [intOf]; omega
        · have hd : (!decide (x = y)) = true := by simpa using hxy
          rw [hd] at hq
          have hR : Hid (R = false) := by
            show _ = _
            rw [← ER.out]
            have : l ≠ m := list_ne_at hlt hlt2 (by rw [ex, ey]; exact hxy)
            simpa using this
          clear ex ey hbel ha0 hc0 hne0 hne1 hxy hd
          go_wp2
          go_quiet (fail)
          go_wp2
          go_ret
          exact ⟨ret_bool' hR.out.symm, by first | exact below_drewNm HBL.out _ | exact below_drewNm (HBL.out.alloc HBL.out.size _) _⟩
      · obtain rfl : k = l.length := by omega
        have hR : Hid (R = true) := by
          show _ = _
          rw [← ER.out]
          have : l = m := list_eq_of HLEN.out (fun j h1 h2 => HS.out j h1 h1 h2)
          simpa using this
        go_wp2
        go_ret
        exact ⟨ret_bool' hR.out.symm, hbel⟩
  · have hR : decide (l = m) = false := by simp; intro e; exact hlen (by rw [e])
    rw [hR]
    have hli : ¬ (l.length : Int) = (m.length : Int) := by omega
    clear hR hlen
    go_enter Tryz.func43, Tryz.ntmps43
    go_wp2
    go_ret
    exact ⟨rfl, Below.refl _ _⟩

set_option maxRecDepth 100000 in
set_option maxHeartbeats 1000000 in
theorem EqCh_any (l m : List Ch) (v v2 : Value) (w : World) (h1 : SlCh w v l) (h2 : SlCh w v2 m) :
    Calls Tryz.prog 44 #[v, v2] w fun e w' => e = .returned (.bool (decide (l = m))) ∧ Below w.heap.size w w' := by
  obtain ⟨p, cap, rfl, g1⟩ := h1.shape
  have hl := h1.size
  have hl2 := h2.size
  unfold maxLen at hl hl2
  obtain ⟨p2, cap2, rfl, g2⟩ := h2.shape
  have HA := Lib.hid g1
  have HB := Lib.hid g2
  clear h1 h2 g1 g2
  by_cases hlen : l.length = m.length
  · obtain ⟨R, eR⟩ : ∃ R, decide (l = m) = R := ⟨_, rfl⟩
    rw [eR]
    have ER := Lib.hid eR
    have HLEN := Lib.hid hlen
    rw [← hlen]
    clear eR hlen
    go_enter Tryz.func44, Tryz.ntmps44
    go_wp2
    go_loopw [14] (fun i wr => ∃ k : Nat, k ≤ l.length ∧ i = .int .i64 k ∧ (∀ j (h : j < k) (h1 : j < l.length) (h2 : j < m.length), l[j] = m[j]) ∧ Below w.heap.size w wr) (fun i _ => l.length - (intOf i).toNat)
    case atStart => exact ⟨0, Nat.zero_le _, rfl, fun j h => absurd h (Nat.not_lt_zero j), Below.refl _ _⟩
    case round =>
      obtain ⟨k, hk, rfl, hsame, hbel⟩ := hrel
      have HS := Lib.hid hsame
      clear hsame
      by_cases hlt : k < l.length
      · have hlt2 : k < m.length := by have := HLEN.out; omega
        obtain ⟨x, ex⟩ : ∃ x, l[k] = x := ⟨_, rfl⟩
        obtain ⟨y, ey⟩ : ∃ y, m[k] = y := ⟨_, rfl⟩
        have hne0 : l ≠ [] := by intro e; rw [e] at hlt; simp at hlt
        have hne1 : m ≠ [] := by intro e; rw [e] at hlt2; simp at hlt2
        obtain ⟨b, o, rfl, hb, ha0⟩ := HA.out hne0
        obtain ⟨b2, o2, rfl, hb2, hc0⟩ := HB.out hne1
        have ha := (ha0 k hlt).below hbel hb
        have hc := (hc0 k hlt2).below hbel hb2
        rw [ex] at ha
        rw [ey] at hc
        obtain ⟨a0, a1⟩ := ha
        obtain ⟨d0, d1⟩ := hc
        have hlb := World.block_lt_of_cell? _ _ a0
        have hlb2 := World.block_lt_of_cell? _ _ d0
        have hq := neq_chN x y
        have HBL := Lib.hid hbel
        by_cases hxy : x = y
        · have hd : (!decide (x = y)) = false := by simpa using hxy
          rw [hd] at hq
          have hs2 : ∀ j (h : j < k + 1) (h1 : j < l.length) (h2 : j < m.length), l[j] = m[j] := fun j hj h1 h2 => by
            by_cases e : j = k
            · subst e; rw [ex, ey, hxy]
            · exact HS.out j (by omega) h1 h2
          have HS2 := Lib.hid hs2
          clear ex ey hbel ha0 hc0 hne0 hne1 hxy hd hs2
          go_wp2
          go_quiet (fail)
          go_wp2
          go_roundw
          case rel => exact ⟨k + 1, by omega, by go_num, HS2.out, by first | exact below_drewNm HBL.out _ | exact below_drewNm (HBL.out.alloc HBL.out.size _) _⟩
          case measure => simp [intOf]; omega
        · have hd : (!decide (x = y)) = true := by simpa using hxy
          rw [hd] at hq
          have hR : Hid (R = false) := by
            show _ = _
            rw [← ER.out]
            have : l ≠ m := list_ne_at hlt hlt2 (by rw [ex, ey]; exact hxy)
            simpa using this
          clear ex ey hbel ha0 hc0 hne0 hne1 hxy hd
          go_wp2
          go_quiet (fail)
          go_wp2
          go_ret
          exact ⟨ret_bool' hR.out.symm, by first | exact below_drewNm HBL.out _ | exact below_drewNm (HBL.out.alloc HBL.out.size _) _⟩
      · obtain rfl : k = l.length := by omega
        have hR : Hid (R = true) := by
          show _ = _
          rw [← ER.out]
          have : l = m := list_eq_of HLEN.out (fun j h1 h2 => HS.out j h1 h1 h2)
          simpa using this
        go_wp2
        go_ret
        exact ⟨ret_bool' hR.out.symm, hbel⟩
  · have hR : decide (l = m) = false := by simp; intro e; exact hlen (by rw [e])
    rw [hR]
    have hli : ¬ (l.length : Int) = (m.length : Int) := by omega
    clear hR hlen
    go_enter Tryz.func44, Tryz.ntmps44
    go_wp2
    go_ret
    exact ⟨rfl, Below.refl _ _⟩
end Go.Proofs.YthggojpdcgcmaaaGreatDoor
namespace Go.Proofs.YthggojpdcgcmaaaGreatDoor
open Go.RowKit Go.Joins
open Classical
set_option linter.unusedVariables false
set_option linter.unusedSimpArgs false

def zeroTb : Tab := ⟨[], 0, []⟩
theorem zero_atN (w : World) : TabAt w (.agg #[.slice none 0 0, .int .i64 0, .slice none 0 0]) zeroTb := ⟨_, _, rfl, ⟨⟨none, 0, rfl, fun h => absurd rfl h⟩, by decide, by intro x hx; cases hx⟩, ⟨⟨none, 0, rfl, fun h => absurd rfl h⟩, by decide⟩⟩
noncomputable def normE (t : Tab) : Tab := if chk t = 0 then normT t else zeroTb
theorem tabForms {w : World} {v : Value} {t : Tab} (h : TabAt w v t) : ∃ p1 c1 p2 c2, v = .agg #[.slice p1 t.types.length c1, .int .i64 t.first, .slice p2 t.chs.length c2] := by
  obtain ⟨sv, cv, rfl, h1, h2⟩ := h.val
  obtain ⟨p1, c1, rfl, -⟩ := h1.shape
  obtain ⟨p2, c2, rfl, -⟩ := h2.shape
  exact ⟨_, _, _, _, rfl⟩
theorem tabOf_slices {w : World} {p1 p2 : Option Addr} {n1 c1 n2 c2 : Nat} {f : Int} {t : Tab} (h : TabAt w (.agg #[.slice p1 n1 c1, .int .i64 f, .slice p2 n2 c2]) t) : SlTy w (.slice p1 n1 c1) t.types ∧ SlCh w (.slice p2 n2 c2) t.chs ∧ f = t.first := by
  obtain ⟨sv, cv, e, h1, h2⟩ := h.val
  simp only [Value.agg.injEq, Array.mk.injEq, List.cons.injEq, Value.int.injEq, and_true, true_and] at e
  obtain ⟨rfl, rfl, rfl⟩ := e
  exact ⟨h1, h2, rfl⟩

/-- a law's boxed table -/
theorem box_facts (w : World) (a b c : Value) (T : TypeId) : (w.alloc (.cells #[a, b, c] T)).cell? ⟨w.heap.size, 0, none⟩ = some a ∧ (w.alloc (.cells #[a, b, c] T)).cell? ⟨w.heap.size, 1, none⟩ = some b ∧ (w.alloc (.cells #[a, b, c] T)).cell? ⟨w.heap.size, 2, none⟩ = some c :=
  ⟨(cell_of_row _ _ 0 _ _ _ (heap_alloc_new w _)).trans rfl, (cell_of_row _ _ 1 _ _ _ (heap_alloc_new w _)).trans rfl, (cell_of_row _ _ 2 _ _ _ (heap_alloc_new w _)).trans rfl⟩
theorem bcellN {W w1 : World} (hb : Below W.heap.size W w1) : (∀ b o, b < W.heap.size → w1.cell? ⟨b, o, none⟩ = W.cell? ⟨b, o, none⟩) ∧ (∀ b o, b < W.heap.size → w1.frozen? ⟨b, o, none⟩ = W.frozen? ⟨b, o, none⟩) :=
  ⟨fun b o h => hb.cell (p := ⟨b, o, none⟩) h, fun b o h => hb.frozen (p := ⟨b, o, none⟩) h⟩

/-- a store into the result's own cells turns nothing of another table -/
theorem tab_far {w W : World} {v : Value} {t : Tab} {X : Nat} {f : Int} {T : TypeId} {p q : Option Addr} {n1 n2 k1 k2 : Nat} (h : TabAt w v t) (hX : w.heap[X]? = some (.cells #[.slice p n1 k1, .int .i64 f, .slice q n2 k2] T (0, 0))) (hk : ∀ b, b ≠ X → W.heap[b]? = w.heap[b]?) (hsz : w.heap.size ≤ W.heap.size) : TabAt W v t := by
  have hno : ∀ o b, w.cell? ⟨X, o, none⟩ = some (.bool b) → False := fun o b hc => by
    rw [cell_of_row w _ o _ _ _ hX] at hc
    match o with
    | 0 => cases hc
    | 1 => cases hc
    | 2 => cases hc
    | o + 3 => simp at hc
  have hni : ∀ o a b, w.cell? ⟨X, o, none⟩ = some (.int .i64 a) → w.cell? ⟨X, o + 1, none⟩ = some (.int .i64 b) → False := fun o a b hc hc2 => by
    rw [cell_of_row w _ _ _ _ _ hX] at hc hc2
    match o with
    | 0 => cases hc
    | 1 => cases hc2
    | 2 => cases hc
    | o + 3 => simp at hc
  obtain ⟨sv, cv, hv, ⟨⟨p1, c1, e1, g1⟩, l1, m1⟩, ⟨⟨p2, c2, e2, g2⟩, l2⟩⟩ := h.val
  refine ⟨sv, cv, hv, ⟨⟨p1, c1, e1, fun hne => ?_⟩, l1, m1⟩, ⟨⟨p2, c2, e2, fun hne => ?_⟩, l2⟩⟩
  · obtain ⟨b, o, e, hb, hat⟩ := g1 hne
    have hbX : b ≠ X := fun e2 => by
      subst e2
      have := (hat 0 (List.length_pos_iff.2 hne)).2.1
      exact hno _ _ this
    refine ⟨b, o, e, Nat.lt_of_lt_of_le hb hsz, fun i hi => ?_⟩
    have hc : ∀ j, W.cell? ⟨b, j, none⟩ = w.cell? ⟨b, j, none⟩ := fun j => World.cell?_of_block (a := ⟨b, j, none⟩) (hk b hbX)
    obtain ⟨a1, a2, a3⟩ := hat i hi
    exact ⟨(hc _).trans a1, (hc _).trans a2, (hc _).trans a3⟩
  · obtain ⟨b, o, e, hb, hat⟩ := g2 hne
    have hbX : b ≠ X := fun e2 => by
      subst e2
      have := hat 0 (List.length_pos_iff.2 hne)
      exact hni _ _ _ this.1 this.2
    refine ⟨b, o, e, Nat.lt_of_lt_of_le hb hsz, fun i hi => ?_⟩
    have hc : ∀ j, W.cell? ⟨b, j, none⟩ = w.cell? ⟨b, j, none⟩ := fun j => World.cell?_of_block (a := ⟨b, j, none⟩) (hk b hbX)
    obtain ⟨a1, a2⟩ := hat i hi
    exact ⟨(hc _).trans a1, (hc _).trans a2⟩

set_option maxHeartbeats 1000000 in
theorem Norm_ok (t : Tab) (v : Value) (w : World) (hv : TabAt w v t) (hok : chk t = 0) :
    Calls Tryz.prog 22 #[v] w fun e w' => ∃ v', e = .returned (.tuple #[v', .int .i64 0]) ∧ TabAt w' v' (normT t) ∧ Below w.heap.size w w' := by
  have HV := Lib.hid hv
  have ok := Lib.hid (chk_ok t hok)
  obtain ⟨p1, c1, p2, c2, rfl⟩ := tabForms hv
  have HK := Lib.hid (fun W h => Check_any t (.agg #[.slice p1 t.types.length c1, .int .i64 t.first, .slice p2 t.chs.length c2]) W h)
  rw [hok] at HK
  clear hv hok
  go_enter Tryz.func22, Tryz.ntmps22
  go_wp2_with fail
  obtain ⟨W0, eW⟩ : ∃ W0, (w.alloc (.cells #[.slice p1 t.types.length c1, .int .i64 t.first, .slice p2 t.chs.length c2] 52)).alloc (.cells #[.slice none 0 0, .int .i64 0, .slice none 0 0] 52) = W0 := ⟨_, rfl⟩
  rw [eW]
  have hW0 : W0.heap.size = w.heap.size + 2 := by rw [← eW]; simp
  have hbW : Below w.heap.size w W0 := by rw [← eW]; exact ((Below.refl _ _).alloc (Nat.le_refl _) _).alloc (by simp) _
  have hX : W0.heap[w.heap.size]? = some (.cells #[.slice p1 t.types.length c1, .int .i64 t.first, .slice p2 t.chs.length c2] 52 (0, 0)) := by
    rw [← eW, Below.heap_alloc _ _ _ (by simp)]; exact heap_alloc_new w _
  have hR : W0.heap[w.heap.size + 1]? = some (.cells #[.slice none 0 0, .int .i64 0, .slice none 0 0] 52 (0, 0)) := by
    rw [← eW]
    have := heap_alloc_new (w.alloc (.cells #[.slice p1 t.types.length c1, .int .i64 t.first, .slice p2 t.chs.length c2] 52)) (.cells #[.slice none 0 0, .int .i64 0, .slice none 0 0] 52)
    simpa using this
  clear eW
  refine (HK.out _ (HV.out.below hbW)).mono ?_
  rintro e w1 ⟨rfl, hb1⟩
  have hX1 := (hb1.block w.heap.size (by omega)).trans hX
  have hR1 := (hb1.block (w.heap.size + 1) (by omega)).trans hR
  have b1 := hbW.trans (hb1.mono (by omega))
  have hz1 : w.heap.size + 1 < w1.heap.size := (Array.getElem?_eq_some_iff.mp hR1).1
  have x0 : w1.cell? ⟨w.heap.size, 0, none⟩ = some (.slice p1 t.types.length c1) := (cell_of_row w1 _ 0 _ _ _ hX1).trans rfl
  have x1 : w1.cell? ⟨w.heap.size, 1, none⟩ = some (.int .i64 t.first) := (cell_of_row w1 _ 1 _ _ _ hX1).trans rfl
  have x2 : w1.cell? ⟨w.heap.size, 2, none⟩ = some (.slice p2 t.chs.length c2) := (cell_of_row w1 _ 2 _ _ _ hX1).trans rfl
  clear hb1 hX hR hbW
  go_wp2_with fail
  refine (NOf_any t _ w1 (HV.out.below b1) ok.out).mono ?_
  rintro e w2 ⟨v', rfl, hv', hb2⟩
  obtain ⟨q1, d1, q2, d2, rfl⟩ := tabForms hv'
  have hR2 := (hb2.block (w.heap.size + 1) hz1).trans hR1
  have b2 := b1.trans (hb2.mono b1.size)
  have g0 : w2.cell? ⟨w.heap.size + 1, 0, none⟩ = some (.slice none 0 0) := (cell_of_row w2 _ 0 _ _ _ hR2).trans rfl
  have g1 : w2.cell? ⟨w.heap.size + 1, 1, none⟩ = some (.int .i64 0) := (cell_of_row w2 _ 1 _ _ _ hR2).trans rfl
  have g2 : w2.cell? ⟨w.heap.size + 1, 2, none⟩ = some (.slice none 0 0) := (cell_of_row w2 _ 2 _ _ _ hR2).trans rfl
  have z0 : w2.frozen? ⟨w.heap.size + 1, 0, none⟩ = false := by simp [World.frozen?, hR2]
  have z1 : w2.frozen? ⟨w.heap.size + 1, 1, none⟩ = false := by simp [World.frozen?, hR2]
  have z2 : w2.frozen? ⟨w.heap.size + 1, 2, none⟩ = false := by simp [World.frozen?, hR2]
  clear hb2 hX1 hR1 x0 x1 x2
  go_wp2
  obtain ⟨W9, e9, hB9, hh9, ho9⟩ := end_cellsM hR2 (.slice q1 (normT t).types.length d1) (.int .i64 (normT t).first) (.slice q2 (normT t).chs.length d2)
  rw [e9]
  have v0 : W9.cell? ⟨w.heap.size + 1, 0, none⟩ = some (.slice q1 (normT t).types.length d1) := (cell_of_row W9 _ 0 _ _ _ hh9).trans rfl
  have v1 : W9.cell? ⟨w.heap.size + 1, 1, none⟩ = some (.int .i64 (normT t).first) := (cell_of_row W9 _ 1 _ _ _ hh9).trans rfl
  have v2 : W9.cell? ⟨w.heap.size + 1, 2, none⟩ = some (.slice q2 (normT t).chs.length d2) := (cell_of_row W9 _ 2 _ _ _ hh9).trans rfl
  refine bodyPost_ret (v := .tuple #[.agg #[.slice q1 (normT t).types.length d1, .int .i64 (normT t).first, .slice q2 (normT t).chs.length d2], .int .i64 0]) (by simp [results, Tryz.results22, go_sem, v0, v1, v2]) rfl ⟨_, rfl, tab_far hv' hR2 ho9 (hB9 0 (Nat.zero_le _)).size, b2.trans (hB9 _ (by omega))⟩

set_option maxHeartbeats 1000000 in
theorem Norm_no (t : Tab) (v : Value) (w : World) (hv : TabAt w v t) (hok : chk t ≠ 0) :
    Calls Tryz.prog 22 #[v] w fun e w' => e = .returned (.tuple #[.agg #[.slice none 0 0, .int .i64 0, .slice none 0 0], .int .i64 (chk t)]) ∧ Below w.heap.size w w' := by
  have HV := Lib.hid hv
  obtain ⟨p1, c1, p2, c2, rfl⟩ := tabForms hv
  have HK := Lib.hid (fun W h => Check_any t (.agg #[.slice p1 t.types.length c1, .int .i64 t.first, .slice p2 t.chs.length c2]) W h)
  obtain ⟨K, eK⟩ : ∃ K, chk t = K := ⟨_, rfl⟩
  rw [eK] at HK hok ⊢
  have hne : (K == 0) = false := by simpa using hok
  clear hv hok eK
  go_enter Tryz.func22, Tryz.ntmps22
  go_wp2_with fail
  obtain ⟨W0, eW⟩ : ∃ W0, (w.alloc (.cells #[.slice p1 t.types.length c1, .int .i64 t.first, .slice p2 t.chs.length c2] 52)).alloc (.cells #[.slice none 0 0, .int .i64 0, .slice none 0 0] 52) = W0 := ⟨_, rfl⟩
  rw [eW]
  have hW0 : W0.heap.size = w.heap.size + 2 := by rw [← eW]; simp
  have hbW : Below w.heap.size w W0 := by rw [← eW]; exact ((Below.refl _ _).alloc (Nat.le_refl _) _).alloc (by simp) _
  have hR : W0.heap[w.heap.size + 1]? = some (.cells #[.slice none 0 0, .int .i64 0, .slice none 0 0] 52 (0, 0)) := by
    rw [← eW]
    have := heap_alloc_new (w.alloc (.cells #[.slice p1 t.types.length c1, .int .i64 t.first, .slice p2 t.chs.length c2] 52)) (.cells #[.slice none 0 0, .int .i64 0, .slice none 0 0] 52)
    simpa using this
  clear eW
  refine (HK.out _ (HV.out.below hbW)).mono ?_
  rintro e w2 ⟨rfl, hb1⟩
  have hR2 := (hb1.block (w.heap.size + 1) (by omega)).trans hR
  have b2 := hbW.trans (hb1.mono (by omega))
  have g0 : w2.cell? ⟨w.heap.size + 1, 0, none⟩ = some (.slice none 0 0) := (cell_of_row w2 _ 0 _ _ _ hR2).trans rfl
  have g1 : w2.cell? ⟨w.heap.size + 1, 1, none⟩ = some (.int .i64 0) := (cell_of_row w2 _ 1 _ _ _ hR2).trans rfl
  have g2 : w2.cell? ⟨w.heap.size + 1, 2, none⟩ = some (.slice none 0 0) := (cell_of_row w2 _ 2 _ _ _ hR2).trans rfl
  have z0 : w2.frozen? ⟨w.heap.size + 1, 0, none⟩ = false := by simp [World.frozen?, hR2]
  have z1 : w2.frozen? ⟨w.heap.size + 1, 1, none⟩ = false := by simp [World.frozen?, hR2]
  have z2 : w2.frozen? ⟨w.heap.size + 1, 2, none⟩ = false := by simp [World.frozen?, hR2]
  clear hb1 hR hbW
  go_wp2
  obtain ⟨W9, e9, hB9, hh9, ho9⟩ := end_cellsM hR2 (.slice none 0 0) (.int .i64 0) (.slice none 0 0)
  rw [e9]
  have v0 : W9.cell? ⟨w.heap.size + 1, 0, none⟩ = some (.slice none 0 0) := (cell_of_row W9 _ 0 _ _ _ hh9).trans rfl
  have v1 : W9.cell? ⟨w.heap.size + 1, 1, none⟩ = some (.int .i64 0) := (cell_of_row W9 _ 1 _ _ _ hh9).trans rfl
  have v2 : W9.cell? ⟨w.heap.size + 1, 2, none⟩ = some (.slice none 0 0) := (cell_of_row W9 _ 2 _ _ _ hh9).trans rfl
  refine bodyPost_ret (v := .tuple #[.agg #[.slice none 0 0, .int .i64 0, .slice none 0 0], .int .i64 K]) (by simp [results, Tryz.results22, go_sem, v0, v1, v2]) rfl ⟨rfl, b2.trans (hB9 _ (by omega))⟩

end Go.Proofs.YthggojpdcgcmaaaGreatDoor
namespace Go.Proofs.YthggojpdcgcmaaaGreatDoor
open Go.RowKit Go.Joins
open Classical
set_option linter.unusedVariables false
set_option linter.unusedSimpArgs false

theorem tab_eq {x y : Tab} : x = y ↔ x.types = y.types ∧ x.first = y.first ∧ x.chs = y.chs := by
  cases x; cases y; simp

set_option maxRecDepth 100000 in
set_option maxHeartbeats 1000000 in
theorem TableEq_any (a b : Tab) (v u : Value) (w : World) (hv : TabAt w v a) (hu : TabAt w u b) :
    Calls Tryz.prog 20 #[v, u] w fun e w' => e = .returned (.bool (decide (a = b))) ∧ Below w.heap.size w w' := by
  obtain ⟨p1, c1, p2, c2, rfl⟩ := tabForms hv
  obtain ⟨p3, c3, p4, c4, rfl⟩ := tabForms hu
  obtain ⟨a1, a2, -⟩ := tabOf_slices hv
  obtain ⟨b1, b2, -⟩ := tabOf_slices hu
  obtain ⟨W0, eW⟩ : ∃ W0, (w.alloc (.cells #[.slice p1 a.types.length c1, .int .i64 a.first, .slice p2 a.chs.length c2] 52)).alloc (.cells #[.slice p3 b.types.length c3, .int .i64 b.first, .slice p4 b.chs.length c4] 52) = W0 := ⟨_, rfl⟩
  have hW0 : W0.heap.size = w.heap.size + 2 := by rw [← eW]; simp
  have hbW : Below w.heap.size w W0 := by rw [← eW]; exact ((Below.refl _ _).alloc (Nat.le_refl _) _).alloc (by simp) _
  have hX : W0.heap[w.heap.size]? = some (.cells #[.slice p1 a.types.length c1, .int .i64 a.first, .slice p2 a.chs.length c2] 52 (0, 0)) := by
    rw [← eW, Below.heap_alloc _ _ _ (by simp)]; exact heap_alloc_new w _
  have hY : W0.heap[w.heap.size + 1]? = some (.cells #[.slice p3 b.types.length c3, .int .i64 b.first, .slice p4 b.chs.length c4] 52 (0, 0)) := by
    rw [← eW]
    have := heap_alloc_new (w.alloc (.cells #[.slice p1 a.types.length c1, .int .i64 a.first, .slice p2 a.chs.length c2] 52)) (.cells #[.slice p3 b.types.length c3, .int .i64 b.first, .slice p4 b.chs.length c4] 52)
    simpa using this
  have HT := Lib.hid (EqTy_any a.types b.types _ _ W0 (a1.below hbW) (b1.below hbW))
  have w0 : W0.cell? ⟨w.heap.size, 0, none⟩ = some (.slice p1 a.types.length c1) := (cell_of_row W0 _ 0 _ _ _ hX).trans rfl
  have w1' : W0.cell? ⟨w.heap.size + 1, 0, none⟩ = some (.slice p3 b.types.length c3) := (cell_of_row W0 _ 0 _ _ _ hY).trans rfl
  have HX := Lib.hid hX
  have HY := Lib.hid hY
  have HBW := Lib.hid hbW
  have A2 := Lib.hid (a2.below hbW)
  have B2 := Lib.hid (b2.below hbW)
  obtain ⟨R, eR⟩ : ∃ R, decide (a = b) = R := ⟨_, rfl⟩
  rw [eR]
  have ER : Hid (R = (decide (a.types = b.types) && (decide (a.first = b.first) && decide (a.chs = b.chs)))) := by
    show _ = _
    rw [← eR, Bool.eq_iff_iff]
    simp [tab_eq]
  obtain ⟨F, eF⟩ : ∃ F, (a.first == b.first) = F := ⟨_, rfl⟩
  have hF : decide (a.first = b.first) = F := by rw [← eF]; rfl
  rw [hF] at ER
  obtain ⟨T, eT⟩ : ∃ T, decide (a.types = b.types) = T := ⟨_, rfl⟩
  rw [eT] at HT ER
  obtain ⟨C, eC⟩ : ∃ C, decide (a.chs = b.chs) = C := ⟨_, rfl⟩
  rw [eC] at ER
  have EC := Lib.hid eC
  clear hX hY hbW a1 a2 b1 b2 hv hu eR hF eT eC
  go_enter Tryz.func20, Tryz.ntmps20
  go_wp2_with fail
  refine HT.out.mono ?_
  rintro e w1 ⟨rfl, hb1⟩
  have hX1 := (hb1.block w.heap.size (by omega)).trans HX.out
  have hY1 := (hb1.block (w.heap.size + 1) (by omega)).trans HY.out
  have b1 := HBW.out.trans (hb1.mono (by omega))
  have x1 : w1.cell? ⟨w.heap.size, 1, none⟩ = some (.int .i64 a.first) := (cell_of_row w1 _ 1 _ _ _ hX1).trans rfl
  have x2 : w1.cell? ⟨w.heap.size, 2, none⟩ = some (.slice p2 a.chs.length c2) := (cell_of_row w1 _ 2 _ _ _ hX1).trans rfl
  have y1 : w1.cell? ⟨w.heap.size + 1, 1, none⟩ = some (.int .i64 b.first) := (cell_of_row w1 _ 1 _ _ _ hY1).trans rfl
  have y2 : w1.cell? ⟨w.heap.size + 1, 2, none⟩ = some (.slice p4 b.chs.length c4) := (cell_of_row w1 _ 2 _ _ _ hY1).trans rfl
  have HC := Lib.hid (EqCh_any a.chs b.chs _ _ w1 (A2.out.below hb1) (B2.out.below hb1))
  rw [EC.out] at HC
  clear hb1 hX1 hY1 eW
  cases T
  · go_wp2
    go_ret
    exact ⟨ret_bool' (by rw [ER.out]; rfl), b1⟩
  · cases F
    · go_wp2
      go_ret
      exact ⟨ret_bool' (by rw [ER.out]; rfl), b1⟩
    · go_wp2_with fail
      refine HC.out.mono ?_
      rintro e w2 ⟨rfl, hb2⟩
      go_wp2
      go_ret
      exact ⟨ret_bool' (by rw [ER.out]; rfl), b1.trans (hb2.mono b1.size)⟩
end Go.Proofs.YthggojpdcgcmaaaGreatDoor
namespace Go.Proofs.YthggojpdcgcmaaaGreatDoor
open Go.RowKit Go.Joins Go.Maps
open Classical
set_option linter.unusedVariables false
set_option linter.unusedSimpArgs false

theorem mkT_small (b : Bk) (nm : ByteArray) (fr te : Int) : (mkT b nm fr te).2.first = 0 ∧ (mkT b nm fr te).2.types.length ≤ 250 ∧ (mkT b nm fr te).2.chs.length ≤ 1000 ∧ (∀ x ∈ (mkT b nm fr te).2.types, x.name.size ≤ maxLen) ∧ ∀ c ∈ (mkT b nm fr te).2.chs, -1099511627776 ≤ c.t ∧ c.t ≤ 1099511627776 := by
  by_cases h : (mkT b nm fr te).1 = 0
  · obtain ⟨z, hz, -, -, m⟩ := mkT_zero h
    refine ⟨?_, m.ok.many, m.ok.chs, fun x hx => ?_, fun c hc => ⟨(m.ok.ch c hc).1, (m.ok.ch c hc).2.1⟩⟩
    · rw [m.eq]; rfl
    · have := abbr_sizeT _ (m.ok.type x hx).2.2
      simp only [maxLen]; omega
  · rw [mkT_bad h]
    exact ⟨rfl, by decide, by decide, (fun x hx => by cases hx), (fun c hc => by cases hc)⟩
def TbV (R : Int × Tab) (w : World) (e : Ending) (w' : World) : Prop := ∃ p1 c1 p2 c2, e = .returned (.tuple #[.agg #[.slice p1 R.2.types.length c1, .int .i64 0, .slice p2 R.2.chs.length c2], .int .i64 R.1]) ∧ TabAt w' (.agg #[.slice p1 R.2.types.length c1, .int .i64 0, .slice p2 R.2.chs.length c2]) R.2 ∧ Below w.heap.size w w'
theorem Make_tab (MK : MakeSays) (b : Bk) (rv zv lv : Value) (nm : ByteArray) (fr te : Int) (w : World) (hB : BookAt w.heap.size w rv zv lv b) (hn : nm.size ≤ 140737488351232) (hf1 : -4611686018427387904 ≤ fr) (hf2 : fr ≤ 4611686018427387904) (ht1 : -4611686018427387904 ≤ te) (ht2 : te ≤ 4611686018427387904) (hm : MaxLen w) (ht : Tab10 w) :
    Calls Tryz.prog 19 #[.agg #[rv, zv, lv], .string nm, .agg #[.int .i64 fr, .int .i64 te]] w (TbV (mkT b nm fr te) w) := by
  refine (MakeT_any MK b rv zv lv nm fr te w hB hn hf1 hf2 ht1 ht2 hm ht).mono ?_
  rintro e w' ⟨sv, cv, rfl, hs, hc, hb⟩
  obtain ⟨f0, f1, f2, f3, -⟩ := mkT_small b nm fr te
  have h1 := own_types hs (by omega) f3
  have h2 := own_chs hc (by omega)
  obtain ⟨p1, c1, rfl⟩ := own_sliceN hs
  obtain ⟨p2, c2, rfl⟩ := own_sliceN hc
  exact ⟨p1, c1, p2, c2, rfl, ⟨_, _, by rw [f0], h1, h2⟩, hb⟩
/-- a table in a box -/
def TBz (W : World) (B : Nat) (p1 : Option Addr) (c1 : Nat) (p2 : Option Addr) (c2 : Nat) (t : Tab) : Prop :=
  W.heap[B]? = some (.cells #[.slice p1 t.types.length c1, .int .i64 0, .slice p2 t.chs.length c2] 52 (0, 0)) ∧ TabAt W (.agg #[.slice p1 t.types.length c1, .int .i64 0, .slice p2 t.chs.length c2]) t
section
variable {W W' w : World} {B c1 c2 : Nat} {p1 p2 : Option Addr} {t : Tab}
theorem TBz.lt (h : TBz W B p1 c1 p2 c2 t) : B < W.heap.size := (Array.getElem?_eq_some_iff.mp h.1).1
theorem TBz.below (h : TBz W B p1 c1 p2 c2 t) (hb : Below W.heap.size W W') : TBz W' B p1 c1 p2 c2 t := ⟨(hb.block B h.lt).trans h.1, h.2.below hb⟩
theorem TBz.cells (h : TBz W B p1 c1 p2 c2 t) : W.cell? ⟨B, 0, none⟩ = some (.slice p1 t.types.length c1) ∧ W.cell? ⟨B, 1, none⟩ = some (.int .i64 0) ∧ W.cell? ⟨B, 2, none⟩ = some (.slice p2 t.chs.length c2) :=
  ⟨(cell_of_row W _ 0 _ _ _ h.1).trans rfl, (cell_of_row W _ 1 _ _ _ h.1).trans rfl, (cell_of_row W _ 2 _ _ _ h.1).trans rfl⟩
theorem TBz.box (h : TabAt w (.agg #[.slice p1 t.types.length c1, .int .i64 0, .slice p2 t.chs.length c2]) t) (e : w.alloc (.cells #[.slice p1 t.types.length c1, .int .i64 0, .slice p2 t.chs.length c2] 52) = W) : TBz W w.heap.size p1 c1 p2 c2 t := by
  subst e
  exact ⟨heap_alloc_new w _, h.below ((Below.refl _ _).alloc (Nat.le_refl _) _)⟩
theorem TBz.chs (h : TBz W B p1 c1 p2 c2 t) (k : Nat) (hk : k < t.chs.length) : ∃ bb o, p2 = some ⟨bb, o, none⟩ ∧ bb < W.heap.size ∧ W.cell? ⟨bb, o + k * 2, none⟩ = some (.int .i64 t.chs[k].t) ∧ W.cell? ⟨bb, o + k * 2 + 1, none⟩ = some (.int .i64 t.chs[k].k) := by
  obtain ⟨sv, cv, e, -, h2⟩ := h.2.val
  obtain ⟨p, cap, e2, h3⟩ := h2.shape
  simp only [Value.agg.injEq, Array.mk.injEq, List.cons.injEq, and_true] at e
  obtain ⟨-, -, e3⟩ := e
  rw [e2, Value.slice.injEq] at e3
  obtain ⟨bb, o, rfl, hb, hc⟩ := h3 (List.ne_nil_of_length_pos (by omega))
  exact ⟨bb, o, e3.1, hb, (hc k hk).1, (hc k hk).2⟩
end
theorem alBelow (w : World) (o : Obj) : Below w.heap.size w (w.alloc o) := (Below.refl _ _).alloc (Nat.le_refl _) _
theorem zTab_at (w : World) : TabAt w (.agg #[.slice none 0 0, .int .i64 0, .slice none 0 0]) zTab := zero_atN w
/-- a book in a box, behind which all is new -/
structure BkBox (w W0 : World) (p1 p2 p3 : Option Addr) (c1 c2 c3 : Nat) (b : Bk) : Prop where
  hB : BookAt w.heap.size w (.slice p1 b.rules.length c1) (.slice p2 b.zones.length c2) (.slice p3 b.links.length c3) b
  hb : Below w.heap.size w W0
  hx : W0.heap[w.heap.size]? = some (.cells #[.slice p1 b.rules.length c1, .slice p2 b.zones.length c2, .slice p3 b.links.length c3] 26 (0, 0))
  hm : MaxLen w
  ht : Tab10 w
section
variable {w W0 W : World} {p1 p2 p3 : Option Addr} {c1 c2 c3 : Nat} {b : Bk}
theorem BkBox.lt (h : BkBox w W0 p1 p2 p3 c1 c2 c3 b) : w.heap.size < W0.heap.size := (Array.getElem?_eq_some_iff.mp h.hx).1
theorem BkBox.cells (h : BkBox w W0 p1 p2 p3 c1 c2 c3 b) (hb : Below W0.heap.size W0 W) : W.cell? ⟨w.heap.size, 0, none⟩ = some (.slice p1 b.rules.length c1) ∧ W.cell? ⟨w.heap.size, 1, none⟩ = some (.slice p2 b.zones.length c2) ∧ W.cell? ⟨w.heap.size, 2, none⟩ = some (.slice p3 b.links.length c3) := by
  have hx := (hb.block w.heap.size h.lt).trans h.hx
  exact ⟨(cell_of_row W _ 0 _ _ _ hx).trans rfl, (cell_of_row W _ 1 _ _ _ hx).trans rfl, (cell_of_row W _ 2 _ _ _ hx).trans rfl⟩
theorem BkBox.make (h : BkBox w W0 p1 p2 p3 c1 c2 c3 b) (MK : MakeSays) (nm : ByteArray) (hn : nm.size ≤ 140737488351232) (fr te : Int) (hb : Below W0.heap.size W0 W) (hf1 : -4611686018427387904 ≤ fr) (hf2 : fr ≤ 4611686018427387904) (ht1 : -4611686018427387904 ≤ te) (ht2 : te ≤ 4611686018427387904) :
    Calls Tryz.prog 19 #[.agg #[.slice p1 b.rules.length c1, .slice p2 b.zones.length c2, .slice p3 b.links.length c3], .string nm, .agg #[.int .i64 fr, .int .i64 te]] W (TbV (mkT b nm fr te) W) :=
  have hw : Below w.heap.size w W := h.hb.trans (hb.mono h.hb.size)
  Make_tab MK b _ _ _ nm fr te W ((h.hB.below hw (Nat.le_refl _)).baseN hw.size) hn hf1 hf2 ht1 ht2 (h.hm.below hw) (h.ht.below hw)
theorem BkBox.at (h : BkBox w W0 p1 p2 p3 c1 c2 c3 b) (MK : MakeSays) (nm : ByteArray) (hn : nm.size ≤ 140737488351232) (t : Int) (hb : Below W0.heap.size W0 W) (h1 : -4611686018427387904 ≤ t) (h2 : t ≤ 4611686018427387904) :
    Calls Tryz.prog 16 #[.agg #[.slice p1 b.rules.length c1, .slice p2 b.zones.length c2, .slice p3 b.links.length c3], .string nm, .int .i64 t] W (StPost (stR b nm t) W) :=
  have hw : Below w.heap.size w W := h.hb.trans (hb.mono h.hb.size)
  StAt_any MK b _ _ _ nm t W ((h.hB.below hw (Nat.le_refl _)).baseN hw.size) hn (by omega) (by omega) (h.hm.below hw) (h.ht.below hw)
end
theorem bk_box {w : World} {rv zv lv : Value} {b : Bk} (hB : BookAt w.heap.size w rv zv lv b) (hm : MaxLen w) (ht : Tab10 w) : ∃ p1 c1 p2 c2 p3 c3 W0, rv = .slice p1 b.rules.length c1 ∧ zv = .slice p2 b.zones.length c2 ∧ lv = .slice p3 b.links.length c3 ∧ w.alloc (.cells #[.slice p1 b.rules.length c1, .slice p2 b.zones.length c2, .slice p3 b.links.length c3] 26) = W0 ∧ BkBox w W0 p1 p2 p3 c1 c2 c3 b := by
  have hB' := hB
  obtain ⟨p1, c1, rfl, -, -⟩ := hB'.r
  obtain ⟨p2, c2, rfl, -, -⟩ := hB'.z
  obtain ⟨p3, c3, rfl, -, -⟩ := hB'.l
  exact ⟨p1, c1, p2, c2, p3, c3, _, rfl, rfl, rfl, rfl, hB, alBelow _ _, heap_alloc_new w _, hm, ht⟩
/-- a span in a box -/
theorem sp_box {w W : World} {x y : Int} (e : w.alloc (.cells #[.int .i64 x, .int .i64 y] 47) = W) : Below w.heap.size w W ∧ w.heap.size < W.heap.size ∧ ∀ W', Below W.heap.size W W' → W'.cell? ⟨w.heap.size, 0, none⟩ = some (.int .i64 x) ∧ W'.cell? ⟨w.heap.size, 1, none⟩ = some (.int .i64 y) := by
  subst e
  refine ⟨alBelow _ _, by simp, fun W' hb => ?_⟩
  have hx := (hb.block w.heap.size (by simp)).trans (heap_alloc_new w _)
  exact ⟨(cell_of_row W' _ 0 _ _ _ hx).trans rfl, (cell_of_row W' _ 1 _ _ _ hx).trans rfl⟩
theorem sp_stamp (a b : Int) : stampE (tD a) = 0 ∧ stampE (spTo a b) = 0 := by
  have h1 := tD_bd2 a
  have h2 := spTo_bd a b
  have h3 : spTo a b ≤ 13569465599 := by
    unfold spTo
    have h3 : tD (-1) = 13569465599 := by unfold tD; decide
    omega
  unfold stampE
  rw [if_pos (by omega), if_pos (by omega)]
  exact ⟨rfl, rfl⟩
end Go.Proofs.YthggojpdcgcmaaaGreatDoor
namespace Go.Proofs.YthggojpdcgcmaaaGreatDoor
open Go.RowKit Go.Joins
open Classical
set_option linter.unusedVariables false
set_option linter.unusedSimpArgs false

theorem flat_getN {α : Type} {cells : α → List Value} {k : Nat} (hk : ∀ x, (cells x).length = k) : ∀ (l : List α) (i : Nat) (h : i < l.length) (j : Nat), j < k → (l.flatMap cells)[i * k + j]? = (cells l[i])[j]?
  | [], i, h, _, _ => absurd h (by simp)
  | x :: r, 0, _, j, hj => by
    rw [List.flatMap_cons, Nat.zero_mul, Nat.zero_add, List.getElem?_append_left (by rw [hk]; exact hj)]
    rfl
  | x :: r, i + 1, h, j, hj => by
    have := flat_getN hk r i (by simpa using h) j hj
    rw [List.flatMap_cons, List.getElem?_append_right (by rw [hk, Nat.add_mul]; omega), hk, show (i + 1) * k + j - k = i * k + j by rw [Nat.add_mul]; omega, this]
    rfl
/-- a literal's row -/
theorem rows_lit {α : Type} {cells : α → List Value} {k : Nat} (hk : ∀ x, (cells x).length = k) {B g n : Nat} {W : World} {l : List α} {T : TypeId} {cs : Array Value} (h : W.heap[g]? = some (.cells cs T (0, 0))) (hcs : cs.toList = l.flatMap cells) (hn : l.length = n) (hl : n ≤ 100000) (hB : g < B) : RowsAt cells k B W (.slice (some ⟨g, 0, none⟩) n n) l := by
  subst hn
  refine ⟨_, _, rfl, ⟨by omega, Nat.le_refl _⟩, fun _ => ⟨g, 0, rfl, hB, fun i hi j u hu => ?_⟩⟩
  rw [Nat.zero_add, cell_of_row W g (i * k + j) _ _ (0, 0) h]
  have hj : j < k := by rw [← hk l[i]]; exact (List.getElem?_eq_some_iff.1 hu).1
  have := (flat_getN hk l i hi j hj).trans hu
  rw [← hcs] at this
  simpa using this
theorem rows_nilN {α : Type} {cells : α → List Value} {k B : Nat} {W : World} : RowsAt cells k B W (.slice none 0 0) [] := ⟨none, 0, rfl, ⟨by simp, by simp⟩, fun h => absurd rfl h⟩
end Go.Proofs.YthggojpdcgcmaaaGreatDoor
