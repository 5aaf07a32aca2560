/- table.Make: the walk. Laws of tables: what table.Make hands back, as a table in memory and in a box. The top laws: the closed fact 'works', and the span that is drawn. turns.Of: what it returns. back.Years: the walk. Rows of literals. A book of one zone of one era, in memory. The bounds of turns: plain. -/
import Derived.Test.YtomahddiclkepaaGreatDoorQt17
import Derived.Test.YtomahddiclkepaaGreatDoorQt15
import Derived.Test.YtomahddiclkepaaGreatDoorQt08
import Derived.Deep.DeepCutAuto
import Derived.Test.YtomahddiclkepaaGreatDoorQt06
import Derived.Test.YtomahddiclkepaaGreatDoorQt07
import Derived.Test.YtomahddiclkepaaGreatDoorQt02
import Derived.BigQuiet
import Derived.Handy
namespace Go.Proofs.YtomahddiclkepaaGreatDoor
open Go.RowKit Go.Joins Go.Maps
open Classical
set_option linter.unusedVariables false
set_option linter.unusedSimpArgs false

set_option maxRecDepth 1000000 in
set_option maxHeartbeats 20000000 in
theorem MakeT_any (MK : MakeSays) (b : Bk) (rv zv lv : Value) (nm : ByteArray) (fr te : Int) (w : World) (hB : BookAt w.heap.size w rv zv lv b) (hn : nm.size ≤ 140737488351232) (hf1 : -4611686018427387904 ≤ fr) (hf2 : fr ≤ 4611686018427387904) (ht1 : -4611686018427387904 ≤ te) (ht2 : te ≤ 4611686018427387904) (hm : MaxLen w) (ht : Tab10 w) :
    Calls Tryz.prog 24 #[.agg #[rv, zv, lv], .string nm, .agg #[.int .i64 fr, .int .i64 te]] w (MkTPost (mkT b nm fr te) w) := by
  have HBK := Lib.hid hB
  obtain ⟨p1, c1, rfl, -, -⟩ := hB.r
  obtain ⟨p2, c2, rfl, -, -⟩ := hB.z
  obtain ⟨p3, c3, rfl, -, -⟩ := hB.l
  obtain ⟨W0, eW⟩ : ∃ W0, ((w.alloc (.cells #[.slice p1 b.rules.length c1, .slice p2 b.zones.length c2, .slice p3 b.links.length c3] 26)).alloc (.cells #[.int .i64 fr, .int .i64 te] 68)).alloc (.cells #[.slice none 0 0, .int .i64 0, .slice none 0 0] 58) = W0 := ⟨_, rfl⟩
  have hb0 : Below w.heap.size w W0 := by rw [← eW]; exact (((Below.refl _ _).alloc (Nat.le_refl _) _).alloc (by simp) _).alloc (by simp; omega) _
  have hz0 : W0.heap.size = w.heap.size + 3 := by rw [← eW]; simp
  have hbx : W0.heap[w.heap.size]? = some (.cells #[.slice p1 b.rules.length c1, .slice p2 b.zones.length c2, .slice p3 b.links.length c3] 26 (0, 0)) := by
    rw [← eW, Below.heap_alloc _ _ _ (by simp; omega), Below.heap_alloc _ _ _ (by simp)]
    exact heap_alloc_new w _
  have hsx : W0.heap[w.heap.size + 1]? = some (.cells #[.int .i64 fr, .int .i64 te] 68 (0, 0)) := by
    rw [← eW, Below.heap_alloc _ _ _ (by simp)]
    exact alloc_at _ _ _ (by simp)
  have hrx : W0.heap[w.heap.size + 1 + 1]? = some (.cells #[.slice none 0 0, .int .i64 0, .slice none 0 0] 58 (0, 0)) := by
    rw [← eW]
    exact alloc_at _ _ _ (by simp)
  have hl0 : w.heap.size + 1 + 1 < W0.heap.size := by omega
  have HEW := Lib.hid eW
  have HRX := Lib.hid hrx
  have HB0 := Lib.hid hb0
  have HM := Lib.hid hm
  have HT := Lib.hid ht
  have HRS := Lib.hid (Resolve_any b _ _ _ nm W0 ((hB.below hb0 (Nat.le_refl _)).baseN hb0.size) hn (hm.below hb0) (ht.below hb0))
  have HNO := Lib.hid (fun c h => mkT_none (b := b) (nm := nm) (c := c) h fr te)
  have HSO := Lib.hid (fun z c h => mkT_of (b := b) (nm := nm) (z := z) (c := c) h fr te)
  have HRV := Lib.hid (fun z c h => rsv_zero (b := b) (nm := nm) (z := z) (c := c) h)
  have HRN := Lib.hid (fun c h => rsv_not0 (b := b) (nm := nm) (c := c) h)
  obtain ⟨S, eS⟩ : ∃ S, mkT b nm fr te = S := ⟨_, rfl⟩
  rw [eS] at HNO HSO ⊢
  obtain ⟨R, eR⟩ : ∃ R, rsv b nm = R := ⟨_, rfl⟩
  rw [eR] at HRS HNO HSO HRV HRN
  -- an error's end
  have FIN : Hid (∀ (W' : World) (c : Int), Below W0.heap.size W0 W' → S = (c, zTab) → ∃ W9, ((W'.setCell ⟨w.heap.size + 1 + 1, 0, none⟩ (.slice none 0 0)).setCell ⟨w.heap.size + 1 + 1, 1, none⟩ (.int .i64 0)).setCell ⟨w.heap.size + 1 + 1, 2, none⟩ (.slice none 0 0) = W9 ∧ W9.cell? ⟨w.heap.size + 1 + 1, 0, none⟩ = some (.slice none 0 0) ∧ W9.cell? ⟨w.heap.size + 1 + 1, 1, none⟩ = some (.int .i64 0) ∧ W9.cell? ⟨w.heap.size + 1 + 1, 2, none⟩ = some (.slice none 0 0) ∧ MkTPost S w (.returned (.tuple #[.agg #[.slice none 0 0, .int .i64 0, .slice none 0 0], .int .i64 c])) W9) := by
    show ∀ W' c, _
    intro W' c hb hS
    obtain ⟨W9, e9, hh9, hb9⟩ := end_three ((hb.block (w.heap.size + 1 + 1) hl0).trans hrx) (.slice none 0 0) (.int .i64 0) (.slice none 0 0)
    exact ⟨W9, e9, (cell_of_row W9 _ 0 _ _ _ hh9).trans rfl, (cell_of_row W9 _ 1 _ _ _ hh9).trans rfl, (cell_of_row W9 _ 2 _ _ _ hh9).trans rfl, MkTPost.bad hS ((HB0.out.trans (hb.mono HB0.out.size)).trans (hb9 _ (by omega)))⟩
  have RES : Hid (∀ (W' : World), Below W0.heap.size W0 W' → W'.cell? ⟨w.heap.size + 1 + 1, 0, none⟩ = some (.slice none 0 0) ∧ W'.cell? ⟨w.heap.size + 1 + 1, 1, none⟩ = some (.int .i64 0) ∧ W'.cell? ⟨w.heap.size + 1 + 1, 2, none⟩ = some (.slice none 0 0) ∧ W'.frozen? ⟨w.heap.size + 1 + 1, 0, none⟩ = false ∧ W'.frozen? ⟨w.heap.size + 1 + 1, 1, none⟩ = false ∧ W'.frozen? ⟨w.heap.size + 1 + 1, 2, none⟩ = false) := by
    show ∀ W', _
    intro W' hb
    have h2 := (hb.block (w.heap.size + 1 + 1) hl0).trans hrx
    exact ⟨(cell_of_row W' _ 0 _ _ _ h2).trans rfl, (cell_of_row W' _ 1 _ _ _ h2).trans rfl, (cell_of_row W' _ 2 _ _ _ h2).trans rfl, by simp [World.frozen?, h2], by simp [World.frozen?, h2], by simp [World.frozen?, h2]⟩
  have BOX : Hid (∀ (W' : World), Below W0.heap.size W0 W' → W'.cell? ⟨w.heap.size, 0, none⟩ = some (.slice p1 b.rules.length c1) ∧ W'.cell? ⟨w.heap.size, 1, none⟩ = some (.slice p2 b.zones.length c2) ∧ W'.cell? ⟨w.heap.size, 2, none⟩ = some (.slice p3 b.links.length c3) ∧ W'.cell? ⟨w.heap.size + 1, 0, none⟩ = some (.int .i64 fr) ∧ W'.cell? ⟨w.heap.size + 1, 1, none⟩ = some (.int .i64 te)) := by
    show ∀ W', _
    intro W' hb
    have h2 := (hb.block w.heap.size (by omega)).trans hbx
    have h3 := (hb.block (w.heap.size + 1) (by omega)).trans hsx
    exact ⟨(cell_of_row W' _ 0 _ _ _ h2).trans rfl, (cell_of_row W' _ 1 _ _ _ h2).trans rfl, (cell_of_row W' _ 2 _ _ _ h2).trans rfl, (cell_of_row W' _ 0 _ _ _ h3).trans rfl, (cell_of_row W' _ 1 _ _ _ h3).trans rfl⟩
  have HNN := Lib.hid (fun c W => MakeNone_any c W)
  obtain ⟨x0, x1, x2, -, -⟩ := BOX.out W0 (Below.refl _ _)
  clear eW hb0 hbx hsx hrx hB hm ht eS eR
  go_enter Tryz.func24, Tryz.ntmps24
  go_upto_region 2 with fail
  rw [HEW.out]
  go_wp2_with fail
  refine HRS.out.mono ?_
  obtain ⟨Z, C⟩ := R
  rintro e w1 ⟨vo, rfl, hrow, hb1⟩
  simp only at hrow ⊢
  obtain ⟨A, cA, rfl⟩ := own_sliceN hrow
  obtain ⟨W2, e2⟩ : ∃ W2, w1.alloc (.cells #[.string (zNm Z), .slice A (zEr Z).length cA] 46) = W2 := ⟨_, rfl⟩
  obtain ⟨zb, ezb⟩ : ∃ zb, w1.heap.size = zb := ⟨_, rfl⟩
  have hzb : W0.heap.size ≤ zb := by rw [← ezb]; exact hb1.size
  have hx2 : W2.heap[zb]? = some (.cells #[.string (zNm Z), .slice A (zEr Z).length cA] 46 (0, 0)) := by rw [← e2]; exact alloc_at _ _ _ ezb.symm
  have hb2 : Below w1.heap.size w1 W2 := by rw [← e2]; exact (Below.refl _ _).alloc (Nat.le_refl _) _
  have hz2 : zb < W2.heap.size := by rw [← e2]; simp; omega
  have HB2 := Lib.hid (hb1.trans (hb2.mono hb1.size))
  have HX2 := Lib.hid hx2
  have HE2 := Lib.hid e2
  have HRW2 := Lib.hid (own_keep hrow fun g e => hb2.block g (World.ownsRow.lt hrow g e).2)
  clear hrow hb1 hb2 hx2 HRS x0 x1 x2 e2
  go_upto_region 3 with fail
  rw [HE2.out]
  cases Z with
  | none =>
    have hC := HRN.out C rfl
    have hS := HNO.out C rfl
    have hz : (C == 0) = false := by simpa using hC
    have hzz : (!C == 0) = true := by rw [hz]; rfl
    have HFI := Lib.hid (fun W' hb => FIN.out W' C hb hS)
    clear hC hS HNO HSO HRV HRN FIN BOX HRW2 HX2
    go_wp2_with fail
    refine (HNN.out C _).mono ?_
    rintro e w3 ⟨rfl, hb3⟩
    have HB3 := Lib.hid (HB2.out.trans (hb3.mono HB2.out.size))
    obtain ⟨r0, r1, r2, f0, f1, f2⟩ := RES.out w3 HB3.out
    clear hb3 RES
    go_wp2_with fail
    obtain ⟨W9, e9, v0, v1, v2, hP⟩ := HFI.out w3 HB3.out
    rw [e9]
    exact bodyPost_ret (v := .tuple #[.agg #[.slice none 0 0, .int .i64 0, .slice none 0 0], .int .i64 C]) (by simp [results, Tryz.results24, go_sem, v0, v1, v2]) rfl hP
  | some z =>
    obtain ⟨hC, hzz, hbk⟩ := HRV.out z C rfl
    subst hC
    have hS := HSO.out z 0 rfl
    have hE0 := bk_eras hbk hzz
    have HE0 := Lib.hid hE0
    have HBKC := Lib.hid hbk
    have HSS := Lib.hid hS
    have hel := hE0.le
    simp only [zNm, zEr] at HX2 HE2 HRW2 ⊢
    clear hS hzz hbk HNO HSO HRV HRN hE0
    obtain ⟨g0, g1, g2, g3, g4⟩ := BOX.out W2 HB2.out
    obtain ⟨W3, e3⟩ : ∃ W3, W2.alloc (.cells #[.int .i64 fr, .int .i64 te] 3) = W3 := ⟨_, rfl⟩
    obtain ⟨ib, eib⟩ : ∃ ib, W2.heap.size = ib := ⟨_, rfl⟩
    have hb3 : Below W2.heap.size W2 W3 := by rw [← e3]; exact (Below.refl _ _).alloc (Nat.le_refl _) _
    have hi3 : W3.heap[ib]? = some (.cells #[.int .i64 fr, .int .i64 te] 3 (0, 0)) := by rw [← e3]; exact alloc_at _ _ _ eib.symm
    have hz3 : ib < W3.heap.size := by rw [← e3]; simp; omega
    have HB3 := Lib.hid (HB2.out.trans (hb3.mono HB2.out.size))
    have HX3 := Lib.hid ((hb3.block zb hz2).trans HX2.out)
    have hzb3 : zb < W3.heap.size := by omega
    have HRW3 := Lib.hid (own_keep HRW2.out fun g e => hb3.block g (World.ownsRow.lt HRW2.out g e).2)
    have HI3 := Lib.hid hi3
    have HE3 := Lib.hid e3
    have HST : Hid (∀ (W : World) (t : Int), Below w.heap.size w W → -4611686018427387904 ≤ t → t ≤ 4611686018427387904 → Calls Tryz.prog 46 #[.int .i64 t] W fun e w' => (∃ s, e = .returned (.tuple #[.string s, .int .i64 (stampE t)])) ∧ Below W.heap.size W w') := by
      show ∀ W t, _
      intro W t hb h1 h2
      exact Stamp_any t W (by omega) (by omega) (HT.out.below hb)
    have HS1 : Hid (stampE fr ≠ 0 → S = (stampE fr, zTab)) := by
      show _ → _
      intro h
      rw [HSS.out]; unfold mkE; rw [if_pos h]
    have HS2 : Hid (stampE fr = 0 → stampE te ≠ 0 → S = (stampE te, zTab)) := by
      show _ → _ → _
      intro h h2
      rw [HSS.out]; unfold mkE; rw [if_neg (fun g => g h), if_pos h2]
    clear hb3 hi3 e3 HX2 HRW2
    have HIB := Lib.hid eib
    clear eib
    go_upto_region 5 with fail
    go_wp2_with fail
    rw [HE3.out, HIB.out]
    have HBW3 := Lib.hid (HB0.out.trans (HB3.out.mono HB0.out.size))
    go_loopw [41] (fun i wr => ∃ k : Nat, k ≤ 2 ∧ i = .int .i64 k ∧ (0 < k → stampE fr = 0) ∧ (1 < k → stampE te = 0) ∧ Hid (Below W3.heap.size W3 wr)) (fun i _ => 2 - (intOf i).toNat)
    case atStart => exact ⟨0, by omega, rfl, fun h => absurd h (by omega), fun h => absurd h (by omega), Lib.hid (Below.refl _ _)⟩
    case round =>
      obtain ⟨k, hk, rfl, hs1, hs2, HBR⟩ := hrel
      have hzr := HBR.out.size
      have HBWr := Lib.hid (HBW3.out.trans (HBR.out.mono HBW3.out.size))
      have hi := (HBR.out.block ib hz3).trans HI3.out
      have i0 : wr.cell? ⟨ib, 0, none⟩ = some (.int .i64 fr) := (cell_of_row wr _ 0 _ _ _ hi).trans rfl
      have i1 : wr.cell? ⟨ib, 1, none⟩ = some (.int .i64 te) := (cell_of_row wr _ 1 _ _ _ hi).trans rfl
      clear hi
      by_cases hk0 : k = 0
      · subst hk0
        have HSC := Lib.hid (HST.out wr fr HBWr.out hf1 hf2)
        obtain ⟨E, eE⟩ : ∃ E, stampE fr = E := ⟨_, rfl⟩
        rw [eE] at HSC
        have HEE := Lib.hid eE
        clear eE
        go_wp2_with fail
        refine HSC.out.mono ?_
        rintro e w4 ⟨⟨s4, rfl⟩, hb4⟩
        have HB4 := Lib.hid (HBR.out.trans (hb4.mono hzr))
        clear hb4 HSC
        by_cases hE : E = 0
        · subst hE
          go_wp2_with fail
          go_roundw
          case rel => exact ⟨0 + 1, by omega, by go_num, fun _ => HEE.out, fun h => absurd h (by omega), HB4⟩
          case measure => simp [intOf]
        · have hz : (E == 0) = false := by simpa using hE
          have hzz : (!E == 0) = true := by rw [hz]; rfl
          have HSE : Hid (S = (E, zTab)) := by show _ = _; have := HS1.out (by rw [HEE.out]; exact hE); rwa [HEE.out] at this
          have HB5 := Lib.hid (HB3.out.trans (HB4.out.mono HB3.out.size))
          clear hE
          have HFI := Lib.hid (fun W' hb => FIN.out W' E hb HSE.out)
          clear FIN BOX HSS HS1 HS2 HRW3 HX3 HI3 HE0
          go_wp2_with fail
          refine (HNN.out E _).mono ?_
          rintro e w9 ⟨rfl, hb9⟩
          have HB9 := Lib.hid (HB5.out.trans (hb9.mono HB5.out.size))
          obtain ⟨r0, r1, r2, f0, f1, f2⟩ := RES.out w9 HB9.out
          clear hb9 RES
          go_wp2_with fail
          obtain ⟨W9, e9, v0, v1, v2, hP⟩ := HFI.out w9 HB9.out
          rw [e9]
          exact bodyPost_ret (v := .tuple #[.agg #[.slice none 0 0, .int .i64 0, .slice none 0 0], .int .i64 (E)]) (by simp [results, Tryz.results24, go_sem, v0, v1, v2]) rfl hP
      · by_cases hk1 : k = 1
        · subst hk1
          have HS0 := Lib.hid (hs1 (by omega))
          have HSC := Lib.hid (HST.out wr te HBWr.out ht1 ht2)
          obtain ⟨E, eE⟩ : ∃ E, stampE te = E := ⟨_, rfl⟩
          rw [eE] at HSC
          have HEE := Lib.hid eE
          clear eE
          go_wp2_with fail
          refine HSC.out.mono ?_
          rintro e w4 ⟨⟨s4, rfl⟩, hb4⟩
          have HB4 := Lib.hid (HBR.out.trans (hb4.mono hzr))
          clear hb4 HSC
          by_cases hE : E = 0
          · subst hE
            go_wp2_with fail
            go_roundw
            case rel => exact ⟨1 + 1, by omega, by go_num, fun _ => HS0.out, fun _ => HEE.out, HB4⟩
            case measure => simp [intOf]
          · have hz : (E == 0) = false := by simpa using hE
            have hzz : (!E == 0) = true := by rw [hz]; rfl
            have HSE : Hid (S = (E, zTab)) := by show _ = _; have := HS2.out HS0.out (by rw [HEE.out]; exact hE); rwa [HEE.out] at this
            have HB5 := Lib.hid (HB3.out.trans (HB4.out.mono HB3.out.size))
            clear hE
            have HFI := Lib.hid (fun W' hb => FIN.out W' E hb HSE.out)
            clear FIN BOX HSS HS1 HS2 HRW3 HX3 HI3 HE0
            go_wp2_with fail
            refine (HNN.out E _).mono ?_
            rintro e w9 ⟨rfl, hb9⟩
            have HB9 := Lib.hid (HB5.out.trans (hb9.mono HB5.out.size))
            obtain ⟨r0, r1, r2, f0, f1, f2⟩ := RES.out w9 HB9.out
            clear hb9 RES
            go_wp2_with fail
            obtain ⟨W9, e9, v0, v1, v2, hP⟩ := HFI.out w9 HB9.out
            rw [e9]
            exact bodyPost_ret (v := .tuple #[.agg #[.slice none 0 0, .int .i64 0, .slice none 0 0], .int .i64 (E)]) (by simp [results, Tryz.results24, go_sem, v0, v1, v2]) rfl hP
        · obtain rfl : k = 2 := by omega
          have HSA := Lib.hid (hs1 (by omega))
          have HSB := Lib.hid (hs2 (by omega))
          have HB4 := Lib.hid (HB3.out.trans (HBR.out.mono HB3.out.size))
          have HX4 := Lib.hid ((HBR.out.block zb hzb3).trans HX3.out)
          have hzb4 : zb < wr.heap.size := by omega
          have HRW4 := Lib.hid (own_keep HRW3.out fun g e => HBR.out.block g (World.ownsRow.lt HRW3.out g e).2)
          obtain ⟨w4, e4⟩ : ∃ w4, wr = w4 := ⟨_, rfl⟩
          rw [e4] at HB4 HX4 hzb4 HRW4 ⊢
          obtain ⟨g0, g1, g2, g3, g4⟩ := BOX.out w4 HB4.out
          clear e4 HBR hzr HBWr i0 i1 hs1 hs2 hk0 hk1 HS1 HS2 HRW3 HX3 HI3
          go_upto_region 12 with fail
          have hWB := HB0.out.trans (HB4.out.mono HB0.out.size)
          by_cases hle : te ≤ fr
          · have hS1 : S = (1, zTab) := by rw [HSS.out]; unfold mkE; rw [if_neg (fun h => h HSA.out), if_neg (fun h => h HSB.out), if_pos hle]
            have HS1 := Lib.hid hS1
            clear hS1 hWB
            have HFI := Lib.hid (fun W' hb => FIN.out W' 1 hb HS1.out)
            clear FIN BOX HSS HSA HSB HRW4 HX4 HE0
            go_wp2_with fail
            refine (HNN.out 1 _).mono ?_
            rintro e w9 ⟨rfl, hb9⟩
            have HB9 := Lib.hid (HB4.out.trans (hb9.mono HB4.out.size))
            obtain ⟨r0, r1, r2, f0, f1, f2⟩ := RES.out w9 HB9.out
            clear hb9 RES
            go_wp2_with fail
            obtain ⟨W9, e9, v0, v1, v2, hP⟩ := HFI.out w9 HB9.out
            rw [e9]
            exact bodyPost_ret (v := .tuple #[.agg #[.slice none 0 0, .int .i64 0, .slice none 0 0], .int .i64 (1)]) (by simp [results, Tryz.results24, go_sem, v0, v1, v2]) rfl hP
          · have hnle : (decide (te ≤ fr)) = false := by simpa using hle
            have HER : Hid (∀ W, Below w4.heap.size w4 W → Calls Tryz.prog 48 #[.agg #[.slice p1 b.rules.length c1, .slice p2 b.zones.length c2, .slice p3 b.links.length c3], .agg #[.string z.nm, .slice A z.eras.length cA]] W (ErasPost b.rules z.eras W)) := by
              show ∀ W, _
              intro W hb
              have hbw := hWB.trans (hb.mono hWB.size)
              refine Eras_any MK b.rules _ _ _ _ z.eras _ W ((HBK.out.r.below hbw (Nat.le_refl _)).mono hbw.size) (bk_rules HBKC.out).2 (bk_rules HBKC.out).1 (RowsAt.mono (RowsAt.below (own_rowsG (cells := fun x : Er => (erCells x).toList) (k := 5) (fun _ => rfl) HRW4.out (by have := HE0.out.le; omega)) hb (Nat.le_refl _)) hb.size) (fun y hy => ?_) (by have := HE0.out.le; omega) ⟨_, _, _, rfl⟩ ⟨_, _, _, rfl⟩
              have h1 := (HE0.out.ok y hy).o1
              have h2 := (HE0.out.ok y hy).o2
              omega
            have x0 : w4.cell? ⟨zb, 0, none⟩ = some (.string z.nm) := (cell_of_row w4 _ 0 _ _ _ HX4.out).trans rfl
            have x1 : w4.cell? ⟨zb, 1, none⟩ = some (.slice A z.eras.length cA) := (cell_of_row w4 _ 1 _ _ _ HX4.out).trans rfl
            have HSS2 : Hid (S = if firstE (tdE b.rules) z.eras ≠ 0 then (firstE (tdE b.rules) z.eras, zTab) else
                if 250 < (normR (stF b.rules z.eras fr) (candsF b.rules z.eras fr te)).types.length ∨ 1000 < (normR (stF b.rules z.eras fr) (candsF b.rules z.eras fr te)).chs.length then (2, zTab) else (0, normR (stF b.rules z.eras fr) (candsF b.rules z.eras fr te))) := by
              show S = _
              rw [HSS.out]
              unfold mkE
              rw [if_neg (fun h => h HSA.out), if_neg (fun h => h HSB.out), if_neg hle]
            have HW4 := Lib.hid (HER.out w4 (Below.refl _ _))
            clear HER HSS HSA HSB hWB
            go_wp2_with fail
            refine HW4.out.mono ?_
            rintro e w5 ⟨hb5, hbad, hgood⟩
            have HB5 := Lib.hid (HB4.out.trans (hb5.mono HB4.out.size))
            have HX5 := Lib.hid ((hb5.block zb hzb4).trans HX4.out)
            have hzb5 : zb < w5.heap.size := by have := hb5.size; omega
            have HRW5 := Lib.hid (own_keep HRW4.out fun g e => hb5.block g (World.ownsRow.lt HRW4.out g e).2)
            clear HW4 g0 g1 g2 g3 g4 x0 x1
            by_cases hE : firstE (tdE b.rules) z.eras = 0
            case neg =>
              obtain rfl := hbad hE
              have hS1 := HSS2.out
              rw [if_pos hE] at hS1
              have HS1 := Lib.hid hS1
              obtain ⟨E, eE⟩ : ∃ E, firstE (tdE b.rules) z.eras = E := ⟨_, rfl⟩
              rw [eE] at HS1 hE ⊢
              have hz : (E == 0) = false := by simpa using hE
              have hzz : (!E == 0) = true := by rw [hz]; rfl
              clear hE hS1 hbad hgood HSS2 hb5 eE
              have HFI := Lib.hid (fun W' hb => FIN.out W' E hb HS1.out)
              clear FIN BOX HRW4 HX4 HRW5 HX5 HE0
              go_wp2_with fail
              refine (HNN.out E _).mono ?_
              rintro e w9 ⟨rfl, hb9⟩
              have HB9 := Lib.hid (HB5.out.trans (hb9.mono HB5.out.size))
              obtain ⟨r0, r1, r2, f0, f1, f2⟩ := RES.out w9 HB9.out
              clear hb9 RES
              go_wp2_with fail
              obtain ⟨W9, e9, v0, v1, v2, hP⟩ := HFI.out w9 HB9.out
              rw [e9]
              exact bodyPost_ret (v := .tuple #[.agg #[.slice none 0 0, .int .i64 0, .slice none 0 0], .int .i64 (E)]) (by simp [results, Tryz.results24, go_sem, v0, v1, v2]) rfl hP
            case pos =>
              obtain ⟨tv, ms, rfl, hms, hts⟩ := hgood hE
              have hlen : ms.length = z.eras.length := by have := congrArg List.length hms; simpa using this
              have HSS3 : Hid (S = if 250 < (normR (stF b.rules z.eras fr) (candsF b.rules z.eras fr te)).types.length ∨ 1000 < (normR (stF b.rules z.eras fr) (candsF b.rules z.eras fr te)).chs.length then (2, zTab) else (0, normR (stF b.rules z.eras fr) (candsF b.rules z.eras fr te))) := by
                show S = _
                have := HSS2.out
                rwa [if_neg (fun h => h hE)] at this
              have HMS := Lib.hid hms
              have HTS := Lib.hid hts
              have HOK := Lib.hid (tdsOk_of HE0.out hE)
              clear hms hts hbad hgood hb5 HSS2 hE
              have hw05 : W0.heap.size ≤ w5.heap.size := HB5.out.size
              have hl5 : z.eras.length ≤ 1000 := by have := HE0.out.le; omega
              obtain ⟨wh1, wh2, wh3⟩ := which_spec HE0.out fr
              have hRU := (bk_rules HBKC.out).2
              obtain ⟨g, cap, P, rfl, hcap, hg5, huse⟩ := tds_use HOK.out hRU HMS.out HTS.out (List.length_pos_iff.2 HE0.out.ne) (HM.out.below (HB0.out.trans (HB5.out.mono HB0.out.size)))
              have HUSE := Lib.hid huse
              have HWH := Lib.hid (Which_any (rules := b.rules) z.eras (.slice A z.eras.length cA) fr w5.heap.size w5 ((own_rowsG (cells := fun x : Er => (erCells x).toList) (k := 5) (fun _ => rfl) HRW5.out (by omega)).mono (by omega)) (Nat.le_refl _) HE0.out)
              have HMI := Lib.hid (minv_start HOK.out hRU hl5 fr te)
              obtain ⟨F, eF⟩ : ∃ F, makeN (stF b.rules z.eras fr) (candsF b.rules z.eras fr te) = F := ⟨_, rfl⟩
              have HSF : Hid (S = if 250 < F.types.length ∨ 1000 < F.chs.length then (2, zTab) else (0, ⟨F.types, 0, F.chs⟩)) := by
                show S = _
                have := HSS3.out
                unfold normR at this
                rwa [eF] at this
              rw [eF] at HMI
              obtain ⟨k0, ek⟩ : ∃ k0, whichF z.eras fr = k0 := ⟨_, rfl⟩
              have hst : stF b.rules z.eras fr = tdTy (tdA b.rules z.eras k0) fr := by unfold stF; rw [ek]
              have hpos := List.length_pos_iff.2 HE0.out.ne
              rw [ek] at HWH HMI wh1
              have hk0 : k0 < z.eras.length := by omega
              rw [hst] at HMI
              have x1 : w5.cell? ⟨zb, 1, none⟩ = some (.slice A z.eras.length cA) := (cell_of_row w5 _ 1 _ _ _ HX5.out).trans rfl
              obtain ⟨g0, g1, g2, g3, g4⟩ := BOX.out w5 HB5.out
              clear huse wh2 wh3 HMS HTS HSS3 eF ek hst hRU hlen HX4 HRW4 HRW5 HOK hw05 g4
              go_wp2_with fail
              refine HWH.out.mono ?_
              rintro e w6 ⟨rfl, hb6⟩
              have HB56 := Lib.hid hb6
              have HB6 := Lib.hid (HB5.out.trans (hb6.mono HB5.out.size))
              obtain ⟨g0, g1, g2, g3, g4⟩ := BOX.out w6 HB6.out
              have hu6 := HUSE.out w6 hb6 k0 hk0
              clear hb6 HWH HX5 x1 hzb4 hzb5
              have HU6 := Lib.hid hu6
              have hk0z : (k0 : Int) < (z.eras.length : Int) := by omega
              have hk0p : (0 : Int) ≤ (k0 : Int) := Int.natCast_nonneg _
              have hg6 : g < w6.heap.size := by have := HB56.out.size; omega
              have hw56 : w5.heap.size ≤ w6.heap.size := HB56.out.size
              have hw06 : W0.heap.size ≤ w6.heap.size := HB6.out.size
              have hTA : ∀ wx, Below w6.heap.size w6 wx → Calls Tryz.prog 49 #[.agg (tdCells (tdA b.rules z.eras k0) (.slice (P k0).1 (P k0).2.1 (P k0).2.2)), .int .i64 fr] wx fun e w' => e = .returned (tyV (tdTy (tdA b.rules z.eras k0) fr)) ∧ Below wx.heap.size wx w' := by
                intro wx hb
                exact (HUSE.out wx (HB56.out.trans (hb.mono hw56)) k0 hk0).tdat fr
              have KS : Hid (∀ wx, Below w6.heap.size w6 wx → Below w6.heap.size w6 wx ∧ wx.cell? ⟨g, k0 * 7, none⟩ = some (.int .i64 (tdA b.rules z.eras k0).er.off) ∧ wx.cell? ⟨g, k0 * 7 + 1, none⟩ = some (.string (tdA b.rules z.eras k0).er.ru) ∧ wx.cell? ⟨g, k0 * 7 + 2, none⟩ = some (.int .i64 (tdA b.rules z.eras k0).er.sv) ∧ wx.cell? ⟨g, k0 * 7 + 3, none⟩ = some (.string (tdA b.rules z.eras k0).er.fm) ∧ wx.cell? ⟨g, k0 * 7 + 4, none⟩ = some (.int .i64 (tdA b.rules z.eras k0).er.un) ∧ wx.cell? ⟨g, k0 * 7 + 5, none⟩ = some (.slice (P k0).1 (P k0).2.1 (P k0).2.2) ∧ wx.cell? ⟨g, k0 * 7 + 6, none⟩ = some (.string (tdA b.rules z.eras k0).fst) ∧ wx.cell? ⟨w.heap.size + 1, 0, none⟩ = some (.int .i64 fr)) := by
                show ∀ wx, _
                intro wx hb
                obtain ⟨v0, v1, v2, v3, v4, v5, v6, -, -⟩ := HUSE.out wx (HB56.out.trans (hb.mono hw56)) k0 hk0
                obtain ⟨-, -, -, q3, -⟩ := BOX.out wx (HB6.out.trans (hb.mono hw06))
                exact ⟨hb, v0, v1, v2, v3, v4, v5, v6, q3⟩
              have KR : Hid (∀ wx, Below w6.heap.size w6 wx ∧ wx.cell? ⟨g, k0 * 7, none⟩ = some (.int .i64 (tdA b.rules z.eras k0).er.off) ∧ wx.cell? ⟨g, k0 * 7 + 1, none⟩ = some (.string (tdA b.rules z.eras k0).er.ru) ∧ wx.cell? ⟨g, k0 * 7 + 2, none⟩ = some (.int .i64 (tdA b.rules z.eras k0).er.sv) ∧ wx.cell? ⟨g, k0 * 7 + 3, none⟩ = some (.string (tdA b.rules z.eras k0).er.fm) ∧ wx.cell? ⟨g, k0 * 7 + 4, none⟩ = some (.int .i64 (tdA b.rules z.eras k0).er.un) ∧ wx.cell? ⟨g, k0 * 7 + 5, none⟩ = some (.slice (P k0).1 (P k0).2.1 (P k0).2.2) ∧ wx.cell? ⟨g, k0 * 7 + 6, none⟩ = some (.string (tdA b.rules z.eras k0).fst) ∧ wx.cell? ⟨w.heap.size + 1, 0, none⟩ = some (.int .i64 fr) → Below w6.heap.size w6 wx) := fun wx h => h.1
              obtain ⟨u0, u1, u2, u3, u4, u5, u6, -, -⟩ := hu6
              obtain ⟨x0, ex0⟩ : ∃ x0, tdTy (tdA b.rules z.eras k0) fr = x0 := ⟨_, rfl⟩
              rw [ex0] at hTA HMI
              have HTA := Lib.hid hTA
              clear hTA
              go_wp2_with fail
              go_region_held3 (fun wx => Below w6.heap.size w6 wx ∧ wx.cell? ⟨g, k0 * 7, none⟩ = some (.int .i64 (tdA b.rules z.eras k0).er.off) ∧ wx.cell? ⟨g, k0 * 7 + 1, none⟩ = some (.string (tdA b.rules z.eras k0).er.ru) ∧ wx.cell? ⟨g, k0 * 7 + 2, none⟩ = some (.int .i64 (tdA b.rules z.eras k0).er.sv) ∧ wx.cell? ⟨g, k0 * 7 + 3, none⟩ = some (.string (tdA b.rules z.eras k0).er.fm) ∧ wx.cell? ⟨g, k0 * 7 + 4, none⟩ = some (.int .i64 (tdA b.rules z.eras k0).er.un) ∧ wx.cell? ⟨g, k0 * 7 + 5, none⟩ = some (.slice (P k0).1 (P k0).2.1 (P k0).2.2) ∧ wx.cell? ⟨g, k0 * 7 + 6, none⟩ = some (.string (tdA b.rules z.eras k0).fst) ∧ wx.cell? ⟨w.heap.size + 1, 0, none⟩ = some (.int .i64 fr)) ((refine KS.out _ ?_; repeat (first | (with_reducible assumption) | (with_reducible exact Below.refl _ _) | (with_reducible refine Below.drew ?_)))) (first
                | (go_at_call 49; refine (HTA.out _ (KR.out _ (by assumption))).mono ?_; rintro e w7 ⟨rfl, hb7⟩; have hB7 := ((KR.out _ (by assumption)).trans (hb7.mono (KR.out _ (by assumption)).size)); clear hb7)
                | (go_at_call 55; refine (Begin_any x0 _).mono ?_; rintro e w8 ⟨M, sv, cv, rfl, hmk, hb8⟩; have hB8 := (hB7.trans (hb8.mono hB7.size)); clear hb8))
              have hb08 : w7.heap.size ≤ w8.heap.size := by have h1 := hmk.hM; have h2 := hmk.lt; omega
              have hb07 : w5.heap.size ≤ w7.heap.size := by have := hB7.size; omega
              have hl8 : W0.heap.size ≤ w5.heap.size := HB5.out.size
              have HB58 := HB56.out.trans (hB8.mono hw56)
              have UP : ∀ W', Below w5.heap.size w5 W' → Below W0.heap.size W0 W' := fun W' hb => HB5.out.trans (hb.mono hl8)
              rename ∀ (a : Act) (w : World), Code.wp _ _ _ a w → _ => hcont
              refine hcont _ _ ?_
              refine Tm_tail b.rules z.eras fr te F S x0 w w5 w8 (w.heap.size + 1) (w.heap.size + 1 + 1) g cap M w7.heap.size k0 P sv cv _ _ _ _ _ _ _ _ _ _ _ _ _ _ _ _ _ _ _ _ _ _ _ _ _ _ _ _ _ _ _ _ _ _ _ _ _ _ _ _ _ _ _ _ _ _ _ _ _ _ _ _ _ _ _ _ _ _ _ _ _ _ _ _ _ _ _ _ _ _ _ _ _ _ _ _ _ _ _ _ _ _ _ _ _ _ _ _ _ _ _ _ _ _ _ _ _ _ _ _ _ _ _ _ _ _ _ _ _ _ _ _ _ _ _ _ _ _ _ _ _ _ _ _ _ _ _ _ _ _ _ _ _ _ _ _ _ _ _ _ _ _ _ _ _ _ _ _ _ _ _ _ _ _ _ _ _ _ _ _ _ _ _ _ _ _ _ _ _ _ _ _ _ _ _ _ _ _ _ _ _ _ _ _ _ _ _ _ _ _ _ _ _ _ _ _ _ _ _ _ _ _ hf1 hf2 ht1 ht2 HE0 hcap hg5 hk0 hb07 hb08 HUSE HMI (Lib.hid hmk) (Lib.hid HB58) (Lib.hid ?_) (Lib.hid ?_) (Lib.hid ?_) HSF
              · intro W' hb
                obtain ⟨-, -, -, q3, q4⟩ := BOX.out W' (UP W' hb)
                exact ⟨q3, q4⟩
              · intro W' hb
                exact RES.out W' (UP W' hb)
              · intro W' R u v hb hS hu hv
                obtain ⟨W9, e9, hb9, hh9, hk9⟩ := end_cellsM (((UP W' hb).block (w.heap.size + 1 + 1) hl0).trans HRX.out) u (.int .i64 0) v
                subst hS
                refine ⟨W9, e9, (cell_of_row W9 _ 0 _ _ _ hh9).trans rfl, (cell_of_row W9 _ 1 _ _ _ hh9).trans rfl, (cell_of_row W9 _ 2 _ _ _ hh9).trans rfl, u, v, rfl, ?_, ?_, (HB0.out.trans ((UP W' hb).mono HB0.out.size)).trans (hb9 _ (by omega))⟩
                · exact own_keep (own_less hu (by omega)) fun g e => hk9 g (by have := (World.ownsRow.lt hu g e).1; omega)
                · exact own_keep (own_less hv (by omega)) fun g e => hk9 g (by have := (World.ownsRow.lt hv g e).1; omega)
end Go.Proofs.YtomahddiclkepaaGreatDoor
namespace Go.Proofs.YtomahddiclkepaaGreatDoor
open Go.RowKit Go.Joins Go.Maps
open Classical
set_option linter.unusedVariables false
set_option linter.unusedSimpArgs false

theorem mkT_small (b : Bk) (nm : ByteArray) (fr te : Int) : (mkT b nm fr te).2.first = 0 ∧ (mkT b nm fr te).2.types.length ≤ 250 ∧ (mkT b nm fr te).2.chs.length ≤ 1000 ∧ (∀ x ∈ (mkT b nm fr te).2.types, x.name.size ≤ maxLen) ∧ ∀ c ∈ (mkT b nm fr te).2.chs, -1099511627776 ≤ c.t ∧ c.t ≤ 1099511627776 := by
  by_cases h : (mkT b nm fr te).1 = 0
  · obtain ⟨z, hz, -, -, m⟩ := mkT_zero h
    refine ⟨?_, m.ok.many, m.ok.chs, fun x hx => ?_, fun c hc => ⟨(m.ok.ch c hc).1, (m.ok.ch c hc).2.1⟩⟩
    · rw [m.eq]; rfl
    · have := abbr_sizeT _ (m.ok.type x hx).2.2
      simp only [maxLen]; omega
  · rw [mkT_bad h]
    exact ⟨rfl, by decide, by decide, (fun x hx => by cases hx), (fun c hc => by cases hc)⟩
def TbV (R : Int × Tab) (w : World) (e : Ending) (w' : World) : Prop := ∃ p1 c1 p2 c2, e = .returned (.tuple #[.agg #[.slice p1 R.2.types.length c1, .int .i64 0, .slice p2 R.2.chs.length c2], .int .i64 R.1]) ∧ TabAt w' (.agg #[.slice p1 R.2.types.length c1, .int .i64 0, .slice p2 R.2.chs.length c2]) R.2 ∧ Below w.heap.size w w'
theorem Make_tab (MK : MakeSays) (b : Bk) (rv zv lv : Value) (nm : ByteArray) (fr te : Int) (w : World) (hB : BookAt w.heap.size w rv zv lv b) (hn : nm.size ≤ 140737488351232) (hf1 : -4611686018427387904 ≤ fr) (hf2 : fr ≤ 4611686018427387904) (ht1 : -4611686018427387904 ≤ te) (ht2 : te ≤ 4611686018427387904) (hm : MaxLen w) (ht : Tab10 w) :
    Calls Tryz.prog 24 #[.agg #[rv, zv, lv], .string nm, .agg #[.int .i64 fr, .int .i64 te]] w (TbV (mkT b nm fr te) w) := by
  refine (MakeT_any MK b rv zv lv nm fr te w hB hn hf1 hf2 ht1 ht2 hm ht).mono ?_
  rintro e w' ⟨sv, cv, rfl, hs, hc, hb⟩
  obtain ⟨f0, f1, f2, f3, -⟩ := mkT_small b nm fr te
  have h1 := own_types hs (by omega) f3
  have h2 := own_chs hc (by omega)
  obtain ⟨p1, c1, rfl⟩ := own_sliceN hs
  obtain ⟨p2, c2, rfl⟩ := own_sliceN hc
  exact ⟨p1, c1, p2, c2, rfl, ⟨_, _, by rw [f0], h1, h2⟩, hb⟩
/-- a table in a box -/
def TBz (W : World) (B : Nat) (p1 : Option Addr) (c1 : Nat) (p2 : Option Addr) (c2 : Nat) (t : Tab) : Prop :=
  W.heap[B]? = some (.cells #[.slice p1 t.types.length c1, .int .i64 0, .slice p2 t.chs.length c2] 58 (0, 0)) ∧ TabAt W (.agg #[.slice p1 t.types.length c1, .int .i64 0, .slice p2 t.chs.length c2]) t
section
variable {W W' w : World} {B c1 c2 : Nat} {p1 p2 : Option Addr} {t : Tab}
theorem TBz.lt (h : TBz W B p1 c1 p2 c2 t) : B < W.heap.size := (Array.getElem?_eq_some_iff.mp h.1).1
theorem TBz.below (h : TBz W B p1 c1 p2 c2 t) (hb : Below W.heap.size W W') : TBz W' B p1 c1 p2 c2 t := ⟨(hb.block B h.lt).trans h.1, h.2.below hb⟩
theorem TBz.cells (h : TBz W B p1 c1 p2 c2 t) : W.cell? ⟨B, 0, none⟩ = some (.slice p1 t.types.length c1) ∧ W.cell? ⟨B, 1, none⟩ = some (.int .i64 0) ∧ W.cell? ⟨B, 2, none⟩ = some (.slice p2 t.chs.length c2) :=
  ⟨(cell_of_row W _ 0 _ _ _ h.1).trans rfl, (cell_of_row W _ 1 _ _ _ h.1).trans rfl, (cell_of_row W _ 2 _ _ _ h.1).trans rfl⟩
theorem TBz.box (h : TabAt w (.agg #[.slice p1 t.types.length c1, .int .i64 0, .slice p2 t.chs.length c2]) t) (e : w.alloc (.cells #[.slice p1 t.types.length c1, .int .i64 0, .slice p2 t.chs.length c2] 58) = W) : TBz W w.heap.size p1 c1 p2 c2 t := by
  subst e
  exact ⟨heap_alloc_new w _, h.below ((Below.refl _ _).alloc (Nat.le_refl _) _)⟩
theorem TBz.chs (h : TBz W B p1 c1 p2 c2 t) (k : Nat) (hk : k < t.chs.length) : ∃ bb o, p2 = some ⟨bb, o, none⟩ ∧ bb < W.heap.size ∧ W.cell? ⟨bb, o + k * 2, none⟩ = some (.int .i64 t.chs[k].t) ∧ W.cell? ⟨bb, o + k * 2 + 1, none⟩ = some (.int .i64 t.chs[k].k) := by
  obtain ⟨sv, cv, e, -, h2⟩ := h.2.val
  obtain ⟨p, cap, e2, h3⟩ := h2.shape
  simp only [Value.agg.injEq, Array.mk.injEq, List.cons.injEq, and_true] at e
  obtain ⟨-, -, e3⟩ := e
  rw [e2, Value.slice.injEq] at e3
  obtain ⟨bb, o, rfl, hb, hc⟩ := h3 (List.ne_nil_of_length_pos (by omega))
  exact ⟨bb, o, e3.1, hb, (hc k hk).1, (hc k hk).2⟩
end
theorem alBelow (w : World) (o : Obj) : Below w.heap.size w (w.alloc o) := (Below.refl _ _).alloc (Nat.le_refl _) _
/-- a book in a box, behind which all is new -/
structure BkBox (w W0 : World) (p1 p2 p3 : Option Addr) (c1 c2 c3 : Nat) (b : Bk) : Prop where
  hB : BookAt w.heap.size w (.slice p1 b.rules.length c1) (.slice p2 b.zones.length c2) (.slice p3 b.links.length c3) b
  hb : Below w.heap.size w W0
  hx : W0.heap[w.heap.size]? = some (.cells #[.slice p1 b.rules.length c1, .slice p2 b.zones.length c2, .slice p3 b.links.length c3] 26 (0, 0))
  hm : MaxLen w
  ht : Tab10 w
section
variable {w W0 W : World} {p1 p2 p3 : Option Addr} {c1 c2 c3 : Nat} {b : Bk}
theorem BkBox.lt (h : BkBox w W0 p1 p2 p3 c1 c2 c3 b) : w.heap.size < W0.heap.size := (Array.getElem?_eq_some_iff.mp h.hx).1
theorem BkBox.cells (h : BkBox w W0 p1 p2 p3 c1 c2 c3 b) (hb : Below W0.heap.size W0 W) : W.cell? ⟨w.heap.size, 0, none⟩ = some (.slice p1 b.rules.length c1) ∧ W.cell? ⟨w.heap.size, 1, none⟩ = some (.slice p2 b.zones.length c2) ∧ W.cell? ⟨w.heap.size, 2, none⟩ = some (.slice p3 b.links.length c3) := by
  have hx := (hb.block w.heap.size h.lt).trans h.hx
  exact ⟨(cell_of_row W _ 0 _ _ _ hx).trans rfl, (cell_of_row W _ 1 _ _ _ hx).trans rfl, (cell_of_row W _ 2 _ _ _ hx).trans rfl⟩
theorem BkBox.at (h : BkBox w W0 p1 p2 p3 c1 c2 c3 b) (MK : MakeSays) (nm : ByteArray) (hn : nm.size ≤ 140737488351232) (t : Int) (hb : Below W0.heap.size W0 W) (h1 : -4611686018427387904 ≤ t) (h2 : t ≤ 4611686018427387904) :
    Calls Tryz.prog 18 #[.agg #[.slice p1 b.rules.length c1, .slice p2 b.zones.length c2, .slice p3 b.links.length c3], .string nm, .int .i64 t] W (StPost (stR b nm t) W) :=
  have hw : Below w.heap.size w W := h.hb.trans (hb.mono h.hb.size)
  StAt_any MK b _ _ _ nm t W ((h.hB.below hw (Nat.le_refl _)).baseN hw.size) hn (by omega) (by omega) (h.hm.below hw) (h.ht.below hw)
end
end Go.Proofs.YtomahddiclkepaaGreatDoor
namespace Go.Proofs.YtomahddiclkepaaGreatDoor
open Go.RowKit Go.Joins Go.Maps
open Classical
set_option linter.unusedVariables false
set_option linter.unusedSimpArgs false

/-- a book of one zone, as Parse answers it -/
theorem one_post {nm : ByteArray} {L : List Er} {sg : Int} {w w' : World} {e : Ending} (h : PsPost (⟨[], [(nm, L)], [], sg⟩, 0, 0) w e w') : Below w.heap.size w w' ∧ ∃ p1 c1 p2 c2 p3 c3 ev, e = .returned (.tuple #[.agg #[.slice p1 0 c1, .slice p2 1 c2, .slice p3 0 c3], .int .i64 0, .int .i64 0]) ∧ BookAt w'.heap.size w' (.slice p1 0 c1) (.slice p2 1 c2) (.slice p3 0 c3) (oneB [] nm ev L) := by
  obtain ⟨hb, rv, zv, lv, evs, rfl, hel, hbk⟩ := h
  obtain ⟨ev, rfl⟩ : ∃ ev, evs = [ev] := by
    cases evs with
    | nil => simp at hel
    | cons x r =>
      cases r with
      | nil => exact ⟨x, rfl⟩
      | cons y r => simp at hel
  obtain ⟨p1, c1, e1, -, -⟩ := hbk.r
  obtain ⟨p2, c2, e2, -, -⟩ := hbk.z
  obtain ⟨p3, c3, e3, -, -⟩ := hbk.l
  subst e1; subst e2; subst e3
  exact ⟨hb, p1, c1, p2, c2, p3, c3, ev, rfl, hbk⟩
/-- the closed fact's table, as Make answers it -/
theorem wk_tab {w w' : World} {e : Ending} (h : TbV (0, wkT) w e w') : Below w.heap.size w w' ∧ ∃ p1 c1 bb o c2, e = .returned (.tuple #[.agg #[.slice p1 2 c1, .int .i64 0, .slice (some ⟨bb, o, none⟩) 1 c2], .int .i64 0]) ∧ bb < w'.heap.size ∧ w'.cell? ⟨bb, o, none⟩ = some (.int .i64 0) := by
  obtain ⟨p1, c1, p2, c2, rfl, htb, hb⟩ := h
  obtain ⟨W1, e1⟩ : ∃ W1, w'.alloc (.cells #[.slice p1 wkT.types.length c1, .int .i64 0, .slice p2 wkT.chs.length c2] 58) = W1 := ⟨_, rfl⟩
  obtain ⟨sv, cv, e, -, h2⟩ := htb.val
  obtain ⟨p, cap, e2, h3⟩ := h2.shape
  simp only [Value.agg.injEq, Array.mk.injEq, List.cons.injEq, and_true] at e
  obtain ⟨-, -, e3⟩ := e
  rw [e2, Value.slice.injEq] at e3
  obtain ⟨bb, o, rfl, hbb, hc⟩ := h3 (by intro h; cases h)
  obtain ⟨e4, -, -⟩ := e3
  subst e4
  have h0 := (hc 0 (by show 0 < 1; decide)).1
  rw [Nat.zero_mul, Nat.add_zero] at h0
  exact ⟨hb, p1, c1, bb, o, c2, rfl, hbb, h0⟩
set_option maxRecDepth 100000 in
set_option maxHeartbeats 4000000 in
theorem works_any (MK : MakeSays) (w : World) (ht : Tab10 w) (ha : AscTab w) (he : NumErrs w) (hm : MaxLen w) :
    Calls Tryz.prog 13 #[] w fun e w' => e = .returned (.bool true) ∧ Below w.heap.size w w' := by
  obtain ⟨sg, hpf⟩ := wk_parse w ht ha he hm
  have hp := bookParse_any wkL w (by decide) ht ha he hm
  rw [hpf] at hp
  have HP : Hid (Calls Tryz.prog 11 #[.string ⟨#[122, 111, 110, 101, 32, 65, 10, 101, 114, 97, 32, 49, 58, 48, 48, 32, 45, 48, 58, 48, 48, 32, 67, 69, 84, 32, 49, 57, 55, 48, 45, 48, 49, 45, 48, 49, 84, 48, 48, 58, 48, 48, 58, 48, 48, 10, 101, 114, 97, 32, 48, 58, 48, 48, 32, 45, 48, 58, 48, 48, 32, 71, 77, 84]⟩] w (PsPost (⟨[], [(wkA, bErs wkT)], [], sg⟩, 0, 0) w)) := hp
  have HM := Lib.hid hm
  have HT := Lib.hid ht
  clear hp ht ha he hm hpf
  go_enter Tryz.func13, Tryz.ntmps13
  go_wp2_with fail
  refine HP.out.mono ?_
  intro e w1 hpost
  obtain ⟨hb1, p1, c1, p2, c2, p3, c3, ev, rfl, hbk⟩ := one_post hpost
  obtain ⟨W2, e2⟩ : ∃ W2, w1.alloc (.cells #[.slice p1 0 c1, .slice p2 1 c2, .slice p3 0 c3] 26) = W2 := ⟨_, rfl⟩
  have hb2 : Below w1.heap.size w1 W2 := by rw [← e2]; exact alBelow _ _
  have hx2 : W2.heap[w1.heap.size]? = some (.cells #[.slice p1 0 c1, .slice p2 1 c2, .slice p3 0 c3] 26 (0, 0)) := by rw [← e2]; exact heap_alloc_new w1 _
  have y0 : W2.cell? ⟨w1.heap.size, 0, none⟩ = some (.slice p1 0 c1) := (cell_of_row W2 _ 0 _ _ _ hx2).trans rfl
  have y1 : W2.cell? ⟨w1.heap.size, 1, none⟩ = some (.slice p2 1 c2) := (cell_of_row W2 _ 1 _ _ _ hx2).trans rfl
  have y2 : W2.cell? ⟨w1.heap.size, 2, none⟩ = some (.slice p3 0 c3) := (cell_of_row W2 _ 2 _ _ _ hx2).trans rfl
  have HB2 := Lib.hid (hb1.trans (hb2.mono hb1.size))
  have hbk2 := (hbk.below hb2 (Nat.le_refl _)).baseN hb2.size
  have hmk := Make_tab MK _ _ _ _ wkA (-5) 5 W2 hbk2 (by decide) (by decide) (by decide) (by decide) (by decide) (HM.out.below HB2.out) (HT.out.below HB2.out)
  rw [wk_made ev] at hmk
  have HMK : Hid (Calls Tryz.prog 24 #[.agg #[.slice p1 0 c1, .slice p2 1 c2, .slice p3 0 c3], .string ⟨#[65]⟩, .agg #[.int .i64 (-5), .int .i64 5]] W2 (TbV (0, wkT) W2)) := hmk
  have HE2 := Lib.hid e2
  clear hb1 hpost hb2 hx2 e2 HP hbk hbk2 hmk
  go_upto_region 2 with fail
  rw [HE2.out]
  go_wp2_with fail
  refine HMK.out.mono ?_
  intro e w3 hpost
  obtain ⟨hb3, q1, d1, bb, o, d2, rfl, hbb, hc⟩ := wk_tab hpost
  obtain ⟨W4, e4⟩ : ∃ W4, w3.alloc (.cells #[.slice q1 2 d1, .int .i64 0, .slice (some ⟨bb, o, none⟩) 1 d2] 58) = W4 := ⟨_, rfl⟩
  have hb4 : Below w3.heap.size w3 W4 := by rw [← e4]; exact alBelow _ _
  have hx4 : W4.heap[w3.heap.size]? = some (.cells #[.slice q1 2 d1, .int .i64 0, .slice (some ⟨bb, o, none⟩) 1 d2] 58 (0, 0)) := by rw [← e4]; exact heap_alloc_new w3 _
  have z2 : W4.cell? ⟨w3.heap.size, 2, none⟩ = some (.slice (some ⟨bb, o, none⟩) 1 d2) := (cell_of_row W4 _ 2 _ _ _ hx4).trans rfl
  have zc : W4.cell? ⟨bb, o, none⟩ = some (.int .i64 0) := (hb4.cell (p := ⟨bb, o, none⟩) hbb).trans hc
  have HB4 := Lib.hid (HB2.out.trans ((hb3.trans (hb4.mono hb3.size)).mono HB2.out.size))
  have HE4 := Lib.hid e4
  clear hb3 hpost hb4 hx4 e4 HMK hc y0 y1 y2
  go_upto_region 3 with fail
  rw [HE4.out]
  go_wp2_with fail
  go_ret
  exact ⟨rfl, HB4.out⟩
end Go.Proofs.YtomahddiclkepaaGreatDoor
namespace Go.Proofs.YtomahddiclkepaaGreatDoor
open Go.RowKit Go.Joins
open Classical
set_option linter.unusedVariables false
set_option linter.unusedSimpArgs false

set_option maxRecDepth 100000 in
set_option maxHeartbeats 4000000 in
theorem Of_book (MK : MakeSays) (b : Bk) (rv zv lv : Value) (nm : ByteArray) (off : Int) (w : World) (hB : BookAt w.heap.size w rv zv lv b) (hm : MaxLen w) (ht : Tab10 w) :
    Calls Tryz.prog 15 #[.agg #[rv, zv, lv], .string nm, .int .i64 off] w (TnPost (ofR b nm off) w) := by
  obtain ⟨W0, eW⟩ : ∃ W0, w.alloc (.cells #[rv, zv, lv] 26) = W0 := ⟨_, rfl⟩
  have hr := hB.r
  have hz := hB.z
  have hl := hB.l
  obtain ⟨p1, c1, rfl, hlen1, hrow1⟩ := hr
  obtain ⟨p2, c2, rfl, hlen2, hrow2⟩ := hz
  obtain ⟨p3, c3, rfl, hlen3, hrow3⟩ := hl
  have hb0 : Below w.heap.size w W0 := by rw [← eW]; exact (Below.refl _ _).alloc (Nat.le_refl _) _
  have hbx : W0.heap[w.heap.size]? = some (.cells #[.slice p1 b.rules.length c1, .slice p2 b.zones.length c2, .slice p3 b.links.length c3] 26 (0, 0)) := by rw [← eW]; exact heap_alloc_new w _
  have hl0 : w.heap.size < W0.heap.size := by rw [← eW]; simp
  have x0 := (cell_of_row W0 _ 0 _ _ _ hbx).trans rfl
  have x1 := (cell_of_row W0 _ 1 _ _ _ hbx).trans rfl
  have x2 := (cell_of_row W0 _ 2 _ _ _ hbx).trans rfl
  have HEW := Lib.hid eW
  have HB0 := Lib.hid hb0
  have HBK := Lib.hid (hB.below hb0 (Nat.le_refl _))
  have HCK := Lib.hid (bkCheck_any b _ _ _ W0 (by exact { r := HBK.out.r.mono (Nat.le_of_lt hl0), z := HBK.out.z.mono (Nat.le_of_lt hl0), e := fun z hz => (HBK.out.e z hz).mono (Nat.le_of_lt hl0), l := HBK.out.l.mono (Nat.le_of_lt hl0), rs := HBK.out.rs, zs := HBK.out.zs, ls := HBK.out.ls }) (hm.below hb0) (ht.below hb0))
  have HRU := Lib.hid (bk_rules (b := b))
  have HE1 := Lib.hid (ofR_bad (b := b) (nm := nm) (off := off))
  have HE2 := Lib.hid (ofR_1 (b := b) (nm := nm) (off := off))
  have HE3 := Lib.hid (ofR_mk (b := b) (nm := nm) (off := off))
  obtain ⟨R, eR⟩ : ∃ R, ofR b nm off = R := ⟨_, rfl⟩
  rw [eR] at HE1 HE2 HE3 ⊢
  obtain ⟨C, eC⟩ : ∃ C, bkChk b = C := ⟨_, rfl⟩
  rw [eC] at HE1 HE2 HE3 HCK HRU
  have HR0 := Lib.hid HBK.out.r
  clear eW hb0 hbx hB hm ht hrow1 hrow2 hrow3 eR eC
  go_enter Tryz.func15, Tryz.ntmps15
  go_upto_region 1 with fail
  rw [HEW.out]
  go_wp2_with fail
  refine HCK.out.mono ?_
  rintro e w1 ⟨rfl, hb1⟩
  have HB1 := Lib.hid (HB0.out.trans (hb1.mono HB0.out.size))
  have hl1 : w.heap.size < w1.heap.size := by have := hb1.size; omega
  have y0 := (hb1.cell (p := ⟨w.heap.size, 0, none⟩) hl0).trans x0
  have HR1 := Lib.hid (HR0.out.below hb1 (Nat.le_of_lt hl0))
  clear hb1 HCK x0 x1 x2
  by_cases hc : C = 0
  · subst hc
    by_cases ho : off < -64800 ∨ 64800 < off
    · have HE := Lib.hid (HE2.out rfl ho)
      by_cases h1 : off < -64800
      · clear ho
        go_wp2_with fail
        go_ret2
        exact TnPost.bad HE.out HB1.out
      · have h2 : 64800 < off := by omega
        clear ho
        go_wp2_with fail
        go_ret2
        exact TnPost.bad HE.out HB1.out
    · have HE := Lib.hid (HE3.out rfl ho)
      obtain ⟨hr1, hr2⟩ := HRU.out rfl
      have h1 : ¬ off < -64800 := by omega
      have h2 : ¬ 64800 < off := by omega
      have HMK := Lib.hid (fun W hW => MK b.rules nm off (.slice p1 b.rules.length c1) W hW hr2 hr1 (by omega) (by omega))
      clear ho hr1 hr2
      go_wp2_with fail
      refine (HMK.out _ (HR1.out.mono (Nat.le_of_lt hl1))).mono ?_
      rintro e w2 ⟨vo, rfl, hrow, hb2⟩
      have HP : Hid (TnPost R w (.returned (.tuple #[vo, .int .i64 (mkR b.rules nm off).1])) w2) := by
        show TnPost _ _ _ _
        rw [HE.out]
        exact ⟨vo, rfl, own_base hrow (Nat.le_of_lt hl1), HB1.out.trans (hb2.mono (Nat.le_of_lt hl1))⟩
      obtain ⟨X, eX⟩ : ∃ X, (mkR b.rules nm off).1 = X := ⟨_, rfl⟩
      rw [eX] at HP ⊢
      clear hrow hb2 eX
      go_wp2_with fail
      go_ret2
      exact HP.out
  · have HE := Lib.hid (HE1.out hc)
    have hcz : (C == 0) = false := by simpa using hc
    have hcz2 : (!(C == 0)) = true := by rw [hcz]; rfl
    clear hc
    go_wp2_with fail
    go_ret2
    exact TnPost.bad HE.out HB1.out
end Go.Proofs.YtomahddiclkepaaGreatDoor
namespace Go.Proofs.YtomahddiclkepaaGreatDoor
open Go.RowKit Go.Joins
open Classical
set_option linter.unusedVariables false
set_option linter.unusedSimpArgs false

abbrev ruLY (r : Ru) : List Value := (ruCells r).toList
def ruFlatY (l : List Ru) : List Value := l.flatMap ruLY
theorem ruFlatY_snoc (l : List Ru) (r : Ru) : ruFlatY (l ++ [r]) = ruFlatY l ++ (ruCells r).toList := by simp [ruFlatY]
theorem infoRuY : (Tryz.prog.info? 87).map (fun i => (i.zero, i.size, i.bytes)) = some (some (.agg #[.string ⟨#[]⟩, .int .i64 0, .int .i64 0, .int .i64 0, .int .i64 0, .int .i64 0, .int .i64 0, .int .i64 0, .int .i64 0, .int .i64 0, .string ⟨#[]⟩]), 11, 104) := by kernel_rfl
theorem undRuY : Tryz.prog.underlying 22 = some (.slice 87) := by kernel_rfl
/-- what is known of a turn that comes in -/
structure SzTn (t : Tn) : Prop where
  a1 : -9223372036854775808 ≤ t.a
  a2 : t.a ≤ 9223372036854775807
  l : t.lt.size ≤ 140737488351232
def YrPost (R : Int × List Ru) (w : World) (e : Ending) (w' : World) : Prop := ∃ vo, e = .returned (.tuple #[vo, .int .i64 R.1]) ∧ w'.ownsRow w.heap.size 87 11 vo R.2.length (ruFlatY R.2) ∧ Below w.heap.size w w'
theorem YrPost.bad {R : Int × List Ru} {w w' : World} {c : Int} (h : R = (c, [])) (hb : Below w.heap.size w w') : YrPost R w (.returned (.tuple #[.slice none 0 0, .int .i64 c])) w' :=
  ⟨_, by rw [h], by rw [h]; exact World.ownsRow_nil _ _ _ _, hb⟩
def prevA (l : List Tn) (k : Nat) : Option Int := if k = 0 then none else (l[k - 1]?).map (·.a)
theorem yrs_step {l : List Tn} {k : Nat} (hk : k < l.length) : yrsE (prevA l k) (l.drop k) = if tnE (prevA l k) l[k] = 0 then yrsE (prevA l (k + 1)) (l.drop (k + 1)) else tnE (prevA l k) l[k] := by
  rw [List.drop_eq_getElem_cons hk]
  have e : prevA l (k + 1) = some l[k].a := by unfold prevA; rw [if_neg (by omega), Nat.add_sub_cancel, List.getElem?_eq_getElem hk]; rfl
  rw [e]
  rfl
theorem yrs_done (l : List Tn) : yrsE (prevA l l.length) (l.drop l.length) = 0 := by rw [List.drop_length]; rfl
theorem tn1 {p : Option Int} {t : Tn} (h : ¬ (-135140 ≤ t.a / 86400 ∧ t.a / 86400 ≤ 157053) ∨ Civ.yy (t.a / 86400) < 1900 ∨ 2100 < Civ.yy (t.a / 86400)) : tnE p t = 1 := by unfold tnE; rw [if_pos h]
theorem tn5 {p : Option Int} {t : Tn} (h : ¬ (¬ (-135140 ≤ t.a / 86400 ∧ t.a / 86400 ≤ 157053) ∨ Civ.yy (t.a / 86400) < 1900 ∨ 2100 < Civ.yy (t.a / 86400))) (h2 : prevB p t.a = true) : tnE p t = 5 := by unfold tnE; rw [if_neg h, if_pos h2]
theorem tn1b {p : Option Int} {t : Tn} (h : ¬ (¬ (-135140 ≤ t.a / 86400 ∧ t.a / 86400 ≤ 157053) ∨ Civ.yy (t.a / 86400) < 1900 ∨ 2100 < Civ.yy (t.a / 86400))) (h2 : prevB p t.a = false) (h3 : t.s < 0 ∨ 10800 < t.s) : tnE p t = 1 := by unfold tnE; rw [if_neg h, if_neg (by rw [h2]; decide), if_pos h3]
theorem tn3 {p : Option Int} {t : Tn} (h : ¬ (¬ (-135140 ≤ t.a / 86400 ∧ t.a / 86400 ≤ 157053) ∨ Civ.yy (t.a / 86400) < 1900 ∨ 2100 < Civ.yy (t.a / 86400))) (h2 : prevB p t.a = false) (h3 : ¬ (t.s < 0 ∨ 10800 < t.s)) (h4 : t.lt.data.toList ≠ [45] ∧ abbrB t.lt = false) : tnE p t = 3 := by unfold tnE; rw [if_neg h, if_neg (by rw [h2]; decide), if_neg h3, if_pos h4]
theorem tn0 {p : Option Int} {t : Tn} (h : ¬ (¬ (-135140 ≤ t.a / 86400 ∧ t.a / 86400 ≤ 157053) ∨ Civ.yy (t.a / 86400) < 1900 ∨ 2100 < Civ.yy (t.a / 86400))) (h2 : prevB p t.a = false) (h3 : ¬ (t.s < 0 ∨ 10800 < t.s)) (h4 : ¬ (t.lt.data.toList ≠ [45] ∧ abbrB t.lt = false)) : tnE p t = 0 := by unfold tnE; rw [if_neg h, if_neg (by rw [h2]; decide), if_neg h3, if_neg h4]

set_option maxRecDepth 100000 in
set_option maxHeartbeats 20000000 in
theorem Years_any (l : List Tn) (v : Value) (w : World) (hv : RowsAt tnC 3 w.heap.size w v l) (hs : ∀ t ∈ l, SzTn t) :
    Calls Tryz.prog 16 #[v] w (YrPost (yearsR l) w) := by
  obtain ⟨p, cp, rfl, hlen, hrow⟩ := hv
  have HROW := Lib.hid hrow
  have HSZ := Lib.hid hs
  clear hrow hs
  obtain ⟨i1, hi1, hz10, hz11, hz12⟩ := info_parts infoRuY
  by_cases h40 : 40 < l.length
  · have er : yearsR l = (2, []) := by unfold yearsR; rw [if_pos h40]
    rw [er]
    have h41 : (40 : Int) < (l.length : Int) := by omega
    go_enter Tryz.func16, Tryz.ntmps16
    go_wp2_with fail
    go_ret2
    exact YrPost.bad rfl (Below.refl _ _)
  have h41 : ¬ (40 : Int) < (l.length : Int) := by omega
  have HY : Hid (yearsR l = if yrsE none l = 0 then (0, l.map yrR) else (yrsE none l, [])) := by show _ = _; unfold yearsR; rw [if_neg h40]
  obtain ⟨R, eR⟩ : ∃ R, yearsR l = R := ⟨_, rfl⟩
  rw [eR] at HY ⊢
  clear eR
  go_enter Tryz.func16, Tryz.ntmps16
  go_wp2_with fail
  go_loopw [4, 18] (fun v4 i wr => ∃ k : Nat, k ≤ l.length ∧ i = .int .i64 k ∧ Hid (yrsE none l = yrsE (prevA l k) (l.drop k)) ∧ Hid (wr.ownsRow w.heap.size 87 11 v4 k (ruFlatY ((l.take k).map yrR))) ∧ Hid (Below w.heap.size w wr)) (fun _ i _ => l.length - (intOf i).toNat)
  case atStart => exact ⟨0, Nat.zero_le _, rfl, Lib.hid rfl, Lib.hid (World.ownsRow_nil _ _ _ _), Lib.hid (Below.refl _ _)⟩
  case round =>
    obtain ⟨k, hk, rfl, HE, HOW, HBR⟩ := hrel
    have hzr := HBR.out.size
    by_cases hkl : k < l.length
    · obtain ⟨bb, o, rfl, hbl, hcs⟩ := HROW.out (List.ne_nil_of_length_pos (by omega))
      have hck := hcs k hkl
      have hsz := HSZ.out l[k] (List.getElem_mem hkl)
      have hpv : ∀ W : World, Below w.heap.size w W → 0 < k → ∃ x, prevA l k = some x ∧ W.cell? ⟨bb, o + (k - 1) * 3, none⟩ = some (.int .i64 x) := by
        intro W hW hk0
        have hc := hcs (k - 1) (by omega) 0 _ rfl
        refine ⟨(l[k - 1]'(by omega)).a, ?_, (hW.cell (p := ⟨bb, o + (k - 1) * 3, none⟩) hbl).trans hc⟩
        unfold prevA
        rw [if_neg (by omega), List.getElem?_eq_getElem (by omega)]
        rfl
      have hst := yrs_step hkl
      have htk : (l.take (k + 1)).map yrR = (l.take k).map yrR ++ [yrR l[k]] := by rw [List.take_succ_eq_append_getElem hkl, List.map_append]; rfl
      rw [← HE.out] at hst
      obtain ⟨q, eq⟩ : ∃ q, l[k] = q := ⟨_, rfl⟩
      rw [eq] at hck hsz hst htk
      have HPV := Lib.hid hpv
      have HST := Lib.hid hst
      have HTK := Lib.hid htk
      have hbad : ∀ c : Int, c ≠ 0 → tnE (prevA l k) q = c → R = (c, []) := fun c hc e => by
        rw [HY.out]
        rw [e, if_neg hc] at hst
        rw [hst, if_neg hc]
      have HBAD := Lib.hid hbad
      have up : ∀ j u, w.cell? ⟨bb, o + k * 3 + j, none⟩ = some u → wr.cell? ⟨bb, o + k * 3 + j, none⟩ = some u := fun j u h => (HBR.out.cell (p := ⟨bb, o + k * 3 + j, none⟩) hbl).trans h
      clear eq hcs hst htk hpv hbad
      obtain ⟨ta, ts, tl⟩ := q
      have z0 := up 0 _ (hck 0 _ rfl)
      have z1 := up 1 _ (hck 1 _ rfl)
      have z2 := up 2 _ (hck 2 _ rfl)
      rw [Nat.add_zero] at z0
      have ha1 := hsz.a1
      have ha2 := hsz.a2
      have hlz := hsz.l
      simp only at ha1 ha2 hlz z0 z1 z2
      clear up hck hsz HE
      obtain ⟨W1, e1⟩ : ∃ W1, wr.alloc (.cells #[.int .i64 ta, .int .i64 ts, .string tl] 49) = W1 := ⟨_, rfl⟩
      obtain ⟨tb, etb⟩ : ∃ tb, wr.heap.size = tb := ⟨_, rfl⟩
      have hx1 : W1.heap[tb]? = some (.cells #[.int .i64 ta, .int .i64 ts, .string tl] 49 (0, 0)) := by rw [← e1]; exact alloc_at _ _ _ etb.symm
      have hb1 : Below wr.heap.size wr W1 := by rw [← e1]; exact (Below.refl _ _).alloc (Nat.le_refl _) _
      have htb : tb < W1.heap.size := (Array.getElem?_eq_some_iff.mp hx1).1
      have hwtb : w.heap.size ≤ tb := by omega
      have HB1 := Lib.hid (HBR.out.trans (hb1.mono hzr))
      have HOW1 := Lib.hid (own_keep HOW.out fun g e => hb1.block g (World.ownsRow.lt HOW.out g e).2)
      have hnb : u4.ownBlock ≠ some tb := fun e => by have := (World.ownsRow.lt HOW.out _ e).2; omega
      have HNB := Lib.hid hnb
      have HX1 := Lib.hid hx1
      have HE1 := Lib.hid e1
      have HTB := Lib.hid etb
      have HFL := Lib.hid (Floor_any ta 86400 W1 (by decide) (by decide) ha1 ha2)
      have hfr : 0 ≤ ta % 86400 ∧ ta % 86400 < 86400 := ⟨Int.emod_nonneg _ (by decide), Int.emod_lt_of_pos _ (by decide)⟩
      have HTN1 := Lib.hid (fun p => tn1 (p := p) (t := ⟨ta, ts, tl⟩))
      have HTN5 := Lib.hid (fun p => tn5 (p := p) (t := ⟨ta, ts, tl⟩))
      have HTN1b := Lib.hid (fun p => tn1b (p := p) (t := ⟨ta, ts, tl⟩))
      have HTN3 := Lib.hid (fun p => tn3 (p := p) (t := ⟨ta, ts, tl⟩))
      have HTN0 := Lib.hid (fun p => tn0 (p := p) (t := ⟨ta, ts, tl⟩))
      have HYR : Hid (yrR ⟨ta, ts, tl⟩ = ⟨yearsB, Civ.yy (ta / 86400), Civ.yy (ta / 86400), Civ.mm (ta / 86400), 1, 0, if Civ.mm (ta / 86400) = 2 ∧ Civ.dd (ta / 86400) = 29 then 28 else Civ.dd (ta / 86400), if Civ.mm (ta / 86400) = 2 ∧ Civ.dd (ta / 86400) = 29 then ta % 86400 + 86400 else ta % 86400, 2, ts, tl⟩) := rfl
      simp only at HTN1 HTN5 HTN1b HTN3 HTN0
      obtain ⟨n, en⟩ : ∃ n, ta / 86400 = n := ⟨_, rfl⟩
      obtain ⟨rs, ers⟩ : ∃ rs, ta % 86400 = rs := ⟨_, rfl⟩
      rw [en] at HTN1 HTN5 HTN1b HTN3 HTN0 HYR HFL
      rw [ers] at hfr HYR HFL
      have hn1 : -9223372036854775808 ≤ n ∧ n ≤ 9223372036854775807 := by omega
      have y0 : W1.cell? ⟨tb, 0, none⟩ = some (.int .i64 ta) := (cell_of_row W1 _ 0 _ _ _ hx1).trans rfl
      clear e1 etb hb1 hx1 hnb en ers ha1 ha2
      go_upto_region 7 with fail
      rw [HE1.out, HTB.out]
      clear z0 z1 z2
      go_wp2_with fail
      refine HFL.out.mono ?_
      rintro e w2 ⟨rfl, hb2⟩
      have HB2 := Lib.hid (HB1.out.trans (hb2.mono HB1.out.size))
      have hx2 := (hb2.block tb htb).trans HX1.out
      have HX2 := Lib.hid hx2
      have HOW2 := Lib.hid (own_keep HOW1.out fun g e => hb2.block g (World.ownsRow.lt HOW1.out g e).2)
      have htb2 : tb < w2.heap.size := (Array.getElem?_eq_some_iff.mp hx2).1
      clear hb2 hx2 HB1 HX1 HOW1 HFL y0 htb HOW
      by_cases hd : -135140 ≤ n ∧ n ≤ 157053
      case neg =>
        have HBDX := Lib.hid (HBAD.out 1 (by decide) (HTN1.out _ (.inl hd)))
        have hd' : n < -135140 ∨ 157053 < n := by omega
        have HDT := Lib.hid (Date_no n w2 hd')
        go_wp2_with fail
        refine HDT.out.mono ?_
        rintro e w3 ⟨rfl, rfl⟩
        go_wp2_with fail
        go_ret2
        exact YrPost.bad HBDX.out HB2.out
      have HDT := Lib.hid (Date_ok n w2 hd.1 hd.2)
      obtain ⟨Y, eY⟩ : ∃ Y, Civ.yy n = Y := ⟨_, rfl⟩
      obtain ⟨M, eM⟩ : ∃ Y, Civ.mm n = Y := ⟨_, rfl⟩
      obtain ⟨D, eD⟩ : ∃ Y, Civ.dd n = Y := ⟨_, rfl⟩
      rw [eY, eM, eD] at HDT HYR
      rw [eY] at HTN1 HTN5 HTN1b HTN3 HTN0
      clear eY eM eD
      by_cases hy : Y < 1900 ∨ 2100 < Y
      case pos =>
        have HBDX := Lib.hid (HBAD.out 1 (by decide) (HTN1.out _ (.inr hy)))
        rcases hy with hy | hy
        · go_wp2_with fail
          refine HDT.out.mono ?_
          rintro e w3 ⟨rfl, rfl⟩
          go_wp2_with fail
          go_ret2
          exact YrPost.bad HBDX.out HB2.out
        · have hy2 : ¬ Y < 1900 := by omega
          go_wp2_with fail
          refine HDT.out.mono ?_
          rintro e w3 ⟨rfl, rfl⟩
          go_wp2_with fail
          go_ret2
          exact YrPost.bad HBDX.out HB2.out
      have hy1 : ¬ Y < 1900 := by omega
      have hy2 : ¬ 2100 < Y := by omega
      have hno : ¬ (¬ (-135140 ≤ n ∧ n ≤ 157053) ∨ Y < 1900 ∨ 2100 < Y) := by omega
      have HNO := Lib.hid hno
      clear hno hy
      have x0 : w2.cell? ⟨tb, 0, none⟩ = some (.int .i64 ta) := (cell_of_row w2 _ 0 _ _ _ HX2.out).trans rfl
      have HPB : Hid (∃ PB, prevB (prevA l k) ta = PB) := ⟨_, rfl⟩
      obtain ⟨PB, ePB⟩ := HPB.out
      have EPB := Lib.hid ePB
      have hk0 : k = 0 ∨ (0 < k ∧ ∃ x, PB = decide (ta ≤ x) ∧ w2.cell? ⟨bb, o + (k - 1) * 3, none⟩ = some (.int .i64 x)) := by
        by_cases h0 : k = 0
        · exact .inl h0
        · refine .inr ⟨by omega, ?_⟩
          obtain ⟨x, h1, h2⟩ := HPV.out w2 HB2.out (by omega)
          refine ⟨x, ?_, h2⟩
          rw [← ePB, h1]; rfl
      have hp0 : k = 0 → PB = false := fun h0 => by rw [← ePB, h0]; rfl
      have HK0 := Lib.hid hk0
      have HP0 := Lib.hid hp0
      clear ePB hk0 hp0 HPV HPB
      go_wp2_with fail
      refine HDT.out.mono ?_
      rintro e w3 ⟨rfl, rfl⟩
      go_upto_region 11 with fail
      go_cut [47] from 48 to 60 (fun s47 wx => s47 = .bool PB ∧ Hid (∃ nq, wx = w2.drewN nq))
      case first =>
        rcases HK0.out with h0 | ⟨h0, x, hx, hc⟩
        · have hPB := Lib.hid (HP0.out h0)
          subst h0
          go_big_region
          all_goals go_wp2_with fail
          all_goals go_meet
          all_goals exact ⟨congrArg Value.bool hPB.out.symm, Lib.hid ⟨1, rfl⟩⟩
        · obtain ⟨q, rfl⟩ : ∃ q, k = q + 1 := ⟨k - 1, by omega⟩
          rw [Nat.add_sub_cancel] at hc
          have hwp : IntKind.i64.wrap (q : Int) = (q : Int) := by rw [IntKind.wrap_i64]; omega
          have jz1 : (q : Int) < (l.length : Int) := by omega
          have p0 : (0 : Int) < (q : Int) + 1 := by omega
          have gd : decide ((q : Int) + 1 > 0) = true := decide_eq_true (by omega)
          clear h0 HK0 HP0
          by_cases hle : ta ≤ x
          · rw [decide_eq_true hle] at hx
            subst hx
            go_quiet (fail)
            go_wp2_with fail
            go_meet
            exact ⟨rfl, Lib.hid ⟨_, rfl⟩⟩
          · rw [decide_eq_false hle] at hx
            subst hx
            go_quiet (fail)
            go_wp2_with fail
            go_meet
            exact ⟨rfl, Lib.hid ⟨_, rfl⟩⟩
      case rest =>
      obtain ⟨rfl, nq, hwc⟩ := hcut
      obtain ⟨W3, e3⟩ : ∃ W3, w2.drewN nq = W3 := ⟨_, rfl⟩
      rw [hwc, e3]
      have hh3 : W3.heap = w2.heap := by rw [← e3]; rfl
      have HB3 : Hid (Below w.heap.size w W3) := by rw [← e3]; exact below_drewN HB2.out nq
      have hx3 : W3.heap[tb]? = some (.cells #[.int .i64 ta, .int .i64 ts, .string tl] 49 (0, 0)) := by rw [hh3]; exact HX2.out
      have HOW3 := Lib.hid (own_keep (W' := W3) HOW2.out fun g e => by rw [hh3])
      have hz3 : w.heap.size ≤ W3.heap.size := HB3.out.size
      have htb3 : tb < W3.heap.size := (Array.getElem?_eq_some_iff.mp hx3).1
      have x1 : W3.cell? ⟨tb, 1, none⟩ = some (.int .i64 ts) := (cell_of_row W3 _ 1 _ _ _ hx3).trans rfl
      have x2 : W3.cell? ⟨tb, 2, none⟩ = some (.string tl) := (cell_of_row W3 _ 2 _ _ _ hx3).trans rfl
      clear hwc e3 hh3 HX2 HOW2 HB2 x0 htb2 HK0 HP0 wc hx3
      cases PB with
      | true =>
        have HBDX := Lib.hid (HBAD.out 5 (by decide) (HTN5.out _ HNO.out EPB.out))
        go_wp2_with fail
        go_ret2
        exact YrPost.bad HBDX.out HB3.out
      | false =>
      by_cases hs0 : ts < 0
      · have HBDX := Lib.hid (HBAD.out 1 (by decide) (HTN1b.out _ HNO.out EPB.out (.inl hs0)))
        go_wp2_with fail
        go_ret2
        exact YrPost.bad HBDX.out HB3.out
      by_cases hs1 : 10800 < ts
      · have HBDX := Lib.hid (HBAD.out 1 (by decide) (HTN1b.out _ HNO.out EPB.out (.inr hs1)))
        go_wp2_with fail
        go_ret2
        exact YrPost.bad HBDX.out HB3.out
      have HAB := Lib.hid (isAbbr_any tl W3 (by simp only [maxLen]; omega))
      obtain ⟨AB, eAB⟩ : ∃ AB, abbrB tl = AB := ⟨_, rfl⟩
      rw [eAB] at HAB HTN3 HTN0
      clear eAB
      have HL0 : Hid ((tl.toList = [45] ∧ (!tl.toList == [45]) = false) ∨ (tl.toList ≠ [45] ∧ (!tl.toList == [45]) = true)) := by
        show _ ∨ _
        by_cases hL : tl.toList = [45]
        · exact .inl ⟨hL, by rw [hL]; rfl⟩
        · exact .inr ⟨hL, by simp [hL]⟩
      go_upto_region 15 with fail
      go_cut [70] from 71 to 79 (fun s70 wx => s70 = .bool (decide (tl.toList ≠ [45] ∧ AB = false)) ∧ wx = W3)
      case first =>
        rcases HL0.out with ⟨hL, hL2⟩ | ⟨hL, hL2⟩
        · have hd : decide (tl.toList ≠ [45] ∧ AB = false) = false := decide_eq_false fun g => g.1 hL
          clear hL
          go_wp2_with fail
          go_meet
          exact ⟨congrArg Value.bool hd.symm, rfl⟩
        · have hd : decide (tl.toList ≠ [45] ∧ AB = false) = !AB := by cases AB <;> simp [hL]
          clear hL
          go_wp2_with fail
          refine HAB.out.mono ?_
          rintro e w4 ⟨rfl, rfl⟩
          go_wp2_with fail
          go_meet
          exact ⟨congrArg Value.bool hd.symm, rfl⟩
      case rest =>
      obtain ⟨rfl, hwc⟩ := hcut
      rw [hwc]
      clear hwc wc HL0 HAB
      by_cases hbl : tl.toList ≠ [45] ∧ AB = false
      · have HBDX := Lib.hid (HBAD.out 3 (by decide) (HTN3.out _ HNO.out EPB.out (by omega) ⟨by rw [← ByteArray.toList_eq]; exact hbl.1, hbl.2⟩))
        rw [decide_eq_true hbl]
        go_wp2_with fail
        go_ret2
        exact YrPost.bad HBDX.out HB3.out
      rw [decide_eq_false hbl]
      have hok := HTN0.out _ HNO.out EPB.out (by omega) (fun g => hbl ⟨by rw [ByteArray.toList_eq]; exact g.1, g.2⟩)
      have HST2 := Lib.hid (HST.out.trans (by rw [if_pos hok]))
      clear hok hbl HBAD HTN0 HTN1 HTN1b HTN3 HTN5 HNO EPB HST
      have HREL : ∀ (D2 rs2 : Int), (if M = 2 ∧ D = 29 then 28 else D) = D2 → (if M = 2 ∧ D = 29 then rs + 86400 else rs) = rs2 → Hid ((l.take (k + 1)).map yrR = (l.take k).map yrR ++ [⟨yearsB, Y, Y, M, 1, 0, D2, rs2, 2, ts, tl⟩]) := by
        intro D2 rs2 h1 h2
        show _ = _
        rw [HTK.out, HYR.out, h1, h2]
      have HRL := Lib.hid HREL
      clear HREL HTK HYR
      obtain ⟨A, cA, rfl⟩ := own_sliceN HOW3.out
      have HRC : Hid (∀ (D2 rs2 : Int) (o' : Obj), (W3.alloc o').ownsRow w.heap.size 87 11 (.slice A k cA) k (ruFlatY ((l.take k).map yrR))) := by
        show ∀ D2 rs2 o', _
        intro D2 rs2 o'
        exact World.ownsRow.alloc HOW3.out o'
      have HML : k + 1 ≤ maxLen := by simp only [maxLen]; omega
      have HMB : (k + 1) * 104 ≤ 140737488355328 := by omega
      have HS2 : Hid (∀ o' : Obj, w.heap.size ≤ (W3.alloc o').heap.size) := by
        show ∀ o' : Obj, _
        intro o'; simp; omega
      have h3 : ∃ D2 rs2 : Int, ((M = 2 ∧ D = 29 ∧ D2 = 28 ∧ rs2 = rs + 86400) ∨ (M = 2 ∧ D ≠ 29 ∧ D2 = D ∧ rs2 = rs) ∨ (M ≠ 2 ∧ D2 = D ∧ rs2 = rs)) ∧ Hid ((l.take (k + 1)).map yrR = (l.take k).map yrR ++ [⟨yearsB, Y, Y, M, 1, 0, D2, rs2, 2, ts, tl⟩]) := by
        by_cases hM : M = 2
        · by_cases hD : D = 29
          · exact ⟨28, rs + 86400, .inl ⟨hM, hD, rfl, rfl⟩, HRL.out 28 (rs + 86400) (if_pos ⟨hM, hD⟩) (if_pos ⟨hM, hD⟩)⟩
          · exact ⟨D, rs, .inr (.inl ⟨hM, hD, rfl, rfl⟩), HRL.out D rs (if_neg fun g => hD g.2) (if_neg fun g => hD g.2)⟩
        · exact ⟨D, rs, .inr (.inr ⟨hM, rfl, rfl⟩), HRL.out D rs (if_neg fun g => hM g.1) (if_neg fun g => hM g.1)⟩
      obtain ⟨D2, rs2, hw3, HTK⟩ := h3
      clear HRL
      have HNEW := Lib.hid (World.news_of_block (cs := #[.string yearsB, .int .i64 Y, .int .i64 Y, .int .i64 M, .int .i64 1, .int .i64 0, .int .i64 D2, .int .i64 rs2, .int .i64 2, .int .i64 ts, .string tl]) (t := 87) (fr := (0, 0)) (heap_alloc_new W3 (.cells #[.string yearsB, .int .i64 Y, .int .i64 Y, .int .i64 M, .int .i64 1, .int .i64 0, .int .i64 D2, .int .i64 rs2, .int .i64 2, .int .i64 ts, .string tl] 87)))
      have HROW2 := Lib.hid (HRC.out D2 rs2 (.cells #[.string yearsB, .int .i64 Y, .int .i64 Y, .int .i64 M, .int .i64 1, .int .i64 0, .int .i64 D2, .int .i64 rs2, .int .i64 2, .int .i64 ts, .string tl] 87))
      have HSZ3 := HS2.out (.cells #[.string yearsB, .int .i64 Y, .int .i64 Y, .int .i64 M, .int .i64 1, .int .i64 0, .int .i64 D2, .int .i64 rs2, .int .i64 2, .int .i64 ts, .string tl] 87)
      rcases hw3 with ⟨hM, hD, rfl, rfl⟩ | ⟨hM, hD, rfl, rfl⟩ | ⟨hM, rfl, rfl⟩
      · have hw : IntKind.i64.wrap (rs + 86400) = rs + 86400 := IntWalk.i64_in _ (by omega)
        have hMb : (M == 2) = true := by simpa using hM
        have hDb : (D == 29) = true := by simpa using hD
        clear hM hD
        go_wp2_with (at_builtin; refine wpList_append_own _ rfl _ _ 22 rfl w.heap.size 87 i1 (.agg #[.string ⟨#[]⟩, .int .i64 0, .int .i64 0, .int .i64 0, .int .i64 0, .int .i64 0, .int .i64 0, .int .i64 0, .int .i64 0, .int .i64 0, .string ⟨#[]⟩]) 11 104 undRuY hi1 hz10 hz11 hz12 rfl (by decide) _ _ _ rfl HROW2.out ⟨W3.heap.size, 0, none⟩ 1 1 [.string yearsB, .int .i64 Y, .int .i64 Y, .int .i64 M, .int .i64 1, .int .i64 0, .int .i64 28, .int .i64 (rs + 86400), .int .i64 2, .int .i64 ts, .string tl] rfl rfl HNEW.out (by simp [Value.oneCell']) HML HMB HSZ3 ?_; intro v' w10 hown10 hgrow10 _)
        go_roundw
        case rel =>
          refine ⟨k + 1, by omega, by go_num, Lib.hid HST2.out, Lib.hid ?_, Lib.hid ((HB3.out.alloc hz3 _).grown hgrow10 HSZ3 fun q hq => (World.ownsRow.lt HROW2.out q hq).1)⟩
          rw [HTK.out, ruFlatY_snoc]
          exact hown10
        case measure => simp [intOf]; omega
      · have hMb : (M == 2) = true := by simpa using hM
        have hDb : (D2 == 29) = false := by simpa using hD
        clear hM hD
        go_wp2_with (at_builtin; refine wpList_append_own _ rfl _ _ 22 rfl w.heap.size 87 i1 (.agg #[.string ⟨#[]⟩, .int .i64 0, .int .i64 0, .int .i64 0, .int .i64 0, .int .i64 0, .int .i64 0, .int .i64 0, .int .i64 0, .int .i64 0, .string ⟨#[]⟩]) 11 104 undRuY hi1 hz10 hz11 hz12 rfl (by decide) _ _ _ rfl HROW2.out ⟨W3.heap.size, 0, none⟩ 1 1 [.string yearsB, .int .i64 Y, .int .i64 Y, .int .i64 M, .int .i64 1, .int .i64 0, .int .i64 D2, .int .i64 rs2, .int .i64 2, .int .i64 ts, .string tl] rfl rfl HNEW.out (by simp [Value.oneCell']) HML HMB HSZ3 ?_; intro v' w10 hown10 hgrow10 _)
        go_roundw
        case rel =>
          refine ⟨k + 1, by omega, by go_num, Lib.hid HST2.out, Lib.hid ?_, Lib.hid ((HB3.out.alloc hz3 _).grown hgrow10 HSZ3 fun q hq => (World.ownsRow.lt HROW2.out q hq).1)⟩
          rw [HTK.out, ruFlatY_snoc]
          exact hown10
        case measure => simp [intOf]; omega
      · have hMb : (M == 2) = false := by simpa using hM
        clear hM
        go_wp2_with (at_builtin; refine wpList_append_own _ rfl _ _ 22 rfl w.heap.size 87 i1 (.agg #[.string ⟨#[]⟩, .int .i64 0, .int .i64 0, .int .i64 0, .int .i64 0, .int .i64 0, .int .i64 0, .int .i64 0, .int .i64 0, .int .i64 0, .string ⟨#[]⟩]) 11 104 undRuY hi1 hz10 hz11 hz12 rfl (by decide) _ _ _ rfl HROW2.out ⟨W3.heap.size, 0, none⟩ 1 1 [.string yearsB, .int .i64 Y, .int .i64 Y, .int .i64 M, .int .i64 1, .int .i64 0, .int .i64 D2, .int .i64 rs2, .int .i64 2, .int .i64 ts, .string tl] rfl rfl HNEW.out (by simp [Value.oneCell']) HML HMB HSZ3 ?_; intro v' w10 hown10 hgrow10 _)
        go_roundw
        case rel =>
          refine ⟨k + 1, by omega, by go_num, Lib.hid HST2.out, Lib.hid ?_, Lib.hid ((HB3.out.alloc hz3 _).grown hgrow10 HSZ3 fun q hq => (World.ownsRow.lt HROW2.out q hq).1)⟩
          rw [HTK.out, ruFlatY_snoc]
          exact hown10
        case measure => simp [intOf]; omega
    · obtain rfl : k = l.length := by omega
      have HFIN : Hid (R = (0, l.map yrR)) := by show _ = _; rw [HY.out, HE.out, yrs_done]; rfl
      have hown := HOW.out
      rw [List.take_length] at hown
      go_wp2_with fail
      go_ret2
      rw [HFIN.out]
      refine ⟨_, rfl, ?_, HBR.out⟩
      show World.ownsRow _ _ _ _ _ (l.map yrR).length _
      rw [List.length_map]
      exact hown
end Go.Proofs.YtomahddiclkepaaGreatDoor
namespace Go.Proofs.YtomahddiclkepaaGreatDoor
open Go.RowKit Go.Joins
open Classical
set_option linter.unusedVariables false
set_option linter.unusedSimpArgs false

theorem flat_getN {α : Type} {cells : α → List Value} {k : Nat} (hk : ∀ x, (cells x).length = k) : ∀ (l : List α) (i : Nat) (h : i < l.length) (j : Nat), j < k → (l.flatMap cells)[i * k + j]? = (cells l[i])[j]?
  | [], i, h, _, _ => absurd h (by simp)
  | x :: r, 0, _, j, hj => by
    rw [List.flatMap_cons, Nat.zero_mul, Nat.zero_add, List.getElem?_append_left (by rw [hk]; exact hj)]
    rfl
  | x :: r, i + 1, h, j, hj => by
    have := flat_getN hk r i (by simpa using h) j hj
    rw [List.flatMap_cons, List.getElem?_append_right (by rw [hk, Nat.add_mul]; omega), hk, show (i + 1) * k + j - k = i * k + j by rw [Nat.add_mul]; omega, this]
    rfl
/-- a literal's row -/
theorem rows_lit {α : Type} {cells : α → List Value} {k : Nat} (hk : ∀ x, (cells x).length = k) {B g n : Nat} {W : World} {l : List α} {T : TypeId} {cs : Array Value} (h : W.heap[g]? = some (.cells cs T (0, 0))) (hcs : cs.toList = l.flatMap cells) (hn : l.length = n) (hl : n ≤ 100000) (hB : g < B) : RowsAt cells k B W (.slice (some ⟨g, 0, none⟩) n n) l := by
  subst hn
  refine ⟨_, _, rfl, ⟨by omega, Nat.le_refl _⟩, fun _ => ⟨g, 0, rfl, hB, fun i hi j u hu => ?_⟩⟩
  rw [Nat.zero_add, cell_of_row W g (i * k + j) _ _ (0, 0) h]
  have hj : j < k := by rw [← hk l[i]]; exact (List.getElem?_eq_some_iff.1 hu).1
  have := (flat_getN hk l i hi j hj).trans hu
  rw [← hcs] at this
  simpa using this
theorem rows_nilN {α : Type} {cells : α → List Value} {k B : Nat} {W : World} : RowsAt cells k B W (.slice none 0 0) [] := ⟨none, 0, rfl, ⟨by simp, by simp⟩, fun h => absurd rfl h⟩
end Go.Proofs.YtomahddiclkepaaGreatDoor
namespace Go.Proofs.YtomahddiclkepaaGreatDoor
open Go.RowKit Go.Joins
open Classical
set_option linter.unusedVariables false
set_option linter.unusedSimpArgs false

/-- a book of one zone of one era, in memory -/
theorem one_book {rules : List Ru} {rv : Value} {Z E : Nat} {x : Er} {W : World} (hr : RowsAt (fun r : Ru => (ruCells r).toList) 11 W.heap.size W rv rules) (hs : ∀ r ∈ rules, SzR r) (hx : SzE x)
    (hZ : W.heap[Z]? = some (.cells #[.string ⟨#[90]⟩, .slice (some ⟨E, 0, none⟩) 1 1] 46 (0, 0))) (hE : W.heap[E]? = some (.cells #[.int .i64 x.off, .string x.ru, .int .i64 x.sv, .string x.fm, .int .i64 x.un] 43 (0, 0))) (hZl : Z < W.heap.size) (hEl : E < W.heap.size) :
    BookAt W.heap.size W rv (.slice (some ⟨Z, 0, none⟩) 1 1) (.slice none 0 0) (oneB rules zB (.slice (some ⟨E, 0, none⟩) 1 1) [x]) := by
  refine ⟨hr, ?_, ?_, rows_nilN, hs, ?_, fun x hx => absurd hx (List.not_mem_nil)⟩
  · refine rows_lit (cells := zoCells) (k := 2) (l := [(⟨zB, .slice (some ⟨E, 0, none⟩) 1 1, [x]⟩ : Zo)]) (fun _ => rfl) hZ ?_ ?_ ?_ ?_
    · rfl
    · rfl
    · decide
    · exact hZl
  · intro z hz
    obtain rfl := List.mem_singleton.1 hz
    refine rows_lit (cells := fun x : Er => (erCells x).toList) (k := 5) (l := [x]) (fun _ => rfl) hE ?_ ?_ ?_ ?_
    · simp
    · rfl
    · decide
    · exact hEl
  · intro z hz
    obtain rfl := List.mem_singleton.1 hz
    refine ⟨(show ByteArray.size ⟨#[90]⟩ ≤ 140737488351232 by decide), fun y hy => ?_⟩
    obtain rfl := List.mem_singleton.1 hy
    exact hx
end Go.Proofs.YtomahddiclkepaaGreatDoor
namespace Go.Proofs.YtomahddiclkepaaGreatDoor
open Go.RowKit Go.Joins
open Classical
set_option linter.unusedVariables false
set_option linter.unusedSimpArgs false

theorem outF_bd {A B off : Int} (h1 : -64800 ≤ off) (h2 : off ≤ 64800) : ∀ (S : List (Int × Ru)) (save : Int) (last : Option Int) (l : List Tn), outF off save last S = some l → 0 ≤ save → save ≤ 10800 → (∀ p ∈ S, A ≤ p.1 ∧ p.1 ≤ B ∧ 0 ≤ p.2.sv ∧ p.2.sv ≤ 10800) → ∀ t ∈ l, A - 100000 ≤ t.a ∧ t.a ≤ B + 100000 := by
  intro S
  induction S with
  | nil => intro save last l h _ _ _ t ht; unfold outF at h; injection h with h; subst h; cases ht
  | cons x r ih =>
    intro save last l h s1 s2 hp t ht
    obtain ⟨-, l2, e, rfl⟩ := outF_some h
    have h0 := hp x (List.mem_cons_self ..)
    rcases List.mem_cons.1 ht with rfl | ht
    · show A - 100000 ≤ clkT off save x ∧ clkT off save x ≤ B + 100000
      unfold clkT
      split
      · omega
      · split <;> omega
    · exact ih _ _ _ e h0.2.2.1 h0.2.2.2 (fun p hp2 => hp p (List.mem_cons_of_mem _ hp2)) t ht
theorem ofR_bd {b : Bk} {nm : ByteArray} {off : Int} : ∀ t ∈ (ofR b nm off).2, -4000000000 ≤ t.a ∧ t.a ≤ 6000000000 := by
  intro t ht
  by_cases h : (ofR b nm off).1 = 0
  · obtain ⟨h1, h2⟩ := ofR_ok h
    obtain ⟨-, ok⟩ := bk_rules h1
    by_cases ho : off < -64800 ∨ 64800 < off
    · rw [ofR_1 h1 ho] at ht; cases ht
    · rw [h2] at h ht
      have := outF_bd (A := -3000000000) (B := 5000000000) (by omega) (by omega) _ _ _ _ (mkR_ok h) (by omega) (by omega) (fun p hp => by
        have hm := List.mem_mergeSort.1 hp
        obtain ⟨o, b1, b2⟩ := nomsOf_bd ok nm p hm
        exact ⟨b1, b2, o.s1, o.s2⟩) t ht
      omega
  · rw [ofR_bad2 h] at ht; cases ht
end Go.Proofs.YtomahddiclkepaaGreatDoor
