/- table.Make: the walk. Laws of tables: what table.Make hands back, as a table in memory and in a box. The top laws: the closed fact 'works', and the span that is drawn. table.At of a table that is right. TopDays: the walk. What a row's list of package-level variables gives: strconv's table of powers of ten. What a row's list of package-level variables gives, and bytealg's MaxLen. What a row's list of package-level variables gives: strconv's two errors lie there. What a row's list of package-level variables gives: strings' table of white space. A law's table argument, as it lies in memory. -/
import Derived.Test.YtomahddiclkepaaGreatDoorQd18
import Derived.Test.YtomahddiclkepaaGreatDoorQd16
import Derived.Test.YtomahddiclkepaaGreatDoorQd03
import Derived.Deep.DeepCutAuto
import Derived.RangeFuncRecord
import Derived.Test.YtomahddiclkepaaGreatDoorQd01
import Derived.Test.YtomahddiclkepaaGreatDoorQd02
import Derived.Test.YtomahddiclkepaaGreatDoorCards
import Derived.Test.YtomahddiclkepaaGreatDoorTie
import Derived.LaidMore
import Derived.Deep.DeepHandedRow
import Derived.Deep.DeepWitnessRowRef
import Derived.Lib.LaidTab
import Derived.Stop.LaidErr
import Derived.Test.YtomahddiclkepaaGreatDoorQd04
import Derived.Test.YtomahddiclkepaaGreatDoorQd11
import Derived.Lay
import Derived.Test.YtomahddiclkepaaGreatDoorQd12
import Derived.Deep.Slices
import Derived.Deep.Fields
import Derived.ChangeSame
import Derived.Lib.SmallJoins
namespace Go.Proofs.YtomahddiclkepaaGreatDoor
open Go.RowKit Go.Joins Go.Maps
open Classical
set_option linter.unusedVariables false
set_option linter.unusedSimpArgs false

set_option maxRecDepth 1000000 in
set_option maxHeartbeats 20000000 in
theorem MakeT_any (MK : MakeSays) (b : Bk) (rv zv lv : Value) (nm : ByteArray) (fr te : Int) (w : World) (hB : BookAt w.heap.size w rv zv lv b) (hn : nm.size ≤ 140737488351232) (hf1 : -4611686018427387904 ≤ fr) (hf2 : fr ≤ 4611686018427387904) (ht1 : -4611686018427387904 ≤ te) (ht2 : te ≤ 4611686018427387904) (hm : MaxLen w) (ht : Tab10 w) :
    Calls Tryz.prog 24 #[.agg #[rv, zv, lv], .string nm, .agg #[.int .i64 fr, .int .i64 te]] w (MkTPost (mkT b nm fr te) w) := by
  have HBK := Lib.hid hB
  obtain ⟨p1, c1, rfl, -, -⟩ := hB.r
  obtain ⟨p2, c2, rfl, -, -⟩ := hB.z
  obtain ⟨p3, c3, rfl, -, -⟩ := hB.l
  obtain ⟨W0, eW⟩ : ∃ W0, ((w.alloc (.cells #[.slice p1 b.rules.length c1, .slice p2 b.zones.length c2, .slice p3 b.links.length c3] 26)).alloc (.cells #[.int .i64 fr, .int .i64 te] 68)).alloc (.cells #[.slice none 0 0, .int .i64 0, .slice none 0 0] 58) = W0 := ⟨_, rfl⟩
  have hb0 : Below w.heap.size w W0 := by rw [← eW]; exact (((Below.refl _ _).alloc (Nat.le_refl _) _).alloc (by simp) _).alloc (by simp; omega) _
  have hz0 : W0.heap.size = w.heap.size + 3 := by rw [← eW]; simp
  have hbx : W0.heap[w.heap.size]? = some (.cells #[.slice p1 b.rules.length c1, .slice p2 b.zones.length c2, .slice p3 b.links.length c3] 26 (0, 0)) := by
    rw [← eW, Below.heap_alloc _ _ _ (by simp; omega), Below.heap_alloc _ _ _ (by simp)]
    exact heap_alloc_new w _
  have hsx : W0.heap[w.heap.size + 1]? = some (.cells #[.int .i64 fr, .int .i64 te] 68 (0, 0)) := by
    rw [← eW, Below.heap_alloc _ _ _ (by simp)]
    exact alloc_at _ _ _ (by simp)
  have hrx : W0.heap[w.heap.size + 1 + 1]? = some (.cells #[.slice none 0 0, .int .i64 0, .slice none 0 0] 58 (0, 0)) := by
    rw [← eW]
    exact alloc_at _ _ _ (by simp)
  have hl0 : w.heap.size + 1 + 1 < W0.heap.size := by omega
  have HEW := Lib.hid eW
  have HRX := Lib.hid hrx
  have HB0 := Lib.hid hb0
  have HM := Lib.hid hm
  have HT := Lib.hid ht
  have HRS := Lib.hid (Resolve_any b _ _ _ nm W0 ((hB.below hb0 (Nat.le_refl _)).baseN hb0.size) hn (hm.below hb0) (ht.below hb0))
  have HNO := Lib.hid (fun c h => mkT_none (b := b) (nm := nm) (c := c) h fr te)
  have HSO := Lib.hid (fun z c h => mkT_of (b := b) (nm := nm) (z := z) (c := c) h fr te)
  have HRV := Lib.hid (fun z c h => rsv_zero (b := b) (nm := nm) (z := z) (c := c) h)
  have HRN := Lib.hid (fun c h => rsv_not0 (b := b) (nm := nm) (c := c) h)
  obtain ⟨S, eS⟩ : ∃ S, mkT b nm fr te = S := ⟨_, rfl⟩
  rw [eS] at HNO HSO ⊢
  obtain ⟨R, eR⟩ : ∃ R, rsv b nm = R := ⟨_, rfl⟩
  rw [eR] at HRS HNO HSO HRV HRN
  -- an error's end
  have FIN : Hid (∀ (W' : World) (c : Int), Below W0.heap.size W0 W' → S = (c, zTab) → ∃ W9, ((W'.setCell ⟨w.heap.size + 1 + 1, 0, none⟩ (.slice none 0 0)).setCell ⟨w.heap.size + 1 + 1, 1, none⟩ (.int .i64 0)).setCell ⟨w.heap.size + 1 + 1, 2, none⟩ (.slice none 0 0) = W9 ∧ W9.cell? ⟨w.heap.size + 1 + 1, 0, none⟩ = some (.slice none 0 0) ∧ W9.cell? ⟨w.heap.size + 1 + 1, 1, none⟩ = some (.int .i64 0) ∧ W9.cell? ⟨w.heap.size + 1 + 1, 2, none⟩ = some (.slice none 0 0) ∧ MkTPost S w (.returned (.tuple #[.agg #[.slice none 0 0, .int .i64 0, .slice none 0 0], .int .i64 c])) W9) := by
    show ∀ W' c, _
    intro W' c hb hS
    obtain ⟨W9, e9, hh9, hb9⟩ := end_three ((hb.block (w.heap.size + 1 + 1) hl0).trans hrx) (.slice none 0 0) (.int .i64 0) (.slice none 0 0)
    exact ⟨W9, e9, (cell_of_row W9 _ 0 _ _ _ hh9).trans rfl, (cell_of_row W9 _ 1 _ _ _ hh9).trans rfl, (cell_of_row W9 _ 2 _ _ _ hh9).trans rfl, MkTPost.bad hS ((HB0.out.trans (hb.mono HB0.out.size)).trans (hb9 _ (by omega)))⟩
  have RES : Hid (∀ (W' : World), Below W0.heap.size W0 W' → W'.cell? ⟨w.heap.size + 1 + 1, 0, none⟩ = some (.slice none 0 0) ∧ W'.cell? ⟨w.heap.size + 1 + 1, 1, none⟩ = some (.int .i64 0) ∧ W'.cell? ⟨w.heap.size + 1 + 1, 2, none⟩ = some (.slice none 0 0) ∧ W'.frozen? ⟨w.heap.size + 1 + 1, 0, none⟩ = false ∧ W'.frozen? ⟨w.heap.size + 1 + 1, 1, none⟩ = false ∧ W'.frozen? ⟨w.heap.size + 1 + 1, 2, none⟩ = false) := by
    show ∀ W', _
    intro W' hb
    have h2 := (hb.block (w.heap.size + 1 + 1) hl0).trans hrx
    exact ⟨(cell_of_row W' _ 0 _ _ _ h2).trans rfl, (cell_of_row W' _ 1 _ _ _ h2).trans rfl, (cell_of_row W' _ 2 _ _ _ h2).trans rfl, by simp [World.frozen?, h2], by simp [World.frozen?, h2], by simp [World.frozen?, h2]⟩
  have BOX : Hid (∀ (W' : World), Below W0.heap.size W0 W' → W'.cell? ⟨w.heap.size, 0, none⟩ = some (.slice p1 b.rules.length c1) ∧ W'.cell? ⟨w.heap.size, 1, none⟩ = some (.slice p2 b.zones.length c2) ∧ W'.cell? ⟨w.heap.size, 2, none⟩ = some (.slice p3 b.links.length c3) ∧ W'.cell? ⟨w.heap.size + 1, 0, none⟩ = some (.int .i64 fr) ∧ W'.cell? ⟨w.heap.size + 1, 1, none⟩ = some (.int .i64 te)) := by
    show ∀ W', _
    intro W' hb
    have h2 := (hb.block w.heap.size (by omega)).trans hbx
    have h3 := (hb.block (w.heap.size + 1) (by omega)).trans hsx
    exact ⟨(cell_of_row W' _ 0 _ _ _ h2).trans rfl, (cell_of_row W' _ 1 _ _ _ h2).trans rfl, (cell_of_row W' _ 2 _ _ _ h2).trans rfl, (cell_of_row W' _ 0 _ _ _ h3).trans rfl, (cell_of_row W' _ 1 _ _ _ h3).trans rfl⟩
  have HNN := Lib.hid (fun c W => MakeNone_any c W)
  obtain ⟨x0, x1, x2, -, -⟩ := BOX.out W0 (Below.refl _ _)
  clear eW hb0 hbx hsx hrx hB hm ht eS eR
  go_enter Tryz.func24, Tryz.ntmps24
  go_upto_region 2 with fail
  rw [HEW.out]
  go_wp2_with fail
  refine HRS.out.mono ?_
  obtain ⟨Z, C⟩ := R
  rintro e w1 ⟨vo, rfl, hrow, hb1⟩
  simp only at hrow ⊢
  obtain ⟨A, cA, rfl⟩ := own_sliceN hrow
  obtain ⟨W2, e2⟩ : ∃ W2, w1.alloc (.cells #[.string (zNm Z), .slice A (zEr Z).length cA] 46) = W2 := ⟨_, rfl⟩
  obtain ⟨zb, ezb⟩ : ∃ zb, w1.heap.size = zb := ⟨_, rfl⟩
  have hzb : W0.heap.size ≤ zb := by rw [← ezb]; exact hb1.size
  have hx2 : W2.heap[zb]? = some (.cells #[.string (zNm Z), .slice A (zEr Z).length cA] 46 (0, 0)) := by rw [← e2]; exact alloc_at _ _ _ ezb.symm
  have hb2 : Below w1.heap.size w1 W2 := by rw [← e2]; exact (Below.refl _ _).alloc (Nat.le_refl _) _
  have hz2 : zb < W2.heap.size := by rw [← e2]; simp; omega
  have HB2 := Lib.hid (hb1.trans (hb2.mono hb1.size))
  have HX2 := Lib.hid hx2
  have HE2 := Lib.hid e2
  have HRW2 := Lib.hid (own_keep hrow fun g e => hb2.block g (World.ownsRow.lt hrow g e).2)
  clear hrow hb1 hb2 hx2 HRS x0 x1 x2 e2
  go_upto_region 3 with fail
  rw [HE2.out]
  cases Z with
  | none =>
    have hC := HRN.out C rfl
    have hS := HNO.out C rfl
    have hz : (C == 0) = false := by simpa using hC
    have hzz : (!C == 0) = true := by rw [hz]; rfl
    have HFI := Lib.hid (fun W' hb => FIN.out W' C hb hS)
    clear hC hS HNO HSO HRV HRN FIN BOX HRW2 HX2
    go_wp2_with fail
    refine (HNN.out C _).mono ?_
    rintro e w3 ⟨rfl, hb3⟩
    have HB3 := Lib.hid (HB2.out.trans (hb3.mono HB2.out.size))
    obtain ⟨r0, r1, r2, f0, f1, f2⟩ := RES.out w3 HB3.out
    clear hb3 RES
    go_wp2_with fail
    obtain ⟨W9, e9, v0, v1, v2, hP⟩ := HFI.out w3 HB3.out
    rw [e9]
    exact bodyPost_ret (v := .tuple #[.agg #[.slice none 0 0, .int .i64 0, .slice none 0 0], .int .i64 C]) (by simp [results, Tryz.results24, go_sem, v0, v1, v2]) rfl hP
  | some z =>
    obtain ⟨hC, hzz, hbk⟩ := HRV.out z C rfl
    subst hC
    have hS := HSO.out z 0 rfl
    have hE0 := bk_eras hbk hzz
    have HE0 := Lib.hid hE0
    have HBKC := Lib.hid hbk
    have HSS := Lib.hid hS
    have hel := hE0.le
    simp only [zNm, zEr] at HX2 HE2 HRW2 ⊢
    clear hS hzz hbk HNO HSO HRV HRN hE0
    obtain ⟨g0, g1, g2, g3, g4⟩ := BOX.out W2 HB2.out
    obtain ⟨W3, e3⟩ : ∃ W3, W2.alloc (.cells #[.int .i64 fr, .int .i64 te] 3) = W3 := ⟨_, rfl⟩
    obtain ⟨ib, eib⟩ : ∃ ib, W2.heap.size = ib := ⟨_, rfl⟩
    have hb3 : Below W2.heap.size W2 W3 := by rw [← e3]; exact (Below.refl _ _).alloc (Nat.le_refl _) _
    have hi3 : W3.heap[ib]? = some (.cells #[.int .i64 fr, .int .i64 te] 3 (0, 0)) := by rw [← e3]; exact alloc_at _ _ _ eib.symm
    have hz3 : ib < W3.heap.size := by rw [← e3]; simp; omega
    have HB3 := Lib.hid (HB2.out.trans (hb3.mono HB2.out.size))
    have HX3 := Lib.hid ((hb3.block zb hz2).trans HX2.out)
    have hzb3 : zb < W3.heap.size := by omega
    have HRW3 := Lib.hid (own_keep HRW2.out fun g e => hb3.block g (World.ownsRow.lt HRW2.out g e).2)
    have HI3 := Lib.hid hi3
    have HE3 := Lib.hid e3
    have HST : Hid (∀ (W : World) (t : Int), Below w.heap.size w W → -4611686018427387904 ≤ t → t ≤ 4611686018427387904 → Calls Tryz.prog 46 #[.int .i64 t] W fun e w' => (∃ s, e = .returned (.tuple #[.string s, .int .i64 (stampE t)])) ∧ Below W.heap.size W w') := by
      show ∀ W t, _
      intro W t hb h1 h2
      exact Stamp_any t W (by omega) (by omega) (HT.out.below hb)
    have HS1 : Hid (stampE fr ≠ 0 → S = (stampE fr, zTab)) := by
      show _ → _
      intro h
      rw [HSS.out]; unfold mkE; rw [if_pos h]
    have HS2 : Hid (stampE fr = 0 → stampE te ≠ 0 → S = (stampE te, zTab)) := by
      show _ → _ → _
      intro h h2
      rw [HSS.out]; unfold mkE; rw [if_neg (fun g => g h), if_pos h2]
    clear hb3 hi3 e3 HX2 HRW2
    have HIB := Lib.hid eib
    clear eib
    go_upto_region 5 with fail
    go_wp2_with fail
    rw [HE3.out, HIB.out]
    have HBW3 := Lib.hid (HB0.out.trans (HB3.out.mono HB0.out.size))
    go_loopw [41] (fun i wr => ∃ k : Nat, k ≤ 2 ∧ i = .int .i64 k ∧ (0 < k → stampE fr = 0) ∧ (1 < k → stampE te = 0) ∧ Hid (Below W3.heap.size W3 wr)) (fun i _ => 2 - (intOf i).toNat)
    case atStart => exact ⟨0, by omega, rfl, fun h => absurd h (by omega), fun h => absurd h (by omega), Lib.hid (Below.refl _ _)⟩
    case round =>
      obtain ⟨k, hk, rfl, hs1, hs2, HBR⟩ := hrel
      have hzr := HBR.out.size
      have HBWr := Lib.hid (HBW3.out.trans (HBR.out.mono HBW3.out.size))
      have hi := (HBR.out.block ib hz3).trans HI3.out
      have i0 : wr.cell? ⟨ib, 0, none⟩ = some (.int .i64 fr) := (cell_of_row wr _ 0 _ _ _ hi).trans rfl
      have i1 : wr.cell? ⟨ib, 1, none⟩ = some (.int .i64 te) := (cell_of_row wr _ 1 _ _ _ hi).trans rfl
      clear hi
      by_cases hk0 : k = 0
      · subst hk0
        have HSC := Lib.hid (HST.out wr fr HBWr.out hf1 hf2)
        obtain ⟨E, eE⟩ : ∃ E, stampE fr = E := ⟨_, rfl⟩
        rw [eE] at HSC
        have HEE := Lib.hid eE
        clear eE
        go_wp2_with fail
        refine HSC.out.mono ?_
        rintro e w4 ⟨⟨s4, rfl⟩, hb4⟩
        have HB4 := Lib.hid (HBR.out.trans (hb4.mono hzr))
        clear hb4 HSC
        by_cases hE : E = 0
        · subst hE
          go_wp2_with fail
          go_roundw
          case rel => exact ⟨0 + 1, by omega, by go_num, fun _ => HEE.out, fun h => absurd h (by omega), HB4⟩
          case measure => simp [intOf]
        · have hz : (E == 0) = false := by simpa using hE
          have hzz : (!E == 0) = true := by rw [hz]; rfl
          have HSE : Hid (S = (E, zTab)) := by show _ = _; have := HS1.out (by rw [HEE.out]; exact hE); rwa [HEE.out] at this
          have HB5 := Lib.hid (HB3.out.trans (HB4.out.mono HB3.out.size))
          clear hE
          have HFI := Lib.hid (fun W' hb => FIN.out W' E hb HSE.out)
          clear FIN BOX HSS HS1 HS2 HRW3 HX3 HI3 HE0
          go_wp2_with fail
          refine (HNN.out E _).mono ?_
          rintro e w9 ⟨rfl, hb9⟩
          have HB9 := Lib.hid (HB5.out.trans (hb9.mono HB5.out.size))
          obtain ⟨r0, r1, r2, f0, f1, f2⟩ := RES.out w9 HB9.out
          clear hb9 RES
          go_wp2_with fail
          obtain ⟨W9, e9, v0, v1, v2, hP⟩ := HFI.out w9 HB9.out
          rw [e9]
          exact bodyPost_ret (v := .tuple #[.agg #[.slice none 0 0, .int .i64 0, .slice none 0 0], .int .i64 (E)]) (by simp [results, Tryz.results24, go_sem, v0, v1, v2]) rfl hP
      · by_cases hk1 : k = 1
        · subst hk1
          have HS0 := Lib.hid (hs1 (by omega))
          have HSC := Lib.hid (HST.out wr te HBWr.out ht1 ht2)
          obtain ⟨E, eE⟩ : ∃ E, stampE te = E := ⟨_, rfl⟩
          rw [eE] at HSC
          have HEE := Lib.hid eE
          clear eE
          go_wp2_with fail
          refine HSC.out.mono ?_
          rintro e w4 ⟨⟨s4, rfl⟩, hb4⟩
          have HB4 := Lib.hid (HBR.out.trans (hb4.mono hzr))
          clear hb4 HSC
          by_cases hE : E = 0
          · subst hE
            go_wp2_with fail
            go_roundw
            case rel => exact ⟨1 + 1, by omega, by go_num, fun _ => HS0.out, fun _ => HEE.out, HB4⟩
            case measure => simp [intOf]
          · have hz : (E == 0) = false := by simpa using hE
            have hzz : (!E == 0) = true := by rw [hz]; rfl
            have HSE : Hid (S = (E, zTab)) := by show _ = _; have := HS2.out HS0.out (by rw [HEE.out]; exact hE); rwa [HEE.out] at this
            have HB5 := Lib.hid (HB3.out.trans (HB4.out.mono HB3.out.size))
            clear hE
            have HFI := Lib.hid (fun W' hb => FIN.out W' E hb HSE.out)
            clear FIN BOX HSS HS1 HS2 HRW3 HX3 HI3 HE0
            go_wp2_with fail
            refine (HNN.out E _).mono ?_
            rintro e w9 ⟨rfl, hb9⟩
            have HB9 := Lib.hid (HB5.out.trans (hb9.mono HB5.out.size))
            obtain ⟨r0, r1, r2, f0, f1, f2⟩ := RES.out w9 HB9.out
            clear hb9 RES
            go_wp2_with fail
            obtain ⟨W9, e9, v0, v1, v2, hP⟩ := HFI.out w9 HB9.out
            rw [e9]
            exact bodyPost_ret (v := .tuple #[.agg #[.slice none 0 0, .int .i64 0, .slice none 0 0], .int .i64 (E)]) (by simp [results, Tryz.results24, go_sem, v0, v1, v2]) rfl hP
        · obtain rfl : k = 2 := by omega
          have HSA := Lib.hid (hs1 (by omega))
          have HSB := Lib.hid (hs2 (by omega))
          have HB4 := Lib.hid (HB3.out.trans (HBR.out.mono HB3.out.size))
          have HX4 := Lib.hid ((HBR.out.block zb hzb3).trans HX3.out)
          have hzb4 : zb < wr.heap.size := by omega
          have HRW4 := Lib.hid (own_keep HRW3.out fun g e => HBR.out.block g (World.ownsRow.lt HRW3.out g e).2)
          obtain ⟨w4, e4⟩ : ∃ w4, wr = w4 := ⟨_, rfl⟩
          rw [e4] at HB4 HX4 hzb4 HRW4 ⊢
          obtain ⟨g0, g1, g2, g3, g4⟩ := BOX.out w4 HB4.out
          clear e4 HBR hzr HBWr i0 i1 hs1 hs2 hk0 hk1 HS1 HS2 HRW3 HX3 HI3
          go_upto_region 12 with fail
          have hWB := HB0.out.trans (HB4.out.mono HB0.out.size)
          by_cases hle : te ≤ fr
          · have hS1 : S = (1, zTab) := by rw [HSS.out]; unfold mkE; rw [if_neg (fun h => h HSA.out), if_neg (fun h => h HSB.out), if_pos hle]
            have HS1 := Lib.hid hS1
            clear hS1 hWB
            have HFI := Lib.hid (fun W' hb => FIN.out W' 1 hb HS1.out)
            clear FIN BOX HSS HSA HSB HRW4 HX4 HE0
            go_wp2_with fail
            refine (HNN.out 1 _).mono ?_
            rintro e w9 ⟨rfl, hb9⟩
            have HB9 := Lib.hid (HB4.out.trans (hb9.mono HB4.out.size))
            obtain ⟨r0, r1, r2, f0, f1, f2⟩ := RES.out w9 HB9.out
            clear hb9 RES
            go_wp2_with fail
            obtain ⟨W9, e9, v0, v1, v2, hP⟩ := HFI.out w9 HB9.out
            rw [e9]
            exact bodyPost_ret (v := .tuple #[.agg #[.slice none 0 0, .int .i64 0, .slice none 0 0], .int .i64 (1)]) (by simp [results, Tryz.results24, go_sem, v0, v1, v2]) rfl hP
          · have hnle : (decide (te ≤ fr)) = false := by simpa using hle
            have HER : Hid (∀ W, Below w4.heap.size w4 W → Calls Tryz.prog 48 #[.agg #[.slice p1 b.rules.length c1, .slice p2 b.zones.length c2, .slice p3 b.links.length c3], .agg #[.string z.nm, .slice A z.eras.length cA]] W (ErasPost b.rules z.eras W)) := by
              show ∀ W, _
              intro W hb
              have hbw := hWB.trans (hb.mono hWB.size)
              refine Eras_any MK b.rules _ _ _ _ z.eras _ W ((HBK.out.r.below hbw (Nat.le_refl _)).mono hbw.size) (bk_rules HBKC.out).2 (bk_rules HBKC.out).1 (RowsAt.mono (RowsAt.below (own_rowsG (cells := fun x : Er => (erCells x).toList) (k := 5) (fun _ => rfl) HRW4.out (by have := HE0.out.le; omega)) hb (Nat.le_refl _)) hb.size) (fun y hy => ?_) (by have := HE0.out.le; omega) ⟨_, _, _, rfl⟩ ⟨_, _, _, rfl⟩
              have h1 := (HE0.out.ok y hy).o1
              have h2 := (HE0.out.ok y hy).o2
              omega
            have x0 : w4.cell? ⟨zb, 0, none⟩ = some (.string z.nm) := (cell_of_row w4 _ 0 _ _ _ HX4.out).trans rfl
            have x1 : w4.cell? ⟨zb, 1, none⟩ = some (.slice A z.eras.length cA) := (cell_of_row w4 _ 1 _ _ _ HX4.out).trans rfl
            have HSS2 : Hid (S = if firstE (tdE b.rules) z.eras ≠ 0 then (firstE (tdE b.rules) z.eras, zTab) else
                if 250 < (normR (stF b.rules z.eras fr) (candsF b.rules z.eras fr te)).types.length ∨ 1000 < (normR (stF b.rules z.eras fr) (candsF b.rules z.eras fr te)).chs.length then (2, zTab) else (0, normR (stF b.rules z.eras fr) (candsF b.rules z.eras fr te))) := by
              show S = _
              rw [HSS.out]
              unfold mkE
              rw [if_neg (fun h => h HSA.out), if_neg (fun h => h HSB.out), if_neg hle]
            have HW4 := Lib.hid (HER.out w4 (Below.refl _ _))
            clear HER HSS HSA HSB hWB
            go_wp2_with fail
            refine HW4.out.mono ?_
            rintro e w5 ⟨hb5, hbad, hgood⟩
            have HB5 := Lib.hid (HB4.out.trans (hb5.mono HB4.out.size))
            have HX5 := Lib.hid ((hb5.block zb hzb4).trans HX4.out)
            have hzb5 : zb < w5.heap.size := by have := hb5.size; omega
            have HRW5 := Lib.hid (own_keep HRW4.out fun g e => hb5.block g (World.ownsRow.lt HRW4.out g e).2)
            clear HW4 g0 g1 g2 g3 g4 x0 x1
            by_cases hE : firstE (tdE b.rules) z.eras = 0
            case neg =>
              obtain rfl := hbad hE
              have hS1 := HSS2.out
              rw [if_pos hE] at hS1
              have HS1 := Lib.hid hS1
              obtain ⟨E, eE⟩ : ∃ E, firstE (tdE b.rules) z.eras = E := ⟨_, rfl⟩
              rw [eE] at HS1 hE ⊢
              have hz : (E == 0) = false := by simpa using hE
              have hzz : (!E == 0) = true := by rw [hz]; rfl
              clear hE hS1 hbad hgood HSS2 hb5 eE
              have HFI := Lib.hid (fun W' hb => FIN.out W' E hb HS1.out)
              clear FIN BOX HRW4 HX4 HRW5 HX5 HE0
              go_wp2_with fail
              refine (HNN.out E _).mono ?_
              rintro e w9 ⟨rfl, hb9⟩
              have HB9 := Lib.hid (HB5.out.trans (hb9.mono HB5.out.size))
              obtain ⟨r0, r1, r2, f0, f1, f2⟩ := RES.out w9 HB9.out
              clear hb9 RES
              go_wp2_with fail
              obtain ⟨W9, e9, v0, v1, v2, hP⟩ := HFI.out w9 HB9.out
              rw [e9]
              exact bodyPost_ret (v := .tuple #[.agg #[.slice none 0 0, .int .i64 0, .slice none 0 0], .int .i64 (E)]) (by simp [results, Tryz.results24, go_sem, v0, v1, v2]) rfl hP
            case pos =>
              obtain ⟨tv, ms, rfl, hms, hts⟩ := hgood hE
              have hlen : ms.length = z.eras.length := by have := congrArg List.length hms; simpa using this
              have HSS3 : Hid (S = if 250 < (normR (stF b.rules z.eras fr) (candsF b.rules z.eras fr te)).types.length ∨ 1000 < (normR (stF b.rules z.eras fr) (candsF b.rules z.eras fr te)).chs.length then (2, zTab) else (0, normR (stF b.rules z.eras fr) (candsF b.rules z.eras fr te))) := by
                show S = _
                have := HSS2.out
                rwa [if_neg (fun h => h hE)] at this
              have HMS := Lib.hid hms
              have HTS := Lib.hid hts
              have HOK := Lib.hid (tdsOk_of HE0.out hE)
              clear hms hts hbad hgood hb5 HSS2 hE
              have hw05 : W0.heap.size ≤ w5.heap.size := HB5.out.size
              have hl5 : z.eras.length ≤ 1000 := by have := HE0.out.le; omega
              obtain ⟨wh1, wh2, wh3⟩ := which_spec HE0.out fr
              have hRU := (bk_rules HBKC.out).2
              obtain ⟨g, cap, P, rfl, hcap, hg5, huse⟩ := tds_use HOK.out hRU HMS.out HTS.out (List.length_pos_iff.2 HE0.out.ne) (HM.out.below (HB0.out.trans (HB5.out.mono HB0.out.size)))
              have HUSE := Lib.hid huse
              have HWH := Lib.hid (Which_any (rules := b.rules) z.eras (.slice A z.eras.length cA) fr w5.heap.size w5 ((own_rowsG (cells := fun x : Er => (erCells x).toList) (k := 5) (fun _ => rfl) HRW5.out (by omega)).mono (by omega)) (Nat.le_refl _) HE0.out)
              have HMI := Lib.hid (minv_start HOK.out hRU hl5 fr te)
              obtain ⟨F, eF⟩ : ∃ F, makeN (stF b.rules z.eras fr) (candsF b.rules z.eras fr te) = F := ⟨_, rfl⟩
              have HSF : Hid (S = if 250 < F.types.length ∨ 1000 < F.chs.length then (2, zTab) else (0, ⟨F.types, 0, F.chs⟩)) := by
                show S = _
                have := HSS3.out
                unfold normR at this
                rwa [eF] at this
              rw [eF] at HMI
              obtain ⟨k0, ek⟩ : ∃ k0, whichF z.eras fr = k0 := ⟨_, rfl⟩
              have hst : stF b.rules z.eras fr = tdTy (tdA b.rules z.eras k0) fr := by unfold stF; rw [ek]
              have hpos := List.length_pos_iff.2 HE0.out.ne
              rw [ek] at HWH HMI wh1
              have hk0 : k0 < z.eras.length := by omega
              rw [hst] at HMI
              have x1 : w5.cell? ⟨zb, 1, none⟩ = some (.slice A z.eras.length cA) := (cell_of_row w5 _ 1 _ _ _ HX5.out).trans rfl
              obtain ⟨g0, g1, g2, g3, g4⟩ := BOX.out w5 HB5.out
              clear huse wh2 wh3 HMS HTS HSS3 eF ek hst hRU hlen HX4 HRW4 HRW5 HOK hw05 g4
              go_wp2_with fail
              refine HWH.out.mono ?_
              rintro e w6 ⟨rfl, hb6⟩
              have HB56 := Lib.hid hb6
              have HB6 := Lib.hid (HB5.out.trans (hb6.mono HB5.out.size))
              obtain ⟨g0, g1, g2, g3, g4⟩ := BOX.out w6 HB6.out
              have hu6 := HUSE.out w6 hb6 k0 hk0
              clear hb6 HWH HX5 x1 hzb4 hzb5
              have HU6 := Lib.hid hu6
              have hk0z : (k0 : Int) < (z.eras.length : Int) := by omega
              have hk0p : (0 : Int) ≤ (k0 : Int) := Int.natCast_nonneg _
              have hg6 : g < w6.heap.size := by have := HB56.out.size; omega
              have hw56 : w5.heap.size ≤ w6.heap.size := HB56.out.size
              have hw06 : W0.heap.size ≤ w6.heap.size := HB6.out.size
              have hTA : ∀ wx, Below w6.heap.size w6 wx → Calls Tryz.prog 49 #[.agg (tdCells (tdA b.rules z.eras k0) (.slice (P k0).1 (P k0).2.1 (P k0).2.2)), .int .i64 fr] wx fun e w' => e = .returned (tyV (tdTy (tdA b.rules z.eras k0) fr)) ∧ Below wx.heap.size wx w' := by
                intro wx hb
                exact (HUSE.out wx (HB56.out.trans (hb.mono hw56)) k0 hk0).tdat fr
              have KS : Hid (∀ wx, Below w6.heap.size w6 wx → Below w6.heap.size w6 wx ∧ wx.cell? ⟨g, k0 * 7, none⟩ = some (.int .i64 (tdA b.rules z.eras k0).er.off) ∧ wx.cell? ⟨g, k0 * 7 + 1, none⟩ = some (.string (tdA b.rules z.eras k0).er.ru) ∧ wx.cell? ⟨g, k0 * 7 + 2, none⟩ = some (.int .i64 (tdA b.rules z.eras k0).er.sv) ∧ wx.cell? ⟨g, k0 * 7 + 3, none⟩ = some (.string (tdA b.rules z.eras k0).er.fm) ∧ wx.cell? ⟨g, k0 * 7 + 4, none⟩ = some (.int .i64 (tdA b.rules z.eras k0).er.un) ∧ wx.cell? ⟨g, k0 * 7 + 5, none⟩ = some (.slice (P k0).1 (P k0).2.1 (P k0).2.2) ∧ wx.cell? ⟨g, k0 * 7 + 6, none⟩ = some (.string (tdA b.rules z.eras k0).fst) ∧ wx.cell? ⟨w.heap.size + 1, 0, none⟩ = some (.int .i64 fr)) := by
                show ∀ wx, _
                intro wx hb
                obtain ⟨v0, v1, v2, v3, v4, v5, v6, -, -⟩ := HUSE.out wx (HB56.out.trans (hb.mono hw56)) k0 hk0
                obtain ⟨-, -, -, q3, -⟩ := BOX.out wx (HB6.out.trans (hb.mono hw06))
                exact ⟨hb, v0, v1, v2, v3, v4, v5, v6, q3⟩
              have KR : Hid (∀ wx, Below w6.heap.size w6 wx ∧ wx.cell? ⟨g, k0 * 7, none⟩ = some (.int .i64 (tdA b.rules z.eras k0).er.off) ∧ wx.cell? ⟨g, k0 * 7 + 1, none⟩ = some (.string (tdA b.rules z.eras k0).er.ru) ∧ wx.cell? ⟨g, k0 * 7 + 2, none⟩ = some (.int .i64 (tdA b.rules z.eras k0).er.sv) ∧ wx.cell? ⟨g, k0 * 7 + 3, none⟩ = some (.string (tdA b.rules z.eras k0).er.fm) ∧ wx.cell? ⟨g, k0 * 7 + 4, none⟩ = some (.int .i64 (tdA b.rules z.eras k0).er.un) ∧ wx.cell? ⟨g, k0 * 7 + 5, none⟩ = some (.slice (P k0).1 (P k0).2.1 (P k0).2.2) ∧ wx.cell? ⟨g, k0 * 7 + 6, none⟩ = some (.string (tdA b.rules z.eras k0).fst) ∧ wx.cell? ⟨w.heap.size + 1, 0, none⟩ = some (.int .i64 fr) → Below w6.heap.size w6 wx) := fun wx h => h.1
              obtain ⟨u0, u1, u2, u3, u4, u5, u6, -, -⟩ := hu6
              obtain ⟨x0, ex0⟩ : ∃ x0, tdTy (tdA b.rules z.eras k0) fr = x0 := ⟨_, rfl⟩
              rw [ex0] at hTA HMI
              have HTA := Lib.hid hTA
              clear hTA
              go_wp2_with fail
              go_region_held3 (fun wx => Below w6.heap.size w6 wx ∧ wx.cell? ⟨g, k0 * 7, none⟩ = some (.int .i64 (tdA b.rules z.eras k0).er.off) ∧ wx.cell? ⟨g, k0 * 7 + 1, none⟩ = some (.string (tdA b.rules z.eras k0).er.ru) ∧ wx.cell? ⟨g, k0 * 7 + 2, none⟩ = some (.int .i64 (tdA b.rules z.eras k0).er.sv) ∧ wx.cell? ⟨g, k0 * 7 + 3, none⟩ = some (.string (tdA b.rules z.eras k0).er.fm) ∧ wx.cell? ⟨g, k0 * 7 + 4, none⟩ = some (.int .i64 (tdA b.rules z.eras k0).er.un) ∧ wx.cell? ⟨g, k0 * 7 + 5, none⟩ = some (.slice (P k0).1 (P k0).2.1 (P k0).2.2) ∧ wx.cell? ⟨g, k0 * 7 + 6, none⟩ = some (.string (tdA b.rules z.eras k0).fst) ∧ wx.cell? ⟨w.heap.size + 1, 0, none⟩ = some (.int .i64 fr)) ((refine KS.out _ ?_; repeat (first | (with_reducible assumption) | (with_reducible exact Below.refl _ _) | (with_reducible refine Below.drew ?_)))) (first
                | (go_at_call 49; refine (HTA.out _ (KR.out _ (by assumption))).mono ?_; rintro e w7 ⟨rfl, hb7⟩; have hB7 := ((KR.out _ (by assumption)).trans (hb7.mono (KR.out _ (by assumption)).size)); clear hb7)
                | (go_at_call 55; refine (Begin_any x0 _).mono ?_; rintro e w8 ⟨M, sv, cv, rfl, hmk, hb8⟩; have hB8 := (hB7.trans (hb8.mono hB7.size)); clear hb8))
              have hb08 : w7.heap.size ≤ w8.heap.size := by have h1 := hmk.hM; have h2 := hmk.lt; omega
              have hb07 : w5.heap.size ≤ w7.heap.size := by have := hB7.size; omega
              have hl8 : W0.heap.size ≤ w5.heap.size := HB5.out.size
              have HB58 := HB56.out.trans (hB8.mono hw56)
              have UP : ∀ W', Below w5.heap.size w5 W' → Below W0.heap.size W0 W' := fun W' hb => HB5.out.trans (hb.mono hl8)
              rename ∀ (a : Act) (w : World), Code.wp _ _ _ a w → _ => hcont
              refine hcont _ _ ?_
              refine Tm_tail b.rules z.eras fr te F S x0 w w5 w8 (w.heap.size + 1) (w.heap.size + 1 + 1) g cap M w7.heap.size k0 P sv cv _ _ _ _ _ _ _ _ _ _ _ _ _ _ _ _ _ _ _ _ _ _ _ _ _ _ _ _ _ _ _ _ _ _ _ _ _ _ _ _ _ _ _ _ _ _ _ _ _ _ _ _ _ _ _ _ _ _ _ _ _ _ _ _ _ _ _ _ _ _ _ _ _ _ _ _ _ _ _ _ _ _ _ _ _ _ _ _ _ _ _ _ _ _ _ _ _ _ _ _ _ _ _ _ _ _ _ _ _ _ _ _ _ _ _ _ _ _ _ _ _ _ _ _ _ _ _ _ _ _ _ _ _ _ _ _ _ _ _ _ _ _ _ _ _ _ _ _ _ _ _ _ _ _ _ _ _ _ _ _ _ _ _ _ _ _ _ _ _ _ _ _ _ _ _ _ _ _ _ _ _ _ _ _ _ _ _ _ _ _ _ _ _ _ _ _ _ _ _ _ _ _ hf1 hf2 ht1 ht2 HE0 hcap hg5 hk0 hb07 hb08 HUSE HMI (Lib.hid hmk) (Lib.hid HB58) (Lib.hid ?_) (Lib.hid ?_) (Lib.hid ?_) HSF
              · intro W' hb
                obtain ⟨-, -, -, q3, q4⟩ := BOX.out W' (UP W' hb)
                exact ⟨q3, q4⟩
              · intro W' hb
                exact RES.out W' (UP W' hb)
              · intro W' R u v hb hS hu hv
                obtain ⟨W9, e9, hb9, hh9, hk9⟩ := end_cellsM (((UP W' hb).block (w.heap.size + 1 + 1) hl0).trans HRX.out) u (.int .i64 0) v
                subst hS
                refine ⟨W9, e9, (cell_of_row W9 _ 0 _ _ _ hh9).trans rfl, (cell_of_row W9 _ 1 _ _ _ hh9).trans rfl, (cell_of_row W9 _ 2 _ _ _ hh9).trans rfl, u, v, rfl, ?_, ?_, (HB0.out.trans ((UP W' hb).mono HB0.out.size)).trans (hb9 _ (by omega))⟩
                · exact own_keep (own_less hu (by omega)) fun g e => hk9 g (by have := (World.ownsRow.lt hu g e).1; omega)
                · exact own_keep (own_less hv (by omega)) fun g e => hk9 g (by have := (World.ownsRow.lt hv g e).1; omega)
end Go.Proofs.YtomahddiclkepaaGreatDoor
namespace Go.Proofs.YtomahddiclkepaaGreatDoor
open Go.RowKit Go.Joins Go.Maps
open Classical
set_option linter.unusedVariables false
set_option linter.unusedSimpArgs false

theorem mkT_small (b : Bk) (nm : ByteArray) (fr te : Int) : (mkT b nm fr te).2.first = 0 ∧ (mkT b nm fr te).2.types.length ≤ 250 ∧ (mkT b nm fr te).2.chs.length ≤ 1000 ∧ (∀ x ∈ (mkT b nm fr te).2.types, x.name.size ≤ maxLen) ∧ ∀ c ∈ (mkT b nm fr te).2.chs, -1099511627776 ≤ c.t ∧ c.t ≤ 1099511627776 := by
  by_cases h : (mkT b nm fr te).1 = 0
  · obtain ⟨z, hz, -, -, m⟩ := mkT_zero h
    refine ⟨?_, m.ok.many, m.ok.chs, fun x hx => ?_, fun c hc => ⟨(m.ok.ch c hc).1, (m.ok.ch c hc).2.1⟩⟩
    · rw [m.eq]; rfl
    · have := abbr_sizeT _ (m.ok.type x hx).2.2
      simp only [maxLen]; omega
  · rw [mkT_bad h]
    exact ⟨rfl, by decide, by decide, (fun x hx => by cases hx), (fun c hc => by cases hc)⟩
def TbV (R : Int × Tab) (w : World) (e : Ending) (w' : World) : Prop := ∃ p1 c1 p2 c2, e = .returned (.tuple #[.agg #[.slice p1 R.2.types.length c1, .int .i64 0, .slice p2 R.2.chs.length c2], .int .i64 R.1]) ∧ TabAt w' (.agg #[.slice p1 R.2.types.length c1, .int .i64 0, .slice p2 R.2.chs.length c2]) R.2 ∧ Below w.heap.size w w'
theorem Make_tab (MK : MakeSays) (b : Bk) (rv zv lv : Value) (nm : ByteArray) (fr te : Int) (w : World) (hB : BookAt w.heap.size w rv zv lv b) (hn : nm.size ≤ 140737488351232) (hf1 : -4611686018427387904 ≤ fr) (hf2 : fr ≤ 4611686018427387904) (ht1 : -4611686018427387904 ≤ te) (ht2 : te ≤ 4611686018427387904) (hm : MaxLen w) (ht : Tab10 w) :
    Calls Tryz.prog 24 #[.agg #[rv, zv, lv], .string nm, .agg #[.int .i64 fr, .int .i64 te]] w (TbV (mkT b nm fr te) w) := by
  refine (MakeT_any MK b rv zv lv nm fr te w hB hn hf1 hf2 ht1 ht2 hm ht).mono ?_
  rintro e w' ⟨sv, cv, rfl, hs, hc, hb⟩
  obtain ⟨f0, f1, f2, f3, -⟩ := mkT_small b nm fr te
  have h1 := own_types hs (by omega) f3
  have h2 := own_chs hc (by omega)
  obtain ⟨p1, c1, rfl⟩ := own_sliceN hs
  obtain ⟨p2, c2, rfl⟩ := own_sliceN hc
  exact ⟨p1, c1, p2, c2, rfl, ⟨_, _, by rw [f0], h1, h2⟩, hb⟩
/-- a table in a box -/
def TBz (W : World) (B : Nat) (p1 : Option Addr) (c1 : Nat) (p2 : Option Addr) (c2 : Nat) (t : Tab) : Prop :=
  W.heap[B]? = some (.cells #[.slice p1 t.types.length c1, .int .i64 0, .slice p2 t.chs.length c2] 58 (0, 0)) ∧ TabAt W (.agg #[.slice p1 t.types.length c1, .int .i64 0, .slice p2 t.chs.length c2]) t
section
variable {W W' w : World} {B c1 c2 : Nat} {p1 p2 : Option Addr} {t : Tab}
theorem TBz.lt (h : TBz W B p1 c1 p2 c2 t) : B < W.heap.size := (Array.getElem?_eq_some_iff.mp h.1).1
theorem TBz.below (h : TBz W B p1 c1 p2 c2 t) (hb : Below W.heap.size W W') : TBz W' B p1 c1 p2 c2 t := ⟨(hb.block B h.lt).trans h.1, h.2.below hb⟩
theorem TBz.cells (h : TBz W B p1 c1 p2 c2 t) : W.cell? ⟨B, 0, none⟩ = some (.slice p1 t.types.length c1) ∧ W.cell? ⟨B, 1, none⟩ = some (.int .i64 0) ∧ W.cell? ⟨B, 2, none⟩ = some (.slice p2 t.chs.length c2) :=
  ⟨(cell_of_row W _ 0 _ _ _ h.1).trans rfl, (cell_of_row W _ 1 _ _ _ h.1).trans rfl, (cell_of_row W _ 2 _ _ _ h.1).trans rfl⟩
theorem TBz.box (h : TabAt w (.agg #[.slice p1 t.types.length c1, .int .i64 0, .slice p2 t.chs.length c2]) t) (e : w.alloc (.cells #[.slice p1 t.types.length c1, .int .i64 0, .slice p2 t.chs.length c2] 58) = W) : TBz W w.heap.size p1 c1 p2 c2 t := by
  subst e
  exact ⟨heap_alloc_new w _, h.below ((Below.refl _ _).alloc (Nat.le_refl _) _)⟩
theorem TBz.chs (h : TBz W B p1 c1 p2 c2 t) (k : Nat) (hk : k < t.chs.length) : ∃ bb o, p2 = some ⟨bb, o, none⟩ ∧ bb < W.heap.size ∧ W.cell? ⟨bb, o + k * 2, none⟩ = some (.int .i64 t.chs[k].t) ∧ W.cell? ⟨bb, o + k * 2 + 1, none⟩ = some (.int .i64 t.chs[k].k) := by
  obtain ⟨sv, cv, e, -, h2⟩ := h.2.val
  obtain ⟨p, cap, e2, h3⟩ := h2.shape
  simp only [Value.agg.injEq, Array.mk.injEq, List.cons.injEq, and_true] at e
  obtain ⟨-, -, e3⟩ := e
  rw [e2, Value.slice.injEq] at e3
  obtain ⟨bb, o, rfl, hb, hc⟩ := h3 (List.ne_nil_of_length_pos (by omega))
  exact ⟨bb, o, e3.1, hb, (hc k hk).1, (hc k hk).2⟩
end
theorem alBelow (w : World) (o : Obj) : Below w.heap.size w (w.alloc o) := (Below.refl _ _).alloc (Nat.le_refl _) _
/-- a book in a box, behind which all is new -/
structure BkBox (w W0 : World) (p1 p2 p3 : Option Addr) (c1 c2 c3 : Nat) (b : Bk) : Prop where
  hB : BookAt w.heap.size w (.slice p1 b.rules.length c1) (.slice p2 b.zones.length c2) (.slice p3 b.links.length c3) b
  hb : Below w.heap.size w W0
  hx : W0.heap[w.heap.size]? = some (.cells #[.slice p1 b.rules.length c1, .slice p2 b.zones.length c2, .slice p3 b.links.length c3] 26 (0, 0))
  hm : MaxLen w
  ht : Tab10 w
section
variable {w W0 W : World} {p1 p2 p3 : Option Addr} {c1 c2 c3 : Nat} {b : Bk}
theorem BkBox.lt (h : BkBox w W0 p1 p2 p3 c1 c2 c3 b) : w.heap.size < W0.heap.size := (Array.getElem?_eq_some_iff.mp h.hx).1
theorem BkBox.cells (h : BkBox w W0 p1 p2 p3 c1 c2 c3 b) (hb : Below W0.heap.size W0 W) : W.cell? ⟨w.heap.size, 0, none⟩ = some (.slice p1 b.rules.length c1) ∧ W.cell? ⟨w.heap.size, 1, none⟩ = some (.slice p2 b.zones.length c2) ∧ W.cell? ⟨w.heap.size, 2, none⟩ = some (.slice p3 b.links.length c3) := by
  have hx := (hb.block w.heap.size h.lt).trans h.hx
  exact ⟨(cell_of_row W _ 0 _ _ _ hx).trans rfl, (cell_of_row W _ 1 _ _ _ hx).trans rfl, (cell_of_row W _ 2 _ _ _ hx).trans rfl⟩
theorem BkBox.at (h : BkBox w W0 p1 p2 p3 c1 c2 c3 b) (MK : MakeSays) (nm : ByteArray) (hn : nm.size ≤ 140737488351232) (t : Int) (hb : Below W0.heap.size W0 W) (h1 : -4611686018427387904 ≤ t) (h2 : t ≤ 4611686018427387904) :
    Calls Tryz.prog 18 #[.agg #[.slice p1 b.rules.length c1, .slice p2 b.zones.length c2, .slice p3 b.links.length c3], .string nm, .int .i64 t] W (StPost (stR b nm t) W) :=
  have hw : Below w.heap.size w W := h.hb.trans (hb.mono h.hb.size)
  StAt_any MK b _ _ _ nm t W ((h.hB.below hw (Nat.le_refl _)).baseN hw.size) hn (by omega) (by omega) (h.hm.below hw) (h.ht.below hw)
end
end Go.Proofs.YtomahddiclkepaaGreatDoor
namespace Go.Proofs.YtomahddiclkepaaGreatDoor
open Go.RowKit Go.Joins Go.Maps
open Classical
set_option linter.unusedVariables false
set_option linter.unusedSimpArgs false

/-- a book of one zone, as Parse answers it -/
theorem one_post {nm : ByteArray} {L : List Er} {sg : Int} {w w' : World} {e : Ending} (h : PsPost (⟨[], [(nm, L)], [], sg⟩, 0, 0) w e w') : Below w.heap.size w w' ∧ ∃ p1 c1 p2 c2 p3 c3 ev, e = .returned (.tuple #[.agg #[.slice p1 0 c1, .slice p2 1 c2, .slice p3 0 c3], .int .i64 0, .int .i64 0]) ∧ BookAt w'.heap.size w' (.slice p1 0 c1) (.slice p2 1 c2) (.slice p3 0 c3) (oneB [] nm ev L) := by
  obtain ⟨hb, rv, zv, lv, evs, rfl, hel, hbk⟩ := h
  obtain ⟨ev, rfl⟩ : ∃ ev, evs = [ev] := by
    cases evs with
    | nil => simp at hel
    | cons x r =>
      cases r with
      | nil => exact ⟨x, rfl⟩
      | cons y r => simp at hel
  obtain ⟨p1, c1, e1, -, -⟩ := hbk.r
  obtain ⟨p2, c2, e2, -, -⟩ := hbk.z
  obtain ⟨p3, c3, e3, -, -⟩ := hbk.l
  subst e1; subst e2; subst e3
  exact ⟨hb, p1, c1, p2, c2, p3, c3, ev, rfl, hbk⟩
/-- the closed fact's table, as Make answers it -/
theorem wk_tab {w w' : World} {e : Ending} (h : TbV (0, wkT) w e w') : Below w.heap.size w w' ∧ ∃ p1 c1 bb o c2, e = .returned (.tuple #[.agg #[.slice p1 2 c1, .int .i64 0, .slice (some ⟨bb, o, none⟩) 1 c2], .int .i64 0]) ∧ bb < w'.heap.size ∧ w'.cell? ⟨bb, o, none⟩ = some (.int .i64 0) := by
  obtain ⟨p1, c1, p2, c2, rfl, htb, hb⟩ := h
  obtain ⟨W1, e1⟩ : ∃ W1, w'.alloc (.cells #[.slice p1 wkT.types.length c1, .int .i64 0, .slice p2 wkT.chs.length c2] 58) = W1 := ⟨_, rfl⟩
  obtain ⟨sv, cv, e, -, h2⟩ := htb.val
  obtain ⟨p, cap, e2, h3⟩ := h2.shape
  simp only [Value.agg.injEq, Array.mk.injEq, List.cons.injEq, and_true] at e
  obtain ⟨-, -, e3⟩ := e
  rw [e2, Value.slice.injEq] at e3
  obtain ⟨bb, o, rfl, hbb, hc⟩ := h3 (by intro h; cases h)
  obtain ⟨e4, -, -⟩ := e3
  subst e4
  have h0 := (hc 0 (by show 0 < 1; decide)).1
  rw [Nat.zero_mul, Nat.add_zero] at h0
  exact ⟨hb, p1, c1, bb, o, c2, rfl, hbb, h0⟩
set_option maxRecDepth 100000 in
set_option maxHeartbeats 4000000 in
theorem works_any (MK : MakeSays) (w : World) (ht : Tab10 w) (ha : AscTab w) (he : NumErrs w) (hm : MaxLen w) :
    Calls Tryz.prog 13 #[] w fun e w' => e = .returned (.bool true) ∧ Below w.heap.size w w' := by
  obtain ⟨sg, hpf⟩ := wk_parse w ht ha he hm
  have hp := bookParse_any wkL w (by decide) ht ha he hm
  rw [hpf] at hp
  have HP : Hid (Calls Tryz.prog 11 #[.string ⟨#[122, 111, 110, 101, 32, 65, 10, 101, 114, 97, 32, 49, 58, 48, 48, 32, 45, 48, 58, 48, 48, 32, 67, 69, 84, 32, 49, 57, 55, 48, 45, 48, 49, 45, 48, 49, 84, 48, 48, 58, 48, 48, 58, 48, 48, 10, 101, 114, 97, 32, 48, 58, 48, 48, 32, 45, 48, 58, 48, 48, 32, 71, 77, 84]⟩] w (PsPost (⟨[], [(wkA, bErs wkT)], [], sg⟩, 0, 0) w)) := hp
  have HM := Lib.hid hm
  have HT := Lib.hid ht
  clear hp ht ha he hm hpf
  go_enter Tryz.func13, Tryz.ntmps13
  go_wp2_with fail
  refine HP.out.mono ?_
  intro e w1 hpost
  obtain ⟨hb1, p1, c1, p2, c2, p3, c3, ev, rfl, hbk⟩ := one_post hpost
  obtain ⟨W2, e2⟩ : ∃ W2, w1.alloc (.cells #[.slice p1 0 c1, .slice p2 1 c2, .slice p3 0 c3] 26) = W2 := ⟨_, rfl⟩
  have hb2 : Below w1.heap.size w1 W2 := by rw [← e2]; exact alBelow _ _
  have hx2 : W2.heap[w1.heap.size]? = some (.cells #[.slice p1 0 c1, .slice p2 1 c2, .slice p3 0 c3] 26 (0, 0)) := by rw [← e2]; exact heap_alloc_new w1 _
  have y0 : W2.cell? ⟨w1.heap.size, 0, none⟩ = some (.slice p1 0 c1) := (cell_of_row W2 _ 0 _ _ _ hx2).trans rfl
  have y1 : W2.cell? ⟨w1.heap.size, 1, none⟩ = some (.slice p2 1 c2) := (cell_of_row W2 _ 1 _ _ _ hx2).trans rfl
  have y2 : W2.cell? ⟨w1.heap.size, 2, none⟩ = some (.slice p3 0 c3) := (cell_of_row W2 _ 2 _ _ _ hx2).trans rfl
  have HB2 := Lib.hid (hb1.trans (hb2.mono hb1.size))
  have hbk2 := (hbk.below hb2 (Nat.le_refl _)).baseN hb2.size
  have hmk := Make_tab MK _ _ _ _ wkA (-5) 5 W2 hbk2 (by decide) (by decide) (by decide) (by decide) (by decide) (HM.out.below HB2.out) (HT.out.below HB2.out)
  rw [wk_made ev] at hmk
  have HMK : Hid (Calls Tryz.prog 24 #[.agg #[.slice p1 0 c1, .slice p2 1 c2, .slice p3 0 c3], .string ⟨#[65]⟩, .agg #[.int .i64 (-5), .int .i64 5]] W2 (TbV (0, wkT) W2)) := hmk
  have HE2 := Lib.hid e2
  clear hb1 hpost hb2 hx2 e2 HP hbk hbk2 hmk
  go_upto_region 2 with fail
  rw [HE2.out]
  go_wp2_with fail
  refine HMK.out.mono ?_
  intro e w3 hpost
  obtain ⟨hb3, q1, d1, bb, o, d2, rfl, hbb, hc⟩ := wk_tab hpost
  obtain ⟨W4, e4⟩ : ∃ W4, w3.alloc (.cells #[.slice q1 2 d1, .int .i64 0, .slice (some ⟨bb, o, none⟩) 1 d2] 58) = W4 := ⟨_, rfl⟩
  have hb4 : Below w3.heap.size w3 W4 := by rw [← e4]; exact alBelow _ _
  have hx4 : W4.heap[w3.heap.size]? = some (.cells #[.slice q1 2 d1, .int .i64 0, .slice (some ⟨bb, o, none⟩) 1 d2] 58 (0, 0)) := by rw [← e4]; exact heap_alloc_new w3 _
  have z2 : W4.cell? ⟨w3.heap.size, 2, none⟩ = some (.slice (some ⟨bb, o, none⟩) 1 d2) := (cell_of_row W4 _ 2 _ _ _ hx4).trans rfl
  have zc : W4.cell? ⟨bb, o, none⟩ = some (.int .i64 0) := (hb4.cell (p := ⟨bb, o, none⟩) hbb).trans hc
  have HB4 := Lib.hid (HB2.out.trans ((hb3.trans (hb4.mono hb3.size)).mono HB2.out.size))
  have HE4 := Lib.hid e4
  clear hb3 hpost hb4 hx4 e4 HMK hc y0 y1 y2
  go_upto_region 3 with fail
  rw [HE4.out]
  go_wp2_with fail
  go_ret
  exact ⟨rfl, HB4.out⟩
end Go.Proofs.YtomahddiclkepaaGreatDoor
namespace Go.Proofs.YtomahddiclkepaaGreatDoor
open Go.RowKit Go.Shelf

set_option linter.unusedVariables false
set_option linter.unusedSimpArgs false
theorem cells3A {W : World} {B : Nat} {a b c : Value} {T : TypeId} (h : W.heap[B]? = some (.cells #[a, b, c] T (0, 0))) : W.cell? ⟨B, 0, none⟩ = some a ∧ W.cell? ⟨B, 1, none⟩ = some b ∧ W.cell? ⟨B, 2, none⟩ = some c := by
  refine ⟨?_, ?_, ?_⟩ <;> simp [World.cell?, h]

theorem froz {W : World} {B : Nat} {cs : Array Value} {T : TypeId} (h : W.heap[B]? = some (Obj.cells cs T (0, 0))) (i : Nat) : W.frozen? ⟨B, i, none⟩ = false := by simp [World.frozen?, h]

set_option maxHeartbeats 4000000 in
theorem At_ok (t : Tab) (v : Value) (x : Int) (w : World) (hv : TabAt w v t) (h0 : chk t = 0) :
    Calls Tryz.prog 22 #[v, .int .i64 x] w fun e w' => e = .returned (.tuple #[tyV (tyOf t x), .int .i64 0]) ∧ Below w.heap.size w w' := by
  obtain ⟨sv, cv, rfl⟩ := hv.parts
  obtain ⟨W0, hW0⟩ : ∃ W0, w.alloc (.cells #[sv, .int .i64 t.first, cv] 58) = W0 := ⟨_, rfl⟩
  obtain ⟨hB, hS, q0, q1, q2⟩ := box3 hW0
  obtain ⟨W1, hW1⟩ : ∃ W1, W0.alloc (.cells #[.int .i64 0, .bool false, .string ⟨#[]⟩] 51) = W1 := ⟨_, rfl⟩
  have n1 := World.alloc_heap_new W0 (.cells #[.int .i64 0, .bool false, .string ⟨#[]⟩] 51)
  have b1 : Below w.heap.size w W1 := by rw [← hW1]; exact hB.alloc (by omega) _
  have bb1 : Below W0.heap.size W0 W1 := by rw [← hW1]; exact (Below.refl _ _).alloc (Nat.le_refl _) _
  have s1 : W1.heap.size = w.heap.size + 2 := by rw [← hW1]; simp; omega
  rw [hW1, hS] at n1
  have HCC := Check_any t _ _ (hv.below b1)
  rw [h0] at HCC
  have HO := Lib.hid (fun W (hb : Below w.heap.size w W) => Of_any t _ x W (hv.below hb) h0)
  obtain ⟨T, eT⟩ : ∃ T, tyOf t x = T := ⟨_, rfl⟩
  rw [eT] at HO
  rw [eT]
  have HC := Lib.hid HCC
  have HW0 := Lib.hid hW0
  have HW1 := Lib.hid hW1
  have HB1 := Lib.hid b1
  have N1 := Lib.hid n1
  have Q0 := Lib.hid ((bb1.cell (p := ⟨w.heap.size, 0, none⟩) (by show w.heap.size < _; omega)).trans q0)
  have Q1 := Lib.hid ((bb1.cell (p := ⟨w.heap.size, 1, none⟩) (by show w.heap.size < _; omega)).trans q1)
  have Q2 := Lib.hid ((bb1.cell (p := ⟨w.heap.size, 2, none⟩) (by show w.heap.size < _; omega)).trans q2)
  have S1 := Lib.hid s1
  clear hv h0 hW0 hW1 hB hS q0 q1 q2 n1 b1 bb1 s1 HCC eT
  go_enter Tryz.func22, Tryz.ntmps22
  go_wp2_with fail
  rw [HW0.out, HW1.out]
  refine HC.out.mono ?_
  rintro e w1 ⟨rfl, hb1⟩
  rw [S1.out] at hb1
  have q0 := (hb1.cell (p := ⟨w.heap.size, 0, none⟩) (by show w.heap.size < _; omega)).trans Q0.out
  have q1 := (hb1.cell (p := ⟨w.heap.size, 1, none⟩) (by show w.heap.size < _; omega)).trans Q1.out
  have q2 := (hb1.cell (p := ⟨w.heap.size, 2, none⟩) (by show w.heap.size < _; omega)).trans Q2.out
  have bw1 := HB1.out.trans (hb1.mono (by omega))
  go_wp2_with fail
  refine (HO.out _ bw1).mono ?_
  rintro e w2 ⟨rfl, hb2⟩
  have hs1 : w.heap.size + 2 ≤ w1.heap.size := by have := hb1.size; have := S1.out; omega
  have n2 := (hb2.block (w.heap.size + 1) (by omega)).trans ((hb1.block (w.heap.size + 1) (by omega)).trans N1.out)
  obtain ⟨r0, r1, r2⟩ := cells3A n2
  have f0 := froz n2 0
  have f1 := froz n2 1
  have f2 := froz n2 2
  have HB2 := Lib.hid (bw1.trans (hb2.mono bw1.size))
  have hlt2 : w.heap.size + 1 < w2.heap.size := by have := hb2.size; omega
  clear n2 hb1 hb2 bw1 q0 q1 q2
  simp only [tyV]
  go_wp2
  refine bodyPost_ret (v := .tuple #[tyV T, .int .i64 0]) (by simp [results, Tryz.results22, go_sem, r0, r1, r2]) rfl ⟨rfl, ?_⟩
  exact ((HB2.out.setCell (by simp) _).setCell (by simp) _).setCell (by simp) _
end Go.Proofs.YtomahddiclkepaaGreatDoor
namespace Go.Proofs.YtomahddiclkepaaGreatDoor
open Go.RowKit Go.Joins
open Classical
set_option linter.unusedVariables false
set_option linter.unusedSimpArgs false

theorem tdiv_day (t : Int) : (t - t % 86400).tdiv 86400 = t / 86400 := by
  have h : t - t % 86400 = 86400 * (t / 86400) := by omega
  rw [h, Int.mul_tdiv_cancel_left _ (by decide)]
set_option maxHeartbeats 1000000 in
theorem dayC_any (t : Int) (w : World) (h1 : -4611686018427387904 ≤ t) (h2 : t ≤ 4611686018427387904) :
    Calls Tryz.prog 20 #[.int .i64 t] w fun e w' => e = .returned (.int .i64 (t / 86400)) ∧ w = w' := by
  have hw1 : IntKind.i64.wrap (t - t % 86400) = t - t % 86400 := IntWalk.i64_in _ (by omega)
  have hq := tdiv_day t
  have hw2 : IntKind.i64.wrap (t / 86400) = t / 86400 := IntWalk.i64_in _ (by omega)
  have HR := Lib.hid (Rest0_any t 86400 w (by decide) (by decide))
  go_enter Tryz.func20, Tryz.ntmps20
  go_wp2_with fail
  refine HR.out.mono ?_
  rintro e w' ⟨rfl, rfl⟩
  go_wp2
  go_ret
  exact ⟨rfl, rfl⟩
/-- the lowest and the highest change up to the k-th -/
def lowK (m : List Ch) (k : Nat) : Int := if k = 0 then 0 else tAt m 0
def highK (m : List Ch) (k : Nat) : Int := if k = 0 then 0 else tAt m (k - 1)
theorem lowK_n (m : List Ch) : lowK m m.length = lowT m ∧ highK m m.length = highT m := by
  unfold lowK highK lowT highT
  by_cases h : m.length = 0
  · have : m = [] := List.eq_nil_of_length_eq_zero h
    subst this
    exact ⟨rfl, rfl⟩
  · rw [if_neg h, if_neg h]
    exact ⟨rfl, rfl⟩
theorem ty_bd {t : Tab} (ok : OkTab t) (y : Int) : -75600 ≤ (tyOf t y).off ∧ (tyOf t y).off ≤ 75600 := by
  rw [tyOf_piece]
  exact pc_off t ok (cntOf t.chs y)
set_option maxRecDepth 100000 in
set_option maxHeartbeats 8000000 in
theorem TopDays_walk (MK : MakeSays) (t : Tab) (v : Value) (a1 a2 : Int) (w : World) (hv : TabAt w v t) (ht : Tab10 w) (ha : AscTab w) (he : NumErrs w) (hm : MaxLen w) :
    Calls Tryz.prog 5 #[v, .int .i64 a1, .int .i64 a2] w fun e w' => e = .returned (.bool true) ∧ Below w.heap.size w w' := by
  have HWK := Lib.hid (fun W (h : Below w.heap.size w W) => works_any MK W (ht.below h) (ha.below h) (he.below h) (hm.below h))
  have HV := Lib.hid hv
  obtain ⟨sv, cv, rfl, hs, hc⟩ := hv.val
  obtain ⟨W0, hW0⟩ : ∃ W0, w.alloc (.cells #[sv, .int .i64 t.first, cv] 58) = W0 := ⟨_, rfl⟩
  obtain ⟨hB, hS, q0, q1, q2⟩ := box3 hW0
  have HB := Lib.hid hB
  have HW0 := Lib.hid hW0
  have hz0 : w.heap.size < W0.heap.size := by omega
  have HBX : Hid (∀ W, Below W0.heap.size W0 W → Below w.heap.size w W ∧ w.heap.size < W.heap.size ∧ W.cell? ⟨w.heap.size, 0, none⟩ = some sv ∧ W.cell? ⟨w.heap.size, 1, none⟩ = some (.int .i64 t.first) ∧ W.cell? ⟨w.heap.size, 2, none⟩ = some cv) := by
    show ∀ W, _
    intro W hb
    exact ⟨hB.trans (hb.mono hB.size), Nat.lt_of_lt_of_le hz0 hb.size, (hb.cell (p := ⟨w.heap.size, 0, none⟩) hz0).trans q0, (hb.cell (p := ⟨w.heap.size, 1, none⟩) hz0).trans q1, (hb.cell (p := ⟨w.heap.size, 2, none⟩) hz0).trans q2⟩
  have HSV := Lib.hid hs
  have HCV := Lib.hid hc
  clear hB hS hv hs hc hW0 ht ha he hm q0 q1 q2
  go_enter Tryz.func5, Tryz.ntmps5
  go_upto_region 1 with fail
  rw [HW0.out]
  go_wp2_with fail
  refine (HWK.out W0 HB.out).mono ?_
  rintro e w1 ⟨rfl, hb1⟩
  have HA1 := Lib.hid hb1
  clear hb1 HWK
  obtain ⟨hw1, hz1, c0, c1, c2⟩ := HBX.out w1 HA1.out
  have HCK := Lib.hid (Check_any t _ w1 (HV.out.below hw1))
  clear hw1
  obtain ⟨K, eK⟩ : ∃ K, chk t = K := ⟨_, rfl⟩
  rw [eK] at HCK
  by_cases hK : K = 0
  case neg =>
    have hkb : (K == 0) = false := by simpa using hK
    have hkn : (K != 0) = true := by simpa using hK
    clear hK
    go_wp2_with fail
    refine HCK.out.mono ?_
    rintro e w2 ⟨rfl, hb2⟩
    have HA2 := Lib.hid (HA1.out.trans (hb2.mono HA1.out.size))
    go_wp2_with fail
    go_ret
    exact ⟨rfl, HB.out.trans (HA2.out.mono HB.out.size)⟩
  subst hK
  have ok := chk_ok t eK
  have HL := Lib.hid (fun W (hb : Below w.heap.size w W) (d : Int) (h1 : -10000000 ≤ d) (h2 : d ≤ 10000000) => Long_ok t _ d W (HV.out.below hb) eK h1 h2)
  have HAT := Lib.hid (fun W (hb : Below w.heap.size w W) (x : Int) => At_ok t _ x W (HV.out.below hb) eK)
  have OK := Lib.hid ok
  have hnc := ok.chs
  have HCH : Hid (∀ k (h : k < t.chs.length), -1099511627776 ≤ tAt t.chs k ∧ tAt t.chs k ≤ 1099511627776 ∧ tAt t.chs 0 ≤ tAt t.chs k ∧ ∀ j, j ≤ k → tAt t.chs j ≤ tAt t.chs k) := by
    show ∀ k (h : k < t.chs.length), _
    intro k h
    have e := tAt_in t.chs k h
    have := ok.ch _ (List.getElem_mem h)
    exact ⟨by omega, by omega, tAt_mono t.chs ok.rise 0 k (Nat.zero_le _) h, fun j hj => tAt_mono t.chs ok.rise j k hj h⟩
  have HLAW := Lib.hid (fun lo hi h1 h2 h3 h4 => days_law ok (lo := lo) (hi := hi) h1 h2 h3 h4)
  obtain ⟨⟨p1, cap1, rfl, -⟩, -⟩ := HSV.out
  obtain ⟨⟨p2, cap2, rfl, hcs⟩, -⟩ := HCV.out
  have HCS := Lib.hid hcs
  clear ok hcs eK
  go_wp2_with fail
  refine HCK.out.mono ?_
  rintro e w2 ⟨rfl, hb2⟩
  have HA2 := Lib.hid (HA1.out.trans (hb2.mono HA1.out.size))
  clear hb2 c0 c1 c2
  obtain ⟨-, hz2, c0, c1, c2⟩ := HBX.out w2 HA2.out
  go_wp2_with fail
  go_loopw [7, 8, 30] (fun s7 s8 s30 wr => ∃ k : Nat, k ≤ t.chs.length ∧ s7 = .int .i64 (lowK t.chs k) ∧ s8 = .int .i64 (highK t.chs k) ∧ s30 = .int .i64 k ∧ Below W0.heap.size W0 wr) (fun _ _ s30 _ => t.chs.length - (intOf s30).toNat)
  case atStart => exact ⟨0, Nat.zero_le _, rfl, rfl, rfl, HA2.out⟩
  case round =>
    obtain ⟨k, hk, rfl, rfl, rfl, hbel⟩ := hrel
    have HBEL := Lib.hid hbel
    clear c0 c1 c2
    obtain ⟨-, hzr, c0, c1, c2⟩ := HBX.out wr hbel
    clear hbel
    by_cases hlt : k < t.chs.length
    · obtain ⟨bq, o, rfl, hbq, hcell⟩ := HCS.out (by intro e; rw [e] at hlt; simp at hlt)
      obtain ⟨hw, -, -, -, -⟩ := HBX.out wr HBEL.out
      have hc := hcell k hlt
      have r0 := (hw.cell (p := ⟨bq, o + k * 2, none⟩) hbq).trans hc.1
      have r1 := (hw.cell (p := ⟨bq, o + k * 2 + 1, none⟩) hbq).trans hc.2
      have hch := HCH.out k hlt
      have eT := tAt_in t.chs k hlt
      have hsz := hw.size
      have hprev : k ≠ 0 → tAt t.chs (k - 1) ≤ tAt t.chs k := fun h => hch.2.2.2 (k - 1) (by omega)
      have hl1 : lowK t.chs (k + 1) = tAt t.chs 0 := by unfold lowK; rw [if_neg (by omega)]
      have hh1 : highK t.chs (k + 1) = tAt t.chs k := by unfold highK; rw [if_neg (by omega), Nat.add_sub_cancel]
      have HL1 := Lib.hid hl1
      have HH1 := Lib.hid hh1
      have hlo := hch.2.2.1
      rw [← eT] at r0
      generalize t.chs[k].k = Kk at r1
      clear hcell hc hch eT hw hl1 hh1
      have HAL := Lib.hid (HBEL.out.alloc HBEL.out.size (.cells #[.int .i64 (tAt t.chs k), .int .i64 Kk] 61))
      by_cases hk0 : k = 0
      · subst hk0
        have hl0 : lowK t.chs 0 = 0 := rfl
        have hh0 : highK t.chs 0 = 0 := rfl
        rw [hl0, hh0]
        generalize tAt t.chs 0 = T at *
        clear hprev hl0 hh0
        simp only [Nat.zero_mul, Nat.add_zero] at r0 r1
        go_wp2_with fail
        go_roundw
        case rel => exact ⟨1, by omega, by rw [HL1.out], by rw [HH1.out], by go_num, HAL.out⟩
        case measure => simp [intOf]; omega
      · have hp := hprev hk0
        have hl0 : lowK t.chs k = tAt t.chs 0 := by unfold lowK; rw [if_neg hk0]
        have hh0 : highK t.chs k = tAt t.chs (k - 1) := by unfold highK; rw [if_neg hk0]
        have hkz : ¬ (k : Int) = 0 := by omega
        have hkb : ((k : Int) == 0) = false := by simpa using hkz
        rw [hl0, hh0]
        have hnl : ¬ tAt t.chs k < tAt t.chs 0 := by omega
        clear hprev hl0 hh0
        by_cases hgt : tAt t.chs (k - 1) < tAt t.chs k
        · generalize tAt t.chs k = T at *
          generalize tAt t.chs 0 = L at *
          generalize tAt t.chs (k - 1) = H at *
          go_wp2_with fail
          go_roundw
          case rel => exact ⟨k + 1, by omega, by rw [HL1.out], by rw [HH1.out], by go_num, HAL.out⟩
          case measure => simp [intOf]; omega
        · have he : tAt t.chs (k - 1) = tAt t.chs k := by omega
          rw [he] at hgt ⊢
          generalize tAt t.chs k = T at *
          generalize tAt t.chs 0 = L at *
          go_wp2_with fail
          go_roundw
          case rel => exact ⟨k + 1, by omega, by rw [HL1.out], by rw [HH1.out], by go_num, HAL.out⟩
          case measure => simp [intOf]; omega
    · obtain rfl : k = t.chs.length := by omega
      obtain ⟨hl, hh⟩ := lowK_n t.chs
      have HLB : Hid (-1099511627776 ≤ lowT t.chs ∧ lowT t.chs ≤ highT t.chs ∧ highT t.chs ≤ 1099511627776) := by
        show _ ∧ _
        by_cases g : t.chs = []
        · have := low_nil g; omega
        · have hp := List.length_pos_iff.2 g
          have h0 := HCH.out 0 hp
          have h1 := HCH.out (t.chs.length - 1) (by omega)
          unfold lowT highT
          exact ⟨h0.1, h1.2.2.1, h1.2.1⟩
      rw [hl, hh]
      have hb := HLB.out
      have HLW := Lib.hid (fun h1 h2 => HLAW.out _ _ rfl rfl h1 h2)
      generalize lowT t.chs = lo at *
      generalize highT t.chs = hi at *
      have hbB := HB.out.trans (HBEL.out.mono HB.out.size)
      have HBB := Lib.hid hbB
      clear hl hh hbB
      have hws : IntKind.i64.wrap (hi - lo) = hi - lo := IntWalk.i64_in _ (by omega)
      by_cases g1 : 17280000 < hi - lo
      case pos =>
        go_wp2_with fail
        go_ret
        exact ⟨rfl, HBB.out⟩
      by_cases g2 : lo < -274877906944
      case pos =>
        go_wp2_with fail
        go_ret
        exact ⟨rfl, HBB.out⟩
      by_cases g3 : 274877906944 < hi
      case pos =>
        go_wp2_with fail
        go_ret
        exact ⟨rfl, HBB.out⟩
      have hlaw := HLW.out (by omega) (by omega)
      have HLAW2 := Lib.hid hlaw
      have HD1 := Lib.hid (fun W => dayC_any lo W (by omega) (by omega))
      have HD2 := Lib.hid (fun W => dayC_any hi W (by omega) (by omega))
      have hq1 : -3181460 ≤ lo / 86400 ∧ lo / 86400 ≤ hi / 86400 ∧ hi / 86400 ≤ 3181458 ∧ hi / 86400 - lo / 86400 ≤ 201 := by omega
      have ha1 : IntKind.i64.wrap (lo / 86400 - 3) = lo / 86400 - 3 := IntWalk.i64_in _ (by omega)
      have ha2 : IntKind.i64.wrap (hi / 86400 + 3) = hi / 86400 + 3 := IntWalk.i64_in _ (by omega)
      clear hlaw HLAW HLW
      generalize lo / 86400 = A at *
      generalize hi / 86400 = Z at *
      go_upto_region 17 with fail
      go_wp2_with fail
      refine (HD1.out _).mono ?_
      rintro e w' ⟨rfl, rfl⟩
      go_wp2_with fail
      refine (HD2.out _).mono ?_
      rintro e w' ⟨rfl, rfl⟩
      go_wp2_with fail
      go_loopw [14, 15] (fun s14 s15 wx => ∃ n : Int, A - 3 ≤ n ∧ n ≤ Z + 3 ∧ s14 = .int .i64 (sumD t (A - 3) n) ∧ s15 = .int .i64 n ∧ Below W0.heap.size W0 wx) (fun _ s15 _ => (Z + 3 - intOf s15).toNat)
      case atStart => exact ⟨A - 3, Int.le_refl _, by omega, by rw [sumD_0], rfl, HBEL.out⟩
      case round =>
        obtain ⟨n, hn1, hn2, rfl, rfl, hbel⟩ := hrel
        have HBE2 := Lib.hid hbel
        clear c0 c1 c2 hzr
        obtain ⟨hwr, hzr, c0, c1, c2⟩ := HBX.out wr hbel
        clear hbel
        have hbd := sumD_bd t OK.out (A - 3) n hn1
        by_cases hlt : n < Z + 3
        · have hcall := Lib.hid (HL.out wr hwr n (by omega) (by omega))
          have hle := lngT_le t OK.out n (by omega) (by omega)
          have hsu := sumD_1 t OK.out (A - 3) n hn1 (by omega) (by omega)
          have hbd2 := sumD_bd t OK.out (A - 3) (n + 1) (by omega)
          have e1 : wrap64 (sumD t (A - 3) n + lng n (uptoP t (t.chs.length + 1))) = sumD t (A - 3) (n + 1) := by rw [hsu]; exact IntWalk.wrap64_in _ ⟨by show -9223372036854775808 ≤ sumD t (A - 3) n + lngT t n; omega, by show sumD t (A - 3) n + lngT t n ≤ 9223372036854775807; omega⟩
          have HSU := Lib.hid e1
          clear hsu hbd2 e1
          go_wp2_with fail
          refine hcall.out.mono ?_
          rintro e w2 ⟨rfl, hb2⟩
          have HB2 := Lib.hid (HBE2.out.trans (hb2.mono HBE2.out.size))
          go_wp2_with fail
          go_roundw
          case rel => exact ⟨n + 1, by omega, by omega, by rw [HSU.out], by go_num, HB2.out⟩
          case measure => simp [intOf]; omega
        · obtain rfl : n = Z + 3 := by omega
          have o1 := ty_bd OK.out (lo - 100000)
          have o2 := ty_bd OK.out (hi + 100000)
          have HA1' := Lib.hid (HAT.out wr hwr (lo - 100000))
          have HA2' := Lib.hid (fun W hb => HAT.out W hb (hi + 100000))
          have hlaw := HLAW2.out
          have hx1 : IntKind.i64.wrap (lo - 100000) = lo - 100000 := IntWalk.i64_in _ (by omega)
          have hx2 : IntKind.i64.wrap (hi + 100000) = hi + 100000 := IntWalk.i64_in _ (by omega)
          generalize tyOf t (lo - 100000) = X at *
          generalize tyOf t (hi + 100000) = Y at *
          obtain ⟨xo, xs, xn⟩ := X
          obtain ⟨yo, ys, yn⟩ := Y
          simp only at o1 o2 hlaw
          generalize sumD t (A - 3) (Z + 3) = S at *
          have hy1 : IntKind.i64.wrap (Z + 3 - (A - 3)) = Z + 3 - (A - 3) := IntWalk.i64_in _ (by omega)
          have hy2 : IntKind.i64.wrap (86400 * (Z + 3 - (A - 3))) = 86400 * (Z + 3 - (A - 3)) := IntWalk.i64_in _ (by omega)
          have hy3 : IntKind.i64.wrap (86400 * (Z + 3 - (A - 3)) + xo) = 86400 * (Z + 3 - (A - 3)) + xo := IntWalk.i64_in _ (by omega)
          have hy4 : IntKind.i64.wrap (86400 * (Z + 3 - (A - 3)) + xo - yo) = S := by rw [hlaw]; exact IntWalk.i64_in _ (by omega)
          clear hlaw hbd HLAW2 HD1 HD2 HL
          go_wp2_with fail
          refine HA1'.out.mono ?_
          rintro e w4 ⟨rfl, hb4⟩
          obtain ⟨W5, e5⟩ : ∃ W5, w4.alloc (.cells #[.int .i64 xo, .bool xs, .string xn] 51) = W5 := ⟨_, rfl⟩
          have hx5 : W5.heap[w4.heap.size]? = some (.cells #[.int .i64 xo, .bool xs, .string xn] 51 (0, 0)) := by rw [← e5]; exact heap_alloc_new w4 _
          have HB5 := Lib.hid (HBE2.out.trans ((hb4.trans ((by rw [← e5]; exact alBelow _ _ : Below w4.heap.size w4 W5).mono hb4.size)).mono HBE2.out.size))
          obtain ⟨bx, ebx⟩ : ∃ bx, w4.heap.size = bx := ⟨_, rfl⟩
          rw [ebx] at hx5
          have HX5 := Lib.hid hx5
          have hz5 : bx < W5.heap.size := (Array.getElem?_eq_some_iff.mp hx5).1
          have HE5 := Lib.hid e5
          have HF5 := Lib.hid ebx
          clear hb4 hx5 e5 ebx c0 c1 c2 hzr
          obtain ⟨hw5, hzr, c0, c1, c2⟩ := HBX.out W5 HB5.out
          have HA3' := Lib.hid (HA2'.out W5 hw5)
          clear hw5
          go_upto_region 27 with fail
          rw [HF5.out, HE5.out]
          go_wp2_with fail
          refine HA3'.out.mono ?_
          rintro e w6 ⟨rfl, hb6⟩
          have HB6 := Lib.hid (HB5.out.trans (hb6.mono HB5.out.size))
          have x0 : w6.cell? ⟨bx, 0, none⟩ = some (.int .i64 xo) := (cell_of_row w6 _ 0 _ _ _ ((hb6.block bx hz5).trans HX5.out)).trans rfl
          have hz6 : bx < w6.heap.size := by have := hb6.size; omega
          have HB7 := Lib.hid (HB6.out.alloc HB6.out.size (.cells #[.int .i64 yo, .bool ys, .string yn] 51))
          clear hb6
          go_wp2_with fail
          go_ret
          exact ⟨rfl, HB.out.trans (HB7.out.mono HB.out.size)⟩
end Go.Proofs.YtomahddiclkepaaGreatDoor
namespace Go.Proofs.YtomahddiclkepaaGreatDoor
open Go.ChangeShapes Go.WideShapes Go.ChangeAt Go.RowKit
set_option linter.unusedVariables false

theorem gPow : Tryz.prog.globalNamed "internal/strconv.uint64pow10" = some 3 := by kernel_rfl
theorem gPowType : (Tryz.prog.globals[3]?).map (·.type) = some 297 := by kernel_rfl
theorem tab10_of {W : World} {a b : String × DataW Unit} {rest : List (String × DataW Unit)} (h : laidMet Tryz.prog (a :: b :: ("internal/strconv.uint64pow10", Rows.laid_internal_strconv_uint64pow10) :: rest) W) : Tab10 W :=
  Lib.tabIs_of_head (rest := rest) gPow gPowType Tryz.underlying297 Tryz.underlying137 (by kernel_rfl) (by kernel_rfl) h.tail.tail
end Go.Proofs.YtomahddiclkepaaGreatDoor
namespace Go.Proofs.YtomahddiclkepaaGreatDoor
open Go.ChangeShapes Go.WideShapes Go.ChangeAt Go.RowKit
set_option linter.unusedVariables false

theorem maxLen_of {W : World} (h : W.ShapedOpen Tryz.prog) : MaxLen W :=
  Go.Proofs.cell_of_shapedOpen_int (zero := #[.int .i64 0]) (t := 3) h (of_decide_eq_true (by kernel_rfl)) (by kernel_rfl) rfl (by kernel_rfl) (by kernel_rfl) Tryz.underlying3
end Go.Proofs.YtomahddiclkepaaGreatDoor
namespace Go.Proofs.YtomahddiclkepaaGreatDoor
open Go.ChangeShapes Go.WideShapes Go.ChangeAt Go.RowKit
set_option linter.unusedVariables false

theorem star : "*" ++ "errors.errorString" = "*errors.errorString" := by decide
theorem rowErr (u : TypeId) (h : Tryz.prog.typeName? 3 u = some "*errors.errorString") : u = 312 :=
  typeName_ptr_named (nm := "errors.errorString") (by rw [star]; kernel_rfl) (by kernel_rfl) (by decide) u (by rw [star]; exact h)
theorem gSyn : Tryz.prog.globalNamed "strconv.ErrSyntax" = some 6 := by kernel_rfl
theorem gRan : Tryz.prog.globalNamed "strconv.ErrRange" = some 7 := by kernel_rfl
theorem gSynType : (Tryz.prog.globals[6]?).map (·.type) = some 159 := by kernel_rfl
theorem gRanType : (Tryz.prog.globals[7]?).map (·.type) = some 159 := by kernel_rfl
theorem cellsES : Tryz.prog.cellsOf 314 = 1 := by kernel_rfl
theorem cellsStr : Tryz.prog.cellsOf 9 = 1 := by kernel_rfl
theorem ifaceV_of {W : World} {n : String} {g : Nat} {p : Value} {tp : TypeId} (hg : Tryz.prog.globalNamed n = some g) (h : W.var? Tryz.prog n = some #[.iface tp p]) : IfaceV W g :=
  ⟨_, by have h0 := World.var?_cell hg h 0; simpa using h0, .inr ⟨_, _, rfl⟩⟩
theorem numErrs_of {W : World} {rest : List (String × DataW Unit)} (h : laidMet Tryz.prog (("strconv.ErrRange", Rows.laid_strconv_ErrRange) :: ("strconv.ErrSyntax", Rows.laid_strconv_ErrSyntax) :: rest) W) : NumErrs W := by
  obtain ⟨a0, s0, hv0, _⟩ := laid_sentinel h gRan gRanType Tryz.underlying159 rowErr Tryz.underlying312 Tryz.underlying314 rfl rfl Tryz.underlying9 cellsES cellsStr
  obtain ⟨a1, s1, hv1, _⟩ := laid_sentinel h.tail gSyn gSynType Tryz.underlying159 rowErr Tryz.underlying312 Tryz.underlying314 rfl rfl Tryz.underlying9 cellsES cellsStr
  exact ⟨ifaceV_of gSyn hv1, ifaceV_of gRan hv0⟩

section
variable {H : Type} {enc : TypeId × Value → H}
theorem witness_row_lay {C : Checked} {os : Os} {f : FuncId} {fn : Func} {s : OpenSpec} {conds : List PathCond} {apart : Bool} {laid : List (String × DataW Unit)} (modest : Bool) (w0 : World) (args : Array Value) (hos : w0.os = os)
    (hsh : (w0.forCall (fun _ _ => 0) ⟨#[], args, []⟩).Shaped C.prog)
    (hok : Input.okWideB C.prog (w0.forCall (fun _ _ => 0) ⟨#[], args, []⟩) f ⟨#[], args, []⟩ = true)
    (hrow : s.preRow enc C.prog fn conds apart laid (w0.forCall (fun _ _ => 0) ⟨#[], args, []⟩).memory args) :
    ∃ (w : World) (tape : Tape) (i : Input), w.os = os ∧ (w.forCall tape i).Shaped C.prog ∧ i.vars = [] ∧ Input.okWide C.prog (w.forCall tape i) .any w.heap.size f i ∧
      s.preRow enc C.prog fn conds apart laid (w.forCall tape i).memory i.args ∧ ({ modest := modest } : Assume).holds C.prog (lone (Frame.enter C.prog f i.args .normal) [] (w.forCall tape i)) :=
  ⟨w0, fun _ _ => 0, ⟨#[], args, []⟩, hos, hsh, (Input.okWide_of_okWideB (base := 0) hok).1, (Input.okWide_of_okWideB hok).2, hrow, by
    simp only [Assume.holds]
    exact ⟨by simp, by simp, fun _ => Modest.zero, by simp, by simp⟩⟩
end
end Go.Proofs.YtomahddiclkepaaGreatDoor
namespace Go.Proofs.YtomahddiclkepaaGreatDoor
open Go.ChangeShapes Go.WideShapes Go.ChangeAt Go.RowKit
set_option linter.unusedVariables false

theorem gAsc : Tryz.prog.globalNamed "strings.asciiSpace" = some 0 := by kernel_rfl
theorem gAscType : (Tryz.prog.globals[0]?).map (·.type) = some 205 := by kernel_rfl
theorem laidAsc : (Rows.laid_strings_asciiSpace : DataW Unit) = Lib.tabData .u8 Lib.asciiSpaceTab := by kernel_rfl
theorem ascTab_of {W : World} {rest : List (String × DataW Unit)} (h : laidMet Tryz.prog (("strings.asciiSpace", Rows.laid_strings_asciiSpace) :: rest) W) : AscTab W := by
  rw [laidAsc] at h
  exact Lib.tabIs_of_head (rest := rest) gAsc gAscType Tryz.underlying205 Tryz.underlying5 (by kernel_rfl) (by kernel_rfl) h
end Go.Proofs.YtomahddiclkepaaGreatDoor
namespace Go.Proofs.YtomahddiclkepaaGreatDoor
open Go.ChangeShapes Go.WideShapes Go.Deep Go.RowKit Go.Joins
set_option linter.unusedVariables false
set_option linter.unusedSimpArgs false

section
variable {H : Type} {enc : TypeId × Value → H} {P : Program} {w : World} {base : Nat} {spare : Nat → Bool} {held : Bool}
/-- (the guide's lemma on slices of structs) -/
theorem open_slice_fields {t e : TypeId} {fs : Array Field} {fuel : Nat} {cs : List Value} {x : DataW H × List MemPlace} (ht : P.underlying t = some (.slice e)) (he : P.underlying e = some (.struct fs))
    (hone : oneCellFields P fs = true) (hC : P.cellsOf e = fs.size) (h : DataW.trod enc P w base spare held fuel t cs = some x) :
    (cs = [.slice none 0 0] ∧ x = (.nil, [])) ∨
    ∃ (a : Addr) (len cap m : Nat) (D : Nat → DataW H) (Pl : Nat → List MemPlace), cs = [.slice (some a) len cap] ∧ base ≤ a.block ∧ len ≤ cap ∧ cap ≤ maxLen ∧ m = (if spare a.block then cap else len) ∧
      x = (.slice ((List.range len).map D) ((List.range (m - len)).map fun j => D (len + j)), MemPlace.row a (m * fs.size) ++ (List.range m).flatMap Pl) ∧
      ∀ i, i < m → ∃ (ys : List (DataW H × List MemPlace)) (n : Nat), D i = .agg (ys.map (·.1)) ∧ Pl i = ys.flatMap (·.2) ∧ ys.length = fs.size ∧
        ∀ (j : Nat) (f : Field), fs[j]? = some f → ∃ (v : Value) (y : DataW H × List MemPlace), w.cell? (a.add (i * fs.size + j)) = some v ∧ ys[j]? = some y ∧ DataW.trod enc P w base spare held n f.type [v] = some y := by
  rcases open_slice ht h with h0 | ⟨a, len, cap, m, n, D, Pl, hcs, hb, hl, hm, hmm, hx, hi⟩
  · exact .inl h0
  · refine .inr ⟨a, len, cap, m, D, Pl, hcs, hb, hl, hm, hmm, by rw [hC] at hx; exact hx, fun i him => ?_⟩
    obtain ⟨cs', hc, ht'⟩ := hi i him
    rw [hC] at hc
    obtain ⟨ys, n', hn', hy, hlen, hyl, hf⟩ := DataW.trod_struct he ht'
    obtain ⟨_, hcl, hat⟩ := World.cells?_some hc
    simp only [Prod.mk.injEq] at hy
    refine ⟨ys, n', hy.1, hy.2, hyl, fun j f hj => ?_⟩
    obtain ⟨ho, hk⟩ := hone_of hone j f hj
    have hjl : j < fs.size := (Array.getElem?_eq_some_iff.1 hj).1
    have hcell := hat j hjl
    have hv : cs'[j]? = some (cs'[j]'(by omega)) := List.getElem?_eq_getElem (by omega)
    have h1 := hf j f hj
    rw [ho, hk] at h1
    have hone' : (cs'.drop j).take 1 = [cs'[j]'(by omega)] := by
      rw [List.drop_eq_getElem_cons (by omega)]
      rfl
    rw [hone'] at h1
    have hys : ys[j]? = some (ys[j]'(by omega)) := List.getElem?_eq_getElem (by omega)
    refine ⟨_, _, ?_, hys, h1.trans hys⟩
    rw [← Go.Deep.add_add, hcell, hv]
end

theorem und_types : Tryz.prog.underlying 55 = some (.slice 51) := by kernel_rfl
theorem und_changes : Tryz.prog.underlying 56 = some (.slice 61) := by kernel_rfl

/-- an address that holds a cell is plain -/
theorem spot_none {w : World} {a : Addr} {v : Value} (h : w.cell? a = some v) : a = ⟨a.block, a.off, none⟩ := by
  obtain ⟨b, o, s⟩ := a
  cases s with
  | none => rfl
  | some k =>
    simp only [World.cell?] at h
    split at h
    · simp at h
    · cases h
theorem add_plain (b o i : Nat) : (⟨b, o, none⟩ : Addr).add i = ⟨b, o + i, none⟩ := by
  unfold Addr.add
  split
  · rename_i h; subst h; rfl
  · rfl

theorem list_of {α : Type} [Inhabited α] (n : Nat) (Q : Nat → α → Prop) (h : ∀ i, i < n → ∃ x, Q i x) : ∃ l : List α, l.length = n ∧ ∀ i (hi : i < l.length), Q i l[i] := by
  classical
  refine ⟨(List.range n).map fun i => if hi : i < n then Classical.choose (h i hi) else default, by simp, fun i hi => ?_⟩
  have hi' : i < n := by simpa using hi
  simp only [List.getElem_map, List.getElem_range, hi', dite_true]
  exact Classical.choose_spec (h i hi')

instance : Inhabited Ty := ⟨⟨0, false, ⟨#[]⟩⟩⟩
instance : Inhabited Ch := ⟨⟨0, 0⟩⟩

section
variable {H : Type} {enc : TypeId × Value → H} {w : World} {base : Nat} {spare : Nat → Bool} {held : Bool}

theorem SlTy_open {fuel : Nat} {v : Value} {x : DataW H × List MemPlace} (h : DataW.trod enc Tryz.prog w base spare held fuel 55 [v] = some x) : ∃ l, SlTy w v l := by
  rcases open_slice_fields und_types Tryz.underlying51 (by kernel_rfl) (by kernel_rfl) h with ⟨hcs, _⟩ | ⟨a, len, cap, m, D, Pl, hcs, hb, hl, hm, hmm, hx, hf⟩
  · obtain rfl : v = .slice none 0 0 := by simpa using hcs
    exact ⟨[], ⟨⟨none, 0, rfl, fun h => absurd rfl h⟩, by simp, by simp⟩⟩
  · obtain rfl : v = .slice (some a) len cap := by simpa using hcs
    have hlm : len ≤ m := by rw [hmm]; split <;> omega
    have key : ∀ i, i < len → ∃ x : Ty, tyAt w a.block (a.off + i * 3) x ∧ x.name.size ≤ maxLen ∧ a = ⟨a.block, a.off, none⟩ ∧ a.block < w.heap.size := by
      intro i hi
      obtain ⟨ys, n, _, _, _, hfs⟩ := hf i (by omega)
      obtain ⟨ys0, n0, _, _, _, hfs0⟩ := hf 0 (by omega)
      obtain ⟨z0, _, d0, _, _⟩ := hfs0 0 _ rfl
      have hsp : a = ⟨a.block, a.off, none⟩ := by
        have e : a.add (0 * 3 + 0) = a := rfl
        exact spot_none (w := w) (v := z0) d0
      obtain ⟨v0, y0, c0, _, t0⟩ := hfs 0 _ rfl
      obtain ⟨v1, y1, c1, _, t1⟩ := hfs 1 _ rfl
      obtain ⟨v2, y2, c2, _, t2⟩ := hfs 2 _ rfl
      obtain ⟨b0, e0, _, _⟩ := DataW.trod_int Tryz.underlying3 t0
      obtain ⟨b1, e1, _⟩ := DataW.trod_bool Tryz.underlying4 t1
      obtain ⟨b2, e2, _, hs2⟩ := DataW.trod_string Tryz.underlying9 t2
      simp only [List.cons.injEq, and_true] at e0 e1 e2
      subst e0 e1 e2
      have hlt : a.block < w.heap.size := by
        rw [hsp, add_plain] at d0
        exact World.block_lt_of_cell? w ⟨a.block, _, none⟩ d0
      rw [hsp, add_plain] at c0 c1 c2
      exact ⟨⟨b0, b1, b2⟩, ⟨c0, c1, c2⟩, hs2, hsp, hlt⟩
    obtain ⟨l, hl1, hl2⟩ := list_of len _ key
    subst hl1
    refine ⟨l, ⟨⟨some a, cap, rfl, fun hne => ?_⟩, by omega, fun x hx => ?_⟩⟩
    · have hp : 0 < l.length := List.length_pos_iff.2 hne
      obtain ⟨_, _, h3, h4⟩ := hl2 0 hp
      exact ⟨a.block, a.off, congrArg some h3, h4, fun i hi => (hl2 i hi).1⟩
    · obtain ⟨i, hi, rfl⟩ := List.mem_iff_getElem.1 hx
      exact (hl2 i hi).2.1

theorem SlCh_open {fuel : Nat} {v : Value} {x : DataW H × List MemPlace} (h : DataW.trod enc Tryz.prog w base spare held fuel 56 [v] = some x) : ∃ l, SlCh w v l := by
  rcases open_slice_fields und_changes Tryz.underlying61 (by kernel_rfl) (by kernel_rfl) h with ⟨hcs, _⟩ | ⟨a, len, cap, m, D, Pl, hcs, hb, hl, hm, hmm, hx, hf⟩
  · obtain rfl : v = .slice none 0 0 := by simpa using hcs
    exact ⟨[], ⟨⟨none, 0, rfl, fun h => absurd rfl h⟩, by simp⟩⟩
  · obtain rfl : v = .slice (some a) len cap := by simpa using hcs
    have hlm : len ≤ m := by rw [hmm]; split <;> omega
    have key : ∀ i, i < len → ∃ x : Ch, chAt w a.block (a.off + i * 2) x ∧ a = ⟨a.block, a.off, none⟩ ∧ a.block < w.heap.size := by
      intro i hi
      obtain ⟨ys, n, _, _, _, hfs⟩ := hf i (by omega)
      obtain ⟨ys0, n0, _, _, _, hfs0⟩ := hf 0 (by omega)
      obtain ⟨z0, _, d0, _, _⟩ := hfs0 0 _ rfl
      have hsp : a = ⟨a.block, a.off, none⟩ := spot_none (w := w) (v := z0) d0
      obtain ⟨v0, y0, c0, _, t0⟩ := hfs 0 _ rfl
      obtain ⟨v1, y1, c1, _, t1⟩ := hfs 1 _ rfl
      obtain ⟨b0, e0, _, _⟩ := DataW.trod_int Tryz.underlying3 t0
      obtain ⟨b1, e1, _, _⟩ := DataW.trod_int Tryz.underlying3 t1
      simp only [List.cons.injEq, and_true] at e0 e1
      subst e0 e1
      have hlt : a.block < w.heap.size := by
        rw [hsp, add_plain] at d0
        exact World.block_lt_of_cell? w ⟨a.block, _, none⟩ d0
      rw [hsp, add_plain] at c0 c1
      exact ⟨⟨b0, b1⟩, ⟨c0, c1⟩, hsp, hlt⟩
    obtain ⟨l, hl1, hl2⟩ := list_of len _ key
    subst hl1
    refine ⟨l, ⟨⟨some a, cap, rfl, fun hne => ?_⟩, by omega⟩⟩
    have hp : 0 < l.length := List.length_pos_iff.2 hne
    obtain ⟨_, h3, h4⟩ := hl2 0 hp
    exact ⟨a.block, a.off, congrArg some h3, h4, fun i hi => (hl2 i hi).1⟩

theorem cellsTable : Tryz.prog.cellsOf 58 = 3 := by kernel_rfl
set_option maxRecDepth 100000 in
/-- A law's table argument -/
theorem TabAt_open {r : Reach} {b0 : Nat} {v : Value} {d : DataW H} {p : List MemPlace} (hv : Value.okWide Tryz.prog w r b0 58 v) (h : DataW.Trod enc Tryz.prog w base spare held 58 v d p) : ∃ t, TabAt w v t := by
  obtain ⟨c0, c1, c2, y0, y1, y2, m, rfl, _, _, g0, g1, g2⟩ := open_agg3 Tryz.underlying58 (by kernel_rfl) cellsTable hv h
  obtain ⟨l, hl⟩ := SlTy_open g0
  obtain ⟨b1, e1, _, _⟩ := DataW.trod_int Tryz.underlying3 g1
  obtain ⟨k, hk⟩ := SlCh_open g2
  simp only [List.cons.injEq, and_true] at e1
  subst e1
  exact ⟨⟨l, b1, k⟩, _, _, rfl, hl, hk⟩
end

end Go.Proofs.YtomahddiclkepaaGreatDoor
