/- (checker).zone: what it returns. -/
import Derived.Test.YtlgdilpmdoofiaaDoorBa6
namespace Go.Proofs.YtlgdilpmdoofiaaDoor
open Go.RowKit Go.Joins
open Classical
set_option linter.unusedVariables false
set_option linter.unusedSimpArgs false

theorem zoneF_any (y : Zo) (zb : Nat) (nm : ByteArray) (w : World) (hx : w.cell? ⟨zb, 0, none⟩ = some (.string nm)) :
    Calls Tryd.prog 64 (#[.agg (zoCells y).toArray] ++ #[.pointer (some ⟨zb, 0, none⟩)]) w fun e w' => e = .returned (.bool (decide (y.nm = nm))) ∧ Below w.heap.size w w' := by
  have hlt : zb < w.heap.size := World.block_lt_of_cell? _ _ hx
  have HE := Lib.hid (str_eqB y.nm nm)
  obtain ⟨ynm, yev, yer⟩ := y
  show Calls _ _ #[.agg #[.string ynm, yev], .pointer (some ⟨zb, 0, none⟩)] _ _
  go_enter Tryd.func64, Tryd.ntmps64
  go_wp2_with fail
  go_ret
  exact ⟨ret_bB HE.out, (Below.refl _ _).alloc (Nat.le_refl _) _⟩
theorem RowsAt.take {α : Type} {cells : α → List Value} {k B : Nat} {W : World} {b o cap : Nat} {l : List α} (h : RowsAt cells k B W (.slice (some ⟨b, o, none⟩) l.length cap) l) (n : Nat) (hn : n ≤ l.length) : RowsAt cells k B W (.slice (some ⟨b, o, none⟩) n cap) (l.take n) := by
  obtain ⟨p, c, e, hl, h⟩ := h
  injection e with e1 e2 e3
  subst e3
  refine ⟨some ⟨b, o, none⟩, cap, by rw [List.length_take, Nat.min_eq_left hn], by rw [List.length_take]; omega, fun hne => ?_⟩
  have hlne : l ≠ [] := by rintro rfl; simp at hne
  obtain ⟨b2, o2, e4, hlt, hc⟩ := h hlne
  rw [← e1] at e4
  injection e4 with e4
  injection e4 with e5 e6
  subst e5; subst e6
  refine ⟨b, o, rfl, hlt, fun i hi j u hu => ?_⟩
  rw [List.length_take] at hi
  rw [List.getElem_take] at hu
  exact hc i (by omega) j u hu
theorem zoneChk_3 (rules : List Ru) (be : List Zo) (z : Zo) (h : nameB z.nm = false) : zoneChk rules be z = 3 := by unfold zoneChk; rw [if_pos h]
theorem zoneChk_7 (rules : List Ru) (be : List Zo) (z : Zo) (h : nameB z.nm = true) (h2 : (be.any fun y => decide (y.nm = z.nm)) = true) : zoneChk rules be z = 7 := by unfold zoneChk; rw [if_neg (by rw [h]; simp), if_pos h2]
theorem zoneChk_n (rules : List Ru) (be : List Zo) (z : Zo) (h : nameB z.nm = true) (h2 : (be.any fun y => decide (y.nm = z.nm)) = false) : zoneChk rules be z = if z.eras = [] then 5 else if 700 < z.eras.length then 2 else firstE (eraChk rules z.eras) (List.range z.eras.length) := by unfold zoneChk; rw [if_neg (by rw [h]; simp), if_neg (by rw [h2]; simp)]

set_option maxRecDepth 100000 in
set_option maxHeartbeats 8000000 in
theorem zone_any (b : Bk) (rv zv lv : Value) (cb k : Nat) (w : World) (hC : ChkBx w cb rv zv lv) (hB : BookAt w.heap.size w rv zv lv b) (hk : k < b.zones.length) (hm : MaxLen w) (ht : Tab10 w) :
    Calls Tryd.prog 37 #[.pointer (some ⟨cb, 0, none⟩), .int .i64 k] w fun e w' => e = .returned (.int .i64 (zoneChk b.rules (b.zones.take k) b.zones[k])) ∧ Below w.heap.size w w' := by
  have hcb : cb < w.heap.size := (Array.getElem?_eq_some_iff.mp hC).1
  have hz := hB.z
  obtain ⟨p, cap, rfl, hlen, hrow⟩ := hz
  obtain ⟨bb, o, rfl, hbl, hcs⟩ := hrow (List.ne_nil_of_length_pos (by omega))
  have hck := hcs k hk
  have hev := hB.e b.zones[k] (List.getElem_mem hk)
  have hsz := hB.zs b.zones[k] (List.getElem_mem hk)
  have HTK := Lib.hid (hB.z.take k (by omega))
  obtain ⟨z, ez⟩ : ∃ z, b.zones[k] = z := ⟨_, rfl⟩
  rw [ez] at hck hev hsz ⊢
  obtain ⟨nm, ev, er⟩ := z
  simp only at hev
  obtain ⟨pe, ce, rfl, hle, hre⟩ := hev
  have c0 := hck 0 _ rfl
  have c1 := hck 1 _ rfl
  simp only at c0 c1
  rw [Nat.add_zero] at c0
  have y1 := (cell_of_row w cb 1 _ _ _ hC).trans rfl
  obtain ⟨R, eR⟩ : ∃ R, zoneChk b.rules (b.zones.take k) ⟨nm, .slice pe er.length ce, er⟩ = R := ⟨_, rfl⟩
  have HR3 := Lib.hid (zoneChk_3 b.rules (b.zones.take k) ⟨nm, .slice pe er.length ce, er⟩)
  have HR7 := Lib.hid (zoneChk_7 b.rules (b.zones.take k) ⟨nm, .slice pe er.length ce, er⟩)
  have HRn := Lib.hid (zoneChk_n b.rules (b.zones.take k) ⟨nm, .slice pe er.length ce, er⟩)
  rw [eR] at HR3 HR7 HRn ⊢
  obtain ⟨W0, eW⟩ : ∃ W0, w.alloc (.cells #[.string nm, .slice pe er.length ce] 53) = W0 := ⟨_, rfl⟩
  have hb0 : Below w.heap.size w W0 := by rw [← eW]; exact (Below.refl _ _).alloc (Nat.le_refl _) _
  have hbx : W0.heap[w.heap.size]? = some (.cells #[.string nm, .slice pe er.length ce] 53 (0, 0)) := by rw [← eW]; exact heap_alloc_new w _
  have hl0 : w.heap.size < W0.heap.size := by rw [← eW]; simp
  have HBX := Lib.hid hbx
  have x0 := (cell_of_row W0 _ 0 _ _ _ hbx).trans rfl
  have x1 := (cell_of_row W0 _ 1 _ _ _ hbx).trans rfl
  have x0r := x0
  have x1r := x1
  have HEW := Lib.hid eW
  have HB0 := Lib.hid hb0
  have HC0 := Lib.hid (hC.below hb0 hcb)
  have z1 := (cell_of_row W0 cb 1 _ _ _ HC0.out).trans rfl
  have HBK := Lib.hid (hB.below hb0 (Nat.le_refl _))
  have HM0 := Lib.hid (hm.below hb0)
  have HT0 := Lib.hid (ht.below hb0)
  have HTK0 := Lib.hid (HTK.out.below hb0 (Nat.le_refl _))
  have HRE0 : Hid (RowsAt (fun x : Er => (erCells x).toList) 5 w.heap.size W0 (.slice pe er.length ce) er) := by
    show RowsAt _ _ _ _ _ _
    have h : RowsAt (fun x : Er => (erCells x).toList) 5 w.heap.size w (.slice pe er.length ce) er := ⟨pe, ce, rfl, hle, hre⟩
    exact h.below hb0 (Nat.le_refl _)
  have HSZ := Lib.hid hsz
  have HNM := Lib.hid (fun W => isName_any nm W (by have := hsz.1; simp only at this; unfold maxLen; omega))
  have kz : (k : Int) < (b.zones.length : Int) := by omega
  have kz2 : (k : Int) ≤ (cap : Int) := by omega
  have hcb0 : cb < W0.heap.size := by omega
  clear eW hb0 hC hm ht hcs hck hrow hB hsz hbx ez eR hre HTK
  go_enter Tryd.func37, Tryd.ntmps37
  go_upto_region 2 with fail
  rw [HEW.out]
  go_wp2_with fail
  refine (HNM.out _).mono ?_
  obtain ⟨N, eN⟩ : ∃ N, nameB nm = N := ⟨_, rfl⟩
  rw [eN]
  have HN := Lib.hid eN
  clear eN HNM
  rintro e w' ⟨rfl, rfl⟩
  cases N with
  | false =>
    have HRA := Lib.hid (HR3.out HN.out)
    go_wp2_with fail
    go_ret
    exact ⟨ret_E HRA.out.symm, HB0.out⟩
  | true =>
  have eg : ∀ args w, (callFunc 64 args).run Tryd.prog w = .ok (.enter 64 args) w := enters_of Tryd.func64 (by kernel_rfl) rfl
  have HH := Lib.hid (hasZo_any (b.zones.take k) (.slice (some ⟨bb, o, none⟩) k cap) 64 #[.pointer (some ⟨w.heap.size, 0, none⟩)] (fun y => decide (y.nm = nm)) W0 eg (HTK0.out.mono HB0.out.size) (fun W hb y hy => zoneF_any y w.heap.size nm W ((hb.cell (p := ⟨w.heap.size, 0, none⟩) hl0).trans x0)))
  obtain ⟨H, eH⟩ : ∃ H, ((b.zones.take k).any fun y => decide (y.nm = nm)) = H := ⟨_, rfl⟩
  rw [eH] at HH
  have HHV := Lib.hid eH
  clear eH eg
  go_wp2_with fail
  refine HH.out.mono ?_
  rintro e w1 ⟨rfl, hb⟩
  have HB1 := Lib.hid hb
  have zb := HB1.out.size
  have x1 := (HB1.out.cell (p := ⟨w.heap.size, 1, none⟩) hl0).trans x1
  have hl1 : w.heap.size < w1.heap.size := by omega
  clear hb HH
  cases H with
  | true =>
    have HRA := Lib.hid (HR7.out HN.out HHV.out)
    go_wp2_with fail
    go_ret
    exact ⟨ret_E HRA.out.symm, HB0.out.trans (HB1.out.mono HB0.out.size)⟩
  | false =>
  have hRn := HRn.out HN.out HHV.out
  change R = if er = [] then 5 else if 700 < er.length then 2 else firstE (eraChk b.rules er) (List.range er.length) at hRn
  by_cases he0 : er.length = 0
  · have e0 : ((er.length : Int) == 0) = true := by simp [he0]
    have HRA : Hid (R = 5) := by
      show R = 5
      rw [hRn, if_pos (List.length_eq_zero_iff.mp he0)]
    clear hRn
    go_wp2_with fail
    go_ret
    exact ⟨ret_E HRA.out.symm, HB0.out.trans (HB1.out.mono HB0.out.size)⟩
  have e0 : ((er.length : Int) == 0) = false := by simp; exact List.ne_nil_of_length_pos (by omega)
  rw [if_neg (fun h => he0 (by rw [h]; rfl))] at hRn
  by_cases he7 : 700 < er.length
  · have e7 : (700 : Int) < (er.length : Int) := by omega
    have HRA : Hid (R = 2) := by
      show R = 2
      rw [hRn, if_pos he7]
    clear hRn
    go_wp2_with fail
    go_ret
    exact ⟨ret_E HRA.out.symm, HB0.out.trans (HB1.out.mono HB0.out.size)⟩
  have e7 : ¬ (700 : Int) < (er.length : Int) := by omega
  rw [if_neg he7] at hRn
  have HRA := Lib.hid hRn
  clear hRn
  go_wp2_with fail
  go_loopw [44] (fun i wr => ∃ j : Nat, j ≤ er.length ∧ i = .int .i64 j ∧ Hid (Below W0.heap.size W0 wr) ∧ Hid (firstE (eraChk b.rules er) (List.range er.length) = firstE (eraChk b.rules er) ((List.range er.length).drop j))) (fun i _ => er.length - (intOf i).toNat)
  case atStart => exact ⟨0, Nat.zero_le _, rfl, HB1, rfl⟩
  case round =>
    obtain ⟨j, hj, rfl, HB, HF⟩ := hrel
    have x0 := (HB.out.cell (p := ⟨w.heap.size, 0, none⟩) hl0).trans x0r
    have x1 := (HB.out.cell (p := ⟨w.heap.size, 1, none⟩) hl0).trans x1r
    have hzr := HB.out.size
    have hzr2 : w.heap.size < wr.heap.size := by omega
    by_cases hlt : j < er.length
    · have HE := Lib.hid (era_any b _ _ _ cb j nm (.slice pe er.length ce) er wr (HC0.out.below HB.out hcb0) ((HBK.out.r.below HB.out (by omega)).mono (by omega)) HBK.out.rs ((HRE0.out.below HB.out (by omega)).mono (by omega)) HSZ.out.2 hlt (HM0.out.below HB.out) (HT0.out.below HB.out))
      obtain ⟨E, eE⟩ : ∃ E, eraChk b.rules er j = E := ⟨_, rfl⟩
      rw [eE] at HE
      have HV := Lib.hid eE
      clear eE
      go_wp2_with fail
      refine HE.out.mono ?_
      rintro e w3 ⟨rfl, hb3⟩
      have HB3 := Lib.hid (HB.out.trans (hb3.mono HB.out.size))
      clear hb3 HE
      by_cases hE : E = 0
      · subst hE
        go_wp2_with fail
        go_roundw
        case rel => exact ⟨j + 1, by omega, by go_num, HB3, Lib.hid (firstE_drop (eraChk b.rules er) (List.range er.length) j (by simpa using hlt) (by rw [List.getElem_range]; exact HV.out) HF.out)⟩
        case measure => simp [intOf]; omega
      · have hz : (E == 0) = false := by simpa using hE
        have hz2 : (!E == 0) = true := by rw [hz]; rfl
        have HK2 : Hid (R = E) := by
          show R = E
          have h1 := firstE_hit (eraChk b.rules er) (List.range er.length) j (by simpa using hlt) (by rw [List.getElem_range, HV.out]; exact hE) HF.out
          rw [HRA.out, h1, List.getElem_range, HV.out]
        clear hE
        go_wp2_with fail
        go_ret
        exact ⟨ret_E HK2.out.symm, HB0.out.trans (HB3.out.mono HB0.out.size)⟩
    · have hend := firstE_end (eraChk b.rules er) (List.range er.length) j (by simp; omega) HF.out
      have hkl : ¬ (j : Int) < (er.length : Int) := by omega
      have HK2 : Hid (R = 0) := by
        show R = 0
        rw [HRA.out, hend]
      clear hend
      go_wp2_with fail
      go_ret
      exact ⟨ret_E HK2.out.symm, HB0.out.trans (HB.out.mono HB0.out.size)⟩
end Go.Proofs.YtlgdilpmdoofiaaDoor
