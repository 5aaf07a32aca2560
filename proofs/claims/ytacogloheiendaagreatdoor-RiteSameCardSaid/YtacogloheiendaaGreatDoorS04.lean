/- (checker).zone: what it returns. (checker).link: what it returns. (checker).link: the walk. book.Check: what it returns. book.Check: the walk. -/
import Derived.Test.YtacogloheiendaaGreatDoorS03
import Derived.Deep.RegionHeld3
namespace Go.Proofs.YtacogloheiendaaGreatDoor
open Go.RowKit Go.Joins
open Classical
set_option linter.unusedVariables false
set_option linter.unusedSimpArgs false

theorem zoneF_any (y : Zo) (zb : Nat) (nm : ByteArray) (w : World) (hx : w.cell? ⟨zb, 0, none⟩ = some (.string nm)) :
    Calls Tryz.prog 62 (#[.agg (zoCells y).toArray] ++ #[.pointer (some ⟨zb, 0, none⟩)]) w fun e w' => e = .returned (.bool (decide (y.nm = nm))) ∧ Below w.heap.size w w' := by
  have hlt : zb < w.heap.size := World.block_lt_of_cell? _ _ hx
  have HE := Lib.hid (str_eqB y.nm nm)
  obtain ⟨ynm, yev, yer⟩ := y
  show Calls _ _ #[.agg #[.string ynm, yev], .pointer (some ⟨zb, 0, none⟩)] _ _
  go_enter Tryz.func62, Tryz.ntmps62
  go_wp2_with fail
  go_ret
  exact ⟨ret_bB HE.out, (Below.refl _ _).alloc (Nat.le_refl _) _⟩
theorem RowsAt.take {α : Type} {cells : α → List Value} {k B : Nat} {W : World} {b o cap : Nat} {l : List α} (h : RowsAt cells k B W (.slice (some ⟨b, o, none⟩) l.length cap) l) (n : Nat) (hn : n ≤ l.length) : RowsAt cells k B W (.slice (some ⟨b, o, none⟩) n cap) (l.take n) := by
  obtain ⟨p, c, e, hl, h⟩ := h
  injection e with e1 e2 e3
  subst e3
  refine ⟨some ⟨b, o, none⟩, cap, by rw [List.length_take, Nat.min_eq_left hn], by rw [List.length_take]; omega, fun hne => ?_⟩
  have hlne : l ≠ [] := by rintro rfl; simp at hne
  obtain ⟨b2, o2, e4, hlt, hc⟩ := h hlne
  rw [← e1] at e4
  injection e4 with e4
  injection e4 with e5 e6
  subst e5; subst e6
  refine ⟨b, o, rfl, hlt, fun i hi j u hu => ?_⟩
  rw [List.length_take] at hi
  rw [List.getElem_take] at hu
  exact hc i (by omega) j u hu
theorem zoneChk_3 (rules : List Ru) (be : List Zo) (z : Zo) (h : nameB z.nm = false) : zoneChk rules be z = 3 := by unfold zoneChk; rw [if_pos h]
theorem zoneChk_7 (rules : List Ru) (be : List Zo) (z : Zo) (h : nameB z.nm = true) (h2 : (be.any fun y => decide (y.nm = z.nm)) = true) : zoneChk rules be z = 7 := by unfold zoneChk; rw [if_neg (by rw [h]; simp), if_pos h2]
theorem zoneChk_n (rules : List Ru) (be : List Zo) (z : Zo) (h : nameB z.nm = true) (h2 : (be.any fun y => decide (y.nm = z.nm)) = false) : zoneChk rules be z = if z.eras = [] then 5 else if 700 < z.eras.length then 2 else firstE (eraChk rules z.eras) (List.range z.eras.length) := by unfold zoneChk; rw [if_neg (by rw [h]; simp), if_neg (by rw [h2]; simp)]

set_option maxRecDepth 100000 in
set_option maxHeartbeats 8000000 in
theorem zone_any (b : Bk) (rv zv lv : Value) (cb k : Nat) (w : World) (hC : ChkBx w cb rv zv lv) (hB : BookAt w.heap.size w rv zv lv b) (hk : k < b.zones.length) (hm : MaxLen w) (ht : Tab10 w) :
    Calls Tryz.prog 33 #[.pointer (some ⟨cb, 0, none⟩), .int .i64 k] w fun e w' => e = .returned (.int .i64 (zoneChk b.rules (b.zones.take k) b.zones[k])) ∧ Below w.heap.size w w' := by
  have hcb : cb < w.heap.size := (Array.getElem?_eq_some_iff.mp hC).1
  have hz := hB.z
  obtain ⟨p, cap, rfl, hlen, hrow⟩ := hz
  obtain ⟨bb, o, rfl, hbl, hcs⟩ := hrow (List.ne_nil_of_length_pos (by omega))
  have hck := hcs k hk
  have hev := hB.e b.zones[k] (List.getElem_mem hk)
  have hsz := hB.zs b.zones[k] (List.getElem_mem hk)
  have HTK := Lib.hid (hB.z.take k (by omega))
  obtain ⟨z, ez⟩ : ∃ z, b.zones[k] = z := ⟨_, rfl⟩
  rw [ez] at hck hev hsz ⊢
  obtain ⟨nm, ev, er⟩ := z
  simp only at hev
  obtain ⟨pe, ce, rfl, hle, hre⟩ := hev
  have c0 := hck 0 _ rfl
  have c1 := hck 1 _ rfl
  simp only at c0 c1
  rw [Nat.add_zero] at c0
  have y1 := (cell_of_row w cb 1 _ _ _ hC).trans rfl
  obtain ⟨R, eR⟩ : ∃ R, zoneChk b.rules (b.zones.take k) ⟨nm, .slice pe er.length ce, er⟩ = R := ⟨_, rfl⟩
  have HR3 := Lib.hid (zoneChk_3 b.rules (b.zones.take k) ⟨nm, .slice pe er.length ce, er⟩)
  have HR7 := Lib.hid (zoneChk_7 b.rules (b.zones.take k) ⟨nm, .slice pe er.length ce, er⟩)
  have HRn := Lib.hid (zoneChk_n b.rules (b.zones.take k) ⟨nm, .slice pe er.length ce, er⟩)
  rw [eR] at HR3 HR7 HRn ⊢
  obtain ⟨W0, eW⟩ : ∃ W0, w.alloc (.cells #[.string nm, .slice pe er.length ce] 62) = W0 := ⟨_, rfl⟩
  have hb0 : Below w.heap.size w W0 := by rw [← eW]; exact (Below.refl _ _).alloc (Nat.le_refl _) _
  have hbx : W0.heap[w.heap.size]? = some (.cells #[.string nm, .slice pe er.length ce] 62 (0, 0)) := by rw [← eW]; exact heap_alloc_new w _
  have hl0 : w.heap.size < W0.heap.size := by rw [← eW]; simp
  have HBX := Lib.hid hbx
  have x0 := (cell_of_row W0 _ 0 _ _ _ hbx).trans rfl
  have x1 := (cell_of_row W0 _ 1 _ _ _ hbx).trans rfl
  have x0r := x0
  have x1r := x1
  have HEW := Lib.hid eW
  have HB0 := Lib.hid hb0
  have HC0 := Lib.hid (hC.below hb0 hcb)
  have z1 := (cell_of_row W0 cb 1 _ _ _ HC0.out).trans rfl
  have HBK := Lib.hid (hB.below hb0 (Nat.le_refl _))
  have HM0 := Lib.hid (hm.below hb0)
  have HT0 := Lib.hid (ht.below hb0)
  have HTK0 := Lib.hid (HTK.out.below hb0 (Nat.le_refl _))
  have HRE0 : Hid (RowsAt (fun x : Er => (erCells x).toList) 5 w.heap.size W0 (.slice pe er.length ce) er) := by
    show RowsAt _ _ _ _ _ _
    have h : RowsAt (fun x : Er => (erCells x).toList) 5 w.heap.size w (.slice pe er.length ce) er := ⟨pe, ce, rfl, hle, hre⟩
    exact h.below hb0 (Nat.le_refl _)
  have HSZ := Lib.hid hsz
  have HNM := Lib.hid (fun W => isName_any nm W (by have := hsz.1; simp only at this; unfold maxLen; omega))
  have kz : (k : Int) < (b.zones.length : Int) := by omega
  have kz2 : (k : Int) ≤ (cap : Int) := by omega
  have hcb0 : cb < W0.heap.size := by omega
  clear eW hb0 hC hm ht hcs hck hrow hB hsz hbx ez eR hre HTK
  go_enter Tryz.func33, Tryz.ntmps33
  go_upto_region 2 with fail
  rw [HEW.out]
  go_wp2_with fail
  refine (HNM.out _).mono ?_
  obtain ⟨N, eN⟩ : ∃ N, nameB nm = N := ⟨_, rfl⟩
  rw [eN]
  have HN := Lib.hid eN
  clear eN HNM
  rintro e w' ⟨rfl, rfl⟩
  cases N with
  | false =>
    have HRA := Lib.hid (HR3.out HN.out)
    go_wp2_with fail
    go_ret
    exact ⟨ret_E HRA.out.symm, HB0.out⟩
  | true =>
  have eg : ∀ args w, (callFunc 62 args).run Tryz.prog w = .ok (.enter 62 args) w := enters_of Tryz.func62 (by kernel_rfl) rfl
  have HH := Lib.hid (hasZo_any (b.zones.take k) (.slice (some ⟨bb, o, none⟩) k cap) 62 #[.pointer (some ⟨w.heap.size, 0, none⟩)] (fun y => decide (y.nm = nm)) W0 eg (HTK0.out.mono HB0.out.size) (fun W hb y hy => zoneF_any y w.heap.size nm W ((hb.cell (p := ⟨w.heap.size, 0, none⟩) hl0).trans x0)))
  obtain ⟨H, eH⟩ : ∃ H, ((b.zones.take k).any fun y => decide (y.nm = nm)) = H := ⟨_, rfl⟩
  rw [eH] at HH
  have HHV := Lib.hid eH
  clear eH eg
  go_wp2_with fail
  refine HH.out.mono ?_
  rintro e w1 ⟨rfl, hb⟩
  have HB1 := Lib.hid hb
  have zb := HB1.out.size
  have x1 := (HB1.out.cell (p := ⟨w.heap.size, 1, none⟩) hl0).trans x1
  have hl1 : w.heap.size < w1.heap.size := by omega
  clear hb HH
  cases H with
  | true =>
    have HRA := Lib.hid (HR7.out HN.out HHV.out)
    go_wp2_with fail
    go_ret
    exact ⟨ret_E HRA.out.symm, HB0.out.trans (HB1.out.mono HB0.out.size)⟩
  | false =>
  have hRn := HRn.out HN.out HHV.out
  change R = if er = [] then 5 else if 700 < er.length then 2 else firstE (eraChk b.rules er) (List.range er.length) at hRn
  by_cases he0 : er.length = 0
  · have e0 : ((er.length : Int) == 0) = true := by simp [he0]
    have HRA : Hid (R = 5) := by
      show R = 5
      rw [hRn, if_pos (List.length_eq_zero_iff.mp he0)]
    clear hRn
    go_wp2_with fail
    go_ret
    exact ⟨ret_E HRA.out.symm, HB0.out.trans (HB1.out.mono HB0.out.size)⟩
  have e0 : ((er.length : Int) == 0) = false := by simp; exact List.ne_nil_of_length_pos (by omega)
  rw [if_neg (fun h => he0 (by rw [h]; rfl))] at hRn
  by_cases he7 : 700 < er.length
  · have e7 : (700 : Int) < (er.length : Int) := by omega
    have HRA : Hid (R = 2) := by
      show R = 2
      rw [hRn, if_pos he7]
    clear hRn
    go_wp2_with fail
    go_ret
    exact ⟨ret_E HRA.out.symm, HB0.out.trans (HB1.out.mono HB0.out.size)⟩
  have e7 : ¬ (700 : Int) < (er.length : Int) := by omega
  rw [if_neg he7] at hRn
  have HRA := Lib.hid hRn
  clear hRn
  go_wp2_with fail
  go_loopw [44] (fun i wr => ∃ j : Nat, j ≤ er.length ∧ i = .int .i64 j ∧ Hid (Below W0.heap.size W0 wr) ∧ Hid (firstE (eraChk b.rules er) (List.range er.length) = firstE (eraChk b.rules er) ((List.range er.length).drop j))) (fun i _ => er.length - (intOf i).toNat)
  case atStart => exact ⟨0, Nat.zero_le _, rfl, HB1, rfl⟩
  case round =>
    obtain ⟨j, hj, rfl, HB, HF⟩ := hrel
    have x0 := (HB.out.cell (p := ⟨w.heap.size, 0, none⟩) hl0).trans x0r
    have x1 := (HB.out.cell (p := ⟨w.heap.size, 1, none⟩) hl0).trans x1r
    have hzr := HB.out.size
    have hzr2 : w.heap.size < wr.heap.size := by omega
    by_cases hlt : j < er.length
    · have HE := Lib.hid (era_any b _ _ _ cb j nm (.slice pe er.length ce) er wr (HC0.out.below HB.out hcb0) ((HBK.out.r.below HB.out (by omega)).mono (by omega)) HBK.out.rs ((HRE0.out.below HB.out (by omega)).mono (by omega)) HSZ.out.2 hlt (HM0.out.below HB.out) (HT0.out.below HB.out))
      obtain ⟨E, eE⟩ : ∃ E, eraChk b.rules er j = E := ⟨_, rfl⟩
      rw [eE] at HE
      have HV := Lib.hid eE
      clear eE
      go_wp2_with fail
      refine HE.out.mono ?_
      rintro e w3 ⟨rfl, hb3⟩
      have HB3 := Lib.hid (HB.out.trans (hb3.mono HB.out.size))
      clear hb3 HE
      by_cases hE : E = 0
      · subst hE
        go_wp2_with fail
        go_roundw
        case rel => exact ⟨j + 1, by omega, by go_num, HB3, Lib.hid (firstE_drop (eraChk b.rules er) (List.range er.length) j (by simpa using hlt) (by rw [List.getElem_range]; exact HV.out) HF.out)⟩
        case measure => simp [intOf]; omega
      · have hz : (E == 0) = false := by simpa using hE
        have hz2 : (!E == 0) = true := by rw [hz]; rfl
        have HK2 : Hid (R = E) := by
          show R = E
          have h1 := firstE_hit (eraChk b.rules er) (List.range er.length) j (by simpa using hlt) (by rw [List.getElem_range, HV.out]; exact hE) HF.out
          rw [HRA.out, h1, List.getElem_range, HV.out]
        clear hE
        go_wp2_with fail
        go_ret
        exact ⟨ret_E HK2.out.symm, HB0.out.trans (HB3.out.mono HB0.out.size)⟩
    · have hend := firstE_end (eraChk b.rules er) (List.range er.length) j (by simp; omega) HF.out
      have hkl : ¬ (j : Int) < (er.length : Int) := by omega
      have HK2 : Hid (R = 0) := by
        show R = 0
        rw [HRA.out, hend]
      clear hend
      go_wp2_with fail
      go_ret
      exact ⟨ret_E HK2.out.symm, HB0.out.trans (HB.out.mono HB0.out.size)⟩
end Go.Proofs.YtacogloheiendaaGreatDoor
namespace Go.Proofs.YtacogloheiendaaGreatDoor
open Go.RowKit Go.Joins
open Classical
set_option linter.unusedVariables false
set_option linter.unusedSimpArgs false

theorem lkZoF_any (y : Zo) (zb : Nat) (nm : ByteArray) (w : World) (hx : w.cell? ⟨zb, 0, none⟩ = some (.string nm)) :
    Calls Tryz.prog 65 (#[.agg (zoCells y).toArray] ++ #[.pointer (some ⟨zb, 0, none⟩)]) w fun e w' => e = .returned (.bool (decide (y.nm = nm))) ∧ Below w.heap.size w w' := by
  have hlt : zb < w.heap.size := World.block_lt_of_cell? _ _ hx
  have HE := Lib.hid (str_eqB y.nm nm)
  obtain ⟨ynm, yev, yer⟩ := y
  show Calls _ _ #[.agg #[.string ynm, yev], .pointer (some ⟨zb, 0, none⟩)] _ _
  go_enter Tryz.func65, Tryz.ntmps65
  go_wp2_with fail
  go_ret
  exact ⟨ret_bB HE.out, (Below.refl _ _).alloc (Nat.le_refl _) _⟩
theorem lkLkF_any (y : Lk) (zb : Nat) (nm : ByteArray) (w : World) (hx : w.cell? ⟨zb, 0, none⟩ = some (.string nm)) :
    Calls Tryz.prog 68 (#[.agg (lkCells y).toArray] ++ #[.pointer (some ⟨zb, 0, none⟩)]) w fun e w' => e = .returned (.bool (decide (y.nm = nm))) ∧ Below w.heap.size w w' := by
  have hlt : zb < w.heap.size := World.block_lt_of_cell? _ _ hx
  have HE := Lib.hid (str_eqB y.nm nm)
  obtain ⟨ynm, yto⟩ := y
  show Calls _ _ #[.agg #[.string ynm, .string yto], .pointer (some ⟨zb, 0, none⟩)] _ _
  go_enter Tryz.func68, Tryz.ntmps68
  go_wp2_with fail
  go_ret
  exact ⟨ret_bB HE.out, (Below.refl _ _).alloc (Nat.le_refl _) _⟩

set_option maxHeartbeats 2000000 in
theorem lkZone_any (b : Bk) (rv zv lv : Value) (cb tb : Nat) (nm : ByteArray) (w : World) (hC : ChkBx w cb rv zv lv) (hT : w.cell? ⟨tb, 0, none⟩ = some (.pointer (some ⟨cb, 0, none⟩))) (hz : RowsAt zoCells 2 w.heap.size w zv b.zones) :
    Calls Tryz.prog 64 (#[.string nm] ++ #[.pointer (some ⟨tb, 0, none⟩)]) w fun e w' => e = .returned (.bool (isZone b nm)) ∧ Below w.heap.size w w' := by
  have htb : tb < w.heap.size := World.block_lt_of_cell? _ _ hT
  have hcb : cb < w.heap.size := (Array.getElem?_eq_some_iff.mp hC).1
  obtain ⟨W0, eW⟩ : ∃ W0, w.alloc (.cells #[.string nm] 9) = W0 := ⟨_, rfl⟩
  have hb0 : Below w.heap.size w W0 := by rw [← eW]; exact (Below.refl _ _).alloc (Nat.le_refl _) _
  have hbx : W0.heap[w.heap.size]? = some (.cells #[.string nm] 9 (0, 0)) := by rw [← eW]; exact heap_alloc_new w _
  have hl0 : w.heap.size < W0.heap.size := by rw [← eW]; simp
  have x0 := (cell_of_row W0 _ 0 _ _ _ hbx).trans rfl
  have z1 := (cell_of_row W0 cb 1 _ _ _ (hC.below hb0 hcb)).trans rfl
  have t0 := (hb0.cell (p := ⟨tb, 0, none⟩) htb).trans hT
  have eg : ∀ args w, (callFunc 65 args).run Tryz.prog w = .ok (.enter 65 args) w := enters_of Tryz.func65 (by kernel_rfl) rfl
  have HH := Lib.hid (hasZo_any b.zones zv 65 #[.pointer (some ⟨w.heap.size, 0, none⟩)] (fun y => decide (y.nm = nm)) W0 eg ((hz.below hb0 (Nat.le_refl _)).mono hb0.size) (fun W hb y hy => lkZoF_any y w.heap.size nm W ((hb.cell (p := ⟨w.heap.size, 0, none⟩) hl0).trans x0)))
  obtain ⟨H, eH⟩ : ∃ H, isZone b nm = H := ⟨_, rfl⟩
  have eH2 : (b.zones.any fun y => decide (y.nm = nm)) = H := eH
  rw [eH2] at HH
  rw [eH]
  have HEW := Lib.hid eW
  have HB0 := Lib.hid hb0
  have hcb0 : cb < W0.heap.size := by omega
  have htb0 : tb < W0.heap.size := by omega
  clear eW hb0 hC hbx hT hz eH eH2 eg
  go_enter Tryz.func64, Tryz.ntmps64
  go_upto_region 1 with fail
  rw [HEW.out]
  go_wp2_with fail
  refine HH.out.mono ?_
  rintro e w1 ⟨rfl, hb⟩
  have HB1 := Lib.hid hb
  clear hb
  go_wp2_with fail
  go_ret
  exact ⟨rfl, HB0.out.trans (HB1.out.mono HB0.out.size)⟩
set_option maxHeartbeats 2000000 in
theorem lkLink_any (l : List Lk) (v : Value) (nm : ByteArray) (w : World) (hz : RowsAt lkCells 2 w.heap.size w v l) :
    Calls Tryz.prog 66 (#[v, .string nm] ++ #[]) w fun e w' => e = .returned (.bool (isLink l nm)) ∧ Below w.heap.size w w' := by
  obtain ⟨W0, eW⟩ : ∃ W0, w.alloc (.cells #[.string nm] 9) = W0 := ⟨_, rfl⟩
  have hb0 : Below w.heap.size w W0 := by rw [← eW]; exact (Below.refl _ _).alloc (Nat.le_refl _) _
  have hbx : W0.heap[w.heap.size]? = some (.cells #[.string nm] 9 (0, 0)) := by rw [← eW]; exact heap_alloc_new w _
  have hl0 : w.heap.size < W0.heap.size := by rw [← eW]; simp
  have x0 := (cell_of_row W0 _ 0 _ _ _ hbx).trans rfl
  have eg : ∀ args w, (callFunc 68 args).run Tryz.prog w = .ok (.enter 68 args) w := enters_of Tryz.func68 (by kernel_rfl) rfl
  have HH := Lib.hid (hasLk_any l v 68 #[.pointer (some ⟨w.heap.size, 0, none⟩)] (fun y => decide (y.nm = nm)) W0 eg ((hz.below hb0 (Nat.le_refl _)).mono hb0.size) (fun W hb y hy => lkLkF_any y w.heap.size nm W ((hb.cell (p := ⟨w.heap.size, 0, none⟩) hl0).trans x0)))
  obtain ⟨H, eH⟩ : ∃ H, isLink l nm = H := ⟨_, rfl⟩
  have eH2 : (l.any fun y => decide (y.nm = nm)) = H := eH
  rw [eH2] at HH
  rw [eH]
  have HEW := Lib.hid eW
  have HB0 := Lib.hid hb0
  clear eW hb0 hbx hz eH eH2 eg
  go_enter Tryz.func66, Tryz.ntmps66
  go_upto_region 1 with fail
  rw [HEW.out]
  go_wp2_with fail
  refine HH.out.mono ?_
  rintro e w1 ⟨rfl, hb⟩
  have HB1 := Lib.hid hb
  clear hb
  go_wp2_with fail
  go_ret
  exact ⟨rfl, HB0.out.trans (HB1.out.mono HB0.out.size)⟩
theorem linkChk_3 (b : Bk) (be : List Lk) (x : Lk) (h : nameB x.nm = false ∨ nameB x.tg = false) : linkChk b be x = 3 := by unfold linkChk; rw [if_pos h]
theorem linkChk_7 (b : Bk) (be : List Lk) (x : Lk) (h : nameB x.nm = true) (h2 : nameB x.tg = true) (h3 : isZone b x.nm = true ∨ isLink be x.nm = true) : linkChk b be x = 7 := by unfold linkChk; rw [if_neg (by rw [h, h2]; simp), if_pos h3]
theorem linkChk_6 (b : Bk) (be : List Lk) (x : Lk) (h : nameB x.nm = true) (h2 : nameB x.tg = true) (h3 : ¬ (isZone b x.nm = true ∨ isLink be x.nm = true)) (h4 : isZone b x.tg = false ∧ isLink b.links x.tg = false) : linkChk b be x = 6 := by unfold linkChk; rw [if_neg (by rw [h, h2]; simp), if_neg h3, if_pos h4]
theorem linkChk_0 (b : Bk) (be : List Lk) (x : Lk) (h : nameB x.nm = true) (h2 : nameB x.tg = true) (h3 : ¬ (isZone b x.nm = true ∨ isLink be x.nm = true)) (h4 : ¬ (isZone b x.tg = false ∧ isLink b.links x.tg = false)) : linkChk b be x = 0 := by unfold linkChk; rw [if_neg (by rw [h, h2]; simp), if_neg h3, if_neg h4]
end Go.Proofs.YtacogloheiendaaGreatDoor
namespace Go.Proofs.YtacogloheiendaaGreatDoor
open Go.RowKit Go.Joins
open Classical
set_option linter.unusedVariables false
set_option linter.unusedSimpArgs false

set_option maxRecDepth 100000 in
set_option maxHeartbeats 8000000 in
theorem link_any (b : Bk) (rv zv lv : Value) (cb k : Nat) (w : World) (hC : ChkBx w cb rv zv lv) (hB : BookAt w.heap.size w rv zv lv b) (hk : k < b.links.length) (hm : MaxLen w) :
    Calls Tryz.prog 34 #[.pointer (some ⟨cb, 0, none⟩), .int .i64 k] w fun e w' => e = .returned (.int .i64 (linkChk b (b.links.take k) b.links[k])) ∧ Below w.heap.size w w' := by
  have hcb : cb < w.heap.size := (Array.getElem?_eq_some_iff.mp hC).1
  have hl := hB.l
  obtain ⟨p, cap, rfl, hlen, hrow⟩ := hl
  obtain ⟨bb, o, rfl, hbl, hcs⟩ := hrow (List.ne_nil_of_length_pos (by omega))
  have hck := hcs k hk
  have hsz := hB.ls b.links[k] (List.getElem_mem hk)
  have HTK := Lib.hid (hB.l.take k (by omega))
  have HLL := Lib.hid hB.l
  obtain ⟨z, ez⟩ : ∃ z, b.links[k] = z := ⟨_, rfl⟩
  rw [ez] at hck hsz ⊢
  obtain ⟨nm, tt⟩ := z
  have c0 := hck 0 _ rfl
  have c1 := hck 1 _ rfl
  simp only at c0 c1
  rw [Nat.add_zero] at c0
  obtain ⟨R, eR⟩ : ∃ R, linkChk b (b.links.take k) ⟨nm, tt⟩ = R := ⟨_, rfl⟩
  have HR3 := Lib.hid (linkChk_3 b (b.links.take k) ⟨nm, tt⟩)
  have HR7 := Lib.hid (linkChk_7 b (b.links.take k) ⟨nm, tt⟩)
  have HR6 := Lib.hid (linkChk_6 b (b.links.take k) ⟨nm, tt⟩)
  have HR0 := Lib.hid (linkChk_0 b (b.links.take k) ⟨nm, tt⟩)
  rw [eR] at HR3 HR7 HR6 HR0 ⊢
  obtain ⟨V0, eV⟩ : ∃ V0, w.alloc (.cells #[.pointer (some ⟨cb, 0, none⟩)] 89) = V0 := ⟨_, rfl⟩
  have hv0 : Below w.heap.size w V0 := by rw [← eV]; exact (Below.refl _ _).alloc (Nat.le_refl _) _
  have hvx : V0.heap[w.heap.size]? = some (.cells #[.pointer (some ⟨cb, 0, none⟩)] 89 (0, 0)) := by rw [← eV]; exact heap_alloc_new w _
  have hvs : V0.heap.size = w.heap.size + 1 := by rw [← eV]; simp
  have t0 : V0.cell? ⟨w.heap.size, 0, none⟩ = some (.pointer (some ⟨cb, 0, none⟩)) := (cell_of_row V0 _ 0 _ _ _ hvx).trans rfl
  have c0 := (hv0.cell (p := ⟨bb, o + k * 2, none⟩) hbl).trans c0
  have c1 := (hv0.cell (p := ⟨bb, o + k * 2 + 1, none⟩) hbl).trans c1
  have y2 := (cell_of_row V0 cb 2 _ _ _ (hC.below hv0 hcb)).trans rfl
  obtain ⟨W0, eW⟩ : ∃ W0, V0.alloc (.cells #[.string nm, .string tt] 66) = W0 := ⟨_, rfl⟩
  have hw0 : Below V0.heap.size V0 W0 := by rw [← eW]; exact (Below.refl _ _).alloc (Nat.le_refl _) _
  have hbx : W0.heap[V0.heap.size]? = some (.cells #[.string nm, .string tt] 66 (0, 0)) := by rw [← eW]; exact heap_alloc_new V0 _
  have hws : W0.heap.size = V0.heap.size + 1 := by rw [← eW]; simp
  have hb0 : Below w.heap.size w W0 := hv0.trans (hw0.mono hv0.size)
  have x0 := (cell_of_row W0 _ 0 _ _ _ hbx).trans rfl
  have x1 := (cell_of_row W0 _ 1 _ _ _ hbx).trans rfl
  have t0w := (hw0.cell (p := ⟨w.heap.size, 0, none⟩) (by show w.heap.size < _; omega)).trans t0
  have y2w := (cell_of_row W0 cb 2 _ _ _ (hC.below hb0 hcb)).trans rfl
  rw [hvs] at x0 x1
  have hl1 : w.heap.size + 1 < W0.heap.size := by omega
  have hl2 : w.heap.size < W0.heap.size := by omega
  have hl3 : cb < W0.heap.size := by omega
  have KS : Hid (∀ wx, Below W0.heap.size W0 wx → (Below W0.heap.size W0 wx ∧ wx.cell? ⟨w.heap.size, 0, none⟩ = some (.pointer (some ⟨cb, 0, none⟩)) ∧ wx.cell? ⟨w.heap.size + 1, 0, none⟩ = some (.string nm) ∧ wx.cell? ⟨w.heap.size + 1, 1, none⟩ = some (.string tt) ∧ wx.cell? ⟨cb, 2, none⟩ = some (.slice (some ⟨bb, o, none⟩) b.links.length cap))) := by
    show ∀ wx, Below W0.heap.size W0 wx → _
    exact fun wx hb => ⟨hb, (hb.cell (p := ⟨w.heap.size, 0, none⟩) hl2).trans t0w, (hb.cell (p := ⟨w.heap.size + 1, 0, none⟩) hl1).trans x0, (hb.cell (p := ⟨w.heap.size + 1, 1, none⟩) hl1).trans x1, (hb.cell (p := ⟨cb, 2, none⟩) hl3).trans y2w⟩
  have KR : Hid (∀ wx, (Below W0.heap.size W0 wx ∧ wx.cell? ⟨w.heap.size, 0, none⟩ = some (.pointer (some ⟨cb, 0, none⟩)) ∧ wx.cell? ⟨w.heap.size + 1, 0, none⟩ = some (.string nm) ∧ wx.cell? ⟨w.heap.size + 1, 1, none⟩ = some (.string tt) ∧ wx.cell? ⟨cb, 2, none⟩ = some (.slice (some ⟨bb, o, none⟩) b.links.length cap)) → Below W0.heap.size W0 wx) := by
    show ∀ wx, _ → Below W0.heap.size W0 wx
    exact fun wx h => h.1
  have hm0 := hm.below hb0
  have HZA := Lib.hid (fun (n : ByteArray) (W : World) (hb : Below W0.heap.size W0 W) => lkZone_any b _ zv _ cb w.heap.size n W ((hC.below hb0 hcb).below hb hl3) ((hb.cell (p := ⟨w.heap.size, 0, none⟩) hl2).trans t0w) (((hB.z.below hb0 (Nat.le_refl _)).below hb hb0.size).mono (Nat.le_trans hb0.size hb.size)))
  have HLK := Lib.hid (fun (n : ByteArray) (W : World) (hb : Below W0.heap.size W0 W) => lkLink_any (b.links.take k) _ n W (((HTK.out.below hb0 (Nat.le_refl _)).below hb hb0.size).mono (Nat.le_trans hb0.size hb.size)))
  have HLA := Lib.hid (fun (n : ByteArray) (W : World) (hb : Below W0.heap.size W0 W) => lkLink_any b.links _ n W (((HLL.out.below hb0 (Nat.le_refl _)).below hb hb0.size).mono (Nat.le_trans hb0.size hb.size)))
  have HNM := Lib.hid (fun W => isName_any nm W (by have := hsz.1; simp only at this; unfold maxLen; omega))
  have HNT := Lib.hid (fun W => isName_any tt W (by have := hsz.2; simp only at this; unfold maxLen; omega))
  have HEV := Lib.hid eV
  have HEW := Lib.hid eW
  have HB0 := Lib.hid hb0
  have kz : (k : Int) < (b.links.length : Int) := by omega
  have kz2 : (k : Int) ≤ (cap : Int) := by omega
  have hvlt : w.heap.size < V0.heap.size := by omega
  have hcv : cb < V0.heap.size := by omega
  have HVS := Lib.hid hvs
  clear eV eW hb0 hv0 hw0 hC hm hcs hck hrow hB hsz hbx ez eR HTK HLL hvx hm0 t0w y2w hws
  go_enter Tryz.func34, Tryz.ntmps34
  go_upto_region 1 with fail
  rw [HEV.out]
  go_upto_region 4 with fail
  rw [HEW.out]
  obtain ⟨N, eN⟩ : ∃ N, nameB nm = N := ⟨_, rfl⟩
  obtain ⟨M, eM⟩ : ∃ M, nameB tt = M := ⟨_, rfl⟩
  rw [eN] at HNM
  rw [eM] at HNT
  have HN := Lib.hid eN
  have HM := Lib.hid eM
  clear eN eM
  cases N with
  | false =>
    have HRA := Lib.hid (HR3.out (Or.inl HN.out))
    go_wp2_with fail
    refine (HNM.out _).mono ?_
    rintro e w' ⟨rfl, rfl⟩
    go_wp2_with fail
    go_ret
    exact ⟨ret_E HRA.out.symm, HB0.out⟩
  | true =>
  cases M with
  | false =>
    have HRA := Lib.hid (HR3.out (Or.inr HM.out))
    go_wp2_with fail
    refine (HNM.out _).mono ?_
    rintro e w' ⟨rfl, rfl⟩
    go_wp2_with fail
    refine (HNT.out _).mono ?_
    rintro e w' ⟨rfl, rfl⟩
    go_wp2_with fail
    go_ret
    exact ⟨ret_E HRA.out.symm, HB0.out⟩
  | true =>
  go_wp2_with fail
  refine (HNM.out _).mono ?_
  rintro e w' ⟨rfl, rfl⟩
  go_wp2_with fail
  refine (HNT.out _).mono ?_
  rintro e w' ⟨rfl, rfl⟩
  clear HNM HNT HR3
  have H1 := Lib.hid (HZA.out nm)
  have H2 := Lib.hid (HLK.out nm)
  have H3 := Lib.hid (HZA.out tt)
  have H4 := Lib.hid (HLA.out tt)
  have HR7' := Lib.hid (HR7.out HN.out HM.out)
  have HR6' := Lib.hid (HR6.out HN.out HM.out)
  have HR0' := Lib.hid (HR0.out HN.out HM.out)
  clear HZA HLK HLA HR7 HR6 HR0
  change Hid (isZone b nm = true ∨ isLink (b.links.take k) nm = true → R = 7) at HR7'
  change Hid (¬ (isZone b nm = true ∨ isLink (b.links.take k) nm = true) → isZone b tt = false ∧ isLink b.links tt = false → R = 6) at HR6'
  change Hid (¬ (isZone b nm = true ∨ isLink (b.links.take k) nm = true) → ¬ (isZone b tt = false ∧ isLink b.links tt = false) → R = 0) at HR0'
  obtain ⟨A, eA⟩ : ∃ A, isZone b nm = A := ⟨_, rfl⟩
  obtain ⟨B, eB⟩ : ∃ B, isLink (b.links.take k) nm = B := ⟨_, rfl⟩
  obtain ⟨C, eC⟩ : ∃ C, isZone b tt = C := ⟨_, rfl⟩
  obtain ⟨D, eD⟩ : ∃ D, isLink b.links tt = D := ⟨_, rfl⟩
  rw [eA] at H1
  rw [eB] at H2
  rw [eC] at H3
  rw [eD] at H4
  rw [eA, eB] at HR7'
  rw [eA, eB, eC, eD] at HR6' HR0'
  clear eA eB eC eD
  have hb00 : Below W0.heap.size W0 W0 := Below.refl _ _
  have HB00 := Lib.hid hb00
  clear hb00
  clear x0 x1 y2 t0 c0 c1
  go_upto_region 6 with fail
  go_cut [28] (fun s28 wx => s28 = .bool (A || B) ∧ Below W0.heap.size W0 wx)
  case first =>
    cases A with
    | true =>
      refine wp_region_held_drew (S := fun wx => Below W0.heap.size W0 wx ∧ wx.cell? ⟨w.heap.size, 0, none⟩ = some (.pointer (some ⟨cb, 0, none⟩)) ∧ wx.cell? ⟨w.heap.size + 1, 0, none⟩ = some (.string nm) ∧ wx.cell? ⟨w.heap.size + 1, 1, none⟩ = some (.string tt) ∧ wx.cell? ⟨cb, 2, none⟩ = some (.slice (some ⟨bb, o, none⟩) b.links.length cap)) (by kernel_rfl) (KS.out _ (by first | exact HB00.out | exact HB00.out.drew)) (fun hHeld => ?_)
      refine' wpAnyH_take (i := 0) (oi := _) (v := _) ?zhi0 (by kernel_rfl) ?zhf0 ?zhr0 ?zhQ0 ?zhy0 (by assumption) ?zrest0
      case zhi0 => (simp only [List.getElem?_toArray, List.getElem?_cons_zero, List.getElem?_cons_succ]; try rfl)
      case zhf0 => kernel_rfl
      case zhr0 => kernel_rfl
      case zhQ0 => exact fun _ _ _ h => h
      case zhy0 => (refine Or.inl ⟨by rfl, ?_⟩; intro w hSw; (try dsimp only at hSw); go_simp; (try with_reducible rfl))
      try simp only [Act.put, List.setIfInBounds_toArray, List.set_cons_zero, List.set_cons_succ]
      refine' wpAnyH_take (i := 1) (oi := _) (v := _) ?zhi1 (by kernel_rfl) ?zhf1 ?zhr1 ?zhQ1 ?zhy1 (by assumption) ?zrest1
      case zhi1 => (simp only [List.getElem?_toArray, List.getElem?_cons_zero, List.getElem?_cons_succ]; try rfl)
      case zhf1 => kernel_rfl
      case zhr1 => kernel_rfl
      case zhQ1 => exact fun _ _ _ h => h
      case zhy1 => (refine Or.inl ⟨by rfl, ?_⟩; intro w hSw; (try dsimp only at hSw); go_simp; (try with_reducible rfl))
      try simp only [Act.put, List.setIfInBounds_toArray, List.set_cons_zero, List.set_cons_succ]
      refine' wpAnyH_take (i := 2) (oi := _) (v := _) ?zhi2 (by kernel_rfl) ?zhf2 ?zhr2 ?zhQ2 ?zhy2 (by assumption) ?zrest2
      case zhi2 => (simp only [List.getElem?_toArray, List.getElem?_cons_zero, List.getElem?_cons_succ]; try rfl)
      case zhf2 => kernel_rfl
      case zhr2 => kernel_rfl
      case zhQ2 => exact fun _ _ _ h => h
      case zhy2 => (refine Or.inl ⟨by rfl, ?_⟩; intro w hSw; (try dsimp only at hSw); go_simp; (try with_reducible rfl))
      try simp only [Act.put, List.setIfInBounds_toArray, List.set_cons_zero, List.set_cons_succ]
      refine wpAnyH_ready (rs := [3]) (by kernel_rfl) (by simp) ?_
      refine AllReadyH.cons (by simp only [List.getElem?_toArray, List.getElem?_cons_zero, List.getElem?_cons_succ]; rfl) (fun K hK => ?_) AllReadyH.nil
      go_simp
      go_at_call 64
      refine (H1.out _ (KR.out _ (by assumption))).mono ?_
      rintro e w2 ⟨rfl, hb2⟩
      have hB2 := ((KR.out _ (by assumption)).trans (hb2.mono (KR.out _ (by assumption)).size))
      clear hb2
      try go_wp2_with fail
      refine hK.out _ _ (KS.out _ hB2) (fun hHeld2 => ?_)
      clear hK K
      try simp only [Act.put, List.setIfInBounds_toArray, List.set_cons_zero, List.set_cons_succ]
      refine' wpAnyH_take (i := 4) (oi := _) (v := _) ?zhi4 (by kernel_rfl) ?zhf4 ?zhr4 ?zhQ4 ?zhy4 (by assumption) ?zrest4
      case zhi4 => (simp only [List.getElem?_toArray, List.getElem?_cons_zero, List.getElem?_cons_succ]; try rfl)
      case zhf4 => kernel_rfl
      case zhr4 => kernel_rfl
      case zhQ4 => exact fun _ _ _ h => h
      case zhy4 => (refine Or.inl ⟨by rfl, ?_⟩; intro w hSw; (try dsimp only at hSw); go_simp; (try with_reducible rfl))
      try simp only [Act.put, List.setIfInBounds_toArray, List.set_cons_zero, List.set_cons_succ]
      refine' wpAnyH_take (i := 5) (oi := _) (v := undef) ?zhi5 (by kernel_rfl) ?zhf5 ?zhr5 ?zhQ5 ?zhy5 (by assumption) ?zrest5
      case zhi5 => (simp only [List.getElem?_toArray, List.getElem?_cons_zero, List.getElem?_cons_succ]; try rfl)
      case zhf5 => kernel_rfl
      case zhr5 => kernel_rfl
      case zhQ5 => exact fun _ _ _ h => h
      case zhy5 => exact Or.inr ⟨by rfl, rfl⟩
      try simp only [Act.put, List.setIfInBounds_toArray, List.set_cons_zero, List.set_cons_succ]
      refine' wpAnyH_take (i := 6) (oi := _) (v := undef) ?zhi6 (by kernel_rfl) ?zhf6 ?zhr6 ?zhQ6 ?zhy6 (by assumption) ?zrest6
      case zhi6 => (simp only [List.getElem?_toArray, List.getElem?_cons_zero, List.getElem?_cons_succ]; try rfl)
      case zhf6 => kernel_rfl
      case zhr6 => kernel_rfl
      case zhQ6 => exact fun _ _ _ h => h
      case zhy6 => exact Or.inr ⟨by rfl, rfl⟩
      try simp only [Act.put, List.setIfInBounds_toArray, List.set_cons_zero, List.set_cons_succ]
      refine' wpAnyH_take (i := 7) (oi := _) (v := undef) ?zhi7 (by kernel_rfl) ?zhf7 ?zhr7 ?zhQ7 ?zhy7 (by assumption) ?zrest7
      case zhi7 => (simp only [List.getElem?_toArray, List.getElem?_cons_zero, List.getElem?_cons_succ]; try rfl)
      case zhf7 => kernel_rfl
      case zhr7 => kernel_rfl
      case zhQ7 => exact fun _ _ _ h => h
      case zhy7 => exact Or.inr ⟨by rfl, rfl⟩
      try simp only [Act.put, List.setIfInBounds_toArray, List.set_cons_zero, List.set_cons_succ]
      refine' wpAnyH_take (i := 8) (oi := _) (v := undef) ?zhi8 (by kernel_rfl) ?zhf8 ?zhr8 ?zhQ8 ?zhy8 (by assumption) ?zrest8
      case zhi8 => (simp only [List.getElem?_toArray, List.getElem?_cons_zero, List.getElem?_cons_succ]; try rfl)
      case zhf8 => kernel_rfl
      case zhr8 => kernel_rfl
      case zhQ8 => exact fun _ _ _ h => h
      case zhy8 => exact Or.inr ⟨by rfl, rfl⟩
      try simp only [Act.put, List.setIfInBounds_toArray, List.set_cons_zero, List.set_cons_succ]
      refine' wpAnyH_take (i := 9) (oi := _) (v := undef) ?zhi9 (by kernel_rfl) ?zhf9 ?zhr9 ?zhQ9 ?zhy9 (by assumption) ?zrest9
      case zhi9 => (simp only [List.getElem?_toArray, List.getElem?_cons_zero, List.getElem?_cons_succ]; try rfl)
      case zhf9 => kernel_rfl
      case zhr9 => kernel_rfl
      case zhQ9 => exact fun _ _ _ h => h
      case zhy9 => exact Or.inr ⟨by rfl, rfl⟩
      try simp only [Act.put, List.setIfInBounds_toArray, List.set_cons_zero, List.set_cons_succ]
      refine' wpAnyH_take (i := 10) (oi := _) (v := undef) ?zhi10 (by kernel_rfl) ?zhf10 ?zhr10 ?zhQ10 ?zhy10 (by assumption) ?zrest10
      case zhi10 => (simp only [List.getElem?_toArray, List.getElem?_cons_zero, List.getElem?_cons_succ]; try rfl)
      case zhf10 => kernel_rfl
      case zhr10 => kernel_rfl
      case zhQ10 => exact fun _ _ _ h => h
      case zhy10 => exact Or.inr ⟨by rfl, rfl⟩
      try simp only [Act.put, List.setIfInBounds_toArray, List.set_cons_zero, List.set_cons_succ]
      refine' wpAnyH_take (i := 11) (oi := _) (v := undef) ?zhi11 (by kernel_rfl) ?zhf11 ?zhr11 ?zhQ11 ?zhy11 (by assumption) ?zrest11
      case zhi11 => (simp only [List.getElem?_toArray, List.getElem?_cons_zero, List.getElem?_cons_succ]; try rfl)
      case zhf11 => kernel_rfl
      case zhr11 => kernel_rfl
      case zhQ11 => exact fun _ _ _ h => h
      case zhy11 => exact Or.inr ⟨by rfl, rfl⟩
      try simp only [Act.put, List.setIfInBounds_toArray, List.set_cons_zero, List.set_cons_succ]
      refine' wpAnyH_take (i := 12) (oi := _) (v := undef) ?zhi12 (by kernel_rfl) ?zhf12 ?zhr12 ?zhQ12 ?zhy12 (by assumption) ?zrest12
      case zhi12 => (simp only [List.getElem?_toArray, List.getElem?_cons_zero, List.getElem?_cons_succ]; try rfl)
      case zhf12 => kernel_rfl
      case zhr12 => kernel_rfl
      case zhQ12 => exact fun _ _ _ h => h
      case zhy12 => exact Or.inr ⟨by rfl, rfl⟩
      try simp only [Act.put, List.setIfInBounds_toArray, List.set_cons_zero, List.set_cons_succ]
      refine' wpAnyH_take (i := 13) (oi := _) (v := undef) ?zhi13 (by kernel_rfl) ?zhf13 ?zhr13 ?zhQ13 ?zhy13 (by assumption) ?zrest13
      case zhi13 => (simp only [List.getElem?_toArray, List.getElem?_cons_zero, List.getElem?_cons_succ]; try rfl)
      case zhf13 => kernel_rfl
      case zhr13 => kernel_rfl
      case zhQ13 => exact fun _ _ _ h => h
      case zhy13 => exact Or.inr ⟨by rfl, rfl⟩
      try simp only [Act.put, List.setIfInBounds_toArray, List.set_cons_zero, List.set_cons_succ]
      refine' wpAnyH_take (i := 14) (oi := _) (v := undef) ?zhi14 (by kernel_rfl) ?zhf14 ?zhr14 ?zhQ14 ?zhy14 (by assumption) ?zrest14
      case zhi14 => (simp only [List.getElem?_toArray, List.getElem?_cons_zero, List.getElem?_cons_succ]; try rfl)
      case zhf14 => kernel_rfl
      case zhr14 => kernel_rfl
      case zhQ14 => exact fun _ _ _ h => h
      case zhy14 => exact Or.inr ⟨by rfl, rfl⟩
      try simp only [Act.put, List.setIfInBounds_toArray, List.set_cons_zero, List.set_cons_succ]
      refine' wpAnyH_take (i := 15) (oi := _) (v := undef) ?zhi15 (by kernel_rfl) ?zhf15 ?zhr15 ?zhQ15 ?zhy15 (by assumption) ?zrest15
      case zhi15 => (simp only [List.getElem?_toArray, List.getElem?_cons_zero, List.getElem?_cons_succ]; try rfl)
      case zhf15 => kernel_rfl
      case zhr15 => kernel_rfl
      case zhQ15 => exact fun _ _ _ h => h
      case zhy15 => exact Or.inr ⟨by rfl, rfl⟩
      try simp only [Act.put, List.setIfInBounds_toArray, List.set_cons_zero, List.set_cons_succ]
      refine' wpAnyH_take (i := 16) (oi := _) (v := _) ?zhi16 (by kernel_rfl) ?zhf16 ?zhr16 ?zhQ16 ?zhy16 (by assumption) ?zrest16
      case zhi16 => (simp only [List.getElem?_toArray, List.getElem?_cons_zero, List.getElem?_cons_succ]; try rfl)
      case zhf16 => kernel_rfl
      case zhr16 => kernel_rfl
      case zhQ16 => exact fun _ _ _ h => h
      case zhy16 => (refine Or.inl ⟨by rfl, ?_⟩; intro w hSw; (try dsimp only at hSw); go_simp; (try with_reducible rfl))
      try simp only [Act.put, List.setIfInBounds_toArray, List.set_cons_zero, List.set_cons_succ]
      refine' wpAnyH_take (i := 17) (oi := _) (v := _) ?zhi17 (by kernel_rfl) ?zhf17 ?zhr17 ?zhQ17 ?zhy17 (by assumption) ?zrest17
      case zhi17 => (simp only [List.getElem?_toArray, List.getElem?_cons_zero, List.getElem?_cons_succ]; try rfl)
      case zhf17 => kernel_rfl
      case zhr17 => kernel_rfl
      case zhQ17 => exact fun _ _ _ h => h
      case zhy17 => (refine Or.inl ⟨by rfl, ?_⟩; intro w hSw; (try dsimp only at hSw); go_simp; (try with_reducible rfl))
      try simp only [Act.put, List.setIfInBounds_toArray, List.set_cons_zero, List.set_cons_succ]
      refine wpAnyH_done (by kernel_rfl) ?_ _
      all_goals go_wp2_with fail
      all_goals go_meet
      all_goals exact ⟨rfl, KR.out _ (by assumption)⟩
    | false =>
      go_region_held3 (fun wx => Below W0.heap.size W0 wx ∧ wx.cell? ⟨w.heap.size, 0, none⟩ = some (.pointer (some ⟨cb, 0, none⟩)) ∧ wx.cell? ⟨w.heap.size + 1, 0, none⟩ = some (.string nm) ∧ wx.cell? ⟨w.heap.size + 1, 1, none⟩ = some (.string tt) ∧ wx.cell? ⟨cb, 2, none⟩ = some (.slice (some ⟨bb, o, none⟩) b.links.length cap)) ((refine KS.out _ ?_; repeat (first | (with_reducible assumption) | (with_reducible exact HB00.out) | (with_reducible exact Below.refl _ _) | (with_reducible refine Below.drew ?_))))
        (first
          | (go_at_call 64; refine (H1.out _ (KR.out _ (by assumption))).mono ?_; rintro e w2 ⟨rfl, hb2⟩; have hB2 := ((KR.out _ (by assumption)).trans (hb2.mono (KR.out _ (by assumption)).size)); clear hb2)
          | (go_at_call 66; refine (H2.out _ (KR.out _ (by assumption))).mono ?_; rintro e w2 ⟨rfl, hb2⟩; have hB2 := ((KR.out _ (by assumption)).trans (hb2.mono (KR.out _ (by assumption)).size)); clear hb2))
      all_goals go_wp2_with fail
      all_goals go_meet
      all_goals exact ⟨rfl, KR.out _ (by assumption)⟩
  case rest =>
    obtain ⟨rfl, hbc⟩ := hcut
    rename World => wd
    have HBC := Lib.hid hbc
    clear hbc
    obtain ⟨AB, eAB⟩ : ∃ AB, (A || B) = AB := ⟨_, rfl⟩
    rw [eAB]
    have hAB : (A = true ∨ B = true) ↔ AB = true := by rw [← eAB]; simp
    rw [hAB] at HR7' HR6' HR0'
    clear eAB hAB H1 H2
    cases AB with
    | true =>
      have HRA := Lib.hid (HR7'.out rfl)
      go_wp2_with fail
      go_ret
      exact ⟨ret_E HRA.out.symm, HB0.out.trans (HBC.out.mono HB0.out.size)⟩
    | false =>
      have HR6z := Lib.hid (HR6'.out (by simp))
      have HR0z := Lib.hid (HR0'.out (by simp))
      clear HR7' HR6' HR0'
      go_upto_region 8 with fail
      go_cut [46] (fun s46 wx => s46 = .bool (!C && !D) ∧ Below W0.heap.size W0 wx)
      case first =>
        cases C with
        | true =>
          refine wp_region_held_drew (S := fun wx => Below W0.heap.size W0 wx ∧ wx.cell? ⟨w.heap.size, 0, none⟩ = some (.pointer (some ⟨cb, 0, none⟩)) ∧ wx.cell? ⟨w.heap.size + 1, 0, none⟩ = some (.string nm) ∧ wx.cell? ⟨w.heap.size + 1, 1, none⟩ = some (.string tt) ∧ wx.cell? ⟨cb, 2, none⟩ = some (.slice (some ⟨bb, o, none⟩) b.links.length cap)) (by kernel_rfl) (KS.out _ (by first | exact HBC.out | exact HBC.out.drew)) (fun hHeld => ?_)
          refine' wpAnyH_take (i := 0) (oi := _) (v := _) ?yhi0 (by kernel_rfl) ?yhf0 ?yhr0 ?yhQ0 ?yhy0 (by assumption) ?yrest0
          case yhi0 => (simp only [List.getElem?_toArray, List.getElem?_cons_zero, List.getElem?_cons_succ]; try rfl)
          case yhf0 => kernel_rfl
          case yhr0 => kernel_rfl
          case yhQ0 => exact fun _ _ _ h => h
          case yhy0 => (refine Or.inl ⟨by rfl, ?_⟩; intro w hSw; (try dsimp only at hSw); go_simp; (try with_reducible rfl))
          try simp only [Act.put, List.setIfInBounds_toArray, List.set_cons_zero, List.set_cons_succ]
          refine' wpAnyH_take (i := 1) (oi := _) (v := _) ?yhi1 (by kernel_rfl) ?yhf1 ?yhr1 ?yhQ1 ?yhy1 (by assumption) ?yrest1
          case yhi1 => (simp only [List.getElem?_toArray, List.getElem?_cons_zero, List.getElem?_cons_succ]; try rfl)
          case yhf1 => kernel_rfl
          case yhr1 => kernel_rfl
          case yhQ1 => exact fun _ _ _ h => h
          case yhy1 => (refine Or.inl ⟨by rfl, ?_⟩; intro w hSw; (try dsimp only at hSw); go_simp; (try with_reducible rfl))
          try simp only [Act.put, List.setIfInBounds_toArray, List.set_cons_zero, List.set_cons_succ]
          refine' wpAnyH_take (i := 2) (oi := _) (v := _) ?yhi2 (by kernel_rfl) ?yhf2 ?yhr2 ?yhQ2 ?yhy2 (by assumption) ?yrest2
          case yhi2 => (simp only [List.getElem?_toArray, List.getElem?_cons_zero, List.getElem?_cons_succ]; try rfl)
          case yhf2 => kernel_rfl
          case yhr2 => kernel_rfl
          case yhQ2 => exact fun _ _ _ h => h
          case yhy2 => (refine Or.inl ⟨by rfl, ?_⟩; intro w hSw; (try dsimp only at hSw); go_simp; (try with_reducible rfl))
          try simp only [Act.put, List.setIfInBounds_toArray, List.set_cons_zero, List.set_cons_succ]
          refine wpAnyH_ready (rs := [3]) (by kernel_rfl) (by simp) ?_
          refine AllReadyH.cons (by simp only [List.getElem?_toArray, List.getElem?_cons_zero, List.getElem?_cons_succ]; rfl) (fun K hK => ?_) AllReadyH.nil
          go_simp
          go_at_call 64
          refine (H3.out _ (KR.out _ (by assumption))).mono ?_
          rintro e w2 ⟨rfl, hb2⟩
          have hB2 := ((KR.out _ (by assumption)).trans (hb2.mono (KR.out _ (by assumption)).size))
          clear hb2
          try go_wp2_with fail
          refine hK.out _ _ (KS.out _ hB2) (fun hHeld2 => ?_)
          clear hK K
          try simp only [Act.put, List.setIfInBounds_toArray, List.set_cons_zero, List.set_cons_succ]
          refine' wpAnyH_take (i := 4) (oi := _) (v := _) ?yhi4 (by kernel_rfl) ?yhf4 ?yhr4 ?yhQ4 ?yhy4 (by assumption) ?yrest4
          case yhi4 => (simp only [List.getElem?_toArray, List.getElem?_cons_zero, List.getElem?_cons_succ]; try rfl)
          case yhf4 => kernel_rfl
          case yhr4 => kernel_rfl
          case yhQ4 => exact fun _ _ _ h => h
          case yhy4 => (refine Or.inl ⟨by rfl, ?_⟩; intro w hSw; (try dsimp only at hSw); go_simp; (try with_reducible rfl))
          try simp only [Act.put, List.setIfInBounds_toArray, List.set_cons_zero, List.set_cons_succ]
          refine' wpAnyH_take (i := 5) (oi := _) (v := _) ?yhi5 (by kernel_rfl) ?yhf5 ?yhr5 ?yhQ5 ?yhy5 (by assumption) ?yrest5
          case yhi5 => (simp only [List.getElem?_toArray, List.getElem?_cons_zero, List.getElem?_cons_succ]; try rfl)
          case yhf5 => kernel_rfl
          case yhr5 => kernel_rfl
          case yhQ5 => exact fun _ _ _ h => h
          case yhy5 => (refine Or.inl ⟨by rfl, ?_⟩; intro w hSw; (try dsimp only at hSw); go_simp; (try with_reducible rfl))
          try simp only [Act.put, List.setIfInBounds_toArray, List.set_cons_zero, List.set_cons_succ]
          refine' wpAnyH_take (i := 6) (oi := _) (v := undef) ?yhi6 (by kernel_rfl) ?yhf6 ?yhr6 ?yhQ6 ?yhy6 (by assumption) ?yrest6
          case yhi6 => (simp only [List.getElem?_toArray, List.getElem?_cons_zero, List.getElem?_cons_succ]; try rfl)
          case yhf6 => kernel_rfl
          case yhr6 => kernel_rfl
          case yhQ6 => exact fun _ _ _ h => h
          case yhy6 => exact Or.inr ⟨by rfl, rfl⟩
          try simp only [Act.put, List.setIfInBounds_toArray, List.set_cons_zero, List.set_cons_succ]
          refine' wpAnyH_take (i := 7) (oi := _) (v := undef) ?yhi7 (by kernel_rfl) ?yhf7 ?yhr7 ?yhQ7 ?yhy7 (by assumption) ?yrest7
          case yhi7 => (simp only [List.getElem?_toArray, List.getElem?_cons_zero, List.getElem?_cons_succ]; try rfl)
          case yhf7 => kernel_rfl
          case yhr7 => kernel_rfl
          case yhQ7 => exact fun _ _ _ h => h
          case yhy7 => exact Or.inr ⟨by rfl, rfl⟩
          try simp only [Act.put, List.setIfInBounds_toArray, List.set_cons_zero, List.set_cons_succ]
          refine' wpAnyH_take (i := 8) (oi := _) (v := undef) ?yhi8 (by kernel_rfl) ?yhf8 ?yhr8 ?yhQ8 ?yhy8 (by assumption) ?yrest8
          case yhi8 => (simp only [List.getElem?_toArray, List.getElem?_cons_zero, List.getElem?_cons_succ]; try rfl)
          case yhf8 => kernel_rfl
          case yhr8 => kernel_rfl
          case yhQ8 => exact fun _ _ _ h => h
          case yhy8 => exact Or.inr ⟨by rfl, rfl⟩
          try simp only [Act.put, List.setIfInBounds_toArray, List.set_cons_zero, List.set_cons_succ]
          refine' wpAnyH_take (i := 9) (oi := _) (v := undef) ?yhi9 (by kernel_rfl) ?yhf9 ?yhr9 ?yhQ9 ?yhy9 (by assumption) ?yrest9
          case yhi9 => (simp only [List.getElem?_toArray, List.getElem?_cons_zero, List.getElem?_cons_succ]; try rfl)
          case yhf9 => kernel_rfl
          case yhr9 => kernel_rfl
          case yhQ9 => exact fun _ _ _ h => h
          case yhy9 => exact Or.inr ⟨by rfl, rfl⟩
          try simp only [Act.put, List.setIfInBounds_toArray, List.set_cons_zero, List.set_cons_succ]
          refine' wpAnyH_take (i := 10) (oi := _) (v := undef) ?yhi10 (by kernel_rfl) ?yhf10 ?yhr10 ?yhQ10 ?yhy10 (by assumption) ?yrest10
          case yhi10 => (simp only [List.getElem?_toArray, List.getElem?_cons_zero, List.getElem?_cons_succ]; try rfl)
          case yhf10 => kernel_rfl
          case yhr10 => kernel_rfl
          case yhQ10 => exact fun _ _ _ h => h
          case yhy10 => exact Or.inr ⟨by rfl, rfl⟩
          try simp only [Act.put, List.setIfInBounds_toArray, List.set_cons_zero, List.set_cons_succ]
          refine' wpAnyH_take (i := 11) (oi := _) (v := undef) ?yhi11 (by kernel_rfl) ?yhf11 ?yhr11 ?yhQ11 ?yhy11 (by assumption) ?yrest11
          case yhi11 => (simp only [List.getElem?_toArray, List.getElem?_cons_zero, List.getElem?_cons_succ]; try rfl)
          case yhf11 => kernel_rfl
          case yhr11 => kernel_rfl
          case yhQ11 => exact fun _ _ _ h => h
          case yhy11 => exact Or.inr ⟨by rfl, rfl⟩
          try simp only [Act.put, List.setIfInBounds_toArray, List.set_cons_zero, List.set_cons_succ]
          refine' wpAnyH_take (i := 12) (oi := _) (v := undef) ?yhi12 (by kernel_rfl) ?yhf12 ?yhr12 ?yhQ12 ?yhy12 (by assumption) ?yrest12
          case yhi12 => (simp only [List.getElem?_toArray, List.getElem?_cons_zero, List.getElem?_cons_succ]; try rfl)
          case yhf12 => kernel_rfl
          case yhr12 => kernel_rfl
          case yhQ12 => exact fun _ _ _ h => h
          case yhy12 => exact Or.inr ⟨by rfl, rfl⟩
          try simp only [Act.put, List.setIfInBounds_toArray, List.set_cons_zero, List.set_cons_succ]
          refine' wpAnyH_take (i := 13) (oi := _) (v := undef) ?yhi13 (by kernel_rfl) ?yhf13 ?yhr13 ?yhQ13 ?yhy13 (by assumption) ?yrest13
          case yhi13 => (simp only [List.getElem?_toArray, List.getElem?_cons_zero, List.getElem?_cons_succ]; try rfl)
          case yhf13 => kernel_rfl
          case yhr13 => kernel_rfl
          case yhQ13 => exact fun _ _ _ h => h
          case yhy13 => exact Or.inr ⟨by rfl, rfl⟩
          try simp only [Act.put, List.setIfInBounds_toArray, List.set_cons_zero, List.set_cons_succ]
          refine' wpAnyH_take (i := 14) (oi := _) (v := undef) ?yhi14 (by kernel_rfl) ?yhf14 ?yhr14 ?yhQ14 ?yhy14 (by assumption) ?yrest14
          case yhi14 => (simp only [List.getElem?_toArray, List.getElem?_cons_zero, List.getElem?_cons_succ]; try rfl)
          case yhf14 => kernel_rfl
          case yhr14 => kernel_rfl
          case yhQ14 => exact fun _ _ _ h => h
          case yhy14 => exact Or.inr ⟨by rfl, rfl⟩
          try simp only [Act.put, List.setIfInBounds_toArray, List.set_cons_zero, List.set_cons_succ]
          refine' wpAnyH_take (i := 15) (oi := _) (v := undef) ?yhi15 (by kernel_rfl) ?yhf15 ?yhr15 ?yhQ15 ?yhy15 (by assumption) ?yrest15
          case yhi15 => (simp only [List.getElem?_toArray, List.getElem?_cons_zero, List.getElem?_cons_succ]; try rfl)
          case yhf15 => kernel_rfl
          case yhr15 => kernel_rfl
          case yhQ15 => exact fun _ _ _ h => h
          case yhy15 => exact Or.inr ⟨by rfl, rfl⟩
          try simp only [Act.put, List.setIfInBounds_toArray, List.set_cons_zero, List.set_cons_succ]
          refine' wpAnyH_take (i := 16) (oi := _) (v := _) ?yhi16 (by kernel_rfl) ?yhf16 ?yhr16 ?yhQ16 ?yhy16 (by assumption) ?yrest16
          case yhi16 => (simp only [List.getElem?_toArray, List.getElem?_cons_zero, List.getElem?_cons_succ]; try rfl)
          case yhf16 => kernel_rfl
          case yhr16 => kernel_rfl
          case yhQ16 => exact fun _ _ _ h => h
          case yhy16 => (refine Or.inl ⟨by rfl, ?_⟩; intro w hSw; (try dsimp only at hSw); go_simp; (try with_reducible rfl))
          try simp only [Act.put, List.setIfInBounds_toArray, List.set_cons_zero, List.set_cons_succ]
          refine' wpAnyH_take (i := 17) (oi := _) (v := _) ?yhi17 (by kernel_rfl) ?yhf17 ?yhr17 ?yhQ17 ?yhy17 (by assumption) ?yrest17
          case yhi17 => (simp only [List.getElem?_toArray, List.getElem?_cons_zero, List.getElem?_cons_succ]; try rfl)
          case yhf17 => kernel_rfl
          case yhr17 => kernel_rfl
          case yhQ17 => exact fun _ _ _ h => h
          case yhy17 => (refine Or.inl ⟨by rfl, ?_⟩; intro w hSw; (try dsimp only at hSw); go_simp; (try with_reducible rfl))
          try simp only [Act.put, List.setIfInBounds_toArray, List.set_cons_zero, List.set_cons_succ]
          refine wpAnyH_done (by kernel_rfl) ?_ _
          all_goals go_wp2_with fail
          all_goals go_meet
          all_goals exact ⟨rfl, KR.out _ (by assumption)⟩
        | false =>
          go_region_held3 (fun wx => Below W0.heap.size W0 wx ∧ wx.cell? ⟨w.heap.size, 0, none⟩ = some (.pointer (some ⟨cb, 0, none⟩)) ∧ wx.cell? ⟨w.heap.size + 1, 0, none⟩ = some (.string nm) ∧ wx.cell? ⟨w.heap.size + 1, 1, none⟩ = some (.string tt) ∧ wx.cell? ⟨cb, 2, none⟩ = some (.slice (some ⟨bb, o, none⟩) b.links.length cap)) ((refine KS.out _ ?_; repeat (first | (with_reducible assumption) | (with_reducible exact HBC.out) | (with_reducible exact Below.refl _ _) | (with_reducible refine Below.drew ?_))))
          (first
            | (go_at_call 64; refine (H3.out _ (KR.out _ (by assumption))).mono ?_; rintro e w2 ⟨rfl, hb2⟩; have hB2 := ((KR.out _ (by assumption)).trans (hb2.mono (KR.out _ (by assumption)).size)); clear hb2)
            | (go_at_call 66; refine (H4.out _ (KR.out _ (by assumption))).mono ?_; rintro e w2 ⟨rfl, hb2⟩; have hB2 := ((KR.out _ (by assumption)).trans (hb2.mono (KR.out _ (by assumption)).size)); clear hb2))
          all_goals go_wp2_with fail
          all_goals go_meet
          all_goals exact ⟨rfl, KR.out _ (by assumption)⟩
      case rest =>
        obtain ⟨rfl, hbd⟩ := hcut
        have HBD := Lib.hid hbd
        clear hbd
        obtain ⟨CD, eCD⟩ : ∃ CD, (!C && !D) = CD := ⟨_, rfl⟩
        rw [eCD]
        have hCD : (C = false ∧ D = false) ↔ CD = true := by rw [← eCD]; simp
        rw [hCD] at HR6z HR0z
        clear eCD hCD
        cases CD with
        | true =>
          have HRA := Lib.hid (HR6z.out rfl)
          go_wp2_with fail
          go_ret
          exact ⟨ret_E HRA.out.symm, HB0.out.trans (HBD.out.mono HB0.out.size)⟩
        | false =>
          have HRA := Lib.hid (HR0z.out (by simp))
          go_wp2_with fail
          go_ret
          exact ⟨ret_E HRA.out.symm, HB0.out.trans (HBD.out.mono HB0.out.size)⟩
end Go.Proofs.YtacogloheiendaaGreatDoor
namespace Go.Proofs.YtacogloheiendaaGreatDoor
open Go.RowKit Go.Joins
open Classical
set_option linter.unusedVariables false
set_option linter.unusedSimpArgs false

/-- the three lists' first errors, as the code asks for them -/
def chkZ (b : Bk) (k : Nat) : Int := zoneChk b.rules (b.zones.take k) (b.zones[k]?.getD ⟨⟨#[]⟩, undef, []⟩)
def chkL (b : Bk) (k : Nat) : Int := linkChk b (b.links.take k) (b.links[k]?.getD ⟨⟨#[]⟩, ⟨#[]⟩⟩)
theorem chkZ_at (b : Bk) (k : Nat) (h : k < b.zones.length) : chkZ b k = zoneChk b.rules (b.zones.take k) b.zones[k] := by unfold chkZ; rw [List.getElem?_eq_getElem h]; rfl
theorem chkL_at (b : Bk) (k : Nat) (h : k < b.links.length) : chkL b k = linkChk b (b.links.take k) b.links[k] := by unfold chkL; rw [List.getElem?_eq_getElem h]; rfl
theorem bkChk_2 (b : Bk) (h : 40 < b.rules.length ∨ 20 < b.zones.length ∨ 20 < b.links.length) : bkChk b = 2 := by unfold bkChk; rw [if_pos h]
theorem bkChk_r (b : Bk) (h : ¬ (40 < b.rules.length ∨ 20 < b.zones.length ∨ 20 < b.links.length)) (h1 : firstE ruChk b.rules ≠ 0) : bkChk b = firstE ruChk b.rules := by unfold bkChk; rw [if_neg h, if_pos h1]
theorem bkChk_z (b : Bk) (h : ¬ (40 < b.rules.length ∨ 20 < b.zones.length ∨ 20 < b.links.length)) (h1 : firstE ruChk b.rules = 0) (h2 : firstE (chkZ b) (List.range b.zones.length) ≠ 0) : bkChk b = firstE (chkZ b) (List.range b.zones.length) := by
  unfold bkChk
  rw [if_neg h, if_neg (by rw [h1]; simp)]
  exact if_pos h2
theorem bkChk_l (b : Bk) (h : ¬ (40 < b.rules.length ∨ 20 < b.zones.length ∨ 20 < b.links.length)) (h1 : firstE ruChk b.rules = 0) (h2 : firstE (chkZ b) (List.range b.zones.length) = 0) : bkChk b = firstE (chkL b) (List.range b.links.length) := by
  unfold bkChk
  rw [if_neg h, if_neg (by rw [h1]; simp)]
  exact if_neg (by intro h3; exact h3 h2)
end Go.Proofs.YtacogloheiendaaGreatDoor
namespace Go.Proofs.YtacogloheiendaaGreatDoor
open Go.RowKit Go.Joins
open Classical
set_option linter.unusedVariables false
set_option linter.unusedSimpArgs false

set_option maxRecDepth 100000 in
set_option maxHeartbeats 8000000 in
theorem bkCheck_any (b : Bk) (rv zv lv : Value) (w : World) (hB : BookAt w.heap.size w rv zv lv b) (hm : MaxLen w) (ht : Tab10 w) :
    Calls Tryz.prog 11 #[.agg #[rv, zv, lv]] w fun e w' => e = .returned (.int .i64 (bkChk b)) ∧ Below w.heap.size w w' := by
  have hr := hB.r
  have hz := hB.z
  have hl := hB.l
  obtain ⟨p1, c1, rfl, hlen1, hrow1⟩ := hr
  obtain ⟨p2, c2, rfl, hlen2, hrow2⟩ := hz
  obtain ⟨p3, c3, rfl, hlen3, hrow3⟩ := hl
  obtain ⟨R, eR⟩ : ∃ R, bkChk b = R := ⟨_, rfl⟩
  have HR2 := Lib.hid (bkChk_2 b)
  have HRr := Lib.hid (bkChk_r b)
  have HRz := Lib.hid (bkChk_z b)
  have HRl := Lib.hid (bkChk_l b)
  rw [eR] at HR2 HRr HRz HRl ⊢
  obtain ⟨W0, eW⟩ : ∃ W0, w.alloc (.cells #[.slice p1 b.rules.length c1, .slice p2 b.zones.length c2, .slice p3 b.links.length c3] 32) = W0 := ⟨_, rfl⟩
  have hb0 : Below w.heap.size w W0 := by rw [← eW]; exact (Below.refl _ _).alloc (Nat.le_refl _) _
  have hbx : W0.heap[w.heap.size]? = some (.cells #[.slice p1 b.rules.length c1, .slice p2 b.zones.length c2, .slice p3 b.links.length c3] 32 (0, 0)) := by rw [← eW]; exact heap_alloc_new w _
  have hl0 : w.heap.size < W0.heap.size := by rw [← eW]; simp
  have x0 := (cell_of_row W0 _ 0 _ _ _ hbx).trans rfl
  have x1 := (cell_of_row W0 _ 1 _ _ _ hbx).trans rfl
  have x2 := (cell_of_row W0 _ 2 _ _ _ hbx).trans rfl
  have HEW := Lib.hid eW
  have HB0 := Lib.hid hb0
  have HBX := Lib.hid hbx
  have HBK := Lib.hid (hB.below hb0 (Nat.le_refl _))
  have HM0 := Lib.hid (hm.below hb0)
  have HT0 := Lib.hid (ht.below hb0)
  clear eW hb0 hbx hB hm ht hrow1 hrow2 hrow3 eR
  go_enter Tryz.func11, Tryz.ntmps11
  go_upto_region 1 with fail
  rw [HEW.out]
  by_cases hn1 : 40 < b.rules.length
  · have g1 : (40 : Int) < (b.rules.length : Int) := by omega
    have HRA := Lib.hid (HR2.out (Or.inl hn1))
    go_wp2_with fail
    go_ret
    exact ⟨ret_E HRA.out.symm, HB0.out⟩
  have g1 : ¬ (40 : Int) < (b.rules.length : Int) := by omega
  by_cases hn2 : 20 < b.zones.length
  · have g2 : (20 : Int) < (b.zones.length : Int) := by omega
    have HRA := Lib.hid (HR2.out (Or.inr (Or.inl hn2)))
    go_wp2_with fail
    go_ret
    exact ⟨ret_E HRA.out.symm, HB0.out⟩
  have g2 : ¬ (20 : Int) < (b.zones.length : Int) := by omega
  by_cases hn3 : 20 < b.links.length
  · have g3 : (20 : Int) < (b.links.length : Int) := by omega
    have HRA := Lib.hid (HR2.out (Or.inr (Or.inr hn3)))
    go_wp2_with fail
    go_ret
    exact ⟨ret_E HRA.out.symm, HB0.out⟩
  have g3 : ¬ (20 : Int) < (b.links.length : Int) := by omega
  have hno : ¬ (40 < b.rules.length ∨ 20 < b.zones.length ∨ 20 < b.links.length) := by omega
  have HRr' := Lib.hid (HRr.out hno)
  have HRz' := Lib.hid (HRz.out hno)
  have HRl' := Lib.hid (HRl.out hno)
  clear HRr HRz HRl HR2 hno
  have HX0 := Lib.hid x0
  have HX1 := Lib.hid x1
  have HX2 := Lib.hid x2
  go_wp2_with fail
  go_loopw [30] (fun i wr => ∃ k : Nat, k ≤ b.rules.length ∧ i = .int .i64 k ∧ Hid (Below W0.heap.size W0 wr) ∧ Hid (firstE ruChk b.rules = firstE ruChk (b.rules.drop k))) (fun i _ => b.rules.length - (intOf i).toNat)
  case atStart => exact ⟨0, Nat.zero_le _, rfl, Lib.hid (Below.refl _ _), rfl⟩
  case round =>
    obtain ⟨k, hk, rfl, HB, HF⟩ := hrel
    have hzr := HB.out.size
    have x0 := (HB.out.cell (p := ⟨w.heap.size, 0, none⟩) hl0).trans HX0.out
    have x1 := (HB.out.cell (p := ⟨w.heap.size, 1, none⟩) hl0).trans HX1.out
    have x2 := (HB.out.cell (p := ⟨w.heap.size, 2, none⟩) hl0).trans HX2.out
    have hl1 : w.heap.size < wr.heap.size := by omega
    by_cases hlt : k < b.rules.length
    · obtain ⟨q1, d1, eq1, hlenq, hrow⟩ := HBK.out.r
      injection eq1 with e1 e2 e3
      subst e1; subst e3
      obtain ⟨bb, o, rfl, hbl, hcs⟩ := hrow (List.ne_nil_of_length_pos (by omega))
      have hck := hcs k hlt
      obtain ⟨hs1, hs2⟩ := HBK.out.rs b.rules[k] (List.getElem_mem hlt)
      have HC := Lib.hid (fun W => ruCheck_any b.rules[k] W (by unfold maxLen; omega) (by unfold maxLen; omega))
      obtain ⟨q, eq⟩ : ∃ q, b.rules[k] = q := ⟨_, rfl⟩
      rw [eq] at hck hs1 hs2 HC
      have EQ := Lib.hid eq
      clear eq hcs hrow
      obtain ⟨E, eE⟩ : ∃ E, ruChk q = E := ⟨_, rfl⟩
      rw [eE] at HC
      have HV := Lib.hid eE
      clear eE
      obtain ⟨nm, yf, yt, mo, dk, dw, dn, tm, ck, sv', lt⟩ := q
      have up : ∀ j u, W0.cell? ⟨bb, o + k * 11 + j, none⟩ = some u → wr.cell? ⟨bb, o + k * 11 + j, none⟩ = some u := fun j u h => (HB.out.cell (p := ⟨bb, o + k * 11 + j, none⟩) (show bb < W0.heap.size by omega)).trans h
      have z0 := up 0 _ (hck 0 _ rfl)
      have z1 := up 1 _ (hck 1 _ rfl)
      have z2 := up 2 _ (hck 2 _ rfl)
      have z3 := up 3 _ (hck 3 _ rfl)
      have z4 := up 4 _ (hck 4 _ rfl)
      have z5 := up 5 _ (hck 5 _ rfl)
      have z6 := up 6 _ (hck 6 _ rfl)
      have z7 := up 7 _ (hck 7 _ rfl)
      have z8 := up 8 _ (hck 8 _ rfl)
      have z9 := up 9 _ (hck 9 _ rfl)
      have z10 := up 10 _ (hck 10 _ rfl)
      clear up hck
      rw [Nat.add_zero] at z0
      have HBn := Lib.hid (HB.out.alloc HB.out.size (.cells #[.string nm, .int .i64 yf, .int .i64 yt, .int .i64 mo, .int .i64 dk, .int .i64 dw, .int .i64 dn, .int .i64 tm, .int .i64 ck, .int .i64 sv', .string lt] 59))
      change Hid (∀ W, Calls _ _ #[.agg #[.string nm, .int .i64 yf, .int .i64 yt, .int .i64 mo, .int .i64 dk, .int .i64 dw, .int .i64 dn, .int .i64 tm, .int .i64 ck, .int .i64 sv', .string lt]] W _) at HC
      go_wp2_with fail
      refine (HC.out _).mono ?_
      rintro e w3 ⟨rfl, hb3⟩
      have HB3 := Lib.hid (HBn.out.trans (hb3.mono HBn.out.size))
      clear hb3 HC
      by_cases hE : E = 0
      · subst hE
        go_wp2_with fail
        go_roundw
        case rel => exact ⟨k + 1, by omega, by go_num, HB3, Lib.hid (firstE_drop ruChk b.rules k hlt (by rw [EQ.out]; exact HV.out) HF.out)⟩
        case measure => simp [intOf]; omega
      · have hz : (E == 0) = false := by simpa using hE
        have hz2 : (!E == 0) = true := by rw [hz]; rfl
        have HK2 : Hid (R = E) := by
          show R = E
          have h1 := firstE_hit ruChk b.rules k hlt (by rw [EQ.out, HV.out]; exact hE) HF.out
          rw [HRr'.out (by rw [h1, EQ.out, HV.out]; exact hE), h1, EQ.out, HV.out]
        clear hE
        go_wp2_with fail
        go_ret
        exact ⟨ret_E HK2.out.symm, HB0.out.trans (HB3.out.mono HB0.out.size)⟩
    · have hend := firstE_end ruChk b.rules k (by omega) HF.out
      have hkl : ¬ (k : Int) < (b.rules.length : Int) := by omega
      have HE1 := Lib.hid hend
      clear hend
      obtain ⟨W1, eW1⟩ : ∃ W1, wr.alloc (.cells #[.slice p1 b.rules.length c1, .slice p2 b.zones.length c2, .slice p3 b.links.length c3] 91) = W1 := ⟨_, rfl⟩
      have hb1 : Below W0.heap.size W0 W1 := by rw [← eW1]; exact HB.out.alloc HB.out.size _
      have hcx : W1.heap[wr.heap.size]? = some (.cells #[.slice p1 b.rules.length c1, .slice p2 b.zones.length c2, .slice p3 b.links.length c3] 91 (0, 0)) := by rw [← eW1]; exact heap_alloc_new wr _
      have hl3 : wr.heap.size < W1.heap.size := by rw [← eW1]; simp
      have hl2 : w.heap.size < W1.heap.size := by omega
      have X1 := Lib.hid ((hb1.cell (p := ⟨w.heap.size, 1, none⟩) hl0).trans HX1.out)
      have X2 := Lib.hid ((hb1.cell (p := ⟨w.heap.size, 2, none⟩) hl0).trans HX2.out)
      have hC1 : ChkBx W1 wr.heap.size (.slice p1 b.rules.length c1) (.slice p2 b.zones.length c2) (.slice p3 b.links.length c3) := hcx
      have HC1 := Lib.hid hC1
      have HB1 := Lib.hid hb1
      have HBK1 := Lib.hid (HBK.out.below hb1 (by omega))
      have HW1 := Lib.hid eW1
      have HS1 := Lib.hid hb1.size
      have y1 := X1.out
      have y2 := X2.out
      clear hb1 hcx eW1 hC1
      go_upto_region 11 with fail
      rw [HW1.out]
      go_wp2_with fail
      go_loopw [46] (fun i wr => ∃ k : Nat, k ≤ b.zones.length ∧ i = .int .i64 k ∧ Hid (Below W1.heap.size W1 wr) ∧ Hid (firstE (chkZ b) (List.range b.zones.length) = firstE (chkZ b) ((List.range b.zones.length).drop k))) (fun i _ => b.zones.length - (intOf i).toNat)
      case atStart => exact ⟨0, Nat.zero_le _, rfl, Lib.hid (Below.refl _ _), rfl⟩
      case round =>
        obtain ⟨j, hj, rfl, HBj, HFj⟩ := hrel
        rename World => wq
        have hzq := HBj.out.size
        have x1 := (HBj.out.cell (p := ⟨w.heap.size, 1, none⟩) hl2).trans X1.out
        have x2 := (HBj.out.cell (p := ⟨w.heap.size, 2, none⟩) hl2).trans X2.out
        by_cases hlt : j < b.zones.length
        · have HC := Lib.hid (zone_any b _ _ _ wr.heap.size j wq (HC1.out.below HBj.out hl3) ⟨(HBK1.out.r.below HBj.out (by omega)).mono (by omega), (HBK1.out.z.below HBj.out (by omega)).mono (by omega), fun z hz => ((HBK1.out.e z hz).below HBj.out (by omega)).mono (by omega), (HBK1.out.l.below HBj.out (by omega)).mono (by omega), HBK1.out.rs, HBK1.out.zs, HBK1.out.ls⟩ hlt (HM0.out.below (HB1.out.trans (HBj.out.mono HB1.out.size))) (HT0.out.below (HB1.out.trans (HBj.out.mono HB1.out.size))))
          have HAT := Lib.hid (chkZ_at b j hlt)
          rw [← HAT.out] at HC
          obtain ⟨E, eE⟩ : ∃ E, chkZ b j = E := ⟨_, rfl⟩
          rw [eE] at HC
          have HV := Lib.hid eE
          clear eE HAT
          go_wp2_with fail
          refine HC.out.mono ?_
          rintro e w3 ⟨rfl, hb3⟩
          have HB3 := Lib.hid (HBj.out.trans (hb3.mono HBj.out.size))
          clear hb3 HC
          by_cases hE : E = 0
          · subst hE
            go_wp2_with fail
            go_roundw
            case rel => exact ⟨j + 1, by omega, by go_num, HB3, Lib.hid (firstE_drop (chkZ b) (List.range b.zones.length) j (by simpa using hlt) (by rw [List.getElem_range]; exact HV.out) HFj.out)⟩
            case measure => simp [intOf]; omega
          · have hz : (E == 0) = false := by simpa using hE
            have hz2 : (!E == 0) = true := by rw [hz]; rfl
            have HK2 : Hid (R = E) := by
              show R = E
              have h1 := firstE_hit (chkZ b) (List.range b.zones.length) j (by simpa using hlt) (by rw [List.getElem_range, HV.out]; exact hE) HFj.out
              rw [HRz'.out HE1.out (by rw [h1, List.getElem_range, HV.out]; exact hE), h1, List.getElem_range, HV.out]
            clear hE
            go_wp2_with fail
            go_ret
            exact ⟨ret_E HK2.out.symm, HB0.out.trans ((HB1.out.trans (HB3.out.mono HB1.out.size)).mono HB0.out.size)⟩
        · have hend2 := firstE_end (chkZ b) (List.range b.zones.length) j (by simp; omega) HFj.out
          have hkl2 : ¬ (j : Int) < (b.zones.length : Int) := by omega
          have HE2 := Lib.hid hend2
          have HBq := HBj
          have hltz : True := trivial
          clear hend2
          go_wp2_with fail
          go_loopw [59] (fun i wr => ∃ k : Nat, k ≤ b.links.length ∧ i = .int .i64 k ∧ Hid (Below W1.heap.size W1 wr) ∧ Hid (firstE (chkL b) (List.range b.links.length) = firstE (chkL b) ((List.range b.links.length).drop k))) (fun i _ => b.links.length - (intOf i).toNat)
          case atStart => exact ⟨0, Nat.zero_le _, rfl, HBq, rfl⟩
          case round =>
            obtain ⟨m, hm', rfl, HBm, HFm⟩ := hrel
            rename World => wz
            have hzz := HBm.out.size
            have x1 := (HBm.out.cell (p := ⟨w.heap.size, 1, none⟩) hl2).trans X1.out
            have x2 := (HBm.out.cell (p := ⟨w.heap.size, 2, none⟩) hl2).trans X2.out
            by_cases hlt : m < b.links.length
            · have HC := Lib.hid (link_any b _ _ _ wr.heap.size m wz (HC1.out.below HBm.out hl3) ⟨(HBK1.out.r.below HBm.out (by omega)).mono (by omega), (HBK1.out.z.below HBm.out (by omega)).mono (by omega), fun z hz => ((HBK1.out.e z hz).below HBm.out (by omega)).mono (by omega), (HBK1.out.l.below HBm.out (by omega)).mono (by omega), HBK1.out.rs, HBK1.out.zs, HBK1.out.ls⟩ hlt (HM0.out.below (HB1.out.trans (HBm.out.mono HB1.out.size))))
              have HAT := Lib.hid (chkL_at b m hlt)
              rw [← HAT.out] at HC
              obtain ⟨E, eE⟩ : ∃ E, chkL b m = E := ⟨_, rfl⟩
              rw [eE] at HC
              have HV := Lib.hid eE
              clear eE HAT
              go_wp2_with fail
              refine HC.out.mono ?_
              rintro e w3 ⟨rfl, hb3⟩
              have HB3 := Lib.hid (HBm.out.trans (hb3.mono HBm.out.size))
              clear hb3 HC
              by_cases hE : E = 0
              · subst hE
                go_wp2_with fail
                go_roundw
                case rel => exact ⟨m + 1, by omega, by go_num, HB3, Lib.hid (firstE_drop (chkL b) (List.range b.links.length) m (by simpa using hlt) (by rw [List.getElem_range]; exact HV.out) HFm.out)⟩
                case measure => simp [intOf]; omega
              · have hz : (E == 0) = false := by simpa using hE
                have hz2 : (!E == 0) = true := by rw [hz]; rfl
                have HK2 : Hid (R = E) := by
                  show R = E
                  have h1 := firstE_hit (chkL b) (List.range b.links.length) m (by simpa using hlt) (by rw [List.getElem_range, HV.out]; exact hE) HFm.out
                  rw [HRl'.out HE1.out HE2.out, h1, List.getElem_range, HV.out]
                clear hE
                go_wp2_with fail
                go_ret
                exact ⟨ret_E HK2.out.symm, HB0.out.trans ((HB1.out.trans (HB3.out.mono HB1.out.size)).mono HB0.out.size)⟩
            · have hend3 := firstE_end (chkL b) (List.range b.links.length) m (by simp; omega) HFm.out
              have hkl3 : ¬ (m : Int) < (b.links.length : Int) := by omega
              have HK2 : Hid (R = 0) := by
                show R = 0
                rw [HRl'.out HE1.out HE2.out, hend3]
              clear hend3
              go_wp2_with fail
              go_ret
              exact ⟨ret_E HK2.out.symm, HB0.out.trans ((HB1.out.trans (HBm.out.mono HB1.out.size)).mono HB0.out.size)⟩
end Go.Proofs.YtacogloheiendaaGreatDoor
