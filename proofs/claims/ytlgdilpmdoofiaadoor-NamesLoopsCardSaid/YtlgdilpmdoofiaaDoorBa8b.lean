/- (checker).link: the walk. -/
import Derived.Test.YtlgdilpmdoofiaaDoorBa8
import Derived.Deep.RegionHeld3
namespace Go.Proofs.YtlgdilpmdoofiaaDoor
open Go.RowKit Go.Joins
open Classical
set_option linter.unusedVariables false
set_option linter.unusedSimpArgs false

set_option maxRecDepth 100000 in
set_option maxHeartbeats 8000000 in
theorem link_any (b : Bk) (rv zv lv : Value) (cb k : Nat) (w : World) (hC : ChkBx w cb rv zv lv) (hB : BookAt w.heap.size w rv zv lv b) (hk : k < b.links.length) (hm : MaxLen w) :
    Calls Tryd.prog 38 #[.pointer (some ⟨cb, 0, none⟩), .int .i64 k] w fun e w' => e = .returned (.int .i64 (linkChk b (b.links.take k) b.links[k])) ∧ Below w.heap.size w w' := by
  have hcb : cb < w.heap.size := (Array.getElem?_eq_some_iff.mp hC).1
  have hl := hB.l
  obtain ⟨p, cap, rfl, hlen, hrow⟩ := hl
  obtain ⟨bb, o, rfl, hbl, hcs⟩ := hrow (List.ne_nil_of_length_pos (by omega))
  have hck := hcs k hk
  have hsz := hB.ls b.links[k] (List.getElem_mem hk)
  have HTK := Lib.hid (hB.l.take k (by omega))
  have HLL := Lib.hid hB.l
  obtain ⟨z, ez⟩ : ∃ z, b.links[k] = z := ⟨_, rfl⟩
  rw [ez] at hck hsz ⊢
  obtain ⟨nm, tt⟩ := z
  have c0 := hck 0 _ rfl
  have c1 := hck 1 _ rfl
  simp only at c0 c1
  rw [Nat.add_zero] at c0
  obtain ⟨R, eR⟩ : ∃ R, linkChk b (b.links.take k) ⟨nm, tt⟩ = R := ⟨_, rfl⟩
  have HR3 := Lib.hid (linkChk_3 b (b.links.take k) ⟨nm, tt⟩)
  have HR7 := Lib.hid (linkChk_7 b (b.links.take k) ⟨nm, tt⟩)
  have HR6 := Lib.hid (linkChk_6 b (b.links.take k) ⟨nm, tt⟩)
  have HR0 := Lib.hid (linkChk_0 b (b.links.take k) ⟨nm, tt⟩)
  rw [eR] at HR3 HR7 HR6 HR0 ⊢
  obtain ⟨V0, eV⟩ : ∃ V0, w.alloc (.cells #[.pointer (some ⟨cb, 0, none⟩)] 86) = V0 := ⟨_, rfl⟩
  have hv0 : Below w.heap.size w V0 := by rw [← eV]; exact (Below.refl _ _).alloc (Nat.le_refl _) _
  have hvx : V0.heap[w.heap.size]? = some (.cells #[.pointer (some ⟨cb, 0, none⟩)] 86 (0, 0)) := by rw [← eV]; exact heap_alloc_new w _
  have hvs : V0.heap.size = w.heap.size + 1 := by rw [← eV]; simp
  have t0 : V0.cell? ⟨w.heap.size, 0, none⟩ = some (.pointer (some ⟨cb, 0, none⟩)) := (cell_of_row V0 _ 0 _ _ _ hvx).trans rfl
  have c0 := (hv0.cell (p := ⟨bb, o + k * 2, none⟩) hbl).trans c0
  have c1 := (hv0.cell (p := ⟨bb, o + k * 2 + 1, none⟩) hbl).trans c1
  have y2 := (cell_of_row V0 cb 2 _ _ _ (hC.below hv0 hcb)).trans rfl
  obtain ⟨W0, eW⟩ : ∃ W0, V0.alloc (.cells #[.string nm, .string tt] 58) = W0 := ⟨_, rfl⟩
  have hw0 : Below V0.heap.size V0 W0 := by rw [← eW]; exact (Below.refl _ _).alloc (Nat.le_refl _) _
  have hbx : W0.heap[V0.heap.size]? = some (.cells #[.string nm, .string tt] 58 (0, 0)) := by rw [← eW]; exact heap_alloc_new V0 _
  have hws : W0.heap.size = V0.heap.size + 1 := by rw [← eW]; simp
  have hb0 : Below w.heap.size w W0 := hv0.trans (hw0.mono hv0.size)
  have x0 := (cell_of_row W0 _ 0 _ _ _ hbx).trans rfl
  have x1 := (cell_of_row W0 _ 1 _ _ _ hbx).trans rfl
  have t0w := (hw0.cell (p := ⟨w.heap.size, 0, none⟩) (by show w.heap.size < _; omega)).trans t0
  have y2w := (cell_of_row W0 cb 2 _ _ _ (hC.below hb0 hcb)).trans rfl
  rw [hvs] at x0 x1
  have hl1 : w.heap.size + 1 < W0.heap.size := by omega
  have hl2 : w.heap.size < W0.heap.size := by omega
  have hl3 : cb < W0.heap.size := by omega
  have KS : Hid (∀ wx, Below W0.heap.size W0 wx → (Below W0.heap.size W0 wx ∧ wx.cell? ⟨w.heap.size, 0, none⟩ = some (.pointer (some ⟨cb, 0, none⟩)) ∧ wx.cell? ⟨w.heap.size + 1, 0, none⟩ = some (.string nm) ∧ wx.cell? ⟨w.heap.size + 1, 1, none⟩ = some (.string tt) ∧ wx.cell? ⟨cb, 2, none⟩ = some (.slice (some ⟨bb, o, none⟩) b.links.length cap))) := by
    show ∀ wx, Below W0.heap.size W0 wx → _
    exact fun wx hb => ⟨hb, (hb.cell (p := ⟨w.heap.size, 0, none⟩) hl2).trans t0w, (hb.cell (p := ⟨w.heap.size + 1, 0, none⟩) hl1).trans x0, (hb.cell (p := ⟨w.heap.size + 1, 1, none⟩) hl1).trans x1, (hb.cell (p := ⟨cb, 2, none⟩) hl3).trans y2w⟩
  have KR : Hid (∀ wx, (Below W0.heap.size W0 wx ∧ wx.cell? ⟨w.heap.size, 0, none⟩ = some (.pointer (some ⟨cb, 0, none⟩)) ∧ wx.cell? ⟨w.heap.size + 1, 0, none⟩ = some (.string nm) ∧ wx.cell? ⟨w.heap.size + 1, 1, none⟩ = some (.string tt) ∧ wx.cell? ⟨cb, 2, none⟩ = some (.slice (some ⟨bb, o, none⟩) b.links.length cap)) → Below W0.heap.size W0 wx) := by
    show ∀ wx, _ → Below W0.heap.size W0 wx
    exact fun wx h => h.1
  have hm0 := hm.below hb0
  have HZA := Lib.hid (fun (n : ByteArray) (W : World) (hb : Below W0.heap.size W0 W) => lkZone_any b _ zv _ cb w.heap.size n W ((hC.below hb0 hcb).below hb hl3) ((hb.cell (p := ⟨w.heap.size, 0, none⟩) hl2).trans t0w) (((hB.z.below hb0 (Nat.le_refl _)).below hb hb0.size).mono (Nat.le_trans hb0.size hb.size)))
  have HLK := Lib.hid (fun (n : ByteArray) (W : World) (hb : Below W0.heap.size W0 W) => lkLink_any (b.links.take k) _ n W (((HTK.out.below hb0 (Nat.le_refl _)).below hb hb0.size).mono (Nat.le_trans hb0.size hb.size)))
  have HLA := Lib.hid (fun (n : ByteArray) (W : World) (hb : Below W0.heap.size W0 W) => lkLink_any b.links _ n W (((HLL.out.below hb0 (Nat.le_refl _)).below hb hb0.size).mono (Nat.le_trans hb0.size hb.size)))
  have HNM := Lib.hid (fun W => isName_any nm W (by have := hsz.1; simp only at this; unfold maxLen; omega))
  have HNT := Lib.hid (fun W => isName_any tt W (by have := hsz.2; simp only at this; unfold maxLen; omega))
  have HEV := Lib.hid eV
  have HEW := Lib.hid eW
  have HB0 := Lib.hid hb0
  have kz : (k : Int) < (b.links.length : Int) := by omega
  have kz2 : (k : Int) ≤ (cap : Int) := by omega
  have hvlt : w.heap.size < V0.heap.size := by omega
  have hcv : cb < V0.heap.size := by omega
  have HVS := Lib.hid hvs
  clear eV eW hb0 hv0 hw0 hC hm hcs hck hrow hB hsz hbx ez eR HTK HLL hvx hm0 t0w y2w hws
  go_enter Tryd.func38, Tryd.ntmps38
  go_upto_region 1 with fail
  rw [HEV.out]
  go_upto_region 4 with fail
  rw [HEW.out]
  obtain ⟨N, eN⟩ : ∃ N, nameB nm = N := ⟨_, rfl⟩
  obtain ⟨M, eM⟩ : ∃ M, nameB tt = M := ⟨_, rfl⟩
  rw [eN] at HNM
  rw [eM] at HNT
  have HN := Lib.hid eN
  have HM := Lib.hid eM
  clear eN eM
  cases N with
  | false =>
    have HRA := Lib.hid (HR3.out (Or.inl HN.out))
    go_wp2_with fail
    refine (HNM.out _).mono ?_
    rintro e w' ⟨rfl, rfl⟩
    go_wp2_with fail
    go_ret
    exact ⟨ret_E HRA.out.symm, HB0.out⟩
  | true =>
  cases M with
  | false =>
    have HRA := Lib.hid (HR3.out (Or.inr HM.out))
    go_wp2_with fail
    refine (HNM.out _).mono ?_
    rintro e w' ⟨rfl, rfl⟩
    go_wp2_with fail
    refine (HNT.out _).mono ?_
    rintro e w' ⟨rfl, rfl⟩
    go_wp2_with fail
    go_ret
    exact ⟨ret_E HRA.out.symm, HB0.out⟩
  | true =>
  go_wp2_with fail
  refine (HNM.out _).mono ?_
  rintro e w' ⟨rfl, rfl⟩
  go_wp2_with fail
  refine (HNT.out _).mono ?_
  rintro e w' ⟨rfl, rfl⟩
  clear HNM HNT HR3
  have H1 := Lib.hid (HZA.out nm)
  have H2 := Lib.hid (HLK.out nm)
  have H3 := Lib.hid (HZA.out tt)
  have H4 := Lib.hid (HLA.out tt)
  have HR7' := Lib.hid (HR7.out HN.out HM.out)
  have HR6' := Lib.hid (HR6.out HN.out HM.out)
  have HR0' := Lib.hid (HR0.out HN.out HM.out)
  clear HZA HLK HLA HR7 HR6 HR0
  change Hid (isZone b nm = true ∨ isLink (b.links.take k) nm = true → R = 7) at HR7'
  change Hid (¬ (isZone b nm = true ∨ isLink (b.links.take k) nm = true) → isZone b tt = false ∧ isLink b.links tt = false → R = 6) at HR6'
  change Hid (¬ (isZone b nm = true ∨ isLink (b.links.take k) nm = true) → ¬ (isZone b tt = false ∧ isLink b.links tt = false) → R = 0) at HR0'
  obtain ⟨A, eA⟩ : ∃ A, isZone b nm = A := ⟨_, rfl⟩
  obtain ⟨B, eB⟩ : ∃ B, isLink (b.links.take k) nm = B := ⟨_, rfl⟩
  obtain ⟨C, eC⟩ : ∃ C, isZone b tt = C := ⟨_, rfl⟩
  obtain ⟨D, eD⟩ : ∃ D, isLink b.links tt = D := ⟨_, rfl⟩
  rw [eA] at H1
  rw [eB] at H2
  rw [eC] at H3
  rw [eD] at H4
  rw [eA, eB] at HR7'
  rw [eA, eB, eC, eD] at HR6' HR0'
  clear eA eB eC eD
  have hb00 : Below W0.heap.size W0 W0 := Below.refl _ _
  have HB00 := Lib.hid hb00
  clear hb00
  clear x0 x1 y2 t0 c0 c1
  go_upto_region 6 with fail
  go_cut [28] (fun s28 wx => s28 = .bool (A || B) ∧ Below W0.heap.size W0 wx)
  case first =>
    cases A with
    | true =>
      refine wp_region_held_drew (S := fun wx => Below W0.heap.size W0 wx ∧ wx.cell? ⟨w.heap.size, 0, none⟩ = some (.pointer (some ⟨cb, 0, none⟩)) ∧ wx.cell? ⟨w.heap.size + 1, 0, none⟩ = some (.string nm) ∧ wx.cell? ⟨w.heap.size + 1, 1, none⟩ = some (.string tt) ∧ wx.cell? ⟨cb, 2, none⟩ = some (.slice (some ⟨bb, o, none⟩) b.links.length cap)) (by kernel_rfl) (KS.out _ (by first | exact HB00.out | exact HB00.out.drew)) (fun hHeld => ?_)
      refine' wpAnyH_take (i := 0) (oi := _) (v := _) ?zhi0 (by kernel_rfl) ?zhf0 ?zhr0 ?zhQ0 ?zhy0 (by assumption) ?zrest0
      case zhi0 => (simp only [List.getElem?_toArray, List.getElem?_cons_zero, List.getElem?_cons_succ]; try rfl)
      case zhf0 => kernel_rfl
      case zhr0 => kernel_rfl
      case zhQ0 => exact fun _ _ _ h => h
      case zhy0 => (refine Or.inl ⟨by rfl, ?_⟩; intro w hSw; (try dsimp only at hSw); go_simp; (try with_reducible rfl))
      try simp only [Act.put, List.setIfInBounds_toArray, List.set_cons_zero, List.set_cons_succ]
      refine' wpAnyH_take (i := 1) (oi := _) (v := _) ?zhi1 (by kernel_rfl) ?zhf1 ?zhr1 ?zhQ1 ?zhy1 (by assumption) ?zrest1
      case zhi1 => (simp only [List.getElem?_toArray, List.getElem?_cons_zero, List.getElem?_cons_succ]; try rfl)
      case zhf1 => kernel_rfl
      case zhr1 => kernel_rfl
      case zhQ1 => exact fun _ _ _ h => h
      case zhy1 => (refine Or.inl ⟨by rfl, ?_⟩; intro w hSw; (try dsimp only at hSw); go_simp; (try with_reducible rfl))
      try simp only [Act.put, List.setIfInBounds_toArray, List.set_cons_zero, List.set_cons_succ]
      refine' wpAnyH_take (i := 2) (oi := _) (v := _) ?zhi2 (by kernel_rfl) ?zhf2 ?zhr2 ?zhQ2 ?zhy2 (by assumption) ?zrest2
      case zhi2 => (simp only [List.getElem?_toArray, List.getElem?_cons_zero, List.getElem?_cons_succ]; try rfl)
      case zhf2 => kernel_rfl
      case zhr2 => kernel_rfl
      case zhQ2 => exact fun _ _ _ h => h
      case zhy2 => (refine Or.inl ⟨by rfl, ?_⟩; intro w hSw; (try dsimp only at hSw); go_simp; (try with_reducible rfl))
      try simp only [Act.put, List.setIfInBounds_toArray, List.set_cons_zero, List.set_cons_succ]
      refine wpAnyH_ready (rs := [3]) (by kernel_rfl) (by simp) ?_
      refine AllReadyH.cons (by simp only [List.getElem?_toArray, List.getElem?_cons_zero, List.getElem?_cons_succ]; rfl) (fun K hK => ?_) AllReadyH.nil
      go_simp
      go_at_call 66
      refine (H1.out _ (KR.out _ (by assumption))).mono ?_
      rintro e w2 ⟨rfl, hb2⟩
      have hB2 := ((KR.out _ (by assumption)).trans (hb2.mono (KR.out _ (by assumption)).size))
      clear hb2
      try go_wp2_with fail
      refine hK.out _ _ (KS.out _ hB2) (fun hHeld2 => ?_)
      clear hK K
      try simp only [Act.put, List.setIfInBounds_toArray, List.set_cons_zero, List.set_cons_succ]
      refine' wpAnyH_take (i := 4) (oi := _) (v := _) ?zhi4 (by kernel_rfl) ?zhf4 ?zhr4 ?zhQ4 ?zhy4 (by assumption) ?zrest4
      case zhi4 => (simp only [List.getElem?_toArray, List.getElem?_cons_zero, List.getElem?_cons_succ]; try rfl)
      case zhf4 => kernel_rfl
      case zhr4 => kernel_rfl
      case zhQ4 => exact fun _ _ _ h => h
      case zhy4 => (refine Or.inl ⟨by rfl, ?_⟩; intro w hSw; (try dsimp only at hSw); go_simp; (try with_reducible rfl))
      try simp only [Act.put, List.setIfInBounds_toArray, List.set_cons_zero, List.set_cons_succ]
      refine' wpAnyH_take (i := 5) (oi := _) (v := undef) ?zhi5 (by kernel_rfl) ?zhf5 ?zhr5 ?zhQ5 ?zhy5 (by assumption) ?zrest5
      case zhi5 => (simp only [List.getElem?_toArray, List.getElem?_cons_zero, List.getElem?_cons_succ]; try rfl)
      case zhf5 => kernel_rfl
      case zhr5 => kernel_rfl
      case zhQ5 => exact fun _ _ _ h => h
      case zhy5 => exact Or.inr ⟨by rfl, rfl⟩
      try simp only [Act.put, List.setIfInBounds_toArray, List.set_cons_zero, List.set_cons_succ]
      refine' wpAnyH_take (i := 6) (oi := _) (v := undef) ?zhi6 (by kernel_rfl) ?zhf6 ?zhr6 ?zhQ6 ?zhy6 (by assumption) ?zrest6
      case zhi6 => (simp only [List.getElem?_toArray, List.getElem?_cons_zero, List.getElem?_cons_succ]; try rfl)
      case zhf6 => kernel_rfl
      case zhr6 => kernel_rfl
      case zhQ6 => exact fun _ _ _ h => h
      case zhy6 => exact Or.inr ⟨by rfl, rfl⟩
      try simp only [Act.put, List.setIfInBounds_toArray, List.set_cons_zero, List.set_cons_succ]
      refine' wpAnyH_take (i := 7) (oi := _) (v := undef) ?zhi7 (by kernel_rfl) ?zhf7 ?zhr7 ?zhQ7 ?zhy7 (by assumption) ?zrest7
      case zhi7 => (simp only [List.getElem?_toArray, List.getElem?_cons_zero, List.getElem?_cons_succ]; try rfl)
      case zhf7 => kernel_rfl
      case zhr7 => kernel_rfl
      case zhQ7 => exact fun _ _ _ h => h
      case zhy7 => exact Or.inr ⟨by rfl, rfl⟩
      try simp only [Act.put, List.setIfInBounds_toArray, List.set_cons_zero, List.set_cons_succ]
      refine' wpAnyH_take (i := 8) (oi := _) (v := undef) ?zhi8 (by kernel_rfl) ?zhf8 ?zhr8 ?zhQ8 ?zhy8 (by assumption) ?zrest8
      case zhi8 => (simp only [List.getElem?_toArray, List.getElem?_cons_zero, List.getElem?_cons_succ]; try rfl)
      case zhf8 => kernel_rfl
      case zhr8 => kernel_rfl
      case zhQ8 => exact fun _ _ _ h => h
      case zhy8 => exact Or.inr ⟨by rfl, rfl⟩
      try simp only [Act.put, List.setIfInBounds_toArray, List.set_cons_zero, List.set_cons_succ]
      refine' wpAnyH_take (i := 9) (oi := _) (v := undef) ?zhi9 (by kernel_rfl) ?zhf9 ?zhr9 ?zhQ9 ?zhy9 (by assumption) ?zrest9
      case zhi9 => (simp only [List.getElem?_toArray, List.getElem?_cons_zero, List.getElem?_cons_succ]; try rfl)
      case zhf9 => kernel_rfl
      case zhr9 => kernel_rfl
      case zhQ9 => exact fun _ _ _ h => h
      case zhy9 => exact Or.inr ⟨by rfl, rfl⟩
      try simp only [Act.put, List.setIfInBounds_toArray, List.set_cons_zero, List.set_cons_succ]
      refine' wpAnyH_take (i := 10) (oi := _) (v := undef) ?zhi10 (by kernel_rfl) ?zhf10 ?zhr10 ?zhQ10 ?zhy10 (by assumption) ?zrest10
      case zhi10 => (simp only [List.getElem?_toArray, List.getElem?_cons_zero, List.getElem?_cons_succ]; try rfl)
      case zhf10 => kernel_rfl
      case zhr10 => kernel_rfl
      case zhQ10 => exact fun _ _ _ h => h
      case zhy10 => exact Or.inr ⟨by rfl, rfl⟩
      try simp only [Act.put, List.setIfInBounds_toArray, List.set_cons_zero, List.set_cons_succ]
      refine' wpAnyH_take (i := 11) (oi := _) (v := undef) ?zhi11 (by kernel_rfl) ?zhf11 ?zhr11 ?zhQ11 ?zhy11 (by assumption) ?zrest11
      case zhi11 => (simp only [List.getElem?_toArray, List.getElem?_cons_zero, List.getElem?_cons_succ]; try rfl)
      case zhf11 => kernel_rfl
      case zhr11 => kernel_rfl
      case zhQ11 => exact fun _ _ _ h => h
      case zhy11 => exact Or.inr ⟨by rfl, rfl⟩
      try simp only [Act.put, List.setIfInBounds_toArray, List.set_cons_zero, List.set_cons_succ]
      refine' wpAnyH_take (i := 12) (oi := _) (v := undef) ?zhi12 (by kernel_rfl) ?zhf12 ?zhr12 ?zhQ12 ?zhy12 (by assumption) ?zrest12
      case zhi12 => (simp only [List.getElem?_toArray, List.getElem?_cons_zero, List.getElem?_cons_succ]; try rfl)
      case zhf12 => kernel_rfl
      case zhr12 => kernel_rfl
      case zhQ12 => exact fun _ _ _ h => h
      case zhy12 => exact Or.inr ⟨by rfl, rfl⟩
      try simp only [Act.put, List.setIfInBounds_toArray, List.set_cons_zero, List.set_cons_succ]
      refine' wpAnyH_take (i := 13) (oi := _) (v := undef) ?zhi13 (by kernel_rfl) ?zhf13 ?zhr13 ?zhQ13 ?zhy13 (by assumption) ?zrest13
      case zhi13 => (simp only [List.getElem?_toArray, List.getElem?_cons_zero, List.getElem?_cons_succ]; try rfl)
      case zhf13 => kernel_rfl
      case zhr13 => kernel_rfl
      case zhQ13 => exact fun _ _ _ h => h
      case zhy13 => exact Or.inr ⟨by rfl, rfl⟩
      try simp only [Act.put, List.setIfInBounds_toArray, List.set_cons_zero, List.set_cons_succ]
      refine' wpAnyH_take (i := 14) (oi := _) (v := undef) ?zhi14 (by kernel_rfl) ?zhf14 ?zhr14 ?zhQ14 ?zhy14 (by assumption) ?zrest14
      case zhi14 => (simp only [List.getElem?_toArray, List.getElem?_cons_zero, List.getElem?_cons_succ]; try rfl)
      case zhf14 => kernel_rfl
      case zhr14 => kernel_rfl
      case zhQ14 => exact fun _ _ _ h => h
      case zhy14 => exact Or.inr ⟨by rfl, rfl⟩
      try simp only [Act.put, List.setIfInBounds_toArray, List.set_cons_zero, List.set_cons_succ]
      refine' wpAnyH_take (i := 15) (oi := _) (v := undef) ?zhi15 (by kernel_rfl) ?zhf15 ?zhr15 ?zhQ15 ?zhy15 (by assumption) ?zrest15
      case zhi15 => (simp only [List.getElem?_toArray, List.getElem?_cons_zero, List.getElem?_cons_succ]; try rfl)
      case zhf15 => kernel_rfl
      case zhr15 => kernel_rfl
      case zhQ15 => exact fun _ _ _ h => h
      case zhy15 => exact Or.inr ⟨by rfl, rfl⟩
      try simp only [Act.put, List.setIfInBounds_toArray, List.set_cons_zero, List.set_cons_succ]
      refine' wpAnyH_take (i := 16) (oi := _) (v := _) ?zhi16 (by kernel_rfl) ?zhf16 ?zhr16 ?zhQ16 ?zhy16 (by assumption) ?zrest16
      case zhi16 => (simp only [List.getElem?_toArray, List.getElem?_cons_zero, List.getElem?_cons_succ]; try rfl)
      case zhf16 => kernel_rfl
      case zhr16 => kernel_rfl
      case zhQ16 => exact fun _ _ _ h => h
      case zhy16 => (refine Or.inl ⟨by rfl, ?_⟩; intro w hSw; (try dsimp only at hSw); go_simp; (try with_reducible rfl))
      try simp only [Act.put, List.setIfInBounds_toArray, List.set_cons_zero, List.set_cons_succ]
      refine' wpAnyH_take (i := 17) (oi := _) (v := _) ?zhi17 (by kernel_rfl) ?zhf17 ?zhr17 ?zhQ17 ?zhy17 (by assumption) ?zrest17
      case zhi17 => (simp only [List.getElem?_toArray, List.getElem?_cons_zero, List.getElem?_cons_succ]; try rfl)
      case zhf17 => kernel_rfl
      case zhr17 => kernel_rfl
      case zhQ17 => exact fun _ _ _ h => h
      case zhy17 => (refine Or.inl ⟨by rfl, ?_⟩; intro w hSw; (try dsimp only at hSw); go_simp; (try with_reducible rfl))
      try simp only [Act.put, List.setIfInBounds_toArray, List.set_cons_zero, List.set_cons_succ]
      refine wpAnyH_done (by kernel_rfl) ?_ _
      all_goals go_wp2_with fail
      all_goals go_meet
      all_goals exact ⟨rfl, KR.out _ (by assumption)⟩
    | false =>
      go_region_held3 (fun wx => Below W0.heap.size W0 wx ∧ wx.cell? ⟨w.heap.size, 0, none⟩ = some (.pointer (some ⟨cb, 0, none⟩)) ∧ wx.cell? ⟨w.heap.size + 1, 0, none⟩ = some (.string nm) ∧ wx.cell? ⟨w.heap.size + 1, 1, none⟩ = some (.string tt) ∧ wx.cell? ⟨cb, 2, none⟩ = some (.slice (some ⟨bb, o, none⟩) b.links.length cap)) ((refine KS.out _ ?_; repeat (first | (with_reducible assumption) | (with_reducible exact HB00.out) | (with_reducible exact Below.refl _ _) | (with_reducible refine Below.drew ?_))))
        (first
          | (go_at_call 66; refine (H1.out _ (KR.out _ (by assumption))).mono ?_; rintro e w2 ⟨rfl, hb2⟩; have hB2 := ((KR.out _ (by assumption)).trans (hb2.mono (KR.out _ (by assumption)).size)); clear hb2)
          | (go_at_call 68; refine (H2.out _ (KR.out _ (by assumption))).mono ?_; rintro e w2 ⟨rfl, hb2⟩; have hB2 := ((KR.out _ (by assumption)).trans (hb2.mono (KR.out _ (by assumption)).size)); clear hb2))
      all_goals go_wp2_with fail
      all_goals go_meet
      all_goals exact ⟨rfl, KR.out _ (by assumption)⟩
  case rest =>
    obtain ⟨rfl, hbc⟩ := hcut
    rename World => wd
    have HBC := Lib.hid hbc
    clear hbc
    obtain ⟨AB, eAB⟩ : ∃ AB, (A || B) = AB := ⟨_, rfl⟩
    rw [eAB]
    have hAB : (A = true ∨ B = true) ↔ AB = true := by rw [← eAB]; simp
    rw [hAB] at HR7' HR6' HR0'
    clear eAB hAB H1 H2
    cases AB with
    | true =>
      have HRA := Lib.hid (HR7'.out rfl)
      go_wp2_with fail
      go_ret
      exact ⟨ret_E HRA.out.symm, HB0.out.trans (HBC.out.mono HB0.out.size)⟩
    | false =>
      have HR6z := Lib.hid (HR6'.out (by simp))
      have HR0z := Lib.hid (HR0'.out (by simp))
      clear HR7' HR6' HR0'
      go_upto_region 8 with fail
      go_cut [46] (fun s46 wx => s46 = .bool (!C && !D) ∧ Below W0.heap.size W0 wx)
      case first =>
        cases C with
        | true =>
          refine wp_region_held_drew (S := fun wx => Below W0.heap.size W0 wx ∧ wx.cell? ⟨w.heap.size, 0, none⟩ = some (.pointer (some ⟨cb, 0, none⟩)) ∧ wx.cell? ⟨w.heap.size + 1, 0, none⟩ = some (.string nm) ∧ wx.cell? ⟨w.heap.size + 1, 1, none⟩ = some (.string tt) ∧ wx.cell? ⟨cb, 2, none⟩ = some (.slice (some ⟨bb, o, none⟩) b.links.length cap)) (by kernel_rfl) (KS.out _ (by first | exact HBC.out | exact HBC.out.drew)) (fun hHeld => ?_)
          refine' wpAnyH_take (i := 0) (oi := _) (v := _) ?yhi0 (by kernel_rfl) ?yhf0 ?yhr0 ?yhQ0 ?yhy0 (by assumption) ?yrest0
          case yhi0 => (simp only [List.getElem?_toArray, List.getElem?_cons_zero, List.getElem?_cons_succ]; try rfl)
          case yhf0 => kernel_rfl
          case yhr0 => kernel_rfl
          case yhQ0 => exact fun _ _ _ h => h
          case yhy0 => (refine Or.inl ⟨by rfl, ?_⟩; intro w hSw; (try dsimp only at hSw); go_simp; (try with_reducible rfl))
          try simp only [Act.put, List.setIfInBounds_toArray, List.set_cons_zero, List.set_cons_succ]
          refine' wpAnyH_take (i := 1) (oi := _) (v := _) ?yhi1 (by kernel_rfl) ?yhf1 ?yhr1 ?yhQ1 ?yhy1 (by assumption) ?yrest1
          case yhi1 => (simp only [List.getElem?_toArray, List.getElem?_cons_zero, List.getElem?_cons_succ]; try rfl)
          case yhf1 => kernel_rfl
          case yhr1 => kernel_rfl
          case yhQ1 => exact fun _ _ _ h => h
          case yhy1 => (refine Or.inl ⟨by rfl, ?_⟩; intro w hSw; (try dsimp only at hSw); go_simp; (try with_reducible rfl))
          try simp only [Act.put, List.setIfInBounds_toArray, List.set_cons_zero, List.set_cons_succ]
          refine' wpAnyH_take (i := 2) (oi := _) (v := _) ?yhi2 (by kernel_rfl) ?yhf2 ?yhr2 ?yhQ2 ?yhy2 (by assumption) ?yrest2
          case yhi2 => (simp only [List.getElem?_toArray, List.getElem?_cons_zero, List.getElem?_cons_succ]; try rfl)
          case yhf2 => kernel_rfl
          case yhr2 => kernel_rfl
          case yhQ2 => exact fun _ _ _ h => h
          case yhy2 => (refine Or.inl ⟨by rfl, ?_⟩; intro w hSw; (try dsimp only at hSw); go_simp; (try with_reducible rfl))
          try simp only [Act.put, List.setIfInBounds_toArray, List.set_cons_zero, List.set_cons_succ]
          refine wpAnyH_ready (rs := [3]) (by kernel_rfl) (by simp) ?_
          refine AllReadyH.cons (by simp only [List.getElem?_toArray, List.getElem?_cons_zero, List.getElem?_cons_succ]; rfl) (fun K hK => ?_) AllReadyH.nil
          go_simp
          go_at_call 66
          refine (H3.out _ (KR.out _ (by assumption))).mono ?_
          rintro e w2 ⟨rfl, hb2⟩
          have hB2 := ((KR.out _ (by assumption)).trans (hb2.mono (KR.out _ (by assumption)).size))
          clear hb2
          try go_wp2_with fail
          refine hK.out _ _ (KS.out _ hB2) (fun hHeld2 => ?_)
          clear hK K
          try simp only [Act.put, List.setIfInBounds_toArray, List.set_cons_zero, List.set_cons_succ]
          refine' wpAnyH_take (i := 4) (oi := _) (v := _) ?yhi4 (by kernel_rfl) ?yhf4 ?yhr4 ?yhQ4 ?yhy4 (by assumption) ?yrest4
          case yhi4 => (simp only [List.getElem?_toArray, List.getElem?_cons_zero, List.getElem?_cons_succ]; try rfl)
          case yhf4 => kernel_rfl
          case yhr4 => kernel_rfl
          case yhQ4 => exact fun _ _ _ h => h
          case yhy4 => (refine Or.inl ⟨by rfl, ?_⟩; intro w hSw; (try dsimp only at hSw); go_simp; (try with_reducible rfl))
          try simp only [Act.put, List.setIfInBounds_toArray, List.set_cons_zero, List.set_cons_succ]
          refine' wpAnyH_take (i := 5) (oi := _) (v := _) ?yhi5 (by kernel_rfl) ?yhf5 ?yhr5 ?yhQ5 ?yhy5 (by assumption) ?yrest5
          case yhi5 => (simp only [List.getElem?_toArray, List.getElem?_cons_zero, List.getElem?_cons_succ]; try rfl)
          case yhf5 => kernel_rfl
          case yhr5 => kernel_rfl
          case yhQ5 => exact fun _ _ _ h => h
          case yhy5 => (refine Or.inl ⟨by rfl, ?_⟩; intro w hSw; (try dsimp only at hSw); go_simp; (try with_reducible rfl))
          try simp only [Act.put, List.setIfInBounds_toArray, List.set_cons_zero, List.set_cons_succ]
          refine' wpAnyH_take (i := 6) (oi := _) (v := undef) ?yhi6 (by kernel_rfl) ?yhf6 ?yhr6 ?yhQ6 ?yhy6 (by assumption) ?yrest6
          case yhi6 => (simp only [List.getElem?_toArray, List.getElem?_cons_zero, List.getElem?_cons_succ]; try rfl)
          case yhf6 => kernel_rfl
          case yhr6 => kernel_rfl
          case yhQ6 => exact fun _ _ _ h => h
          case yhy6 => exact Or.inr ⟨by rfl, rfl⟩
          try simp only [Act.put, List.setIfInBounds_toArray, List.set_cons_zero, List.set_cons_succ]
          refine' wpAnyH_take (i := 7) (oi := _) (v := undef) ?yhi7 (by kernel_rfl) ?yhf7 ?yhr7 ?yhQ7 ?yhy7 (by assumption) ?yrest7
          case yhi7 => (simp only [List.getElem?_toArray, List.getElem?_cons_zero, List.getElem?_cons_succ]; try rfl)
          case yhf7 => kernel_rfl
          case yhr7 => kernel_rfl
          case yhQ7 => exact fun _ _ _ h => h
          case yhy7 => exact Or.inr ⟨by rfl, rfl⟩
          try simp only [Act.put, List.setIfInBounds_toArray, List.set_cons_zero, List.set_cons_succ]
          refine' wpAnyH_take (i := 8) (oi := _) (v := undef) ?yhi8 (by kernel_rfl) ?yhf8 ?yhr8 ?yhQ8 ?yhy8 (by assumption) ?yrest8
          case yhi8 => (simp only [List.getElem?_toArray, List.getElem?_cons_zero, List.getElem?_cons_succ]; try rfl)
          case yhf8 => kernel_rfl
          case yhr8 => kernel_rfl
          case yhQ8 => exact fun _ _ _ h => h
          case yhy8 => exact Or.inr ⟨by rfl, rfl⟩
          try simp only [Act.put, List.setIfInBounds_toArray, List.set_cons_zero, List.set_cons_succ]
          refine' wpAnyH_take (i := 9) (oi := _) (v := undef) ?yhi9 (by kernel_rfl) ?yhf9 ?yhr9 ?yhQ9 ?yhy9 (by assumption) ?yrest9
          case yhi9 => (simp only [List.getElem?_toArray, List.getElem?_cons_zero, List.getElem?_cons_succ]; try rfl)
          case yhf9 => kernel_rfl
          case yhr9 => kernel_rfl
          case yhQ9 => exact fun _ _ _ h => h
          case yhy9 => exact Or.inr ⟨by rfl, rfl⟩
          try simp only [Act.put, List.setIfInBounds_toArray, List.set_cons_zero, List.set_cons_succ]
          refine' wpAnyH_take (i := 10) (oi := _) (v := undef) ?yhi10 (by kernel_rfl) ?yhf10 ?yhr10 ?yhQ10 ?yhy10 (by assumption) ?yrest10
          case yhi10 => (simp only [List.getElem?_toArray, List.getElem?_cons_zero, List.getElem?_cons_succ]; try rfl)
          case yhf10 => kernel_rfl
          case yhr10 => kernel_rfl
          case yhQ10 => exact fun _ _ _ h => h
          case yhy10 => exact Or.inr ⟨by rfl, rfl⟩
          try simp only [Act.put, List.setIfInBounds_toArray, List.set_cons_zero, List.set_cons_succ]
          refine' wpAnyH_take (i := 11) (oi := _) (v := undef) ?yhi11 (by kernel_rfl) ?yhf11 ?yhr11 ?yhQ11 ?yhy11 (by assumption) ?yrest11
          case yhi11 => (simp only [List.getElem?_toArray, List.getElem?_cons_zero, List.getElem?_cons_succ]; try rfl)
          case yhf11 => kernel_rfl
          case yhr11 => kernel_rfl
          case yhQ11 => exact fun _ _ _ h => h
          case yhy11 => exact Or.inr ⟨by rfl, rfl⟩
          try simp only [Act.put, List.setIfInBounds_toArray, List.set_cons_zero, List.set_cons_succ]
          refine' wpAnyH_take (i := 12) (oi := _) (v := undef) ?yhi12 (by kernel_rfl) ?yhf12 ?yhr12 ?yhQ12 ?yhy12 (by assumption) ?yrest12
          case yhi12 => (simp only [List.getElem?_toArray, List.getElem?_cons_zero, List.getElem?_cons_succ]; try rfl)
          case yhf12 => kernel_rfl
          case yhr12 => kernel_rfl
          case yhQ12 => exact fun _ _ _ h => h
          case yhy12 => exact Or.inr ⟨by rfl, rfl⟩
          try simp only [Act.put, List.setIfInBounds_toArray, List.set_cons_zero, List.set_cons_succ]
          refine' wpAnyH_take (i := 13) (oi := _) (v := undef) ?yhi13 (by kernel_rfl) ?yhf13 ?yhr13 ?yhQ13 ?yhy13 (by assumption) ?yrest13
          case yhi13 => (simp only [List.getElem?_toArray, List.getElem?_cons_zero, List.getElem?_cons_succ]; try rfl)
          case yhf13 => kernel_rfl
          case yhr13 => kernel_rfl
          case yhQ13 => exact fun _ _ _ h => h
          case yhy13 => exact Or.inr ⟨by rfl, rfl⟩
          try simp only [Act.put, List.setIfInBounds_toArray, List.set_cons_zero, List.set_cons_succ]
          refine' wpAnyH_take (i := 14) (oi := _) (v := undef) ?yhi14 (by kernel_rfl) ?yhf14 ?yhr14 ?yhQ14 ?yhy14 (by assumption) ?yrest14
          case yhi14 => (simp only [List.getElem?_toArray, List.getElem?_cons_zero, List.getElem?_cons_succ]; try rfl)
          case yhf14 => kernel_rfl
          case yhr14 => kernel_rfl
          case yhQ14 => exact fun _ _ _ h => h
          case yhy14 => exact Or.inr ⟨by rfl, rfl⟩
          try simp only [Act.put, List.setIfInBounds_toArray, List.set_cons_zero, List.set_cons_succ]
          refine' wpAnyH_take (i := 15) (oi := _) (v := undef) ?yhi15 (by kernel_rfl) ?yhf15 ?yhr15 ?yhQ15 ?yhy15 (by assumption) ?yrest15
          case yhi15 => (simp only [List.getElem?_toArray, List.getElem?_cons_zero, List.getElem?_cons_succ]; try rfl)
          case yhf15 => kernel_rfl
          case yhr15 => kernel_rfl
          case yhQ15 => exact fun _ _ _ h => h
          case yhy15 => exact Or.inr ⟨by rfl, rfl⟩
          try simp only [Act.put, List.setIfInBounds_toArray, List.set_cons_zero, List.set_cons_succ]
          refine' wpAnyH_take (i := 16) (oi := _) (v := _) ?yhi16 (by kernel_rfl) ?yhf16 ?yhr16 ?yhQ16 ?yhy16 (by assumption) ?yrest16
          case yhi16 => (simp only [List.getElem?_toArray, List.getElem?_cons_zero, List.getElem?_cons_succ]; try rfl)
          case yhf16 => kernel_rfl
          case yhr16 => kernel_rfl
          case yhQ16 => exact fun _ _ _ h => h
          case yhy16 => (refine Or.inl ⟨by rfl, ?_⟩; intro w hSw; (try dsimp only at hSw); go_simp; (try with_reducible rfl))
          try simp only [Act.put, List.setIfInBounds_toArray, List.set_cons_zero, List.set_cons_succ]
          refine' wpAnyH_take (i := 17) (oi := _) (v := _) ?yhi17 (by kernel_rfl) ?yhf17 ?yhr17 ?yhQ17 ?yhy17 (by assumption) ?yrest17
          case yhi17 => (simp only [List.getElem?_toArray, List.getElem?_cons_zero, List.getElem?_cons_succ]; try rfl)
          case yhf17 => kernel_rfl
          case yhr17 => kernel_rfl
          case yhQ17 => exact fun _ _ _ h => h
          case yhy17 => (refine Or.inl ⟨by rfl, ?_⟩; intro w hSw; (try dsimp only at hSw); go_simp; (try with_reducible rfl))
          try simp only [Act.put, List.setIfInBounds_toArray, List.set_cons_zero, List.set_cons_succ]
          refine wpAnyH_done (by kernel_rfl) ?_ _
          all_goals go_wp2_with fail
          all_goals go_meet
          all_goals exact ⟨rfl, KR.out _ (by assumption)⟩
        | false =>
          go_region_held3 (fun wx => Below W0.heap.size W0 wx ∧ wx.cell? ⟨w.heap.size, 0, none⟩ = some (.pointer (some ⟨cb, 0, none⟩)) ∧ wx.cell? ⟨w.heap.size + 1, 0, none⟩ = some (.string nm) ∧ wx.cell? ⟨w.heap.size + 1, 1, none⟩ = some (.string tt) ∧ wx.cell? ⟨cb, 2, none⟩ = some (.slice (some ⟨bb, o, none⟩) b.links.length cap)) ((refine KS.out _ ?_; repeat (first | (with_reducible assumption) | (with_reducible exact HBC.out) | (with_reducible exact Below.refl _ _) | (with_reducible refine Below.drew ?_))))
          (first
            | (go_at_call 66; refine (H3.out _ (KR.out _ (by assumption))).mono ?_; rintro e w2 ⟨rfl, hb2⟩; have hB2 := ((KR.out _ (by assumption)).trans (hb2.mono (KR.out _ (by assumption)).size)); clear hb2)
            | (go_at_call 68; refine (H4.out _ (KR.out _ (by assumption))).mono ?_; rintro e w2 ⟨rfl, hb2⟩; have hB2 := ((KR.out _ (by assumption)).trans (hb2.mono (KR.out _ (by assumption)).size)); clear hb2))
          all_goals go_wp2_with fail
          all_goals go_meet
          all_goals exact ⟨rfl, KR.out _ (by assumption)⟩
      case rest =>
        obtain ⟨rfl, hbd⟩ := hcut
        have HBD := Lib.hid hbd
        clear hbd
        obtain ⟨CD, eCD⟩ : ∃ CD, (!C && !D) = CD := ⟨_, rfl⟩
        rw [eCD]
        have hCD : (C = false ∧ D = false) ↔ CD = true := by rw [← eCD]; simp
        rw [hCD] at HR6z HR0z
        clear eCD hCD
        cases CD with
        | true =>
          have HRA := Lib.hid (HR6z.out rfl)
          go_wp2_with fail
          go_ret
          exact ⟨ret_E HRA.out.symm, HB0.out.trans (HBD.out.mono HB0.out.size)⟩
        | false =>
          have HRA := Lib.hid (HR0z.out (by simp))
          go_wp2_with fail
          go_ret
          exact ⟨ret_E HRA.out.symm, HB0.out.trans (HBD.out.mono HB0.out.size)⟩
end Go.Proofs.YtlgdilpmdoofiaaDoor
