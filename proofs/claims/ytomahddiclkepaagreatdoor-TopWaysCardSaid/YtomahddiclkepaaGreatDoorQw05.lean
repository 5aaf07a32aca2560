/- Part of the proof. -/
import Derived.Test.YtomahddiclkepaaGreatDoorQw00
import Derived.Test.YtomahddiclkepaaGreatDoorQw04
import Derived.Deep.RegionHeld3
import Derived.Test.YtomahddiclkepaaGreatDoorQw01
import Derived.Test.YtomahddiclkepaaGreatDoorCiv3a
set_option maxHeartbeats 20000000
set_option maxRecDepth 1000000
set_option linter.unusedVariables false
set_option linter.unusedSimpArgs false
namespace Go.Proofs.YtomahddiclkepaaGreatDoor
open Go.RowKit Go.Joins
open Classical
theorem link_any (b : Bk) (rv zv lv : Value) (cb k : Nat) (w : World) (hC : ChkBx w cb rv zv lv) (hB : BookAt w.heap.size w rv zv lv b) (hk : k < b.links.length) (hm : MaxLen w) :
 Calls Tryz.prog 35 #[.pointer (some ⟨cb, 0, none⟩), .int .i64 k] w fun e w' => e = .returned (.int .i64 (linkChk b (b.links.take k) b.links[k])) /\ Below w.heap.size w w' := by
 have hcb : cb < w.heap.size := (Array.getElem?_eq_some_iff.mp hC).1
 have hl := hB.l
 obtain ⟨p, cap, rfl, hlen, hrow⟩ := hl
 obtain ⟨bb, o, rfl, hbl, hcs⟩ := hrow (List.ne_nil_of_length_pos (by omega))
 have hck := hcs k hk
 have hsz := hB.ls b.links[k] (List.getElem_mem hk)
 have HTK := qH (hB.l.take k (by omega))
 have HLL := qH hB.l
 obtain ⟨z, ez⟩ : ∃ z, b.links[k] = z := ⟨_, rfl⟩
 rw [ez] at hck hsz ⊢
 obtain ⟨nm, tt⟩ := z
 have c0 := hck 0 _ rfl
 have c1 := hck 1 _ rfl
 simp only at c0 c1
 rw [Nat.add_zero] at c0
 obtain ⟨R, eR⟩ : ∃ R, linkChk b (b.links.take k) ⟨nm, tt⟩ = R := ⟨_, rfl⟩
 have HR3 := qH (linkChk_3 b (b.links.take k) ⟨nm, tt⟩)
 have HR7 := qH (linkChk_7 b (b.links.take k) ⟨nm, tt⟩)
 have HR6 := qH (linkChk_6 b (b.links.take k) ⟨nm, tt⟩)
 have HR0 := qH (linkChk_0 b (b.links.take k) ⟨nm, tt⟩)
 rw [eR] at HR3 HR7 HR6 HR0 ⊢
 obtain ⟨V0, eV⟩ : ∃ V0, w.alloc (.cells #[.pointer (some ⟨cb, 0, none⟩)] 94) = V0 := ⟨_, rfl⟩
 have hv0 : Below w.heap.size w V0 := by rw [<- eV]; exact (Below.refl _ _).alloc (Nat.le_refl _) _
 have hvx : V0.heap[w.heap.size]? = some (.cells #[.pointer (some ⟨cb, 0, none⟩)] 94 (0, 0)) := by rw [<- eV]; exact heap_alloc_new w _
 have hvs : V0.heap.size = w.heap.size + 1 := by rw [<- eV]; simp
 have t0 : V0.cell? ⟨w.heap.size, 0, none⟩ = some (.pointer (some ⟨cb, 0, none⟩)) := (cell_of_row V0 _ 0 _ _ _ hvx).trans rfl
 have c0 := (hv0.cell (p := ⟨bb, o + k * 2, none⟩) hbl).trans c0
 have c1 := (hv0.cell (p := ⟨bb, o + k * 2 + 1, none⟩) hbl).trans c1
 have y2 := (cell_of_row V0 cb 2 _ _ _ (hC.below hv0 hcb)).trans rfl
 obtain ⟨W0, eW⟩ : ∃ W0, V0.alloc (.cells #[.string nm, .string tt] 91) = W0 := ⟨_, rfl⟩
 have hw0 : Below V0.heap.size V0 W0 := by rw [<- eW]; exact (Below.refl _ _).alloc (Nat.le_refl _) _
 have hbx : W0.heap[V0.heap.size]? = some (.cells #[.string nm, .string tt] 91 (0, 0)) := by rw [<- eW]; exact heap_alloc_new V0 _
 have hws : W0.heap.size = V0.heap.size + 1 := by rw [<- eW]; simp
 have hb0 : Below w.heap.size w W0 := hv0.trans (hw0.mono hv0.size)
 have x0 := (cell_of_row W0 _ 0 _ _ _ hbx).trans rfl
 have x1 := (cell_of_row W0 _ 1 _ _ _ hbx).trans rfl
 have t0w := (hw0.cell (p := ⟨w.heap.size, 0, none⟩) (by show w.heap.size < _; omega)).trans t0
 have y2w := (cell_of_row W0 cb 2 _ _ _ (hC.below hb0 hcb)).trans rfl
 rw [hvs] at x0 x1
 have hl1 : w.heap.size + 1 < W0.heap.size := by omega
 have hl2 : w.heap.size < W0.heap.size := by omega
 have hl3 : cb < W0.heap.size := by omega
 have KS : Hid (∀ wx, Below W0.heap.size W0 wx -> (Below W0.heap.size W0 wx /\ wx.cell? ⟨w.heap.size, 0, none⟩ = some (.pointer (some ⟨cb, 0, none⟩)) /\ wx.cell? ⟨w.heap.size + 1, 0, none⟩ = some (.string nm) /\ wx.cell? ⟨w.heap.size + 1, 1, none⟩ = some (.string tt) /\ wx.cell? ⟨cb, 2, none⟩ = some (.slice (some ⟨bb, o, none⟩) b.links.length cap))) := by
  show ∀ wx, Below W0.heap.size W0 wx -> _
  exact fun wx hb => ⟨hb, (hb.cell (p := ⟨w.heap.size, 0, none⟩) hl2).trans t0w, (hb.cell (p := ⟨w.heap.size + 1, 0, none⟩) hl1).trans x0, (hb.cell (p := ⟨w.heap.size + 1, 1, none⟩) hl1).trans x1, (hb.cell (p := ⟨cb, 2, none⟩) hl3).trans y2w⟩
 have KR : Hid (∀ wx, (Below W0.heap.size W0 wx /\ wx.cell? ⟨w.heap.size, 0, none⟩ = some (.pointer (some ⟨cb, 0, none⟩)) /\ wx.cell? ⟨w.heap.size + 1, 0, none⟩ = some (.string nm) /\ wx.cell? ⟨w.heap.size + 1, 1, none⟩ = some (.string tt) /\ wx.cell? ⟨cb, 2, none⟩ = some (.slice (some ⟨bb, o, none⟩) b.links.length cap)) -> Below W0.heap.size W0 wx) := by
  show ∀ wx, _ -> Below W0.heap.size W0 wx
  exact fun wx h => h.1
 have hm0 := hm.below hb0
 have HZA := qH (fun (n : ByteArray) (W : World) (hb : Below W0.heap.size W0 W) => lkZone_any b _ zv _ cb w.heap.size n W ((hC.below hb0 hcb).below hb hl3) ((hb.cell (p := ⟨w.heap.size, 0, none⟩) hl2).trans t0w) (((hB.z.below hb0 (Nat.le_refl _)).below hb hb0.size).mono (Nat.le_trans hb0.size hb.size)))
 have HLK := qH (fun (n : ByteArray) (W : World) (hb : Below W0.heap.size W0 W) => lkLink_any (b.links.take k) _ n W (((HTK.out.below hb0 (Nat.le_refl _)).below hb hb0.size).mono (Nat.le_trans hb0.size hb.size)))
 have HLA := qH (fun (n : ByteArray) (W : World) (hb : Below W0.heap.size W0 W) => lkLink_any b.links _ n W (((HLL.out.below hb0 (Nat.le_refl _)).below hb hb0.size).mono (Nat.le_trans hb0.size hb.size)))
 have HNM := qH (fun W => isName_any nm W (by have := hsz.1; simp only at this; unfold maxLen; omega))
 have HNT := qH (fun W => isName_any tt W (by have := hsz.2; simp only at this; unfold maxLen; omega))
 have HEV := qH eV
 have HEW := qH eW
 have HB0 := qH hb0
 have kz : (k : Int) < (b.links.length : Int) := by omega
 have kz2 : (k : Int) <= (cap : Int) := by omega
 have hvlt : w.heap.size < V0.heap.size := by omega
 have hcv : cb < V0.heap.size := by omega
 have HVS := qH hvs
 clear eV eW hb0 hv0 hw0 hC hm hcs hck hrow hB hsz hbx ez eR HTK HLL hvx hm0 t0w y2w hws
 go_enter Tryz.func35, Tryz.ntmps35
 go_upto_region 1 with fail
 rw [HEV.out]
 go_upto_region 4 with fail
 rw [HEW.out]
 obtain ⟨N, eN⟩ : ∃ N, nameB nm = N := ⟨_, rfl⟩
 obtain ⟨M, eM⟩ : ∃ M, nameB tt = M := ⟨_, rfl⟩
 rw [eN] at HNM
 rw [eM] at HNT
 have HN := qH eN
 have HM := qH eM
 clear eN eM
 cases N with
 | false =>
  have HRA := qH (HR3.out (Or.inl HN.out))
  go_wp2_with fail
  refine (HNM.out _).mono ?_
  rintro e w' ⟨rfl, rfl⟩
  go_wp2_with fail
  go_ret
  exact ⟨ret_E HRA.out.symm, HB0.out⟩
 | true =>
 cases M with
 | false =>
  have HRA := qH (HR3.out (Or.inr HM.out))
  go_wp2_with fail
  refine (HNM.out _).mono ?_
  rintro e w' ⟨rfl, rfl⟩
  go_wp2_with fail
  refine (HNT.out _).mono ?_
  rintro e w' ⟨rfl, rfl⟩
  go_wp2_with fail
  go_ret
  exact ⟨ret_E HRA.out.symm, HB0.out⟩
 | true =>
 go_wp2_with fail
 refine (HNM.out _).mono ?_
 rintro e w' ⟨rfl, rfl⟩
 go_wp2_with fail
 refine (HNT.out _).mono ?_
 rintro e w' ⟨rfl, rfl⟩
 clear HNM HNT HR3
 have H1 := qH (HZA.out nm)
 have H2 := qH (HLK.out nm)
 have H3 := qH (HZA.out tt)
 have H4 := qH (HLA.out tt)
 have HR7' := qH (HR7.out HN.out HM.out)
 have HR6' := qH (HR6.out HN.out HM.out)
 have HR0' := qH (HR0.out HN.out HM.out)
 clear HZA HLK HLA HR7 HR6 HR0
 change Hid (isZone b nm = true \/ isLink (b.links.take k) nm = true -> R = 7) at HR7'
 change Hid (¬ (isZone b nm = true \/ isLink (b.links.take k) nm = true) -> isZone b tt = false /\ isLink b.links tt = false -> R = 6) at HR6'
 change Hid (¬ (isZone b nm = true \/ isLink (b.links.take k) nm = true) -> ¬ (isZone b tt = false /\ isLink b.links tt = false) -> R = 0) at HR0'
 obtain ⟨A, eA⟩ : ∃ A, isZone b nm = A := ⟨_, rfl⟩
 obtain ⟨B, eB⟩ : ∃ B, isLink (b.links.take k) nm = B := ⟨_, rfl⟩
 obtain ⟨C, eC⟩ : ∃ C, isZone b tt = C := ⟨_, rfl⟩
 obtain ⟨D, eD⟩ : ∃ D, isLink b.links tt = D := ⟨_, rfl⟩
 rw [eA] at H1
 rw [eB] at H2
 rw [eC] at H3
 rw [eD] at H4
 rw [eA, eB] at HR7'
 rw [eA, eB, eC, eD] at HR6' HR0'
 clear eA eB eC eD
 have hb00 : Below W0.heap.size W0 W0 := Below.refl _ _
 have HB00 := qH hb00
 clear hb00
 clear x0 x1 y2 t0 c0 c1
 go_upto_region 6 with fail
 go_cut [28] (fun s28 wx => s28 = .bool (A || B) /\ Below W0.heap.size W0 wx)
 case first =>
  cases A with
  | true =>
   refine wp_region_held_drew (S := fun wx => Below W0.heap.size W0 wx /\ wx.cell? ⟨w.heap.size, 0, none⟩ = some (.pointer (some ⟨cb, 0, none⟩)) /\ wx.cell? ⟨w.heap.size + 1, 0, none⟩ = some (.string nm) /\ wx.cell? ⟨w.heap.size + 1, 1, none⟩ = some (.string tt) /\ wx.cell? ⟨cb, 2, none⟩ = some (.slice (some ⟨bb, o, none⟩) b.links.length cap)) (by kernel_rfl) (KS.out _ (by first | exact HB00.out | exact HB00.out.drew)) (fun hHeld => ?_)
   refine' wpAnyH_take (i := 0) (oi := _) (v := _) ?zhi0 (by kernel_rfl) ?zhf0 ?zhr0 ?zhQ0 ?zhy0 (by assumption) ?zrest0
   case zhi0 => (simp only [List.getElem?_toArray, List.getElem?_cons_zero, List.getElem?_cons_succ]; try rfl)
   case zhf0 => kernel_rfl
   case zhr0 => kernel_rfl
   case zhQ0 => exact fun _ _ _ h => h
   case zhy0 => (refine Or.inl ⟨by rfl, ?_⟩; intro w hSw; (try dsimp only at hSw); go_simp; (try with_reducible rfl))
   try simp only [Act.put, List.setIfInBounds_toArray, List.set_cons_zero, List.set_cons_succ]
   refine' wpAnyH_take (i := 1) (oi := _) (v := _) ?zhi1 (by kernel_rfl) ?zhf1 ?zhr1 ?zhQ1 ?zhy1 (by assumption) ?zrest1
   case zhi1 => (simp only [List.getElem?_toArray, List.getElem?_cons_zero, List.getElem?_cons_succ]; try rfl)
   case zhf1 => kernel_rfl
   case zhr1 => kernel_rfl
   case zhQ1 => exact fun _ _ _ h => h
   case zhy1 => (refine Or.inl ⟨by rfl, ?_⟩; intro w hSw; (try dsimp only at hSw); go_simp; (try with_reducible rfl))
   try simp only [Act.put, List.setIfInBounds_toArray, List.set_cons_zero, List.set_cons_succ]
   refine' wpAnyH_take (i := 2) (oi := _) (v := _) ?zhi2 (by kernel_rfl) ?zhf2 ?zhr2 ?zhQ2 ?zhy2 (by assumption) ?zrest2
   case zhi2 => (simp only [List.getElem?_toArray, List.getElem?_cons_zero, List.getElem?_cons_succ]; try rfl)
   case zhf2 => kernel_rfl
   case zhr2 => kernel_rfl
   case zhQ2 => exact fun _ _ _ h => h
   case zhy2 => (refine Or.inl ⟨by rfl, ?_⟩; intro w hSw; (try dsimp only at hSw); go_simp; (try with_reducible rfl))
   try simp only [Act.put, List.setIfInBounds_toArray, List.set_cons_zero, List.set_cons_succ]
   refine wpAnyH_ready (rs := [3]) (by kernel_rfl) (by simp) ?_
   refine AllReadyH.cons (by simp only [List.getElem?_toArray, List.getElem?_cons_zero, List.getElem?_cons_succ]; rfl) (fun K hK => ?_) AllReadyH.nil
   go_simp
   go_at_call 84
   refine (H1.out _ (KR.out _ (by assumption))).mono ?_
   rintro e w2 ⟨rfl, hb2⟩
   have hB2 := ((KR.out _ (by assumption)).trans (hb2.mono (KR.out _ (by assumption)).size))
   clear hb2
   try go_wp2_with fail
   refine hK.out _ _ (KS.out _ hB2) (fun hHeld2 => ?_)
   clear hK K
   try simp only [Act.put, List.setIfInBounds_toArray, List.set_cons_zero, List.set_cons_succ]
   refine' wpAnyH_take (i := 4) (oi := _) (v := _) ?zhi4 (by kernel_rfl) ?zhf4 ?zhr4 ?zhQ4 ?zhy4 (by assumption) ?zrest4
   case zhi4 => (simp only [List.getElem?_toArray, List.getElem?_cons_zero, List.getElem?_cons_succ]; try rfl)
   case zhf4 => kernel_rfl
   case zhr4 => kernel_rfl
   case zhQ4 => exact fun _ _ _ h => h
   case zhy4 => (refine Or.inl ⟨by rfl, ?_⟩; intro w hSw; (try dsimp only at hSw); go_simp; (try with_reducible rfl))
   try simp only [Act.put, List.setIfInBounds_toArray, List.set_cons_zero, List.set_cons_succ]
   refine' wpAnyH_take (i := 5) (oi := _) (v := undef) ?zhi5 (by kernel_rfl) ?zhf5 ?zhr5 ?zhQ5 ?zhy5 (by assumption) ?zrest5
   case zhi5 => (simp only [List.getElem?_toArray, List.getElem?_cons_zero, List.getElem?_cons_succ]; try rfl)
   case zhf5 => kernel_rfl
   case zhr5 => kernel_rfl
   case zhQ5 => exact fun _ _ _ h => h
   case zhy5 => exact Or.inr ⟨by rfl, rfl⟩
   try simp only [Act.put, List.setIfInBounds_toArray, List.set_cons_zero, List.set_cons_succ]
   refine' wpAnyH_take (i := 6) (oi := _) (v := undef) ?zhi6 (by kernel_rfl) ?zhf6 ?zhr6 ?zhQ6 ?zhy6 (by assumption) ?zrest6
   case zhi6 => (simp only [List.getElem?_toArray, List.getElem?_cons_zero, List.getElem?_cons_succ]; try rfl)
   case zhf6 => kernel_rfl
   case zhr6 => kernel_rfl
   case zhQ6 => exact fun _ _ _ h => h
   case zhy6 => exact Or.inr ⟨by rfl, rfl⟩
   try simp only [Act.put, List.setIfInBounds_toArray, List.set_cons_zero, List.set_cons_succ]
   refine' wpAnyH_take (i := 7) (oi := _) (v := undef) ?zhi7 (by kernel_rfl) ?zhf7 ?zhr7 ?zhQ7 ?zhy7 (by assumption) ?zrest7
   case zhi7 => (simp only [List.getElem?_toArray, List.getElem?_cons_zero, List.getElem?_cons_succ]; try rfl)
   case zhf7 => kernel_rfl
   case zhr7 => kernel_rfl
   case zhQ7 => exact fun _ _ _ h => h
   case zhy7 => exact Or.inr ⟨by rfl, rfl⟩
   try simp only [Act.put, List.setIfInBounds_toArray, List.set_cons_zero, List.set_cons_succ]
   refine' wpAnyH_take (i := 8) (oi := _) (v := undef) ?zhi8 (by kernel_rfl) ?zhf8 ?zhr8 ?zhQ8 ?zhy8 (by assumption) ?zrest8
   case zhi8 => (simp only [List.getElem?_toArray, List.getElem?_cons_zero, List.getElem?_cons_succ]; try rfl)
   case zhf8 => kernel_rfl
   case zhr8 => kernel_rfl
   case zhQ8 => exact fun _ _ _ h => h
   case zhy8 => exact Or.inr ⟨by rfl, rfl⟩
   try simp only [Act.put, List.setIfInBounds_toArray, List.set_cons_zero, List.set_cons_succ]
   refine' wpAnyH_take (i := 9) (oi := _) (v := undef) ?zhi9 (by kernel_rfl) ?zhf9 ?zhr9 ?zhQ9 ?zhy9 (by assumption) ?zrest9
   case zhi9 => (simp only [List.getElem?_toArray, List.getElem?_cons_zero, List.getElem?_cons_succ]; try rfl)
   case zhf9 => kernel_rfl
   case zhr9 => kernel_rfl
   case zhQ9 => exact fun _ _ _ h => h
   case zhy9 => exact Or.inr ⟨by rfl, rfl⟩
   try simp only [Act.put, List.setIfInBounds_toArray, List.set_cons_zero, List.set_cons_succ]
   refine' wpAnyH_take (i := 10) (oi := _) (v := undef) ?zhi10 (by kernel_rfl) ?zhf10 ?zhr10 ?zhQ10 ?zhy10 (by assumption) ?zrest10
   case zhi10 => (simp only [List.getElem?_toArray, List.getElem?_cons_zero, List.getElem?_cons_succ]; try rfl)
   case zhf10 => kernel_rfl
   case zhr10 => kernel_rfl
   case zhQ10 => exact fun _ _ _ h => h
   case zhy10 => exact Or.inr ⟨by rfl, rfl⟩
   try simp only [Act.put, List.setIfInBounds_toArray, List.set_cons_zero, List.set_cons_succ]
   refine' wpAnyH_take (i := 11) (oi := _) (v := undef) ?zhi11 (by kernel_rfl) ?zhf11 ?zhr11 ?zhQ11 ?zhy11 (by assumption) ?zrest11
   case zhi11 => (simp only [List.getElem?_toArray, List.getElem?_cons_zero, List.getElem?_cons_succ]; try rfl)
   case zhf11 => kernel_rfl
   case zhr11 => kernel_rfl
   case zhQ11 => exact fun _ _ _ h => h
   case zhy11 => exact Or.inr ⟨by rfl, rfl⟩
   try simp only [Act.put, List.setIfInBounds_toArray, List.set_cons_zero, List.set_cons_succ]
   refine' wpAnyH_take (i := 12) (oi := _) (v := undef) ?zhi12 (by kernel_rfl) ?zhf12 ?zhr12 ?zhQ12 ?zhy12 (by assumption) ?zrest12
   case zhi12 => (simp only [List.getElem?_toArray, List.getElem?_cons_zero, List.getElem?_cons_succ]; try rfl)
   case zhf12 => kernel_rfl
   case zhr12 => kernel_rfl
   case zhQ12 => exact fun _ _ _ h => h
   case zhy12 => exact Or.inr ⟨by rfl, rfl⟩
   try simp only [Act.put, List.setIfInBounds_toArray, List.set_cons_zero, List.set_cons_succ]
   refine' wpAnyH_take (i := 13) (oi := _) (v := undef) ?zhi13 (by kernel_rfl) ?zhf13 ?zhr13 ?zhQ13 ?zhy13 (by assumption) ?zrest13
   case zhi13 => (simp only [List.getElem?_toArray, List.getElem?_cons_zero, List.getElem?_cons_succ]; try rfl)
   case zhf13 => kernel_rfl
   case zhr13 => kernel_rfl
   case zhQ13 => exact fun _ _ _ h => h
   case zhy13 => exact Or.inr ⟨by rfl, rfl⟩
   try simp only [Act.put, List.setIfInBounds_toArray, List.set_cons_zero, List.set_cons_succ]
   refine' wpAnyH_take (i := 14) (oi := _) (v := undef) ?zhi14 (by kernel_rfl) ?zhf14 ?zhr14 ?zhQ14 ?zhy14 (by assumption) ?zrest14
   case zhi14 => (simp only [List.getElem?_toArray, List.getElem?_cons_zero, List.getElem?_cons_succ]; try rfl)
   case zhf14 => kernel_rfl
   case zhr14 => kernel_rfl
   case zhQ14 => exact fun _ _ _ h => h
   case zhy14 => exact Or.inr ⟨by rfl, rfl⟩
   try simp only [Act.put, List.setIfInBounds_toArray, List.set_cons_zero, List.set_cons_succ]
   refine' wpAnyH_take (i := 15) (oi := _) (v := undef) ?zhi15 (by kernel_rfl) ?zhf15 ?zhr15 ?zhQ15 ?zhy15 (by assumption) ?zrest15
   case zhi15 => (simp only [List.getElem?_toArray, List.getElem?_cons_zero, List.getElem?_cons_succ]; try rfl)
   case zhf15 => kernel_rfl
   case zhr15 => kernel_rfl
   case zhQ15 => exact fun _ _ _ h => h
   case zhy15 => exact Or.inr ⟨by rfl, rfl⟩
   try simp only [Act.put, List.setIfInBounds_toArray, List.set_cons_zero, List.set_cons_succ]
   refine' wpAnyH_take (i := 16) (oi := _) (v := _) ?zhi16 (by kernel_rfl) ?zhf16 ?zhr16 ?zhQ16 ?zhy16 (by assumption) ?zrest16
   case zhi16 => (simp only [List.getElem?_toArray, List.getElem?_cons_zero, List.getElem?_cons_succ]; try rfl)
   case zhf16 => kernel_rfl
   case zhr16 => kernel_rfl
   case zhQ16 => exact fun _ _ _ h => h
   case zhy16 => (refine Or.inl ⟨by rfl, ?_⟩; intro w hSw; (try dsimp only at hSw); go_simp; (try with_reducible rfl))
   try simp only [Act.put, List.setIfInBounds_toArray, List.set_cons_zero, List.set_cons_succ]
   refine' wpAnyH_take (i := 17) (oi := _) (v := _) ?zhi17 (by kernel_rfl) ?zhf17 ?zhr17 ?zhQ17 ?zhy17 (by assumption) ?zrest17
   case zhi17 => (simp only [List.getElem?_toArray, List.getElem?_cons_zero, List.getElem?_cons_succ]; try rfl)
   case zhf17 => kernel_rfl
   case zhr17 => kernel_rfl
   case zhQ17 => exact fun _ _ _ h => h
   case zhy17 => (refine Or.inl ⟨by rfl, ?_⟩; intro w hSw; (try dsimp only at hSw); go_simp; (try with_reducible rfl))
   try simp only [Act.put, List.setIfInBounds_toArray, List.set_cons_zero, List.set_cons_succ]
   refine wpAnyH_done (by kernel_rfl) ?_ _
   all_goals go_wp2_with fail
   all_goals go_meet
   all_goals exact ⟨rfl, KR.out _ (by assumption)⟩
  | false =>
   go_region_held3 (fun wx => Below W0.heap.size W0 wx /\ wx.cell? ⟨w.heap.size, 0, none⟩ = some (.pointer (some ⟨cb, 0, none⟩)) /\ wx.cell? ⟨w.heap.size + 1, 0, none⟩ = some (.string nm) /\ wx.cell? ⟨w.heap.size + 1, 1, none⟩ = some (.string tt) /\ wx.cell? ⟨cb, 2, none⟩ = some (.slice (some ⟨bb, o, none⟩) b.links.length cap)) ((refine KS.out _ ?_; repeat (first | (with_reducible assumption) | (with_reducible exact HB00.out) | (with_reducible exact Below.refl _ _) | (with_reducible refine Below.drew ?_))))
    (first
      | (go_at_call 84; refine (H1.out _ (KR.out _ (by assumption))).mono ?_; rintro e w2 ⟨rfl, hb2⟩; have hB2 := ((KR.out _ (by assumption)).trans (hb2.mono (KR.out _ (by assumption)).size)); clear hb2)
      | (go_at_call 86; refine (H2.out _ (KR.out _ (by assumption))).mono ?_; rintro e w2 ⟨rfl, hb2⟩; have hB2 := ((KR.out _ (by assumption)).trans (hb2.mono (KR.out _ (by assumption)).size)); clear hb2))
   all_goals go_wp2_with fail
   all_goals go_meet
   all_goals exact ⟨rfl, KR.out _ (by assumption)⟩
 case rest =>
  obtain ⟨rfl, hbc⟩ := hcut
  rename World => wd
  have HBC := qH hbc
  clear hbc
  obtain ⟨AB, eAB⟩ : ∃ AB, (A || B) = AB := ⟨_, rfl⟩
  rw [eAB]
  have hAB : (A = true \/ B = true) ↔ AB = true := by rw [<- eAB]; simp
  rw [hAB] at HR7' HR6' HR0'
  clear eAB hAB H1 H2
  cases AB with
  | true =>
   have HRA := qH (HR7'.out rfl)
   go_wp2_with fail
   go_ret
   exact ⟨ret_E HRA.out.symm, HB0.out.trans (HBC.out.mono HB0.out.size)⟩
  | false =>
   have HR6z := qH (HR6'.out (by simp))
   have HR0z := qH (HR0'.out (by simp))
   clear HR7' HR6' HR0'
   go_upto_region 8 with fail
   go_cut [46] (fun s46 wx => s46 = .bool (!C && !D) /\ Below W0.heap.size W0 wx)
   case first =>
    cases C with
    | true =>
     refine wp_region_held_drew (S := fun wx => Below W0.heap.size W0 wx /\ wx.cell? ⟨w.heap.size, 0, none⟩ = some (.pointer (some ⟨cb, 0, none⟩)) /\ wx.cell? ⟨w.heap.size + 1, 0, none⟩ = some (.string nm) /\ wx.cell? ⟨w.heap.size + 1, 1, none⟩ = some (.string tt) /\ wx.cell? ⟨cb, 2, none⟩ = some (.slice (some ⟨bb, o, none⟩) b.links.length cap)) (by kernel_rfl) (KS.out _ (by first | exact HBC.out | exact HBC.out.drew)) (fun hHeld => ?_)
     refine' wpAnyH_take (i := 0) (oi := _) (v := _) ?yhi0 (by kernel_rfl) ?yhf0 ?yhr0 ?yhQ0 ?yhy0 (by assumption) ?yrest0
     case yhi0 => (simp only [List.getElem?_toArray, List.getElem?_cons_zero, List.getElem?_cons_succ]; try rfl)
     case yhf0 => kernel_rfl
     case yhr0 => kernel_rfl
     case yhQ0 => exact fun _ _ _ h => h
     case yhy0 => (refine Or.inl ⟨by rfl, ?_⟩; intro w hSw; (try dsimp only at hSw); go_simp; (try with_reducible rfl))
     try simp only [Act.put, List.setIfInBounds_toArray, List.set_cons_zero, List.set_cons_succ]
     refine' wpAnyH_take (i := 1) (oi := _) (v := _) ?yhi1 (by kernel_rfl) ?yhf1 ?yhr1 ?yhQ1 ?yhy1 (by assumption) ?yrest1
     case yhi1 => (simp only [List.getElem?_toArray, List.getElem?_cons_zero, List.getElem?_cons_succ]; try rfl)
     case yhf1 => kernel_rfl
     case yhr1 => kernel_rfl
     case yhQ1 => exact fun _ _ _ h => h
     case yhy1 => (refine Or.inl ⟨by rfl, ?_⟩; intro w hSw; (try dsimp only at hSw); go_simp; (try with_reducible rfl))
     try simp only [Act.put, List.setIfInBounds_toArray, List.set_cons_zero, List.set_cons_succ]
     refine' wpAnyH_take (i := 2) (oi := _) (v := _) ?yhi2 (by kernel_rfl) ?yhf2 ?yhr2 ?yhQ2 ?yhy2 (by assumption) ?yrest2
     case yhi2 => (simp only [List.getElem?_toArray, List.getElem?_cons_zero, List.getElem?_cons_succ]; try rfl)
     case yhf2 => kernel_rfl
     case yhr2 => kernel_rfl
     case yhQ2 => exact fun _ _ _ h => h
     case yhy2 => (refine Or.inl ⟨by rfl, ?_⟩; intro w hSw; (try dsimp only at hSw); go_simp; (try with_reducible rfl))
     try simp only [Act.put, List.setIfInBounds_toArray, List.set_cons_zero, List.set_cons_succ]
     refine wpAnyH_ready (rs := [3]) (by kernel_rfl) (by simp) ?_
     refine AllReadyH.cons (by simp only [List.getElem?_toArray, List.getElem?_cons_zero, List.getElem?_cons_succ]; rfl) (fun K hK => ?_) AllReadyH.nil
     go_simp
     go_at_call 84
     refine (H3.out _ (KR.out _ (by assumption))).mono ?_
     rintro e w2 ⟨rfl, hb2⟩
     have hB2 := ((KR.out _ (by assumption)).trans (hb2.mono (KR.out _ (by assumption)).size))
     clear hb2
     try go_wp2_with fail
     refine hK.out _ _ (KS.out _ hB2) (fun hHeld2 => ?_)
     clear hK K
     try simp only [Act.put, List.setIfInBounds_toArray, List.set_cons_zero, List.set_cons_succ]
     refine' wpAnyH_take (i := 4) (oi := _) (v := _) ?yhi4 (by kernel_rfl) ?yhf4 ?yhr4 ?yhQ4 ?yhy4 (by assumption) ?yrest4
     case yhi4 => (simp only [List.getElem?_toArray, List.getElem?_cons_zero, List.getElem?_cons_succ]; try rfl)
     case yhf4 => kernel_rfl
     case yhr4 => kernel_rfl
     case yhQ4 => exact fun _ _ _ h => h
     case yhy4 => (refine Or.inl ⟨by rfl, ?_⟩; intro w hSw; (try dsimp only at hSw); go_simp; (try with_reducible rfl))
     try simp only [Act.put, List.setIfInBounds_toArray, List.set_cons_zero, List.set_cons_succ]
     refine' wpAnyH_take (i := 5) (oi := _) (v := _) ?yhi5 (by kernel_rfl) ?yhf5 ?yhr5 ?yhQ5 ?yhy5 (by assumption) ?yrest5
     case yhi5 => (simp only [List.getElem?_toArray, List.getElem?_cons_zero, List.getElem?_cons_succ]; try rfl)
     case yhf5 => kernel_rfl
     case yhr5 => kernel_rfl
     case yhQ5 => exact fun _ _ _ h => h
     case yhy5 => (refine Or.inl ⟨by rfl, ?_⟩; intro w hSw; (try dsimp only at hSw); go_simp; (try with_reducible rfl))
     try simp only [Act.put, List.setIfInBounds_toArray, List.set_cons_zero, List.set_cons_succ]
     refine' wpAnyH_take (i := 6) (oi := _) (v := undef) ?yhi6 (by kernel_rfl) ?yhf6 ?yhr6 ?yhQ6 ?yhy6 (by assumption) ?yrest6
     case yhi6 => (simp only [List.getElem?_toArray, List.getElem?_cons_zero, List.getElem?_cons_succ]; try rfl)
     case yhf6 => kernel_rfl
     case yhr6 => kernel_rfl
     case yhQ6 => exact fun _ _ _ h => h
     case yhy6 => exact Or.inr ⟨by rfl, rfl⟩
     try simp only [Act.put, List.setIfInBounds_toArray, List.set_cons_zero, List.set_cons_succ]
     refine' wpAnyH_take (i := 7) (oi := _) (v := undef) ?yhi7 (by kernel_rfl) ?yhf7 ?yhr7 ?yhQ7 ?yhy7 (by assumption) ?yrest7
     case yhi7 => (simp only [List.getElem?_toArray, List.getElem?_cons_zero, List.getElem?_cons_succ]; try rfl)
     case yhf7 => kernel_rfl
     case yhr7 => kernel_rfl
     case yhQ7 => exact fun _ _ _ h => h
     case yhy7 => exact Or.inr ⟨by rfl, rfl⟩
     try simp only [Act.put, List.setIfInBounds_toArray, List.set_cons_zero, List.set_cons_succ]
     refine' wpAnyH_take (i := 8) (oi := _) (v := undef) ?yhi8 (by kernel_rfl) ?yhf8 ?yhr8 ?yhQ8 ?yhy8 (by assumption) ?yrest8
     case yhi8 => (simp only [List.getElem?_toArray, List.getElem?_cons_zero, List.getElem?_cons_succ]; try rfl)
     case yhf8 => kernel_rfl
     case yhr8 => kernel_rfl
     case yhQ8 => exact fun _ _ _ h => h
     case yhy8 => exact Or.inr ⟨by rfl, rfl⟩
     try simp only [Act.put, List.setIfInBounds_toArray, List.set_cons_zero, List.set_cons_succ]
     refine' wpAnyH_take (i := 9) (oi := _) (v := undef) ?yhi9 (by kernel_rfl) ?yhf9 ?yhr9 ?yhQ9 ?yhy9 (by assumption) ?yrest9
     case yhi9 => (simp only [List.getElem?_toArray, List.getElem?_cons_zero, List.getElem?_cons_succ]; try rfl)
     case yhf9 => kernel_rfl
     case yhr9 => kernel_rfl
     case yhQ9 => exact fun _ _ _ h => h
     case yhy9 => exact Or.inr ⟨by rfl, rfl⟩
     try simp only [Act.put, List.setIfInBounds_toArray, List.set_cons_zero, List.set_cons_succ]
     refine' wpAnyH_take (i := 10) (oi := _) (v := undef) ?yhi10 (by kernel_rfl) ?yhf10 ?yhr10 ?yhQ10 ?yhy10 (by assumption) ?yrest10
     case yhi10 => (simp only [List.getElem?_toArray, List.getElem?_cons_zero, List.getElem?_cons_succ]; try rfl)
     case yhf10 => kernel_rfl
     case yhr10 => kernel_rfl
     case yhQ10 => exact fun _ _ _ h => h
     case yhy10 => exact Or.inr ⟨by rfl, rfl⟩
     try simp only [Act.put, List.setIfInBounds_toArray, List.set_cons_zero, List.set_cons_succ]
     refine' wpAnyH_take (i := 11) (oi := _) (v := undef) ?yhi11 (by kernel_rfl) ?yhf11 ?yhr11 ?yhQ11 ?yhy11 (by assumption) ?yrest11
     case yhi11 => (simp only [List.getElem?_toArray, List.getElem?_cons_zero, List.getElem?_cons_succ]; try rfl)
     case yhf11 => kernel_rfl
     case yhr11 => kernel_rfl
     case yhQ11 => exact fun _ _ _ h => h
     case yhy11 => exact Or.inr ⟨by rfl, rfl⟩
     try simp only [Act.put, List.setIfInBounds_toArray, List.set_cons_zero, List.set_cons_succ]
     refine' wpAnyH_take (i := 12) (oi := _) (v := undef) ?yhi12 (by kernel_rfl) ?yhf12 ?yhr12 ?yhQ12 ?yhy12 (by assumption) ?yrest12
     case yhi12 => (simp only [List.getElem?_toArray, List.getElem?_cons_zero, List.getElem?_cons_succ]; try rfl)
     case yhf12 => kernel_rfl
     case yhr12 => kernel_rfl
     case yhQ12 => exact fun _ _ _ h => h
     case yhy12 => exact Or.inr ⟨by rfl, rfl⟩
     try simp only [Act.put, List.setIfInBounds_toArray, List.set_cons_zero, List.set_cons_succ]
     refine' wpAnyH_take (i := 13) (oi := _) (v := undef) ?yhi13 (by kernel_rfl) ?yhf13 ?yhr13 ?yhQ13 ?yhy13 (by assumption) ?yrest13
     case yhi13 => (simp only [List.getElem?_toArray, List.getElem?_cons_zero, List.getElem?_cons_succ]; try rfl)
     case yhf13 => kernel_rfl
     case yhr13 => kernel_rfl
     case yhQ13 => exact fun _ _ _ h => h
     case yhy13 => exact Or.inr ⟨by rfl, rfl⟩
     try simp only [Act.put, List.setIfInBounds_toArray, List.set_cons_zero, List.set_cons_succ]
     refine' wpAnyH_take (i := 14) (oi := _) (v := undef) ?yhi14 (by kernel_rfl) ?yhf14 ?yhr14 ?yhQ14 ?yhy14 (by assumption) ?yrest14
     case yhi14 => (simp only [List.getElem?_toArray, List.getElem?_cons_zero, List.getElem?_cons_succ]; try rfl)
     case yhf14 => kernel_rfl
     case yhr14 => kernel_rfl
     case yhQ14 => exact fun _ _ _ h => h
     case yhy14 => exact Or.inr ⟨by rfl, rfl⟩
     try simp only [Act.put, List.setIfInBounds_toArray, List.set_cons_zero, List.set_cons_succ]
     refine' wpAnyH_take (i := 15) (oi := _) (v := undef) ?yhi15 (by kernel_rfl) ?yhf15 ?yhr15 ?yhQ15 ?yhy15 (by assumption) ?yrest15
     case yhi15 => (simp only [List.getElem?_toArray, List.getElem?_cons_zero, List.getElem?_cons_succ]; try rfl)
     case yhf15 => kernel_rfl
     case yhr15 => kernel_rfl
     case yhQ15 => exact fun _ _ _ h => h
     case yhy15 => exact Or.inr ⟨by rfl, rfl⟩
     try simp only [Act.put, List.setIfInBounds_toArray, List.set_cons_zero, List.set_cons_succ]
     refine' wpAnyH_take (i := 16) (oi := _) (v := _) ?yhi16 (by kernel_rfl) ?yhf16 ?yhr16 ?yhQ16 ?yhy16 (by assumption) ?yrest16
     case yhi16 => (simp only [List.getElem?_toArray, List.getElem?_cons_zero, List.getElem?_cons_succ]; try rfl)
     case yhf16 => kernel_rfl
     case yhr16 => kernel_rfl
     case yhQ16 => exact fun _ _ _ h => h
     case yhy16 => (refine Or.inl ⟨by rfl, ?_⟩; intro w hSw; (try dsimp only at hSw); go_simp; (try with_reducible rfl))
     try simp only [Act.put, List.setIfInBounds_toArray, List.set_cons_zero, List.set_cons_succ]
     refine' wpAnyH_take (i := 17) (oi := _) (v := _) ?yhi17 (by kernel_rfl) ?yhf17 ?yhr17 ?yhQ17 ?yhy17 (by assumption) ?yrest17
     case yhi17 => (simp only [List.getElem?_toArray, List.getElem?_cons_zero, List.getElem?_cons_succ]; try rfl)
     case yhf17 => kernel_rfl
     case yhr17 => kernel_rfl
     case yhQ17 => exact fun _ _ _ h => h
     case yhy17 => (refine Or.inl ⟨by rfl, ?_⟩; intro w hSw; (try dsimp only at hSw); go_simp; (try with_reducible rfl))
     try simp only [Act.put, List.setIfInBounds_toArray, List.set_cons_zero, List.set_cons_succ]
     refine wpAnyH_done (by kernel_rfl) ?_ _
     all_goals go_wp2_with fail
     all_goals go_meet
     all_goals exact ⟨rfl, KR.out _ (by assumption)⟩
    | false =>
     go_region_held3 (fun wx => Below W0.heap.size W0 wx /\ wx.cell? ⟨w.heap.size, 0, none⟩ = some (.pointer (some ⟨cb, 0, none⟩)) /\ wx.cell? ⟨w.heap.size + 1, 0, none⟩ = some (.string nm) /\ wx.cell? ⟨w.heap.size + 1, 1, none⟩ = some (.string tt) /\ wx.cell? ⟨cb, 2, none⟩ = some (.slice (some ⟨bb, o, none⟩) b.links.length cap)) ((refine KS.out _ ?_; repeat (first | (with_reducible assumption) | (with_reducible exact HBC.out) | (with_reducible exact Below.refl _ _) | (with_reducible refine Below.drew ?_))))
     (first
       | (go_at_call 84; refine (H3.out _ (KR.out _ (by assumption))).mono ?_; rintro e w2 ⟨rfl, hb2⟩; have hB2 := ((KR.out _ (by assumption)).trans (hb2.mono (KR.out _ (by assumption)).size)); clear hb2)
       | (go_at_call 86; refine (H4.out _ (KR.out _ (by assumption))).mono ?_; rintro e w2 ⟨rfl, hb2⟩; have hB2 := ((KR.out _ (by assumption)).trans (hb2.mono (KR.out _ (by assumption)).size)); clear hb2))
     all_goals go_wp2_with fail
     all_goals go_meet
     all_goals exact ⟨rfl, KR.out _ (by assumption)⟩
   case rest =>
    obtain ⟨rfl, hbd⟩ := hcut
    have HBD := qH hbd
    clear hbd
    obtain ⟨CD, eCD⟩ : ∃ CD, (!C && !D) = CD := ⟨_, rfl⟩
    rw [eCD]
    have hCD : (C = false /\ D = false) ↔ CD = true := by rw [<- eCD]; simp
    rw [hCD] at HR6z HR0z
    clear eCD hCD
    cases CD with
    | true =>
     have HRA := qH (HR6z.out rfl)
     go_wp2_with fail
     go_ret
     exact ⟨ret_E HRA.out.symm, HB0.out.trans (HBD.out.mono HB0.out.size)⟩
    | false =>
     have HRA := qH (HR0z.out (by simp))
     go_wp2_with fail
     go_ret
     exact ⟨ret_E HRA.out.symm, HB0.out.trans (HBD.out.mono HB0.out.size)⟩
def chkZ (b : Bk) (k : Nat) : Int := zoneChk b.rules (b.zones.take k) (b.zones[k]?.getD ⟨⟨#[]⟩, undef, []⟩)
def chkL (b : Bk) (k : Nat) : Int := linkChk b (b.links.take k) (b.links[k]?.getD ⟨⟨#[]⟩, ⟨#[]⟩⟩)
theorem chkZ_at (b : Bk) (k : Nat) (h : k < b.zones.length) : chkZ b k = zoneChk b.rules (b.zones.take k) b.zones[k] := by unfold chkZ; rw [List.getElem?_eq_getElem h]; rfl
theorem chkL_at (b : Bk) (k : Nat) (h : k < b.links.length) : chkL b k = linkChk b (b.links.take k) b.links[k] := by unfold chkL; rw [List.getElem?_eq_getElem h]; rfl
theorem bkChk_2 (b : Bk) (h : 40 < b.rules.length \/ 20 < b.zones.length \/ 20 < b.links.length) : bkChk b = 2 := by unfold bkChk; rw [if_pos h]
theorem bkChk_r (b : Bk) (h : ¬ (40 < b.rules.length \/ 20 < b.zones.length \/ 20 < b.links.length)) (h1 : firstE ruChk b.rules ≠ 0) : bkChk b = firstE ruChk b.rules := by unfold bkChk; rw [if_neg h, if_pos h1]
theorem bkChk_z (b : Bk) (h : ¬ (40 < b.rules.length \/ 20 < b.zones.length \/ 20 < b.links.length)) (h1 : firstE ruChk b.rules = 0) (h2 : firstE (chkZ b) (List.range b.zones.length) ≠ 0) : bkChk b = firstE (chkZ b) (List.range b.zones.length) := by
 unfold bkChk
 rw [if_neg h, if_neg (by rw [h1]; simp)]
 exact if_pos h2
theorem bkChk_l (b : Bk) (h : ¬ (40 < b.rules.length \/ 20 < b.zones.length \/ 20 < b.links.length)) (h1 : firstE ruChk b.rules = 0) (h2 : firstE (chkZ b) (List.range b.zones.length) = 0) : bkChk b = firstE (chkL b) (List.range b.links.length) := by
 unfold bkChk
 rw [if_neg h, if_neg (by rw [h1]; simp)]
 exact if_neg (by intro h3; exact h3 h2)
end Go.Proofs.YtomahddiclkepaaGreatDoor
namespace Go.Proofs.YtomahddiclkepaaGreatDoor
open Go.RowKit Go.Joins
open Classical
theorem bkCheck_any (b : Bk) (rv zv lv : Value) (w : World) (hB : BookAt w.heap.size w rv zv lv b) (hm : MaxLen w) (ht : Tab10 w) :
 Calls Tryz.prog 10 #[.agg #[rv, zv, lv]] w fun e w' => e = .returned (.int .i64 (bkChk b)) /\ Below w.heap.size w w' := by
 have hr := hB.r
 have hz := hB.z
 have hl := hB.l
 obtain ⟨p1, c1, rfl, hlen1, hrow1⟩ := hr
 obtain ⟨p2, c2, rfl, hlen2, hrow2⟩ := hz
 obtain ⟨p3, c3, rfl, hlen3, hrow3⟩ := hl
 obtain ⟨R, eR⟩ : ∃ R, bkChk b = R := ⟨_, rfl⟩
 have HR2 := qH (bkChk_2 b)
 have HRr := qH (bkChk_r b)
 have HRz := qH (bkChk_z b)
 have HRl := qH (bkChk_l b)
 rw [eR] at HR2 HRr HRz HRl ⊢
 obtain ⟨W0, eW⟩ : ∃ W0, w.alloc (.cells #[.slice p1 b.rules.length c1, .slice p2 b.zones.length c2, .slice p3 b.links.length c3] 26) = W0 := ⟨_, rfl⟩
 have hb0 : Below w.heap.size w W0 := by rw [<- eW]; exact (Below.refl _ _).alloc (Nat.le_refl _) _
 have hbx : W0.heap[w.heap.size]? = some (.cells #[.slice p1 b.rules.length c1, .slice p2 b.zones.length c2, .slice p3 b.links.length c3] 26 (0, 0)) := by rw [<- eW]; exact heap_alloc_new w _
 have hl0 : w.heap.size < W0.heap.size := by rw [<- eW]; simp
 have x0 := (cell_of_row W0 _ 0 _ _ _ hbx).trans rfl
 have x1 := (cell_of_row W0 _ 1 _ _ _ hbx).trans rfl
 have x2 := (cell_of_row W0 _ 2 _ _ _ hbx).trans rfl
 have HEW := qH eW
 have HB0 := qH hb0
 have HBX := qH hbx
 have HBK := qH (hB.below hb0 (Nat.le_refl _))
 have HM0 := qH (hm.below hb0)
 have HT0 := qH (ht.below hb0)
 clear eW hb0 hbx hB hm ht hrow1 hrow2 hrow3 eR
 go_enter Tryz.func10, Tryz.ntmps10
 go_upto_region 1 with fail
 rw [HEW.out]
 by_cases hn1 : 40 < b.rules.length
 ·have g1 : (40 : Int) < (b.rules.length : Int) := by omega
  have HRA := qH (HR2.out (Or.inl hn1))
  go_wp2_with fail
  go_ret
  exact ⟨ret_E HRA.out.symm, HB0.out⟩
 have g1 : ¬ (40 : Int) < (b.rules.length : Int) := by omega
 by_cases hn2 : 20 < b.zones.length
 ·have g2 : (20 : Int) < (b.zones.length : Int) := by omega
  have HRA := qH (HR2.out (Or.inr (Or.inl hn2)))
  go_wp2_with fail
  go_ret
  exact ⟨ret_E HRA.out.symm, HB0.out⟩
 have g2 : ¬ (20 : Int) < (b.zones.length : Int) := by omega
 by_cases hn3 : 20 < b.links.length
 ·have g3 : (20 : Int) < (b.links.length : Int) := by omega
  have HRA := qH (HR2.out (Or.inr (Or.inr hn3)))
  go_wp2_with fail
  go_ret
  exact ⟨ret_E HRA.out.symm, HB0.out⟩
 have g3 : ¬ (20 : Int) < (b.links.length : Int) := by omega
 have hno : ¬ (40 < b.rules.length \/ 20 < b.zones.length \/ 20 < b.links.length) := by omega
 have HRr' := qH (HRr.out hno)
 have HRz' := qH (HRz.out hno)
 have HRl' := qH (HRl.out hno)
 clear HRr HRz HRl HR2 hno
 have HX0 := qH x0
 have HX1 := qH x1
 have HX2 := qH x2
 go_wp2_with fail
 go_loopw [30] (fun i wr => ∃ k : Nat, k <= b.rules.length /\ i = .int .i64 k /\ Hid (Below W0.heap.size W0 wr) /\ Hid (firstE ruChk b.rules = firstE ruChk (b.rules.drop k))) (fun i _ => b.rules.length - (intOf i).toNat)
 case atStart => exact ⟨0, Nat.zero_le _, rfl, qH (Below.refl _ _), rfl⟩
 case round =>
  obtain ⟨k, hk, rfl, HB, HF⟩ := hrel
  have hzr := HB.out.size
  have x0 := (HB.out.cell (p := ⟨w.heap.size, 0, none⟩) hl0).trans HX0.out
  have x1 := (HB.out.cell (p := ⟨w.heap.size, 1, none⟩) hl0).trans HX1.out
  have x2 := (HB.out.cell (p := ⟨w.heap.size, 2, none⟩) hl0).trans HX2.out
  have hl1 : w.heap.size < wr.heap.size := by omega
  by_cases hlt : k < b.rules.length
  ·obtain ⟨q1, d1, eq1, hlenq, hrow⟩ := HBK.out.r
   injection eq1 with e1 e2 e3
   subst e1; subst e3
   obtain ⟨bb, o, rfl, hbl, hcs⟩ := hrow (List.ne_nil_of_length_pos (by omega))
   have hck := hcs k hlt
   obtain ⟨hs1, hs2⟩ := HBK.out.rs b.rules[k] (List.getElem_mem hlt)
   have HC := qH (fun W => ruCheck_any b.rules[k] W (by unfold maxLen; omega) (by unfold maxLen; omega))
   obtain ⟨q, eq⟩ : ∃ q, b.rules[k] = q := ⟨_, rfl⟩
   rw [eq] at hck hs1 hs2 HC
   have EQ := qH eq
   clear eq hcs hrow
   obtain ⟨E, eE⟩ : ∃ E, ruChk q = E := ⟨_, rfl⟩
   rw [eE] at HC
   have HV := qH eE
   clear eE
   obtain ⟨nm, yf, yt, mo, dk, dw, dn, tm, ck, sv', lt⟩ := q
   have up : ∀ j u, W0.cell? ⟨bb, o + k * 11 + j, none⟩ = some u -> wr.cell? ⟨bb, o + k * 11 + j, none⟩ = some u := fun j u h => (HB.out.cell (p := ⟨bb, o + k * 11 + j, none⟩) (show bb < W0.heap.size by omega)).trans h
   have z0 := up 0 _ (hck 0 _ rfl)
   have z1 := up 1 _ (hck 1 _ rfl)
   have z2 := up 2 _ (hck 2 _ rfl)
   have z3 := up 3 _ (hck 3 _ rfl)
   have z4 := up 4 _ (hck 4 _ rfl)
   have z5 := up 5 _ (hck 5 _ rfl)
   have z6 := up 6 _ (hck 6 _ rfl)
   have z7 := up 7 _ (hck 7 _ rfl)
   have z8 := up 8 _ (hck 8 _ rfl)
   have z9 := up 9 _ (hck 9 _ rfl)
   have z10 := up 10 _ (hck 10 _ rfl)
   clear up hck
   rw [Nat.add_zero] at z0
   have HBn := qH (HB.out.alloc HB.out.size (.cells #[.string nm, .int .i64 yf, .int .i64 yt, .int .i64 mo, .int .i64 dk, .int .i64 dw, .int .i64 dn, .int .i64 tm, .int .i64 ck, .int .i64 sv', .string lt] 87))
   change Hid (∀ W, Calls _ _ #[.agg #[.string nm, .int .i64 yf, .int .i64 yt, .int .i64 mo, .int .i64 dk, .int .i64 dw, .int .i64 dn, .int .i64 tm, .int .i64 ck, .int .i64 sv', .string lt]] W _) at HC
   go_wp2_with fail
   refine (HC.out _).mono ?_
   rintro e w3 ⟨rfl, hb3⟩
   have HB3 := qH (HBn.out.trans (hb3.mono HBn.out.size))
   clear hb3 HC
   by_cases hE : E = 0
   ·subst hE
    go_wp2_with fail
    go_roundw
    case rel => exact ⟨k + 1, by omega, by go_num, HB3, qH (firstE_drop ruChk b.rules k hlt (by rw [EQ.out]; exact HV.out) HF.out)⟩
    case measure => simp [intOf]; omega
   ·have hz : (E == 0) = false := by simpa using hE
    have hz2 : (!E == 0) = true := by rw [hz]; rfl
    have HK2 : Hid (R = E) := by
     show R = E
     have h1 := firstE_hit ruChk b.rules k hlt (by rw [EQ.out, HV.out]; exact hE) HF.out
     rw [HRr'.out (by rw [h1, EQ.out, HV.out]; exact hE), h1, EQ.out, HV.out]
    clear hE
    go_wp2_with fail
    go_ret
    exact ⟨ret_E HK2.out.symm, HB0.out.trans (HB3.out.mono HB0.out.size)⟩
  ·have hend := firstE_end ruChk b.rules k (by omega) HF.out
   have hkl : ¬ (k : Int) < (b.rules.length : Int) := by omega
   have HE1 := qH hend
   clear hend
   obtain ⟨W1, eW1⟩ : ∃ W1, wr.alloc (.cells #[.slice p1 b.rules.length c1, .slice p2 b.zones.length c2, .slice p3 b.links.length c3] 96) = W1 := ⟨_, rfl⟩
   have hb1 : Below W0.heap.size W0 W1 := by rw [<- eW1]; exact HB.out.alloc HB.out.size _
   have hcx : W1.heap[wr.heap.size]? = some (.cells #[.slice p1 b.rules.length c1, .slice p2 b.zones.length c2, .slice p3 b.links.length c3] 96 (0, 0)) := by rw [<- eW1]; exact heap_alloc_new wr _
   have hl3 : wr.heap.size < W1.heap.size := by rw [<- eW1]; simp
   have hl2 : w.heap.size < W1.heap.size := by omega
   have X1 := qH ((hb1.cell (p := ⟨w.heap.size, 1, none⟩) hl0).trans HX1.out)
   have X2 := qH ((hb1.cell (p := ⟨w.heap.size, 2, none⟩) hl0).trans HX2.out)
   have hC1 : ChkBx W1 wr.heap.size (.slice p1 b.rules.length c1) (.slice p2 b.zones.length c2) (.slice p3 b.links.length c3) := hcx
   have HC1 := qH hC1
   have HB1 := qH hb1
   have HBK1 := qH (HBK.out.below hb1 (by omega))
   have HW1 := qH eW1
   have HS1 := qH hb1.size
   have y1 := X1.out
   have y2 := X2.out
   clear hb1 hcx eW1 hC1
   go_upto_region 11 with fail
   rw [HW1.out]
   go_wp2_with fail
   go_loopw [46] (fun i wr => ∃ k : Nat, k <= b.zones.length /\ i = .int .i64 k /\ Hid (Below W1.heap.size W1 wr) /\ Hid (firstE (chkZ b) (List.range b.zones.length) = firstE (chkZ b) ((List.range b.zones.length).drop k))) (fun i _ => b.zones.length - (intOf i).toNat)
   case atStart => exact ⟨0, Nat.zero_le _, rfl, qH (Below.refl _ _), rfl⟩
   case round =>
    obtain ⟨j, hj, rfl, HBj, HFj⟩ := hrel
    rename World => wq
    have hzq := HBj.out.size
    have x1 := (HBj.out.cell (p := ⟨w.heap.size, 1, none⟩) hl2).trans X1.out
    have x2 := (HBj.out.cell (p := ⟨w.heap.size, 2, none⟩) hl2).trans X2.out
    by_cases hlt : j < b.zones.length
    ·have HC := qH (zone_any b _ _ _ wr.heap.size j wq (HC1.out.below HBj.out hl3) ⟨(HBK1.out.r.below HBj.out (by omega)).mono (by omega), (HBK1.out.z.below HBj.out (by omega)).mono (by omega), fun z hz => ((HBK1.out.e z hz).below HBj.out (by omega)).mono (by omega), (HBK1.out.l.below HBj.out (by omega)).mono (by omega), HBK1.out.rs, HBK1.out.zs, HBK1.out.ls⟩ hlt (HM0.out.below (HB1.out.trans (HBj.out.mono HB1.out.size))) (HT0.out.below (HB1.out.trans (HBj.out.mono HB1.out.size))))
     have HAT := qH (chkZ_at b j hlt)
     rw [<- HAT.out] at HC
     obtain ⟨E, eE⟩ : ∃ E, chkZ b j = E := ⟨_, rfl⟩
     rw [eE] at HC
     have HV := qH eE
     clear eE HAT
     go_wp2_with fail
     refine HC.out.mono ?_
     rintro e w3 ⟨rfl, hb3⟩
     have HB3 := qH (HBj.out.trans (hb3.mono HBj.out.size))
     clear hb3 HC
     by_cases hE : E = 0
     ·subst hE
      go_wp2_with fail
      go_roundw
      case rel => exact ⟨j + 1, by omega, by go_num, HB3, qH (firstE_drop (chkZ b) (List.range b.zones.length) j (by simpa using hlt) (by rw [List.getElem_range]; exact HV.out) HFj.out)⟩
      case measure => simp [intOf]; omega
     ·have hz : (E == 0) = false := by simpa using hE
      have hz2 : (!E == 0) = true := by rw [hz]; rfl
      have HK2 : Hid (R = E) := by
       show R = E
       have h1 := firstE_hit (chkZ b) (List.range b.zones.length) j (by simpa using hlt) (by rw [List.getElem_range, HV.out]; exact hE) HFj.out
       rw [HRz'.out HE1.out (by rw [h1, List.getElem_range, HV.out]; exact hE), h1, List.getElem_range, HV.out]
      clear hE
      go_wp2_with fail
      go_ret
      exact ⟨ret_E HK2.out.symm, HB0.out.trans ((HB1.out.trans (HB3.out.mono HB1.out.size)).mono HB0.out.size)⟩
    ·have hend2 := firstE_end (chkZ b) (List.range b.zones.length) j (by simp; omega) HFj.out
     have hkl2 : ¬ (j : Int) < (b.zones.length : Int) := by omega
     have HE2 := qH hend2
     have HBq := HBj
     have hltz : True := trivial
     clear hend2
     go_wp2_with fail
     go_loopw [59] (fun i wr => ∃ k : Nat, k <= b.links.length /\ i = .int .i64 k /\ Hid (Below W1.heap.size W1 wr) /\ Hid (firstE (chkL b) (List.range b.links.length) = firstE (chkL b) ((List.range b.links.length).drop k))) (fun i _ => b.links.length - (intOf i).toNat)
     case atStart => exact ⟨0, Nat.zero_le _, rfl, HBq, rfl⟩
     case round =>
      obtain ⟨m, hm', rfl, HBm, HFm⟩ := hrel
      rename World => wz
      have hzz := HBm.out.size
      have x1 := (HBm.out.cell (p := ⟨w.heap.size, 1, none⟩) hl2).trans X1.out
      have x2 := (HBm.out.cell (p := ⟨w.heap.size, 2, none⟩) hl2).trans X2.out
      by_cases hlt : m < b.links.length
      ·have HC := qH (link_any b _ _ _ wr.heap.size m wz (HC1.out.below HBm.out hl3) ⟨(HBK1.out.r.below HBm.out (by omega)).mono (by omega), (HBK1.out.z.below HBm.out (by omega)).mono (by omega), fun z hz => ((HBK1.out.e z hz).below HBm.out (by omega)).mono (by omega), (HBK1.out.l.below HBm.out (by omega)).mono (by omega), HBK1.out.rs, HBK1.out.zs, HBK1.out.ls⟩ hlt (HM0.out.below (HB1.out.trans (HBm.out.mono HB1.out.size))))
       have HAT := qH (chkL_at b m hlt)
       rw [<- HAT.out] at HC
       obtain ⟨E, eE⟩ : ∃ E, chkL b m = E := ⟨_, rfl⟩
       rw [eE] at HC
       have HV := qH eE
       clear eE HAT
       go_wp2_with fail
       refine HC.out.mono ?_
       rintro e w3 ⟨rfl, hb3⟩
       have HB3 := qH (HBm.out.trans (hb3.mono HBm.out.size))
       clear hb3 HC
       by_cases hE : E = 0
       ·subst hE
        go_wp2_with fail
        go_roundw
        case rel => exact ⟨m + 1, by omega, by go_num, HB3, qH (firstE_drop (chkL b) (List.range b.links.length) m (by simpa using hlt) (by rw [List.getElem_range]; exact HV.out) HFm.out)⟩
        case measure => simp [intOf]; omega
       ·have hz : (E == 0) = false := by simpa using hE
        have hz2 : (!E == 0) = true := by rw [hz]; rfl
        have HK2 : Hid (R = E) := by
         show R = E
         have h1 := firstE_hit (chkL b) (List.range b.links.length) m (by simpa using hlt) (by rw [List.getElem_range, HV.out]; exact hE) HFm.out
         rw [HRl'.out HE1.out HE2.out, h1, List.getElem_range, HV.out]
        clear hE
        go_wp2_with fail
        go_ret
        exact ⟨ret_E HK2.out.symm, HB0.out.trans ((HB1.out.trans (HB3.out.mono HB1.out.size)).mono HB0.out.size)⟩
      ·have hend3 := firstE_end (chkL b) (List.range b.links.length) m (by simp; omega) HFm.out
       have hkl3 : ¬ (m : Int) < (b.links.length : Int) := by omega
       have HK2 : Hid (R = 0) := by
        show R = 0
        rw [HRl'.out HE1.out HE2.out, hend3]
       clear hend3
       go_wp2_with fail
       go_ret
       exact ⟨ret_E HK2.out.symm, HB0.out.trans ((HB1.out.trans (HBm.out.mono HB1.out.size)).mono HB0.out.size)⟩
end Go.Proofs.YtomahddiclkepaaGreatDoor
namespace Go.Proofs.YtomahddiclkepaaGreatDoor
open Go.RowKit
theorem bcell {W w1 : World} (hb : Below W.heap.size W w1) : (∀ b o, b < W.heap.size -> w1.cell? ⟨b, o, none⟩ = W.cell? ⟨b, o, none⟩) /\ (∀ b o, b < W.heap.size -> w1.frozen? ⟨b, o, none⟩ = W.frozen? ⟨b, o, none⟩) :=
 ⟨fun b o h => hb.cell (p := ⟨b, o, none⟩) h, fun b o h => hb.frozen (p := ⟨b, o, none⟩) h⟩
def upTo (a wd : Int) : Int := a + (wd - (a + 4)) % 7
def downTo (a wd : Int) : Int := a - ((a + 4) - wd) % 7
theorem upTo_bd (a wd : Int) (h0 : 0 <= wd) (h6 : wd <= 6) : a <= upTo a wd /\ upTo a wd <= a + 6 /\ (upTo a wd + 4) % 7 = wd := by unfold upTo; omega
theorem downTo_bd (a wd : Int) (h0 : 0 <= wd) (h6 : wd <= 6) : downTo a wd <= a /\ a - 6 <= downTo a wd /\ (downTo a wd + 4) % 7 = wd := by unfold downTo; omega
theorem Of_up (y m wd n : Int) (w : World) (hd : dayB 3 wd n = true) (h1 : 1600 <= y) (h2 : y <= 2399) (h3 : 1 <= m) (h4 : m <= 12) (h5 : n <= Civ.mlen y m) (h6 : upTo (Civ.days y m n) wd <= 157053) :
 Calls Tryz.prog 93 #[.int .i64 y, .int .i64 m, dayV 3 wd n] w fun e w' => e = .returned (.tuple #[.int .i64 (upTo (Civ.days y m n) wd), .int .i64 0]) /\ Below w.heap.size w w' := by
 have hd' := hd
 simp only [dayB, decide_eq_true_eq] at hd'
 have hw : 0 <= wd /\ wd <= 6 /\ 1 <= n := by omega
 clear hd'
 obtain ⟨hw0, hw6, hn1⟩ := hw
 have HD := qH hd
 clear hd
 have hml := Civ.mlen_bd y m h3 h4
 obtain ⟨L, eL⟩ : ∃ L : Int, Civ.mlen y m = L := ⟨_, rfl⟩
 have v1 := qH (show Civ.valid y m 1 from ⟨h1, h2, h3, h4, by omega, by omega⟩)
 have bd1 := Civ.days_bd v1.out
 have v2 := qH (show Civ.valid y m n from ⟨h1, h2, h3, h4, by omega, by omega⟩)
 have bd2 := Civ.days_bd v2.out
 have e1 : Civ.days y m n = Civ.days y m 1 + n - 1 := by unfold Civ.days; omega
 have hub := upTo_bd (Civ.days y m n) wd hw0 hw6
 obtain ⟨R, eR⟩ : ∃ R : Int, upTo (Civ.days y m n) wd = R := ⟨_, rfl⟩
 rw [eR] at h6 hub ⊢
 rw [e1] at bd2 hub
 obtain ⟨A, eA⟩ : ∃ A : Int, Civ.days y m 1 = A := ⟨_, rfl⟩
 rw [eA] at bd1 bd2 hub
 rw [eL] at h5 hml 
 have HL := qH eL
 have HA := qH eA
 have hR1 := hub.1
 have hR2 := hub.2.1
 have HR7 := qH hub.2.2
 clear eL eA eR e1 hub
 go_enter Tryz.func93, Tryz.ntmps93
 go_wp2_with fail
 refine (Check_ok _ _ _ _ HD.out).mono ?_
 rintro e w1 ⟨rfl, hb1⟩
 obtain ⟨hc, hf⟩ := bcell hb1
 go_wp2_with fail
 refine (Length_ok _ _ _ h1 h2 h3 h4).mono ?_
 rintro e w' ⟨rfl, rfl⟩
 rw [HL.out]
 go_wp2_with fail
 refine (Days_ok _ _ _ _ v1.out).mono ?_
 rintro e w' ⟨rfl, rfl⟩
 rw [HA.out]
 go_wp2_with fail
 go_loop [13] (fun t => ∃ a : Int, A + n - 1 <= a /\ a <= R /\ t = .int .i64 a) (fun t => (R - intOf t).toNat)
 case atStart => exact ⟨A + n - 1, by omega, by omega, rfl⟩
 case round =>
  obtain ⟨a, ha1, ha2, rfl⟩ := hrel
  by_cases hq : a = R
  ·obtain rfl := hq
   have fw : ((a + 4) % 7 == wd) = true := by have := HR7.out; simpa using this
   go_wp2_with fail
   refine (Weekday_ok _ _ (by omega) (by omega)).mono ?_
   rintro e w' ⟨rfl, rfl⟩
   go_wp2
   go_ret2
   exact ⟨rfl, ((Below.refl _ _).alloc (Nat.le_refl _) _).trans (hb1.mono (by simp))⟩
  ·have fw : ((a + 4) % 7 == wd) = false := by have := HR7.out; simp; omega
   go_wp2_with fail
   refine (Weekday_ok _ _ (by omega) (by omega)).mono ?_
   rintro e w' ⟨rfl, rfl⟩
   go_wp2
   go_round
   case rel => exact ⟨a + 1, by omega, by omega, rfl⟩
   case measure => simp [intOf]; omega
theorem Of_down (y m wd n : Int) (w : World) (hd : dayB 4 wd n = true) (h1 : 1600 <= y) (h2 : y <= 2399) (h3 : 1 <= m) (h4 : m <= 12) (h5 : n <= Civ.mlen y m) (h6 : -135140 <= downTo (Civ.days y m n) wd) :
 Calls Tryz.prog 93 #[.int .i64 y, .int .i64 m, dayV 4 wd n] w fun e w' => e = .returned (.tuple #[.int .i64 (downTo (Civ.days y m n) wd), .int .i64 0]) /\ Below w.heap.size w w' := by
 have hd' := hd
 simp only [dayB, decide_eq_true_eq] at hd'
 have hw : 0 <= wd /\ wd <= 6 /\ 1 <= n := by omega
 clear hd'
 obtain ⟨hw0, hw6, hn1⟩ := hw
 have HD := qH hd
 clear hd
 have hml := Civ.mlen_bd y m h3 h4
 obtain ⟨L, eL⟩ : ∃ L : Int, Civ.mlen y m = L := ⟨_, rfl⟩
 have v1 := qH (show Civ.valid y m 1 from ⟨h1, h2, h3, h4, by omega, by omega⟩)
 have bd1 := Civ.days_bd v1.out
 have v2 := qH (show Civ.valid y m n from ⟨h1, h2, h3, h4, by omega, by omega⟩)
 have bd2 := Civ.days_bd v2.out
 have e1 : Civ.days y m n = Civ.days y m 1 + n - 1 := by unfold Civ.days; omega
 have hub := downTo_bd (Civ.days y m n) wd hw0 hw6
 obtain ⟨R, eR⟩ : ∃ R : Int, downTo (Civ.days y m n) wd = R := ⟨_, rfl⟩
 rw [eR] at h6 hub ⊢
 rw [e1] at bd2 hub
 obtain ⟨A, eA⟩ : ∃ A : Int, Civ.days y m 1 = A := ⟨_, rfl⟩
 rw [eA] at bd1 bd2 hub
 rw [eL] at h5 hml 
 have HL := qH eL
 have HA := qH eA
 have hR1 := hub.1
 have hR2 := hub.2.1
 have HR7 := qH hub.2.2
 clear eL eA eR e1 hub
 go_enter Tryz.func93, Tryz.ntmps93
 go_wp2_with fail
 refine (Check_ok _ _ _ _ HD.out).mono ?_
 rintro e w1 ⟨rfl, hb1⟩
 obtain ⟨hc, hf⟩ := bcell hb1
 go_wp2_with fail
 refine (Length_ok _ _ _ h1 h2 h3 h4).mono ?_
 rintro e w' ⟨rfl, rfl⟩
 rw [HL.out]
 go_wp2_with fail
 refine (Days_ok _ _ _ _ v1.out).mono ?_
 rintro e w' ⟨rfl, rfl⟩
 rw [HA.out]
 go_wp2_with fail
 go_loop [13] (fun t => ∃ a : Int, R <= a /\ a <= A + n - 1 /\ t = .int .i64 a) (fun t => (intOf t - R).toNat)
 case atStart => exact ⟨A + n - 1, by omega, by omega, rfl⟩
 case round =>
  obtain ⟨a, ha1, ha2, rfl⟩ := hrel
  by_cases hq : a = R
  ·obtain rfl := hq
   have fw : ((a + 4) % 7 == wd) = true := by have := HR7.out; simpa using this
   go_wp2_with fail
   refine (Weekday_ok _ _ (by omega) (by omega)).mono ?_
   rintro e w' ⟨rfl, rfl⟩
   go_wp2
   go_ret2
   exact ⟨rfl, ((Below.refl _ _).alloc (Nat.le_refl _) _).trans (hb1.mono (by simp))⟩
  ·have fw : ((a + 4) % 7 == wd) = false := by have := HR7.out; simp; omega
   go_wp2_with fail
   refine (Weekday_ok _ _ (by omega) (by omega)).mono ?_
   rintro e w' ⟨rfl, rfl⟩
   go_wp2
   go_round
   case rel => exact ⟨a - 1, by omega, by omega, by go_num⟩
   case measure => simp [intOf]; omega
theorem Of_last (y m wd n : Int) (w : World) (hd : dayB 2 wd n = true) (h1 : 1600 <= y) (h2 : y <= 2399) (h3 : 1 <= m) (h4 : m <= 12)  :
 Calls Tryz.prog 93 #[.int .i64 y, .int .i64 m, dayV 2 wd n] w fun e w' => e = .returned (.tuple #[.int .i64 (downTo (Civ.days y m (Civ.mlen y m)) wd), .int .i64 0]) /\ Below w.heap.size w w' := by
 have hd' := hd
 simp only [dayB, decide_eq_true_eq] at hd'
 have hw : 0 <= wd /\ wd <= 6 /\ n = 0 := by omega
 clear hd'
 obtain ⟨hw0, hw6, rfl⟩ := hw
 have HD := qH hd
 clear hd
 have hml := Civ.mlen_bd y m h3 h4
 obtain ⟨L, eL⟩ : ∃ L : Int, Civ.mlen y m = L := ⟨_, rfl⟩
 have v1 := qH (show Civ.valid y m 1 from ⟨h1, h2, h3, h4, by omega, by omega⟩)
 have bd1 := Civ.days_bd v1.out
 have v2 := qH (show Civ.valid y m (Civ.mlen y m) from ⟨h1, h2, h3, h4, by omega, by omega⟩)
 have bd2 := Civ.days_bd v2.out
 have e1 : Civ.days y m (Civ.mlen y m) = Civ.days y m 1 + (Civ.mlen y m) - 1 := by unfold Civ.days; omega
 have hub := downTo_bd (Civ.days y m (Civ.mlen y m)) wd hw0 hw6
 obtain ⟨R, eR⟩ : ∃ R : Int, downTo (Civ.days y m (Civ.mlen y m)) wd = R := ⟨_, rfl⟩
 rw [eR] at hub ⊢
 rw [e1] at bd2 hub
 obtain ⟨A, eA⟩ : ∃ A : Int, Civ.days y m 1 = A := ⟨_, rfl⟩
 rw [eA] at bd1 bd2 hub
 rw [eL] at hml bd2 hub
 have HL := qH eL
 have HA := qH eA
 have hR1 := hub.1
 have hR2 := hub.2.1
 have HR7 := qH hub.2.2
 clear eL eA eR e1 hub
 go_enter Tryz.func93, Tryz.ntmps93
 go_wp2_with fail
 refine (Check_ok _ _ _ _ HD.out).mono ?_
 rintro e w1 ⟨rfl, hb1⟩
 obtain ⟨hc, hf⟩ := bcell hb1
 go_wp2_with fail
 refine (Length_ok _ _ _ h1 h2 h3 h4).mono ?_
 rintro e w' ⟨rfl, rfl⟩
 rw [HL.out]
 go_wp2_with fail
 refine (Days_ok _ _ _ _ v1.out).mono ?_
 rintro e w' ⟨rfl, rfl⟩
 rw [HA.out]
 go_wp2_with fail
 go_loop [13] (fun t => ∃ a : Int, R <= a /\ a <= A + L - 1 /\ t = .int .i64 a) (fun t => (intOf t - R).toNat)
 case atStart => exact ⟨A + L - 1, by omega, by omega, rfl⟩
 case round =>
  obtain ⟨a, ha1, ha2, rfl⟩ := hrel
  by_cases hq : a = R
  ·obtain rfl := hq
   have fw : ((a + 4) % 7 == wd) = true := by have := HR7.out; simpa using this
   go_wp2_with fail
   refine (Weekday_ok _ _ (by omega) (by omega)).mono ?_
   rintro e w' ⟨rfl, rfl⟩
   go_wp2
   go_ret2
   exact ⟨rfl, ((Below.refl _ _).alloc (Nat.le_refl _) _).trans (hb1.mono (by simp))⟩
  ·have fw : ((a + 4) % 7 == wd) = false := by have := HR7.out; simp; omega
   go_wp2_with fail
   refine (Weekday_ok _ _ (by omega) (by omega)).mono ?_
   rintro e w' ⟨rfl, rfl⟩
   go_wp2
   go_round
   case rel => exact ⟨a - 1, by omega, by omega, by go_num⟩
   case measure => simp [intOf]; omega
theorem Of_num (y m wd n : Int) (w : World) (hd : dayB 1 wd n = true) (h1 : 1600 <= y) (h2 : y <= 2399) (h3 : 1 <= m) (h4 : m <= 12) (h5 : n <= Civ.mlen y m) :
 Calls Tryz.prog 93 #[.int .i64 y, .int .i64 m, dayV 1 wd n] w fun e w' => e = .returned (.tuple #[.int .i64 (Civ.days y m n), .int .i64 0]) /\ Below w.heap.size w w' := by
 have hd' := hd
 simp only [dayB, decide_eq_true_eq] at hd'
 have hw : wd = 0 /\ 1 <= n := by omega
 clear hd'
 obtain ⟨rfl, hn1⟩ := hw
 have HD := qH hd
 clear hd
 have hml := Civ.mlen_bd y m h3 h4
 obtain ⟨L, eL⟩ : ∃ L : Int, Civ.mlen y m = L := ⟨_, rfl⟩
 have v1 := qH (show Civ.valid y m 1 from ⟨h1, h2, h3, h4, by omega, by omega⟩)
 have bd1 := Civ.days_bd v1.out
 have v2 := qH (show Civ.valid y m n from ⟨h1, h2, h3, h4, by omega, by omega⟩)
 have bd2 := Civ.days_bd v2.out
 have e1 : Civ.days y m n = Civ.days y m 1 + n - 1 := by unfold Civ.days; omega
 obtain ⟨A, eA⟩ : ∃ A : Int, Civ.days y m 1 = A := ⟨_, rfl⟩
 rw [e1] at bd2
 rw [e1, eA]
 rw [eA] at bd1 bd2
 rw [eL] at h5 hml
 have HL := qH eL
 have HA := qH eA
 clear eL eA e1
 go_enter Tryz.func93, Tryz.ntmps93
 go_wp2_with fail
 refine (Check_ok _ _ _ _ HD.out).mono ?_
 rintro e w1 ⟨rfl, hb1⟩
 obtain ⟨hc, hf⟩ := bcell hb1
 go_wp2_with fail
 refine (Length_ok _ _ _ h1 h2 h3 h4).mono ?_
 rintro e w' ⟨rfl, rfl⟩
 rw [HL.out]
 go_wp2_with fail
 refine (Days_ok _ _ _ _ v1.out).mono ?_
 rintro e w' ⟨rfl, rfl⟩
 rw [HA.out]
 go_wp2_with fail
 go_loop [13] (fun t => t = .int .i64 (A + n - 1)) (fun t => 0)
 case atStart => rfl
 case round =>
  obtain rfl := hrel
  go_wp2
  go_ret2
  exact ⟨rfl, ((Below.refl _ _).alloc (Nat.le_refl _) _).trans (hb1.mono (by simp))⟩
end Go.Proofs.YtomahddiclkepaaGreatDoor
