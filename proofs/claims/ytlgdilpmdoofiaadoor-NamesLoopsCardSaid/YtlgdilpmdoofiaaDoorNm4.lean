/- names.Resolve: the walk. -/
import Derived.Test.YtlgdilpmdoofiaaDoorNm3
namespace Go.Proofs.YtlgdilpmdoofiaaDoor
open Go.RowKit Go.Joins Go.Maps
open Classical
set_option linter.unusedVariables false
set_option linter.unusedSimpArgs false

set_option maxRecDepth 100000 in
set_option maxHeartbeats 4000000 in
theorem Resolve_any (b : Bk) (rv zv lv : Value) (nm : ByteArray) (w : World) (hB : BookAt w.heap.size w rv zv lv b) (hn : nm.size ≤ 140737488351232) (hm : MaxLen w) (ht : Tab10 w) :
    Calls Tryd.prog 23 #[.agg #[rv, zv, lv], .string nm] w (RsvPost (rsv b nm) w) := by
  have hr := hB.r
  have hz := hB.z
  have hl := hB.l
  obtain ⟨p1, c1, rfl, hlen1, hrow1⟩ := hr
  obtain ⟨p2, c2, rfl, hlen2, hrow2⟩ := hz
  obtain ⟨p3, c3, rfl, hlen3, hrow3⟩ := hl
  obtain ⟨W0, eW⟩ : ∃ W0, (w.alloc (.cells #[.slice p1 b.rules.length c1, .slice p2 b.zones.length c2, .slice p3 b.links.length c3] 26)).alloc (.cells #[.string ⟨#[]⟩, .slice none 0 0] 53) = W0 := ⟨_, rfl⟩
  have hb0 : Below w.heap.size w W0 := by rw [← eW]; exact ((Below.refl _ _).alloc (Nat.le_refl _) _).alloc (by simp) _
  have hbx : W0.heap[w.heap.size]? = some (.cells #[.slice p1 b.rules.length c1, .slice p2 b.zones.length c2, .slice p3 b.links.length c3] 26 (0, 0)) := by
    rw [← eW]
    exact (Below.heap_alloc _ _ _ (by simp)).trans (heap_alloc_new w _)
  have hrb : W0.heap[w.heap.size + 1]? = some (.cells #[.string ⟨#[]⟩, .slice none 0 0] 53 (0, 0)) := by
    rw [← eW]
    exact alloc_at _ _ _ (by simp)
  have hl0 : w.heap.size + 1 < W0.heap.size := by rw [← eW]; simp
  have x0 := (cell_of_row W0 _ 0 _ _ _ hbx).trans rfl
  have x1 := (cell_of_row W0 _ 1 _ _ _ hbx).trans rfl
  have x2 := (cell_of_row W0 _ 2 _ _ _ hbx).trans rfl
  have HEW := Lib.hid eW
  have HB0 := Lib.hid hb0
  have HRB := Lib.hid hrb
  have HOF := Lib.hid (namesOf_any b _ _ _ W0 ((hB.below hb0 (Nat.le_refl _)).baseN (by omega)) (hm.below hb0) (ht.below hb0))
  have HEV := Lib.hid hB.e
  have HLS := Lib.hid hB.ls
  have HBD := Lib.hid (rsv_bad (b := b) (nm := nm))
  have HGO := Lib.hid (rsv_go (b := b) (nm := nm))
  have HER := Lib.hid (bk_er (b := b))
  obtain ⟨R, eR⟩ : ∃ R, rsv b nm = R := ⟨_, rfl⟩
  rw [eR] at HBD HGO ⊢
  clear eW hb0 hbx hrb hB hm ht hrow1 hrow2 hrow3 eR
  go_enter Tryd.func23, Tryd.ntmps23
  go_upto_region 1 with fail
  rw [HEW.out]
  go_wp2_with fail
  refine HOF.out.mono ?_
  rintro e w1 ⟨hb1, hbad, hgood⟩
  have HB1 := Lib.hid (HB0.out.trans (hb1.mono HB0.out.size))
  have hx1 := (hb1.block (w.heap.size + 1) hl0).trans HRB.out
  have HX1 := Lib.hid hx1
  have hl1 : w.heap.size + 1 < w1.heap.size := by have := hb1.size; omega
  have r0 : w1.cell? ⟨w.heap.size + 1, 0, none⟩ = some (.string ⟨#[]⟩) := (cell_of_row w1 _ 0 _ _ _ hx1).trans rfl
  have r1 : w1.cell? ⟨w.heap.size + 1, 1, none⟩ = some (.slice none 0 0) := (cell_of_row w1 _ 1 _ _ _ hx1).trans rfl
  have f0 : w1.frozen? ⟨w.heap.size + 1, 0, none⟩ = false := by simp [World.frozen?, hx1]
  have f1 : w1.frozen? ⟨w.heap.size + 1, 1, none⟩ = false := by simp [World.frozen?, hx1]
  have hs1 : W0.heap.size ≤ w1.heap.size := hb1.size
  by_cases hC : bkChk b = 0
  case neg =>
    have he := hbad hC
    subst he
    have HE := Lib.hid (HBD.out hC)
    have hz : (bkChk b == 0) = false := by simpa using hC
    have hz2 : (!bkChk b == 0) = true := by rw [hz]; rfl
    clear hb1 hbad hgood hx1 hC x0 x1 x2
    go_wp2_with fail
    obtain ⟨W9, e9, hh9, hb9⟩ := end_two HX1.out (.string ⟨#[]⟩) (.slice none 0 0)
    rw [e9]
    have v0 := (cell_of_row W9 _ 0 _ _ _ hh9).trans rfl
    have v1 := (cell_of_row W9 _ 1 _ _ _ hh9).trans rfl
    have HBF : Below w.heap.size w W9 := HB1.out.trans (hb9 _ (by omega))
    refine bodyPost_ret (v := .tuple #[.agg #[.string ⟨#[]⟩, .slice none 0 0], .int .i64 (bkChk b)]) (by simp [results, Tryd.results23, go_sem, v0, v1]) rfl ?_
    rw [HE.out]
    exact ⟨_, rfl, World.ownsRow_nil _ _ _ _, HBF⟩
  case pos =>
  obtain ⟨pb, bz, bl, nz, nl, he, hP, hnl, -⟩ := hgood hC
  subst he
  have hEv : EvOk b.zones := fun z hz => by
    obtain ⟨p, c, e, -⟩ := HEV.out z hz
    exact ⟨p, c, e⟩
  have HRE := Lib.hid (resolve_any _ pb bz bl nz nl b.zones b.links nm w1 hP hEv (fun x hx => (HLS.out x hx).2) hn hnl)
  have hgo := HGO.out hC
  rw [← hgo] at HRE
  have HER2 := Lib.hid (fun z hz => HER.out hC (z := z) hz)
  have hRin : ∀ z, R.1 = some z → z ∈ b.zones ∧ R.2 = 0 := by
    intro z hz
    obtain ⟨R1, R2⟩ := R
    simp only at hz
    subst hz
    exact resF_in hgo.symm
  have HRI := Lib.hid hRin
  have HP1 := Lib.hid hP
  clear hb1 hbad hgood hx1 hC x0 x1 x2 r0 r1 f0 f1 hP hEv hgo hRin HGO HBD HER HOF
  go_wp2_with fail
  refine HRE.out.mono ?_
  obtain ⟨Z, C⟩ := R
  rintro e w2 ⟨rfl, hb2⟩
  simp only at HRI ⊢
  have HB2 := Lib.hid (HB1.out.trans (hb2.mono HB1.out.size))
  have hx2 := (hb2.block (w.heap.size + 1) hl1).trans HX1.out
  have hs2 : w1.heap.size ≤ w2.heap.size := hb2.size
  have key : ∃ znm p c ers, zoVal Z = .agg #[.string znm, .slice p ers.length c] ∧ zNm Z = znm ∧ zEr Z = ers ∧ ers.length ≤ 1000 ∧ RowsAt erL 5 w.heap.size w2 (.slice p ers.length c) ers := by
    cases Z with
    | none => exact ⟨⟨#[]⟩, none, 0, [], rfl, rfl, rfl, by simp, ⟨none, 0, rfl, ⟨by simp, by simp⟩, fun h => absurd rfl h⟩⟩
    | some z =>
      obtain ⟨hz, -⟩ := HRI.out z rfl
      have h1 := (HEV.out z hz).below HB2.out (Nat.le_refl _)
      obtain ⟨p, c, e, r⟩ := h1
      refine ⟨z.nm, p, c, z.eras, ?_, rfl, rfl, by have := (HER2.out z hz).2; omega, ⟨p, c, rfl, r⟩⟩
      show Value.agg #[.string z.nm, z.ev] = _
      rw [e]
  obtain ⟨znm, p, c, ers, e1, e2, e3, hle, hrow⟩ := key
  rw [e1]
  have HE2 := Lib.hid e2
  have HE3 := Lib.hid e3
  obtain ⟨W3, eW3⟩ : ∃ W3, w2.alloc (.cells #[.string znm, .slice p ers.length c] 53) = W3 := ⟨_, rfl⟩
  have hb3 : Below w2.heap.size w2 W3 := by rw [← eW3]; exact (Below.refl _ _).alloc (Nat.le_refl _) _
  have hx3 : W3.heap[w2.heap.size]? = some (.cells #[.string znm, .slice p ers.length c] 53 (0, 0)) := by rw [← eW3]; exact heap_alloc_new w2 _
  have hz3 : W3.heap.size = w2.heap.size + 1 := by rw [← eW3]; simp
  have HB3 := Lib.hid (HB2.out.trans (hb3.mono HB2.out.size))
  have hr3 := (hb3.block (w.heap.size + 1) (by omega)).trans hx2
  have HR3 := Lib.hid hr3
  have HX3 := Lib.hid hx3
  have q1 := (cell_of_row W3 _ 1 _ _ _ hx3).trans rfl
  have HCL := Lib.hid (CloneEr_any ers _ w.heap.size W3 (hrow.below (hb3.mono HB2.out.size) (Nat.le_refl _)) hle)
  have HEW3 := Lib.hid eW3
  obtain ⟨tb, etb⟩ : ∃ tb, w2.heap.size = tb := ⟨_, rfl⟩
  rw [etb] at hz3 hs2 HX3 q1
  have HTB := Lib.hid etb
  clear hb2 hx2 e1 e2 e3 hrow eW3 hb3 hr3 HRI HRE HER2 HEV hx3 HX1 etb
  go_upto_region 5 with fail
  rw [HEW3.out, HTB.out]
  go_wp2_with fail
  refine HCL.out.mono ?_
  rintro e w4 ⟨vo, rfl, hrow4, hb4⟩
  obtain ⟨A, cA, rfl⟩ := own_sliceN hrow4
  have hs4 : W3.heap.size ≤ w4.heap.size := hb4.size
  have hx4 := (hb4.block tb (by omega)).trans HX3.out
  have hr4 := (hb4.block (w.heap.size + 1) (by omega)).trans HR3.out
  have HB4 := Lib.hid (HB3.out.trans (hb4.mono HB3.out.size))
  have HX4 := Lib.hid hx4
  have HR4 := Lib.hid hr4
  have HOW := Lib.hid hrow4
  have g0 : w4.cell? ⟨tb, 0, none⟩ = some (.string znm) := (cell_of_row w4 _ 0 _ _ _ hx4).trans rfl
  have g1 : w4.cell? ⟨tb, 1, none⟩ = some (.slice p ers.length c) := (cell_of_row w4 _ 1 _ _ _ hx4).trans rfl
  have gf : w4.frozen? ⟨tb, 1, none⟩ = false := by simp [World.frozen?, hx4]
  have r0 : w4.cell? ⟨w.heap.size + 1, 0, none⟩ = some (.string ⟨#[]⟩) := (cell_of_row w4 _ 0 _ _ _ hr4).trans rfl
  have r1 : w4.cell? ⟨w.heap.size + 1, 1, none⟩ = some (.slice none 0 0) := (cell_of_row w4 _ 1 _ _ _ hr4).trans rfl
  have f0 : w4.frozen? ⟨w.heap.size + 1, 0, none⟩ = false := by simp [World.frozen?, hr4]
  have f1 : w4.frozen? ⟨w.heap.size + 1, 1, none⟩ = false := by simp [World.frozen?, hr4]
  have htb : w.heap.size + 1 < tb := by omega
  have htb4 : tb < w4.heap.size := by omega
  clear hb4 hrow4 hx4 hr4 HCL q1
  go_wp2_with fail
  obtain ⟨W5, e5⟩ : ∃ W5, w4.setCell ⟨tb, 1, none⟩ (.slice A ers.length cA) = W5 := ⟨_, rfl⟩
  rw [e5]
  have hk5 : ∀ g, g ≠ tb → W5.heap[g]? = w4.heap[g]? := fun g hg => by rw [← e5]; exact Below.heap_setCell _ _ _ _ hg
  have hr5 : W5.heap[w.heap.size + 1]? = some (.cells #[.string ⟨#[]⟩, .slice none 0 0] 53 (0, 0)) := (hk5 _ (by omega)).trans HR4.out
  have hb5 : Below w.heap.size w W5 := by rw [← e5]; exact HB4.out.setCell (by show w.heap.size ≤ tb; omega) _
  obtain ⟨W9, e9, hh9, hb9⟩ := end_two hr5 (.string znm) (.slice A ers.length cA)
  rw [e9]
  have v0 := (cell_of_row W9 _ 0 _ _ _ hh9).trans rfl
  have v1 := (cell_of_row W9 _ 1 _ _ _ hh9).trans rfl
  have hk9 : ∀ g, g ≠ w.heap.size + 1 → W9.heap[g]? = W5.heap[g]? := fun g hg => by
    rw [← e9]
    exact (Below.heap_setCell _ _ _ _ hg).trans (Below.heap_setCell _ _ _ _ hg)
  have HBF : Below w.heap.size w W9 := hb5.trans (hb9 _ (by omega))
  have hown9 : W9.ownsRow w.heap.size 65 5 (.slice A ers.length cA) ers.length (erFlat ers) := by
    refine own_base (own_keep HOW.out fun g e => ?_) (show w.heap.size ≤ W3.heap.size by omega)
    have hg := (World.ownsRow.lt HOW.out g e).1
    exact (hk9 g (by omega)).trans (hk5 g (by omega))
  refine bodyPost_ret (v := .tuple #[.agg #[.string znm, .slice A ers.length cA], .int .i64 C]) (by simp [results, Tryd.results23, go_sem, v0, v1]) rfl ⟨.slice A ers.length cA, ?_, ?_, HBF⟩
  · show _ = Ending.returned (.tuple #[.agg #[.string (zNm Z), .slice A ers.length cA], .int .i64 C])
    rw [HE2.out]
  · show World.ownsRow _ _ _ _ _ (zEr Z).length (erFlat (zEr Z))
    rw [HE3.out]
    exact hown9
end Go.Proofs.YtlgdilpmdoofiaaDoor
