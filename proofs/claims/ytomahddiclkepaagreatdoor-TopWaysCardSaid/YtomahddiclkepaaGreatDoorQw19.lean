/- Part of the proof. -/
import Derived.Test.YtomahddiclkepaaGreatDoorQw00
import Derived.Test.YtomahddiclkepaaGreatDoorQw08
import Derived.Test.YtomahddiclkepaaGreatDoorQw18
import Derived.Test.YtomahddiclkepaaGreatDoorQw15
import Derived.Test.YtomahddiclkepaaGreatDoorQw10
import Derived.Test.YtomahddiclkepaaGreatDoorProg
set_option maxHeartbeats 20000000
set_option maxRecDepth 1000000
set_option linter.unusedVariables false
set_option linter.unusedSimpArgs false
namespace Go.Proofs.YtomahddiclkepaaGreatDoor
open Go.RowKit Go.Joins Go.Maps
open Classical
theorem Resolve_any (b : Bk) (rv zv lv : Value) (nm : ByteArray) (w : World) (hB : BookAt w.heap.size w rv zv lv b) (hn : nm.size <= 140737488351232) (hm : MaxLen w) (ht : Tab10 w) :
 Calls Tryz.prog 45 #[.agg #[rv, zv, lv], .string nm] w (RsvPost (rsv b nm) w) := by
 have hr := hB.r
 have hz := hB.z
 have hl := hB.l
 obtain ⟨p1, c1, rfl, hlen1, hrow1⟩ := hr
 obtain ⟨p2, c2, rfl, hlen2, hrow2⟩ := hz
 obtain ⟨p3, c3, rfl, hlen3, hrow3⟩ := hl
 obtain ⟨W0, eW⟩ : ∃ W0, (w.alloc (.cells #[.slice p1 b.rules.length c1, .slice p2 b.zones.length c2, .slice p3 b.links.length c3] 26)).alloc (.cells #[.string ⟨#[]⟩, .slice none 0 0] 46) = W0 := ⟨_, rfl⟩
 have hb0 : Below w.heap.size w W0 := by rw [<- eW]; exact ((Below.refl _ _).alloc (Nat.le_refl _) _).alloc (by simp) _
 have hbx : W0.heap[w.heap.size]? = some (.cells #[.slice p1 b.rules.length c1, .slice p2 b.zones.length c2, .slice p3 b.links.length c3] 26 (0, 0)) := by
  rw [<- eW]
  exact (Below.heap_alloc _ _ _ (by simp)).trans (heap_alloc_new w _)
 have hrb : W0.heap[w.heap.size + 1]? = some (.cells #[.string ⟨#[]⟩, .slice none 0 0] 46 (0, 0)) := by
  rw [<- eW]
  exact alloc_at _ _ _ (by simp)
 have hl0 : w.heap.size + 1 < W0.heap.size := by rw [<- eW]; simp
 have x0 := (cell_of_row W0 _ 0 _ _ _ hbx).trans rfl
 have x1 := (cell_of_row W0 _ 1 _ _ _ hbx).trans rfl
 have x2 := (cell_of_row W0 _ 2 _ _ _ hbx).trans rfl
 have HEW := qH eW
 have HB0 := qH hb0
 have HRB := qH hrb
 have HOF := qH (namesOf_any b _ _ _ W0 ((hB.below hb0 (Nat.le_refl _)).baseN (by omega)) (hm.below hb0) (ht.below hb0))
 have HEV := qH hB.e
 have HLS := qH hB.ls
 have HBD := qH (rsv_bad (b := b) (nm := nm))
 have HGO := qH (rsv_go (b := b) (nm := nm))
 have HER := qH (bk_er (b := b))
 obtain ⟨R, eR⟩ : ∃ R, rsv b nm = R := ⟨_, rfl⟩
 rw [eR] at HBD HGO ⊢
 clear eW hb0 hbx hrb hB hm ht hrow1 hrow2 hrow3 eR
 go_enter Tryz.func45, Tryz.ntmps45
 go_upto_region 1 with fail
 rw [HEW.out]
 go_wp2_with fail
 refine HOF.out.mono ?_
 rintro e w1 ⟨hb1, hbad, hgood⟩
 have HB1 := qH (HB0.out.trans (hb1.mono HB0.out.size))
 have hx1 := (hb1.block (w.heap.size + 1) hl0).trans HRB.out
 have HX1 := qH hx1
 have hl1 : w.heap.size + 1 < w1.heap.size := by have := hb1.size; omega
 have r0 : w1.cell? ⟨w.heap.size + 1, 0, none⟩ = some (.string ⟨#[]⟩) := (cell_of_row w1 _ 0 _ _ _ hx1).trans rfl
 have r1 : w1.cell? ⟨w.heap.size + 1, 1, none⟩ = some (.slice none 0 0) := (cell_of_row w1 _ 1 _ _ _ hx1).trans rfl
 have f0 : w1.frozen? ⟨w.heap.size + 1, 0, none⟩ = false := by simp [World.frozen?, hx1]
 have f1 : w1.frozen? ⟨w.heap.size + 1, 1, none⟩ = false := by simp [World.frozen?, hx1]
 have hs1 : W0.heap.size <= w1.heap.size := hb1.size
 by_cases hC : bkChk b = 0
 case neg =>
  have he := hbad hC
  subst he
  have HE := qH (HBD.out hC)
  have hz : (bkChk b == 0) = false := by simpa using hC
  have hz2 : (!bkChk b == 0) = true := by rw [hz]; rfl
  clear hb1 hbad hgood hx1 hC x0 x1 x2
  go_wp2_with fail
  obtain ⟨W9, e9, hh9, hb9⟩ := end_two HX1.out (.string ⟨#[]⟩) (.slice none 0 0)
  rw [e9]
  have v0 := (cell_of_row W9 _ 0 _ _ _ hh9).trans rfl
  have v1 := (cell_of_row W9 _ 1 _ _ _ hh9).trans rfl
  have HBF : Below w.heap.size w W9 := HB1.out.trans (hb9 _ (by omega))
  refine bodyPost_ret (v := .tuple #[.agg #[.string ⟨#[]⟩, .slice none 0 0], .int .i64 (bkChk b)]) (by simp [results, Tryz.results45, go_sem, v0, v1]) rfl ?_
  rw [HE.out]
  exact ⟨_, rfl, World.ownsRow_nil _ _ _ _, HBF⟩
 case pos =>
 obtain ⟨pb, bz, bl, nz, nl, he, hP, hnl, -⟩ := hgood hC
 subst he
 have hEv : EvOk b.zones := fun z hz => by
  obtain ⟨p, c, e, -⟩ := HEV.out z hz
  exact ⟨p, c, e⟩
 have HRE := qH (resolve_any _ pb bz bl nz nl b.zones b.links nm w1 hP hEv (fun x hx => (HLS.out x hx).2) hn hnl)
 have hgo := HGO.out hC
 rw [<- hgo] at HRE
 have HER2 := qH (fun z hz => HER.out hC (z := z) hz)
 have hRin : ∀ z, R.1 = some z -> z ∈ b.zones /\ R.2 = 0 := by
  intro z hz
  obtain ⟨R1, R2⟩ := R
  simp only at hz
  subst hz
  exact resF_in hgo.symm
 have HRI := qH hRin
 have HP1 := qH hP
 clear hb1 hbad hgood hx1 hC x0 x1 x2 r0 r1 f0 f1 hP hEv hgo hRin HGO HBD HER HOF
 go_wp2_with fail
 refine HRE.out.mono ?_
 obtain ⟨Z, C⟩ := R
 rintro e w2 ⟨rfl, hb2⟩
 simp only at HRI ⊢
 have HB2 := qH (HB1.out.trans (hb2.mono HB1.out.size))
 have hx2 := (hb2.block (w.heap.size + 1) hl1).trans HX1.out
 have hs2 : w1.heap.size <= w2.heap.size := hb2.size
 have key : ∃ znm p c ers, zoVal Z = .agg #[.string znm, .slice p ers.length c] /\ zNm Z = znm /\ zEr Z = ers /\ ers.length <= 1000 /\ RowsAt erL 5 w.heap.size w2 (.slice p ers.length c) ers := by
  cases Z with
  | none => exact ⟨⟨#[]⟩, none, 0, [], rfl, rfl, rfl, by simp, ⟨none, 0, rfl, ⟨by simp, by simp⟩, fun h => absurd rfl h⟩⟩
  | some z =>
   obtain ⟨hz, -⟩ := HRI.out z rfl
   have h1 := (HEV.out z hz).below HB2.out (Nat.le_refl _)
   obtain ⟨p, c, e, r⟩ := h1
   refine ⟨z.nm, p, c, z.eras, ?_, rfl, rfl, by have := (HER2.out z hz).2; omega, ⟨p, c, rfl, r⟩⟩
   show Value.agg #[.string z.nm, z.ev] = _
   rw [e]
 obtain ⟨znm, p, c, ers, e1, e2, e3, hle, hrow⟩ := key
 rw [e1]
 have HE2 := qH e2
 have HE3 := qH e3
 obtain ⟨W3, eW3⟩ : ∃ W3, w2.alloc (.cells #[.string znm, .slice p ers.length c] 46) = W3 := ⟨_, rfl⟩
 have hb3 : Below w2.heap.size w2 W3 := by rw [<- eW3]; exact (Below.refl _ _).alloc (Nat.le_refl _) _
 have hx3 : W3.heap[w2.heap.size]? = some (.cells #[.string znm, .slice p ers.length c] 46 (0, 0)) := by rw [<- eW3]; exact heap_alloc_new w2 _
 have hz3 : W3.heap.size = w2.heap.size + 1 := by rw [<- eW3]; simp
 have HB3 := qH (HB2.out.trans (hb3.mono HB2.out.size))
 have hr3 := (hb3.block (w.heap.size + 1) (by omega)).trans hx2
 have HR3 := qH hr3
 have HX3 := qH hx3
 have q1 := (cell_of_row W3 _ 1 _ _ _ hx3).trans rfl
 have HCL := qH (CloneEr_any ers _ w.heap.size W3 (hrow.below (hb3.mono HB2.out.size) (Nat.le_refl _)) hle)
 have HEW3 := qH eW3
 obtain ⟨tb, etb⟩ : ∃ tb, w2.heap.size = tb := ⟨_, rfl⟩
 rw [etb] at hz3 hs2 HX3 q1
 have HTB := qH etb
 clear hb2 hx2 e1 e2 e3 hrow eW3 hb3 hr3 HRI HRE HER2 HEV hx3 HX1 etb
 go_upto_region 5 with fail
 rw [HEW3.out, HTB.out]
 go_wp2_with fail
 refine HCL.out.mono ?_
 rintro e w4 ⟨vo, rfl, hrow4, hb4⟩
 obtain ⟨A, cA, rfl⟩ := own_sliceN hrow4
 have hs4 : W3.heap.size <= w4.heap.size := hb4.size
 have hx4 := (hb4.block tb (by omega)).trans HX3.out
 have hr4 := (hb4.block (w.heap.size + 1) (by omega)).trans HR3.out
 have HB4 := qH (HB3.out.trans (hb4.mono HB3.out.size))
 have HX4 := qH hx4
 have HR4 := qH hr4
 have HOW := qH hrow4
 have g0 : w4.cell? ⟨tb, 0, none⟩ = some (.string znm) := (cell_of_row w4 _ 0 _ _ _ hx4).trans rfl
 have g1 : w4.cell? ⟨tb, 1, none⟩ = some (.slice p ers.length c) := (cell_of_row w4 _ 1 _ _ _ hx4).trans rfl
 have gf : w4.frozen? ⟨tb, 1, none⟩ = false := by simp [World.frozen?, hx4]
 have r0 : w4.cell? ⟨w.heap.size + 1, 0, none⟩ = some (.string ⟨#[]⟩) := (cell_of_row w4 _ 0 _ _ _ hr4).trans rfl
 have r1 : w4.cell? ⟨w.heap.size + 1, 1, none⟩ = some (.slice none 0 0) := (cell_of_row w4 _ 1 _ _ _ hr4).trans rfl
 have f0 : w4.frozen? ⟨w.heap.size + 1, 0, none⟩ = false := by simp [World.frozen?, hr4]
 have f1 : w4.frozen? ⟨w.heap.size + 1, 1, none⟩ = false := by simp [World.frozen?, hr4]
 have htb : w.heap.size + 1 < tb := by omega
 have htb4 : tb < w4.heap.size := by omega
 clear hb4 hrow4 hx4 hr4 HCL q1
 go_wp2_with fail
 obtain ⟨W5, e5⟩ : ∃ W5, w4.setCell ⟨tb, 1, none⟩ (.slice A ers.length cA) = W5 := ⟨_, rfl⟩
 rw [e5]
 have hk5 : ∀ g, g ≠ tb -> W5.heap[g]? = w4.heap[g]? := fun g hg => by rw [<- e5]; exact Below.heap_setCell _ _ _ _ hg
 have hr5 : W5.heap[w.heap.size + 1]? = some (.cells #[.string ⟨#[]⟩, .slice none 0 0] 46 (0, 0)) := (hk5 _ (by omega)).trans HR4.out
 have hb5 : Below w.heap.size w W5 := by rw [<- e5]; exact HB4.out.setCell (by show w.heap.size <= tb; omega) _
 obtain ⟨W9, e9, hh9, hb9⟩ := end_two hr5 (.string znm) (.slice A ers.length cA)
 rw [e9]
 have v0 := (cell_of_row W9 _ 0 _ _ _ hh9).trans rfl
 have v1 := (cell_of_row W9 _ 1 _ _ _ hh9).trans rfl
 have hk9 : ∀ g, g ≠ w.heap.size + 1 -> W9.heap[g]? = W5.heap[g]? := fun g hg => by
  rw [<- e9]
  exact (Below.heap_setCell _ _ _ _ hg).trans (Below.heap_setCell _ _ _ _ hg)
 have HBF : Below w.heap.size w W9 := hb5.trans (hb9 _ (by omega))
 have hown9 : W9.ownsRow w.heap.size 43 5 (.slice A ers.length cA) ers.length (erFlat ers) := by
  refine own_base (own_keep HOW.out fun g e => ?_) (show w.heap.size <= W3.heap.size by omega)
  have hg := (World.ownsRow.lt HOW.out g e).1
  exact (hk9 g (by omega)).trans (hk5 g (by omega))
 refine bodyPost_ret (v := .tuple #[.agg #[.string znm, .slice A ers.length cA], .int .i64 C]) (by simp [results, Tryz.results45, go_sem, v0, v1]) rfl ⟨.slice A ers.length cA, ?_, ?_, HBF⟩
 ·show _ = Ending.returned (.tuple #[.agg #[.string (zNm Z), .slice A ers.length cA], .int .i64 C])
  rw [HE2.out]
 ·show World.ownsRow _ _ _ _ _ (zEr Z).length (erFlat (zEr Z))
  rw [HE3.out]
  exact hown9
def StPost (S : Int × Ty) (w : World) (e : Ending) (w' : World) : Prop := e = .returned (.tuple #[tyV S.2, .int .i64 S.1]) /\ Below w.heap.size w w'
theorem StPost.mk {S : Int × Ty} {c : Int} {T : Ty} {w w' : World} (h : S = (c, T)) (hb : Below w.heap.size w w') : StPost S w (.returned (.tuple #[.agg #[.int .i64 T.off, .bool T.save, .string T.name], .int .i64 c])) w' := by
 subst h
 exact ⟨rfl, hb⟩
theorem rows_at {α : Type} {cells : α -> List Value} {k B : Nat} {W : World} {p : Option Addr} {c : Nat} {l : List α} (h : RowsAt cells k B W (.slice p l.length c) l) (i : Nat) (hi : i < l.length) : ∃ b o, p = some ⟨b, o, none⟩ /\ RowsAt cells k B W (.slice (some ⟨b, o + i * k, none⟩) 1 (c - i)) [l[i]] := by
 obtain ⟨p2, c2, e, ⟨h1, h2⟩, hat⟩ := h
 simp only [Value.slice.injEq, true_and] at e
 obtain ⟨rfl, rfl⟩ := e
 obtain ⟨b, o, rfl, hb, hc⟩ := hat (List.ne_nil_of_length_pos (by omega))
 refine ⟨b, o, rfl, _, _, rfl, ⟨by simp, by simp; omega⟩, fun _ => ⟨b, o + i * k, rfl, hb, fun j hj m u hu => ?_⟩⟩
 obtain rfl : j = 0 := by simpa using hj
 rw [Nat.zero_mul, Nat.add_zero]
 exact hc i hi m u hu
theorem tds_one {W : World} {B : Nat} {v : Value} {ms : List TdM} {x : Td} (h : TdsAt W B v ms) (hm : ms.map (·.td) = [x]) : ∃ g cap tv, v = .slice (some ⟨g, 0, none⟩) 1 cap /\ B <= g /\ g < W.heap.size /\ (∀ j u, (tdCells x tv)[j]? = some u -> W.cell? ⟨g, j, none⟩ = some u) /\ W.ownsRow B 49 3 tv x.ts.length (tnCells x.ts) := by
 cases ms with
 | nil => cases hm
 | cons m r =>
  cases r with
  | cons a r => cases hm
  | nil =>
   simp only [List.map_cons, List.map_nil, List.cons.injEq, and_true] at hm
   subst hm
   rcases own_cells h.row with ⟨-, h0⟩ | ⟨g, cap, rfl, hb, hg, hc⟩
   ·cases h0
   ·refine ⟨g, cap, m.tv, rfl, hb, hg, fun j u hu => ?_, h.ts m (List.mem_singleton.2 rfl)⟩
    refine hc j u ?_
    show (tmL m ++ [])[j]? = some u
    rw [List.append_nil]
    simpa using hu
theorem abE_fm {f l : ByteArray} {s : Int} (h : abE f s l = 0) : f.size <= 140737488351232 := by
 have h1 := (abbrF_ok h).2.1
 unfold splitF at h1
 split at h1
 ·cases h1
 ·rename_i h2
  rw [Lib.size_eq]
  omega
theorem abbr_lt {f l : ByteArray} {s : Int} (h : abE f s l = 0) : l.size <= 140737488351232 := by
 have h1 := letter_len (abbrF_ok h).2.2.1
 rw [Lib.size_eq]
 omega
theorem tdR_len {rules : List Ru} (ho : ∀ r ∈ rules, OkRu r) (x : Er) : (tdR rules x).ts.length <= 1500 := by
 unfold tdR
 split
 ·exact Nat.zero_le _
 ·exact (mkR_len ho _ _).1
theorem StAt_any (MK : MakeSays) (b : Bk) (rv zv lv : Value) (nm : ByteArray) (t : Int) (w : World) (hB : BookAt w.heap.size w rv zv lv b) (hn : nm.size <= 140737488351232) (ht1 : -9223372036854775808 <= t) (ht2 : t <= 9223372036854775807) (hm : MaxLen w) (ht : Tab10 w) :
 Calls Tryz.prog 18 #[.agg #[rv, zv, lv], .string nm, .int .i64 t] w (StPost (stR b nm t) w) := by
 have HBK := qH hB
 obtain ⟨p1, c1, rfl, -, -⟩ := hB.r
 obtain ⟨p2, c2, rfl, -, -⟩ := hB.z
 obtain ⟨p3, c3, rfl, -, -⟩ := hB.l
 obtain ⟨W0, eW⟩ : ∃ W0, (w.alloc (.cells #[.slice p1 b.rules.length c1, .slice p2 b.zones.length c2, .slice p3 b.links.length c3] 26)).alloc (.cells #[.int .i64 0, .bool false, .string ⟨#[]⟩] 51) = W0 := ⟨_, rfl⟩
 have hb0 : Below w.heap.size w W0 := by rw [<- eW]; exact ((Below.refl _ _).alloc (Nat.le_refl _) _).alloc (by simp) _
 have hbx : W0.heap[w.heap.size]? = some (.cells #[.slice p1 b.rules.length c1, .slice p2 b.zones.length c2, .slice p3 b.links.length c3] 26 (0, 0)) := by
  rw [<- eW]
  exact (Below.heap_alloc _ _ _ (by simp)).trans (heap_alloc_new w _)
 have hrb : W0.heap[w.heap.size + 1]? = some (.cells #[.int .i64 0, .bool false, .string ⟨#[]⟩] 51 (0, 0)) := by
  rw [<- eW]
  exact alloc_at _ _ _ (by simp)
 have hl0 : w.heap.size + 1 < W0.heap.size := by rw [<- eW]; simp
 have x0 := (cell_of_row W0 _ 0 _ _ _ hbx).trans rfl
 have x1 := (cell_of_row W0 _ 1 _ _ _ hbx).trans rfl
 have x2 := (cell_of_row W0 _ 2 _ _ _ hbx).trans rfl
 have HEW := qH eW
 have HB0 := qH hb0
 have HBX := qH hbx
 have HRB := qH hrb
 have HM := qH hm
 have HT := qH ht
 have HRS := qH (Resolve_any b _ _ _ nm W0 ((hB.below hb0 (Nat.le_refl _)).baseN (by omega)) hn (hm.below hb0) (ht.below hb0))
 have HNO := qH (fun c h => stR_none (b := b) (nm := nm) (c := c) h t)
 have HSO := qH (fun z c h => stR_some (b := b) (nm := nm) (z := z) (c := c) h t)
 have HRV := qH (fun z c h => rsv_zero (b := b) (nm := nm) (z := z) (c := c) h)
 have HRN := qH (fun c h => rsv_not0 (b := b) (nm := nm) (c := c) h)
 obtain ⟨S, eS⟩ : ∃ S, stR b nm t = S := ⟨_, rfl⟩
 rw [eS] at HNO HSO ⊢
 obtain ⟨R, eR⟩ : ∃ R, rsv b nm = R := ⟨_, rfl⟩
 rw [eR] at HRS HNO HSO HRV HRN
 clear eW hb0 hbx hrb hB hm ht eS eR
 -- the end: the result's cells
 have FIN : Hid (∀ (W' : World) (c : Int) (T : Ty), Below W0.heap.size W0 W' -> S = (c, T) -> ∃ W9, ((W'.setCell ⟨w.heap.size + 1, 0, none⟩ (.int .i64 T.off)).setCell ⟨w.heap.size + 1, 1, none⟩ (.bool T.save)).setCell ⟨w.heap.size + 1, 2, none⟩ (.string T.name) = W9 /\ W9.cell? ⟨w.heap.size + 1, 0, none⟩ = some (.int .i64 T.off) /\ W9.cell? ⟨w.heap.size + 1, 1, none⟩ = some (.bool T.save) /\ W9.cell? ⟨w.heap.size + 1, 2, none⟩ = some (.string T.name) /\ StPost S w (.returned (.tuple #[.agg #[.int .i64 T.off, .bool T.save, .string T.name], .int .i64 c])) W9) := by
  show ∀ W' c T, _
  intro W' c T hb hS
  obtain ⟨W9, e9, hh9, hb9⟩ := end_three ((hb.block (w.heap.size + 1) hl0).trans HRB.out) (.int .i64 T.off) (.bool T.save) (.string T.name)
  exact ⟨W9, e9, (cell_of_row W9 _ 0 _ _ _ hh9).trans rfl, (cell_of_row W9 _ 1 _ _ _ hh9).trans rfl, (cell_of_row W9 _ 2 _ _ _ hh9).trans rfl, StPost.mk hS ((HB0.out.trans (hb.mono HB0.out.size)).trans (hb9 _ (by omega)))⟩
 have RES : Hid (∀ (W' : World), Below W0.heap.size W0 W' -> W'.cell? ⟨w.heap.size + 1, 0, none⟩ = some (.int .i64 0) /\ W'.cell? ⟨w.heap.size + 1, 1, none⟩ = some (.bool false) /\ W'.cell? ⟨w.heap.size + 1, 2, none⟩ = some (.string ⟨#[]⟩) /\ W'.frozen? ⟨w.heap.size + 1, 0, none⟩ = false /\ W'.frozen? ⟨w.heap.size + 1, 1, none⟩ = false /\ W'.frozen? ⟨w.heap.size + 1, 2, none⟩ = false) := by
  show ∀ W', _
  intro W' hb
  have h2 := (hb.block (w.heap.size + 1) hl0).trans HRB.out
  exact ⟨(cell_of_row W' _ 0 _ _ _ h2).trans rfl, (cell_of_row W' _ 1 _ _ _ h2).trans rfl, (cell_of_row W' _ 2 _ _ _ h2).trans rfl, by simp [World.frozen?, h2], by simp [World.frozen?, h2], by simp [World.frozen?, h2]⟩
 have BOX : Hid (∀ (W' : World), Below W0.heap.size W0 W' -> W'.cell? ⟨w.heap.size, 0, none⟩ = some (.slice p1 b.rules.length c1) /\ W'.cell? ⟨w.heap.size, 1, none⟩ = some (.slice p2 b.zones.length c2) /\ W'.cell? ⟨w.heap.size, 2, none⟩ = some (.slice p3 b.links.length c3)) := by
  show ∀ W', _
  intro W' hb
  have h2 := (hb.block w.heap.size (by omega)).trans HBX.out
  exact ⟨(cell_of_row W' _ 0 _ _ _ h2).trans rfl, (cell_of_row W' _ 1 _ _ _ h2).trans rfl, (cell_of_row W' _ 2 _ _ _ h2).trans rfl⟩
 go_enter Tryz.func18, Tryz.ntmps18
 go_upto_region 1 with fail
 rw [HEW.out]
 go_wp2_with fail
 refine HRS.out.mono ?_
 obtain ⟨Z, C⟩ := R
 rintro e w1 ⟨vo, rfl, hrow, hb1⟩
 simp only at hrow ⊢
 have HB1 := qH hb1
 have HRW := qH hrow
 obtain ⟨A, cA, rfl⟩ := own_sliceN hrow
 obtain ⟨W2, e2⟩ : ∃ W2, w1.alloc (.cells #[.string (zNm Z), .slice A (zEr Z).length cA] 46) = W2 := ⟨_, rfl⟩
 obtain ⟨zb, ezb⟩ : ∃ zb, w1.heap.size = zb := ⟨_, rfl⟩
 have hzb : W0.heap.size <= zb := by rw [<- ezb]; exact hb1.size
 have hx2 : W2.heap[zb]? = some (.cells #[.string (zNm Z), .slice A (zEr Z).length cA] 46 (0, 0)) := by rw [<- e2]; exact alloc_at _ _ _ ezb.symm
 have hb2 : Below w1.heap.size w1 W2 := by rw [<- e2]; exact (Below.refl _ _).alloc (Nat.le_refl _) _
 have hz2 : zb < W2.heap.size := by rw [<- e2]; simp; omega
 have HB2 := qH (hb1.trans (hb2.mono hb1.size))
 have HX2 := qH hx2
 have HE2 := qH e2
 have HRW2 := qH (own_keep hrow fun g e => hb2.block g (World.ownsRow.lt hrow g e).2)
 clear hrow hb1 hb2 hx2 HRS HRW x0 x1 x2 e2
 go_upto_region 2 with fail
 rw [HE2.out]
 obtain ⟨r0, r1, r2, f0, f1, f2⟩ := RES.out W2 HB2.out
 cases Z with
 | none =>
  have hC := HRN.out C rfl
  have hS := HNO.out C rfl
  have hz : (C == 0) = false := by simpa using hC
  have hz2 : (!C == 0) = true := by rw [hz]; rfl
  have HF := qH (FIN.out W2 C ty0 HB2.out hS)
  clear hC hS HNO HSO HRV HRN FIN RES BOX HRW2 HX2
  go_wp2_with fail
  obtain ⟨W9, e9, v0, v1, v2, hP⟩ := HF.out
  simp only [ty0] at e9 v0 v1 v2 hP
  rw [e9]
  exact bodyPost_ret (v := .tuple #[.agg #[.int .i64 0, .bool false, .string ⟨#[]⟩], .int .i64 C]) (by simp [results, Tryz.results18, go_sem, v0, v1, v2]) rfl hP
 | some z =>
  obtain ⟨hC, hzz, hbk⟩ := HRV.out z C rfl
  subst hC
  have hS := HSO.out z 0 rfl
  have HST := qH (Stamp_any t W2 ht1 ht2 (HT.out.below (HB0.out.trans (HB2.out.mono HB0.out.size))))
  have hE0 := bk_eras hbk hzz
  have HE0 := qH hE0
  have HBKC := qH hbk
  have HSS := qH hS
  have hel := hE0.le
  have HROWE : Hid (RowsAt (fun x : Er => (erCells x).toList) 5 W2.heap.size W2 (.slice A z.eras.length cA) z.eras) := own_rowsG (cells := fun x : Er => (erCells x).toList) (k := 5) (fun _ => rfl) HRW2.out (by show z.eras.length <= 100000; omega)
  clear hS hzz hbk HNO HSO HRV HRN HRW2 hE0
  simp only [zNm, zEr] at HX2 HE2 ⊢
  have HROWA : Hid (∃ b o, A = some ⟨b, o, none⟩ /\ RowsAt (fun x : Er => (erCells x).toList) 5 W2.heap.size W2 (.slice (some ⟨b, o + (whichF z.eras t) * 5, none⟩) 1 (cA - whichF z.eras t)) [eraAt z.eras (whichF z.eras t)]) := by
   show ∃ b o, _
   obtain ⟨hk, e⟩ := era_in HE0.out t
   rw [e]
   exact rows_at HROWE.out _ hk
  have hkl := (era_in HE0.out t).1
  have HXO := qH (HE0.out.ok _ (List.getElem_mem hkl))
  rw [<- eraAt_in _ _ hkl] at HXO
  have hcap : z.eras.length <= cA := by
   obtain ⟨pp, cc, e, ⟨-, h2⟩, -⟩ := HROWE.out
   simp only [Value.slice.injEq, true_and] at e
   obtain ⟨-, rfl⟩ := e
   exact h2
  obtain ⟨E1, eE1⟩ : ∃ E1, stampE t = E1 := ⟨_, rfl⟩
  rw [eE1] at HST HSS
  obtain ⟨k, ek⟩ : ∃ k, whichF z.eras t = k := ⟨_, rfl⟩
  have HWH : Hid (∀ W, Below W2.heap.size W2 W -> Calls Tryz.prog 47 #[.slice A z.eras.length cA, .int .i64 t] W fun e w' => e = .returned (.int .i64 (k : Nat)) /\ Below W.heap.size W w') := by
   show ∀ W, _
   intro W hb
   have := Which_any (rules := b.rules) z.eras (.slice A z.eras.length cA) t W2.heap.size W (HROWE.out.below hb (Nat.le_refl _)) hb.size HE0.out
   rwa [ek] at this
  rw [ek] at HSS HROWA HXO hkl
  have hSF : stF b.rules z.eras t = tdTy (tdR b.rules (eraAt z.eras k)) t := by unfold stF tdA; rw [ek]
  rw [hSF] at HSS
  obtain ⟨x, ex⟩ : ∃ x, eraAt z.eras k = x := ⟨_, rfl⟩
  rw [ex] at HSS HROWA HXO
  clear eE1 ek hSF ex HROWE HE0
  obtain ⟨eb, eo, rfl, hrowx⟩ := HROWA.out
  have HRX := qH hrowx
  clear hrowx HROWA
  go_wp2_with fail
  refine HST.out.mono ?_
  rintro e w3 ⟨⟨s3, rfl⟩, hb3⟩
  have HB3 := qH (HB2.out.trans (hb3.mono HB2.out.size))
  have hx3 := (hb3.block zb hz2).trans HX2.out
  have q1 : w3.cell? ⟨zb, 1, none⟩ = some (.slice (some ⟨eb, eo, none⟩) z.eras.length cA) := (cell_of_row w3 _ 1 _ _ _ hx3).trans rfl
  have HBZ := qH hb3
  obtain ⟨r0, r1, r2, f0, f1, f2⟩ := RES.out w3 HB3.out
  clear hb3 HST
  by_cases hE1 : E1 = 0
  case neg =>
   have hS := HSS.out
   rw [if_pos hE1] at hS
   have hz : (E1 == 0) = false := by simpa using hE1
   have hz2 : (!E1 == 0) = true := by rw [hz]; rfl
   have HF := qH (FIN.out w3 E1 ty0 HB3.out hS)
   clear hE1 hS HSS FIN RES BOX HX2 HWH q1 hx3
   go_wp2_with fail
   obtain ⟨W9, e9, v0, v1, v2, hP⟩ := HF.out
   simp only [ty0] at e9 v0 v1 v2 hP
   rw [e9]
   exact bodyPost_ret (v := .tuple #[.agg #[.int .i64 0, .bool false, .string ⟨#[]⟩], .int .i64 E1]) (by simp [results, Tryz.results18, go_sem, v0, v1, v2]) rfl hP
  case pos =>
  subst hE1
  have HX3 := qH hx3
  have HW3 := qH (HWH.out w3 HBZ.out)
  clear hx3 HWH HX2
  go_wp2_with fail
  refine HW3.out.mono ?_
  rintro e w4 ⟨rfl, hb4⟩
  have HBZ4 := qH (HBZ.out.trans (hb4.mono HBZ.out.size))
  have HB4 := qH (HB3.out.trans (hb4.mono HB3.out.size))
  have hzb3 : zb < w3.heap.size := by have := HBZ.out.size; omega
  have hx4 := (hb4.block zb hzb3).trans HX3.out
  have q1 : w4.cell? ⟨zb, 1, none⟩ = some (.slice (some ⟨eb, eo, none⟩) z.eras.length cA) := (cell_of_row w4 _ 1 _ _ _ hx4).trans rfl
  obtain ⟨g0, g1, g2⟩ := BOX.out w4 HB4.out
  have HRU := qH (bk_rules HBKC.out)
  have HER : Hid (∀ W, Below w4.heap.size w4 W -> Calls Tryz.prog 48 #[.agg #[.slice p1 b.rules.length c1, .slice p2 b.zones.length c2, .slice p3 b.links.length c3], .agg #[.string ⟨#[]⟩, .slice (some ⟨eb, eo + k * 5, none⟩) 1 (cA - k)]] W (ErasPost b.rules [x] W)) := by
   show ∀ W, _
   intro W hb
   have hbw := HB0.out.trans ((HB4.out.trans (hb.mono HB4.out.size)).mono HB0.out.size)
   have hbz := HBZ4.out.trans (hb.mono HBZ4.out.size)
   refine Eras_any MK b.rules _ _ _ ⟨#[]⟩ [x] _ W ((HBK.out.r.below hbw (Nat.le_refl _)).mono hbw.size) HRU.out.2 HRU.out.1 ((HRX.out.below hbz (Nat.le_refl _)).mono hbz.size) (fun y hy => ?_) (by simp) ⟨_, _, _, rfl⟩ ⟨_, _, _, rfl⟩
   obtain rfl := List.mem_singleton.1 hy
   have h1 := HXO.out.o1
   have h2 := HXO.out.o2
   omega
  have hkz0 : (0 : Int) <= (k : Int) := Int.natCast_nonneg _
  have hkz1 : (k : Int) <= (k : Int) + 1 := by omega
  have hkz2 : (k : Int) + 1 <= (cA : Int) := by omega
  have hckz : ¬ cA = k := by omega
  have hkz3 : IntKind.i64.wrap ((k : Int) + 1) = (k : Int) + 1 := IntWalk.i64_in _ (by omega)
  have hzb4 : zb < w4.heap.size := by have := hb4.size; omega
  have hw04 : W0.heap.size <= w4.heap.size := HB4.out.size
  have HX4 := qH hx4
  have KS : Hid (∀ wx, Below w4.heap.size w4 wx -> Below w4.heap.size w4 wx /\ wx.cell? ⟨w.heap.size, 0, none⟩ = some (.slice p1 b.rules.length c1) /\ wx.cell? ⟨w.heap.size, 1, none⟩ = some (.slice p2 b.zones.length c2) /\ wx.cell? ⟨w.heap.size, 2, none⟩ = some (.slice p3 b.links.length c3) /\ wx.cell? ⟨zb, 1, none⟩ = some (.slice (some ⟨eb, eo, none⟩) z.eras.length cA)) := by
   show ∀ wx, _
   intro wx hb
   obtain ⟨a0, a1, a2⟩ := BOX.out wx (HB4.out.trans (hb.mono hw04))
   exact ⟨hb, a0, a1, a2, (hb.cell (p := ⟨zb, 1, none⟩) hzb4).trans ((cell_of_row w4 _ 1 _ _ _ HX4.out).trans rfl)⟩
  have KR : Hid (∀ wx,  Below w4.heap.size w4 wx /\ wx.cell? ⟨w.heap.size, 0, none⟩ = some (.slice p1 b.rules.length c1) /\ wx.cell? ⟨w.heap.size, 1, none⟩ = some (.slice p2 b.zones.length c2) /\ wx.cell? ⟨w.heap.size, 2, none⟩ = some (.slice p3 b.links.length c3) /\ wx.cell? ⟨zb, 1, none⟩ = some (.slice (some ⟨eb, eo, none⟩) z.eras.length cA) -> Below w4.heap.size w4 wx) := fun wx h => h.1
  have eE2 : firstE (tdE b.rules) [x] = tdE b.rules x := by
   show (if tdE b.rules x = 0 then 0 else tdE b.rules x) = _
   split
   ·rename_i h; exact h.symm
   ·rfl
  by_cases hE2 : tdE b.rules x = 0
  case neg =>
   have HEB : Hid (∀ W, Below w4.heap.size w4 W -> Calls Tryz.prog 48 #[.agg #[.slice p1 b.rules.length c1, .slice p2 b.zones.length c2, .slice p3 b.links.length c3], .agg #[.string ⟨#[]⟩, .slice (some ⟨eb, eo + k * 5, none⟩) 1 (cA - k)]] W fun e w' => e = .returned (.tuple #[.slice none 0 0, .int .i64 (tdE b.rules x)]) /\ Below W.heap.size W w') := by
    show ∀ W, _
    intro W hb
    refine (HER.out W hb).mono fun e w' ⟨h1, h2, _⟩ => ⟨?_, h1⟩
    rw [eE2] at h2
    exact h2 hE2
   have hS := HSS.out
   rw [if_neg (by simp), if_pos hE2] at hS
   obtain ⟨E2, e2⟩ : ∃ E2, tdE b.rules x = E2 := ⟨_, rfl⟩
   rw [e2] at HEB hS hE2
   have hz : (E2 == 0) = false := by simpa using hE2
   have hzz2 : (!E2 == 0) = true := by rw [hz]; rfl
   have HSF := qH hS
   clear hb4 HX3 hx4 HW3 HER e2 eE2 hS HSS hE2
   go_wp2_with fail
   go_region_held3 (fun wx => Below w4.heap.size w4 wx /\ wx.cell? ⟨w.heap.size, 0, none⟩ = some (.slice p1 b.rules.length c1) /\ wx.cell? ⟨w.heap.size, 1, none⟩ = some (.slice p2 b.zones.length c2) /\ wx.cell? ⟨w.heap.size, 2, none⟩ = some (.slice p3 b.links.length c3) /\ wx.cell? ⟨zb, 1, none⟩ = some (.slice (some ⟨eb, eo, none⟩) z.eras.length cA)) ((refine KS.out _ ?_; repeat (first | (with_reducible assumption) | (with_reducible exact Below.refl _ _) | (with_reducible refine Below.drew ?_)))) (first | (go_at_call 48; refine (HEB.out _ (KR.out _ (by assumption))).mono ?_; rintro e w5 ⟨rfl, hb5⟩; have hB5 := ((KR.out _ (by assumption)).trans (hb5.mono (KR.out _ (by assumption)).size)); clear hb5))
   obtain ⟨r0, r1, r2, f0, f1, f2⟩ := RES.out w5 (HB4.out.trans (hB5.mono hw04))
   have HF := qH (FIN.out w5 E2 ty0 (HB4.out.trans (hB5.mono hw04)) HSF.out)
   clear hB5 HEB KS KR FIN RES BOX HX4 g0 g1 g2 q1 HSF
   go_wp2_with fail
   obtain ⟨W9, e9, v0, v1, v2, hP⟩ := HF.out
   simp only [ty0] at e9 v0 v1 v2 hP
   rw [e9]
   exact bodyPost_ret (v := .tuple #[.agg #[.int .i64 0, .bool false, .string ⟨#[]⟩], .int .i64 E2]) (by simp [results, Tryz.results18, go_sem, v0, v1, v2]) rfl hP
  case pos =>
   have hS := HSS.out
   rw [if_neg (by simp), if_neg (fun g => g hE2)] at hS
   have hXr := tdR_rises hE2
   have hXe : (tdR b.rules x).er = x := tdR_er _ _
   obtain ⟨s1, s2, s3', -⟩ := sv_ok HXO.out t
   have hfm := abE_fm s1
   have hlt := abbr_lt s1
   have HO := qH (And.intro HXO.out.o1 HXO.out.o2)
   have hXl : (tdR b.rules x).ts.length <= 1500 := tdR_len HRU.out.2 x
   obtain ⟨X, eX⟩ : ∃ X, tdR b.rules x = X := ⟨_, rfl⟩
   have HEG : Hid (∀ W, Below w4.heap.size w4 W -> Calls Tryz.prog 48 #[.agg #[.slice p1 b.rules.length c1, .slice p2 b.zones.length c2, .slice p3 b.links.length c3], .agg #[.string ⟨#[]⟩, .slice (some ⟨eb, eo + k * 5, none⟩) 1 (cA - k)]] W fun e w' => ∃ g cap tv, e = .returned (.tuple #[.slice (some ⟨g, 0, none⟩) 1 cap, .int .i64 0]) /\ Hid (g < w'.heap.size /\ (∀ j u, (tdCells X tv)[j]? = some u -> w'.cell? ⟨g, j, none⟩ = some u) /\ w'.ownsRow W.heap.size 49 3 tv X.ts.length (tnCells X.ts)) /\ Below W.heap.size W w') := by
    show ∀ W, _
    intro W hb
    refine (HER.out W hb).mono fun e w' ⟨h1, _, h2⟩ => ?_
    obtain ⟨v, ms, he, hms, htd⟩ := h2 (by rw [eE2]; exact hE2)
    rw [List.map_cons, List.map_nil, eX] at hms
    obtain ⟨g, cap, tv, rfl, -, q2, q3, q4⟩ := tds_one htd hms
    exact ⟨g, cap, tv, he, ⟨q2, q3, q4⟩, h1⟩
   rw [eX] at hS hXr hXe s2 s3' hlt hXl
   have HSF := qH hS
   have HXR := qH hXr
   have HXE := qH hXe
   have HS2 := qH (And.intro s2 s3')
   have HFM := qH hfm
   have HLT := qH hlt
   clear hb4 HX3 hx4 HW3 HER eE2 hS HSS hE2 eX hXr hXe s1 s2 s3' hfm hlt
   go_wp2_with fail
   go_region_held3 (fun wx => Below w4.heap.size w4 wx /\ wx.cell? ⟨w.heap.size, 0, none⟩ = some (.slice p1 b.rules.length c1) /\ wx.cell? ⟨w.heap.size, 1, none⟩ = some (.slice p2 b.zones.length c2) /\ wx.cell? ⟨w.heap.size, 2, none⟩ = some (.slice p3 b.links.length c3) /\ wx.cell? ⟨zb, 1, none⟩ = some (.slice (some ⟨eb, eo, none⟩) z.eras.length cA)) ((refine KS.out _ ?_; repeat (first | (with_reducible assumption) | (with_reducible exact Below.refl _ _) | (with_reducible refine Below.drew ?_)))) (first | (go_at_call 48; refine (HEG.out _ (KR.out _ (by assumption))).mono ?_; rintro e w5 ⟨g, cap, tv, rfl, hg5, hb5⟩; have hB5 := ((KR.out _ (by assumption)).trans (hb5.mono (KR.out _ (by assumption)).size)); clear hb5))
   obtain ⟨r0, r1, r2, f0, f1, f2⟩ := RES.out w5 (HB4.out.trans (hB5.mono hw04))
   have HB5 := qH (HB4.out.trans (hB5.mono hw04))
   obtain ⟨hg, hgc, hgt⟩ := hg5.out
   obtain ⟨At, cAt, rfl⟩ := own_sliceN hgt
   have y0 := hgc 0 _ rfl
   have y1 := hgc 1 _ rfl
   have y2 := hgc 2 _ rfl
   have y3 := hgc 3 _ rfl
   have y4 := hgc 4 _ rfl
   have y5 := hgc 5 _ rfl
   have y6 := hgc 6 _ rfl
   have HTA : Hid (Calls Tryz.prog 49 #[.agg (tdCells X (.slice At X.ts.length cAt)), .int .i64 t] w5 fun e w' => e = .returned (tyV (tdTy X t)) /\ Below w5.heap.size w5 w') := by
    have ho := HO.out
    refine TdAt_any X _ t w5 ((own_rowsT hgt (by omega)).mono (Nat.le_refl _)) HXR.out (by rw [HXE.out]; omega) (by rw [HXE.out]; omega) (by rw [HXE.out]; exact HFM.out) HLT.out HS2.out.1 HS2.out.2 (HM.out.below (HB0.out.trans (HB5.out.mono HB0.out.size))) (by omega)
   have hw05 : W0.heap.size <= w5.heap.size := HB5.out.size
   clear hB5 HEG KS KR BOX HX4 g0 g1 g2 q1 hg5 hgc hgt HXR HS2 HFM HLT HO
   go_wp2_with fail
   refine HTA.out.mono ?_
   rintro e w6 ⟨rfl, hb6⟩
   have HB6 := qH (HB5.out.trans (hb6.mono hw05))
   obtain ⟨r0, r1, r2, f0, f1, f2⟩ := RES.out w6 HB6.out
   have HF := qH (FIN.out w6 0 (tdTy X t) HB6.out HSF.out)
   obtain ⟨T, eT⟩ : ∃ T, tdTy X t = T := ⟨_, rfl⟩
   rw [eT] at HF ⊢
   obtain ⟨tof, ts, tn⟩ := T
   clear hb6 HTA FIN RES HSF eT y0 y1 y2 y3 y4 y5 y6
   go_wp2_with fail
   obtain ⟨W9, e9, v0, v1, v2, hP⟩ := HF.out
   rw [e9]
   exact bodyPost_ret (v := .tuple #[.agg #[.int .i64 tof, .bool ts, .string tn], .int .i64 0]) (by simp [results, Tryz.results18, go_sem, v0, v1, v2]) rfl hP
def MkTPost (R : Int × Tab) (w : World) (e : Ending) (w' : World) : Prop := ∃ sv cv, e = .returned (.tuple #[.agg #[sv, .int .i64 0, cv], .int .i64 R.1]) /\ w'.ownsRow w.heap.size 51 3 sv R.2.types.length (tyCells R.2.types) /\ w'.ownsRow w.heap.size 61 2 cv R.2.chs.length (chCells R.2.chs) /\ Below w.heap.size w w'
theorem MkTPost.bad {R : Int × Tab} {c : Int} {w w' : World} (h : R = (c, zTab)) (hb : Below w.heap.size w w') : MkTPost R w (.returned (.tuple #[.agg #[.slice none 0 0, .int .i64 0, .slice none 0 0], .int .i64 c])) w' := by
 subst h
 exact ⟨_, _, rfl, World.ownsRow_nil _ _ _ _, World.ownsRow_nil _ _ _ _, hb⟩
theorem MakeNone_any (c : Int) (w : World) : Calls Tryz.prog 54 #[.int .i64 c] w fun e w' => e = .returned (.tuple #[.agg #[.slice none 0 0, .int .i64 0, .slice none 0 0], .int .i64 c]) /\ Below w.heap.size w w' := by
 obtain ⟨W0, e0⟩ : ∃ W0, w.alloc (.cells #[.slice none 0 0, .int .i64 0, .slice none 0 0] 58) = W0 := ⟨_, rfl⟩
 have hx : W0.heap[w.heap.size]? = some (.cells #[.slice none 0 0, .int .i64 0, .slice none 0 0] 58 (0, 0)) := by rw [<- e0]; exact heap_alloc_new w _
 have v0 : W0.cell? ⟨w.heap.size, 0, none⟩ = some (.slice none 0 0) := (cell_of_row W0 _ 0 _ _ _ hx).trans rfl
 have v1 : W0.cell? ⟨w.heap.size, 1, none⟩ = some (.int .i64 0) := (cell_of_row W0 _ 1 _ _ _ hx).trans rfl
 have v2 : W0.cell? ⟨w.heap.size, 2, none⟩ = some (.slice none 0 0) := (cell_of_row W0 _ 2 _ _ _ hx).trans rfl
 have HB : Hid (Below w.heap.size w W0) := by rw [<- e0]; exact (Below.refl _ _).alloc (Nat.le_refl _) _
 have HE := qH e0
 clear hx e0
 go_enter Tryz.func54, Tryz.ntmps54
 go_wp2_with fail
 rw [HE.out]
 exact bodyPost_ret (v := .tuple #[.agg #[.slice none 0 0, .int .i64 0, .slice none 0 0], .int .i64 c]) (by simp [results, Tryz.results54, go_sem, v0, v1, v2]) rfl ⟨rfl, HB.out⟩
structure MInv (F s : NS) (L : List (Int × Ty)) : Prop where
 eq : L.foldl stepN s = F
 tl : s.types.length + L.length <= 2000000
 cl : s.chs.length + L.length <= 2000000
 pos : 0 < s.types.length
 nm : ∀ y ∈ s.types, y.name.size <= maxLen
 ln : ∀ c ∈ L, c.2.name.size <= maxLen
theorem MInv.small {F s : NS} {L : List (Int × Ty)} (h : MInv F s L) : NSm s := ⟨by have := h.tl; omega, by have := h.cl; omega, h.pos, h.nm⟩
theorem MInv.step {F s : NS} {c : Int × Ty} {L : List (Int × Ty)} (h : MInv F s (c :: L)) : MInv F (stepN s c) L := by
 have e := h.eq
 have h1 := h.tl
 have h2 := h.cl
 simp only [List.length_cons] at h1 h2
 have hp := h.pos
 have hln : ∀ d ∈ L, d.2.name.size <= maxLen := fun d hd => h.ln d (List.mem_cons_of_mem _ hd)
 rw [List.foldl_cons] at e
 refine ⟨e, ?_, ?_, ?_, ?_, hln⟩ <;> unfold stepN <;> by_cases hc : c.2 = s.last
 ·rw [if_pos hc]; omega
 ·rw [if_neg hc]
  simp only [addTy]
  split
  ·omega
  ·simp only [List.length_append, List.length_cons, List.length_nil]; omega
 ·rw [if_pos hc]; omega
 ·rw [if_neg hc]
  simp only [List.length_append, List.length_cons, List.length_nil]; omega
 ·rw [if_pos hc]; exact hp
 ·rw [if_neg hc]
  simp only [addTy]
  split
  ·exact hp
  ·simp only [List.length_append, List.length_cons, List.length_nil]; omega
 ·rw [if_pos hc]; exact h.nm
 ·rw [if_neg hc]
  simp only [addTy]
  split
  ·exact h.nm
  ·intro y hy
   rcases List.mem_append.1 hy with hy | hy
   ·exact h.nm y hy
   ·rw [List.mem_singleton.1 hy]; exact h.ln c List.mem_cons_self
theorem MInv.done {F s : NS} (h : MInv F s []) : s = F := h.eq
theorem cand_len {rules : List Ru} (ho : ∀ r ∈ rules, OkRu r) (l : List Er) (te : Int) : ∀ (n k : Nat) (fr : Int), (candF rules l te n fr k).length <= n * 1501
 | 0, _, _ => Nat.zero_le _
 | n + 1, k, fr => by
  have h1 : ∀ a c, (evF (tdA rules l k) a c).length <= 1500 := by
   intro a c
   unfold evF winF
   rw [List.length_map]
   exact Nat.le_trans (List.length_filter_le _ _) (tdR_len ho _)
  have h2 := cand_len ho l te n (k + 1) ((eraAt l k).un + 1)
  have h3 := h1 fr (lastF l k te)
  rw [candF]
  split
  ·omega
  ·simp only [List.length_append, List.length_cons]; omega
theorem minv_start {rules : List Ru} {l : List Er} (hok : TdsOk rules l) (ho : ∀ r ∈ rules, OkRu r) (hl : l.length <= 1000) (fr te : Int) : MInv (makeN (stF rules l fr) (candsF rules l fr te)) (begN (stF rules l fr)) (candF rules l te (l.length - whichF l fr) (fr + 1) (whichF l fr)) := by
 have hn := cand_len ho l te (l.length - whichF l fr) (whichF l fr) (fr + 1)
 have hsz : ∀ y, (stF rules l y).name.size <= maxLen := fun y => by
  have := abbr_sizeT _ (stF_ok hok y).2.2
  simp only [maxLen]; omega
 refine ⟨rfl, ?_, ?_, ?_, ?_, ?_⟩
 ·simp only [begN, List.length_cons, List.length_nil]; omega
 ·simp only [begN, List.length_nil]; omega
 ·simp [begN]
 ·intro y hy
  simp only [begN, List.mem_singleton] at hy
  rw [hy]; exact hsz _
 ·intro c hc
  rw [((cands_spec hok fr te).2.1 c hc).2.2.1]
  exact hsz _
theorem ev_win (x : Td) (a c : Int) : evF x a c = (winL x.ts a c).map fun t => (t, tdTy x t) := by
 unfold evF winF winL
 rw [List.map_map]
 rfl
theorem tmFlat_at : ∀ (ms : List TdM) (k : Nat) (hk : k < ms.length) (j : Nat) (u : Value), (tdCells ms[k].td ms[k].tv)[j]? = some u -> (tmFlat ms)[k * 7 + j]? = some u
 | m :: r, 0, _, j, u, h => by
  have hj : j < 7 := (Array.getElem?_eq_some_iff.mp h).1
  show (tmL m ++ tmFlat r)[0 * 7 + j]? = some u
  rw [Nat.zero_mul, Nat.zero_add, List.getElem?_append_left (by exact hj)]
  simpa using h
 | m :: r, k + 1, hk, j, u, h => by
  have := tmFlat_at r k (by simpa using hk) j u (by simpa using h)
  show (tmL m ++ tmFlat r)[(k + 1) * 7 + j]? = some u
  rw [List.getElem?_append_right (by show 7 <= _; omega)]
  show (tmFlat r)[(k + 1) * 7 + j - 7]? = some u
  rw [show (k + 1) * 7 + j - 7 = k * 7 + j by omega]
  exact this
structure EraUse (rules : List Ru) (l : List Er) (W : World) (g k : Nat) (p : Option Addr) (n c : Nat) : Prop where
 c0 : W.cell? ⟨g, k * 7, none⟩ = some (.int .i64 (tdA rules l k).er.off)
 c1 : W.cell? ⟨g, k * 7 + 1, none⟩ = some (.string (tdA rules l k).er.ru)
 c2 : W.cell? ⟨g, k * 7 + 2, none⟩ = some (.int .i64 (tdA rules l k).er.sv)
 c3 : W.cell? ⟨g, k * 7 + 3, none⟩ = some (.string (tdA rules l k).er.fm)
 c4 : W.cell? ⟨g, k * 7 + 4, none⟩ = some (.int .i64 (tdA rules l k).er.un)
 c5 : W.cell? ⟨g, k * 7 + 5, none⟩ = some (.slice p n c)
 c6 : W.cell? ⟨g, k * 7 + 6, none⟩ = some (.string (tdA rules l k).fst)
 tdat : ∀ t, Calls Tryz.prog 49 #[.agg (tdCells (tdA rules l k) (.slice p n c)), .int .i64 t] W fun e w' => e = .returned (tyV (tdTy (tdA rules l k) t)) /\ Below W.heap.size W w'
 len : (tdA rules l k).ts.length <= 1500
 win : ∀ a z, Calls Tryz.prog 56 #[.agg (tdCells (tdA rules l k) (.slice p n c)), .int .i64 a, .int .i64 z] W (WinPost (winL (tdA rules l k).ts a z) W)
theorem tds_use {rules : List Ru} {l : List Er} {ms : List TdM} {v : Value} {W : World} {B : Nat} (hok : TdsOk rules l) (ho : ∀ r ∈ rules, OkRu r) (hms : ms.map (·.td) = l.map (tdR rules)) (hts : TdsAt W B v ms) (hne : 0 < l.length) (hm : MaxLen W) :
 ∃ g cap, ∃ P : Nat -> Option Addr × Nat × Nat, v = .slice (some ⟨g, 0, none⟩) l.length cap /\ l.length <= cap /\ g < W.heap.size /\ ∀ W', Below W.heap.size W W' -> ∀ k, k < l.length -> EraUse rules l W' g k (P k).1 (P k).2.1 (P k).2.2 := by
 have hlen : ms.length = l.length := by have := congrArg List.length hms; simpa using this
 rcases own_cells hts.row with ⟨-, h0⟩ | ⟨g, cap, hv, hb, hg, hc⟩
 ·omega
 obtain ⟨hcap, -⟩ : ms.length <= cap /\ True := by
  rcases hts.row.2 with ⟨-, h0⟩ | ⟨g2, cap2, cur, e, -, -, h3, -⟩
  ·omega
  ·rw [hv] at e
   simp only [Value.slice.injEq, true_and] at e
   obtain ⟨-, rfl⟩ := e
   exact ⟨h3, trivial⟩
 have hex : ∀ k, ∃ t : Option Addr × Nat × Nat, ∀ hk : k < ms.length, ms[k].tv = .slice t.1 t.2.1 t.2.2 /\ t.2.1 = ms[k].td.ts.length := by
  intro k
  by_cases hk : k < ms.length
  ·obtain ⟨p, c, e⟩ := own_sliceN (hts.ts ms[k] (List.getElem_mem hk))
   exact ⟨(p, _, c), fun _ => ⟨e, rfl⟩⟩
  ·exact ⟨(none, 0, 0), fun h => absurd h hk⟩
 obtain ⟨P, hP⟩ := Classical.axiomOfChoice hex
 refine ⟨g, cap, P, by rw [hv, hlen], by omega, hg, fun W' hb' k hk => ?_⟩
 have hkm : k < ms.length := by omega
 have etd : ms[k].td = tdA rules l k := by
  unfold tdA
  rw [eraAt_in _ _ hk]
  have : (ms.map (·.td))[k]'(by simpa using hkm) = (l.map (tdR rules))[k]'(by simpa using hk) := by congr 1
  simpa using this
 have hrow := hts.ts ms[k] (List.getElem_mem hkm)
 rw [etd] at hrow
 have hcl : ∀ j u, (tdCells (tdA rules l k) ms[k].tv)[j]? = some u -> W'.cell? ⟨g, k * 7 + j, none⟩ = some u := by
  intro j u hu
  rw [<- etd] at hu
  exact (hb'.cell (p := ⟨g, k * 7 + j, none⟩) hg).trans (hc _ _ (tmFlat_at ms k hkm j u hu))
 obtain ⟨hp1, hp2⟩ := hP k hkm
 rw [etd] at hp2
 rw [hp1] at hrow hcl
 generalize P k = t at hrow hcl hp2
 obtain ⟨p, n, c⟩ := t
 dsimp only at hrow hcl hp2 ⊢
 subst hp2
 have hx : EraOk rules (eraAt l k) := by rw [eraAt_in _ _ hk]; exact hok.o.ok _ (List.getElem_mem hk)
 have hlen5 : (tdA rules l k).ts.length <= 1500 := tdR_len ho _
 have hrows : RowsAt tnC 3 W'.heap.size W' (.slice p (tdA rules l k).ts.length c) (tdA rules l k).ts := by
  have h1 := own_rowsT hrow (by omega)
  exact (RowsAt.below (h1.mono (Nat.le_refl _)) hb' (Nat.le_refl _)).mono hb'.size
 have he : (tdA rules l k).er = eraAt l k := tdR_er _ _
 refine ⟨hcl 0 _ rfl, hcl 1 _ rfl, hcl 2 _ rfl, hcl 3 _ rfl, hcl 4 _ rfl, hcl 5 _ rfl, hcl 6 _ rfl, fun t => ?_, hlen5, fun a z => Within_any _ _ a z W' hrows (by omega)⟩
 obtain ⟨s1, s2, s3, -⟩ := sv_ok hx t
 have ho1 := hx.o1
 have ho2 := hx.o2
 refine TdAt_any _ _ t W' hrows (hok.r k hk) (by rw [he]; omega) (by rw [he]; omega) (by rw [he]; exact abE_fm s1) (abbr_lt s1) s2 s3 (hm.below hb') (by omega)
theorem minv_in {rules : List Ru} {l : List Er} {te f : Int} {k : Nat} {F s : NS} (hk : k < l.length) (h : MInv F s (candF rules l te (l.length - k) f k)) :
 ∃ R, MInv F s (((winL (tdA rules l k).ts f (lastF l k te)).drop 0).map (fun t => (t, tdTy (tdA rules l k) t)) ++ R) /\ (k + 1 = l.length \/ te <= (eraAt l k).un -> R = []) /\
  (¬ (k + 1 = l.length \/ te <= (eraAt l k).un) -> R = ((eraAt l k).un, tdTy (tdA rules l (k + 1)) (eraAt l k).un) :: candF rules l te (l.length - (k + 1)) ((eraAt l k).un + 1) (k + 1)) := by
 rw [show l.length - k = (l.length - (k + 1)) + 1 by omega] at h
 rw [List.drop_zero, <- ev_win]
 by_cases c : k + 1 = l.length \/ te <= (eraAt l k).un
 ·rw [cand_end c] at h
  exact ⟨[], by rw [List.append_nil]; exact h, fun _ => rfl, fun g => absurd c g⟩
 ·rw [cand_go c] at h
  exact ⟨_, h, fun g => absurd g c, fun _ => rfl⟩
theorem minv_next {X : Int -> Ty} {F s : NS} {W : List Int} {R : List (Int × Ty)} {j : Nat} (hj : j < W.length) (h : MInv F s ((W.drop j).map (fun t => (t, X t)) ++ R)) : NSm s /\ MInv F (stepN s (W[j], X W[j])) ((W.drop (j + 1)).map (fun t => (t, X t)) ++ R) := by
 rw [List.drop_eq_getElem_cons hj, List.map_cons, List.cons_append] at h
 exact ⟨h.small, h.step⟩
theorem minv_rest {X : Int -> Ty} {F s : NS} {W : List Int} {R : List (Int × Ty)} {j : Nat} (hj : ¬ j < W.length) (h : MInv F s ((W.drop j).map (fun t => (t, X t)) ++ R)) : MInv F s R := by
 rw [List.drop_eq_nil_of_le (by omega)] at h
 exact h
def KeepI (w w' : World) : Prop := ∀ (b : Nat) (cs : Array Value) (f : Nat × Nat), w.heap[b]? = some (Obj.cells cs 3 f) -> w'.heap[b]? = some (Obj.cells cs 3 f)
theorem KeepI.refl (w : World) : KeepI w w := fun _ _ _ h => h
theorem KeepI.trans {a b c : World} (h : KeepI a b) (g : KeepI b c) : KeepI a c := fun x cs f e => g x cs f (h x cs f e)
theorem KeepI.below {w w' : World} (h : Below w.heap.size w w') : KeepI w w' := fun b cs f e => (h.block b (Array.getElem?_eq_some_iff.mp e).1).trans e
theorem change_int {w w' : World} {M b0 : Nat} {sv cv : Value} {s : NS} (hm : Mk w M b0 sv cv s) (hk : ∀ b, b < w.heap.size -> b ≠ M -> sv.ownBlock ≠ some b -> cv.ownBlock ≠ some b -> w'.heap[b]? = w.heap[b]?) : KeepI w w' := by
 intro b cs f e
 refine (hk b (Array.getElem?_eq_some_iff.mp e).1 (fun g => ?_) (own_type hm.rowT e (by decide)) (own_type hm.rowC e (by decide))).trans e
 have h2 := hm.blk
 rw [<- g, e] at h2
 injection h2 with h2
 injection h2 with _ h3 _
 exact absurd h3 (by decide)
theorem int_row {w w' : World} {B : Nat} {v : Value} {L : List Int} (h : w.ownsRow B 3 1 v L.length (L.map (Value.int .i64))) (hk : KeepI w w') : w'.ownsRow B 3 1 v L.length (L.map (Value.int .i64)) := by
 refine own_keep h fun g e => ?_
 rcases h.2 with ⟨e1, _⟩ | ⟨g2, cap, cur, e1, _, hg, _⟩
 ·rw [e1] at e; cases e
 ·rw [e1] at e
  simp only [Value.ownBlock] at e
  injection e with e
  subst e
  rw [hg]
  exact hk _ _ _ hg
theorem int_cell {w : World} {B : Nat} {A : Option Addr} {c : Nat} {L : List Int} (h : w.ownsRow B 3 1 (.slice A L.length c) L.length (L.map (Value.int .i64))) {j : Nat} (hj : j < L.length) : ∃ g, A = some ⟨g, 0, none⟩ /\ L.length <= c /\ g < w.heap.size /\ w.cell? ⟨g, j, none⟩ = some (.int .i64 L[j]) := by
 rcases own_cells h with ⟨e, h0⟩ | ⟨g, cap, e, hb, hg, hc⟩
 ·omega
 ·simp only [Value.slice.injEq, true_and] at e
  obtain ⟨rfl, rfl⟩ := e
  refine ⟨g, rfl, ?_, hg, hc j _ (by simp [hj])⟩
  rcases h.2 with ⟨e1, _⟩ | ⟨g2, cap, cur, e1, _, hg, h3, _⟩
  ·cases e1
  ·simp only [Value.slice.injEq, true_and] at e1
   obtain ⟨-, rfl⟩ := e1
   exact h3
end Go.Proofs.YtomahddiclkepaaGreatDoor
