/- BackSame: the walk. -/
import Derived.Test.YthggojpdcgcmaaaGreatDoorQ13
import Derived.Test.YthggojpdcgcmaaaGreatDoorQ15
import Derived.Test.YthggojpdcgcmaaaGreatDoorQ16
namespace Go.Proofs.YthggojpdcgcmaaaGreatDoor
open Go.RowKit Go.Joins Go.Maps
open Classical
set_option linter.unusedVariables false
set_option linter.unusedSimpArgs false

theorem bErs_map (N : Tab) : bErs N = (BB.ersOf N).map toEr := by
  show _ = List.map toEr ((List.range _).map _)
  rw [List.map_map]
  rfl
theorem bErs_get (N : Tab) (i : Nat) (h : i < (bErs N).length) (h2 : i < (BB.ersOf N).length) : (bErs N)[i] = toEr (BB.ersOf N)[i] := by
  rw [List.getElem_of_eq (bErs_map N) h, List.getElem_map]
theorem rows_nilS {α : Type} {cells : α → List Value} {k B : Nat} {W : World} : RowsAt cells k B W (.slice none 0 0) [] := ⟨none, 0, rfl, ⟨Nat.zero_le _, Nat.le_refl _⟩, fun h => absurd rfl h⟩
theorem bBookAt {W : World} {Z cz ce : Nat} {p : Option Addr} {nm : ByteArray} {N : Tab} (h : BB.BkAt W Z cz p ce nm (BB.ersOf N)) (hk : Bkd N nm) (hn : nm.size ≤ 140737488351232) :
    BookAt W.heap.size W (.slice none 0 0) (.slice (some ⟨Z, 0, none⟩) 1 cz) (.slice none 0 0) (oneB [] nm (.slice p (BB.ersOf N).length ce) (bErs N)) := by
  have hl1 : (BB.ersOf N).length = N.chs.length + 1 := BB.ersUp_length _ _
  have hl2 := bErs_len N
  have hlk := hk.len
  refine ⟨rows_nilS, ?_, ?_, rows_nilS, fun r hr => absurd hr (List.not_mem_nil), ?_, fun x hx => absurd hx (List.not_mem_nil)⟩
  · refine ⟨_, cz, rfl, ⟨(by show 1 ≤ 140737488351232; decide), h.cap.2⟩, fun _ => ⟨Z, 0, rfl, (Array.getElem?_eq_some_iff.mp h.blk).1, fun i hi j u hu => ?_⟩⟩
    obtain rfl : i = 0 := by
      have : i < 1 := hi
      omega
    obtain ⟨z0, z1, -⟩ := h.cells
    match j, hu with
    | 0, hu => injection hu with hu; subst hu; exact z0
    | 1, hu => injection hu with hu; subst hu; exact z1
    | j + 2, hu => simp [zoCells] at hu
  · intro z hz
    obtain rfl := List.mem_singleton.1 hz
    obtain ⟨p', cap, e, hat⟩ := h.ers.shape
    rw [Value.slice.injEq] at e
    obtain ⟨rfl, -, rfl⟩ := e
    refine ⟨p, ce, by rw [hl1, ← hl2], ⟨(by show (bErs N).length ≤ _; omega), (by show (bErs N).length ≤ _; have := h.cap.1; omega)⟩, fun _ => ?_⟩
    obtain ⟨b, o, rfl, hb, hc⟩ := hat (List.ne_nil_of_length_pos (by omega))
    refine ⟨b, o, rfl, hb, fun i hi j u hu => ?_⟩
    have hi2 : i < (BB.ersOf N).length := by
      have : i < (bErs N).length := hi
      omega
    obtain ⟨y0, y1, y2, y3, y4⟩ := hc i hi2
    have hu : (erCells (bErs N)[i]).toList[j]? = some u := hu
    rw [bErs_get N i hi hi2] at hu
    match j, hu with
    | 0, hu => injection hu with hu; subst hu; exact y0
    | 1, hu => injection hu with hu; subst hu; exact y1
    | 2, hu => injection hu with hu; subst hu; exact y2
    | 3, hu => injection hu with hu; subst hu; exact y3
    | 4, hu => injection hu with hu; subst hu; exact y4
    | j + 5, hu => simp [erCells] at hu
  · intro z hz
    obtain rfl := List.mem_singleton.1 hz
    refine ⟨hn, fun x hx => ?_⟩
    obtain ⟨i, hi, rfl⟩ := List.mem_iff_getElem.1 hx
    have hi : i < (bErs N).length := hi
    rw [hl2] at hi
    have e := bErs_ok hk i hi
    have hx : (bErs N)[i]'(by omega) = eraAt (bErs N) i := by unfold eraAt; rw [List.getElem?_eq_getElem (by omega)]; rfl
    show SzE ((bErs N)[i]'(by omega))
    rw [hx, bErs_at N i hi]
    rw [bErs_at N i hi] at e
    have hm := segT_mem hk.ok i (by omega)
    have hsz := abbr_sizeT _ (hk.ok.type _ hm).2.2
    refine ⟨(by show ByteArray.size ⟨#[]⟩ ≤ _; decide), (by show (BB.segT N i).name.size ≤ _; omega), by have := e.o1; omega, by have := e.o2; omega, by have := e.s1; omega, by have := e.s2; omega, ?_, ?_⟩
    all_goals
      show _ ≤ _
      have hu : -1099511627776 ≤ BB.segU N i ∧ BB.segU N i ≤ 1099511627776 := by
        unfold BB.segU
        split
        · obtain ⟨c, hc, ec⟩ := tAt_memB N.chs i (by assumption)
          have := stampE_bd (hk.st c hc)
          rw [ec]; exact this
        · omega
      first
        | exact Int.le_trans (by decide) hu.1
        | exact Int.le_trans hu.2 (by decide)
/-- the span that is taken -/
structure SpN (N : Tab) (fr te : Int) : Prop where
  lt : fr < te
  inn : ∀ c ∈ N.chs, fr < c.t ∧ c.t < te
  b1 : -2199023255552 ≤ fr
  b2 : te ≤ 2199023255552
theorem spN_none {N : Tab} (h : N.chs = []) : SpN N (-1000) 1000 := ⟨by decide, (by rw [h]; intro c hc; cases hc), by decide, by decide⟩
theorem spN_some {N : Tab} (ok : OkTab N) (h : 0 < N.chs.length) : SpN N (N.chs[0].t - 1) (N.chs[N.chs.length - 1].t + 1) := by
  have hr : ∀ i j (hi : i < N.chs.length) (hj : j < N.chs.length), i ≤ j → N.chs[i].t ≤ N.chs[j].t := fun i j hi hj hij => by
    by_cases e : i = j
    · subst e; exact Int.le_refl _
    · have := List.pairwise_iff_getElem.1 ok.rise i j hi hj (by omega)
      omega
  have h0 := ok.ch _ (List.getElem_mem (show 0 < N.chs.length from h))
  have h1 := ok.ch _ (List.getElem_mem (show N.chs.length - 1 < N.chs.length by omega))
  refine ⟨?_, fun c hc => ?_, by omega, by omega⟩
  · have := hr 0 (N.chs.length - 1) h (by omega) (Nat.zero_le _)
    omega
  · obtain ⟨i, hi, rfl⟩ := List.mem_iff_getElem.1 hc
    have := hr 0 i h hi (Nat.zero_le _)
    have := hr i (N.chs.length - 1) hi (by omega) (by omega)
    omega
set_option maxRecDepth 100000 in
set_option maxHeartbeats 20000000 in
theorem BackSame_walk (MK : MakeSays) (t : Tab) (v : Value) (nm : ByteArray) (w : World) (hv : TabAt w v t) (hn : nm.size ≤ 140737488351232) (hm : MaxLen w) (ht : Tab10 w) :
    Calls Tryz.prog 11 #[v, .string nm] w fun e w' => e = .returned (.bool true) ∧ Below w.heap.size w w' := by
  obtain ⟨p1, c1, p2, c2, rfl⟩ := tabForms hv
  obtain ⟨W0, eW⟩ : ∃ W0, w.alloc (.cells #[.slice p1 t.types.length c1, .int .i64 t.first, .slice p2 t.chs.length c2] 52) = W0 := ⟨_, rfl⟩
  have hb0 : Below w.heap.size w W0 := by rw [← eW]; exact alBelow _ _
  have hx0 : W0.heap[w.heap.size]? = some (.cells #[.slice p1 t.types.length c1, .int .i64 t.first, .slice p2 t.chs.length c2] 52 (0, 0)) := by rw [← eW]; exact heap_alloc_new w _
  have hz0 : w.heap.size < W0.heap.size := (Array.getElem?_eq_some_iff.mp hx0).1
  have hv0 := hv.below hb0
  have HTX : Hid (∀ W, Below W0.heap.size W0 W → (W.cell? ⟨w.heap.size, 0, none⟩ = some (.slice p1 t.types.length c1) ∧ W.cell? ⟨w.heap.size, 1, none⟩ = some (.int .i64 t.first) ∧ W.cell? ⟨w.heap.size, 2, none⟩ = some (.slice p2 t.chs.length c2)) ∧ TabAt W (.agg #[.slice p1 t.types.length c1, .int .i64 t.first, .slice p2 t.chs.length c2]) t) := by
    show ∀ W, _
    intro W hb
    have hx := (hb.block w.heap.size hz0).trans hx0
    exact ⟨⟨(cell_of_row W _ 0 _ _ _ hx).trans rfl, (cell_of_row W _ 1 _ _ _ hx).trans rfl, (cell_of_row W _ 2 _ _ _ hx).trans rfl⟩, hv0.below hb⟩
  have HEW := Lib.hid eW
  have HB0 := Lib.hid hb0
  have HM := Lib.hid (hm.below hb0)
  have HT := Lib.hid (ht.below hb0)
  have hnl : nm.size ≤ maxLen := by simp only [maxLen]; omega
  have HBD := Lib.hid (BB.backed_any W0 HT.out)
  clear eW hb0 hx0 hv hv0 hm ht
  go_enter Tryz.func11, Tryz.ntmps11
  go_upto_region 1 with fail
  rw [HEW.out]
  go_wp2_with fail
  refine HBD.out.mono ?_
  rintro e w1 ⟨rfl, hb1⟩
  have HA1 := Lib.hid hb1
  obtain ⟨⟨g0, g1, g2⟩, htab⟩ := HTX.out w1 hb1
  have hl1 : w.heap.size < w1.heap.size := by have := hb1.size; omega
  have HBK := Lib.hid (BB.Book_any t _ nm w1 htab hnl (HT.out.below hb1))
  clear hb1 htab HBD
  go_wp2_with fail
  refine HBK.out.mono ?_
  intro e w2 hpost
  obtain ⟨hb2, hpost⟩ := hpost
  rcases hpost with ⟨hC, rfl⟩ | ⟨hC, Z, cz, p, ce, rfl, hbk⟩
  · obtain ⟨C, eC⟩ : ∃ C, BB.backC t nm = C := ⟨_, rfl⟩
    rw [eC] at hC ⊢
    have hz : (C == 0) = false := by simpa using hC
    have hzn : (C != 0) = true := by simpa using hC
    have HA2 := Lib.hid (HA1.out.trans (hb2.mono HA1.out.size))
    obtain ⟨W3, e3⟩ : ∃ W3, w2.alloc (.cells #[.slice none 0 0, .slice none 0 0, .slice none 0 0] 26) = W3 := ⟨_, rfl⟩
    have hx3 : W3.heap[w2.heap.size]? = some (.cells #[.slice none 0 0, .slice none 0 0, .slice none 0 0] 26 (0, 0)) := by rw [← e3]; exact heap_alloc_new w2 _
    have hb3 : Below w2.heap.size w2 W3 := by rw [← e3]; exact alBelow _ _
    have HA3 := Lib.hid (HA2.out.trans (hb3.mono HA2.out.size))
    have hz3 : w2.heap.size < W3.heap.size := (Array.getElem?_eq_some_iff.mp hx3).1
    have y0 : W3.cell? ⟨w2.heap.size, 0, none⟩ = some (.slice none 0 0) := (cell_of_row W3 _ 0 _ _ _ hx3).trans rfl
    have y1 : W3.cell? ⟨w2.heap.size, 1, none⟩ = some (.slice none 0 0) := (cell_of_row W3 _ 1 _ _ _ hx3).trans rfl
    have y2 : W3.cell? ⟨w2.heap.size, 2, none⟩ = some (.slice none 0 0) := (cell_of_row W3 _ 2 _ _ _ hx3).trans rfl
    have HE3 := Lib.hid e3
    have HEQ := Lib.hid (BB.BookEq_none W3)
    clear hb2 hb3 hx3 e3 eC hC HBK HTX
    go_upto_region 4 with fail
    rw [HE3.out]
    go_wp2_with fail
    refine HEQ.out.mono ?_
    rintro e w4 ⟨rfl, hb4⟩
    have HA4 := Lib.hid (HA3.out.trans (hb4.mono HA3.out.size))
    clear hb4 HEQ
    go_wp2_with fail
    go_ret
    exact ⟨rfl, HB0.out.trans (HA4.out.mono HB0.out.size)⟩
  · obtain ⟨hkd, hct⟩ := bkd_of hC
    have HNL := Lib.hid (fun ev fr te h1 h2 h3 h4 => back_made (fr := fr) (te := te) hkd ev h1 h2 h3 h4)
    have HCK := Lib.hid (fun ev => bBk_chk hkd ev)
    have HSN := Lib.hid (fun h => spN_some hkd.ok h)
    have HS0 := Lib.hid (fun h => spN_none (N := normT t) h)
    have hnc := hkd.len
    have hn0 : (normT t).first = 0 := by rw [← hkd.norm]; rfl
    have hokc := Lib.hid hkd.ok.ch
    have HBA := Lib.hid (fun W h => bBookAt (W := W) (Z := Z) (cz := cz) (p := p) (ce := ce) h hkd hn)
    obtain ⟨W3, e3⟩ : ∃ W3, w2.alloc (.cells #[.slice none 0 0, .slice (some ⟨Z, 0, none⟩) 1 cz, .slice none 0 0] 26) = W3 := ⟨_, rfl⟩
    have hx3 : W3.heap[w2.heap.size]? = some (.cells #[.slice none 0 0, .slice (some ⟨Z, 0, none⟩) 1 cz, .slice none 0 0] 26 (0, 0)) := by rw [← e3]; exact heap_alloc_new w2 _
    have hb3 : Below w2.heap.size w2 W3 := by rw [← e3]; exact alBelow _ _
    have HA3 := Lib.hid (HA1.out.trans ((hb2.trans (hb3.mono hb2.size)).mono HA1.out.size))
    have hbk3 := hbk.below hb3
    obtain ⟨bb, ebb⟩ : ∃ bb, w2.heap.size = bb := ⟨_, rfl⟩
    have HE3 := Lib.hid e3
    have HEB := Lib.hid ebb
    rw [ebb] at hx3
    have hz3 : bb < W3.heap.size := (Array.getElem?_eq_some_iff.mp hx3).1
    have HBX : Hid (∀ W, Below W3.heap.size W3 W → (W.cell? ⟨bb, 0, none⟩ = some (.slice none 0 0) ∧ W.cell? ⟨bb, 1, none⟩ = some (.slice (some ⟨Z, 0, none⟩) 1 cz) ∧ W.cell? ⟨bb, 2, none⟩ = some (.slice none 0 0)) ∧ BB.BkAt W Z cz p ce nm (BB.ersOf (normT t))) := by
      show ∀ W, _
      intro W hb
      have hx := (hb.block bb hz3).trans hx3
      exact ⟨⟨(cell_of_row W _ 0 _ _ _ hx).trans rfl, (cell_of_row W _ 1 _ _ _ hx).trans rfl, (cell_of_row W _ 2 _ _ _ hx).trans rfl⟩, hbk3.below hb⟩
    have HN := Lib.hid (Norm_ok t _ W3 (HTX.out W3 HA3.out).2 hct)
    have hl3 : w.heap.size < W3.heap.size := by have := HA3.out.size; omega
    clear g0 g1 g2
    obtain ⟨g0, g1, g2⟩ := (HTX.out W3 HA3.out).1
    obtain ⟨N, eN⟩ : ∃ N, normT t = N := ⟨_, rfl⟩
    rw [eN] at HNL HCK HSN HS0 hnc hn0 hokc HBA HBX HN
    clear hbk hbk3 hx3 hb2 hb3 e3 ebb hC hkd hct HBK eN
    go_upto_region 4 with fail
    rw [HE3.out, HEB.out]
    go_wp2_with fail
    refine HN.out.mono ?_
    rintro e w4 ⟨v4, rfl, htn, hb4⟩
    obtain ⟨q1, d1, q2, d2, rfl⟩ := tabForms htn
    rw [hn0] at htn ⊢
    obtain ⟨W5, e5⟩ : ∃ W5, w4.alloc (.cells #[.slice q1 N.types.length d1, .int .i64 0, .slice q2 N.chs.length d2] 52) = W5 := ⟨_, rfl⟩
    have hbx5 := TBz.box htn e5
    have hb5 : Below w4.heap.size w4 W5 := by rw [← e5]; exact alBelow _ _
    obtain ⟨nb, enb⟩ : ∃ nb, w4.heap.size = nb := ⟨_, rfl⟩
    have HR5 := Lib.hid (hb4.trans (hb5.mono hb4.size))
    rw [enb] at hbx5
    have HE5 := Lib.hid e5
    have HNB := Lib.hid enb
    have hz5 := hbx5.lt
    obtain ⟨W6, e6⟩ : ∃ W6, W5.alloc (.cells #[.int .i64 (-1000), .int .i64 1000] 47) = W6 := ⟨_, rfl⟩
    have hb6 : Below W5.heap.size W5 W6 := by rw [← e6]; exact alBelow _ _
    obtain ⟨sp, esp'⟩ : ∃ sp, nb + 1 = sp := ⟨_, rfl⟩
    have esp : W5.heap.size = sp := by rw [← esp', ← HE5.out, ← HNB.out]; simp
    have hx6 : W6.heap[sp]? = some (.cells #[.int .i64 (-1000), .int .i64 1000] 47 (0, 0)) := by rw [← e6]; exact alloc_at _ _ _ esp.symm
    have hz6 : sp < W6.heap.size := (Array.getElem?_eq_some_iff.mp hx6).1
    have HT6 := Lib.hid (hbx5.below hb6)
    have HR6 := Lib.hid hb6
    have HE6 := Lib.hid e6
    have HSP := Lib.hid esp'
    have HX6 := Lib.hid hx6
    have HT5 := Lib.hid hbx5
    have HS5 := Lib.hid esp
    have hnz : nb < W6.heap.size := HT6.out.lt
    have hnsp : nb < sp := by omega
    clear hb4 hb5 hb6 hbx5 htn e5 e6 enb esp esp' hx6 HN g0 g1 g2
    obtain ⟨a0, a1, a2⟩ := HT6.out.cells
    go_upto_region 8 with fail
    rw [HE5.out, HNB.out, HE6.out, HSP.out]
    go_upto_if 40 with fail
    go_cut [] from 40 to 55 (fun wx => ∃ fr te : Int, Hid (SpN N fr te) ∧ Hid (wx.heap[sp]? = some (.cells #[.int .i64 fr, .int .i64 te] 47 (0, 0))) ∧ Hid (Below sp W6 wx))
    case first =>
      by_cases hl : 0 < N.chs.length
      · obtain ⟨bq, o, rfl, hbq, x0, -⟩ := HT5.out.chs 0 (by omega)
        obtain ⟨bq', o', e, -, x1, -⟩ := HT5.out.chs (N.chs.length - 1) (by omega)
        simp only [Option.some.injEq, Addr.mk.injEq] at e
        obtain ⟨rfl, rfl, -⟩ := e
        have hsn := HSN.out (by omega)
        have h0 := hokc.out _ (List.getElem_mem (show 0 < N.chs.length by omega))
        have h1 := hokc.out _ (List.getElem_mem (show N.chs.length - 1 < N.chs.length by omega))
        obtain ⟨ca, eca⟩ : ∃ ca, N.chs[0].t = ca := ⟨_, rfl⟩
        obtain ⟨cb, ecb⟩ : ∃ cb, N.chs[N.chs.length - 1].t = cb := ⟨_, rfl⟩
        rw [eca] at x0 hsn h0
        rw [ecb] at x1 hsn h1
        have hw1 : IntKind.i64.wrap (ca - 1) = ca - 1 := IntWalk.i64_in _ (by omega)
        have hw2 : IntKind.i64.wrap (cb + 1) = cb + 1 := IntWalk.i64_in _ (by omega)
        have hw3 : IntKind.i64.wrap ((N.chs.length : Int) - 1) = (N.chs.length : Int) - 1 := IntWalk.i64_in _ (by omega)
        have hi0 : (0 : Int) ≤ (N.chs.length : Int) - 1 := by omega
        have hi1 : (N.chs.length : Int) - 1 < (N.chs.length : Int) := by omega
        have hi2 : ((N.chs.length : Int) - 1).toNat = N.chs.length - 1 := by omega
        have hi3 : (0 : Int) < (N.chs.length : Int) := by omega
        have hi4 : (1 : Int) ≤ (N.chs.length : Int) := by omega
        have hi5 : (N.chs.length : Int) < (N.chs.length : Int) + 1 := by omega
        have hi6 : 1 ≤ N.chs.length := by omega
        rw [HS5.out] at hbq
        have HSQ := Lib.hid hsn
        simp only [Nat.zero_mul, Nat.add_zero] at x0
        have x0 := (HR6.out.cell (p := ⟨bq, o, none⟩) (by rw [HS5.out]; exact hbq)).trans x0
        have x1 := (HR6.out.cell (p := ⟨bq, o + (N.chs.length - 1) * 2, none⟩) (by rw [HS5.out]; exact hbq)).trans x1
        obtain ⟨W7, e7, hx7, hb7⟩ := end_twoS HX6.out (.int .i64 (ca - 1)) (.int .i64 (cb + 1))
        have hb7 := hb7 sp (Nat.le_refl _)
        have s0 : W6.cell? ⟨sp, 0, none⟩ = some (.int .i64 (-1000)) := (cell_of_row W6 _ 0 _ _ _ HX6.out).trans rfl
        have s1 : W6.cell? ⟨sp, 1, none⟩ = some (.int .i64 1000) := (cell_of_row W6 _ 1 _ _ _ HX6.out).trans rfl
        have s2 : W6.frozen? ⟨sp, 0, none⟩ = false := by simp [World.frozen?, HX6.out]
        have s3 : W6.frozen? ⟨sp, 1, none⟩ = false := by simp [World.frozen?, HX6.out]
        have KT : Hid (∀ wx, wx = W6 ∨ wx = W6.drew ∨ wx = (W6.setCell ⟨sp, 0, none⟩ (.int .i64 (ca - 1))).setCell ⟨sp, 1, none⟩ (.int .i64 (cb + 1)) ∨ wx = ((W6.setCell ⟨sp, 0, none⟩ (.int .i64 (ca - 1))).setCell ⟨sp, 1, none⟩ (.int .i64 (cb + 1))).drew → wx.cell? ⟨nb, 2, none⟩ = some (.slice (some ⟨bq, o, none⟩) N.chs.length d2) ∧ wx.cell? ⟨bq, o, none⟩ = some (.int .i64 ca) ∧ wx.cell? ⟨bq, o + (N.chs.length - 1) * 2, none⟩ = some (.int .i64 cb)) := by
          show ∀ wx, _
          have k0 := (hb7.cell (p := ⟨nb, 2, none⟩) hnsp).trans a2
          have k1 := (hb7.cell (p := ⟨bq, o, none⟩) hbq).trans x0
          have k2 := (hb7.cell (p := ⟨bq, o + (N.chs.length - 1) * 2, none⟩) hbq).trans x1
          rintro wx (rfl | rfl | rfl | rfl)
          · exact ⟨a2, x0, x1⟩
          · exact ⟨a2, x0, x1⟩
          · rw [e7]; exact ⟨k0, k1, k2⟩
          · rw [e7]; exact ⟨k0, k1, k2⟩
        have HE7 := Lib.hid e7
        have HX7 := Lib.hid hx7
        have HB7 := Lib.hid hb7
        clear eca ecb h0 h1 hsn x0 x1 a0 a1 e7 hx7 hb7
        go_upto_region 10 with fail
        clear a2
        go_region_held3 (fun wx => wx.cell? ⟨nb, 2, none⟩ = some (.slice (some ⟨bq, o, none⟩) N.chs.length d2) ∧ wx.cell? ⟨bq, o, none⟩ = some (.int .i64 ca) ∧ wx.cell? ⟨bq, o + (N.chs.length - 1) * 2, none⟩ = some (.int .i64 cb)) ((refine KT.out _ ?_; first | (with_reducible exact Or.inl rfl) | (with_reducible exact Or.inr (Or.inl rfl)) | (with_reducible exact Or.inr (Or.inr (Or.inl rfl))) | (with_reducible exact Or.inr (Or.inr (Or.inr rfl))))) (fail)
        rw [HE7.out]
        go_wp2_with fail
        go_meet
        exact ⟨_, _, HSQ, HX7, Lib.hid (HB7.out.drew)⟩
      · have hl0 : N.chs = [] := List.eq_nil_of_length_eq_zero (by omega)
        go_wp2_with fail
        go_meet
        exact ⟨_, _, Lib.hid (HS0.out hl0), HX6, Lib.hid (Below.refl _ _)⟩
    case rest =>
    obtain ⟨fr, te, HSN2, HX7, HR7⟩ := hcut
    have hsb1 := HSN2.out.b1
    have hsb2 := HSN2.out.b2
    have hslt := HSN2.out.lt
    have hz7 : sp < wc.heap.size := (Array.getElem?_eq_some_iff.mp HX7.out).1
    have HB37 := Lib.hid ((HR5.out.trans (HR6.out.mono HR5.out.size)).trans (HR7.out.mono (by rw [← HS5.out]; exact HR5.out.size)))
    have HA7 := Lib.hid (HA3.out.trans (HB37.out.mono HA3.out.size))
    have hz7n : nb < wc.heap.size := by omega
    have HT7 : Hid (∀ W, Below wc.heap.size wc W → TBz W nb q1 d1 q2 d2 N) := by
      show ∀ W, _
      intro W hb
      exact HT5.out.below (HR6.out.trans ((HR7.out.trans (hb.mono (by omega))).mono (by rw [HS5.out]; exact Nat.le_refl _)))
    have s0 : wc.cell? ⟨sp, 0, none⟩ = some (.int .i64 fr) := (cell_of_row wc _ 0 _ _ _ HX7.out).trans rfl
    have s1 : wc.cell? ⟨sp, 1, none⟩ = some (.int .i64 te) := (cell_of_row wc _ 1 _ _ _ HX7.out).trans rfl
    have HS1 := Lib.hid (Stamp_any fr wc (by omega) (by omega) (HT.out.below HA7.out))
    clear HR5 HR6 HR7 HT5 HT6 HX6 hz5 hz6 hnz a0 a1 a2 HTX
    go_wp2_with fail
    refine HS1.out.mono ?_
    rintro e w8 ⟨⟨tx, rfl⟩, hb8⟩
    have HB8 := Lib.hid hb8
    have s1 : w8.cell? ⟨sp, 1, none⟩ = some (.int .i64 te) := (hb8.cell (p := ⟨sp, 1, none⟩) hz7).trans s1
    have s0 : w8.cell? ⟨sp, 0, none⟩ = some (.int .i64 fr) := (hb8.cell (p := ⟨sp, 0, none⟩) hz7).trans s0
    have hz8 : sp < w8.heap.size := by have := hb8.size; omega
    clear hb8 HS1
    by_cases h1 : stampE fr = 0
    case neg =>
      have h1b : (stampE fr == 0) = false := by simpa using h1
      have h1c : (stampE fr != 0) = true := by simpa using h1
      go_wp2_with fail
      go_ret
      exact ⟨rfl, HB0.out.trans ((HA7.out.trans (HB8.out.mono HA7.out.size)).mono HB0.out.size)⟩
    rw [h1]
    have HA8 := Lib.hid (HA7.out.trans (HB8.out.mono HA7.out.size))
    have HS2 := Lib.hid (Stamp_any te w8 (by omega) (by omega) (HT.out.below HA8.out))
    go_wp2_with fail
    refine HS2.out.mono ?_
    rintro e w9 ⟨⟨tx2, rfl⟩, hb9⟩
    have HB9 := Lib.hid (HB8.out.trans (hb9.mono HB8.out.size))
    have HA9 := Lib.hid (HA8.out.trans (hb9.mono HA8.out.size))
    have s1 : w9.cell? ⟨sp, 1, none⟩ = some (.int .i64 te) := (hb9.cell (p := ⟨sp, 1, none⟩) hz8).trans s1
    have s0 : w9.cell? ⟨sp, 0, none⟩ = some (.int .i64 fr) := (hb9.cell (p := ⟨sp, 0, none⟩) hz8).trans s0
    clear hb9 HS2
    by_cases h2 : stampE te = 0
    case neg =>
      have h1b : (stampE te == 0) = false := by simpa using h2
      have h1c : (stampE te != 0) = true := by simpa using h2
      go_wp2_with fail
      go_ret
      exact ⟨rfl, HB0.out.trans (HA9.out.mono HB0.out.size)⟩
    rw [h2]
    have HB39 := Lib.hid (HB37.out.trans (HB9.out.mono HB37.out.size))
    obtain ⟨⟨b0, b1, b2⟩, hbk9⟩ := HBX.out w9 HB39.out
    have hbz9 : bb < w9.heap.size := by have := HB39.out.size; omega
    have hmk := Make_tab MK _ _ _ _ nm fr te w9 (HBA.out w9 hbk9) hn (by omega) (by omega) (by omega) (by omega) (HM.out.below HA9.out) (HT.out.below HA9.out)
    rw [HNL.out _ fr te HSN2.out.inn h1 h2 hslt] at hmk
    have HMK := Lib.hid hmk
    clear hmk hbk9
    go_wp2_with fail
    refine HMK.out.mono ?_
    rintro e w10 ⟨q3, d3, q4, d4, rfl, htb, hb10⟩
    simp only at htb ⊢
    obtain ⟨W11, e11⟩ : ∃ W11, w10.alloc (.cells #[.slice q3 N.types.length d3, .int .i64 0, .slice q4 N.chs.length d4] 52) = W11 := ⟨_, rfl⟩
    have hbx11 := TBz.box htb e11
    have hb11 : Below w10.heap.size w10 W11 := by rw [← e11]; exact alBelow _ _
    obtain ⟨ub, eub⟩ : ∃ ub, w10.heap.size = ub := ⟨_, rfl⟩
    rw [eub] at hbx11
    have HE11 := Lib.hid e11
    have HUB := Lib.hid eub
    have hz11 := hbx11.lt
    have HU11 := Lib.hid hbx11
    have hb911 := hb10.trans (hb11.mono hb10.size)
    have HA11 := Lib.hid (HA9.out.trans (hb911.mono HA9.out.size))
    have HB11 := Lib.hid (HB9.out.trans (hb911.mono HB9.out.size))
    have HB311 := Lib.hid (HB39.out.trans (hb911.mono HB39.out.size))
    clear hb10 hb11 hb911 hbx11 htb e11 eub HMK b0 b1 b2 s0 s1
    obtain ⟨⟨b0, b1, b2⟩, hbk11⟩ := HBX.out W11 HB311.out
    have hbz11 : bb < W11.heap.size := by have := HB311.out.size; omega
    have hck := bkCheck_any _ _ _ _ W11 (HBA.out W11 hbk11) (HM.out.below HA11.out) (HT.out.below HA11.out)
    rw [HCK.out] at hck
    have HCH := Lib.hid hck
    clear hck hbk11
    go_upto_region 18 with fail
    rw [HE11.out, HUB.out]
    go_wp2_with fail
    refine HCH.out.mono ?_
    rintro e w12 ⟨rfl, hb12⟩
    have HA12 := Lib.hid (HA11.out.trans (hb12.mono HA11.out.size))
    have hn12 := HT7.out w12 (HB11.out.trans (hb12.mono HB11.out.size))
    have hu12 := HU11.out.below hb12
    obtain ⟨n0, n1, n2⟩ := hn12.cells
    obtain ⟨u0, u1, u2⟩ := hu12.cells
    have hzn12 := hn12.lt
    have hzu12 := hu12.lt
    have HEQ := Lib.hid (TableEq_any N N _ _ w12 hn12.2 hu12.2)
    rw [decide_eq_true rfl] at HEQ
    clear hb12 hn12 hu12 HCH b0 b1 b2
    go_wp2_with fail
    refine HEQ.out.mono ?_
    rintro e w13 ⟨rfl, hb13⟩
    have HA13 := Lib.hid (HA12.out.trans (hb13.mono HA12.out.size))
    clear hb13 HEQ
    go_wp2_with fail
    go_ret
    exact ⟨rfl, HB0.out.trans (HA13.out.mono HB0.out.size)⟩
end Go.Proofs.YthggojpdcgcmaaaGreatDoor
