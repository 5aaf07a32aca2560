/- StateUntil: the walk. -/
import Derived.Test.YthggojpdcgcmaaaDoorQ10
import Derived.Test.YthggojpdcgcmaaaDoorRest0Q
namespace Go.Proofs.YthggojpdcgcmaaaDoor
open Go.RowKit Go.Joins Go.Maps
open Classical
set_option linter.unusedVariables false
set_option linter.unusedSimpArgs false

def AlonePost (rv : Value) (x : Er) (w : World) (e : Ending) (w' : World) : Prop := ∃ Z E, e = .returned (.agg #[rv, .slice (some ⟨Z, 0, none⟩) 1 1, .slice none 0 0]) ∧ Hid (w'.heap[Z]? = some (.cells #[.string ⟨#[90]⟩, .slice (some ⟨E, 0, none⟩) 1 1] 35 (0, 0)) ∧ w'.heap[E]? = some (.cells #[.int .i64 x.off, .string x.ru, .int .i64 x.sv, .string x.fm, .int .i64 0] 39 (0, 0)) ∧ Z < w'.heap.size ∧ E < w'.heap.size) ∧ Below w.heap.size w w'
set_option maxHeartbeats 4000000 in
theorem Alone_any (zb bx eb eo n cA n1 c1 : Nat) (p1 : Option Addr) (j : Nat) (x : Er) (w : World) (hj : j < n)
    (hz : w.cell? ⟨zb, 1, none⟩ = some (.slice (some ⟨eb, eo, none⟩) n cA)) (hb : w.cell? ⟨bx, 0, none⟩ = some (.slice p1 n1 c1)) (hx : ∀ (m : Nat) (u : Value), (erCells x).toList[m]? = some u → w.cell? ⟨eb, eo + j * 5 + m, none⟩ = some u) (hzl : zb < w.heap.size) (hbl : bx < w.heap.size) (hel : eb < w.heap.size) :
    Calls Tryd.prog 10 (#[.int .i64 j] ++ #[.pointer (some ⟨zb, 0, none⟩), .pointer (some ⟨bx, 0, none⟩)]) w (AlonePost (.slice p1 n1 c1) x w) := by
  obtain ⟨off, ru, sv, fm, un⟩ := x
  have z0 := hx 0 _ rfl
  have z1 := hx 1 _ rfl
  have z2 := hx 2 _ rfl
  have z3 := hx 3 _ rfl
  have z4 := hx 4 _ rfl
  rw [Nat.add_zero] at z0
  have hjz : (j : Int) < (n : Int) := by omega
  obtain ⟨W1, eW⟩ : ∃ W1, (((w.alloc (.cells #[.slice p1 n1 c1, .slice (some ⟨w.heap.size + 1 + 1 + 1, 0, none⟩) 1 1, .slice none 0 0] 26)).alloc (.cells #[.int .i64 off, .string ru, .int .i64 sv, .string fm, .int .i64 0] 39)).alloc (.cells #[.int .i64 off, .string ru, .int .i64 sv, .string fm, .int .i64 0] 39)).alloc (.cells #[.string ⟨#[90]⟩, .slice (some ⟨w.heap.size + 1 + 1, 0, none⟩) 1 1] 35) = W1 := ⟨_, rfl⟩
  have hb1 : Below w.heap.size w W1 := by rw [← eW]; exact ((((Below.refl _ _).alloc (Nat.le_refl _) _).alloc (by simp) _).alloc (by simp; omega) _).alloc (by simp; omega) _
  have hz1 : W1.heap.size = w.heap.size + 4 := by rw [← eW]; simp
  have hR : W1.heap[w.heap.size]? = some (.cells #[.slice p1 n1 c1, .slice (some ⟨w.heap.size + 1 + 1 + 1, 0, none⟩) 1 1, .slice none 0 0] 26 (0, 0)) := by
    rw [← eW, Below.heap_alloc _ _ _ (by simp; omega), Below.heap_alloc _ _ _ (by simp; omega), Below.heap_alloc _ _ _ (by simp)]
    exact heap_alloc_new w _
  have hE : W1.heap[w.heap.size + 1 + 1]? = some (.cells #[.int .i64 off, .string ru, .int .i64 sv, .string fm, .int .i64 0] 39 (0, 0)) := by
    rw [← eW, Below.heap_alloc _ _ _ (by simp)]
    exact alloc_at _ _ _ (by simp)
  have hZ : W1.heap[w.heap.size + 1 + 1 + 1]? = some (.cells #[.string ⟨#[90]⟩, .slice (some ⟨w.heap.size + 1 + 1, 0, none⟩) 1 1] 35 (0, 0)) := by
    rw [← eW]
    exact alloc_at _ _ _ (by simp)
  have v0 : W1.cell? ⟨w.heap.size, 0, none⟩ = some (.slice p1 n1 c1) := (cell_of_row W1 _ 0 _ _ _ hR).trans rfl
  have v1 : W1.cell? ⟨w.heap.size, 1, none⟩ = some (.slice (some ⟨w.heap.size + 1 + 1 + 1, 0, none⟩) 1 1) := (cell_of_row W1 _ 1 _ _ _ hR).trans rfl
  have v2 : W1.cell? ⟨w.heap.size, 2, none⟩ = some (.slice none 0 0) := (cell_of_row W1 _ 2 _ _ _ hR).trans rfl
  have HEW := Lib.hid eW
  have HB1 := Lib.hid hb1
  have HZZ : Hid (W1.heap[w.heap.size + 1 + 1 + 1]? = some (.cells #[.string ⟨#[90]⟩, .slice (some ⟨w.heap.size + 1 + 1, 0, none⟩) 1 1] 35 (0, 0)) ∧ W1.heap[w.heap.size + 1 + 1]? = some (.cells #[.int .i64 off, .string ru, .int .i64 sv, .string fm, .int .i64 0] 39 (0, 0)) ∧ w.heap.size + 1 + 1 + 1 < W1.heap.size ∧ w.heap.size + 1 + 1 < W1.heap.size) := ⟨hZ, hE, by omega, by omega⟩
  clear hx eW hb1 hz1 hR hE hZ
  go_enter Tryd.func10, Tryd.ntmps10
  go_wp2_with fail
  rw [HEW.out]
  exact bodyPost_ret (v := .agg #[.slice p1 n1 c1, .slice (some ⟨w.heap.size + 1 + 1 + 1, 0, none⟩) 1 1, .slice none 0 0]) (by simp [results, Tryd.results10, go_sem, v0, v1, v2]) rfl ⟨_, _, rfl, HZZ, HB1.out⟩
/-- a book of one zone of one era, in memory -/
theorem one_book {rules : List Ru} {rv : Value} {Z E : Nat} {x : Er} {W : World} (hr : RowsAt (fun r : Ru => (ruCells r).toList) 11 W.heap.size W rv rules) (hs : ∀ r ∈ rules, SzR r) (hx : SzE x)
    (hZ : W.heap[Z]? = some (.cells #[.string ⟨#[90]⟩, .slice (some ⟨E, 0, none⟩) 1 1] 35 (0, 0))) (hE : W.heap[E]? = some (.cells #[.int .i64 x.off, .string x.ru, .int .i64 x.sv, .string x.fm, .int .i64 x.un] 39 (0, 0))) (hZl : Z < W.heap.size) (hEl : E < W.heap.size) :
    BookAt W.heap.size W rv (.slice (some ⟨Z, 0, none⟩) 1 1) (.slice none 0 0) (oneB rules zB (.slice (some ⟨E, 0, none⟩) 1 1) [x]) := by
  refine ⟨hr, ?_, ?_, rows_nilN, hs, ?_, fun x hx => absurd hx (List.not_mem_nil)⟩
  · refine rows_lit (cells := zoCells) (k := 2) (l := [(⟨zB, .slice (some ⟨E, 0, none⟩) 1 1, [x]⟩ : Zo)]) (fun _ => rfl) hZ ?_ ?_ ?_ ?_
    · rfl
    · rfl
    · decide
    · exact hZl
  · intro z hz
    obtain rfl := List.mem_singleton.1 hz
    refine rows_lit (cells := fun x : Er => (erCells x).toList) (k := 5) (l := [x]) (fun _ => rfl) hE ?_ ?_ ?_ ?_
    · simp
    · rfl
    · decide
    · exact hEl
  · intro z hz
    obtain rfl := List.mem_singleton.1 hz
    refine ⟨(show ByteArray.size ⟨#[90]⟩ ≤ 140737488351232 by decide), fun y hy => ?_⟩
    obtain rfl := List.mem_singleton.1 hy
    exact hx

set_option maxRecDepth 100000 in
set_option maxHeartbeats 20000000 in
theorem StateUntil_walk (MK : MakeSays) (b : Bk) (rv zv lv : Value) (nm : ByteArray) (k0 : Int) (w : World) (hB : BookAt w.heap.size w rv zv lv b) (hn : nm.size ≤ 140737488351232) (hm : MaxLen w) (ht : Tab10 w) :
    Calls Tryd.prog 5 #[.agg #[rv, zv, lv], .string nm, .int .i64 k0] w fun e w' => e = .returned (.bool true) ∧ Below w.heap.size w w' := by
  have HBK := Lib.hid hB
  obtain ⟨p1, c1, rfl, ⟨hlen1, -⟩, -⟩ := hB.r
  obtain ⟨p2, c2, rfl, -, -⟩ := hB.z
  obtain ⟨p3, c3, rfl, -, -⟩ := hB.l
  obtain ⟨W0, eW⟩ : ∃ W0, w.alloc (.cells #[.slice p1 b.rules.length c1, .slice p2 b.zones.length c2, .slice p3 b.links.length c3] 26) = W0 := ⟨_, rfl⟩
  have hb0 : Below w.heap.size w W0 := by rw [← eW]; exact (Below.refl _ _).alloc (Nat.le_refl _) _
  have hbx : W0.heap[w.heap.size]? = some (.cells #[.slice p1 b.rules.length c1, .slice p2 b.zones.length c2, .slice p3 b.links.length c3] 26 (0, 0)) := by rw [← eW]; exact heap_alloc_new w _
  have hl0 : w.heap.size < W0.heap.size := by rw [← eW]; simp
  have HEW := Lib.hid eW
  have HB0 := Lib.hid hb0
  have HST := Lib.hid (stated_any MK W0 (hm.below hb0) (ht.below hb0))
  have HSA : Hid (∀ (W : World) (t : Int), Below w.heap.size w W → -2199023255552 ≤ t → t ≤ 2199023255552 → Calls Tryd.prog 7 #[.agg #[.slice p1 b.rules.length c1, .slice p2 b.zones.length c2, .slice p3 b.links.length c3], .string nm, .int .i64 t] W (StPost (stR b nm t) W)) := by
    show ∀ W t, _
    intro W t hb h1 h2
    exact StAt_any MK b _ _ _ nm t W ((HBK.out.below hb (Nat.le_refl _)).baseN hb.size) hn (by omega) (by omega) (hm.below hb) (ht.below hb)
  have HSO : Hid (∀ (W : World) (Z E : Nat) (x : Er) (t : Int), Below w.heap.size w W → SzE x → -2199023255552 ≤ t → t ≤ 2199023255552 → W.heap[Z]? = some (.cells #[.string ⟨#[90]⟩, .slice (some ⟨E, 0, none⟩) 1 1] 35 (0, 0)) → W.heap[E]? = some (.cells #[.int .i64 x.off, .string x.ru, .int .i64 x.sv, .string x.fm, .int .i64 0] 39 (0, 0)) → Z < W.heap.size → E < W.heap.size →
      Calls Tryd.prog 7 #[.agg #[.slice p1 b.rules.length c1, .slice (some ⟨Z, 0, none⟩) 1 1, .slice none 0 0], .string ⟨#[90]⟩, .int .i64 t] W (StPost (stR (oneB b.rules zB (.slice (some ⟨E, 0, none⟩) 1 1) [alone x]) zB t) W)) := by
    show ∀ W Z E x t, _
    intro W Z E x t hb hx h1 h2 hZ hE hZl hEl
    refine StAt_any MK _ _ _ _ zB t W (one_book ((HBK.out.r.below hb (Nat.le_refl _)).mono hb.size) HBK.out.rs (x := alone x) ?_ hZ hE hZl hEl) (by decide) (by omega) (by omega) (hm.below hb) (ht.below hb)
    obtain ⟨a1, a2, a3, a4, a5, a6, -, -⟩ := hx
    exact ⟨a1, a2, a3, a4, a5, a6, (by show (-9223372036854775808 : Int) ≤ 0; decide), (by show (0 : Int) ≤ 9223372036854775807; decide)⟩
  have HRS : Hid (∀ (W : World), Below w.heap.size w W → Calls Tryd.prog 8 #[.agg #[.slice p1 b.rules.length c1, .slice p2 b.zones.length c2, .slice p3 b.links.length c3], .string nm] W (RsvPost (rsv b nm) W)) := by
    show ∀ W, _
    intro W hb
    exact Resolve_any b _ _ _ nm W ((HBK.out.below hb (Nat.le_refl _)).baseN hb.size) hn (hm.below hb) (ht.below hb)
  have HBOX : Hid (∀ (W : World), Below W0.heap.size W0 W → W.cell? ⟨w.heap.size, 0, none⟩ = some (.slice p1 b.rules.length c1) ∧ W.cell? ⟨w.heap.size, 1, none⟩ = some (.slice p2 b.zones.length c2) ∧ W.cell? ⟨w.heap.size, 2, none⟩ = some (.slice p3 b.links.length c3)) := by
    show ∀ W, _
    intro W hb
    have hx := (hb.block w.heap.size hl0).trans hbx
    exact ⟨(cell_of_row W _ 0 _ _ _ hx).trans rfl, (cell_of_row W _ 1 _ _ _ hx).trans rfl, (cell_of_row W _ 2 _ _ _ hx).trans rfl⟩
  have HZS := Lib.hid hB.zs
  obtain ⟨R, eR⟩ : ∃ R, rsv b nm = R := ⟨_, rfl⟩
  have HR0 := Lib.hid eR
  rw [eR] at HRS
  obtain ⟨Z, C⟩ := R
  clear eW hb0 hbx hB hm ht eR
  go_enter Tryd.func5, Tryd.ntmps5
  go_upto_region 1 with fail
  rw [HEW.out]
  go_wp2_with fail
  refine HST.out.mono ?_
  rintro e w1 ⟨rfl, hb1⟩
  have HB1 := Lib.hid hb1
  have HBW1 := Lib.hid (HB0.out.trans (hb1.mono HB0.out.size))
  obtain ⟨g0, g1, g2⟩ := HBOX.out w1 hb1
  have HR1 := Lib.hid (HRS.out w1 HBW1.out)
  clear hb1 HST HRS
  go_wp2_with fail
  refine HR1.out.mono ?_
  rintro e w2 ⟨vo, rfl, hrow, hb2⟩
  simp only at hrow ⊢
  obtain ⟨A, cA, rfl⟩ := own_sliceN hrow
  obtain ⟨W3, e3⟩ : ∃ W3, w2.alloc (.cells #[.string (zNm Z), .slice A (zEr Z).length cA] 35) = W3 := ⟨_, rfl⟩
  have hb3 : Below w2.heap.size w2 W3 := by rw [← e3]; exact (Below.refl _ _).alloc (Nat.le_refl _) _
  have hx3 : W3.heap[w2.heap.size]? = some (.cells #[.string (zNm Z), .slice A (zEr Z).length cA] 35 (0, 0)) := by rw [← e3]; exact heap_alloc_new w2 _
  have hz3 : w2.heap.size < W3.heap.size := by rw [← e3]; simp
  have HB3 := Lib.hid (HB1.out.trans ((hb2.trans (hb3.mono hb2.size)).mono HB1.out.size))
  have HRW := Lib.hid (own_keep hrow fun g e => hb3.block g (World.ownsRow.lt hrow g e).2)
  obtain ⟨zb, ezb⟩ : ∃ zb, w2.heap.size = zb := ⟨_, rfl⟩
  have HZB := Lib.hid ezb
  rw [ezb] at hx3 hz3
  have HX3 := Lib.hid hx3
  have HE3 := Lib.hid e3
  have HBW3 := Lib.hid (HB0.out.trans (HB3.out.mono HB0.out.size))
  have hq1 : W3.cell? ⟨zb, 1, none⟩ = some (.slice A (zEr Z).length cA) := (cell_of_row W3 _ 1 _ _ _ hx3).trans rfl
  clear hrow hb2 hb3 hx3 e3 ezb HR1 g0 g1 g2
  go_upto_region 4 with fail
  rw [HE3.out, HZB.out]
  cases Z with
  | none =>
    have hC := rsv_not0 HR0.out
    have hz : (C == 0) = false := by simpa using hC
    have hzz : (!C == 0) = true := by rw [hz]; rfl
    have hzn : (C != 0) = true := by simpa using hC
    clear hC HSA HSO HBOX HRW HX3
    go_wp2_with fail
    go_ret
    exact ⟨rfl, HBW3.out⟩
  | some z =>
  obtain ⟨rfl, hzz, hbk⟩ := rsv_zero HR0.out
  have hes := bk_eras hbk hzz
  have hel := hes.le
  simp only [zEr] at hq1 HRW HX3 HE3 ⊢
  by_cases h2 : z.eras.length < 2
  · have hl2 : (z.eras.length : Int) < 2 := by omega
    clear HSA HSO HBOX HRW HX3 hes
    go_wp2_with fail
    go_ret
    exact ⟨rfl, HBW3.out⟩
  · have hl2 : ¬ (z.eras.length : Int) < 2 := by omega
    have hnw : IntKind.i64.wrap ((z.eras.length : Int) - 1) = (z.eras.length : Int) - 1 := IntWalk.i64_in _ (by omega)
    have HRE := Lib.hid (fun W => Rest0_any k0 ((z.eras.length : Int) - 1) W (by omega) (by omega))
    obtain ⟨j, ej⟩ : ∃ j : Nat, k0 % ((z.eras.length : Int) - 1) = (j : Int) := Int.eq_ofNat_of_zero_le (Int.emod_nonneg _ (by omega))
    have hj1 : j + 1 < z.eras.length := by
      have := Int.emod_lt_of_pos k0 (show 0 < (z.eras.length : Int) - 1 by omega)
      omega
    rw [ej] at HRE
    have HROW : Hid (RowsAt (fun x : Er => (erCells x).toList) 5 W3.heap.size W3 (.slice A z.eras.length cA) z.eras) := own_rowsG (cells := fun x : Er => (erCells x).toList) (k := 5) (fun _ => rfl) HRW.out (by show z.eras.length ≤ 100000; omega)
    obtain ⟨pp, cc, ee, -, hat2⟩ := HROW.out
    simp only [Value.slice.injEq, true_and] at ee
    obtain ⟨rfl, rfl⟩ := ee
    obtain ⟨eb, eo, rfl, hbl, hcs⟩ := hat2 (List.ne_nil_of_length_pos (by omega))
    have hck := hcs j (by omega)
    have hck2 := hcs (j + 1) hj1
    obtain ⟨hun1, hun2, -⟩ := hes.un j hj1
    rw [eraAt_in _ _ (by omega)] at hun1 hun2
    have z4 := hck 4 _ rfl
    have hszs := (HZS.out z hzz).2
    have hlawA : ∀ ev, stR b nm (z.eras[j].un - 1) = stR (oneB b.rules zB ev [alone z.eras[j]]) zB (z.eras[j].un - 1) := fun ev => by
      have := st_alone (t := (eraAt z.eras j).un - 1) ev HR0.out (by omega) (which_ahead hes hj1).1
      rwa [eraAt_in _ _ (by omega)] at this
    have hlawB : ∀ ev, stR b nm z.eras[j].un = stR (oneB b.rules zB ev [alone z.eras[j + 1]]) zB z.eras[j].un := fun ev => by
      have := st_alone (t := (eraAt z.eras j).un) ev HR0.out hj1 (which_ahead hes hj1).2
      rwa [eraAt_in _ _ (by omega), eraAt_in _ _ hj1] at this
    have hsx := hszs _ (List.getElem_mem (show j < z.eras.length by omega))
    have hsy := hszs _ (List.getElem_mem hj1)
    obtain ⟨x, ex⟩ : ∃ x, z.eras[j] = x := ⟨_, rfl⟩
    obtain ⟨y, ey⟩ : ∃ y, z.eras[j + 1] = y := ⟨_, rfl⟩
    rw [ex] at hck hun1 hun2 hlawA hlawB hsx z4
    rw [ey] at hck2 hlawB hsy
    have HCX := Lib.hid hck
    have HCY := Lib.hid hck2
    have HLA := Lib.hid hlawA
    have HLB := Lib.hid hlawB
    have HSX := Lib.hid hsx
    have HSY := Lib.hid hsy
    obtain ⟨at_, eat⟩ : ∃ a, x.un = a := ⟨_, rfl⟩
    rw [eat] at hun1 hun2 z4 HLA HLB
    have haw : IntKind.i64.wrap (at_ - 1) = at_ - 1 := IntWalk.i64_in _ (by omega)
    have hw31 : w.heap.size < W3.heap.size := by have := HB3.out.size; omega
    have hjz : (j : Int) < (z.eras.length : Int) := by omega
    have hjz1 : IntKind.i64.wrap ((j : Int) + 1) = (j : Int) + 1 := IntWalk.i64_in _ (by omega)
    obtain ⟨g0, g1, g2⟩ := HBOX.out W3 HB3.out
    have HA1 := Lib.hid (fun W hW => HSA.out W (at_ - 1) hW (by omega) (by omega))
    have HA3 := Lib.hid (fun W hW => HSA.out W at_ hW (by omega) (by omega))
    clear ej hat2 hcs hck hck2 hszs hlawA hlawB hsx hsy ex ey eat hes hbk HRW HROW HSA hzz HZS
    go_wp2_with fail
    refine HRE.out _ |>.mono ?_
    rintro e w4 ⟨rfl, rfl⟩
    go_wp2_with fail
    refine (HA1.out _ HBW3.out).mono ?_
    obtain ⟨S1, eS1⟩ : ∃ S, stR b nm (at_ - 1) = S := ⟨_, rfl⟩
    rw [eS1] at HLA ⊢
    obtain ⟨C1, ⟨o1, s1, n1⟩⟩ := S1
    rintro e w4 ⟨rfl, hb4⟩
    simp only [tyV]
    -- the first answer's box
    obtain ⟨W5, e5⟩ : ∃ W5, w4.alloc (.cells #[.int .i64 o1, .bool s1, .string n1] 29) = W5 := ⟨_, rfl⟩
    have hb5 : Below w4.heap.size w4 W5 := by rw [← e5]; exact (Below.refl _ _).alloc (Nat.le_refl _) _
    have hx5 : W5.heap[w4.heap.size]? = some (.cells #[.int .i64 o1, .bool s1, .string n1] 29 (0, 0)) := by rw [← e5]; exact heap_alloc_new w4 _
    have hz5 : w4.heap.size < W5.heap.size := by rw [← e5]; simp
    have hb35 : Below W3.heap.size W3 W5 := hb4.trans (hb5.mono hb4.size)
    have HB5 := Lib.hid hb35
    have HBW5 := Lib.hid (HBW3.out.trans (hb35.mono HBW3.out.size))
    obtain ⟨t5, et5⟩ : ∃ t5, w4.heap.size = t5 := ⟨_, rfl⟩
    have HT5 := Lib.hid et5
    rw [et5] at hx5 hz5
    have HX5 := Lib.hid hx5
    have HE5 := Lib.hid e5
    have hzb3 : zb < W3.heap.size := hz3
    have hwz : W0.heap.size ≤ W3.heap.size := HB3.out.size
    have HBOX3 : Hid (∀ (W : World), Below W3.heap.size W3 W → W.cell? ⟨w.heap.size, 0, none⟩ = some (.slice p1 b.rules.length c1) ∧ W.cell? ⟨w.heap.size, 1, none⟩ = some (.slice p2 b.zones.length c2) ∧ W.cell? ⟨w.heap.size, 2, none⟩ = some (.slice p3 b.links.length c3) ∧ W.cell? ⟨zb, 1, none⟩ = some (.slice (some ⟨eb, eo, none⟩) z.eras.length cA)) := by
      show ∀ W, _
      intro W hb
      obtain ⟨a, c, d⟩ := HBOX.out W (HB3.out.trans (hb.mono hwz))
      exact ⟨a, c, d, (cell_of_row W _ 1 _ _ _ ((hb.block zb hzb3).trans HX3.out)).trans rfl⟩
    have HAL : Hid (∀ (W : World) (i : Nat) (x : Er), Below W3.heap.size W3 W → i < z.eras.length → (∀ (m : Nat) (u : Value), (erCells x).toList[m]? = some u → W3.cell? ⟨eb, eo + i * 5 + m, none⟩ = some u) → Calls Tryd.prog 10 #[.int .i64 i, .pointer (some ⟨zb, 0, none⟩), .pointer (some ⟨w.heap.size, 0, none⟩)] W (AlonePost (.slice p1 b.rules.length c1) x W)) := by
      show ∀ W i x, _
      intro W i x hb hi hx
      obtain ⟨a, -, -, d⟩ := HBOX3.out W hb
      exact Alone_any zb w.heap.size eb eo z.eras.length cA b.rules.length c1 p1 i x W hi d a (fun m u hu => (hb.cell (p := ⟨eb, eo + i * 5 + m, none⟩) hbl).trans (hx m u hu)) (Nat.lt_of_lt_of_le hzb3 hb.size) (Nat.lt_of_lt_of_le hw31 hb.size) (Nat.lt_of_lt_of_le hbl hb.size)
    have HL1 := Lib.hid (HAL.out W5 j x HB5.out (by omega) HCX.out)
    clear hb4 hb5 hb35 hx5 e5 et5 HBOX z4 HX3 g0 g1 g2 hq1
    go_upto_region 10 with fail
    rw [HE5.out, HT5.out]
    go_wp2_with fail
    refine HL1.out.mono ?_
    rintro e w6 ⟨Z6, E6, rfl, hz6, hb6⟩
    have hb36 : Below W3.heap.size W3 w6 := HB5.out.trans (hb6.mono HB5.out.size)
    have HB6 := Lib.hid hb36
    have hA2 := HSO.out w6 Z6 E6 x (at_ - 1) (HBW3.out.trans (hb36.mono HBW3.out.size)) HSX.out (by omega) (by omega) hz6.out.1 hz6.out.2.1 hz6.out.2.2.1 hz6.out.2.2.2
    rw [← HLA.out] at hA2
    have HA2 : Hid (Calls Tryd.prog 7 #[.agg #[.slice p1 b.rules.length c1, .slice (some ⟨Z6, 0, none⟩) 1 1, .slice none 0 0], .string ⟨#[90]⟩, .int .i64 (at_ - 1)] w6 fun e w' => e = .returned (.tuple #[.agg #[.int .i64 o1, .bool s1, .string n1], .int .i64 C1]) ∧ Below w6.heap.size w6 w') := hA2
    have HX5' := Lib.hid ((hb6.block t5 hz5).trans HX5.out)
    have hz5' : t5 < w6.heap.size := Nat.lt_of_lt_of_le hz5 hb6.size
    clear hA2 hb6 hb36 hz6 HL1 HX5
    go_wp2_with fail
    refine HA2.out.mono ?_
    rintro e w7 ⟨rfl, hb7⟩
    obtain ⟨W8, e8⟩ : ∃ W, w7.alloc (.cells #[.int .i64 o1, .bool s1, .string n1] 29) = W := ⟨_, rfl⟩
    have hb8 : Below w7.heap.size w7 W8 := by rw [← e8]; exact (Below.refl _ _).alloc (Nat.le_refl _) _
    have hx8 : W8.heap[w7.heap.size]? = some (.cells #[.int .i64 o1, .bool s1, .string n1] 29 (0, 0)) := by rw [← e8]; exact heap_alloc_new w7 _
    have hz8 : w7.heap.size < W8.heap.size := by rw [← e8]; simp
    obtain ⟨t8, et8⟩ : ∃ t, w7.heap.size = t := ⟨_, rfl⟩
    have HT8 := Lib.hid et8
    rw [et8] at hx8 hz8
    have HX8 := Lib.hid hx8
    have HE8 := Lib.hid e8
    have hb68 : Below w6.heap.size w6 W8 := hb7.trans (hb8.mono hb7.size)
    have HB8 := Lib.hid (HB6.out.trans (hb68.mono HB6.out.size))
    have HBW8 := Lib.hid (HBW3.out.trans (HB8.out.mono HBW3.out.size))
    have HX58 := Lib.hid ((hb68.block t5 hz5').trans HX5'.out)
    have hz58 : t5 < W8.heap.size := Nat.lt_of_lt_of_le hz5' hb68.size
    obtain ⟨g0, g1, g2, g3⟩ := HBOX3.out W8 HB8.out
    have hA3 := HA3.out W8 HBW8.out
    obtain ⟨S2, eS2⟩ : ∃ S, stR b nm at_ = S := ⟨_, rfl⟩
    rw [eS2] at HLB hA3
    obtain ⟨C2, ⟨o2, s2, n2⟩⟩ := S2
    have HA3' : Hid (Calls Tryd.prog 7 #[.agg #[.slice p1 b.rules.length c1, .slice p2 b.zones.length c2, .slice p3 b.links.length c3], .string nm, .int .i64 at_] W8 fun e w' => e = .returned (.tuple #[.agg #[.int .i64 o2, .bool s2, .string n2], .int .i64 C2]) ∧ Below W8.heap.size W8 w') := hA3
    clear hA3 hb7 hb8 hb68 hx8 e8 et8 HA2 HX5' eS2 HA3 HA1
    go_upto_region 11 with fail
    rw [HE8.out, HT8.out]
    go_wp2_with fail
    refine HA3'.out.mono ?_
    rintro e w9 ⟨rfl, hb9⟩
    obtain ⟨W10, e10⟩ : ∃ W, w9.alloc (.cells #[.int .i64 o2, .bool s2, .string n2] 29) = W := ⟨_, rfl⟩
    have hb10 : Below w9.heap.size w9 W10 := by rw [← e10]; exact (Below.refl _ _).alloc (Nat.le_refl _) _
    have hx10 : W10.heap[w9.heap.size]? = some (.cells #[.int .i64 o2, .bool s2, .string n2] 29 (0, 0)) := by rw [← e10]; exact heap_alloc_new w9 _
    have hz10 : w9.heap.size < W10.heap.size := by rw [← e10]; simp
    obtain ⟨t10, et10⟩ : ∃ t, w9.heap.size = t := ⟨_, rfl⟩
    have HT10 := Lib.hid et10
    rw [et10] at hx10 hz10
    have HX10 := Lib.hid hx10
    have HE10 := Lib.hid e10
    have hb8a : Below W8.heap.size W8 W10 := hb9.trans (hb10.mono hb9.size)
    have HB10 := Lib.hid (HB8.out.trans (hb8a.mono HB8.out.size))
    have HX5a := Lib.hid ((hb8a.block t5 hz58).trans HX58.out)
    have HX8a := Lib.hid ((hb8a.block t8 hz8).trans HX8.out)
    have hz5a : t5 < W10.heap.size := Nat.lt_of_lt_of_le hz58 hb8a.size
    have hz8a : t8 < W10.heap.size := Nat.lt_of_lt_of_le hz8 hb8a.size
    have HL2 : Hid (Calls Tryd.prog 10 #[.int .i64 ((j : Int) + 1), .pointer (some ⟨zb, 0, none⟩), .pointer (some ⟨w.heap.size, 0, none⟩)] W10 (AlonePost (.slice p1 b.rules.length c1) y W10)) := HAL.out W10 (j + 1) y HB10.out hj1 HCY.out
    clear hb9 hb10 hb8a hx10 e10 et10 HA3' HX58 HX8 g0 g1 g2 g3
    go_upto_region 12 with fail
    rw [HE10.out, HT10.out]
    go_wp2_with fail
    refine HL2.out.mono ?_
    rintro e w11 ⟨Z11, E11, rfl, hz11, hb11⟩
    have hb3b : Below W3.heap.size W3 w11 := HB10.out.trans (hb11.mono HB10.out.size)
    have hA4 := HSO.out w11 Z11 E11 y at_ (HBW3.out.trans (hb3b.mono HBW3.out.size)) HSY.out (by omega) (by omega) hz11.out.1 hz11.out.2.1 hz11.out.2.2.1 hz11.out.2.2.2
    rw [← HLB.out] at hA4
    have HA4 : Hid (Calls Tryd.prog 7 #[.agg #[.slice p1 b.rules.length c1, .slice (some ⟨Z11, 0, none⟩) 1 1, .slice none 0 0], .string ⟨#[90]⟩, .int .i64 at_] w11 fun e w' => e = .returned (.tuple #[.agg #[.int .i64 o2, .bool s2, .string n2], .int .i64 C2]) ∧ Below w11.heap.size w11 w') := hA4
    have HX5b := Lib.hid ((hb11.block t5 hz5a).trans HX5a.out)
    have HX8b := Lib.hid ((hb11.block t8 hz8a).trans HX8a.out)
    have HX10b := Lib.hid ((hb11.block t10 hz10).trans HX10.out)
    have hz5b : t5 < w11.heap.size := Nat.lt_of_lt_of_le hz5a hb11.size
    have hz8b : t8 < w11.heap.size := Nat.lt_of_lt_of_le hz8a hb11.size
    have hz10b : t10 < w11.heap.size := Nat.lt_of_lt_of_le hz10 hb11.size
    have HB11 := Lib.hid hb3b
    clear hA4 hb11 hb3b hz11 HL2 HX5a HX8a HX10
    go_wp2_with fail
    refine HA4.out.mono ?_
    rintro e w12 ⟨rfl, hb12⟩
    obtain ⟨W13, e13⟩ : ∃ W, w12.alloc (.cells #[.int .i64 o2, .bool s2, .string n2] 29) = W := ⟨_, rfl⟩
    have hb13 : Below w12.heap.size w12 W13 := by rw [← e13]; exact (Below.refl _ _).alloc (Nat.le_refl _) _
    have hx13 : W13.heap[w12.heap.size]? = some (.cells #[.int .i64 o2, .bool s2, .string n2] 29 (0, 0)) := by rw [← e13]; exact heap_alloc_new w12 _
    have hz13 : w12.heap.size < W13.heap.size := by rw [← e13]; simp
    obtain ⟨t13, et13⟩ : ∃ t, w12.heap.size = t := ⟨_, rfl⟩
    have HT13 := Lib.hid et13
    rw [et13] at hx13 hz13
    have HX13 := Lib.hid hx13
    have HE13 := Lib.hid e13
    have hbbd : Below w11.heap.size w11 W13 := hb12.trans (hb13.mono hb12.size)
    have HB13 := Lib.hid (HB11.out.trans (hbbd.mono HB11.out.size))
    have HBW13 := Lib.hid (HBW3.out.trans (HB13.out.mono HBW3.out.size))
    have k5 := (hbbd.block t5 hz5b).trans HX5b.out
    have k8 := (hbbd.block t8 hz8b).trans HX8b.out
    have k10 := (hbbd.block t10 hz10b).trans HX10b.out
    have q5_0 : W13.cell? ⟨t5, 0, none⟩ = some (.int .i64 o1) := (cell_of_row W13 _ 0 _ _ _ k5).trans rfl
    have q5_1 : W13.cell? ⟨t5, 1, none⟩ = some (.bool s1) := (cell_of_row W13 _ 1 _ _ _ k5).trans rfl
    have q5_2 : W13.cell? ⟨t5, 2, none⟩ = some (.string n1) := (cell_of_row W13 _ 2 _ _ _ k5).trans rfl
    have q8_0 : W13.cell? ⟨t8, 0, none⟩ = some (.int .i64 o1) := (cell_of_row W13 _ 0 _ _ _ k8).trans rfl
    have q8_1 : W13.cell? ⟨t8, 1, none⟩ = some (.bool s1) := (cell_of_row W13 _ 1 _ _ _ k8).trans rfl
    have q8_2 : W13.cell? ⟨t8, 2, none⟩ = some (.string n1) := (cell_of_row W13 _ 2 _ _ _ k8).trans rfl
    have q10_0 : W13.cell? ⟨t10, 0, none⟩ = some (.int .i64 o2) := (cell_of_row W13 _ 0 _ _ _ k10).trans rfl
    have q10_1 : W13.cell? ⟨t10, 1, none⟩ = some (.bool s2) := (cell_of_row W13 _ 1 _ _ _ k10).trans rfl
    have q10_2 : W13.cell? ⟨t10, 2, none⟩ = some (.string n2) := (cell_of_row W13 _ 2 _ _ _ k10).trans rfl
    have q13_0 : W13.cell? ⟨t13, 0, none⟩ = some (.int .i64 o2) := (cell_of_row W13 _ 0 _ _ _ hx13).trans rfl
    have q13_1 : W13.cell? ⟨t13, 1, none⟩ = some (.bool s2) := (cell_of_row W13 _ 1 _ _ _ hx13).trans rfl
    have q13_2 : W13.cell? ⟨t13, 2, none⟩ = some (.string n2) := (cell_of_row W13 _ 2 _ _ _ hx13).trans rfl
    have heq1 := fun W => eql_tySelf o1 s1 n1 W
    have heq2 := fun W => eql_tySelf o2 s2 n2 W
    have hcz1 : (C1 == C1) = true := by simp
    have hcz2 : (C2 == C2) = true := by simp
    clear hb12 hb13 hbbd k5 k8 k10 hx13 e13 et13 HA4
    go_upto_region 13 with fail
    rw [HE13.out, HT13.out]
    go_wp2_with fail
    go_ret
    exact ⟨rfl, HBW13.out⟩
end Go.Proofs.YthggojpdcgcmaaaDoor
