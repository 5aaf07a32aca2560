/- StateRules: the walk. -/
import Derived.Test.YthggojpdcgcmaaaGreatDoorQ10
import Derived.Test.YthggojpdcgcmaaaGreatDoorQ11
namespace Go.Proofs.YthggojpdcgcmaaaGreatDoor
open Go.RowKit Go.Joins Go.Maps
open Classical
set_option linter.unusedVariables false
set_option linter.unusedSimpArgs false

theorem tD_stamp (t : Int) : stampE (tD t) = 0 := by
  have := tD_bd t
  unfold stampE
  rw [if_pos ⟨by omega, by omega⟩]
theorem svF_snoc (l : List Tn) (u : Tn) (t : Int) : svF (l ++ [u]) t = if u.a ≤ t then u.s else svF l t := by unfold svF; rw [List.foldl_append]; rfl

theorem svF_bd (t : Int) : ∀ (l : List Tn) (a : Int), 0 ≤ a → a ≤ 10800 → (∀ u ∈ l, 0 ≤ u.s ∧ u.s ≤ 10800) → 0 ≤ l.foldl (fun a u => if u.a ≤ t then u.s else a) a ∧ l.foldl (fun a u => if u.a ≤ t then u.s else a) a ≤ 10800
  | [], a, h1, h2, _ => ⟨h1, h2⟩
  | u :: l, a, h1, h2, h => by
    have hu := h u (List.mem_cons_self ..)
    rw [List.foldl_cons]
    refine svF_bd t l _ ?_ ?_ fun v hv => h v (List.mem_cons_of_mem _ hv)
    · split <;> omega
    · split <;> omega
theorem ofR_svbd {b : Bk} {nm : ByteArray} {off : Int} (h : (ofR b nm off).1 = 0) (t : Int) : 0 ≤ svF (ofR b nm off).2 t ∧ svF (ofR b nm off).2 t ≤ 10800 := by
  obtain ⟨hb, e⟩ := ofR_ok h
  refine svF_bd t _ 0 (Int.le_refl _) (by decide) fun u hu => ?_
  rw [e] at hu
  obtain ⟨r, hr, -, e1, -⟩ := mkR_mem hu
  have := (bk_rules hb).2 r hr
  rw [e1]
  exact ⟨this.s1, this.s2⟩

set_option maxRecDepth 100000 in
set_option maxHeartbeats 20000000 in
theorem StateRules_walk (MK : MakeSays) (b : Bk) (rv zv lv : Value) (nm : ByteArray) (o0 t0 : Int) (w : World) (hB : BookAt w.heap.size w rv zv lv b) (hn : nm.size ≤ 140737488351232) (hm : MaxLen w) (ht : Tab10 w) :
    Calls Tryz.prog 3 #[.agg #[rv, zv, lv], .string nm, .int .i64 o0, .int .i64 t0] w fun e w' => e = .returned (.bool true) ∧ Below w.heap.size w w' := by
  have HBK := Lib.hid hB
  obtain ⟨p1, c1, rfl, ⟨hlen1, -⟩, -⟩ := hB.r
  obtain ⟨p2, c2, rfl, -, -⟩ := hB.z
  obtain ⟨p3, c3, rfl, -, -⟩ := hB.l
  obtain ⟨W0, eW⟩ : ∃ W0, w.alloc (.cells #[.slice p1 b.rules.length c1, .slice p2 b.zones.length c2, .slice p3 b.links.length c3] 26) = W0 := ⟨_, rfl⟩
  have hb0 : Below w.heap.size w W0 := by rw [← eW]; exact (Below.refl _ _).alloc (Nat.le_refl _) _
  have hbx : W0.heap[w.heap.size]? = some (.cells #[.slice p1 b.rules.length c1, .slice p2 b.zones.length c2, .slice p3 b.links.length c3] 26 (0, 0)) := by rw [← eW]; exact heap_alloc_new w _
  have hl0 : w.heap.size < W0.heap.size := by rw [← eW]; simp
  have HEW := Lib.hid eW
  have HB0 := Lib.hid hb0
  have HST := Lib.hid (stated_any MK W0 (hm.below hb0) (ht.below hb0))
  have HBOX : Hid (∀ (W : World), Below W0.heap.size W0 W → W.cell? ⟨w.heap.size, 0, none⟩ = some (.slice p1 b.rules.length c1) ∧ W.cell? ⟨w.heap.size, 1, none⟩ = some (.slice p2 b.zones.length c2) ∧ W.cell? ⟨w.heap.size, 2, none⟩ = some (.slice p3 b.links.length c3)) := by
    show ∀ W, _
    intro W hb
    have hx := (hb.block w.heap.size hl0).trans hbx
    exact ⟨(cell_of_row W _ 0 _ _ _ hx).trans rfl, (cell_of_row W _ 1 _ _ _ hx).trans rfl, (cell_of_row W _ 2 _ _ _ hx).trans rfl⟩
  obtain ⟨off, eo⟩ : ∃ off, o0 % 129601 - 64800 = off := ⟨_, rfl⟩
  have ho1 : -64800 ≤ off := by omega
  have ho2 : off ≤ 64800 := by omega
  have how : IntKind.i64.wrap (o0 % 129601 - 64800) = off := by rw [eo]; exact IntWalk.i64_in _ (by omega)
  have HOF : Hid (∀ (W : World), Below w.heap.size w W → Calls Tryz.prog 15 #[.agg #[.slice p1 b.rules.length c1, .slice p2 b.zones.length c2, .slice p3 b.links.length c3], .string nm, .int .i64 off] W (TnPost (ofR b nm off) W)) := by
    show ∀ W, _
    intro W hb
    exact Of_book MK b _ _ _ nm off W ((HBK.out.below hb (Nat.le_refl _)).baseN hb.size) (hm.below hb) (ht.below hb)
  have HBAD := Lib.hid (ofR_bad2 (b := b) (nm := nm) (off := off))
  have HLEN := Lib.hid (ofR_len b nm off)
  obtain ⟨t, et⟩ : ∃ t, tD t0 = t := ⟨_, rfl⟩
  have hts := tD_stamp t0
  have htb := tD_bd2 t0
  rw [et] at hts htb
  have HTO := Lib.hid (fun W => timeOf_any t0 W)
  rw [et] at HTO
  have HLAW := Lib.hid (fun ev h => rules_law (b := b) (nm := nm) (off := off) (t := t) ev h hts)
  have HSO : Hid (∀ (W : World) (Z E : Nat), Below w.heap.size w W → W.heap[Z]? = some (.cells #[.string ⟨#[90]⟩, .slice (some ⟨E, 0, none⟩) 1 1] 38 (0, 0)) → W.heap[E]? = some (.cells #[.int .i64 off, .string nm, .int .i64 0, .string ⟨#[88, 47, 89]⟩, .int .i64 0] 35 (0, 0)) → Z < W.heap.size → E < W.heap.size →
      Calls Tryz.prog 16 #[.agg #[.slice p1 b.rules.length c1, .slice (some ⟨Z, 0, none⟩) 1 1, .slice none 0 0], .string ⟨#[90]⟩, .int .i64 t] W (StPost (stR (oneB b.rules zB (.slice (some ⟨E, 0, none⟩) 1 1) [⟨off, nm, 0, xyB, 0⟩]) zB t) W)) := by
    show ∀ W Z E, _
    intro W Z E hb hZ hE hZl hEl
    refine StAt_any MK _ _ _ _ zB t W (one_book ((HBK.out.r.below hb (Nat.le_refl _)).mono hb.size) HBK.out.rs (x := ⟨off, nm, 0, xyB, 0⟩) ?_ hZ hE hZl hEl) (by decide) (by omega) (by omega) (hm.below hb) (ht.below hb)
    exact ⟨hn, (by decide : xyB.size ≤ 140737488351232), by show -9223372036854775808 ≤ off; omega, by show off ≤ 9223372036854775807; omega, (by decide : (-9223372036854775808 : Int) ≤ 0), (by decide : (0 : Int) ≤ 9223372036854775807), (by decide : (-9223372036854775808 : Int) ≤ 0), (by decide : (0 : Int) ≤ 9223372036854775807)⟩
  have HRE := Lib.hid (fun W => Rest0_any o0 129601 W (by omega) (by omega))
  have HSB := Lib.hid (fun h => ofR_svbd (b := b) (nm := nm) (off := off) h t)
  obtain ⟨R, eR⟩ : ∃ R, ofR b nm off = R := ⟨_, rfl⟩
  rw [eR] at HOF HBAD HLEN HLAW HSB
  obtain ⟨C, L⟩ := R
  clear eW hb0 hbx hB hm ht eo et eR
  go_enter Tryz.func3, Tryz.ntmps3
  go_upto_region 1 with fail
  rw [HEW.out]
  go_wp2_with fail
  refine HST.out.mono ?_
  rintro e w1 ⟨rfl, hb1⟩
  have HB1 := Lib.hid hb1
  clear hb1 HST
  go_wp2_with fail
  refine (HRE.out _).mono ?_
  rintro e w' ⟨rfl, rfl⟩
  go_wp2_with fail
  refine (HTO.out _).mono ?_
  rintro e w2 ⟨rfl, hb2⟩
  have HB2 := Lib.hid (HB1.out.trans (hb2.mono HB1.out.size))
  have HBW2 := Lib.hid (HB0.out.trans (HB2.out.mono HB0.out.size))
  obtain ⟨g0, g1, g2⟩ := HBOX.out w2 HB2.out
  have HO1 := Lib.hid (HOF.out w2 HBW2.out)
  clear hb2 HTO HOF HRE
  go_wp2_with fail
  refine HO1.out.mono ?_
  rintro e w3 ⟨vo, rfl, hrow, hb3⟩
  simp only at hrow ⊢
  have HB3 := Lib.hid (HB2.out.trans (hb3.mono HB2.out.size))
  have HBW3 := Lib.hid (HB0.out.trans (HB3.out.mono HB0.out.size))
  have HRW := Lib.hid hrow
  obtain ⟨A, cA, rfl⟩ := own_sliceN hrow
  obtain ⟨g0, g1, g2⟩ := HBOX.out w3 HB3.out
  clear hb3 hrow HO1
  by_cases hC : C = 0
  case neg =>
    have hL : L = [] := HBAD.out hC
    subst hL
    have hz : (C == 0) = false := by simpa using hC
    have hzz : (!C == 0) = true := by rw [hz]; rfl
    clear hC HBAD HLEN HLAW HSO HRW
    go_wp2_with fail
    go_ret
    exact ⟨rfl, HBW3.out⟩
  case pos =>
  subst hC
  have hlen : L.length ≤ 1500 := HLEN.out
  have HLW := Lib.hid (fun ev => HLAW.out ev rfl)
  clear HBAD HLEN HLAW
  obtain ⟨W4, e4⟩ : ∃ W4, ((w3.alloc (.cells #[.int .i64 off, .string nm, .int .i64 0, .string ⟨#[88, 47, 89]⟩, .int .i64 0] 35)).alloc (.cells #[.string ⟨#[90]⟩, .slice (some ⟨w3.heap.size, 0, none⟩) 1 1] 38)).alloc (.cells #[.slice p1 b.rules.length c1, .slice (some ⟨w3.heap.size + 1, 0, none⟩) 1 1, .slice none 0 0] 26) = W4 := ⟨_, rfl⟩
  have hb4 : Below w3.heap.size w3 W4 := by rw [← e4]; exact (((Below.refl _ _).alloc (Nat.le_refl _) _).alloc (by simp) _).alloc (by simp; omega) _
  have hz4 : W4.heap.size = w3.heap.size + 3 := by rw [← e4]; simp
  obtain ⟨u, eu⟩ : ∃ u, w3.heap.size = u := ⟨_, rfl⟩
  have hE4 : W4.heap[u]? = some (.cells #[.int .i64 off, .string nm, .int .i64 0, .string ⟨#[88, 47, 89]⟩, .int .i64 0] 35 (0, 0)) := by
    rw [← e4, Below.heap_alloc _ _ _ (by simp; omega), Below.heap_alloc _ _ _ (by simp; omega)]
    exact alloc_at _ _ _ eu.symm
  have hZ4 : W4.heap[u + 1]? = some (.cells #[.string ⟨#[90]⟩, .slice (some ⟨u, 0, none⟩) 1 1] 38 (0, 0)) := by
    rw [← e4, Below.heap_alloc _ _ _ (by simp; omega), eu]
    exact alloc_at _ _ _ (by simp; omega)
  have hX4 : W4.heap[u + 1 + 1]? = some (.cells #[.slice p1 b.rules.length c1, .slice (some ⟨u + 1, 0, none⟩) 1 1, .slice none 0 0] 26 (0, 0)) := by
    rw [← e4, eu]
    exact alloc_at _ _ _ (by simp; omega)
  have HB4 := Lib.hid (HB3.out.trans (hb4.mono HB3.out.size))
  have HBW4 := Lib.hid (HB0.out.trans (HB4.out.mono HB0.out.size))
  have HA := Lib.hid (HSO.out W4 (u + 1) u HBW4.out hZ4 hE4 (by omega) (by omega))
  rw [HLW.out] at HA
  have HRW4 := Lib.hid (own_keep HRW.out fun g e => hb4.block g (World.ownsRow.lt HRW.out g e).2)
  have x0 : W4.cell? ⟨u + 1 + 1, 0, none⟩ = some (.slice p1 b.rules.length c1) := (cell_of_row W4 _ 0 _ _ _ hX4).trans rfl
  have x1 : W4.cell? ⟨u + 1 + 1, 1, none⟩ = some (.slice (some ⟨u + 1, 0, none⟩) 1 1) := (cell_of_row W4 _ 1 _ _ _ hX4).trans rfl
  have x2 : W4.cell? ⟨u + 1 + 1, 2, none⟩ = some (.slice none 0 0) := (cell_of_row W4 _ 2 _ _ _ hX4).trans rfl
  have HE4 := Lib.hid e4
  have HEU := Lib.hid eu
  obtain ⟨s, es⟩ : ∃ s, svF L t = s := ⟨_, rfl⟩
  have HES := Lib.hid es
  have hsb := HSB.out rfl
  simp only [es] at hsb
  have hsw : IntKind.i64.wrap (off + s) = off + s := IntWalk.i64_in _ (by omega)
  rw [es] at HA
  clear e4 hb4 hz4 eu hE4 hZ4 hX4 HSO HLW HRW es
  go_upto_region 9 with fail
  rw [HE4.out, HEU.out]
  go_wp2_with fail
  obtain ⟨xn, exn⟩ : ∃ xn : ByteArray, (if 0 < s then (⟨#[89]⟩ : ByteArray) else ⟨#[88]⟩) = xn := ⟨_, rfl⟩
  have HXN := Lib.hid exn
  rw [exn] at HA
  clear exn
  refine HA.out.mono ?_
  rintro e w5 ⟨rfl, hb5⟩
  simp only [tyV]
  obtain ⟨W6, e6⟩ : ∃ W6, w5.alloc (.cells #[.int .i64 (off + s), .bool (decide (0 < s)), .string xn] 40) = W6 := ⟨_, rfl⟩
  have hb6 : Below w5.heap.size w5 W6 := by rw [← e6]; exact (Below.refl _ _).alloc (Nat.le_refl _) _
  have hx6 : W6.heap[w5.heap.size]? = some (.cells #[.int .i64 (off + s), .bool (decide (0 < s)), .string xn] 40 (0, 0)) := by rw [← e6]; exact heap_alloc_new w5 _
  have hz6 : w5.heap.size < W6.heap.size := by rw [← e6]; simp
  obtain ⟨tb, etb⟩ : ∃ tb, w5.heap.size = tb := ⟨_, rfl⟩
  have HTB := Lib.hid etb
  rw [etb] at hx6 hz6
  have HX6 := Lib.hid hx6
  have HE6 := Lib.hid e6
  have hb46 : Below W4.heap.size W4 W6 := hb5.trans (hb6.mono hb5.size)
  have HB6 := Lib.hid (HB4.out.trans (hb46.mono HB4.out.size))
  have HBW6 := Lib.hid (HB0.out.trans (HB6.out.mono HB0.out.size))
  have HRW6 := Lib.hid (own_rowsT (own_keep HRW4.out fun g e => hb46.block g (World.ownsRow.lt HRW4.out g e).2) (by omega))
  clear hb5 hb6 hb46 hx6 e6 etb HA HRW4 x0 x1 x2
  go_upto_region 10 with fail
  rw [HE6.out, HTB.out]
  go_wp2_with fail
  go_loopw [14, 54] (fun v14 i wr => ∃ k : Nat, k ≤ L.length ∧ i = .int .i64 k ∧ v14 = .int .i64 (svF (L.take k) t) ∧ Hid (Below W6.heap.size W6 wr)) (fun _ i _ => L.length - (intOf i).toNat)
  case atStart => exact ⟨0, Nat.zero_le _, rfl, rfl, Lib.hid (Below.refl _ _)⟩
  case round =>
    obtain ⟨k, hk, rfl, rfl, HBR⟩ := hrel
    have hzr := HBR.out.size
    by_cases hkl : k < L.length
    · obtain ⟨pp, cc, ee, -, hat⟩ := HRW6.out
      simp only [Value.slice.injEq, true_and] at ee
      obtain ⟨rfl, rfl⟩ := ee
      obtain ⟨bb, o, rfl, hbl, hcs⟩ := hat (List.ne_nil_of_length_pos (by omega))
      have hck := hcs k hkl
      have hsn : svF (L.take (k + 1)) t = if L[k].a ≤ t then L[k].s else svF (L.take k) t := by rw [List.take_succ_eq_append_getElem hkl, svF_snoc]
      obtain ⟨q, eq⟩ : ∃ q, L[k] = q := ⟨_, rfl⟩
      rw [eq] at hck hsn
      obtain ⟨ta, tsv, tlt⟩ := q
      have up : ∀ m u, W6.cell? ⟨bb, o + k * 3 + m, none⟩ = some u → wr.cell? ⟨bb, o + k * 3 + m, none⟩ = some u := fun m u h => (HBR.out.cell (p := ⟨bb, o + k * 3 + m, none⟩) hbl).trans h
      have z0 := up 0 _ (hck 0 _ rfl)
      have z1 := up 1 _ (hck 1 _ rfl)
      have z2 := up 2 _ (hck 2 _ rfl)
      rw [Nat.add_zero] at z0
      simp only at hsn z0 z1 z2
      have HSN := Lib.hid hsn
      obtain ⟨c, ec⟩ : ∃ c, svF (L.take k) t = c := ⟨_, rfl⟩
      rw [ec] at HSN
      have HB7 := Lib.hid (HBR.out.alloc hzr (.cells #[.int .i64 ta, .int .i64 tsv, .string tlt] 44))
      clear hat hcs hck hsn eq up
      rw [ec]
      clear ec
      by_cases hle : ta ≤ t
      · have HN : Hid (svF (L.take (k + 1)) t = tsv) := by show _ = _; rw [HSN.out, if_pos hle]
        clear HSN
        go_wp2_with fail
        go_roundw
        case rel => exact ⟨k + 1, by omega, by go_num, by rw [HN.out], HB7⟩
        case measure => simp [intOf]; omega
      · have HN : Hid (svF (L.take (k + 1)) t = c) := by show _ = _; rw [HSN.out, if_neg hle]
        clear HSN
        go_wp2_with fail
        go_roundw
        case rel => exact ⟨k + 1, by omega, by go_num, by rw [HN.out], HB7⟩
        case measure => simp [intOf]; omega
    · obtain rfl : k = L.length := by omega
      rw [List.take_length, HES.out]
      have hx7 := (HBR.out.block tb hz6).trans HX6.out
      have htb7 : tb < wr.heap.size := by omega
      have HBW7 := Lib.hid (HBW6.out.trans (HBR.out.mono HBW6.out.size))
      by_cases hs : 0 < s
      · have q0 : wr.cell? ⟨tb, 0, none⟩ = some (.int .i64 (off + s)) := (cell_of_row wr _ 0 _ _ _ hx7).trans rfl
        have q1 : wr.cell? ⟨tb, 1, none⟩ = some (.bool true) := (cell_of_row wr _ 1 _ _ _ hx7).trans (by rw [decide_eq_true hs]; rfl)
        have q2 : wr.cell? ⟨tb, 2, none⟩ = some (.string ⟨#[89]⟩) := (cell_of_row wr _ 2 _ _ _ hx7).trans (by rw [← HXN.out, if_pos hs]; rfl)
        have heq := fun W => eql_tySelf (off + s) true ⟨#[89]⟩ W
        clear hx7
        go_wp2_with fail
        go_ret
        exact ⟨rfl, HBW7.out.alloc HBW7.out.size _⟩
      · have q0 : wr.cell? ⟨tb, 0, none⟩ = some (.int .i64 (off + s)) := (cell_of_row wr _ 0 _ _ _ hx7).trans rfl
        have q1 : wr.cell? ⟨tb, 1, none⟩ = some (.bool false) := (cell_of_row wr _ 1 _ _ _ hx7).trans (by rw [decide_eq_false hs]; rfl)
        have q2 : wr.cell? ⟨tb, 2, none⟩ = some (.string ⟨#[88]⟩) := (cell_of_row wr _ 2 _ _ _ hx7).trans (by rw [← HXN.out, if_neg hs]; rfl)
        have heq := fun W => eql_tySelf (off + s) false ⟨#[88]⟩ W
        clear hx7
        go_wp2_with fail
        go_ret
        exact ⟨rfl, HBW7.out.alloc HBW7.out.size _⟩
end Go.Proofs.YthggojpdcgcmaaaGreatDoor
