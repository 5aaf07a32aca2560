/- StateBounds: the walk. -/
import Derived.Test.YthggojpdcgcmaaaDoorQ10
namespace Go.Proofs.YthggojpdcgcmaaaDoor
open Go.RowKit Go.Joins Go.Maps
open Classical
set_option linter.unusedVariables false
set_option linter.unusedSimpArgs false

theorem bdE_rw (rules : List Ru) (x : Ty) (y : Er) (s : Int) (h : x.off - y.off = s) : bdE rules x y = (decide (0 ≤ s ∧ s ≤ 10800) && decide (decide (0 < s) = x.save) && ((decide (y.ru.data.toList = []) && decide (s = y.sv)) || ((decide (s = 0) && !decide (y.ru.data.toList = [])) || rules.any fun r => decide (r.nm = y.ru) && decide (r.sv = s)))) := by
  unfold bdE; rw [h]
/-- not an era for it -/
theorem bdE_no {rules : List Ru} {x : Ty} {y : Er} (h : ¬ (0 ≤ x.off - y.off ∧ x.off - y.off ≤ 10800 ∧ decide (0 < x.off - y.off) = x.save)) : bdE rules x y = false := by
  rw [bdE_rw rules x y _ rfl, Bool.and_eq_false_iff]
  refine .inl ?_
  rw [Bool.and_eq_false_iff]
  by_cases g : 0 ≤ x.off - y.off ∧ x.off - y.off ≤ 10800
  · exact .inr (decide_eq_false fun e => h ⟨g.1, g.2, e⟩)
  · exact .inl (decide_eq_false g)
theorem bdE_rest {rules : List Ru} {x : Ty} {y : Er} (h1 : ¬ (y.ru.data.toList = [] ∧ x.off - y.off = y.sv)) (h2 : ¬ (x.off - y.off = 0 ∧ y.ru.data.toList ≠ [])) (h3 : (rules.any fun r => decide (r.nm = y.ru) && decide (r.sv = x.off - y.off)) = false) : bdE rules x y = false := by
  rw [bdE_rw rules x y _ rfl, h3, Bool.and_eq_false_iff]
  refine .inr ?_
  rw [Bool.or_false, Bool.or_eq_false_iff, Bool.and_eq_false_iff, Bool.and_eq_false_iff]
  constructor
  · by_cases g : y.ru.data.toList = []
    · exact .inr (decide_eq_false fun e => h1 ⟨g, e⟩)
    · exact .inl (decide_eq_false g)
  · by_cases g : y.ru.data.toList = []
    · exact .inr (by rw [decide_eq_true g]; rfl)
    · exact .inl (decide_eq_false fun e => h2 ⟨e, g⟩)
theorem any_upto {α : Type} (p : α → Bool) (l : List α) (k : Nat) (hk : l.length ≤ k) (h : (l.take k).any p = false) : l.any p = false := by rwa [List.take_of_length_le hk] at h
theorem st_off {b : Bk} {nm : ByteArray} {t : Int} (h : (stR b nm t).1 = 0) : -75600 ≤ (stR b nm t).2.off ∧ (stR b nm t).2.off ≤ 75600 := by
  obtain ⟨z, hz, hr, hb, h1, h2, h3⟩ := stR_ok h
  obtain ⟨hk, e⟩ := era_in (bk_eras hb hz) t
  have hx := (bk_eras hb hz).ok _ (List.getElem_mem hk)
  obtain ⟨s1, s2, s3, -⟩ := sv_ok hx t
  have o1 := hx.o1
  have o2 := hx.o2
  rw [h3]
  unfold stF tdA
  rw [e]
  unfold tdTy
  dsimp only
  rw [tdR_er]
  omega
abbrev bdR (ru : ByteArray) (s : Int) (r : Ru) : Bool := decide (r.nm = ru) && decide (r.sv = s)

set_option maxRecDepth 100000 in
set_option maxHeartbeats 20000000 in
theorem StateBounds_walk (MK : MakeSays) (b : Bk) (rv zv lv : Value) (nm : ByteArray) (t : Int) (w : World) (hB : BookAt w.heap.size w rv zv lv b) (hn : nm.size ≤ 140737488351232) (ht1 : -9223372036854775808 ≤ t) (ht2 : t ≤ 9223372036854775807) (hm : MaxLen w) (ht : Tab10 w) :
    Calls Tryd.prog 3 #[.agg #[rv, zv, lv], .string nm, .int .i64 t] w fun e w' => e = .returned (.bool true) ∧ Below w.heap.size w w' := by
  have HBK := Lib.hid hB
  obtain ⟨p1, c1, rfl, ⟨hlen1, -⟩, hat⟩ := hB.r
  obtain ⟨p2, c2, rfl, -, -⟩ := hB.z
  obtain ⟨p3, c3, rfl, -, -⟩ := hB.l
  obtain ⟨W0, eW⟩ : ∃ W0, w.alloc (.cells #[.slice p1 b.rules.length c1, .slice p2 b.zones.length c2, .slice p3 b.links.length c3] 26) = W0 := ⟨_, rfl⟩
  have hb0 : Below w.heap.size w W0 := by rw [← eW]; exact (Below.refl _ _).alloc (Nat.le_refl _) _
  have hbx : W0.heap[w.heap.size]? = some (.cells #[.slice p1 b.rules.length c1, .slice p2 b.zones.length c2, .slice p3 b.links.length c3] 26 (0, 0)) := by rw [← eW]; exact heap_alloc_new w _
  have hl0 : w.heap.size < W0.heap.size := by rw [← eW]; simp
  have HEW := Lib.hid eW
  have HB0 := Lib.hid hb0
  have HST := Lib.hid (stated_any MK W0 (hm.below hb0) (ht.below hb0))
  have HAT := Lib.hid hat
  have HBAD := Lib.hid (stR_bad (b := b) (nm := nm) (t := t))
  have HLAW := Lib.hid (bounds_law (b := b) (nm := nm) (t := t))
  have HOFF := Lib.hid (st_off (b := b) (nm := nm) (t := t))
  have HSA : Hid (∀ (W : World), Below w.heap.size w W → Calls Tryd.prog 7 #[.agg #[.slice p1 b.rules.length c1, .slice p2 b.zones.length c2, .slice p3 b.links.length c3], .string nm, .int .i64 t] W (StPost (stR b nm t) W)) := by
    show ∀ W, _
    intro W hb
    exact StAt_any MK b _ _ _ nm t W ((HBK.out.below hb (Nat.le_refl _)).baseN hb.size) hn ht1 ht2 (hm.below hb) (ht.below hb)
  have HRS : Hid (∀ (W : World), Below w.heap.size w W → Calls Tryd.prog 8 #[.agg #[.slice p1 b.rules.length c1, .slice p2 b.zones.length c2, .slice p3 b.links.length c3], .string nm] W (RsvPost (rsv b nm) W)) := by
    show ∀ W, _
    intro W hb
    exact Resolve_any b _ _ _ nm W ((HBK.out.below hb (Nat.le_refl _)).baseN hb.size) hn (hm.below hb) (ht.below hb)
  have HBOX : Hid (∀ (W : World), Below W0.heap.size W0 W → W.cell? ⟨w.heap.size, 0, none⟩ = some (.slice p1 b.rules.length c1) ∧ W.cell? ⟨w.heap.size, 1, none⟩ = some (.slice p2 b.zones.length c2) ∧ W.cell? ⟨w.heap.size, 2, none⟩ = some (.slice p3 b.links.length c3)) := by
    show ∀ W, _
    intro W hb
    have hx := (hb.block w.heap.size hl0).trans hbx
    exact ⟨(cell_of_row W _ 0 _ _ _ hx).trans rfl, (cell_of_row W _ 1 _ _ _ hx).trans rfl, (cell_of_row W _ 2 _ _ _ hx).trans rfl⟩
  obtain ⟨S, eS⟩ : ∃ S, stR b nm t = S := ⟨_, rfl⟩
  rw [eS] at HSA HBAD HLAW HOFF
  obtain ⟨C, ⟨xo, xs, xn⟩⟩ := S
  clear eW hb0 hbx hB hm ht hat eS
  go_enter Tryd.func3, Tryd.ntmps3
  go_upto_region 1 with fail
  rw [HEW.out]
  go_wp2_with fail
  refine HST.out.mono ?_
  rintro e w1 ⟨rfl, hb1⟩
  have HB1 := Lib.hid hb1
  have HBW1 := Lib.hid (HB0.out.trans (hb1.mono HB0.out.size))
  obtain ⟨g0, g1, g2⟩ := HBOX.out w1 hb1
  have HA1 := Lib.hid (HSA.out w1 HBW1.out)
  clear hb1 HST HSA
  go_wp2_with fail
  refine HA1.out.mono ?_
  rintro e w2 ⟨rfl, hb2⟩
  have HB2 := Lib.hid (HB1.out.trans (hb2.mono HB1.out.size))
  obtain ⟨W3, e3⟩ : ∃ W3, w2.alloc (.cells #[.int .i64 xo, .bool xs, .string xn] 29) = W3 := ⟨_, rfl⟩
  have hb3 : Below w2.heap.size w2 W3 := by rw [← e3]; exact (Below.refl _ _).alloc (Nat.le_refl _) _
  have hx3 : W3.heap[w2.heap.size]? = some (.cells #[.int .i64 xo, .bool xs, .string xn] 29 (0, 0)) := by rw [← e3]; exact heap_alloc_new w2 _
  have hz3 : w2.heap.size < W3.heap.size := by rw [← e3]; simp
  have HB3 := Lib.hid (HB2.out.trans (hb3.mono HB2.out.size))
  obtain ⟨tb, etb⟩ : ∃ tb, w2.heap.size = tb := ⟨_, rfl⟩
  have HTB := Lib.hid etb
  rw [etb] at hx3 hz3
  have HX3 := Lib.hid hx3
  have HE3 := Lib.hid e3
  have q0 : W3.cell? ⟨tb, 0, none⟩ = some (.int .i64 xo) := (cell_of_row W3 _ 0 _ _ _ hx3).trans rfl
  have q1 : W3.cell? ⟨tb, 1, none⟩ = some (.bool xs) := (cell_of_row W3 _ 1 _ _ _ hx3).trans rfl
  have q2 : W3.cell? ⟨tb, 2, none⟩ = some (.string xn) := (cell_of_row W3 _ 2 _ _ _ hx3).trans rfl
  have HBW3 := Lib.hid (HB0.out.trans (HB3.out.mono HB0.out.size))
  clear hb2 hb3 hx3 e3 etb HA1
  go_upto_region 4 with fail
  rw [HE3.out, HTB.out]
  by_cases hC : C = 0
  case neg =>
    have hbd := HBAD.out hC
    simp only [ty0, Ty.mk.injEq] at hbd
    obtain ⟨rfl, rfl, rfl⟩ := hbd
    have hz : (C == 0) = false := by simpa using hC
    have hzz : (!C == 0) = true := by rw [hz]; rfl
    have hq := fun W => eql_tySelf 0 false ⟨#[]⟩ W
    clear hC HBAD HLAW HOFF HRS HBOX
    go_wp2_with fail
    go_ret
    exact ⟨rfl, HBW3.out⟩
  case pos =>
  subst hC
  obtain ⟨z, hz, hr, hn1, hn8, hany⟩ := HLAW.out rfl
  have hoff := HOFF.out rfl
  obtain ⟨-, -, hbk⟩ := rsv_zero hr
  have hes := bk_eras hbk hz
  have HES := Lib.hid hes.ok
  have HANY := Lib.hid hany
  have hel := hes.le
  rw [hr] at HRS
  obtain ⟨g0, g1, g2⟩ := HBOX.out W3 HB3.out
  have HR1 := Lib.hid (HRS.out W3 HBW3.out)
  clear HBAD HLAW HOFF HRS hr hz hbk hes hany
  go_wp2_with fail
  refine HR1.out.mono ?_
  rintro e w4 ⟨vo, rfl, hrow, hb4⟩
  simp only [zNm, zEr] at hrow ⊢
  obtain ⟨A, cA, rfl⟩ := own_sliceN hrow
  obtain ⟨W5, e5⟩ : ∃ W5, w4.alloc (.cells #[.string z.nm, .slice A z.eras.length cA] 35) = W5 := ⟨_, rfl⟩
  have hb5 : Below w4.heap.size w4 W5 := by rw [← e5]; exact (Below.refl _ _).alloc (Nat.le_refl _) _
  have hx5 : W5.heap[w4.heap.size]? = some (.cells #[.string z.nm, .slice A z.eras.length cA] 35 (0, 0)) := by rw [← e5]; exact heap_alloc_new w4 _
  have hz5 : w4.heap.size < W5.heap.size := by rw [← e5]; simp
  have hb35 : Below W3.heap.size W3 W5 := hb4.trans (hb5.mono hb4.size)
  have HB5 := Lib.hid (HB3.out.trans (hb35.mono HB3.out.size))
  have HROW : Hid (RowsAt (fun x : Er => (erCells x).toList) 5 W5.heap.size W5 (.slice A z.eras.length cA) z.eras) := own_rowsG (cells := fun x : Er => (erCells x).toList) (k := 5) (fun _ => rfl) (own_keep hrow fun g e => hb5.block g (World.ownsRow.lt hrow g e).2) (by omega)
  obtain ⟨zb, ezb⟩ : ∃ zb, w4.heap.size = zb := ⟨_, rfl⟩
  have HZB := Lib.hid ezb
  rw [ezb] at hx5 hz5
  have HE5 := Lib.hid e5
  have HX5 := Lib.hid hx5
  have hq1 : W5.cell? ⟨zb, 1, none⟩ = some (.slice A z.eras.length cA) := (cell_of_row W5 _ 1 _ _ _ hx5).trans rfl
  have hx35 := (hb35.block tb hz3).trans HX3.out
  have HT5 := Lib.hid hx35
  have htb5 : tb < W5.heap.size := Nat.lt_of_lt_of_le hz3 hb35.size
  have q0 : W5.cell? ⟨tb, 0, none⟩ = some (.int .i64 xo) := (cell_of_row W5 _ 0 _ _ _ hx35).trans rfl
  have q1 : W5.cell? ⟨tb, 1, none⟩ = some (.bool xs) := (cell_of_row W5 _ 1 _ _ _ hx35).trans rfl
  have q2 : W5.cell? ⟨tb, 2, none⟩ = some (.string xn) := (cell_of_row W5 _ 2 _ _ _ hx35).trans rfl
  have HBW5 := Lib.hid (HB0.out.trans (HB5.out.mono HB0.out.size))
  have hnz1 : ¬ (xn.size : Int) < 1 := by omega
  have hnz2 : ¬ (8 : Int) < (xn.size : Int) := by omega
  have hw5 : W0.heap.size ≤ W5.heap.size := HB5.out.size
  clear hrow hb4 hb5 hx5 e5 ezb hb35 HR1 hx35 HX3
  go_upto_region 7 with fail
  rw [HE5.out, HZB.out]
  go_wp2_with fail
  go_loopw [53] (fun i wr => ∃ k : Nat, k ≤ z.eras.length ∧ i = .int .i64 k ∧ Hid ((z.eras.take k).any (bdE b.rules ⟨xo, xs, xn⟩) = false) ∧ Hid (Below W5.heap.size W5 wr)) (fun i _ => z.eras.length - (intOf i).toNat)
  case atStart => exact ⟨0, Nat.zero_le _, rfl, rfl, Lib.hid (Below.refl _ _)⟩
  case round =>
    obtain ⟨k, hk, rfl, HNO, HBR⟩ := hrel
    have hzr := HBR.out.size
    by_cases hkl : k < z.eras.length
    · obtain ⟨pp, cc, ee, -, hat2⟩ := HROW.out
      simp only [Value.slice.injEq, true_and] at ee
      obtain ⟨rfl, rfl⟩ := ee
      obtain ⟨bb, o, rfl, hbl, hcs⟩ := hat2 (List.ne_nil_of_length_pos (by omega))
      have hck := hcs k hkl
      have hye := HES.out _ (List.getElem_mem hkl)
      have hyo1 := hye.o1
      have hyo2 := hye.o2
      have HSTEP := Lib.hid (any_step (bdE b.rules ⟨xo, xs, xn⟩) z.eras k hkl HNO.out)
      obtain ⟨y, ey⟩ : ∃ y, z.eras[k] = y := ⟨_, rfl⟩
      rw [ey] at hck hyo1 hyo2 HSTEP
      obtain ⟨yo, yru, ysv, yfm, yun⟩ := y
      have up : ∀ m u, W5.cell? ⟨bb, o + k * 5 + m, none⟩ = some u → wr.cell? ⟨bb, o + k * 5 + m, none⟩ = some u := fun m u h => (HBR.out.cell (p := ⟨bb, o + k * 5 + m, none⟩) hbl).trans h
      have z0 := up 0 _ (hck 0 _ rfl)
      have z1 := up 1 _ (hck 1 _ rfl)
      have z2 := up 2 _ (hck 2 _ rfl)
      have z3 := up 3 _ (hck 3 _ rfl)
      have z4 := up 4 _ (hck 4 _ rfl)
      rw [Nat.add_zero] at z0
      simp only at hyo1 hyo2
      obtain ⟨W6, e6⟩ : ∃ W6, wr.alloc (.cells #[.int .i64 yo, .string yru, .int .i64 ysv, .string yfm, .int .i64 yun] 39) = W6 := ⟨_, rfl⟩
      have hb6 : Below wr.heap.size wr W6 := by rw [← e6]; exact (Below.refl _ _).alloc (Nat.le_refl _) _
      have hx6 : W6.heap[wr.heap.size]? = some (.cells #[.int .i64 yo, .string yru, .int .i64 ysv, .string yfm, .int .i64 yun] 39 (0, 0)) := by rw [← e6]; exact heap_alloc_new wr _
      have hz6 : wr.heap.size < W6.heap.size := by rw [← e6]; simp
      obtain ⟨eb, eeb⟩ : ∃ eb, wr.heap.size = eb := ⟨_, rfl⟩
      have HEB := Lib.hid eeb
      rw [eeb] at hx6 hz6
      have heb6 := hz6
      have HB6 := Lib.hid (HBR.out.trans (hb6.mono hzr))
      have HBW6 := Lib.hid (HBW5.out.trans (HB6.out.mono HBW5.out.size))
      have HX6 := Lib.hid hx6
      have HE6 := Lib.hid e6
      have y0 : W6.cell? ⟨eb, 0, none⟩ = some (.int .i64 yo) := (cell_of_row W6 _ 0 _ _ _ hx6).trans rfl
      have y1 : W6.cell? ⟨eb, 1, none⟩ = some (.string yru) := (cell_of_row W6 _ 1 _ _ _ hx6).trans rfl
      have y2 : W6.cell? ⟨eb, 2, none⟩ = some (.int .i64 ysv) := (cell_of_row W6 _ 2 _ _ _ hx6).trans rfl
      have hx6t := (HB6.out.block tb htb5).trans HT5.out
      have q0 : W6.cell? ⟨tb, 0, none⟩ = some (.int .i64 xo) := (cell_of_row W6 _ 0 _ _ _ hx6t).trans rfl
      have q1 : W6.cell? ⟨tb, 1, none⟩ = some (.bool xs) := (cell_of_row W6 _ 1 _ _ _ hx6t).trans rfl
      obtain ⟨g0, -, -⟩ := HBOX.out W6 (HB5.out.trans (HB6.out.mono hw5))
      clear ey hye hat2 hcs hck up hx6 hb6 e6 eeb hx6t
      go_upto_region 12 with fail
      rw [HE6.out, HEB.out]
      clear z0 z1 z2 z3 z4
      obtain ⟨s, es⟩ : ∃ s, xo - yo = s := ⟨_, rfl⟩
      have hsw : IntKind.i64.wrap (xo - yo) = s := by rw [es]; exact IntWalk.i64_in _ (by omega)
      have hsl : -200000 ≤ s ∧ s ≤ 200000 := by omega
      have bdE_no : ¬ (0 ≤ s ∧ s ≤ 10800 ∧ decide (0 < s) = xs) → bdE b.rules ⟨xo, xs, xn⟩ ⟨yo, yru, ysv, yfm, yun⟩ = false := fun h => bdE_no (by show ¬ (0 ≤ xo - yo ∧ xo - yo ≤ 10800 ∧ decide (0 < xo - yo) = xs); rw [es]; exact h)
      have bdE_rest : ¬ (yru.data.toList = [] ∧ s = ysv) → ¬ (s = 0 ∧ yru.data.toList ≠ []) → (b.rules.any fun r => decide (r.nm = yru) && decide (r.sv = s)) = false → bdE b.rules ⟨xo, xs, xn⟩ ⟨yo, yru, ysv, yfm, yun⟩ = false := fun h1 h2 h3 => bdE_rest (by show ¬ (yru.data.toList = [] ∧ xo - yo = ysv); rw [es]; exact h1) (by show ¬ (xo - yo = 0 ∧ yru.data.toList ≠ []); rw [es]; exact h2) (by show (b.rules.any fun r => decide (r.nm = yru) && decide (r.sv = xo - yo)) = false; rw [es]; exact h3)
      have HBN := Lib.hid bdE_no
      have HBE := Lib.hid bdE_rest
      clear bdE_no bdE_rest es
      by_cases hs0 : s < 0
      · have HN3 := Lib.hid (HSTEP.out (HBN.out (fun h => by omega)))
        clear HSTEP
        go_wp2_with fail
        go_roundw
        case rel => exact ⟨k + 1, by omega, by go_num, HN3, HB6⟩
        case measure => simp [intOf]; omega
      · by_cases hs1 : 10800 < s
        · have HN3 := Lib.hid (HSTEP.out (HBN.out (fun h => by omega)))
          clear HSTEP
          go_wp2_with fail
          go_roundw
          case rel => exact ⟨k + 1, by omega, by go_num, HN3, HB6⟩
          case measure => simp [intOf]; omega
        · by_cases hp : 0 < s
          · cases xs with
            | false =>
              have HN3 := Lib.hid (HSTEP.out (HBN.out (fun h => by have := h.2.2; rw [decide_eq_true hp] at this; cases this)))
              clear HSTEP
              go_wp2_with fail
              go_roundw
              case rel => exact ⟨k + 1, by omega, by go_num, HN3, HB6⟩
              case measure => simp [intOf]; omega
            | true =>
              by_cases hru : yru.data.toList = []
              · have b0 : yru.toList.isEmpty = true := by rw [ByteArray.toList_eq, hru]; rfl
                by_cases hsv : s = ysv
                · have t0 : (s == ysv) = true := by rw [hsv]; simp
                  clear hru hsv
                  clear HSTEP
                  go_wp2_with fail
                  go_ret
                  exact ⟨rfl, HBW6.out⟩
                · have t0 : (s == ysv) = false := by simpa using hsv
                  have hr1 : ¬ (yru.data.toList = [] ∧ s = ysv) := fun h => hsv h.2
                  have hr2 : ¬ (s = 0 ∧ yru.data.toList ≠ []) := fun h => h.2 hru
                  clear hru hsv
                  go_wp2_with fail
                  go_loopw [94] (fun i wr => ∃ j : Nat, j ≤ b.rules.length ∧ i = .int .i64 j ∧ Hid ((b.rules.take j).any (bdR yru s) = false) ∧ Hid (Below W6.heap.size W6 wr)) (fun i _ => b.rules.length - (intOf i).toNat)
                  case atStart => exact ⟨0, Nat.zero_le _, rfl, rfl, Lib.hid (Below.refl _ _)⟩
                  case round =>
                    obtain ⟨j, hj, rfl, HNO2, HBR2⟩ := hrel
                    have hzr2 := HBR2.out.size
                    by_cases hjl : j < b.rules.length
                    · obtain ⟨rb, ro, rfl, hrbl, hrcs⟩ := HAT.out (List.ne_nil_of_length_pos (by omega))
                      have hck2 := hrcs j hjl
                      have HS2 := Lib.hid (any_step (bdR yru s) b.rules j hjl HNO2.out)
                      have HW2 := Lib.hid (HBW6.out.trans (HBR2.out.mono HBW6.out.size))
                      have up : ∀ m u, w.cell? ⟨rb, ro + j * 11 + m, none⟩ = some u → wr.cell? ⟨rb, ro + j * 11 + m, none⟩ = some u := fun m u h => (HW2.out.cell (p := ⟨rb, ro + j * 11 + m, none⟩) hrbl).trans h
                      obtain ⟨r, er⟩ : ∃ r, b.rules[j] = r := ⟨_, rfl⟩
                      rw [er] at hck2 HS2
                      obtain ⟨rnm, ryf, ryt, rmo, rdk, rdw, rdn, rtm, rck, rsv, rlt⟩ := r
                      have z0 := up 0 _ (hck2 0 _ rfl)
                      have z1 := up 1 _ (hck2 1 _ rfl)
                      have z2 := up 2 _ (hck2 2 _ rfl)
                      have z3 := up 3 _ (hck2 3 _ rfl)
                      have z4 := up 4 _ (hck2 4 _ rfl)
                      have z5 := up 5 _ (hck2 5 _ rfl)
                      have z6 := up 6 _ (hck2 6 _ rfl)
                      have z7 := up 7 _ (hck2 7 _ rfl)
                      have z8 := up 8 _ (hck2 8 _ rfl)
                      have z9 := up 9 _ (hck2 9 _ rfl)
                      have z10 := up 10 _ (hck2 10 _ rfl)
                      rw [Nat.add_zero] at z0
                      obtain ⟨W7, e7⟩ : ∃ W7, wr.alloc (.cells #[.string rnm, .int .i64 ryf, .int .i64 ryt, .int .i64 rmo, .int .i64 rdk, .int .i64 rdw, .int .i64 rdn, .int .i64 rtm, .int .i64 rck, .int .i64 rsv, .string rlt] 43) = W7 := ⟨_, rfl⟩
                      have hb7 : Below wr.heap.size wr W7 := by rw [← e7]; exact (Below.refl _ _).alloc (Nat.le_refl _) _
                      have hx7 : W7.heap[wr.heap.size]? = some (.cells #[.string rnm, .int .i64 ryf, .int .i64 ryt, .int .i64 rmo, .int .i64 rdk, .int .i64 rdw, .int .i64 rdn, .int .i64 rtm, .int .i64 rck, .int .i64 rsv, .string rlt] 43 (0, 0)) := by rw [← e7]; exact heap_alloc_new wr _
                      obtain ⟨qb, eqb⟩ : ∃ qb, wr.heap.size = qb := ⟨_, rfl⟩
                      have HQB := Lib.hid eqb
                      rw [eqb] at hx7
                      have HB7 := Lib.hid (HBR2.out.trans (hb7.mono hzr2))
                      have HE7 := Lib.hid e7
                      have u0 : W7.cell? ⟨qb, 0, none⟩ = some (.string rnm) := (cell_of_row W7 _ 0 _ _ _ hx7).trans rfl
                      have u9 : W7.cell? ⟨qb, 9, none⟩ = some (.int .i64 rsv) := (cell_of_row W7 _ 9 _ _ _ hx7).trans rfl
                      have y1 : W7.cell? ⟨eb, 1, none⟩ = some (.string yru) := (cell_of_row W7 _ 1 _ _ _ ((HB7.out.block eb heb6).trans HX6.out)).trans rfl
                      have HBW7 := Lib.hid (HBW6.out.trans (HB7.out.mono HBW6.out.size))
                      clear er hck2 hrcs up hx7 hb7 e7 eqb
                      go_upto_region 21 with fail
                      rw [HE7.out, HQB.out]
                      clear z0 z1 z2 z3 z4 z5 z6 z7 z8 z9 z10
                      by_cases hnm : rnm = yru
                      · have t0 : (rnm.toList == yru.toList) = true := by rw [hnm]; exact beq_self_eq_true _
                        by_cases hsv : rsv = s
                        · have t1 : (rsv == s) = true := by rw [hsv]; simp
                          clear hnm hsv HS2 HSTEP
                          go_wp2_with fail
                          go_ret
                          exact ⟨rfl, HBW7.out⟩
                        · have t1 : (rsv == s) = false := by simpa using hsv
                          have HN2 := Lib.hid (HS2.out (by show (decide (rnm = yru) && decide (rsv = s)) = false; rw [decide_eq_false hsv, Bool.and_false]))
                          clear hnm hsv HS2
                          go_wp2_with fail
                          go_roundw
                          case rel => exact ⟨j + 1, by omega, by go_num, HN2, HB7⟩
                          case measure => simp [intOf]; omega
                      · have t0 : (rnm.toList == yru.toList) = false := bytes_ne hnm
                        have HN2 := Lib.hid (HS2.out (by show (decide (rnm = yru) && decide (rsv = s)) = false; rw [decide_eq_false hnm, Bool.false_and]))
                        clear hnm HS2
                        go_wp2_with fail
                        go_roundw
                        case rel => exact ⟨j + 1, by omega, by go_num, HN2, HB7⟩
                        case measure => simp [intOf]; omega
                    · have HN3 := Lib.hid (HSTEP.out (HBE.out hr1 hr2 (any_upto (bdR yru s) b.rules j (by omega) HNO2.out)))
                      have HB8 := Lib.hid (HB6.out.trans (HBR2.out.mono HB6.out.size))
                      clear hr1 hr2
                      go_wp2_with fail
                      go_roundw
                      case rel => exact ⟨k + 1, by omega, by go_num, HN3, HB8⟩
                      case measure => simp [intOf]; omega
              · have b0 : yru.toList.isEmpty = false := by
                  rw [ByteArray.toList_eq]
                  cases e : yru.data.toList with
                  | nil => exact absurd e hru
                  | cons c r => rfl
                have t0 : (s == 0) = false := by simp; omega
                have hr1 : ¬ (yru.data.toList = [] ∧ s = ysv) := fun h => hru h.1
                have hr2 : ¬ (s = 0 ∧ yru.data.toList ≠ []) := fun h => by omega
                clear hru
                go_wp2_with fail
                go_loopw [94] (fun i wr => ∃ j : Nat, j ≤ b.rules.length ∧ i = .int .i64 j ∧ Hid ((b.rules.take j).any (bdR yru s) = false) ∧ Hid (Below W6.heap.size W6 wr)) (fun i _ => b.rules.length - (intOf i).toNat)
                case atStart => exact ⟨0, Nat.zero_le _, rfl, rfl, Lib.hid (Below.refl _ _)⟩
                case round =>
                  obtain ⟨j, hj, rfl, HNO2, HBR2⟩ := hrel
                  have hzr2 := HBR2.out.size
                  by_cases hjl : j < b.rules.length
                  · obtain ⟨rb, ro, rfl, hrbl, hrcs⟩ := HAT.out (List.ne_nil_of_length_pos (by omega))
                    have hck2 := hrcs j hjl
                    have HS2 := Lib.hid (any_step (bdR yru s) b.rules j hjl HNO2.out)
                    have HW2 := Lib.hid (HBW6.out.trans (HBR2.out.mono HBW6.out.size))
                    have up : ∀ m u, w.cell? ⟨rb, ro + j * 11 + m, none⟩ = some u → wr.cell? ⟨rb, ro + j * 11 + m, none⟩ = some u := fun m u h => (HW2.out.cell (p := ⟨rb, ro + j * 11 + m, none⟩) hrbl).trans h
                    obtain ⟨r, er⟩ : ∃ r, b.rules[j] = r := ⟨_, rfl⟩
                    rw [er] at hck2 HS2
                    obtain ⟨rnm, ryf, ryt, rmo, rdk, rdw, rdn, rtm, rck, rsv, rlt⟩ := r
                    have z0 := up 0 _ (hck2 0 _ rfl)
                    have z1 := up 1 _ (hck2 1 _ rfl)
                    have z2 := up 2 _ (hck2 2 _ rfl)
                    have z3 := up 3 _ (hck2 3 _ rfl)
                    have z4 := up 4 _ (hck2 4 _ rfl)
                    have z5 := up 5 _ (hck2 5 _ rfl)
                    have z6 := up 6 _ (hck2 6 _ rfl)
                    have z7 := up 7 _ (hck2 7 _ rfl)
                    have z8 := up 8 _ (hck2 8 _ rfl)
                    have z9 := up 9 _ (hck2 9 _ rfl)
                    have z10 := up 10 _ (hck2 10 _ rfl)
                    rw [Nat.add_zero] at z0
                    obtain ⟨W7, e7⟩ : ∃ W7, wr.alloc (.cells #[.string rnm, .int .i64 ryf, .int .i64 ryt, .int .i64 rmo, .int .i64 rdk, .int .i64 rdw, .int .i64 rdn, .int .i64 rtm, .int .i64 rck, .int .i64 rsv, .string rlt] 43) = W7 := ⟨_, rfl⟩
                    have hb7 : Below wr.heap.size wr W7 := by rw [← e7]; exact (Below.refl _ _).alloc (Nat.le_refl _) _
                    have hx7 : W7.heap[wr.heap.size]? = some (.cells #[.string rnm, .int .i64 ryf, .int .i64 ryt, .int .i64 rmo, .int .i64 rdk, .int .i64 rdw, .int .i64 rdn, .int .i64 rtm, .int .i64 rck, .int .i64 rsv, .string rlt] 43 (0, 0)) := by rw [← e7]; exact heap_alloc_new wr _
                    obtain ⟨qb, eqb⟩ : ∃ qb, wr.heap.size = qb := ⟨_, rfl⟩
                    have HQB := Lib.hid eqb
                    rw [eqb] at hx7
                    have HB7 := Lib.hid (HBR2.out.trans (hb7.mono hzr2))
                    have HE7 := Lib.hid e7
                    have u0 : W7.cell? ⟨qb, 0, none⟩ = some (.string rnm) := (cell_of_row W7 _ 0 _ _ _ hx7).trans rfl
                    have u9 : W7.cell? ⟨qb, 9, none⟩ = some (.int .i64 rsv) := (cell_of_row W7 _ 9 _ _ _ hx7).trans rfl
                    have y1 : W7.cell? ⟨eb, 1, none⟩ = some (.string yru) := (cell_of_row W7 _ 1 _ _ _ ((HB7.out.block eb heb6).trans HX6.out)).trans rfl
                    have HBW7 := Lib.hid (HBW6.out.trans (HB7.out.mono HBW6.out.size))
                    clear er hck2 hrcs up hx7 hb7 e7 eqb
                    go_upto_region 21 with fail
                    rw [HE7.out, HQB.out]
                    clear z0 z1 z2 z3 z4 z5 z6 z7 z8 z9 z10
                    by_cases hnm : rnm = yru
                    · have t0 : (rnm.toList == yru.toList) = true := by rw [hnm]; exact beq_self_eq_true _
                      by_cases hsv : rsv = s
                      · have t1 : (rsv == s) = true := by rw [hsv]; simp
                        clear hnm hsv HS2 HSTEP
                        go_wp2_with fail
                        go_ret
                        exact ⟨rfl, HBW7.out⟩
                      · have t1 : (rsv == s) = false := by simpa using hsv
                        have HN2 := Lib.hid (HS2.out (by show (decide (rnm = yru) && decide (rsv = s)) = false; rw [decide_eq_false hsv, Bool.and_false]))
                        clear hnm hsv HS2
                        go_wp2_with fail
                        go_roundw
                        case rel => exact ⟨j + 1, by omega, by go_num, HN2, HB7⟩
                        case measure => simp [intOf]; omega
                    · have t0 : (rnm.toList == yru.toList) = false := bytes_ne hnm
                      have HN2 := Lib.hid (HS2.out (by show (decide (rnm = yru) && decide (rsv = s)) = false; rw [decide_eq_false hnm, Bool.false_and]))
                      clear hnm HS2
                      go_wp2_with fail
                      go_roundw
                      case rel => exact ⟨j + 1, by omega, by go_num, HN2, HB7⟩
                      case measure => simp [intOf]; omega
                  · have HN3 := Lib.hid (HSTEP.out (HBE.out hr1 hr2 (any_upto (bdR yru s) b.rules j (by omega) HNO2.out)))
                    have HB8 := Lib.hid (HB6.out.trans (HBR2.out.mono HB6.out.size))
                    clear hr1 hr2
                    go_wp2_with fail
                    go_roundw
                    case rel => exact ⟨k + 1, by omega, by go_num, HN3, HB8⟩
                    case measure => simp [intOf]; omega
          · have t00 : (s == 0) = true := by simp; omega
            have hd0 : decide (0 < s) = false := decide_eq_false hp
            cases xs with
            | true =>
              have HN3 := Lib.hid (HSTEP.out (HBN.out (fun h => by have := h.2.2; rw [hd0] at this; cases this)))
              clear HSTEP
              go_wp2_with fail
              go_roundw
              case rel => exact ⟨k + 1, by omega, by go_num, HN3, HB6⟩
              case measure => simp [intOf]; omega
            | false =>
              by_cases hru : yru.data.toList = []
              · have b0 : yru.toList.isEmpty = true := by rw [ByteArray.toList_eq, hru]; rfl
                by_cases hsv : s = ysv
                · have t0 : (s == ysv) = true := by rw [hsv]; simp
                  clear hru hsv
                  clear HSTEP
                  go_wp2_with fail
                  go_ret
                  exact ⟨rfl, HBW6.out⟩
                · have t0 : (s == ysv) = false := by simpa using hsv
                  have hr1 : ¬ (yru.data.toList = [] ∧ s = ysv) := fun h => hsv h.2
                  have hr2 : ¬ (s = 0 ∧ yru.data.toList ≠ []) := fun h => h.2 hru
                  clear hru hsv
                  go_wp2_with fail
                  go_loopw [94] (fun i wr => ∃ j : Nat, j ≤ b.rules.length ∧ i = .int .i64 j ∧ Hid ((b.rules.take j).any (bdR yru s) = false) ∧ Hid (Below W6.heap.size W6 wr)) (fun i _ => b.rules.length - (intOf i).toNat)
                  case atStart => exact ⟨0, Nat.zero_le _, rfl, rfl, Lib.hid (Below.refl _ _)⟩
                  case round =>
                    obtain ⟨j, hj, rfl, HNO2, HBR2⟩ := hrel
                    have hzr2 := HBR2.out.size
                    by_cases hjl : j < b.rules.length
                    · obtain ⟨rb, ro, rfl, hrbl, hrcs⟩ := HAT.out (List.ne_nil_of_length_pos (by omega))
                      have hck2 := hrcs j hjl
                      have HS2 := Lib.hid (any_step (bdR yru s) b.rules j hjl HNO2.out)
                      have HW2 := Lib.hid (HBW6.out.trans (HBR2.out.mono HBW6.out.size))
                      have up : ∀ m u, w.cell? ⟨rb, ro + j * 11 + m, none⟩ = some u → wr.cell? ⟨rb, ro + j * 11 + m, none⟩ = some u := fun m u h => (HW2.out.cell (p := ⟨rb, ro + j * 11 + m, none⟩) hrbl).trans h
                      obtain ⟨r, er⟩ : ∃ r, b.rules[j] = r := ⟨_, rfl⟩
                      rw [er] at hck2 HS2
                      obtain ⟨rnm, ryf, ryt, rmo, rdk, rdw, rdn, rtm, rck, rsv, rlt⟩ := r
                      have z0 := up 0 _ (hck2 0 _ rfl)
                      have z1 := up 1 _ (hck2 1 _ rfl)
                      have z2 := up 2 _ (hck2 2 _ rfl)
                      have z3 := up 3 _ (hck2 3 _ rfl)
                      have z4 := up 4 _ (hck2 4 _ rfl)
                      have z5 := up 5 _ (hck2 5 _ rfl)
                      have z6 := up 6 _ (hck2 6 _ rfl)
                      have z7 := up 7 _ (hck2 7 _ rfl)
                      have z8 := up 8 _ (hck2 8 _ rfl)
                      have z9 := up 9 _ (hck2 9 _ rfl)
                      have z10 := up 10 _ (hck2 10 _ rfl)
                      rw [Nat.add_zero] at z0
                      obtain ⟨W7, e7⟩ : ∃ W7, wr.alloc (.cells #[.string rnm, .int .i64 ryf, .int .i64 ryt, .int .i64 rmo, .int .i64 rdk, .int .i64 rdw, .int .i64 rdn, .int .i64 rtm, .int .i64 rck, .int .i64 rsv, .string rlt] 43) = W7 := ⟨_, rfl⟩
                      have hb7 : Below wr.heap.size wr W7 := by rw [← e7]; exact (Below.refl _ _).alloc (Nat.le_refl _) _
                      have hx7 : W7.heap[wr.heap.size]? = some (.cells #[.string rnm, .int .i64 ryf, .int .i64 ryt, .int .i64 rmo, .int .i64 rdk, .int .i64 rdw, .int .i64 rdn, .int .i64 rtm, .int .i64 rck, .int .i64 rsv, .string rlt] 43 (0, 0)) := by rw [← e7]; exact heap_alloc_new wr _
                      obtain ⟨qb, eqb⟩ : ∃ qb, wr.heap.size = qb := ⟨_, rfl⟩
                      have HQB := Lib.hid eqb
                      rw [eqb] at hx7
                      have HB7 := Lib.hid (HBR2.out.trans (hb7.mono hzr2))
                      have HE7 := Lib.hid e7
                      have u0 : W7.cell? ⟨qb, 0, none⟩ = some (.string rnm) := (cell_of_row W7 _ 0 _ _ _ hx7).trans rfl
                      have u9 : W7.cell? ⟨qb, 9, none⟩ = some (.int .i64 rsv) := (cell_of_row W7 _ 9 _ _ _ hx7).trans rfl
                      have y1 : W7.cell? ⟨eb, 1, none⟩ = some (.string yru) := (cell_of_row W7 _ 1 _ _ _ ((HB7.out.block eb heb6).trans HX6.out)).trans rfl
                      have HBW7 := Lib.hid (HBW6.out.trans (HB7.out.mono HBW6.out.size))
                      clear er hck2 hrcs up hx7 hb7 e7 eqb
                      go_upto_region 21 with fail
                      rw [HE7.out, HQB.out]
                      clear z0 z1 z2 z3 z4 z5 z6 z7 z8 z9 z10
                      by_cases hnm : rnm = yru
                      · have t0 : (rnm.toList == yru.toList) = true := by rw [hnm]; exact beq_self_eq_true _
                        by_cases hsv : rsv = s
                        · have t1 : (rsv == s) = true := by rw [hsv]; simp
                          clear hnm hsv HS2 HSTEP
                          go_wp2_with fail
                          go_ret
                          exact ⟨rfl, HBW7.out⟩
                        · have t1 : (rsv == s) = false := by simpa using hsv
                          have HN2 := Lib.hid (HS2.out (by show (decide (rnm = yru) && decide (rsv = s)) = false; rw [decide_eq_false hsv, Bool.and_false]))
                          clear hnm hsv HS2
                          go_wp2_with fail
                          go_roundw
                          case rel => exact ⟨j + 1, by omega, by go_num, HN2, HB7⟩
                          case measure => simp [intOf]; omega
                      · have t0 : (rnm.toList == yru.toList) = false := bytes_ne hnm
                        have HN2 := Lib.hid (HS2.out (by show (decide (rnm = yru) && decide (rsv = s)) = false; rw [decide_eq_false hnm, Bool.false_and]))
                        clear hnm HS2
                        go_wp2_with fail
                        go_roundw
                        case rel => exact ⟨j + 1, by omega, by go_num, HN2, HB7⟩
                        case measure => simp [intOf]; omega
                    · have HN3 := Lib.hid (HSTEP.out (HBE.out hr1 hr2 (any_upto (bdR yru s) b.rules j (by omega) HNO2.out)))
                      have HB8 := Lib.hid (HB6.out.trans (HBR2.out.mono HB6.out.size))
                      clear hr1 hr2
                      go_wp2_with fail
                      go_roundw
                      case rel => exact ⟨k + 1, by omega, by go_num, HN3, HB8⟩
                      case measure => simp [intOf]; omega
              · have b0 : yru.toList.isEmpty = false := by
                  rw [ByteArray.toList_eq]
                  cases e : yru.data.toList with
                  | nil => exact absurd e hru
                  | cons c r => rfl
                clear hru
                clear HSTEP
                go_wp2_with fail
                go_ret
                exact ⟨rfl, HBW6.out⟩
    · exfalso
      have h1 := any_upto (bdE b.rules ⟨xo, xs, xn⟩) z.eras k (by omega) HNO.out
      rw [HANY.out] at h1
      cases h1
end Go.Proofs.YthggojpdcgcmaaaDoor
