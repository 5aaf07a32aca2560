/- BookTwice: the walk. -/
import Derived.Test.YtmhfhmhjaecoaaaGreatDoorQ14
namespace Go.Proofs.YtmhfhmhjaecoaaaGreatDoor
open Go.RowKit Go.Joins
open Classical
set_option linter.unusedVariables false
set_option linter.unusedSimpArgs false

theorem box_atT {w W : World} {cs : Array Value} {T : TypeId} (e : w.alloc (.cells cs T) = W) {b : Nat} (hb : w.heap.size = b) : W.heap[b]? = some (.cells cs T (0, 0)) ∧ Below b w W ∧ b < W.heap.size := by
  subst hb; subst e
  exact ⟨heap_alloc_new w _, (Below.refl _ _).alloc (Nat.le_refl _) _, by simp⟩
structure BxT (W : World) (b : Nat) (x y z : Value) : Prop where
  h : W.heap[b]? = some (.cells #[x, y, z] 31 (0, 0))
theorem BxT.cells {W : World} {b : Nat} {x y z : Value} (h : BxT W b x y z) : W.cell? ⟨b, 0, none⟩ = some x ∧ W.cell? ⟨b, 1, none⟩ = some y ∧ W.cell? ⟨b, 2, none⟩ = some z :=
  ⟨(cell_of_row W _ 0 _ _ _ h.h).trans rfl, (cell_of_row W _ 1 _ _ _ h.h).trans rfl, (cell_of_row W _ 2 _ _ _ h.h).trans rfl⟩
/-- the world of a region that stores into one block of three cells and makes rows of its own -/
structure TwInv (W : World) (cb : Nat) (wx : World) : Prop where
  b : Below cb W wx
  z : W.heap.size ≤ wx.heap.size
  c : ∃ x y z, wx.heap[cb]? = some (.cells #[x, y, z] 31 (0, 0))
  k : ∀ b, b < W.heap.size → b ≠ cb → wx.heap[b]? = W.heap[b]?
  lt : cb < W.heap.size
section
variable {W wx wy : World} {cb : Nat}
theorem TwInv.start {x y z : Value} (h : W.heap[cb]? = some (.cells #[x, y, z] 31 (0, 0))) : TwInv W cb W.drew :=
  ⟨(Below.refl _ _).drew, Nat.le_refl _, ⟨x, y, z, h⟩, fun _ _ _ => rfl, (Array.getElem?_eq_some_iff.mp h).1⟩
theorem TwInv.alloc (h : TwInv W cb wx) (o : Obj) : TwInv W cb (wx.alloc o) := by
  have hl := h.lt
  have hz := h.z
  obtain ⟨x, y, z, hc⟩ := h.c
  exact ⟨h.b.alloc (by omega) _, by simp; omega, ⟨x, y, z, (Below.heap_alloc _ _ _ (by omega)).trans hc⟩, fun b hb hn => (Below.heap_alloc _ _ _ (by omega)).trans (h.k b hb hn), hl⟩
theorem TwInv.drewD (h : TwInv W cb wx) : TwInv W cb wx.drew := ⟨h.b.drew, h.z, h.c, h.k, h.lt⟩
theorem TwInv.grown (h : TwInv W cb wx) {row : Option Nat} (hg : wx.grownBy wy row) (hr : ∀ q, row = some q → W.heap.size ≤ q) : TwInv W cb wy := by
  have hl := h.lt
  have hz := h.z
  obtain ⟨x, y, z, hc⟩ := h.c
  refine ⟨h.b.grown hg (by omega) (fun q e => by have := hr q e; omega), Nat.le_trans hz hg.size, ⟨x, y, z, (hg.block cb (by omega) (fun e => ?_)).trans hc⟩, fun b hb hn => (hg.block b (by omega) (fun e => ?_)).trans (h.k b hb hn), hl⟩
  · have := hr cb e.symm; omega
  · have := hr b e.symm; omega
theorem TwInv.set (h : TwInv W cb wx) (i : Nat) (v : Value) (hi : i = 1 ∨ i = 2) : TwInv W cb (wx.setCell ⟨cb, i, none⟩ v) := by
  obtain ⟨x, y, z, hc⟩ := h.c
  refine ⟨h.b.setCell (Nat.le_refl _) _, ?_, ?_, fun b hb hn => (Below.heap_setCell _ _ _ _ hn).trans (h.k b hb hn), h.lt⟩
  · have := (h.b.setCell (p := ⟨cb, i, none⟩) (Nat.le_refl cb) v).size; exact this
  · rcases hi with rfl | rfl
    · exact ⟨x, v, z, by rw [heap_setCell_same wx cb 1 _ _ _ hc]; rfl⟩
    · exact ⟨x, y, v, by rw [heap_setCell_same wx cb 2 _ _ _ hc]; rfl⟩
end
theorem flat_lenT {α : Type} {cells : α → List Value} {k : Nat} (hk : ∀ x, (cells x).length = k) : ∀ l : List α, (l.flatMap cells).length = l.length * k
  | [] => by simp
  | x :: r => by rw [List.flatMap_cons, List.length_append, flat_lenT hk r, hk, List.length_cons, Nat.succ_mul]; omega
/-- all cells of a row -/
theorem rows_allT {α : Type} {cells : α → List Value} {k : Nat} (hk : ∀ x, (cells x).length = k) (hk0 : 0 < k) {W : World} {bb o : Nat} {l : List α} (h : ∀ i (hi : i < l.length) (j : Nat) (u : Value), (cells l[i])[j]? = some u → W.cell? ⟨bb, o + i * k + j, none⟩ = some u) :
    ∀ j u, (l.flatMap cells)[j]? = some u → W.cell? ((⟨bb, o, none⟩ : Addr).add j) = some u := by
  intro j u hu
  have hj := (List.getElem?_eq_some_iff.1 hu).1
  rw [flat_lenT hk] at hj
  have hq : j / k < l.length := (Nat.div_lt_iff_lt_mul hk0).2 hj
  have e := flat_get (cells := cells) hk l (j / k) hq (j % k) (Nat.mod_lt _ hk0)
  have hjd : j / k * k + j % k = j := Nat.div_add_mod' j k
  rw [hjd] at e
  rw [e] at hu
  have hc := h (j / k) hq (j % k) u hu
  rw [Nat.add_assoc, hjd] at hc
  rw [show ((⟨bb, o, none⟩ : Addr).add j) = ⟨bb, o + j, none⟩ from by unfold Addr.add; split <;> simp_all]
  exact hc
theorem zo_one {zs : List Zo} (h : ∀ z ∈ zs, ∃ p n c, z.ev = .slice p n c) : ∀ u ∈ zs.flatMap zoCells, u.oneCell' = true := by
  intro u hu
  obtain ⟨z, hz, hu⟩ := List.mem_flatMap.1 hu
  obtain ⟨p, n, c, e⟩ := h z hz
  simp [zoCells, e] at hu
  rcases hu with rfl | rfl <;> rfl
theorem lk_one (ls : List Lk) : ∀ u ∈ ls.flatMap lkCells, u.oneCell' = true := by
  intro u hu
  obtain ⟨z, hz, hu⟩ := List.mem_flatMap.1 hu
  simp [lkCells] at hu
  rcases hu with rfl | rfl <;> rfl
set_option maxRecDepth 100000 in
set_option maxHeartbeats 20000000 in
theorem BookTwice_walk (b : Bk) (rv zv lv : Value) (k0 : Int) (w : World) (hB : BookAt w.heap.size w rv zv lv b) (ht : Tab10 w) (ha : AscTab w) (hn : NumErrs w) (hm : MaxLen w) :
    Calls Tryz.prog 6 #[.agg #[rv, zv, lv], .int .i64 k0] w fun e w' => e = .returned (.bool true) ∧ Below w.heap.size w w' := by
  have hr := hB.r
  have hz := hB.z
  have hl := hB.l
  obtain ⟨p1, c1, rfl, hlen1, hrow1⟩ := hr
  obtain ⟨p2, c2, rfl, hlen2, hrow2⟩ := hz
  obtain ⟨p3, c3, rfl, hlen3, hrow3⟩ := hl
  obtain ⟨W0, eW⟩ : ∃ W0, w.alloc (.cells #[.slice p1 b.rules.length c1, .slice p2 b.zones.length c2, .slice p3 b.links.length c3] 31) = W0 := ⟨_, rfl⟩
  obtain ⟨b0, eb0⟩ : ∃ b0, w.heap.size = b0 := ⟨_, rfl⟩
  obtain ⟨hbx, hb0, hl0⟩ := box_atT eW eb0
  have hb0' : Below w.heap.size w W0 := by rw [eb0]; exact hb0
  have HTU := Lib.hid (booked_any W0 (ht.below hb0') (ha.below hb0') (hn.below hb0') (hm.below hb0'))
  have HEW := Lib.hid eW
  have HEB := Lib.hid eb0
  have HBK : Hid (∀ W, Below b0 w W → BookAt W.heap.size W (.slice p1 b.rules.length c1) (.slice p2 b.zones.length c2) (.slice p3 b.links.length c3) b) := by
    show ∀ W, _
    intro W hb
    have hb' : Below w.heap.size w W := by rw [eb0]; exact hb
    exact (hB.below hb' (Nat.le_refl _)).baseN hb'.size
  have HTM : Hid (∀ W, Below b0 w W → MaxLen W ∧ Tab10 W) := by
    show ∀ W, _
    intro W hb
    have hb' : Below w.heap.size w W := by rw [eb0]; exact hb
    exact ⟨hm.below hb', ht.below hb'⟩
  have HBX : Hid (∀ W, Below (b0 + 1) W0 W → W.cell? ⟨b0, 0, none⟩ = some (.slice p1 b.rules.length c1) ∧ W.cell? ⟨b0, 1, none⟩ = some (.slice p2 b.zones.length c2) ∧ W.cell? ⟨b0, 2, none⟩ = some (.slice p3 b.links.length c3)) := by
    show ∀ W, _
    intro W hb
    have hx := (hb.block b0 (Nat.lt_succ_self _)).trans hbx
    exact ⟨(cell_of_row W _ 0 _ _ _ hx).trans rfl, (cell_of_row W _ 1 _ _ _ hx).trans rfl, (cell_of_row W _ 2 _ _ _ hx).trans rfl⟩
  have HB0 := Lib.hid hb0
  have HZROW := Lib.hid hrow2
  have HLROW := Lib.hid hrow3
  have HSZ : Hid ((∀ r ∈ b.rules, SzR r) ∧ (∀ z ∈ b.zones, z.nm.size ≤ 140737488351232 ∧ ∀ x ∈ z.eras, SzE x) ∧ ∀ x ∈ b.links, x.nm.size ≤ 140737488351232 ∧ x.tg.size ≤ 140737488351232) := ⟨hB.rs, hB.zs, hB.ls⟩
  clear eW hb0 hb0' hbx hB ht ha hn hm hrow1 hrow2 hrow3 eb0 hlen1 hlen2 hlen3
  go_enter Tryz.func6, Tryz.ntmps6
  go_upto_region 1 with fail
  rw [HEW.out, HEB.out]
  go_wp2_with fail
  refine HTU.out.mono ?_
  rintro e w1 ⟨rfl, hb1⟩
  have HA1 := Lib.hid (hb1.mono (show b0 + 1 ≤ W0.heap.size from hl0))
  have hl1 : b0 < w1.heap.size := by have := hb1.size; omega
  have HB1 := Lib.hid (HB0.out.trans (HA1.out.mono (Nat.le_succ _)))
  obtain ⟨g0, g1, g2⟩ := HBX.out w1 HA1.out
  have HCK := Lib.hid (bkCheck_any b _ _ _ w1 (HBK.out w1 HB1.out) (HTM.out w1 HB1.out).1 (HTM.out w1 HB1.out).2)
  clear hb1 HTU
  go_upto_region 3 with fail
  go_cut [29] from 9 to 28 (fun s29 wx => s29 = .bool (decide (bkChk b ≠ 0 ∨ b.zones.length = 0 ∨ 19 < b.zones.length ∨ 19 < b.links.length)) ∧ Hid (Below w1.heap.size w1 wx))
  case first =>
    obtain ⟨C, eC⟩ : ∃ C, bkChk b = C := ⟨_, rfl⟩
    have HDX : Hid (∀ P : Bool, ((C ≠ 0 ∨ b.zones.length = 0 ∨ 19 < b.zones.length ∨ 19 < b.links.length) ↔ P = true) → decide (bkChk b ≠ 0 ∨ b.zones.length = 0 ∨ 19 < b.zones.length ∨ 19 < b.links.length) = P) := by
      show ∀ P, _
      intro P h
      rw [← eC] at h
      cases P with
      | true => exact decide_eq_true (h.2 rfl)
      | false => exact decide_eq_false (fun g => by have := h.1 g; cases this)
    rw [eC] at HCK
    clear eC
    go_wp2_with fail
    refine HCK.out.mono ?_
    rintro e w2 ⟨rfl, hb2⟩
    have HB2 := Lib.hid hb2
    obtain ⟨x0, x1, x2⟩ := HBX.out w2 (HA1.out.trans (hb2.mono hl1))
    clear hb2 g0 g1 g2
    by_cases hC : C = 0
    · subst hC
      by_cases h0 : b.zones.length = 0
      · have h0b : ((b.zones.length : Int) == 0) = true := by rw [h0]; rfl
        have HD := Lib.hid (HDX.out true ⟨fun _ => rfl, fun _ => Or.inr (Or.inl h0)⟩)
        clear h0
        go_wp2_with fail
        go_meet
        exact ⟨congrArg Value.bool HD.out.symm, HB2⟩
      · have h0b : ((b.zones.length : Int) == 0) = false := by simpa using h0
        by_cases h1 : 19 < b.zones.length
        · have h1b : (19 : Int) < (b.zones.length : Int) := by omega
          have HD := Lib.hid (HDX.out true ⟨fun _ => rfl, fun _ => Or.inr (Or.inr (Or.inl h1))⟩)
          go_wp2_with fail
          go_meet
          exact ⟨congrArg Value.bool HD.out.symm, HB2⟩
        · have h1b : ¬ (19 : Int) < (b.zones.length : Int) := by omega
          by_cases h2 : 19 < b.links.length
          · have h2b : (19 : Int) < (b.links.length : Int) := by omega
            have HD := Lib.hid (HDX.out true ⟨fun _ => rfl, fun _ => Or.inr (Or.inr (Or.inr h2))⟩)
            go_wp2_with fail
            go_meet
            exact ⟨congrArg Value.bool HD.out.symm, HB2⟩
          · have h2b : ¬ (19 : Int) < (b.links.length : Int) := by omega
            have HD := Lib.hid (HDX.out false ⟨fun g => by omega, fun g => by cases g⟩)
            go_wp2_with fail
            go_meet
            first | exact ⟨congrArg Value.bool HD.out.symm, HB2⟩ | exact ⟨(by rw [HD.out]; simp; omega), HB2⟩
    · have hz : (C == 0) = false := by simpa using hC
      have hzn : (C != 0) = true := by simpa using hC
      have hz2 : (!C == 0) = true := by rw [hz]; rfl
      have HD := Lib.hid (HDX.out true ⟨fun _ => rfl, fun _ => Or.inl hC⟩)
      clear hC
      go_wp2_with fail
      go_meet
      exact ⟨congrArg Value.bool HD.out.symm, HB2⟩
  case rest =>
  obtain ⟨rfl, HB2⟩ := hcut
  obtain ⟨w2, ew2⟩ : ∃ w2, wc = w2 := ⟨_, rfl⟩
  rw [ew2] at HB2 ⊢
  have HA2 := Lib.hid (HA1.out.trans (HB2.out.mono hl1))
  have HW2 := Lib.hid (HB0.out.trans (HA2.out.mono (Nat.le_succ _)))
  have hl2 : b0 < w2.heap.size := by have := HB2.out.size; omega
  clear ew2 wc g0 g1 g2 HCK HA1 HB1 HB2 hl1
  by_cases hcd : bkChk b ≠ 0 ∨ b.zones.length = 0 ∨ 19 < b.zones.length ∨ 19 < b.links.length
  case pos =>
    rw [decide_eq_true hcd]
    have hfin := HW2.out
    rw [← HEB.out] at hfin
    go_wp2_with fail
    go_ret
    exact ⟨rfl, hfin⟩
  rw [decide_eq_false hcd]
  have hchk : bkChk b = 0 := by apply Classical.byContradiction; intro h; exact hcd (.inl h)
  have hn0 : 0 < b.zones.length := by omega
  have hn19 : b.zones.length ≤ 19 := by omega
  have hl19 : b.links.length ≤ 19 := by omega
  have hr0 := Int.emod_nonneg k0 (show (b.zones.length : Int) ≠ 0 by omega)
  have hr1 := Int.emod_lt_of_pos k0 (show (0 : Int) < (b.zones.length : Int) by omega)
  obtain ⟨k, ek⟩ : ∃ k : Nat, k0 % (b.zones.length : Int) = (k : Int) := ⟨(k0 % (b.zones.length : Int)).toNat, (Int.toNat_of_nonneg hr0).symm⟩
  have hkl : k < b.zones.length := by omega
  have HRE1 := Lib.hid (fun W => Rest0_any k0 b.zones.length W (by omega) (by omega))
  rw [ek] at HRE1
  obtain ⟨bb, o, rfl, hbl, hcs⟩ := HZROW.out (List.ne_nil_of_length_pos (by omega))
  have hck := hcs k hkl
  have HT1 := Lib.hid (twice_zone hchk hn19 (List.getElem_mem hkl))
  have HT2 := Lib.hid (twice_link hchk hl19 (List.getElem_mem hkl))
  have hszk := HSZ.out.2.1 b.zones[k] (List.getElem_mem hkl)
  have HEK := Lib.hid (fun W hb => (HBK.out W hb).e b.zones[k] (List.getElem_mem hkl))
  obtain ⟨q, eq⟩ : ∃ q, b.zones[k] = q := ⟨_, rfl⟩
  rw [eq] at hck HT1 HT2 hszk HEK
  have hbl0 : bb < b0 := by rw [← HEB.out]; exact hbl
  have HCS : Hid (∀ W : World, Below b0 w W → ∀ i (hi : i < b.zones.length) (j : Nat) (u : Value), (zoCells b.zones[i])[j]? = some u → W.cell? ⟨bb, o + i * 2 + j, none⟩ = some u) := by
    show ∀ W, _
    intro W hb i hi j u hu
    exact (hb.cell (p := ⟨bb, o + i * 2 + j, none⟩) hbl0).trans (hcs i hi j u hu)
  obtain ⟨nm, ev, ers⟩ := q
  simp only at HT1 HT2 hszk HEK
  obtain ⟨pe, ce, hev, -, -⟩ := HEK.out w2 HW2.out
  subst hev
  have HQ : Hid (∀ W : World, Below b0 w W → W.cell? ⟨bb, o + k * 2, none⟩ = some (.string nm) ∧ W.cell? ⟨bb, o + k * 2 + 1, none⟩ = some (.slice pe ers.length ce)) := by
    show ∀ W, _
    intro W hb
    have h0 := (hb.cell (p := ⟨bb, o + k * 2 + 0, none⟩) hbl0).trans (hck 0 _ rfl)
    have h1 := (hb.cell (p := ⟨bb, o + k * 2 + 1, none⟩) hbl0).trans (hck 1 _ rfl)
    rw [Nat.add_zero] at h0
    exact ⟨h0, h1⟩
  have hkz : (k : Int) < (b.zones.length : Int) := by omega
  have hkp : (0 : Int) ≤ (k : Int) := by omega
  have HSK := Lib.hid hszk
  clear hcs HZROW hcd ek hr0 hr1 hchk hck hszk eq
  obtain ⟨g0, g1, g2⟩ := HBX.out w2 HA2.out
  go_wp2_with fail
  refine (HRE1.out w2).mono ?_
  rintro e w' ⟨rfl, rfl⟩
  go_upto_region 6 with fail
  have H2B : Hid (∀ W3 : World, W3 = ((w2.alloc (.cells #[.slice p1 b.rules.length c1, .slice (some ⟨bb, o, none⟩) b.zones.length c2, .slice p3 b.links.length c3] 31)).alloc (.cells #[.slice p1 b.rules.length c1, .slice (some ⟨bb, o, none⟩) b.zones.length c2, .slice p3 b.links.length c3] 31)).drew →
      W3.heap[w2.heap.size]? = some (.cells #[.slice p1 b.rules.length c1, .slice (some ⟨bb, o, none⟩) b.zones.length c2, .slice p3 b.links.length c3] 31 (0, 0)) ∧ W3.heap[w2.heap.size + 1]? = some (.cells #[.slice p1 b.rules.length c1, .slice (some ⟨bb, o, none⟩) b.zones.length c2, .slice p3 b.links.length c3] 31 (0, 0)) ∧ Below w2.heap.size w2 W3) := by
    show ∀ W3, _
    intro W3 e3
    rw [e3]
    exact ⟨(Below.heap_alloc _ _ _ (by simp)).trans (heap_alloc_new w2 _), alloc_at _ _ _ (by simp), (((Below.refl _ _).alloc (Nat.le_refl _) _).alloc (by simp) _).drew⟩
  go_cut [5, 6] from 35 to 36 (fun s5 s6 wx => ∃ b5 b6 : Nat, s5 = .pointer (some ⟨b5, 0, none⟩) ∧ s6 = .pointer (some ⟨b6, 0, none⟩) ∧ b0 < b5 ∧ b0 < b6 ∧ b5 ≠ b6 ∧ Hid (wx.heap[b5]? = some (.cells #[.slice p1 b.rules.length c1, .slice (some ⟨bb, o, none⟩) b.zones.length c2, .slice p3 b.links.length c3] 31 (0, 0)) ∧ wx.heap[b6]? = some (.cells #[.slice p1 b.rules.length c1, .slice (some ⟨bb, o, none⟩) b.zones.length c2, .slice p3 b.links.length c3] 31 (0, 0)) ∧ Below w2.heap.size w2 wx))
  case first =>
    go_region_held3 (fun wx => wx.cell? ⟨b0, 0, none⟩ = some (.slice p1 b.rules.length c1) ∧ wx.cell? ⟨b0, 1, none⟩ = some (.slice (some ⟨bb, o, none⟩) b.zones.length c2) ∧ wx.cell? ⟨b0, 2, none⟩ = some (.slice p3 b.links.length c3)) (go_keep) (fail)
    all_goals go_wp2_with fail
    all_goals go_meet
    all_goals
      have h2b := H2B.out _ rfl
      first
        | exact ⟨_, _, rfl, rfl, hl2, by omega, by omega, Lib.hid ⟨h2b.1, h2b.2.1, h2b.2.2⟩⟩
        | exact ⟨_, _, rfl, rfl, by omega, hl2, by omega, Lib.hid ⟨h2b.2.1, h2b.1, h2b.2.2⟩⟩
  case rest =>
  obtain ⟨b5, b6, rfl, rfl, h05, h06, h56, HX3⟩ := hcut
  obtain ⟨W3, eW3⟩ : ∃ W3, wc = W3 := ⟨_, rfl⟩
  rw [eW3] at HX3 ⊢
  clear eW3 wc H2B
  obtain ⟨hx5, hx6, hb3⟩ := HX3.out
  have HX6 := Lib.hid hx6
  have HXCb5 := Lib.hid hx5
  have HA3 := Lib.hid (HA2.out.trans (hb3.mono (show b0 + 1 ≤ w2.heap.size by omega)))
  have h6w : b6 < W3.heap.size := (Array.getElem?_eq_some_iff.mp hx6).1
  have h5w : b5 < W3.heap.size := (Array.getElem?_eq_some_iff.mp hx5).1
  clear hx5 hx6 hb3 HX3 g0 g1 g2
  go_upto_region 7 with fail
  go_cut [] from 37 to 47 (fun wx => ∃ v3, Hid (wx.ownsRow W3.heap.size 50 2 v3 (b.zones.length + 1) (b.zones.flatMap zoCells ++ [.string nm, .slice pe ers.length ce])) ∧ Hid (wx.heap[b5]? = some (.cells #[.slice p1 b.rules.length c1, v3, .slice p3 b.links.length c3] 31 (0, 0))) ∧ Hid ((∀ b, b < W3.heap.size → b ≠ b5 → wx.heap[b]? = W3.heap[b]?) ∧ Below b5 W3 wx ∧ W3.heap.size ≤ wx.heap.size))
  case first =>
    obtain ⟨i1, hi1, hz10, hz11, hz12⟩ := info_parts infoZoT
    have HL1 : Hid ((b.zones.flatMap zoCells).length = b.zones.length * 2) := flat_lenT (cells := zoCells) (k := 2) (fun _ => rfl) b.zones
    have HO1 := Lib.hid (zo_one fun z hz => by obtain ⟨p, c, e, -, -⟩ := (HBK.out w2 HW2.out).e z hz; exact ⟨p, _, c, e⟩)
    have HO2 : Hid (∀ u ∈ ([.string nm, .slice pe ers.length ce] : List Value), u.oneCell' = true) := by
      show ∀ u ∈ _, _
      intro u hu; simp at hu; rcases hu with rfl | rfl <;> rfl
    have hm1a : b.zones.length ≤ maxLen := by simp only [maxLen]; omega
    have hm1b : b.zones.length * 40 ≤ 140737488355328 := by omega
    have hm2a : b.zones.length + 1 ≤ maxLen := by simp only [maxLen]; omega
    have hm2b : (b.zones.length + 1) * 40 ≤ 140737488355328 := by omega
    have KN1 : Hid (∀ wx, TwInv W3 b5 wx → b.zones.length = 0 ∨ ∃ ad, some (⟨bb, o, none⟩ : Addr) = some ad ∧ ∀ j u, (b.zones.flatMap zoCells)[j]? = some u → wx.cell? (ad.add j) = some u) := by
      show ∀ wx, _
      intro wx hi
      exact .inr ⟨_, rfl, rows_allT (cells := zoCells) (k := 2) (fun _ => rfl) (by decide) (HCS.out wx (HB0.out.trans ((HA3.out.trans (hi.b.mono (by omega))).mono (Nat.le_succ _))))⟩
    have KS : Hid (∀ wx, TwInv W3 b5 wx → (TwInv W3 b5 wx ∧ wx.cell? ⟨b0, 1, none⟩ = some (.slice (some ⟨bb, o, none⟩) b.zones.length c2) ∧ wx.cell? ⟨bb, o + k * 2, none⟩ = some (.string nm) ∧ wx.cell? ⟨bb, o + k * 2 + 1, none⟩ = some (.slice pe ers.length ce))) := by
      show ∀ wx, _
      intro wx hi
      have hb := HA3.out.trans (hi.b.mono (by omega))
      have hw := HB0.out.trans (hb.mono (Nat.le_succ _))
      exact ⟨hi, (HBX.out wx hb).2.1, (HQ.out wx hw).1, (HQ.out wx hw).2⟩
    have KI : Hid (∀ wx, (TwInv W3 b5 wx ∧ wx.cell? ⟨b0, 1, none⟩ = some (.slice (some ⟨bb, o, none⟩) b.zones.length c2) ∧ wx.cell? ⟨bb, o + k * 2, none⟩ = some (.string nm) ∧ wx.cell? ⟨bb, o + k * 2 + 1, none⟩ = some (.slice pe ers.length ce)) → TwInv W3 b5 wx) := by
      show ∀ wx, _
      intro wx h
      exact h.1
    have KZ : Hid (∀ wx, (TwInv W3 b5 wx ∧ wx.cell? ⟨b0, 1, none⟩ = some (.slice (some ⟨bb, o, none⟩) b.zones.length c2) ∧ wx.cell? ⟨bb, o + k * 2, none⟩ = some (.string nm) ∧ wx.cell? ⟨bb, o + k * 2 + 1, none⟩ = some (.slice pe ers.length ce)) → W3.heap.size ≤ wx.heap.size) := by
      show ∀ wx, _
      intro wx h
      exact h.1.z
    have K0 : Hid (TwInv W3 b5 (World.drew W3) ∧ (World.drew W3).cell? ⟨b0, 1, none⟩ = some (.slice (some ⟨bb, o, none⟩) b.zones.length c2) ∧ (World.drew W3).cell? ⟨bb, o + k * 2, none⟩ = some (.string nm) ∧ (World.drew W3).cell? ⟨bb, o + k * 2 + 1, none⟩ = some (.slice pe ers.length ce)) := by
      show _ ∧ _
      exact KS.out _ (TwInv.start HXCb5.out)
    have K0d : Hid (∀ o' : Obj, (TwInv W3 b5 (World.drew (World.alloc W3 o')) ∧ (World.drew (World.alloc W3 o')).cell? ⟨b0, 1, none⟩ = some (.slice (some ⟨bb, o, none⟩) b.zones.length c2) ∧ (World.drew (World.alloc W3 o')).cell? ⟨bb, o + k * 2, none⟩ = some (.string nm) ∧ (World.drew (World.alloc W3 o')).cell? ⟨bb, o + k * 2 + 1, none⟩ = some (.slice pe ers.length ce))) := by
      show ∀ o' : Obj, _
      intro o'
      have h := (TwInv.start HXCb5.out).alloc o'
      exact KS.out _ ⟨⟨h.b.os, h.b.tape, h.b.output, h.b.size, h.b.block⟩, h.z, h.c, h.k, h.lt⟩
    have K1 : Hid (∀ (wx : World) (o' : Obj), (TwInv W3 b5 wx ∧ wx.cell? ⟨b0, 1, none⟩ = some (.slice (some ⟨bb, o, none⟩) b.zones.length c2) ∧ wx.cell? ⟨bb, o + k * 2, none⟩ = some (.string nm) ∧ wx.cell? ⟨bb, o + k * 2 + 1, none⟩ = some (.slice pe ers.length ce)) → (TwInv W3 b5 (World.alloc wx o') ∧ (World.alloc wx o').cell? ⟨b0, 1, none⟩ = some (.slice (some ⟨bb, o, none⟩) b.zones.length c2) ∧ (World.alloc wx o').cell? ⟨bb, o + k * 2, none⟩ = some (.string nm) ∧ (World.alloc wx o').cell? ⟨bb, o + k * 2 + 1, none⟩ = some (.slice pe ers.length ce))) := by
      show ∀ wx o', _
      intro wx o' h
      exact KS.out _ ((KI.out _ h).alloc o')
    have K2 : Hid (∀ (wx : World) (v : Value), (TwInv W3 b5 wx ∧ wx.cell? ⟨b0, 1, none⟩ = some (.slice (some ⟨bb, o, none⟩) b.zones.length c2) ∧ wx.cell? ⟨bb, o + k * 2, none⟩ = some (.string nm) ∧ wx.cell? ⟨bb, o + k * 2 + 1, none⟩ = some (.slice pe ers.length ce)) → (TwInv W3 b5 (World.setCell wx ⟨b5, 1, none⟩ v) ∧ (World.setCell wx ⟨b5, 1, none⟩ v).cell? ⟨b0, 1, none⟩ = some (.slice (some ⟨bb, o, none⟩) b.zones.length c2) ∧ (World.setCell wx ⟨b5, 1, none⟩ v).cell? ⟨bb, o + k * 2, none⟩ = some (.string nm) ∧ (World.setCell wx ⟨b5, 1, none⟩ v).cell? ⟨bb, o + k * 2 + 1, none⟩ = some (.slice pe ers.length ce))) := by
      show ∀ wx v, _
      intro wx v h
      exact KS.out _ ((KI.out _ h).set 1 v (by omega))
    have K3 : Hid (∀ (wx wy : World) (row : Option Nat), (TwInv W3 b5 wx ∧ wx.cell? ⟨b0, 1, none⟩ = some (.slice (some ⟨bb, o, none⟩) b.zones.length c2) ∧ wx.cell? ⟨bb, o + k * 2, none⟩ = some (.string nm) ∧ wx.cell? ⟨bb, o + k * 2 + 1, none⟩ = some (.slice pe ers.length ce)) → wx.grownBy wy row → (∀ q, row = some q → W3.heap.size ≤ q) → (TwInv W3 b5 wy ∧ wy.cell? ⟨b0, 1, none⟩ = some (.slice (some ⟨bb, o, none⟩) b.zones.length c2) ∧ wy.cell? ⟨bb, o + k * 2, none⟩ = some (.string nm) ∧ wy.cell? ⟨bb, o + k * 2 + 1, none⟩ = some (.slice pe ers.length ce))) := by
      show ∀ wx wy row, _
      intro wx wy row h hg hr
      exact KS.out _ ((KI.out _ h).grown hg hr)
    have KO : Hid (∀ (wx : World) (v : Value) (c : Nat) (xs : List Value), wx.ownsRow W3.heap.size 50 2 v c xs → ∀ q, v.ownBlock = some q → W3.heap.size ≤ q) := by
      show ∀ wx v c xs, _
      intro wx v c xs h q e
      exact (World.ownsRow.lt h q e).1
    have KF : Hid (∀ wx, (TwInv W3 b5 wx ∧ wx.cell? ⟨b0, 1, none⟩ = some (.slice (some ⟨bb, o, none⟩) b.zones.length c2) ∧ wx.cell? ⟨bb, o + k * 2, none⟩ = some (.string nm) ∧ wx.cell? ⟨bb, o + k * 2 + 1, none⟩ = some (.slice pe ers.length ce)) → wx.frozen? ⟨b5, 1, none⟩ = false) := by
      show ∀ wx, _
      intro wx h
      obtain ⟨x, y, z, hc⟩ := h.1.c
      simp [World.frozen?, hc]
    have KC : Hid (∀ wx, (TwInv W3 b5 wx ∧ wx.cell? ⟨b0, 1, none⟩ = some (.slice (some ⟨bb, o, none⟩) b.zones.length c2) ∧ wx.cell? ⟨bb, o + k * 2, none⟩ = some (.string nm) ∧ wx.cell? ⟨bb, o + k * 2 + 1, none⟩ = some (.slice pe ers.length ce)) → ∃ x, wx.cell? ⟨b5, 1, none⟩ = some x) := by
      show ∀ wx, _
      intro wx h
      obtain ⟨x, y, z, hc⟩ := h.1.c
      exact ⟨_, (cell_of_row wx _ 1 _ _ _ hc).trans rfl⟩
    have KFIN : Hid (∀ (w3 : World) (v3 : Value), (TwInv W3 b5 w3 ∧ w3.cell? ⟨b0, 1, none⟩ = some (.slice (some ⟨bb, o, none⟩) b.zones.length c2) ∧ w3.cell? ⟨bb, o + k * 2, none⟩ = some (.string nm) ∧ w3.cell? ⟨bb, o + k * 2 + 1, none⟩ = some (.slice pe ers.length ce)) → w3.heap[b5]? = W3.heap[b5]? → w3.ownsRow W3.heap.size 50 2 v3 (b.zones.length + 1) (b.zones.flatMap zoCells ++ [.string nm, .slice pe ers.length ce]) → (w3.setCell ⟨b5, 1, none⟩ v3).ownsRow W3.heap.size 50 2 v3 (b.zones.length + 1) (b.zones.flatMap zoCells ++ [.string nm, .slice pe ers.length ce]) ∧ (w3.setCell ⟨b5, 1, none⟩ v3).heap[b5]? = some (.cells #[.slice p1 b.rules.length c1, v3, .slice p3 b.links.length c3] 31 (0, 0)) ∧ ((∀ b, b < W3.heap.size → b ≠ b5 → (w3.setCell ⟨b5, 1, none⟩ v3).heap[b]? = W3.heap[b]?) ∧ Below b5 W3 (w3.setCell ⟨b5, 1, none⟩ v3) ∧ W3.heap.size ≤ (w3.setCell ⟨b5, 1, none⟩ v3).heap.size)) := by
      show ∀ w3 v3, _
      intro w3 v3 h hcb hown
      have hc := hcb.trans HXCb5.out
      have hs := (h.1).set 1 v3 (by omega)
      refine ⟨own_keep hown fun g e => Below.heap_setCell _ _ _ _ (fun e2 => ?_), ?_, hs.k, hs.b, hs.z⟩
      · have h1 := (World.ownsRow.lt hown g e).1
        have h2 := h.1.lt
        have e2 : g = b5 := e2
        omega
      · rw [heap_setCell_same w3 b5 1 _ _ _ hc]; rfl
    go_region_held3 (fun wx => (TwInv W3 b5 wx ∧ wx.cell? ⟨b0, 1, none⟩ = some (.slice (some ⟨bb, o, none⟩) b.zones.length c2) ∧ wx.cell? ⟨bb, o + k * 2, none⟩ = some (.string nm) ∧ wx.cell? ⟨bb, o + k * 2 + 1, none⟩ = some (.slice pe ers.length ce))) (first | (with_reducible exact K0.out) | (with_reducible exact K0d.out _) | (with_reducible assumption) | (with_reducible exact K1.out _ _ (by assumption)) | (with_reducible exact K2.out _ _ (by assumption))) (first | (refine step_append_rowT _ (by rfl) _ _ _ (by rfl) W3.heap.size 50 i1 (.agg #[.string ⟨#[]⟩, .slice none 0 0]) 2 40 undZoT hi1 hz10 hz11 hz12 rfl (by decide) (by rfl) (some ⟨bb, o, none⟩) b.zones.length c2 (b.zones.flatMap zoCells) (by rfl) HL1.out (KN1.out _ (KI.out _ (by assumption))) HO1.out hm1a hm1b (KZ.out _ (by assumption)) ?_; intro v1 w1x hown1 hg1; have hs1 := K3.out _ _ _ (by assumption) hg1 (fun q e => by cases e); have HOW1 := Lib.hid hown1; clear hown1; have hnb := World.news_of_block ((hg1.block W3.heap.size (by simp) (fun e => by cases e)).trans (heap_alloc_new W3 (.cells #[.string nm, .slice pe ers.length ce] 50))); have HNB := Lib.hid hnb; clear hnb) | (refine step_append_rowT _ (by rfl) _ _ _ (by rfl) W3.heap.size 50 i1 (.agg #[.string ⟨#[]⟩, .slice none 0 0]) 2 40 undZoT hi1 hz10 hz11 hz12 rfl (by decide) (by rfl) (some ⟨bb, o, none⟩) b.zones.length c2 (b.zones.flatMap zoCells) (by rfl) HL1.out (KN1.out _ (KI.out _ (by assumption))) HO1.out hm1a hm1b (KZ.out _ (by assumption)) ?_; intro v1 w1x hown1 hg1; have hs1 := K3.out _ _ _ (by assumption) hg1 (fun q e => by cases e); have HOW1 := Lib.hid hown1; clear hown1) | (refine step_append_ownA _ (by rfl) _ _ _ (by rfl) W3.heap.size 50 i1 (.agg #[.string ⟨#[]⟩, .slice none 0 0]) 2 40 undZoT hi1 hz10 hz11 hz12 rfl (by decide) v1 b.zones.length (b.zones.flatMap zoCells) (by rfl) (HOW1.out) ⟨W3.heap.size, 0, none⟩ 1 1 [.string nm, .slice pe ers.length ce] (by rfl) (by rfl) (HNB.out) HO2.out hm2a hm2b (KZ.out _ (by assumption)) ?_; intro v2 w2x hown2 hg2 _; obtain ⟨A9, c9, rfl⟩ := own_sliceN hown2; have hs2 := K3.out _ _ _ (by assumption) hg2 (KO.out _ _ _ _ HOW1.out); have HOW2 := Lib.hid hown2; have hf2 := KF.out _ hs2; obtain ⟨x3, hc3⟩ := KC.out _ hs2; clear hown2) | (refine step_append_ownA _ (by rfl) _ _ _ (by rfl) W3.heap.size 50 i1 (.agg #[.string ⟨#[]⟩, .slice none 0 0]) 2 40 undZoT hi1 hz10 hz11 hz12 rfl (by decide) v1 b.zones.length (b.zones.flatMap zoCells) (by rfl) (World.ownsRow.alloc HOW1.out _) ⟨w1x.heap.size, 0, none⟩ 1 1 [.string nm, .slice pe ers.length ce] (by rfl) (by rfl) (World.news_of_block (heap_alloc_new w1x (.cells #[.string nm, .slice pe ers.length ce] 50))) HO2.out hm2a hm2b (KZ.out _ (by assumption)) ?_; intro v2 w2x hown2 hg2 _; obtain ⟨A9, c9, rfl⟩ := own_sliceN hown2; have hs2 := K3.out _ _ _ (by assumption) hg2 (KO.out _ _ _ _ HOW1.out); have HOW2 := Lib.hid hown2; have hf2 := KF.out _ hs2; obtain ⟨x3, hc3⟩ := KC.out _ hs2; clear hown2))
    all_goals go_wp2_with fail
    all_goals go_meet
    all_goals
      obtain ⟨f1, f2, f3⟩ := KFIN.out _ _ hs2 (by first | exact ((hg2.block _ (by have := (KI.out _ hs1).lt; have := (KI.out _ hs1).z; omega) (fun e => by have := (World.ownsRow.lt HOW1.out _ e.symm).1; have := (KI.out _ hs1).lt; omega)).trans ((hg1.block _ (by have := (KI.out _ hs1).lt; simp; omega) (fun e => by cases e)).trans (Below.heap_alloc _ _ _ (KI.out _ hs1).lt))) | exact ((hg2.block _ (by have := (KI.out _ hs1).lt; have := (KI.out _ hs1).z; simp; omega) (fun e => by have := (World.ownsRow.lt HOW1.out _ e.symm).1; have := (KI.out _ hs1).lt; omega)).trans ((Below.heap_alloc _ _ _ (by have := (KI.out _ hs1).lt; have := (KI.out _ hs1).z; omega)).trans (hg1.block _ (by have := (KI.out _ hs1).lt; simp; omega) (fun e => by cases e))))) HOW2.out
      exact ⟨_, Lib.hid f1, Lib.hid f2, Lib.hid f3⟩
  case rest =>
  obtain ⟨v3, HOW7, HXC7, HK7⟩ := hcut
  obtain ⟨W4, eW4⟩ : ∃ W4, wc = W4 := ⟨_, rfl⟩
  rw [eW4] at HOW7 HXC7 HK7 ⊢
  clear eW4 wc
  have hz4 : W3.heap.size ≤ W4.heap.size := HK7.out.2.2
  have HA4 := Lib.hid (HA3.out.trans (HK7.out.2.1.mono (show b0 + 1 ≤ b5 by omega)))
  have HXCb6 := Lib.hid ((HK7.out.1 b6 (by omega) (by omega)).trans HX6.out)
  go_upto_region 8 with fail
  go_cut [] from 48 to 66 (fun wx => ∃ v3, Hid (wx.ownsRow W4.heap.size 52 2 v3 (b.links.length + 1) (b.links.flatMap lkCells ++ [.string nm, .string nm])) ∧ Hid (wx.heap[b6]? = some (.cells #[.slice p1 b.rules.length c1, .slice (some ⟨bb, o, none⟩) b.zones.length c2, v3] 31 (0, 0))) ∧ Hid ((∀ b, b < W4.heap.size → b ≠ b6 → wx.heap[b]? = W4.heap[b]?) ∧ Below b6 W4 wx ∧ W4.heap.size ≤ wx.heap.size))
  case first =>
    obtain ⟨i1, hi1, hz10, hz11, hz12⟩ := info_parts infoLkT
    have HL1 : Hid ((b.links.flatMap lkCells).length = b.links.length * 2) := flat_lenT (cells := lkCells) (k := 2) (fun _ => rfl) b.links
    have HO1 := Lib.hid (lk_one b.links)
    have HO2 : Hid (∀ u ∈ ([.string nm, .string nm] : List Value), u.oneCell' = true) := by
      show ∀ u ∈ _, _
      intro u hu; simp at hu; rcases hu with rfl | rfl <;> rfl
    have hm1a : b.links.length ≤ maxLen := by simp only [maxLen]; omega
    have hm1b : b.links.length * 32 ≤ 140737488355328 := by omega
    have hm2a : b.links.length + 1 ≤ maxLen := by simp only [maxLen]; omega
    have hm2b : (b.links.length + 1) * 32 ≤ 140737488355328 := by omega
    have KN1 : Hid (∀ wx, TwInv W4 b6 wx → b.links.length = 0 ∨ ∃ ad, p3 = some ad ∧ ∀ j u, (b.links.flatMap lkCells)[j]? = some u → wx.cell? (ad.add j) = some u) := by
      show ∀ wx, _
      intro wx hi
      by_cases hn : b.links = []
      · exact .inl (by rw [hn]; rfl)
      · obtain ⟨lb, lo, rfl, hlb, hlc⟩ := HLROW.out hn
        refine .inr ⟨_, rfl, rows_allT (cells := lkCells) (k := 2) (fun _ => rfl) (by decide) fun i hi2 j u hu => ?_⟩
        exact ((HB0.out.trans ((HA4.out.trans (hi.b.mono (by omega))).mono (Nat.le_succ _))).cell (p := ⟨lb, lo + i * 2 + j, none⟩) (by rw [← HEB.out]; exact hlb)).trans (hlc i hi2 j u hu)
    have KS : Hid (∀ wx, TwInv W4 b6 wx → (TwInv W4 b6 wx ∧ wx.cell? ⟨b0, 2, none⟩ = some (.slice p3 b.links.length c3) ∧ wx.cell? ⟨b0, 1, none⟩ = some (.slice (some ⟨bb, o, none⟩) b.zones.length c2) ∧ wx.cell? ⟨bb, o + k * 2, none⟩ = some (.string nm))) := by
      show ∀ wx, _
      intro wx hi
      have hb := HA4.out.trans (hi.b.mono (by omega))
      have hw := HB0.out.trans (hb.mono (Nat.le_succ _))
      exact ⟨hi, (HBX.out wx hb).2.2, (HBX.out wx hb).2.1, (HQ.out wx hw).1⟩
    have KI : Hid (∀ wx, (TwInv W4 b6 wx ∧ wx.cell? ⟨b0, 2, none⟩ = some (.slice p3 b.links.length c3) ∧ wx.cell? ⟨b0, 1, none⟩ = some (.slice (some ⟨bb, o, none⟩) b.zones.length c2) ∧ wx.cell? ⟨bb, o + k * 2, none⟩ = some (.string nm)) → TwInv W4 b6 wx) := by
      show ∀ wx, _
      intro wx h
      exact h.1
    have KZ : Hid (∀ wx, (TwInv W4 b6 wx ∧ wx.cell? ⟨b0, 2, none⟩ = some (.slice p3 b.links.length c3) ∧ wx.cell? ⟨b0, 1, none⟩ = some (.slice (some ⟨bb, o, none⟩) b.zones.length c2) ∧ wx.cell? ⟨bb, o + k * 2, none⟩ = some (.string nm)) → W4.heap.size ≤ wx.heap.size) := by
      show ∀ wx, _
      intro wx h
      exact h.1.z
    have K0 : Hid (TwInv W4 b6 (World.drew W4) ∧ (World.drew W4).cell? ⟨b0, 2, none⟩ = some (.slice p3 b.links.length c3) ∧ (World.drew W4).cell? ⟨b0, 1, none⟩ = some (.slice (some ⟨bb, o, none⟩) b.zones.length c2) ∧ (World.drew W4).cell? ⟨bb, o + k * 2, none⟩ = some (.string nm)) := by
      show _ ∧ _
      exact KS.out _ (TwInv.start HXCb6.out)
    have K0d : Hid (∀ o' : Obj, (TwInv W4 b6 (World.drew (World.alloc W4 o')) ∧ (World.drew (World.alloc W4 o')).cell? ⟨b0, 2, none⟩ = some (.slice p3 b.links.length c3) ∧ (World.drew (World.alloc W4 o')).cell? ⟨b0, 1, none⟩ = some (.slice (some ⟨bb, o, none⟩) b.zones.length c2) ∧ (World.drew (World.alloc W4 o')).cell? ⟨bb, o + k * 2, none⟩ = some (.string nm))) := by
      show ∀ o' : Obj, _
      intro o'
      have h := (TwInv.start HXCb6.out).alloc o'
      exact KS.out _ ⟨⟨h.b.os, h.b.tape, h.b.output, h.b.size, h.b.block⟩, h.z, h.c, h.k, h.lt⟩
    have K1 : Hid (∀ (wx : World) (o' : Obj), (TwInv W4 b6 wx ∧ wx.cell? ⟨b0, 2, none⟩ = some (.slice p3 b.links.length c3) ∧ wx.cell? ⟨b0, 1, none⟩ = some (.slice (some ⟨bb, o, none⟩) b.zones.length c2) ∧ wx.cell? ⟨bb, o + k * 2, none⟩ = some (.string nm)) → (TwInv W4 b6 (World.alloc wx o') ∧ (World.alloc wx o').cell? ⟨b0, 2, none⟩ = some (.slice p3 b.links.length c3) ∧ (World.alloc wx o').cell? ⟨b0, 1, none⟩ = some (.slice (some ⟨bb, o, none⟩) b.zones.length c2) ∧ (World.alloc wx o').cell? ⟨bb, o + k * 2, none⟩ = some (.string nm))) := by
      show ∀ wx o', _
      intro wx o' h
      exact KS.out _ ((KI.out _ h).alloc o')
    have K2 : Hid (∀ (wx : World) (v : Value), (TwInv W4 b6 wx ∧ wx.cell? ⟨b0, 2, none⟩ = some (.slice p3 b.links.length c3) ∧ wx.cell? ⟨b0, 1, none⟩ = some (.slice (some ⟨bb, o, none⟩) b.zones.length c2) ∧ wx.cell? ⟨bb, o + k * 2, none⟩ = some (.string nm)) → (TwInv W4 b6 (World.setCell wx ⟨b6, 2, none⟩ v) ∧ (World.setCell wx ⟨b6, 2, none⟩ v).cell? ⟨b0, 2, none⟩ = some (.slice p3 b.links.length c3) ∧ (World.setCell wx ⟨b6, 2, none⟩ v).cell? ⟨b0, 1, none⟩ = some (.slice (some ⟨bb, o, none⟩) b.zones.length c2) ∧ (World.setCell wx ⟨b6, 2, none⟩ v).cell? ⟨bb, o + k * 2, none⟩ = some (.string nm))) := by
      show ∀ wx v, _
      intro wx v h
      exact KS.out _ ((KI.out _ h).set 2 v (by omega))
    have K3 : Hid (∀ (wx wy : World) (row : Option Nat), (TwInv W4 b6 wx ∧ wx.cell? ⟨b0, 2, none⟩ = some (.slice p3 b.links.length c3) ∧ wx.cell? ⟨b0, 1, none⟩ = some (.slice (some ⟨bb, o, none⟩) b.zones.length c2) ∧ wx.cell? ⟨bb, o + k * 2, none⟩ = some (.string nm)) → wx.grownBy wy row → (∀ q, row = some q → W4.heap.size ≤ q) → (TwInv W4 b6 wy ∧ wy.cell? ⟨b0, 2, none⟩ = some (.slice p3 b.links.length c3) ∧ wy.cell? ⟨b0, 1, none⟩ = some (.slice (some ⟨bb, o, none⟩) b.zones.length c2) ∧ wy.cell? ⟨bb, o + k * 2, none⟩ = some (.string nm))) := by
      show ∀ wx wy row, _
      intro wx wy row h hg hr
      exact KS.out _ ((KI.out _ h).grown hg hr)
    have KO : Hid (∀ (wx : World) (v : Value) (c : Nat) (xs : List Value), wx.ownsRow W4.heap.size 52 2 v c xs → ∀ q, v.ownBlock = some q → W4.heap.size ≤ q) := by
      show ∀ wx v c xs, _
      intro wx v c xs h q e
      exact (World.ownsRow.lt h q e).1
    have KF : Hid (∀ wx, (TwInv W4 b6 wx ∧ wx.cell? ⟨b0, 2, none⟩ = some (.slice p3 b.links.length c3) ∧ wx.cell? ⟨b0, 1, none⟩ = some (.slice (some ⟨bb, o, none⟩) b.zones.length c2) ∧ wx.cell? ⟨bb, o + k * 2, none⟩ = some (.string nm)) → wx.frozen? ⟨b6, 2, none⟩ = false) := by
      show ∀ wx, _
      intro wx h
      obtain ⟨x, y, z, hc⟩ := h.1.c
      simp [World.frozen?, hc]
    have KC : Hid (∀ wx, (TwInv W4 b6 wx ∧ wx.cell? ⟨b0, 2, none⟩ = some (.slice p3 b.links.length c3) ∧ wx.cell? ⟨b0, 1, none⟩ = some (.slice (some ⟨bb, o, none⟩) b.zones.length c2) ∧ wx.cell? ⟨bb, o + k * 2, none⟩ = some (.string nm)) → ∃ x, wx.cell? ⟨b6, 2, none⟩ = some x) := by
      show ∀ wx, _
      intro wx h
      obtain ⟨x, y, z, hc⟩ := h.1.c
      exact ⟨_, (cell_of_row wx _ 2 _ _ _ hc).trans rfl⟩
    have KFIN : Hid (∀ (w3 : World) (v3 : Value), (TwInv W4 b6 w3 ∧ w3.cell? ⟨b0, 2, none⟩ = some (.slice p3 b.links.length c3) ∧ w3.cell? ⟨b0, 1, none⟩ = some (.slice (some ⟨bb, o, none⟩) b.zones.length c2) ∧ w3.cell? ⟨bb, o + k * 2, none⟩ = some (.string nm)) → w3.heap[b6]? = W4.heap[b6]? → w3.ownsRow W4.heap.size 52 2 v3 (b.links.length + 1) (b.links.flatMap lkCells ++ [.string nm, .string nm]) → (w3.setCell ⟨b6, 2, none⟩ v3).ownsRow W4.heap.size 52 2 v3 (b.links.length + 1) (b.links.flatMap lkCells ++ [.string nm, .string nm]) ∧ (w3.setCell ⟨b6, 2, none⟩ v3).heap[b6]? = some (.cells #[.slice p1 b.rules.length c1, .slice (some ⟨bb, o, none⟩) b.zones.length c2, v3] 31 (0, 0)) ∧ ((∀ b, b < W4.heap.size → b ≠ b6 → (w3.setCell ⟨b6, 2, none⟩ v3).heap[b]? = W4.heap[b]?) ∧ Below b6 W4 (w3.setCell ⟨b6, 2, none⟩ v3) ∧ W4.heap.size ≤ (w3.setCell ⟨b6, 2, none⟩ v3).heap.size)) := by
      show ∀ w3 v3, _
      intro w3 v3 h hcb hown
      have hc := hcb.trans HXCb6.out
      have hs := (h.1).set 2 v3 (by omega)
      refine ⟨own_keep hown fun g e => Below.heap_setCell _ _ _ _ (fun e2 => ?_), ?_, hs.k, hs.b, hs.z⟩
      · have h1 := (World.ownsRow.lt hown g e).1
        have h2 := h.1.lt
        have e2 : g = b6 := e2
        omega
      · rw [heap_setCell_same w3 b6 2 _ _ _ hc]; rfl
    go_region_held3 (fun wx => (TwInv W4 b6 wx ∧ wx.cell? ⟨b0, 2, none⟩ = some (.slice p3 b.links.length c3) ∧ wx.cell? ⟨b0, 1, none⟩ = some (.slice (some ⟨bb, o, none⟩) b.zones.length c2) ∧ wx.cell? ⟨bb, o + k * 2, none⟩ = some (.string nm))) (first | (with_reducible exact K0.out) | (with_reducible exact K0d.out _) | (with_reducible assumption) | (with_reducible exact K1.out _ _ (by assumption)) | (with_reducible exact K2.out _ _ (by assumption))) (first | (refine step_append_rowT _ (by rfl) _ _ _ (by rfl) W4.heap.size 52 i1 (.agg #[.string ⟨#[]⟩, .string ⟨#[]⟩]) 2 32 undLkT hi1 hz10 hz11 hz12 rfl (by decide) (by rfl) (p3) b.links.length c3 (b.links.flatMap lkCells) (by rfl) HL1.out (KN1.out _ (KI.out _ (by assumption))) HO1.out hm1a hm1b (KZ.out _ (by assumption)) ?_; intro v1 w1x hown1 hg1; have hs1 := K3.out _ _ _ (by assumption) hg1 (fun q e => by cases e); have HOW1 := Lib.hid hown1; clear hown1; have hnb := World.news_of_block ((hg1.block W4.heap.size (by simp) (fun e => by cases e)).trans (heap_alloc_new W4 (.cells #[.string nm, .string nm] 52))); have HNB := Lib.hid hnb; clear hnb) | (refine step_append_rowT _ (by rfl) _ _ _ (by rfl) W4.heap.size 52 i1 (.agg #[.string ⟨#[]⟩, .string ⟨#[]⟩]) 2 32 undLkT hi1 hz10 hz11 hz12 rfl (by decide) (by rfl) (p3) b.links.length c3 (b.links.flatMap lkCells) (by rfl) HL1.out (KN1.out _ (KI.out _ (by assumption))) HO1.out hm1a hm1b (KZ.out _ (by assumption)) ?_; intro v1 w1x hown1 hg1; have hs1 := K3.out _ _ _ (by assumption) hg1 (fun q e => by cases e); have HOW1 := Lib.hid hown1; clear hown1) | (refine step_append_ownA _ (by rfl) _ _ _ (by rfl) W4.heap.size 52 i1 (.agg #[.string ⟨#[]⟩, .string ⟨#[]⟩]) 2 32 undLkT hi1 hz10 hz11 hz12 rfl (by decide) v1 b.links.length (b.links.flatMap lkCells) (by rfl) (HOW1.out) ⟨W4.heap.size, 0, none⟩ 1 1 [.string nm, .string nm] (by rfl) (by rfl) (HNB.out) HO2.out hm2a hm2b (KZ.out _ (by assumption)) ?_; intro v2 w2x hown2 hg2 _; obtain ⟨A9, c9, rfl⟩ := own_sliceN hown2; have hs2 := K3.out _ _ _ (by assumption) hg2 (KO.out _ _ _ _ HOW1.out); have HOW2 := Lib.hid hown2; have hf2 := KF.out _ hs2; obtain ⟨x3, hc3⟩ := KC.out _ hs2; clear hown2) | (refine step_append_ownA _ (by rfl) _ _ _ (by rfl) W4.heap.size 52 i1 (.agg #[.string ⟨#[]⟩, .string ⟨#[]⟩]) 2 32 undLkT hi1 hz10 hz11 hz12 rfl (by decide) v1 b.links.length (b.links.flatMap lkCells) (by rfl) (World.ownsRow.alloc HOW1.out _) ⟨w1x.heap.size, 0, none⟩ 1 1 [.string nm, .string nm] (by rfl) (by rfl) (World.news_of_block (heap_alloc_new w1x (.cells #[.string nm, .string nm] 52))) HO2.out hm2a hm2b (KZ.out _ (by assumption)) ?_; intro v2 w2x hown2 hg2 _; obtain ⟨A9, c9, rfl⟩ := own_sliceN hown2; have hs2 := K3.out _ _ _ (by assumption) hg2 (KO.out _ _ _ _ HOW1.out); have HOW2 := Lib.hid hown2; have hf2 := KF.out _ hs2; obtain ⟨x3, hc3⟩ := KC.out _ hs2; clear hown2))
    all_goals go_wp2_with fail
    all_goals go_meet
    all_goals
      obtain ⟨f1, f2, f3⟩ := KFIN.out _ _ hs2 (by first | exact ((hg2.block _ (by have := (KI.out _ hs1).lt; have := (KI.out _ hs1).z; omega) (fun e => by have := (World.ownsRow.lt HOW1.out _ e.symm).1; have := (KI.out _ hs1).lt; omega)).trans ((hg1.block _ (by have := (KI.out _ hs1).lt; simp; omega) (fun e => by cases e)).trans (Below.heap_alloc _ _ _ (KI.out _ hs1).lt))) | exact ((hg2.block _ (by have := (KI.out _ hs1).lt; have := (KI.out _ hs1).z; simp; omega) (fun e => by have := (World.ownsRow.lt HOW1.out _ e.symm).1; have := (KI.out _ hs1).lt; omega)).trans ((Below.heap_alloc _ _ _ (by have := (KI.out _ hs1).lt; have := (KI.out _ hs1).z; omega)).trans (hg1.block _ (by have := (KI.out _ hs1).lt; simp; omega) (fun e => by cases e))))) HOW2.out
      exact ⟨_, Lib.hid f1, Lib.hid f2, Lib.hid f3⟩
  case rest =>
  obtain ⟨v4, HOW8, HXC8, HK8⟩ := hcut
  obtain ⟨W5, eW5⟩ : ∃ W5, wc = W5 := ⟨_, rfl⟩
  rw [eW5] at HOW8 HXC8 HK8 ⊢
  clear eW5 wc
  have hz5 : W4.heap.size ≤ W5.heap.size := HK8.out.2.2
  have HA5 := Lib.hid (HA4.out.trans (HK8.out.2.1.mono (show b0 + 1 ≤ b6 by omega)))
  have HW5 := Lib.hid (HB0.out.trans (HA5.out.mono (Nat.le_succ _)))
  have hx5 := (HK8.out.1 b5 (by omega) (by omega)).trans HXC7.out
  have hown7 : W5.ownsRow W3.heap.size 50 2 v3 (b.zones.length + 1) (b.zones.flatMap zoCells ++ [.string nm, .slice pe ers.length ce]) := own_keep HOW7.out fun g e => HK8.out.1 g (World.ownsRow.lt HOW7.out g e).2 (by have := (World.ownsRow.lt HOW7.out g e).1; omega)
  obtain ⟨A3, a3, e3v⟩ := own_sliceN hown7
  subst e3v
  obtain ⟨A4, a4, e4v⟩ := own_sliceN HOW8.out
  subst e4v
  have hzr : RowsAt zoCells 2 W5.heap.size W5 (.slice A3 (b.zones.length + 1) a3) (b.zones ++ [⟨nm, .slice pe ers.length ce, ers⟩]) := by
    refine own_rowsG (cells := zoCells) (k := 2) (fun _ => rfl) (B := W3.heap.size) (T := 50) ?_ ?_
    · rw [List.length_append, List.flatMap_append]; exact hown7
    · rw [List.length_append, List.length_singleton]; omega
  have hlr : RowsAt lkCells 2 W5.heap.size W5 (.slice A4 (b.links.length + 1) a4) (b.links ++ [⟨nm, nm⟩]) := by
    refine own_rowsG (cells := lkCells) (k := 2) (fun _ => rfl) (B := W4.heap.size) (T := 52) ?_ ?_
    · rw [List.length_append, List.flatMap_append]; exact HOW8.out
    · rw [List.length_append, List.length_singleton]; omega
  have HBC : Hid (∀ W, Below W5.heap.size W5 W → BookAt W.heap.size W (.slice p1 b.rules.length c1) (.slice A3 (b.zones.length + 1) a3) (.slice p3 b.links.length c3) ⟨b.rules, b.zones ++ [⟨nm, .slice pe ers.length ce, ers⟩], b.links⟩ ∧ BookAt W.heap.size W (.slice p1 b.rules.length c1) (.slice (some ⟨bb, o, none⟩) b.zones.length c2) (.slice A4 (b.links.length + 1) a4) ⟨b.rules, b.zones, b.links ++ [⟨nm, nm⟩]⟩) := by
    show ∀ W, _
    intro W hb
    have hw := HW5.out.trans (hb.mono (by omega))
    have h := HBK.out W hw
    refine ⟨⟨h.r, (hzr.below hb (Nat.le_refl _)).mono hb.size, ?_, h.l, HSZ.out.1, ?_, HSZ.out.2.2⟩, ⟨h.r, h.z, h.e, (hlr.below hb (Nat.le_refl _)).mono hb.size, HSZ.out.1, HSZ.out.2.1, ?_⟩⟩
    · intro z hz
      rcases List.mem_append.1 hz with hz | hz
      · exact h.e z hz
      · rw [List.mem_singleton.1 hz]; exact HEK.out W hw
    · intro z hz
      rcases List.mem_append.1 hz with hz | hz
      · exact HSZ.out.2.1 z hz
      · rw [List.mem_singleton.1 hz]; exact HSK.out
    · intro x hx
      rcases List.mem_append.1 hx with hx | hx
      · exact HSZ.out.2.2 x hx
      · rw [List.mem_singleton.1 hx]; exact ⟨HSK.out.1, HSK.out.1⟩
  have hx6 := HXC8.out
  have HXF : Hid (∀ W, Below W5.heap.size W5 W → W.cell? ⟨b6, 0, none⟩ = some (.slice p1 b.rules.length c1) ∧ W.cell? ⟨b6, 1, none⟩ = some (.slice (some ⟨bb, o, none⟩) b.zones.length c2) ∧ W.cell? ⟨b6, 2, none⟩ = some (.slice A4 (b.links.length + 1) a4)) := by
    show ∀ W, _
    intro W hb
    exact BxT.cells ⟨(hb.block b6 (by omega)).trans hx6⟩
  obtain ⟨u0, u1, u2⟩ := BxT.cells ⟨hx5⟩
  have HC1 := Lib.hid (bkCheck_any _ _ _ _ W5 (HBC.out W5 (Below.refl _ _)).1 (HTM.out W5 HW5.out).1 (HTM.out W5 HW5.out).2)
  rw [HT1.out] at HC1
  clear hx5 hx6 hown7 hzr hlr HOW7 HOW8 HXC7 HXC8 HK7 HK8
  go_wp2_with fail
  refine HC1.out.mono ?_
  rintro e w6 ⟨rfl, hb6⟩
  have HB6 := Lib.hid hb6
  have hw6 := HW5.out.trans (hb6.mono (by omega))
  have HC2 := Lib.hid (bkCheck_any _ _ _ _ w6 (HBC.out w6 hb6).2 (HTM.out w6 hw6).1 (HTM.out w6 hw6).2)
  rw [HT2.out] at HC2
  obtain ⟨y0, y1, y2⟩ := HXF.out w6 hb6
  clear hb6 hw6 u0 u1 u2 HC1
  go_wp2_with fail
  refine HC2.out.mono ?_
  rintro e w7 ⟨rfl, hb7⟩
  have hfin := HW5.out.trans ((HB6.out.trans (hb7.mono HB6.out.size)).mono (show b0 ≤ W5.heap.size by omega))
  rw [← HEB.out] at hfin
  go_wp2_with fail
  go_ret
  exact ⟨rfl, hfin⟩
end Go.Proofs.YtmhfhmhjaecoaaaGreatDoor
