/- TurnsSplit: the walk. -/
import Derived.Test.YtmpeplimiaaehaaDoorTuSplQ
import Derived.Test.YtmpeplimiaaehaaDoorTuOt0Q
import Derived.Test.YtmpeplimiaaehaaDoorApOwnQ
import Derived.Test.YtmpeplimiaaehaaDoorQ11
import Derived.Deep.RegionHeld3
import Derived.Deep.RegionLaw
import Derived.Deep.DeepCutAuto
import Derived.BigQuiet
import Derived.Handy
namespace Go.Proofs.YtmpeplimiaaehaaDoor
open Go.RowKit Go.Joins
open Classical
set_option linter.unusedVariables false
set_option linter.unusedSimpArgs false

theorem set_erP {W : World} {eb : Nat} {cs : Array Value} {T : TypeId} (h : W.heap[eb]? = some (.cells cs T (0, 0))) (i : Nat) (hi : i < cs.size) (v : Value) : ∃ W', W.setCell ⟨eb, i, none⟩ v = W' ∧ W'.heap[eb]? = some (.cells (cs.setIfInBounds i v) T (0, 0)) ∧ ∀ B, B ≤ eb → Below B W W' :=
  ⟨_, rfl, (by rw [heap_setCell_same W eb i _ _ v h]), fun B hB => (Below.refl _ _).setCell hB _⟩
theorem box_at {w W : World} {cs : Array Value} {T : TypeId} (e : w.alloc (.cells cs T) = W) {b : Nat} (hb : w.heap.size = b) : W.heap[b]? = some (.cells cs T (0, 0)) ∧ Below b w W ∧ b < W.heap.size := by
  subst hb; subst e
  exact ⟨heap_alloc_new w _, (Below.refl _ _).alloc (Nat.le_refl _) _, by simp⟩
/-- the world of the great region: what stays, and the new book's block -/
structure SpInv (W8 : World) (cb : Nat) (zv lv : Value) (wx : World) : Prop where
  b : Below cb W8 wx
  z : W8.heap.size ≤ wx.heap.size
  c : ∃ x, wx.heap[cb]? = some (.cells #[x, zv, lv] 26 (0, 0))
  lt : cb < W8.heap.size
section
variable {W8 wx wy : World} {cb : Nat} {zv lv : Value}
theorem SpInv.start {x : Value} (h : W8.heap[cb]? = some (.cells #[x, zv, lv] 26 (0, 0))) : SpInv W8 cb zv lv W8.drew :=
  ⟨(Below.refl _ _).drew, Nat.le_refl _, ⟨x, h⟩, (Array.getElem?_eq_some_iff.mp h).1⟩
theorem SpInv.alloc (h : SpInv W8 cb zv lv wx) (o : Obj) : SpInv W8 cb zv lv (wx.alloc o) := by
  have hl := h.lt
  have hz := h.z
  obtain ⟨x, hc⟩ := h.c
  exact ⟨h.b.alloc (by omega) _, by simp; omega, ⟨x, (Below.heap_alloc _ _ _ (by omega)).trans hc⟩, hl⟩
theorem SpInv.grown (h : SpInv W8 cb zv lv wx) {row : Option Nat} (hg : wx.grownBy wy row) (hr : ∀ q, row = some q → W8.heap.size ≤ q) : SpInv W8 cb zv lv wy := by
  have hl := h.lt
  have hz := h.z
  obtain ⟨x, hc⟩ := h.c
  have hb := h.b.grown hg (by omega) (fun q e => by have := hr q e; omega)
  refine ⟨hb, Nat.le_trans hz hg.size, ⟨x, (hg.block cb (by omega) (fun e => ?_)).trans hc⟩, hl⟩
  have := hr cb e.symm
  omega
theorem SpInv.set (h : SpInv W8 cb zv lv wx) (v : Value) : SpInv W8 cb zv lv (wx.setCell ⟨cb, 0, none⟩ v) := by
  obtain ⟨x, hc⟩ := h.c
  refine ⟨h.b.setCell (Nat.le_refl _) _, ?_, ⟨v, ?_⟩, h.lt⟩
  · have := (h.b.setCell (p := ⟨cb, 0, none⟩) (Nat.le_refl cb) v).size; exact this
  · rw [heap_setCell_same wx cb 0 _ _ _ hc]; rfl
end
theorem ruFlat_app (l m : List Ru) : ruFlat (l ++ m) = ruFlat l ++ ruFlat m := by simp [ruFlat]
theorem ruFlat_len (l : List Ru) : (ruFlat l).length = l.length * 11 := by
  unfold ruFlat
  induction l with
  | nil => rfl
  | cons x r ih => rw [List.flatMap_cons, List.length_append, ih]; show 11 + r.length * 11 = (r.length + 1) * 11; omega
theorem row_nil {W : World} {B : Nat} {T : TypeId} {v : Value} {k s : Nat} {xs : List Value} (h : W.ownsRow B T s v (0 + k) ([] ++ xs)) : W.ownsRow B T s v k xs := by rw [Nat.zero_add, List.nil_append] at h; exact h
theorem ruFlat_one : ∀ (l : List Ru), ∀ u ∈ ruFlat l, u.oneCell' = true
  | [], u, h => absurd h (List.not_mem_nil)
  | r :: l, u, h => by
    have h : u ∈ ruL r ++ ruFlat l := h
    rcases List.mem_append.1 h with h | h
    · simp [ruL, ruCells] at h
      rcases h with h | h | h | h | h | h | h | h | h | h | h <;> rw [h] <;> rfl
    · exact ruFlat_one l u h
/-- the cells of a part of a row -/
theorem rows_part {W : World} {bb o : Nat} {l : List Ru} (h : ∀ i (hi : i < l.length) (j : Nat) (u : Value), (ruL l[i])[j]? = some u → W.cell? ⟨bb, o + i * 11 + j, none⟩ = some u) (a : Nat) :
    ∀ j u, (ruFlat (l.drop a))[j]? = some u → W.cell? ((⟨bb, o + a * 11, none⟩ : Addr).add j) = some u := by
  intro j u hu
  have hj := (List.getElem?_eq_some_iff.1 hu).1
  rw [ruFlat_len, List.length_drop] at hj
  have hq : j / 11 < l.length - a := by omega
  have hq2 : j / 11 < (l.drop a).length := by rw [List.length_drop]; exact hq
  have e := flat_get (cells := ruL) (k := 11) (fun _ => rfl) (l.drop a) (j / 11) (by rw [List.length_drop]; omega) (j % 11) (Nat.mod_lt _ (by decide))
  rw [show j / 11 * 11 + j % 11 = j by omega] at e
  have hu2 : (ruFlat (l.drop a))[j]? = (ruL (l.drop a)[j / 11])[j % 11]? := e
  rw [hu2, List.getElem_drop] at hu
  have hc := h (a + j / 11) (by omega) (j % 11) u hu
  rw [show ((⟨bb, o + a * 11, none⟩ : Addr).add j) = ⟨bb, o + a * 11 + j, none⟩ from by unfold Addr.add; split <;> simp_all]
  rw [show o + (a + j / 11) * 11 + j % 11 = o + a * 11 + j by omega] at hc
  exact hc
theorem rows_front {W : World} {bb o : Nat} {l : List Ru} (h : ∀ i (hi : i < l.length) (j : Nat) (u : Value), (ruL l[i])[j]? = some u → W.cell? ⟨bb, o + i * 11 + j, none⟩ = some u) (k : Nat) :
    ∀ j u, (ruFlat (l.take k))[j]? = some u → W.cell? ((⟨bb, o, none⟩ : Addr).add j) = some u := by
  intro j u hu
  have hj := (List.getElem?_eq_some_iff.1 hu).1
  have h0 := rows_part h 0 j u
  rw [Nat.zero_mul, Nat.add_zero, List.drop_zero] at h0
  refine h0 ?_
  rw [← List.take_append_drop k l, ruFlat_app, List.getElem?_append_left hj]
  exact hu

set_option maxRecDepth 100000 in
set_option maxHeartbeats 20000000 in
theorem TurnsSplit_walk (MK : MakeSays) (b : Bk) (rv zv lv : Value) (k0 y0 off : Int) (w : World) (hB : BookAt w.heap.size w rv zv lv b) (hm : MaxLen w) (ht : Tab10 w) :
    Calls Tryd.prog 3 #[.agg #[rv, zv, lv], .int .i64 k0, .int .i64 y0, .int .i64 off] w fun e w' => e = .returned (.bool true) ∧ Below w.heap.size w w' := by
  have hr := hB.r
  have hz := hB.z
  have hl := hB.l
  obtain ⟨p1, c1, rfl, hlen1, hrow1⟩ := hr
  obtain ⟨p2, c2, rfl, hlen2, hrow2⟩ := hz
  obtain ⟨p3, c3, rfl, hlen3, hrow3⟩ := hl
  obtain ⟨W0, eW⟩ : ∃ W0, w.alloc (.cells #[.slice p1 b.rules.length c1, .slice p2 b.zones.length c2, .slice p3 b.links.length c3] 26) = W0 := ⟨_, rfl⟩
  obtain ⟨b0, eb0⟩ : ∃ b0, w.heap.size = b0 := ⟨_, rfl⟩
  obtain ⟨hbx, hb0, hl0⟩ := box_at eW eb0
  have hb0' : Below w.heap.size w W0 := by rw [eb0]; exact hb0
  have HTU := Lib.hid (turned_any MK W0 (hm.below hb0') (ht.below hb0'))
  have HEW := Lib.hid eW
  have HEB := Lib.hid eb0
  have HM := Lib.hid hm
  have HT := Lib.hid ht
  have HBK : Hid (∀ W, Below b0 w W → BookAt W.heap.size W (.slice p1 b.rules.length c1) (.slice p2 b.zones.length c2) (.slice p3 b.links.length c3) b) := by
    show ∀ W, _
    intro W hb
    have hb' : Below w.heap.size w W := by rw [eb0]; exact hb
    exact (hB.below hb' (Nat.le_refl _)).base hb'.size
  have HTM : Hid (∀ W, Below b0 w W → MaxLen W ∧ Tab10 W) := by
    show ∀ W, _
    intro W hb
    have hb' : Below w.heap.size w W := by rw [eb0]; exact hb
    exact ⟨hm.below hb', ht.below hb'⟩
  have HBX : Hid (∀ W, Below (b0 + 1) W0 W → W.cell? ⟨b0, 0, none⟩ = some (.slice p1 b.rules.length c1) ∧ W.cell? ⟨b0, 1, none⟩ = some (.slice p2 b.zones.length c2) ∧ W.cell? ⟨b0, 2, none⟩ = some (.slice p3 b.links.length c3)) := by
    show ∀ W, _
    intro W hb
    have hx := (hb.block b0 (Nat.lt_succ_self _)).trans hbx
    exact ⟨(cell_of_row W _ 0 _ _ _ hx).trans rfl, (cell_of_row W _ 1 _ _ _ hx).trans rfl, (cell_of_row W _ 2 _ _ _ hx).trans rfl⟩
  have HB0 := Lib.hid hb0
  have HROW := Lib.hid hrow1
  have HSZ := Lib.hid hB.rs
  have HZL : Hid ((∀ z ∈ b.zones, z.nm.size ≤ 140737488351232 ∧ ∀ x ∈ z.eras, SzE x) ∧ ∀ x ∈ b.links, x.nm.size ≤ 140737488351232 ∧ x.tg.size ≤ 140737488351232) := ⟨hB.zs, hB.ls⟩
  have HLEN1 := Lib.hid hlen1
  clear eW hb0 hb0' hbx hB hm ht hrow1 hrow2 hrow3 eb0 hlen1 hlen2 hlen3
  go_enter Tryd.func3, Tryd.ntmps3
  go_upto_region 1 with fail
  rw [HEW.out, HEB.out]
  go_wp2_with fail
  refine HTU.out.mono ?_
  rintro e w1 ⟨rfl, hb1⟩
  have HA1 := Lib.hid (hb1.mono (show b0 + 1 ≤ W0.heap.size from hl0))
  have hl1 : b0 < w1.heap.size := by have := hb1.size; omega
  have HB1 := Lib.hid (HB0.out.trans (HA1.out.mono (Nat.le_succ _)))
  obtain ⟨g0, g1, g2⟩ := HBX.out w1 HA1.out
  have HCK := Lib.hid (bkCheck_any b _ _ _ w1 (HBK.out w1 HB1.out) (HTM.out w1 HB1.out).1 (HTM.out w1 HB1.out).2)
  have HLEN := Lib.hid (bk_rules (b := b))
  clear hb1 HTU
  go_upto_region 3 with fail
  go_cut [33] from 19 to 32 (fun s33 wx => s33 = .bool (decide (bkChk b ≠ 0 ∨ b.rules.length = 0 ∨ 39 < b.rules.length)) ∧ Hid (Below w1.heap.size w1 wx))
  case first =>
    obtain ⟨C, eC⟩ : ∃ C, bkChk b = C := ⟨_, rfl⟩
    have HDX : Hid (∀ P : Bool, ((C ≠ 0 ∨ b.rules.length = 0 ∨ 39 < b.rules.length) ↔ P = true) → decide (bkChk b ≠ 0 ∨ b.rules.length = 0 ∨ 39 < b.rules.length) = P) := by
      show ∀ P, _
      intro P h
      rw [← eC] at h
      cases P with
      | true => exact decide_eq_true (h.2 rfl)
      | false => exact decide_eq_false (fun g => by have := h.1 g; cases this)
    rw [eC] at HCK
    clear eC
    go_wp2_with fail
    refine HCK.out.mono ?_
    rintro e w2 ⟨rfl, hb2⟩
    have HB2 := Lib.hid hb2
    obtain ⟨x0, x1, x2⟩ := HBX.out w2 (HA1.out.trans (hb2.mono hl1))
    clear hb2 g0 g1 g2
    by_cases hC : C = 0
    · subst hC
      by_cases h0 : b.rules.length = 0
      · have h0b : ((b.rules.length : Int) == 0) = true := by rw [h0]; rfl
        have HD := Lib.hid (HDX.out true ⟨fun _ => rfl, fun _ => Or.inr (Or.inl h0)⟩)
        clear h0
        go_wp2_with fail
        go_meet
        exact ⟨congrArg Value.bool HD.out.symm, HB2⟩
      · have h0b : ((b.rules.length : Int) == 0) = false := by simpa using h0
        by_cases h1 : 39 < b.rules.length
        · have h1b : (39 : Int) < (b.rules.length : Int) := by omega
          have HD := Lib.hid (HDX.out true ⟨fun _ => rfl, fun _ => Or.inr (Or.inr h1)⟩)
          go_wp2_with fail
          go_meet
          exact ⟨congrArg Value.bool HD.out.symm, HB2⟩
        · have h1b : ¬ (39 : Int) < (b.rules.length : Int) := by omega
          have HD := Lib.hid (HDX.out false ⟨fun g => by omega, fun g => by cases g⟩)
          go_wp2_with fail
          go_meet
          exact ⟨congrArg Value.bool ((decide_eq_false (show ¬ (39 : Int) < (b.rules.length : Int) by omega)).trans HD.out.symm), HB2⟩
    · have hz : (C == 0) = false := by simpa using hC
      have hzn : (C != 0) = true := by simpa using hC
      have hz2 : (!C == 0) = true := by rw [hz]; rfl
      have HD := Lib.hid (HDX.out true ⟨fun _ => rfl, fun _ => Or.inl hC⟩)
      clear hC
      go_wp2_with fail
      go_meet
      exact ⟨congrArg Value.bool HD.out.symm, HB2⟩
  case rest =>
  obtain ⟨rfl, HB2⟩ := hcut
  obtain ⟨w2, ew2⟩ : ∃ w2, wc = w2 := ⟨_, rfl⟩
  rw [ew2] at HB2 ⊢
  have HA2 := Lib.hid (HA1.out.trans (HB2.out.mono hl1))
  have HW2 := Lib.hid (HB0.out.trans (HA2.out.mono (Nat.le_succ _)))
  have hl2 : b0 < w2.heap.size := by have := HB2.out.size; omega
  clear ew2 wc g0 g1 g2 HCK HA1 HB1 HB2 hl1
  by_cases hcd : bkChk b ≠ 0 ∨ b.rules.length = 0 ∨ 39 < b.rules.length
  case pos =>
    rw [decide_eq_true hcd]
    have hfin := HW2.out
    rw [← HEB.out] at hfin
    go_wp2_with fail
    go_ret
    exact ⟨rfl, hfin⟩
  rw [decide_eq_false hcd]
  have hchk : bkChk b = 0 := by apply Classical.byContradiction; intro h; exact hcd (.inl h)
  have hn0 : 0 < b.rules.length := by omega
  have hn39 : b.rules.length ≤ 39 := by omega
  have HOK := Lib.hid (HLEN.out hchk).2
  have HCHK := Lib.hid hchk
  have hr0 := Int.emod_nonneg k0 (show (b.rules.length : Int) ≠ 0 by omega)
  have hr1 := Int.emod_lt_of_pos k0 (show (0 : Int) < (b.rules.length : Int) by omega)
  obtain ⟨k, ek⟩ : ∃ k : Nat, k0 % (b.rules.length : Int) = (k : Int) := ⟨(k0 % (b.rules.length : Int)).toNat, (Int.toNat_of_nonneg hr0).symm⟩
  have hkl : k < b.rules.length := by omega
  have HRE1 := Lib.hid (fun W => Rest0_any k0 b.rules.length W (by omega) (by omega))
  rw [ek] at HRE1
  have hq0 := Int.emod_nonneg off (show (129601 : Int) ≠ 0 by decide)
  have hq1 := Int.emod_lt_of_pos off (show (0 : Int) < 129601 by decide)
  have HRE2 := Lib.hid (fun W => Rest0_any off 129601 W (by omega) (by omega))
  obtain ⟨of1, eof⟩ : ∃ o1, off % 129601 = o1 := ⟨_, rfl⟩
  rw [eof] at HRE2 hq0 hq1
  have hwo : IntKind.i64.wrap (of1 - 64800) = of1 - 64800 := IntWalk.i64_in _ (by omega)
  obtain ⟨bb, o, rfl, hbl, hcs⟩ := HROW.out (List.ne_nil_of_length_pos (by omega))
  have hok := HOK.out b.rules[k] (List.getElem_mem hkl)
  have hck := hcs k hkl
  have HLW := Lib.hid (fun m h1 h2 nm of => split_law (zs := b.zones) (ls := b.links) (split_at b.rules k hkl m h1 h2) hn39 hchk nm of)
  have hsz := HSZ.out b.rules[k] (List.getElem_mem hkl)
  obtain ⟨q, eq⟩ : ∃ q, b.rules[k] = q := ⟨_, rfl⟩
  rw [eq] at hok hck HLW hsz
  have up : ∀ j u, w.cell? ⟨bb, o + k * 11 + j, none⟩ = some u → w2.cell? ⟨bb, o + k * 11 + j, none⟩ = some u := fun j u h => (HW2.out.cell (p := ⟨bb, o + k * 11 + j, none⟩) (by rw [← HEB.out]; exact hbl)).trans h
  have hbl0 : bb < b0 := by rw [← HEB.out]; exact hbl
  have HCS : Hid (∀ W : World, Below b0 w W → ∀ i (hi : i < b.rules.length) (j : Nat) (u : Value), (ruL b.rules[i])[j]? = some u → W.cell? ⟨bb, o + i * 11 + j, none⟩ = some u) := by
    show ∀ W, _
    intro W hb i hi j u hu
    exact (hb.cell (p := ⟨bb, o + i * 11 + j, none⟩) hbl0).trans (hcs i hi j u hu)
  have hcap := HLEN1.out.2
  clear hcs HROW hcd ek eof HLEN hr0 hr1 hchk
  obtain ⟨nm2, yf, yt, mo, dk, dw, dn, tm, ck, sv, lt⟩ := q
  have z0 := up 0 _ (hck 0 _ rfl)
  have z1 := up 1 _ (hck 1 _ rfl)
  have z2 := up 2 _ (hck 2 _ rfl)
  have z3 := up 3 _ (hck 3 _ rfl)
  have z4 := up 4 _ (hck 4 _ rfl)
  have z5 := up 5 _ (hck 5 _ rfl)
  have z6 := up 6 _ (hck 6 _ rfl)
  have z7 := up 7 _ (hck 7 _ rfl)
  have z8 := up 8 _ (hck 8 _ rfl)
  have z9 := up 9 _ (hck 9 _ rfl)
  have z10 := up 10 _ (hck 10 _ rfl)
  rw [Nat.add_zero] at z0
  have f1 := hok.f1
  have f2 := hok.f2
  have t1 := hok.t1
  have t2 := hok.t2
  simp only at f1 f2 t1 t2 HLW hsz
  have HQSZ := Lib.hid hsz
  have hkz : (k : Int) < (b.rules.length : Int) := by omega
  have hkp : (0 : Int) ≤ (k : Int) := by omega
  obtain ⟨W3, e3⟩ : ∃ W3, w2.alloc (.cells #[.string nm2, .int .i64 yf, .int .i64 yt, .int .i64 mo, .int .i64 dk, .int .i64 dw, .int .i64 dn, .int .i64 tm, .int .i64 ck, .int .i64 sv, .string lt] 34) = W3 := ⟨_, rfl⟩
  obtain ⟨b9, eb9⟩ : ∃ b9, w2.heap.size = b9 := ⟨_, rfl⟩
  obtain ⟨hx3, hb3, hz3⟩ := box_at e3 eb9
  have HE3 := Lib.hid e3
  have HE9 := Lib.hid eb9
  have HX3 := Lib.hid hx3
  have HA3 := Lib.hid (HA2.out.trans (hb3.mono (by omega)))
  have HW3 := Lib.hid (HB0.out.trans (HA3.out.mono (Nat.le_succ _)))
  have h09 : b0 < b9 := by omega
  have x1 : W3.cell? ⟨b9, 1, none⟩ = some (.int .i64 yf) := (cell_of_row W3 _ 1 _ _ _ hx3).trans rfl
  have x2 : W3.cell? ⟨b9, 2, none⟩ = some (.int .i64 yt) := (cell_of_row W3 _ 2 _ _ _ hx3).trans rfl
  obtain ⟨g0, g1, g2⟩ := HBX.out w2 HA2.out
  clear up hck hok hsz e3 eb9 hx3 hb3 eq
  go_wp2_with fail
  refine (HRE1.out w2).mono ?_
  rintro e w' ⟨rfl, rfl⟩
  go_wp2_with fail
  refine (HRE2.out w2).mono ?_
  rintro e w' ⟨rfl, rfl⟩
  go_upto_region 8 with fail
  rw [HE3.out, HE9.out]
  clear z0 z1 z2 z3 z4 z5 z6 z7 z8 z9 z10 g0 g1 g2
  by_cases hyy : yf = yt
  case pos =>
    have hyb : (yf == yt) = true := by simpa using hyy
    have hfin := HW3.out
    rw [← HEB.out] at hfin
    go_wp2_with fail
    go_ret
    exact ⟨rfl, hfin⟩
  have hyb : (yf == yt) = false := by simpa using hyy
  have hy0 : 0 < yt - yf := by omega
  have hm0 := Int.emod_nonneg y0 (show yt - yf ≠ 0 by omega)
  have hm1 := Int.emod_lt_of_pos y0 hy0
  have HRE3 := Lib.hid (fun W => Rest0_any y0 (yt - yf) W hy0 (by omega))
  obtain ⟨rm, erm⟩ : ∃ rm, y0 % (yt - yf) = rm := ⟨_, rfl⟩
  rw [erm] at HRE3 hm0 hm1
  have hw1 : IntKind.i64.wrap (yt - yf) = yt - yf := IntWalk.i64_in _ (by omega)
  obtain ⟨m, em⟩ : ∃ m, yf + rm = m := ⟨_, rfl⟩
  have hw2 : IntKind.i64.wrap (yf + rm) = m := by rw [← em]; exact IntWalk.i64_in _ (by omega)
  have hml : yf ≤ m := by omega
  have hmh : m < yt := by omega
  have hw3 : IntKind.i64.wrap (m + 1) = m + 1 := IntWalk.i64_in _ (by omega)
  have HLAW := Lib.hid (HLW.out m hml hmh nm2 (of1 - 64800))
  have HSP := Lib.hid (split_at b.rules k hkl m)
  clear HLW erm em
  obtain ⟨W4, e4⟩ : ∃ W4, W3.alloc (.cells #[.string nm2, .int .i64 yf, .int .i64 yt, .int .i64 mo, .int .i64 dk, .int .i64 dw, .int .i64 dn, .int .i64 tm, .int .i64 ck, .int .i64 sv, .string lt] 34) = W4 := ⟨_, rfl⟩
  obtain ⟨b10, eb10⟩ : ∃ b10, W3.heap.size = b10 := ⟨_, rfl⟩
  obtain ⟨hx4, hb4, hz4⟩ := box_at e4 eb10
  have HE4 := Lib.hid e4
  have HE10 := Lib.hid eb10
  have HX4 := Lib.hid hx4
  have HB34 := Lib.hid hb4
  have hz910 : b9 < b10 := by omega
  have y0 : W3.cell? ⟨b9, 0, none⟩ = some (.string nm2) := (cell_of_row W3 _ 0 _ _ _ HX3.out).trans rfl
  have y1 : W3.cell? ⟨b9, 1, none⟩ = some (.int .i64 yf) := (cell_of_row W3 _ 1 _ _ _ HX3.out).trans rfl
  have y2 : W3.cell? ⟨b9, 2, none⟩ = some (.int .i64 yt) := (cell_of_row W3 _ 2 _ _ _ HX3.out).trans rfl
  have y3 : W3.cell? ⟨b9, 3, none⟩ = some (.int .i64 mo) := (cell_of_row W3 _ 3 _ _ _ HX3.out).trans rfl
  have y4 : W3.cell? ⟨b9, 4, none⟩ = some (.int .i64 dk) := (cell_of_row W3 _ 4 _ _ _ HX3.out).trans rfl
  have y5 : W3.cell? ⟨b9, 5, none⟩ = some (.int .i64 dw) := (cell_of_row W3 _ 5 _ _ _ HX3.out).trans rfl
  have y6 : W3.cell? ⟨b9, 6, none⟩ = some (.int .i64 dn) := (cell_of_row W3 _ 6 _ _ _ HX3.out).trans rfl
  have y7 : W3.cell? ⟨b9, 7, none⟩ = some (.int .i64 tm) := (cell_of_row W3 _ 7 _ _ _ HX3.out).trans rfl
  have y8 : W3.cell? ⟨b9, 8, none⟩ = some (.int .i64 ck) := (cell_of_row W3 _ 8 _ _ _ HX3.out).trans rfl
  have y9 : W3.cell? ⟨b9, 9, none⟩ = some (.int .i64 sv) := (cell_of_row W3 _ 9 _ _ _ HX3.out).trans rfl
  have y10 : W3.cell? ⟨b9, 10, none⟩ = some (.string lt) := (cell_of_row W3 _ 10 _ _ _ HX3.out).trans rfl
  clear x1 x2 e4 eb10 hx4 hb4
  go_upto_region 11 with fail
  rw [HE4.out, HE10.out]
  clear y0 y1 y2 y3 y4 y5 y6 y7 y8 y9 y10
  have HX94 := Lib.hid ((HB34.out.block b9 hz910).trans HX3.out)
  have y1 : W4.cell? ⟨b9, 1, none⟩ = some (.int .i64 yf) := (cell_of_row W4 _ 1 _ _ _ HX94.out).trans rfl
  have y2 : W4.cell? ⟨b9, 2, none⟩ = some (.int .i64 yt) := (cell_of_row W4 _ 2 _ _ _ HX94.out).trans rfl
  have v1 : W4.cell? ⟨b10, 2, none⟩ = some (.int .i64 yt) := (cell_of_row W4 _ 2 _ _ _ HX4.out).trans rfl
  have v2 : W4.frozen? ⟨b10, 2, none⟩ = false := by simp [World.frozen?, HX4.out]
  obtain ⟨W5, e5, hx5, hb5⟩ := set_erP HX4.out 2 (by simp) (.int .i64 m)
  have HE5 := Lib.hid e5
  have HX5 := Lib.hid hx5
  have HB5 := Lib.hid (hb5 b10 (Nat.le_refl _))
  clear e5 hx5 hb5
  have K11 : Hid (∀ wx, Below b10 W4 wx → wx.cell? ⟨b9, 1, none⟩ = some (.int .i64 yf) ∧ wx.cell? ⟨b9, 2, none⟩ = some (.int .i64 yt)) := by
    show ∀ wx, _
    intro wx hb
    exact ⟨(hb.cell (p := ⟨b9, 1, none⟩) hz910).trans y1, (hb.cell (p := ⟨b9, 2, none⟩) hz910).trans y2⟩
  go_cut [] from 53 to 63 (fun wx => Hid (wx.heap[b10]? = some (.cells #[.string nm2, .int .i64 yf, .int .i64 m, .int .i64 mo, .int .i64 dk, .int .i64 dw, .int .i64 dn, .int .i64 tm, .int .i64 ck, .int .i64 sv, .string lt] 34 (0, 0))) ∧ Hid (Below b10 W4 wx))
  case first =>
    go_region_held3 (fun wx => wx.cell? ⟨b9, 1, none⟩ = some (.int .i64 yf) ∧ wx.cell? ⟨b9, 2, none⟩ = some (.int .i64 yt)) ((refine K11.out _ ?_; first | (with_reducible exact (Below.refl _ _).drew) | (with_reducible refine Below.drew (Below.setCell (Below.refl _ _) ?_ _); exact Nat.le_refl _))) (first | (go_at_call 8; refine (HRE3.out _).mono ?_; rintro e w' ⟨rfl, rfl⟩))
    all_goals rw [HE5.out]
    all_goals go_wp2_with fail
    all_goals go_meet
    all_goals exact ⟨HX5, Lib.hid HB5.out.drew⟩
  case rest =>
  obtain ⟨HX6, HB6⟩ := hcut
  obtain ⟨W6, eW6⟩ : ∃ W6, wc = W6 := ⟨_, rfl⟩
  rw [eW6] at HX6 HB6 ⊢
  clear eW6 wc HX5 HB5 HE5 v1 v2 y1 y2 HX94
  have HB36 := Lib.hid ((HB34.out).trans HB6.out)
  have HX96 := Lib.hid ((HB36.out.block b9 hz910).trans HX3.out)
  have hz6 : b10 < W6.heap.size := (Array.getElem?_eq_some_iff.mp HX6.out).1
  obtain ⟨W7, e7⟩ : ∃ W7, W6.alloc (.cells #[.string nm2, .int .i64 yf, .int .i64 yt, .int .i64 mo, .int .i64 dk, .int .i64 dw, .int .i64 dn, .int .i64 tm, .int .i64 ck, .int .i64 sv, .string lt] 34) = W7 := ⟨_, rfl⟩
  obtain ⟨b11, eb11⟩ : ∃ b11, W6.heap.size = b11 := ⟨_, rfl⟩
  obtain ⟨hx7, hb7, hz7⟩ := box_at e7 eb11
  have HE7 := Lib.hid e7
  have HE11 := Lib.hid eb11
  have h1011 : b10 < b11 := by omega
  have y0 : W6.cell? ⟨b9, 0, none⟩ = some (.string nm2) := (cell_of_row W6 _ 0 _ _ _ HX96.out).trans rfl
  have y1 : W6.cell? ⟨b9, 1, none⟩ = some (.int .i64 yf) := (cell_of_row W6 _ 1 _ _ _ HX96.out).trans rfl
  have y2 : W6.cell? ⟨b9, 2, none⟩ = some (.int .i64 yt) := (cell_of_row W6 _ 2 _ _ _ HX96.out).trans rfl
  have y3 : W6.cell? ⟨b9, 3, none⟩ = some (.int .i64 mo) := (cell_of_row W6 _ 3 _ _ _ HX96.out).trans rfl
  have y4 : W6.cell? ⟨b9, 4, none⟩ = some (.int .i64 dk) := (cell_of_row W6 _ 4 _ _ _ HX96.out).trans rfl
  have y5 : W6.cell? ⟨b9, 5, none⟩ = some (.int .i64 dw) := (cell_of_row W6 _ 5 _ _ _ HX96.out).trans rfl
  have y6 : W6.cell? ⟨b9, 6, none⟩ = some (.int .i64 dn) := (cell_of_row W6 _ 6 _ _ _ HX96.out).trans rfl
  have y7 : W6.cell? ⟨b9, 7, none⟩ = some (.int .i64 tm) := (cell_of_row W6 _ 7 _ _ _ HX96.out).trans rfl
  have y8 : W6.cell? ⟨b9, 8, none⟩ = some (.int .i64 ck) := (cell_of_row W6 _ 8 _ _ _ HX96.out).trans rfl
  have y9 : W6.cell? ⟨b9, 9, none⟩ = some (.int .i64 sv) := (cell_of_row W6 _ 9 _ _ _ HX96.out).trans rfl
  have y10 : W6.cell? ⟨b9, 10, none⟩ = some (.string lt) := (cell_of_row W6 _ 10 _ _ _ HX96.out).trans rfl
  have HX107 := Lib.hid ((hb7.block b10 h1011).trans HX6.out)
  have v0 : W7.cell? ⟨b10, 2, none⟩ = some (.int .i64 m) := (cell_of_row W7 _ 2 _ _ _ HX107.out).trans rfl
  have v1 : W7.cell? ⟨b11, 1, none⟩ = some (.int .i64 yf) := (cell_of_row W7 _ 1 _ _ _ hx7).trans rfl
  have v2 : W7.frozen? ⟨b11, 1, none⟩ = false := by simp [World.frozen?, hx7]
  obtain ⟨W8', e8', hx8', hb8'⟩ := set_erP hx7 1 (by simp) (.int .i64 (m + 1))
  have hb8' := hb8' b11 (Nat.le_refl _)
  have HE8' := Lib.hid e8'
  have HX118' := Lib.hid hx8'
  have HX108' := Lib.hid ((hb8'.block b10 h1011).trans HX107.out)
  have HB68' := Lib.hid (hb7.trans hb8')
  have hz8' : b11 < W8'.heap.size := (Array.getElem?_eq_some_iff.mp hx8').1
  have HA8' := Lib.hid (HA3.out.trans (((HB36.out.mono (show b0 + 1 ≤ b10 by omega))).trans (HB68'.out.mono (by omega))))
  obtain ⟨W8, e8⟩ : ∃ W8, W8'.alloc (.cells #[.slice (some ⟨bb, o, none⟩) b.rules.length c1, .slice p2 b.zones.length c2, .slice p3 b.links.length c3] 26) = W8 := ⟨_, rfl⟩
  obtain ⟨cb, ecb⟩ : ∃ cb, W8'.heap.size = cb := ⟨_, rfl⟩
  obtain ⟨hx8, hb8, hz8⟩ := box_at e8 ecb
  have HE8 := Lib.hid e8
  have HECB := Lib.hid ecb
  have HX8 := Lib.hid hx8
  have h11c : b11 < cb := by omega
  have HX118 := Lib.hid ((hb8.block b11 h11c).trans HX118'.out)
  have HX108 := Lib.hid ((hb8.block b10 (by omega)).trans HX108'.out)
  have HA8 := Lib.hid (HA8'.out.trans (hb8.mono (by omega)))
  have HX98 := Lib.hid ((hb8.block b9 (by omega)).trans ((HB68'.out.block b9 (by omega)).trans HX96.out))
  obtain ⟨u0, u1, u2⟩ := HBX.out W8' HA8'.out
  clear e7 eb11 hx7 hb7 e8' hx8' hb8' e8 ecb hx8 hb8
  go_upto_region 13 with fail
  rw [HE7.out, HE11.out]
  clear y0 y1 y2 y3 y4 y5 y6 y7 y8 y9 y10
  go_upto_region 14 with fail
  rw [HE8'.out]
  clear v0 v1 v2
  go_upto_region 15 with fail
  rw [HE8.out, HECB.out]
  clear u0 u1 u2
  obtain ⟨n, en⟩ : ∃ n, b.rules.length = n := ⟨_, rfl⟩
  rw [en] at hn39 hn0 hkl hkz hcap HBX HBK
  have EN := Lib.hid en
  have HLR : Hid ((b.rules.take k ++ loR ⟨nm2, yf, yt, mo, dk, dw, dn, tm, ck, sv, lt⟩ m :: hiR ⟨nm2, yf, yt, mo, dk, dw, dn, tm, ck, sv, lt⟩ m :: b.rules.drop (k + 1)).length = n + 1 ∧ ruFlat (b.rules.take k ++ loR ⟨nm2, yf, yt, mo, dk, dw, dn, tm, ck, sv, lt⟩ m :: hiR ⟨nm2, yf, yt, mo, dk, dw, dn, tm, ck, sv, lt⟩ m :: b.rules.drop (k + 1)) = (ruFlat (b.rules.take k) ++ [.string nm2, .int .i64 yf, .int .i64 m, .int .i64 mo, .int .i64 dk, .int .i64 dw, .int .i64 dn, .int .i64 tm, .int .i64 ck, .int .i64 sv, .string lt, .string nm2, .int .i64 (m + 1), .int .i64 yt, .int .i64 mo, .int .i64 dk, .int .i64 dw, .int .i64 dn, .int .i64 tm, .int .i64 ck, .int .i64 sv, .string lt]) ++ ruFlat (b.rules.drop (k + 1))) := by
    refine ⟨?_, ?_⟩
    · simp only [List.length_append, List.length_cons, List.length_take, List.length_drop]; omega
    · rw [ruFlat_app, List.append_assoc]; rfl
  go_cut [] from 70 to 85 (fun wx => ∃ v3, Hid (wx.ownsRow W8.heap.size 34 11 v3 (n + 1) ((ruFlat (b.rules.take k) ++ [.string nm2, .int .i64 yf, .int .i64 m, .int .i64 mo, .int .i64 dk, .int .i64 dw, .int .i64 dn, .int .i64 tm, .int .i64 ck, .int .i64 sv, .string lt, .string nm2, .int .i64 (m + 1), .int .i64 yt, .int .i64 mo, .int .i64 dk, .int .i64 dw, .int .i64 dn, .int .i64 tm, .int .i64 ck, .int .i64 sv, .string lt]) ++ ruFlat (b.rules.drop (k + 1)))) ∧ Hid (wx.heap[cb]? = some (.cells #[v3, .slice p2 b.zones.length c2, .slice p3 b.links.length c3] 26 (0, 0))) ∧ Hid (Below cb W8 wx))
  case first =>
    obtain ⟨i1, hi1, hz10, hz11, hz12⟩ := info_parts infoRu
    have HL1 : Hid ((ruFlat (b.rules.take k)).length = k * 11) := by show _ = _; rw [ruFlat_len, List.length_take]; congr 1; omega
    have HL3 : Hid ((ruFlat (b.rules.drop (k + 1))).length = (n - (k + 1)) * 11) := by show _ = _; rw [ruFlat_len, List.length_drop]; congr 1; omega
    have HO1 := Lib.hid (ruFlat_one (b.rules.take k))
    have HO3 := Lib.hid (ruFlat_one (b.rules.drop (k + 1)))
    have HO2 : Hid (∀ u ∈ ([.string nm2, .int .i64 yf, .int .i64 m, .int .i64 mo, .int .i64 dk, .int .i64 dw, .int .i64 dn, .int .i64 tm, .int .i64 ck, .int .i64 sv, .string lt, .string nm2, .int .i64 (m + 1), .int .i64 yt, .int .i64 mo, .int .i64 dk, .int .i64 dw, .int .i64 dn, .int .i64 tm, .int .i64 ck, .int .i64 sv, .string lt] : List Value), u.oneCell' = true) := by
      show ∀ u ∈ _, _
      exact ruFlat_one [⟨nm2, yf, m, mo, dk, dw, dn, tm, ck, sv, lt⟩, ⟨nm2, m + 1, yt, mo, dk, dw, dn, tm, ck, sv, lt⟩]
    have hm1a : 0 + k ≤ maxLen := by simp only [maxLen]; omega
    have hm1b : (0 + k) * 104 ≤ 140737488355328 := by omega
    have hm2a : k + 2 ≤ maxLen := by simp only [maxLen]; omega
    have hm2b : (k + 2) * 104 ≤ 140737488355328 := by omega
    have hm3a : k + 2 + (n - (k + 1)) ≤ maxLen := by simp only [maxLen]; omega
    have hm3b : (k + 2 + (n - (k + 1))) * 104 ≤ 140737488355328 := by omega
    have KN1 : Hid (∀ wx, Below cb W8 wx → ∀ j u, (ruFlat (b.rules.take k))[j]? = some u → wx.cell? ((⟨bb, o, none⟩ : Addr).add j) = some u) := by
      show ∀ wx, _
      intro wx hb
      exact rows_front (HCS.out wx (HB0.out.trans ((HA8.out.trans (hb.mono (by omega))).mono (Nat.le_succ _)))) k
    have KN3 : Hid (∀ wx, Below cb W8 wx → ∀ j u, (ruFlat (b.rules.drop (k + 1)))[j]? = some u → wx.cell? ((⟨bb, o + (k + 1) * 11, none⟩ : Addr).add j) = some u) := by
      show ∀ wx, _
      intro wx hb
      exact rows_part (HCS.out wx (HB0.out.trans ((HA8.out.trans (hb.mono (by omega))).mono (Nat.le_succ _)))) (k + 1)
    have KS : Hid (∀ wx, SpInv W8 cb (.slice p2 b.zones.length c2) (.slice p3 b.links.length c3) wx → (SpInv W8 cb (.slice p2 b.zones.length c2) (.slice p3 b.links.length c3) wx ∧ wx.cell? ⟨b0, 0, none⟩ = some (.slice (some ⟨bb, o, none⟩) n c1) ∧ wx.cell? ⟨b10, 0, none⟩ = some (.string nm2) ∧ wx.cell? ⟨b10, 1, none⟩ = some (.int .i64 yf) ∧ wx.cell? ⟨b10, 2, none⟩ = some (.int .i64 m) ∧ wx.cell? ⟨b10, 3, none⟩ = some (.int .i64 mo) ∧ wx.cell? ⟨b10, 4, none⟩ = some (.int .i64 dk) ∧ wx.cell? ⟨b10, 5, none⟩ = some (.int .i64 dw) ∧ wx.cell? ⟨b10, 6, none⟩ = some (.int .i64 dn) ∧ wx.cell? ⟨b10, 7, none⟩ = some (.int .i64 tm) ∧ wx.cell? ⟨b10, 8, none⟩ = some (.int .i64 ck) ∧ wx.cell? ⟨b10, 9, none⟩ = some (.int .i64 sv) ∧ wx.cell? ⟨b10, 10, none⟩ = some (.string lt) ∧ wx.cell? ⟨b11, 0, none⟩ = some (.string nm2) ∧ wx.cell? ⟨b11, 1, none⟩ = some (.int .i64 (m + 1)) ∧ wx.cell? ⟨b11, 2, none⟩ = some (.int .i64 yt) ∧ wx.cell? ⟨b11, 3, none⟩ = some (.int .i64 mo) ∧ wx.cell? ⟨b11, 4, none⟩ = some (.int .i64 dk) ∧ wx.cell? ⟨b11, 5, none⟩ = some (.int .i64 dw) ∧ wx.cell? ⟨b11, 6, none⟩ = some (.int .i64 dn) ∧ wx.cell? ⟨b11, 7, none⟩ = some (.int .i64 tm) ∧ wx.cell? ⟨b11, 8, none⟩ = some (.int .i64 ck) ∧ wx.cell? ⟨b11, 9, none⟩ = some (.int .i64 sv) ∧ wx.cell? ⟨b11, 10, none⟩ = some (.string lt))) := by
      show ∀ wx, _
      intro wx hi
      have h0 := (HBX.out wx (HA8.out.trans (hi.b.mono (by omega)))).1
      have h10 := (hi.b.block b10 (by omega)).trans HX108.out
      have h11 := (hi.b.block b11 (by omega)).trans HX118.out
      exact ⟨hi, h0, (cell_of_row wx _ 0 _ _ _ h10).trans rfl, (cell_of_row wx _ 1 _ _ _ h10).trans rfl, (cell_of_row wx _ 2 _ _ _ h10).trans rfl, (cell_of_row wx _ 3 _ _ _ h10).trans rfl, (cell_of_row wx _ 4 _ _ _ h10).trans rfl, (cell_of_row wx _ 5 _ _ _ h10).trans rfl, (cell_of_row wx _ 6 _ _ _ h10).trans rfl, (cell_of_row wx _ 7 _ _ _ h10).trans rfl, (cell_of_row wx _ 8 _ _ _ h10).trans rfl, (cell_of_row wx _ 9 _ _ _ h10).trans rfl, (cell_of_row wx _ 10 _ _ _ h10).trans rfl, (cell_of_row wx _ 0 _ _ _ h11).trans rfl, (cell_of_row wx _ 1 _ _ _ h11).trans rfl, (cell_of_row wx _ 2 _ _ _ h11).trans rfl, (cell_of_row wx _ 3 _ _ _ h11).trans rfl, (cell_of_row wx _ 4 _ _ _ h11).trans rfl, (cell_of_row wx _ 5 _ _ _ h11).trans rfl, (cell_of_row wx _ 6 _ _ _ h11).trans rfl, (cell_of_row wx _ 7 _ _ _ h11).trans rfl, (cell_of_row wx _ 8 _ _ _ h11).trans rfl, (cell_of_row wx _ 9 _ _ _ h11).trans rfl, (cell_of_row wx _ 10 _ _ _ h11).trans rfl⟩
    have KI : Hid (∀ wx, (SpInv W8 cb (.slice p2 b.zones.length c2) (.slice p3 b.links.length c3) wx ∧ wx.cell? ⟨b0, 0, none⟩ = some (.slice (some ⟨bb, o, none⟩) n c1) ∧ wx.cell? ⟨b10, 0, none⟩ = some (.string nm2) ∧ wx.cell? ⟨b10, 1, none⟩ = some (.int .i64 yf) ∧ wx.cell? ⟨b10, 2, none⟩ = some (.int .i64 m) ∧ wx.cell? ⟨b10, 3, none⟩ = some (.int .i64 mo) ∧ wx.cell? ⟨b10, 4, none⟩ = some (.int .i64 dk) ∧ wx.cell? ⟨b10, 5, none⟩ = some (.int .i64 dw) ∧ wx.cell? ⟨b10, 6, none⟩ = some (.int .i64 dn) ∧ wx.cell? ⟨b10, 7, none⟩ = some (.int .i64 tm) ∧ wx.cell? ⟨b10, 8, none⟩ = some (.int .i64 ck) ∧ wx.cell? ⟨b10, 9, none⟩ = some (.int .i64 sv) ∧ wx.cell? ⟨b10, 10, none⟩ = some (.string lt) ∧ wx.cell? ⟨b11, 0, none⟩ = some (.string nm2) ∧ wx.cell? ⟨b11, 1, none⟩ = some (.int .i64 (m + 1)) ∧ wx.cell? ⟨b11, 2, none⟩ = some (.int .i64 yt) ∧ wx.cell? ⟨b11, 3, none⟩ = some (.int .i64 mo) ∧ wx.cell? ⟨b11, 4, none⟩ = some (.int .i64 dk) ∧ wx.cell? ⟨b11, 5, none⟩ = some (.int .i64 dw) ∧ wx.cell? ⟨b11, 6, none⟩ = some (.int .i64 dn) ∧ wx.cell? ⟨b11, 7, none⟩ = some (.int .i64 tm) ∧ wx.cell? ⟨b11, 8, none⟩ = some (.int .i64 ck) ∧ wx.cell? ⟨b11, 9, none⟩ = some (.int .i64 sv) ∧ wx.cell? ⟨b11, 10, none⟩ = some (.string lt)) → SpInv W8 cb (.slice p2 b.zones.length c2) (.slice p3 b.links.length c3) wx) := by
      show ∀ wx, _
      intro wx h
      exact h.1
    have KR : Hid (∀ wx, (SpInv W8 cb (.slice p2 b.zones.length c2) (.slice p3 b.links.length c3) wx ∧ wx.cell? ⟨b0, 0, none⟩ = some (.slice (some ⟨bb, o, none⟩) n c1) ∧ wx.cell? ⟨b10, 0, none⟩ = some (.string nm2) ∧ wx.cell? ⟨b10, 1, none⟩ = some (.int .i64 yf) ∧ wx.cell? ⟨b10, 2, none⟩ = some (.int .i64 m) ∧ wx.cell? ⟨b10, 3, none⟩ = some (.int .i64 mo) ∧ wx.cell? ⟨b10, 4, none⟩ = some (.int .i64 dk) ∧ wx.cell? ⟨b10, 5, none⟩ = some (.int .i64 dw) ∧ wx.cell? ⟨b10, 6, none⟩ = some (.int .i64 dn) ∧ wx.cell? ⟨b10, 7, none⟩ = some (.int .i64 tm) ∧ wx.cell? ⟨b10, 8, none⟩ = some (.int .i64 ck) ∧ wx.cell? ⟨b10, 9, none⟩ = some (.int .i64 sv) ∧ wx.cell? ⟨b10, 10, none⟩ = some (.string lt) ∧ wx.cell? ⟨b11, 0, none⟩ = some (.string nm2) ∧ wx.cell? ⟨b11, 1, none⟩ = some (.int .i64 (m + 1)) ∧ wx.cell? ⟨b11, 2, none⟩ = some (.int .i64 yt) ∧ wx.cell? ⟨b11, 3, none⟩ = some (.int .i64 mo) ∧ wx.cell? ⟨b11, 4, none⟩ = some (.int .i64 dk) ∧ wx.cell? ⟨b11, 5, none⟩ = some (.int .i64 dw) ∧ wx.cell? ⟨b11, 6, none⟩ = some (.int .i64 dn) ∧ wx.cell? ⟨b11, 7, none⟩ = some (.int .i64 tm) ∧ wx.cell? ⟨b11, 8, none⟩ = some (.int .i64 ck) ∧ wx.cell? ⟨b11, 9, none⟩ = some (.int .i64 sv) ∧ wx.cell? ⟨b11, 10, none⟩ = some (.string lt)) → Below cb W8 wx) := by
      show ∀ wx, _
      intro wx h
      exact h.1.b
    have KZ : Hid (∀ wx, (SpInv W8 cb (.slice p2 b.zones.length c2) (.slice p3 b.links.length c3) wx ∧ wx.cell? ⟨b0, 0, none⟩ = some (.slice (some ⟨bb, o, none⟩) n c1) ∧ wx.cell? ⟨b10, 0, none⟩ = some (.string nm2) ∧ wx.cell? ⟨b10, 1, none⟩ = some (.int .i64 yf) ∧ wx.cell? ⟨b10, 2, none⟩ = some (.int .i64 m) ∧ wx.cell? ⟨b10, 3, none⟩ = some (.int .i64 mo) ∧ wx.cell? ⟨b10, 4, none⟩ = some (.int .i64 dk) ∧ wx.cell? ⟨b10, 5, none⟩ = some (.int .i64 dw) ∧ wx.cell? ⟨b10, 6, none⟩ = some (.int .i64 dn) ∧ wx.cell? ⟨b10, 7, none⟩ = some (.int .i64 tm) ∧ wx.cell? ⟨b10, 8, none⟩ = some (.int .i64 ck) ∧ wx.cell? ⟨b10, 9, none⟩ = some (.int .i64 sv) ∧ wx.cell? ⟨b10, 10, none⟩ = some (.string lt) ∧ wx.cell? ⟨b11, 0, none⟩ = some (.string nm2) ∧ wx.cell? ⟨b11, 1, none⟩ = some (.int .i64 (m + 1)) ∧ wx.cell? ⟨b11, 2, none⟩ = some (.int .i64 yt) ∧ wx.cell? ⟨b11, 3, none⟩ = some (.int .i64 mo) ∧ wx.cell? ⟨b11, 4, none⟩ = some (.int .i64 dk) ∧ wx.cell? ⟨b11, 5, none⟩ = some (.int .i64 dw) ∧ wx.cell? ⟨b11, 6, none⟩ = some (.int .i64 dn) ∧ wx.cell? ⟨b11, 7, none⟩ = some (.int .i64 tm) ∧ wx.cell? ⟨b11, 8, none⟩ = some (.int .i64 ck) ∧ wx.cell? ⟨b11, 9, none⟩ = some (.int .i64 sv) ∧ wx.cell? ⟨b11, 10, none⟩ = some (.string lt)) → W8.heap.size ≤ wx.heap.size) := by
      show ∀ wx, _
      intro wx h
      exact h.1.z
    have K0 : Hid (SpInv W8 cb (.slice p2 b.zones.length c2) (.slice p3 b.links.length c3) W8.drew ∧ W8.drew.cell? ⟨b0, 0, none⟩ = some (.slice (some ⟨bb, o, none⟩) n c1) ∧ W8.drew.cell? ⟨b10, 0, none⟩ = some (.string nm2) ∧ W8.drew.cell? ⟨b10, 1, none⟩ = some (.int .i64 yf) ∧ W8.drew.cell? ⟨b10, 2, none⟩ = some (.int .i64 m) ∧ W8.drew.cell? ⟨b10, 3, none⟩ = some (.int .i64 mo) ∧ W8.drew.cell? ⟨b10, 4, none⟩ = some (.int .i64 dk) ∧ W8.drew.cell? ⟨b10, 5, none⟩ = some (.int .i64 dw) ∧ W8.drew.cell? ⟨b10, 6, none⟩ = some (.int .i64 dn) ∧ W8.drew.cell? ⟨b10, 7, none⟩ = some (.int .i64 tm) ∧ W8.drew.cell? ⟨b10, 8, none⟩ = some (.int .i64 ck) ∧ W8.drew.cell? ⟨b10, 9, none⟩ = some (.int .i64 sv) ∧ W8.drew.cell? ⟨b10, 10, none⟩ = some (.string lt) ∧ W8.drew.cell? ⟨b11, 0, none⟩ = some (.string nm2) ∧ W8.drew.cell? ⟨b11, 1, none⟩ = some (.int .i64 (m + 1)) ∧ W8.drew.cell? ⟨b11, 2, none⟩ = some (.int .i64 yt) ∧ W8.drew.cell? ⟨b11, 3, none⟩ = some (.int .i64 mo) ∧ W8.drew.cell? ⟨b11, 4, none⟩ = some (.int .i64 dk) ∧ W8.drew.cell? ⟨b11, 5, none⟩ = some (.int .i64 dw) ∧ W8.drew.cell? ⟨b11, 6, none⟩ = some (.int .i64 dn) ∧ W8.drew.cell? ⟨b11, 7, none⟩ = some (.int .i64 tm) ∧ W8.drew.cell? ⟨b11, 8, none⟩ = some (.int .i64 ck) ∧ W8.drew.cell? ⟨b11, 9, none⟩ = some (.int .i64 sv) ∧ W8.drew.cell? ⟨b11, 10, none⟩ = some (.string lt)) := by
      show _ ∧ _
      exact KS.out _ (SpInv.start HX8.out)
    have K0d : Hid (∀ o' : Obj, (SpInv W8 cb (.slice p2 b.zones.length c2) (.slice p3 b.links.length c3) (World.drew (W8.alloc o')) ∧ (World.drew (W8.alloc o')).cell? ⟨b0, 0, none⟩ = some (.slice (some ⟨bb, o, none⟩) n c1) ∧ (World.drew (W8.alloc o')).cell? ⟨b10, 0, none⟩ = some (.string nm2) ∧ (World.drew (W8.alloc o')).cell? ⟨b10, 1, none⟩ = some (.int .i64 yf) ∧ (World.drew (W8.alloc o')).cell? ⟨b10, 2, none⟩ = some (.int .i64 m) ∧ (World.drew (W8.alloc o')).cell? ⟨b10, 3, none⟩ = some (.int .i64 mo) ∧ (World.drew (W8.alloc o')).cell? ⟨b10, 4, none⟩ = some (.int .i64 dk) ∧ (World.drew (W8.alloc o')).cell? ⟨b10, 5, none⟩ = some (.int .i64 dw) ∧ (World.drew (W8.alloc o')).cell? ⟨b10, 6, none⟩ = some (.int .i64 dn) ∧ (World.drew (W8.alloc o')).cell? ⟨b10, 7, none⟩ = some (.int .i64 tm) ∧ (World.drew (W8.alloc o')).cell? ⟨b10, 8, none⟩ = some (.int .i64 ck) ∧ (World.drew (W8.alloc o')).cell? ⟨b10, 9, none⟩ = some (.int .i64 sv) ∧ (World.drew (W8.alloc o')).cell? ⟨b10, 10, none⟩ = some (.string lt) ∧ (World.drew (W8.alloc o')).cell? ⟨b11, 0, none⟩ = some (.string nm2) ∧ (World.drew (W8.alloc o')).cell? ⟨b11, 1, none⟩ = some (.int .i64 (m + 1)) ∧ (World.drew (W8.alloc o')).cell? ⟨b11, 2, none⟩ = some (.int .i64 yt) ∧ (World.drew (W8.alloc o')).cell? ⟨b11, 3, none⟩ = some (.int .i64 mo) ∧ (World.drew (W8.alloc o')).cell? ⟨b11, 4, none⟩ = some (.int .i64 dk) ∧ (World.drew (W8.alloc o')).cell? ⟨b11, 5, none⟩ = some (.int .i64 dw) ∧ (World.drew (W8.alloc o')).cell? ⟨b11, 6, none⟩ = some (.int .i64 dn) ∧ (World.drew (W8.alloc o')).cell? ⟨b11, 7, none⟩ = some (.int .i64 tm) ∧ (World.drew (W8.alloc o')).cell? ⟨b11, 8, none⟩ = some (.int .i64 ck) ∧ (World.drew (W8.alloc o')).cell? ⟨b11, 9, none⟩ = some (.int .i64 sv) ∧ (World.drew (W8.alloc o')).cell? ⟨b11, 10, none⟩ = some (.string lt))) := by
      show ∀ o' : Obj, _
      intro o'
      have h := (SpInv.start HX8.out).alloc o'
      exact KS.out _ ⟨⟨h.b.os, h.b.tape, h.b.output, h.b.size, h.b.block⟩, h.z, h.c, h.lt⟩
    have K1 : Hid (∀ wx o', (SpInv W8 cb (.slice p2 b.zones.length c2) (.slice p3 b.links.length c3) wx ∧ wx.cell? ⟨b0, 0, none⟩ = some (.slice (some ⟨bb, o, none⟩) n c1) ∧ wx.cell? ⟨b10, 0, none⟩ = some (.string nm2) ∧ wx.cell? ⟨b10, 1, none⟩ = some (.int .i64 yf) ∧ wx.cell? ⟨b10, 2, none⟩ = some (.int .i64 m) ∧ wx.cell? ⟨b10, 3, none⟩ = some (.int .i64 mo) ∧ wx.cell? ⟨b10, 4, none⟩ = some (.int .i64 dk) ∧ wx.cell? ⟨b10, 5, none⟩ = some (.int .i64 dw) ∧ wx.cell? ⟨b10, 6, none⟩ = some (.int .i64 dn) ∧ wx.cell? ⟨b10, 7, none⟩ = some (.int .i64 tm) ∧ wx.cell? ⟨b10, 8, none⟩ = some (.int .i64 ck) ∧ wx.cell? ⟨b10, 9, none⟩ = some (.int .i64 sv) ∧ wx.cell? ⟨b10, 10, none⟩ = some (.string lt) ∧ wx.cell? ⟨b11, 0, none⟩ = some (.string nm2) ∧ wx.cell? ⟨b11, 1, none⟩ = some (.int .i64 (m + 1)) ∧ wx.cell? ⟨b11, 2, none⟩ = some (.int .i64 yt) ∧ wx.cell? ⟨b11, 3, none⟩ = some (.int .i64 mo) ∧ wx.cell? ⟨b11, 4, none⟩ = some (.int .i64 dk) ∧ wx.cell? ⟨b11, 5, none⟩ = some (.int .i64 dw) ∧ wx.cell? ⟨b11, 6, none⟩ = some (.int .i64 dn) ∧ wx.cell? ⟨b11, 7, none⟩ = some (.int .i64 tm) ∧ wx.cell? ⟨b11, 8, none⟩ = some (.int .i64 ck) ∧ wx.cell? ⟨b11, 9, none⟩ = some (.int .i64 sv) ∧ wx.cell? ⟨b11, 10, none⟩ = some (.string lt)) → (SpInv W8 cb (.slice p2 b.zones.length c2) (.slice p3 b.links.length c3) (wx.alloc o') ∧ (wx.alloc o').cell? ⟨b0, 0, none⟩ = some (.slice (some ⟨bb, o, none⟩) n c1) ∧ (wx.alloc o').cell? ⟨b10, 0, none⟩ = some (.string nm2) ∧ (wx.alloc o').cell? ⟨b10, 1, none⟩ = some (.int .i64 yf) ∧ (wx.alloc o').cell? ⟨b10, 2, none⟩ = some (.int .i64 m) ∧ (wx.alloc o').cell? ⟨b10, 3, none⟩ = some (.int .i64 mo) ∧ (wx.alloc o').cell? ⟨b10, 4, none⟩ = some (.int .i64 dk) ∧ (wx.alloc o').cell? ⟨b10, 5, none⟩ = some (.int .i64 dw) ∧ (wx.alloc o').cell? ⟨b10, 6, none⟩ = some (.int .i64 dn) ∧ (wx.alloc o').cell? ⟨b10, 7, none⟩ = some (.int .i64 tm) ∧ (wx.alloc o').cell? ⟨b10, 8, none⟩ = some (.int .i64 ck) ∧ (wx.alloc o').cell? ⟨b10, 9, none⟩ = some (.int .i64 sv) ∧ (wx.alloc o').cell? ⟨b10, 10, none⟩ = some (.string lt) ∧ (wx.alloc o').cell? ⟨b11, 0, none⟩ = some (.string nm2) ∧ (wx.alloc o').cell? ⟨b11, 1, none⟩ = some (.int .i64 (m + 1)) ∧ (wx.alloc o').cell? ⟨b11, 2, none⟩ = some (.int .i64 yt) ∧ (wx.alloc o').cell? ⟨b11, 3, none⟩ = some (.int .i64 mo) ∧ (wx.alloc o').cell? ⟨b11, 4, none⟩ = some (.int .i64 dk) ∧ (wx.alloc o').cell? ⟨b11, 5, none⟩ = some (.int .i64 dw) ∧ (wx.alloc o').cell? ⟨b11, 6, none⟩ = some (.int .i64 dn) ∧ (wx.alloc o').cell? ⟨b11, 7, none⟩ = some (.int .i64 tm) ∧ (wx.alloc o').cell? ⟨b11, 8, none⟩ = some (.int .i64 ck) ∧ (wx.alloc o').cell? ⟨b11, 9, none⟩ = some (.int .i64 sv) ∧ (wx.alloc o').cell? ⟨b11, 10, none⟩ = some (.string lt))) := by
      show ∀ wx o', _
      intro wx o' h
      exact KS.out _ ((KI.out _ h).alloc o')
    have K2 : Hid (∀ wx v, (SpInv W8 cb (.slice p2 b.zones.length c2) (.slice p3 b.links.length c3) wx ∧ wx.cell? ⟨b0, 0, none⟩ = some (.slice (some ⟨bb, o, none⟩) n c1) ∧ wx.cell? ⟨b10, 0, none⟩ = some (.string nm2) ∧ wx.cell? ⟨b10, 1, none⟩ = some (.int .i64 yf) ∧ wx.cell? ⟨b10, 2, none⟩ = some (.int .i64 m) ∧ wx.cell? ⟨b10, 3, none⟩ = some (.int .i64 mo) ∧ wx.cell? ⟨b10, 4, none⟩ = some (.int .i64 dk) ∧ wx.cell? ⟨b10, 5, none⟩ = some (.int .i64 dw) ∧ wx.cell? ⟨b10, 6, none⟩ = some (.int .i64 dn) ∧ wx.cell? ⟨b10, 7, none⟩ = some (.int .i64 tm) ∧ wx.cell? ⟨b10, 8, none⟩ = some (.int .i64 ck) ∧ wx.cell? ⟨b10, 9, none⟩ = some (.int .i64 sv) ∧ wx.cell? ⟨b10, 10, none⟩ = some (.string lt) ∧ wx.cell? ⟨b11, 0, none⟩ = some (.string nm2) ∧ wx.cell? ⟨b11, 1, none⟩ = some (.int .i64 (m + 1)) ∧ wx.cell? ⟨b11, 2, none⟩ = some (.int .i64 yt) ∧ wx.cell? ⟨b11, 3, none⟩ = some (.int .i64 mo) ∧ wx.cell? ⟨b11, 4, none⟩ = some (.int .i64 dk) ∧ wx.cell? ⟨b11, 5, none⟩ = some (.int .i64 dw) ∧ wx.cell? ⟨b11, 6, none⟩ = some (.int .i64 dn) ∧ wx.cell? ⟨b11, 7, none⟩ = some (.int .i64 tm) ∧ wx.cell? ⟨b11, 8, none⟩ = some (.int .i64 ck) ∧ wx.cell? ⟨b11, 9, none⟩ = some (.int .i64 sv) ∧ wx.cell? ⟨b11, 10, none⟩ = some (.string lt)) → (SpInv W8 cb (.slice p2 b.zones.length c2) (.slice p3 b.links.length c3) (wx.setCell ⟨cb, 0, none⟩ v) ∧ (wx.setCell ⟨cb, 0, none⟩ v).cell? ⟨b0, 0, none⟩ = some (.slice (some ⟨bb, o, none⟩) n c1) ∧ (wx.setCell ⟨cb, 0, none⟩ v).cell? ⟨b10, 0, none⟩ = some (.string nm2) ∧ (wx.setCell ⟨cb, 0, none⟩ v).cell? ⟨b10, 1, none⟩ = some (.int .i64 yf) ∧ (wx.setCell ⟨cb, 0, none⟩ v).cell? ⟨b10, 2, none⟩ = some (.int .i64 m) ∧ (wx.setCell ⟨cb, 0, none⟩ v).cell? ⟨b10, 3, none⟩ = some (.int .i64 mo) ∧ (wx.setCell ⟨cb, 0, none⟩ v).cell? ⟨b10, 4, none⟩ = some (.int .i64 dk) ∧ (wx.setCell ⟨cb, 0, none⟩ v).cell? ⟨b10, 5, none⟩ = some (.int .i64 dw) ∧ (wx.setCell ⟨cb, 0, none⟩ v).cell? ⟨b10, 6, none⟩ = some (.int .i64 dn) ∧ (wx.setCell ⟨cb, 0, none⟩ v).cell? ⟨b10, 7, none⟩ = some (.int .i64 tm) ∧ (wx.setCell ⟨cb, 0, none⟩ v).cell? ⟨b10, 8, none⟩ = some (.int .i64 ck) ∧ (wx.setCell ⟨cb, 0, none⟩ v).cell? ⟨b10, 9, none⟩ = some (.int .i64 sv) ∧ (wx.setCell ⟨cb, 0, none⟩ v).cell? ⟨b10, 10, none⟩ = some (.string lt) ∧ (wx.setCell ⟨cb, 0, none⟩ v).cell? ⟨b11, 0, none⟩ = some (.string nm2) ∧ (wx.setCell ⟨cb, 0, none⟩ v).cell? ⟨b11, 1, none⟩ = some (.int .i64 (m + 1)) ∧ (wx.setCell ⟨cb, 0, none⟩ v).cell? ⟨b11, 2, none⟩ = some (.int .i64 yt) ∧ (wx.setCell ⟨cb, 0, none⟩ v).cell? ⟨b11, 3, none⟩ = some (.int .i64 mo) ∧ (wx.setCell ⟨cb, 0, none⟩ v).cell? ⟨b11, 4, none⟩ = some (.int .i64 dk) ∧ (wx.setCell ⟨cb, 0, none⟩ v).cell? ⟨b11, 5, none⟩ = some (.int .i64 dw) ∧ (wx.setCell ⟨cb, 0, none⟩ v).cell? ⟨b11, 6, none⟩ = some (.int .i64 dn) ∧ (wx.setCell ⟨cb, 0, none⟩ v).cell? ⟨b11, 7, none⟩ = some (.int .i64 tm) ∧ (wx.setCell ⟨cb, 0, none⟩ v).cell? ⟨b11, 8, none⟩ = some (.int .i64 ck) ∧ (wx.setCell ⟨cb, 0, none⟩ v).cell? ⟨b11, 9, none⟩ = some (.int .i64 sv) ∧ (wx.setCell ⟨cb, 0, none⟩ v).cell? ⟨b11, 10, none⟩ = some (.string lt))) := by
      show ∀ wx v, _
      intro wx v h
      exact KS.out _ ((KI.out _ h).set v)
    have K3 : Hid (∀ (wx wy : World) (row : Option Nat), (SpInv W8 cb (.slice p2 b.zones.length c2) (.slice p3 b.links.length c3) wx ∧ wx.cell? ⟨b0, 0, none⟩ = some (.slice (some ⟨bb, o, none⟩) n c1) ∧ wx.cell? ⟨b10, 0, none⟩ = some (.string nm2) ∧ wx.cell? ⟨b10, 1, none⟩ = some (.int .i64 yf) ∧ wx.cell? ⟨b10, 2, none⟩ = some (.int .i64 m) ∧ wx.cell? ⟨b10, 3, none⟩ = some (.int .i64 mo) ∧ wx.cell? ⟨b10, 4, none⟩ = some (.int .i64 dk) ∧ wx.cell? ⟨b10, 5, none⟩ = some (.int .i64 dw) ∧ wx.cell? ⟨b10, 6, none⟩ = some (.int .i64 dn) ∧ wx.cell? ⟨b10, 7, none⟩ = some (.int .i64 tm) ∧ wx.cell? ⟨b10, 8, none⟩ = some (.int .i64 ck) ∧ wx.cell? ⟨b10, 9, none⟩ = some (.int .i64 sv) ∧ wx.cell? ⟨b10, 10, none⟩ = some (.string lt) ∧ wx.cell? ⟨b11, 0, none⟩ = some (.string nm2) ∧ wx.cell? ⟨b11, 1, none⟩ = some (.int .i64 (m + 1)) ∧ wx.cell? ⟨b11, 2, none⟩ = some (.int .i64 yt) ∧ wx.cell? ⟨b11, 3, none⟩ = some (.int .i64 mo) ∧ wx.cell? ⟨b11, 4, none⟩ = some (.int .i64 dk) ∧ wx.cell? ⟨b11, 5, none⟩ = some (.int .i64 dw) ∧ wx.cell? ⟨b11, 6, none⟩ = some (.int .i64 dn) ∧ wx.cell? ⟨b11, 7, none⟩ = some (.int .i64 tm) ∧ wx.cell? ⟨b11, 8, none⟩ = some (.int .i64 ck) ∧ wx.cell? ⟨b11, 9, none⟩ = some (.int .i64 sv) ∧ wx.cell? ⟨b11, 10, none⟩ = some (.string lt)) → wx.grownBy wy row → (∀ q, row = some q → W8.heap.size ≤ q) → (SpInv W8 cb (.slice p2 b.zones.length c2) (.slice p3 b.links.length c3) wy ∧ wy.cell? ⟨b0, 0, none⟩ = some (.slice (some ⟨bb, o, none⟩) n c1) ∧ wy.cell? ⟨b10, 0, none⟩ = some (.string nm2) ∧ wy.cell? ⟨b10, 1, none⟩ = some (.int .i64 yf) ∧ wy.cell? ⟨b10, 2, none⟩ = some (.int .i64 m) ∧ wy.cell? ⟨b10, 3, none⟩ = some (.int .i64 mo) ∧ wy.cell? ⟨b10, 4, none⟩ = some (.int .i64 dk) ∧ wy.cell? ⟨b10, 5, none⟩ = some (.int .i64 dw) ∧ wy.cell? ⟨b10, 6, none⟩ = some (.int .i64 dn) ∧ wy.cell? ⟨b10, 7, none⟩ = some (.int .i64 tm) ∧ wy.cell? ⟨b10, 8, none⟩ = some (.int .i64 ck) ∧ wy.cell? ⟨b10, 9, none⟩ = some (.int .i64 sv) ∧ wy.cell? ⟨b10, 10, none⟩ = some (.string lt) ∧ wy.cell? ⟨b11, 0, none⟩ = some (.string nm2) ∧ wy.cell? ⟨b11, 1, none⟩ = some (.int .i64 (m + 1)) ∧ wy.cell? ⟨b11, 2, none⟩ = some (.int .i64 yt) ∧ wy.cell? ⟨b11, 3, none⟩ = some (.int .i64 mo) ∧ wy.cell? ⟨b11, 4, none⟩ = some (.int .i64 dk) ∧ wy.cell? ⟨b11, 5, none⟩ = some (.int .i64 dw) ∧ wy.cell? ⟨b11, 6, none⟩ = some (.int .i64 dn) ∧ wy.cell? ⟨b11, 7, none⟩ = some (.int .i64 tm) ∧ wy.cell? ⟨b11, 8, none⟩ = some (.int .i64 ck) ∧ wy.cell? ⟨b11, 9, none⟩ = some (.int .i64 sv) ∧ wy.cell? ⟨b11, 10, none⟩ = some (.string lt))) := by
      show ∀ wx wy row, _
      intro wx wy row h hg hr
      exact KS.out _ ((KI.out _ h).grown hg hr)
    have KO : Hid (∀ (wx : World) (v : Value) (c : Nat) (xs : List Value), wx.ownsRow W8.heap.size 34 11 v c xs → ∀ q, v.ownBlock = some q → W8.heap.size ≤ q) := by
      show ∀ wx v c xs, _
      intro wx v c xs h q e
      exact (World.ownsRow.lt h q e).1
    have KF : Hid (∀ wx, (SpInv W8 cb (.slice p2 b.zones.length c2) (.slice p3 b.links.length c3) wx ∧ wx.cell? ⟨b0, 0, none⟩ = some (.slice (some ⟨bb, o, none⟩) n c1) ∧ wx.cell? ⟨b10, 0, none⟩ = some (.string nm2) ∧ wx.cell? ⟨b10, 1, none⟩ = some (.int .i64 yf) ∧ wx.cell? ⟨b10, 2, none⟩ = some (.int .i64 m) ∧ wx.cell? ⟨b10, 3, none⟩ = some (.int .i64 mo) ∧ wx.cell? ⟨b10, 4, none⟩ = some (.int .i64 dk) ∧ wx.cell? ⟨b10, 5, none⟩ = some (.int .i64 dw) ∧ wx.cell? ⟨b10, 6, none⟩ = some (.int .i64 dn) ∧ wx.cell? ⟨b10, 7, none⟩ = some (.int .i64 tm) ∧ wx.cell? ⟨b10, 8, none⟩ = some (.int .i64 ck) ∧ wx.cell? ⟨b10, 9, none⟩ = some (.int .i64 sv) ∧ wx.cell? ⟨b10, 10, none⟩ = some (.string lt) ∧ wx.cell? ⟨b11, 0, none⟩ = some (.string nm2) ∧ wx.cell? ⟨b11, 1, none⟩ = some (.int .i64 (m + 1)) ∧ wx.cell? ⟨b11, 2, none⟩ = some (.int .i64 yt) ∧ wx.cell? ⟨b11, 3, none⟩ = some (.int .i64 mo) ∧ wx.cell? ⟨b11, 4, none⟩ = some (.int .i64 dk) ∧ wx.cell? ⟨b11, 5, none⟩ = some (.int .i64 dw) ∧ wx.cell? ⟨b11, 6, none⟩ = some (.int .i64 dn) ∧ wx.cell? ⟨b11, 7, none⟩ = some (.int .i64 tm) ∧ wx.cell? ⟨b11, 8, none⟩ = some (.int .i64 ck) ∧ wx.cell? ⟨b11, 9, none⟩ = some (.int .i64 sv) ∧ wx.cell? ⟨b11, 10, none⟩ = some (.string lt)) → wx.frozen? ⟨cb, 0, none⟩ = false) := by
      show ∀ wx, _
      intro wx h
      obtain ⟨x, hc⟩ := h.1.c
      simp [World.frozen?, hc]
    have KC : Hid (∀ wx, (SpInv W8 cb (.slice p2 b.zones.length c2) (.slice p3 b.links.length c3) wx ∧ wx.cell? ⟨b0, 0, none⟩ = some (.slice (some ⟨bb, o, none⟩) n c1) ∧ wx.cell? ⟨b10, 0, none⟩ = some (.string nm2) ∧ wx.cell? ⟨b10, 1, none⟩ = some (.int .i64 yf) ∧ wx.cell? ⟨b10, 2, none⟩ = some (.int .i64 m) ∧ wx.cell? ⟨b10, 3, none⟩ = some (.int .i64 mo) ∧ wx.cell? ⟨b10, 4, none⟩ = some (.int .i64 dk) ∧ wx.cell? ⟨b10, 5, none⟩ = some (.int .i64 dw) ∧ wx.cell? ⟨b10, 6, none⟩ = some (.int .i64 dn) ∧ wx.cell? ⟨b10, 7, none⟩ = some (.int .i64 tm) ∧ wx.cell? ⟨b10, 8, none⟩ = some (.int .i64 ck) ∧ wx.cell? ⟨b10, 9, none⟩ = some (.int .i64 sv) ∧ wx.cell? ⟨b10, 10, none⟩ = some (.string lt) ∧ wx.cell? ⟨b11, 0, none⟩ = some (.string nm2) ∧ wx.cell? ⟨b11, 1, none⟩ = some (.int .i64 (m + 1)) ∧ wx.cell? ⟨b11, 2, none⟩ = some (.int .i64 yt) ∧ wx.cell? ⟨b11, 3, none⟩ = some (.int .i64 mo) ∧ wx.cell? ⟨b11, 4, none⟩ = some (.int .i64 dk) ∧ wx.cell? ⟨b11, 5, none⟩ = some (.int .i64 dw) ∧ wx.cell? ⟨b11, 6, none⟩ = some (.int .i64 dn) ∧ wx.cell? ⟨b11, 7, none⟩ = some (.int .i64 tm) ∧ wx.cell? ⟨b11, 8, none⟩ = some (.int .i64 ck) ∧ wx.cell? ⟨b11, 9, none⟩ = some (.int .i64 sv) ∧ wx.cell? ⟨b11, 10, none⟩ = some (.string lt)) → ∃ x, wx.cell? ⟨cb, 0, none⟩ = some x) := by
      show ∀ wx, _
      intro wx h
      obtain ⟨x, hc⟩ := h.1.c
      exact ⟨x, (cell_of_row wx _ 0 _ _ _ hc).trans rfl⟩
    have j0 : k ≤ c1 := by omega
    have j1 : (k : Int) ≤ (c1 : Int) := by omega
    have j2 : IntKind.i64.wrap ((k : Int) + 1) = (k : Int) + 1 := IntWalk.i64_in _ (by omega)
    have j3 : (0 : Int) ≤ (k : Int) + 1 := by omega
    have j4 : (k : Int) + 1 ≤ (n : Int) := by omega
    have j5 : ((k : Int) + 1).toNat = k + 1 := by omega
    have j6 : k + 1 ≤ n := by omega
    have j7 : n ≤ c1 := by omega
    have j8 : (n : Int) ≤ (c1 : Int) := by omega
    have KFIN : Hid (∀ (w3 : World) (v3 : Value), (SpInv W8 cb (.slice p2 b.zones.length c2) (.slice p3 b.links.length c3) w3 ∧ w3.cell? ⟨b0, 0, none⟩ = some (.slice (some ⟨bb, o, none⟩) n c1) ∧ w3.cell? ⟨b10, 0, none⟩ = some (.string nm2) ∧ w3.cell? ⟨b10, 1, none⟩ = some (.int .i64 yf) ∧ w3.cell? ⟨b10, 2, none⟩ = some (.int .i64 m) ∧ w3.cell? ⟨b10, 3, none⟩ = some (.int .i64 mo) ∧ w3.cell? ⟨b10, 4, none⟩ = some (.int .i64 dk) ∧ w3.cell? ⟨b10, 5, none⟩ = some (.int .i64 dw) ∧ w3.cell? ⟨b10, 6, none⟩ = some (.int .i64 dn) ∧ w3.cell? ⟨b10, 7, none⟩ = some (.int .i64 tm) ∧ w3.cell? ⟨b10, 8, none⟩ = some (.int .i64 ck) ∧ w3.cell? ⟨b10, 9, none⟩ = some (.int .i64 sv) ∧ w3.cell? ⟨b10, 10, none⟩ = some (.string lt) ∧ w3.cell? ⟨b11, 0, none⟩ = some (.string nm2) ∧ w3.cell? ⟨b11, 1, none⟩ = some (.int .i64 (m + 1)) ∧ w3.cell? ⟨b11, 2, none⟩ = some (.int .i64 yt) ∧ w3.cell? ⟨b11, 3, none⟩ = some (.int .i64 mo) ∧ w3.cell? ⟨b11, 4, none⟩ = some (.int .i64 dk) ∧ w3.cell? ⟨b11, 5, none⟩ = some (.int .i64 dw) ∧ w3.cell? ⟨b11, 6, none⟩ = some (.int .i64 dn) ∧ w3.cell? ⟨b11, 7, none⟩ = some (.int .i64 tm) ∧ w3.cell? ⟨b11, 8, none⟩ = some (.int .i64 ck) ∧ w3.cell? ⟨b11, 9, none⟩ = some (.int .i64 sv) ∧ w3.cell? ⟨b11, 10, none⟩ = some (.string lt)) → w3.ownsRow W8.heap.size 34 11 v3 (k + 2 + (n - (k + 1))) ((ruFlat (b.rules.take k) ++ [.string nm2, .int .i64 yf, .int .i64 m, .int .i64 mo, .int .i64 dk, .int .i64 dw, .int .i64 dn, .int .i64 tm, .int .i64 ck, .int .i64 sv, .string lt, .string nm2, .int .i64 (m + 1), .int .i64 yt, .int .i64 mo, .int .i64 dk, .int .i64 dw, .int .i64 dn, .int .i64 tm, .int .i64 ck, .int .i64 sv, .string lt]) ++ ruFlat (b.rules.drop (k + 1))) → (w3.setCell ⟨cb, 0, none⟩ v3).ownsRow W8.heap.size 34 11 v3 (n + 1) ((ruFlat (b.rules.take k) ++ [.string nm2, .int .i64 yf, .int .i64 m, .int .i64 mo, .int .i64 dk, .int .i64 dw, .int .i64 dn, .int .i64 tm, .int .i64 ck, .int .i64 sv, .string lt, .string nm2, .int .i64 (m + 1), .int .i64 yt, .int .i64 mo, .int .i64 dk, .int .i64 dw, .int .i64 dn, .int .i64 tm, .int .i64 ck, .int .i64 sv, .string lt]) ++ ruFlat (b.rules.drop (k + 1))) ∧ (w3.setCell ⟨cb, 0, none⟩ v3).heap[cb]? = some (.cells #[v3, .slice p2 b.zones.length c2, .slice p3 b.links.length c3] 26 (0, 0)) ∧ Below cb W8 (w3.setCell ⟨cb, 0, none⟩ v3)) := by
      show ∀ w3 v3, _
      intro w3 v3 h hown
      rw [show k + 2 + (n - (k + 1)) = n + 1 by omega] at hown
      obtain ⟨x, hc⟩ := h.1.c
      refine ⟨own_keep hown fun g e => Below.heap_setCell _ _ _ _ (fun e2 => ?_), ?_, (h.1.b).setCell (Nat.le_refl _) _⟩
      · have h1 := (World.ownsRow.lt hown g e).1
        have h2 := h.1.lt
        have e2 : g = cb := e2
        omega
      · rw [heap_setCell_same w3 cb 0 _ _ _ hc]; rfl
    clear en
    have hadx : ∃ ad : Addr, (if c1 = k + 1 then some (⟨bb, o, none⟩ : Addr) else some ⟨bb, o + (k + 1) * 11, none⟩) = some ad ∧ Hid (∀ wx, Below cb W8 wx → ∀ j u, (ruFlat (b.rules.drop (k + 1)))[j]? = some u → wx.cell? (ad.add j) = some u) := by
      by_cases hcc : c1 = k + 1
      · refine ⟨⟨bb, o, none⟩, if_pos hcc, ?_⟩
        show ∀ wx, _
        intro wx hb j u hu
        rw [List.drop_eq_nil_of_le (by have := EN.out; omega)] at hu
        cases hu
      · exact ⟨⟨bb, o + (k + 1) * 11, none⟩, if_neg hcc, KN3⟩
    clear KN3
    obtain ⟨ad, had, KN3⟩ := hadx
    have HAD := Lib.hid had
    clear had
    go_region_held3 (fun wx => (SpInv W8 cb (.slice p2 b.zones.length c2) (.slice p3 b.links.length c3) wx ∧ wx.cell? ⟨b0, 0, none⟩ = some (.slice (some ⟨bb, o, none⟩) n c1) ∧ wx.cell? ⟨b10, 0, none⟩ = some (.string nm2) ∧ wx.cell? ⟨b10, 1, none⟩ = some (.int .i64 yf) ∧ wx.cell? ⟨b10, 2, none⟩ = some (.int .i64 m) ∧ wx.cell? ⟨b10, 3, none⟩ = some (.int .i64 mo) ∧ wx.cell? ⟨b10, 4, none⟩ = some (.int .i64 dk) ∧ wx.cell? ⟨b10, 5, none⟩ = some (.int .i64 dw) ∧ wx.cell? ⟨b10, 6, none⟩ = some (.int .i64 dn) ∧ wx.cell? ⟨b10, 7, none⟩ = some (.int .i64 tm) ∧ wx.cell? ⟨b10, 8, none⟩ = some (.int .i64 ck) ∧ wx.cell? ⟨b10, 9, none⟩ = some (.int .i64 sv) ∧ wx.cell? ⟨b10, 10, none⟩ = some (.string lt) ∧ wx.cell? ⟨b11, 0, none⟩ = some (.string nm2) ∧ wx.cell? ⟨b11, 1, none⟩ = some (.int .i64 (m + 1)) ∧ wx.cell? ⟨b11, 2, none⟩ = some (.int .i64 yt) ∧ wx.cell? ⟨b11, 3, none⟩ = some (.int .i64 mo) ∧ wx.cell? ⟨b11, 4, none⟩ = some (.int .i64 dk) ∧ wx.cell? ⟨b11, 5, none⟩ = some (.int .i64 dw) ∧ wx.cell? ⟨b11, 6, none⟩ = some (.int .i64 dn) ∧ wx.cell? ⟨b11, 7, none⟩ = some (.int .i64 tm) ∧ wx.cell? ⟨b11, 8, none⟩ = some (.int .i64 ck) ∧ wx.cell? ⟨b11, 9, none⟩ = some (.int .i64 sv) ∧ wx.cell? ⟨b11, 10, none⟩ = some (.string lt))) (first | (with_reducible exact K0.out) | (with_reducible exact K0d.out _) | (with_reducible assumption) | (with_reducible exact K1.out _ _ (by assumption)) | (with_reducible exact K2.out _ _ (by assumption))) (first | (refine step_append_ownA _ (by rfl) _ _ _ (by rfl) W8.heap.size 34 i1 (.agg #[.string ⟨#[]⟩, .int .i64 0, .int .i64 0, .int .i64 0, .int .i64 0, .int .i64 0, .int .i64 0, .int .i64 0, .int .i64 0, .int .i64 0, .string ⟨#[]⟩]) 11 104 undRu hi1 hz10 hz11 hz12 rfl (by decide) (.slice none 0 0) 0 ([]) (by rfl) (World.ownsRow_nil _ _ _ _) ⟨bb, o, none⟩ k c1 (ruFlat (b.rules.take k)) (by rfl) HL1.out (KN1.out _ (KR.out _ (by assumption))) HO1.out hm1a hm1b (KZ.out _ (by assumption)) ?_; intro v1 w1 hown1 hg1 _; have hs1 := K3.out _ _ _ (by assumption) hg1 (fun q e => by cases e); have HOW1 := Lib.hid (row_nil hown1); clear hown1; have hnb := World.news_of_block ((hg1.block W8.heap.size (by simp) (fun e => by cases e)).trans (heap_alloc_new W8 (.cells #[.string nm2, .int .i64 yf, .int .i64 m, .int .i64 mo, .int .i64 dk, .int .i64 dw, .int .i64 dn, .int .i64 tm, .int .i64 ck, .int .i64 sv, .string lt, .string nm2, .int .i64 (m + 1), .int .i64 yt, .int .i64 mo, .int .i64 dk, .int .i64 dw, .int .i64 dn, .int .i64 tm, .int .i64 ck, .int .i64 sv, .string lt] 34))); have HNB := Lib.hid hnb; clear hnb) | (refine step_append_ownA _ (by rfl) _ _ _ (by rfl) W8.heap.size 34 i1 (.agg #[.string ⟨#[]⟩, .int .i64 0, .int .i64 0, .int .i64 0, .int .i64 0, .int .i64 0, .int .i64 0, .int .i64 0, .int .i64 0, .int .i64 0, .string ⟨#[]⟩]) 11 104 undRu hi1 hz10 hz11 hz12 rfl (by decide) (.slice none 0 0) 0 ([]) (by rfl) (World.ownsRow_nil _ _ _ _) ⟨bb, o, none⟩ k c1 (ruFlat (b.rules.take k)) (by rfl) HL1.out (KN1.out _ (KR.out _ (by assumption))) HO1.out hm1a hm1b (KZ.out _ (by assumption)) ?_; intro v1 w1 hown1 hg1 _; have hs1 := K3.out _ _ _ (by assumption) hg1 (fun q e => by cases e); have HOW1 := Lib.hid (row_nil hown1); clear hown1) | (refine step_append_ownA _ (by rfl) _ _ _ (by rfl) W8.heap.size 34 i1 (.agg #[.string ⟨#[]⟩, .int .i64 0, .int .i64 0, .int .i64 0, .int .i64 0, .int .i64 0, .int .i64 0, .int .i64 0, .int .i64 0, .int .i64 0, .string ⟨#[]⟩]) 11 104 undRu hi1 hz10 hz11 hz12 rfl (by decide) (v1) k (ruFlat (b.rules.take k)) (by rfl) (HOW1.out) ⟨W8.heap.size, 0, none⟩ 2 2 ([.string nm2, .int .i64 yf, .int .i64 m, .int .i64 mo, .int .i64 dk, .int .i64 dw, .int .i64 dn, .int .i64 tm, .int .i64 ck, .int .i64 sv, .string lt, .string nm2, .int .i64 (m + 1), .int .i64 yt, .int .i64 mo, .int .i64 dk, .int .i64 dw, .int .i64 dn, .int .i64 tm, .int .i64 ck, .int .i64 sv, .string lt]) (by rfl) rfl (HNB.out) HO2.out hm2a hm2b (KZ.out _ (by assumption)) ?_; intro v2 w2 hown2 hg2 _; have hs2 := K3.out _ _ _ (by assumption) hg2 (KO.out _ _ _ _ HOW1.out); have HOW2 := Lib.hid hown2; clear hown2) | (refine step_append_ownA _ (by rfl) _ _ _ (by rfl) W8.heap.size 34 i1 (.agg #[.string ⟨#[]⟩, .int .i64 0, .int .i64 0, .int .i64 0, .int .i64 0, .int .i64 0, .int .i64 0, .int .i64 0, .int .i64 0, .int .i64 0, .string ⟨#[]⟩]) 11 104 undRu hi1 hz10 hz11 hz12 rfl (by decide) (v1) k (ruFlat (b.rules.take k)) (by rfl) (World.ownsRow.alloc HOW1.out _) ⟨w1.heap.size, 0, none⟩ 2 2 ([.string nm2, .int .i64 yf, .int .i64 m, .int .i64 mo, .int .i64 dk, .int .i64 dw, .int .i64 dn, .int .i64 tm, .int .i64 ck, .int .i64 sv, .string lt, .string nm2, .int .i64 (m + 1), .int .i64 yt, .int .i64 mo, .int .i64 dk, .int .i64 dw, .int .i64 dn, .int .i64 tm, .int .i64 ck, .int .i64 sv, .string lt]) (by rfl) rfl (World.news_of_block (heap_alloc_new w1 (.cells #[.string nm2, .int .i64 yf, .int .i64 m, .int .i64 mo, .int .i64 dk, .int .i64 dw, .int .i64 dn, .int .i64 tm, .int .i64 ck, .int .i64 sv, .string lt, .string nm2, .int .i64 (m + 1), .int .i64 yt, .int .i64 mo, .int .i64 dk, .int .i64 dw, .int .i64 dn, .int .i64 tm, .int .i64 ck, .int .i64 sv, .string lt] 34))) HO2.out hm2a hm2b (KZ.out _ (by assumption)) ?_; intro v2 w2 hown2 hg2 _; have hs2 := K3.out _ _ _ (by assumption) hg2 (KO.out _ _ _ _ HOW1.out); have HOW2 := Lib.hid hown2; clear hown2) | (refine step_append_ownO _ (by rfl) _ _ _ (by rfl) W8.heap.size 34 i1 (.agg #[.string ⟨#[]⟩, .int .i64 0, .int .i64 0, .int .i64 0, .int .i64 0, .int .i64 0, .int .i64 0, .int .i64 0, .int .i64 0, .int .i64 0, .string ⟨#[]⟩]) 11 104 undRu hi1 hz10 hz11 hz12 rfl (by decide) v2 (k + 2) (ruFlat (b.rules.take k) ++ [.string nm2, .int .i64 yf, .int .i64 m, .int .i64 mo, .int .i64 dk, .int .i64 dw, .int .i64 dn, .int .i64 tm, .int .i64 ck, .int .i64 sv, .string lt, .string nm2, .int .i64 (m + 1), .int .i64 yt, .int .i64 mo, .int .i64 dk, .int .i64 dw, .int .i64 dn, .int .i64 tm, .int .i64 ck, .int .i64 sv, .string lt]) (by rfl) HOW2.out _ (n - (k + 1)) (c1 - (k + 1)) (by rfl) ad HAD.out (ruFlat (b.rules.drop (k + 1))) HL3.out (KN3.out _ (KR.out _ (by assumption))) HO3.out hm3a hm3b (KZ.out _ (by assumption)) ?_; intro v3 w3 hown3 hg3 _; obtain ⟨A9, c9, rfl⟩ := own_sliceN hown3; have hs3 := K3.out _ _ _ (by assumption) hg3 (KO.out _ _ _ _ HOW2.out); have HOW3 := Lib.hid hown3; have hf3 := KF.out _ hs3; obtain ⟨x3, hc3⟩ := KC.out _ hs3; clear hown3))
    all_goals rw [HAD.out]
    all_goals go_wp2_with fail
    all_goals go_meet
    all_goals
      obtain ⟨f1, f2, f3⟩ := KFIN.out _ _ (by assumption) HOW3.out
      exact ⟨_, Lib.hid f1, Lib.hid f2, Lib.hid f3⟩
  case rest =>
  clear en
  obtain ⟨v3, HOW, HXC, HB9⟩ := hcut
  obtain ⟨W9, eW9⟩ : ∃ W9, wc = W9 := ⟨_, rfl⟩
  rw [eW9] at HOW HXC HB9 ⊢
  clear eW9 wc
  have h0c : b0 + 1 ≤ cb := by omega
  have HA9 := Lib.hid (HA8.out.trans (HB9.out.mono h0c))
  have HW9 := Lib.hid (HB0.out.trans (HA9.out.mono (Nat.le_succ _)))
  have h9c : b9 < cb := by omega
  have hx9 := (HB9.out.block b9 h9c).trans HX98.out
  have HX99 := Lib.hid hx9
  have y0 : W9.cell? ⟨b9, 0, none⟩ = some (.string nm2) := (cell_of_row W9 _ 0 _ _ _ hx9).trans rfl
  obtain ⟨g0, g1, g2⟩ := HBX.out W9 HA9.out
  have hz9 : cb < W9.heap.size := (Array.getElem?_eq_some_iff.mp HXC.out).1
  have hlr := HLR.out
  obtain ⟨L, eL⟩ : ∃ L, b.rules.take k ++ loR ⟨nm2, yf, yt, mo, dk, dw, dn, tm, ck, sv, lt⟩ m :: hiR ⟨nm2, yf, yt, mo, dk, dw, dn, tm, ck, sv, lt⟩ m :: b.rules.drop (k + 1) = L := ⟨_, rfl⟩
  have hsl : ∀ r ∈ L, SzR r := by
    intro r hr
    rw [← eL] at hr
    rcases List.mem_append.1 hr with hr | hr
    · exact HSZ.out r (List.mem_of_mem_take hr)
    · rcases List.mem_cons.1 hr with rfl | hr
      · exact HQSZ.out
      · rcases List.mem_cons.1 hr with rfl | hr
        · exact HQSZ.out
        · exact HSZ.out r (List.mem_of_mem_drop hr)
  rw [eL] at hlr HLAW
  have hown := HOW.out
  rw [← hlr.2, ← hlr.1] at hown
  have hrows : RowsAt ruL 11 W9.heap.size W9 v3 L := own_rowsG (cells := ruL) (k := 11) (fun _ => rfl) hown (by rw [hlr.1]; omega)
  have HBC : Hid (∀ W, Below W9.heap.size W9 W → BookAt W.heap.size W v3 (.slice p2 b.zones.length c2) (.slice p3 b.links.length c3) ⟨L, b.zones, b.links⟩) := by
    show ∀ W, _
    intro W hb
    have h := HBK.out W (HW9.out.trans (hb.mono (by omega)))
    exact ⟨(hrows.below hb (Nat.le_refl _)).mono hb.size, h.z, h.e, h.l, hsl, HZL.out.1, HZL.out.2⟩
  have HO1 := Lib.hid (Of_book MK b _ _ _ nm2 (of1 - 64800) W9 (HBK.out W9 HW9.out) (HTM.out W9 HW9.out).1 (HTM.out W9 HW9.out).2)
  have hof := HLAW.out
  have hofl := ofR_len b nm2 (of1 - 64800)
  obtain ⟨Z, eZ⟩ : ∃ Z, ofR b nm2 (of1 - 64800) = Z := ⟨_, rfl⟩
  have hof2 : ofR ⟨L, b.zones, b.links⟩ nm2 (of1 - 64800) = Z := by rw [← eZ]; exact hof
  rw [eZ] at HO1 hofl
  have HO2 : Hid (∀ W, Below W9.heap.size W9 W → Calls Tryd.prog 9 #[.agg #[v3, .slice p2 b.zones.length c2, .slice p3 b.links.length c3], .string nm2, .int .i64 (of1 - 64800)] W (TnPost Z W)) := by
    show ∀ W, _
    intro W hb
    have hw := HW9.out.trans (hb.mono (show b0 ≤ W9.heap.size by omega))
    have h := Of_book MK ⟨L, b.zones, b.links⟩ _ _ _ nm2 (of1 - 64800) W (HBC.out W hb) (HTM.out W hw).1 (HTM.out W hw).2
    rw [hof2] at h
    exact h
  obtain ⟨C, T⟩ := Z
  simp only at hofl
  clear hx9 hlr eL hown hrows hof eZ hof2 HLAW HBC HCS HOW HLR
  go_wp2_with fail
  refine HO1.out.mono ?_
  rintro e w10 ⟨v10, rfl, hown10, hb10⟩
  simp only at hown10 ⊢
  have HB10 := Lib.hid hb10
  have HR10 := Lib.hid (own_rowsT hown10 (by omega))
  obtain ⟨A10, c10, rfl⟩ := own_sliceN hown10
  have hx10 := (hb10.block b9 (by omega)).trans HX99.out
  have hxc10 := (hb10.block cb hz9).trans HXC.out
  have y0 : w10.cell? ⟨b9, 0, none⟩ = some (.string nm2) := (cell_of_row w10 _ 0 _ _ _ hx10).trans rfl
  have u0 : w10.cell? ⟨cb, 0, none⟩ = some v3 := (cell_of_row w10 _ 0 _ _ _ hxc10).trans rfl
  have u1 : w10.cell? ⟨cb, 1, none⟩ = some (.slice p2 b.zones.length c2) := (cell_of_row w10 _ 1 _ _ _ hxc10).trans rfl
  have u2 : w10.cell? ⟨cb, 2, none⟩ = some (.slice p3 b.links.length c3) := (cell_of_row w10 _ 2 _ _ _ hxc10).trans rfl
  have HO3 := Lib.hid (HO2.out w10 hb10)
  clear hown10 hb10 hx10 hxc10 g0 g1 g2 HO1 HO2 HXC HX99
  go_wp2_with fail
  refine HO3.out.mono ?_
  rintro e w11 ⟨v11, rfl, hown11, hb11⟩
  simp only at hown11 ⊢
  have HB11 := Lib.hid (HB10.out.trans (hb11.mono HB10.out.size))
  have hr11 := own_rowsT hown11 (by omega)
  obtain ⟨A11, c11, rfl⟩ := own_sliceN hown11
  have HEQ := Lib.hid (EqTn_self T _ _ w11 ((HR10.out.below hb11 (Nat.le_refl _)).mono hb11.size) hr11)
  have hcc : (C == C) = true := beq_self_eq_true _
  clear hown11 hb11 hr11 HO3 HR10 u0 u1 u2 y0
  go_wp2_with fail
  refine HEQ.out.mono ?_
  rintro e w12 ⟨rfl, hb12⟩
  have hfin := HW9.out.trans ((HB11.out.trans (hb12.mono HB11.out.size)).mono (show b0 ≤ W9.heap.size by omega))
  rw [← HEB.out] at hfin
  go_wp2_with fail
  go_ret
  exact ⟨rfl, hfin⟩
end Go.Proofs.YtmpeplimiaaehaaDoor
