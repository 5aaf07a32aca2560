/- clock.Floor: what it returns. clock.Stamp: what it returns. rite.At: its memory; a time that is too far. rule.IsName: what it returns. rule: what Check returns: the plain mathematics. Numbers as digits, cuts and beginnings of texts: plain Lean. SpanOdd: its walk. SpanHours: its walk. book: what Abbr and Check return: plain functions. book.within, isLetter, split: what each returns. book.split: what it returns. -/
import Derived.Test.YtacogloheiendaaGreatDoorS01
import Derived.Test.YtacogloheiendaaGreatDoorCiv3a
import Derived.Lib.Hide
import Derived.Lib.SmallJoins
import Derived.Lib.IndexMore
import Derived.Lib.Strings
import Derived.Test.YtacogloheiendaaGreatDoorCiv2
import Derived.Handy
namespace Go.Proofs.YtacogloheiendaaGreatDoor
open Go.RowKit Go.Joins
set_option linter.unusedVariables false
set_option linter.unusedSimpArgs false

theorem floor_div (n m : Int) (h0 : 0 < m) (h : n.tmod m < 0) : n.tdiv m - 1 = n / m := by
  have q := Int.tmod_eq_emod (a := n) (b := m)
  have e1 := Int.tdiv_mul_add_tmod n m
  have e2 := Int.ediv_mul_add_emod n m
  have h3 : (m.natAbs : Int) = m := by omega
  split at q
  · have := Int.emod_nonneg n (show m ≠ 0 by omega); omega
  · have e3 : (n.tdiv m - 1 - n / m) * m = 0 := by
      rw [Int.sub_mul, Int.sub_mul, Int.one_mul]; omega
    rcases Int.mul_eq_zero.1 e3 with h | h <;> omega
theorem floor_div' (n m : Int) (h0 : 0 < m) (h : 0 ≤ n.tmod m) : n.tdiv m = n / m := by
  have q := rest_pos n m h0 h
  have e1 := Int.tdiv_mul_add_tmod n m
  have e2 := Int.ediv_mul_add_emod n m
  have e3 : (n.tdiv m - n / m) * m = 0 := by
    rw [Int.sub_mul]; omega
  rcases Int.mul_eq_zero.1 e3 with h | h <;> omega

theorem tdiv_small (n m : Int) (h0 : 1 < m) (h1 : -9223372036854775808 ≤ n) (h2 : n ≤ 9223372036854775807) : -4611686018427387904 ≤ n.tdiv m ∧ n.tdiv m ≤ 4611686018427387904 := by
  have e1 := Int.natAbs_tdiv_le_natAbs n m
  have e2 := Int.tdiv_mul_add_tmod n m
  have e3 : n.natAbs / m.natAbs = (n.tdiv m).natAbs := (Int.natAbs_tdiv n m).symm
  have e4 : n.natAbs / m.natAbs ≤ n.natAbs / 2 := Nat.div_le_div_left (by omega) (by omega)
  omega

/-- clock.Floor -/
theorem Floor_any (n m : Int) (w : World) (h0 : 1 < m) (h1 : m ≤ 1099511627776) (hn1 : -9223372036854775808 ≤ n) (hn2 : n ≤ 9223372036854775807) :
    Calls Tryz.prog 25 #[.int .i64 n, .int .i64 m] w fun e w' => e = .returned (.tuple #[.int .i64 (n / m), .int .i64 (n % m)]) ∧ Below w.heap.size w w' := by
  have hh : m ≤ 4611686018427387904 := by omega
  have hz : (m == 0) = false := by simp; omega
  have hz2 : m ≠ 0 := by omega
  have hz3 : m ≠ -1 := by omega
  have ht := tdiv_small n m h0 hn1 hn2
  have e0 : wrap64 (n.tdiv m) = n.tdiv m := IntWalk.wrap64_in _ ⟨by omega, by omega⟩
  have e1 : wrap64 (n.tdiv m - 1) = n.tdiv m - 1 := IntWalk.wrap64_in _ ⟨by omega, by omega⟩
  go_enter Tryz.func25, Tryz.ntmps25
  go_wp2
  go_quiet (fail)
  go_wp2
  · go_ret2
    exact ⟨ret_2 (floor_div n m (by omega) (by assumption)) (rest_neg n m (by omega) hh (by assumption)), below_drewN' (Below.refl _ _) _⟩
  · go_ret2
    exact ⟨ret_2 (floor_div' n m (by omega) (by assumption)) (rest_pos n m (by omega) (by assumption)), below_drewN' (Below.refl _ _) _⟩

end Go.Proofs.YtacogloheiendaaGreatDoor
namespace Go.Proofs.YtacogloheiendaaGreatDoor
open Go.RowKit Go.Joins
set_option linter.unusedVariables false
set_option linter.unusedSimpArgs false

theorem cat9 (y m d p q r : List UInt8) : txt y ++ ⟨#[45]⟩ ++ txt m ++ ⟨#[45]⟩ ++ txt d ++ ⟨#[84]⟩ ++ txt p ++ ⟨#[58]⟩ ++ txt q ++ ⟨#[58]⟩ ++ txt r = txt (y ++ ([45] ++ (m ++ ([45] ++ (d ++ ([84] ++ (p ++ ([58] ++ (q ++ ([58] ++ r)))))))))) := by
  rw [show (⟨#[45]⟩ : ByteArray) = txt [45] from rfl, show (⟨#[58]⟩ : ByteArray) = txt [58] from rfl, show (⟨#[84]⟩ : ByteArray) = txt [84] from rfl]
  simp only [txt_append]
  simp

set_option maxRecDepth 100000 in
set_option maxHeartbeats 1000000 in
theorem Stamp_ok (t : Int) (w : World) (h1 : -135140 ≤ t / 86400) (h2 : t / 86400 ≤ 157053) (ht : Tab10 w) :
    Calls Tryz.prog 24 #[.int .i64 t] w fun e w' => e = .returned (.tuple #[.string (txt (stampT t)), .int .i64 0]) ∧ Below w.heap.size w w' := by
  have HT := Lib.hid ht
  clear ht
  have hn1 : -9223372036854775808 ≤ t := by omega
  have hn2 : t ≤ 9223372036854775807 := by omega
  have hF := fun W => Floor_any t 86400 W (by decide) (by decide) hn1 hn2
  clear hn1 hn2
  have hr0 : 0 ≤ t % 86400 := by omega
  have hr1 : t % 86400 < 86400 := by omega
  have hst : stampT t = dateT (t / 86400) ++ clockT (t % 86400) := stamp_two t
  obtain ⟨n, en⟩ : ∃ n, t / 86400 = n := ⟨_, rfl⟩
  obtain ⟨r, er⟩ : ∃ r, t % 86400 = r := ⟨_, rfl⟩
  simp only [en] at h1 h2 hF hst
  simp only [er] at hr0 hr1 hF hst
  have HST := Lib.hid hst
  have HF := Lib.hid hF
  clear hst en er hF
  obtain ⟨hv, -⟩ := Civ.date_valid n h1 h2
  have hb := Civ.mlen_bd (Civ.yy n) (Civ.mm n) hv.2.2.1 hv.2.2.2.1
  obtain ⟨v1, v2, v3, v4, v5, v6⟩ := hv
  have v7 : Civ.dd n ≤ 31 := by omega
  go_enter Tryz.func24, Tryz.ntmps24
  go_wp2_with fail
  refine (HF.out _).mono ?_
  rintro e w1 ⟨rfl, hb1⟩
  go_wp2_with fail
  refine (Date_ok n _ h1 h2).mono ?_
  rintro e w2 ⟨rfl, rfl⟩
  have b2 := hb1
  clear v6 hb
  go_wp2_with fail
  refine (itoa_text _ _ (by omega) (by omega) (HT.out.below b2)).mono ?_
  obtain ⟨Y, eY⟩ : ∃ Y, txt (Lib.itoa (Civ.yy n)) = Y := ⟨_, rfl⟩
  rw [eY]
  have hY : Y.size ≤ 4 := by rw [← eY, txt_size, Y4_length (by omega) (by omega)]; omega
  have EY := Lib.hid eY
  clear eY
  rintro e w3 ⟨rfl, hb3⟩
  have c0 := b2.trans (hb3.mono b2.size)
  go_wp2_with fail
  refine (two_any _ _ (by omega) (by omega)).mono ?_
  obtain ⟨M, eM⟩ : ∃ M, txt (T2 (Civ.mm n)) = M := ⟨_, rfl⟩
  rw [eM]
  have hM : M.size ≤ 2 := by rw [← eM, txt_size, T2_length]; omega
  have EM := Lib.hid eM
  clear eM
  rintro e x0 ⟨rfl, hx0⟩
  have c1 := c0.trans (hx0.mono c0.size)
  go_wp2_with fail
  refine (two_any _ _ (by omega) (by omega)).mono ?_
  obtain ⟨D, eD⟩ : ∃ D, txt (T2 (Civ.dd n)) = D := ⟨_, rfl⟩
  rw [eD]
  have hD : D.size ≤ 2 := by rw [← eD, txt_size, T2_length]; omega
  have ED := Lib.hid eD
  clear eD
  rintro e x1 ⟨rfl, hx1⟩
  have c2 := c1.trans (hx1.mono c1.size)
  go_wp2_with fail
  refine (two_any _ _ (by omega) (by omega)).mono ?_
  obtain ⟨P, eP⟩ : ∃ P, txt (T2 (r / 3600)) = P := ⟨_, rfl⟩
  rw [eP]
  have hP : P.size ≤ 2 := by rw [← eP, txt_size, T2_length]; omega
  have EP := Lib.hid eP
  clear eP
  rintro e x2 ⟨rfl, hx2⟩
  have c3 := c2.trans (hx2.mono c2.size)
  go_wp2_with fail
  refine (two_any _ _ (by omega) (by omega)).mono ?_
  obtain ⟨Q, eQ⟩ : ∃ Q, txt (T2 (r / 60 % 60)) = Q := ⟨_, rfl⟩
  rw [eQ]
  have hQ : Q.size ≤ 2 := by rw [← eQ, txt_size, T2_length]; omega
  have EQ := Lib.hid eQ
  clear eQ
  rintro e x3 ⟨rfl, hx3⟩
  have c4 := c3.trans (hx3.mono c3.size)
  go_wp2_with fail
  refine (two_any _ _ (by omega) (by omega)).mono ?_
  obtain ⟨R, eR⟩ : ∃ R, txt (T2 (r % 60)) = R := ⟨_, rfl⟩
  rw [eR]
  have hR : R.size ≤ 2 := by rw [← eR, txt_size, T2_length]; omega
  have ER := Lib.hid eR
  clear eR
  rintro e x4 ⟨rfl, hx4⟩
  have c5 := c4.trans (hx4.mono c4.size)
  go_wp2_with fail
  go_ret2
  refine ⟨?_, c5⟩
  show Ending.returned (.tuple #[.string (Y ++ ⟨#[45]⟩ ++ M ++ ⟨#[45]⟩ ++ D ++ ⟨#[84]⟩ ++ P ++ ⟨#[58]⟩ ++ Q ++ ⟨#[58]⟩ ++ R), .int .i64 0]) = _
  rw [← EY.out, ← EM.out, ← ED.out, ← EP.out, ← EQ.out, ← ER.out, cat9, HST.out]
  simp [dateT, clockT]

set_option maxHeartbeats 1000000 in
theorem Stamp_no (t : Int) (w : World) (h : t / 86400 < -135140 ∨ 157053 < t / 86400) (hn1 : -9223372036854775808 ≤ t) (hn2 : t ≤ 9223372036854775807) :
    Calls Tryz.prog 24 #[.int .i64 t] w fun e w' => e = .returned (.tuple #[.string ⟨#[]⟩, .int .i64 1]) ∧ Below w.heap.size w w' := by
  have HN1 := Lib.hid hn1
  have HN2 := Lib.hid hn2
  clear hn1 hn2
  go_enter Tryz.func24, Tryz.ntmps24
  go_wp2_with fail
  refine (Floor_any t 86400 _ (by decide) (by decide) HN1.out HN2.out).mono ?_
  rintro e w1 ⟨rfl, hb1⟩
  go_wp2_with fail
  refine (Date_no (t / 86400) _ h).mono ?_
  rintro e w2 ⟨rfl, rfl⟩
  go_wp2_with fail
  go_ret2
  exact ⟨rfl, hb1⟩

end Go.Proofs.YtacogloheiendaaGreatDoor
namespace Go.Proofs.YtacogloheiendaaGreatDoor
open Go.RowKit Go.Joins
set_option linter.unusedVariables false
set_option linter.unusedSimpArgs false

abbrev atV (o : Int) (s : Bool) (n : ByteArray) (c : Int) : Value := .tuple #[.agg #[.int .i64 o, .bool s, .string n], .int .i64 c]
def riteR (p : Px) (t : Int) : Value :=
  if pxChk p ≠ 0 then atV 0 false ⟨#[]⟩ (pxChk p) else
  if okSt t = false ∨ okSt (t + p.off) = false then atV 0 false ⟨#[]⟩ 1 else
  if p.also.toList = [] then atV p.off false p.name 0 else
  if sumB p t = true then atV p.aoff true p.also 0 else atV p.off false p.name 0
theorem ret_v {a b : Value} (h : a = b) : Ending.returned a = .returned b := by rw [h]

theorem heap_setCR {w : World} {R i : Nat} {cs : Array Value} {T : TypeId} {f : Nat × Nat} (h : w.heap[R]? = some (.cells cs T f)) (v : Value) : (w.setCell ⟨R, i, none⟩ v).heap[R]? = some (.cells (cs.setIfInBounds i v) T f) := by
  simp [World.setCell, Array.getElem?_modify, h]
theorem end_cellsR {W : World} {g : Nat} {a b c : Value} {T : TypeId} (h : W.heap[g]? = some (.cells #[a, b, c] T (0, 0))) (x y z : Value) :
    ∃ W', ((W.setCell ⟨g, 0, none⟩ x).setCell ⟨g, 1, none⟩ y).setCell ⟨g, 2, none⟩ z = W' ∧ (∀ B, B ≤ g → Below B W W') ∧ W'.heap[g]? = some (.cells #[x, y, z] T (0, 0)) ∧ ∀ b, b ≠ g → W'.heap[b]? = W.heap[b]? := by
  refine ⟨_, rfl, fun B hB => (((Below.refl _ _).setCell (by exact hB) _).setCell (by exact hB) _).setCell (by exact hB) _, ?_, fun b hb => (Below.heap_setCell _ _ _ _ hb).trans ((Below.heap_setCell _ _ _ _ hb).trans (Below.heap_setCell _ _ _ _ hb))⟩
  rw [heap_setCR (i := 2) (heap_setCR (i := 1) (heap_setCR (i := 0) h x) y) z]
  rfl

theorem two_al {w W : World} {o1 o2 : Obj} (e : (w.alloc o1).alloc o2 = W) : W.heap.size = w.heap.size + 2 ∧ W.heap[w.heap.size]? = some o1 ∧ W.heap[w.heap.size + 1]? = some o2 ∧ Below w.heap.size w W := by
  subst e
  refine ⟨by simp, ?_, ?_, ((Below.refl _ _).alloc (Nat.le_refl _) _).alloc (by simp) _⟩
  · rw [Below.heap_alloc _ _ _ (by simp)]; exact heap_alloc_new w o1
  · have := heap_alloc_new (w.alloc o1) o2
    simpa using this

/-- the memory of a call under way: the argument's box, and the result's -/
structure AtM (w W : World) (p : Px) : Prop where
  px : PxBx W w.heap.size p
  r : W.heap[w.heap.size + 1]? = some (.cells #[.int .i64 0, .bool false, .string ⟨#[]⟩] 41 (0, 0))
  b : Below w.heap.size w W
theorem AtM.lt {w W : World} {p : Px} (h : AtM w W p) : w.heap.size + 1 < W.heap.size := (Array.getElem?_eq_some_iff.mp h.r).1
theorem AtM.go {w W W' : World} {p : Px} (h : AtM w W p) (hb : Below W.heap.size W W') : AtM w W' p :=
  ⟨h.px.below hb, (hb.block _ h.lt).trans h.r, h.b.trans (hb.mono h.b.size)⟩
theorem AtM.out {w W : World} {p : Px} (h : AtM w W p) (o : Int) (s : Bool) (n : ByteArray) :
    ∃ W', ((W.setCell ⟨w.heap.size + 1, 0, none⟩ (.int .i64 o)).setCell ⟨w.heap.size + 1, 1, none⟩ (.bool s)).setCell ⟨w.heap.size + 1, 2, none⟩ (.string n) = W' ∧ Below w.heap.size w W' ∧
      W'.cell? ⟨w.heap.size + 1, 0, none⟩ = some (.int .i64 o) ∧ W'.cell? ⟨w.heap.size + 1, 1, none⟩ = some (.bool s) ∧ W'.cell? ⟨w.heap.size + 1, 2, none⟩ = some (.string n) := by
  obtain ⟨W', e, hb, hr, -⟩ := end_cellsR h.r (.int .i64 o) (.bool s) (.string n)
  exact ⟨W', e, h.b.trans (hb _ (by omega)), (cell_of_row W' _ 0 _ _ _ hr).trans rfl, (cell_of_row W' _ 1 _ _ _ hr).trans rfl, (cell_of_row W' _ 2 _ _ _ hr).trans rfl⟩
theorem AtM.zero {w W : World} {p : Px} (h : AtM w W p) :
      W.cell? ⟨w.heap.size + 1, 0, none⟩ = some (.int .i64 0) ∧ W.cell? ⟨w.heap.size + 1, 1, none⟩ = some (.bool false) ∧ W.cell? ⟨w.heap.size + 1, 2, none⟩ = some (.string ⟨#[]⟩) ∧ ∀ o, W.frozen? ⟨w.heap.size + 1, o, none⟩ = false :=
  ⟨(cell_of_row W _ 0 _ _ _ h.r).trans rfl, (cell_of_row W _ 1 _ _ _ h.r).trans rfl, (cell_of_row W _ 2 _ _ _ h.r).trans rfl, fun o => by simp [World.frozen?, h.r]⟩

set_option maxRecDepth 100000 in
set_option maxHeartbeats 8000000 in
theorem At_far (p : Px) (t : Int) (w : World) (h1 : p.name.size ≤ maxLen) (h2 : p.also.size ≤ maxLen) (ht1 : -9223372036854775808 ≤ t) (ht2 : t ≤ 9223372036854775807) (ec : pxChk p = 0) (hs : okSt t = false) :
    Calls Tryz.prog 9 #[pxV p, .int .i64 t] w fun e w' => e = .returned (riteR p t) ∧ Below w.heap.size w w' := by
  obtain ⟨W0, eW⟩ : ∃ W0, (w.alloc (.cells (pxCells p) 25)).alloc (.cells #[.int .i64 0, .bool false, .string ⟨#[]⟩] 41) = W0 := ⟨_, rfl⟩
  obtain ⟨hz, g0, g1, hb0⟩ := two_al eW
  have HM : Hid (AtM w W0 p) := by show AtM _ _ _; exact ⟨g0, g1, hb0⟩
  have HEW := Lib.hid eW
  have HC := Lib.hid (fun W => rCheck_any p W h1 h2)
  rw [ec] at HC
  have EC := Lib.hid ec
  have HSN := Lib.hid (fun W => Stamp_no t W (by
        have : ¬ (-135140 ≤ t / 86400 ∧ t / 86400 ≤ 157053) := fun h => by rw [okSt_iff.2 h] at hs; cases hs
        omega) ht1 ht2)
  have HQ := Lib.hid hs
  clear eW g0 g1 hb0 h1 h2 ec hs ht1 ht2
  go_enter Tryz.func9, Tryz.ntmps9
  go_wp2_with fail
  rw [HEW.out]
  refine (HC.out _).mono ?_
  rintro e w1 ⟨rfl, hb1⟩
  have HM1 := Lib.hid (HM.out.go hb1)
  obtain ⟨z0, z1, z2, zf⟩ := HM1.out.zero
  have zf0 := zf 0
  have zf1 := zf 1
  have zf2 := zf 2
  obtain ⟨x0, x1, x2, x3, x4, x5, x6, x7, x8, x9, x10, x11⟩ := HM1.out.px.cells
  have hl1 := HM1.out.lt
  clear hb1 HM zf hz
  go_wp2_with fail
  obtain ⟨U, eU⟩ : ∃ U, wrap64 (t + p.off) = U := ⟨_, rfl⟩
  try rw [eU]
  clear eU
  obtain ⟨W3, e3⟩ : ∃ W3, w1.alloc (.cells #[.int .i64 t, .int .i64 U] 3) = W3 := ⟨_, rfl⟩
  rw [e3]
  have h3 : W3.heap[w1.heap.size]? = some (.cells #[.int .i64 t, .int .i64 U] 3 (0, 0)) := by rw [← e3]; exact heap_alloc_new w1 _
  have hb3 : Below w1.heap.size w1 W3 := by rw [← e3]; exact (Below.refl _ _).alloc (Nat.le_refl _) _
  have HM3 := Lib.hid (HM1.out.go hb3)
  have H3 := Lib.hid h3
  have hl3 := HM3.out.lt
  clear e3 h3 hb3 HM1 z0 z1 z2 zf0 zf1 zf2 x0 x1 x2 x3 x4 x5 x6 x7 x8 x9 x10 x11
  go_loopw [36] (fun i wr => i = .int .i64 0 ∧ wr = W3) (fun i _ => 0)
  case atStart => exact ⟨rfl, rfl⟩
  case round =>
    obtain ⟨rfl, rfl⟩ := hrel
    have d0 : wr.cell? ⟨w1.heap.size, 0, none⟩ = some (.int .i64 t) := (cell_of_row wr _ 0 _ _ _ H3.out).trans rfl
    go_wp2_with fail
    refine (HSN.out _).mono ?_
    rintro e w4 ⟨rfl, hb4⟩
    have HM5 := Lib.hid (HM3.out.go hb4)
    obtain ⟨z0, z1, z2, zf⟩ := HM5.out.zero
    have zf0 := zf 0
    have zf1 := zf 1
    have zf2 := zf 2
    have hl5 := HM5.out.lt
    clear hb4 d0 zf
    go_wp2
    obtain ⟨W9, e9, hb9, v0, v1, v2⟩ := HM5.out.out 0 false ⟨#[]⟩
    rw [e9]
    refine bodyPost_ret (v := atV 0 false ⟨#[]⟩ 1) (by simp [results, Tryz.results9, go_sem, v0, v1, v2]) rfl ⟨ret_v ?_, hb9⟩
    unfold riteR
    rw [if_neg (by rw [EC.out]; simp), if_pos (Or.inl HQ.out)]
end Go.Proofs.YtacogloheiendaaGreatDoor
namespace Go.Proofs.YtacogloheiendaaGreatDoor
open Go.RowKit Go.Joins
open Classical
set_option linter.unusedVariables false
set_option linter.unusedSimpArgs false

def nameB (s : ByteArray) : Bool := allB s 20 ⟨#[95, 47, 45]⟩ && decide (∃ c, s.data.toList[0]? = some c ∧ letterB c.toNat = true)
theorem isName_any (s : ByteArray) (w : World) (hs : s.size ≤ maxLen) :
    Calls Tryz.prog 15 #[.string s] w fun e w' => e = .returned (.bool (nameB s)) ∧ w = w' := by
  obtain ⟨A, eA⟩ : ∃ A, allB s 20 ⟨#[95, 47, 45]⟩ = A := ⟨_, rfl⟩
  have HA := Lib.hid eA
  cases A with
  | false =>
    have HN : Hid (nameB s = false) := by show _ = _; unfold nameB; rw [eA]; simp
    clear eA
    go_enter Tryz.func15, Tryz.ntmps15
    go_wp2_with fail
    refine (all_any _ _ _ _ hs).mono ?_
    rw [HA.out]
    rintro e w' ⟨rfl, rfl⟩
    go_wp2
    go_ret
    exact ⟨ret_bool' HN.out.symm, rfl⟩
  | true =>
    have h0 : 0 < s.size := by
      unfold allB at eA
      simp only [Bool.and_eq_true, Bool.not_eq_true', decide_eq_true_eq] at eA
      have h2 := eA.1.2
      rcases Nat.eq_zero_or_pos s.size with h | h
      · have : s.data.toList = [] := List.eq_nil_of_length_eq_zero (by simpa using h)
        rw [this] at h2; simp at h2
      · exact h
    obtain ⟨c, ec⟩ : ∃ c, s[0] = c := ⟨_, rfl⟩
    have HN : Hid (nameB s = letterB c.toNat) := by
      show _ = _
      unfold nameB
      rw [eA, Bool.true_and]
      have hc : s.data.toList[0]? = some c := by
        rw [List.getElem?_eq_getElem (by simpa using h0)]
        exact congrArg some ec
      rw [hc]
      cases hl : letterB c.toNat
      · exact decide_eq_false (by rintro ⟨d, hd, h⟩; injection hd with hd; subst hd; rw [hl] at h; cases h)
      · exact decide_eq_true ⟨c, rfl, hl⟩
    clear eA
    go_enter Tryz.func15, Tryz.ntmps15
    go_wp2_with fail
    refine (all_any _ _ _ _ hs).mono ?_
    rw [HA.out]
    rintro e w' ⟨rfl, rfl⟩
    go_wp2_with fail
    refine (isLetter_any _ _).mono ?_
    rintro e w' ⟨rfl, rfl⟩
    go_wp2
    go_ret
    exact ⟨ret_bool' (by rw [HN.out, ← ec]), rfl⟩

end Go.Proofs.YtacogloheiendaaGreatDoor
namespace Go.Proofs.YtacogloheiendaaGreatDoor
open Go.RowKit Go.Joins
open Classical
set_option linter.unusedVariables false
set_option linter.unusedSimpArgs false

structure Ru where
  (nm : ByteArray)
  (yf yt mo dk dw dn tm ck sv : Int)
  (lt : ByteArray)

def ruChk (r : Ru) : Int :=
  if nameB r.nm = false then 3 else
  if r.lt.toList ≠ [45] ∧ abbrB r.lt = false then 3 else
  if ¬ (1900 ≤ r.yf ∧ r.yf ≤ 2100) then 1 else
  if ¬ (r.yf ≤ r.yt ∧ r.yt ≤ 2100) then 1 else
  if ¬ (1 ≤ r.mo ∧ r.mo ≤ 12) then 1 else
  if dayB r.dk r.dw r.dn = false then 1 else
  if Civ.mlen 1901 r.mo < r.dn then 1 else
  if ¬ (-604800 ≤ r.tm ∧ r.tm ≤ 604800) then 1 else
  if ¬ (0 ≤ r.ck ∧ r.ck ≤ 2) then 1 else
  if ¬ (0 ≤ r.sv ∧ r.sv ≤ 10800) then 1 else 0

structure OkRu (r : Ru) : Prop where
  nm : nameB r.nm = true
  lt : r.lt.toList = [45] ∨ abbrB r.lt = true
  f1 : 1900 ≤ r.yf
  f2 : r.yf ≤ 2100
  t1 : r.yf ≤ r.yt
  t2 : r.yt ≤ 2100
  m1 : 1 ≤ r.mo
  m2 : r.mo ≤ 12
  d : dayB r.dk r.dw r.dn = true
  n : r.dn ≤ Civ.mlen 1901 r.mo
  a1 : -604800 ≤ r.tm
  a2 : r.tm ≤ 604800
  c1 : 0 ≤ r.ck
  c2 : r.ck ≤ 2
  s1 : 0 ≤ r.sv
  s2 : r.sv ≤ 10800
theorem ru_ok {r : Ru} (h : ruChk r = 0) : OkRu r := by
  unfold ruChk at h
  split at h
  · omega
  rename_i h1
  split at h
  · omega
  rename_i h2
  split at h
  · omega
  rename_i h3
  split at h
  · omega
  rename_i h4
  split at h
  · omega
  rename_i h5
  split at h
  · omega
  rename_i h6
  split at h
  · omega
  rename_i h7
  split at h
  · omega
  rename_i h8
  split at h
  · omega
  rename_i h9
  split at h
  · omega
  rename_i h10
  refine ⟨by simpa using h1, ?_, by omega, by omega, by omega, by omega, by omega, by omega, by simpa using h6, by omega, by omega, by omega, by omega, by omega, by omega, by omega⟩
  by_cases hl : r.lt.toList = [45]
  · exact Or.inl hl
  · right
    cases ha : abbrB r.lt
    · exact absurd ⟨hl, ha⟩ h2
    · rfl
end Go.Proofs.YtacogloheiendaaGreatDoor
namespace Go.Proofs.YtacogloheiendaaGreatDoor
open Go
set_option linter.unusedVariables false

/-- the first place of a letter that stands behind a text without it -/
theorem index_sep (l r : List UInt8) (s : UInt8) (h : ∀ c ∈ l, c ≠ s) : Lib.index (l ++ s :: r) [s] = l.length := by
  refine Lib.index_first (by simp) ?_ ?_
  · unfold Lib.occAt
    rw [List.drop_append_of_le_length (Nat.le_refl _), List.drop_length]
    simp
  · intro j hj
    unfold Lib.occAt
    have hj' : j < (l ++ s :: r).length := by simp; omega
    rw [List.drop_eq_getElem_cons hj']
    have hne : (l ++ s :: r)[j] ≠ s := by
      rw [List.getElem_append_left hj]
      exact h _ (List.getElem_mem _)
    simp only [List.isPrefixOf_cons_cons, Bool.and_eq_false_iff]
    left
    simpa using fun e => hne e.symm
theorem cut_sep (l r : List UInt8) (s : UInt8) (h : ∀ c ∈ l, c ≠ s) : Lib.cut (l ++ s :: r) [s] = (l, r, true) := by
  unfold Lib.cut
  rw [index_sep l r s h, if_pos (by omega)]
  simp
end Go.Proofs.YtacogloheiendaaGreatDoor
namespace Go.Proofs.YtacogloheiendaaGreatDoor
open Go.RowKit Go.Joins
set_option linter.unusedVariables false
set_option linter.unusedSimpArgs false

theorem bytes_toList_txt (l : List UInt8) : (txt l).toList = l := by rw [ByteArray.toList_eq, txt_data]

end Go.Proofs.YtacogloheiendaaGreatDoor
namespace Go.Proofs.YtacogloheiendaaGreatDoor
open Go.RowKit Go.Joins
set_option linter.unusedVariables false
set_option linter.unusedSimpArgs false

theorem lt_of_cellM {w : World} {p : Addr} {v : Value} (h : w.cell? p = some v) : p.block < w.heap.size := by
  unfold World.cell? at h
  cases hb : w.heap[p.block]? with
  | none => simp [hb] at h
  | some o => exact (Array.getElem?_eq_some_iff.1 hb).1
/-- internal/bytealg.MaxLen holds some number -/
def MaxLen (w : World) : Prop := ∃ m, w.cell? ⟨0, 0, none⟩ = some (.int .i64 m)
theorem MaxLen.below {w w' : World} (h : MaxLen w) (hb : Below w.heap.size w w') : MaxLen w' := by
  obtain ⟨m, hm⟩ := h
  exact ⟨m, (hb.cell (show (⟨0, 0, none⟩ : Addr).block < w.heap.size from lt_of_cellM hm)).trans hm⟩
theorem below_drewN0 (w : World) (n : Nat) : Below w.heap.size w (w.drewN n) := below_drewN' (Below.refl _ _) n
theorem cut_any (s p : List UInt8) (w : World) (hs : s.length < 4294967281) (hm : MaxLen w) :
    Calls Tryz.prog 95 #[.string (txt s), .string (txt p)] w fun e w' => e = .returned (.tuple #[.string (txt (Lib.cut s p).1), .string (txt (Lib.cut s p).2.1), .bool (Lib.cut s p).2.2]) ∧ Below w.heap.size w w' := by
  obtain ⟨m, hm⟩ := hm
  have := Tryz.strings_Cut (txt s) (txt p) m w (by rw [txt_size]; exact hs) hm
  rw [txt_data, txt_data] at this
  refine this.mono ?_
  rintro e w' ⟨rfl, n, rfl⟩
  exact ⟨rfl, below_drewN0 w n⟩

end Go.Proofs.YtacogloheiendaaGreatDoor
namespace Go.Proofs.YtacogloheiendaaGreatDoor
open Go.RowKit Go.Joins
open Classical
set_option linter.unusedVariables false
set_option linter.unusedSimpArgs false

structure Er where
  (off : Int)
  (ru : ByteArray)
  (sv : Int)
  (fm : ByteArray)
  (un : Int)
structure Zo where
  (nm : ByteArray)
  (ev : Value)
  (eras : List Er)
structure Lk where
  (nm tg : ByteArray)
structure Bk where
  (rules : List Ru)
  (zones : List Zo)
  (links : List Lk)

/-- a format, split: two of them (sign /), or one with a place for a letter (sign %) -/
def splitF (f : List UInt8) : List UInt8 × List UInt8 × List UInt8 × Bool :=
  if 12 < f.length then ([], [], [], false) else
  if (Lib.cut f [47]).2.2 = true then ((Lib.cut f [47]).1, (Lib.cut f [47]).2.1, [47], abbrB (txt (Lib.cut f [47]).1) && abbrB (txt (Lib.cut f [47]).2.1)) else
  if (Lib.cut f [37]).2.2 = true then ((Lib.cut f [37]).1, (Lib.cut f [37]).2.1, [37], decide ((Lib.cut f [37]).1 ++ (Lib.cut f [37]).2.1 = []) || (decide (((Lib.cut f [37]).1 ++ (Lib.cut f [37]).2.1).length ≤ 8) && abbrB (txt ((Lib.cut f [37]).1 ++ (Lib.cut f [37]).2.1)))) else
  (f, [], [], abbrB (txt f))
def letterOk (l : List UInt8) : Bool := decide (l = [45]) || abbrB (txt l)
/-- the name, ahead of the last tests -/
def abbrN (f : List UInt8) (save : Int) (l : List UInt8) : List UInt8 :=
  let s := splitF f
  if s.2.2.1 = [47] then (if save = 0 then s.1 else s.2.1) else
  if s.2.2.1 = [37] then s.1 ++ ((if l = [45] then [] else l) ++ s.2.1) else s.1
def abbrF (f : List UInt8) (save : Int) (l : List UInt8) : List UInt8 × Int :=
  if (splitF f).2.2.2 = false ∨ letterOk l = false then ([], 3) else
  if ¬ (0 ≤ save ∧ save ≤ 10800) then ([], 1) else
  if 8 < (abbrN f save l).length then ([], 2) else
  if abbrN f save l = [] then ([], 5) else (abbrN f save l, 0)
def abE (f : ByteArray) (save : Int) (l : ByteArray) : Int := (abbrF f.data.toList save l.data.toList).2

/-- the first error of a list -/
def firstE {α : Type} (f : α → Int) : List α → Int
  | [] => 0
  | x :: r => if f x = 0 then firstE f r else f x

def abbrsChk (rules : List Ru) (x : Er) : Int :=
  if x.ru.data.toList = [] then abE x.fm x.sv ⟨#[45]⟩ else
  if firstE (fun r : Ru => if r.nm = x.ru then abE x.fm r.sv r.lt else 0) rules = 0 then abE x.fm 0 ⟨#[45]⟩ else firstE (fun r : Ru => if r.nm = x.ru then abE x.fm r.sv r.lt else 0) rules
def stampE (t : Int) : Int := if -135140 ≤ t / 86400 ∧ t / 86400 ≤ 157053 then 0 else 1
def erD : Er := ⟨0, ⟨#[]⟩, 0, ⟨#[]⟩, 0⟩
def eraAt (l : List Er) (k : Nat) : Er := l[k]?.getD erD
def eraChk (rules : List Ru) (l : List Er) (k : Nat) : Int :=
  let x := eraAt l k
  if ¬ (-64800 ≤ x.off ∧ x.off ≤ 64800) ∨ ¬ (0 ≤ x.sv ∧ x.sv ≤ 10800) then 1 else
  if x.sv ≠ 0 ∧ x.ru.data.toList ≠ [] then 5 else
  if x.ru.data.toList ≠ [] ∧ (rules.any fun r => decide (r.nm = x.ru)) = false then 6 else
  if abbrsChk rules x ≠ 0 then abbrsChk rules x else
  if k + 1 = l.length then (if x.un ≠ 0 then 5 else 0) else
  if ¬ (-1099511627776 ≤ x.un ∧ x.un ≤ 1099511627776) then 1 else
  if stampE x.un ≠ 0 then stampE x.un else
  if 0 < k ∧ x.un ≤ (eraAt l (k - 1)).un then 5 else 0
def zoneChk (rules : List Ru) (before : List Zo) (z : Zo) : Int :=
  if nameB z.nm = false then 3 else
  if (before.any fun y => decide (y.nm = z.nm)) = true then 7 else
  if z.eras = [] then 5 else
  if 700 < z.eras.length then 2 else firstE (eraChk rules z.eras) (List.range z.eras.length)
def isZone (b : Bk) (n : ByteArray) : Bool := b.zones.any fun z => decide (z.nm = n)
def isLink (l : List Lk) (n : ByteArray) : Bool := l.any fun y => decide (y.nm = n)
def linkChk (b : Bk) (before : List Lk) (x : Lk) : Int :=
  if nameB x.nm = false ∨ nameB x.tg = false then 3 else
  if isZone b x.nm = true ∨ isLink before x.nm = true then 7 else
  if isZone b x.tg = false ∧ isLink b.links x.tg = false then 6 else 0
def bkChk (b : Bk) : Int :=
  if 40 < b.rules.length ∨ 20 < b.zones.length ∨ 20 < b.links.length then 2 else
  if firstE ruChk b.rules ≠ 0 then firstE ruChk b.rules else
  if firstE (fun k => zoneChk b.rules (b.zones.take k) (b.zones[k]?.getD ⟨⟨#[]⟩, undef, []⟩)) (List.range b.zones.length) ≠ 0 then firstE (fun k => zoneChk b.rules (b.zones.take k) (b.zones[k]?.getD ⟨⟨#[]⟩, undef, []⟩)) (List.range b.zones.length) else
  firstE (fun k => linkChk b (b.links.take k) (b.links[k]?.getD ⟨⟨#[]⟩, ⟨#[]⟩⟩)) (List.range b.links.length)

theorem firstE_drop {α : Type} (f : α → Int) (l : List α) (k : Nat) (hk : k < l.length) (h : f l[k] = 0) (e : firstE f l = firstE f (l.drop k)) : firstE f l = firstE f (l.drop (k + 1)) := by
  rw [e, List.drop_eq_getElem_cons hk]
  show (if f l[k] = 0 then firstE f (l.drop (k + 1)) else f l[k]) = _
  rw [if_pos h]
theorem firstE_hit {α : Type} (f : α → Int) (l : List α) (k : Nat) (hk : k < l.length) (h : f l[k] ≠ 0) (e : firstE f l = firstE f (l.drop k)) : firstE f l = f l[k] := by
  rw [e, List.drop_eq_getElem_cons hk]
  show (if f l[k] = 0 then firstE f (l.drop (k + 1)) else f l[k]) = _
  rw [if_neg h]
theorem firstE_end {α : Type} (f : α → Int) (l : List α) (k : Nat) (hk : l.length ≤ k) (e : firstE f l = firstE f (l.drop k)) : firstE f l = 0 := by
  rw [e, List.drop_of_length_le hk]; rfl
theorem firstE_zero {α : Type} (f : α → Int) : ∀ (l : List α), firstE f l = 0 ↔ ∀ x ∈ l, f x = 0
  | [] => by simp [firstE]
  | x :: r => by
    unfold firstE
    split
    · rename_i h
      rw [firstE_zero f r]
      simp [h]
    · rename_i h
      simp [h]
end Go.Proofs.YtacogloheiendaaGreatDoor
namespace Go.Proofs.YtacogloheiendaaGreatDoor
open Go.RowKit Go.Joins
open Classical
set_option linter.unusedVariables false
set_option linter.unusedSimpArgs false

theorem book_within (n a b : Int) (w : World) :
    Calls Tryz.prog 81 #[.int .i64 n, .int .i64 a, .int .i64 b] w fun e w' => e = .returned (.bool (withinB n a b)) ∧ w = w' := by
  by_cases h1 : a ≤ n <;> by_cases h2 : n ≤ b <;>
  · go_enter Tryz.func81, Tryz.ntmps81
    go_wp2
    go_ret
    exact ⟨ret_bool (by simp [withinB, h1, h2]), rfl⟩
theorem txt_data' (s : ByteArray) : txt s.data.toList = s := rfl
theorem bookLetter_any (s : ByteArray) (w : World) (hs : s.size ≤ maxLen) :
    Calls Tryz.prog 80 #[.string s] w fun e w' => e = .returned (.bool (letterOk s.data.toList)) ∧ w = w' := by
  by_cases hL : s.toList = [45]
  · have hL2 : (s.toList == [45]) = true := by rw [hL]; rfl
    have HK : Hid (letterOk s.data.toList = true) := by show _ = _; unfold letterOk; rw [← ByteArray.toList_eq, hL]; rfl
    clear hL
    go_enter Tryz.func80, Tryz.ntmps80
    go_wp2
    go_ret
    exact ⟨ret_bool' HK.out.symm, rfl⟩
  · have hL2 : (s.toList == [45]) = false := by simpa using hL
    have HK : Hid (letterOk s.data.toList = abbrB s) := by show _ = _; unfold letterOk; rw [← ByteArray.toList_eq, decide_eq_false hL, Bool.false_or]; rw [ByteArray.toList_eq]; rfl
    clear hL
    go_enter Tryz.func80, Tryz.ntmps80
    go_wp2_with fail
    refine (isAbbr_any _ _ hs).mono ?_
    rintro e w' ⟨rfl, rfl⟩
    go_wp2
    go_ret
    exact ⟨ret_bool' HK.out.symm, rfl⟩
end Go.Proofs.YtacogloheiendaaGreatDoor
namespace Go.Proofs.YtacogloheiendaaGreatDoor
open Go.RowKit Go.Joins
open Classical
set_option linter.unusedVariables false
set_option linter.unusedSimpArgs false

theorem cut_le (l sg : List UInt8) : (Lib.cut l sg).1.length ≤ l.length ∧ (Lib.cut l sg).2.1.length ≤ l.length := by
  unfold Lib.cut
  split
  · simp; omega
  · simp
def SplitR (f : List UInt8) (e : Ending) : Prop := ∃ a b c x, splitF f = (a, b, c, x) ∧ e = .returned (.tuple #[.string (txt a), .string (txt b), .string (txt c), .bool x])
theorem splitR_mk {f a b c : List UInt8} {x : Bool} {e : Ending} (h : splitF f = (a, b, c, x)) (he : e = .returned (.tuple #[.string (txt a), .string (txt b), .string (txt c), .bool x])) : SplitR f e := ⟨a, b, c, x, h, he⟩

set_option maxRecDepth 100000 in
set_option maxHeartbeats 4000000 in
theorem split_any (f : List UInt8) (w : World) (hf : f.length ≤ 9223372036854775807) (hm : MaxLen w) :
    Calls Tryz.prog 79 #[.string (txt f)] w fun e w' => SplitR f e ∧ Below w.heap.size w w' := by
  have hsz : (txt f).size = f.length := txt_size f
  by_cases hlong : 12 < f.length
  · have HK : Hid (splitF f = ([], [], [], false)) := by show _ = _; unfold splitF; rw [if_pos hlong]
    have z1 : (12 : Int) < ((txt f).size : Int) := by omega
    clear hlong
    go_enter Tryz.func79, Tryz.ntmps79
    go_wp2_with fail
    refine bodyPost_ret (results_tmp4 rfl _ _ _) rfl ?_
    exact ⟨splitR_mk HK.out rfl, Below.refl _ _⟩
  · have z1 : ¬ (12 : Int) < ((txt f).size : Int) := by omega
    have HM := Lib.hid hm
    have l1 := cut_le f [47]
    have l2 := cut_le f [37]
    have HC1 := Lib.hid (fun W (h : MaxLen W) => cut_any f [47] W (by omega) h)
    have HC2 := Lib.hid (fun W (h : MaxLen W) => cut_any f [37] W (by omega) h)
    have HF := Lib.hid (show splitF f = if (Lib.cut f [47]).2.2 = true then ((Lib.cut f [47]).1, (Lib.cut f [47]).2.1, [47], abbrB (txt (Lib.cut f [47]).1) && abbrB (txt (Lib.cut f [47]).2.1)) else
      if (Lib.cut f [37]).2.2 = true then ((Lib.cut f [37]).1, (Lib.cut f [37]).2.1, [37], decide ((Lib.cut f [37]).1 ++ (Lib.cut f [37]).2.1 = []) || (decide (((Lib.cut f [37]).1 ++ (Lib.cut f [37]).2.1).length ≤ 8) && abbrB (txt ((Lib.cut f [37]).1 ++ (Lib.cut f [37]).2.1)))) else
      (f, [], [], abbrB (txt f)) from by unfold splitF; rw [if_neg hlong])
    obtain ⟨a1, ea1⟩ : ∃ x, (Lib.cut f [47]).1 = x := ⟨_, rfl⟩
    obtain ⟨b1, eb1⟩ : ∃ x, (Lib.cut f [47]).2.1 = x := ⟨_, rfl⟩
    obtain ⟨i1, ei1⟩ : ∃ x, (Lib.cut f [47]).2.2 = x := ⟨_, rfl⟩
    obtain ⟨a2, ea2⟩ : ∃ x, (Lib.cut f [37]).1 = x := ⟨_, rfl⟩
    obtain ⟨b2, eb2⟩ : ∃ x, (Lib.cut f [37]).2.1 = x := ⟨_, rfl⟩
    obtain ⟨i2, ei2⟩ : ∃ x, (Lib.cut f [37]).2.2 = x := ⟨_, rfl⟩
    rw [ea1, eb1, ei1] at HC1
    rw [ea2, eb2, ei2] at HC2
    rw [ea1, eb1, ei1, ea2, eb2, ei2] at HF
    rw [ea1, eb1] at l1
    rw [ea2, eb2] at l2
    have HA1 := Lib.hid (fun W => isAbbr_any (txt a1) W (by rw [txt_size]; unfold maxLen; omega))
    have HA2 := Lib.hid (fun W => isAbbr_any (txt b1) W (by rw [txt_size]; unfold maxLen; omega))
    have HA3 := Lib.hid (fun W => isAbbr_any (txt (a2 ++ b2)) W (by rw [txt_size, List.length_append]; unfold maxLen; omega))
    have HA4 := Lib.hid (fun W => isAbbr_any (txt f) W (by rw [txt_size]; unfold maxLen; omega))
    have radd := fun W => run_string_add_sum (P := Tryz.prog) W (txt a2) (txt b2) (by rw [txt_size, txt_size]; omega)
    have s12 : (txt (a2 ++ b2)).size ≤ 100 := by rw [txt_size, List.length_append]; omega
    rw [show txt a2 ++ txt b2 = txt (a2 ++ b2) from txt_append a2 b2] at radd
    have HL1 := Lib.hid l1
    clear ea1 eb1 ei1 ea2 eb2 ei2 l1 l2 hlong hm
    go_enter Tryz.func79, Tryz.ntmps79
    go_wp2_with fail
    obtain ⟨W0, eW⟩ : ∃ W0, w.alloc (.cells #[.string ⟨#[47]⟩, .string ⟨#[37]⟩] 9) = W0 := ⟨_, rfl⟩
    have hb0 : Below w.heap.size w W0 := by rw [← eW]; exact (Below.refl _ _).alloc (Nat.le_refl _) _
    have x0 : W0.cell? ⟨w.heap.size, 0, none⟩ = some (.string ⟨#[47]⟩) := by rw [← eW]; exact (cell_of_row _ _ 0 _ _ _ (heap_alloc_new w _)).trans rfl
    have x1 : W0.cell? ⟨w.heap.size, 1, none⟩ = some (.string ⟨#[37]⟩) := by rw [← eW]; exact (cell_of_row _ _ 1 _ _ _ (heap_alloc_new w _)).trans rfl
    have hl0 : w.heap.size < W0.heap.size := by rw [← eW]; simp
    rw [eW]
    have HB0 := Lib.hid hb0
    have HX1 := Lib.hid x1
    have HL0 := Lib.hid hl0
    clear eW hb0 x1 hl0
    refine wp_loop_rounds 3 ?_
    rw [rounds_succ]
    go_wp2_with fail
    refine (HC1.out _ (HM.out.below HB0.out)).mono ?_
    rintro e w1 ⟨rfl, hb1⟩
    have y1 : w1.cell? ⟨w.heap.size, 1, none⟩ = some (.string ⟨#[37]⟩) := (hb1.cell (p := ⟨w.heap.size, 1, none⟩) HL0.out).trans HX1.out
    have HB1 := Lib.hid (HB0.out.trans (hb1.mono HB0.out.size))
    clear hb1 x0
    cases i1 with
    | true =>
      have hres := HF.out
      rw [if_pos rfl] at hres
      have HR := Lib.hid hres
      clear hres
      cases hA : abbrB (txt a1) with
      | false =>
        rw [hA] at HA1 HR
        clear hA
        go_wp2_with fail
        refine (HA1.out _).mono ?_
        rintro e w' ⟨rfl, rfl⟩
        go_wp2_with fail
        refine bodyPost_ret (results_tmp4 rfl _ _ _) rfl ?_
        exact ⟨splitR_mk HR.out rfl, HB1.out⟩
      | true =>
        rw [hA] at HA1 HR
        clear hA
        go_wp2_with fail
        refine (HA1.out _).mono ?_
        rintro e w' ⟨rfl, rfl⟩
        go_wp2_with fail
        refine (HA2.out _).mono ?_
        rintro e w' ⟨rfl, rfl⟩
        go_wp2_with fail
        refine bodyPost_ret (results_tmp4 rfl _ _ _) rfl ?_
        exact ⟨splitR_mk HR.out rfl, HB1.out⟩
    | false =>
      have hres := HF.out
      rw [if_neg (by simp)] at hres
      have HR := Lib.hid hres
      clear hres HF
      go_wp2_with fail
      rw [rounds_succ]
      go_wp2_with fail
      refine (HC2.out _ (HM.out.below HB1.out)).mono ?_
      rintro e w2 ⟨rfl, hb2⟩
      have HB2 := Lib.hid (HB1.out.trans (hb2.mono HB1.out.size))
      clear hb2 y1 HB1
      cases i2 with
      | true =>
        have hres := HR.out
        rw [if_pos rfl] at hres
        have HR2 := Lib.hid hres
        clear hres HR
        obtain ⟨S, eS⟩ : ∃ S, a2 ++ b2 = S := ⟨_, rfl⟩
        rw [eS] at HR2 HA3 radd s12
        clear eS
        by_cases h0 : S = []
        · have b0 : (txt S).toList.isEmpty = true := by rw [h0, bytes_toList_txt]; rfl
          rw [decide_eq_true h0, Bool.true_or] at HR2
          clear h0
          go_wp2_with fail
          refine bodyPost_ret (results_tmp4 rfl _ _ _) rfl ?_
          exact ⟨splitR_mk HR2.out rfl, HB2.out⟩
        · have b0 : (txt S).toList.isEmpty = false := by
            rw [bytes_toList_txt]
            cases S with
            | nil => exact absurd rfl h0
            | cons c r => rfl
          rw [decide_eq_false h0, Bool.false_or] at HR2
          clear h0
          by_cases h8 : S.length ≤ 8
          · have z8 : ((txt S).size : Int) ≤ 8 := by rw [txt_size]; omega
            rw [decide_eq_true h8, Bool.true_and] at HR2
            have hs : (txt S).size = S.length := txt_size S
            clear h8
            go_wp2_with fail
            refine (HA3.out _).mono ?_
            rintro e w' ⟨rfl, rfl⟩
            go_wp2_with fail
            refine bodyPost_ret (results_tmp4 rfl _ _ _) rfl ?_
            exact ⟨splitR_mk HR2.out rfl, HB2.out⟩
          · have z8 : ¬ ((txt S).size : Int) ≤ 8 := by rw [txt_size]; omega
            have z9 : ¬ (S.length : Int) ≤ 8 := by omega
            rw [decide_eq_false h8, Bool.false_and] at HR2
            clear h8
            go_wp2_with fail
            refine bodyPost_ret (results_tmp4 rfl _ _ _) rfl ?_
            exact ⟨splitR_mk HR2.out rfl, HB2.out⟩
      | false =>
        have hres := HR.out
        rw [if_neg (by simp)] at hres
        have HR2 := Lib.hid hres
        clear hres HR
        go_wp2_with fail
        rw [rounds_succ]
        go_wp2_with fail
        refine (HA4.out _).mono ?_
        rintro e w' ⟨rfl, rfl⟩
        go_wp2_with fail
        refine bodyPost_ret (results_tmp4 rfl _ _ _) rfl ?_
        exact ⟨splitR_mk HR2.out rfl, HB2.out⟩
end Go.Proofs.YtacogloheiendaaGreatDoor
