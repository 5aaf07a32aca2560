/- TopTurns: the walk. What a row's list of package-level variables gives: strconv's table of powers of ten. What a row's list of package-level variables gives, and bytealg's MaxLen. What a row's list of package-level variables gives: strconv's two errors lie there. What a row's list of package-level variables gives: strings' table of white space. A law's argument of type Rule, as it comes in. A law's argument of type Book, as it comes in. turns.Make: what it returns. -/
import Derived.Test.YtomahddiclkepaaGreatDoorQt07
import Derived.Test.YtomahddiclkepaaGreatDoorQt18
import Derived.Test.YtomahddiclkepaaGreatDoorQt17
import Derived.Test.YtomahddiclkepaaGreatDoorQt08
import Derived.Deep.DeepCutAuto
import Derived.Test.YtomahddiclkepaaGreatDoorCards
import Derived.Test.YtomahddiclkepaaGreatDoorTie
import Derived.Test.YtomahddiclkepaaGreatDoorQt01
import Derived.LaidMore
import Derived.Deep.DeepHandedRow
import Derived.Deep.DeepWitnessRowRef
import Derived.Lib.LaidTab
import Derived.Stop.LaidErr
import Derived.Test.YtomahddiclkepaaGreatDoorQt09
import Derived.Lay
import Derived.Test.YtomahddiclkepaaGreatDoorQt11
import Derived.Test.YtomahddiclkepaaGreatDoorQt02
import Derived.Deep.Slices
import Derived.Deep.Fields
import Derived.ChangeSame
import Derived.Lib.SmallJoins
import Derived.SizedLaws
import Derived.Test.YtomahddiclkepaaGreatDoorQt06
import Derived.Deep.CutRange
import Derived.Deep.CutBlock
namespace Go.Proofs.YtomahddiclkepaaGreatDoor
open Go.RowKit Go.Joins
open Classical
set_option linter.unusedVariables false
set_option linter.unusedSimpArgs false

/-- state.At of a book of one zone of one era -/
theorem zone_at (MK : MakeSays) {rules : List Ru} {rv : Value} {off y : Int} {nm : ByteArray} {W : World} {Z E : Nat} (hr : RowsAt (fun r : Ru => (ruCells r).toList) 11 W.heap.size W rv rules) (hs : ∀ r ∈ rules, SzR r) (hn : nm.size ≤ 140737488351232) (h1 : -64800 ≤ off) (h2 : off ≤ 64800) (hy1 : -9223372036854775808 ≤ y) (hy2 : y ≤ 9223372036854775807)
    (hZ : W.heap[Z]? = some (.cells #[.string ⟨#[90]⟩, .slice (some ⟨E, 0, none⟩) 1 1] 46 (0, 0))) (hE : W.heap[E]? = some (.cells #[.int .i64 off, .string nm, .int .i64 0, .string ⟨#[67, 37]⟩, .int .i64 0] 43 (0, 0))) (hm : MaxLen W) (ht : Tab10 W) :
    Calls Tryz.prog 18 #[.agg #[rv, .slice (some ⟨Z, 0, none⟩) 1 1, .slice none 0 0], .string ⟨#[90]⟩, .int .i64 y] W (StPost (stR (oneB rules zB (.slice (some ⟨E, 0, none⟩) 1 1) [tzE off nm]) zB y) W) := by
  refine StAt_any MK _ _ _ _ zB y W (one_book hr hs (x := tzE off nm) ?_ hZ hE (Array.getElem?_eq_some_iff.mp hZ).1 (Array.getElem?_eq_some_iff.mp hE).1) (by decide) hy1 hy2 hm ht
  exact ⟨hn, (by decide : tzC.size ≤ 140737488351232), by show -9223372036854775808 ≤ off; omega, by show off ≤ 9223372036854775807; omega, (by decide : (-9223372036854775808 : Int) ≤ 0), (by decide : (0 : Int) ≤ 9223372036854775807), (by decide : (-9223372036854775808 : Int) ≤ 0), (by decide : (0 : Int) ≤ 9223372036854775807)⟩
theorem ofR_szT {b : Bk} {nm : ByteArray} {off : Int} {l : List Tn} (h : ofR b nm off = (0, l)) : ∀ t ∈ l, SzTn t := by
  intro t ht
  have h1 := ofR_bd (b := b) (nm := nm) (off := off) t (by rw [h]; exact ht)
  have hbc : bkChk b = 0 := Classical.byContradiction fun g => by
    rw [ofR_bad g] at h
    injection h with h _
    exact g h
  have ho : ¬ (off < -64800 ∨ 64800 < off) := fun g => by
    rw [ofR_1 hbc g] at h
    injection h with h _
    exact absurd h (by decide)
  rw [ofR_mk hbc ho] at h
  obtain ⟨-, ok⟩ := bk_rules hbc
  obtain ⟨-, -, hP⟩ := mk_letters ok h
  refine ⟨by omega, by omega, ?_⟩
  apply Classical.byContradiction
  intro g
  obtain ⟨r, hr, -, hs⟩ := (hP fun lt => 140737488351232 < lt.size).2 ⟨t, ht, by omega⟩
  have := okRu_lt (ok r hr)
  omega
theorem yr_szT {l : List Tn} (h : ∀ t ∈ l, SzTn t) : ∀ r ∈ (yearsR l).2, SzR r := by
  intro r hr
  unfold yearsR at hr
  split at hr
  · cases hr
  split at hr
  · obtain ⟨t, ht, rfl⟩ := List.mem_map.1 hr
    exact ⟨by show ByteArray.size ⟨#[121, 101, 97, 114, 115]⟩ ≤ _; decide, (h t ht).l⟩
  · cases hr
theorem yr_lenT (l : List Tn) : (yearsR l).2.length ≤ 40 := by
  unfold yearsR
  split
  · exact Nat.zero_le _
  split
  · show (l.map yrR).length ≤ 40; rw [List.length_map]; omega
  · exact Nat.zero_le _
theorem rises_leT {L : List Tn} (h : Rises L) : ∀ (j i : Nat) (hj : j < L.length) (hi : i < L.length), i ≤ j → L[i].a ≤ L[j].a
  | 0, i, hj, hi, hij => by
    obtain rfl : i = 0 := by omega
    exact Int.le_refl _
  | j + 1, i, hj, hi, hij => by
    by_cases e : i = j + 1
    · subst e; exact Int.le_refl _
    · have h1 := rises_leT h j i (by omega) hi (by omega)
      have h2 := h j hj
      omega
theorem set_oneT {W : World} {g : Nat} {a : Value} {T : TypeId} (h : W.heap[g]? = some (.cells #[a] T (0, 0))) (x : Value) :
    ∃ W', W.setCell ⟨g, 0, none⟩ x = W' ∧ (∀ B, B ≤ g → Below B W W') ∧ W'.heap[g]? = some (.cells #[x] T (0, 0)) ∧ ∀ b, b ≠ g → W'.heap[b]? = W.heap[b]? := by
  refine ⟨_, rfl, fun B hB => (Below.refl _ _).setCell (by exact hB) _, ?_, fun b hb => Below.heap_setCell _ _ _ _ hb⟩
  rw [heap_setCell_same W g 0 _ _ _ h]
  rfl
set_option maxHeartbeats 2000000 in
theorem zoneC_any (p : Option Addr) (n c : Nat) (nm : ByteArray) (ob : Nat) (off : Int) (w : World) (h : w.cell? ⟨ob, 0, none⟩ = some (.int .i64 off)) :
    Calls Tryz.prog 17 #[.slice p n c, .string nm, .pointer (some ⟨ob, 0, none⟩)] w fun e w' => ∃ Z E, e = .returned (.agg #[.slice p n c, .slice (some ⟨Z, 0, none⟩) 1 1, .slice none 0 0]) ∧ w'.heap[Z]? = some (.cells #[.string ⟨#[90]⟩, .slice (some ⟨E, 0, none⟩) 1 1] 46 (0, 0)) ∧ w'.heap[E]? = some (.cells #[.int .i64 off, .string nm, .int .i64 0, .string ⟨#[67, 37]⟩, .int .i64 0] 43 (0, 0)) ∧ Below w.heap.size w w' := by
  have hl : ob < w.heap.size := World.block_lt_of_cell? _ _ h
  obtain ⟨W0, eW⟩ : ∃ W0, w.alloc (.cells #[.slice none 0 0, .slice none 0 0, .slice none 0 0] 26) = W0 := ⟨_, rfl⟩
  have hb0 : Below w.heap.size w W0 := by rw [← eW]; exact alBelow _ _
  have hz0 : W0.heap.size = w.heap.size + 1 := by rw [← eW]; simp
  have hx0 : W0.heap[w.heap.size]? = some (.cells #[.slice none 0 0, .slice none 0 0, .slice none 0 0] 26 (0, 0)) := by rw [← eW]; exact heap_alloc_new w _
  have i0 : W0.cell? ⟨ob, 0, none⟩ = some (.int .i64 off) := (hb0.cell (p := ⟨ob, 0, none⟩) hl).trans h
  obtain ⟨W2, e2⟩ : ∃ W2, (W0.alloc (.cells #[.int .i64 off, .string nm, .int .i64 0, .string ⟨#[67, 37]⟩, .int .i64 0] 43)).alloc (.cells #[.string ⟨#[90]⟩, .slice (some ⟨W0.heap.size, 0, none⟩) 1 1] 46) = W2 := ⟨_, rfl⟩
  have hb2 : Below W0.heap.size W0 W2 := by rw [← e2]; exact ((Below.refl _ _).alloc (Nat.le_refl _) _).alloc (by simp) _
  have hx1 : W2.heap[W0.heap.size]? = some (.cells #[.int .i64 off, .string nm, .int .i64 0, .string ⟨#[67, 37]⟩, .int .i64 0] 43 (0, 0)) := by
    rw [← e2, Below.heap_alloc _ _ _ (by simp)]
    exact heap_alloc_new W0 _
  have hx2 : W2.heap[W0.heap.size + 1]? = some (.cells #[.string ⟨#[90]⟩, .slice (some ⟨W0.heap.size, 0, none⟩) 1 1] 46 (0, 0)) := by
    rw [← e2]
    exact alloc_at _ _ _ (by simp)
  have hx02 := (hb2.block w.heap.size (by omega)).trans hx0
  have f0 : W2.frozen? ⟨w.heap.size, 0, none⟩ = false := by simp [World.frozen?, hx02]
  have f1 : W2.frozen? ⟨w.heap.size, 1, none⟩ = false := by simp [World.frozen?, hx02]
  have f2 : W2.frozen? ⟨w.heap.size, 2, none⟩ = false := by simp [World.frozen?, hx02]
  have x0 : W2.cell? ⟨w.heap.size, 0, none⟩ = some (.slice none 0 0) := (cell_of_row W2 _ 0 _ _ _ hx02).trans rfl
  have x1 : W2.cell? ⟨w.heap.size, 1, none⟩ = some (.slice none 0 0) := (cell_of_row W2 _ 1 _ _ _ hx02).trans rfl
  have x2 : W2.cell? ⟨w.heap.size, 2, none⟩ = some (.slice none 0 0) := (cell_of_row W2 _ 2 _ _ _ hx02).trans rfl
  obtain ⟨W3, e3, hb3, v0, v1, v2, hk3⟩ := end3P hx02 (.slice p n c) (.slice (some ⟨W0.heap.size + 1, 0, none⟩) 1 1) (.slice none 0 0)
  have HF : Hid (W3.heap[W0.heap.size + 1]? = some (.cells #[.string ⟨#[90]⟩, .slice (some ⟨W0.heap.size, 0, none⟩) 1 1] 46 (0, 0)) ∧ W3.heap[W0.heap.size]? = some (.cells #[.int .i64 off, .string nm, .int .i64 0, .string ⟨#[67, 37]⟩, .int .i64 0] 43 (0, 0)) ∧ Below w.heap.size w W3) := by
    show _ ∧ _
    exact ⟨(hk3 _ (by omega)).trans hx2, (hk3 _ (by omega)).trans hx1, (hb0.trans (hb2.mono hb0.size)).trans hb3⟩
  have HE0 := Lib.hid eW
  rw [← e2] at f0 f1 f2 x0 x1 x2 e3
  have HE3 := Lib.hid e3
  clear eW e2 e3 hb0 hb2 hx0 hx1 hx2 hx02 hb3 hk3 h hz0
  go_enter Tryz.func17, Tryz.ntmps17
  go_upto_region 1 with fail
  rw [HE0.out]
  go_wp2_with fail
  rw [HE3.out]
  exact bodyPost_ret (v := .agg #[.slice p n c, .slice (some ⟨W0.heap.size + 1, 0, none⟩) 1 1, .slice none 0 0]) (by simp [results, Tryz.results17, go_sem, v0, v1, v2]) rfl ⟨_, _, rfl, HF.out.1, HF.out.2.1, HF.out.2.2⟩
set_option maxRecDepth 100000 in
set_option maxHeartbeats 8000000 in
theorem TopTurns_walk (MK : MakeSays) (b : Bk) (rv zv lv : Value) (nm : ByteArray) (o0 a0 : Int) (w : World) (hB : BookAt w.heap.size w rv zv lv b) (hn : nm.size ≤ 140737488351232) (ht : Tab10 w) (ha : AscTab w) (he : NumErrs w) (hm : MaxLen w) :
    Calls Tryz.prog 4 #[.agg #[rv, zv, lv], .string nm, .int .i64 o0, .int .i64 a0] w fun e w' => e = .returned (.bool true) ∧ Below w.heap.size w w' := by
  have HWK := Lib.hid (fun W (h : Below w.heap.size w W) => works_any MK W (ht.below h) (ha.below h) (he.below h) (hm.below h))
  have HMT := Lib.hid (fun W (h : Below w.heap.size w W) => And.intro (hm.below h) (ht.below h))
  have HBK := Lib.hid (fun W (h : Below w.heap.size w W) => (hB.below h (Nat.le_refl _)).baseN h.size)
  obtain ⟨p1, c1, rfl, hlen1, -⟩ := hB.r
  obtain ⟨p2, c2, rfl, hlen2, -⟩ := hB.z
  obtain ⟨p3, c3, rfl, hlen3, -⟩ := hB.l
  obtain ⟨W0, eW⟩ : ∃ W0, w.alloc (.cells #[.slice p1 b.rules.length c1, .slice p2 b.zones.length c2, .slice p3 b.links.length c3] 26) = W0 := ⟨_, rfl⟩
  have hx0 : W0.heap[w.heap.size]? = some (.cells #[.slice p1 b.rules.length c1, .slice p2 b.zones.length c2, .slice p3 b.links.length c3] 26 (0, 0)) := by rw [← eW]; exact heap_alloc_new w _
  have hb0 : Below w.heap.size w W0 := by rw [← eW]; exact alBelow _ _
  have hz0 : W0.heap.size = w.heap.size + 1 := by rw [← eW]; simp
  obtain ⟨W1, eW1⟩ : ∃ W1, W0.alloc (.cells #[.int .i64 o0] 3) = W1 := ⟨_, rfl⟩
  have hx1 : W1.heap[w.heap.size + 1]? = some (.cells #[.int .i64 o0] 3 (0, 0)) := by rw [← eW1]; exact alloc_at _ _ _ hz0.symm
  have hb1 : Below W0.heap.size W0 W1 := by rw [← eW1]; exact alBelow _ _
  have hx01 : W1.heap[w.heap.size]? = some (.cells #[.slice p1 b.rules.length c1, .slice p2 b.zones.length c2, .slice p3 b.links.length c3] 26 (0, 0)) := (hb1.block _ (by omega)).trans hx0
  have HB1 := Lib.hid (hb0.trans (hb1.mono hb0.size))
  have HEW := Lib.hid eW
  have HEW1 := Lib.hid eW1
  have HX01 := Lib.hid hx01
  have HX1 := Lib.hid hx1
  clear hB eW eW1 hx0 hb0 hx1 hb1 hx01 ht ha he hm
  go_enter Tryz.func4, Tryz.ntmps4
  go_upto_region 1 with fail
  rw [HEW.out, HEW1.out]
  go_wp2_with fail
  refine (HWK.out W1 HB1.out).mono ?_
  rintro e w2 ⟨rfl, hb2⟩
  have hbw2 := HB1.out.trans (hb2.mono HB1.out.size)
  have hbk2 := (hb2.block w.heap.size (Array.getElem?_eq_some_iff.mp HX01.out).1).trans HX01.out
  have hob2 := (hb2.block (w.heap.size + 1) (Array.getElem?_eq_some_iff.mp HX1.out).1).trans HX1.out
  obtain ⟨ob, eob⟩ : ∃ ob, w.heap.size + 1 = ob := ⟨_, rfl⟩
  have HOB := Lib.hid eob
  rw [eob] at hob2 ⊢
  have hobl : ob < w2.heap.size := (Array.getElem?_eq_some_iff.mp hob2).1
  have i0 : w2.cell? ⟨ob, 0, none⟩ = some (.int .i64 o0) := (cell_of_row w2 _ 0 _ _ _ hob2).trans rfl
  have f0 : w2.frozen? ⟨ob, 0, none⟩ = false := by simp [World.frozen?, hob2]
  have r1 := Int.emod_nonneg o0 (show (129601 : Int) ≠ 0 by decide)
  have r2 := Int.emod_lt_of_pos o0 (show (0 : Int) < 129601 by decide)
  have HRE := Lib.hid (fun W => Rest0_any o0 129601 W (by decide) (by decide))
  obtain ⟨off, eo⟩ : ∃ off, o0 % 129601 - 64800 = off := ⟨_, rfl⟩
  have how : IntKind.i64.wrap (o0 % 129601 - 64800) = off := by rw [eo]; exact IntWalk.i64_in _ (by omega)
  have ho1 : -64800 ≤ off := by omega
  have ho2 : off ≤ 64800 := by omega
  obtain ⟨W3, e3, hB3, hx3, hk3⟩ := set_oneT hob2 (.int .i64 off)
  have hb3 : Below w.heap.size w W3 := hbw2.trans (hB3 _ (by omega))
  have hbk3 : W3.heap[w.heap.size]? = _ := (hk3 w.heap.size (by omega)).trans hbk2
  have HBX : Hid (∀ W, Below W3.heap.size W3 W → Below w.heap.size w W ∧ W.cell? ⟨w.heap.size, 0, none⟩ = some (.slice p1 b.rules.length c1) ∧ W.cell? ⟨w.heap.size, 1, none⟩ = some (.slice p2 b.zones.length c2) ∧ W.cell? ⟨w.heap.size, 2, none⟩ = some (.slice p3 b.links.length c3) ∧ W.cell? ⟨ob, 0, none⟩ = some (.int .i64 off)) := by
    show ∀ W, _
    intro W hb
    have hx := (hb.block w.heap.size (Array.getElem?_eq_some_iff.mp hbk3).1).trans hbk3
    have hy := (hb.block ob (Array.getElem?_eq_some_iff.mp hx3).1).trans hx3
    exact ⟨hb3.trans (hb.mono hb3.size), (cell_of_row W _ 0 _ _ _ hx).trans rfl, (cell_of_row W _ 1 _ _ _ hx).trans rfl, (cell_of_row W _ 2 _ _ _ hx).trans rfl, (cell_of_row W _ 0 _ _ _ hy).trans rfl⟩
  have HE3 := Lib.hid e3
  have HB3 := Lib.hid hb3
  clear hb2 hbw2 hbk2 hob2 eob hB3 hx3 hk3 hbk3 e3 hb3 HWK eo
  go_wp2_with fail
  refine (HRE.out _).mono ?_
  rintro e w' ⟨rfl, rfl⟩
  go_upto_region 4 with fail
  rw [HE3.out]
  clear i0 f0 hobl
  obtain ⟨hw3, g0, g1, g2, g3⟩ := HBX.out W3 (Below.refl _ _)
  have hof := Of_book MK b _ _ _ nm off W3 (HBK.out W3 hw3) (HMT.out W3 hw3).1 (HMT.out W3 hw3).2
  have HBAD := Lib.hid (ofR_bad2 (b := b) (nm := nm) (off := off))
  have hLEN := ofR_len b nm off
  have HSZ := Lib.hid (fun l h => ofR_szT (b := b) (nm := nm) (off := off) (l := l) h)
  have HLAW := Lib.hid (fun l ev ev2 h h2 y => turns_law (b := b) (nm := nm) (off := off) (l := l) ev ev2 h h2 ho1 ho2 y)
  have HBT := Lib.hid (ofR_bd (b := b) (nm := nm) (off := off))
  have HRI := Lib.hid (fun h => (ofR_rise (b := b) (nm := nm) (off := off) h).1)
  obtain ⟨R, eR⟩ : ∃ R, ofR b nm off = R := ⟨_, rfl⟩
  rw [eR] at hof HBAD hLEN HSZ HLAW HRI HBT
  obtain ⟨C, L⟩ := R
  have HOF := Lib.hid hof
  clear hof eR hw3
  go_wp2_with fail
  refine HOF.out.mono ?_
  rintro e w4 ⟨vo, rfl, hrow, hb4⟩
  simp only at hrow hLEN ⊢
  have HB4 := Lib.hid hb4
  have HRW := Lib.hid hrow
  obtain ⟨A, cA, rfl⟩ := own_sliceN hrow
  clear g0 g1 g2 g3 hb4 HOF
  obtain ⟨hw4, g0, g1, g2, g3⟩ := HBX.out w4 HB4.out
  have HW4 := Lib.hid hw4
  clear hw4
  by_cases hC : C = 0
  case neg =>
    obtain rfl : L = [] := HBAD.out hC
    have hz : (C == 0) = false := by simpa using hC
    have hzn : (C != 0) = true := by simpa using hC
    clear hC hrow HRW
    go_wp2_with fail
    go_ret
    exact ⟨rfl, HW4.out⟩
  subst hC
  have hsz := HSZ.out L rfl
  have hyr := Years_any L _ w4 (own_rowsT hrow (by omega)) hsz
  have HRS := Lib.hid (yr_szT hsz)
  have hyl := yr_lenT L
  have HLW := Lib.hid (fun ev ev2 h2 y => HLAW.out L ev ev2 rfl h2 y)
  obtain ⟨R, eR⟩ : ∃ R, yearsR L = R := ⟨_, rfl⟩
  rw [eR] at hyr HRS hyl HLW
  obtain ⟨D, Y⟩ := R
  have HYR := Lib.hid hyr
  clear hrow hyr hsz eR HSZ HLAW HBAD
  go_wp2_with fail
  refine HYR.out.mono ?_
  rintro e w5 ⟨vo, rfl, hrow, hb5⟩
  simp only at hrow hyl ⊢
  have HB5 := Lib.hid (HB4.out.trans (hb5.mono HB4.out.size))
  have HRY := Lib.hid hrow
  have HRW5 := Lib.hid (own_keep HRW.out fun g e => hb5.block g (World.ownsRow.lt HRW.out g e).2)
  obtain ⟨A2, cA2, rfl⟩ := own_sliceN hrow
  clear g0 g1 g2 g3 hb5 HYR hrow
  obtain ⟨hw5, g0, g1, g2, g3⟩ := HBX.out w5 HB5.out
  have HW5 := Lib.hid hw5
  clear hw5
  by_cases hD : D = 0
  case neg =>
    have hz : (D == 0) = false := by simpa using hD
    have hzn : (D != 0) = true := by simpa using hD
    clear hD
    go_wp2_with fail
    go_ret
    exact ⟨rfl, HW5.out⟩
  subst hD
  have hne : L ≠ [] := (HLW.out undef undef rfl 0).1
  obtain ⟨n, en⟩ : ∃ n, L.length = n := ⟨_, rfl⟩
  have hnp : 0 < n := by rw [← en]; exact List.length_pos_iff.2 hne
  have hro := own_rowsT HRW5.out (by omega)
  obtain ⟨pp, cc, ee, -, hat⟩ := hro
  obtain ⟨bq, o, epp, hbq, hcs⟩ := hat hne
  rw [epp, Value.slice.injEq] at ee
  obtain ⟨rfl, -, rfl⟩ := ee
  have m0 := hcs 0 (by omega) 0 _ rfl
  have m1 := hcs (n - 1) (by omega) 0 _ rfl
  simp only [Nat.zero_mul, Nat.add_zero] at m0 m1
  have hri : Rises L := by first | exact HRI.out rfl | exact HRI.out trivial
  have hfz := rises_leT hri (n - 1) 0 (by omega) (by omega) (by omega)
  have hb1 := HBT.out _ (List.getElem_mem (show 0 < L.length by omega))
  have hb2 := HBT.out _ (List.getElem_mem (show n - 1 < L.length by omega))
  obtain ⟨F, eF⟩ : ∃ F, L[0].a = F := ⟨_, rfl⟩
  obtain ⟨Z, eZ⟩ : ∃ Z, L[n - 1].a = Z := ⟨_, rfl⟩
  rw [eF] at m0 hfz hb1
  rw [eZ] at m1 hfz hb2
  obtain ⟨M, eM⟩ : ∃ M, Z - F + 1000000 = M := ⟨_, rfl⟩
  have q1 := Int.emod_nonneg a0 (show M ≠ 0 by omega)
  have q2 := Int.emod_lt_of_pos a0 (show 0 < M by omega)
  have HR2 := Lib.hid (fun W => Rest0_any a0 M W (by omega) (by omega))
  have hw1 : IntKind.i64.wrap ((n : Int) - 1) = (n : Int) - 1 := IntWalk.i64_in _ (by omega)
  have hw2 : IntKind.i64.wrap (Z - F) = Z - F := IntWalk.i64_in _ (by omega)
  have hw3 : IntKind.i64.wrap (Z - F + 1000000) = M := by rw [eM]; exact IntWalk.i64_in _ (by omega)
  obtain ⟨y, ey⟩ : ∃ y, F + a0 % M = y := ⟨_, rfl⟩
  have hw4 : IntKind.i64.wrap (F + a0 % M) = y := by rw [ey]; exact IntWalk.i64_in _ (by omega)
  have hi0 : (0 : Int) ≤ (n : Int) - 1 := by omega
  have hi1 : (n : Int) - 1 < (n : Int) := by omega
  have hi2 : ((n : Int) - 1).toNat = n - 1 := by omega
  have hi3 : (0 : Int) < (n : Int) := by omega
  have hy1 : -20000000000 ≤ y := by omega
  have hy2 : y ≤ 40000000000 := by omega
  have HEN := Lib.hid en
  have HLE := Lib.hid (fun ev ev2 => (HLW.out ev ev2 rfl y).2)
  have m0d : w5.drew.cell? ⟨bq, o, none⟩ = some (.int .i64 F) := m0
  rw [en]
  clear hne en hat hcs hri hfz hb1 hb2 eF eZ eM ey HBT HRI HRW HRW5 HLW
  go_upto_region 12 with fail
  go_cut [3] (fun s3 wx => s3 = .int .i64 y ∧ Below w5.heap.size w5 wx)
  case first =>
    go_region_law (first
      | (go_simp; go_at_call 14; refine (HR2.out _).mono ?_; rintro e w' ⟨rfl, rfl⟩))
    all_goals go_wp2_with fail
    all_goals go_meet
    all_goals exact ⟨rfl, (Below.refl _ _).drew⟩
  case rest =>
  obtain ⟨rfl, hbc⟩ := hcut
  have HBC := Lib.hid (HB5.out.trans (hbc.mono HB5.out.size))
  have HBC5 := Lib.hid hbc
  clear hbc g0 g1 g2 g3 m0 m1 m0d
  obtain ⟨hwc, g0, g1, g2, g3⟩ := HBX.out wc HBC.out
  have HWC := Lib.hid hwc
  clear hwc
  have HZ1 := Lib.hid (zoneC_any p1 b.rules.length c1 nm ob off wc g3)
  go_wp2_with fail
  refine HZ1.out.mono ?_
  rintro e w6 ⟨Z1, E1, rfl, hZ1, hE1, hb6⟩
  have HB6 := Lib.hid (HBC.out.trans (hb6.mono HBC.out.size))
  have HW6 := Lib.hid (HWC.out.trans (hb6.mono HWC.out.size))
  have HC6 := Lib.hid (HBC5.out.trans (hb6.mono HBC5.out.size))
  have hst1 := zone_at MK (rv := .slice p1 b.rules.length c1) (off := off) (y := y) (nm := nm) (Z := Z1) (E := E1) ((HBK.out w6 HW6.out).r) ((HBK.out w6 HW6.out).rs) hn ho1 ho2 (by omega) (by omega) hZ1 hE1 (HMT.out w6 HW6.out).1 (HMT.out w6 HW6.out).2
  obtain ⟨S1, eS1⟩ : ∃ S1, stR (oneB b.rules zB (.slice (some ⟨E1, 0, none⟩) 1 1) [tzE off nm]) zB y = S1 := ⟨_, rfl⟩
  rw [eS1] at hst1
  have HES1 := Lib.hid eS1
  have HST1 := Lib.hid hst1
  clear hZ1 hE1 hb6 hst1 eS1 HZ1 g0 g1 g2 g3
  go_wp2_with fail
  refine HST1.out.mono ?_
  rintro e w7 ⟨rfl, hb7⟩
  obtain ⟨k1, o1, s1, n1⟩ := S1
  simp only [tyV]
  have HB7 := Lib.hid (HB6.out.trans (hb7.mono HB6.out.size))
  obtain ⟨W8, e8⟩ : ∃ W8, w7.alloc (.cells #[.int .i64 o1, .bool s1, .string n1] 51) = W8 := ⟨_, rfl⟩
  obtain ⟨tb, etb⟩ : ∃ tb, w7.heap.size = tb := ⟨_, rfl⟩
  have hb8 : Below w7.heap.size w7 W8 := by rw [← e8]; exact alBelow _ _
  have hx8 : W8.heap[tb]? = some (.cells #[.int .i64 o1, .bool s1, .string n1] 51 (0, 0)) := by rw [← e8]; exact alloc_at _ _ _ etb.symm
  have HB8 := Lib.hid (HB7.out.trans (hb8.mono HB7.out.size))
  have HC8 := Lib.hid (HC6.out.trans ((hb7.trans (hb8.mono hb7.size)).mono HC6.out.size))
  have HX8 := Lib.hid hx8
  have hz8 : tb < W8.heap.size := (Array.getElem?_eq_some_iff.mp hx8).1
  have HE8 := Lib.hid e8
  have HTB := Lib.hid etb
  clear hb7 hb8 hx8 e8 etb HST1
  obtain ⟨hw8, g0, g1, g2, g3⟩ := HBX.out W8 HB8.out
  have HZ2 := Lib.hid (zoneC_any A2 Y.length cA2 ⟨#[121, 101, 97, 114, 115]⟩ ob off W8 g3)
  clear hw8
  go_upto_region 14 with fail
  rw [HTB.out, HE8.out]
  go_wp2_with fail
  refine HZ2.out.mono ?_
  rintro e w9 ⟨Z2, E2, rfl, hZ2, hE2, hb9⟩
  have HB9 := Lib.hid (HB8.out.trans (hb9.mono HB8.out.size))
  obtain ⟨hw9, -, -, -, -⟩ := HBX.out w9 HB9.out
  have HW9 := Lib.hid hw9
  have hb59 := HC8.out.trans (hb9.mono HC8.out.size)
  have hry := own_keep HRY.out fun g e => hb59.block g (World.ownsRow.lt HRY.out g e).2
  have hrows : RowsAt ruLY 11 w9.heap.size w9 (.slice A2 Y.length cA2) Y := own_rowsG (cells := ruLY) (k := 11) (fun _ => rfl) hry (by omega)
  have hst2 := zone_at MK (rv := .slice A2 Y.length cA2) (off := off) (y := y) (nm := ⟨#[121, 101, 97, 114, 115]⟩) (Z := Z2) (E := E2) hrows HRS.out (by decide) ho1 ho2 (by omega) (by omega) hZ2 hE2 (HMT.out w9 hw9).1 (HMT.out w9 hw9).2
  have hle := HLE.out (.slice (some ⟨E1, 0, none⟩) 1 1) (.slice (some ⟨E2, 0, none⟩) 1 1)
  rw [HES1.out] at hle
  have hst2 : Calls Tryz.prog 18 #[.agg #[.slice A2 Y.length cA2, .slice (some ⟨Z2, 0, none⟩) 1 1, .slice none 0 0], .string ⟨#[90]⟩, .int .i64 y] w9 (StPost (k1, ⟨o1, s1, n1⟩) w9) := by
    rw [hle]
    exact hst2
  have HST2 := Lib.hid hst2
  have hx9 := (hb9.block tb hz8).trans HX8.out
  have HX9 := Lib.hid hx9
  have hz9 : tb < w9.heap.size := (Array.getElem?_eq_some_iff.mp hx9).1
  clear hZ2 hE2 hb9 hw9 hb59 hry hrows hst2 hle HZ2 g0 g1 g2 g3 hx9 HES1 HLE
  go_wp2_with fail
  refine HST2.out.mono ?_
  rintro e w10 ⟨rfl, hb10⟩
  simp only [tyV]
  obtain ⟨W11, e11⟩ : ∃ W11, w10.alloc (.cells #[.int .i64 o1, .bool s1, .string n1] 51) = W11 := ⟨_, rfl⟩
  obtain ⟨tc, etc⟩ : ∃ tc, w10.heap.size = tc := ⟨_, rfl⟩
  have hb11 : Below w10.heap.size w10 W11 := by rw [← e11]; exact alBelow _ _
  have hx11 : W11.heap[tc]? = some (.cells #[.int .i64 o1, .bool s1, .string n1] 51 (0, 0)) := by rw [← e11]; exact alloc_at _ _ _ etc.symm
  have hb911 := hb10.trans (hb11.mono hb10.size)
  have HW11 := Lib.hid (HW9.out.trans (hb911.mono HW9.out.size))
  have hxb := (hb911.block tb hz9).trans HX9.out
  have u0 : W11.cell? ⟨tc, 0, none⟩ = some (.int .i64 o1) := (cell_of_row W11 _ 0 _ _ _ hx11).trans rfl
  have u1 : W11.cell? ⟨tc, 1, none⟩ = some (.bool s1) := (cell_of_row W11 _ 1 _ _ _ hx11).trans rfl
  have u2 : W11.cell? ⟨tc, 2, none⟩ = some (.string n1) := (cell_of_row W11 _ 2 _ _ _ hx11).trans rfl
  have v0 : W11.cell? ⟨tb, 0, none⟩ = some (.int .i64 o1) := (cell_of_row W11 _ 0 _ _ _ hxb).trans rfl
  have v1 : W11.cell? ⟨tb, 1, none⟩ = some (.bool s1) := (cell_of_row W11 _ 1 _ _ _ hxb).trans rfl
  have v2 : W11.cell? ⟨tb, 2, none⟩ = some (.string n1) := (cell_of_row W11 _ 2 _ _ _ hxb).trans rfl
  have hqq := fun W => eql_tySelf o1 s1 n1 W
  have HE11 := Lib.hid e11
  have HTC := Lib.hid etc
  clear hb10 hb11 hb911 hx11 hxb e11 etc HST2 HX8 HX9
  go_upto_region 15 with fail
  rw [HTC.out, HE11.out]
  go_wp2_with fail
  go_ret
  exact ⟨rfl, HW11.out⟩
end Go.Proofs.YtomahddiclkepaaGreatDoor
namespace Go.Proofs.YtomahddiclkepaaGreatDoor
open Go.ChangeShapes Go.WideShapes Go.ChangeAt Go.RowKit
set_option linter.unusedVariables false

theorem gPow : Tryz.prog.globalNamed "internal/strconv.uint64pow10" = some 3 := by kernel_rfl
theorem gPowType : (Tryz.prog.globals[3]?).map (·.type) = some 297 := by kernel_rfl
theorem tab10_of {W : World} {a b : String × DataW Unit} {rest : List (String × DataW Unit)} (h : laidMet Tryz.prog (a :: b :: ("internal/strconv.uint64pow10", Rows.laid_internal_strconv_uint64pow10) :: rest) W) : Tab10 W :=
  Lib.tabIs_of_head (rest := rest) gPow gPowType Tryz.underlying297 Tryz.underlying137 (by kernel_rfl) (by kernel_rfl) h.tail.tail
end Go.Proofs.YtomahddiclkepaaGreatDoor
namespace Go.Proofs.YtomahddiclkepaaGreatDoor
open Go.ChangeShapes Go.WideShapes Go.ChangeAt Go.RowKit
set_option linter.unusedVariables false

theorem maxLen_of {W : World} (h : W.ShapedOpen Tryz.prog) : MaxLen W :=
  Go.Proofs.cell_of_shapedOpen_int (zero := #[.int .i64 0]) (t := 3) h (of_decide_eq_true (by kernel_rfl)) (by kernel_rfl) rfl (by kernel_rfl) (by kernel_rfl) Tryz.underlying3
end Go.Proofs.YtomahddiclkepaaGreatDoor
namespace Go.Proofs.YtomahddiclkepaaGreatDoor
open Go.ChangeShapes Go.WideShapes Go.ChangeAt Go.RowKit
set_option linter.unusedVariables false

theorem star : "*" ++ "errors.errorString" = "*errors.errorString" := by decide
theorem rowErr (u : TypeId) (h : Tryz.prog.typeName? 3 u = some "*errors.errorString") : u = 312 :=
  typeName_ptr_named (nm := "errors.errorString") (by rw [star]; kernel_rfl) (by kernel_rfl) (by decide) u (by rw [star]; exact h)
theorem gSyn : Tryz.prog.globalNamed "strconv.ErrSyntax" = some 6 := by kernel_rfl
theorem gRan : Tryz.prog.globalNamed "strconv.ErrRange" = some 7 := by kernel_rfl
theorem gSynType : (Tryz.prog.globals[6]?).map (·.type) = some 159 := by kernel_rfl
theorem gRanType : (Tryz.prog.globals[7]?).map (·.type) = some 159 := by kernel_rfl
theorem cellsES : Tryz.prog.cellsOf 314 = 1 := by kernel_rfl
theorem cellsStr : Tryz.prog.cellsOf 9 = 1 := by kernel_rfl
theorem ifaceV_of {W : World} {n : String} {g : Nat} {p : Value} {tp : TypeId} (hg : Tryz.prog.globalNamed n = some g) (h : W.var? Tryz.prog n = some #[.iface tp p]) : IfaceV W g :=
  ⟨_, by have h0 := World.var?_cell hg h 0; simpa using h0, .inr ⟨_, _, rfl⟩⟩
theorem numErrs_of {W : World} {rest : List (String × DataW Unit)} (h : laidMet Tryz.prog (("strconv.ErrRange", Rows.laid_strconv_ErrRange) :: ("strconv.ErrSyntax", Rows.laid_strconv_ErrSyntax) :: rest) W) : NumErrs W := by
  obtain ⟨a0, s0, hv0, _⟩ := laid_sentinel h gRan gRanType Tryz.underlying159 rowErr Tryz.underlying312 Tryz.underlying314 rfl rfl Tryz.underlying9 cellsES cellsStr
  obtain ⟨a1, s1, hv1, _⟩ := laid_sentinel h.tail gSyn gSynType Tryz.underlying159 rowErr Tryz.underlying312 Tryz.underlying314 rfl rfl Tryz.underlying9 cellsES cellsStr
  exact ⟨ifaceV_of gSyn hv1, ifaceV_of gRan hv0⟩

section
variable {H : Type} {enc : TypeId × Value → H}
theorem witness_row_lay {C : Checked} {os : Os} {f : FuncId} {fn : Func} {s : OpenSpec} {conds : List PathCond} {apart : Bool} {laid : List (String × DataW Unit)} (modest : Bool) (w0 : World) (args : Array Value) (hos : w0.os = os)
    (hsh : (w0.forCall (fun _ _ => 0) ⟨#[], args, []⟩).Shaped C.prog)
    (hok : Input.okWideB C.prog (w0.forCall (fun _ _ => 0) ⟨#[], args, []⟩) f ⟨#[], args, []⟩ = true)
    (hrow : s.preRow enc C.prog fn conds apart laid (w0.forCall (fun _ _ => 0) ⟨#[], args, []⟩).memory args) :
    ∃ (w : World) (tape : Tape) (i : Input), w.os = os ∧ (w.forCall tape i).Shaped C.prog ∧ i.vars = [] ∧ Input.okWide C.prog (w.forCall tape i) .any w.heap.size f i ∧
      s.preRow enc C.prog fn conds apart laid (w.forCall tape i).memory i.args ∧ ({ modest := modest } : Assume).holds C.prog (lone (Frame.enter C.prog f i.args .normal) [] (w.forCall tape i)) :=
  ⟨w0, fun _ _ => 0, ⟨#[], args, []⟩, hos, hsh, (Input.okWide_of_okWideB (base := 0) hok).1, (Input.okWide_of_okWideB hok).2, hrow, by
    simp only [Assume.holds]
    exact ⟨by simp, by simp, fun _ => Modest.zero, by simp, by simp⟩⟩
end
end Go.Proofs.YtomahddiclkepaaGreatDoor
namespace Go.Proofs.YtomahddiclkepaaGreatDoor
open Go.ChangeShapes Go.WideShapes Go.ChangeAt Go.RowKit
set_option linter.unusedVariables false

theorem gAsc : Tryz.prog.globalNamed "strings.asciiSpace" = some 0 := by kernel_rfl
theorem gAscType : (Tryz.prog.globals[0]?).map (·.type) = some 205 := by kernel_rfl
theorem laidAsc : (Rows.laid_strings_asciiSpace : DataW Unit) = Lib.tabData .u8 Lib.asciiSpaceTab := by kernel_rfl
theorem ascTab_of {W : World} {rest : List (String × DataW Unit)} (h : laidMet Tryz.prog (("strings.asciiSpace", Rows.laid_strings_asciiSpace) :: rest) W) : AscTab W := by
  rw [laidAsc] at h
  exact Lib.tabIs_of_head (rest := rest) gAsc gAscType Tryz.underlying205 Tryz.underlying5 (by kernel_rfl) (by kernel_rfl) h
end Go.Proofs.YtomahddiclkepaaGreatDoor
namespace Go.Proofs.YtomahddiclkepaaGreatDoor
open Go.ChangeShapes Go.WideShapes Go.Deep Go.RowKit Go.Joins
set_option linter.unusedVariables false
set_option linter.unusedSimpArgs false

theorem list11 {α : Type} (l : List α) (h : l.length = 11) : ∃ a b c d e f g h' i j k, l = [a, b, c, d, e, f, g, h', i, j, k] := by
  match l, h with
  | [a, b, c, d, e, f, g, h', i, j, k], _ => exact ⟨a, b, c, d, e, f, g, h', i, j, k, rfl⟩

section
variable {H : Type} {enc : TypeId × Value → H} {w : World} {base : Nat} {spare : Nat → Bool} {held : Bool}
theorem trod_iR {fuel : Nat} {v : Value} {x : DataW H × List MemPlace} (h : DataW.trod enc Tryz.prog w base spare held fuel 3 [v] = some x) : ∃ n, v = .int .i64 n := by
  obtain ⟨b, e, _, _⟩ := DataW.trod_int Tryz.underlying3 h
  simp only [List.cons.injEq, and_true] at e
  exact ⟨b, e⟩
theorem trod_sR {fuel : Nat} {v : Value} {x : DataW H × List MemPlace} (h : DataW.trod enc Tryz.prog w base spare held fuel 9 [v] = some x) : ∃ s, v = .string s ∧ s.size ≤ maxLen := by
  obtain ⟨b, e, _, hs⟩ := DataW.trod_string Tryz.underlying9 h
  simp only [List.cons.injEq, and_true] at e
  exact ⟨b, e, hs⟩
set_option maxRecDepth 100000 in
theorem Dy_open {fuel : Nat} {a b c : Value} {x : DataW H × List MemPlace} (h : DataW.trod enc Tryz.prog w base spare held fuel 85 [a, b, c] = some x) : ∃ k wd n : Int, a = .int .i64 k ∧ b = .int .i64 wd ∧ c = .int .i64 n := by
  obtain ⟨xs, n, _, _, _, hl, hf⟩ := DataW.trod_struct Tryz.underlying85 h
  have hl3 : xs.length = 3 := hl
  have h0 := hf 0 _ rfl
  have h1 := hf 1 _ rfl
  have h2 := hf 2 _ rfl
  rw [List.getElem?_eq_getElem (by omega)] at h0 h1 h2
  obtain ⟨m, rfl⟩ := trod_iR (v := a) h0
  obtain ⟨k, rfl⟩ := trod_iR (v := b) h1
  obtain ⟨e, rfl⟩ := trod_iR (v := c) h2
  exact ⟨m, k, e, rfl, rfl, rfl⟩

theorem cellsRu : Tryz.prog.cellsOf 87 = 11 := by kernel_rfl
set_option maxRecDepth 100000 in
/-- the cells of a rule that can be read -/
theorem Ru_trod {fuel : Nat} {l : List Value} {x : DataW H × List MemPlace} (hl : l.length = 11) (h : DataW.trod enc Tryz.prog w base spare held fuel 87 l = some x) :
    ∃ q : Ru, l = (ruCells q).toList ∧ q.nm.size ≤ maxLen ∧ q.lt.size ≤ maxLen := by
  obtain ⟨c0, c1, c2, c3, c4, c5, c6, c7, c8, c9, c10, rfl⟩ := list11 l hl
  obtain ⟨xs, n, _, _, _, hl, hf⟩ := DataW.trod_struct Tryz.underlying87 h
  have hl9 : xs.length = 9 := hl
  have h0 := hf 0 _ rfl
  have h1 := hf 1 _ rfl
  have h2 := hf 2 _ rfl
  have h3 := hf 3 _ rfl
  have h4 := hf 4 _ rfl
  have h5 := hf 5 _ rfl
  have h6 := hf 6 _ rfl
  have h7 := hf 7 _ rfl
  have h8 := hf 8 _ rfl
  rw [List.getElem?_eq_getElem (by omega)] at h0 h1 h2 h3 h4 h5 h6 h7 h8
  obtain ⟨nm, rfl, s1⟩ := trod_sR (v := c0) h0
  obtain ⟨yf, rfl⟩ := trod_iR (v := c1) h1
  obtain ⟨yt, rfl⟩ := trod_iR (v := c2) h2
  obtain ⟨mo, rfl⟩ := trod_iR (v := c3) h3
  obtain ⟨dk, dw, dn, rfl, rfl, rfl⟩ := Dy_open (a := c4) (b := c5) (c := c6) (h4 : DataW.trod enc Tryz.prog w base spare held n 85 [c4, c5, c6] = _)
  obtain ⟨tm, rfl⟩ := trod_iR (v := c7) h5
  obtain ⟨ck, rfl⟩ := trod_iR (v := c8) h6
  obtain ⟨sv, rfl⟩ := trod_iR (v := c9) h7
  obtain ⟨lt, rfl, s2⟩ := trod_sR (v := c10) h8
  exact ⟨⟨nm, yf, yt, mo, dk, dw, dn, tm, ck, sv, lt⟩, rfl, s1, s2⟩
end
end Go.Proofs.YtomahddiclkepaaGreatDoor
namespace Go.Proofs.YtomahddiclkepaaGreatDoor
open Go.ChangeShapes Go.WideShapes Go.Deep Go.RowKit Go.Joins
set_option linter.unusedVariables false
set_option linter.unusedSimpArgs false

theorem reach_valB : reachBytes = 140737488351232 := by decide
theorem spot_noneB {w : World} {a : Addr} {v : Value} (h : w.cell? a = some v) : a = ⟨a.block, a.off, none⟩ := by
  obtain ⟨b, o, s⟩ := a
  cases s with
  | none => rfl
  | some k =>
    simp only [World.cell?] at h
    split at h
    · simp at h
    · cases h
theorem add_plainB (b o i : Nat) : (⟨b, o, none⟩ : Addr).add i = ⟨b, o + i, none⟩ := by
  unfold Addr.add
  split
  · rename_i h; subst h; rfl
  · rfl
theorem list_ofB {α : Type} [Inhabited α] (n : Nat) (Q : Nat → α → Prop) (h : ∀ i, i < n → ∃ x, Q i x) : ∃ l : List α, l.length = n ∧ ∀ i (hi : i < l.length), Q i l[i] := by
  classical
  refine ⟨(List.range n).map fun i => if hi : i < n then Classical.choose (h i hi) else default, by simp, fun i hi => ?_⟩
  have hi' : i < n := by simpa using hi
  simp only [List.getElem_map, List.getElem_range, hi', dite_true]
  exact Classical.choose_spec (h i hi')
instance : Inhabited Ru := ⟨⟨⟨#[]⟩, 0, 0, 0, 0, 0, 0, 0, 0, 0, ⟨#[]⟩⟩⟩
instance : Inhabited Er := ⟨⟨0, ⟨#[]⟩, 0, ⟨#[]⟩, 0⟩⟩
instance : Inhabited Zo := ⟨⟨⟨#[]⟩, .slice none 0 0, []⟩⟩
instance : Inhabited Lk := ⟨⟨⟨#[]⟩, ⟨#[]⟩⟩⟩

section
variable {H : Type} {enc : TypeId × Value → H} {w : World} {base : Nat} {spare : Nat → Bool} {held : Bool}
/-- what a datum weighs is within the reach -/
def Szd (t : TypeId) (d : DataW H) : Prop := ∀ n ∈ d.weights Tryz.prog t, n ≤ reachBytes
theorem sz_agg {t : TypeId} {fs : Array Field} (ht : Tryz.prog.underlying t = some (.struct fs)) {parts : List (DataW H)} (h : Szd t (.agg parts)) {j : Nat} {f : Field} {d : DataW H} (hf : fs[j]? = some f) (hd : parts[j]? = some d) : Szd f.type d := fun n hn =>
  h n (by
    simp only [DataW.weights, ht]
    refine DataW.weights_mem_each (j := j) ?_ hd n hn
    rw [List.getElem?_map, Array.getElem?_toList, hf]
    rfl)
theorem wa_mem {e : TypeId} : ∀ {es : List (DataW H)} {d : DataW H}, d ∈ es → ∀ n ∈ d.weights Tryz.prog e, n ∈ DataW.weightsAll Tryz.prog e es
  | x :: r, d, hd, n, hn => by
    simp only [DataW.weightsAll, List.mem_append]
    rcases List.mem_cons.1 hd with rfl | hd
    · exact .inl hn
    · exact .inr (wa_mem hd n hn)
theorem sz_slice {t e : TypeId} (ht : Tryz.prog.underlying t = some (.slice e)) {es sp : List (DataW H)} (h : Szd t (.slice es sp)) : (es.length + sp.length) * Tryz.prog.bytesOf e ≤ reachBytes ∧ ∀ d ∈ es, Szd e d := by
  unfold Szd at h
  simp only [DataW.weights, ht] at h
  exact ⟨h _ (List.mem_cons_self ..), fun d hd n hn => h n (List.mem_cons_of_mem _ (List.mem_append_left _ (wa_mem hd n hn)))⟩
theorem sz_str {t : TypeId} {b : ByteArray} (h : Szd t (.lit (.string b.data.toList) : DataW H)) : b.size ≤ 140737488351232 := by
  have := h b.data.toList.length (by simp [DataW.weights])
  rw [reach_valB] at this
  rw [Lib.size_eq]
  exact this

theorem open_rows {α : Type} [Inhabited α] (cells : α → List Value) (k : Nat) (Q : α → Prop) {t e : TypeId} (ht : Tryz.prog.underlying t = some (.slice e)) (hk : Tryz.prog.cellsOf e = k) (hb : 1 ≤ Tryz.prog.bytesOf e) (hk0 : 0 < k)
    (el : ∀ fuel l x, l.length = k → DataW.trod enc Tryz.prog w base spare held fuel e l = some x → Szd e x.1 → ∃ a, l = cells a ∧ Q a)
    {fuel : Nat} {v : Value} {x : DataW H × List MemPlace} (h : DataW.trod enc Tryz.prog w base spare held fuel t [v] = some x) (hs : Szd t x.1) : ∃ l, RowsAt cells k w.heap.size w v l ∧ ∀ a ∈ l, Q a := by
  rcases open_slice ht h with ⟨hcs, _⟩ | ⟨a, len, cap, m, n, D, Pl, hcs, hba, hl, hm, hmm, hx, hi⟩
  · obtain rfl : v = .slice none 0 0 := by simpa using hcs
    exact ⟨[], ⟨none, 0, rfl, ⟨by simp, by simp⟩, fun h => absurd rfl h⟩, fun a h => absurd h (List.not_mem_nil)⟩
  · obtain rfl : v = .slice (some a) len cap := by simpa using hcs
    rw [hx] at hs
    obtain ⟨hw, hsd⟩ := sz_slice ht hs
    have hlen : len ≤ 140737488351232 := by
      rw [reach_valB] at hw
      simp only [List.length_map, List.length_range] at hw
      have : len * 1 ≤ (len + (m - len)) * Tryz.prog.bytesOf e := Nat.mul_le_mul (by omega) hb
      omega
    have hlm : len ≤ m := by rw [hmm]; split <;> omega
    have key : ∀ i, i < len → ∃ y : α, (∀ j u, (cells y)[j]? = some u → w.cell? (a.add (i * k + j)) = some u) ∧ Q y ∧ ∃ u, w.cell? (a.add (i * k)) = some u := by
      intro i hil
      obtain ⟨cs', hc, htr⟩ := hi i (by omega)
      rw [hk] at hc
      obtain ⟨_, hcl, hat⟩ := World.cells?_some hc
      obtain ⟨y, rfl, hq⟩ := el n cs' _ hcl htr (hsd _ (List.mem_map.2 ⟨i, List.mem_range.2 hil, rfl⟩))
      have hcell : ∀ j u, (cells y)[j]? = some u → w.cell? (a.add (i * k + j)) = some u := by
        intro j u hu
        have hj : j < k := by rw [← hcl]; exact (List.getElem?_eq_some_iff.1 hu).1
        rw [← Go.Deep.add_add, hat j hj, hu]
      have h0 : (cells y)[0]? = some ((cells y)[0]'(by omega)) := List.getElem?_eq_getElem (by omega)
      exact ⟨y, hcell, hq, _, hcell 0 _ h0⟩
    obtain ⟨l, hl1, hl2⟩ := list_ofB len _ key
    subst hl1
    refine ⟨l, ⟨some a, cap, rfl, ⟨hlen, hl⟩, fun hne => ?_⟩, fun y hy => ?_⟩
    · have hp : 0 < l.length := List.length_pos_iff.2 hne
      obtain ⟨_, _, u, d0⟩ := hl2 0 hp
      rw [Nat.zero_mul] at d0
      have hsp : a = ⟨a.block, a.off, none⟩ := spot_noneB (w := w) (v := u) d0
      refine ⟨a.block, a.off, congrArg some hsp, ?_, fun i hi j u hu => ?_⟩
      · rw [hsp, add_plainB] at d0
        exact World.block_lt_of_cell? w ⟨a.block, _, none⟩ d0
      · have := (hl2 i hi).1 j u hu
        rw [hsp, add_plainB] at this
        rw [Nat.add_assoc]
        exact this
    · obtain ⟨i, hi, rfl⟩ := List.mem_iff_getElem.1 hy
      exact (hl2 i hi).2.1

theorem trod_iB {fuel : Nat} {v : Value} {x : DataW H × List MemPlace} (h : DataW.trod enc Tryz.prog w base spare held fuel 3 [v] = some x) : ∃ n, v = .int .i64 n ∧ -9223372036854775808 ≤ n ∧ n ≤ 9223372036854775807 := by
  obtain ⟨b, e, _, hw⟩ := DataW.trod_int Tryz.underlying3 h
  simp only [List.cons.injEq, and_true] at e
  simp only [Lit.wf, Bool.and_eq_true, decide_eq_true_eq] at hw
  exact ⟨b, e, hw⟩
theorem trod_sB {fuel : Nat} {v : Value} {x : DataW H × List MemPlace} (h : DataW.trod enc Tryz.prog w base spare held fuel 9 [v] = some x) (hs : Szd 9 x.1) : ∃ s, v = .string s ∧ s.size ≤ 140737488351232 := by
  obtain ⟨b, e, ex, _⟩ := DataW.trod_string Tryz.underlying9 h
  simp only [List.cons.injEq, and_true] at e
  rw [ex] at hs
  exact ⟨b, e, sz_str hs⟩
theorem list5 {α : Type} (l : List α) (h : l.length = 5) : ∃ a b c d e, l = [a, b, c, d, e] := by
  match l, h with
  | [a, b, c, d, e], _ => exact ⟨a, b, c, d, e, rfl⟩
theorem list2 {α : Type} (l : List α) (h : l.length = 2) : ∃ a b, l = [a, b] := by
  match l, h with
  | [a, b], _ => exact ⟨a, b, rfl⟩
set_option maxRecDepth 100000 in
/-- the cells of a rule, with its words' sizes -/
theorem Ru_trodB {fuel : Nat} {l : List Value} {x : DataW H × List MemPlace} (hl : l.length = 11) (h : DataW.trod enc Tryz.prog w base spare held fuel 87 l = some x) (hs : Szd 87 x.1) :
    ∃ q : Ru, l = (ruCells q).toList ∧ SzR q := by
  obtain ⟨q, rfl, -, -⟩ := Ru_trod hl h
  refine ⟨q, rfl, ?_⟩
  obtain ⟨xs, n, _, hx, _, hl, hf⟩ := DataW.trod_struct Tryz.underlying87 h
  have hl9 : xs.length = 9 := hl
  have h0 := hf 0 _ rfl
  have h8 := hf 8 _ rfl
  rw [List.getElem?_eq_getElem (by omega)] at h0 h8
  rw [hx] at hs
  have s0 := sz_agg Tryz.underlying87 hs (j := 0) rfl (d := xs[0].1) (by rw [List.getElem?_map, List.getElem?_eq_getElem (by omega)]; rfl)
  have s8 := sz_agg Tryz.underlying87 hs (j := 8) rfl (d := xs[8].1) (by rw [List.getElem?_map, List.getElem?_eq_getElem (by omega)]; rfl)
  obtain ⟨nm, e0, z0⟩ := trod_sB (v := .string q.nm) h0 s0
  obtain ⟨lt, e8, z8⟩ := trod_sB (v := .string q.lt) h8 s8
  injection e0 with e0
  injection e8 with e8
  subst e0 e8
  exact ⟨z0, z8⟩
set_option maxRecDepth 100000 in
theorem Er_trodB {fuel : Nat} {l : List Value} {x : DataW H × List MemPlace} (hl : l.length = 5) (h : DataW.trod enc Tryz.prog w base spare held fuel 43 l = some x) (hs : Szd 43 x.1) :
    ∃ q : Er, l = (erCells q).toList ∧ SzE q := by
  obtain ⟨c0, c1, c2, c3, c4, rfl⟩ := list5 l hl
  obtain ⟨xs, n, _, hx, _, hl, hf⟩ := DataW.trod_struct Tryz.underlying43 h
  have hl5 : xs.length = 5 := hl
  have h0 := hf 0 _ rfl
  have h1 := hf 1 _ rfl
  have h2 := hf 2 _ rfl
  have h3 := hf 3 _ rfl
  have h4 := hf 4 _ rfl
  rw [List.getElem?_eq_getElem (by omega)] at h0 h1 h2 h3 h4
  rw [hx] at hs
  have s1 := sz_agg Tryz.underlying43 hs (j := 1) rfl (d := xs[1].1) (by rw [List.getElem?_map, List.getElem?_eq_getElem (by omega)]; rfl)
  have s3 := sz_agg Tryz.underlying43 hs (j := 3) rfl (d := xs[3].1) (by rw [List.getElem?_map, List.getElem?_eq_getElem (by omega)]; rfl)
  obtain ⟨off, rfl, o1, o2⟩ := trod_iB (v := c0) h0
  obtain ⟨ru, rfl, z1⟩ := trod_sB (v := c1) h1 s1
  obtain ⟨sv, rfl, v1, v2⟩ := trod_iB (v := c2) h2
  obtain ⟨fm, rfl, z3⟩ := trod_sB (v := c3) h3 s3
  obtain ⟨un, rfl, u1, u2⟩ := trod_iB (v := c4) h4
  exact ⟨⟨off, ru, sv, fm, un⟩, rfl, z1, z3, o1, o2, v1, v2, u1, u2⟩
theorem cellsEr : Tryz.prog.cellsOf 43 = 5 := by kernel_rfl
theorem cellsZo : Tryz.prog.cellsOf 46 = 2 := by kernel_rfl
theorem cellsLk : Tryz.prog.cellsOf 91 = 2 := by kernel_rfl
theorem cellsBk : Tryz.prog.cellsOf 26 = 3 := by kernel_rfl
def ZoOk (w : World) (z : Zo) : Prop := RowsAt (fun x : Er => (erCells x).toList) 5 w.heap.size w z.ev z.eras ∧ z.nm.size ≤ 140737488351232 ∧ ∀ x ∈ z.eras, SzE x
set_option maxRecDepth 100000 in
theorem Zo_trodB {fuel : Nat} {l : List Value} {x : DataW H × List MemPlace} (hl : l.length = 2) (h : DataW.trod enc Tryz.prog w base spare held fuel 46 l = some x) (hs : Szd 46 x.1) :
    ∃ q : Zo, l = zoCells q ∧ ZoOk w q := by
  obtain ⟨c0, c1, rfl⟩ := list2 l hl
  obtain ⟨xs, n, _, hx, _, hl, hf⟩ := DataW.trod_struct Tryz.underlying46 h
  have hl2 : xs.length = 2 := hl
  have h0 := hf 0 _ rfl
  have h1 := hf 1 _ rfl
  rw [List.getElem?_eq_getElem (by omega)] at h0 h1
  rw [hx] at hs
  have s0 := sz_agg Tryz.underlying46 hs (j := 0) rfl (d := xs[0].1) (by rw [List.getElem?_map, List.getElem?_eq_getElem (by omega)]; rfl)
  have s1 := sz_agg Tryz.underlying46 hs (j := 1) rfl (d := xs[1].1) (by rw [List.getElem?_map, List.getElem?_eq_getElem (by omega)]; rfl)
  obtain ⟨nm, rfl, z0⟩ := trod_sB (v := c0) h0 s0
  obtain ⟨er, hr, hq⟩ := open_rows (fun x : Er => (erCells x).toList) 5 SzE (t := 44) (e := 43) (by kernel_rfl) cellsEr (of_decide_eq_true (by kernel_rfl)) (by decide) (fun fuel l x hl h hs => Er_trodB hl h hs) (v := c1) h1 s1
  exact ⟨⟨nm, c1, er⟩, rfl, hr, z0, hq⟩
set_option maxRecDepth 100000 in
theorem Lk_trodB {fuel : Nat} {l : List Value} {x : DataW H × List MemPlace} (hl : l.length = 2) (h : DataW.trod enc Tryz.prog w base spare held fuel 91 l = some x) (hs : Szd 91 x.1) :
    ∃ q : Lk, l = lkCells q ∧ (q.nm.size ≤ 140737488351232 ∧ q.tg.size ≤ 140737488351232) := by
  obtain ⟨c0, c1, rfl⟩ := list2 l hl
  obtain ⟨xs, n, _, hx, _, hl, hf⟩ := DataW.trod_struct Tryz.underlying91 h
  have hl2 : xs.length = 2 := hl
  have h0 := hf 0 _ rfl
  have h1 := hf 1 _ rfl
  rw [List.getElem?_eq_getElem (by omega)] at h0 h1
  rw [hx] at hs
  have s0 := sz_agg Tryz.underlying91 hs (j := 0) rfl (d := xs[0].1) (by rw [List.getElem?_map, List.getElem?_eq_getElem (by omega)]; rfl)
  have s1 := sz_agg Tryz.underlying91 hs (j := 1) rfl (d := xs[1].1) (by rw [List.getElem?_map, List.getElem?_eq_getElem (by omega)]; rfl)
  obtain ⟨nm, rfl, z0⟩ := trod_sB (v := c0) h0 s0
  obtain ⟨tt, rfl, z1⟩ := trod_sB (v := c1) h1 s1
  exact ⟨⟨nm, tt⟩, rfl, z0, z1⟩
set_option maxRecDepth 100000 in
/-- A law's argument of type Book -/
theorem Bk_open {r : Reach} {b0 : Nat} {v : Value} {d : DataW H} {p : List MemPlace} (hv : Value.okWide Tryz.prog w r b0 26 v) (h : DataW.Trod enc Tryz.prog w base spare held 26 v d p)
    (hs : Szd 26 d) : ∃ b rv zv lv, v = .agg #[rv, zv, lv] ∧ BookAt w.heap.size w rv zv lv b := by
  obtain ⟨c0, c1, c2, y0, y1, y2, m, rfl, rfl, _, g0, g1, g2⟩ := open_agg3 Tryz.underlying26 (by kernel_rfl) cellsBk hv h
  have s0 := sz_agg Tryz.underlying26 hs (j := 0) rfl rfl
  have s1 := sz_agg Tryz.underlying26 hs (j := 1) rfl rfl
  have s2 := sz_agg Tryz.underlying26 hs (j := 2) rfl rfl
  obtain ⟨rs, hr1, hr2⟩ := open_rows (fun r : Ru => (ruCells r).toList) 11 SzR (t := 22) (e := 87) (by kernel_rfl) cellsRu (of_decide_eq_true (by kernel_rfl)) (by decide) (fun fuel l x hl h hs => Ru_trodB hl h hs) (v := c0) g0 s0
  obtain ⟨zs, hz1, hz2⟩ := open_rows zoCells 2 (ZoOk w) (t := 23) (e := 46) (by kernel_rfl) cellsZo (of_decide_eq_true (by kernel_rfl)) (by decide) (fun fuel l x hl h hs => Zo_trodB hl h hs) (v := c1) g1 s1
  obtain ⟨ls, hl1, hl2⟩ := open_rows lkCells 2 (fun q : Lk => q.nm.size ≤ 140737488351232 ∧ q.tg.size ≤ 140737488351232) (t := 24) (e := 91) (by kernel_rfl) cellsLk (of_decide_eq_true (by kernel_rfl)) (by decide) (fun fuel l x hl h hs => Lk_trodB hl h hs) (v := c2) g2 s2
  exact ⟨⟨rs, zs, ls⟩, c0, c1, c2, rfl, hr1, hz1, fun z hz => (hz2 z hz).1, hl1, hr2, fun z hz => (hz2 z hz).2, hl2⟩
theorem szd_at {ts : List TypeId} {ds : List (DataW H)} (h : (DataW.weightsEach Tryz.prog ts ds).all (· ≤ reachBytes) = true) {j : Nat} {t : TypeId} {d : DataW H} (ht : ts[j]? = some t) (hd : ds[j]? = some d) : Szd t d := fun n hn => by
  have := List.all_eq_true.1 h n (DataW.weights_mem_each ht hd n hn)
  simpa using this
end
end Go.Proofs.YtomahddiclkepaaGreatDoor
namespace Go.Proofs.YtomahddiclkepaaGreatDoor
open Go.RowKit Go.Joins
open Classical
set_option linter.unusedVariables false
set_option linter.unusedSimpArgs false

set_option maxRecDepth 100000 in
set_option maxHeartbeats 8000000 in
theorem Make_any (rules : List Ru) (nm : ByteArray) (off : Int) (rv : Value) (w : World) (hR : RowsAt (fun r : Ru => (ruCells r).toList) 11 w.heap.size w rv rules) (ho : ∀ r ∈ rules, OkRu r) (hl : rules.length ≤ 40) (hf1 : -75600 ≤ off) (hf2 : off ≤ 75600) :
    Calls Tryz.prog 41 #[rv, .string nm, .int .i64 off] w (MakePost rules nm off w) := by
  obtain ⟨i1, hi1, hz10, hz11, hz12⟩ := info_parts infoNb
  obtain ⟨p, cap, rfl, hlen, hrow⟩ := hR
  have HRow := Lib.hid hrow
  have HO := Lib.hid ho
  clear hrow ho
  go_enter Tryz.func41, Tryz.ntmps41
  go_wp2_with fail
  go_loopw [8, 9, 10, 23] (fun v8 v9 v10 i wr => ∃ (k : Nat) (Y : Int) (is : Bool) (l : List Nb), k ≤ rules.length ∧ i = .int .i64 k ∧ v9 = .int .i64 Y ∧ v10 = .bool is ∧ 0 ≤ Y ∧ Y ≤ 201 * k ∧ l.length ≤ 1500 ∧ Hid (MkR rules nm k Y is l) ∧ Hid (NbAt wr w.heap.size v8 l) ∧ Hid (Below w.heap.size w wr)) (fun _ _ _ i _ => rules.length - (intOf i).toNat)
  case atStart => exact ⟨0, 0, false, [], Nat.zero_le _, rfl, rfl, rfl, by omega, by omega, by simp, MkR.zero _ _, ⟨World.ownsRow_nil _ _ _ _, fun x hx => absurd hx (List.not_mem_nil)⟩, Lib.hid (Below.refl _ _)⟩
  case round =>
    obtain ⟨k, Y, is, l, hk, rfl, rfl, rfl, hY0, hY1, hll, HM, HN, HB⟩ := hrel
    have hzr := HB.out.size
    by_cases hlt : k < rules.length
    · obtain ⟨b, o, rfl, hbl, hcs⟩ := HRow.out (List.ne_nil_of_length_pos (by omega))
      have hck := hcs k hlt
      have HOK := Lib.hid (HO.out rules[k] (List.getElem_mem hlt))
      have HSK := Lib.hid (HM.out.skip hlt)
      have HLA := Lib.hid (HM.out.large hlt)
      have HMO := Lib.hid (HM.out.more hlt)
      obtain ⟨q, eq⟩ : ∃ q, rules[k] = q := ⟨_, rfl⟩
      rw [eq] at hck HOK HSK HLA HMO
      obtain ⟨B0, eB0⟩ : ∃ B0, w.heap.size = B0 := ⟨_, rfl⟩
      rw [eB0] at hzr HN
      have HB00 := Lib.hid eB0
      have up : ∀ j u, w.cell? ⟨b, o + k * 11 + j, none⟩ = some u → wr.cell? ⟨b, o + k * 11 + j, none⟩ = some u := fun j u h => (HB.out.cell (p := ⟨b, o + k * 11 + j, none⟩) hbl).trans h
      clear eq hcs eB0
      obtain ⟨nm2, yf, yt, mo, dk, dw, dn, tm, ck, sv, lt⟩ := q
      have z0 := up 0 _ (hck 0 _ rfl)
      have z1 := up 1 _ (hck 1 _ rfl)
      have z2 := up 2 _ (hck 2 _ rfl)
      have z3 := up 3 _ (hck 3 _ rfl)
      have z4 := up 4 _ (hck 4 _ rfl)
      have z5 := up 5 _ (hck 5 _ rfl)
      have z6 := up 6 _ (hck 6 _ rfl)
      have z7 := up 7 _ (hck 7 _ rfl)
      have z8 := up 8 _ (hck 8 _ rfl)
      have z9 := up 9 _ (hck 9 _ rfl)
      have z10 := up 10 _ (hck 10 _ rfl)
      clear up hck
      rw [Nat.add_zero] at z0
      simp only at HSK HLA HMO
      obtain ⟨W1, eW1⟩ : ∃ W1, wr.alloc (.cells #[.string nm2, .int .i64 yf, .int .i64 yt, .int .i64 mo, .int .i64 dk, .int .i64 dw, .int .i64 dn, .int .i64 tm, .int .i64 ck, .int .i64 sv, .string lt] 87) = W1 := ⟨_, rfl⟩
      have hbx : RuBx W1 wr.heap.size ⟨nm2, yf, yt, mo, dk, dw, dn, tm, ck, sv, lt⟩ := by rw [← eW1]; exact heap_alloc_new wr _
      have HN1 : Hid (NbAt W1 B0 u8 l) := by rw [← eW1]; exact HN.out.alloc _
      have HB1 : Hid (Below w.heap.size w W1) := by rw [← eW1]; exact HB.out.alloc HB.out.size _
      have hw1 : wr.heap.size < W1.heap.size := hbx.lt
      have HX1 := Lib.hid hbx
      have HEW := Lib.hid eW1
      obtain ⟨bx, ebx⟩ : ∃ bx, wr.heap.size = bx := ⟨_, rfl⟩
      rw [ebx] at HX1 hw1 hzr
      have HBX := Lib.hid ebx
      obtain ⟨x0, x1, x2, x3, x4, x5, x6, x7, x8, x9, x10⟩ := HX1.out.cells
      obtain ⟨f1, f2, t1, t2⟩ := And.intro HOK.out.f1 (And.intro HOK.out.f2 (And.intro HOK.out.t1 HOK.out.t2))
      simp only at x0 x1 x2 x3 x4 x5 x6 x7 x8 x9 x10 f1 f2 t1 t2
      clear ebx eW1 hbx
      by_cases hnm : nm2 = nm
      · have t0 : (nm2.toList == nm.toList) = true := by rw [hnm]; exact beq_self_eq_true _
        have t0n : (!(nm2.toList == nm.toList)) = false := by rw [t0]; rfl
        by_cases hy : 1500 < Y + (yt - yf + 1)
        · have HLA2 := Lib.hid (HLA.out hnm hy)
          clear HLA HMO HSK hnm
          go_upto_region 6 with fail
          rw [HEW.out, HBX.out]
          go_wp2_with fail
          go_roundw
          case rel => exact ⟨k + 1, Y + (yt - yf + 1), true, l, by omega, by go_num, by go_num, rfl, by omega, by omega, hll, HLA2, by rw [HB00.out]; exact HN1, HB1⟩
          case measure => simp [intOf]; omega
        · obtain ⟨C, hC⟩ : ∃ C : Nat, (C : Int) = yt - yf + 1 := ⟨(yt - yf + 1).toNat, by omega⟩
          have HMO2 := Lib.hid (HMO.out hnm t1 bx C hC)
          have hlen2 : l.length + C ≤ 1500 := by have := HM.out.len HO.out (by omega); omega
          clear HLA HMO HSK hnm
          go_upto_region 6 with fail
          rw [HEW.out, HBX.out]
          go_wp2_with fail
          go_loopw [8, 13] (fun v8 v13 wx => ∃ j : Nat, j ≤ C ∧ v13 = .int .i64 (yf + j) ∧ Hid (NbAt wx B0 v8 (l ++ nomB ⟨nm2, yf, yt, mo, dk, dw, dn, tm, ck, sv, lt⟩ bx j)) ∧ Hid (RuBx wx bx ⟨nm2, yf, yt, mo, dk, dw, dn, tm, ck, sv, lt⟩) ∧ Hid (Below w.heap.size w wx)) (fun _ v13 _ => (yt + 1 - intOf v13).toNat)
          case atStart => exact ⟨0, Nat.zero_le _, by go_num, by show NbAt _ _ _ _; rw [show nomB _ bx 0 = [] from rfl, List.append_nil]; exact HN1.out, HX1, HB1⟩
          case round =>
            obtain ⟨j, hj, rfl, HNJ, HXJ, HBJ⟩ := hrel
            have hzj := HBJ.out.size
            rw [HB00.out] at hzj
            obtain ⟨L, eL⟩ : ∃ L, l ++ nomB ⟨nm2, yf, yt, mo, dk, dw, dn, tm, ck, sv, lt⟩ bx j = L := ⟨_, rfl⟩
            have hLl : L.length ≤ 1500 := by rw [← eL, List.length_append, nomB_len]; omega
            have HSN : Hid (l ++ nomB ⟨nm2, yf, yt, mo, dk, dw, dn, tm, ck, sv, lt⟩ bx (j + 1) = L ++ [(86400 * dayN ⟨nm2, yf, yt, mo, dk, dw, dn, tm, ck, sv, lt⟩ (yf + j) + tm, ⟨nm2, yf, yt, mo, dk, dw, dn, tm, ck, sv, lt⟩, bx)]) := by show _ = _; rw [nomB_snoc, ← List.append_assoc, eL]
            rw [eL] at HNJ
            have EL := Lib.hid eL
            clear eL
            have hbj : bx < wr.heap.size := HXJ.out.lt
            have hxs := HXJ.out.cells
            simp only at hxs
            obtain ⟨y0, y1, y2, y3, y4, y5, y6, y7, y8, y9, y10⟩ := hxs
            by_cases hjc : j < C
            · have hyb : yf + (j : Int) ≤ yt := by omega
              have hyb2 : yf ≤ yf + (j : Int) := by omega
              have HOF := Lib.hid (Of_ru ⟨nm2, yf, yt, mo, dk, dw, dn, tm, ck, sv, lt⟩ HOK.out (yf + j) hyb2 hyb wr)
              have hbd := dayN_bd HOK.out (y := yf + j) hyb2 hyb
              obtain ⟨N, eN⟩ : ∃ N, dayN ⟨nm2, yf, yt, mo, dk, dw, dn, tm, ck, sv, lt⟩ (yf + j) = N := ⟨_, rfl⟩
              rw [eN] at HOF HSN hbd
              obtain ⟨hN1, hN2⟩ := hbd
              have ha1 := HOK.out.a1
              have ha2 := HOK.out.a2
              simp only at ha1 ha2
              have HY7 := Lib.hid y7
              clear eN
              go_wp2_with fail
              refine HOF.out.mono ?_
              rintro e w8 ⟨rfl, hb8⟩
              have HB8 := Lib.hid hb8
              have hz8 := hb8.size
              have y7 := (hb8.cell (p := ⟨bx, 7, none⟩) hbj).trans HY7.out
              have HN8 := Lib.hid (HNJ.out.below hb8)
              have HX8 := Lib.hid (HXJ.out.below hb8)
              have hbx8 : bx < w8.heap.size := by omega
              clear hb8 HOF
              obtain ⟨A, cS, rfl⟩ := own_sliceN HN8.out.row
              have HML : L.length + 1 ≤ maxLen := by simp only [maxLen]; omega
              have HMB : (L.length + 1) * 16 ≤ 140737488355328 := by omega
              have HROW := Lib.hid (World.ownsRow.alloc HN8.out.row (.cells #[.int .i64 (86400 * N + tm), .pointer (some ⟨bx, 0, none⟩)] 180))
              have HNEW := Lib.hid (World.news_of_block (cs := #[.int .i64 (86400 * N + tm), .pointer (some ⟨bx, 0, none⟩)]) (t := 180) (fr := (0, 0)) (heap_alloc_new w8 (.cells #[.int .i64 (86400 * N + tm), .pointer (some ⟨bx, 0, none⟩)] 180)))
              have HSZ : B0 ≤ (w8.alloc (.cells #[.int .i64 (86400 * N + tm), .pointer (some ⟨bx, 0, none⟩)] 180)).heap.size := by simp; omega
              go_wp2_with (at_builtin; refine wpList_append_own _ rfl _ _ 176 rfl B0 180 i1 (.agg #[.int .i64 0, .pointer none]) 2 16 undNb hi1 hz10 hz11 hz12 rfl (by decide) _ _ _ rfl HROW.out ⟨w8.heap.size, 0, none⟩ 1 1 [.int .i64 (86400 * N + tm), .pointer (some ⟨bx, 0, none⟩)] rfl rfl HNEW.out (by simp [Value.oneCell']) HML HMB HSZ ?_; intro v' w10 hown10 hgrow10 _)
              have HR := Lib.hid (NbAt.snoc (x := (86400 * N + tm, ⟨nm2, yf, yt, mo, dk, dw, dn, tm, ck, sv, lt⟩, bx)) HN8.out HX8.out hown10 hgrow10)
              have HXE := Lib.hid (box_kept HROW.out (HX8.out.alloc _) (by decide) hgrow10)
              go_roundw
              case rel =>
                refine ⟨j + 1, hjc, by go_num, by rw [HSN.out]; exact HR, HXE, ?_⟩
                obtain rfl := HB00.out
                exact (((HBJ.out.trans (HB8.out.mono HBJ.out.size)).alloc (by omega) _).grown hgrow10 HSZ fun q hq => (World.ownsRow.lt HROW.out q hq).1)
              case measure => simp [intOf]; omega
            · obtain rfl : j = C := by omega
              have hyb : ¬ yf + (j : Int) ≤ yt := by omega
              go_wp2_with fail
              go_roundw
              case rel => exact ⟨k + 1, Y + (yt - yf + 1), true, L, by omega, by go_num, by go_num, rfl, by omega, by omega, by omega, by rw [← EL.out]; exact HMO2, by rw [HB00.out]; exact HNJ, HBJ⟩
              case measure => simp [intOf]; omega
      · have t0 : (nm2.toList == nm.toList) = false := by
          cases e : nm2.toList == nm.toList
          · rfl
          · exact absurd (ByteArray.ext (Array.toList_inj.1 (by rw [← ByteArray.toList_eq, ← ByteArray.toList_eq]; simpa using e))) hnm
        have t0n : (!(nm2.toList == nm.toList)) = true := by rw [t0]; rfl
        have HSK2 := Lib.hid (HSK.out hnm)
        clear HSK hnm
        go_upto_region 6 with fail
        rw [HEW.out, HBX.out]
        go_wp2_with fail
        go_roundw
        case rel => exact ⟨k + 1, Y, is, l, by omega, by go_num, rfl, rfl, hY0, by omega, hll, HSK2, by rw [HB00.out]; exact HN1, HB1⟩
        case measure => simp [intOf]; omega
    · obtain rfl : k = rules.length := by omega
      obtain ⟨hMy, hMs, hMl⟩ := HM.out
      rw [List.take_length] at hMy hMs hMl
      have hmb := HO.out
      have HBE := HB
      cases is with
      | false =>
        have HE := Lib.hid (mkR_6 (off := off) hMs.symm)
        clear hMy hMs hMl hmb
        go_wp2_with fail
        go_ret2
        exact MakePost.bad HE.out HBE.out
      | true =>
      by_cases hy : 1500 < Y
      · have HE := Lib.hid (mkR_2 (off := off) hMs.symm (by rw [← hMy]; exact hy))
        clear hMy hMs hMl hmb
        go_wp2_with fail
        go_ret2
        exact MakePost.bad HE.out HBE.out
      · have hlen : (l.length : Int) = Y := HM.out.len HO.out (by omega)
        have hpos := yearsOf_pos nm rules hmb hMs.symm
        rw [← hMy] at hpos
        have hne : 0 < l.length := by omega
        have hSl := hMl (by omega)
        rcases own_cells HN.out.row with ⟨-, h0⟩ | ⟨g, cS, rfl, hg1, hg2, -⟩
        · omega
        have HSO := Lib.hid (SortStable_any (ptL l) wr g cS l.length (by omega) (tagged (l.map (·.1))).toArray wr (nbAt_so HN.out) (by simp [tagged]) (by have := tagged_inc (l.map (·.1)); rwa [List.length_map] at this))
        obtain ⟨S, eS⟩ : ∃ S, srt (nomsOf dayN rules nm) = S := ⟨_, rfl⟩
        have h5 : outF off 0 none S = none → mkR rules nm off = (5, []) := fun h => mkR_5 hMs.symm (by rw [← hMy]; exact hy) (by rw [eS]; exact h)
        have h0 : ∀ o, outF off 0 none S = some o → mkR rules nm off = (0, o) := fun o h => mkR_0 hMs.symm (by rw [← hMy]; exact hy) (by rw [eS]; exact h)
        obtain ⟨T, eT⟩ : ∃ T, nbT l = T := ⟨_, rfl⟩
        have hTS : nbM T = S := by rw [← eT, nbT_M, ← eS, ← hSl]; rfl
        have hTl : T.length = l.length := by rw [← eT, nbT_len]
        have hTb : ∀ x ∈ T, OkRu x.2.1 ∧ -3000000000 ≤ x.1 ∧ x.1 ≤ 5000000000 := by
          intro x hx
          have hm : (x.1, x.2.1) ∈ nomsOf dayN rules nm := by
            have : (x.1, x.2.1) ∈ srt (nomsOf dayN rules nm) := by rw [eS, ← hTS]; exact List.mem_map_of_mem hx
            exact List.mem_mergeSort.1 this
          exact nomsOf_bd hmb nm _ hm
        have H5 := Lib.hid h5
        have H0 := Lib.hid h0
        have HTS := Lib.hid hTS
        have HTB := Lib.hid hTb
        have HTL := Lib.hid hTl
        have hTl2 : T.length ≤ 1500 := by omega
        have ET := Lib.hid eT
        have hgw : w.heap.size ≤ wr.heap.size := HB.out.size
        clear hMy hMs hMl hmb hpos hSl eS h5 h0 hTS hTl hTb eT HM hlen hll
        go_wp2_with fail
        refine HSO.out.mono ?_
        rintro e W2 ⟨rfl, d', hS, hn, hp, ho⟩
        have hT := so_nbRd HN.out hS hp ho
        rw [ET.out] at hT
        have HT := Lib.hid hT
        have HB6 := Lib.hid (HBE.out.grown hS.g hgw (fun q hq => by injection hq with hq; omega))
        clear hS hn hp ho hT HSO HN HB HBE ET
        go_wp2_with fail
        go_loopw [16, 17, 78] (fun v16 v17 i wx => ∃ (k : Nat) (sv : Int) (out : List Tn), k ≤ l.length ∧ i = .int .i64 k ∧ v17 = .int .i64 sv ∧ 0 ≤ sv ∧ sv ≤ 10800 ∧ Hid (OutR off S k sv out) ∧ Hid (wx.ownsRow W2.heap.size 49 3 v16 k (tnCells out)) ∧ Hid (Below W2.heap.size W2 wx)) (fun _ _ i _ => l.length - (intOf i).toNat)
        case atStart => exact ⟨0, 0, [], Nat.zero_le _, rfl, rfl, by omega, by omega, OutR.zero _ _, World.ownsRow_nil _ _ _ _, Lib.hid (Below.refl _ _)⟩
        case round =>
          obtain ⟨k, sv, out, hk, rfl, rfl, hs0, hs1, HOR, HNR, HBR⟩ := hrel
          by_cases hkn : k < l.length
          · have hkt : k < T.length := by rw [HTL.out]; exact hkn
            have hks : k < S.length := by rw [← HTS.out]; unfold nbM; rw [List.length_map]; exact hkt
            have hSk : S[k]'hks = (T[k].1, T[k].2.1) := by
              have e : (nbM T)[k]? = some (T[k].1, T[k].2.1) := by unfold nbM; rw [List.getElem?_map, List.getElem?_eq_getElem hkt]; rfl
              rw [HTS.out, List.getElem?_eq_getElem hks] at e
              injection e
            have HOB := Lib.hid (HOR.out.bad hks)
            have HOM := Lib.hid (HOR.out.more hks)
            rw [hSk] at HOB HOM
            have HTW := HT.out.below HBR.out
            have hgr : g < wr.heap.size := HTW.lt
            have a0 := HTW.k k hkt
            have a1 := HTW.p k hkt
            have hX := HTW.bx T[k] (List.getElem_mem hkt)
            have hB := HTB.out T[k] (List.getElem_mem hkt)
            obtain ⟨x, ex⟩ : ∃ x, T[k] = x := ⟨_, rfl⟩
            rw [ex] at a0 a1 hX hB HOB HOM
            clear hSk HTW ex hks
            obtain ⟨at1, q, bx⟩ := x
            obtain ⟨nm2, yf, yt, mo, dk, dw, dn, tm, ck, sv2, lt⟩ := q
            obtain ⟨o, hA1, hA2⟩ := hB
            have hbxr : bx < wr.heap.size := hX.lt
            have hxs := hX.cells
            have c1 := o.c1
            have c2 := o.c2
            have s1 := o.s1
            have s2 := o.s2
            simp only at a0 a1 hX hA1 hA2 hbxr hxs c1 c2 s1 s2 HOB HOM
            obtain ⟨x0, x1, x2, x3, x4, x5, x6, x7, x8, x9, x10⟩ := hxs
            clear x0 x1 x2 x3 x4 x5 x6 x7 o
            have HX := Lib.hid hX
            have hs20 := s1
            have hs21 := s2
            clear hX
            obtain ⟨t, et⟩ : ∃ t, clkT off sv (at1, ⟨nm2, yf, yt, mo, dk, dw, dn, tm, ck, sv2, lt⟩) = t := ⟨_, rfl⟩
            rw [et] at HOB HOM
            have ET := Lib.hid et
            clear et
            obtain ⟨W5, eW5⟩ : ∃ W5, wr.alloc (.cells #[.int .i64 at1, .pointer (some ⟨bx, 0, none⟩)] 180) = W5 := ⟨_, rfl⟩
            have hb5 : Below wr.heap.size wr W5 := by rw [← eW5]; exact (Below.refl _ _).alloc (Nat.le_refl _) _
            have hn5 : W5.heap[wr.heap.size]? = some (.cells #[.int .i64 at1, .pointer (some ⟨bx, 0, none⟩)] 180 (0, 0)) := by rw [← eW5]; exact heap_alloc_new wr _
            have hz5 : W5.heap.size = wr.heap.size + 1 := by rw [← eW5]; simp
            have n0 : W5.cell? ⟨wr.heap.size, 0, none⟩ = some (.int .i64 at1) := (cell_of_row W5 _ 0 _ _ _ hn5).trans rfl
            have n1 : W5.cell? ⟨wr.heap.size, 1, none⟩ = some (.pointer (some ⟨bx, 0, none⟩)) := (cell_of_row W5 _ 1 _ _ _ hn5).trans rfl
            have b9 : W5.cell? ⟨bx, 9, none⟩ = some (.int .i64 sv2) := (hb5.cell (p := ⟨bx, 9, none⟩) hbxr).trans x9
            have b10 : W5.cell? ⟨bx, 10, none⟩ = some (.string lt) := (hb5.cell (p := ⟨bx, 10, none⟩) hbxr).trans x10
            have b8 : W5.cell? ⟨bx, 8, none⟩ = some (.int .i64 ck) := (hb5.cell (p := ⟨bx, 8, none⟩) hbxr).trans x8
            have hl5 : wr.heap.size < W5.heap.size := by omega
            have hbx5 : bx < W5.heap.size := by omega
            have KS : Hid (∀ wx, Below W5.heap.size W5 wx → Below W5.heap.size W5 wx ∧ wx.cell? ⟨wr.heap.size, 0, none⟩ = some (.int .i64 at1) ∧ wx.cell? ⟨wr.heap.size, 1, none⟩ = some (.pointer (some ⟨bx, 0, none⟩)) ∧ wx.cell? ⟨bx, 9, none⟩ = some (.int .i64 sv2) ∧ wx.cell? ⟨bx, 10, none⟩ = some (.string lt)) := by
              show ∀ wx, _
              exact fun wx hb => ⟨hb, (hb.cell (p := ⟨wr.heap.size, 0, none⟩) hl5).trans n0, (hb.cell (p := ⟨wr.heap.size, 1, none⟩) hl5).trans n1, (hb.cell (p := ⟨bx, 9, none⟩) hbx5).trans b9, (hb.cell (p := ⟨bx, 10, none⟩) hbx5).trans b10⟩
            have KAL : Hid (∀ wx ob, Below W5.heap.size W5 wx → Below W5.heap.size W5 (wx.alloc ob)) := by
              show ∀ wx ob, _
              exact fun wx ob h => h.alloc h.size ob
            have HB5 := Lib.hid hb5
            have HN5 := Lib.hid hn5
            have HZ5 := Lib.hid hz5
            have HEW5 := Lib.hid eW5
            clear eW5 hb5 hn5 hz5
            go_upto_region 26 with fail
            rw [HEW5.out]
            go_cut [20] from 83 to 95 (fun sx wx => sx = .pointer (some ⟨W5.heap.size, 0, none⟩) ∧ wx = (W5.alloc (.cells #[.int .i64 at1, .int .i64 sv2, .string lt] 49)).drew)
            case first =>
              clear x8 x9 x10 b8 a0 a1
              go_region_held3 (fun wx => Below W5.heap.size W5 wx ∧ wx.cell? ⟨wr.heap.size, 0, none⟩ = some (.int .i64 at1) ∧ wx.cell? ⟨wr.heap.size, 1, none⟩ = some (.pointer (some ⟨bx, 0, none⟩)) ∧ wx.cell? ⟨bx, 9, none⟩ = some (.int .i64 sv2) ∧ wx.cell? ⟨bx, 10, none⟩ = some (.string lt)) ((refine KS.out _ ?_; repeat (first | (with_reducible assumption) | (with_reducible exact Below.refl _ _) | (with_reducible refine Below.drew ?_) | (with_reducible refine KAL.out _ _ ?_)))) (fail)
              all_goals go_wp2_with fail
              all_goals go_meet
              all_goals exact ⟨rfl, rfl⟩
            case rest =>
            obtain ⟨rfl, rfl⟩ := hcut
            clear KS KAL b10 n0 x8 x9 x10 a0 a1
            go_upto_block 7 with fail
            go_cut [108] from 97 to 116 (fun sx wx => wx = (W5.alloc (.cells #[.int .i64 t, .int .i64 sv2, .string lt] 49)).drew)
            case first =>
              have et := ET.out
              unfold clkT at et
              simp only at et
              by_cases hc0 : ck = 0
              · rw [if_pos hc0] at et
                subst hc0
                subst et
                go_wp2_with fail
                go_meet
                exact rfl
              · rw [if_neg hc0] at et
                have z0 : (ck == 0) = false := by simpa using hc0
                by_cases hc1 : ck = 1
                · rw [if_pos hc1] at et
                  subst hc1
                  subst et
                  go_wp2_with fail
                  go_meet
                  exact rfl
                · rw [if_neg hc1] at et
                  have z1 : (ck == 1) = false := by simpa using hc1
                  subst et
                  go_wp2_with fail
                  go_meet
                  exact rfl
            case rest =>
            obtain ⟨W3, eW3⟩ : ∃ W3, (W5.alloc (.cells #[.int .i64 t, .int .i64 sv2, .string lt] 49)).drew = W3 := ⟨_, rfl⟩
            rw [eW3] at hcut
            have hb35 : Below W5.heap.size W5 W3 := by rw [← eW3]; exact ((Below.refl _ _).alloc (Nat.le_refl _) _).drew
            have hb3 : Below wr.heap.size wr W3 := HB5.out.trans (hb35.mono (by have := HZ5.out; omega))
            have hN3 : W3.heap[wr.heap.size]? = some (.cells #[.int .i64 at1, .pointer (some ⟨bx, 0, none⟩)] 180 (0, 0)) := (hb35.block _ hl5).trans HN5.out
            have hT3 : W3.heap[wr.heap.size + 1]? = some (.cells #[.int .i64 t, .int .i64 sv2, .string lt] 49 (0, 0)) := by
              rw [← eW3]
              exact alloc_at _ _ _ (by have := HZ5.out; omega)
            have hz3 : wr.heap.size + 2 ≤ W3.heap.size := by rw [← eW3]; have := HZ5.out; simp [World.drew]; omega
            have p1 : W3.cell? ⟨wr.heap.size, 1, none⟩ = some (.pointer (some ⟨bx, 0, none⟩)) := (cell_of_row W3 _ 1 _ _ _ hN3).trans rfl
            have q0 : W3.cell? ⟨wr.heap.size + 1, 0, none⟩ = some (.int .i64 t) := (cell_of_row W3 _ 0 _ _ _ hT3).trans rfl
            have q1 : W3.cell? ⟨wr.heap.size + 1, 1, none⟩ = some (.int .i64 sv2) := (cell_of_row W3 _ 1 _ _ _ hT3).trans rfl
            have q2 : W3.cell? ⟨wr.heap.size + 1, 2, none⟩ = some (.string lt) := (cell_of_row W3 _ 2 _ _ _ hT3).trans rfl
            have y9 : W3.cell? ⟨bx, 9, none⟩ = some (.int .i64 sv2) := (hb35.cell (p := ⟨bx, 9, none⟩) hbx5).trans b9
            obtain ⟨A, cO, rfl⟩ := own_sliceN HNR.out
            have HNR3 : Hid (W3.ownsRow W2.heap.size 49 3 (.slice A k cO) k (tnCells out)) := own_keep HNR.out fun g' e' => hb3.block g' (World.ownsRow.lt HNR.out g' e').2
            have hz2 : W2.heap.size ≤ W3.heap.size := by have := HBR.out.size; omega
            have HB3 : Hid (Below W2.heap.size W2 W3) := HBR.out.trans (hb3.mono HBR.out.size)
            rw [HZ5.out]
            obtain ⟨nb, enb⟩ : ∃ nb, wr.heap.size = nb := ⟨_, rfl⟩
            rw [enb] at p1 q0 q1 q2 hz3 hbxr hgr ⊢
            have hol := HOR.out.1
            have HLA : Hid (0 < k → ∃ g2 c2 m, (Value.slice A k cO) = .slice (some ⟨g2, 0, none⟩) k c2 ∧ g2 < W3.heap.size ∧ out[k - 1]? = some m ∧ W3.cell? ⟨g2, (k - 1) * 3, none⟩ = some (.int .i64 m.a)) := by
              show 0 < k → _
              intro h0
              rcases own_cells HNR3.out with ⟨-, h1⟩ | ⟨g2, c2, e2, -, h2, h3⟩
              · omega
              · have hl : k - 1 < out.length := by omega
                exact ⟨g2, c2, out[k - 1], e2, h2, List.getElem?_eq_getElem hl, h3 _ _ (tnCells_get out (k - 1) hl).1⟩
            obtain ⟨BB, hBB0, hBB1⟩ : ∃ BB : Bool, (k = 0 → BB = false) ∧ (∀ m, 0 < k → out[k - 1]? = some m → BB = decide (t ≤ m.a)) := by
              by_cases h0 : 0 < k
              · obtain ⟨g2, c2, m, -, -, e3, -⟩ := HLA.out h0
                exact ⟨decide (t ≤ m.a), fun h => by omega, fun m2 _ e4 => by rw [e3] at e4; injection e4 with e4; rw [e4]⟩
              · exact ⟨false, fun _ => rfl, fun m h => absurd h h0⟩
            have HBT : Hid (BB = true → outF off 0 none S = none) := by
              show BB = true → _
              intro hb
              by_cases h0 : 0 < k
              · obtain ⟨g2, c2, m, -, -, e3, -⟩ := HLA.out h0
                refine HOB.out h0 m e3 ?_
                have := hBB1 m h0 e3
                rw [hb] at this
                exact of_decide_eq_true this.symm
              · rw [hBB0 (by omega)] at hb; cases hb
            have HBF : Hid (BB = false → OutR off S (k + 1) sv2 (out ++ [⟨t, sv2, lt⟩])) := by
              show BB = false → _
              intro hb
              refine HOM.out fun m h0 e3 => ?_
              have := hBB1 m h0 e3
              rw [hb] at this
              have := of_decide_eq_false this.symm
              omega
            have HBB0 := Lib.hid hBB0
            have HBB1 := Lib.hid hBB1
            have hol1 : out.length ≤ 1500 := by omega
            have HOL := Lib.hid hol
            have HENB := Lib.hid enb
            clear hBB0 hBB1 hb3 hb35 hN3 hT3 eW3 HNR HOR HOM HOB ET HTB HTS hol enb HBR s1 s2 n1 b8 hl5 hbx5 HB5 HN5 HZ5 HEW5 b9
            subst hcut
            go_upto_region 32 with fail
            go_cut [129] from 117 to 129 (fun sx wx => sx = .bool BB ∧ ∃ nq, wx = wc.drewN nq)
            case first =>
              by_cases h0 : 0 < k
              · obtain ⟨g2, c2, m, e2, hg2, e3, hc⟩ := HLA.out h0
                simp only [Value.slice.injEq, true_and] at e2
                obtain ⟨rfl, rfl⟩ := e2
                have hBB := HBB1.out m h0 e3
                clear e3
                have hk1 : (0 : Int) < (k : Int) := by omega
                have hk2 : (0 : Int) ≤ (k : Int) - 1 := by omega
                have hk3 : (k : Int) - 1 < (k : Int) := by omega
                have hk4 : ((k : Int) - 1).toNat = k - 1 := by omega
                have hk5 : k - 1 < k := by omega
                by_cases hle : t ≤ m.a
                · rw [decide_eq_true hle] at hBB
                  subst hBB
                  go_quiet (fail)
                  go_wp2_with fail
                  go_meet
                  exact ⟨rfl, _, rfl⟩
                · rw [decide_eq_false hle] at hBB
                  subst hBB
                  go_quiet (fail)
                  go_wp2_with fail
                  go_meet
                  exact ⟨rfl, _, rfl⟩
              · have hBB := HBB0.out (by omega)
                subst hBB
                have hk0 : ¬ (0 : Int) < (k : Int) := by omega
                go_quiet (fail)
                go_wp2_with fail
                go_meet
                exact ⟨rfl, _, rfl⟩
            case rest =>
            obtain ⟨rfl, nq, rfl⟩ := hcut
            cases BB with
            | true =>
              have HE := Lib.hid (H5.out (HBT.out rfl))
              have HBD := Lib.hid (HB6.out.trans (HB3.out.mono HB6.out.size))
              go_wp2_with fail
              go_ret2
              exact MakePost.bad HE.out (below_drewN HBD.out nq)
            | false =>
              have HRF := Lib.hid (HBF.out rfl)
              obtain ⟨W4, e4⟩ : ∃ W4, wc.drewN nq = W4 := ⟨_, rfl⟩
              rw [e4]
              have HNR4 : Hid (W4.ownsRow W2.heap.size 49 3 (.slice A k cO) k (tnCells out)) := by rw [← e4]; exact HNR3
              have HB4 : Hid (Below W2.heap.size W2 W4) := by rw [← e4]; exact below_drewN HB3.out nq
              have p1 : W4.cell? ⟨nb, 1, none⟩ = some (.pointer (some ⟨bx, 0, none⟩)) := by rw [← e4]; exact p1
              have q0 : W4.cell? ⟨nb + 1, 0, none⟩ = some (.int .i64 t) := by rw [← e4]; exact q0
              have q1 : W4.cell? ⟨nb + 1, 1, none⟩ = some (.int .i64 sv2) := by rw [← e4]; exact q1
              have q2 : W4.cell? ⟨nb + 1, 2, none⟩ = some (.string lt) := by rw [← e4]; exact q2
              have y9 : W4.cell? ⟨bx, 9, none⟩ = some (.int .i64 sv2) := by rw [← e4]; exact y9
              have hz4 : wc.heap.size ≤ W4.heap.size := by rw [← e4]; exact Nat.le_refl _
              have hbxw : bx < W4.heap.size := by omega
              have hnbw : nb < W4.heap.size := by omega
              have hnbw1 : nb + 1 < W4.heap.size := by omega
              have hz24 : W2.heap.size ≤ W4.heap.size := by omega
              clear e4
              obtain ⟨i2, hi2, hz20, hz21, hz22⟩ := info_parts infoTn
              have HROW := Lib.hid (World.ownsRow.alloc HNR4.out (.cells #[.int .i64 t, .int .i64 sv2, .string lt] 49))
              have HNEW := Lib.hid (World.news_of_block (cs := #[.int .i64 t, .int .i64 sv2, .string lt]) (t := 49) (fr := (0, 0)) (heap_alloc_new W4 (.cells #[.int .i64 t, .int .i64 sv2, .string lt] 49)))
              have HSZ : W2.heap.size ≤ (W4.alloc (.cells #[.int .i64 t, .int .i64 sv2, .string lt] 49)).heap.size := by simp; omega
              have HML : k + 1 ≤ maxLen := by simp only [maxLen]; omega
              have HMB : (k + 1) * 32 ≤ 140737488355328 := by omega
              go_wp2_with (at_builtin; refine wpList_append_own _ rfl _ _ 37 rfl W2.heap.size 49 i2 (.agg #[.int .i64 0, .int .i64 0, .string ⟨#[]⟩]) 3 32 undTn hi2 hz20 hz21 hz22 rfl (by decide) _ _ _ rfl HROW.out ⟨W4.heap.size, 0, none⟩ 1 1 [.int .i64 t, .int .i64 sv2, .string lt] rfl rfl HNEW.out (by simp [Value.oneCell']) HML HMB HSZ ?_; intro v' w10 hown10 hgrow10 _)
              go_roundw
              case rel =>
                refine ⟨k + 1, sv2, out ++ [⟨t, sv2, lt⟩], hkn, by go_num, rfl, hs20, hs21, HRF, by show World.ownsRow _ _ _ _ _ _ _; rw [tnCells_snoc]; exact hown10, ?_⟩
                exact ((HB4.out.alloc hz24 _).grown hgrow10 HSZ fun q hq => (World.ownsRow.lt HROW.out q hq).1)
              case measure => simp [intOf]; omega
          · obtain rfl : k = l.length := by omega
            have HE := Lib.hid (H0.out out (HOR.out.done (by rw [← HTS.out]; unfold nbM; rw [List.length_map, HTL.out]; exact Nat.le_refl _)))
            have hol := HOR.out.1
            have HRW : Hid (wr.ownsRow w.heap.size 49 3 u16 out.length (tnCells out)) := by show World.ownsRow _ _ _ _ _ _ _; rw [hol]; exact own_base HNR.out HB6.out.size
            have HBD := Lib.hid (HB6.out.trans (HBR.out.mono HB6.out.size))
            clear hol
            go_wp2_with fail
            go_ret2
            exact MakePost.ok HE.out HRW.out HBD.out
end Go.Proofs.YtomahddiclkepaaGreatDoor
