/- A law's table argument, as it lies in memory. turns.Make: what it returns. -/
import Derived.Test.YtomahddiclkepaaGreatDoorQa01
import Derived.Deep.Slices
import Derived.Deep.Fields
import Derived.ChangeSame
import Derived.Lib.SmallJoins
import Derived.Test.YtomahddiclkepaaGreatDoorQa08
import Derived.Deep.DeepCutAuto
import Derived.Deep.CutRange
import Derived.Deep.CutBlock
namespace Go.Proofs.YtomahddiclkepaaGreatDoor
open Go.ChangeShapes Go.WideShapes Go.Deep Go.RowKit Go.Joins
set_option linter.unusedVariables false
set_option linter.unusedSimpArgs false
section
variable {H : Type} {enc : TypeId × Value → H} {P : Program} {w : World} {base : Nat} {spare : Nat → Bool} {held : Bool}
theorem open_slice_fields {t e : TypeId} {fs : Array Field} {fuel : Nat} {cs : List Value} {x : DataW H × List MemPlace} (ht : P.underlying t = some (.slice e)) (he : P.underlying e = some (.struct fs))
  (hone : oneCellFields P fs = true) (hC : P.cellsOf e = fs.size) (h : DataW.trod enc P w base spare held fuel t cs = some x) :
  (cs = [.slice none 0 0] ∧ x = (.nil, [])) ∨
  ∃ (a : Addr) (len cap m : Nat) (D : Nat → DataW H) (Pl : Nat → List MemPlace), cs = [.slice (some a) len cap] ∧ base ≤ a.block ∧ len ≤ cap ∧ cap ≤ maxLen ∧ m = (if spare a.block then cap else len) ∧
   x = (.slice ((List.range len).map D) ((List.range (m - len)).map fun j => D (len + j)), MemPlace.row a (m * fs.size) ++ (List.range m).flatMap Pl) ∧
   ∀ i, i < m → ∃ (ys : List (DataW H × List MemPlace)) (n : Nat), D i = .agg (ys.map (·.1)) ∧ Pl i = ys.flatMap (·.2) ∧ ys.length = fs.size ∧
    ∀ (j : Nat) (f : Field), fs[j]? = some f → ∃ (v : Value) (y : DataW H × List MemPlace), w.cell? (a.add (i * fs.size + j)) = some v ∧ ys[j]? = some y ∧ DataW.trod enc P w base spare held n f.type [v] = some y := by
 rcases open_slice ht h with h0 | ⟨a, len, cap, m, n, D, Pl, hcs, hb, hl, hm, hmm, hx, hi⟩
 ·exact .inl h0
 ·refine .inr ⟨a, len, cap, m, D, Pl, hcs, hb, hl, hm, hmm, by rw [hC] at hx; exact hx, fun i him => ?_⟩
  obtain ⟨cs', hc, ht'⟩ := hi i him
  rw [hC] at hc
  obtain ⟨ys, n', hn', hy, hlen, hyl, hf⟩ := DataW.trod_struct he ht'
  obtain ⟨_, hcl, hat⟩ := World.cells?_some hc
  simp only [Prod.mk.injEq] at hy
  refine ⟨ys, n', hy.1, hy.2, hyl, fun j f hj => ?_⟩
  obtain ⟨ho, hk⟩ := hone_of hone j f hj
  have hjl : j < fs.size := (Array.getElem?_eq_some_iff.1 hj).1
  have hcell := hat j hjl
  have hv : cs'[j]? = some (cs'[j]'(by omega)) := List.getElem?_eq_getElem (by omega)
  have h1 := hf j f hj
  rw [ho, hk] at h1
  have hone' : (cs'.drop j).take 1 = [cs'[j]'(by omega)] := by
   rw [List.drop_eq_getElem_cons (by omega)]
   rfl
  rw [hone'] at h1
  have hys : ys[j]? = some (ys[j]'(by omega)) := List.getElem?_eq_getElem (by omega)
  refine ⟨_, _, ?_, hys, h1.trans hys⟩
  rw [← Go.Deep.add_add, hcell, hv]
end
theorem und_types : Tryz.prog.underlying 55 = some (.slice 51) := by kernel_rfl
theorem und_changes : Tryz.prog.underlying 56 = some (.slice 61) := by kernel_rfl
theorem spot_none {w : World} {a : Addr} {v : Value} (h : w.cell? a = some v) : a = ⟨a.block, a.off, none⟩ := by
 obtain ⟨b, o, s⟩ := a
 cases s with
 | none => rfl
 | some k =>
  simp only [World.cell?] at h
  split at h
  ·simp at h
  ·cases h
theorem add_plain (b o i : Nat) : (⟨b, o, none⟩ : Addr).add i = ⟨b, o + i, none⟩ := by
 unfold Addr.add
 split
 ·rename_i h; subst h; rfl
 ·rfl
theorem list_of {α : Type} [Inhabited α] (n : Nat) (Q : Nat → α → Prop) (h : ∀ i, i < n → ∃ x, Q i x) : ∃ l : List α, l.length = n ∧ ∀ i (hi : i < l.length), Q i l[i] := by
 classical
 refine ⟨(List.range n).map fun i => if hi : i < n then Classical.choose (h i hi) else default, by simp, fun i hi => ?_⟩
 have hi' : i < n := by simpa using hi
 simp only [List.getElem_map, List.getElem_range, hi', dite_true]
 exact Classical.choose_spec (h i hi')
instance : Inhabited Ty := ⟨⟨0, false, ⟨#[]⟩⟩⟩
instance : Inhabited Ch := ⟨⟨0, 0⟩⟩
section
variable {H : Type} {enc : TypeId × Value → H} {w : World} {base : Nat} {spare : Nat → Bool} {held : Bool}
theorem SlTy_open {fuel : Nat} {v : Value} {x : DataW H × List MemPlace} (h : DataW.trod enc Tryz.prog w base spare held fuel 55 [v] = some x) : ∃ l, SlTy w v l := by
 rcases open_slice_fields und_types Tryz.underlying51 (by kernel_rfl) (by kernel_rfl) h with ⟨hcs, _⟩ | ⟨a, len, cap, m, D, Pl, hcs, hb, hl, hm, hmm, hx, hf⟩
 ·obtain rfl : v = .slice none 0 0 := by simpa using hcs
  exact ⟨[], ⟨⟨none, 0, rfl, fun h => absurd rfl h⟩, by simp, by simp⟩⟩
 ·obtain rfl : v = .slice (some a) len cap := by simpa using hcs
  have hlm : len ≤ m := by rw [hmm]; split <;> omega
  have key : ∀ i, i < len → ∃ x : Ty, tyAt w a.block (a.off + i * 3) x ∧ x.name.size ≤ maxLen ∧ a = ⟨a.block, a.off, none⟩ ∧ a.block < w.heap.size := by
   intro i hi
   obtain ⟨ys, n, _, _, _, hfs⟩ := hf i (by omega)
   obtain ⟨ys0, n0, _, _, _, hfs0⟩ := hf 0 (by omega)
   obtain ⟨z0, _, d0, _, _⟩ := hfs0 0 _ rfl
   have hsp : a = ⟨a.block, a.off, none⟩ := by
    have e : a.add (0 * 3 + 0) = a := rfl
    exact spot_none (w := w) (v := z0) d0
   obtain ⟨v0, y0, c0, _, t0⟩ := hfs 0 _ rfl
   obtain ⟨v1, y1, c1, _, t1⟩ := hfs 1 _ rfl
   obtain ⟨v2, y2, c2, _, t2⟩ := hfs 2 _ rfl
   obtain ⟨b0, e0, _, _⟩ := DataW.trod_int Tryz.underlying3 t0
   obtain ⟨b1, e1, _⟩ := DataW.trod_bool Tryz.underlying4 t1
   obtain ⟨b2, e2, _, hs2⟩ := DataW.trod_string Tryz.underlying9 t2
   simp only [List.cons.injEq, and_true] at e0 e1 e2
   subst e0 e1 e2
   have hlt : a.block < w.heap.size := by
    rw [hsp, add_plain] at d0
    exact World.block_lt_of_cell? w ⟨a.block, _, none⟩ d0
   rw [hsp, add_plain] at c0 c1 c2
   exact ⟨⟨b0, b1, b2⟩, ⟨c0, c1, c2⟩, hs2, hsp, hlt⟩
  obtain ⟨l, hl1, hl2⟩ := list_of len _ key
  subst hl1
  refine ⟨l, ⟨⟨some a, cap, rfl, fun hne => ?_⟩, by omega, fun x hx => ?_⟩⟩
  ·have hp : 0 < l.length := List.length_pos_iff.2 hne
   obtain ⟨_, _, h3, h4⟩ := hl2 0 hp
   exact ⟨a.block, a.off, congrArg some h3, h4, fun i hi => (hl2 i hi).1⟩
  ·obtain ⟨i, hi, rfl⟩ := List.mem_iff_getElem.1 hx
   exact (hl2 i hi).2.1
theorem SlCh_open {fuel : Nat} {v : Value} {x : DataW H × List MemPlace} (h : DataW.trod enc Tryz.prog w base spare held fuel 56 [v] = some x) : ∃ l, SlCh w v l := by
 rcases open_slice_fields und_changes Tryz.underlying61 (by kernel_rfl) (by kernel_rfl) h with ⟨hcs, _⟩ | ⟨a, len, cap, m, D, Pl, hcs, hb, hl, hm, hmm, hx, hf⟩
 ·obtain rfl : v = .slice none 0 0 := by simpa using hcs
  exact ⟨[], ⟨⟨none, 0, rfl, fun h => absurd rfl h⟩, by simp⟩⟩
 ·obtain rfl : v = .slice (some a) len cap := by simpa using hcs
  have hlm : len ≤ m := by rw [hmm]; split <;> omega
  have key : ∀ i, i < len → ∃ x : Ch, chAt w a.block (a.off + i * 2) x ∧ a = ⟨a.block, a.off, none⟩ ∧ a.block < w.heap.size := by
   intro i hi
   obtain ⟨ys, n, _, _, _, hfs⟩ := hf i (by omega)
   obtain ⟨ys0, n0, _, _, _, hfs0⟩ := hf 0 (by omega)
   obtain ⟨z0, _, d0, _, _⟩ := hfs0 0 _ rfl
   have hsp : a = ⟨a.block, a.off, none⟩ := spot_none (w := w) (v := z0) d0
   obtain ⟨v0, y0, c0, _, t0⟩ := hfs 0 _ rfl
   obtain ⟨v1, y1, c1, _, t1⟩ := hfs 1 _ rfl
   obtain ⟨b0, e0, _, _⟩ := DataW.trod_int Tryz.underlying3 t0
   obtain ⟨b1, e1, _, _⟩ := DataW.trod_int Tryz.underlying3 t1
   simp only [List.cons.injEq, and_true] at e0 e1
   subst e0 e1
   have hlt : a.block < w.heap.size := by
    rw [hsp, add_plain] at d0
    exact World.block_lt_of_cell? w ⟨a.block, _, none⟩ d0
   rw [hsp, add_plain] at c0 c1
   exact ⟨⟨b0, b1⟩, ⟨c0, c1⟩, hsp, hlt⟩
  obtain ⟨l, hl1, hl2⟩ := list_of len _ key
  subst hl1
  refine ⟨l, ⟨⟨some a, cap, rfl, fun hne => ?_⟩, by omega⟩⟩
  have hp : 0 < l.length := List.length_pos_iff.2 hne
  obtain ⟨_, h3, h4⟩ := hl2 0 hp
  exact ⟨a.block, a.off, congrArg some h3, h4, fun i hi => (hl2 i hi).1⟩
theorem cellsTable : Tryz.prog.cellsOf 58 = 3 := by kernel_rfl
set_option maxRecDepth 100000 in
theorem TabAt_open {r : Reach} {b0 : Nat} {v : Value} {d : DataW H} {p : List MemPlace} (hv : Value.okWide Tryz.prog w r b0 58 v) (h : DataW.Trod enc Tryz.prog w base spare held 58 v d p) : ∃ t, TabAt w v t := by
 obtain ⟨c0, c1, c2, y0, y1, y2, m, rfl, _, _, g0, g1, g2⟩ := open_agg3 Tryz.underlying58 (by kernel_rfl) cellsTable hv h
 obtain ⟨l, hl⟩ := SlTy_open g0
 obtain ⟨b1, e1, _, _⟩ := DataW.trod_int Tryz.underlying3 g1
 obtain ⟨k, hk⟩ := SlCh_open g2
 simp only [List.cons.injEq, and_true] at e1
 subst e1
 exact ⟨⟨l, b1, k⟩, _, _, rfl, hl, hk⟩
end
end Go.Proofs.YtomahddiclkepaaGreatDoor
namespace Go.Proofs.YtomahddiclkepaaGreatDoor
open Go.RowKit Go.Joins
open Classical
set_option linter.unusedVariables false
set_option linter.unusedSimpArgs false
set_option maxRecDepth 100000 in
set_option maxHeartbeats 8000000 in
theorem Make_any (rules : List Ru) (nm : ByteArray) (off : Int) (rv : Value) (w : World) (hR : RowsAt (fun r : Ru => (ruCells r).toList) 11 w.heap.size w rv rules) (ho : ∀ r ∈ rules, OkRu r) (hl : rules.length ≤ 40) (hf1 : -75600 ≤ off) (hf2 : off ≤ 75600) :
  Calls Tryz.prog 41 #[rv, .string nm, .int .i64 off] w (MakePost rules nm off w) := by
 obtain ⟨i1, hi1, hz10, hz11, hz12⟩ := info_parts infoNb
 obtain ⟨p, cap, rfl, hlen, hrow⟩ := hR
 have HRow := Lib.hid hrow
 have HO := Lib.hid ho
 clear hrow ho
 go_enter Tryz.func41, Tryz.ntmps41
 go_wp2_with fail
 go_loopw [8, 9, 10, 23] (fun v8 v9 v10 i wr => ∃ (k : Nat) (Y : Int) (is : Bool) (l : List Nb), k ≤ rules.length ∧ i = .int .i64 k ∧ v9 = .int .i64 Y ∧ v10 = .bool is ∧ 0 ≤ Y ∧ Y ≤ 201 * k ∧ l.length ≤ 1500 ∧ Hid (MkR rules nm k Y is l) ∧ Hid (NbAt wr w.heap.size v8 l) ∧ Hid (Below w.heap.size w wr)) (fun _ _ _ i _ => rules.length - (intOf i).toNat)
 case atStart => exact ⟨0, 0, false, [], Nat.zero_le _, rfl, rfl, rfl, by omega, by omega, by simp, MkR.zero _ _, ⟨World.ownsRow_nil _ _ _ _, fun x hx => absurd hx (List.not_mem_nil)⟩, Lib.hid (Below.refl _ _)⟩
 case round =>
  obtain ⟨k, Y, is, l, hk, rfl, rfl, rfl, hY0, hY1, hll, HM, HN, HB⟩ := hrel
  have hzr := HB.out.size
  by_cases hlt : k < rules.length
  ·obtain ⟨b, o, rfl, hbl, hcs⟩ := HRow.out (List.ne_nil_of_length_pos (by omega))
   have hck := hcs k hlt
   have HOK := Lib.hid (HO.out rules[k] (List.getElem_mem hlt))
   have HSK := Lib.hid (HM.out.skip hlt)
   have HLA := Lib.hid (HM.out.large hlt)
   have HMO := Lib.hid (HM.out.more hlt)
   obtain ⟨q, eq⟩ : ∃ q, rules[k] = q := ⟨_, rfl⟩
   rw [eq] at hck HOK HSK HLA HMO
   obtain ⟨B0, eB0⟩ : ∃ B0, w.heap.size = B0 := ⟨_, rfl⟩
   rw [eB0] at hzr HN
   have HB00 := Lib.hid eB0
   have up : ∀ j u, w.cell? ⟨b, o + k * 11 + j, none⟩ = some u → wr.cell? ⟨b, o + k * 11 + j, none⟩ = some u := fun j u h => (HB.out.cell (p := ⟨b, o + k * 11 + j, none⟩) hbl).trans h
   clear eq hcs eB0
   obtain ⟨nm2, yf, yt, mo, dk, dw, dn, tm, ck, sv, lt⟩ := q
   have z0 := up 0 _ (hck 0 _ rfl)
   have z1 := up 1 _ (hck 1 _ rfl)
   have z2 := up 2 _ (hck 2 _ rfl)
   have z3 := up 3 _ (hck 3 _ rfl)
   have z4 := up 4 _ (hck 4 _ rfl)
   have z5 := up 5 _ (hck 5 _ rfl)
   have z6 := up 6 _ (hck 6 _ rfl)
   have z7 := up 7 _ (hck 7 _ rfl)
   have z8 := up 8 _ (hck 8 _ rfl)
   have z9 := up 9 _ (hck 9 _ rfl)
   have z10 := up 10 _ (hck 10 _ rfl)
   clear up hck
   rw [Nat.add_zero] at z0
   simp only at HSK HLA HMO
   obtain ⟨W1, eW1⟩ : ∃ W1, wr.alloc (.cells #[.string nm2, .int .i64 yf, .int .i64 yt, .int .i64 mo, .int .i64 dk, .int .i64 dw, .int .i64 dn, .int .i64 tm, .int .i64 ck, .int .i64 sv, .string lt] 87) = W1 := ⟨_, rfl⟩
   have hbx : RuBx W1 wr.heap.size ⟨nm2, yf, yt, mo, dk, dw, dn, tm, ck, sv, lt⟩ := by rw [← eW1]; exact heap_alloc_new wr _
   have HN1 : Hid (NbAt W1 B0 u8 l) := by rw [← eW1]; exact HN.out.alloc _
   have HB1 : Hid (Below w.heap.size w W1) := by rw [← eW1]; exact HB.out.alloc HB.out.size _
   have hw1 : wr.heap.size < W1.heap.size := hbx.lt
   have HX1 := Lib.hid hbx
   have HEW := Lib.hid eW1
   obtain ⟨bx, ebx⟩ : ∃ bx, wr.heap.size = bx := ⟨_, rfl⟩
   rw [ebx] at HX1 hw1 hzr
   have HBX := Lib.hid ebx
   obtain ⟨x0, x1, x2, x3, x4, x5, x6, x7, x8, x9, x10⟩ := HX1.out.cells
   obtain ⟨f1, f2, t1, t2⟩ := And.intro HOK.out.f1 (And.intro HOK.out.f2 (And.intro HOK.out.t1 HOK.out.t2))
   simp only at x0 x1 x2 x3 x4 x5 x6 x7 x8 x9 x10 f1 f2 t1 t2
   clear ebx eW1 hbx
   by_cases hnm : nm2 = nm
   ·have t0 : (nm2.toList == nm.toList) = true := by rw [hnm]; exact beq_self_eq_true _
    have t0n : (!(nm2.toList == nm.toList)) = false := by rw [t0]; rfl
    by_cases hy : 1500 < Y + (yt - yf + 1)
    ·have HLA2 := Lib.hid (HLA.out hnm hy)
     clear HLA HMO HSK hnm
     go_upto_region 6 with fail
     rw [HEW.out, HBX.out]
     go_wp2_with fail
     go_roundw
     case rel => exact ⟨k + 1, Y + (yt - yf + 1), true, l, by omega, by go_num, by go_num, rfl, by omega, by omega, hll, HLA2, by rw [HB00.out]; exact HN1, HB1⟩
     case measure => simp [intOf]; omega
    ·obtain ⟨C, hC⟩ : ∃ C : Nat, (C : Int) = yt - yf + 1 := ⟨(yt - yf + 1).toNat, by omega⟩
     have HMO2 := Lib.hid (HMO.out hnm t1 bx C hC)
     have hlen2 : l.length + C ≤ 1500 := by have := HM.out.len HO.out (by omega); omega
     clear HLA HMO HSK hnm
     go_upto_region 6 with fail
     rw [HEW.out, HBX.out]
     go_wp2_with fail
     go_loopw [8, 13] (fun v8 v13 wx => ∃ j : Nat, j ≤ C ∧ v13 = .int .i64 (yf + j) ∧ Hid (NbAt wx B0 v8 (l ++ nomB ⟨nm2, yf, yt, mo, dk, dw, dn, tm, ck, sv, lt⟩ bx j)) ∧ Hid (RuBx wx bx ⟨nm2, yf, yt, mo, dk, dw, dn, tm, ck, sv, lt⟩) ∧ Hid (Below w.heap.size w wx)) (fun _ v13 _ => (yt + 1 - intOf v13).toNat)
     case atStart => exact ⟨0, Nat.zero_le _, by go_num, by show NbAt _ _ _ _; rw [show nomB _ bx 0 = [] from rfl, List.append_nil]; exact HN1.out, HX1, HB1⟩
     case round =>
      obtain ⟨j, hj, rfl, HNJ, HXJ, HBJ⟩ := hrel
      have hzj := HBJ.out.size
      rw [HB00.out] at hzj
      obtain ⟨L, eL⟩ : ∃ L, l ++ nomB ⟨nm2, yf, yt, mo, dk, dw, dn, tm, ck, sv, lt⟩ bx j = L := ⟨_, rfl⟩
      have hLl : L.length ≤ 1500 := by rw [← eL, List.length_append, nomB_len]; omega
      have HSN : Hid (l ++ nomB ⟨nm2, yf, yt, mo, dk, dw, dn, tm, ck, sv, lt⟩ bx (j + 1) = L ++ [(86400 * dayN ⟨nm2, yf, yt, mo, dk, dw, dn, tm, ck, sv, lt⟩ (yf + j) + tm, ⟨nm2, yf, yt, mo, dk, dw, dn, tm, ck, sv, lt⟩, bx)]) := by show _ = _; rw [nomB_snoc, ← List.append_assoc, eL]
      rw [eL] at HNJ
      have EL := Lib.hid eL
      clear eL
      have hbj : bx < wr.heap.size := HXJ.out.lt
      have hxs := HXJ.out.cells
      simp only at hxs
      obtain ⟨y0, y1, y2, y3, y4, y5, y6, y7, y8, y9, y10⟩ := hxs
      by_cases hjc : j < C
      ·have hyb : yf + (j : Int) ≤ yt := by omega
       have hyb2 : yf ≤ yf + (j : Int) := by omega
       have HOF := Lib.hid (Of_ru ⟨nm2, yf, yt, mo, dk, dw, dn, tm, ck, sv, lt⟩ HOK.out (yf + j) hyb2 hyb wr)
       have hbd := dayN_bd HOK.out (y := yf + j) hyb2 hyb
       obtain ⟨N, eN⟩ : ∃ N, dayN ⟨nm2, yf, yt, mo, dk, dw, dn, tm, ck, sv, lt⟩ (yf + j) = N := ⟨_, rfl⟩
       rw [eN] at HOF HSN hbd
       obtain ⟨hN1, hN2⟩ := hbd
       have ha1 := HOK.out.a1
       have ha2 := HOK.out.a2
       simp only at ha1 ha2
       have HY7 := Lib.hid y7
       clear eN
       go_wp2_with fail
       refine HOF.out.mono ?_
       rintro e w8 ⟨rfl, hb8⟩
       have HB8 := Lib.hid hb8
       have hz8 := hb8.size
       have y7 := (hb8.cell (p := ⟨bx, 7, none⟩) hbj).trans HY7.out
       have HN8 := Lib.hid (HNJ.out.below hb8)
       have HX8 := Lib.hid (HXJ.out.below hb8)
       have hbx8 : bx < w8.heap.size := by omega
       clear hb8 HOF
       obtain ⟨A, cS, rfl⟩ := own_sliceN HN8.out.row
       have HML : L.length + 1 ≤ maxLen := by simp only [maxLen]; omega
       have HMB : (L.length + 1) * 16 ≤ 140737488355328 := by omega
       have HROW := Lib.hid (World.ownsRow.alloc HN8.out.row (.cells #[.int .i64 (86400 * N + tm), .pointer (some ⟨bx, 0, none⟩)] 180))
       have HNEW := Lib.hid (World.news_of_block (cs := #[.int .i64 (86400 * N + tm), .pointer (some ⟨bx, 0, none⟩)]) (t := 180) (fr := (0, 0)) (heap_alloc_new w8 (.cells #[.int .i64 (86400 * N + tm), .pointer (some ⟨bx, 0, none⟩)] 180)))
       have HSZ : B0 ≤ (w8.alloc (.cells #[.int .i64 (86400 * N + tm), .pointer (some ⟨bx, 0, none⟩)] 180)).heap.size := by simp; omega
       go_wp2_with (at_builtin; refine wpList_append_own _ rfl _ _ 176 rfl B0 180 i1 (.agg #[.int .i64 0, .pointer none]) 2 16 undNb hi1 hz10 hz11 hz12 rfl (by decide) _ _ _ rfl HROW.out ⟨w8.heap.size, 0, none⟩ 1 1 [.int .i64 (86400 * N + tm), .pointer (some ⟨bx, 0, none⟩)] rfl rfl HNEW.out (by simp [Value.oneCell']) HML HMB HSZ ?_; intro v' w10 hown10 hgrow10 _)
       have HR := Lib.hid (NbAt.snoc (x := (86400 * N + tm, ⟨nm2, yf, yt, mo, dk, dw, dn, tm, ck, sv, lt⟩, bx)) HN8.out HX8.out hown10 hgrow10)
       have HXE := Lib.hid (box_kept HROW.out (HX8.out.alloc _) (by decide) hgrow10)
       go_roundw
       case rel =>
        refine ⟨j + 1, hjc, by go_num, by rw [HSN.out]; exact HR, HXE, ?_⟩
        obtain rfl := HB00.out
        exact (((HBJ.out.trans (HB8.out.mono HBJ.out.size)).alloc (by omega) _).grown hgrow10 HSZ fun q hq => (World.ownsRow.lt HROW.out q hq).1)
       case measure => simp [intOf]; omega
      ·obtain rfl : j = C := by omega
       have hyb : ¬ yf + (j : Int) ≤ yt := by omega
       go_wp2_with fail
       go_roundw
       case rel => exact ⟨k + 1, Y + (yt - yf + 1), true, L, by omega, by go_num, by go_num, rfl, by omega, by omega, by omega, by rw [← EL.out]; exact HMO2, by rw [HB00.out]; exact HNJ, HBJ⟩
       case measure => simp [intOf]; omega
   ·have t0 : (nm2.toList == nm.toList) = false := by
     cases e : nm2.toList == nm.toList
     ·rfl
     ·exact absurd (ByteArray.ext (Array.toList_inj.1 (by rw [← ByteArray.toList_eq, ← ByteArray.toList_eq]; simpa using e))) hnm
    have t0n : (!(nm2.toList == nm.toList)) = true := by rw [t0]; rfl
    have HSK2 := Lib.hid (HSK.out hnm)
    clear HSK hnm
    go_upto_region 6 with fail
    rw [HEW.out, HBX.out]
    go_wp2_with fail
    go_roundw
    case rel => exact ⟨k + 1, Y, is, l, by omega, by go_num, rfl, rfl, hY0, by omega, hll, HSK2, by rw [HB00.out]; exact HN1, HB1⟩
    case measure => simp [intOf]; omega
  ·obtain rfl : k = rules.length := by omega
   obtain ⟨hMy, hMs, hMl⟩ := HM.out
   rw [List.take_length] at hMy hMs hMl
   have hmb := HO.out
   have HBE := HB
   cases is with
   | false =>
    have HE := Lib.hid (mkR_6 (off := off) hMs.symm)
    clear hMy hMs hMl hmb
    go_wp2_with fail
    go_ret2
    exact MakePost.bad HE.out HBE.out
   | true =>
   by_cases hy : 1500 < Y
   ·have HE := Lib.hid (mkR_2 (off := off) hMs.symm (by rw [← hMy]; exact hy))
    clear hMy hMs hMl hmb
    go_wp2_with fail
    go_ret2
    exact MakePost.bad HE.out HBE.out
   ·have hlen : (l.length : Int) = Y := HM.out.len HO.out (by omega)
    have hpos := yearsOf_pos nm rules hmb hMs.symm
    rw [← hMy] at hpos
    have hne : 0 < l.length := by omega
    have hSl := hMl (by omega)
    rcases own_cells HN.out.row with ⟨-, h0⟩ | ⟨g, cS, rfl, hg1, hg2, -⟩
    ·omega
    have HSO := Lib.hid (SortStable_any (ptL l) wr g cS l.length (by omega) (tagged (l.map (·.1))).toArray wr (nbAt_so HN.out) (by simp [tagged]) (by have := tagged_inc (l.map (·.1)); rwa [List.length_map] at this))
    obtain ⟨S, eS⟩ : ∃ S, srt (nomsOf dayN rules nm) = S := ⟨_, rfl⟩
    have h5 : outF off 0 none S = none → mkR rules nm off = (5, []) := fun h => mkR_5 hMs.symm (by rw [← hMy]; exact hy) (by rw [eS]; exact h)
    have h0 : ∀ o, outF off 0 none S = some o → mkR rules nm off = (0, o) := fun o h => mkR_0 hMs.symm (by rw [← hMy]; exact hy) (by rw [eS]; exact h)
    obtain ⟨T, eT⟩ : ∃ T, nbT l = T := ⟨_, rfl⟩
    have hTS : nbM T = S := by rw [← eT, nbT_M, ← eS, ← hSl]; rfl
    have hTl : T.length = l.length := by rw [← eT, nbT_len]
    have hTb : ∀ x ∈ T, OkRu x.2.1 ∧ -3000000000 ≤ x.1 ∧ x.1 ≤ 5000000000 := by
     intro x hx
     have hm : (x.1, x.2.1) ∈ nomsOf dayN rules nm := by
      have : (x.1, x.2.1) ∈ srt (nomsOf dayN rules nm) := by rw [eS, ← hTS]; exact List.mem_map_of_mem hx
      exact List.mem_mergeSort.1 this
     exact nomsOf_bd hmb nm _ hm
    have H5 := Lib.hid h5
    have H0 := Lib.hid h0
    have HTS := Lib.hid hTS
    have HTB := Lib.hid hTb
    have HTL := Lib.hid hTl
    have hTl2 : T.length ≤ 1500 := by omega
    have ET := Lib.hid eT
    have hgw : w.heap.size ≤ wr.heap.size := HB.out.size
    clear hMy hMs hMl hmb hpos hSl eS h5 h0 hTS hTl hTb eT HM hlen hll
    go_wp2_with fail
    refine HSO.out.mono ?_
    rintro e W2 ⟨rfl, d', hS, hn, hp, ho⟩
    have hT := so_nbRd HN.out hS hp ho
    rw [ET.out] at hT
    have HT := Lib.hid hT
    have HB6 := Lib.hid (HBE.out.grown hS.g hgw (fun q hq => by injection hq with hq; omega))
    clear hS hn hp ho hT HSO HN HB HBE ET
    go_wp2_with fail
    go_loopw [16, 17, 78] (fun v16 v17 i wx => ∃ (k : Nat) (sv : Int) (out : List Tn), k ≤ l.length ∧ i = .int .i64 k ∧ v17 = .int .i64 sv ∧ 0 ≤ sv ∧ sv ≤ 10800 ∧ Hid (OutR off S k sv out) ∧ Hid (wx.ownsRow W2.heap.size 49 3 v16 k (tnCells out)) ∧ Hid (Below W2.heap.size W2 wx)) (fun _ _ i _ => l.length - (intOf i).toNat)
    case atStart => exact ⟨0, 0, [], Nat.zero_le _, rfl, rfl, by omega, by omega, OutR.zero _ _, World.ownsRow_nil _ _ _ _, Lib.hid (Below.refl _ _)⟩
    case round =>
     obtain ⟨k, sv, out, hk, rfl, rfl, hs0, hs1, HOR, HNR, HBR⟩ := hrel
     by_cases hkn : k < l.length
     ·have hkt : k < T.length := by rw [HTL.out]; exact hkn
      have hks : k < S.length := by rw [← HTS.out]; unfold nbM; rw [List.length_map]; exact hkt
      have hSk : S[k]'hks = (T[k].1, T[k].2.1) := by
       have e : (nbM T)[k]? = some (T[k].1, T[k].2.1) := by unfold nbM; rw [List.getElem?_map, List.getElem?_eq_getElem hkt]; rfl
       rw [HTS.out, List.getElem?_eq_getElem hks] at e
       injection e
      have HOB := Lib.hid (HOR.out.bad hks)
      have HOM := Lib.hid (HOR.out.more hks)
      rw [hSk] at HOB HOM
      have HTW := HT.out.below HBR.out
      have hgr : g < wr.heap.size := HTW.lt
      have a0 := HTW.k k hkt
      have a1 := HTW.p k hkt
      have hX := HTW.bx T[k] (List.getElem_mem hkt)
      have hB := HTB.out T[k] (List.getElem_mem hkt)
      obtain ⟨x, ex⟩ : ∃ x, T[k] = x := ⟨_, rfl⟩
      rw [ex] at a0 a1 hX hB HOB HOM
      clear hSk HTW ex hks
      obtain ⟨at1, q, bx⟩ := x
      obtain ⟨nm2, yf, yt, mo, dk, dw, dn, tm, ck, sv2, lt⟩ := q
      obtain ⟨o, hA1, hA2⟩ := hB
      have hbxr : bx < wr.heap.size := hX.lt
      have hxs := hX.cells
      have c1 := o.c1
      have c2 := o.c2
      have s1 := o.s1
      have s2 := o.s2
      simp only at a0 a1 hX hA1 hA2 hbxr hxs c1 c2 s1 s2 HOB HOM
      obtain ⟨x0, x1, x2, x3, x4, x5, x6, x7, x8, x9, x10⟩ := hxs
      clear x0 x1 x2 x3 x4 x5 x6 x7 o
      have HX := Lib.hid hX
      have hs20 := s1
      have hs21 := s2
      clear hX
      obtain ⟨t, et⟩ : ∃ t, clkT off sv (at1, ⟨nm2, yf, yt, mo, dk, dw, dn, tm, ck, sv2, lt⟩) = t := ⟨_, rfl⟩
      rw [et] at HOB HOM
      have ET := Lib.hid et
      clear et
      obtain ⟨W5, eW5⟩ : ∃ W5, wr.alloc (.cells #[.int .i64 at1, .pointer (some ⟨bx, 0, none⟩)] 180) = W5 := ⟨_, rfl⟩
      have hb5 : Below wr.heap.size wr W5 := by rw [← eW5]; exact (Below.refl _ _).alloc (Nat.le_refl _) _
      have hn5 : W5.heap[wr.heap.size]? = some (.cells #[.int .i64 at1, .pointer (some ⟨bx, 0, none⟩)] 180 (0, 0)) := by rw [← eW5]; exact heap_alloc_new wr _
      have hz5 : W5.heap.size = wr.heap.size + 1 := by rw [← eW5]; simp
      have n0 : W5.cell? ⟨wr.heap.size, 0, none⟩ = some (.int .i64 at1) := (cell_of_row W5 _ 0 _ _ _ hn5).trans rfl
      have n1 : W5.cell? ⟨wr.heap.size, 1, none⟩ = some (.pointer (some ⟨bx, 0, none⟩)) := (cell_of_row W5 _ 1 _ _ _ hn5).trans rfl
      have b9 : W5.cell? ⟨bx, 9, none⟩ = some (.int .i64 sv2) := (hb5.cell (p := ⟨bx, 9, none⟩) hbxr).trans x9
      have b10 : W5.cell? ⟨bx, 10, none⟩ = some (.string lt) := (hb5.cell (p := ⟨bx, 10, none⟩) hbxr).trans x10
      have b8 : W5.cell? ⟨bx, 8, none⟩ = some (.int .i64 ck) := (hb5.cell (p := ⟨bx, 8, none⟩) hbxr).trans x8
      have hl5 : wr.heap.size < W5.heap.size := by omega
      have hbx5 : bx < W5.heap.size := by omega
      have KS : Hid (∀ wx, Below W5.heap.size W5 wx → Below W5.heap.size W5 wx ∧ wx.cell? ⟨wr.heap.size, 0, none⟩ = some (.int .i64 at1) ∧ wx.cell? ⟨wr.heap.size, 1, none⟩ = some (.pointer (some ⟨bx, 0, none⟩)) ∧ wx.cell? ⟨bx, 9, none⟩ = some (.int .i64 sv2) ∧ wx.cell? ⟨bx, 10, none⟩ = some (.string lt)) := by
       show ∀ wx, _
       exact fun wx hb => ⟨hb, (hb.cell (p := ⟨wr.heap.size, 0, none⟩) hl5).trans n0, (hb.cell (p := ⟨wr.heap.size, 1, none⟩) hl5).trans n1, (hb.cell (p := ⟨bx, 9, none⟩) hbx5).trans b9, (hb.cell (p := ⟨bx, 10, none⟩) hbx5).trans b10⟩
      have KAL : Hid (∀ wx ob, Below W5.heap.size W5 wx → Below W5.heap.size W5 (wx.alloc ob)) := by
       show ∀ wx ob, _
       exact fun wx ob h => h.alloc h.size ob
      have HB5 := Lib.hid hb5
      have HN5 := Lib.hid hn5
      have HZ5 := Lib.hid hz5
      have HEW5 := Lib.hid eW5
      clear eW5 hb5 hn5 hz5
      go_upto_region 26 with fail
      rw [HEW5.out]
      go_cut [20] from 83 to 95 (fun sx wx => sx = .pointer (some ⟨W5.heap.size, 0, none⟩) ∧ wx = (W5.alloc (.cells #[.int .i64 at1, .int .i64 sv2, .string lt] 49)).drew)
      case first =>
       clear x8 x9 x10 b8 a0 a1
       go_region_held3 (fun wx => Below W5.heap.size W5 wx ∧ wx.cell? ⟨wr.heap.size, 0, none⟩ = some (.int .i64 at1) ∧ wx.cell? ⟨wr.heap.size, 1, none⟩ = some (.pointer (some ⟨bx, 0, none⟩)) ∧ wx.cell? ⟨bx, 9, none⟩ = some (.int .i64 sv2) ∧ wx.cell? ⟨bx, 10, none⟩ = some (.string lt)) ((refine KS.out _ ?_; repeat (first | (with_reducible assumption) | (with_reducible exact Below.refl _ _) | (with_reducible refine Below.drew ?_) | (with_reducible refine KAL.out _ _ ?_)))) (fail)
       all_goals go_wp2_with fail
       all_goals go_meet
       all_goals exact ⟨rfl, rfl⟩
      case rest =>
      obtain ⟨rfl, rfl⟩ := hcut
      clear KS KAL b10 n0 x8 x9 x10 a0 a1
      go_upto_block 7 with fail
      go_cut [108] from 97 to 116 (fun sx wx => wx = (W5.alloc (.cells #[.int .i64 t, .int .i64 sv2, .string lt] 49)).drew)
      case first =>
       have et := ET.out
       unfold clkT at et
       simp only at et
       by_cases hc0 : ck = 0
       ·rw [if_pos hc0] at et
        subst hc0
        subst et
        go_wp2_with fail
        go_meet
        exact rfl
       ·rw [if_neg hc0] at et
        have z0 : (ck == 0) = false := by simpa using hc0
        by_cases hc1 : ck = 1
        ·rw [if_pos hc1] at et
         subst hc1
         subst et
         go_wp2_with fail
         go_meet
         exact rfl
        ·rw [if_neg hc1] at et
         have z1 : (ck == 1) = false := by simpa using hc1
         subst et
         go_wp2_with fail
         go_meet
         exact rfl
      case rest =>
      obtain ⟨W3, eW3⟩ : ∃ W3, (W5.alloc (.cells #[.int .i64 t, .int .i64 sv2, .string lt] 49)).drew = W3 := ⟨_, rfl⟩
      rw [eW3] at hcut
      have hb35 : Below W5.heap.size W5 W3 := by rw [← eW3]; exact ((Below.refl _ _).alloc (Nat.le_refl _) _).drew
      have hb3 : Below wr.heap.size wr W3 := HB5.out.trans (hb35.mono (by have := HZ5.out; omega))
      have hN3 : W3.heap[wr.heap.size]? = some (.cells #[.int .i64 at1, .pointer (some ⟨bx, 0, none⟩)] 180 (0, 0)) := (hb35.block _ hl5).trans HN5.out
      have hT3 : W3.heap[wr.heap.size + 1]? = some (.cells #[.int .i64 t, .int .i64 sv2, .string lt] 49 (0, 0)) := by
       rw [← eW3]
       exact alloc_at _ _ _ (by have := HZ5.out; omega)
      have hz3 : wr.heap.size + 2 ≤ W3.heap.size := by rw [← eW3]; have := HZ5.out; simp [World.drew]; omega
      have p1 : W3.cell? ⟨wr.heap.size, 1, none⟩ = some (.pointer (some ⟨bx, 0, none⟩)) := (cell_of_row W3 _ 1 _ _ _ hN3).trans rfl
      have q0 : W3.cell? ⟨wr.heap.size + 1, 0, none⟩ = some (.int .i64 t) := (cell_of_row W3 _ 0 _ _ _ hT3).trans rfl
      have q1 : W3.cell? ⟨wr.heap.size + 1, 1, none⟩ = some (.int .i64 sv2) := (cell_of_row W3 _ 1 _ _ _ hT3).trans rfl
      have q2 : W3.cell? ⟨wr.heap.size + 1, 2, none⟩ = some (.string lt) := (cell_of_row W3 _ 2 _ _ _ hT3).trans rfl
      have y9 : W3.cell? ⟨bx, 9, none⟩ = some (.int .i64 sv2) := (hb35.cell (p := ⟨bx, 9, none⟩) hbx5).trans b9
      obtain ⟨A, cO, rfl⟩ := own_sliceN HNR.out
      have HNR3 : Hid (W3.ownsRow W2.heap.size 49 3 (.slice A k cO) k (tnCells out)) := own_keep HNR.out fun g' e' => hb3.block g' (World.ownsRow.lt HNR.out g' e').2
      have hz2 : W2.heap.size ≤ W3.heap.size := by have := HBR.out.size; omega
      have HB3 : Hid (Below W2.heap.size W2 W3) := HBR.out.trans (hb3.mono HBR.out.size)
      rw [HZ5.out]
      obtain ⟨nb, enb⟩ : ∃ nb, wr.heap.size = nb := ⟨_, rfl⟩
      rw [enb] at p1 q0 q1 q2 hz3 hbxr hgr ⊢
      have hol := HOR.out.1
      have HLA : Hid (0 < k → ∃ g2 c2 m, (Value.slice A k cO) = .slice (some ⟨g2, 0, none⟩) k c2 ∧ g2 < W3.heap.size ∧ out[k - 1]? = some m ∧ W3.cell? ⟨g2, (k - 1) * 3, none⟩ = some (.int .i64 m.a)) := by
       show 0 < k → _
       intro h0
       rcases own_cells HNR3.out with ⟨-, h1⟩ | ⟨g2, c2, e2, -, h2, h3⟩
       ·omega
       ·have hl : k - 1 < out.length := by omega
        exact ⟨g2, c2, out[k - 1], e2, h2, List.getElem?_eq_getElem hl, h3 _ _ (tnCells_get out (k - 1) hl).1⟩
      obtain ⟨BB, hBB0, hBB1⟩ : ∃ BB : Bool, (k = 0 → BB = false) ∧ (∀ m, 0 < k → out[k - 1]? = some m → BB = decide (t ≤ m.a)) := by
       by_cases h0 : 0 < k
       ·obtain ⟨g2, c2, m, -, -, e3, -⟩ := HLA.out h0
        exact ⟨decide (t ≤ m.a), fun h => by omega, fun m2 _ e4 => by rw [e3] at e4; injection e4 with e4; rw [e4]⟩
       ·exact ⟨false, fun _ => rfl, fun m h => absurd h h0⟩
      have HBT : Hid (BB = true → outF off 0 none S = none) := by
       show BB = true → _
       intro hb
       by_cases h0 : 0 < k
       ·obtain ⟨g2, c2, m, -, -, e3, -⟩ := HLA.out h0
        refine HOB.out h0 m e3 ?_
        have := hBB1 m h0 e3
        rw [hb] at this
        exact of_decide_eq_true this.symm
       ·rw [hBB0 (by omega)] at hb; cases hb
      have HBF : Hid (BB = false → OutR off S (k + 1) sv2 (out ++ [⟨t, sv2, lt⟩])) := by
       show BB = false → _
       intro hb
       refine HOM.out fun m h0 e3 => ?_
       have := hBB1 m h0 e3
       rw [hb] at this
       have := of_decide_eq_false this.symm
       omega
      have HBB0 := Lib.hid hBB0
      have HBB1 := Lib.hid hBB1
      have hol1 : out.length ≤ 1500 := by omega
      have HOL := Lib.hid hol
      have HENB := Lib.hid enb
      clear hBB0 hBB1 hb3 hb35 hN3 hT3 eW3 HNR HOR HOM HOB ET HTB HTS hol enb HBR s1 s2 n1 b8 hl5 hbx5 HB5 HN5 HZ5 HEW5 b9
      subst hcut
      go_upto_region 32 with fail
      go_cut [129] from 117 to 129 (fun sx wx => sx = .bool BB ∧ ∃ nq, wx = wc.drewN nq)
      case first =>
       by_cases h0 : 0 < k
       ·obtain ⟨g2, c2, m, e2, hg2, e3, hc⟩ := HLA.out h0
        simp only [Value.slice.injEq, true_and] at e2
        obtain ⟨rfl, rfl⟩ := e2
        have hBB := HBB1.out m h0 e3
        clear e3
        have hk1 : (0 : Int) < (k : Int) := by omega
        have hk2 : (0 : Int) ≤ (k : Int) - 1 := by omega
        have hk3 : (k : Int) - 1 < (k : Int) := by omega
        have hk4 : ((k : Int) - 1).toNat = k - 1 := by omega
        have hk5 : k - 1 < k := by omega
        by_cases hle : t ≤ m.a
        ·rw [decide_eq_true hle] at hBB
         subst hBB
         go_quiet (fail)
         go_wp2_with fail
         go_meet
         exact ⟨rfl, _, rfl⟩
        ·rw [decide_eq_false hle] at hBB
         subst hBB
         go_quiet (fail)
         go_wp2_with fail
         go_meet
         exact ⟨rfl, _, rfl⟩
       ·have hBB := HBB0.out (by omega)
        subst hBB
        have hk0 : ¬ (0 : Int) < (k : Int) := by omega
        go_quiet (fail)
        go_wp2_with fail
        go_meet
        exact ⟨rfl, _, rfl⟩
      case rest =>
      obtain ⟨rfl, nq, rfl⟩ := hcut
      cases BB with
      | true =>
       have HE := Lib.hid (H5.out (HBT.out rfl))
       have HBD := Lib.hid (HB6.out.trans (HB3.out.mono HB6.out.size))
       go_wp2_with fail
       go_ret2
       exact MakePost.bad HE.out (below_drewN HBD.out nq)
      | false =>
       have HRF := Lib.hid (HBF.out rfl)
       obtain ⟨W4, e4⟩ : ∃ W4, wc.drewN nq = W4 := ⟨_, rfl⟩
       rw [e4]
       have HNR4 : Hid (W4.ownsRow W2.heap.size 49 3 (.slice A k cO) k (tnCells out)) := by rw [← e4]; exact HNR3
       have HB4 : Hid (Below W2.heap.size W2 W4) := by rw [← e4]; exact below_drewN HB3.out nq
       have p1 : W4.cell? ⟨nb, 1, none⟩ = some (.pointer (some ⟨bx, 0, none⟩)) := by rw [← e4]; exact p1
       have q0 : W4.cell? ⟨nb + 1, 0, none⟩ = some (.int .i64 t) := by rw [← e4]; exact q0
       have q1 : W4.cell? ⟨nb + 1, 1, none⟩ = some (.int .i64 sv2) := by rw [← e4]; exact q1
       have q2 : W4.cell? ⟨nb + 1, 2, none⟩ = some (.string lt) := by rw [← e4]; exact q2
       have y9 : W4.cell? ⟨bx, 9, none⟩ = some (.int .i64 sv2) := by rw [← e4]; exact y9
       have hz4 : wc.heap.size ≤ W4.heap.size := by rw [← e4]; exact Nat.le_refl _
       have hbxw : bx < W4.heap.size := by omega
       have hnbw : nb < W4.heap.size := by omega
       have hnbw1 : nb + 1 < W4.heap.size := by omega
       have hz24 : W2.heap.size ≤ W4.heap.size := by omega
       clear e4
       obtain ⟨i2, hi2, hz20, hz21, hz22⟩ := info_parts infoTn
       have HROW := Lib.hid (World.ownsRow.alloc HNR4.out (.cells #[.int .i64 t, .int .i64 sv2, .string lt] 49))
       have HNEW := Lib.hid (World.news_of_block (cs := #[.int .i64 t, .int .i64 sv2, .string lt]) (t := 49) (fr := (0, 0)) (heap_alloc_new W4 (.cells #[.int .i64 t, .int .i64 sv2, .string lt] 49)))
       have HSZ : W2.heap.size ≤ (W4.alloc (.cells #[.int .i64 t, .int .i64 sv2, .string lt] 49)).heap.size := by simp; omega
       have HML : k + 1 ≤ maxLen := by simp only [maxLen]; omega
       have HMB : (k + 1) * 32 ≤ 140737488355328 := by omega
       go_wp2_with (at_builtin; refine wpList_append_own _ rfl _ _ 37 rfl W2.heap.size 49 i2 (.agg #[.int .i64 0, .int .i64 0, .string ⟨#[]⟩]) 3 32 undTn hi2 hz20 hz21 hz22 rfl (by decide) _ _ _ rfl HROW.out ⟨W4.heap.size, 0, none⟩ 1 1 [.int .i64 t, .int .i64 sv2, .string lt] rfl rfl HNEW.out (by simp [Value.oneCell']) HML HMB HSZ ?_; intro v' w10 hown10 hgrow10 _)
       go_roundw
       case rel =>
        refine ⟨k + 1, sv2, out ++ [⟨t, sv2, lt⟩], hkn, by go_num, rfl, hs20, hs21, HRF, by show World.ownsRow _ _ _ _ _ _ _; rw [tnCells_snoc]; exact hown10, ?_⟩
        exact ((HB4.out.alloc hz24 _).grown hgrow10 HSZ fun q hq => (World.ownsRow.lt HROW.out q hq).1)
       case measure => simp [intOf]; omega
     ·obtain rfl : k = l.length := by omega
      have HE := Lib.hid (H0.out out (HOR.out.done (by rw [← HTS.out]; unfold nbM; rw [List.length_map, HTL.out]; exact Nat.le_refl _)))
      have hol := HOR.out.1
      have HRW : Hid (wr.ownsRow w.heap.size 49 3 u16 out.length (tnCells out)) := by show World.ownsRow _ _ _ _ _ _ _; rw [hol]; exact own_base HNR.out HB6.out.size
      have HBD := Lib.hid (HB6.out.trans (HBR.out.mono HB6.out.size))
      clear hol
      go_wp2_with fail
      go_ret2
      exact MakePost.ok HE.out HRW.out HBD.out
end Go.Proofs.YtomahddiclkepaaGreatDoor
