/- book.Text: the walk. norm.Norm, norm.check, norm.Same, TableEq: what each returns. norm.isTime; slices.Grow of nil; slices.Concat of two slices of changes. norm.Between: parts. norm.Between: a round at one and the same time. norm.Between: a round in which the two tables agree. -/
import Derived.Test.YtomahddiclkepaaGreatDoorQa16
import Derived.Test.YtomahddiclkepaaGreatDoorQa08
import Derived.Test.YtomahddiclkepaaGreatDoorQa20
import Derived.BigQuiet
import Derived.Test.YtomahddiclkepaaGreatDoorQa19
import Derived.Deep.DeepCutAuto
import Derived.Handy
import Derived.Lib.SliceRun
import Derived.Lib.AppendZerosOnto
import Derived.Laws.AppendOwnNone
import Derived.Test.YtomahddiclkepaaGreatDoorQa03
import Derived.Test.YtomahddiclkepaaGreatDoorQa10
import Derived.Sort.OwnSortedInts
import Derived.Test.YtomahddiclkepaaGreatDoorQa18
namespace Go.Proofs.YtomahddiclkepaaGreatDoor
open Go.RowKit Go.Joins
open Classical
set_option linter.unusedVariables false
set_option linter.unusedSimpArgs false
theorem infoStrT : (Tryz.prog.info? 9).map (fun i => (i.zero, i.size, i.bytes)) = some (some (.string ⟨#[]⟩), 1, 16) := by kernel_rfl
theorem undStrT : Tryz.prog.underlying 83 = some (.slice 9) := by kernel_rfl
structure OutS (B : Nat) (w1 W : World) (v : Value) (l : List (List UInt8)) : Prop where
 row : W.ownsRow B 9 1 v l.length (strs l)
 b : Below B w1 W
 z : B ≤ W.heap.size
section
variable {B : Nat} {w1 W W' : World} {v : Value} {l : List (List UInt8)}
theorem OutS.below (h : OutS B w1 W v l) (hb : Below W.heap.size W W') : OutS B w1 W' v l :=
 ⟨own_keep h.row fun g e => hb.block g (World.ownsRow.lt h.row g e).2, h.b.trans (hb.mono h.z), Nat.le_trans h.z hb.size⟩
theorem OutS.alloc (h : OutS B w1 W v l) (o : Obj) : OutS B w1 (W.alloc o) v l := h.below ((Below.refl _ _).alloc (Nat.le_refl _) _)
theorem OutS.snoc (h : OutS B w1 W v l) {o : Obj} {x : List UInt8} {w9 : World} {v' : Value} (ho : w9.ownsRow B 9 1 v' (l.length + 1) (strs l ++ [.string (txt x)])) (hg : (W.alloc o).grownBy w9 v.ownBlock) : OutS B w1 w9 v' (l ++ [x]) := by
 have ha := h.alloc o
 refine ⟨?_, ha.b.grown hg ha.z (fun q e => (World.ownsRow.lt h.row q e).1), Nat.le_trans ha.z hg.size⟩
 rw [strs_app, List.length_append]
 exact ho
theorem OutS.box (h : OutS B w1 W v l) {zb : Nat} {cs : Array Value} {T : TypeId} {fr : Nat × Nat} (hx : W.heap[zb]? = some (.cells cs T fr)) (hT : T ≠ 9) {o : Obj} {w9 : World} (hg : (W.alloc o).grownBy w9 v.ownBlock) : w9.heap[zb]? = some (.cells cs T fr) := by
 have hl := (Array.getElem?_eq_some_iff.mp hx).1
 refine ((hg.block zb (by simp; omega) (fun e0 => ?_)).trans (Below.heap_alloc W _ zb hl)).trans hx
 rcases h.row.2 with ⟨rfl, _⟩ | ⟨g, cap, cur, rfl, _, hgg, _⟩
 ·simp [Value.ownBlock] at e0
 ·simp only [Value.ownBlock] at e0
  injection e0 with e0
  subst e0
  rw [hx] at hgg
  injection hgg with hgg
  injection hgg with _ h2 _
  exact hT h2
end
def rulesUp (b : Bk) (k : Nat) : List (List UInt8) := (b.rules.take k).map ruText
def zonesUp (b : Bk) (k : Nat) : List (List UInt8) := b.rules.map ruText ++ (b.zones.take k).flatMap zoLs
def linksUp (b : Bk) (k : Nat) : List (List UInt8) := b.rules.map ruText ++ b.zones.flatMap zoLs ++ (b.links.take k).map lkL
def erasUp (l : List Er) (k : Nat) : List (List UInt8) := (List.range k).map fun i => eraT (eraAt l i) (decide (i + 1 = l.length))
theorem rulesUp_s (b : Bk) (k : Nat) (h : k < b.rules.length) : rulesUp b (k + 1) = rulesUp b k ++ [ruText b.rules[k]] := by unfold rulesUp; rw [List.take_succ_eq_append_getElem h, List.map_append]; rfl
theorem rulesUp_d (b : Bk) : rulesUp b b.rules.length = zonesUp b 0 := by unfold rulesUp zonesUp; simp
theorem zonesUp_s (b : Bk) (k : Nat) (h : k < b.zones.length) : zonesUp b (k + 1) = (zonesUp b k ++ [zoH b.zones[k].nm]) ++ erasUp b.zones[k].eras b.zones[k].eras.length := by
 unfold zonesUp
 rw [List.take_succ_eq_append_getElem h, List.flatMap_append]
 simp [zoLs, erLs, erasUp]
theorem zonesUp_d (b : Bk) : zonesUp b b.zones.length = linksUp b 0 := by unfold zonesUp linksUp; simp
theorem linksUp_s (b : Bk) (k : Nat) (h : k < b.links.length) : linksUp b (k + 1) = linksUp b k ++ [lkL b.links[k]] := by unfold linksUp; rw [List.take_succ_eq_append_getElem h, List.map_append]; simp
theorem linksUp_d (b : Bk) : linksUp b b.links.length = bkLs b := by unfold linksUp bkLs; simp
theorem erasUp_s (l : List Er) (k : Nat) : erasUp l (k + 1) = erasUp l k ++ [eraT (eraAt l k) (decide (k + 1 = l.length))] := by unfold erasUp; rw [List.range_succ, List.map_append]; rfl
theorem flat_le {α : Type} (f : α → List (List UInt8)) (n : Nat) : ∀ l : List α, (∀ x ∈ l, (f x).length ≤ n) → (l.flatMap f).length ≤ n * l.length
 | [], _ => by simp
 | x :: r, h => by
  have h1 := h x List.mem_cons_self
  have h2 := flat_le f n r fun y hy => h y (List.mem_cons_of_mem _ hy)
  rw [List.flatMap_cons, List.length_append, List.length_cons, Nat.mul_succ]
  omega
theorem zoLs_len (z : Zo) : (zoLs z).length = z.eras.length + 1 := by unfold zoLs erLs; simp
theorem zonesUp_len {b : Bk} (h : bkChk b = 0) (k : Nat) : (zonesUp b k).length ≤ 15000 := by
 obtain ⟨h1, h2, -⟩ := bk_len h
 have h3 := flat_le zoLs 701 (b.zones.take k) fun z hz => by
  rw [zoLs_len]
  have := (bk_er h (List.mem_of_mem_take hz)).2
  omega
 have h4 : (b.zones.take k).length ≤ 20 := by rw [List.length_take]; omega
 have h5 : 701 * (b.zones.take k).length ≤ 701 * 20 := Nat.mul_le_mul_left _ h4
 unfold zonesUp
 rw [List.length_append, List.length_map]
 omega
theorem linksUp_len {b : Bk} (h : bkChk b = 0) (k : Nat) : (linksUp b k).length ≤ 15020 := by
 have h1 := zonesUp_len h b.zones.length
 rw [zonesUp_d] at h1
 unfold linksUp at h1 ⊢
 rw [List.length_append, List.length_map, List.length_take] at h1 ⊢
 have := (bk_len h).2.2
 omega
theorem nameS {s : ByteArray} (h : nameB s = true) : s.data.toList.length ≤ 20 := by
 unfold nameB at h
 simp only [Bool.and_eq_true] at h
 have := all_size h.1
 rw [← Lib.size_eq]
 omega
theorem line_le {b : Bk} (h : bkChk b = 0) : ∀ x ∈ bkLs b, x.length ≤ 600 := by
 intro x hx
 have hr := (bk_rules h).2
 unfold bkLs at hx
 rcases List.mem_append.1 hx with hx | hx
 ·rcases List.mem_append.1 hx with hx | hx
  ·obtain ⟨r, hm, rfl⟩ := List.mem_map.1 hx
   have := ruText_len (hr r hm)
   omega
  ·obtain ⟨z, hz, hx⟩ := List.mem_flatMap.1 hx
   obtain ⟨i, hi, rfl⟩ := List.mem_iff_getElem.1 hz
   have ho := bk_zone h i hi
   rcases List.mem_cons.1 hx with rfl | hx
   ·have := nameS ho.nm
    unfold zoH
    rw [List.length_append]
    show 5 + _ ≤ _
    omega
   ·obtain ⟨k, hk, rfl⟩ := List.mem_map.1 hx
    have hk := List.mem_range.1 hk
    obtain ⟨h1, h2, h3⟩ := er_P (k := k) hr ((firstE_zero _ _).1 ho.er k (List.mem_range.2 hk))
    have := eraT_len h1 h2 h3
    omega
 ·obtain ⟨l, hm, rfl⟩ := List.mem_map.1 hx
  obtain ⟨i, hi, rfl⟩ := List.mem_iff_getElem.1 hm
  have ho := (bk_parts h).2 i hi
  unfold linkChk at ho
  split at ho
  ·cases ho
  ·rename_i hn
   have h1 : nameB b.links[i].nm = true := by cases e : nameB b.links[i].nm with | true => rfl | false => exact absurd (.inl e) hn
   have h2 : nameB b.links[i].tg = true := by cases e : nameB b.links[i].tg with | true => rfl | false => exact absurd (.inr e) hn
   have h1 := nameS h1
   have h2 := nameS h2
   unfold lkL
   rw [List.length_append, List.length_append, List.length_append]
   show 5 + _ + 1 + _ ≤ _
   omega
theorem bkLs_len {b : Bk} (h : bkChk b = 0) : (bkLs b).length ≤ 15020 := by
 have := linksUp_len h b.links.length
 rwa [linksUp_d] at this
theorem bkText_len {b : Bk} (h : bkChk b = 0) : (bkText b).length ≤ 140737488355328 := by
 have h1 := join_len (bkLs b) 600 (line_le h)
 have h2 := bkLs_len h
 have h3 : 601 * (bkLs b).length ≤ 601 * 15020 := Nat.mul_le_mul_left _ h2
 unfold bkText
 omega
theorem strs_map (l : List (List UInt8)) : strs l = (l.map txt).flatMap stL := by
 induction l with
 | nil => rfl
 | cons x r ih =>
  show .string (txt x) :: strs r = .string (txt x) :: (r.map txt).flatMap stL
  rw [ih]
theorem join_out {B : Nat} {w1 W : World} {v : Value} {l : List (List UInt8)} (h : OutS B w1 W v l) (hn : l.length ≤ 100000) (hlen : (Lib.join l [10]).length ≤ 140737488355328) :
  Calls Tryz.prog 32 #[v, .string ⟨#[10]⟩] W fun e w' => e = .returned (.string (txt (Lib.join l [10]))) ∧ Below W.heap.size W w' := by
 have hr : RowsAt stL 1 W.heap.size W v (l.map txt) := own_rowsG (cells := stL) (k := 1) (fun _ => rfl) (l := l.map txt) (by rw [← strs_map, List.length_map]; exact h.row) (by rw [List.length_map]; exact hn)
 obtain ⟨p, cap, rfl, ⟨h1, h2⟩, hc⟩ := hr
 have em : (l.map txt).map (·.data.toList) = l := by
  rw [List.map_map]
  conv => rhs; rw [← List.map_id l]
  exact List.map_congr_left fun x _ => txt_data x
 match l, hlen, em, h1, h2, hc with
 | [], _, _, _, _, _ => exact (Any.strings_Join_none Tryz.lays156 Tryz.Builder_Extra_156 p cap _ W).mono fun e w' ⟨he, hw⟩ => ⟨he, hw ▸ Below.refl _ _⟩
 | x :: r, hlen, em, h1, h2, hc =>
  obtain ⟨b, o, rfl, hb, hcs⟩ := hc (by simp)
  have := Tryz.strings_Join b o cap ((x :: r).map txt) ⟨#[10]⟩ W (fun j y hj => by
   obtain ⟨hj2, rfl⟩ := List.getElem?_eq_some_iff.mp hj
   exact stL_at hcs j hj2) hb (by omega) h2 (by rw [em]; exact hlen)
  rw [em] at this
  exact this
theorem eraAt_inT (l : List Er) (k : Nat) (h : k < l.length) : eraAt l k = l[k] := by unfold eraAt; rw [List.getElem?_eq_getElem h]; rfl
theorem erasUp_len (l : List Er) (k : Nat) : (erasUp l k).length = k := by unfold erasUp; simp
set_option maxRecDepth 100000 in
set_option maxHeartbeats 20000000 in
theorem bookText_any (b : Bk) (rv zv lv : Value) (w : World) (hB : BookAt w.heap.size w rv zv lv b) (ht : Tab10 w) (ha : AscTab w) (hm : MaxLen w) :
  Calls Tryz.prog 9 #[.agg #[rv, zv, lv]] w fun e w' => e = .returned (.tuple #[.string (txt (if bkChk b = 0 then bkText b else [])), .int .i64 (bkChk b)]) ∧ Below w.heap.size w w' := by
 obtain ⟨p1, c1, rfl, hlen1, hrow1⟩ := hB.r
 obtain ⟨p2, c2, rfl, hlen2, hrow2⟩ := hB.z
 obtain ⟨p3, c3, rfl, hlen3, hrow3⟩ := hB.l
 obtain ⟨W0, eW⟩ : ∃ W0, w.alloc (.cells #[.slice p1 b.rules.length c1, .slice p2 b.zones.length c2, .slice p3 b.links.length c3] 26) = W0 := ⟨_, rfl⟩
 obtain ⟨b0, eb0⟩ : ∃ b0, w.heap.size = b0 := ⟨_, rfl⟩
 have hbx : W0.heap[b0]? = some (.cells #[.slice p1 b.rules.length c1, .slice p2 b.zones.length c2, .slice p3 b.links.length c3] 26 (0, 0)) := by rw [← eW]; exact alloc_at _ _ _ eb0.symm
 have hb0 : Below w.heap.size w W0 := by rw [← eW]; exact alB _ _
 have hl0 : b0 < W0.heap.size := (Array.getElem?_eq_some_iff.mp hbx).1
 have HBX : Hid (∀ W, Below W0.heap.size W0 W → W.cell? ⟨b0, 0, none⟩ = some (.slice p1 b.rules.length c1) ∧ W.cell? ⟨b0, 1, none⟩ = some (.slice p2 b.zones.length c2) ∧ W.cell? ⟨b0, 2, none⟩ = some (.slice p3 b.links.length c3)) := by
  show ∀ W, _
  intro W hb
  have hx := (hb.block b0 hl0).trans hbx
  exact ⟨(cell_of_row W _ 0 _ _ _ hx).trans rfl, (cell_of_row W _ 1 _ _ _ hx).trans rfl, (cell_of_row W _ 2 _ _ _ hx).trans rfl⟩
 have HW : Hid (∀ W, Below W0.heap.size W0 W → Below w.heap.size w W) := by
  show ∀ W, _
  intro W hb
  exact hb0.trans (hb.mono hb0.size)
 have HF : Hid (∀ W, Below W0.heap.size W0 W → Tab10 W ∧ AscTab W ∧ MaxLen W) := by
  show ∀ W, _
  intro W hb
  have h := hb0.trans (hb.mono hb0.size)
  exact ⟨ht.below h, ha.below h, hm.below h⟩
 have HCK := Lib.hid (bkCheck_any b _ _ _ W0 ((hB.below hb0 (Nat.le_refl _)).baseN hb0.size) (hm.below hb0) (ht.below hb0))
 have HRR := Lib.hid hrow1
 have HZR := Lib.hid hrow2
 have HLR := Lib.hid hrow3
 have HER := Lib.hid hB.e
 have HZS := Lib.hid hB.zs
 have HLS := Lib.hid hB.ls
 have HEW := Lib.hid eW
 have HEB := Lib.hid eb0
 obtain ⟨g0, g1, g2⟩ := HBX.out W0 (Below.refl _ _)
 clear eW hbx hb0 ht ha hm hrow1 hrow2 hrow3 hB
 by_cases hC : bkChk b = 0
 case neg =>
  rw [if_neg hC]
  obtain ⟨C, eC⟩ : ∃ C, bkChk b = C := ⟨_, rfl⟩
  rw [eC] at hC HCK ⊢
  have hz : (C == 0) = false := by simpa using hC
  have hzn : (C != 0) = true := by simpa using hC
  clear hC eC eb0
  go_enter Tryz.func9, Tryz.ntmps9
  go_upto_region 1 with fail
  rw [HEW.out, HEB.out]
  go_wp2_with fail
  refine HCK.out.mono ?_
  rintro e w1 ⟨rfl, hb1⟩
  have HB1 := Lib.hid (HW.out _ hb1)
  clear hb1
  go_wp2_with fail
  go_ret2
  exact ⟨rfl, HB1.out⟩
 rw [if_pos hC, hC]
 rw [hC] at HCK
 have HCC := Lib.hid hC
 obtain ⟨hl1, hoks⟩ := bk_rules hC
 have HOKS := Lib.hid hoks
 clear hC hoks eb0
 go_enter Tryz.func9, Tryz.ntmps9
 go_upto_region 1 with fail
 rw [HEW.out, HEB.out]
 go_wp2_with fail
 refine HCK.out.mono ?_
 rintro e w1 ⟨rfl, hb1⟩
 have HB1 := Lib.hid hb1
 obtain ⟨k0, k1, k2⟩ := HBX.out w1 hb1
 have hl2 : b0 < w1.heap.size := by have := hb1.size; omega
 have HL2 := Lib.hid hl2
 obtain ⟨i1, hi1, hz10, hz11, hz12⟩ := info_parts infoStrT
 clear hb1 g0 g1 g2 HCK
 go_wp2_with fail
 go_loopw [5, 24] (fun v5 i wr => ∃ k : Nat, k ≤ b.rules.length ∧ i = .int .i64 k ∧ Hid (OutS w1.heap.size w1 wr v5 (rulesUp b k))) (fun _ i _ => b.rules.length - (intOf i).toNat)
 case atStart => exact ⟨0, Nat.zero_le _, rfl, Lib.hid ⟨⟨rfl, .inl ⟨rfl, rfl⟩⟩, Below.refl _ _, Nat.le_refl _⟩⟩
 case round =>
  obtain ⟨k, hk, rfl, HO⟩ := hrel
  have hzr := HO.out.z
  by_cases hlt : k < b.rules.length
  ·obtain ⟨bb, o, rfl, hbl, hcs⟩ := HRR.out (List.ne_nil_of_length_pos (by omega))
   have hck := hcs k hlt
   have hbw : Below w.heap.size w wr := HW.out wr (HB1.out.trans (HO.out.b.mono HB1.out.size))
   have up : ∀ j u, w.cell? ⟨bb, o + k * 11 + j, none⟩ = some u → wr.cell? ⟨bb, o + k * 11 + j, none⟩ = some u := fun j u h => (hbw.cell (p := ⟨bb, o + k * 11 + j, none⟩) hbl).trans h
   have HS := Lib.hid (rulesUp_s b k hlt)
   have HCL := Lib.hid (fun W (h : Below w1.heap.size w1 W) => ruText_ok b.rules[k] W (HOKS.out _ (List.getElem_mem hlt)) (HF.out W (HB1.out.trans (h.mono HB1.out.size))).1 (HF.out W (HB1.out.trans (h.mono HB1.out.size))).2.1)
   have hul : (rulesUp b k).length = k := by unfold rulesUp; simp; omega
   obtain ⟨q, eq⟩ : ∃ q, b.rules[k] = q := ⟨_, rfl⟩
   rw [eq] at hck HS HCL
   obtain ⟨U, eU⟩ : ∃ U, rulesUp b k = U := ⟨_, rfl⟩
   rw [eU] at HO HS hul
   obtain ⟨T, eT⟩ : ∃ T, ruText q = T := ⟨_, rfl⟩
   rw [eT] at HS HCL
   have HUL := Lib.hid hul
   clear eq eU eT hcs hul
   obtain ⟨nm, yf, yt, mo, dk, dw, dn, tm, ck, sv', lt⟩ := q
   have z0 := up 0 _ (hck 0 _ rfl)
   have z1 := up 1 _ (hck 1 _ rfl)
   have z2 := up 2 _ (hck 2 _ rfl)
   have z3 := up 3 _ (hck 3 _ rfl)
   have z4 := up 4 _ (hck 4 _ rfl)
   have z5 := up 5 _ (hck 5 _ rfl)
   have z6 := up 6 _ (hck 6 _ rfl)
   have z7 := up 7 _ (hck 7 _ rfl)
   have z8 := up 8 _ (hck 8 _ rfl)
   have z9 := up 9 _ (hck 9 _ rfl)
   have z10 := up 10 _ (hck 10 _ rfl)
   clear up hck hbw
   rw [Nat.add_zero] at z0
   obtain ⟨A5, a5, rfl⟩ := own_sliceN HO.out.row
   change Hid (∀ W, Below w1.heap.size w1 W → Calls _ _ #[.agg #[.string nm, .int .i64 yf, .int .i64 yt, .int .i64 mo, .int .i64 dk, .int .i64 dw, .int .i64 dn, .int .i64 tm, .int .i64 ck, .int .i64 sv', .string lt]] W _) at HCL
   go_wp2_with fail
   refine (HCL.out _ (HO.out.alloc _).b).mono ?_
   rintro e w3 ⟨rfl, hb3⟩
   have HO3 := Lib.hid ((HO.out.alloc _).below hb3)
   have HNEW := Lib.hid (World.news_of_block (cs := #[.string (txt T)]) (t := 9) (fr := (0, 0)) (heap_alloc_new w3 (.cells #[.string (txt T)] 9)))
   have HRO2 := Lib.hid (World.ownsRow.alloc HO3.out.row (.cells #[.string (txt T)] 9))
   have HML : U.length + 1 ≤ maxLen := by have := HUL.out; simp only [maxLen]; omega
   have HMB : (U.length + 1) * 16 ≤ 140737488355328 := by have := HUL.out; omega
   have HSZ : w1.heap.size ≤ (w3.alloc (.cells #[.string (txt T)] 9)).heap.size := by have := HO3.out.z; simp; omega
   clear hb3 HCL z0 z1 z2 z3 z4 z5 z6 z7 z8 z9 z10
   go_wp2_with (at_builtin; refine wpList_append_own _ rfl _ _ 83 rfl w1.heap.size 9 i1 (.string ⟨#[]⟩) 1 16 undStrT hi1 hz10 hz11 hz12 rfl (by decide) _ _ _ rfl HRO2.out ⟨w3.heap.size, 0, none⟩ 1 1 [.string (txt T)] rfl rfl HNEW.out (by simp [Value.oneCell']) HML HMB HSZ ?_; intro v' w10 hown10 hgrow10 _)
   have HO10 := Lib.hid (HO3.out.snoc hown10 hgrow10)
   go_roundw
   case rel => exact ⟨k + 1, by omega, by go_num, by rw [HS.out]; exact HO10⟩
   case measure => simp [intOf]; omega
  ·obtain rfl : k = b.rules.length := by omega
   rw [rulesUp_d] at HO
   obtain ⟨y0, y1, y2⟩ := HBX.out wr (HB1.out.trans (HO.out.b.mono HB1.out.size))
   have hl3 : b0 < wr.heap.size := by have := HL2.out; omega
   clear k0 k1 k2
   go_wp2_with fail
   go_loopw [5, 41] (fun v5 i wr => ∃ k : Nat, k ≤ b.zones.length ∧ i = .int .i64 k ∧ Hid (OutS w1.heap.size w1 wr v5 (zonesUp b k))) (fun _ i _ => b.zones.length - (intOf i).toNat)
   case atStart => exact ⟨0, Nat.zero_le _, rfl, HO⟩
   case round =>
    clear y0 y1 y2 hl3 hzr HO
    obtain ⟨k, hk, rfl, HO⟩ := hrel
    have hzr := HO.out.z
    by_cases hlt : k < b.zones.length
    ·obtain ⟨bb, o, rfl, hbl, hcs⟩ := HZR.out (List.ne_nil_of_length_pos (by omega))
     have hck := hcs k hlt
     have hbw : Below w.heap.size w wr := HW.out wr (HB1.out.trans (HO.out.b.mono HB1.out.size))
     have up : ∀ j u, w.cell? ⟨bb, o + k * 2 + j, none⟩ = some u → wr.cell? ⟨bb, o + k * 2 + j, none⟩ = some u := fun j u h => (hbw.cell (p := ⟨bb, o + k * 2 + j, none⟩) hbl).trans h
     have z0 := up 0 _ (hck 0 _ rfl)
     have z1 := up 1 _ (hck 1 _ rfl)
     rw [Nat.add_zero] at z0
     have hmem := List.getElem_mem hlt
     have hev := HER.out _ hmem
     have HZO := Lib.hid (bk_zone HCC.out k hlt)
     have HS := Lib.hid (zonesUp_s b k hlt)
     have hnl := (HZS.out _ hmem).1
     have HUL := Lib.hid (zonesUp_len HCC.out k)
     have HEP := Lib.hid (fun j (hj : j < b.zones[k].eras.length) => er_P (k := j) HOKS.out ((firstE_zero _ _).1 (HZO.out).er j (List.mem_range.2 hj)))
     obtain ⟨q, eq⟩ : ∃ q, b.zones[k] = q := ⟨_, rfl⟩
     rw [eq] at z0 z1 hev HZO HS hnl HEP
     obtain ⟨U, eU⟩ : ∃ U, zonesUp b k = U := ⟨_, rfl⟩
     rw [eU] at HO HS HUL
     clear eq eU hcs hck up hmem
     obtain ⟨nm, ev, es⟩ := q
     obtain ⟨pe, ce, ezv, hlene, hrowe⟩ := hev
     change ev = .slice pe es.length ce at ezv
     subst ezv
     change Hid (zonesUp b (k + 1) = (U ++ [zoH nm]) ++ erasUp es es.length) at HS
     change es.length ≤ 140737488351232 ∧ es.length ≤ ce at hlene
     change nm.size ≤ 140737488351232 at hnl
     have hel : es.length ≤ 700 := HZO.out.le
     have a1 : ∀ W, (Op.stringOp .add (⟨#[122, 111, 110, 101, 32]⟩ : ByteArray) nm).run Tryz.prog W = .ok (.string (txt (zoH nm))) W := fun W => add_txt [122, 111, 110, 101, 32] nm.data.toList (by rw [← Lib.size_eq]; show 5 + nm.size ≤ _; omega) W
     have HRE := Lib.hid hrowe
     obtain ⟨T, eT⟩ : ∃ T, zoH nm = T := ⟨_, rfl⟩
     rw [eT] at a1 HS
     obtain ⟨A5, a5, rfl⟩ := own_sliceN HO.out.row
     obtain ⟨W2, e2⟩ : ∃ W2, wr.alloc (.cells #[.string nm, .slice pe es.length ce] 46) = W2 := ⟨_, rfl⟩
     obtain ⟨zb, ezb⟩ : ∃ zb, wr.heap.size = zb := ⟨_, rfl⟩
     have hx2 : W2.heap[zb]? = some (.cells #[.string nm, .slice pe es.length ce] 46 (0, 0)) := by rw [← e2]; exact alloc_at _ _ _ ezb.symm
     have hl4 : zb < W2.heap.size := (Array.getElem?_eq_some_iff.mp hx2).1
     have HO2 : Hid (OutS w1.heap.size w1 W2 (.slice A5 U.length a5) U) := by
      show OutS _ _ _ _ _
      rw [← e2]; exact HO.out.alloc _
     have HX2 := Lib.hid hx2
     have HE2 := Lib.hid e2
     have HEZ := Lib.hid ezb
     have x0 : W2.cell? ⟨zb, 0, none⟩ = some (.string nm) := (cell_of_row W2 _ 0 _ _ _ hx2).trans rfl
     have HNEW := Lib.hid (World.news_of_block (cs := #[.string (txt T)]) (t := 9) (fr := (0, 0)) (heap_alloc_new W2 (.cells #[.string (txt T)] 9)))
     have HRO2 := Lib.hid (World.ownsRow.alloc HO2.out.row (.cells #[.string (txt T)] 9))
     have HML : U.length + 1 ≤ maxLen := by have := HUL.out; simp only [maxLen]; omega
     have HMB : (U.length + 1) * 16 ≤ 140737488355328 := by have := HUL.out; omega
     have HSZ : w1.heap.size ≤ (W2.alloc (.cells #[.string (txt T)] 9)).heap.size := by have := HO2.out.z; simp; omega
     have KG : Hid (∀ w10, (W2.alloc (.cells #[.string (txt T)] 9)).grownBy w10 (Value.slice A5 U.length a5).ownBlock → w10.heap[zb]? = some (.cells #[.string nm, .slice pe es.length ce] 46 (0, 0)) ∧ w10.cell? ⟨zb, 1, none⟩ = some (.slice pe es.length ce) ∧ zb < w10.heap.size) := by
      show ∀ w10, _
      intro w10 hg
      have h := HO2.out.box HX2.out (by decide) hg
      exact ⟨h, (cell_of_row w10 _ 1 _ _ _ h).trans rfl, (Array.getElem?_eq_some_iff.mp h).1⟩
     clear e2 ezb hx2 hrowe eT hbw hzr
     go_upto_region 14 with fail
     rw [HE2.out, HEZ.out]
     go_wp2_with (at_builtin; refine wpList_append_own _ rfl _ _ 83 rfl w1.heap.size 9 i1 (.string ⟨#[]⟩) 1 16 undStrT hi1 hz10 hz11 hz12 rfl (by decide) _ _ _ rfl HRO2.out ⟨W2.heap.size, 0, none⟩ 1 1 [.string (txt T)] rfl rfl HNEW.out (by simp [Value.oneCell']) HML HMB HSZ ?_; intro v' w10 hown10 hgrow10 _; obtain ⟨t0, t1, tl⟩ := KG.out _ hgrow10)
     have HO10 := Lib.hid (HO2.out.snoc hown10 hgrow10)
     have HT0 := Lib.hid t0
     clear hown10 hgrow10 t0 t1 tl z0 z1 x0 hl4 a1
     go_loopw [5, 54] (fun v5 i wr => ∃ j : Nat, j ≤ es.length ∧ i = .int .i64 j ∧ Hid (OutS w1.heap.size w1 wr v5 ((U ++ [T]) ++ erasUp es j)) ∧ Hid (wr.heap[zb]? = some (.cells #[.string nm, .slice pe es.length ce] 46 (0, 0)))) (fun _ i _ => es.length - (intOf i).toNat)
     case atStart =>
      refine ⟨0, Nat.zero_le _, rfl, ?_, HT0⟩
      show OutS _ _ _ _ ((U ++ [T]) ++ [])
      rw [List.append_nil]
      exact HO10.out
     case round =>
      obtain ⟨j, hj, rfl, HOe, HXe⟩ := hrel
      by_cases hjl : j < es.length
      ·obtain ⟨b2, o2, rfl, hb2, hce⟩ := HRE.out (List.ne_nil_of_length_pos (by omega))
       have hck := hce j hjl
       have hbw : Below w.heap.size w wr := HW.out wr (HB1.out.trans (HOe.out.b.mono HB1.out.size))
       have up : ∀ i u, w.cell? ⟨b2, o2 + j * 5 + i, none⟩ = some u → wr.cell? ⟨b2, o2 + j * 5 + i, none⟩ = some u := fun i u h => (hbw.cell (p := ⟨b2, o2 + j * 5 + i, none⟩) hb2).trans h
       have z0 := up 0 _ (hck 0 _ rfl)
       have z1 := up 1 _ (hck 1 _ rfl)
       have z2 := up 2 _ (hck 2 _ rfl)
       have z3 := up 3 _ (hck 3 _ rfl)
       have z4 := up 4 _ (hck 4 _ rfl)
       rw [Nat.add_zero] at z0
       have hep := HEP.out j hjl
       rw [eraAt_inT _ _ hjl] at hep
       have hes := erasUp_s es j
       rw [eraAt_inT _ _ hjl] at hes
       have HCL := Lib.hid (fun W (h : Below w1.heap.size w1 W) => eraText_any es[j] (decide (j + 1 = es.length)) W hep.1 (HF.out W (HB1.out.trans (h.mono HB1.out.size))).1)
       have HEL := Lib.hid (erasUp_len es j)
       obtain ⟨V, eV⟩ : ∃ V, erasUp es j = V := ⟨_, rfl⟩
       rw [eV] at HOe hes HEL
       have HLN := Lib.hid (show ((U ++ [T]) ++ V).length ≤ 15000 + 1 + 700 by have := HUL.out; have := HEL.out; rw [List.length_append, List.length_append]; show _ + 1 + _ ≤ _; omega)
       obtain ⟨Y, eY⟩ : ∃ Y, (U ++ [T]) ++ V = Y := ⟨_, rfl⟩
       rw [eY] at HOe HLN
       have HEY := Lib.hid eY
       obtain ⟨last, elast⟩ : ∃ last, decide (j + 1 = es.length) = last := ⟨_, rfl⟩
       rw [elast] at hes HCL
       have hle : ((j : Int) == (es.length : Int) - 1) = last := by
        rw [← elast]
        by_cases g : j + 1 = es.length
        ·rw [decide_eq_true g]; simp; omega
        ·rw [decide_eq_false g]; simp; omega
       have hle2 : decide ((j : Int) = (es.length : Int) - 1) = last := by rw [← hle]; rfl
       have hw1 : wrap64 ((es.length : Int) - 1) = (es.length : Int) - 1 := by unfold wrap64; omega
       obtain ⟨x, ex⟩ : ∃ x, es[j] = x := ⟨_, rfl⟩
       rw [ex] at z0 z1 z2 z3 z4 HCL hes
       obtain ⟨S, eS⟩ : ∃ S, eraT x last = S := ⟨_, rfl⟩
       rw [eS] at HCL hes
       have HES := Lib.hid hes
       clear hes eV elast ex eS hce hck up hep hbw eY
       obtain ⟨off, ru, sv, fm, un⟩ := x
       obtain ⟨W3, e3⟩ : ∃ W3, wr.alloc (.cells #[.int .i64 off, .string ru, .int .i64 sv, .string fm, .int .i64 un] 43) = W3 := ⟨_, rfl⟩
       obtain ⟨eb, eeb⟩ : ∃ eb, wr.heap.size = eb := ⟨_, rfl⟩
       have hx3 : W3.heap[eb]? = some (.cells #[.int .i64 off, .string ru, .int .i64 sv, .string fm, .int .i64 un] 43 (0, 0)) := by rw [← e3]; exact alloc_at _ _ _ eeb.symm
       obtain ⟨A6, a6, eA6⟩ := own_sliceN HOe.out.row
       subst eA6
       have hoe3 : OutS w1.heap.size w1 W3 (.slice A6 Y.length a6) Y := by rw [← e3]; exact HOe.out.alloc _
       have hxe3 : W3.heap[zb]? = some (.cells #[.string nm, .slice (some ⟨b2, o2, none⟩) es.length ce] 46 (0, 0)) := by rw [← e3]; exact (Below.heap_alloc wr _ zb (Array.getElem?_eq_some_iff.mp HXe.out).1).trans HXe.out
       have x0 : W3.cell? ⟨eb, 0, none⟩ = some (.int .i64 off) := (cell_of_row W3 _ 0 _ _ _ hx3).trans rfl
       have x1 : W3.cell? ⟨eb, 1, none⟩ = some (.string ru) := (cell_of_row W3 _ 1 _ _ _ hx3).trans rfl
       have x2 : W3.cell? ⟨eb, 2, none⟩ = some (.int .i64 sv) := (cell_of_row W3 _ 2 _ _ _ hx3).trans rfl
       have x3 : W3.cell? ⟨eb, 3, none⟩ = some (.string fm) := (cell_of_row W3 _ 3 _ _ _ hx3).trans rfl
       have x4 : W3.cell? ⟨eb, 4, none⟩ = some (.int .i64 un) := (cell_of_row W3 _ 4 _ _ _ hx3).trans rfl
       have x5 : W3.cell? ⟨zb, 1, none⟩ = some (.slice (some ⟨b2, o2, none⟩) es.length ce) := (cell_of_row W3 _ 1 _ _ _ hxe3).trans rfl
       have HE3 := Lib.hid e3
       have HEE := Lib.hid eeb
       have HO3 := Lib.hid hoe3
       have HX3 := Lib.hid hxe3
       have hl5 : eb < W3.heap.size := (Array.getElem?_eq_some_iff.mp hx3).1
       have hl6 : zb < W3.heap.size := (Array.getElem?_eq_some_iff.mp hxe3).1
       clear e3 eeb hoe3 hxe3 hx3
       change Hid (∀ W, Below w1.heap.size w1 W → Calls _ _ #[.agg #[.int .i64 off, .string ru, .int .i64 sv, .string fm, .int .i64 un], .bool last] W _) at HCL
       go_upto_region 18 with fail
       rw [HE3.out, HEE.out]
       go_wp2_with fail
       refine (HCL.out _ HO3.out.b).mono ?_
       rintro e w4 ⟨rfl, hb4⟩
       have HO4 := Lib.hid (HO3.out.below hb4)
       have HX4 := Lib.hid ((hb4.block zb hl6).trans HX3.out)
       have HNEW := Lib.hid (World.news_of_block (cs := #[.string (txt S)]) (t := 9) (fr := (0, 0)) (heap_alloc_new w4 (.cells #[.string (txt S)] 9)))
       have HRO2 := Lib.hid (World.ownsRow.alloc HO4.out.row (.cells #[.string (txt S)] 9))
       have HML : Y.length + 1 ≤ maxLen := by have := HLN.out; simp only [maxLen]; omega
       have HMB : (Y.length + 1) * 16 ≤ 140737488355328 := by have := HLN.out; omega
       have HSZ : w1.heap.size ≤ (w4.alloc (.cells #[.string (txt S)] 9)).heap.size := by have := HO4.out.z; simp; omega
       clear hb4 HCL z0 z1 z2 z3 z4 x0 x1 x2 x3 x4 x5 hl5 hl6 hw1 hle hle2
       go_wp2_with (at_builtin; refine wpList_append_own _ rfl _ _ 83 rfl w1.heap.size 9 i1 (.string ⟨#[]⟩) 1 16 undStrT hi1 hz10 hz11 hz12 rfl (by decide) _ _ _ rfl HRO2.out ⟨w4.heap.size, 0, none⟩ 1 1 [.string (txt S)] rfl rfl HNEW.out (by simp [Value.oneCell']) HML HMB HSZ ?_; intro v' w10 hown10 hgrow10 _)
       have HX10 := Lib.hid (HO4.out.box HX4.out (by decide) hgrow10)
       have HO10 := Lib.hid (HO4.out.snoc hown10 hgrow10)
       go_roundw
       case rel => exact ⟨j + 1, by omega, by go_num, by rw [HES.out, ← List.append_assoc, HEY.out]; exact HO10, HX10⟩
       case measure => simp [intOf]; omega
      ·obtain rfl : j = es.length := by omega
       go_wp2_with fail
       go_roundw
       case rel => exact ⟨k + 1, by omega, by go_num, by rw [HS.out]; exact HOe⟩
       case measure => simp [intOf]; omega
    ·obtain rfl : k = b.zones.length := by omega
     rw [zonesUp_d] at HO
     obtain ⟨y0, y1, y2⟩ := HBX.out wr (HB1.out.trans (HO.out.b.mono HB1.out.size))
     have hl3 : b0 < wr.heap.size := by have := HL2.out; omega
     go_wp2_with fail
     go_loopw [5, 75] (fun v5 i wr => ∃ k : Nat, k ≤ b.links.length ∧ i = .int .i64 k ∧ Hid (OutS w1.heap.size w1 wr v5 (linksUp b k))) (fun _ i _ => b.links.length - (intOf i).toNat)
     case atStart => exact ⟨0, Nat.zero_le _, rfl, HO⟩
     case round =>
      clear y0 y1 y2 hl3 hzr HO
      obtain ⟨k, hk, rfl, HO⟩ := hrel
      have hzr := HO.out.z
      by_cases hlt : k < b.links.length
      ·obtain ⟨bb, o, rfl, hbl, hcs⟩ := HLR.out (List.ne_nil_of_length_pos (by omega))
       have hck := hcs k hlt
       have hbw : Below w.heap.size w wr := HW.out wr (HB1.out.trans (HO.out.b.mono HB1.out.size))
       have up : ∀ j u, w.cell? ⟨bb, o + k * 2 + j, none⟩ = some u → wr.cell? ⟨bb, o + k * 2 + j, none⟩ = some u := fun j u h => (hbw.cell (p := ⟨bb, o + k * 2 + j, none⟩) hbl).trans h
       have z0 := up 0 _ (hck 0 _ rfl)
       have z1 := up 1 _ (hck 1 _ rfl)
       rw [Nat.add_zero] at z0
       have hmem := List.getElem_mem hlt
       have HS := Lib.hid (linksUp_s b k hlt)
       obtain ⟨hn1, hn2⟩ := HLS.out _ hmem
       have HUL := Lib.hid (linksUp_len HCC.out k)
       obtain ⟨q, eq⟩ : ∃ q, b.links[k] = q := ⟨_, rfl⟩
       rw [eq] at z0 z1 HS hn1 hn2
       obtain ⟨U, eU⟩ : ∃ U, linksUp b k = U := ⟨_, rfl⟩
       rw [eU] at HO HS HUL
       clear eq eU hcs hck up hmem hbw
       obtain ⟨nm, tg⟩ := q
       change nm.size ≤ 140737488351232 at hn1
       change tg.size ≤ 140737488351232 at hn2
       have e1 : nm.data.toList.length = nm.size := (Lib.size_eq nm).symm
       have e2 : tg.data.toList.length = tg.size := (Lib.size_eq tg).symm
       have a1 : ∀ W, (Op.stringOp .add (⟨#[108, 105, 110, 107, 32]⟩ : ByteArray) nm).run Tryz.prog W = .ok (.string (txt ([108, 105, 110, 107, 32] ++ nm.data.toList))) W := fun W => add_txt [108, 105, 110, 107, 32] nm.data.toList (by rw [e1]; show 5 + nm.size ≤ _; omega) W
       have a2 : ∀ W, (Op.stringOp .add (txt ([108, 105, 110, 107, 32] ++ nm.data.toList)) (⟨#[32]⟩ : ByteArray)).run Tryz.prog W = .ok (.string (txt (([108, 105, 110, 107, 32] ++ nm.data.toList) ++ [32]))) W := fun W => add_txt _ [32] (by rw [List.length_append, e1]; show 5 + nm.size + 1 ≤ _; omega) W
       have a3 : ∀ W, (Op.stringOp .add (txt (([108, 105, 110, 107, 32] ++ nm.data.toList) ++ [32])) tg).run Tryz.prog W = .ok (.string (txt (lkL ⟨nm, tg⟩))) W := fun W => add_txt _ tg.data.toList (by rw [List.length_append, List.length_append, e1, e2]; show 5 + nm.size + 1 + tg.size ≤ _; omega) W
       obtain ⟨T, eT⟩ : ∃ T, lkL ⟨nm, tg⟩ = T := ⟨_, rfl⟩
       rw [eT] at a3 HS
       obtain ⟨T2, eT2⟩ : ∃ T, ([108, 105, 110, 107, 32] ++ nm.data.toList) ++ [32] = T := ⟨_, rfl⟩
       rw [eT2] at a2 a3
       obtain ⟨T1, eT1⟩ : ∃ T, [108, 105, 110, 107, 32] ++ nm.data.toList = T := ⟨_, rfl⟩
       rw [eT1] at a1 a2
       obtain ⟨A5, a5, rfl⟩ := own_sliceN HO.out.row
       obtain ⟨W2, ew2⟩ : ∃ W2, wr.alloc (.cells #[.string nm, .string tg] 91) = W2 := ⟨_, rfl⟩
       obtain ⟨zb, ezb⟩ : ∃ zb, wr.heap.size = zb := ⟨_, rfl⟩
       have hx2 : W2.heap[zb]? = some (.cells #[.string nm, .string tg] 91 (0, 0)) := by rw [← ew2]; exact alloc_at _ _ _ ezb.symm
       have hl4 : zb < W2.heap.size := (Array.getElem?_eq_some_iff.mp hx2).1
       have HO2 : Hid (OutS w1.heap.size w1 W2 (.slice A5 U.length a5) U) := by
        show OutS _ _ _ _ _
        rw [← ew2]; exact HO.out.alloc _
       have HE2 := Lib.hid ew2
       have HEZ := Lib.hid ezb
       have x0 : W2.cell? ⟨zb, 0, none⟩ = some (.string nm) := (cell_of_row W2 _ 0 _ _ _ hx2).trans rfl
       have x1 : W2.cell? ⟨zb, 1, none⟩ = some (.string tg) := (cell_of_row W2 _ 1 _ _ _ hx2).trans rfl
       have HNEW := Lib.hid (World.news_of_block (cs := #[.string (txt T)]) (t := 9) (fr := (0, 0)) (heap_alloc_new W2 (.cells #[.string (txt T)] 9)))
       have HRO2 := Lib.hid (World.ownsRow.alloc HO2.out.row (.cells #[.string (txt T)] 9))
       have HML : U.length + 1 ≤ maxLen := by have := HUL.out; simp only [maxLen]; omega
       have HMB : (U.length + 1) * 16 ≤ 140737488355328 := by have := HUL.out; omega
       have HSZ : w1.heap.size ≤ (W2.alloc (.cells #[.string (txt T)] 9)).heap.size := by have := HO2.out.z; simp; omega
       clear ew2 ezb hx2 eT eT1 eT2 hzr e1 e2 hn1 hn2
       go_upto_region 24 with fail
       rw [HE2.out, HEZ.out]
       go_wp2_with (at_builtin; refine wpList_append_own _ rfl _ _ 83 rfl w1.heap.size 9 i1 (.string ⟨#[]⟩) 1 16 undStrT hi1 hz10 hz11 hz12 rfl (by decide) _ _ _ rfl HRO2.out ⟨W2.heap.size, 0, none⟩ 1 1 [.string (txt T)] rfl rfl HNEW.out (by simp [Value.oneCell']) HML HMB HSZ ?_; intro v' w10 hown10 hgrow10 _)
       have HO10 := Lib.hid (HO2.out.snoc hown10 hgrow10)
       go_roundw
       case rel => exact ⟨k + 1, by omega, by go_num, by rw [HS.out]; exact HO10⟩
       case measure => simp [intOf]; omega
      ·obtain rfl : k = b.links.length := by omega
       rw [linksUp_d] at HO
       have HJ := Lib.hid (join_out HO.out (by have := bkLs_len HCC.out; omega) (bkText_len HCC.out))
       go_wp2_with fail
       refine HJ.out.mono ?_
       rintro e w9 ⟨rfl, hb9⟩
       have HFN := Lib.hid (HW.out w9 (HB1.out.trans ((HO.out.b.trans (hb9.mono HO.out.z)).mono HB1.out.size)))
       clear hb9 HJ
       go_wp2_with fail
       go_ret2
       exact ⟨rfl, HFN.out⟩
end Go.Proofs.YtomahddiclkepaaGreatDoor
namespace Go.Proofs.YtomahddiclkepaaGreatDoor
open Go.RowKit Go.Joins
open Classical
set_option linter.unusedVariables false
set_option linter.unusedSimpArgs false
def chk2 (a b : Tab) : Int := if chk a = 0 then chk b else chk a
set_option maxHeartbeats 1000000 in
theorem ncheck_any (a b : Tab) (v u : Value) (w : World) (hv : TabAt w v a) (hu : TabAt w u b) :
  Calls Tryz.prog 67 #[v, u] w fun e w' => e = .returned (.int .i64 (chk2 a b)) ∧ Below w.heap.size w w' := by
 have HV := Lib.hid hv
 have HU := Lib.hid hu
 obtain ⟨p1, c1, p2, c2, rfl⟩ := tabForms hv
 obtain ⟨p3, c3, p4, c4, rfl⟩ := tabForms hu
 have HK := Lib.hid (fun W h => Check_any a (.agg #[.slice p1 a.types.length c1, .int .i64 a.first, .slice p2 a.chs.length c2]) W h)
 have HL := Lib.hid (fun W h => Check_any b (.agg #[.slice p3 b.types.length c3, .int .i64 b.first, .slice p4 b.chs.length c4]) W h)
 have hC : Hid (chk2 a b = if chk a = 0 then chk b else chk a) := rfl
 obtain ⟨K, eK⟩ : ∃ K, chk a = K := ⟨_, rfl⟩
 rw [eK] at HK hC
 clear hv hu eK
 go_enter Tryz.func67, Tryz.ntmps67
 go_wp2_with fail
 obtain ⟨W0, eW⟩ : ∃ W0, (w.alloc (.cells #[.slice p1 a.types.length c1, .int .i64 a.first, .slice p2 a.chs.length c2] 58)).alloc (.cells #[.slice p3 b.types.length c3, .int .i64 b.first, .slice p4 b.chs.length c4] 58) = W0 := ⟨_, rfl⟩
 rw [eW]
 have hW0 : W0.heap.size = w.heap.size + 2 := by rw [← eW]; simp
 have hbW : Below w.heap.size w W0 := by rw [← eW]; exact ((Below.refl _ _).alloc (Nat.le_refl _) _).alloc (by simp) _
 have hR : W0.heap[w.heap.size + 1]? = some (.cells #[.slice p3 b.types.length c3, .int .i64 b.first, .slice p4 b.chs.length c4] 58 (0, 0)) := by
  rw [← eW]
  have := heap_alloc_new (w.alloc (.cells #[.slice p1 a.types.length c1, .int .i64 a.first, .slice p2 a.chs.length c2] 58)) (.cells #[.slice p3 b.types.length c3, .int .i64 b.first, .slice p4 b.chs.length c4] 58)
  simpa using this
 clear eW
 refine (HK.out _ (HV.out.below hbW)).mono ?_
 rintro e w2 ⟨rfl, hb1⟩
 have hR2 := (hb1.block (w.heap.size + 1) (by omega)).trans hR
 have b2 := hbW.trans (hb1.mono (by omega))
 have x0 : w2.cell? ⟨w.heap.size + 1, 0, none⟩ = some (.slice p3 b.types.length c3) := (cell_of_row w2 _ 0 _ _ _ hR2).trans rfl
 have x1 : w2.cell? ⟨w.heap.size + 1, 1, none⟩ = some (.int .i64 b.first) := (cell_of_row w2 _ 1 _ _ _ hR2).trans rfl
 have x2 : w2.cell? ⟨w.heap.size + 1, 2, none⟩ = some (.slice p4 b.chs.length c4) := (cell_of_row w2 _ 2 _ _ _ hR2).trans rfl
 clear hb1 hR hbW
 by_cases hK : K = 0
 ·subst hK
  go_wp2_with fail
  refine (HL.out _ (HU.out.below b2)).mono ?_
  rintro e w3 ⟨rfl, hb3⟩
  go_wp2
  go_ret
  exact ⟨ret_int' (by rw [hC.out]; simp), b2.trans (hb3.mono b2.size)⟩
 ·have hne : (K == 0) = false := by simpa using hK
  have hC2 : Hid (chk2 a b = K) := by show _ = _; rw [hC.out, if_neg hK]
  clear hK
  go_wp2
  go_ret
  exact ⟨ret_int' hC2.out.symm, b2⟩
theorem isTime_any (x : Int) (w : World) : Calls Tryz.prog 68 #[.int .i64 x] w fun e w' => e = .returned (.bool (okTime x)) ∧ w = w' := by
 go_enter Tryz.func68, Tryz.ntmps68
 go_wp2
 all_goals (go_ret; refine ⟨ret_bool' ?_, rfl⟩; simp only [okTime]; simp; try omega)
theorem undChsB : Tryz.prog.underlying 56 = some (.slice 61) := by kernel_rfl
theorem undIntB : Tryz.prog.underlying 3 = some (.int .i64) := by kernel_rfl
theorem infoChB : (Tryz.prog.info? 61).map (fun i => (i.zero, i.size, i.bytes)) = some (some (.agg #[.int .i64 0, .int .i64 0]), 2, 16) := by kernel_rfl
set_option maxHeartbeats 4000000 in
set_option maxRecDepth 100000 in
theorem Grow_nil (n : Nat) (w : World) (hn : n ≤ 2000) :
  Calls Tryz.prog 116 #[.slice none 0 0, .int .i64 n] w fun e w' => ∃ v, e = .returned v ∧ w'.ownsRow w.heap.size 61 2 v 0 [] ∧ Below w.heap.size w w' := by
 obtain ⟨i0, hi0, hz0, hz1, hz2⟩ := info_parts infoChB
 by_cases h0 : n = 0
 ·subst h0
  go_enter Tryz.func116, Tryz.ntmps116
  go_wp2
  go_ret
  exact ⟨_, rfl, World.ownsRow_nil _ _ _ _, Below.refl _ _⟩
 ·have h1 : ¬ ((n : Int) < 0) := by omega
  have h3 : wrap64 (n : Int) = (n : Int) := by unfold wrap64; omega
  have h4 : (0 : Int) < (n : Int) := by omega
  have hold : (Builtin.firstCells i0.size 0 (.slice none 0 0)).run Tryz.prog w.drew = .ok ([] : List Value).toArray w.drew := run_firstCells_none w.drew i0.size 0 0 0
  have hrz : ∀ ty, (Builtin.append_ #[56, 3] ty #[.slice none 0 0, .int .i64 (n : Int)]).run Tryz.prog w = _ := fun ty =>
   Lib.run_append_grow_zeros w 56 3 ty 61 i0 (.agg #[.int .i64 0, .int .i64 0]) .i64 .i64 undChsB undIntB hi0 hz0 none 0 0 [] hold n (by omega) (by omega) (by omega) (by omega) (by rw [hz2]; omega)
    (by rw [Nat.zero_add]; exact growslice_fits (by omega) (by rw [hz2]; omega))
  rw [Nat.zero_add] at hrz
  obtain ⟨G, hG⟩ : ∃ G, G = grownCap w n 0 61 := ⟨_, rfl⟩
  have hGn : n ≤ G := by rw [hG]; exact grownCap_ge w _ _ _
  have hGm : G ≤ maxLen := by rw [hG]; exact grownCap_le_maxLen w _ _ _ (by unfold maxLen; omega)
  rw [← hG] at hrz
  have hG63 : G ≤ 9223372036854775807 := by unfold maxLen at hGm; omega
  clear hold hG
  go_enter Tryz.func116, Tryz.ntmps116
  go_wp2_with (at_builtin; refine Lib.wpList_append_run _ rfl _ _ _ _ rfl _ _ rfl rfl _ _ (hrz _) ?_)
  go_ret
  refine ⟨_, rfl, ⟨rfl, .inr ⟨w.heap.size, G, _, rfl, Nat.le_refl _, heap_alloc_new w.drew _, Nat.zero_le _, hGm, ?_, rfl⟩⟩, (Below.refl _ w).drew.alloc (Nat.le_refl _) _⟩
  simp [size_zeroCells, Value.cells]
  omega
theorem chCells_len (l : List Ch) : (chCells l).length = l.length * 2 := by
 induction l with
 | nil => rfl
 | cons x r ih =>
  have e : chCells (x :: r) = chC x ++ chCells r := by simp [chCells]
  rw [e, List.length_append, ih]
  simp [chC]
  omega
theorem addr_add (b o j : Nat) : (⟨b, o, none⟩ : Addr).add j = ⟨b, o + j, none⟩ := by unfold Addr.add; split <;> simp_all
theorem chs_news {w : World} {b o : Nat} {l : List Ch} (hat : ∀ i (h : i < l.length), chAt w b (o + i * 2) l[i]) : ∀ j u, (chCells l)[j]? = some u → w.cell? ((⟨b, o, none⟩ : Addr).add j) = some u := by
 intro j u hu
 have hj : j < l.length * 2 := by
  rcases Nat.lt_or_ge j (l.length * 2) with h | h
  ·exact h
  ·rw [List.getElem?_eq_none (by rw [chCells_len]; exact h)] at hu; cases hu
 have hi : j / 2 < l.length := by omega
 obtain ⟨g0, g1⟩ := chCells_get l (j / 2) hi
 obtain ⟨a0, a1⟩ := hat (j / 2) hi
 rw [addr_add]
 rcases (show j = j / 2 * 2 ∨ j = j / 2 * 2 + 1 by omega) with e | e
 ·rw [← e] at g0 a0
  rw [g0] at hu
  injection hu with hu
  rw [a0, hu]
 ·rw [← e] at g1
  rw [show o + j / 2 * 2 + 1 = o + j by omega] at a1
  rw [g1] at hu
  injection hu with hu
  rw [a1, hu]
theorem chs_one (l : List Ch) : ∀ u ∈ chCells l, u.oneCell' = true := by
 intro u hu
 simp only [chCells, List.mem_flatMap, chC, List.mem_cons, List.not_mem_nil, or_false] at hu
 obtain ⟨x, -, rfl | rfl⟩ := hu <;> rfl
set_option maxRecDepth 100000 in
theorem wpList_append_chs (w : World) {ops : Array Oper} {rest : List Oper} {o : Oper} {a : Act} {Q : Exit → Act → World → Prop} (hgd : o.guard = none) (s x : Operand)
  (ho : o.op = .call { callee := .builtin .append, args := #[s, x], argTypes := #[56, 56] })
  (B : Nat) (v : Value) (l : List Ch) (hs : a.eval s = v) (hown : w.ownsRow B 61 2 v l.length (chCells l)) (vx : Value) (news : List Ch) (hx : a.eval x = vx) (hnews : SlCh w vx news)
  (h1 : l.length ≤ 2000) (h2 : news.length ≤ 2000) (hB : B ≤ w.heap.size)
  (h : ∀ v' w', w'.ownsRow B 61 2 v' (l ++ news).length (chCells (l ++ news)) → w.grownBy w' v.ownBlock → wpList Tryz.prog ops Q rest (a.put o.dst v') w') : wpList Tryz.prog ops Q (o :: rest) a w := by
 obtain ⟨i0, hi, hz0, hz1, hz2⟩ := info_parts infoChB
 obtain ⟨A, c, rfl, hat⟩ := hnews.shape
 have e : (l ++ news).length = l.length + news.length := List.length_append
 have ec : chCells (l ++ news) = chCells l ++ chCells news := by simp [chCells]
 have key : ∃ v' w', (Builtin.append_ #[56, 56] o.type #[v, .slice A news.length c]).run Tryz.prog w = .ok v' w' ∧ w'.ownsRow B 61 2 v' (l ++ news).length (chCells (l ++ news)) ∧ w.grownBy w' v.ownBlock := by
  cases A with
  | some ad =>
   have hn : ∀ j u, (chCells news)[j]? = some u → w.cell? (ad.add j) = some u := by
    intro j u hu
    by_cases hne : news = []
    ·subst hne; simp [chCells] at hu
    ·obtain ⟨b, off, e, hb, hc⟩ := hat hne
     injection e with e
     subst e
     exact chs_news hc j u hu
   obtain ⟨v', w', hr, k1, k2, _⟩ := run_append_own (P := Tryz.prog) w B 56 o.type 61 i0 (.agg #[.int .i64 0, .int .i64 0]) 2 16 undChsB hi hz0 hz1 hz2 rfl (by decide) v l.length (chCells l) hown ad news.length c (chCells news) (chCells_len _) hn (chs_one _) (by simp only [maxLen]; omega) (by omega) hB
   exact ⟨v', w', hr, by rw [e, ec]; exact k1, k2⟩
  | none =>
   have hn : news = [] := by
    cases news with
    | nil => rfl
    | cons y r =>
     obtain ⟨b, off, e, _⟩ := hat (by simp)
     cases e
   subst hn
   refine ⟨v, w, ?_, by rw [List.append_nil]; exact hown, ⟨rfl, rfl, rfl, Nat.le_refl _, fun _ _ _ => rfl⟩⟩
   rcases hown.2 with ⟨rfl, h0⟩ | ⟨g, cap, cur, rfl, _, _, hnc, _⟩
   ·simp [Builtin.append_, run_underlying undChsB, sizeOf, typeInfo, hi, Builtin.lenOf, Builtin.firstCells]
   ·simp [Builtin.append_, run_underlying undChsB, sizeOf, typeInfo, hi, Builtin.lenOf, Builtin.firstCells, hnc, storeCells]
 obtain ⟨v', w', hr, k1, k2⟩ := key
 refine wpList_plain hgd fun K hK => ?_
 unfold Oper.wp execOp
 simp only [ho, resolve, invoke, builtin, Sem.run_bind, Sem.run_pure, Result.andThen_ok, List.map_toArray, List.map_cons, List.map_nil, hs, hx, hr]
 exact hK _ _ (h v' w' k1 k2)
def two (A B : List Ch) : Nat → List Ch
 | 0 => []
 | 1 => A
 | _ => A ++ B
set_option maxHeartbeats 4000000 in
set_option maxRecDepth 100000 in
theorem Concat_any (A B : List Ch) (va vb : Value) (g c : Nat) (w : World) (ha : SlCh w va A) (hb : SlCh w vb B) (hA : A.length ≤ 1000) (hB : B.length ≤ 1000)
  (hc0 : w.cell? ⟨g, 0, none⟩ = some va) (hc1 : w.cell? ⟨g, 1, none⟩ = some vb) :
  Calls Tryz.prog 69 #[.slice (some ⟨g, 0, none⟩) 2 c] w fun e w' => ∃ v, e = .returned v ∧ w'.ownsRow w.heap.size 61 2 v (A ++ B).length (chCells (A ++ B)) ∧ Below w.heap.size w w' := by
 obtain ⟨i0, hi0, hz0, hz1, hz2⟩ := info_parts infoChB
 obtain ⟨⟨pa, ca, rfl, ha1⟩, -⟩ := ha
 obtain ⟨⟨pb, cb, rfl, hb1⟩, -⟩ := hb
 have hg := World.block_lt_of_cell? _ _ hc0
 have HA := Lib.hid ha1
 have HB := Lib.hid hb1
 clear ha1 hb1
 go_enter Tryz.func69, Tryz.ntmps69
 go_wp2_with fail
 go_loopw [3, 11] (fun s3 s11 wr => ∃ k : Nat, k ≤ 2 ∧ s11 = .int .i64 k ∧ s3 = .int .i64 (two A B k).length ∧ w = wr) (fun _ s11 _ => 2 - (intOf s11).toNat)
 case atStart => exact ⟨0, by omega, rfl, rfl, rfl⟩
 case round =>
  obtain ⟨k, hk, rfl, rfl, rfl⟩ := hrel
  rcases (show k = 0 ∨ k = 1 ∨ k = 2 by omega) with rfl | rfl | rfl
  ·have e0 : (two A B 0).length = 0 := rfl
   have h63 : wrap64 (A.length : Int) = (A.length : Int) := by unfold wrap64; omega
   have hneg : ¬ ((A.length : Int) < 0) := by omega
   rw [e0]
   clear e0
   go_wp2
   go_roundw
   case rel => exact ⟨1, by omega, rfl, by simp [two], trivial⟩
   case measure => simp [intOf]
  ·have e1 : (two A B 1).length = A.length := rfl
   have h63 : wrap64 ((A.length : Int) + (B.length : Int)) = (A.length : Int) + (B.length : Int) := by unfold wrap64; omega
   have hneg : ¬ ((A.length : Int) + (B.length : Int) < 0) := by omega
   rw [e1]
   clear e1
   go_wp2
   go_roundw
   case rel => exact ⟨2, by omega, rfl, by simp [two], trivial⟩
   case measure => simp [intOf]
  ·have e2 : (two A B 2).length = A.length + B.length := by simp [two]
   rw [e2]
   clear e2
   have HGR := Lib.hid (Grow_nil (A.length + B.length) w (by omega))
   have ecast : ((A.length + B.length : Nat) : Int) = (A.length : Int) + (B.length : Int) := Int.natCast_add _ _
   rw [ecast] at HGR ⊢
   clear ecast
   go_wp2_with fail
   refine HGR.out.mono ?_
   rintro e w1 ⟨v1, rfl, hown, hbel⟩
   have h1c0 := (hbel.cell (p := ⟨g, 0, none⟩) hg).trans hc0
   have h1c1 := (hbel.cell (p := ⟨g, 1, none⟩) hg).trans hc1
   have hg1 : g < w1.heap.size := Nat.lt_of_lt_of_le hg hbel.size
   have HO := Lib.hid hown
   have HBL := Lib.hid hbel
   clear hown hbel HGR
   go_wp2_with fail
   go_loopw [6, 27] (fun s6 s27 wr => ∃ k : Nat, k ≤ 2 ∧ s27 = .int .i64 k ∧ wr.ownsRow w.heap.size 61 2 s6 (two A B k).length (chCells (two A B k)) ∧ Below w.heap.size w wr) (fun _ s27 _ => 2 - (intOf s27).toNat)
   case atStart => exact ⟨0, by omega, rfl, HO.out, HBL.out⟩
   case round =>
    obtain ⟨k, hk, rfl, hown, hbel⟩ := hrel
    have c0 := (hbel.cell (p := ⟨g, 0, none⟩) hg).trans hc0
    have c1 := (hbel.cell (p := ⟨g, 1, none⟩) hg).trans hc1
    have hgr : g < wr.heap.size := Nat.lt_of_lt_of_le hg hbel.size
    have HOR := Lib.hid hown
    have HBR := Lib.hid hbel
    clear hown hbel
    have hbr := HBR.out
    have hsz := hbr.size
    have HSA := Lib.hid (SlCh.below (w := w) (w' := wr) (v := .slice pa A.length ca) (l := A) ⟨⟨_, _, rfl, HA.out⟩, by simp only [maxLen]; omega⟩ hbr)
    have HSB := Lib.hid (SlCh.below (w := w) (w' := wr) (v := .slice pb B.length cb) (l := B) ⟨⟨_, _, rfl, HB.out⟩, by simp only [maxLen]; omega⟩ hbr)
    have grown : Hid (∀ (l : List Ch), wr.ownsRow w.heap.size 61 2 u6 l.length (chCells l) → ∀ (w' : World), wr.grownBy w' u6.ownBlock → Below w.heap.size w w') := fun l hl w' hgr => HBR.out.grown hgr HBR.out.size fun q hq => (World.ownsRow.lt hl q hq).1
    clear hbr
    rcases (show k = 0 ∨ k = 1 ∨ k = 2 by omega) with rfl | rfl | rfl
    ·go_wp2_with (at_builtin; refine wpList_append_chs wr rfl _ _ rfl w.heap.size _ (two A B 0) rfl HOR.out _ A rfl HSA.out (by simp [two]) (by omega) hsz ?_; intro v' w2 hown2 hgrow2)
     go_roundw
     case rel => exact ⟨1, by omega, rfl, hown2, grown.out _ HOR.out _ hgrow2⟩
     case measure => simp [intOf]
    ·go_wp2_with (at_builtin; refine wpList_append_chs wr rfl _ _ rfl w.heap.size _ (two A B 1) rfl HOR.out _ B rfl HSB.out (by show A.length ≤ _; omega) (by omega) hsz ?_; intro v' w2 hown2 hgrow2)
     go_roundw
     case rel => exact ⟨2, by omega, rfl, hown2, grown.out _ HOR.out _ hgrow2⟩
     case measure => simp [intOf]
    ·go_wp2_with fail
     go_ret
     exact ⟨_, rfl, HOR.out, HBR.out⟩
theorem infoIntB : (Tryz.prog.info? 3).map (fun i => (i.zero, i.size, i.bytes)) = some (some (.int .i64 0), 1, 8) := by kernel_rfl
theorem infoSpB : (Tryz.prog.info? 68).map (fun i => (i.zero, i.size, i.bytes)) = some (some (.agg #[.int .i64 0, .int .i64 0]), 2, 16) := by kernel_rfl
theorem undSpsB : Tryz.prog.underlying 80 = some (.slice 68) := by kernel_rfl
theorem undIntsB : Tryz.prog.underlying 127 = some (.slice 3) := by kernel_rfl
def spV (p : Int × Int) : Value := .agg #[.int .i64 p.1, .int .i64 p.2]
def spC (p : Int × Int) : List Value := [.int .i64 p.1, .int .i64 p.2]
def spCells (l : List (Int × Int)) : List Value := l.flatMap spC
theorem ptsB_hit {l : List Ch} {c : Ch} {f t : Int} (h : inSB f t c = true) : ptsB (l ++ [c]) f t = ptsB l f t ++ [c.t] := by simp [ptsB, h]
theorem ptsB_miss {l : List Ch} {c : Ch} {f t : Int} (h : inSB f t c = false) : ptsB (l ++ [c]) f t = ptsB l f t := by simp [ptsB, h]
theorem chs_kept {W W' : World} {B B' : Nat} {v v' : Value} {n m : Nat} {xs ys : List Value} (h : W.ownsRow B 61 2 v n xs) (h' : W.ownsRow B' 3 1 v' m ys) (hg : W.grownBy W' v'.ownBlock) : W'.ownsRow B 61 2 v n xs :=
 own_keep h fun g e => hg.block g (World.ownsRow.lt h g e).2 fun e2 => by
  rcases own_apart h h' (by decide) with h3 | h3
  ·rw [e] at h3; cases h3
  ·exact h3 (e.trans e2)
theorem wrapN (k : Nat) (h : k ≤ 100000) : wrap64 (k : Int) = (k : Int) := by unfold wrap64; omega
theorem wrapN2 (k : Nat) (h : k ≤ 100000) : IntKind.i64.wrap (k : Int) = (k : Int) := by rw [IntKind.wrap_i64]; omega
theorem natlt1 {k M : Nat} (h : k + 1 < M) : (k : Int) + 1 < M ∧ (k : Int) < M := by omega
theorem nfacts {n k M : Nat} (h1 : n + 1 ≤ k) (h2 : k + 1 < M) (h3 : M ≤ 2002) : ((n : Int) + 1 - 1 = (n : Int)) ∧ wrap64 ((n : Int) + 1 - 1) = (n : Int) ∧ wrap64 (n : Int) = (n : Int) ∧ (n : Int) < (n : Int) + 1 ∧ n < n + 1 ∧ (0 : Int) ≤ (n : Int) := by
 have e : (n : Int) + 1 - 1 = (n : Int) := by omega
 exact ⟨e, by rw [e]; exact wrapN n (by omega), wrapN n (by omega), by omega, by omega, by omega⟩
theorem nlast (n : Nat) : n * 2 + 1 < (n + 1) * 2 := by omega
theorem nmax0 {n k M : Nat} (h1 : n + 1 ≤ k) (h2 : k + 1 < M) (h3 : M ≤ 2002) : n + 1 ≤ 100000 := by omega
theorem nmax1 {n : Nat} (h1 : n ≤ 100000) : n + 1 ≤ maxLen := by simp only [maxLen]; omega
theorem nmax2 {n : Nat} (h1 : n ≤ 100000) : (n + 1) * 16 ≤ 140737488355328 := by omega
theorem own_kept2 {W W' : World} {B B' : Nat} {e e' : TypeId} {sz sz' : Nat} {v v' : Value} {n m : Nat} {xs ys : List Value} (h : W.ownsRow B e sz v n xs) (h' : W.ownsRow B' e' sz' v' m ys) (hne : e ≠ e') (hg : W.grownBy W' v'.ownBlock) : W'.ownsRow B e sz v n xs :=
 own_keep h fun g e => hg.block g (World.ownsRow.lt h g e).2 fun e2 => by
  rcases own_apart h h' hne with h3 | h3
  ·rw [e] at h3; cases h3
  ·exact h3 (e.trans e2)
theorem spCells_len (l : List (Int × Int)) : (spCells l).length = l.length * 2 := by
 induction l with
 | nil => rfl
 | cons x r ih =>
  have e : spCells (x :: r) = spC x ++ spCells r := by simp [spCells]
  rw [e, List.length_append, ih]
  simp [spC]
  omega
theorem spCells_snoc (l : List (Int × Int)) (p : Int × Int) : spCells (l ++ [p]) = spCells l ++ [.int .i64 p.1, .int .i64 p.2] := by simp [spCells, spC]
theorem spCells_last (l : List (Int × Int)) (p : Int × Int) : (spCells (l ++ [p]))[l.length * 2 + 1]? = some (.int .i64 p.2) := by
 rw [spCells_snoc, List.getElem?_append_right (by rw [spCells_len]; omega), spCells_len]
 simp
theorem spCells_set (l : List (Int × Int)) (p : Int × Int) (y : Int) : (spCells (l ++ [p])).set (l.length * 2 + 1) (.int .i64 y) = spCells (l ++ [(p.1, y)]) := by
 rw [spCells_snoc, spCells_snoc, List.set_append_right _ _ (by rw [spCells_len]; omega), spCells_len]
 simp
theorem own_setAt {W : World} {B : Nat} {e : TypeId} {s n g cap : Nat} {xs : List Value} (h : W.ownsRow B e s (.slice (some ⟨g, 0, none⟩) n cap) n xs) (j : Nat) (hj : j < n * s) (u : Value) :
  (W.setCell ⟨g, j, none⟩ u).ownsRow B e s (.slice (some ⟨g, 0, none⟩) n cap) n (xs.set j u) := by
 obtain ⟨h1, h2⟩ := h
 rcases h2 with ⟨h2, _⟩ | ⟨g', cap', cur, e2, hb, hg, hnc, hcm, hcs, htake⟩
 ·cases h2
 ·simp only [Value.slice.injEq, Option.some.injEq, Addr.mk.injEq, and_true, true_and] at e2
  obtain ⟨rfl, rfl⟩ := e2
  refine ⟨by rw [List.length_set]; exact h1, .inr ⟨g, cap, cur.setIfInBounds j u, rfl, hb, heap_setCm hg u, hnc, hcm, by simpa using hcs, ?_⟩⟩
  rw [Array.toList_setIfInBounds, ← htake, List.take_set]
theorem stepB_none {eq : Int → Bool} {x y : Int} (h1 : x ≠ y) (h2 : eq x = false) : stepB eq [] x y = [(x, y)] := by
 unfold stepB
 rw [if_neg (by simp [h1, h2])]
 rfl
theorem stepB_join {eq : Int → Bool} {init : List (Int × Int)} {p : Int × Int} {x y : Int} (h1 : x ≠ y) (h2 : eq x = false) (h3 : p.2 = x) : stepB eq (init ++ [p]) x y = init ++ [(p.1, y)] := by
 unfold stepB
 rw [if_neg (by simp [h1, h2])]
 simp [h3]
theorem stepB_more {eq : Int → Bool} {init : List (Int × Int)} {p : Int × Int} {x y : Int} (h1 : x ≠ y) (h2 : eq x = false) (h3 : p.2 ≠ x) : stepB eq (init ++ [p]) x y = init ++ [p] ++ [(x, y)] := by
 unfold stepB
 rw [if_neg (by simp [h1, h2])]
 simp [h3]
def okSpan (f t : Int) : Bool := okTime f && okTime t && decide (f ≤ t)
set_option maxRecDepth 100000 in
set_option maxHeartbeats 4000000 in
theorem Bt_r1 (a b : Tab) (p1 p2 p3 p4 : Option Addr) (c1 c2 c3 c4 : Nat) (B n1 g M cap k : Nat) (L : List Int) (x y : Int) (O : List (Int × Int)) (vo : Value) (wr : World) (z0 z1 z2 z5 z6 z7 z8 z10 z11 z14 z15 z16 z17 z18 z19 z20 z21 z22 z23 z24 z25 z26 z27 z28 z29 z30 z31 z32 z33 z34 z35 z36 z37 z38 z39 z40 z41 z42 z43 z44 z45 z46 z47 z48 z49 z50 z51 z52 z53 z54 z55 z56 z57 z58 z59 z60 z61 z62 z63 z64 z65 z66 z67 z68 z69 z70 z71 z72 z73 z74 z75 z76 z77 z78 z79 z80 z81 z82 z83 z84 z85 z86 z87 z88 z89 z90 z91 z92 z93 z94 z95 z96 z97 z98 z99 z100 z101 z102 z103 z104 z105 z106 z107 z108 z109 z110 z111 z112 z113 z114 z115 z116 z117 z118 z119 z120 z121 z122 z123 z124 z125 z126 z127 z128 : Value) (K : Act → World → Prop) (Q0 : Exit → Act → World → Prop)
  (HA : Hid (chk a = 0)) (HB : Hid (chk b = 0)) (hB : B + 1 < n1) (hwr : n1 ≤ wr.heap.size)
  (HAT : Hid (wr.ownsRow n1 3 1 (.slice (some ⟨g, 0, none⟩) M cap) M (L.map (Value.int .i64))))
  (HOUT : Hid (wr.ownsRow n1 68 2 vo O.length (spCells O)))
  (hxs : wr.cell? ⟨g, k, none⟩ = some (.int .i64 x)) (hys : wr.cell? ⟨g, k + 1, none⟩ = some (.int .i64 y))
  (x0 : wr.cell? ⟨B, 0, none⟩ = some (.slice p1 a.types.length c1)) (x1 : wr.cell? ⟨B, 1, none⟩ = some (.int .i64 a.first)) (x2 : wr.cell? ⟨B, 2, none⟩ = some (.slice p2 a.chs.length c2))
  (y0 : wr.cell? ⟨B + 1, 0, none⟩ = some (.slice p3 b.types.length c3)) (y1 : wr.cell? ⟨B + 1, 1, none⟩ = some (.int .i64 b.first)) (y2 : wr.cell? ⟨B + 1, 2, none⟩ = some (.slice p4 b.chs.length c4))
  (HVZ : Hid (TabAt wr (Value.agg #[.slice p1 a.types.length c1, .int .i64 a.first, .slice p2 a.chs.length c2]) a)) (HUZ : Hid (TabAt wr (Value.agg #[.slice p3 b.types.length c3, .int .i64 b.first, .slice p4 b.chs.length c4]) b))
  (hkM : k + 1 < M) (hM : M ≤ 2002) (HOL : Hid (O.length ≤ k))
  (HK : Hid (∀ (u12 u14 u15 u16 u76 u77 u78 u79 u80 u81 u82 u83 u84 u85 u86 u87 u88 u89 u90 u91 u92 u93 u94 u95 u96 u97 u98 u99 u100 u101 u102 u103 u104 u105 u106 u107 u108 u109 u110 u111 u112 u113 u114 u115 u116 u117 u118 u119 u120 u121 u122 u123 u124 u125 u126 u127 : Value) (w' : World), w'.ownsRow n1 3 1 (.slice (some ⟨g, 0, none⟩) M cap) M (L.map (Value.int .i64)) → w'.ownsRow n1 68 2 u12 (stepB (eqB a b) O x y).length (spCells (stepB (eqB a b) O x y)) → Below wr.heap.size wr w' ∨ Below n1 wr w' → K ⟨#[z0, z1, z2, .pointer (some ⟨B, 0, none⟩), .pointer (some ⟨B + 1, 0, none⟩), z5, z6, z7, z8, .slice (some ⟨g, 0, none⟩) M cap, z10, z11, u12, .int .i64 ((k : Int) + 1 + 1), u14, u15, u16, z17, z18, z19, z20, z21, z22, z23, z24, z25, z26, z27, z28, z29, z30, z31, z32, z33, z34, z35, z36, z37, z38, z39, z40, z41, z42, z43, z44, z45, z46, z47, z48, z49, z50, z51, z52, z53, z54, z55, z56, z57, z58, z59, z60, z61, z62, z63, z64, z65, z66, z67, z68, z69, z70, z71, z72, z73, z74, z75, u76, u77, u78, u79, u80, u81, u82, u83, u84, u85, u86, u87, u88, u89, u90, u91, u92, u93, u94, u95, u96, u97, u98, u99, u100, u101, u102, u103, u104, u105, u106, u107, u108, u109, u110, u111, u112, u113, u114, u115, u116, u117, u118, u119, u120, u121, u122, u123, u124, u125, u126, u127, z128], []⟩ w')) (hxy : x = y) :
  Code.wp Tryz.prog (loopAt Tryz.f29 1) (Exit.then K Q0) ⟨#[z0, z1, z2, .pointer (some ⟨B, 0, none⟩), .pointer (some ⟨B + 1, 0, none⟩), z5, z6, z7, z8, .slice (some ⟨g, 0, none⟩) M cap, z10, z11, vo, .int .i64 ((k : Int) + 1), z14, z15, z16, z17, z18, z19, z20, z21, z22, z23, z24, z25, z26, z27, z28, z29, z30, z31, z32, z33, z34, z35, z36, z37, z38, z39, z40, z41, z42, z43, z44, z45, z46, z47, z48, z49, z50, z51, z52, z53, z54, z55, z56, z57, z58, z59, z60, z61, z62, z63, z64, z65, z66, z67, z68, z69, z70, z71, z72, z73, z74, z75, z76, z77, z78, z79, z80, z81, z82, z83, z84, z85, z86, z87, z88, z89, z90, z91, z92, z93, z94, z95, z96, z97, z98, z99, z100, z101, z102, z103, z104, z105, z106, z107, z108, z109, z110, z111, z112, z113, z114, z115, z116, z117, z118, z119, z120, z121, z122, z123, z124, z125, z126, z127, z128], []⟩ wr := by
 subst hxy
 have hxy2 : (x == x) = true := by simp
 have hgw : g < wr.heap.size := World.block_lt_of_cell? _ _ hxs
 have hk63 : wrap64 (k : Int) = (k : Int) := wrapN k (by omega)
 have hk64 : IntKind.i64.wrap (k : Int) = (k : Int) := wrapN2 k (by omega)
 have hkn : k < M := Nat.lt_of_succ_lt hkM
 obtain ⟨hk1, hk2⟩ := natlt1 hkM
 have hk3 : (0 : Int) ≤ (k : Int) := Int.natCast_nonneg _
 have hk4 : (0 : Int) ≤ (k : Int) + 1 := Int.le_trans hk3 (Int.le_add_one (Int.le_refl _))
 have hzr1 : B < wr.heap.size := by omega
 have hzr2 : B + 1 < wr.heap.size := by omega
 have KS : Hid (∀ wx, Below wr.heap.size wr wx → Below wr.heap.size wr wx ∧ wx.cell? ⟨B, 0, none⟩ = some (.slice p1 a.types.length c1) ∧ wx.cell? ⟨B, 1, none⟩ = some (.int .i64 a.first) ∧ wx.cell? ⟨B, 2, none⟩ = some (.slice p2 a.chs.length c2) ∧ wx.cell? ⟨B + 1, 0, none⟩ = some (.slice p3 b.types.length c3) ∧ wx.cell? ⟨B + 1, 1, none⟩ = some (.int .i64 b.first) ∧ wx.cell? ⟨B + 1, 2, none⟩ = some (.slice p4 b.chs.length c4)) := fun wx hb =>
  ⟨hb, (hb.cell (p := ⟨B, 0, none⟩) hzr1).trans x0, (hb.cell (p := ⟨B, 1, none⟩) hzr1).trans x1, (hb.cell (p := ⟨B, 2, none⟩) hzr1).trans x2, (hb.cell (p := ⟨B + 1, 0, none⟩) hzr2).trans y0, (hb.cell (p := ⟨B + 1, 1, none⟩) hzr2).trans y1, (hb.cell (p := ⟨B + 1, 2, none⟩) hzr2).trans y2⟩
 have KA : Hid (∀ wx, Below wr.heap.size wr wx → TabAt wx (Value.agg #[.slice p1 a.types.length c1, .int .i64 a.first, .slice p2 a.chs.length c2]) a) := fun wx hb => HVZ.out.below hb
 have KB : Hid (∀ wx, Below wr.heap.size wr wx → TabAt wx (Value.agg #[.slice p3 b.types.length c3, .int .i64 b.first, .slice p4 b.chs.length c4]) b) := fun wx hb => HUZ.out.below hb
 have K0 : Hid (Below wr.heap.size wr wr.drew.drew) := (Below.refl _ _).drew.drew
 have HOA := Lib.hid (fun W hW => Of_any a (Value.agg #[.slice p1 a.types.length c1, .int .i64 a.first, .slice p2 a.chs.length c2]) x W hW HA.out)
 have HOB := Lib.hid (fun W hW => Of_any b (Value.agg #[.slice p3 b.types.length c3, .int .i64 b.first, .slice p4 b.chs.length c4]) x W hW HB.out)
 obtain ⟨X, eX⟩ : ∃ X, tyOf a x = X := ⟨_, rfl⟩
 rw [eX] at HOA
 obtain ⟨Y, eY⟩ : ∃ Y, tyOf b x = Y := ⟨_, rfl⟩
 rw [eY] at HOB
 clear x0 x1 x2 y0 y1 y2
 conv => arg 2; whnf
 go_wp2_with fail
 go_region_held3 (fun wx => wx.cell? ⟨g, k, none⟩ = some (.int .i64 x) ∧ wx.cell? ⟨g, k + 1, none⟩ = some (.int .i64 x)) (exact ⟨hxs, hys⟩) (first | fail)
 clear hxs hys
 go_wp2_with fail
 go_quiet (fail)
 go_wp2_with fail
 have HW := Lib.hid (below_drewN (Below.refl wr.heap.size wr) (1 + nq))
 have k1 := own_keep HAT.out fun g' e' => HW.out.block g' (World.ownsRow.lt HAT.out g' e').2
 have k2 := own_keep HOUT.out fun g' e' => HW.out.block g' (World.ownsRow.lt HOUT.out g' e').2
 refine HK.out _ _ _ _ _ _ _ _ _ _ _ _ _ _ _ _ _ _ _ _ _ _ _ _ _ _ _ _ _ _ _ _ _ _ _ _ _ _ _ _ _ _ _ _ _ _ _ _ _ _ _ _ _ _ _ _ _ k1 ?_ (.inl HW.out)
 rw [stepB, if_pos (.inl rfl)]; exact k2
set_option maxRecDepth 100000 in
set_option maxHeartbeats 4000000 in
theorem Bt_r2 (a b : Tab) (p1 p2 p3 p4 : Option Addr) (c1 c2 c3 c4 : Nat) (B n1 g M cap k : Nat) (L : List Int) (x y : Int) (O : List (Int × Int)) (vo : Value) (wr : World) (z0 z1 z2 z5 z6 z7 z8 z10 z11 z14 z15 z16 z17 z18 z19 z20 z21 z22 z23 z24 z25 z26 z27 z28 z29 z30 z31 z32 z33 z34 z35 z36 z37 z38 z39 z40 z41 z42 z43 z44 z45 z46 z47 z48 z49 z50 z51 z52 z53 z54 z55 z56 z57 z58 z59 z60 z61 z62 z63 z64 z65 z66 z67 z68 z69 z70 z71 z72 z73 z74 z75 z76 z77 z78 z79 z80 z81 z82 z83 z84 z85 z86 z87 z88 z89 z90 z91 z92 z93 z94 z95 z96 z97 z98 z99 z100 z101 z102 z103 z104 z105 z106 z107 z108 z109 z110 z111 z112 z113 z114 z115 z116 z117 z118 z119 z120 z121 z122 z123 z124 z125 z126 z127 z128 : Value) (K : Act → World → Prop) (Q0 : Exit → Act → World → Prop)
  (HA : Hid (chk a = 0)) (HB : Hid (chk b = 0)) (hB : B + 1 < n1) (hwr : n1 ≤ wr.heap.size)
  (HAT : Hid (wr.ownsRow n1 3 1 (.slice (some ⟨g, 0, none⟩) M cap) M (L.map (Value.int .i64))))
  (HOUT : Hid (wr.ownsRow n1 68 2 vo O.length (spCells O)))
  (hxs : wr.cell? ⟨g, k, none⟩ = some (.int .i64 x)) (hys : wr.cell? ⟨g, k + 1, none⟩ = some (.int .i64 y))
  (x0 : wr.cell? ⟨B, 0, none⟩ = some (.slice p1 a.types.length c1)) (x1 : wr.cell? ⟨B, 1, none⟩ = some (.int .i64 a.first)) (x2 : wr.cell? ⟨B, 2, none⟩ = some (.slice p2 a.chs.length c2))
  (y0 : wr.cell? ⟨B + 1, 0, none⟩ = some (.slice p3 b.types.length c3)) (y1 : wr.cell? ⟨B + 1, 1, none⟩ = some (.int .i64 b.first)) (y2 : wr.cell? ⟨B + 1, 2, none⟩ = some (.slice p4 b.chs.length c4))
  (HVZ : Hid (TabAt wr (Value.agg #[.slice p1 a.types.length c1, .int .i64 a.first, .slice p2 a.chs.length c2]) a)) (HUZ : Hid (TabAt wr (Value.agg #[.slice p3 b.types.length c3, .int .i64 b.first, .slice p4 b.chs.length c4]) b))
  (hkM : k + 1 < M) (hM : M ≤ 2002) (HOL : Hid (O.length ≤ k))
  (HK : Hid (∀ (u12 u14 u15 u16 u76 u77 u78 u79 u80 u81 u82 u83 u84 u85 u86 u87 u88 u89 u90 u91 u92 u93 u94 u95 u96 u97 u98 u99 u100 u101 u102 u103 u104 u105 u106 u107 u108 u109 u110 u111 u112 u113 u114 u115 u116 u117 u118 u119 u120 u121 u122 u123 u124 u125 u126 u127 : Value) (w' : World), w'.ownsRow n1 3 1 (.slice (some ⟨g, 0, none⟩) M cap) M (L.map (Value.int .i64)) → w'.ownsRow n1 68 2 u12 (stepB (eqB a b) O x y).length (spCells (stepB (eqB a b) O x y)) → Below wr.heap.size wr w' ∨ Below n1 wr w' → K ⟨#[z0, z1, z2, .pointer (some ⟨B, 0, none⟩), .pointer (some ⟨B + 1, 0, none⟩), z5, z6, z7, z8, .slice (some ⟨g, 0, none⟩) M cap, z10, z11, u12, .int .i64 ((k : Int) + 1 + 1), u14, u15, u16, z17, z18, z19, z20, z21, z22, z23, z24, z25, z26, z27, z28, z29, z30, z31, z32, z33, z34, z35, z36, z37, z38, z39, z40, z41, z42, z43, z44, z45, z46, z47, z48, z49, z50, z51, z52, z53, z54, z55, z56, z57, z58, z59, z60, z61, z62, z63, z64, z65, z66, z67, z68, z69, z70, z71, z72, z73, z74, z75, u76, u77, u78, u79, u80, u81, u82, u83, u84, u85, u86, u87, u88, u89, u90, u91, u92, u93, u94, u95, u96, u97, u98, u99, u100, u101, u102, u103, u104, u105, u106, u107, u108, u109, u110, u111, u112, u113, u114, u115, u116, u117, u118, u119, u120, u121, u122, u123, u124, u125, u126, u127, z128], []⟩ w')) (hxy : x ≠ y) (hD : tyOf a x = tyOf b x) :
  Code.wp Tryz.prog (loopAt Tryz.f29 1) (Exit.then K Q0) ⟨#[z0, z1, z2, .pointer (some ⟨B, 0, none⟩), .pointer (some ⟨B + 1, 0, none⟩), z5, z6, z7, z8, .slice (some ⟨g, 0, none⟩) M cap, z10, z11, vo, .int .i64 ((k : Int) + 1), z14, z15, z16, z17, z18, z19, z20, z21, z22, z23, z24, z25, z26, z27, z28, z29, z30, z31, z32, z33, z34, z35, z36, z37, z38, z39, z40, z41, z42, z43, z44, z45, z46, z47, z48, z49, z50, z51, z52, z53, z54, z55, z56, z57, z58, z59, z60, z61, z62, z63, z64, z65, z66, z67, z68, z69, z70, z71, z72, z73, z74, z75, z76, z77, z78, z79, z80, z81, z82, z83, z84, z85, z86, z87, z88, z89, z90, z91, z92, z93, z94, z95, z96, z97, z98, z99, z100, z101, z102, z103, z104, z105, z106, z107, z108, z109, z110, z111, z112, z113, z114, z115, z116, z117, z118, z119, z120, z121, z122, z123, z124, z125, z126, z127, z128], []⟩ wr := by
 have hxy2 : (x == y) = false := by simpa using hxy
 have hgw : g < wr.heap.size := World.block_lt_of_cell? _ _ hxs
 have hk63 : wrap64 (k : Int) = (k : Int) := wrapN k (by omega)
 have hk64 : IntKind.i64.wrap (k : Int) = (k : Int) := wrapN2 k (by omega)
 have hkn : k < M := Nat.lt_of_succ_lt hkM
 obtain ⟨hk1, hk2⟩ := natlt1 hkM
 have hk3 : (0 : Int) ≤ (k : Int) := Int.natCast_nonneg _
 have hk4 : (0 : Int) ≤ (k : Int) + 1 := Int.le_trans hk3 (Int.le_add_one (Int.le_refl _))
 have hzr1 : B < wr.heap.size := by omega
 have hzr2 : B + 1 < wr.heap.size := by omega
 have KS : Hid (∀ wx, Below wr.heap.size wr wx → Below wr.heap.size wr wx ∧ wx.cell? ⟨B, 0, none⟩ = some (.slice p1 a.types.length c1) ∧ wx.cell? ⟨B, 1, none⟩ = some (.int .i64 a.first) ∧ wx.cell? ⟨B, 2, none⟩ = some (.slice p2 a.chs.length c2) ∧ wx.cell? ⟨B + 1, 0, none⟩ = some (.slice p3 b.types.length c3) ∧ wx.cell? ⟨B + 1, 1, none⟩ = some (.int .i64 b.first) ∧ wx.cell? ⟨B + 1, 2, none⟩ = some (.slice p4 b.chs.length c4)) := fun wx hb =>
  ⟨hb, (hb.cell (p := ⟨B, 0, none⟩) hzr1).trans x0, (hb.cell (p := ⟨B, 1, none⟩) hzr1).trans x1, (hb.cell (p := ⟨B, 2, none⟩) hzr1).trans x2, (hb.cell (p := ⟨B + 1, 0, none⟩) hzr2).trans y0, (hb.cell (p := ⟨B + 1, 1, none⟩) hzr2).trans y1, (hb.cell (p := ⟨B + 1, 2, none⟩) hzr2).trans y2⟩
 have KA : Hid (∀ wx, Below wr.heap.size wr wx → TabAt wx (Value.agg #[.slice p1 a.types.length c1, .int .i64 a.first, .slice p2 a.chs.length c2]) a) := fun wx hb => HVZ.out.below hb
 have KB : Hid (∀ wx, Below wr.heap.size wr wx → TabAt wx (Value.agg #[.slice p3 b.types.length c3, .int .i64 b.first, .slice p4 b.chs.length c4]) b) := fun wx hb => HUZ.out.below hb
 have K0 : Hid (Below wr.heap.size wr wr.drew.drew) := (Below.refl _ _).drew.drew
 have HOA := Lib.hid (fun W hW => Of_any a (Value.agg #[.slice p1 a.types.length c1, .int .i64 a.first, .slice p2 a.chs.length c2]) x W hW HA.out)
 have HOB := Lib.hid (fun W hW => Of_any b (Value.agg #[.slice p3 b.types.length c3, .int .i64 b.first, .slice p4 b.chs.length c4]) x W hW HB.out)
 obtain ⟨X, eX⟩ : ∃ X, tyOf a x = X := ⟨_, rfl⟩
 rw [eX] at HOA
 obtain ⟨Y, eY⟩ : ∃ Y, tyOf b x = Y := ⟨_, rfl⟩
 rw [eY] at HOB
 rw [eX, eY] at hD
 have HD : Hid (eqB a b x = true) := by show _ = _; unfold eqB; rw [eX, eY]; exact decide_eq_true hD
 have HEQ := fun W => eql_ty X Y W
 have hXY : decide (X = Y) = true := by exact decide_eq_true hD
 rw [hXY] at HEQ
 clear eX eY hXY
 clear x0 x1 x2 y0 y1 y2
 conv => arg 2; whnf
 go_wp2_with fail
 go_region_held3 (fun wx => wx.cell? ⟨g, k, none⟩ = some (.int .i64 x) ∧ wx.cell? ⟨g, k + 1, none⟩ = some (.int .i64 y)) (exact ⟨hxs, hys⟩) (first | fail)
 clear hxs hys
 go_wp2_with fail
 go_region_held3 (fun wx => Below wr.heap.size wr wx ∧ wx.cell? ⟨B, 0, none⟩ = some (.slice p1 a.types.length c1) ∧ wx.cell? ⟨B, 1, none⟩ = some (.int .i64 a.first) ∧ wx.cell? ⟨B, 2, none⟩ = some (.slice p2 a.chs.length c2) ∧ wx.cell? ⟨B + 1, 0, none⟩ = some (.slice p3 b.types.length c3) ∧ wx.cell? ⟨B + 1, 1, none⟩ = some (.int .i64 b.first) ∧ wx.cell? ⟨B + 1, 2, none⟩ = some (.slice p4 b.chs.length c4)) ((refine KS.out _ ?_; first | (with_reducible exact HB9.out) | (with_reducible exact HB8.out) | (with_reducible exact K0.out)))
  (first
   | (go_at_call_of 52 (Value.agg #[.slice p1 a.types.length c1, .int .i64 a.first, .slice p2 a.chs.length c2]); refine (HOA.out _ (KA.out _ (by assumption))).mono ?_; rintro e w8 ⟨rfl, hb8⟩; have HB8 := Lib.hid (Below.trans (by assumption) (hb8.mono (Below.size (by assumption)))); clear hb8)
   | (go_at_call_of 52 (Value.agg #[.slice p3 b.types.length c3, .int .i64 b.first, .slice p4 b.chs.length c4]); refine (HOB.out _ (KB.out _ (by assumption))).mono ?_; rintro e w9 ⟨rfl, hb9⟩; have HB9 := Lib.hid (Below.trans (by assumption) (hb9.mono (Below.size (by assumption)))); clear hb9))
 go_wp2_with fail
 have HW := HB9
 have k1 := own_keep HAT.out fun g' e' => HW.out.block g' (World.ownsRow.lt HAT.out g' e').2
 have k2 := own_keep HOUT.out fun g' e' => HW.out.block g' (World.ownsRow.lt HOUT.out g' e').2
 refine HK.out _ _ _ _ _ _ _ _ _ _ _ _ _ _ _ _ _ _ _ _ _ _ _ _ _ _ _ _ _ _ _ _ _ _ _ _ _ _ _ _ _ _ _ _ _ _ _ _ _ _ _ _ _ _ _ _ _ k1 ?_ (.inl HW.out)
 rw [stepB, if_pos (.inr HD.out)]; exact k2
end Go.Proofs.YtomahddiclkepaaGreatDoor
