/- Part of the proof. -/
import Derived.Test.YtomahddiclkepaaGreatDoorQw00
import Derived.Test.YtomahddiclkepaaGreatDoorQw17
import Derived.Test.YtomahddiclkepaaGreatDoorQw08
import Derived.Test.YtomahddiclkepaaGreatDoorQw21
import Derived.BigQuiet
import Derived.Test.YtomahddiclkepaaGreatDoorQw16
import Derived.Laws.BytesArg
import Derived.Laws.AppendOwn
import Derived.Laws.OwnMore
import Derived.Maps.AppendAt
import Derived.OwnWalk
import Derived.Lib.AppendStr
set_option maxHeartbeats 20000000
set_option maxRecDepth 1000000
set_option linter.unusedVariables false
set_option linter.unusedSimpArgs false
namespace Go.Proofs.YtomahddiclkepaaGreatDoor
open Go.RowKit Go.Joins
open Classical
theorem infoStrT : (Tryz.prog.info? 9).map (fun i => (i.zero, i.size, i.bytes)) = some (some (.string ⟨#[]⟩), 1, 16) := by kernel_rfl
theorem undStrT : Tryz.prog.underlying 83 = some (.slice 9) := by kernel_rfl
structure OutS (B : Nat) (w1 W : World) (v : Value) (l : List (List UInt8)) : Prop where
 row : W.ownsRow B 9 1 v l.length (strs l)
 b : Below B w1 W
 z : B <= W.heap.size
section
variable {B : Nat} {w1 W W' : World} {v : Value} {l : List (List UInt8)}
theorem OutS.below (h : OutS B w1 W v l) (hb : Below W.heap.size W W') : OutS B w1 W' v l :=
 ⟨own_keep h.row fun g e => hb.block g (World.ownsRow.lt h.row g e).2, h.b.trans (hb.mono h.z), Nat.le_trans h.z hb.size⟩
theorem OutS.alloc (h : OutS B w1 W v l) (o : Obj) : OutS B w1 (W.alloc o) v l := h.below ((Below.refl _ _).alloc (Nat.le_refl _) _)
theorem OutS.snoc (h : OutS B w1 W v l) {o : Obj} {x : List UInt8} {w9 : World} {v' : Value} (ho : w9.ownsRow B 9 1 v' (l.length + 1) (strs l ++ [.string (txt x)])) (hg : (W.alloc o).grownBy w9 v.ownBlock) : OutS B w1 w9 v' (l ++ [x]) := by
 have ha := h.alloc o
 refine ⟨?_, ha.b.grown hg ha.z (fun q e => (World.ownsRow.lt h.row q e).1), Nat.le_trans ha.z hg.size⟩
 rw [strs_app, List.length_append]
 exact ho
theorem OutS.box (h : OutS B w1 W v l) {zb : Nat} {cs : Array Value} {T : TypeId} {fr : Nat × Nat} (hx : W.heap[zb]? = some (.cells cs T fr)) (hT : T ≠ 9) {o : Obj} {w9 : World} (hg : (W.alloc o).grownBy w9 v.ownBlock) : w9.heap[zb]? = some (.cells cs T fr) := by
 have hl := (Array.getElem?_eq_some_iff.mp hx).1
 refine ((hg.block zb (by simp; omega) (fun e0 => ?_)).trans (Below.heap_alloc W _ zb hl)).trans hx
 rcases h.row.2 with ⟨rfl, _⟩ | ⟨g, cap, cur, rfl, _, hgg, _⟩
 ·simp [Value.ownBlock] at e0
 ·simp only [Value.ownBlock] at e0
  injection e0 with e0
  subst e0
  rw [hx] at hgg
  injection hgg with hgg
  injection hgg with _ h2 _
  exact hT h2
end
def rulesUp (b : Bk) (k : Nat) : List (List UInt8) := (b.rules.take k).map ruText
def zonesUp (b : Bk) (k : Nat) : List (List UInt8) := b.rules.map ruText ++ (b.zones.take k).flatMap zoLs
def linksUp (b : Bk) (k : Nat) : List (List UInt8) := b.rules.map ruText ++ b.zones.flatMap zoLs ++ (b.links.take k).map lkL
def erasUp (l : List Er) (k : Nat) : List (List UInt8) := (List.range k).map fun i => eraT (eraAt l i) (decide (i + 1 = l.length))
theorem rulesUp_s (b : Bk) (k : Nat) (h : k < b.rules.length) : rulesUp b (k + 1) = rulesUp b k ++ [ruText b.rules[k]] := by unfold rulesUp; rw [List.take_succ_eq_append_getElem h, List.map_append]; rfl
theorem rulesUp_d (b : Bk) : rulesUp b b.rules.length = zonesUp b 0 := by unfold rulesUp zonesUp; simp
theorem zonesUp_s (b : Bk) (k : Nat) (h : k < b.zones.length) : zonesUp b (k + 1) = (zonesUp b k ++ [zoH b.zones[k].nm]) ++ erasUp b.zones[k].eras b.zones[k].eras.length := by
 unfold zonesUp
 rw [List.take_succ_eq_append_getElem h, List.flatMap_append]
 simp [zoLs, erLs, erasUp]
theorem zonesUp_d (b : Bk) : zonesUp b b.zones.length = linksUp b 0 := by unfold zonesUp linksUp; simp
theorem linksUp_s (b : Bk) (k : Nat) (h : k < b.links.length) : linksUp b (k + 1) = linksUp b k ++ [lkL b.links[k]] := by unfold linksUp; rw [List.take_succ_eq_append_getElem h, List.map_append]; simp
theorem linksUp_d (b : Bk) : linksUp b b.links.length = bkLs b := by unfold linksUp bkLs; simp
theorem erasUp_s (l : List Er) (k : Nat) : erasUp l (k + 1) = erasUp l k ++ [eraT (eraAt l k) (decide (k + 1 = l.length))] := by unfold erasUp; rw [List.range_succ, List.map_append]; rfl
theorem flat_le {α : Type} (f : α -> List (List UInt8)) (n : Nat) : ∀ l : List α, (∀ x ∈ l, (f x).length <= n) -> (l.flatMap f).length <= n * l.length
 | [], _ => by simp
 | x :: r, h => by
  have h1 := h x List.mem_cons_self
  have h2 := flat_le f n r fun y hy => h y (List.mem_cons_of_mem _ hy)
  rw [List.flatMap_cons, List.length_append, List.length_cons, Nat.mul_succ]
  omega
theorem zoLs_len (z : Zo) : (zoLs z).length = z.eras.length + 1 := by unfold zoLs erLs; simp
theorem zonesUp_len {b : Bk} (h : bkChk b = 0) (k : Nat) : (zonesUp b k).length <= 15000 := by
 obtain ⟨h1, h2, -⟩ := bk_len h
 have h3 := flat_le zoLs 701 (b.zones.take k) fun z hz => by
  rw [zoLs_len]
  have := (bk_er h (List.mem_of_mem_take hz)).2
  omega
 have h4 : (b.zones.take k).length <= 20 := by rw [List.length_take]; omega
 have h5 : 701 * (b.zones.take k).length <= 701 * 20 := Nat.mul_le_mul_left _ h4
 unfold zonesUp
 rw [List.length_append, List.length_map]
 omega
theorem linksUp_len {b : Bk} (h : bkChk b = 0) (k : Nat) : (linksUp b k).length <= 15020 := by
 have h1 := zonesUp_len h b.zones.length
 rw [zonesUp_d] at h1
 unfold linksUp at h1 ⊢
 rw [List.length_append, List.length_map, List.length_take] at h1 ⊢
 have := (bk_len h).2.2
 omega
theorem nameS {s : ByteArray} (h : nameB s = true) : s.data.toList.length <= 20 := by
 unfold nameB at h
 simp only [Bool.and_eq_true] at h
 have := all_size h.1
 rw [<- Lib.size_eq]
 omega
theorem line_le {b : Bk} (h : bkChk b = 0) : ∀ x ∈ bkLs b, x.length <= 600 := by
 intro x hx
 have hr := (bk_rules h).2
 unfold bkLs at hx
 rcases List.mem_append.1 hx with hx | hx
 ·rcases List.mem_append.1 hx with hx | hx
  ·obtain ⟨r, hm, rfl⟩ := List.mem_map.1 hx
   have := ruText_len (hr r hm)
   omega
  ·obtain ⟨z, hz, hx⟩ := List.mem_flatMap.1 hx
   obtain ⟨i, hi, rfl⟩ := List.mem_iff_getElem.1 hz
   have ho := bk_zone h i hi
   rcases List.mem_cons.1 hx with rfl | hx
   ·have := nameS ho.nm
    unfold zoH
    rw [List.length_append]
    show 5 + _ <= _
    omega
   ·obtain ⟨k, hk, rfl⟩ := List.mem_map.1 hx
    have hk := List.mem_range.1 hk
    obtain ⟨h1, h2, h3⟩ := er_P (k := k) hr ((firstE_zero _ _).1 ho.er k (List.mem_range.2 hk))
    have := eraT_len h1 h2 h3
    omega
 ·obtain ⟨l, hm, rfl⟩ := List.mem_map.1 hx
  obtain ⟨i, hi, rfl⟩ := List.mem_iff_getElem.1 hm
  have ho := (bk_parts h).2 i hi
  unfold linkChk at ho
  split at ho
  ·cases ho
  ·rename_i hn
   have h1 : nameB b.links[i].nm = true := by cases e : nameB b.links[i].nm with | true => rfl | false => exact absurd (.inl e) hn
   have h2 : nameB b.links[i].tg = true := by cases e : nameB b.links[i].tg with | true => rfl | false => exact absurd (.inr e) hn
   have h1 := nameS h1
   have h2 := nameS h2
   unfold lkL
   rw [List.length_append, List.length_append, List.length_append]
   show 5 + _ + 1 + _ <= _
   omega
theorem bkLs_len {b : Bk} (h : bkChk b = 0) : (bkLs b).length <= 15020 := by
 have := linksUp_len h b.links.length
 rwa [linksUp_d] at this
theorem bkText_len {b : Bk} (h : bkChk b = 0) : (bkText b).length <= 140737488355328 := by
 have h1 := join_len (bkLs b) 600 (line_le h)
 have h2 := bkLs_len h
 have h3 : 601 * (bkLs b).length <= 601 * 15020 := Nat.mul_le_mul_left _ h2
 unfold bkText
 omega
theorem strs_map (l : List (List UInt8)) : strs l = (l.map txt).flatMap stL := by
 induction l with
 | nil => rfl
 | cons x r ih =>
  show .string (txt x) :: strs r = .string (txt x) :: (r.map txt).flatMap stL
  rw [ih]
theorem join_out {B : Nat} {w1 W : World} {v : Value} {l : List (List UInt8)} (h : OutS B w1 W v l) (hn : l.length <= 100000) (hlen : (Lib.join l [10]).length <= 140737488355328) :
 Calls Tryz.prog 32 #[v, .string ⟨#[10]⟩] W fun e w' => e = .returned (.string (txt (Lib.join l [10]))) /\ Below W.heap.size W w' := by
 have hr : RowsAt stL 1 W.heap.size W v (l.map txt) := own_rowsG (cells := stL) (k := 1) (fun _ => rfl) (l := l.map txt) (by rw [<- strs_map, List.length_map]; exact h.row) (by rw [List.length_map]; exact hn)
 obtain ⟨p, cap, rfl, ⟨h1, h2⟩, hc⟩ := hr
 have em : (l.map txt).map (·.data.toList) = l := by
  rw [List.map_map]
  conv => rhs; rw [<- List.map_id l]
  exact List.map_congr_left fun x _ => txt_data x
 match l, hlen, em, h1, h2, hc with
 | [], _, _, _, _, _ => exact (Any.strings_Join_none Tryz.lays156 Tryz.Builder_Extra_156 p cap _ W).mono fun e w' ⟨he, hw⟩ => ⟨he, hw ▸ Below.refl _ _⟩
 | x :: r, hlen, em, h1, h2, hc =>
  obtain ⟨b, o, rfl, hb, hcs⟩ := hc (by simp)
  have := Tryz.strings_Join b o cap ((x :: r).map txt) ⟨#[10]⟩ W (fun j y hj => by
   obtain ⟨hj2, rfl⟩ := List.getElem?_eq_some_iff.mp hj
   exact stL_at hcs j hj2) hb (by omega) h2 (by rw [em]; exact hlen)
  rw [em] at this
  exact this
theorem eraAt_inT (l : List Er) (k : Nat) (h : k < l.length) : eraAt l k = l[k] := by unfold eraAt; rw [List.getElem?_eq_getElem h]; rfl
theorem erasUp_len (l : List Er) (k : Nat) : (erasUp l k).length = k := by unfold erasUp; simp
theorem bookText_any (b : Bk) (rv zv lv : Value) (w : World) (hB : BookAt w.heap.size w rv zv lv b) (ht : Tab10 w) (ha : AscTab w) (hm : MaxLen w) :
 Calls Tryz.prog 9 #[.agg #[rv, zv, lv]] w fun e w' => e = .returned (.tuple #[.string (txt (if bkChk b = 0 then bkText b else [])), .int .i64 (bkChk b)]) /\ Below w.heap.size w w' := by
 obtain ⟨p1, c1, rfl, hlen1, hrow1⟩ := hB.r
 obtain ⟨p2, c2, rfl, hlen2, hrow2⟩ := hB.z
 obtain ⟨p3, c3, rfl, hlen3, hrow3⟩ := hB.l
 obtain ⟨W0, eW⟩ : ∃ W0, w.alloc (.cells #[.slice p1 b.rules.length c1, .slice p2 b.zones.length c2, .slice p3 b.links.length c3] 26) = W0 := ⟨_, rfl⟩
 obtain ⟨b0, eb0⟩ : ∃ b0, w.heap.size = b0 := ⟨_, rfl⟩
 have hbx : W0.heap[b0]? = some (.cells #[.slice p1 b.rules.length c1, .slice p2 b.zones.length c2, .slice p3 b.links.length c3] 26 (0, 0)) := by rw [<- eW]; exact alloc_at _ _ _ eb0.symm
 have hb0 : Below w.heap.size w W0 := by rw [<- eW]; exact alB _ _
 have hl0 : b0 < W0.heap.size := (Array.getElem?_eq_some_iff.mp hbx).1
 have HBX : Hid (∀ W, Below W0.heap.size W0 W -> W.cell? ⟨b0, 0, none⟩ = some (.slice p1 b.rules.length c1) /\ W.cell? ⟨b0, 1, none⟩ = some (.slice p2 b.zones.length c2) /\ W.cell? ⟨b0, 2, none⟩ = some (.slice p3 b.links.length c3)) := by
  show ∀ W, _
  intro W hb
  have hx := (hb.block b0 hl0).trans hbx
  exact ⟨(cell_of_row W _ 0 _ _ _ hx).trans rfl, (cell_of_row W _ 1 _ _ _ hx).trans rfl, (cell_of_row W _ 2 _ _ _ hx).trans rfl⟩
 have HW : Hid (∀ W, Below W0.heap.size W0 W -> Below w.heap.size w W) := by
  show ∀ W, _
  intro W hb
  exact hb0.trans (hb.mono hb0.size)
 have HF : Hid (∀ W, Below W0.heap.size W0 W -> Tab10 W /\ AscTab W /\ MaxLen W) := by
  show ∀ W, _
  intro W hb
  have h := hb0.trans (hb.mono hb0.size)
  exact ⟨ht.below h, ha.below h, hm.below h⟩
 have HCK := qH (bkCheck_any b _ _ _ W0 ((hB.below hb0 (Nat.le_refl _)).baseN hb0.size) (hm.below hb0) (ht.below hb0))
 have HRR := qH hrow1
 have HZR := qH hrow2
 have HLR := qH hrow3
 have HER := qH hB.e
 have HZS := qH hB.zs
 have HLS := qH hB.ls
 have HEW := qH eW
 have HEB := qH eb0
 obtain ⟨g0, g1, g2⟩ := HBX.out W0 (Below.refl _ _)
 clear eW hbx hb0 ht ha hm hrow1 hrow2 hrow3 hB
 by_cases hC : bkChk b = 0
 case neg =>
  rw [if_neg hC]
  obtain ⟨C, eC⟩ : ∃ C, bkChk b = C := ⟨_, rfl⟩
  rw [eC] at hC HCK ⊢
  have hz : (C == 0) = false := by simpa using hC
  have hzn : (C != 0) = true := by simpa using hC
  clear hC eC eb0
  go_enter Tryz.func9, Tryz.ntmps9
  go_upto_region 1 with fail
  rw [HEW.out, HEB.out]
  go_wp2_with fail
  refine HCK.out.mono ?_
  rintro e w1 ⟨rfl, hb1⟩
  have HB1 := qH (HW.out _ hb1)
  clear hb1
  go_wp2_with fail
  go_ret2
  exact ⟨rfl, HB1.out⟩
 rw [if_pos hC, hC]
 rw [hC] at HCK
 have HCC := qH hC
 obtain ⟨hl1, hoks⟩ := bk_rules hC
 have HOKS := qH hoks
 clear hC hoks eb0
 go_enter Tryz.func9, Tryz.ntmps9
 go_upto_region 1 with fail
 rw [HEW.out, HEB.out]
 go_wp2_with fail
 refine HCK.out.mono ?_
 rintro e w1 ⟨rfl, hb1⟩
 have HB1 := qH hb1
 obtain ⟨k0, k1, k2⟩ := HBX.out w1 hb1
 have hl2 : b0 < w1.heap.size := by have := hb1.size; omega
 have HL2 := qH hl2
 obtain ⟨i1, hi1, hz10, hz11, hz12⟩ := info_parts infoStrT
 clear hb1 g0 g1 g2 HCK
 go_wp2_with fail
 go_loopw [5, 24] (fun v5 i wr => ∃ k : Nat, k <= b.rules.length /\ i = .int .i64 k /\ Hid (OutS w1.heap.size w1 wr v5 (rulesUp b k))) (fun _ i _ => b.rules.length - (intOf i).toNat)
 case atStart => exact ⟨0, Nat.zero_le _, rfl, qH ⟨⟨rfl, .inl ⟨rfl, rfl⟩⟩, Below.refl _ _, Nat.le_refl _⟩⟩
 case round =>
  obtain ⟨k, hk, rfl, HO⟩ := hrel
  have hzr := HO.out.z
  by_cases hlt : k < b.rules.length
  ·obtain ⟨bb, o, rfl, hbl, hcs⟩ := HRR.out (List.ne_nil_of_length_pos (by omega))
   have hck := hcs k hlt
   have hbw : Below w.heap.size w wr := HW.out wr (HB1.out.trans (HO.out.b.mono HB1.out.size))
   have up : ∀ j u, w.cell? ⟨bb, o + k * 11 + j, none⟩ = some u -> wr.cell? ⟨bb, o + k * 11 + j, none⟩ = some u := fun j u h => (hbw.cell (p := ⟨bb, o + k * 11 + j, none⟩) hbl).trans h
   have HS := qH (rulesUp_s b k hlt)
   have HCL := qH (fun W (h : Below w1.heap.size w1 W) => ruText_ok b.rules[k] W (HOKS.out _ (List.getElem_mem hlt)) (HF.out W (HB1.out.trans (h.mono HB1.out.size))).1 (HF.out W (HB1.out.trans (h.mono HB1.out.size))).2.1)
   have hul : (rulesUp b k).length = k := by unfold rulesUp; simp; omega
   obtain ⟨q, eq⟩ : ∃ q, b.rules[k] = q := ⟨_, rfl⟩
   rw [eq] at hck HS HCL
   obtain ⟨U, eU⟩ : ∃ U, rulesUp b k = U := ⟨_, rfl⟩
   rw [eU] at HO HS hul
   obtain ⟨T, eT⟩ : ∃ T, ruText q = T := ⟨_, rfl⟩
   rw [eT] at HS HCL
   have HUL := qH hul
   clear eq eU eT hcs hul
   obtain ⟨nm, yf, yt, mo, dk, dw, dn, tm, ck, sv', lt⟩ := q
   have z0 := up 0 _ (hck 0 _ rfl)
   have z1 := up 1 _ (hck 1 _ rfl)
   have z2 := up 2 _ (hck 2 _ rfl)
   have z3 := up 3 _ (hck 3 _ rfl)
   have z4 := up 4 _ (hck 4 _ rfl)
   have z5 := up 5 _ (hck 5 _ rfl)
   have z6 := up 6 _ (hck 6 _ rfl)
   have z7 := up 7 _ (hck 7 _ rfl)
   have z8 := up 8 _ (hck 8 _ rfl)
   have z9 := up 9 _ (hck 9 _ rfl)
   have z10 := up 10 _ (hck 10 _ rfl)
   clear up hck hbw
   rw [Nat.add_zero] at z0
   obtain ⟨A5, a5, rfl⟩ := own_sliceN HO.out.row
   change Hid (∀ W, Below w1.heap.size w1 W -> Calls _ _ #[.agg #[.string nm, .int .i64 yf, .int .i64 yt, .int .i64 mo, .int .i64 dk, .int .i64 dw, .int .i64 dn, .int .i64 tm, .int .i64 ck, .int .i64 sv', .string lt]] W _) at HCL
   go_wp2_with fail
   refine (HCL.out _ (HO.out.alloc _).b).mono ?_
   rintro e w3 ⟨rfl, hb3⟩
   have HO3 := qH ((HO.out.alloc _).below hb3)
   have HNEW := qH (World.news_of_block (cs := #[.string (txt T)]) (t := 9) (fr := (0, 0)) (heap_alloc_new w3 (.cells #[.string (txt T)] 9)))
   have HRO2 := qH (World.ownsRow.alloc HO3.out.row (.cells #[.string (txt T)] 9))
   have HML : U.length + 1 <= maxLen := by have := HUL.out; simp only [maxLen]; omega
   have HMB : (U.length + 1) * 16 <= 140737488355328 := by have := HUL.out; omega
   have HSZ : w1.heap.size <= (w3.alloc (.cells #[.string (txt T)] 9)).heap.size := by have := HO3.out.z; simp; omega
   clear hb3 HCL z0 z1 z2 z3 z4 z5 z6 z7 z8 z9 z10
   go_wp2_with (at_builtin; refine wpList_append_own _ rfl _ _ 83 rfl w1.heap.size 9 i1 (.string ⟨#[]⟩) 1 16 undStrT hi1 hz10 hz11 hz12 rfl (by decide) _ _ _ rfl HRO2.out ⟨w3.heap.size, 0, none⟩ 1 1 [.string (txt T)] rfl rfl HNEW.out (by simp [Value.oneCell']) HML HMB HSZ ?_; intro v' w10 hown10 hgrow10 _)
   have HO10 := qH (HO3.out.snoc hown10 hgrow10)
   go_roundw
   case rel => exact ⟨k + 1, by omega, by go_num, by rw [HS.out]; exact HO10⟩
   case measure => simp [intOf]; omega
  ·obtain rfl : k = b.rules.length := by omega
   rw [rulesUp_d] at HO
   obtain ⟨y0, y1, y2⟩ := HBX.out wr (HB1.out.trans (HO.out.b.mono HB1.out.size))
   have hl3 : b0 < wr.heap.size := by have := HL2.out; omega
   clear k0 k1 k2
   go_wp2_with fail
   go_loopw [5, 41] (fun v5 i wr => ∃ k : Nat, k <= b.zones.length /\ i = .int .i64 k /\ Hid (OutS w1.heap.size w1 wr v5 (zonesUp b k))) (fun _ i _ => b.zones.length - (intOf i).toNat)
   case atStart => exact ⟨0, Nat.zero_le _, rfl, HO⟩
   case round =>
    clear y0 y1 y2 hl3 hzr HO
    obtain ⟨k, hk, rfl, HO⟩ := hrel
    have hzr := HO.out.z
    by_cases hlt : k < b.zones.length
    ·obtain ⟨bb, o, rfl, hbl, hcs⟩ := HZR.out (List.ne_nil_of_length_pos (by omega))
     have hck := hcs k hlt
     have hbw : Below w.heap.size w wr := HW.out wr (HB1.out.trans (HO.out.b.mono HB1.out.size))
     have up : ∀ j u, w.cell? ⟨bb, o + k * 2 + j, none⟩ = some u -> wr.cell? ⟨bb, o + k * 2 + j, none⟩ = some u := fun j u h => (hbw.cell (p := ⟨bb, o + k * 2 + j, none⟩) hbl).trans h
     have z0 := up 0 _ (hck 0 _ rfl)
     have z1 := up 1 _ (hck 1 _ rfl)
     rw [Nat.add_zero] at z0
     have hmem := List.getElem_mem hlt
     have hev := HER.out _ hmem
     have HZO := qH (bk_zone HCC.out k hlt)
     have HS := qH (zonesUp_s b k hlt)
     have hnl := (HZS.out _ hmem).1
     have HUL := qH (zonesUp_len HCC.out k)
     have HEP := qH (fun j (hj : j < b.zones[k].eras.length) => er_P (k := j) HOKS.out ((firstE_zero _ _).1 (HZO.out).er j (List.mem_range.2 hj)))
     obtain ⟨q, eq⟩ : ∃ q, b.zones[k] = q := ⟨_, rfl⟩
     rw [eq] at z0 z1 hev HZO HS hnl HEP
     obtain ⟨U, eU⟩ : ∃ U, zonesUp b k = U := ⟨_, rfl⟩
     rw [eU] at HO HS HUL
     clear eq eU hcs hck up hmem
     obtain ⟨nm, ev, es⟩ := q
     obtain ⟨pe, ce, ezv, hlene, hrowe⟩ := hev
     change ev = .slice pe es.length ce at ezv
     subst ezv
     change Hid (zonesUp b (k + 1) = (U ++ [zoH nm]) ++ erasUp es es.length) at HS
     change es.length <= 140737488351232 /\ es.length <= ce at hlene
     change nm.size <= 140737488351232 at hnl
     have hel : es.length <= 700 := HZO.out.le
     have a1 : ∀ W, (Op.stringOp .add (⟨#[122, 111, 110, 101, 32]⟩ : ByteArray) nm).run Tryz.prog W = .ok (.string (txt (zoH nm))) W := fun W => add_txt [122, 111, 110, 101, 32] nm.data.toList (by rw [<- Lib.size_eq]; show 5 + nm.size <= _; omega) W
     have HRE := qH hrowe
     obtain ⟨T, eT⟩ : ∃ T, zoH nm = T := ⟨_, rfl⟩
     rw [eT] at a1 HS
     obtain ⟨A5, a5, rfl⟩ := own_sliceN HO.out.row
     obtain ⟨W2, e2⟩ : ∃ W2, wr.alloc (.cells #[.string nm, .slice pe es.length ce] 46) = W2 := ⟨_, rfl⟩
     obtain ⟨zb, ezb⟩ : ∃ zb, wr.heap.size = zb := ⟨_, rfl⟩
     have hx2 : W2.heap[zb]? = some (.cells #[.string nm, .slice pe es.length ce] 46 (0, 0)) := by rw [<- e2]; exact alloc_at _ _ _ ezb.symm
     have hl4 : zb < W2.heap.size := (Array.getElem?_eq_some_iff.mp hx2).1
     have HO2 : Hid (OutS w1.heap.size w1 W2 (.slice A5 U.length a5) U) := by
      show OutS _ _ _ _ _
      rw [<- e2]; exact HO.out.alloc _
     have HX2 := qH hx2
     have HE2 := qH e2
     have HEZ := qH ezb
     have x0 : W2.cell? ⟨zb, 0, none⟩ = some (.string nm) := (cell_of_row W2 _ 0 _ _ _ hx2).trans rfl
     have HNEW := qH (World.news_of_block (cs := #[.string (txt T)]) (t := 9) (fr := (0, 0)) (heap_alloc_new W2 (.cells #[.string (txt T)] 9)))
     have HRO2 := qH (World.ownsRow.alloc HO2.out.row (.cells #[.string (txt T)] 9))
     have HML : U.length + 1 <= maxLen := by have := HUL.out; simp only [maxLen]; omega
     have HMB : (U.length + 1) * 16 <= 140737488355328 := by have := HUL.out; omega
     have HSZ : w1.heap.size <= (W2.alloc (.cells #[.string (txt T)] 9)).heap.size := by have := HO2.out.z; simp; omega
     have KG : Hid (∀ w10, (W2.alloc (.cells #[.string (txt T)] 9)).grownBy w10 (Value.slice A5 U.length a5).ownBlock -> w10.heap[zb]? = some (.cells #[.string nm, .slice pe es.length ce] 46 (0, 0)) /\ w10.cell? ⟨zb, 1, none⟩ = some (.slice pe es.length ce) /\ zb < w10.heap.size) := by
      show ∀ w10, _
      intro w10 hg
      have h := HO2.out.box HX2.out (by decide) hg
      exact ⟨h, (cell_of_row w10 _ 1 _ _ _ h).trans rfl, (Array.getElem?_eq_some_iff.mp h).1⟩
     clear e2 ezb hx2 hrowe eT hbw hzr
     go_upto_region 14 with fail
     rw [HE2.out, HEZ.out]
     go_wp2_with (at_builtin; refine wpList_append_own _ rfl _ _ 83 rfl w1.heap.size 9 i1 (.string ⟨#[]⟩) 1 16 undStrT hi1 hz10 hz11 hz12 rfl (by decide) _ _ _ rfl HRO2.out ⟨W2.heap.size, 0, none⟩ 1 1 [.string (txt T)] rfl rfl HNEW.out (by simp [Value.oneCell']) HML HMB HSZ ?_; intro v' w10 hown10 hgrow10 _; obtain ⟨t0, t1, tl⟩ := KG.out _ hgrow10)
     have HO10 := qH (HO2.out.snoc hown10 hgrow10)
     have HT0 := qH t0
     clear hown10 hgrow10 t0 t1 tl z0 z1 x0 hl4 a1
     go_loopw [5, 54] (fun v5 i wr => ∃ j : Nat, j <= es.length /\ i = .int .i64 j /\ Hid (OutS w1.heap.size w1 wr v5 ((U ++ [T]) ++ erasUp es j)) /\ Hid (wr.heap[zb]? = some (.cells #[.string nm, .slice pe es.length ce] 46 (0, 0)))) (fun _ i _ => es.length - (intOf i).toNat)
     case atStart =>
      refine ⟨0, Nat.zero_le _, rfl, ?_, HT0⟩
      show OutS _ _ _ _ ((U ++ [T]) ++ [])
      rw [List.append_nil]
      exact HO10.out
     case round =>
      obtain ⟨j, hj, rfl, HOe, HXe⟩ := hrel
      by_cases hjl : j < es.length
      ·obtain ⟨b2, o2, rfl, hb2, hce⟩ := HRE.out (List.ne_nil_of_length_pos (by omega))
       have hck := hce j hjl
       have hbw : Below w.heap.size w wr := HW.out wr (HB1.out.trans (HOe.out.b.mono HB1.out.size))
       have up : ∀ i u, w.cell? ⟨b2, o2 + j * 5 + i, none⟩ = some u -> wr.cell? ⟨b2, o2 + j * 5 + i, none⟩ = some u := fun i u h => (hbw.cell (p := ⟨b2, o2 + j * 5 + i, none⟩) hb2).trans h
       have z0 := up 0 _ (hck 0 _ rfl)
       have z1 := up 1 _ (hck 1 _ rfl)
       have z2 := up 2 _ (hck 2 _ rfl)
       have z3 := up 3 _ (hck 3 _ rfl)
       have z4 := up 4 _ (hck 4 _ rfl)
       rw [Nat.add_zero] at z0
       have hep := HEP.out j hjl
       rw [eraAt_inT _ _ hjl] at hep
       have hes := erasUp_s es j
       rw [eraAt_inT _ _ hjl] at hes
       have HCL := qH (fun W (h : Below w1.heap.size w1 W) => eraText_any es[j] (decide (j + 1 = es.length)) W hep.1 (HF.out W (HB1.out.trans (h.mono HB1.out.size))).1)
       have HEL := qH (erasUp_len es j)
       obtain ⟨V, eV⟩ : ∃ V, erasUp es j = V := ⟨_, rfl⟩
       rw [eV] at HOe hes HEL
       have HLN := qH (show ((U ++ [T]) ++ V).length <= 15000 + 1 + 700 by have := HUL.out; have := HEL.out; rw [List.length_append, List.length_append]; show _ + 1 + _ <= _; omega)
       obtain ⟨Y, eY⟩ : ∃ Y, (U ++ [T]) ++ V = Y := ⟨_, rfl⟩
       rw [eY] at HOe HLN
       have HEY := qH eY
       obtain ⟨last, elast⟩ : ∃ last, decide (j + 1 = es.length) = last := ⟨_, rfl⟩
       rw [elast] at hes HCL
       have hle : ((j : Int) == (es.length : Int) - 1) = last := by
        rw [<- elast]
        by_cases g : j + 1 = es.length
        ·rw [decide_eq_true g]; simp; omega
        ·rw [decide_eq_false g]; simp; omega
       have hle2 : decide ((j : Int) = (es.length : Int) - 1) = last := by rw [<- hle]; rfl
       have hw1 : wrap64 ((es.length : Int) - 1) = (es.length : Int) - 1 := by unfold wrap64; omega
       obtain ⟨x, ex⟩ : ∃ x, es[j] = x := ⟨_, rfl⟩
       rw [ex] at z0 z1 z2 z3 z4 HCL hes
       obtain ⟨S, eS⟩ : ∃ S, eraT x last = S := ⟨_, rfl⟩
       rw [eS] at HCL hes
       have HES := qH hes
       clear hes eV elast ex eS hce hck up hep hbw eY
       obtain ⟨off, ru, sv, fm, un⟩ := x
       obtain ⟨W3, e3⟩ : ∃ W3, wr.alloc (.cells #[.int .i64 off, .string ru, .int .i64 sv, .string fm, .int .i64 un] 43) = W3 := ⟨_, rfl⟩
       obtain ⟨eb, eeb⟩ : ∃ eb, wr.heap.size = eb := ⟨_, rfl⟩
       have hx3 : W3.heap[eb]? = some (.cells #[.int .i64 off, .string ru, .int .i64 sv, .string fm, .int .i64 un] 43 (0, 0)) := by rw [<- e3]; exact alloc_at _ _ _ eeb.symm
       obtain ⟨A6, a6, eA6⟩ := own_sliceN HOe.out.row
       subst eA6
       have hoe3 : OutS w1.heap.size w1 W3 (.slice A6 Y.length a6) Y := by rw [<- e3]; exact HOe.out.alloc _
       have hxe3 : W3.heap[zb]? = some (.cells #[.string nm, .slice (some ⟨b2, o2, none⟩) es.length ce] 46 (0, 0)) := by rw [<- e3]; exact (Below.heap_alloc wr _ zb (Array.getElem?_eq_some_iff.mp HXe.out).1).trans HXe.out
       have x0 : W3.cell? ⟨eb, 0, none⟩ = some (.int .i64 off) := (cell_of_row W3 _ 0 _ _ _ hx3).trans rfl
       have x1 : W3.cell? ⟨eb, 1, none⟩ = some (.string ru) := (cell_of_row W3 _ 1 _ _ _ hx3).trans rfl
       have x2 : W3.cell? ⟨eb, 2, none⟩ = some (.int .i64 sv) := (cell_of_row W3 _ 2 _ _ _ hx3).trans rfl
       have x3 : W3.cell? ⟨eb, 3, none⟩ = some (.string fm) := (cell_of_row W3 _ 3 _ _ _ hx3).trans rfl
       have x4 : W3.cell? ⟨eb, 4, none⟩ = some (.int .i64 un) := (cell_of_row W3 _ 4 _ _ _ hx3).trans rfl
       have x5 : W3.cell? ⟨zb, 1, none⟩ = some (.slice (some ⟨b2, o2, none⟩) es.length ce) := (cell_of_row W3 _ 1 _ _ _ hxe3).trans rfl
       have HE3 := qH e3
       have HEE := qH eeb
       have HO3 := qH hoe3
       have HX3 := qH hxe3
       have hl5 : eb < W3.heap.size := (Array.getElem?_eq_some_iff.mp hx3).1
       have hl6 : zb < W3.heap.size := (Array.getElem?_eq_some_iff.mp hxe3).1
       clear e3 eeb hoe3 hxe3 hx3
       change Hid (∀ W, Below w1.heap.size w1 W -> Calls _ _ #[.agg #[.int .i64 off, .string ru, .int .i64 sv, .string fm, .int .i64 un], .bool last] W _) at HCL
       go_upto_region 18 with fail
       rw [HE3.out, HEE.out]
       go_wp2_with fail
       refine (HCL.out _ HO3.out.b).mono ?_
       rintro e w4 ⟨rfl, hb4⟩
       have HO4 := qH (HO3.out.below hb4)
       have HX4 := qH ((hb4.block zb hl6).trans HX3.out)
       have HNEW := qH (World.news_of_block (cs := #[.string (txt S)]) (t := 9) (fr := (0, 0)) (heap_alloc_new w4 (.cells #[.string (txt S)] 9)))
       have HRO2 := qH (World.ownsRow.alloc HO4.out.row (.cells #[.string (txt S)] 9))
       have HML : Y.length + 1 <= maxLen := by have := HLN.out; simp only [maxLen]; omega
       have HMB : (Y.length + 1) * 16 <= 140737488355328 := by have := HLN.out; omega
       have HSZ : w1.heap.size <= (w4.alloc (.cells #[.string (txt S)] 9)).heap.size := by have := HO4.out.z; simp; omega
       clear hb4 HCL z0 z1 z2 z3 z4 x0 x1 x2 x3 x4 x5 hl5 hl6 hw1 hle hle2
       go_wp2_with (at_builtin; refine wpList_append_own _ rfl _ _ 83 rfl w1.heap.size 9 i1 (.string ⟨#[]⟩) 1 16 undStrT hi1 hz10 hz11 hz12 rfl (by decide) _ _ _ rfl HRO2.out ⟨w4.heap.size, 0, none⟩ 1 1 [.string (txt S)] rfl rfl HNEW.out (by simp [Value.oneCell']) HML HMB HSZ ?_; intro v' w10 hown10 hgrow10 _)
       have HX10 := qH (HO4.out.box HX4.out (by decide) hgrow10)
       have HO10 := qH (HO4.out.snoc hown10 hgrow10)
       go_roundw
       case rel => exact ⟨j + 1, by omega, by go_num, by rw [HES.out, <- List.append_assoc, HEY.out]; exact HO10, HX10⟩
       case measure => simp [intOf]; omega
      ·obtain rfl : j = es.length := by omega
       go_wp2_with fail
       go_roundw
       case rel => exact ⟨k + 1, by omega, by go_num, by rw [HS.out]; exact HOe⟩
       case measure => simp [intOf]; omega
    ·obtain rfl : k = b.zones.length := by omega
     rw [zonesUp_d] at HO
     obtain ⟨y0, y1, y2⟩ := HBX.out wr (HB1.out.trans (HO.out.b.mono HB1.out.size))
     have hl3 : b0 < wr.heap.size := by have := HL2.out; omega
     go_wp2_with fail
     go_loopw [5, 75] (fun v5 i wr => ∃ k : Nat, k <= b.links.length /\ i = .int .i64 k /\ Hid (OutS w1.heap.size w1 wr v5 (linksUp b k))) (fun _ i _ => b.links.length - (intOf i).toNat)
     case atStart => exact ⟨0, Nat.zero_le _, rfl, HO⟩
     case round =>
      clear y0 y1 y2 hl3 hzr HO
      obtain ⟨k, hk, rfl, HO⟩ := hrel
      have hzr := HO.out.z
      by_cases hlt : k < b.links.length
      ·obtain ⟨bb, o, rfl, hbl, hcs⟩ := HLR.out (List.ne_nil_of_length_pos (by omega))
       have hck := hcs k hlt
       have hbw : Below w.heap.size w wr := HW.out wr (HB1.out.trans (HO.out.b.mono HB1.out.size))
       have up : ∀ j u, w.cell? ⟨bb, o + k * 2 + j, none⟩ = some u -> wr.cell? ⟨bb, o + k * 2 + j, none⟩ = some u := fun j u h => (hbw.cell (p := ⟨bb, o + k * 2 + j, none⟩) hbl).trans h
       have z0 := up 0 _ (hck 0 _ rfl)
       have z1 := up 1 _ (hck 1 _ rfl)
       rw [Nat.add_zero] at z0
       have hmem := List.getElem_mem hlt
       have HS := qH (linksUp_s b k hlt)
       obtain ⟨hn1, hn2⟩ := HLS.out _ hmem
       have HUL := qH (linksUp_len HCC.out k)
       obtain ⟨q, eq⟩ : ∃ q, b.links[k] = q := ⟨_, rfl⟩
       rw [eq] at z0 z1 HS hn1 hn2
       obtain ⟨U, eU⟩ : ∃ U, linksUp b k = U := ⟨_, rfl⟩
       rw [eU] at HO HS HUL
       clear eq eU hcs hck up hmem hbw
       obtain ⟨nm, tg⟩ := q
       change nm.size <= 140737488351232 at hn1
       change tg.size <= 140737488351232 at hn2
       have e1 : nm.data.toList.length = nm.size := (Lib.size_eq nm).symm
       have e2 : tg.data.toList.length = tg.size := (Lib.size_eq tg).symm
       have a1 : ∀ W, (Op.stringOp .add (⟨#[108, 105, 110, 107, 32]⟩ : ByteArray) nm).run Tryz.prog W = .ok (.string (txt ([108, 105, 110, 107, 32] ++ nm.data.toList))) W := fun W => add_txt [108, 105, 110, 107, 32] nm.data.toList (by rw [e1]; show 5 + nm.size <= _; omega) W
       have a2 : ∀ W, (Op.stringOp .add (txt ([108, 105, 110, 107, 32] ++ nm.data.toList)) (⟨#[32]⟩ : ByteArray)).run Tryz.prog W = .ok (.string (txt (([108, 105, 110, 107, 32] ++ nm.data.toList) ++ [32]))) W := fun W => add_txt _ [32] (by rw [List.length_append, e1]; show 5 + nm.size + 1 <= _; omega) W
       have a3 : ∀ W, (Op.stringOp .add (txt (([108, 105, 110, 107, 32] ++ nm.data.toList) ++ [32])) tg).run Tryz.prog W = .ok (.string (txt (lkL ⟨nm, tg⟩))) W := fun W => add_txt _ tg.data.toList (by rw [List.length_append, List.length_append, e1, e2]; show 5 + nm.size + 1 + tg.size <= _; omega) W
       obtain ⟨T, eT⟩ : ∃ T, lkL ⟨nm, tg⟩ = T := ⟨_, rfl⟩
       rw [eT] at a3 HS
       obtain ⟨T2, eT2⟩ : ∃ T, ([108, 105, 110, 107, 32] ++ nm.data.toList) ++ [32] = T := ⟨_, rfl⟩
       rw [eT2] at a2 a3
       obtain ⟨T1, eT1⟩ : ∃ T, [108, 105, 110, 107, 32] ++ nm.data.toList = T := ⟨_, rfl⟩
       rw [eT1] at a1 a2
       obtain ⟨A5, a5, rfl⟩ := own_sliceN HO.out.row
       obtain ⟨W2, ew2⟩ : ∃ W2, wr.alloc (.cells #[.string nm, .string tg] 91) = W2 := ⟨_, rfl⟩
       obtain ⟨zb, ezb⟩ : ∃ zb, wr.heap.size = zb := ⟨_, rfl⟩
       have hx2 : W2.heap[zb]? = some (.cells #[.string nm, .string tg] 91 (0, 0)) := by rw [<- ew2]; exact alloc_at _ _ _ ezb.symm
       have hl4 : zb < W2.heap.size := (Array.getElem?_eq_some_iff.mp hx2).1
       have HO2 : Hid (OutS w1.heap.size w1 W2 (.slice A5 U.length a5) U) := by
        show OutS _ _ _ _ _
        rw [<- ew2]; exact HO.out.alloc _
       have HE2 := qH ew2
       have HEZ := qH ezb
       have x0 : W2.cell? ⟨zb, 0, none⟩ = some (.string nm) := (cell_of_row W2 _ 0 _ _ _ hx2).trans rfl
       have x1 : W2.cell? ⟨zb, 1, none⟩ = some (.string tg) := (cell_of_row W2 _ 1 _ _ _ hx2).trans rfl
       have HNEW := qH (World.news_of_block (cs := #[.string (txt T)]) (t := 9) (fr := (0, 0)) (heap_alloc_new W2 (.cells #[.string (txt T)] 9)))
       have HRO2 := qH (World.ownsRow.alloc HO2.out.row (.cells #[.string (txt T)] 9))
       have HML : U.length + 1 <= maxLen := by have := HUL.out; simp only [maxLen]; omega
       have HMB : (U.length + 1) * 16 <= 140737488355328 := by have := HUL.out; omega
       have HSZ : w1.heap.size <= (W2.alloc (.cells #[.string (txt T)] 9)).heap.size := by have := HO2.out.z; simp; omega
       clear ew2 ezb hx2 eT eT1 eT2 hzr e1 e2 hn1 hn2
       go_upto_region 24 with fail
       rw [HE2.out, HEZ.out]
       go_wp2_with (at_builtin; refine wpList_append_own _ rfl _ _ 83 rfl w1.heap.size 9 i1 (.string ⟨#[]⟩) 1 16 undStrT hi1 hz10 hz11 hz12 rfl (by decide) _ _ _ rfl HRO2.out ⟨W2.heap.size, 0, none⟩ 1 1 [.string (txt T)] rfl rfl HNEW.out (by simp [Value.oneCell']) HML HMB HSZ ?_; intro v' w10 hown10 hgrow10 _)
       have HO10 := qH (HO2.out.snoc hown10 hgrow10)
       go_roundw
       case rel => exact ⟨k + 1, by omega, by go_num, by rw [HS.out]; exact HO10⟩
       case measure => simp [intOf]; omega
      ·obtain rfl : k = b.links.length := by omega
       rw [linksUp_d] at HO
       have HJ := qH (join_out HO.out (by have := bkLs_len HCC.out; omega) (bkText_len HCC.out))
       go_wp2_with fail
       refine HJ.out.mono ?_
       rintro e w9 ⟨rfl, hb9⟩
       have HFN := qH (HW.out w9 (HB1.out.trans ((HO.out.b.trans (hb9.mono HO.out.z)).mono HB1.out.size)))
       clear hb9 HJ
       go_wp2_with fail
       go_ret2
       exact ⟨rfl, HFN.out⟩
end Go.Proofs.YtomahddiclkepaaGreatDoor
namespace Go.Proofs.YtomahddiclkepaaGreatDoor
open Go.RowKit
theorem snoc_rec {α : Type} {P : List α -> Prop} (nil : P []) (snoc : ∀ l x, P l -> P (l ++ [x])) : ∀ l, P l := fun l => by
 rw [<- List.reverse_reverse l]
 induction l.reverse with
 | nil => exact nil
 | cons x r ih => rw [List.reverse_cons]; exact snoc _ _ ih
def bts (l : List Int) : List Value := l.map (Value.int .u8)
theorem bts_append (a b : List Int) : bts (a ++ b) = bts a ++ bts b := List.map_append
theorem bts_length (a : List Int) : (bts a).length = a.length := List.length_map _
def strB (s : ByteArray) : List Int := s.data.toList.map fun b => (b.toNat : Int)
theorem strB_length (s : ByteArray) : (strB s).length = s.size := by simp [strB]
theorem strB_byte (s : ByteArray) : ∀ x ∈ strB s, 0 <= x /\ x < 256 := by
 intro x hx
 simp only [strB, List.mem_map] at hx
 obtain ⟨b, _, rfl⟩ := hx
 have := b.toNat_lt
 omega
def putN : Nat -> Nat -> List Int
 | 0, _ => []
 | k + 1, n => ((n / 256 ^ k % 256 : Nat) : Int) :: putN k n
theorem putN_length : ∀ k n, (putN k n).length = k
 | 0, _ => rfl
 | k + 1, n => by simp [putN, putN_length k n]
theorem putN_byte : ∀ k n, ∀ x ∈ putN k n, 0 <= x /\ x < 256
 | 0, _, x, hx => by simp [putN] at hx
 | k + 1, n, x, hx => by
  simp only [putN, List.mem_cons] at hx
  rcases hx with rfl | hx
  ·have := Nat.mod_lt (n / 256 ^ k) (show 0 < 256 by decide)
   omega
  ·exact putN_byte k n x hx
def flag (s : Bool) : Int := if s = true then 1 else 0
def encTy (x : Ty) : List Int := putN 4 (x.off + 2147483648).toNat ++ ([flag x.save, (x.name.size : Int)] ++ strB x.name)
def encCh (c : Ch) : List Int := putN 8 (c.t + 9223372036854775808).toNat ++ [c.k]
def encHead (t : Tab) : List Int := [84, 90, 98, 49, (t.types.length : Int), t.first] ++ putN 2 t.chs.length
def enc (t : Tab) : List Int := encHead t ++ (t.types.flatMap encTy ++ t.chs.flatMap encCh)
theorem encTy_length (x : Ty) : (encTy x).length = 6 + x.name.size := by simp [encTy, putN_length, strB_length]; omega
theorem encCh_length (x : Ch) : (encCh x).length = 9 := by simp [encCh, putN_length]
theorem encHead_length (t : Tab) : (encHead t).length = 8 := by simp [encHead, putN_length]
def nameSum (l : List Ty) : Nat := (l.map fun x => x.name.size).sum
theorem tys_length : ∀ l : List Ty, (l.flatMap encTy).length = 6 * l.length + nameSum l
 | [] => rfl
 | x :: r => by
  rw [List.flatMap_cons, List.length_append, encTy_length, tys_length r]
  simp [nameSum]; omega
theorem chs_length : ∀ l : List Ch, (l.flatMap encCh).length = 9 * l.length
 | [] => rfl
 | x :: r => by
  rw [List.flatMap_cons, List.length_append, encCh_length, chs_length r]
  simp; omega
theorem enc_length (t : Tab) : (enc t).length = 8 + (6 * t.types.length + nameSum t.types + 9 * t.chs.length) := by
 simp only [enc, List.length_append, encHead_length, tys_length, chs_length]
structure Rd where
 rest : List Int
 short : Bool
def takeN (n : Nat) (r : Rd) : List Int × Rd := if n <= r.rest.length then (r.rest.take n, ⟨r.rest.drop n, r.short⟩) else (List.replicate n 0, ⟨[], true⟩)
def numL (l : List Int) : Nat := l.foldl (fun n c => n * 256 + c.toNat) 0
def numN (n : Nat) (r : Rd) : Nat × Rd := (numL (takeN n r).1, (takeN n r).2)
theorem takeN_length (n : Nat) (r : Rd) : (takeN n r).1.length = n := by
 unfold takeN; split <;> simp; omega
theorem takeN_byte (n : Nat) (r : Rd) (h : ∀ x ∈ r.rest, 0 <= x /\ x < 256) : ∀ x ∈ (takeN n r).1, 0 <= x /\ x < 256 := by
 unfold takeN; split
 ·intro x hx; exact h x (List.mem_of_mem_take hx)
 ·intro x hx
  have := List.eq_of_mem_replicate hx
  omega
theorem takeN_rest (n : Nat) (r : Rd) (h : ∀ x ∈ r.rest, 0 <= x /\ x < 256) : ∀ x ∈ (takeN n r).2.rest, 0 <= x /\ x < 256 := by
 unfold takeN; split
 ·intro x hx; exact h x (List.mem_of_mem_drop hx)
 ·simp
theorem numL_snoc (l : List Int) (c : Int) : numL (l ++ [c]) = numL l * 256 + c.toNat := by simp [numL]
theorem numL_lt : ∀ (l : List Int), (∀ x ∈ l, 0 <= x /\ x < 256) -> numL l < 256 ^ l.length := by
 intro l
 induction l using snoc_rec with
 | nil => intro _; simp [numL]
 | snoc l c ih =>
  intro h
  rw [numL_snoc, List.length_append]
  have h1 := ih fun x hx => h x (by simp [hx])
  have h2 := h c (by simp)
  have e : 256 ^ (l.length + [c].length) = 256 ^ l.length * 256 := by simp [Nat.pow_succ]
  rw [e]
  omega
theorem numL_put (a : Nat) : ∀ k n, (putN k n).foldl (fun n c => n * 256 + c.toNat) a = a * 256 ^ k + n % 256 ^ k
 | 0, n => by simp [putN, Nat.mod_one]
 | k + 1, n => by
  simp only [putN, List.foldl_cons, Int.toNat_natCast]
  rw [numL_put _ k n, Nat.pow_succ, Nat.mod_mul, Nat.add_mul, Nat.mul_assoc, Nat.mul_comm 256 (256 ^ k), Nat.mul_comm (n / 256 ^ k % 256)]
  omega
theorem numL_putN (k n : Nat) (h : n < 256 ^ k) : numL (putN k n) = n := by
 have := numL_put 0 k n
 rw [Nat.mod_eq_of_lt h] at this
 simpa [numL] using this
theorem numN_lt (n : Nat) (r : Rd) (h : ∀ x ∈ r.rest, 0 <= x /\ x < 256) : (numN n r).1 < 256 ^ n := by
 have h1 := numL_lt _ (takeN_byte n r h)
 rw [takeN_length] at h1
 exact h1
def ty1 (r : Rd) : Ty × Rd :=
 let a := numN 4 r
 let s := numN 1 a.2
 let k := numN 1 s.2
 let m := takeN k.1 k.2
 (⟨(a.1 : Int) - 2147483648, s.1 == 1, strOfNums m.1⟩, m.2)
def ch1 (r : Rd) : Ch × Rd :=
 let a := numN 8 r
 let k := numN 1 a.2
 (⟨(a.1 : Int) - 9223372036854775808, (k.1 : Int)⟩, k.2)
def tys : Nat -> Rd -> List Ty × Rd
 | 0, r => ([], r)
 | k + 1, r => ((tys k r).1 ++ [(ty1 (tys k r).2).1], (ty1 (tys k r).2).2)
def chs : Nat -> Rd -> List Ch × Rd
 | 0, r => ([], r)
 | k + 1, r => if (chs k r).2.short = true then chs k r else ((chs k r).1 ++ [(ch1 (chs k r).2).1], (ch1 (chs k r).2).2)
def pH (l : List Int) : Nat × Rd := numN 1 ⟨l.drop 4, false⟩
def pF (l : List Int) : Nat × Rd := numN 1 (pH l).2
def pC (l : List Int) : Nat × Rd := numN 2 (pF l).2
def pT (l : List Int) : List Ty × Rd := tys (pH l).1 (pC l).2
def pX (l : List Int) : List Ch × Rd := chs (pC l).1 (pT l).2
def prs (l : List Int) : Tab := ⟨(pT l).1, ((pF l).1 : Int), (pX l).1⟩
def prsE (l : List Int) : Int :=
 if 20000 < l.length then 2 else if l.length < 8 then 4 else if (pX l).2.short = true then 4 else if chk (prs l) = 0 /\ enc (prs l) = l then 0 else 5
theorem chs_stop (r : Rd) (k : Nat) (h : (chs k r).2.short = true) : ∀ j, chs (k + j) r = chs k r
 | 0 => rfl
 | j + 1 => by
  have := chs_stop r k h j
  show (if (chs (k + j) r).2.short = true then chs (k + j) r else _) = _
  rw [this, if_pos h]
theorem takeN_app (l m : List Int) (s : Bool) (n : Nat) (h : n = l.length) : takeN n ⟨l ++ m, s⟩ = (l, ⟨m, s⟩) := by
 subst h; simp [takeN]
theorem numN_app (k n : Nat) (m : List Int) (s : Bool) (h : n < 256 ^ k) : numN k ⟨putN k n ++ m, s⟩ = (n, ⟨m, s⟩) := by
 unfold numN
 rw [takeN_app _ _ _ _ (putN_length k n).symm, numL_putN k n h]
theorem numN_one (c : Int) (m : List Int) (s : Bool) : numN 1 ⟨c :: m, s⟩ = (c.toNat, ⟨m, s⟩) := by
 unfold numN
 rw [show (c :: m) = [c] ++ m from rfl, takeN_app [c] m s 1 rfl]
 simp [numL]
theorem strOf_strB (s : ByteArray) : strOfNums (strB s) = s := by
 apply ByteArray.ext
 apply Array.toList_inj.1
 rw [strOfNums_data]
 simp only [strB, List.map_map]
 rw [List.map_congr_left (g := id) (fun b _ => by simp), List.map_id]
theorem ty1_enc (x : Ty) (m : List Int) (h1 : -75600 <= x.off) (h2 : x.off <= 75600) : ty1 ⟨encTy x ++ m, false⟩ = (x, ⟨m, false⟩) := by
 obtain ⟨off, save, name⟩ := x
 simp only at h1 h2
 unfold ty1 encTy
 simp only [List.append_assoc]
 rw [numN_app 4 _ _ _ (by omega)]
 simp only [List.cons_append, List.nil_append]
 rw [numN_one]
 simp only
 rw [numN_one]
 simp only [Int.toNat_natCast]
 rw [takeN_app _ _ _ _ (strB_length name).symm]
 simp only [strOf_strB]
 congr 2
 ·omega
 ·cases save <;> rfl
theorem ch1_enc (x : Ch) (m : List Int) (h1 : -1099511627776 <= x.t) (h2 : x.t <= 1099511627776) (h3 : 0 <= x.k) : ch1 ⟨encCh x ++ m, false⟩ = (x, ⟨m, false⟩) := by
 obtain ⟨t, k⟩ := x
 simp only at h1 h2 h3
 unfold ch1 encCh
 simp only [List.append_assoc]
 rw [numN_app 8 _ _ _ (by omega)]
 simp only [List.cons_append, List.nil_append]
 rw [numN_one]
 simp only
 congr 2 <;> omega
theorem tys_enc (l : List Ty) : (∀ x ∈ l, -75600 <= x.off /\ x.off <= 75600) -> ∀ m, tys l.length ⟨l.flatMap encTy ++ m, false⟩ = (l, ⟨m, false⟩) := by
 induction l using snoc_rec with
 | nil => intro _ m; rfl
 | snoc l x ih =>
  intro h m
  have h1 := ih (fun y hy => h y (by simp [hy])) (encTy x ++ m)
  have h2 := h x (by simp)
  have e : (l ++ [x]).flatMap encTy ++ m = l.flatMap encTy ++ (encTy x ++ m) := by simp
  rw [e, List.length_append]
  show (_, _) = _
  rw [h1]
  simp only
  rw [ty1_enc x m h2.1 h2.2]
theorem chs_enc (l : List Ch) : (∀ x ∈ l, -1099511627776 <= x.t /\ x.t <= 1099511627776 /\ 0 <= x.k) -> ∀ m, chs l.length ⟨l.flatMap encCh ++ m, false⟩ = (l, ⟨m, false⟩) := by
 induction l using snoc_rec with
 | nil => intro _ m; rfl
 | snoc l x ih =>
  intro h m
  have h1 := ih (fun y hy => h y (by simp [hy])) (encCh x ++ m)
  have h2 := h x (by simp)
  have e : (l ++ [x]).flatMap encCh ++ m = l.flatMap encCh ++ (encCh x ++ m) := by simp
  rw [e, List.length_append]
  show (if _ then _ else _) = _
  rw [h1]
  simp only [Bool.false_eq_true, if_false]
  rw [ch1_enc x m h2.1 h2.2.1 h2.2.2]
theorem prs_enc (t : Tab) (ok : OkTab t) (m : List Int) : prs (enc t ++ m) = t /\ (pX (enc t ++ m)).2 = ⟨m, false⟩ := by
 obtain ⟨types, first, cs⟩ := t
 have k1 := ok.many
 have k2 := ok.chs
 have k3 := ok.first
 simp only at k1 k2 k3
 have e1 : pH (enc ⟨types, first, cs⟩ ++ m) = (types.length, ⟨first :: (putN 2 cs.length ++ (types.flatMap encTy ++ (cs.flatMap encCh ++ m))), false⟩) := by
  simp only [pH, enc, encHead, List.append_assoc, List.cons_append, List.nil_append, List.drop_succ_cons, List.drop_zero]
  rw [numN_one]
  simp
 have e2 : pF (enc ⟨types, first, cs⟩ ++ m) = (first.toNat, ⟨putN 2 cs.length ++ (types.flatMap encTy ++ (cs.flatMap encCh ++ m)), false⟩) := by
  rw [pF, e1]; exact numN_one _ _ _
 have e3 : pC (enc ⟨types, first, cs⟩ ++ m) = (cs.length, ⟨types.flatMap encTy ++ (cs.flatMap encCh ++ m), false⟩) := by
  rw [pC, e2]; exact numN_app 2 _ _ _ (by omega)
 have e4 : pT (enc ⟨types, first, cs⟩ ++ m) = (types, ⟨cs.flatMap encCh ++ m, false⟩) := by
  rw [pT, e1, e3]; exact tys_enc types (fun x hx => ⟨(ok.type x hx).1, (ok.type x hx).2.1⟩) _
 have e5 : pX (enc ⟨types, first, cs⟩ ++ m) = (cs, ⟨m, false⟩) := by
  rw [pX, e3, e4]; exact chs_enc cs (fun x hx => ⟨(ok.ch x hx).1, (ok.ch x hx).2.1, (ok.ch x hx).2.2.1⟩) _
 refine ⟨?_, by rw [e5]⟩
 simp only [prs, e4, e2, e5]
 congr 1
 omega
theorem name_small (x : Ty) (h : abbrB x.name = true) : x.name.size <= 8 := by
 unfold abbrB allB at h
 simp only [Bool.and_eq_true, decide_eq_true_eq] at h
 omega
theorem nameSum_le : ∀ (l : List Ty), (∀ x ∈ l, x.name.size <= 8) -> nameSum l <= 8 * l.length
 | [], _ => by simp [nameSum]
 | x :: r, h => by
  have h1 := nameSum_le r fun y hy => h y (by simp [hy])
  have h2 := h x (by simp)
  simp only [nameSum, List.map_cons, List.sum_cons, List.length_cons] at h1 ⊢
  omega
theorem enc_small (t : Tab) (ok : OkTab t) : (enc t).length <= 20000 := by
 rw [enc_length]
 have h1 := nameSum_le t.types fun x hx => name_small x (ok.type x hx).2.2
 have := ok.many
 have := ok.chs
 omega
theorem enc_byte (t : Tab) (ok : OkTab t) : ∀ x ∈ enc t, 0 <= x /\ x < 256 := by
 have k1 := ok.many
 have k3 := ok.first
 intro x hx
 simp only [enc, encHead, List.mem_append, List.mem_flatMap] at hx
 rcases hx with (hx | hx) | ⟨y, hy, hx⟩ | ⟨y, hy, hx⟩
 ·simp at hx; omega
 ·exact putN_byte _ _ x hx
 ·have h1 := ok.type y hy
  have h2 := name_small y h1.2.2
  simp only [encTy, List.mem_append] at hx
  rcases hx with hx | hx | hx
  ·exact putN_byte _ _ x hx
  ·simp only [flag, List.mem_cons, List.not_mem_nil, or_false] at hx
   rcases hx with hx | hx
   ·split at hx <;> omega
   ·omega
  ·exact strB_byte _ x hx
 ·have h1 := ok.ch y hy
  simp only [encCh, List.mem_append] at hx
  rcases hx with hx | hx
  ·exact putN_byte _ _ x hx
  ·simp at hx; omega
theorem prsE_enc (t : Tab) (h : chk t = 0) : prsE (enc t) = 0 /\ prs (enc t) = t := by
 have ok := chk_ok t h
 have h1 := prs_enc t ok []
 rw [List.append_nil] at h1
 have h2 := enc_small t ok
 have h3 := enc_length t
 refine ⟨?_, h1.1⟩
 unfold prsE
 rw [if_neg (by omega), if_neg (by omega), if_neg (by rw [h1.2]; simp), h1.1, if_pos ⟨h, rfl⟩]
theorem undBytes : Tryz.prog.underlying 73 = some (.slice 5) := by kernel_rfl
theorem infoByte : (Tryz.prog.info? 5).map (fun i => (i.zero, i.size, i.bytes)) = some (some (.int .u8 0), 1, 1) := by kernel_rfl
def BRow (w : World) (B : Nat) (v : Value) (l : List Int) : Prop := w.ownsRow B 5 1 v l.length (bts l)
def Grew (w : World) (v : Value) (w' : World) (v' : Value) : Prop := w.grownBy w' v.ownBlock /\ (v'.ownBlock = v.ownBlock \/ ∃ k, v'.ownBlock = some k /\ w.heap.size <= k)
theorem Grew.refl (w : World) (v : Value) : Grew w v w v := ⟨⟨rfl, rfl, rfl, Nat.le_refl _, fun _ _ _ => rfl⟩, .inl rfl⟩
theorem Grew.trans {a b c : World} {u v x : Value} (h : Grew a u b v) (k : Grew b v c x) : Grew a u c x := by
 obtain ⟨h1, h2⟩ := h
 obtain ⟨k1, k2⟩ := k
 refine ⟨⟨k1.os.trans h1.os, k1.tape.trans h1.tape, k1.output.trans h1.output, Nat.le_trans h1.size k1.size, fun i hi hne => ?_⟩, ?_⟩
 ·refine (k1.block i (Nat.lt_of_lt_of_le hi h1.size) (fun e => ?_)).trans (h1.block i hi hne)
  rcases h2 with h2 | ⟨j, h2, h3⟩
  ·exact hne (by rw [e, h2])
  ·rw [h2] at e; injection e with e; omega
 ·rcases k2 with k2 | ⟨j, k2, k3⟩
  ·rcases h2 with h2 | ⟨i, h2, h3⟩
   ·exact .inl (k2.trans h2)
   ·exact .inr ⟨i, k2.trans h2, h3⟩
  ·exact .inr ⟨j, k2, Nat.le_trans h1.size k3⟩
theorem Grew.alloc (w : World) (v : Value) (o : Obj) : Grew w v (w.alloc o) v :=
 ⟨⟨rfl, rfl, rfl, by simp, fun i hi _ => Below.heap_alloc w o i hi⟩, .inl rfl⟩
theorem Grew.app {w w' : World} {v v' : Value} (h : w.grownBy w' v.ownBlock) (k : v'.ownBlock = v.ownBlock \/ v'.ownBlock = some w.heap.size) : Grew w v w' v' :=
 ⟨h, k.imp id fun e => ⟨_, e, Nat.le_refl _⟩⟩
theorem Grew.below {w w' : World} {v v' : Value} {B : Nat} {l : List Int} (h : Grew w v w' v') (hr : BRow w B v l) (hB : B <= w.heap.size) : Below B w w' :=
 (Below.refl B w).grown h.1 hB fun q hq => (World.ownsRow.lt hr q hq).1
theorem Grew.far {w w' : World} {v v' : Value} (h : Grew w v w' v') {b : Nat} (hb : b < w.heap.size) (hne : v.ownBlock ≠ some b) : w'.heap[b]? = w.heap[b]? := h.1.block b hb fun e => hne e.symm
theorem Grew.ne {w w' : World} {v v' : Value} (h : Grew w v w' v') {b : Nat} (hb : b < w.heap.size) (hne : v.ownBlock ≠ some b) : v'.ownBlock ≠ some b := by
 rcases h.2 with e | ⟨k, e, hk⟩
 ·rw [e]; exact hne
 ·rw [e]; intro e2; injection e2 with e2; omega
theorem put_step (k n : Nat) : putN (k + 1) n = [((n / 256 ^ k % 256 : Nat) : Int)] ++ putN k n := rfl
theorem shr_eq (n k : Nat) : IntKind.u8.wrap ((n : Int) / 2 ^ (8 * k)) = ((n / 256 ^ k % 256 : Nat) : Int) := by
 rw [IntKind.wrap_u8']
 have e : (2 : Int) ^ (8 * k) = ((256 ^ k : Nat) : Int) := by
  rw [Int.pow_mul, show ((2 : Int) ^ 8) = ((256 : Nat) : Int) from by decide, <- Int.natCast_pow]
 rw [e]
 simp only [Int.natCast_emod, Int.natCast_ediv]
 rfl
theorem put_any (B : Nat) (v : Value) (l : List Int) (n many : Nat) (w : World) (hown : BRow w B v l) (hB : B <= w.heap.size) (hm : many <= 8) (hl : l.length <= 100000) :
 Calls Tryz.prog 60 #[v, .int .u64 n, .int .i64 many] w fun e w' => ∃ v', e = .returned v' /\ BRow w' B v' (l ++ putN many n) /\ Grew w v w' v' := by
 obtain ⟨i0, hi, hz0, hz1, hz2⟩ := info_parts infoByte
 have HO := qH hown
 clear hown
 go_enter Tryz.func60, Tryz.ntmps60
 go_wp2
 go_loopw [0, 7] (fun s0 s7 wr => ∃ (k : Nat) (pre : List Int), k <= many /\ s7 = .int .i64 ((k : Int) - 1) /\ BRow wr B s0 (l ++ pre) /\ putN many n = pre ++ putN k n /\ pre.length <= 8 /\ Grew w v wr s0) (fun _ s7 _ => (intOf s7 + 1).toNat)
 case atStart => exact ⟨many, [], Nat.le_refl _, rfl, by rw [List.append_nil]; exact HO.out, rfl, by simp, Grew.refl _ _⟩
 case round =>
  obtain ⟨k, pre, hk, rfl, hrow, heq, hpl, hb⟩ := hrel
  have HR := qH hrow
  have HE := qH heq
  have HB := qH hb
  clear hrow heq hb
  rcases Nat.eq_zero_or_pos k with h0 | h0
  ·subst h0
   go_wp2
   go_ret
   refine ⟨_, rfl, ?_, HB.out⟩
   have e : putN many n = pre := by rw [HE.out]; exact List.append_nil _
   rw [e]; exact HR.out
  ·obtain ⟨j, rfl⟩ : ∃ j, k = j + 1 := ⟨k - 1, by omega⟩
   have e1 : (((j + 1 : Nat) : Int) - 1) = (j : Int) := by omega
   rw [e1]
   clear e1
   have hj1 : (j : Int) <= 7 := by omega
   have hj0 : (0 : Int) <= (j : Int) := by omega
   have hv : Hid ((n : Int) / 2 ^ (8 * j) % 256 = ((n / 256 ^ j % 256 : Nat) : Int)) := by
    have := shr_eq n j
    rw [IntKind.wrap_u8'] at this
    exact this
   have hlen : (l ++ pre).length <= 100008 := by rw [List.length_append]; omega
   have hsz : B <= (wr.alloc (Obj.cells #[Value.int IntKind.u8 (↑n / 2 ^ (8 * j) % 256)] 5)).heap.size := by have := HB.out.1.size; simp; omega
   have HSZ := qH hsz
   have HL1 : (l ++ pre).length + 1 <= maxLen := by simp only [maxLen]; omega
   have HL2 : ((l ++ pre).length + 1) * 1 <= 140737488355328 := by omega
   have HR2 : (wr.alloc (Obj.cells #[Value.int IntKind.u8 (↑n / 2 ^ (8 * j) % 256)] 5)).ownsRow B 5 1 u0 (l ++ pre).length (bts (l ++ pre)) := World.ownsRow.alloc HR.out _
   have HNEW : ∀ (k : Nat) (u : Value), [Value.int .u8 (↑n / 2 ^ (8 * j) % 256)][k]? = some u -> (wr.alloc (Obj.cells #[Value.int IntKind.u8 (↑n / 2 ^ (8 * j) % 256)] 5)).cell? ((⟨wr.heap.size, 0, none⟩ : Addr).add k) = some u := cell_one_new _ _ _
   clear hsz hlen
   go_wp2_with (first
    | (at_builtin
       refine wpList_append_own_at _ rfl _ _ 73 rfl B 5 i0 (.int .u8 0) 1 1 undBytes hi hz0 hz1 hz2 rfl (by decide) _ _ _ rfl HR2 ⟨wr.heap.size, 0, none⟩ 1 1 [.int .u8 (↑n / 2 ^ (8 * j) % 256)] rfl rfl HNEW (by simp [Value.oneCell']) HL1 HL2 HSZ.out ?_
       intro v' w1 hown1 hgrow1 _ hat1))
   go_roundw
   case rel =>
    refine ⟨j, pre ++ [((n / 256 ^ j % 256 : Nat) : Int)], by omega, rfl, ?_, ?_, ?_, ?_⟩
    ·show w1.ownsRow _ _ _ _ _ _
     rw [<- List.append_assoc, List.length_append, bts_append, <- hv.out]
     exact hown1
    ·rw [HE.out, put_step, List.append_assoc]
    ·have h1 := congrArg List.length HE.out
     simp only [List.length_append, putN_length] at h1
     rw [List.length_append]
     show pre.length + 1 <= 8
     omega
    ·exact HB.out.trans ((Grew.alloc _ _ _).trans (Grew.app hgrow1 hat1))
   case measure => simp [intOf]
end Go.Proofs.YtomahddiclkepaaGreatDoor
