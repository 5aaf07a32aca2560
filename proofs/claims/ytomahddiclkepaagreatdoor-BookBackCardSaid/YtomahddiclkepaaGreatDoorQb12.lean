/- book.Text: the walk. BookBack: the walk. What a row's list of package-level variables gives: strconv's table of powers of ten. What a row's list of package-level variables gives, and bytealg's MaxLen. What a row's list of package-level variables gives: strconv's two errors lie there. What a row's list of package-level variables gives: strings' table of white space. A law's argument of type Rule, as it comes in. A law's argument of type Book, as it comes in. -/
import Derived.Test.YtomahddiclkepaaGreatDoorQb10
import Derived.Test.YtomahddiclkepaaGreatDoorQb11
import Derived.BigQuiet
import Derived.Test.YtomahddiclkepaaGreatDoorQb04
import Derived.Deep.DeepCutAuto
import Derived.Handy
import Derived.Test.YtomahddiclkepaaGreatDoorCards
import Derived.Test.YtomahddiclkepaaGreatDoorTie
import Derived.Test.YtomahddiclkepaaGreatDoorQb01
import Derived.LaidMore
import Derived.Deep.DeepHandedRow
import Derived.Deep.DeepWitnessRowRef
import Derived.Lib.LaidTab
import Derived.Stop.LaidErr
import Derived.Test.YtomahddiclkepaaGreatDoorQb05
import Derived.Lay
import Derived.Test.YtomahddiclkepaaGreatDoorQb06
import Derived.Test.YtomahddiclkepaaGreatDoorQb02
import Derived.Deep.Slices
import Derived.Deep.Fields
import Derived.ChangeSame
import Derived.Lib.SmallJoins
import Derived.SizedLaws
namespace Go.Proofs.YtomahddiclkepaaGreatDoor
open Go.RowKit Go.Joins
open Classical
set_option linter.unusedVariables false
set_option linter.unusedSimpArgs false

theorem infoStrT : (Tryz.prog.info? 9).map (fun i => (i.zero, i.size, i.bytes)) = some (some (.string ⟨#[]⟩), 1, 16) := by kernel_rfl
theorem undStrT : Tryz.prog.underlying 83 = some (.slice 9) := by kernel_rfl
/-- a list of lines of one's own -/
structure OutS (B : Nat) (w1 W : World) (v : Value) (l : List (List UInt8)) : Prop where
  row : W.ownsRow B 9 1 v l.length (strs l)
  b : Below B w1 W
  z : B ≤ W.heap.size
section
variable {B : Nat} {w1 W W' : World} {v : Value} {l : List (List UInt8)}
theorem OutS.below (h : OutS B w1 W v l) (hb : Below W.heap.size W W') : OutS B w1 W' v l :=
  ⟨own_keep h.row fun g e => hb.block g (World.ownsRow.lt h.row g e).2, h.b.trans (hb.mono h.z), Nat.le_trans h.z hb.size⟩
theorem OutS.alloc (h : OutS B w1 W v l) (o : Obj) : OutS B w1 (W.alloc o) v l := h.below ((Below.refl _ _).alloc (Nat.le_refl _) _)
theorem OutS.snoc (h : OutS B w1 W v l) {o : Obj} {x : List UInt8} {w9 : World} {v' : Value} (ho : w9.ownsRow B 9 1 v' (l.length + 1) (strs l ++ [.string (txt x)])) (hg : (W.alloc o).grownBy w9 v.ownBlock) : OutS B w1 w9 v' (l ++ [x]) := by
  have ha := h.alloc o
  refine ⟨?_, ha.b.grown hg ha.z (fun q e => (World.ownsRow.lt h.row q e).1), Nat.le_trans ha.z hg.size⟩
  rw [strs_app, List.length_append]
  exact ho
theorem OutS.box (h : OutS B w1 W v l) {zb : Nat} {cs : Array Value} {T : TypeId} {fr : Nat × Nat} (hx : W.heap[zb]? = some (.cells cs T fr)) (hT : T ≠ 9) {o : Obj} {w9 : World} (hg : (W.alloc o).grownBy w9 v.ownBlock) : w9.heap[zb]? = some (.cells cs T fr) := by
  have hl := (Array.getElem?_eq_some_iff.mp hx).1
  refine ((hg.block zb (by simp; omega) (fun e0 => ?_)).trans (Below.heap_alloc W _ zb hl)).trans hx
  rcases h.row.2 with ⟨rfl, _⟩ | ⟨g, cap, cur, rfl, _, hgg, _⟩
  · simp [Value.ownBlock] at e0
  · simp only [Value.ownBlock] at e0
    injection e0 with e0
    subst e0
    rw [hx] at hgg
    injection hgg with hgg
    injection hgg with _ h2 _
    exact hT h2
end
/-- the lines up to the k-th rule, zone, link -/
def rulesUp (b : Bk) (k : Nat) : List (List UInt8) := (b.rules.take k).map ruText
def zonesUp (b : Bk) (k : Nat) : List (List UInt8) := b.rules.map ruText ++ (b.zones.take k).flatMap zoLs
def linksUp (b : Bk) (k : Nat) : List (List UInt8) := b.rules.map ruText ++ b.zones.flatMap zoLs ++ (b.links.take k).map lkL
def erasUp (l : List Er) (k : Nat) : List (List UInt8) := (List.range k).map fun i => eraT (eraAt l i) (decide (i + 1 = l.length))
theorem rulesUp_s (b : Bk) (k : Nat) (h : k < b.rules.length) : rulesUp b (k + 1) = rulesUp b k ++ [ruText b.rules[k]] := by unfold rulesUp; rw [List.take_succ_eq_append_getElem h, List.map_append]; rfl
theorem rulesUp_d (b : Bk) : rulesUp b b.rules.length = zonesUp b 0 := by unfold rulesUp zonesUp; simp
theorem zonesUp_s (b : Bk) (k : Nat) (h : k < b.zones.length) : zonesUp b (k + 1) = (zonesUp b k ++ [zoH b.zones[k].nm]) ++ erasUp b.zones[k].eras b.zones[k].eras.length := by
  unfold zonesUp
  rw [List.take_succ_eq_append_getElem h, List.flatMap_append]
  simp [zoLs, erLs, erasUp]
theorem zonesUp_d (b : Bk) : zonesUp b b.zones.length = linksUp b 0 := by unfold zonesUp linksUp; simp
theorem linksUp_s (b : Bk) (k : Nat) (h : k < b.links.length) : linksUp b (k + 1) = linksUp b k ++ [lkL b.links[k]] := by unfold linksUp; rw [List.take_succ_eq_append_getElem h, List.map_append]; simp
theorem linksUp_d (b : Bk) : linksUp b b.links.length = bkLs b := by unfold linksUp bkLs; simp
theorem erasUp_s (l : List Er) (k : Nat) : erasUp l (k + 1) = erasUp l k ++ [eraT (eraAt l k) (decide (k + 1 = l.length))] := by unfold erasUp; rw [List.range_succ, List.map_append]; rfl
theorem flat_le {α : Type} (f : α → List (List UInt8)) (n : Nat) : ∀ l : List α, (∀ x ∈ l, (f x).length ≤ n) → (l.flatMap f).length ≤ n * l.length
  | [], _ => by simp
  | x :: r, h => by
    have h1 := h x List.mem_cons_self
    have h2 := flat_le f n r fun y hy => h y (List.mem_cons_of_mem _ hy)
    rw [List.flatMap_cons, List.length_append, List.length_cons, Nat.mul_succ]
    omega
theorem zoLs_len (z : Zo) : (zoLs z).length = z.eras.length + 1 := by unfold zoLs erLs; simp
theorem zonesUp_len {b : Bk} (h : bkChk b = 0) (k : Nat) : (zonesUp b k).length ≤ 15000 := by
  obtain ⟨h1, h2, -⟩ := bk_len h
  have h3 := flat_le zoLs 701 (b.zones.take k) fun z hz => by
    rw [zoLs_len]
    have := (bk_er h (List.mem_of_mem_take hz)).2
    omega
  have h4 : (b.zones.take k).length ≤ 20 := by rw [List.length_take]; omega
  have h5 : 701 * (b.zones.take k).length ≤ 701 * 20 := Nat.mul_le_mul_left _ h4
  unfold zonesUp
  rw [List.length_append, List.length_map]
  omega
theorem linksUp_len {b : Bk} (h : bkChk b = 0) (k : Nat) : (linksUp b k).length ≤ 15020 := by
  have h1 := zonesUp_len h b.zones.length
  rw [zonesUp_d] at h1
  unfold linksUp at h1 ⊢
  rw [List.length_append, List.length_map, List.length_take] at h1 ⊢
  have := (bk_len h).2.2
  omega
theorem nameS {s : ByteArray} (h : nameB s = true) : s.data.toList.length ≤ 20 := by
  unfold nameB at h
  simp only [Bool.and_eq_true] at h
  have := all_size h.1
  rw [← Lib.size_eq]
  omega
theorem line_le {b : Bk} (h : bkChk b = 0) : ∀ x ∈ bkLs b, x.length ≤ 600 := by
  intro x hx
  have hr := (bk_rules h).2
  unfold bkLs at hx
  rcases List.mem_append.1 hx with hx | hx
  · rcases List.mem_append.1 hx with hx | hx
    · obtain ⟨r, hm, rfl⟩ := List.mem_map.1 hx
      have := ruText_len (hr r hm)
      omega
    · obtain ⟨z, hz, hx⟩ := List.mem_flatMap.1 hx
      obtain ⟨i, hi, rfl⟩ := List.mem_iff_getElem.1 hz
      have ho := bk_zone h i hi
      rcases List.mem_cons.1 hx with rfl | hx
      · have := nameS ho.nm
        unfold zoH
        rw [List.length_append]
        show 5 + _ ≤ _
        omega
      · obtain ⟨k, hk, rfl⟩ := List.mem_map.1 hx
        have hk := List.mem_range.1 hk
        obtain ⟨h1, h2, h3⟩ := er_P (k := k) hr ((firstE_zero _ _).1 ho.er k (List.mem_range.2 hk))
        have := eraT_len h1 h2 h3
        omega
  · obtain ⟨l, hm, rfl⟩ := List.mem_map.1 hx
    obtain ⟨i, hi, rfl⟩ := List.mem_iff_getElem.1 hm
    have ho := (bk_parts h).2 i hi
    unfold linkChk at ho
    split at ho
    · cases ho
    · rename_i hn
      have h1 : nameB b.links[i].nm = true := by cases e : nameB b.links[i].nm with | true => rfl | false => exact absurd (.inl e) hn
      have h2 : nameB b.links[i].tg = true := by cases e : nameB b.links[i].tg with | true => rfl | false => exact absurd (.inr e) hn
      have h1 := nameS h1
      have h2 := nameS h2
      unfold lkL
      rw [List.length_append, List.length_append, List.length_append]
      show 5 + _ + 1 + _ ≤ _
      omega
theorem bkLs_len {b : Bk} (h : bkChk b = 0) : (bkLs b).length ≤ 15020 := by
  have := linksUp_len h b.links.length
  rwa [linksUp_d] at this
theorem bkText_len {b : Bk} (h : bkChk b = 0) : (bkText b).length ≤ 140737488355328 := by
  have h1 := join_len (bkLs b) 600 (line_le h)
  have h2 := bkLs_len h
  have h3 : 601 * (bkLs b).length ≤ 601 * 15020 := Nat.mul_le_mul_left _ h2
  unfold bkText
  omega
theorem strs_map (l : List (List UInt8)) : strs l = (l.map txt).flatMap stL := by
  induction l with
  | nil => rfl
  | cons x r ih =>
    show .string (txt x) :: strs r = .string (txt x) :: (r.map txt).flatMap stL
    rw [ih]
theorem join_out {B : Nat} {w1 W : World} {v : Value} {l : List (List UInt8)} (h : OutS B w1 W v l) (hn : l.length ≤ 100000) (hlen : (Lib.join l [10]).length ≤ 140737488355328) :
    Calls Tryz.prog 32 #[v, .string ⟨#[10]⟩] W fun e w' => e = .returned (.string (txt (Lib.join l [10]))) ∧ Below W.heap.size W w' := by
  have hr : RowsAt stL 1 W.heap.size W v (l.map txt) := own_rowsG (cells := stL) (k := 1) (fun _ => rfl) (l := l.map txt) (by rw [← strs_map, List.length_map]; exact h.row) (by rw [List.length_map]; exact hn)
  obtain ⟨p, cap, rfl, ⟨h1, h2⟩, hc⟩ := hr
  have em : (l.map txt).map (·.data.toList) = l := by
    rw [List.map_map]
    conv => rhs; rw [← List.map_id l]
    exact List.map_congr_left fun x _ => txt_data x
  match l, hlen, em, h1, h2, hc with
  | [], _, _, _, _, _ => exact (Any.strings_Join_none Tryz.lays156 Tryz.Builder_Extra_156 p cap _ W).mono fun e w' ⟨he, hw⟩ => ⟨he, hw ▸ Below.refl _ _⟩
  | x :: r, hlen, em, h1, h2, hc =>
    obtain ⟨b, o, rfl, hb, hcs⟩ := hc (by simp)
    have := Tryz.strings_Join b o cap ((x :: r).map txt) ⟨#[10]⟩ W (fun j y hj => by
      obtain ⟨hj2, rfl⟩ := List.getElem?_eq_some_iff.mp hj
      exact stL_at hcs j hj2) hb (by omega) h2 (by rw [em]; exact hlen)
    rw [em] at this
    exact this
theorem eraAt_inT (l : List Er) (k : Nat) (h : k < l.length) : eraAt l k = l[k] := by unfold eraAt; rw [List.getElem?_eq_getElem h]; rfl
theorem erasUp_len (l : List Er) (k : Nat) : (erasUp l k).length = k := by unfold erasUp; simp
set_option maxRecDepth 100000 in
set_option maxHeartbeats 20000000 in
theorem bookText_any (b : Bk) (rv zv lv : Value) (w : World) (hB : BookAt w.heap.size w rv zv lv b) (ht : Tab10 w) (ha : AscTab w) (hm : MaxLen w) :
    Calls Tryz.prog 9 #[.agg #[rv, zv, lv]] w fun e w' => e = .returned (.tuple #[.string (txt (if bkChk b = 0 then bkText b else [])), .int .i64 (bkChk b)]) ∧ Below w.heap.size w w' := by
  obtain ⟨p1, c1, rfl, hlen1, hrow1⟩ := hB.r
  obtain ⟨p2, c2, rfl, hlen2, hrow2⟩ := hB.z
  obtain ⟨p3, c3, rfl, hlen3, hrow3⟩ := hB.l
  obtain ⟨W0, eW⟩ : ∃ W0, w.alloc (.cells #[.slice p1 b.rules.length c1, .slice p2 b.zones.length c2, .slice p3 b.links.length c3] 26) = W0 := ⟨_, rfl⟩
  obtain ⟨b0, eb0⟩ : ∃ b0, w.heap.size = b0 := ⟨_, rfl⟩
  have hbx : W0.heap[b0]? = some (.cells #[.slice p1 b.rules.length c1, .slice p2 b.zones.length c2, .slice p3 b.links.length c3] 26 (0, 0)) := by rw [← eW]; exact alloc_at _ _ _ eb0.symm
  have hb0 : Below w.heap.size w W0 := by rw [← eW]; exact alB _ _
  have hl0 : b0 < W0.heap.size := (Array.getElem?_eq_some_iff.mp hbx).1
  have HBX : Hid (∀ W, Below W0.heap.size W0 W → W.cell? ⟨b0, 0, none⟩ = some (.slice p1 b.rules.length c1) ∧ W.cell? ⟨b0, 1, none⟩ = some (.slice p2 b.zones.length c2) ∧ W.cell? ⟨b0, 2, none⟩ = some (.slice p3 b.links.length c3)) := by
    show ∀ W, _
    intro W hb
    have hx := (hb.block b0 hl0).trans hbx
    exact ⟨(cell_of_row W _ 0 _ _ _ hx).trans rfl, (cell_of_row W _ 1 _ _ _ hx).trans rfl, (cell_of_row W _ 2 _ _ _ hx).trans rfl⟩
  have HW : Hid (∀ W, Below W0.heap.size W0 W → Below w.heap.size w W) := by
    show ∀ W, _
    intro W hb
    exact hb0.trans (hb.mono hb0.size)
  have HF : Hid (∀ W, Below W0.heap.size W0 W → Tab10 W ∧ AscTab W ∧ MaxLen W) := by
    show ∀ W, _
    intro W hb
    have h := hb0.trans (hb.mono hb0.size)
    exact ⟨ht.below h, ha.below h, hm.below h⟩
  have HCK := Lib.hid (bkCheck_any b _ _ _ W0 ((hB.below hb0 (Nat.le_refl _)).baseN hb0.size) (hm.below hb0) (ht.below hb0))
  have HRR := Lib.hid hrow1
  have HZR := Lib.hid hrow2
  have HLR := Lib.hid hrow3
  have HER := Lib.hid hB.e
  have HZS := Lib.hid hB.zs
  have HLS := Lib.hid hB.ls
  have HEW := Lib.hid eW
  have HEB := Lib.hid eb0
  obtain ⟨g0, g1, g2⟩ := HBX.out W0 (Below.refl _ _)
  clear eW hbx hb0 ht ha hm hrow1 hrow2 hrow3 hB
  by_cases hC : bkChk b = 0
  case neg =>
    rw [if_neg hC]
    obtain ⟨C, eC⟩ : ∃ C, bkChk b = C := ⟨_, rfl⟩
    rw [eC] at hC HCK ⊢
    have hz : (C == 0) = false := by simpa using hC
    have hzn : (C != 0) = true := by simpa using hC
    clear hC eC eb0
    go_enter Tryz.func9, Tryz.ntmps9
    go_upto_region 1 with fail
    rw [HEW.out, HEB.out]
    go_wp2_with fail
    refine HCK.out.mono ?_
    rintro e w1 ⟨rfl, hb1⟩
    have HB1 := Lib.hid (HW.out _ hb1)
    clear hb1
    go_wp2_with fail
    go_ret2
    exact ⟨rfl, HB1.out⟩
  rw [if_pos hC, hC]
  rw [hC] at HCK
  have HCC := Lib.hid hC
  obtain ⟨hl1, hoks⟩ := bk_rules hC
  have HOKS := Lib.hid hoks
  clear hC hoks eb0
  go_enter Tryz.func9, Tryz.ntmps9
  go_upto_region 1 with fail
  rw [HEW.out, HEB.out]
  go_wp2_with fail
  refine HCK.out.mono ?_
  rintro e w1 ⟨rfl, hb1⟩
  have HB1 := Lib.hid hb1
  obtain ⟨k0, k1, k2⟩ := HBX.out w1 hb1
  have hl2 : b0 < w1.heap.size := by have := hb1.size; omega
  have HL2 := Lib.hid hl2
  obtain ⟨i1, hi1, hz10, hz11, hz12⟩ := info_parts infoStrT
  clear hb1 g0 g1 g2 HCK
  go_wp2_with fail
  go_loopw [5, 24] (fun v5 i wr => ∃ k : Nat, k ≤ b.rules.length ∧ i = .int .i64 k ∧ Hid (OutS w1.heap.size w1 wr v5 (rulesUp b k))) (fun _ i _ => b.rules.length - (intOf i).toNat)
  case atStart => exact ⟨0, Nat.zero_le _, rfl, Lib.hid ⟨⟨rfl, .inl ⟨rfl, rfl⟩⟩, Below.refl _ _, Nat.le_refl _⟩⟩
  case round =>
    obtain ⟨k, hk, rfl, HO⟩ := hrel
    have hzr := HO.out.z
    by_cases hlt : k < b.rules.length
    · obtain ⟨bb, o, rfl, hbl, hcs⟩ := HRR.out (List.ne_nil_of_length_pos (by omega))
      have hck := hcs k hlt
      have hbw : Below w.heap.size w wr := HW.out wr (HB1.out.trans (HO.out.b.mono HB1.out.size))
      have up : ∀ j u, w.cell? ⟨bb, o + k * 11 + j, none⟩ = some u → wr.cell? ⟨bb, o + k * 11 + j, none⟩ = some u := fun j u h => (hbw.cell (p := ⟨bb, o + k * 11 + j, none⟩) hbl).trans h
      have HS := Lib.hid (rulesUp_s b k hlt)
      have HCL := Lib.hid (fun W (h : Below w1.heap.size w1 W) => ruText_ok b.rules[k] W (HOKS.out _ (List.getElem_mem hlt)) (HF.out W (HB1.out.trans (h.mono HB1.out.size))).1 (HF.out W (HB1.out.trans (h.mono HB1.out.size))).2.1)
      have hul : (rulesUp b k).length = k := by unfold rulesUp; simp; omega
      obtain ⟨q, eq⟩ : ∃ q, b.rules[k] = q := ⟨_, rfl⟩
      rw [eq] at hck HS HCL
      obtain ⟨U, eU⟩ : ∃ U, rulesUp b k = U := ⟨_, rfl⟩
      rw [eU] at HO HS hul
      obtain ⟨T, eT⟩ : ∃ T, ruText q = T := ⟨_, rfl⟩
      rw [eT] at HS HCL
      have HUL := Lib.hid hul
      clear eq eU eT hcs hul
      obtain ⟨nm, yf, yt, mo, dk, dw, dn, tm, ck, sv', lt⟩ := q
      have z0 := up 0 _ (hck 0 _ rfl)
      have z1 := up 1 _ (hck 1 _ rfl)
      have z2 := up 2 _ (hck 2 _ rfl)
      have z3 := up 3 _ (hck 3 _ rfl)
      have z4 := up 4 _ (hck 4 _ rfl)
      have z5 := up 5 _ (hck 5 _ rfl)
      have z6 := up 6 _ (hck 6 _ rfl)
      have z7 := up 7 _ (hck 7 _ rfl)
      have z8 := up 8 _ (hck 8 _ rfl)
      have z9 := up 9 _ (hck 9 _ rfl)
      have z10 := up 10 _ (hck 10 _ rfl)
      clear up hck hbw
      rw [Nat.add_zero] at z0
      obtain ⟨A5, a5, rfl⟩ := own_sliceN HO.out.row
      change Hid (∀ W, Below w1.heap.size w1 W → Calls _ _ #[.agg #[.string nm, .int .i64 yf, .int .i64 yt, .int .i64 mo, .int .i64 dk, .int .i64 dw, .int .i64 dn, .int .i64 tm, .int .i64 ck, .int .i64 sv', .string lt]] W _) at HCL
      go_wp2_with fail
      refine (HCL.out _ (HO.out.alloc _).b).mono ?_
      rintro e w3 ⟨rfl, hb3⟩
      have HO3 := Lib.hid ((HO.out.alloc _).below hb3)
      have HNEW := Lib.hid (World.news_of_block (cs := #[.string (txt T)]) (t := 9) (fr := (0, 0)) (heap_alloc_new w3 (.cells #[.string (txt T)] 9)))
      have HRO2 := Lib.hid (World.ownsRow.alloc HO3.out.row (.cells #[.string (txt T)] 9))
      have HML : U.length + 1 ≤ maxLen := by have := HUL.out; simp only [maxLen]; omega
      have HMB : (U.length + 1) * 16 ≤ 140737488355328 := by have := HUL.out; omega
      have HSZ : w1.heap.size ≤ (w3.alloc (.cells #[.string (txt T)] 9)).heap.size := by have := HO3.out.z; simp; omega
      clear hb3 HCL z0 z1 z2 z3 z4 z5 z6 z7 z8 z9 z10
      go_wp2_with (at_builtin; refine wpList_append_own _ rfl _ _ 83 rfl w1.heap.size 9 i1 (.string ⟨#[]⟩) 1 16 undStrT hi1 hz10 hz11 hz12 rfl (by decide) _ _ _ rfl HRO2.out ⟨w3.heap.size, 0, none⟩ 1 1 [.string (txt T)] rfl rfl HNEW.out (by simp [Value.oneCell']) HML HMB HSZ ?_; intro v' w10 hown10 hgrow10 _)
      have HO10 := Lib.hid (HO3.out.snoc hown10 hgrow10)
      go_roundw
      case rel => exact ⟨k + 1, by omega, by go_num, by rw [HS.out]; exact HO10⟩
      case measure => simp [intOf]; omega
    · obtain rfl : k = b.rules.length := by omega
      rw [rulesUp_d] at HO
      obtain ⟨y0, y1, y2⟩ := HBX.out wr (HB1.out.trans (HO.out.b.mono HB1.out.size))
      have hl3 : b0 < wr.heap.size := by have := HL2.out; omega
      clear k0 k1 k2
      go_wp2_with fail
      go_loopw [5, 41] (fun v5 i wr => ∃ k : Nat, k ≤ b.zones.length ∧ i = .int .i64 k ∧ Hid (OutS w1.heap.size w1 wr v5 (zonesUp b k))) (fun _ i _ => b.zones.length - (intOf i).toNat)
      case atStart => exact ⟨0, Nat.zero_le _, rfl, HO⟩
      case round =>
        clear y0 y1 y2 hl3 hzr HO
        obtain ⟨k, hk, rfl, HO⟩ := hrel
        have hzr := HO.out.z
        by_cases hlt : k < b.zones.length
        · obtain ⟨bb, o, rfl, hbl, hcs⟩ := HZR.out (List.ne_nil_of_length_pos (by omega))
          have hck := hcs k hlt
          have hbw : Below w.heap.size w wr := HW.out wr (HB1.out.trans (HO.out.b.mono HB1.out.size))
          have up : ∀ j u, w.cell? ⟨bb, o + k * 2 + j, none⟩ = some u → wr.cell? ⟨bb, o + k * 2 + j, none⟩ = some u := fun j u h => (hbw.cell (p := ⟨bb, o + k * 2 + j, none⟩) hbl).trans h
          have z0 := up 0 _ (hck 0 _ rfl)
          have z1 := up 1 _ (hck 1 _ rfl)
          rw [Nat.add_zero] at z0
          have hmem := List.getElem_mem hlt
          have hev := HER.out _ hmem
          have HZO := Lib.hid (bk_zone HCC.out k hlt)
          have HS := Lib.hid (zonesUp_s b k hlt)
          have hnl := (HZS.out _ hmem).1
          have HUL := Lib.hid (zonesUp_len HCC.out k)
          have HEP := Lib.hid (fun j (hj : j < b.zones[k].eras.length) => er_P (k := j) HOKS.out ((firstE_zero _ _).1 (HZO.out).er j (List.mem_range.2 hj)))
          obtain ⟨q, eq⟩ : ∃ q, b.zones[k] = q := ⟨_, rfl⟩
          rw [eq] at z0 z1 hev HZO HS hnl HEP
          obtain ⟨U, eU⟩ : ∃ U, zonesUp b k = U := ⟨_, rfl⟩
          rw [eU] at HO HS HUL
          clear eq eU hcs hck up hmem
          obtain ⟨nm, ev, es⟩ := q
          obtain ⟨pe, ce, ezv, hlene, hrowe⟩ := hev
          change ev = .slice pe es.length ce at ezv
          subst ezv
          change Hid (zonesUp b (k + 1) = (U ++ [zoH nm]) ++ erasUp es es.length) at HS
          change es.length ≤ 140737488351232 ∧ es.length ≤ ce at hlene
          change nm.size ≤ 140737488351232 at hnl
          have hel : es.length ≤ 700 := HZO.out.le
          have a1 : ∀ W, (Op.stringOp .add (⟨#[122, 111, 110, 101, 32]⟩ : ByteArray) nm).run Tryz.prog W = .ok (.string (txt (zoH nm))) W := fun W => add_txt [122, 111, 110, 101, 32] nm.data.toList (by rw [← Lib.size_eq]; show 5 + nm.size ≤ _; omega) W
          have HRE := Lib.hid hrowe
          obtain ⟨T, eT⟩ : ∃ T, zoH nm = T := ⟨_, rfl⟩
          rw [eT] at a1 HS
          obtain ⟨A5, a5, rfl⟩ := own_sliceN HO.out.row
          obtain ⟨W2, e2⟩ : ∃ W2, wr.alloc (.cells #[.string nm, .slice pe es.length ce] 46) = W2 := ⟨_, rfl⟩
          obtain ⟨zb, ezb⟩ : ∃ zb, wr.heap.size = zb := ⟨_, rfl⟩
          have hx2 : W2.heap[zb]? = some (.cells #[.string nm, .slice pe es.length ce] 46 (0, 0)) := by rw [← e2]; exact alloc_at _ _ _ ezb.symm
          have hl4 : zb < W2.heap.size := (Array.getElem?_eq_some_iff.mp hx2).1
          have HO2 : Hid (OutS w1.heap.size w1 W2 (.slice A5 U.length a5) U) := by
            show OutS _ _ _ _ _
            rw [← e2]; exact HO.out.alloc _
          have HX2 := Lib.hid hx2
          have HE2 := Lib.hid e2
          have HEZ := Lib.hid ezb
          have x0 : W2.cell? ⟨zb, 0, none⟩ = some (.string nm) := (cell_of_row W2 _ 0 _ _ _ hx2).trans rfl
          have HNEW := Lib.hid (World.news_of_block (cs := #[.string (txt T)]) (t := 9) (fr := (0, 0)) (heap_alloc_new W2 (.cells #[.string (txt T)] 9)))
          have HRO2 := Lib.hid (World.ownsRow.alloc HO2.out.row (.cells #[.string (txt T)] 9))
          have HML : U.length + 1 ≤ maxLen := by have := HUL.out; simp only [maxLen]; omega
          have HMB : (U.length + 1) * 16 ≤ 140737488355328 := by have := HUL.out; omega
          have HSZ : w1.heap.size ≤ (W2.alloc (.cells #[.string (txt T)] 9)).heap.size := by have := HO2.out.z; simp; omega
          have KG : Hid (∀ w10, (W2.alloc (.cells #[.string (txt T)] 9)).grownBy w10 (Value.slice A5 U.length a5).ownBlock → w10.heap[zb]? = some (.cells #[.string nm, .slice pe es.length ce] 46 (0, 0)) ∧ w10.cell? ⟨zb, 1, none⟩ = some (.slice pe es.length ce) ∧ zb < w10.heap.size) := by
            show ∀ w10, _
            intro w10 hg
            have h := HO2.out.box HX2.out (by decide) hg
            exact ⟨h, (cell_of_row w10 _ 1 _ _ _ h).trans rfl, (Array.getElem?_eq_some_iff.mp h).1⟩
          clear e2 ezb hx2 hrowe eT hbw hzr
          go_upto_region 14 with fail
          rw [HE2.out, HEZ.out]
          go_wp2_with (at_builtin; refine wpList_append_own _ rfl _ _ 83 rfl w1.heap.size 9 i1 (.string ⟨#[]⟩) 1 16 undStrT hi1 hz10 hz11 hz12 rfl (by decide) _ _ _ rfl HRO2.out ⟨W2.heap.size, 0, none⟩ 1 1 [.string (txt T)] rfl rfl HNEW.out (by simp [Value.oneCell']) HML HMB HSZ ?_; intro v' w10 hown10 hgrow10 _; obtain ⟨t0, t1, tl⟩ := KG.out _ hgrow10)
          have HO10 := Lib.hid (HO2.out.snoc hown10 hgrow10)
          have HT0 := Lib.hid t0
          clear hown10 hgrow10 t0 t1 tl z0 z1 x0 hl4 a1
          go_loopw [5, 54] (fun v5 i wr => ∃ j : Nat, j ≤ es.length ∧ i = .int .i64 j ∧ Hid (OutS w1.heap.size w1 wr v5 ((U ++ [T]) ++ erasUp es j)) ∧ Hid (wr.heap[zb]? = some (.cells #[.string nm, .slice pe es.length ce] 46 (0, 0)))) (fun _ i _ => es.length - (intOf i).toNat)
          case atStart =>
            refine ⟨0, Nat.zero_le _, rfl, ?_, HT0⟩
            show OutS _ _ _ _ ((U ++ [T]) ++ [])
            rw [List.append_nil]
            exact HO10.out
          case round =>
            obtain ⟨j, hj, rfl, HOe, HXe⟩ := hrel
            by_cases hjl : j < es.length
            · obtain ⟨b2, o2, rfl, hb2, hce⟩ := HRE.out (List.ne_nil_of_length_pos (by omega))
              have hck := hce j hjl
              have hbw : Below w.heap.size w wr := HW.out wr (HB1.out.trans (HOe.out.b.mono HB1.out.size))
              have up : ∀ i u, w.cell? ⟨b2, o2 + j * 5 + i, none⟩ = some u → wr.cell? ⟨b2, o2 + j * 5 + i, none⟩ = some u := fun i u h => (hbw.cell (p := ⟨b2, o2 + j * 5 + i, none⟩) hb2).trans h
              have z0 := up 0 _ (hck 0 _ rfl)
              have z1 := up 1 _ (hck 1 _ rfl)
              have z2 := up 2 _ (hck 2 _ rfl)
              have z3 := up 3 _ (hck 3 _ rfl)
              have z4 := up 4 _ (hck 4 _ rfl)
              rw [Nat.add_zero] at z0
              have hep := HEP.out j hjl
              rw [eraAt_inT _ _ hjl] at hep
              have hes := erasUp_s es j
              rw [eraAt_inT _ _ hjl] at hes
              have HCL := Lib.hid (fun W (h : Below w1.heap.size w1 W) => eraText_any es[j] (decide (j + 1 = es.length)) W hep.1 (HF.out W (HB1.out.trans (h.mono HB1.out.size))).1)
              have HEL := Lib.hid (erasUp_len es j)
              obtain ⟨V, eV⟩ : ∃ V, erasUp es j = V := ⟨_, rfl⟩
              rw [eV] at HOe hes HEL
              have HLN := Lib.hid (show ((U ++ [T]) ++ V).length ≤ 15000 + 1 + 700 by have := HUL.out; have := HEL.out; rw [List.length_append, List.length_append]; show _ + 1 + _ ≤ _; omega)
              obtain ⟨Y, eY⟩ : ∃ Y, (U ++ [T]) ++ V = Y := ⟨_, rfl⟩
              rw [eY] at HOe HLN
              have HEY := Lib.hid eY
              obtain ⟨last, elast⟩ : ∃ last, decide (j + 1 = es.length) = last := ⟨_, rfl⟩
              rw [elast] at hes HCL
              have hle : ((j : Int) == (es.length : Int) - 1) = last := by
                rw [← elast]
                by_cases g : j + 1 = es.length
                · rw [decide_eq_true g]; simp; omega
                · rw [decide_eq_false g]; simp; omega
              have hle2 : decide ((j : Int) = (es.length : Int) - 1) = last := by rw [← hle]; rfl
              have hw1 : wrap64 ((es.length : Int) - 1) = (es.length : Int) - 1 := by unfold wrap64; omega
              obtain ⟨x, ex⟩ : ∃ x, es[j] = x := ⟨_, rfl⟩
              rw [ex] at z0 z1 z2 z3 z4 HCL hes
              obtain ⟨S, eS⟩ : ∃ S, eraT x last = S := ⟨_, rfl⟩
              rw [eS] at HCL hes
              have HES := Lib.hid hes
              clear hes eV elast ex eS hce hck up hep hbw eY
              obtain ⟨off, ru, sv, fm, un⟩ := x
              obtain ⟨W3, e3⟩ : ∃ W3, wr.alloc (.cells #[.int .i64 off, .string ru, .int .i64 sv, .string fm, .int .i64 un] 43) = W3 := ⟨_, rfl⟩
              obtain ⟨eb, eeb⟩ : ∃ eb, wr.heap.size = eb := ⟨_, rfl⟩
              have hx3 : W3.heap[eb]? = some (.cells #[.int .i64 off, .string ru, .int .i64 sv, .string fm, .int .i64 un] 43 (0, 0)) := by rw [← e3]; exact alloc_at _ _ _ eeb.symm
              obtain ⟨A6, a6, eA6⟩ := own_sliceN HOe.out.row
              subst eA6
              have hoe3 : OutS w1.heap.size w1 W3 (.slice A6 Y.length a6) Y := by rw [← e3]; exact HOe.out.alloc _
              have hxe3 : W3.heap[zb]? = some (.cells #[.string nm, .slice (some ⟨b2, o2, none⟩) es.length ce] 46 (0, 0)) := by rw [← e3]; exact (Below.heap_alloc wr _ zb (Array.getElem?_eq_some_iff.mp HXe.out).1).trans HXe.out
              have x0 : W3.cell? ⟨eb, 0, none⟩ = some (.int .i64 off) := (cell_of_row W3 _ 0 _ _ _ hx3).trans rfl
              have x1 : W3.cell? ⟨eb, 1, none⟩ = some (.string ru) := (cell_of_row W3 _ 1 _ _ _ hx3).trans rfl
              have x2 : W3.cell? ⟨eb, 2, none⟩ = some (.int .i64 sv) := (cell_of_row W3 _ 2 _ _ _ hx3).trans rfl
              have x3 : W3.cell? ⟨eb, 3, none⟩ = some (.string fm) := (cell_of_row W3 _ 3 _ _ _ hx3).trans rfl
              have x4 : W3.cell? ⟨eb, 4, none⟩ = some (.int .i64 un) := (cell_of_row W3 _ 4 _ _ _ hx3).trans rfl
              have x5 : W3.cell? ⟨zb, 1, none⟩ = some (.slice (some ⟨b2, o2, none⟩) es.length ce) := (cell_of_row W3 _ 1 _ _ _ hxe3).trans rfl
              have HE3 := Lib.hid e3
              have HEE := Lib.hid eeb
              have HO3 := Lib.hid hoe3
              have HX3 := Lib.hid hxe3
              have hl5 : eb < W3.heap.size := (Array.getElem?_eq_some_iff.mp hx3).1
              have hl6 : zb < W3.heap.size := (Array.getElem?_eq_some_iff.mp hxe3).1
              clear e3 eeb hoe3 hxe3 hx3
              change Hid (∀ W, Below w1.heap.size w1 W → Calls _ _ #[.agg #[.int .i64 off, .string ru, .int .i64 sv, .string fm, .int .i64 un], .bool last] W _) at HCL
              go_upto_region 18 with fail
              rw [HE3.out, HEE.out]
              go_wp2_with fail
              refine (HCL.out _ HO3.out.b).mono ?_
              rintro e w4 ⟨rfl, hb4⟩
              have HO4 := Lib.hid (HO3.out.below hb4)
              have HX4 := Lib.hid ((hb4.block zb hl6).trans HX3.out)
              have HNEW := Lib.hid (World.news_of_block (cs := #[.string (txt S)]) (t := 9) (fr := (0, 0)) (heap_alloc_new w4 (.cells #[.string (txt S)] 9)))
              have HRO2 := Lib.hid (World.ownsRow.alloc HO4.out.row (.cells #[.string (txt S)] 9))
              have HML : Y.length + 1 ≤ maxLen := by have := HLN.out; simp only [maxLen]; omega
              have HMB : (Y.length + 1) * 16 ≤ 140737488355328 := by have := HLN.out; omega
              have HSZ : w1.heap.size ≤ (w4.alloc (.cells #[.string (txt S)] 9)).heap.size := by have := HO4.out.z; simp; omega
              clear hb4 HCL z0 z1 z2 z3 z4 x0 x1 x2 x3 x4 x5 hl5 hl6 hw1 hle hle2
              go_wp2_with (at_builtin; refine wpList_append_own _ rfl _ _ 83 rfl w1.heap.size 9 i1 (.string ⟨#[]⟩) 1 16 undStrT hi1 hz10 hz11 hz12 rfl (by decide) _ _ _ rfl HRO2.out ⟨w4.heap.size, 0, none⟩ 1 1 [.string (txt S)] rfl rfl HNEW.out (by simp [Value.oneCell']) HML HMB HSZ ?_; intro v' w10 hown10 hgrow10 _)
              have HX10 := Lib.hid (HO4.out.box HX4.out (by decide) hgrow10)
              have HO10 := Lib.hid (HO4.out.snoc hown10 hgrow10)
              go_roundw
              case rel => exact ⟨j + 1, by omega, by go_num, by rw [HES.out, ← List.append_assoc, HEY.out]; exact HO10, HX10⟩
              case measure => simp [intOf]; omega
            · obtain rfl : j = es.length := by omega
              go_wp2_with fail
              go_roundw
              case rel => exact ⟨k + 1, by omega, by go_num, by rw [HS.out]; exact HOe⟩
              case measure => simp [intOf]; omega
        · obtain rfl : k = b.zones.length := by omega
          rw [zonesUp_d] at HO
          obtain ⟨y0, y1, y2⟩ := HBX.out wr (HB1.out.trans (HO.out.b.mono HB1.out.size))
          have hl3 : b0 < wr.heap.size := by have := HL2.out; omega
          go_wp2_with fail
          go_loopw [5, 75] (fun v5 i wr => ∃ k : Nat, k ≤ b.links.length ∧ i = .int .i64 k ∧ Hid (OutS w1.heap.size w1 wr v5 (linksUp b k))) (fun _ i _ => b.links.length - (intOf i).toNat)
          case atStart => exact ⟨0, Nat.zero_le _, rfl, HO⟩
          case round =>
            clear y0 y1 y2 hl3 hzr HO
            obtain ⟨k, hk, rfl, HO⟩ := hrel
            have hzr := HO.out.z
            by_cases hlt : k < b.links.length
            · obtain ⟨bb, o, rfl, hbl, hcs⟩ := HLR.out (List.ne_nil_of_length_pos (by omega))
              have hck := hcs k hlt
              have hbw : Below w.heap.size w wr := HW.out wr (HB1.out.trans (HO.out.b.mono HB1.out.size))
              have up : ∀ j u, w.cell? ⟨bb, o + k * 2 + j, none⟩ = some u → wr.cell? ⟨bb, o + k * 2 + j, none⟩ = some u := fun j u h => (hbw.cell (p := ⟨bb, o + k * 2 + j, none⟩) hbl).trans h
              have z0 := up 0 _ (hck 0 _ rfl)
              have z1 := up 1 _ (hck 1 _ rfl)
              rw [Nat.add_zero] at z0
              have hmem := List.getElem_mem hlt
              have HS := Lib.hid (linksUp_s b k hlt)
              obtain ⟨hn1, hn2⟩ := HLS.out _ hmem
              have HUL := Lib.hid (linksUp_len HCC.out k)
              obtain ⟨q, eq⟩ : ∃ q, b.links[k] = q := ⟨_, rfl⟩
              rw [eq] at z0 z1 HS hn1 hn2
              obtain ⟨U, eU⟩ : ∃ U, linksUp b k = U := ⟨_, rfl⟩
              rw [eU] at HO HS HUL
              clear eq eU hcs hck up hmem hbw
              obtain ⟨nm, tg⟩ := q
              change nm.size ≤ 140737488351232 at hn1
              change tg.size ≤ 140737488351232 at hn2
              have e1 : nm.data.toList.length = nm.size := (Lib.size_eq nm).symm
              have e2 : tg.data.toList.length = tg.size := (Lib.size_eq tg).symm
              have a1 : ∀ W, (Op.stringOp .add (⟨#[108, 105, 110, 107, 32]⟩ : ByteArray) nm).run Tryz.prog W = .ok (.string (txt ([108, 105, 110, 107, 32] ++ nm.data.toList))) W := fun W => add_txt [108, 105, 110, 107, 32] nm.data.toList (by rw [e1]; show 5 + nm.size ≤ _; omega) W
              have a2 : ∀ W, (Op.stringOp .add (txt ([108, 105, 110, 107, 32] ++ nm.data.toList)) (⟨#[32]⟩ : ByteArray)).run Tryz.prog W = .ok (.string (txt (([108, 105, 110, 107, 32] ++ nm.data.toList) ++ [32]))) W := fun W => add_txt _ [32] (by rw [List.length_append, e1]; show 5 + nm.size + 1 ≤ _; omega) W
              have a3 : ∀ W, (Op.stringOp .add (txt (([108, 105, 110, 107, 32] ++ nm.data.toList) ++ [32])) tg).run Tryz.prog W = .ok (.string (txt (lkL ⟨nm, tg⟩))) W := fun W => add_txt _ tg.data.toList (by rw [List.length_append, List.length_append, e1, e2]; show 5 + nm.size + 1 + tg.size ≤ _; omega) W
              obtain ⟨T, eT⟩ : ∃ T, lkL ⟨nm, tg⟩ = T := ⟨_, rfl⟩
              rw [eT] at a3 HS
              obtain ⟨T2, eT2⟩ : ∃ T, ([108, 105, 110, 107, 32] ++ nm.data.toList) ++ [32] = T := ⟨_, rfl⟩
              rw [eT2] at a2 a3
              obtain ⟨T1, eT1⟩ : ∃ T, [108, 105, 110, 107, 32] ++ nm.data.toList = T := ⟨_, rfl⟩
              rw [eT1] at a1 a2
              obtain ⟨A5, a5, rfl⟩ := own_sliceN HO.out.row
              obtain ⟨W2, ew2⟩ : ∃ W2, wr.alloc (.cells #[.string nm, .string tg] 91) = W2 := ⟨_, rfl⟩
              obtain ⟨zb, ezb⟩ : ∃ zb, wr.heap.size = zb := ⟨_, rfl⟩
              have hx2 : W2.heap[zb]? = some (.cells #[.string nm, .string tg] 91 (0, 0)) := by rw [← ew2]; exact alloc_at _ _ _ ezb.symm
              have hl4 : zb < W2.heap.size := (Array.getElem?_eq_some_iff.mp hx2).1
              have HO2 : Hid (OutS w1.heap.size w1 W2 (.slice A5 U.length a5) U) := by
                show OutS _ _ _ _ _
                rw [← ew2]; exact HO.out.alloc _
              have HE2 := Lib.hid ew2
              have HEZ := Lib.hid ezb
              have x0 : W2.cell? ⟨zb, 0, none⟩ = some (.string nm) := (cell_of_row W2 _ 0 _ _ _ hx2).trans rfl
              have x1 : W2.cell? ⟨zb, 1, none⟩ = some (.string tg) := (cell_of_row W2 _ 1 _ _ _ hx2).trans rfl
              have HNEW := Lib.hid (World.news_of_block (cs := #[.string (txt T)]) (t := 9) (fr := (0, 0)) (heap_alloc_new W2 (.cells #[.string (txt T)] 9)))
              have HRO2 := Lib.hid (World.ownsRow.alloc HO2.out.row (.cells #[.string (txt T)] 9))
              have HML : U.length + 1 ≤ maxLen := by have := HUL.out; simp only [maxLen]; omega
              have HMB : (U.length + 1) * 16 ≤ 140737488355328 := by have := HUL.out; omega
              have HSZ : w1.heap.size ≤ (W2.alloc (.cells #[.string (txt T)] 9)).heap.size := by have := HO2.out.z; simp; omega
              clear ew2 ezb hx2 eT eT1 eT2 hzr e1 e2 hn1 hn2
              go_upto_region 24 with fail
              rw [HE2.out, HEZ.out]
              go_wp2_with (at_builtin; refine wpList_append_own _ rfl _ _ 83 rfl w1.heap.size 9 i1 (.string ⟨#[]⟩) 1 16 undStrT hi1 hz10 hz11 hz12 rfl (by decide) _ _ _ rfl HRO2.out ⟨W2.heap.size, 0, none⟩ 1 1 [.string (txt T)] rfl rfl HNEW.out (by simp [Value.oneCell']) HML HMB HSZ ?_; intro v' w10 hown10 hgrow10 _)
              have HO10 := Lib.hid (HO2.out.snoc hown10 hgrow10)
              go_roundw
              case rel => exact ⟨k + 1, by omega, by go_num, by rw [HS.out]; exact HO10⟩
              case measure => simp [intOf]; omega
            · obtain rfl : k = b.links.length := by omega
              rw [linksUp_d] at HO
              have HJ := Lib.hid (join_out HO.out (by have := bkLs_len HCC.out; omega) (bkText_len HCC.out))
              go_wp2_with fail
              refine HJ.out.mono ?_
              rintro e w9 ⟨rfl, hb9⟩
              have HFN := Lib.hid (HW.out w9 (HB1.out.trans ((HO.out.b.trans (hb9.mono HO.out.z)).mono HB1.out.size)))
              clear hb9 HJ
              go_wp2_with fail
              go_ret2
              exact ⟨rfl, HFN.out⟩
end Go.Proofs.YtomahddiclkepaaGreatDoor
namespace Go.Proofs.YtomahddiclkepaaGreatDoor
open Go.RowKit Go.Joins
open Classical
set_option linter.unusedVariables false
set_option linter.unusedSimpArgs false

theorem zosE_map : ∀ (zs : List (ByteArray × List Er)) (evs : List Value), zs.length = evs.length → (zosE zs evs).map (fun z => (z.nm, z.eras)) = zs := by
  intro zs evs h
  refine List.ext_getElem (by rw [List.length_map, zosE_len _ _ h]) fun i h1 h2 => ?_
  rw [List.getElem_map, zosE_get _ _ h i (by rw [zosE_len _ _ h]; exact h2) (by omega)]
  unfold zD
  rw [List.getD_eq_getElem?_getD, List.getElem?_eq_getElem h2]
  rfl
theorem zosE_bkS (st : RdS) (evs : List Value) (h : st.zones.length = evs.length) : (⟨st.rules, zosE st.zones evs, st.links⟩ : Bk) = bkS st fun i => evs.getD i undef := by
  unfold bkS
  congr 1
  refine List.ext_getElem (by rw [zosE_len _ _ h]; simp) fun i h1 h2 => ?_
  have hi : i < st.zones.length := by rw [zosE_len _ _ h] at h1; exact h1
  rw [zosE_get _ _ h i h1 (by omega), List.getElem_map, List.getElem_zipIdx]
  have e1 : zD st.zones i = st.zones[i] := by unfold zD; rw [List.getD_eq_getElem?_getD, List.getElem?_eq_getElem hi]; rfl
  rw [e1]
  simp [List.getElem?_eq_getElem (show i < evs.length by omega)]
theorem bkChk_bkS (st : RdS) (evs : List Value) (h : st.zones.length = evs.length) : bkChk ⟨st.rules, zosE st.zones evs, st.links⟩ = bkChk (bkS st fun _ => undef) := by
  rw [← bkChk_clr st.rules (zosE st.zones evs) st.links]
  congr 1
  unfold bkS
  congr 1
  refine List.ext_getElem (by rw [List.length_map, zosE_len _ _ h]; simp) fun i h1 h2 => ?_
  have hi : i < st.zones.length := by rw [List.length_map, zosE_len _ _ h] at h1; exact h1
  rw [List.getElem_map, zosE_get _ _ h i (by rw [zosE_len _ _ h]; exact hi) (by omega), List.getElem_map, List.getElem_zipIdx]
  have e1 : zD st.zones i = st.zones[i] := by unfold zD; rw [List.getD_eq_getElem?_getD, List.getElem?_eq_getElem hi]; rfl
  rw [e1]
  rfl
theorem parse_err {s : List UInt8} {st : RdS} {n : Nat} {C : Int} (h : parseF s = (st, n, C)) (hC : C ≠ 0) : st = rd0 := by
  unfold parseF at h
  split at h
  · injection h with h _; exact h.symm
  split at h
  · injection h with h _; exact h.symm
  split at h
  · injection h with h _; exact h.symm
  split at h
  · injection h with h _; exact h.symm
  split at h
  · injection h with h _; exact h.symm
  injection h with _ h; injection h with _ h
  exact absurd h.symm hC
/-- what Parse answers, opened -/
theorem ps_open {R : RdS × Nat × Int} {w w' : World} {e : Ending} (h : PsPost R w e w') : Below w.heap.size w w' ∧ ∃ p1 c1 p2 c2 p3 c3 evs, e = .returned (.tuple #[.agg #[.slice p1 R.1.rules.length c1, .slice p2 R.1.zones.length c2, .slice p3 R.1.links.length c3], .int .i64 (R.2.1 : Int), .int .i64 R.2.2]) ∧ R.1.zones.length = evs.length ∧ BookAt w'.heap.size w' (.slice p1 R.1.rules.length c1) (.slice p2 R.1.zones.length c2) (.slice p3 R.1.links.length c3) ⟨R.1.rules, zosE R.1.zones evs, R.1.links⟩ := by
  obtain ⟨hb, rv, zv, lv, evs, rfl, hel, hbk⟩ := h
  obtain ⟨p1, c1, e1, -, -⟩ := hbk.r
  obtain ⟨p2, c2, e2, -, -⟩ := hbk.z
  obtain ⟨p3, c3, e3, -, -⟩ := hbk.l
  have e2 : zv = .slice p2 R.1.zones.length c2 := by rw [e2]; show Value.slice p2 (zosE R.1.zones evs).length c2 = _; rw [zosE_len _ _ hel]
  subst e1; subst e2; subst e3
  exact ⟨hb, _, _, _, _, _, _, evs, rfl, hel, hbk⟩
theorem emptyB (W : World) (B : Nat) : BookAt B W (.slice none 0 0) (.slice none 0 0) (.slice none 0 0) ⟨[], [], []⟩ :=
  ⟨rows_nilP, rows_nilP, fun z hz => absurd hz (List.not_mem_nil), rows_nilP, fun z hz => absurd hz (List.not_mem_nil), fun z hz => absurd hz (List.not_mem_nil), fun z hz => absurd hz (List.not_mem_nil)⟩
set_option maxRecDepth 100000 in
set_option maxHeartbeats 8000000 in
theorem BookBack_walk (b : Bk) (rv zv lv : Value) (s : ByteArray) (w : World) (hB : BookAt w.heap.size w rv zv lv b) (hs : s.size ≤ 140737488351232) (ht : Tab10 w) (ha : AscTab w) (hn : NumErrs w) (hm : MaxLen w) :
    Calls Tryz.prog 3 #[.agg #[rv, zv, lv], .string s] w fun e w' => e = .returned (.bool true) ∧ Below w.heap.size w w' := by
  obtain ⟨a, rfl⟩ : ∃ a, s = txt a := ⟨s.data.toList, by unfold txt; simp⟩
  rw [txt_size] at hs
  have HBD := Lib.hid (fun W (h : Below w.heap.size w W) => booked_any W (ht.below h) (ha.below h) (hn.below h) (hm.below h))
  have HTX := Lib.hid (fun c r z l W (h : Below w.heap.size w W) hb => bookText_any c r z l W hb (ht.below h) (ha.below h) (hm.below h))
  have HCK := Lib.hid (fun c r z l W (h : Below w.heap.size w W) hb => bkCheck_any c r z l W hb (hm.below h) (ht.below h))
  have HPA := Lib.hid (fun x W (h : Below w.heap.size w W) hl => bookParse_any x W hl (ht.below h) (ha.below h) (hn.below h) (hm.below h))
  have HBK := Lib.hid (fun W (h : Below w.heap.size w W) => (hB.below h (Nat.le_refl _)).monoQ h.size)
  have HLA := Lib.hid (fun h1 h2 => parse_text (b := b) h1 h2 w ht ha hn hm)
  obtain ⟨p1, c1, rfl, hlen1, -⟩ := hB.r
  obtain ⟨p2, c2, rfl, hlen2, -⟩ := hB.z
  obtain ⟨p3, c3, rfl, hlen3, -⟩ := hB.l
  obtain ⟨W0, eW⟩ : ∃ W0, w.alloc (.cells #[.slice p1 b.rules.length c1, .slice p2 b.zones.length c2, .slice p3 b.links.length c3] 26) = W0 := ⟨_, rfl⟩
  have hx0 : W0.heap[w.heap.size]? = some (.cells #[.slice p1 b.rules.length c1, .slice p2 b.zones.length c2, .slice p3 b.links.length c3] 26 (0, 0)) := by rw [← eW]; exact heap_alloc_new w _
  have hb0 : Below w.heap.size w W0 := by rw [← eW]; exact alB _ _
  have HBX : Hid (∀ W, Below W0.heap.size W0 W → Below w.heap.size w W ∧ W.cell? ⟨w.heap.size, 0, none⟩ = some (.slice p1 b.rules.length c1) ∧ W.cell? ⟨w.heap.size, 1, none⟩ = some (.slice p2 b.zones.length c2) ∧ W.cell? ⟨w.heap.size, 2, none⟩ = some (.slice p3 b.links.length c3)) := by
    show ∀ W, _
    intro W hb
    have hx := (hb.block w.heap.size (Array.getElem?_eq_some_iff.mp hx0).1).trans hx0
    exact ⟨hb0.trans (hb.mono hb0.size), (cell_of_row W _ 0 _ _ _ hx).trans rfl, (cell_of_row W _ 1 _ _ _ hx).trans rfl, (cell_of_row W _ 2 _ _ _ hx).trans rfl⟩
  have hzl : w.heap.size < W0.heap.size := (Array.getElem?_eq_some_iff.mp hx0).1
  have HEW := Lib.hid eW
  obtain ⟨hA0, x0, x1, x2⟩ := HBX.out W0 (Below.refl _ _)
  have HA0 := Lib.hid hA0
  obtain ⟨C, eC⟩ : ∃ C, bkChk b = C := ⟨_, rfl⟩
  have HTX1 := Lib.hid (fun W h => HTX.out b _ _ _ W h (HBK.out W h))
  have HCK1 := Lib.hid (fun W h => HCK.out b _ _ _ W h (HBK.out W h))
  rw [eC] at HTX1 HCK1 HLA
  obtain ⟨T, eT⟩ : ∃ T, (if C = 0 then bkText b else []) = T := ⟨_, rfl⟩
  rw [eT] at HTX1
  have HTT : Hid (C = 0 → T = bkText b) := by
    show C = 0 → _
    intro h
    rw [← eT, if_pos h]
  have hTs := txt_size T
  have hqq : ((C == 0) != (C == 0)) = false := by cases (C == 0) <;> rfl
  clear hB ht ha hn hm eW hx0 hb0 hA0 eC eT HCK
  go_enter Tryz.func3, Tryz.ntmps3
  go_upto_region 1 with fail
  rw [HEW.out]
  go_wp2_with fail
  refine (HBD.out _ HA0.out).mono ?_
  rintro e w1 ⟨rfl, hb1⟩
  have HB1 := Lib.hid (hb1)
  clear x0 x1 x2 hb1
  obtain ⟨hA1, x0, x1, x2⟩ := HBX.out w1 HB1.out
  have HA1 := Lib.hid hA1
  clear hA1
  go_wp2_with fail
  refine (HTX1.out w1 HA1.out).mono ?_
  rintro e w2 ⟨rfl, hb2⟩
  have HB2 := Lib.hid (HB1.out.trans (hb2.mono HB1.out.size))
  clear x0 x1 x2 hb2
  obtain ⟨hA2, x0, x1, x2⟩ := HBX.out w2 HB2.out
  have HA2 := Lib.hid hA2
  clear hA2
  have hz2 := HB2.out.size
  go_wp2_with fail
  refine (HCK1.out w2 HA2.out).mono ?_
  rintro e w3 ⟨rfl, hb3⟩
  have HB3 := Lib.hid (HB2.out.trans (hb3.mono HB2.out.size))
  clear x0 x1 x2 hb3 hz2
  obtain ⟨hA3, x0, x1, x2⟩ := HBX.out w3 HB3.out
  have HA3 := Lib.hid hA3
  clear hA3
  have hz3 := HB3.out.size
  go_upto_region 6 with fail
  go_cut [32] (fun s32 wx => ∃ q : Bool, s32 = .bool q ∧ (q = true → C = 0 ∧ T.length ≤ 60000) ∧ wx = w3)
  case first =>
    by_cases hC : C = 0
    · subst hC
      go_wp2_with fail
      go_meet
      exact ⟨_, rfl, fun h => ⟨by simp, by have := of_decide_eq_true h; omega⟩, by simp⟩
    · have hz : (C == 0) = false := by simpa using hC
      go_wp2_with fail
      go_meet
      exact ⟨false, rfl, fun h => (by cases h), by simp⟩
  case rest =>
  obtain ⟨q, rfl, hq, rfl⟩ := hcut
  have HQ := Lib.hid hq
  clear hq
  go_upto_if 32 with fail
  go_cut [] (fun wx => Below W0.heap.size W0 wx)
  case first =>
    cases q with
    | false =>
      go_wp2_with fail
      go_meet
      exact HB3.out
    | true =>
      obtain ⟨rfl, hl⟩ := HQ.out rfl
      have eT := HTT.out rfl
      obtain ⟨sg, hpf⟩ := HLA.out rfl (by rw [← eT]; exact hl)
      have hps := HPA.out T wc HA3.out (by omega)
      rw [eT, hpf, ← eT] at hps
      have HPS := Lib.hid hps
      clear hps hpf eT
      go_wp2_with fail
      refine HPS.out.mono ?_
      intro e w4 hpost
      obtain ⟨hb4, p4, c4, p5, c5, p6, c6, evs, rfl, hel, hbk⟩ := ps_open hpost
      simp only [List.length_map] at hbk ⊢
      simp only at hel
      have hb34 : Below W0.heap.size W0 w4 := HB3.out.trans (hb4.mono HB3.out.size)
      obtain ⟨b5, e5'⟩ : ∃ b5, w4.heap.size = b5 := ⟨_, rfl⟩
      obtain ⟨W5, e5⟩ : ∃ W5, w4.alloc (.cells #[.slice p4 b.rules.length c4, .slice p5 b.zones.length c5, .slice p6 b.links.length c6] 26) = W5 := ⟨_, rfl⟩
      have hx5 : W5.heap[b5]? = some (.cells #[.slice p4 b.rules.length c4, .slice p5 b.zones.length c5, .slice p6 b.links.length c6] 26 (0, 0)) := by rw [← e5]; exact alloc_at _ _ _ e5'.symm
      have hb5 : Below w4.heap.size w4 W5 := by rw [← e5]; exact alB _ _
      have HB5 := Lib.hid (hb34.trans (hb5.mono hb34.size))
      have y0 := (cell_of_row W5 _ 0 _ _ _ hx5).trans rfl
      have y1 := (cell_of_row W5 _ 1 _ _ _ hx5).trans rfl
      have y2 := (cell_of_row W5 _ 2 _ _ _ hx5).trans rfl
      have hz5 := HB5.out.size
      have hz55 : b5 < W5.heap.size := (Array.getElem?_eq_some_iff.mp hx5).1
      clear x0 x1 x2
      obtain ⟨hA5, x0, x1, x2⟩ := HBX.out W5 HB5.out
      have hq1 := BookEq_self b _ _ _ _ _ _ _ W5 (HBK.out W5 hA5) ((hbk.below hb5 (Nat.le_refl _)).monoQ hb5.size) rfl rfl (zosE_map _ _ hel)
      have HEQ := Lib.hid hq1
      have HE5 := Lib.hid e5
      have HF5 := Lib.hid e5'
      clear hpost hb4 hel hbk hx5 hb5 hA5 hq1 e5 e5' hb34
      go_upto_region 8 with fail
      rw [HF5.out, HE5.out]
      go_wp2_with fail
      refine HEQ.out.mono ?_
      rintro e w6 ⟨rfl, hb6⟩
      have HB6 := Lib.hid (HB5.out.trans (hb6.mono HB5.out.size))
      clear hb6
      go_wp2_with fail
      go_meet
      exact HB6.out
  case rest =>
  have HBC := Lib.hid hcut
  have hzc := hcut.size
  clear hcut x0 x1 x2
  obtain ⟨hAc, -, -, -⟩ := HBX.out wc HBC.out
  have HAC := Lib.hid hAc
  obtain ⟨R, eR⟩ : ∃ R, parseF a = R := ⟨_, rfl⟩
  have hps := HPA.out a wc hAc hs
  rw [eR] at hps
  obtain ⟨st, n, D⟩ := R
  have HPS := Lib.hid hps
  clear hps hAc
  go_wp2_with fail
  refine HPS.out.mono ?_
  intro e w4 hpost
  obtain ⟨hb4, p4, c4, p5, c5, p6, c6, evs, rfl, hel, hbk⟩ := ps_open hpost
  simp only at hel hbk ⊢
  have hbc4 : Below W0.heap.size W0 w4 := HBC.out.trans (hb4.mono HBC.out.size)
  obtain ⟨b5, e5'⟩ : ∃ b5, w4.heap.size = b5 := ⟨_, rfl⟩
  obtain ⟨W5, e5⟩ : ∃ W5, w4.alloc (.cells #[.slice p4 st.rules.length c4, .slice p5 st.zones.length c5, .slice p6 st.links.length c6] 26) = W5 := ⟨_, rfl⟩
  have hx5 : W5.heap[b5]? = some (.cells #[.slice p4 st.rules.length c4, .slice p5 st.zones.length c5, .slice p6 st.links.length c6] 26 (0, 0)) := by rw [← e5]; exact alloc_at _ _ _ e5'.symm
  have hb5 : Below w4.heap.size w4 W5 := by rw [← e5]; exact alB _ _
  have HB5 := Lib.hid (hbc4.trans (hb5.mono hbc4.size))
  have hz55 : b5 < W5.heap.size := (Array.getElem?_eq_some_iff.mp hx5).1
  have HX5 : Hid (∀ W, Below W5.heap.size W5 W → W.cell? ⟨b5, 0, none⟩ = some (.slice p4 st.rules.length c4) ∧ W.cell? ⟨b5, 1, none⟩ = some (.slice p5 st.zones.length c5) ∧ W.cell? ⟨b5, 2, none⟩ = some (.slice p6 st.links.length c6)) := by
    show ∀ W, _
    intro W hb
    have hx := (hb.block b5 hz55).trans hx5
    exact ⟨(cell_of_row W _ 0 _ _ _ hx).trans rfl, (cell_of_row W _ 1 _ _ _ hx).trans rfl, (cell_of_row W _ 2 _ _ _ hx).trans rfl⟩
  have HBK5 := Lib.hid ((hbk.below hb5 (Nat.le_refl _)).monoQ hb5.size)
  have HTX5 := Lib.hid (HTX.out _ _ _ _ W5 ((HBX.out W5 HB5.out).1) HBK5.out)
  have HE5 := Lib.hid e5
  have HF5 := Lib.hid e5'
  obtain ⟨y0, y1, y2⟩ := HX5.out W5 (Below.refl _ _)
  obtain ⟨U, eU⟩ : ∃ U, bkChk ⟨st.rules, zosE st.zones evs, st.links⟩ = U := ⟨_, rfl⟩
  obtain ⟨V, eV⟩ : ∃ V, (if U = 0 then bkText ⟨st.rules, zosE st.zones evs, st.links⟩ else []) = V := ⟨_, rfl⟩
  rw [eU, eV] at HTX5
  have HNO := Lib.hid (fun h : D ≠ 0 => parse_err eR h)
  have HYES : Hid (D = 0 → n = 0 ∧ U = 0 ∧ V = a) := by
    show D = 0 → _
    intro h
    subst h
    obtain ⟨h1, h2, h3⟩ := text_back eR fun i => evs.getD i undef
    have hU : U = 0 := by rw [← eU, bkChk_bkS _ _ hel]; exact h3
    refine ⟨h2, hU, ?_⟩
    rw [← eV, if_pos hU, zosE_bkS _ _ hel]
    exact h1
  have HEL := Lib.hid hel
  clear hel hpost hb4 hbk hx5 hb5 e5 e5' hbc4 eU eV eR HTX HPA
  go_upto_region 11 with fail
  rw [HF5.out, HE5.out]
  go_wp2_with fail
  refine HTX5.out.mono ?_
  rintro e w6 ⟨rfl, hb6⟩
  have HB6 := Lib.hid (HB5.out.trans (hb6.mono HB5.out.size))
  clear y0 y1 y2
  obtain ⟨y0, y1, y2⟩ := HX5.out w6 hb6
  have hz6 : b5 < w6.heap.size := by have := hb6.size; omega
  have HK6 := Lib.hid ((HBK5.out.below hb6 (Nat.le_refl _)).monoQ hb6.size)
  clear hb6
  have hA0' := HA0.out
  by_cases hD : D = 0
  · obtain ⟨rfl, rfl, rfl⟩ := HYES.out hD
    subst hD
    have t0 : ((txt V).toList == (txt V).toList) = true := beq_self_eq_true _
    go_wp2_with fail
    go_ret
    exact ⟨rfl, HA0.out.trans (HB6.out.mono HA0.out.size)⟩
  · have hDn : (D != 0) = true := by simpa using hD
    have hDz : (D == 0) = false := by simpa using hD
    obtain rfl := HNO.out hD
    obtain rfl : evs = [] := List.eq_nil_of_length_eq_zero HEL.out.symm
    have HEQ := Lib.hid (BookEq_self ⟨[], [], []⟩ ⟨[], [], []⟩ _ _ _ _ _ _ w6 HK6.out (emptyB w6 _) rfl rfl rfl)
    have hn0 : (0 : Int) ≤ (n : Int) := by omega
    clear hD HNO HYES HK6
    go_wp2_with fail
    refine HEQ.out.mono ?_
    rintro e w7 ⟨rfl, hb7⟩
    have HB7 := Lib.hid (HB6.out.trans (hb7.mono HB6.out.size))
    clear hb7
    go_wp2_with fail
    go_ret
    exact ⟨rfl, HA0.out.trans (HB7.out.mono HA0.out.size)⟩
end Go.Proofs.YtomahddiclkepaaGreatDoor
namespace Go.Proofs.YtomahddiclkepaaGreatDoor
open Go.ChangeShapes Go.WideShapes Go.ChangeAt Go.RowKit
set_option linter.unusedVariables false

theorem gPow : Tryz.prog.globalNamed "internal/strconv.uint64pow10" = some 3 := by kernel_rfl
theorem gPowType : (Tryz.prog.globals[3]?).map (·.type) = some 297 := by kernel_rfl
theorem tab10_of {W : World} {a b : String × DataW Unit} {rest : List (String × DataW Unit)} (h : laidMet Tryz.prog (a :: b :: ("internal/strconv.uint64pow10", Rows.laid_internal_strconv_uint64pow10) :: rest) W) : Tab10 W :=
  Lib.tabIs_of_head (rest := rest) gPow gPowType Tryz.underlying297 Tryz.underlying137 (by kernel_rfl) (by kernel_rfl) h.tail.tail
end Go.Proofs.YtomahddiclkepaaGreatDoor
namespace Go.Proofs.YtomahddiclkepaaGreatDoor
open Go.ChangeShapes Go.WideShapes Go.ChangeAt Go.RowKit
set_option linter.unusedVariables false

theorem maxLen_of {W : World} (h : W.ShapedOpen Tryz.prog) : MaxLen W :=
  Go.Proofs.cell_of_shapedOpen_int (zero := #[.int .i64 0]) (t := 3) h (of_decide_eq_true (by kernel_rfl)) (by kernel_rfl) rfl (by kernel_rfl) (by kernel_rfl) Tryz.underlying3
end Go.Proofs.YtomahddiclkepaaGreatDoor
namespace Go.Proofs.YtomahddiclkepaaGreatDoor
open Go.ChangeShapes Go.WideShapes Go.ChangeAt Go.RowKit
set_option linter.unusedVariables false

theorem star : "*" ++ "errors.errorString" = "*errors.errorString" := by decide
theorem rowErr (u : TypeId) (h : Tryz.prog.typeName? 3 u = some "*errors.errorString") : u = 312 :=
  typeName_ptr_named (nm := "errors.errorString") (by rw [star]; kernel_rfl) (by kernel_rfl) (by decide) u (by rw [star]; exact h)
theorem gSyn : Tryz.prog.globalNamed "strconv.ErrSyntax" = some 6 := by kernel_rfl
theorem gRan : Tryz.prog.globalNamed "strconv.ErrRange" = some 7 := by kernel_rfl
theorem gSynType : (Tryz.prog.globals[6]?).map (·.type) = some 159 := by kernel_rfl
theorem gRanType : (Tryz.prog.globals[7]?).map (·.type) = some 159 := by kernel_rfl
theorem cellsES : Tryz.prog.cellsOf 314 = 1 := by kernel_rfl
theorem cellsStr : Tryz.prog.cellsOf 9 = 1 := by kernel_rfl
theorem ifaceV_of {W : World} {n : String} {g : Nat} {p : Value} {tp : TypeId} (hg : Tryz.prog.globalNamed n = some g) (h : W.var? Tryz.prog n = some #[.iface tp p]) : IfaceV W g :=
  ⟨_, by have h0 := World.var?_cell hg h 0; simpa using h0, .inr ⟨_, _, rfl⟩⟩
theorem numErrs_of {W : World} {rest : List (String × DataW Unit)} (h : laidMet Tryz.prog (("strconv.ErrRange", Rows.laid_strconv_ErrRange) :: ("strconv.ErrSyntax", Rows.laid_strconv_ErrSyntax) :: rest) W) : NumErrs W := by
  obtain ⟨a0, s0, hv0, _⟩ := laid_sentinel h gRan gRanType Tryz.underlying159 rowErr Tryz.underlying312 Tryz.underlying314 rfl rfl Tryz.underlying9 cellsES cellsStr
  obtain ⟨a1, s1, hv1, _⟩ := laid_sentinel h.tail gSyn gSynType Tryz.underlying159 rowErr Tryz.underlying312 Tryz.underlying314 rfl rfl Tryz.underlying9 cellsES cellsStr
  exact ⟨ifaceV_of gSyn hv1, ifaceV_of gRan hv0⟩

section
variable {H : Type} {enc : TypeId × Value → H}
theorem witness_row_lay {C : Checked} {os : Os} {f : FuncId} {fn : Func} {s : OpenSpec} {conds : List PathCond} {apart : Bool} {laid : List (String × DataW Unit)} (modest : Bool) (w0 : World) (args : Array Value) (hos : w0.os = os)
    (hsh : (w0.forCall (fun _ _ => 0) ⟨#[], args, []⟩).Shaped C.prog)
    (hok : Input.okWideB C.prog (w0.forCall (fun _ _ => 0) ⟨#[], args, []⟩) f ⟨#[], args, []⟩ = true)
    (hrow : s.preRow enc C.prog fn conds apart laid (w0.forCall (fun _ _ => 0) ⟨#[], args, []⟩).memory args) :
    ∃ (w : World) (tape : Tape) (i : Input), w.os = os ∧ (w.forCall tape i).Shaped C.prog ∧ i.vars = [] ∧ Input.okWide C.prog (w.forCall tape i) .any w.heap.size f i ∧
      s.preRow enc C.prog fn conds apart laid (w.forCall tape i).memory i.args ∧ ({ modest := modest } : Assume).holds C.prog (lone (Frame.enter C.prog f i.args .normal) [] (w.forCall tape i)) :=
  ⟨w0, fun _ _ => 0, ⟨#[], args, []⟩, hos, hsh, (Input.okWide_of_okWideB (base := 0) hok).1, (Input.okWide_of_okWideB hok).2, hrow, by
    simp only [Assume.holds]
    exact ⟨by simp, by simp, fun _ => Modest.zero, by simp, by simp⟩⟩
end
end Go.Proofs.YtomahddiclkepaaGreatDoor
namespace Go.Proofs.YtomahddiclkepaaGreatDoor
open Go.ChangeShapes Go.WideShapes Go.ChangeAt Go.RowKit
set_option linter.unusedVariables false

theorem gAsc : Tryz.prog.globalNamed "strings.asciiSpace" = some 0 := by kernel_rfl
theorem gAscType : (Tryz.prog.globals[0]?).map (·.type) = some 205 := by kernel_rfl
theorem laidAsc : (Rows.laid_strings_asciiSpace : DataW Unit) = Lib.tabData .u8 Lib.asciiSpaceTab := by kernel_rfl
theorem ascTab_of {W : World} {rest : List (String × DataW Unit)} (h : laidMet Tryz.prog (("strings.asciiSpace", Rows.laid_strings_asciiSpace) :: rest) W) : AscTab W := by
  rw [laidAsc] at h
  exact Lib.tabIs_of_head (rest := rest) gAsc gAscType Tryz.underlying205 Tryz.underlying5 (by kernel_rfl) (by kernel_rfl) h
end Go.Proofs.YtomahddiclkepaaGreatDoor
namespace Go.Proofs.YtomahddiclkepaaGreatDoor
open Go.ChangeShapes Go.WideShapes Go.Deep Go.RowKit Go.Joins
set_option linter.unusedVariables false
set_option linter.unusedSimpArgs false

theorem list11 {α : Type} (l : List α) (h : l.length = 11) : ∃ a b c d e f g h' i j k, l = [a, b, c, d, e, f, g, h', i, j, k] := by
  match l, h with
  | [a, b, c, d, e, f, g, h', i, j, k], _ => exact ⟨a, b, c, d, e, f, g, h', i, j, k, rfl⟩

section
variable {H : Type} {enc : TypeId × Value → H} {w : World} {base : Nat} {spare : Nat → Bool} {held : Bool}
theorem trod_iR {fuel : Nat} {v : Value} {x : DataW H × List MemPlace} (h : DataW.trod enc Tryz.prog w base spare held fuel 3 [v] = some x) : ∃ n, v = .int .i64 n := by
  obtain ⟨b, e, _, _⟩ := DataW.trod_int Tryz.underlying3 h
  simp only [List.cons.injEq, and_true] at e
  exact ⟨b, e⟩
theorem trod_sR {fuel : Nat} {v : Value} {x : DataW H × List MemPlace} (h : DataW.trod enc Tryz.prog w base spare held fuel 9 [v] = some x) : ∃ s, v = .string s ∧ s.size ≤ maxLen := by
  obtain ⟨b, e, _, hs⟩ := DataW.trod_string Tryz.underlying9 h
  simp only [List.cons.injEq, and_true] at e
  exact ⟨b, e, hs⟩
set_option maxRecDepth 100000 in
theorem Dy_open {fuel : Nat} {a b c : Value} {x : DataW H × List MemPlace} (h : DataW.trod enc Tryz.prog w base spare held fuel 85 [a, b, c] = some x) : ∃ k wd n : Int, a = .int .i64 k ∧ b = .int .i64 wd ∧ c = .int .i64 n := by
  obtain ⟨xs, n, _, _, _, hl, hf⟩ := DataW.trod_struct Tryz.underlying85 h
  have hl3 : xs.length = 3 := hl
  have h0 := hf 0 _ rfl
  have h1 := hf 1 _ rfl
  have h2 := hf 2 _ rfl
  rw [List.getElem?_eq_getElem (by omega)] at h0 h1 h2
  obtain ⟨m, rfl⟩ := trod_iR (v := a) h0
  obtain ⟨k, rfl⟩ := trod_iR (v := b) h1
  obtain ⟨e, rfl⟩ := trod_iR (v := c) h2
  exact ⟨m, k, e, rfl, rfl, rfl⟩

theorem cellsRu : Tryz.prog.cellsOf 87 = 11 := by kernel_rfl
set_option maxRecDepth 100000 in
/-- the cells of a rule that can be read -/
theorem Ru_trod {fuel : Nat} {l : List Value} {x : DataW H × List MemPlace} (hl : l.length = 11) (h : DataW.trod enc Tryz.prog w base spare held fuel 87 l = some x) :
    ∃ q : Ru, l = (ruCells q).toList ∧ q.nm.size ≤ maxLen ∧ q.lt.size ≤ maxLen := by
  obtain ⟨c0, c1, c2, c3, c4, c5, c6, c7, c8, c9, c10, rfl⟩ := list11 l hl
  obtain ⟨xs, n, _, _, _, hl, hf⟩ := DataW.trod_struct Tryz.underlying87 h
  have hl9 : xs.length = 9 := hl
  have h0 := hf 0 _ rfl
  have h1 := hf 1 _ rfl
  have h2 := hf 2 _ rfl
  have h3 := hf 3 _ rfl
  have h4 := hf 4 _ rfl
  have h5 := hf 5 _ rfl
  have h6 := hf 6 _ rfl
  have h7 := hf 7 _ rfl
  have h8 := hf 8 _ rfl
  rw [List.getElem?_eq_getElem (by omega)] at h0 h1 h2 h3 h4 h5 h6 h7 h8
  obtain ⟨nm, rfl, s1⟩ := trod_sR (v := c0) h0
  obtain ⟨yf, rfl⟩ := trod_iR (v := c1) h1
  obtain ⟨yt, rfl⟩ := trod_iR (v := c2) h2
  obtain ⟨mo, rfl⟩ := trod_iR (v := c3) h3
  obtain ⟨dk, dw, dn, rfl, rfl, rfl⟩ := Dy_open (a := c4) (b := c5) (c := c6) (h4 : DataW.trod enc Tryz.prog w base spare held n 85 [c4, c5, c6] = _)
  obtain ⟨tm, rfl⟩ := trod_iR (v := c7) h5
  obtain ⟨ck, rfl⟩ := trod_iR (v := c8) h6
  obtain ⟨sv, rfl⟩ := trod_iR (v := c9) h7
  obtain ⟨lt, rfl, s2⟩ := trod_sR (v := c10) h8
  exact ⟨⟨nm, yf, yt, mo, dk, dw, dn, tm, ck, sv, lt⟩, rfl, s1, s2⟩
end
end Go.Proofs.YtomahddiclkepaaGreatDoor
namespace Go.Proofs.YtomahddiclkepaaGreatDoor
open Go.ChangeShapes Go.WideShapes Go.Deep Go.RowKit Go.Joins
set_option linter.unusedVariables false
set_option linter.unusedSimpArgs false

theorem reach_valB : reachBytes = 140737488351232 := by decide
theorem spot_noneB {w : World} {a : Addr} {v : Value} (h : w.cell? a = some v) : a = ⟨a.block, a.off, none⟩ := by
  obtain ⟨b, o, s⟩ := a
  cases s with
  | none => rfl
  | some k =>
    simp only [World.cell?] at h
    split at h
    · simp at h
    · cases h
theorem add_plainB (b o i : Nat) : (⟨b, o, none⟩ : Addr).add i = ⟨b, o + i, none⟩ := by
  unfold Addr.add
  split
  · rename_i h; subst h; rfl
  · rfl
theorem list_ofB {α : Type} [Inhabited α] (n : Nat) (Q : Nat → α → Prop) (h : ∀ i, i < n → ∃ x, Q i x) : ∃ l : List α, l.length = n ∧ ∀ i (hi : i < l.length), Q i l[i] := by
  classical
  refine ⟨(List.range n).map fun i => if hi : i < n then Classical.choose (h i hi) else default, by simp, fun i hi => ?_⟩
  have hi' : i < n := by simpa using hi
  simp only [List.getElem_map, List.getElem_range, hi', dite_true]
  exact Classical.choose_spec (h i hi')
instance : Inhabited Ru := ⟨⟨⟨#[]⟩, 0, 0, 0, 0, 0, 0, 0, 0, 0, ⟨#[]⟩⟩⟩
instance : Inhabited Er := ⟨⟨0, ⟨#[]⟩, 0, ⟨#[]⟩, 0⟩⟩
instance : Inhabited Zo := ⟨⟨⟨#[]⟩, .slice none 0 0, []⟩⟩
instance : Inhabited Lk := ⟨⟨⟨#[]⟩, ⟨#[]⟩⟩⟩

section
variable {H : Type} {enc : TypeId × Value → H} {w : World} {base : Nat} {spare : Nat → Bool} {held : Bool}
/-- what a datum weighs is within the reach -/
def Szd (t : TypeId) (d : DataW H) : Prop := ∀ n ∈ d.weights Tryz.prog t, n ≤ reachBytes
theorem sz_agg {t : TypeId} {fs : Array Field} (ht : Tryz.prog.underlying t = some (.struct fs)) {parts : List (DataW H)} (h : Szd t (.agg parts)) {j : Nat} {f : Field} {d : DataW H} (hf : fs[j]? = some f) (hd : parts[j]? = some d) : Szd f.type d := fun n hn =>
  h n (by
    simp only [DataW.weights, ht]
    refine DataW.weights_mem_each (j := j) ?_ hd n hn
    rw [List.getElem?_map, Array.getElem?_toList, hf]
    rfl)
theorem wa_mem {e : TypeId} : ∀ {es : List (DataW H)} {d : DataW H}, d ∈ es → ∀ n ∈ d.weights Tryz.prog e, n ∈ DataW.weightsAll Tryz.prog e es
  | x :: r, d, hd, n, hn => by
    simp only [DataW.weightsAll, List.mem_append]
    rcases List.mem_cons.1 hd with rfl | hd
    · exact .inl hn
    · exact .inr (wa_mem hd n hn)
theorem sz_slice {t e : TypeId} (ht : Tryz.prog.underlying t = some (.slice e)) {es sp : List (DataW H)} (h : Szd t (.slice es sp)) : (es.length + sp.length) * Tryz.prog.bytesOf e ≤ reachBytes ∧ ∀ d ∈ es, Szd e d := by
  unfold Szd at h
  simp only [DataW.weights, ht] at h
  exact ⟨h _ (List.mem_cons_self ..), fun d hd n hn => h n (List.mem_cons_of_mem _ (List.mem_append_left _ (wa_mem hd n hn)))⟩
theorem sz_str {t : TypeId} {b : ByteArray} (h : Szd t (.lit (.string b.data.toList) : DataW H)) : b.size ≤ 140737488351232 := by
  have := h b.data.toList.length (by simp [DataW.weights])
  rw [reach_valB] at this
  rw [Lib.size_eq]
  exact this

theorem open_rows {α : Type} [Inhabited α] (cells : α → List Value) (k : Nat) (Q : α → Prop) {t e : TypeId} (ht : Tryz.prog.underlying t = some (.slice e)) (hk : Tryz.prog.cellsOf e = k) (hb : 1 ≤ Tryz.prog.bytesOf e) (hk0 : 0 < k)
    (el : ∀ fuel l x, l.length = k → DataW.trod enc Tryz.prog w base spare held fuel e l = some x → Szd e x.1 → ∃ a, l = cells a ∧ Q a)
    {fuel : Nat} {v : Value} {x : DataW H × List MemPlace} (h : DataW.trod enc Tryz.prog w base spare held fuel t [v] = some x) (hs : Szd t x.1) : ∃ l, RowsAt cells k w.heap.size w v l ∧ ∀ a ∈ l, Q a := by
  rcases open_slice ht h with ⟨hcs, _⟩ | ⟨a, len, cap, m, n, D, Pl, hcs, hba, hl, hm, hmm, hx, hi⟩
  · obtain rfl : v = .slice none 0 0 := by simpa using hcs
    exact ⟨[], ⟨none, 0, rfl, ⟨by simp, by simp⟩, fun h => absurd rfl h⟩, fun a h => absurd h (List.not_mem_nil)⟩
  · obtain rfl : v = .slice (some a) len cap := by simpa using hcs
    rw [hx] at hs
    obtain ⟨hw, hsd⟩ := sz_slice ht hs
    have hlen : len ≤ 140737488351232 := by
      rw [reach_valB] at hw
      simp only [List.length_map, List.length_range] at hw
      have : len * 1 ≤ (len + (m - len)) * Tryz.prog.bytesOf e := Nat.mul_le_mul (by omega) hb
      omega
    have hlm : len ≤ m := by rw [hmm]; split <;> omega
    have key : ∀ i, i < len → ∃ y : α, (∀ j u, (cells y)[j]? = some u → w.cell? (a.add (i * k + j)) = some u) ∧ Q y ∧ ∃ u, w.cell? (a.add (i * k)) = some u := by
      intro i hil
      obtain ⟨cs', hc, htr⟩ := hi i (by omega)
      rw [hk] at hc
      obtain ⟨_, hcl, hat⟩ := World.cells?_some hc
      obtain ⟨y, rfl, hq⟩ := el n cs' _ hcl htr (hsd _ (List.mem_map.2 ⟨i, List.mem_range.2 hil, rfl⟩))
      have hcell : ∀ j u, (cells y)[j]? = some u → w.cell? (a.add (i * k + j)) = some u := by
        intro j u hu
        have hj : j < k := by rw [← hcl]; exact (List.getElem?_eq_some_iff.1 hu).1
        rw [← Go.Deep.add_add, hat j hj, hu]
      have h0 : (cells y)[0]? = some ((cells y)[0]'(by omega)) := List.getElem?_eq_getElem (by omega)
      exact ⟨y, hcell, hq, _, hcell 0 _ h0⟩
    obtain ⟨l, hl1, hl2⟩ := list_ofB len _ key
    subst hl1
    refine ⟨l, ⟨some a, cap, rfl, ⟨hlen, hl⟩, fun hne => ?_⟩, fun y hy => ?_⟩
    · have hp : 0 < l.length := List.length_pos_iff.2 hne
      obtain ⟨_, _, u, d0⟩ := hl2 0 hp
      rw [Nat.zero_mul] at d0
      have hsp : a = ⟨a.block, a.off, none⟩ := spot_noneB (w := w) (v := u) d0
      refine ⟨a.block, a.off, congrArg some hsp, ?_, fun i hi j u hu => ?_⟩
      · rw [hsp, add_plainB] at d0
        exact World.block_lt_of_cell? w ⟨a.block, _, none⟩ d0
      · have := (hl2 i hi).1 j u hu
        rw [hsp, add_plainB] at this
        rw [Nat.add_assoc]
        exact this
    · obtain ⟨i, hi, rfl⟩ := List.mem_iff_getElem.1 hy
      exact (hl2 i hi).2.1

theorem trod_iB {fuel : Nat} {v : Value} {x : DataW H × List MemPlace} (h : DataW.trod enc Tryz.prog w base spare held fuel 3 [v] = some x) : ∃ n, v = .int .i64 n ∧ -9223372036854775808 ≤ n ∧ n ≤ 9223372036854775807 := by
  obtain ⟨b, e, _, hw⟩ := DataW.trod_int Tryz.underlying3 h
  simp only [List.cons.injEq, and_true] at e
  simp only [Lit.wf, Bool.and_eq_true, decide_eq_true_eq] at hw
  exact ⟨b, e, hw⟩
theorem trod_sB {fuel : Nat} {v : Value} {x : DataW H × List MemPlace} (h : DataW.trod enc Tryz.prog w base spare held fuel 9 [v] = some x) (hs : Szd 9 x.1) : ∃ s, v = .string s ∧ s.size ≤ 140737488351232 := by
  obtain ⟨b, e, ex, _⟩ := DataW.trod_string Tryz.underlying9 h
  simp only [List.cons.injEq, and_true] at e
  rw [ex] at hs
  exact ⟨b, e, sz_str hs⟩
theorem list5 {α : Type} (l : List α) (h : l.length = 5) : ∃ a b c d e, l = [a, b, c, d, e] := by
  match l, h with
  | [a, b, c, d, e], _ => exact ⟨a, b, c, d, e, rfl⟩
theorem list2 {α : Type} (l : List α) (h : l.length = 2) : ∃ a b, l = [a, b] := by
  match l, h with
  | [a, b], _ => exact ⟨a, b, rfl⟩
set_option maxRecDepth 100000 in
/-- the cells of a rule, with its words' sizes -/
theorem Ru_trodB {fuel : Nat} {l : List Value} {x : DataW H × List MemPlace} (hl : l.length = 11) (h : DataW.trod enc Tryz.prog w base spare held fuel 87 l = some x) (hs : Szd 87 x.1) :
    ∃ q : Ru, l = (ruCells q).toList ∧ SzR q := by
  obtain ⟨q, rfl, -, -⟩ := Ru_trod hl h
  refine ⟨q, rfl, ?_⟩
  obtain ⟨xs, n, _, hx, _, hl, hf⟩ := DataW.trod_struct Tryz.underlying87 h
  have hl9 : xs.length = 9 := hl
  have h0 := hf 0 _ rfl
  have h8 := hf 8 _ rfl
  rw [List.getElem?_eq_getElem (by omega)] at h0 h8
  rw [hx] at hs
  have s0 := sz_agg Tryz.underlying87 hs (j := 0) rfl (d := xs[0].1) (by rw [List.getElem?_map, List.getElem?_eq_getElem (by omega)]; rfl)
  have s8 := sz_agg Tryz.underlying87 hs (j := 8) rfl (d := xs[8].1) (by rw [List.getElem?_map, List.getElem?_eq_getElem (by omega)]; rfl)
  obtain ⟨nm, e0, z0⟩ := trod_sB (v := .string q.nm) h0 s0
  obtain ⟨lt, e8, z8⟩ := trod_sB (v := .string q.lt) h8 s8
  injection e0 with e0
  injection e8 with e8
  subst e0 e8
  exact ⟨z0, z8⟩
set_option maxRecDepth 100000 in
theorem Er_trodB {fuel : Nat} {l : List Value} {x : DataW H × List MemPlace} (hl : l.length = 5) (h : DataW.trod enc Tryz.prog w base spare held fuel 43 l = some x) (hs : Szd 43 x.1) :
    ∃ q : Er, l = (erCells q).toList ∧ SzE q := by
  obtain ⟨c0, c1, c2, c3, c4, rfl⟩ := list5 l hl
  obtain ⟨xs, n, _, hx, _, hl, hf⟩ := DataW.trod_struct Tryz.underlying43 h
  have hl5 : xs.length = 5 := hl
  have h0 := hf 0 _ rfl
  have h1 := hf 1 _ rfl
  have h2 := hf 2 _ rfl
  have h3 := hf 3 _ rfl
  have h4 := hf 4 _ rfl
  rw [List.getElem?_eq_getElem (by omega)] at h0 h1 h2 h3 h4
  rw [hx] at hs
  have s1 := sz_agg Tryz.underlying43 hs (j := 1) rfl (d := xs[1].1) (by rw [List.getElem?_map, List.getElem?_eq_getElem (by omega)]; rfl)
  have s3 := sz_agg Tryz.underlying43 hs (j := 3) rfl (d := xs[3].1) (by rw [List.getElem?_map, List.getElem?_eq_getElem (by omega)]; rfl)
  obtain ⟨off, rfl, o1, o2⟩ := trod_iB (v := c0) h0
  obtain ⟨ru, rfl, z1⟩ := trod_sB (v := c1) h1 s1
  obtain ⟨sv, rfl, v1, v2⟩ := trod_iB (v := c2) h2
  obtain ⟨fm, rfl, z3⟩ := trod_sB (v := c3) h3 s3
  obtain ⟨un, rfl, u1, u2⟩ := trod_iB (v := c4) h4
  exact ⟨⟨off, ru, sv, fm, un⟩, rfl, z1, z3, o1, o2, v1, v2, u1, u2⟩
theorem cellsEr : Tryz.prog.cellsOf 43 = 5 := by kernel_rfl
theorem cellsZo : Tryz.prog.cellsOf 46 = 2 := by kernel_rfl
theorem cellsLk : Tryz.prog.cellsOf 91 = 2 := by kernel_rfl
theorem cellsBk : Tryz.prog.cellsOf 26 = 3 := by kernel_rfl
def ZoOk (w : World) (z : Zo) : Prop := RowsAt (fun x : Er => (erCells x).toList) 5 w.heap.size w z.ev z.eras ∧ z.nm.size ≤ 140737488351232 ∧ ∀ x ∈ z.eras, SzE x
set_option maxRecDepth 100000 in
theorem Zo_trodB {fuel : Nat} {l : List Value} {x : DataW H × List MemPlace} (hl : l.length = 2) (h : DataW.trod enc Tryz.prog w base spare held fuel 46 l = some x) (hs : Szd 46 x.1) :
    ∃ q : Zo, l = zoCells q ∧ ZoOk w q := by
  obtain ⟨c0, c1, rfl⟩ := list2 l hl
  obtain ⟨xs, n, _, hx, _, hl, hf⟩ := DataW.trod_struct Tryz.underlying46 h
  have hl2 : xs.length = 2 := hl
  have h0 := hf 0 _ rfl
  have h1 := hf 1 _ rfl
  rw [List.getElem?_eq_getElem (by omega)] at h0 h1
  rw [hx] at hs
  have s0 := sz_agg Tryz.underlying46 hs (j := 0) rfl (d := xs[0].1) (by rw [List.getElem?_map, List.getElem?_eq_getElem (by omega)]; rfl)
  have s1 := sz_agg Tryz.underlying46 hs (j := 1) rfl (d := xs[1].1) (by rw [List.getElem?_map, List.getElem?_eq_getElem (by omega)]; rfl)
  obtain ⟨nm, rfl, z0⟩ := trod_sB (v := c0) h0 s0
  obtain ⟨er, hr, hq⟩ := open_rows (fun x : Er => (erCells x).toList) 5 SzE (t := 44) (e := 43) (by kernel_rfl) cellsEr (of_decide_eq_true (by kernel_rfl)) (by decide) (fun fuel l x hl h hs => Er_trodB hl h hs) (v := c1) h1 s1
  exact ⟨⟨nm, c1, er⟩, rfl, hr, z0, hq⟩
set_option maxRecDepth 100000 in
theorem Lk_trodB {fuel : Nat} {l : List Value} {x : DataW H × List MemPlace} (hl : l.length = 2) (h : DataW.trod enc Tryz.prog w base spare held fuel 91 l = some x) (hs : Szd 91 x.1) :
    ∃ q : Lk, l = lkCells q ∧ (q.nm.size ≤ 140737488351232 ∧ q.tg.size ≤ 140737488351232) := by
  obtain ⟨c0, c1, rfl⟩ := list2 l hl
  obtain ⟨xs, n, _, hx, _, hl, hf⟩ := DataW.trod_struct Tryz.underlying91 h
  have hl2 : xs.length = 2 := hl
  have h0 := hf 0 _ rfl
  have h1 := hf 1 _ rfl
  rw [List.getElem?_eq_getElem (by omega)] at h0 h1
  rw [hx] at hs
  have s0 := sz_agg Tryz.underlying91 hs (j := 0) rfl (d := xs[0].1) (by rw [List.getElem?_map, List.getElem?_eq_getElem (by omega)]; rfl)
  have s1 := sz_agg Tryz.underlying91 hs (j := 1) rfl (d := xs[1].1) (by rw [List.getElem?_map, List.getElem?_eq_getElem (by omega)]; rfl)
  obtain ⟨nm, rfl, z0⟩ := trod_sB (v := c0) h0 s0
  obtain ⟨tt, rfl, z1⟩ := trod_sB (v := c1) h1 s1
  exact ⟨⟨nm, tt⟩, rfl, z0, z1⟩
set_option maxRecDepth 100000 in
/-- A law's argument of type Book -/
theorem Bk_open {r : Reach} {b0 : Nat} {v : Value} {d : DataW H} {p : List MemPlace} (hv : Value.okWide Tryz.prog w r b0 26 v) (h : DataW.Trod enc Tryz.prog w base spare held 26 v d p)
    (hs : Szd 26 d) : ∃ b rv zv lv, v = .agg #[rv, zv, lv] ∧ BookAt w.heap.size w rv zv lv b := by
  obtain ⟨c0, c1, c2, y0, y1, y2, m, rfl, rfl, _, g0, g1, g2⟩ := open_agg3 Tryz.underlying26 (by kernel_rfl) cellsBk hv h
  have s0 := sz_agg Tryz.underlying26 hs (j := 0) rfl rfl
  have s1 := sz_agg Tryz.underlying26 hs (j := 1) rfl rfl
  have s2 := sz_agg Tryz.underlying26 hs (j := 2) rfl rfl
  obtain ⟨rs, hr1, hr2⟩ := open_rows (fun r : Ru => (ruCells r).toList) 11 SzR (t := 22) (e := 87) (by kernel_rfl) cellsRu (of_decide_eq_true (by kernel_rfl)) (by decide) (fun fuel l x hl h hs => Ru_trodB hl h hs) (v := c0) g0 s0
  obtain ⟨zs, hz1, hz2⟩ := open_rows zoCells 2 (ZoOk w) (t := 23) (e := 46) (by kernel_rfl) cellsZo (of_decide_eq_true (by kernel_rfl)) (by decide) (fun fuel l x hl h hs => Zo_trodB hl h hs) (v := c1) g1 s1
  obtain ⟨ls, hl1, hl2⟩ := open_rows lkCells 2 (fun q : Lk => q.nm.size ≤ 140737488351232 ∧ q.tg.size ≤ 140737488351232) (t := 24) (e := 91) (by kernel_rfl) cellsLk (of_decide_eq_true (by kernel_rfl)) (by decide) (fun fuel l x hl h hs => Lk_trodB hl h hs) (v := c2) g2 s2
  exact ⟨⟨rs, zs, ls⟩, c0, c1, c2, rfl, hr1, hz1, fun z hz => (hz2 z hz).1, hl1, hr2, fun z hz => (hz2 z hz).2, hl2⟩
theorem szd_at {ts : List TypeId} {ds : List (DataW H)} (h : (DataW.weightsEach Tryz.prog ts ds).all (· ≤ reachBytes) = true) {j : Nat} {t : TypeId} {d : DataW H} (ht : ts[j]? = some t) (hd : ds[j]? = some d) : Szd t d := fun n hn => by
  have := List.all_eq_true.1 h n (DataW.weights_mem_each ht hd n hn)
  simpa using this
end
end Go.Proofs.YtomahddiclkepaaGreatDoor
