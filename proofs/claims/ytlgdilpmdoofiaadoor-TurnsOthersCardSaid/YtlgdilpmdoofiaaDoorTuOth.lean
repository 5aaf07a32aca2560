/- TurnsOthers: the plain law and the walk. -/
import Derived.Test.YtlgdilpmdoofiaaDoorTuRise
namespace Go.Proofs.YtlgdilpmdoofiaaDoor
open Go.RowKit Go.Joins
open Classical
set_option linter.unusedVariables false
set_option linter.unusedSimpArgs false

theorem flat_get {α : Type} {cells : α → List Value} {k : Nat} (hk : ∀ x, (cells x).length = k) : ∀ (l : List α) (i : Nat) (h : i < l.length) (j : Nat), j < k → (l.flatMap cells)[i * k + j]? = (cells l[i])[j]?
  | [], i, h, _, _ => absurd h (by simp)
  | x :: r, 0, _, j, hj => by
    rw [List.flatMap_cons, Nat.zero_mul, Nat.zero_add, List.getElem?_append_left (by rw [hk]; exact hj)]
    rfl
  | x :: r, i + 1, h, j, hj => by
    have := flat_get hk r i (by simpa using h) j hj
    rw [List.flatMap_cons, List.getElem?_append_right (by rw [hk, Nat.add_mul]; omega), hk, show (i + 1) * k + j - k = i * k + j by rw [Nat.add_mul]; omega, this]
    rfl
theorem own_rowsG {α : Type} {cells : α → List Value} {k : Nat} (hk : ∀ x, (cells x).length = k) {W : World} {B : Nat} {T : TypeId} {v : Value} {l : List α} (h : W.ownsRow B T k v l.length (l.flatMap cells)) (hl : l.length ≤ 100000) : RowsAt cells k W.heap.size W v l := by
  rcases h.2 with ⟨rfl, h0⟩ | ⟨g, cap, cur, rfl, hb, hg, hnc, hcm, hcs, htake⟩
  · have : l = [] := List.eq_nil_of_length_eq_zero h0
    subst this
    exact ⟨none, 0, rfl, ⟨by simp, by simp⟩, fun h => absurd rfl h⟩
  · have hc : ∀ i u, (l.flatMap cells)[i]? = some u → W.cell? ⟨g, i, none⟩ = some u := by
      intro i u hu
      rw [cell_of_row W g i cur _ (0, 0) hg]
      rw [← htake, List.getElem?_take] at hu
      split at hu
      · simpa using hu
      · cases hu
    refine ⟨_, cap, rfl, ⟨by omega, hnc⟩, fun _ => ⟨g, 0, rfl, (Array.getElem?_eq_some_iff.1 hg).1, fun i hi j u hu => ?_⟩⟩
    rw [Nat.zero_add]
    have hj : j < k := by rw [← hk l[i]]; exact (List.getElem?_eq_some_iff.1 hu).1
    exact hc _ _ ((flat_get hk l i hi j hj).trans hu)
theorem EqTn_self (l : List Tn) (v v2 : Value) (w : World) (h1 : RowsAt tnC 3 w.heap.size w v l) (h2 : RowsAt tnC 3 w.heap.size w v2 l) :
    Calls Tryd.prog 16 #[v, v2] w fun e w' => e = .returned (.bool true) ∧ Below w.heap.size w w' := by
  have h := EqTn_any l l v v2 w h1 h2
  have e : decide (l = l) = true := decide_eq_true rfl
  rwa [e] at h
abbrev ruL (r : Ru) : List Value := (ruCells r).toList
def ruFlat (l : List Ru) : List Value := l.flatMap ruL
theorem ruFlat_snoc (l : List Ru) (r : Ru) : ruFlat (l ++ [r]) = ruFlat l ++ (ruCells r).toList := by simp [ruFlat]
theorem infoRu : (Tryd.prog.info? 35).map (fun i => (i.zero, i.size, i.bytes)) = some (some (.agg #[.string ⟨#[]⟩, .int .i64 0, .int .i64 0, .int .i64 0, .int .i64 0, .int .i64 0, .int .i64 0, .int .i64 0, .int .i64 0, .int .i64 0, .string ⟨#[]⟩]), 11, 104) := by kernel_rfl
theorem undRu : Tryd.prog.underlying 22 = some (.slice 35) := by kernel_rfl

def ownF (rules : List Ru) (nm : ByteArray) : List Ru := rules.filter fun r => decide (r.nm = nm)
theorem ownF_snoc (l : List Ru) (r : Ru) (nm : ByteArray) : ownF (l ++ [r]) nm = ownF l nm ++ if r.nm = nm then [r] else [] := by
  unfold ownF
  rw [List.filter_append]
  by_cases h : r.nm = nm
  · rw [if_pos h, List.filter_cons_of_pos (by simpa using h)]; simp
  · rw [if_neg h, List.filter_cons_of_neg (by simpa using h)]; simp
theorem ownF_idem (rules : List Ru) (nm : ByteArray) : ownF (ownF rules nm) nm = ownF rules nm := by
  unfold ownF
  rw [List.filter_filter]
  congr 1
  funext r
  simp
theorem ownF_any (rules : List Ru) (nm : ByteArray) : ((ownF rules nm).any fun r => decide (r.nm = nm)) = rules.any fun r => decide (r.nm = nm) := by
  unfold ownF
  rw [List.any_filter]
  congr 1
  funext r
  simp
theorem mkR_own (rules : List Ru) (nm : ByteArray) (off : Int) : mkR (ownF rules nm) nm off = mkR rules nm off := by
  have h1 : yearsOf (ownF rules nm) nm = yearsOf rules nm := by
    show ((ownF (ownF rules nm) nm).map fun r => r.yt - r.yf + 1).sum = ((ownF rules nm).map fun r => r.yt - r.yf + 1).sum
    rw [ownF_idem]
  have h2 : nomsOf dayN (ownF rules nm) nm = nomsOf dayN rules nm := by
    show (ownF (ownF rules nm) nm).flatMap (nomOf dayN) = (ownF rules nm).flatMap (nomOf dayN)
    rw [ownF_idem]
  unfold mkR
  rw [ownF_any, h1, h2]
theorem others_law {b : Bk} {nm : ByteArray} {off : Int} (h : bkChk b = 0) : ofR ⟨ownF b.rules nm, [], []⟩ nm off = ofR b nm off ∧ (ownF b.rules nm).length ≤ 40 := by
  obtain ⟨h1, h2⟩ := bk_rules h
  have hl : (ownF b.rules nm).length ≤ 40 := Nat.le_trans (List.length_filter_le _ _) h1
  have hc : bkChk ⟨ownF b.rules nm, [], []⟩ = 0 := chk_rules hl fun r hr => h2 r (List.mem_filter.1 hr).1
  refine ⟨?_, hl⟩
  by_cases ho : off < -64800 ∨ 64800 < off
  · rw [ofR_1 h ho, ofR_1 hc ho]
  · rw [ofR_mk h ho, ofR_mk hc ho]; exact mkR_own _ _ _

set_option maxRecDepth 100000 in
set_option maxHeartbeats 8000000 in
theorem TurnsOthers_walk (MK : MakeSays) (b : Bk) (rv zv lv : Value) (nm : ByteArray) (off : Int) (w : World) (hB : BookAt w.heap.size w rv zv lv b) (hm : MaxLen w) (ht : Tab10 w) :
    Calls Tryd.prog 4 #[.agg #[rv, zv, lv], .string nm, .int .i64 off] w fun e w' => e = .returned (.bool true) ∧ Below w.heap.size w w' := by
  have hr := hB.r
  have hz := hB.z
  have hl := hB.l
  obtain ⟨p1, c1, rfl, hlen1, hrow1⟩ := hr
  obtain ⟨p2, c2, rfl, hlen2, hrow2⟩ := hz
  obtain ⟨p3, c3, rfl, hlen3, hrow3⟩ := hl
  obtain ⟨W0, eW⟩ : ∃ W0, w.alloc (.cells #[.slice p1 b.rules.length c1, .slice p2 b.zones.length c2, .slice p3 b.links.length c3] 26) = W0 := ⟨_, rfl⟩
  have hb0 : Below w.heap.size w W0 := by rw [← eW]; exact (Below.refl _ _).alloc (Nat.le_refl _) _
  have hbx : W0.heap[w.heap.size]? = some (.cells #[.slice p1 b.rules.length c1, .slice p2 b.zones.length c2, .slice p3 b.links.length c3] 26 (0, 0)) := by rw [← eW]; exact heap_alloc_new w _
  have hl0 : w.heap.size < W0.heap.size := by rw [← eW]; simp
  have HEW := Lib.hid eW
  have HB0 := Lib.hid hb0
  have HBX := Lib.hid hbx
  have HBK := Lib.hid hB
  have HRROW := Lib.hid hB.r
  have HSZ := Lib.hid hB.rs
  have HTU := Lib.hid (turned_any MK W0 (hm.below hb0) (ht.below hb0))
  have HM := Lib.hid hm
  have HT := Lib.hid ht
  obtain ⟨i1, hi1, hz10, hz11, hz12⟩ := info_parts infoRu
  clear eW hb0 hbx hB hm ht hrow1 hrow2 hrow3
  go_enter Tryd.func4, Tryd.ntmps4
  go_upto_region 1 with fail
  rw [HEW.out]
  go_wp2_with fail
  refine HTU.out.mono ?_
  rintro e w1 ⟨rfl, hb1⟩
  have HB1 := Lib.hid (HB0.out.trans (hb1.mono HB0.out.size))
  have hx1 := (hb1.block w.heap.size hl0).trans HBX.out
  have HBX1 := Lib.hid hx1
  have hl1 : w.heap.size < w1.heap.size := by have := hb1.size; omega
  have g0 := (cell_of_row w1 _ 0 _ _ _ hx1).trans rfl
  have g1 := (cell_of_row w1 _ 1 _ _ _ hx1).trans rfl
  have g2 := (cell_of_row w1 _ 2 _ _ _ hx1).trans rfl
  have HBK1 := Lib.hid ((HBK.out.below HB1.out (Nat.le_refl _)).base (Nat.le_of_lt hl1))
  have HCK := Lib.hid (bkCheck_any b _ _ _ w1 HBK1.out (HM.out.below HB1.out) (HT.out.below HB1.out))
  have HLAW := Lib.hid (others_law (b := b) (nm := nm) (off := off))
  have HRU := Lib.hid (bk_rules (b := b))
  clear hb1 hx1 HTU HBX HBK1
  go_wp2_with fail
  refine HCK.out.mono ?_
  obtain ⟨C, eC⟩ : ∃ C, bkChk b = C := ⟨_, rfl⟩
  rw [eC] at HLAW HRU ⊢
  rintro e w2 ⟨rfl, hb2⟩
  have HB2 := Lib.hid (HB1.out.trans (hb2.mono HB1.out.size))
  have hx2 := (hb2.block w.heap.size hl1).trans HBX1.out
  have HBX2 := Lib.hid hx2
  have hl2 : w.heap.size < w2.heap.size := by have := hb2.size; omega
  have g0 := (cell_of_row w2 _ 0 _ _ _ hx2).trans rfl
  clear g1 g2 hb2 hx2 HBX1 HB1 HCK eC
  by_cases hC : C = 0
  case neg =>
    have hz : (C == 0) = false := by simpa using hC
    have hz2 : (!C == 0) = true := by rw [hz]; rfl
    clear hC
    go_wp2_with fail
    go_ret
    exact ⟨rfl, HB2.out⟩
  case pos =>
  subst hC
  obtain ⟨hlaw, -⟩ := HLAW.out rfl
  have HL := Lib.hid hlaw
  obtain ⟨hr40, -⟩ := HRU.out rfl
  obtain ⟨pz, cz, ez, -, hrw⟩ := (HRROW.out.below HB2.out (Nat.le_refl _)).mono (Nat.le_of_lt hl2)
  simp only [Value.slice.injEq, true_and] at ez
  obtain ⟨rfl, rfl⟩ := ez
  have HRWX := Lib.hid hrw
  clear hrw HRROW hlaw HLAW HRU
  go_wp2_with fail
  go_loopw [7, 22] (fun v7 i wr => ∃ (k : Nat) (l : List Ru), k ≤ b.rules.length ∧ i = .int .i64 k ∧ l.length ≤ k ∧ Hid (l = ownF (b.rules.take k) nm) ∧ Hid (wr.ownsRow w2.heap.size 35 11 v7 l.length (ruFlat l)) ∧ Hid (Below w2.heap.size w2 wr)) (fun _ i _ => b.rules.length - (intOf i).toNat)
  case atStart => exact ⟨0, [], Nat.zero_le _, rfl, Nat.le_refl _, rfl, World.ownsRow_nil _ _ _ _, Lib.hid (Below.refl _ _)⟩
  case round =>
    obtain ⟨k, l, hk, rfl, hlk, HLL, HOW, HBR⟩ := hrel
    have hzr := HBR.out.size
    have hlr : w.heap.size < wr.heap.size := by omega
    by_cases hkl : k < b.rules.length
    · obtain ⟨bb, o, rfl, hbl, hcs⟩ := HRWX.out (List.ne_nil_of_length_pos (by omega))
      have hck := hcs k hkl
      have hfu : ∀ l2, l2 = l ++ (if b.rules[k].nm = nm then [b.rules[k]] else []) → l2 = ownF (b.rules.take (k + 1)) nm := by
        intro l2 e1
        rw [take_succ' _ _ hkl, ownF_snoc, e1, HLL.out]
      obtain ⟨q, eq⟩ : ∃ q, b.rules[k] = q := ⟨_, rfl⟩
      rw [eq] at hck hfu
      have HFN := Lib.hid hfu
      have up : ∀ j u, w2.cell? ⟨bb, o + k * 11 + j, none⟩ = some u → wr.cell? ⟨bb, o + k * 11 + j, none⟩ = some u := fun j u h => (HBR.out.cell (p := ⟨bb, o + k * 11 + j, none⟩) hbl).trans h
      clear eq hcs hfu
      obtain ⟨nm2, yf, yt, mo, dk, dw, dn, tm, ck, sv, lt⟩ := q
      have z0 := up 0 _ (hck 0 _ rfl)
      have z1 := up 1 _ (hck 1 _ rfl)
      have z2 := up 2 _ (hck 2 _ rfl)
      have z3 := up 3 _ (hck 3 _ rfl)
      have z4 := up 4 _ (hck 4 _ rfl)
      have z5 := up 5 _ (hck 5 _ rfl)
      have z6 := up 6 _ (hck 6 _ rfl)
      have z7 := up 7 _ (hck 7 _ rfl)
      have z8 := up 8 _ (hck 8 _ rfl)
      have z9 := up 9 _ (hck 9 _ rfl)
      have z10 := up 10 _ (hck 10 _ rfl)
      clear up hck
      rw [Nat.add_zero] at z0
      simp only at HFN
      obtain ⟨W3, eW3⟩ : ∃ W3, wr.alloc (.cells #[.string nm2, .int .i64 yf, .int .i64 yt, .int .i64 mo, .int .i64 dk, .int .i64 dw, .int .i64 dn, .int .i64 tm, .int .i64 ck, .int .i64 sv, .string lt] 35) = W3 := ⟨_, rfl⟩
      have hbx3 : RuBx W3 wr.heap.size ⟨nm2, yf, yt, mo, dk, dw, dn, tm, ck, sv, lt⟩ := by rw [← eW3]; exact heap_alloc_new wr _
      have HB3 : Hid (Below w2.heap.size w2 W3) := by rw [← eW3]; exact HBR.out.alloc HBR.out.size _
      have HOW3 : Hid (W3.ownsRow w2.heap.size 35 11 u7 l.length (ruFlat l)) := by rw [← eW3]; exact World.ownsRow.alloc HOW.out _
      obtain ⟨x0, x1, x2, x3, x4, x5, x6, x7, x8, x9, x10⟩ := hbx3.cells
      simp only at x0 x1 x2 x3 x4 x5 x6 x7 x8 x9 x10
      have hl3 := hbx3.lt
      have hz3 : w2.heap.size ≤ W3.heap.size := HB3.out.size
      have HEW3 := Lib.hid eW3
      clear eW3 hbx3
      go_upto_region 9 with fail
      rw [HEW3.out]
      obtain ⟨nb, enb⟩ : ∃ nb, wr.heap.size = nb := ⟨_, rfl⟩
      rw [enb] at x0 x1 x2 x3 x4 x5 x6 x7 x8 x9 x10 hl3 ⊢
      clear z0 z1 z2 z3 z4 z5 z6 z7 z8 z9 z10 enb HOW
      by_cases hnm : nm2 = nm
      · have t0 : (nm2.toList == nm.toList) = true := by rw [hnm]; exact beq_self_eq_true _
        simp only [if_pos hnm] at HFN
        have HF2 := Lib.hid (HFN.out _ rfl)
        clear hnm HFN HLL
        obtain ⟨A, cS, rfl⟩ := own_sliceN HOW3.out
        have HML : l.length + 1 ≤ maxLen := by simp only [maxLen]; omega
        have HMB : (l.length + 1) * 104 ≤ 140737488355328 := by omega
        have HROW := Lib.hid (World.ownsRow.alloc HOW3.out (.cells #[.string nm2, .int .i64 yf, .int .i64 yt, .int .i64 mo, .int .i64 dk, .int .i64 dw, .int .i64 dn, .int .i64 tm, .int .i64 ck, .int .i64 sv, .string lt] 35))
        have HNEW := Lib.hid (World.news_of_block (cs := #[.string nm2, .int .i64 yf, .int .i64 yt, .int .i64 mo, .int .i64 dk, .int .i64 dw, .int .i64 dn, .int .i64 tm, .int .i64 ck, .int .i64 sv, .string lt]) (t := 35) (fr := (0, 0)) (heap_alloc_new W3 (.cells #[.string nm2, .int .i64 yf, .int .i64 yt, .int .i64 mo, .int .i64 dk, .int .i64 dw, .int .i64 dn, .int .i64 tm, .int .i64 ck, .int .i64 sv, .string lt] 35)))
        have HSZ3 : w2.heap.size ≤ (W3.alloc (.cells #[.string nm2, .int .i64 yf, .int .i64 yt, .int .i64 mo, .int .i64 dk, .int .i64 dw, .int .i64 dn, .int .i64 tm, .int .i64 ck, .int .i64 sv, .string lt] 35)).heap.size := by simp; omega
        go_wp2_with (at_builtin; refine wpList_append_own _ rfl _ _ 22 rfl w2.heap.size 35 i1 (.agg #[.string ⟨#[]⟩, .int .i64 0, .int .i64 0, .int .i64 0, .int .i64 0, .int .i64 0, .int .i64 0, .int .i64 0, .int .i64 0, .int .i64 0, .string ⟨#[]⟩]) 11 104 undRu hi1 hz10 hz11 hz12 rfl (by decide) _ _ _ rfl HROW.out ⟨W3.heap.size, 0, none⟩ 1 1 [.string nm2, .int .i64 yf, .int .i64 yt, .int .i64 mo, .int .i64 dk, .int .i64 dw, .int .i64 dn, .int .i64 tm, .int .i64 ck, .int .i64 sv, .string lt] rfl rfl HNEW.out (by simp [Value.oneCell']) HML HMB HSZ3 ?_; intro v' w10 hown10 hgrow10 _)
        go_roundw
        case rel =>
          refine ⟨k + 1, l ++ [⟨nm2, yf, yt, mo, dk, dw, dn, tm, ck, sv, lt⟩], by omega, by go_num, by simp; omega, HF2, ?_, ?_⟩
          · show World.ownsRow _ _ _ _ _ _ _
            rw [ruFlat_snoc, List.length_append]
            exact hown10
          · exact ((HB3.out.alloc hz3 _).grown hgrow10 HSZ3 fun q hq => (World.ownsRow.lt HROW.out q hq).1)
        case measure => simp [intOf]; omega
      · have t0 : (nm2.toList == nm.toList) = false := bytes_neT hnm
        simp only [if_neg hnm] at HFN
        have HF2 := Lib.hid (HFN.out l (by simp))
        clear hnm HFN HLL
        go_wp2_with fail
        go_roundw
        case rel => exact ⟨k + 1, l, by omega, by go_num, by omega, HF2, HOW3, HB3⟩
        case measure => simp [intOf]; omega
    · obtain rfl : k = b.rules.length := by omega
      have hll := HLL.out
      rw [List.take_length] at hll
      obtain ⟨A, cS, rfl⟩ := own_sliceN HOW.out
      have hb3 := HBR.out
      have HX3 := (hb3.block w.heap.size hl2).trans HBX2.out
      have HB3 := Lib.hid (HB2.out.trans (hb3.mono (Nat.le_of_lt hl2)))
      have HBK3 := Lib.hid ((HBK.out.below HB3.out (Nat.le_refl _)).base (Nat.le_of_lt hlr))
      have HOF := Lib.hid (Of_book MK b _ _ _ nm off wr HBK3.out (HM.out.below HB3.out) (HT.out.below HB3.out))
      have g0 := (cell_of_row wr _ 0 _ _ _ HX3).trans rfl
      have g1 := (cell_of_row wr _ 1 _ _ _ HX3).trans rfl
      have g2 := (cell_of_row wr _ 2 _ _ _ HX3).trans rfl
      have hl100 : l.length ≤ 100000 := by omega
      have hRA : RowsAt ruL 11 wr.heap.size wr (.slice A l.length cS) l := own_rowsG (cells := ruL) (k := 11) (fun _ => rfl) HOW.out hl100
      have HRA := Lib.hid hRA
      have HSL : Hid (∀ r ∈ l, SzR r) := by
        show ∀ r ∈ l, _
        intro r hr
        rw [hll] at hr
        exact HSZ.out r (List.mem_filter.1 hr).1
      have HL2 := HL.out
      rw [← hll] at HL2
      have HLB := Lib.hid HL2
      clear hll hb3 HX3 HBX2 HBR HRWX HLL HL HL2 HOW hRA
      obtain ⟨W3, eW3⟩ : ∃ W3, wr = W3 := ⟨_, rfl⟩
      rw [eW3] at HOF HB3 g0 g1 g2 HBK3 hlr HRA ⊢
      clear eW3 hzr
      go_wp2_with fail
      refine HOF.out.mono ?_
      rintro e w4 ⟨vo, rfl, hrow, hb4⟩
      have HB4 := Lib.hid (HB3.out.trans (hb4.mono HB3.out.size))
      have HRA4 := HRA.out.below hb4 (Nat.le_refl _)
      have HOF2 := Lib.hid (Of_book MK ⟨l, [], []⟩ _ _ _ nm off w4 (book_rules (HRA4.mono hb4.size) HSL.out) (HM.out.below HB4.out) (HT.out.below HB4.out))
      rw [HLB.out] at HOF2
      have hof := ofR_len b nm off
      have hof2 : (ofR b nm off).2.length ≤ 100000 := by omega
      have HR4 := own_rowsT hrow hof2
      obtain ⟨R, eR⟩ : ∃ R, ofR b nm off = R := ⟨_, rfl⟩
      have HLN := ofR_len b nm off
      rw [eR] at HOF2 hrow HR4 HLN ⊢
      obtain ⟨C, L⟩ := R
      simp only at hrow HR4 HLN ⊢
      obtain ⟨A2, cA, rfl⟩ := own_sliceN hrow
      have HRL := Lib.hid HR4
      clear hrow hb4 eR HOF HBK3 HR4 g0 g1 g2 HRA4 HRA
      go_wp2_with fail
      refine HOF2.out.mono ?_
      rintro e w5 ⟨vo2, rfl, hrow2, hb5⟩
      simp only at hrow2 ⊢
      obtain ⟨A3, cA3, rfl⟩ := own_sliceN hrow2
      have HB5 := Lib.hid (HB4.out.trans (hb5.mono HB4.out.size))
      have HR5 := own_rowsT hrow2 (by omega)
      have HEQ := Lib.hid (EqTn_self L _ _ w5 ((HRL.out.below hb5 (Nat.le_refl _)).mono hb5.size) HR5)
      clear hrow2 hb5 HR5 HOF2 HRL
      have hcc : (C == C) = true := beq_self_eq_true _
      go_wp2_with fail
      refine HEQ.out.mono ?_
      rintro e w6 ⟨rfl, hb6⟩
      go_wp2_with fail
      go_ret
      exact ⟨rfl, HB5.out.trans (hb6.mono HB5.out.size)⟩
end Go.Proofs.YtlgdilpmdoofiaaDoor
