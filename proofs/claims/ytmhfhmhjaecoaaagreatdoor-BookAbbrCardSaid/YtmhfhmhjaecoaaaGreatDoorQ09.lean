/- book.Parse: a line. day.Of: what it returns. -/
import Derived.Test.YtmhfhmhjaecoaaaGreatDoorQ08
import Derived.Test.YtmhfhmhjaecoaaaGreatDoorQ01
import Derived.Test.YtmhfhmhjaecoaaaGreatDoorCiv3a
namespace Go.Proofs.YtmhfhmhjaecoaaaGreatDoor
open Go.RowKit Go.Joins
open Classical
set_option linter.unusedVariables false
set_option linter.unusedSimpArgs false

theorem undRuP : Tryz.prog.underlying 27 = some (.slice 105) := by kernel_rfl
theorem infoRuP : (Tryz.prog.info? 105).map (fun i => (i.zero, i.size, i.bytes)) = some (some (.agg #[.string ⟨#[]⟩, .int .i64 0, .int .i64 0, .int .i64 0, .int .i64 0, .int .i64 0, .int .i64 0, .int .i64 0, .int .i64 0, .int .i64 0, .string ⟨#[]⟩]), 11, 104) := by kernel_rfl
theorem undZoP : Tryz.prog.underlying 28 = some (.slice 50) := by kernel_rfl
theorem infoZoP : (Tryz.prog.info? 50).map (fun i => (i.zero, i.size, i.bytes)) = some (some (.agg #[.string ⟨#[]⟩, .slice none 0 0]), 2, 40) := by kernel_rfl
theorem undLkP : Tryz.prog.underlying 29 = some (.slice 52) := by kernel_rfl
theorem infoLkP : (Tryz.prog.info? 52).map (fun i => (i.zero, i.size, i.bytes)) = some (some (.agg #[.string ⟨#[]⟩, .string ⟨#[]⟩]), 2, 32) := by kernel_rfl
/-- behind an append onto one of the reader's rows -/
theorem rd_grow {B R : Nat} {W w6 : World} {rv zv lv v : Value} {evs : List Value} {st : RdS} {e : TypeId} {s n : Nat} {xs : List Value} {o : Obj} (h : RdM B W R rv zv lv evs st) (ho : W.ownsRow B e s v n xs) (hne : e ≠ 114)
    (hg : (W.drew.alloc o).grownBy w6 v.ownBlock) : (∀ b, b < W.heap.size → v.ownBlock ≠ some b → w6.heap[b]? = W.heap[b]?) ∧ w6.heap[R]? = W.heap[R]? ∧ w6.cell? ⟨R, 0, none⟩ = some rv ∧ w6.cell? ⟨R, 1, none⟩ = some zv ∧ w6.cell? ⟨R, 2, none⟩ = some lv ∧ w6.cell? ⟨R, 3, none⟩ = some (.int .i64 st.stage) ∧ (∀ o, w6.frozen? ⟨R, o, none⟩ = false) ∧ R < w6.heap.size := by
  have hk : ∀ b, b < W.heap.size → v.ownBlock ≠ some b → w6.heap[b]? = W.heap[b]? := fun b hb hn => (hg.block b (by simp; omega) (fun e => hn e.symm)).trans (Below.heap_alloc W.drew _ b hb)
  have hR := hk R h.lt (own_neT ho h.blk hne)
  have hb := hR.trans h.blk
  exact ⟨hk, hR, (cell_of_row w6 _ 0 _ _ _ hb).trans rfl, (cell_of_row w6 _ 1 _ _ _ hb).trans rfl, (cell_of_row w6 _ 2 _ _ _ hb).trans rfl, (cell_of_row w6 _ 3 _ _ _ hb).trans rfl, fun o => by simp [World.frozen?, hb], (Array.getElem?_eq_some_iff.mp hb).1⟩
theorem row_in {B : Nat} {W : World} {v : Value} {e : TypeId} {s n : Nat} {xs : List Value} {o : Obj} (ho : W.ownsRow B e s v n xs) : (W.drew.alloc o).ownsRow B e s v n xs := World.ownsRow.alloc (World.ownsRow.drew ho) _
theorem below_row {B : Nat} {w W w6 : World} {v : Value} {e : TypeId} {s n : Nat} {xs : List Value} {o : Obj} (hb : Below B w W) (hB : B ≤ W.heap.size) (ho : W.ownsRow B e s v n xs) (hg : (W.drew.alloc o).grownBy w6 v.ownBlock) : Below B w w6 :=
  (hb.drew.alloc hB _).grown hg (by simp; omega) (fun q hq => (World.ownsRow.lt ho q hq).1)
theorem eraF_of {st : RdS} {l : List UInt8} (h1 : (splitC 32 l).getD 0 [] = eraW) : lineF st l = eraF st (splitC 32 l) := by
  unfold lineF
  rw [if_neg (by rw [h1]; rintro ⟨h, _⟩; exact absurd h (by decide)), if_neg (by rw [h1]; rintro ⟨h, _⟩; exact absurd h (by decide)), if_pos h1]

set_option maxRecDepth 100000 in
set_option maxHeartbeats 20000000 in
theorem rdLine_any (B R : Nat) (rv zv lv : Value) (evs : List Value) (st : RdS) (l : List UInt8) (w : World) (h : RdM B w R rv zv lv evs st) (hs : RdSz st) (hB : B ≤ w.heap.size)
    (hl : l.length ≤ 60000) (ht : Tab10 w) (ha : AscTab w) (he : NumErrs w) (hm : MaxLen w) :
    Calls Tryz.prog 48 #[.pointer (some ⟨R, 0, none⟩), .string (txt l)] w (LnPost B R (lineF st l) w) := by
  have HM := Lib.hid h
  have HSZ := Lib.hid hs
  have HT := Lib.hid ht
  have HA := Lib.hid ha
  have HE := Lib.hid he
  have HX := Lib.hid hm
  have HSP := Lib.hid (splitC_any 32 l w (by omega) hm)
  have hne := splitC_ne 32 l
  have hsm := splitC_small 32 l
  have hcnt := splitC_length 32 l
  have hcl : l.count 32 ≤ l.length := List.count_le_length
  obtain ⟨LN, eLN⟩ : ∃ LN, lineF st l = LN := ⟨_, rfl⟩
  have HLN : Hid (lineF st l = LN) := eLN
  have HRU := Lib.hid (fun W ht ha hn hm => rdRule_any l W (by omega) ht ha hn hm)
  rw [eLN]
  obtain ⟨ws, ews⟩ : ∃ ws, splitC 32 l = ws := ⟨_, rfl⟩
  have EWS := Lib.hid ews
  rw [ews] at HSP hne hsm hcnt
  have hw0 : 0 < ws.length := List.length_pos_iff.2 hne
  have hwn : ws.length ≤ 60001 := by omega
  have HWS := Lib.hid hsm
  clear h hs ht ha he hm eLN ews hne hsm hcnt hcl
  go_enter Tryz.func48, Tryz.ntmps48
  go_wp2_with fail
  refine HSP.out.mono ?_
  rintro e w1 ⟨A, rfl, hA1, hA2, hcs, hb1⟩
  have HB1 := Lib.hid (hb1.mono hB)
  have HB1w := Lib.hid hb1
  have HM1 := Lib.hid (HM.out.below hb1)
  have HCS := Lib.hid hcs
  have hB1 : B ≤ w1.heap.size := Nat.le_trans hB hb1.size
  obtain ⟨c0, c1, c2, c3, cf⟩ := HM1.out.cells
  have hR1 := HM1.out.lt
  have z0 : w1.cell? ⟨A, 0, none⟩ = some (.string (txt (ws.getD 0 []))) := by rw [getD_in _ _ hw0]; exact hcs 0 hw0
  have hi0 : (0 : Int) < (ws.length : Int) := by omega
  obtain ⟨s0, es0⟩ : ∃ s0, txt (ws.getD 0 []) = s0 := ⟨_, rfl⟩
  have hs0 : s0.toList = ws.getD 0 [] := by rw [← es0, ByteArray.toList_eq, txt_data]
  have ES0 := Lib.hid hs0
  rw [es0] at z0
  clear hb1 hcs HSP HM hs0 es0
  have HK : Hid (∀ k : List UInt8, (s0.toList == k) = decide (ws.getD 0 [] = k)) := by
    show ∀ k, _
    intro k
    rw [ES0.out]
    by_cases g : ws.getD 0 [] = k
    · rw [g, decide_eq_true rfl]; exact beq_self_eq_true _
    · rw [decide_eq_false g]; simpa using g
  obtain ⟨sg, esg⟩ : ∃ sg, st.stage = sg := ⟨_, rfl⟩
  have ESG := Lib.hid esg
  rw [esg] at c3
  clear esg
  go_upto_region 2 with fail
  go_cut [10] from 11 to 21 (fun s10 wx => s10 = .bool (decide (ws.getD 0 [] = ruleW ∧ sg = 0)) ∧ wx = w1)
  case first =>
    have q0 := HK.out [114, 117, 108, 101]
    by_cases g0 : ws.getD 0 [] = ruleW
    · rw [decide_eq_true (show ws.getD 0 [] = [114, 117, 108, 101] from g0)] at q0
      by_cases g1 : sg = 0
      · have g1b : (sg == 0) = true := by simpa using g1
        have hD := decide_eq_true (And.intro g0 g1)
        clear g0 g1
        go_wp2_with fail
        go_meet
        exact ⟨congrArg Value.bool hD.symm, rfl⟩
      · have g1b : (sg == 0) = false := by simpa using g1
        have hD : decide (ws.getD 0 [] = ruleW ∧ sg = 0) = false := decide_eq_false (fun h => g1 h.2)
        clear g0 g1
        go_wp2_with fail
        go_meet
        exact ⟨congrArg Value.bool hD.symm, rfl⟩
    · rw [decide_eq_false (show ¬ ws.getD 0 [] = [114, 117, 108, 101] from g0)] at q0
      have hD : decide (ws.getD 0 [] = ruleW ∧ sg = 0) = false := decide_eq_false (fun h => g0 h.1)
      clear g0
      go_wp2_with fail
      go_meet
      exact ⟨congrArg Value.bool hD.symm, rfl⟩
  case rest =>
  obtain ⟨rfl, hwc⟩ := hcut
  rw [hwc]
  clear hwc wc
  by_cases hr : ws.getD 0 [] = ruleW ∧ sg = 0
  · rw [decide_eq_true hr]
    have hln : LN = if (rdRule l).2 = 0 then some ⟨st.rules ++ [(rdRule l).1], st.zones, st.links, st.stage⟩ else none := by
      rw [← HLN.out]
      unfold lineF
      rw [EWS.out, ESG.out, if_pos hr]
    have HLR := Lib.hid hln
    have HPR := Lib.hid (HRU.out w1 (HT.out.below HB1w.out) (HA.out.below HB1w.out) (HE.out.below HB1w.out) (HX.out.below HB1w.out))
    obtain ⟨r, er⟩ : ∃ r, (rdRule l).1 = r := ⟨_, rfl⟩
    obtain ⟨C, eC⟩ : ∃ r, (rdRule l).2 = r := ⟨_, rfl⟩
    rw [er, eC] at HLR HPR
    clear hln er eC hr
    obtain ⟨nm, yf, yt, mo, dk, dw, dn, tm, ck, sv, lt⟩ := r
    go_wp2_with fail
    refine HPR.out.mono ?_
    rintro e w2 ⟨rfl, hb2⟩
    have HB2 := Lib.hid (HB1.out.trans (hb2.mono hB1))
    have HM2 := Lib.hid (HM1.out.below hb2)
    obtain ⟨W3, e3⟩ : ∃ W3, w2.alloc (.cells #[.string nm, .int .i64 yf, .int .i64 yt, .int .i64 mo, .int .i64 dk, .int .i64 dw, .int .i64 dn, .int .i64 tm, .int .i64 ck, .int .i64 sv, .string lt] 105) = W3 := ⟨_, rfl⟩
    obtain ⟨tb, etb⟩ : ∃ tb, w2.heap.size = tb := ⟨_, rfl⟩
    have hx3 : W3.heap[tb]? = some (.cells #[.string nm, .int .i64 yf, .int .i64 yt, .int .i64 mo, .int .i64 dk, .int .i64 dw, .int .i64 dn, .int .i64 tm, .int .i64 ck, .int .i64 sv, .string lt] 105 (0, 0)) := by rw [← e3]; exact alloc_at _ _ _ etb.symm
    have hb3 : Below w2.heap.size w2 W3 := by rw [← e3]; exact alB _ _
    have HE3 := Lib.hid e3
    have HTB := Lib.hid etb
    have HM3 := Lib.hid (HM2.out.below hb3)
    have HX3 := Lib.hid hx3
    have hB2 : B ≤ w2.heap.size := Nat.le_trans hB1 hb2.size
    have HB3 := Lib.hid (HB2.out.trans (hb3.mono hB2))
    have hB3 : B ≤ W3.heap.size := Nat.le_trans hB2 hb3.size
    have HSK3 := Lib.hid (StrKeep.below (HB1w.out.trans ((hb2.trans (hb3.mono hb2.size)).mono HB1w.out.size)))
    have htb3 : tb < W3.heap.size := (Array.getElem?_eq_some_iff.mp hx3).1
    have y0 : W3.cell? ⟨tb, 0, none⟩ = some (.string nm) := (cell_of_row W3 _ 0 _ _ _ hx3).trans rfl
    have y1 : W3.cell? ⟨tb, 1, none⟩ = some (.int .i64 yf) := (cell_of_row W3 _ 1 _ _ _ hx3).trans rfl
    have y2 : W3.cell? ⟨tb, 2, none⟩ = some (.int .i64 yt) := (cell_of_row W3 _ 2 _ _ _ hx3).trans rfl
    have y3 : W3.cell? ⟨tb, 3, none⟩ = some (.int .i64 mo) := (cell_of_row W3 _ 3 _ _ _ hx3).trans rfl
    have y4 : W3.cell? ⟨tb, 4, none⟩ = some (.int .i64 dk) := (cell_of_row W3 _ 4 _ _ _ hx3).trans rfl
    have y5 : W3.cell? ⟨tb, 5, none⟩ = some (.int .i64 dw) := (cell_of_row W3 _ 5 _ _ _ hx3).trans rfl
    have y6 : W3.cell? ⟨tb, 6, none⟩ = some (.int .i64 dn) := (cell_of_row W3 _ 6 _ _ _ hx3).trans rfl
    have y7 : W3.cell? ⟨tb, 7, none⟩ = some (.int .i64 tm) := (cell_of_row W3 _ 7 _ _ _ hx3).trans rfl
    have y8 : W3.cell? ⟨tb, 8, none⟩ = some (.int .i64 ck) := (cell_of_row W3 _ 8 _ _ _ hx3).trans rfl
    have y9 : W3.cell? ⟨tb, 9, none⟩ = some (.int .i64 sv) := (cell_of_row W3 _ 9 _ _ _ hx3).trans rfl
    have y10 : W3.cell? ⟨tb, 10, none⟩ = some (.string lt) := (cell_of_row W3 _ 10 _ _ _ hx3).trans rfl
    have hR3 := HM3.out.lt
    obtain ⟨A3, cA, rfl⟩ := own_sliceN HM3.out.rr
    clear c0 c1 c2 c3 cf z0
    obtain ⟨c0, c1, c2, c3, cf⟩ := HM3.out.cells
    have hrn := HSZ.out.r
    obtain ⟨n, en⟩ : ∃ n, st.rules.length = n := ⟨_, rfl⟩
    have hrr := HM3.out.rr
    rw [en] at hrn hrr c0
    have HRR := Lib.hid hrr
    have EN := Lib.hid en
    obtain ⟨i1, hi1, hz10, hz11, hz12⟩ := info_parts infoRuP
    have HL1 : Hid (n + 1 ≤ maxLen) := by show _ ≤ _; simp only [maxLen]; omega
    have HL2 : Hid ((n + 1) * 104 ≤ 140737488355328) := by show _ ≤ _; omega
    have H1 : Hid (∀ u ∈ ([.string nm, .int .i64 yf, .int .i64 yt, .int .i64 mo, .int .i64 dk, .int .i64 dw, .int .i64 dn, .int .i64 tm, .int .i64 ck, .int .i64 sv, .string lt] : List Value), u.oneCell' = true) := by intro u hu; simp at hu; rcases hu with rfl | rfl | rfl | rfl | rfl | rfl | rfl | rfl | rfl | rfl | rfl <;> rfl
    have HBS : Hid (∀ o : Obj, B ≤ (W3.drew.alloc o).heap.size) := by
      show ∀ o : Obj, _
      intro o
      simp; omega
    have KG : Hid (∀ (o : Obj) (w6 : World), (W3.drew.alloc o).grownBy w6 (Value.slice A3 n cA).ownBlock → w6.cell? ⟨R, 0, none⟩ = some (.slice A3 n cA) ∧ w6.frozen? ⟨R, 0, none⟩ = false ∧ R < w6.heap.size) := by
      show ∀ o w6, _
      intro o w6 hg
      have hrd := HM3.out
      rw [en] at hrd
      have hg2 := rd_grow hrd HRR.out (by decide) hg
      exact ⟨hg2.2.2.1, hg2.2.2.2.2.2.2.1 0, hg2.2.2.2.2.2.2.2⟩
    clear e3 etb hb2 hb3 hx3 hrr en HPR HM2 HB2
    go_upto_region 4 with fail
    rw [HE3.out, HTB.out]
    go_region_law (first
      | (refine step_append_lies _ (by rfl) _ _ _ (by rfl) B 105 i1 _ 11 104 undRuP hi1 hz10 hz11 hz12 rfl (by omega) (.slice A3 n cA) n (ruCs st.rules) (by rfl) (row_in HRR.out) ⟨W3.heap.size, 0, none⟩ 1 1 [.string nm, .int .i64 yf, .int .i64 yt, .int .i64 mo, .int .i64 dk, .int .i64 dw, .int .i64 dn, .int .i64 tm, .int .i64 ck, .int .i64 sv, .string lt] (by rfl) (by rfl) (World.news_of_block (cs := #[.string nm, .int .i64 yf, .int .i64 yt, .int .i64 mo, .int .i64 dk, .int .i64 dw, .int .i64 dn, .int .i64 tm, .int .i64 ck, .int .i64 sv, .string lt]) (t := 105) (fr := (0, 0)) (heap_alloc_new W3.drew _)) H1.out Nat.one_pos HL1.out HL2.out (HBS.out _) (W3.heap.size + 1) (by simp) ?_; intro g6 cap6 w6 hown6 hg6 hat6 hlt6; obtain ⟨t6c, t6f, t6l⟩ := KG.out _ _ hg6))
    all_goals
      obtain ⟨W7, e7⟩ : ∃ W7, w6.setCell ⟨R, 0, none⟩ (.slice (some ⟨g6, 0, none⟩) (n + 1) cap6) = W7 := ⟨_, rfl⟩
      rw [e7]
      have hgr := rd_grow HM3.out HRR.out (by decide) hg6
      have hb6 := below_row HB3.out hB3 HRR.out hg6
      have hb7 : Below B w W7 := by rw [← e7]; exact hb6.setCell HM3.out.hR _
      have hgR : g6 ≠ R := by
        rcases hat6 with e | e
        · intro e2; exact own_neT HRR.out HM3.out.blk (by decide) (by rw [e, e2])
        · omega
      have hset : ∀ b, b ≠ R → W7.heap[b]? = w6.heap[b]? := fun b hb => by rw [← e7]; exact Below.heap_setCell _ _ _ _ hb
      have hbk : W7.heap[R]? = some (.cells #[.slice (some ⟨g6, 0, none⟩) (n + 1) cap6, zv, lv, .int .i64 st.stage] 114 (0, 0)) := by
        rw [← e7, heap_setCell_same w6 R 0 _ _ _ (hgr.2.1.trans HM3.out.blk)]; rfl
      have hown7 := own_keep (W' := W7) hown6 fun b e => hset b (by simp only [Value.ownBlock] at e; injection e with e; omega)
      have hrd := RdM.rule (W7 := W7) (r := ⟨nm, yf, yt, mo, dk, dw, dn, tm, ck, sv, lt⟩) HM3.out (fun b hb h1 h2 => (hset b h2).trans (hgr.1 b hb (by rw [EN.out] at h1; exact h1))) hbk (by rw [EN.out]; exact hown7)
      have HRD := Lib.hid hrd
      have HB7 := Lib.hid hb7
      have HSK : Hid (StrKeep w W7) := by
        show StrKeep w W7
        rw [← e7]
        exact (HSK3.out.trans (StrKeep.row HRR.out (by decide) hg6)).trans (StrKeep.set (hgr.2.1.trans HM3.out.blk) (by decide) _ _)
      clear hrd hb7 hb6 hown7 hset hbk hgr e7 t6c t6f t6l hown6 hg6 hat6 hlt6 hgR
      by_cases hC : C = 0
      · have hl1 : LN = some ⟨st.rules ++ [⟨nm, yf, yt, mo, dk, dw, dn, tm, ck, sv, lt⟩], st.zones, st.links, st.stage⟩ := by rw [HLR.out, if_pos hC]
        subst hl1
        subst hC
        go_wp2_with fail
        go_ret
        exact ⟨rfl, HB7.out, HSK.out, fun st' e => by injection e with e; subst e; exact ⟨_, _, _, _, HRD.out⟩⟩
      · have hl1 : LN = none := by rw [HLR.out, if_neg hC]
        have hCb : (C == 0) = false := by simpa using hC
        subst hl1
        clear hC
        go_wp2_with fail
        go_ret
        exact ⟨rfl, HB7.out, HSK.out, fun st' e => by cases e⟩
  rw [decide_eq_false hr]
  have HR1 := Lib.hid hr
  clear hr
  have Z1 : Hid (1 < ws.length → w1.cell? ⟨A, 1, none⟩ = some (.string (txt (ws.getD 1 [])))) := by
    show _ → _
    intro h; rw [getD_in _ _ h]; exact HCS.out 1 h
  have Z2 : Hid (2 < ws.length → w1.cell? ⟨A, 2, none⟩ = some (.string (txt (ws.getD 2 [])))) := by
    show _ → _
    intro h; rw [getD_in _ _ h]; exact HCS.out 2 h
  go_upto_region 6 with fail
  go_cut [41] from 42 to 57 (fun s41 wx => s41 = .bool (decide (ws.getD 0 [] = zoneW ∧ sg ≤ 1 ∧ ws.length = 2)) ∧ wx = w1)
  case first =>
    have q0 := HK.out [122, 111, 110, 101]
    by_cases g0 : ws.getD 0 [] = zoneW
    · rw [decide_eq_true (show ws.getD 0 [] = [122, 111, 110, 101] from g0)] at q0
      by_cases g1 : sg ≤ 1
      · by_cases g2 : ws.length = 2
        · have g2b : ((ws.length : Int) == 2) = true := by rw [g2]; rfl
          have HD : Hid (decide (ws.getD 0 [] = zoneW ∧ sg ≤ 1 ∧ ws.length = 2) = true) := decide_eq_true ⟨g0, g1, g2⟩
          clear g0 g2
          go_wp2_with fail
          go_meet
          exact ⟨congrArg Value.bool HD.out.symm, rfl⟩
        · have g2n : ¬ (ws.length : Int) = 2 := by omega
          have g2b : ((ws.length : Int) == 2) = false := by simpa using g2n
          clear g2n
          have HD : Hid (decide (ws.getD 0 [] = zoneW ∧ sg ≤ 1 ∧ ws.length = 2) = false) := decide_eq_false fun h => g2 h.2.2
          clear g0 g2
          go_wp2_with fail
          go_meet
          exact ⟨congrArg Value.bool HD.out.symm, rfl⟩
      · have HD : Hid (decide (ws.getD 0 [] = zoneW ∧ sg ≤ 1 ∧ ws.length = 2) = false) := decide_eq_false fun h => g1 h.2.1
        clear g0
        go_wp2_with fail
        go_meet
        exact ⟨congrArg Value.bool HD.out.symm, rfl⟩
    · rw [decide_eq_false (show ¬ ws.getD 0 [] = [122, 111, 110, 101] from g0)] at q0
      have HD : Hid (decide (ws.getD 0 [] = zoneW ∧ sg ≤ 1 ∧ ws.length = 2) = false) := decide_eq_false fun h => g0 h.1
      clear g0
      go_wp2_with fail
      go_meet
      exact ⟨congrArg Value.bool HD.out.symm, rfl⟩
  case rest =>
  obtain ⟨rfl, hwc⟩ := hcut
  rw [hwc]
  clear hwc wc
  by_cases hz : ws.getD 0 [] = zoneW ∧ sg ≤ 1 ∧ ws.length = 2
  · rw [decide_eq_true hz]
    have hln : LN = some ⟨st.rules, st.zones ++ [(txt (ws.getD 1 []), [])], st.links, 2⟩ := by
      rw [← HLN.out]
      unfold lineF
      rw [EWS.out, ESG.out, if_neg HR1.out, if_pos hz]
    have hl1 : 1 < ws.length := by omega
    have z1 := Z1.out hl1
    have hi1 : (1 : Int) < (ws.length : Int) := by omega
    obtain ⟨nm, enm⟩ : ∃ nm, txt (ws.getD 1 []) = nm := ⟨_, rfl⟩
    rw [enm] at z1 hln
    subst hln
    clear enm hz hl1 z0
    obtain ⟨A3, cA, eV⟩ := own_sliceN HM1.out.zr
    subst eV
    have hrn := HSZ.out.z
    obtain ⟨n, en⟩ : ∃ n, st.zones.length = n := ⟨_, rfl⟩
    have hrr := HM1.out.zr
    rw [en] at hrn hrr c1
    have HRR := Lib.hid hrr
    have EN := Lib.hid en
    obtain ⟨i1, hi1', hz10, hz11, hz12⟩ := info_parts infoZoP
    have HL1 : Hid (n + 1 ≤ maxLen) := by show _ ≤ _; simp only [maxLen]; omega
    have HL2 : Hid ((n + 1) * 40 ≤ 140737488355328) := by show _ ≤ _; omega
    have H1 : Hid (∀ u ∈ ([.string nm, .slice none 0 0] : List Value), u.oneCell' = true) := by intro u hu; simp at hu; rcases hu with rfl | rfl <;> rfl
    have HBS : Hid (∀ o : Obj, B ≤ (w1.drew.alloc o).heap.size) := by
      show ∀ o : Obj, _
      intro o
      simp; omega
    have KG : Hid (∀ (o : Obj) (w6 : World), (w1.drew.alloc o).grownBy w6 (Value.slice A3 n cA).ownBlock → w6.cell? ⟨R, 1, none⟩ = some (.slice A3 n cA) ∧ w6.frozen? ⟨R, 1, none⟩ = false ∧ w6.cell? ⟨R, 3, none⟩ = some (.int .i64 sg) ∧ w6.frozen? ⟨R, 3, none⟩ = false ∧ R < w6.heap.size) := by
      show ∀ o w6, _
      intro o w6 hg
      have hrd := HM1.out
      rw [en] at hrd
      have hg2 := rd_grow hrd HRR.out (by decide) hg
      have h3 := hg2.2.2.2.2.2.1
      rw [ESG.out] at h3
      exact ⟨hg2.2.2.2.1, hg2.2.2.2.2.2.2.1 1, h3, hg2.2.2.2.2.2.2.1 3, hg2.2.2.2.2.2.2.2⟩
    clear hrr en
    go_upto_region 7 with fail
    go_region_law (first
      | (refine step_append_lies _ (by rfl) _ _ _ (by rfl) B 50 i1 _ 2 40 undZoP hi1' hz10 hz11 hz12 rfl (by omega) (.slice A3 n cA) n (zoCs st.zones evs) (by rfl) (row_in HRR.out) ⟨w1.heap.size, 0, none⟩ 1 1 [.string nm, .slice none 0 0] (by rfl) (by rfl) (World.news_of_block (cs := #[.string nm, .slice none 0 0]) (t := 50) (fr := (0, 0)) (heap_alloc_new w1.drew _)) H1.out Nat.one_pos HL1.out HL2.out (HBS.out _) (w1.heap.size + 1) (by simp) ?_; intro g6 cap6 w6 hown6 hg6 hat6 hlt6; obtain ⟨t6a, t6b, t6c, t6d, t6l⟩ := KG.out _ _ hg6))
    all_goals
      obtain ⟨W7, e7⟩ : ∃ W7, (w6.setCell ⟨R, 1, none⟩ (.slice (some ⟨g6, 0, none⟩) (n + 1) cap6)).setCell ⟨R, 3, none⟩ (.int .i64 2) = W7 := ⟨_, rfl⟩
      rw [e7]
      have hgr := rd_grow HM1.out HRR.out (by decide) hg6
      have hb6 := below_row HB1.out hB1 HRR.out hg6
      have hb7 : Below B w W7 := by rw [← e7]; exact (hb6.setCell HM1.out.hR _).setCell HM1.out.hR _
      have hgR : g6 ≠ R := by
        rcases hat6 with e | e
        · intro e2; exact own_neT HRR.out HM1.out.blk (by decide) (by rw [e, e2])
        · omega
      have hset : ∀ b, b ≠ R → W7.heap[b]? = w6.heap[b]? := fun b hb => by rw [← e7]; exact (Below.heap_setCell _ _ _ _ hb).trans (Below.heap_setCell _ _ _ _ hb)
      have hbk : W7.heap[R]? = some (.cells #[rv, .slice (some ⟨g6, 0, none⟩) (n + 1) cap6, lv, .int .i64 2] 114 (0, 0)) := by
        have h1 := heap_setCell_same w6 R 1 _ _ (.slice (some ⟨g6, 0, none⟩) (n + 1) cap6) (hgr.2.1.trans HM1.out.blk)
        rw [← e7, heap_setCell_same _ R 3 _ _ _ h1]; rfl
      have hown7 := own_keep (W' := W7) hown6 fun b e => hset b (by simp only [Value.ownBlock] at e; injection e with e; omega)
      have hrd := RdM.zone (W7 := W7) (nm := nm) HM1.out (fun b hb h1 h2 => (hset b h2).trans (hgr.1 b hb (by rw [EN.out] at h1; exact h1))) hbk (by rw [EN.out]; exact hown7)
      have HRD := Lib.hid hrd
      have HB7 := Lib.hid hb7
      have HSK : Hid (StrKeep w W7) := by
        show StrKeep w W7
        have hx6 := hgr.2.1.trans HM1.out.blk
        have h1 := heap_setCell_same w6 R 1 _ _ (.slice (some ⟨g6, 0, none⟩) (n + 1) cap6) hx6
        rw [← e7]
        exact (((StrKeep.below HB1w.out).trans (StrKeep.row HRR.out (by decide) hg6)).trans (StrKeep.set hx6 (by decide) _ _)).trans (StrKeep.set h1 (by decide) _ _)
      clear hrd hb7 hb6 hown7 hset hbk hgr e7 t6a t6b t6c t6d t6l hown6 hg6 hat6 hlt6 hgR
      go_wp2_with fail
      go_ret
      exact ⟨rfl, HB7.out, HSK.out, fun st' e => by injection e with e; subst e; exact ⟨_, _, _, _, HRD.out⟩⟩
  rw [decide_eq_false hz]
  have HR2 := Lib.hid hz
  clear hz
  by_cases he : ws.getD 0 [] = eraW
  · have q0 := HK.out [101, 114, 97]
    rw [decide_eq_true (show ws.getD 0 [] = [101, 114, 97] from he)] at q0
    have hln : LN = eraF st ws := by
      rw [← HLN.out, ← EWS.out]
      exact eraF_of (by rw [EWS.out]; exact he)
    have HER := Lib.hid (rdEra_any B R A rv zv lv evs st ws w1 HM1.out HSZ.out hA2 hB1 HCS.out (fun x hx => Nat.le_trans (HWS.out x hx) hl) (by omega) (HT.out.below HB1w.out) (HE.out.below HB1w.out) (HX.out.below HB1w.out))
    subst hln
    clear he c0 c1 c2 c3 cf
    go_wp2_with fail
    refine HER.out.mono ?_
    rintro e w2 ⟨rfl, hb2, hsk, hst⟩
    have HPO : Hid (Below B w w2 ∧ StrKeep w w2 ∧ ∀ st', eraF st ws = some st' → ∃ rv zv lv evs, RdM B w2 R rv zv lv evs st') := ⟨HB1.out.trans hb2, (StrKeep.below HB1w.out).trans hsk, hst⟩
    clear hb2 hsk hst HER
    go_wp2_with fail
    go_ret
    exact ⟨rfl, HPO.out.1, HPO.out.2.1, HPO.out.2.2⟩
  have q0 := HK.out [101, 114, 97]
  rw [decide_eq_false (show ¬ ws.getD 0 [] = [101, 114, 97] from he)] at q0
  have HR3 := Lib.hid he
  clear he
  go_upto_region 11 with fail
  go_cut [84] from 85 to 100 (fun s84 wx => s84 = .bool (decide (ws.getD 0 [] = linkW ∧ sg ≠ 2 ∧ ws.length = 3)) ∧ wx = w1)
  case first =>
    clear q0
    have q0 := HK.out [108, 105, 110, 107]
    by_cases g0 : ws.getD 0 [] = linkW
    · rw [decide_eq_true (show ws.getD 0 [] = [108, 105, 110, 107] from g0)] at q0
      by_cases g1 : sg = 2
      · have g1b : (sg != 2) = false := by simpa using g1
        have g1c : (sg == 2) = true := by simpa using g1
        have HD : Hid (decide (ws.getD 0 [] = linkW ∧ sg ≠ 2 ∧ ws.length = 3) = false) := decide_eq_false fun h => h.2.1 g1
        clear g0 g1
        go_wp2_with fail
        go_meet
        exact ⟨congrArg Value.bool HD.out.symm, rfl⟩
      · have g1b : (sg != 2) = true := by simpa using g1
        have g1c : (sg == 2) = false := by simpa using g1
        by_cases g2 : ws.length = 3
        · have g2b : ((ws.length : Int) == 3) = true := by rw [g2]; rfl
          have HD : Hid (decide (ws.getD 0 [] = linkW ∧ sg ≠ 2 ∧ ws.length = 3) = true) := decide_eq_true ⟨g0, g1, g2⟩
          clear g0 g1 g2
          go_wp2_with fail
          go_meet
          exact ⟨congrArg Value.bool HD.out.symm, rfl⟩
        · have g2n : ¬ (ws.length : Int) = 3 := by omega
          have g2b : ((ws.length : Int) == 3) = false := by simpa using g2n
          clear g2n
          have HD : Hid (decide (ws.getD 0 [] = linkW ∧ sg ≠ 2 ∧ ws.length = 3) = false) := decide_eq_false fun h => g2 h.2.2
          clear g0 g1 g2
          go_wp2_with fail
          go_meet
          exact ⟨congrArg Value.bool HD.out.symm, rfl⟩
    · rw [decide_eq_false (show ¬ ws.getD 0 [] = [108, 105, 110, 107] from g0)] at q0
      have HD : Hid (decide (ws.getD 0 [] = linkW ∧ sg ≠ 2 ∧ ws.length = 3) = false) := decide_eq_false fun h => g0 h.1
      clear g0
      go_wp2_with fail
      go_meet
      exact ⟨congrArg Value.bool HD.out.symm, rfl⟩
  case rest =>
  obtain ⟨rfl, hwc⟩ := hcut
  rw [hwc]
  clear hwc wc q0
  by_cases hk : ws.getD 0 [] = linkW ∧ sg ≠ 2 ∧ ws.length = 3
  · rw [decide_eq_true hk]
    have hln : LN = some ⟨st.rules, st.zones, st.links ++ [⟨txt (ws.getD 1 []), txt (ws.getD 2 [])⟩], 3⟩ := by
      rw [← HLN.out]
      unfold lineF
      rw [EWS.out, ESG.out, if_neg HR1.out, if_neg HR2.out, if_neg HR3.out, if_pos hk]
    have hl1 : 2 < ws.length := by omega
    have z1 := Z1.out (by omega)
    have z2 := Z2.out hl1
    have hi1 : (1 : Int) < (ws.length : Int) := by omega
    have hi2 : (2 : Int) < (ws.length : Int) := by omega
    obtain ⟨nm, enm⟩ : ∃ nm, txt (ws.getD 1 []) = nm := ⟨_, rfl⟩
    obtain ⟨tg, etg⟩ : ∃ nm, txt (ws.getD 2 []) = nm := ⟨_, rfl⟩
    rw [enm] at z1 hln
    rw [etg] at z2 hln
    subst hln
    clear enm etg hk hl1 z0
    obtain ⟨A3, cA, eV⟩ := own_sliceN HM1.out.lr
    subst eV
    have hrn := HSZ.out.l
    obtain ⟨n, en⟩ : ∃ n, st.links.length = n := ⟨_, rfl⟩
    have hrr := HM1.out.lr
    rw [en] at hrn hrr c2
    have HRR := Lib.hid hrr
    have EN := Lib.hid en
    obtain ⟨i1, hi1', hz10, hz11, hz12⟩ := info_parts infoLkP
    have HL1 : Hid (n + 1 ≤ maxLen) := by show _ ≤ _; simp only [maxLen]; omega
    have HL2 : Hid ((n + 1) * 32 ≤ 140737488355328) := by show _ ≤ _; omega
    have H1 : Hid (∀ u ∈ ([.string nm, .string tg] : List Value), u.oneCell' = true) := by intro u hu; simp at hu; rcases hu with rfl | rfl <;> rfl
    have HBS : Hid (∀ o : Obj, B ≤ (w1.drew.alloc o).heap.size) := by
      show ∀ o : Obj, _
      intro o
      simp; omega
    have KG : Hid (∀ (o : Obj) (w6 : World), (w1.drew.alloc o).grownBy w6 (Value.slice A3 n cA).ownBlock → w6.cell? ⟨R, 2, none⟩ = some (.slice A3 n cA) ∧ w6.frozen? ⟨R, 2, none⟩ = false ∧ w6.cell? ⟨R, 3, none⟩ = some (.int .i64 sg) ∧ w6.frozen? ⟨R, 3, none⟩ = false ∧ R < w6.heap.size) := by
      show ∀ o w6, _
      intro o w6 hg
      have hrd := HM1.out
      rw [en] at hrd
      have hg2 := rd_grow hrd HRR.out (by decide) hg
      have h3 := hg2.2.2.2.2.2.1
      rw [ESG.out] at h3
      exact ⟨hg2.2.2.2.2.1, hg2.2.2.2.2.2.2.1 2, h3, hg2.2.2.2.2.2.2.1 3, hg2.2.2.2.2.2.2.2⟩
    clear hrr en
    go_upto_region 12 with fail
    go_region_law (first
      | (refine step_append_lies _ (by rfl) _ _ _ (by rfl) B 52 i1 _ 2 32 undLkP hi1' hz10 hz11 hz12 rfl (by omega) (.slice A3 n cA) n (lkCs st.links) (by rfl) (row_in HRR.out) ⟨w1.heap.size, 0, none⟩ 1 1 [.string nm, .string tg] (by rfl) (by rfl) (World.news_of_block (cs := #[.string nm, .string tg]) (t := 52) (fr := (0, 0)) (heap_alloc_new w1.drew _)) H1.out Nat.one_pos HL1.out HL2.out (HBS.out _) (w1.heap.size + 1) (by simp) ?_; intro g6 cap6 w6 hown6 hg6 hat6 hlt6; obtain ⟨t6a, t6b, t6c, t6d, t6l⟩ := KG.out _ _ hg6))
    all_goals
      obtain ⟨W7, e7⟩ : ∃ W7, (w6.setCell ⟨R, 2, none⟩ (.slice (some ⟨g6, 0, none⟩) (n + 1) cap6)).setCell ⟨R, 3, none⟩ (.int .i64 3) = W7 := ⟨_, rfl⟩
      rw [e7]
      have hgr := rd_grow HM1.out HRR.out (by decide) hg6
      have hb6 := below_row HB1.out hB1 HRR.out hg6
      have hb7 : Below B w W7 := by rw [← e7]; exact (hb6.setCell HM1.out.hR _).setCell HM1.out.hR _
      have hgR : g6 ≠ R := by
        rcases hat6 with e | e
        · intro e2; exact own_neT HRR.out HM1.out.blk (by decide) (by rw [e, e2])
        · omega
      have hset : ∀ b, b ≠ R → W7.heap[b]? = w6.heap[b]? := fun b hb => by rw [← e7]; exact (Below.heap_setCell _ _ _ _ hb).trans (Below.heap_setCell _ _ _ _ hb)
      have hbk : W7.heap[R]? = some (.cells #[rv, zv, .slice (some ⟨g6, 0, none⟩) (n + 1) cap6, .int .i64 3] 114 (0, 0)) := by
        have h1 := heap_setCell_same w6 R 2 _ _ (.slice (some ⟨g6, 0, none⟩) (n + 1) cap6) (hgr.2.1.trans HM1.out.blk)
        rw [← e7, heap_setCell_same _ R 3 _ _ _ h1]; rfl
      have hown7 := own_keep (W' := W7) hown6 fun b e => hset b (by simp only [Value.ownBlock] at e; injection e with e; omega)
      have hrd := RdM.link (W7 := W7) (x := ⟨nm, tg⟩) (s := 3) HM1.out (fun b hb h1 h2 => (hset b h2).trans (hgr.1 b hb (by rw [EN.out] at h1; exact h1))) hbk (by rw [EN.out]; exact hown7)
      have HRD := Lib.hid hrd
      have HB7 := Lib.hid hb7
      have HSK : Hid (StrKeep w W7) := by
        show StrKeep w W7
        have hx6 := hgr.2.1.trans HM1.out.blk
        have h1 := heap_setCell_same w6 R 2 _ _ (.slice (some ⟨g6, 0, none⟩) (n + 1) cap6) hx6
        rw [← e7]
        exact (((StrKeep.below HB1w.out).trans (StrKeep.row HRR.out (by decide) hg6)).trans (StrKeep.set hx6 (by decide) _ _)).trans (StrKeep.set h1 (by decide) _ _)
      clear hrd hb7 hb6 hown7 hset hbk hgr e7 t6a t6b t6c t6d t6l hown6 hg6 hat6 hlt6 hgR
      go_wp2_with fail
      go_ret
      exact ⟨rfl, HB7.out, HSK.out, fun st' e => by injection e with e; subst e; exact ⟨_, _, _, _, HRD.out⟩⟩
  rw [decide_eq_false hk]
  have hln : LN = none := by
    rw [← HLN.out]
    unfold lineF
    rw [EWS.out, ESG.out, if_neg HR1.out, if_neg HR2.out, if_neg HR3.out, if_neg hk]
  subst hln
  clear hk
  go_wp2_with fail
  go_ret
  exact ⟨rfl, HB1.out, StrKeep.below HB1w.out, fun st' e => by cases e⟩
end Go.Proofs.YtmhfhmhjaecoaaaGreatDoor
namespace Go.Proofs.YtmhfhmhjaecoaaaGreatDoor
open Go.RowKit
set_option linter.unusedVariables false
set_option linter.unusedSimpArgs false

theorem bcell {W w1 : World} (hb : Below W.heap.size W w1) : (∀ b o, b < W.heap.size → w1.cell? ⟨b, o, none⟩ = W.cell? ⟨b, o, none⟩) ∧ (∀ b o, b < W.heap.size → w1.frozen? ⟨b, o, none⟩ = W.frozen? ⟨b, o, none⟩) :=
  ⟨fun b o h => hb.cell (p := ⟨b, o, none⟩) h, fun b o h => hb.frozen (p := ⟨b, o, none⟩) h⟩

/-- where the search begins, and where it ends -/
def upTo (a wd : Int) : Int := a + (wd - (a + 4)) % 7
def downTo (a wd : Int) : Int := a - ((a + 4) - wd) % 7

theorem upTo_bd (a wd : Int) (h0 : 0 ≤ wd) (h6 : wd ≤ 6) : a ≤ upTo a wd ∧ upTo a wd ≤ a + 6 ∧ (upTo a wd + 4) % 7 = wd := by unfold upTo; omega
theorem downTo_bd (a wd : Int) (h0 : 0 ≤ wd) (h6 : wd ≤ 6) : downTo a wd ≤ a ∧ a - 6 ≤ downTo a wd ∧ (downTo a wd + 4) % 7 = wd := by unfold downTo; omega

set_option maxHeartbeats 1000000 in
theorem Of_up (y m wd n : Int) (w : World) (hd : dayB 3 wd n = true) (h1 : 1600 ≤ y) (h2 : y ≤ 2399) (h3 : 1 ≤ m) (h4 : m ≤ 12) (h5 : n ≤ Civ.mlen y m) (h6 : upTo (Civ.days y m n) wd ≤ 157053) :
    Calls Tryz.prog 113 #[.int .i64 y, .int .i64 m, dayV 3 wd n] w fun e w' => e = .returned (.tuple #[.int .i64 (upTo (Civ.days y m n) wd), .int .i64 0]) ∧ Below w.heap.size w w' := by
  have hd' := hd
  simp only [dayB, decide_eq_true_eq] at hd'
  have hw : 0 ≤ wd ∧ wd ≤ 6 ∧ 1 ≤ n := by omega
  clear hd'
  obtain ⟨hw0, hw6, hn1⟩ := hw
  have HD := Lib.hid hd
  clear hd
  have hml := Civ.mlen_bd y m h3 h4
  obtain ⟨L, eL⟩ : ∃ L : Int, Civ.mlen y m = L := ⟨_, rfl⟩
  have v1 := Lib.hid (show Civ.valid y m 1 from ⟨h1, h2, h3, h4, by omega, by omega⟩)
  have bd1 := Civ.days_bd v1.out
  have v2 := Lib.hid (show Civ.valid y m n from ⟨h1, h2, h3, h4, by omega, by omega⟩)
  have bd2 := Civ.days_bd v2.out
  have e1 : Civ.days y m n = Civ.days y m 1 + n - 1 := by unfold Civ.days; omega
  have hub := upTo_bd (Civ.days y m n) wd hw0 hw6
  obtain ⟨R, eR⟩ : ∃ R : Int, upTo (Civ.days y m n) wd = R := ⟨_, rfl⟩
  rw [eR] at h6 hub ⊢
  rw [e1] at bd2 hub
  obtain ⟨A, eA⟩ : ∃ A : Int, Civ.days y m 1 = A := ⟨_, rfl⟩
  rw [eA] at bd1 bd2 hub
  rw [eL] at h5 hml 
  have HL := Lib.hid eL
  have HA := Lib.hid eA
  have hR1 := hub.1
  have hR2 := hub.2.1
  have HR7 := Lib.hid hub.2.2
  clear eL eA eR e1 hub
  go_enter Tryz.func113, Tryz.ntmps113
  go_wp2_with fail
  refine (Check_ok _ _ _ _ HD.out).mono ?_
  rintro e w1 ⟨rfl, hb1⟩
  obtain ⟨hc, hf⟩ := bcell hb1
  go_wp2_with fail
  refine (Length_ok _ _ _ h1 h2 h3 h4).mono ?_
  rintro e w' ⟨rfl, rfl⟩
  rw [HL.out]
  go_wp2_with fail
  refine (Days_ok _ _ _ _ v1.out).mono ?_
  rintro e w' ⟨rfl, rfl⟩
  rw [HA.out]
  go_wp2_with fail
  go_loop [13] (fun t => ∃ a : Int, A + n - 1 ≤ a ∧ a ≤ R ∧ t = .int .i64 a) (fun t => (R - intOf t).toNat)
  case atStart => exact ⟨A + n - 1, by omega, by omega, rfl⟩
  case round =>
    obtain ⟨a, ha1, ha2, rfl⟩ := hrel
    by_cases hq : a = R
    · obtain rfl := hq
      have fw : ((a + 4) % 7 == wd) = true := by have := HR7.out; simpa using this
      go_wp2_with fail
      refine (Weekday_ok _ _ (by omega) (by omega)).mono ?_
      rintro e w' ⟨rfl, rfl⟩
      go_wp2
      go_ret2
      exact ⟨rfl, ((Below.refl _ _).alloc (Nat.le_refl _) _).trans (hb1.mono (by simp))⟩
    · have fw : ((a + 4) % 7 == wd) = false := by have := HR7.out; simp; omega
      go_wp2_with fail
      refine (Weekday_ok _ _ (by omega) (by omega)).mono ?_
      rintro e w' ⟨rfl, rfl⟩
      go_wp2
      go_round
      case rel => exact ⟨a + 1, by omega, by omega, rfl⟩
      case measure => simp [intOf]; omega

set_option maxHeartbeats 1000000 in
theorem Of_up_no (y m wd n : Int) (w : World) (hd : dayB 3 wd n = true) (h1 : 1600 ≤ y) (h2 : y ≤ 2399) (h3 : 1 ≤ m) (h4 : m ≤ 12) (h5 : n ≤ Civ.mlen y m) (h6 : 157053 < upTo (Civ.days y m n) wd) :
    Calls Tryz.prog 113 #[.int .i64 y, .int .i64 m, dayV 3 wd n] w fun e w' => e = .returned (.tuple #[.int .i64 (0), .int .i64 1]) ∧ Below w.heap.size w w' := by
  have hd' := hd
  simp only [dayB, decide_eq_true_eq] at hd'
  have hw : 0 ≤ wd ∧ wd ≤ 6 ∧ 1 ≤ n := by omega
  clear hd'
  obtain ⟨hw0, hw6, hn1⟩ := hw
  have HD := Lib.hid hd
  clear hd
  have hml := Civ.mlen_bd y m h3 h4
  obtain ⟨L, eL⟩ : ∃ L : Int, Civ.mlen y m = L := ⟨_, rfl⟩
  have v1 := Lib.hid (show Civ.valid y m 1 from ⟨h1, h2, h3, h4, by omega, by omega⟩)
  have bd1 := Civ.days_bd v1.out
  have v2 := Lib.hid (show Civ.valid y m n from ⟨h1, h2, h3, h4, by omega, by omega⟩)
  have bd2 := Civ.days_bd v2.out
  have e1 : Civ.days y m n = Civ.days y m 1 + n - 1 := by unfold Civ.days; omega
  have hub := upTo_bd (Civ.days y m n) wd hw0 hw6
  obtain ⟨R, eR⟩ : ∃ R : Int, upTo (Civ.days y m n) wd = R := ⟨_, rfl⟩
  rw [eR] at h6 hub
  rw [e1] at bd2 hub
  obtain ⟨A, eA⟩ : ∃ A : Int, Civ.days y m 1 = A := ⟨_, rfl⟩
  rw [eA] at bd1 bd2 hub
  rw [eL] at h5 hml 
  have HL := Lib.hid eL
  have HA := Lib.hid eA
  have hR1 := hub.1
  have hR2 := hub.2.1
  have HR7 := Lib.hid hub.2.2
  clear eL eA eR e1 hub
  go_enter Tryz.func113, Tryz.ntmps113
  go_wp2_with fail
  refine (Check_ok _ _ _ _ HD.out).mono ?_
  rintro e w1 ⟨rfl, hb1⟩
  obtain ⟨hc, hf⟩ := bcell hb1
  go_wp2_with fail
  refine (Length_ok _ _ _ h1 h2 h3 h4).mono ?_
  rintro e w' ⟨rfl, rfl⟩
  rw [HL.out]
  go_wp2_with fail
  refine (Days_ok _ _ _ _ v1.out).mono ?_
  rintro e w' ⟨rfl, rfl⟩
  rw [HA.out]
  go_wp2_with fail
  go_loop [13] (fun t => ∃ a : Int, A + n - 1 ≤ a ∧ a ≤ 157054 ∧ t = .int .i64 a) (fun t => (157054 - intOf t).toNat)
  case atStart => exact ⟨A + n - 1, by omega, by omega, rfl⟩
  case round =>
    obtain ⟨a, ha1, ha2, rfl⟩ := hrel
    by_cases hq : -135140 ≤ a ∧ a ≤ 157053
    · have fw : ((a + 4) % 7 == wd) = false := by have := HR7.out; simp; omega
      go_wp2_with fail
      refine (Weekday_ok _ _ (by omega) (by omega)).mono ?_
      rintro e w' ⟨rfl, rfl⟩
      go_wp2
      go_round
      case rel => exact ⟨a + 1, by omega, by omega, rfl⟩
      case measure => simp [intOf]; omega
    · go_wp2_with fail
      refine (Weekday_no _ _ (by omega)).mono ?_
      rintro e w' ⟨rfl, rfl⟩
      go_wp2
      go_ret2
      exact ⟨rfl, ((Below.refl _ _).alloc (Nat.le_refl _) _).trans (hb1.mono (by simp))⟩

set_option maxHeartbeats 1000000 in
theorem Of_down (y m wd n : Int) (w : World) (hd : dayB 4 wd n = true) (h1 : 1600 ≤ y) (h2 : y ≤ 2399) (h3 : 1 ≤ m) (h4 : m ≤ 12) (h5 : n ≤ Civ.mlen y m) (h6 : -135140 ≤ downTo (Civ.days y m n) wd) :
    Calls Tryz.prog 113 #[.int .i64 y, .int .i64 m, dayV 4 wd n] w fun e w' => e = .returned (.tuple #[.int .i64 (downTo (Civ.days y m n) wd), .int .i64 0]) ∧ Below w.heap.size w w' := by
  have hd' := hd
  simp only [dayB, decide_eq_true_eq] at hd'
  have hw : 0 ≤ wd ∧ wd ≤ 6 ∧ 1 ≤ n := by omega
  clear hd'
  obtain ⟨hw0, hw6, hn1⟩ := hw
  have HD := Lib.hid hd
  clear hd
  have hml := Civ.mlen_bd y m h3 h4
  obtain ⟨L, eL⟩ : ∃ L : Int, Civ.mlen y m = L := ⟨_, rfl⟩
  have v1 := Lib.hid (show Civ.valid y m 1 from ⟨h1, h2, h3, h4, by omega, by omega⟩)
  have bd1 := Civ.days_bd v1.out
  have v2 := Lib.hid (show Civ.valid y m n from ⟨h1, h2, h3, h4, by omega, by omega⟩)
  have bd2 := Civ.days_bd v2.out
  have e1 : Civ.days y m n = Civ.days y m 1 + n - 1 := by unfold Civ.days; omega
  have hub := downTo_bd (Civ.days y m n) wd hw0 hw6
  obtain ⟨R, eR⟩ : ∃ R : Int, downTo (Civ.days y m n) wd = R := ⟨_, rfl⟩
  rw [eR] at h6 hub ⊢
  rw [e1] at bd2 hub
  obtain ⟨A, eA⟩ : ∃ A : Int, Civ.days y m 1 = A := ⟨_, rfl⟩
  rw [eA] at bd1 bd2 hub
  rw [eL] at h5 hml 
  have HL := Lib.hid eL
  have HA := Lib.hid eA
  have hR1 := hub.1
  have hR2 := hub.2.1
  have HR7 := Lib.hid hub.2.2
  clear eL eA eR e1 hub
  go_enter Tryz.func113, Tryz.ntmps113
  go_wp2_with fail
  refine (Check_ok _ _ _ _ HD.out).mono ?_
  rintro e w1 ⟨rfl, hb1⟩
  obtain ⟨hc, hf⟩ := bcell hb1
  go_wp2_with fail
  refine (Length_ok _ _ _ h1 h2 h3 h4).mono ?_
  rintro e w' ⟨rfl, rfl⟩
  rw [HL.out]
  go_wp2_with fail
  refine (Days_ok _ _ _ _ v1.out).mono ?_
  rintro e w' ⟨rfl, rfl⟩
  rw [HA.out]
  go_wp2_with fail
  go_loop [13] (fun t => ∃ a : Int, R ≤ a ∧ a ≤ A + n - 1 ∧ t = .int .i64 a) (fun t => (intOf t - R).toNat)
  case atStart => exact ⟨A + n - 1, by omega, by omega, rfl⟩
  case round =>
    obtain ⟨a, ha1, ha2, rfl⟩ := hrel
    by_cases hq : a = R
    · obtain rfl := hq
      have fw : ((a + 4) % 7 == wd) = true := by have := HR7.out; simpa using this
      go_wp2_with fail
      refine (Weekday_ok _ _ (by omega) (by omega)).mono ?_
      rintro e w' ⟨rfl, rfl⟩
      go_wp2
      go_ret2
      exact ⟨rfl, ((Below.refl _ _).alloc (Nat.le_refl _) _).trans (hb1.mono (by simp))⟩
    · have fw : ((a + 4) % 7 == wd) = false := by have := HR7.out; simp; omega
      go_wp2_with fail
      refine (Weekday_ok _ _ (by omega) (by omega)).mono ?_
      rintro e w' ⟨rfl, rfl⟩
      go_wp2
      go_round
      case rel => exact ⟨a - 1, by omega, by omega, by go_num⟩
      case measure => simp [intOf]; omega

set_option maxHeartbeats 1000000 in
theorem Of_down_no (y m wd n : Int) (w : World) (hd : dayB 4 wd n = true) (h1 : 1600 ≤ y) (h2 : y ≤ 2399) (h3 : 1 ≤ m) (h4 : m ≤ 12) (h5 : n ≤ Civ.mlen y m) (h6 : downTo (Civ.days y m n) wd < -135140) :
    Calls Tryz.prog 113 #[.int .i64 y, .int .i64 m, dayV 4 wd n] w fun e w' => e = .returned (.tuple #[.int .i64 (0), .int .i64 1]) ∧ Below w.heap.size w w' := by
  have hd' := hd
  simp only [dayB, decide_eq_true_eq] at hd'
  have hw : 0 ≤ wd ∧ wd ≤ 6 ∧ 1 ≤ n := by omega
  clear hd'
  obtain ⟨hw0, hw6, hn1⟩ := hw
  have HD := Lib.hid hd
  clear hd
  have hml := Civ.mlen_bd y m h3 h4
  obtain ⟨L, eL⟩ : ∃ L : Int, Civ.mlen y m = L := ⟨_, rfl⟩
  have v1 := Lib.hid (show Civ.valid y m 1 from ⟨h1, h2, h3, h4, by omega, by omega⟩)
  have bd1 := Civ.days_bd v1.out
  have v2 := Lib.hid (show Civ.valid y m n from ⟨h1, h2, h3, h4, by omega, by omega⟩)
  have bd2 := Civ.days_bd v2.out
  have e1 : Civ.days y m n = Civ.days y m 1 + n - 1 := by unfold Civ.days; omega
  have hub := downTo_bd (Civ.days y m n) wd hw0 hw6
  obtain ⟨R, eR⟩ : ∃ R : Int, downTo (Civ.days y m n) wd = R := ⟨_, rfl⟩
  rw [eR] at h6 hub
  rw [e1] at bd2 hub
  obtain ⟨A, eA⟩ : ∃ A : Int, Civ.days y m 1 = A := ⟨_, rfl⟩
  rw [eA] at bd1 bd2 hub
  rw [eL] at h5 hml 
  have HL := Lib.hid eL
  have HA := Lib.hid eA
  have hR1 := hub.1
  have hR2 := hub.2.1
  have HR7 := Lib.hid hub.2.2
  clear eL eA eR e1 hub
  go_enter Tryz.func113, Tryz.ntmps113
  go_wp2_with fail
  refine (Check_ok _ _ _ _ HD.out).mono ?_
  rintro e w1 ⟨rfl, hb1⟩
  obtain ⟨hc, hf⟩ := bcell hb1
  go_wp2_with fail
  refine (Length_ok _ _ _ h1 h2 h3 h4).mono ?_
  rintro e w' ⟨rfl, rfl⟩
  rw [HL.out]
  go_wp2_with fail
  refine (Days_ok _ _ _ _ v1.out).mono ?_
  rintro e w' ⟨rfl, rfl⟩
  rw [HA.out]
  go_wp2_with fail
  go_loop [13] (fun t => ∃ a : Int, -135141 ≤ a ∧ a ≤ A + n - 1 ∧ t = .int .i64 a) (fun t => (intOf t + 135141).toNat)
  case atStart => exact ⟨A + n - 1, by omega, by omega, rfl⟩
  case round =>
    obtain ⟨a, ha1, ha2, rfl⟩ := hrel
    by_cases hq : -135140 ≤ a ∧ a ≤ 157053
    · have fw : ((a + 4) % 7 == wd) = false := by have := HR7.out; simp; omega
      go_wp2_with fail
      refine (Weekday_ok _ _ (by omega) (by omega)).mono ?_
      rintro e w' ⟨rfl, rfl⟩
      go_wp2
      go_round
      case rel => exact ⟨a - 1, by omega, by omega, by go_num⟩
      case measure => simp [intOf]; omega
    · go_wp2_with fail
      refine (Weekday_no _ _ (by omega)).mono ?_
      rintro e w' ⟨rfl, rfl⟩
      go_wp2
      go_ret2
      exact ⟨rfl, ((Below.refl _ _).alloc (Nat.le_refl _) _).trans (hb1.mono (by simp))⟩

set_option maxHeartbeats 1000000 in
theorem Of_last (y m wd n : Int) (w : World) (hd : dayB 2 wd n = true) (h1 : 1600 ≤ y) (h2 : y ≤ 2399) (h3 : 1 ≤ m) (h4 : m ≤ 12)  :
    Calls Tryz.prog 113 #[.int .i64 y, .int .i64 m, dayV 2 wd n] w fun e w' => e = .returned (.tuple #[.int .i64 (downTo (Civ.days y m (Civ.mlen y m)) wd), .int .i64 0]) ∧ Below w.heap.size w w' := by
  have hd' := hd
  simp only [dayB, decide_eq_true_eq] at hd'
  have hw : 0 ≤ wd ∧ wd ≤ 6 ∧ n = 0 := by omega
  clear hd'
  obtain ⟨hw0, hw6, rfl⟩ := hw
  have HD := Lib.hid hd
  clear hd
  have hml := Civ.mlen_bd y m h3 h4
  obtain ⟨L, eL⟩ : ∃ L : Int, Civ.mlen y m = L := ⟨_, rfl⟩
  have v1 := Lib.hid (show Civ.valid y m 1 from ⟨h1, h2, h3, h4, by omega, by omega⟩)
  have bd1 := Civ.days_bd v1.out
  have v2 := Lib.hid (show Civ.valid y m (Civ.mlen y m) from ⟨h1, h2, h3, h4, by omega, by omega⟩)
  have bd2 := Civ.days_bd v2.out
  have e1 : Civ.days y m (Civ.mlen y m) = Civ.days y m 1 + (Civ.mlen y m) - 1 := by unfold Civ.days; omega
  have hub := downTo_bd (Civ.days y m (Civ.mlen y m)) wd hw0 hw6
  obtain ⟨R, eR⟩ : ∃ R : Int, downTo (Civ.days y m (Civ.mlen y m)) wd = R := ⟨_, rfl⟩
  rw [eR] at hub ⊢
  rw [e1] at bd2 hub
  obtain ⟨A, eA⟩ : ∃ A : Int, Civ.days y m 1 = A := ⟨_, rfl⟩
  rw [eA] at bd1 bd2 hub
  rw [eL] at hml bd2 hub
  have HL := Lib.hid eL
  have HA := Lib.hid eA
  have hR1 := hub.1
  have hR2 := hub.2.1
  have HR7 := Lib.hid hub.2.2
  clear eL eA eR e1 hub
  go_enter Tryz.func113, Tryz.ntmps113
  go_wp2_with fail
  refine (Check_ok _ _ _ _ HD.out).mono ?_
  rintro e w1 ⟨rfl, hb1⟩
  obtain ⟨hc, hf⟩ := bcell hb1
  go_wp2_with fail
  refine (Length_ok _ _ _ h1 h2 h3 h4).mono ?_
  rintro e w' ⟨rfl, rfl⟩
  rw [HL.out]
  go_wp2_with fail
  refine (Days_ok _ _ _ _ v1.out).mono ?_
  rintro e w' ⟨rfl, rfl⟩
  rw [HA.out]
  go_wp2_with fail
  go_loop [13] (fun t => ∃ a : Int, R ≤ a ∧ a ≤ A + L - 1 ∧ t = .int .i64 a) (fun t => (intOf t - R).toNat)
  case atStart => exact ⟨A + L - 1, by omega, by omega, rfl⟩
  case round =>
    obtain ⟨a, ha1, ha2, rfl⟩ := hrel
    by_cases hq : a = R
    · obtain rfl := hq
      have fw : ((a + 4) % 7 == wd) = true := by have := HR7.out; simpa using this
      go_wp2_with fail
      refine (Weekday_ok _ _ (by omega) (by omega)).mono ?_
      rintro e w' ⟨rfl, rfl⟩
      go_wp2
      go_ret2
      exact ⟨rfl, ((Below.refl _ _).alloc (Nat.le_refl _) _).trans (hb1.mono (by simp))⟩
    · have fw : ((a + 4) % 7 == wd) = false := by have := HR7.out; simp; omega
      go_wp2_with fail
      refine (Weekday_ok _ _ (by omega) (by omega)).mono ?_
      rintro e w' ⟨rfl, rfl⟩
      go_wp2
      go_round
      case rel => exact ⟨a - 1, by omega, by omega, by go_num⟩
      case measure => simp [intOf]; omega

set_option maxHeartbeats 1000000 in
theorem Of_num (y m wd n : Int) (w : World) (hd : dayB 1 wd n = true) (h1 : 1600 ≤ y) (h2 : y ≤ 2399) (h3 : 1 ≤ m) (h4 : m ≤ 12) (h5 : n ≤ Civ.mlen y m) :
    Calls Tryz.prog 113 #[.int .i64 y, .int .i64 m, dayV 1 wd n] w fun e w' => e = .returned (.tuple #[.int .i64 (Civ.days y m n), .int .i64 0]) ∧ Below w.heap.size w w' := by
  have hd' := hd
  simp only [dayB, decide_eq_true_eq] at hd'
  have hw : wd = 0 ∧ 1 ≤ n := by omega
  clear hd'
  obtain ⟨rfl, hn1⟩ := hw
  have HD := Lib.hid hd
  clear hd
  have hml := Civ.mlen_bd y m h3 h4
  obtain ⟨L, eL⟩ : ∃ L : Int, Civ.mlen y m = L := ⟨_, rfl⟩
  have v1 := Lib.hid (show Civ.valid y m 1 from ⟨h1, h2, h3, h4, by omega, by omega⟩)
  have bd1 := Civ.days_bd v1.out
  have v2 := Lib.hid (show Civ.valid y m n from ⟨h1, h2, h3, h4, by omega, by omega⟩)
  have bd2 := Civ.days_bd v2.out
  have e1 : Civ.days y m n = Civ.days y m 1 + n - 1 := by unfold Civ.days; omega
  obtain ⟨A, eA⟩ : ∃ A : Int, Civ.days y m 1 = A := ⟨_, rfl⟩
  rw [e1] at bd2
  rw [e1, eA]
  rw [eA] at bd1 bd2
  rw [eL] at h5 hml
  have HL := Lib.hid eL
  have HA := Lib.hid eA
  clear eL eA e1
  go_enter Tryz.func113, Tryz.ntmps113
  go_wp2_with fail
  refine (Check_ok _ _ _ _ HD.out).mono ?_
  rintro e w1 ⟨rfl, hb1⟩
  obtain ⟨hc, hf⟩ := bcell hb1
  go_wp2_with fail
  refine (Length_ok _ _ _ h1 h2 h3 h4).mono ?_
  rintro e w' ⟨rfl, rfl⟩
  rw [HL.out]
  go_wp2_with fail
  refine (Days_ok _ _ _ _ v1.out).mono ?_
  rintro e w' ⟨rfl, rfl⟩
  rw [HA.out]
  go_wp2_with fail
  go_loop [13] (fun t => t = .int .i64 (A + n - 1)) (fun t => 0)
  case atStart => rfl
  case round =>
    obtain rfl := hrel
    go_wp2
    go_ret2
    exact ⟨rfl, ((Below.refl _ _).alloc (Nat.le_refl _) _).trans (hb1.mono (by simp))⟩

theorem Of_bad1 (y m k wd n : Int) (w : World) (hd : dayB k wd n = false) :
    Calls Tryz.prog 113 #[.int .i64 y, .int .i64 m, dayV k wd n] w fun e w' => e = .returned (.tuple #[.int .i64 0, .int .i64 1]) ∧ Below w.heap.size w w' := by
  have HD := Lib.hid hd
  clear hd
  go_enter Tryz.func113, Tryz.ntmps113
  go_wp2_with fail
  refine (Check_no _ _ _ _ HD.out).mono ?_
  rintro e w1 ⟨rfl, hb1⟩
  obtain ⟨hc, hf⟩ := bcell hb1
  go_wp2
  go_ret2
  exact ⟨rfl, ((Below.refl _ _).alloc (Nat.le_refl _) _).trans (hb1.mono (by simp))⟩

theorem Of_bad2 (y m k wd n : Int) (w : World) (hd : dayB k wd n = true) (hy : okYM y m = false) :
    Calls Tryz.prog 113 #[.int .i64 y, .int .i64 m, dayV k wd n] w fun e w' => e = .returned (.tuple #[.int .i64 0, .int .i64 1]) ∧ Below w.heap.size w w' := by
  have HD := Lib.hid hd
  clear hd
  have HY := Lib.hid hy
  clear hy
  go_enter Tryz.func113, Tryz.ntmps113
  go_wp2_with fail
  refine (Check_ok _ _ _ _ HD.out).mono ?_
  rintro e w1 ⟨rfl, hb1⟩
  obtain ⟨hc, hf⟩ := bcell hb1
  go_wp2_with fail
  refine (Length_no _ _ _ HY.out).mono ?_
  rintro e w' ⟨rfl, rfl⟩
  go_wp2
  go_ret2
  exact ⟨rfl, ((Below.refl _ _).alloc (Nat.le_refl _) _).trans (hb1.mono (by simp))⟩

theorem Of_bad3 (y m k wd n : Int) (w : World) (hd : dayB k wd n = true) (h1 : 1600 ≤ y) (h2 : y ≤ 2399) (h3 : 1 ≤ m) (h4 : m ≤ 12) (h5 : Civ.mlen y m < n) :
    Calls Tryz.prog 113 #[.int .i64 y, .int .i64 m, dayV k wd n] w fun e w' => e = .returned (.tuple #[.int .i64 0, .int .i64 6]) ∧ Below w.heap.size w w' := by
  have HD := Lib.hid hd
  clear hd
  obtain ⟨L, eL⟩ : ∃ L : Int, Civ.mlen y m = L := ⟨_, rfl⟩
  rw [eL] at h5
  have HL := Lib.hid eL
  clear eL
  go_enter Tryz.func113, Tryz.ntmps113
  go_wp2_with fail
  refine (Check_ok _ _ _ _ HD.out).mono ?_
  rintro e w1 ⟨rfl, hb1⟩
  obtain ⟨hc, hf⟩ := bcell hb1
  go_wp2_with fail
  refine (Length_ok _ _ _ h1 h2 h3 h4).mono ?_
  rintro e w' ⟨rfl, rfl⟩
  rw [HL.out]
  go_wp2
  go_ret2
  exact ⟨rfl, ((Below.refl _ _).alloc (Nat.le_refl _) _).trans (hb1.mono (by simp))⟩

end Go.Proofs.YtmhfhmhjaecoaaaGreatDoor
