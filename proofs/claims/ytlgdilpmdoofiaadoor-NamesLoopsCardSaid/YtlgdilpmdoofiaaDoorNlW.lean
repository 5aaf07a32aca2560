/- NamesLoops: the walk. -/
import Derived.Test.YtlgdilpmdoofiaaDoorNlMath
namespace Go.Proofs.YtlgdilpmdoofiaaDoor
open Go.RowKit Go.Joins Go.Maps Go.Sort
open Classical
set_option linter.unusedVariables false
set_option linter.unusedSimpArgs false

theorem infoLkN : (Tryd.prog.info? 58).map (fun i => (i.zero, i.size, i.bytes)) = some (some (.agg #[.string ⟨#[]⟩, .string ⟨#[]⟩]), 2, 32) := by kernel_rfl
theorem undLks : Tryd.prog.underlying 24 = some (.slice 58) := by kernel_rfl
theorem heap_setCN {w : World} {R i : Nat} {cs : Array Value} {T : TypeId} {f : Nat × Nat} (h : w.heap[R]? = some (.cells cs T f)) (v : Value) : (w.setCell ⟨R, i, none⟩ v).heap[R]? = some (.cells (cs.setIfInBounds i v) T f) := by
  simp [World.setCell, Array.getElem?_modify, h]
theorem rdStep_no {r : List ByteArray} {s : ByteArray} (h : ¬ rdT r s) : rdStep r s = r := if_neg h
theorem rdStep_yes {r : List ByteArray} {s : ByteArray} (h : rdT r s) : rdStep r s = r ++ [s] := if_pos h
theorem zone_eqB (s : ByteArray) : (s.toList == [90, 111, 110, 101]) = decide (s = zoneN) := by
  rw [← str_eqB, Lib.toList_data zoneN]; rfl
theorem lks_snoc {r : List ByteArray} {k : Nat} (h : k < r.length) : (lks r).take (k + 1) = (lks r).take k ++ [lkAt r k] := by
  rw [List.take_add_one, List.getElem?_eq_getElem (by rw [lks_len]; exact h), lks_at]
  rfl

theorem tmod_next (k n : Nat) (h : 0 < n) : ((k : Int) + 1).tmod (n : Int) = (((k + 1) % n : Nat) : Int) := by
  rw [Int.tmod_eq_emod_of_nonneg (by omega)]
  simp
theorem next_le1 {k n : Nat} (h : k < n) (hn : n ≤ 20) : k + 1 ≤ maxLen := by simp only [maxLen]; omega
theorem next_le2 {k n : Nat} (h : k < n) (hn : n ≤ 20) : (k + 1) * 32 ≤ 140737488355328 := by omega
theorem next_wr {k n : Nat} (h : k < n) (hn : n ≤ 20) : IntKind.i64.wrap ((k : Int) + 1) = (k : Int) + 1 := by rw [IntKind.wrap_i64]; omega
set_option maxRecDepth 100000 in
set_option maxHeartbeats 20000000 in
theorem NamesLoops_walk (l : List ByteArray) (v : Value) (w : World) (hl : RowsAt stL 1 w.heap.size w v l) (hls : ∀ s ∈ l, s.size ≤ 140737488351232) (hm : MaxLen w) (ht : Tab10 w) :
    Calls Tryd.prog 11 #[v] w fun e w' => e = .returned (.bool true) ∧ Below w.heap.size w w' := by
  have HLL := Lib.hid hl
  obtain ⟨pv, cv, rfl, ⟨hll, -⟩, -⟩ := hl
  have HLS := Lib.hid hls
  have HM := Lib.hid hm
  have HT := Lib.hid ht
  have HNM := Lib.hid (named_any w hm ht)
  clear hls hm ht
  go_enter Tryd.func11, Tryd.ntmps11
  go_wp2_with fail
  refine HNM.out.mono ?_
  rintro e w1 ⟨rfl, hb1⟩
  obtain ⟨U, eU⟩ : ∃ U, w1.heap.size = U := ⟨_, rfl⟩
  obtain ⟨W3, eW⟩ : ∃ W3, ((w1.alloc (.cells #[.int .i64 0, .string ⟨#[]⟩, .int .i64 0, .string ⟨#[88]⟩, .int .i64 0] 65)).alloc (.cells #[.string ⟨#[90, 111, 110, 101]⟩, .slice (some ⟨U, 0, none⟩) 1 1] 53)).alloc (.cells #[.slice none 0 0, .slice (some ⟨U + 1, 0, none⟩) 1 1, .slice none 0 0] 26) = W3 := ⟨_, rfl⟩
  have hwU : w.heap.size ≤ U := by rw [← eU]; exact hb1.size
  have hb3 : Below U w1 W3 := by rw [← eW, ← eU]; exact (((Below.refl _ _).alloc (Nat.le_refl _) _).alloc (by simp) _).alloc (by simp <;> omega) _
  have hz3 : W3.heap.size = U + 3 := by rw [← eW, ← eU]; simp
  have hE : W3.heap[U]? = some (.cells #[.int .i64 0, .string ⟨#[]⟩, .int .i64 0, .string ⟨#[88]⟩, .int .i64 0] 65 (0, 0)) := by
    rw [← eW, Below.heap_alloc _ _ _ (by simp <;> omega), Below.heap_alloc _ _ _ (by simp <;> omega)]
    exact alloc_at _ _ _ eU.symm
  have hZ : W3.heap[U + 1]? = some (.cells #[.string ⟨#[90, 111, 110, 101]⟩, .slice (some ⟨U, 0, none⟩) 1 1] 53 (0, 0)) := by
    rw [← eW, Below.heap_alloc _ _ _ (by simp <;> omega)]
    exact alloc_at _ _ _ (by simp <;> omega)
  have hx3 : W3.heap[U + 1 + 1]? = some (.cells #[.slice none 0 0, .slice (some ⟨U + 1, 0, none⟩) 1 1, .slice none 0 0] 26 (0, 0)) := by
    rw [← eW]
    exact alloc_at _ _ _ (by simp <;> omega)
  have HEW := Lib.hid eW
  have HBW3 := Lib.hid (hb1.trans (hb3.mono hwU))
  have HE := Lib.hid hE
  have HZ := Lib.hid hZ
  have HX3 := Lib.hid hx3
  have HEU := Lib.hid eU
  clear hb1 hb3 eW hE hZ hx3 HNM eU
  go_upto_region 5 with fail
  rw [HEU.out, HEW.out]
  have HRO : Hid (∀ W : World, Below W3.heap.size W3 W → RowsAt stL 1 w.heap.size W (.slice pv l.length cv) l) := by
    show ∀ W, _
    intro W hb
    exact HLL.out.below (HBW3.out.trans (hb.mono (by omega))) (Nat.le_refl _)
  go_wp2_with fail
  go_loopw [4, 24] (fun v4 i wr => ∃ k : Nat, k ≤ l.length ∧ i = .int .i64 k ∧ wr.ownsRow W3.heap.size 9 1 v4 (rdF (l.take k)).length ((rdF (l.take k)).map Value.string) ∧ Hid (Below W3.heap.size W3 wr)) (fun _ i _ => l.length - (intOf i).toNat)
  case atStart => exact ⟨0, Nat.zero_le _, rfl, ⟨rfl, .inl ⟨rfl, rfl⟩⟩, Lib.hid (Below.refl _ _)⟩
  case round =>
    obtain ⟨k, hk, rfl, hrow, HBR⟩ := hrel
    have hzr := HBR.out.size
    by_cases hkl : k < l.length
    · obtain ⟨pL, cL, eL, -, hat⟩ := HRO.out wr HBR.out
      simp only [Value.slice.injEq, true_and] at eL
      obtain ⟨rfl, rfl⟩ := eL
      obtain ⟨bb, o, rfl, hbl, hcs⟩ := hat (List.ne_nil_of_length_pos (by omega))
      have z0 := stL_at hcs k hkl
      have hss := HLS.out _ (List.getElem_mem hkl)
      have hsn := rdF_snoc hkl
      have hok := rdF_ok (l.take k)
      obtain ⟨s, es⟩ : ∃ s, l[k] = s := ⟨_, rfl⟩
      rw [es] at z0 hss hsn
      obtain ⟨r, er⟩ : ∃ r, rdF (l.take k) = r := ⟨_, rfl⟩
      rw [er] at hsn hrow hok
      have hrl := hok.le
      have HSN := Lib.hid hsn
      have HROW := Lib.hid hrow
      obtain ⟨A, cA, rfl⟩ := own_sliceN hrow
      have HIN := Lib.hid (isName_any s wr (by simp only [maxLen]; omega))
      have HHS := Lib.hid (Has_strs r s _ _ wr (own_strs hrow (by omega)))
      have HZE := Lib.hid (zone_eqB s)
      rw [← inB_eq] at HHS
      clear hat hcs es er hrow hsn hok
      go_wp2_with fail
      refine HIN.out.mono ?_
      rintro e w' ⟨rfl, rfl⟩
      cases hN : nameB s
      · have hT : Hid (rdStep r s = r) := by show _ = _; exact rdStep_no fun h => by rw [h.1] at hN; cases hN
        go_wp2_with fail
        go_roundw
        case rel => exact ⟨k + 1, by omega, by go_num, by rw [HSN.out, hT.out]; exact HROW.out, HBR⟩
        case measure => simp [intOf]; omega
      · by_cases hZn : s = zoneN
        · have hT : Hid (rdStep r s = r) := by show _ = _; exact rdStep_no fun h => h.2.1 hZn
          have hze : (s.toList == [90, 111, 110, 101]) = true := by rw [HZE.out]; exact decide_eq_true hZn
          clear hZn
          go_wp2_with fail
          go_roundw
          case rel => exact ⟨k + 1, by omega, by go_num, by rw [HSN.out, hT.out]; exact HROW.out, HBR⟩
          case measure => simp [intOf]; omega
        · have hze : (s.toList == [90, 111, 110, 101]) = false := by rw [HZE.out]; exact decide_eq_false hZn
          go_wp2_with fail
          refine HHS.out.mono ?_
          rintro e w' ⟨rfl, rfl⟩
          cases hI : inB r s
          · by_cases h20 : r.length < 20
            · have hT : Hid (rdStep r s = r ++ [s]) := by show _ = _; exact rdStep_yes ⟨hN, hZn, hI, h20⟩
              obtain ⟨i1, hi1, hz10, hz11, hz12⟩ := info_parts infoStrN
              have HNEW := Lib.hid (World.news_of_block (cs := #[.string s]) (t := 9) (fr := (0, 0)) (heap_alloc_new wr (.cells #[.string s] 9)))
              have HRO2 := Lib.hid (World.ownsRow.alloc HROW.out (.cells #[.string s] 9))
              have HML : r.length + 1 ≤ maxLen := by simp only [maxLen]; omega
              have HMB : (r.length + 1) * 16 ≤ 140737488355328 := by omega
              have HSZ : W3.heap.size ≤ (wr.alloc (.cells #[.string s] 9)).heap.size := by simp; omega
              clear hN hZn hI hze
              go_wp2_with (at_builtin; refine wpList_append_own _ rfl _ _ 60 rfl W3.heap.size 9 i1 (.string ⟨#[]⟩) 1 16 undStrs hi1 hz10 hz11 hz12 rfl (by decide) _ _ _ rfl HRO2.out ⟨wr.heap.size, 0, none⟩ 1 1 [.string s] rfl rfl HNEW.out (by simp [Value.oneCell']) HML HMB HSZ ?_; intro v' w10 hown10 hgrow10 _)
              have HB10 := Lib.hid ((HBR.out.alloc hzr (.cells #[.string s] 9)).grown hgrow10 HSZ (fun q hq => (World.ownsRow.lt HROW.out q hq).1))
              go_roundw
              case rel =>
                refine ⟨k + 1, by omega, by go_num, ?_, HB10⟩
                rw [HSN.out, hT.out, List.length_append, List.map_append]
                exact hown10
              case measure => simp [intOf]; omega
            · have hT : Hid (rdStep r s = r) := by show _ = _; exact rdStep_no fun h => h20 h.2.2.2
              clear hN hZn hI hze
              go_wp2_with fail
              go_roundw
              case rel => exact ⟨k + 1, by omega, by go_num, by rw [HSN.out, hT.out]; exact HROW.out, HBR⟩
              case measure => simp [intOf]; omega
          · have hT : Hid (rdStep r s = r) := by show _ = _; exact rdStep_no fun h => by rw [h.2.2.1] at hI; cases hI
            clear hN hZn hze
            go_wp2_with fail
            go_roundw
            case rel => exact ⟨k + 1, by omega, by go_num, by rw [HSN.out, hT.out]; exact HROW.out, HBR⟩
            case measure => simp [intOf]; omega
    · obtain rfl : k = l.length := by omega
      rw [List.take_length] at hrow
      obtain ⟨r, er⟩ : ∃ r, rdF l = r := ⟨_, rfl⟩
      have hok := rdF_ok l
      rw [er] at hrow hok
      obtain ⟨A, cA, rfl⟩ := own_sliceN hrow
      have hrl := hok.le
      have HROW := Lib.hid hrow
      have HOK := Lib.hid hok
      obtain ⟨W4, e4⟩ : ∃ W4, wr = W4 := ⟨_, rfl⟩
      rw [e4] at HROW HBR hzr ⊢
      have hx4 := Lib.hid ((HBR.out.block (U + 1 + 1) (by omega)).trans HX3.out)
      have HBW4 := Lib.hid (HBW3.out.trans (HBR.out.mono (by omega)))
      have hw4 : w.heap.size ≤ W4.heap.size := by omega
      clear e4 hrow hok er HRO HLS
      go_upto_region 11 with fail
      rename ∀ (a : Act) (w : World), Code.wp _ ((Code.block 1 _).seq _) _ a w → _ => hKz
      clear hKz
      go_wp2_with fail
      go_loopw [52] (fun i wr => ∃ (k : Nat) (vl : Value), k ≤ r.length ∧ i = .int .i64 k ∧ Hid (wr.heap[U + 1 + 1]? = some (.cells #[.slice none 0 0, .slice (some ⟨U + 1, 0, none⟩) 1 1, vl] 26 (0, 0))) ∧ Hid (wr.ownsRow W4.heap.size 58 2 vl k (((lks r).take k).flatMap lkCells)) ∧ Hid (∀ b, b < W4.heap.size → b ≠ U + 1 + 1 → wr.heap[b]? = W4.heap[b]?) ∧ Hid (Below w.heap.size w wr) ∧ W4.heap.size ≤ wr.heap.size) (fun i _ => r.length - (intOf i).toNat)
      case atStart => exact ⟨0, _, Nat.zero_le _, rfl, hx4, Lib.hid ⟨rfl, .inl ⟨rfl, rfl⟩⟩, Lib.hid (fun b _ _ => rfl), HBW4, Nat.le_refl _⟩
      case round =>
        obtain ⟨k, vl, hk, rfl, HX, HOL, HKP, HBR2, hzr2⟩ := hrel
        have hrow2 : wr.ownsRow W3.heap.size 9 1 (.slice A r.length cA) r.length (r.map Value.string) := own_keep HROW.out fun g e => HKP.out g (World.ownsRow.lt HROW.out g e).2 (by have := (World.ownsRow.lt HROW.out g e).1; omega)
        have HR2 := Lib.hid (own_strs hrow2 (by omega))
        clear hrow2
        by_cases hkl : k < r.length
        · obtain ⟨pL, cL, eL, -, hat⟩ := HR2.out
          simp only [Value.slice.injEq, true_and] at eL
          obtain ⟨rfl, rfl⟩ := eL
          obtain ⟨bb, o, rfl, hbl, hcs⟩ := hat (List.ne_nil_of_length_pos (by omega))
          obtain ⟨hj, ej⟩ := lkAt_go hkl
          have z0 := stL_at hcs k hkl
          have z1 := stL_at hcs ((k + 1) % r.length) hj
          obtain ⟨s, es⟩ : ∃ s, r[k] = s := ⟨_, rfl⟩
          obtain ⟨t, et⟩ : ∃ t, r[(k + 1) % r.length] = t := ⟨_, rfl⟩
          rw [es] at z0 ej
          rw [et] at z1 ej
          obtain ⟨j, ejj⟩ : ∃ j, (k + 1) % r.length = j := ⟨_, rfl⟩
          rw [ejj] at z1 hj
          have hrem : ((k : Int) + 1).tmod (r.length : Int) = (j : Int) := by rw [← ejj]; exact tmod_next k r.length (by omega)
          have hrne : ¬ r = [] := List.ne_nil_of_length_pos (by omega)
          have hwr := next_wr hkl hrl
          have EJ := Lib.hid ej
          have x2 : wr.cell? ⟨U + 1 + 1, 2, none⟩ = some vl := (cell_of_row wr _ 2 _ _ _ HX.out).trans rfl
          obtain ⟨i0, hi, hz0, hz1, hz2⟩ := info_parts infoLkN
          have HVN : Hid (vl.ownBlock ≠ some (U + 1 + 1)) := by
            show _ ≠ _
            intro e
            have := (World.ownsRow.lt HOL.out _ e).1
            omega
          have HL1 := Lib.hid (next_le1 hkl hrl)
          have HL2 := Lib.hid (next_le2 hkl hrl)
          have H1 : Hid (∀ u ∈ [Value.string s, .string t], u.oneCell' = true) := by intro u hu; simp at hu; rcases hu with rfl | rfl <;> rfl
          have HB3 : Hid (∀ o : Obj, W4.heap.size ≤ ((wr.alloc o).drew).heap.size) := fun o => by simp; omega
          have HS3 : Hid (∀ o : Obj, ((wr.alloc o).drew).heap.size = wr.heap.size + 1) := fun o => by simp
          have hul : U + 1 + 1 < wr.heap.size := by omega
          have hbW4 : bb < W4.heap.size := (World.ownsRow.lt HROW.out bb rfl).2
          obtain ⟨Av, cv2, rfl⟩ := own_sliceN HOL.out
          clear hat hcs es et ejj ej HR2
          go_upto_region 14 with fail
          go_region_law (first
            | (refine step_append_lies _ (by rfl) _ _ _ (by rfl) W4.heap.size 58 i0 _ 2 32 undLks hi hz0 hz1 hz2 rfl (by omega) (.slice Av k cv2) k (((lks r).take k).flatMap lkCells) (by rfl) (World.ownsRow.drew (World.ownsRow.alloc HOL.out _)) ⟨wr.heap.size, 0, none⟩ 1 1 [.string s, .string t] (by rfl) (by rfl) (World.news_of_block (cs := #[.string s, .string t]) (t := 58) (fr := (0, 0)) (heap_alloc_new wr _)) H1.out Nat.one_pos HL1.out HL2.out (HB3.out _) (wr.heap.size + 1) (HS3.out _) ?_; intro g5 cap5 w5 hown5 hg5 hat5 hlt5; have hk5 : ∀ b, b < wr.heap.size → (Value.slice Av k cv2).ownBlock ≠ some b → w5.heap[b]? = wr.heap[b]? := (fun b hb hne => (hg5.block b (by simp; omega) (fun e => hne e.symm)).trans (Below.heap_alloc wr _ b hb)); have y5 := (hk5 (U + 1 + 1) hul HVN.out).trans HX.out; have tz : w5.frozen? ⟨U + 1 + 1, 2, none⟩ = false := (by simp [World.frozen?, y5]); have t2 : w5.cell? ⟨U + 1 + 1, 2, none⟩ = some (.slice Av k cv2) := (cell_of_row w5 _ 2 _ _ _ y5).trans rfl; have t1 : w5.cell? ⟨bb, o + j, none⟩ = some (.string t) := (World.cell?_of_block (hk5 bb hbl (fun e => by have := (World.ownsRow.lt HOL.out bb e).1; omega))).trans z1))
          all_goals
            have hg5u : g5 ≠ U + 1 + 1 := by
              rcases hat5 with e | e
              · intro e2; exact HVN.out (by rw [e, e2])
              · omega
            have b5 : Below w.heap.size w w5 := ((HBR2.out.alloc (by omega) _).drew).grown hg5 (by simp; omega) (fun q hq => by have := (World.ownsRow.lt HOL.out q hq).1; omega)
            have hs5 : W4.heap.size ≤ w5.heap.size := by have := hg5.size; simp at this; omega
            have HB5 := Lib.hid (b5.setCell (p := ⟨U + 1 + 1, 2, none⟩) (show w.heap.size ≤ U + 1 + 1 by omega) (.slice (some ⟨g5, 0, none⟩) (k + 1) cap5))
            have HY5 := Lib.hid ((heap_setCN y5 (i := 2) (.slice (some ⟨g5, 0, none⟩) (k + 1) cap5)).trans rfl)
            have HO5 := Lib.hid (own_keep (W' := w5.setCell ⟨U + 1 + 1, 2, none⟩ (.slice (some ⟨g5, 0, none⟩) (k + 1) cap5)) hown5 fun g e => Below.heap_setCell _ _ _ _ (by simp only [Value.ownBlock] at e; injection e with e; show g ≠ U + 1 + 1; omega))
            have HK5 : Hid (∀ b, b < W4.heap.size → b ≠ U + 1 + 1 → (w5.setCell ⟨U + 1 + 1, 2, none⟩ (.slice (some ⟨g5, 0, none⟩) (k + 1) cap5)).heap[b]? = W4.heap[b]?) := by
              show ∀ b, _
              intro b hb hne
              rw [Below.heap_setCell _ _ _ _ (by show b ≠ U + 1 + 1; exact hne), hk5 b (by omega) (fun e => by have := (World.ownsRow.lt HOL.out b e).1; omega)]
              exact HKP.out b hb hne
            have hz5 : W4.heap.size ≤ (w5.setCell ⟨U + 1 + 1, 2, none⟩ (.slice (some ⟨g5, 0, none⟩) (k + 1) cap5)).heap.size := by simp [World.setCell]; exact hs5
            clear hown5 hg5 hk5 y5 tz t2 t1 b5 z0 z1 hwr hrem x2
            go_wp2_with fail
            go_roundw
            case rel =>
              refine ⟨k + 1, .slice (some ⟨g5, 0, none⟩) (k + 1) cap5, by omega, by go_num, HY5, ?_, HK5, HB5, hz5⟩
              show World.ownsRow _ _ _ _ _ _ _
              rw [lks_snoc hkl, List.flatMap_append, EJ.out]
              exact HO5.out
            case measure => simp [intOf]; omega
        · obtain rfl : k = r.length := by omega
          have htk : (lks r).take r.length = lks r := by rw [← lks_len r]; exact List.take_length
          rw [htk] at HOL
          have hln := lks_len r
          have hol : wr.ownsRow W4.heap.size 58 2 vl (lks r).length ((lks r).flatMap lkCells) := by rw [hln]; exact HOL.out
          have hrl2 := own_rowsN (cells := lkCells) (k := 2) (fun _ => rfl) hol (by omega)
          obtain ⟨W5, e5⟩ : ∃ W5, wr = W5 := ⟨_, rfl⟩
          rw [e5] at HX HKP HBR2 HR2 hzr2 hrl2 ⊢
          have hZ5 := (HKP.out (U + 1) (by omega) (by omega)).trans ((HBR.out.block (U + 1) (by omega)).trans HZ.out)
          have hE5 := (HKP.out U (by omega) (by omega)).trans ((HBR.out.block U (by omega)).trans HE.out)
          have rz : RowsAt zoCells 2 W5.heap.size W5 (.slice (some ⟨U + 1, 0, none⟩) 1 1) ([⟨zoneN, .slice (some ⟨U, 0, none⟩) 1 1, [er0]⟩] : List Zo) := by
            refine rows_lit (cells := zoCells) (k := 2) (fun _ => rfl) hZ5 ?_ ?_ ?_ ?_
            · rfl
            · rfl
            · decide
            · omega
          have hBK : BookAt W5.heap.size W5 (.slice none 0 0) (.slice (some ⟨U + 1, 0, none⟩) 1 1) vl (bkR (.slice (some ⟨U, 0, none⟩) 1 1) r) := by
            refine ⟨rows_nilN, rz, ?_, hrl2, fun r hr => absurd hr (List.not_mem_nil), ?_, ?_⟩
            · intro z hz
              obtain rfl := List.mem_singleton.1 hz
              refine rows_lit (cells := fun x : Er => (erCells x).toList) (k := 5) (l := [er0]) (fun _ => rfl) hE5 ?_ ?_ ?_ ?_
              · rfl
              · rfl
              · decide
              · omega
            · intro z hz
              obtain rfl := List.mem_singleton.1 hz
              refine ⟨(show ByteArray.size ⟨#[90, 111, 110, 101]⟩ ≤ 140737488351232 by decide), fun x hx => ?_⟩
              obtain rfl := List.mem_singleton.1 hx
              exact ⟨by decide, by decide, by decide, by decide, by decide, by decide, by decide, by decide⟩
            · intro x hx
              obtain ⟨h1, h2⟩ := lks_mem hx
              have := nameB_sz (HOK.out.nm _ h1).1
              have := nameB_sz (HOK.out.nm _ h2).1
              exact ⟨by omega, by omega⟩
          have hw5 : w.heap.size ≤ W5.heap.size := by omega
          have HRS : Hid (∀ (W : World) (s : ByteArray), Below W5.heap.size W5 W → s ∈ r → Calls Tryd.prog 23 #[.agg #[.slice none 0 0, .slice (some ⟨U + 1, 0, none⟩) 1 1, vl], .string s] W (RsvPost (none, 8) W)) := by
            show ∀ W s, _
            intro W s hb hs
            have hbw := HBR2.out.trans (hb.mono hw5)
            have := Resolve_any _ _ _ _ s W ((hBK.below hb (Nat.le_refl _)).baseN hb.size) (by have := nameB_sz (HOK.out.nm _ hs).1; omega) (HM.out.below hbw) (HT.out.below hbw)
            rwa [bkR_rsv _ HOK.out hs] at this
          have HAL : Hid (∀ (W : World), Below W5.heap.size W5 W → Calls Tryd.prog 25 #[.agg #[.slice none 0 0, .slice (some ⟨U + 1, 0, none⟩) 1 1, vl]] W (AllPost (bkR (.slice (some ⟨U, 0, none⟩) 1 1) r) W)) := by
            show ∀ W, _
            intro W hb
            have hbw := HBR2.out.trans (hb.mono hw5)
            exact All_go _ _ _ _ W ((hBK.below hb (Nat.le_refl _)).baseN hb.size) (HM.out.below hbw) (HT.out.below hbw)
          have HBOX : Hid (∀ (W : World), Below W5.heap.size W5 W → W.cell? ⟨U + 1 + 1, 0, none⟩ = some (.slice none 0 0) ∧ W.cell? ⟨U + 1 + 1, 1, none⟩ = some (.slice (some ⟨U + 1, 0, none⟩) 1 1) ∧ W.cell? ⟨U + 1 + 1, 2, none⟩ = some vl) := by
            show ∀ W, _
            intro W hb
            have hx := (hb.block (U + 1 + 1) (by omega)).trans HX.out
            exact ⟨(cell_of_row W _ 0 _ _ _ hx).trans rfl, (cell_of_row W _ 1 _ _ _ hx).trans rfl, (cell_of_row W _ 2 _ _ _ hx).trans rfl⟩
          obtain ⟨Av, cv2, rfl⟩ := own_sliceN hol
          clear e5 hZ5 hE5 rz hBK hrl2 hol HOL HKP HX htk hln
          go_upto_region 16 with fail
          rename ∀ (a : Act) (w : World), Code.wp _ ((Code.block 3 _).seq _) _ a w → _ => hKz
          clear hKz
          go_wp2_with fail
          go_loopw [75] (fun i wr => ∃ k : Nat, k ≤ r.length ∧ i = .int .i64 k ∧ Hid (Below W5.heap.size W5 wr)) (fun i _ => r.length - (intOf i).toNat)
          case atStart => exact ⟨0, Nat.zero_le _, rfl, Lib.hid (Below.refl _ _)⟩
          case round =>
            obtain ⟨k, hk, rfl, HBR3⟩ := hrel
            have hzr3 := HBR3.out.size
            obtain ⟨g0, g1, g2⟩ := HBOX.out wr HBR3.out
            by_cases hkl : k < r.length
            · obtain ⟨pL, cL, eL, -, hat⟩ := HR2.out
              simp only [Value.slice.injEq, true_and] at eL
              obtain ⟨rfl, rfl⟩ := eL
              obtain ⟨bb, o, rfl, hbl, hcs⟩ := hat (List.ne_nil_of_length_pos (by omega))
              have z0 := (HBR3.out.cell (p := ⟨bb, o + k, none⟩) hbl).trans (stL_at hcs k hkl)
              have hin := List.getElem_mem hkl
              obtain ⟨s, es⟩ : ∃ s, r[k] = s := ⟨_, rfl⟩
              rw [es] at z0 hin
              have HRR := Lib.hid (HRS.out wr s HBR3.out hin)
              clear hat hcs es hin
              go_wp2_with fail
              refine HRR.out.mono ?_
              rintro e w6 ⟨vo, rfl, hrow, hb6⟩
              simp only [zNm, zEr] at hrow ⊢
              obtain ⟨A6, c6, rfl⟩ := own_sliceN hrow
              have HB6 := Lib.hid ((HBR3.out.trans (hb6.mono hzr3)).alloc (Nat.le_trans hzr3 hb6.size) (.cells #[.string ⟨#[]⟩, .slice A6 0 c6] 53))
              clear hrow hb6 HRR HBR3
              go_wp2_with fail
              go_roundw
              case rel => exact ⟨k + 1, by omega, by go_num, HB6⟩
              case measure => simp [intOf]; omega
            · obtain rfl : k = r.length := by omega
              have HBW6 := Lib.hid (HBR2.out.trans (HBR3.out.mono hw5))
              have HALL := Lib.hid (HAL.out wr HBR3.out)
              have hw6 : w.heap.size ≤ wr.heap.size := by omega
              go_wp2_with fail
              refine HALL.out.mono ?_
              rintro e w7 ⟨hb7, -, hgood⟩
              obtain ⟨v7, ns, rfl, hall, -, hrow7⟩ := hgood (bkR_chk _ HOK.out)
              obtain rfl := bkR_all _ HOK.out hall
              have es7 : ((bsL [zoneN]).mergeSort leB).map encStr = [zoneN].map Value.string := by
                rw [← bsL_enc]
                show (([zoneN.data.toList] : List (List UInt8)).mergeSort leB).map encStr = _
                rw [List.mergeSort_singleton]
                rfl
              rw [es7] at hrow7
              obtain ⟨A7, c7, rfl⟩ := own_sliceN hrow7
              obtain ⟨W8, e8⟩ : ∃ W8, w7.alloc (.cells #[.string ⟨#[90, 111, 110, 101]⟩] 9) = W8 := ⟨_, rfl⟩
              have hb8 : Below w7.heap.size w7 W8 := by rw [← e8]; exact (Below.refl _ _).alloc (Nat.le_refl _) _
              have hx8 : W8.heap[w7.heap.size]? = some (.cells #[.string ⟨#[90, 111, 110, 101]⟩] 9 (0, 0)) := by rw [← e8]; exact heap_alloc_new w7 _
              have hz8 : w7.heap.size < W8.heap.size := by rw [← e8]; simp
              have r7 := (own_strs hrow7 (by simp)).below hb8 (Nat.le_refl _)
              have r8 : RowsAt stL 1 W8.heap.size W8 (.slice (some ⟨w7.heap.size, 0, none⟩) 1 1) [zoneN] := rows_lit (cells := stL) (k := 1) (fun _ => rfl) hx8 rfl rfl (by decide) hz8
              have hEQ := Eq_strs [zoneN] [zoneN] _ _ _ W8 (r7.mono (Nat.le_of_lt hz8)) r8 rfl
              rw [decide_eq_true rfl] at hEQ
              have HEQ := Lib.hid hEQ
              have HE8 := Lib.hid e8
              have HB8 := Lib.hid ((HBW6.out.trans (hb7.mono hw6)).trans (hb8.mono (Nat.le_trans hw6 hb7.size)))
              clear hEQ hall hgood hb7 hrow7 es7 e8 hb8 hx8 hz8 r7 r8 HALL HAL HRS HBOX HBR3 HBW6
              go_wp2_with fail
              rw [HE8.out]
              refine HEQ.out.mono ?_
              rintro e w9 ⟨rfl, rfl⟩
              go_wp2_with fail
              go_ret
              exact ⟨rfl, HB8.out⟩
end Go.Proofs.YtlgdilpmdoofiaaDoor
