/- back.Book: what it returns. backed, BackEras: the closed fact and the law's walk. BookEq of equal books; BackNorm: the law's walk. ZoneEq, BookEq of equal books; BackNorm: the law's walk. Small facts of boxes of tables. norm.Norm, norm.check, norm.Same, TableEq: what each returns. norm.isTime; slices.Grow of nil; slices.Concat of two slices of changes. norm.Between: parts. -/
import Derived.Test.YthggojpdcgcmaaaGreatDoorQ15
import Derived.Test.YthggojpdcgcmaaaGreatDoorQ14
import Derived.Deep.RegionHeld3
import Derived.Test.YthggojpdcgcmaaaGreatDoorQ13
import Derived.Deep.DeepCutAuto
import Derived.Handy
import Derived.Lib.SliceRun
import Derived.Lib.AppendZerosOnto
import Derived.Laws.AppendOwnNone
import Derived.Sort.OwnSortedInts
import Derived.Test.YthggojpdcgcmaaaGreatDoorQ12
namespace Go.Proofs.YthggojpdcgcmaaaGreatDoor.BB
open Go.RowKit Go.Joins
open Classical
set_option linter.unusedVariables false
set_option linter.unusedSimpArgs false

theorem bk_no {t : Tab} {nm : ByteArray} {w w' : World} {c : Int} (h : backC t nm = c) (hc : c ≠ 0) (hb : Below w.heap.size w w') : BkPost t nm w (.returned (.tuple #[bkNone, .int .i64 c])) w' :=
  ⟨hb, Or.inl ⟨by rw [h]; exact hc, by rw [h]⟩⟩

theorem undErB : Tryz.prog.underlying 36 = some (.slice 35) := by kernel_rfl
theorem infoErB : (Tryz.prog.info? 35).map (fun i => (i.zero, i.size, i.bytes)) = some (some (.agg #[.int .i64 0, .string ⟨#[]⟩, .int .i64 0, .string ⟨#[]⟩, .int .i64 0]), 5, 56) := by kernel_rfl
/-- the zone under way, and its row of eras -/
structure Vz (W : World) (U : Nat) (nm : ByteArray) (cv : Value) (L : List Er) : Prop where
  blk : W.heap[U]? = some (.cells #[.string nm, cv] 38 (0, 0))
  row : W.ownsRow U 35 5 cv L.length (erCells L)
section
variable {W W' : World} {U : Nat} {nm : ByteArray} {cv : Value} {L : List Er}
theorem Vz.lt (h : Vz W U nm cv L) : U < W.heap.size := (Array.getElem?_eq_some_iff.mp h.blk).1
theorem Vz.ne (h : Vz W U nm cv L) : cv.ownBlock ≠ some U := by
  rcases h.row.2 with ⟨e, _⟩ | ⟨g, cap, cur, e, _, hg, _⟩
  · rw [e]; simp [Value.ownBlock]
  · rw [e]
    simp only [Value.ownBlock]
    intro e2
    injection e2 with e2
    subst e2
    rw [h.blk] at hg
    injection hg with hg
    injection hg with _ h2 _
    exact absurd h2 (by decide)
theorem Vz.keep (h : Vz W U nm cv L) (hk : ∀ b, b < W.heap.size → W'.heap[b]? = W.heap[b]?) : Vz W' U nm cv L :=
  ⟨(hk _ h.lt).trans h.blk, own_keep h.row fun g e => hk g (World.ownsRow.lt h.row g e).2⟩
theorem Vz.below (h : Vz W U nm cv L) (hb : Below W.heap.size W W') : Vz W' U nm cv L := h.keep fun b hlt => hb.block b hlt
theorem Vz.cells (h : Vz W U nm cv L) : W.cell? ⟨U, 0, none⟩ = some (.string nm) ∧ W.cell? ⟨U, 1, none⟩ = some cv ∧ (∀ o, W.frozen? ⟨U, o, none⟩ = false) :=
  ⟨(cell_of_row W _ 0 _ _ _ h.blk).trans rfl, (cell_of_row W _ 1 _ _ _ h.blk).trans rfl, fun o => by simp [World.frozen?, h.blk]⟩
end
theorem vz_old {W w6 : World} {U : Nat} {nm : ByteArray} {A : Option Addr} {cS : Nat} {L : List Er} {o : Obj} (h : Vz W U nm (.slice A L.length cS) L) (hg : (W.alloc o).grownBy w6 (Value.slice A L.length cS).ownBlock) :
    w6.heap[U]? = some (.cells #[.string nm, .slice A L.length cS] 38 (0, 0)) := by
  have := h.lt
  exact ((hg.block U (by simp; omega) (fun e => h.ne e.symm)).trans (Below.heap_alloc _ _ _ this)).trans h.blk
theorem vz_snoc {W w6 : World} {U : Nat} {nm : ByteArray} {A : Option Addr} {cS : Nat} {v' : Value} {L : List Er} {x : Er} {o : Obj} (h : Vz W U nm (.slice A L.length cS) L)
    (hown : w6.ownsRow U 35 5 v' (L.length + 1) (erCells L ++ erC x))
    (hg : (W.alloc o).grownBy w6 (Value.slice A L.length cS).ownBlock) (y6 : w6.heap[U]? = some (.cells #[.string nm, .slice A L.length cS] 38 (0, 0))) :
    Vz (w6.setCell ⟨U, 1, none⟩ v') U nm v' (L ++ [x]) ∧ Below U W (w6.setCell ⟨U, 1, none⟩ v') := by
  have hne : v'.ownBlock ≠ some U := by
    rcases hown.2 with ⟨e, _⟩ | ⟨g, cap, cur, e, _, hg, _⟩
    · rw [e]; simp [Value.ownBlock]
    · rw [e]
      simp only [Value.ownBlock]
      intro e2
      injection e2 with e2
      subst e2
      rw [y6] at hg
      injection hg with hg
      injection hg with _ h2 _
      exact absurd h2 (by decide)
  have hlt := h.lt
  refine ⟨⟨(heap_setCB y6 _).trans rfl, ?_⟩, ?_⟩
  · rw [erCells_snoc, List.length_append]
    exact own_keep hown fun g e => Below.heap_setCell _ _ _ _ (by show g ≠ U; exact fun e2 => hne (by rw [e, e2]))
  · exact (((Below.refl U W).alloc (by omega) _).grown hg (by simp; omega) (fun g e => (World.ownsRow.lt h.row g e).1)).setCell (Nat.le_refl _) _
theorem seg_in {N : Tab} (ok : OkTab N) (i : Nat) (hi : i ≤ N.chs.length) : 0 ≤ segK N i ∧ segK N i < N.types.length := by
  unfold segK
  split
  · exact ok.first
  · have h : i - 1 < N.chs.length := by omega
    have := ok.ch N.chs[i - 1] (List.getElem_mem h)
    unfold kAt
    rw [List.getElem?_eq_getElem h]
    simp only [Option.map_some, Option.getD_some]
    omega

set_option maxRecDepth 100000 in
set_option maxHeartbeats 16000000 in
theorem Book_any (t : Tab) (v : Value) (nm : ByteArray) (w : World) (hv : TabAt w v t) (hs : nm.size ≤ maxLen) (ht : Tab10 w) :
    Calls Tryz.prog 27 #[v, .string nm] w (BkPost t nm w) := by
  obtain ⟨p1, c1, p2, c2, rfl⟩ := tabForms hv
  obtain ⟨W0, eW⟩ : ∃ W0, (w.alloc (.cells #[.slice p1 t.types.length c1, .int .i64 t.first, .slice p2 t.chs.length c2] 52)).alloc (.cells #[.slice none 0 0, .slice none 0 0, .slice none 0 0] 26) = W0 := ⟨_, rfl⟩
  obtain ⟨hz, g0, g1, hb0⟩ := two_alB eW
  have HM : Hid (BkM w W0 p1 c1 p2 c2 t) := by show BkM _ _ _ _ _ _ _; exact ⟨g0, g1, hv.below hb0, hb0⟩
  have HEW := Lib.hid eW
  have HT := Lib.hid ht
  have HC := Lib.hid (fun W v (hb : TabAt W v t) => Check_any t v W hb)
  obtain ⟨C, eC⟩ : ∃ C, chk t = C := ⟨_, rfl⟩
  rw [eC] at HC
  have EC := Lib.hid eC
  have HNM := Lib.hid (fun W => isName_any nm W hs)
  obtain ⟨B, eB⟩ : ∃ B, nameB nm = B := ⟨_, rfl⟩
  rw [eB] at HNM
  have EB := Lib.hid eB
  obtain ⟨x0, x1, x2, xf0, xf1, xf2, hl0⟩ := HM.out.cells
  clear eW g0 g1 hb0 hv eC eB hs ht hz
  go_enter Tryz.func27, Tryz.ntmps27
  go_wp2_with fail
  rw [HEW.out]
  refine (HC.out _ _ HM.out.tb).mono ?_
  rintro e w1 ⟨rfl, hb1⟩
  have HM1 := Lib.hid (HM.out.go hb1)
  clear hb1 HM x0 x1 x2 xf0 xf1 xf2 hl0
  obtain ⟨x0, x1, x2, xf0, xf1, xf2, hl1⟩ := HM1.out.cells
  obtain ⟨z0, z1, z2, zf0, zf1, zf2⟩ := HM1.out.zero
  have hr1 := HM1.out.lt
  by_cases hc : C = 0
  · subst hc
    cases B with
    | false =>
      go_wp2_with fail
      refine (HNM.out _).mono ?_
      rintro e w' ⟨rfl, rfl⟩
      go_wp2
      obtain ⟨W9, e9, hb9, v0, v1, v2, -⟩ := HM1.out.out (.slice none 0 0) (.slice none 0 0) (.slice none 0 0)
      rw [e9]
      refine bodyPost_ret (v := .tuple #[bkNone, .int .i64 3]) (by simp [results, Tryz.results27, go_sem, v0, v1, v2]) rfl (bk_no ?_ (by decide) hb9)
      unfold backC
      rw [if_neg (by rw [EC.out]; simp), if_pos EB.out]
    | true =>
      have ok := chk_ok t EC.out
      have OK := Lib.hid ok
      have nok := norm_ok t ok
      have NOK := Lib.hid nok
      have HN := Lib.hid (fun W v (hb : TabAt W v t) => NOf_any t v W hb ok)
      have HP : Hid (∀ r : Int, (if 700 ≤ (normT t).chs.length then 2 else if (∃ c ∈ (normT t).chs, okSB c.t = false) then 1 else if (∃ i, i ≤ (normT t).chs.length ∧ erOk (segT (normT t) i) = false) then 1 else 0) = r → backC t nm = r) := by
        show ∀ r : Int, _ → _
        intro r h
        unfold backC
        rw [if_neg (by rw [EC.out]; simp), if_neg (by rw [EB.out]; simp)]
        exact h
      obtain ⟨N, eN⟩ : ∃ N, normT t = N := ⟨_, rfl⟩
      rw [eN] at HN HP NOK
      have HPO : Hid (∀ e w', BkPost t nm w e w' ↔ Below w.heap.size w w' ∧ ((backC t nm ≠ 0 ∧ e = .returned (.tuple #[bkNone, .int .i64 (backC t nm)])) ∨ (backC t nm = 0 ∧ ∃ Z cz p ce, e = .returned (.tuple #[bkV Z cz, .int .i64 0]) ∧ BkAt w' Z cz p ce nm (ersOf N)))) := by
        show ∀ e w', _ ↔ _
        intro e w'
        unfold BkPost
        rw [eN]
      clear ok nok eN
      go_wp2_with fail
      refine (HNM.out _).mono ?_
      rintro e w' ⟨rfl, rfl⟩
      go_wp2_with fail
      refine (HN.out _ _ HM1.out.tb).mono ?_
      rintro e w2 ⟨v2, rfl, hv2, hb2⟩
      obtain ⟨q1, d1, q2, d2, rfl⟩ := tabForms hv2
      have HM2 := Lib.hid (HM1.out.go hb2)
      have HV2 := Lib.hid hv2
      clear hb2 hv2 HM1 x0 x1 x2 xf0 xf1 xf2 hl1 z0 z1 z2 zf0 zf1 zf2 hr1
      obtain ⟨x0, x1, x2, xf0, xf1, xf2, hl2⟩ := HM2.out.cells
      go_upto_region 7 with fail
      obtain ⟨W3, e3, hB3, hh3, ho3⟩ := end_cells3 HM2.out.px (.slice q1 N.types.length d1) (.int .i64 N.first) (.slice q2 N.chs.length d2)
      rw [e3]
      have hsz3 : w2.heap.size ≤ W3.heap.size := (hB3 0 (Nat.zero_le _)).size
      have HM3 : Hid (BkM w W3 q1 d1 q2 d2 N) := by
        show BkM _ _ _ _ _ _ _
        exact ⟨hh3, (ho3 _ (by omega)).trans HM2.out.r, tab_far HV2.out HM2.out.px ho3 hsz3, HM2.out.b.trans (hB3 _ (Nat.le_refl _))⟩
      clear e3 hB3 hh3 ho3 HM2 HV2 x0 x1 x2 xf0 xf1 xf2 hl2 hsz3
      obtain ⟨x0, x1, x2, xf0, xf1, xf2, hl3⟩ := HM3.out.cells
      have hr3 := HM3.out.lt
      by_cases h7 : 700 ≤ N.chs.length
      · obtain ⟨z0, z1, z2, zf0, zf1, zf2⟩ := HM3.out.zero
        have H7 := Lib.hid h7
        have h7' : (700 : Int) ≤ (N.chs.length : Int) := by omega
        clear h7
        go_wp2
        obtain ⟨W9, e9, hb9, v0, v1, v2, -⟩ := HM3.out.out (.slice none 0 0) (.slice none 0 0) (.slice none 0 0)
        rw [e9]
        refine bodyPost_ret (v := .tuple #[bkNone, .int .i64 2]) (by simp [results, Tryz.results27, go_sem, v0, v1, v2]) rfl (bk_no (HP.out 2 (if_pos H7.out)) (by decide) hb9)
      have h7' : (N.chs.length : Int) < 700 := by omega
      have H7 := Lib.hid h7
      clear h7
      have hsc := (tabOf_slices HM3.out.tb).2.1
      have hst := (tabOf_slices HM3.out.tb).1
      obtain ⟨p, cap, he, hcc⟩ := hsc.shape
      injection he with he1 _ he2
      subst he1 he2
      obtain ⟨p, cap, he, htt⟩ := hst.shape
      injection he with he1 _ he2
      subst he1 he2
      have HCC := Lib.hid hcc
      have HTT := Lib.hid htt
      clear hsc hst hcc htt
      go_wp2_with fail
      go_loopw [36] (fun i wr => ∃ k : Nat, k ≤ N.chs.length ∧ i = .int .i64 k ∧ (∀ j (h : j < N.chs.length), j < k → okSB N.chs[j].t = true) ∧ Below W3.heap.size W3 wr) (fun i _ => N.chs.length - (intOf i).toNat)
      case atStart => exact ⟨0, Nat.zero_le _, rfl, fun j h h2 => absurd h2 (Nat.not_lt_zero _), Below.refl _ _⟩
      case round =>
        obtain ⟨k, hk, rfl, hall, hbr⟩ := hrel
        have HBR := Lib.hid hbr
        have HMR := Lib.hid (HM3.out.go hbr)
        have HAL := Lib.hid hall
        have hzr := hbr.size
        clear hbr hall x0 x1 x2 xf0 xf1 xf2 hl3
        obtain ⟨x0, x1, x2, xf0, xf1, xf2, hlr⟩ := HMR.out.cells
        by_cases hkn : k < N.chs.length
        · have hne : N.chs ≠ [] := fun e => by rw [e] at hkn; exact absurd hkn (Nat.not_lt_zero _)
          obtain ⟨cb, co, rfl, hcb, hat⟩ := HCC.out hne
          obtain ⟨c, ec⟩ : ∃ c, N.chs[k] = c := ⟨_, rfl⟩
          have h1 := (hat k hkn).below HBR.out hcb
          have hcin := NOK.out.ch N.chs[k] (List.getElem_mem hkn)
          rw [ec] at h1 hcin
          obtain ⟨a0, a1⟩ := h1
          have EC2 := Lib.hid ec
          obtain ⟨ci1, ci2, -, -⟩ := hcin
          clear hat hne ec
          by_cases hok : okSB c.t = true
          · have hok' := hok
            simp only [okSB, decide_eq_true_eq] at hok'
            have HSt := Lib.hid (fun W (hb : Tab10 W) => Stamp_ok c.t W hok'.1 hok'.2 hb)
            have HOK := Lib.hid hok
            clear hok hok'
            go_wp2_with fail
            refine (HSt.out _ (HT.out.below (HMR.out.b.alloc HMR.out.b.size _))).mono ?_
            rintro e w4 ⟨rfl, hb4⟩
            have HZ := Lib.hid (HBR.out.trans ((((Below.refl _ _).alloc (Nat.le_refl _) _).trans (hb4.mono (by simp))).mono HBR.out.size))
            clear hb4 a0 a1 x0 x1 x2 xf0 xf1 xf2
            go_wp2
            go_roundw
            case rel =>
              refine ⟨k + 1, hkn, by go_num, fun j h h2 => ?_, HZ.out⟩
              rcases Nat.lt_or_ge j k with h3 | h3
              · exact HAL.out j h h3
              · have : j = k := by omega
                subst this
                rw [EC2.out]; exact HOK.out
            case measure => simp [intOf]; omega
          · have HSt := Lib.hid (fun W => Stamp_no c.t W (by
              have : ¬ (-135140 ≤ c.t / 86400 ∧ c.t / 86400 ≤ 157053) := fun h => hok (by unfold okSB; exact decide_eq_true h)
              omega) (by omega) (by omega))
            have HOK := Lib.hid (eq_false_of_ne_true hok)
            clear hok
            go_wp2_with fail
            refine (HSt.out _).mono ?_
            rintro e w4 ⟨rfl, hb4⟩
            have HM5 := Lib.hid ((HMR.out.go ((Below.refl _ _).alloc (Nat.le_refl _) _)).go hb4)
            obtain ⟨z0, z1, z2, zf0, zf1, zf2⟩ := HM5.out.zero
            have hl5 := HM5.out.lt
            clear hb4 a0 a1 x0 x1 x2 xf0 xf1 xf2
            go_wp2
            obtain ⟨W9, e9, hb9, v0, v1, v2, -⟩ := HM5.out.out (.slice none 0 0) (.slice none 0 0) (.slice none 0 0)
            rw [e9]
            refine bodyPost_ret (v := .tuple #[bkNone, .int .i64 1]) (by simp [results, Tryz.results27, go_sem, v0, v1, v2]) rfl (bk_no (HP.out 1 ?_) (by decide) hb9)
            rw [if_neg H7.out, if_pos ⟨c, by rw [← EC2.out]; exact List.getElem_mem hkn, HOK.out⟩]
        · obtain rfl : k = N.chs.length := by omega
          have HAA : Hid (¬ ∃ c ∈ N.chs, okSB c.t = false) := by
            show ¬ _
            rintro ⟨c, hc, h⟩
            obtain ⟨j, hj, rfl⟩ := List.mem_iff_getElem.1 hc
            rw [HAL.out j hj hj] at h
            cases h
          clear HAL hk hkn
          go_upto_region 18 with fail
          obtain ⟨wq, rfl⟩ : ∃ wq, wq = wr := ⟨wr, rfl⟩
          obtain ⟨W5, e5⟩ : ∃ W5, wq.alloc (.cells #[.string nm, .slice none 0 0] 38) = W5 := ⟨_, rfl⟩
          rw [e5]
          have g5 : W5.heap[wq.heap.size]? = some (.cells #[.string nm, .slice none 0 0] 38 (0, 0)) := by rw [← e5]; exact heap_alloc_new wq _
          have hb5 : Below wq.heap.size wq W5 := by rw [← e5]; exact (Below.refl _ _).alloc (Nat.le_refl _) _
          have HV5 : Hid (Vz W5 wq.heap.size nm (.slice none 0 0) (ersUp N 0)) := by
            show Vz _ _ _ _ _
            exact ⟨g5, World.ownsRow_nil _ _ _ _⟩
          have HB5 := Lib.hid hb5
          obtain ⟨U, eU⟩ : ∃ U, wq.heap.size = U := ⟨_, rfl⟩
          have EU := Lib.hid eU
          rw [eU] at HV5 HB5 hlr ⊢
          have hz5 : U < W5.heap.size := by have := (Array.getElem?_eq_some_iff.mp g5).1; omega
          have hM5 := HMR.out.go (W' := W5) (by rw [eU]; exact HB5.out)
          clear x0 x1 x2 xf0 xf1 xf2
          obtain ⟨x0, x1, x2, xf0, xf1, xf2, hl5⟩ := hM5.cells
          obtain ⟨i1, hi1, hz10, hz11, hz12⟩ := info_parts infoErB
          clear e5 g5 hb5 eU hM5
          go_wp2_with fail
          go_loopw [12, 59] (fun f i wr => ∃ (k : Nat) (sv : Value) (fk : Int), k ≤ N.chs.length + 1 ∧ i = .int .i64 k ∧ f = .int .i64 fk ∧ (k ≤ N.chs.length → fk = segK N k) ∧ (∀ j, j < k → erOk (segT N j) = true) ∧ Vz wr U nm sv (ersUp N k) ∧ Below U wq wr) (fun _ i _ => N.chs.length + 1 - (intOf i).toNat)
          case atStart => exact ⟨0, _, _, Nat.zero_le _, rfl, rfl, fun _ => rfl, fun j h => absurd h (Nat.not_lt_zero _), HV5.out, HB5.out⟩
          case round =>
            obtain ⟨k, sv, fk, hk, rfl, rfl, hfk, hall, hvz, hbw⟩ := hrel
            have HVR := Lib.hid hvz
            have HBW := Lib.hid hbw
            have HMK := Lib.hid (HMR.out.go (W' := wr) (by rw [EU.out]; exact hbw))
            have HAL := Lib.hid hall
            clear hvz hbw hall x0 x1 x2 xf0 xf1 xf2 hl5
            obtain ⟨x0, x1, x2, xf0, xf1, xf2, hlk⟩ := HMK.out.cells
            have hUr := HVR.out.lt
            by_cases hkn : k ≤ N.chs.length
            · obtain rfl := hfk hkn
              have sg := seg_in NOK.out k hkn
              obtain ⟨K, eK⟩ : ∃ K, segK N k = K := ⟨_, rfl⟩
              rw [eK] at sg ⊢
              obtain ⟨sg1, sg2⟩ := sg
              have hKn : K.toNat < N.types.length := by omega
              have hne : N.types ≠ [] := NOK.out.ne
              obtain ⟨ub, uo, rfl, htb, hat⟩ := HTT.out hne
              have hb3k : Below W3.heap.size W3 wr := HBR.out.trans (HBW.out.mono (by rw [← EU.out]; exact HBR.out.size))
              have h1 := (hat K.toNat hKn).below hb3k htb
              have hxt : N.types[K.toNat] = segT N k := by unfold segT tyD; rw [eK, List.getElem?_eq_getElem hKn]; rfl
              have hxo := NOK.out.type _ (List.getElem_mem hKn)
              rw [hxt] at h1 hxo
              obtain ⟨x, ex⟩ : ∃ x, segT N k = x := ⟨_, rfl⟩
              rw [ex] at h1 hxo
              obtain ⟨a0, a1, a2⟩ := h1
              obtain ⟨o1, o2, -⟩ := hxo
              have HER := Lib.hid (fun W => era_any x W o1 o2)
              obtain ⟨O, eO⟩ : ∃ O, erOk x = O := ⟨_, rfl⟩
              rw [eO] at HER
              obtain ⟨E, eE⟩ : ∃ E, erOf x 0 = E := ⟨_, rfl⟩
              rw [eE] at HER
              have HEV : Hid (erAt N k = ⟨E.off, E.rul, E.save, E.fmt, segU N k⟩) := by
                show _ = _
                unfold erAt
                rw [ex, ← eE]
                rfl
              have hE0 : E.til = 0 := by rw [← eE]; rfl
              have EO := Lib.hid eO
              have EX := Lib.hid ex
              have EK := Lib.hid eK
              have htbr : ub < wr.heap.size := Nat.lt_of_lt_of_le htb hb3k.size
              clear hat hne hxt hb3k ex eO eK hfk o1 o2 eE
              have HE0 := Lib.hid hE0
              clear hE0
              go_wp2_with fail
              refine (HER.out _).mono ?_
              rintro e w6 ⟨rfl, hb6⟩
              have HV6 := Lib.hid (HVR.out.below hb6)
              have HB6 := Lib.hid (HBW.out.trans (hb6.mono (Nat.le_of_lt hUr)))
              have HM6 := Lib.hid (HMK.out.go hb6)
              have hz6 := hb6.size
              clear hb6 a0 a1 a2 x0 x1 x2 xf0 xf1 xf2 hlk HVR HBW HMK
              obtain ⟨x0, x1, x2, xf0, xf1, xf2, hl6⟩ := HM6.out.cells
              have hU6 := HV6.out.lt
              cases O with
              | false =>
                go_upto_region 22 with fail
                obtain ⟨W7, e7⟩ : ∃ W7, w6.alloc (.cells #[.int .i64 E.off, .string E.rul, .int .i64 E.save, .string E.fmt, .int .i64 E.til] 35) = W7 := ⟨_, rfl⟩
                rw [e7]
                have HM7 : Hid (BkM w W7 (some ⟨ub, uo, none⟩) d1 q2 d2 N) := by
                  show BkM _ _ _ _ _ _ _
                  rw [← e7]
                  exact HM6.out.go ((Below.refl _ _).alloc (Nat.le_refl _) _)
                clear e7 x0 x1 x2 xf0 xf1 xf2 hl6
                obtain ⟨z0, z1, z2, zf0, zf1, zf2⟩ := HM7.out.zero
                have hr7 := HM7.out.lt
                go_wp2
                obtain ⟨W9, e9, hb9, v0, v1, v2, -⟩ := HM7.out.out (.slice none 0 0) (.slice none 0 0) (.slice none 0 0)
                rw [e9]
                refine bodyPost_ret (v := .tuple #[bkNone, .int .i64 1]) (by simp [results, Tryz.results27, go_sem, v0, v1, v2]) rfl (bk_no (HP.out 1 ?_) (by decide) hb9)
                rw [if_neg H7.out, if_neg HAA.out, if_pos ⟨k, hkn, by rw [EX.out]; exact EO.out⟩]
              | true =>
                go_upto_if 78 with fail
                obtain ⟨W7, e7⟩ : ∃ W7, w6.alloc (.cells #[.int .i64 E.off, .string E.rul, .int .i64 E.save, .string E.fmt, .int .i64 E.til] 35) = W7 := ⟨_, rfl⟩
                rw [e7]
                have g7 : W7.heap[w6.heap.size]? = some (.cells #[.int .i64 E.off, .string E.rul, .int .i64 E.save, .string E.fmt, .int .i64 E.til] 35 (0, 0)) := by rw [← e7]; exact heap_alloc_new w6 _
                have hb7 : Below w6.heap.size w6 W7 := by rw [← e7]; exact (Below.refl _ _).alloc (Nat.le_refl _) _
                have HM7 := Lib.hid (HM6.out.go hb7)
                have HB7 := Lib.hid hb7
                have G7 := Lib.hid g7
                have hz7 : w6.heap.size < W7.heap.size := (Array.getElem?_eq_some_iff.mp g7).1
                clear e7 g7 hb7 x0 x1 x2 xf0 xf1 xf2 hl6
                go_cut [12] (fun s12 wx => ∃ fk2 : Int, s12 = .int .i64 fk2 ∧ (k + 1 ≤ N.chs.length → fk2 = segK N (k + 1)) ∧ wx.heap[w6.heap.size]? = some (.cells #[.int .i64 E.off, .string E.rul, .int .i64 E.save, .string E.fmt, .int .i64 (segU N k)] 35 (0, 0)) ∧ Below w6.heap.size w6 wx)
                case first =>
                  by_cases hlt : k < N.chs.length
                  · have hne : N.chs ≠ [] := fun e => by rw [e] at hlt; exact absurd hlt (Nat.not_lt_zero _)
                    obtain ⟨cb, co, rfl, hcb, hat⟩ := HCC.out hne
                    have hb37 : Below W3.heap.size W3 W7 := HBR.out.trans ((HB6.out.trans (HB7.out.mono (Nat.le_of_lt hU6))).mono (by rw [← EU.out]; exact HBR.out.size))
                    have h1 := (hat k hlt).below hb37 hcb
                    obtain ⟨a0, a1⟩ := h1
                    have hcb7 : cb < W7.heap.size := Nat.lt_of_lt_of_le hcb hb37.size
                    have hcbne : cb ≠ w6.heap.size := by
                      have := HBR.out.size
                      have := EU.out
                      omega
                    obtain ⟨c, ec⟩ : ∃ c, N.chs[k] = c := ⟨_, rfl⟩
                    rw [ec] at a0 a1
                    have HU : Hid (segU N k = c.t) := by
                      show _ = _
                      unfold segU tAt
                      rw [if_pos hlt, List.getElem?_eq_getElem hlt, ec]
                      rfl
                    have HK2 : Hid (c.k = segK N (k + 1)) := by
                      show _ = _
                      unfold segK kAt
                      rw [if_neg (by omega), show k + 1 - 1 = k by omega, List.getElem?_eq_getElem hlt, ec]
                      rfl
                    obtain ⟨x0, x1, x2, xf0, xf1, xf2, hl7⟩ := HM7.out.cells
                    obtain ⟨y0, y1, y2, y3, y4, yf⟩ := cells5 G7.out
                    have yf4 := yf 4
                    clear hat hne hb37 ec yf
                    go_upto_region 25 with fail
                    go_region
                    all_goals go_wp2_with fail
                    all_goals go_meet
                    all_goals refine ⟨_, rfl, fun _ => HK2.out, ?_, ?_⟩
                    · rw [HU.out]
                      exact (heap_setCB G7.out _).trans rfl
                    · have hq := HB7.out
                      repeat (first | (with_reducible exact hq) | (with_reducible refine Below.drew ?_) | (with_reducible refine Below.setCell ?_ (by simp only [Nat.le_refl]) _))
                  · have HU : Hid (segU N k = 0) := by show _ = _; unfold segU; rw [if_neg hlt]
                    have hlt' : ¬ ((k : Int) < (N.chs.length : Int)) := by omega
                    go_wp2_with fail
                    go_meet
                    exact ⟨_, rfl, fun h => absurd h (by omega), by rw [HU.out, ← HE0.out]; exact G7.out, HB7.out⟩
                case rest =>
                  obtain ⟨fk2, rfl, hfk2, hgc, hbc⟩ := hcut
                  have HVC := Lib.hid (HV6.out.below hbc)
                  have HBC := Lib.hid (HB6.out.trans (hbc.mono (Nat.le_of_lt hU6)))
                  have HF := Lib.hid hfk2
                  obtain ⟨A, cS, rfl⟩ := own_sliceN HVC.out.row
                  have hLn := ersUp_length N k
                  obtain ⟨L, eL⟩ : ∃ L, ersUp N k = L := ⟨_, rfl⟩
                  rw [eL] at HVC hLn
                  have hUc := HVC.out.lt
                  have hgl : w6.heap.size < wc.heap.size := (Array.getElem?_eq_some_iff.mp hgc).1
                  obtain ⟨y0, y1, y2, y3, y4, yf⟩ := cells5 hgc
                  obtain ⟨s0, s1, sf⟩ := HVC.out.cells
                  have sf1 := sf 1
                  obtain ⟨u, eu⟩ : ∃ u, segU N k = u := ⟨_, rfl⟩
                  rw [eu] at y4
                  have HML : L.length + 1 ≤ maxLen := by simp only [maxLen]; omega
                  have HMB : (L.length + 1) * 56 ≤ 140737488355328 := by omega
                  have HROWH := Lib.hid (World.ownsRow.alloc HVC.out.row (.cells #[.int .i64 E.off, .string E.rul, .int .i64 E.save, .string E.fmt, .int .i64 u] 35))
                  have HNEWH := Lib.hid (World.news_of_block (cs := #[.int .i64 E.off, .string E.rul, .int .i64 E.save, .string E.fmt, .int .i64 u]) (t := 35) (fr := (0, 0)) (heap_alloc_new wc (.cells #[.int .i64 E.off, .string E.rul, .int .i64 E.save, .string E.fmt, .int .i64 u] 35)))
                  have HSZ : U ≤ (wc.alloc (.cells #[.int .i64 E.off, .string E.rul, .int .i64 E.save, .string E.fmt, .int .i64 u] 35)).heap.size := by simp; omega
                  have HEV2 : Hid (ersUp N (k + 1) = L ++ [⟨E.off, E.rul, E.save, E.fmt, u⟩]) := by
                    show _ = _
                    rw [ersUp_snoc, HEV.out, eL, eu]
                  have hbc1 : ∀ v ∈ [Value.int .i64 E.off, .string E.rul, .int .i64 E.save, .string E.fmt, .int .i64 u], v.oneCell' = true := by
                    intro v hv
                    simp at hv
                    rcases hv with rfl | rfl | rfl | rfl | rfl <;> rfl
                  have HONE := Lib.hid hbc1
                  clear hfk2 hgc hbc eL yf sf eu hbc1 hLn
                  go_wp2_with (at_builtin; refine wpList_append_own _ rfl _ _ 36 rfl U 35 i1 (.agg #[.int .i64 0, .string ⟨#[]⟩, .int .i64 0, .string ⟨#[]⟩, .int .i64 0]) 5 56 undErB hi1 hz10 hz11 hz12 rfl (by decide) _ _ _ rfl HROWH.out ⟨wc.heap.size, 0, none⟩ 1 1 [.int .i64 E.off, .string E.rul, .int .i64 E.save, .string E.fmt, .int .i64 u] rfl rfl HNEWH.out HONE.out HML HMB HSZ ?_; intro v' w10 hown10 hgrow10 _; obtain ⟨A', c', rfl⟩ := own_sliceN hown10; have y6 := vz_old HVC.out hgrow10; have t2 := (cell_of_row w10 _ 1 _ _ _ y6).trans (show _ = some (Value.slice A L.length cS) from rfl); have tz : w10.frozen? ⟨U, 1, none⟩ = false := (by simp [World.frozen?, y6]))
                  have HR := Lib.hid (vz_snoc (x := ⟨E.off, E.rul, E.save, E.fmt, u⟩) HVC.out hown10 hgrow10 y6)
                  go_roundw
                  case rel =>
                    refine ⟨k + 1, _, fk2, by omega, by go_num, rfl, HF.out, fun j hj => ?_, by rw [HEV2.out]; exact HR.out.1, HBC.out.trans HR.out.2⟩
                    rcases Nat.lt_or_ge j k with h3 | h3
                    · exact HAL.out j h3
                    · have : j = k := by omega
                      subst this
                      rw [EX.out]; exact EO.out
                  case measure => simp [intOf]; omega
            · obtain rfl : k = N.chs.length + 1 := by omega
              have HBE : Hid (¬ ∃ i, i ≤ N.chs.length ∧ erOk (segT N i) = false) := by
                show ¬ _
                rintro ⟨i, hi, h⟩
                rw [HAL.out i (by omega)] at h
                cases h
              have HZ0 : Hid (backC t nm = 0) := by
                show _ = _
                exact HP.out 0 (by rw [if_neg H7.out, if_neg HAA.out, if_neg HBE.out])
              obtain ⟨A, cS, rfl⟩ := own_sliceN HVR.out.row
              have hLn := ersUp_length N (N.chs.length + 1)
              have hLm : (ersUp N (N.chs.length + 1)).length ≤ maxLen := by simp only [maxLen]; omega
              have HLM := Lib.hid hLm
              obtain ⟨L, eL⟩ : ∃ L, ersUp N (N.chs.length + 1) = L := ⟨_, rfl⟩
              rw [eL] at HVR HLM
              have EL := Lib.hid eL
              obtain ⟨s0, s1, -⟩ := HVR.out.cells
              have hRU : w.heap.size + 1 < U := by have := HMR.out.lt; have := EU.out; omega
              clear hLn hLm eL hfk x0 x1 x2 xf0 xf1 xf2 hlk
              obtain ⟨z0, z1, z2, zf0, zf1, zf2⟩ := HMK.out.zero
              have hr8 := HMK.out.lt
              go_wp2
              obtain ⟨W8, e8, hb8, v0, v1, v2, ho8⟩ := HMK.out.out (.slice none 0 0) (.slice (some ⟨wr.heap.size, 0, none⟩) 1 1) (.slice none 0 0)
              have hs8 : W8.heap.size = wr.heap.size := by rw [← e8]; simp
              rw [e8]
              obtain ⟨W9, e9⟩ : ∃ W9, W8.alloc (.cells #[.string nm, .slice A L.length cS] 38) = W9 := ⟨_, rfl⟩
              rw [e9]
              have hk9 : ∀ b, b < W8.heap.size → W9.heap[b]? = W8.heap[b]? := fun b hb => by rw [← e9]; exact Below.heap_alloc _ _ _ hb
              have hR8 : w.heap.size + 1 < W8.heap.size := by rw [hs8]; exact hr8
              have hc9 : ∀ o, W9.cell? ⟨w.heap.size + 1, o, none⟩ = W8.cell? ⟨w.heap.size + 1, o, none⟩ := fun o => World.cell?_of_block (a := ⟨w.heap.size + 1, o, none⟩) (hk9 _ hR8)
              have u0 := (hc9 0).trans v0
              have u1 := (hc9 1).trans v1
              have u2 := (hc9 2).trans v2
              have g9 : W9.heap[wr.heap.size]? = some (.cells #[.string nm, .slice A L.length cS] 38 (0, 0)) := by rw [← e9, ← hs8]; exact heap_alloc_new W8 _
              have hb9 : Below w.heap.size w W9 := by rw [← e9]; exact hb8.alloc (by rw [hs8]; omega) _
              have hown : W9.ownsRow U 35 5 (.slice A L.length cS) L.length (erCells L) := own_keep HVR.out.row fun g e => by
                have hg := World.ownsRow.lt HVR.out.row g e
                exact (hk9 g (by rw [hs8]; exact hg.2)).trans (ho8 g (by omega))
              have hbk : BkAt W9 wr.heap.size 1 A cS nm L := ⟨g9, own_ers hown HLM.out, own_cap hown, Nat.le_refl _⟩
              refine bodyPost_ret (v := .tuple #[bkV wr.heap.size 1, .int .i64 0]) (by simp [results, Tryz.results27, go_sem, u0, u1, u2]) rfl ((HPO.out _ _).2 ⟨hb9, Or.inr ⟨HZ0.out, wr.heap.size, 1, A, cS, rfl, by show BkAt _ _ _ _ _ _ (ersUp N (N.chs.length + 1)); rw [EL.out]; exact hbk⟩⟩)
  · have hc' : (C == 0) = false := by simpa using hc
    have hc'' : (C != 0) = true := by simpa using hc
    have HN := Lib.hid hc
    clear hc
    go_wp2
    obtain ⟨W9, e9, hb9, v0, v1, v2, -⟩ := HM1.out.out (.slice none 0 0) (.slice none 0 0) (.slice none 0 0)
    rw [e9]
    refine bodyPost_ret (v := .tuple #[bkNone, .int .i64 C]) (by simp [results, Tryz.results27, go_sem, v0, v1, v2]) rfl (bk_no ?_ HN.out hb9)
    unfold backC
    rw [if_pos (by rw [EC.out]; exact HN.out), EC.out]
end Go.Proofs.YthggojpdcgcmaaaGreatDoor.BB
namespace Go.Proofs.YthggojpdcgcmaaaGreatDoor.BB
open Go.RowKit Go.Joins
open Classical
set_option linter.unusedVariables false
set_option linter.unusedSimpArgs false

theorem sam_norm : normT samT = samT := by
  have h1 : (⟨3600, false, ⟨#[66]⟩⟩ : Ty) ≠ ⟨0, false, ⟨#[65]⟩⟩ := by
    intro h
    injection h with h _ _
    exact absurd h (by decide)
  have h2 : (⟨0, false, ⟨#[65]⟩⟩ : Ty) ≠ ⟨3600, false, ⟨#[66]⟩⟩ := fun h => h1 h.symm
  unfold normT normR makeN
  have e1 : resH samT = ⟨0, false, ⟨#[65]⟩⟩ := rfl
  have e2 : resL samT = [(10000, ⟨3600, false, ⟨#[66]⟩⟩), (20000, ⟨0, false, ⟨#[65]⟩⟩)] := rfl
  rw [e1, e2]
  simp only [List.foldl_cons, List.foldl_nil]
  have s1 : stepN (begN ⟨0, false, ⟨#[65]⟩⟩) (10000, ⟨3600, false, ⟨#[66]⟩⟩) = ⟨[⟨0, false, ⟨#[65]⟩⟩, ⟨3600, false, ⟨#[66]⟩⟩], [⟨10000, 1⟩], ⟨3600, false, ⟨#[66]⟩⟩⟩ := by
    simp [stepN, begN, addTy, idxTy, h1, h2, List.findIdx_cons]
  rw [s1]
  have s2 : stepN ⟨[⟨0, false, ⟨#[65]⟩⟩, ⟨3600, false, ⟨#[66]⟩⟩], [⟨10000, 1⟩], ⟨3600, false, ⟨#[66]⟩⟩⟩ (20000, ⟨0, false, ⟨#[65]⟩⟩) = ⟨[⟨0, false, ⟨#[65]⟩⟩, ⟨3600, false, ⟨#[66]⟩⟩], [⟨10000, 1⟩, ⟨20000, 0⟩], ⟨0, false, ⟨#[65]⟩⟩⟩ := by
    simp [stepN, addTy, idxTy, h1, h2, List.findIdx_cons]
  rw [s2]
  rfl
theorem sam_back : backC samT ⟨#[65]⟩ = 0 := by
  have hn : nameB ⟨#[65]⟩ = true := by
    have h1 : allB ⟨#[65]⟩ 20 ⟨#[95, 47, 45]⟩ = true := by decide
    unfold nameB
    rw [h1, Bool.true_and]
    exact decide_eq_true ⟨65, rfl, by decide⟩
  unfold backC
  rw [if_neg (by rw [sam_chkZ]; simp), if_neg (by rw [hn]; simp), sam_norm, if_neg (by decide), if_neg, if_neg]
  · rintro ⟨i, hi, h⟩
    have : i = 0 ∨ i = 1 ∨ i = 2 := by have : i ≤ 2 := hi; omega
    rcases this with rfl | rfl | rfl <;> exact absurd h (by decide)
  · rintro ⟨c, hc, h⟩
    have : c = ⟨10000, 1⟩ ∨ c = ⟨20000, 0⟩ := by simpa [samT] using hc
    rcases this with rfl | rfl <;> exact absurd h (by decide)

set_option maxRecDepth 100000 in
set_option maxHeartbeats 4000000 in
theorem backed_any (w : World) (ht : Tab10 w) : Calls Tryz.prog 26 #[] w fun e w' => e = .returned (.bool true) ∧ Below w.heap.size w w' := by
  have HT := Lib.hid ht
  have HK := Lib.hid (fun W v (hb : TabAt W v samT) (h : Tab10 W) => Book_any samT v ⟨#[65]⟩ W hb (by decide) h)
  have hu : Hid (tAt samT.chs 0 = 10000) := by show _ = _; rfl
  clear ht
  go_enter Tryz.func26, Tryz.ntmps26
  go_wp2_with fail
  refine (sample_any _).mono ?_
  rintro e w1 ⟨v, rfl, hv, hb1⟩
  have HB1 := Lib.hid hb1
  have HV := Lib.hid hv
  clear hb1 hv
  go_wp2_with fail
  refine (HK.out _ _ HV.out (HT.out.below HB1.out)).mono ?_
  rintro e w2 ⟨hb2, ⟨h, -⟩ | ⟨-, Z, cz, p, ce, rfl, hbk⟩⟩
  · exact absurd sam_back h
  rw [sam_norm] at hbk
  have HB2 := Lib.hid (HB1.out.trans (hb2.mono HB1.out.size))
  obtain ⟨s0, s1, hZ⟩ := hbk.cells
  obtain ⟨p', cap', he, hc⟩ := hbk.ers.shape
  injection he with he1 _ he2
  subst he1 he2
  obtain ⟨b, o, rfl, hbl, hat⟩ := hc (by decide)
  have h0 := hat 0 (by decide)
  have hu0 : (ersOf samT)[0].til = 10000 := rfl
  obtain ⟨-, -, -, -, e4⟩ := h0
  rw [hu0, show o + 0 * 5 + 4 = o + 4 by omega] at e4
  have hl3 : (ersOf samT).length = 3 := rfl
  rw [hl3] at s1
  clear hb2 hbk hc hat hl3 hu0
  go_wp2
  go_ret
  exact ⟨rfl, HB2.out.alloc HB2.out.size _⟩

theorem backC_zero {t : Tab} {nm : ByteArray} (h : backC t nm = 0) : chk t = 0 := by
  unfold backC at h
  by_cases hc : chk t = 0
  · exact hc
  · rw [if_pos hc] at h
    exact absurd h hc
theorem Norm_exists (t : Tab) (v : Value) (w : World) (hv : TabAt w v t) :
    Calls Tryz.prog 22 #[v] w fun e w' => ∃ E q1 n1 d1 f q2 n2 d2, e = .returned (.tuple #[.agg #[.slice q1 n1 d1, .int .i64 f, .slice q2 n2 d2], .int .i64 E]) ∧ Below w.heap.size w w' := by
  by_cases h : chk t = 0
  · refine (Norm_ok t v w hv h).mono ?_
    rintro e w' ⟨v', rfl, h1, h2⟩
    obtain ⟨p1, c1, p2, c2, rfl⟩ := tabForms h1
    exact ⟨_, _, _, _, _, _, _, _, rfl, h2⟩
  · refine (Norm_no t v w hv h).mono ?_
    rintro e w' ⟨rfl, h2⟩
    exact ⟨_, _, _, _, _, _, _, _, rfl, h2⟩

/-- the law's walk, behind its book and its normal table -/
theorem er_same (x : Ty) : erOff x + erSave x = x.off := by
  unfold erOff erSave
  split <;> omega
theorem er_save (x : Ty) : decide (0 < erSave x) = x.save := by
  unfold erSave
  cases x.save <;> simp

end Go.Proofs.YthggojpdcgcmaaaGreatDoor.BB
namespace Go.Proofs.YthggojpdcgcmaaaGreatDoor.BB
open Go.RowKit Go.Joins
open Classical
set_option linter.unusedVariables false
set_option linter.unusedSimpArgs false

theorem EqRule_nil (w : World) : Calls Tryz.prog 55 #[.slice none 0 0, .slice none 0 0] w fun e w' => e = .returned (.bool true) ∧ w = w' := by
  go_enter Tryz.func55, Tryz.ntmps55
  go_wp2
  go_loop [14] (fun i => i = .int .i64 0) (fun _ => 0)
  case atStart => rfl
  case round =>
    subst hrel
    go_wp2
    go_ret
    exact ⟨rfl, rfl⟩
theorem EqLink_nil (w : World) : Calls Tryz.prog 56 #[.slice none 0 0, .slice none 0 0] w fun e w' => e = .returned (.bool true) ∧ w = w' := by
  go_enter Tryz.func56, Tryz.ntmps56
  go_wp2
  go_loop [14] (fun i => i = .int .i64 0) (fun _ => 0)
  case atStart => rfl
  case round =>
    subst hrel
    go_wp2
    go_ret
    exact ⟨rfl, rfl⟩

set_option maxHeartbeats 1000000 in
theorem EqEr_same (l : List Er) (v v2 : Value) (w : World) (h1 : SlEr w v l) (h2 : SlEr w v2 l) :
    Calls Tryz.prog 88 #[v, v2] w fun e w' => e = .returned (.bool true) ∧ Below w.heap.size w w' := by
  obtain ⟨p, cap, rfl, g1⟩ := h1.shape
  obtain ⟨q, cap2, rfl, g2⟩ := h2.shape
  have hl := h1.size
  unfold maxLen at hl
  have HG1 := Lib.hid g1
  have HG2 := Lib.hid g2
  clear h1 h2 g1 g2
  go_enter Tryz.func88, Tryz.ntmps88
  go_wp2
  go_loopw [14] (fun i wr => ∃ k : Nat, k ≤ l.length ∧ i = .int .i64 k ∧ Below w.heap.size w wr) (fun i _ => l.length - (intOf i).toNat)
  case atStart => exact ⟨0, Nat.zero_le _, rfl, Below.refl _ _⟩
  case round =>
    obtain ⟨k, hk, rfl, hbr⟩ := hrel
    have HBR := Lib.hid hbr
    have hzr := hbr.size
    clear hbr
    by_cases hlt : k < l.length
    · have hne : l ≠ [] := fun e => by rw [e] at hlt; exact absurd hlt (Nat.not_lt_zero _)
      obtain ⟨b, o, rfl, hb, hat⟩ := HG1.out hne
      obtain ⟨b2, o2, rfl, hb2, hat2⟩ := HG2.out hne
      have e1 := (hat k hlt).below HBR.out hb
      have e2 := (hat2 k hlt).below HBR.out hb2
      obtain ⟨x, ex⟩ : ∃ x, l[k] = x := ⟨_, rfl⟩
      rw [ex] at e1 e2
      obtain ⟨xo, xr, xs, xf, xt⟩ := x
      obtain ⟨a0, a1, a2, a3, a4⟩ := e1
      obtain ⟨c0, c1, c2, c3, c4⟩ := e2
      simp only at a0 a1 a2 a3 a4 c0 c1 c2 c3 c4
      have hb' : b < wr.heap.size := Nat.lt_of_lt_of_le hb hzr
      have hb2' : b2 < wr.heap.size := Nat.lt_of_lt_of_le hb2 hzr
      clear hat hat2 ex hne
      go_upto_region 6 with fail
      obtain ⟨W5, e5⟩ : ∃ W5, wr.alloc (.cells #[.int .i64 xo, .string xr, .int .i64 xs, .string xf, .int .i64 xt] 35) = W5 := ⟨_, rfl⟩
      rw [e5]
      have g5 : W5.heap[wr.heap.size]? = some (.cells #[.int .i64 xo, .string xr, .int .i64 xs, .string xf, .int .i64 xt] 35 (0, 0)) := by rw [← e5]; exact heap_alloc_new wr _
      have hb5 : Below wr.heap.size wr W5 := by rw [← e5]; exact (Below.refl _ _).alloc (Nat.le_refl _) _
      obtain ⟨z0, z1, z2, z3, z4, -⟩ := cells5 g5
      have d0 := (hb5.cell (p := ⟨b2, o2 + k * 5, none⟩) hb2').trans c0
      have d1 := (hb5.cell (p := ⟨b2, o2 + k * 5 + 1, none⟩) hb2').trans c1
      have d2 := (hb5.cell (p := ⟨b2, o2 + k * 5 + 2, none⟩) hb2').trans c2
      have d3 := (hb5.cell (p := ⟨b2, o2 + k * 5 + 3, none⟩) hb2').trans c3
      have d4 := (hb5.cell (p := ⟨b2, o2 + k * 5 + 4, none⟩) hb2').trans c4
      have HZ := Lib.hid (HBR.out.trans (hb5.mono hzr))
      clear e5 g5 hb5 a0 a1 a2 a3 a4 c0 c1 c2 c3 c4
      go_quiet (fail)
      go_wp2
      go_roundw
      case rel => exact ⟨k + 1, hlt, by go_num, below_drewN' HZ.out _⟩
      case measure => simp [intOf]; omega
    · obtain rfl : k = l.length := by omega
      go_wp2
      go_ret
      exact ⟨rfl, HBR.out⟩
end Go.Proofs.YthggojpdcgcmaaaGreatDoor.BB
namespace Go.Proofs.YthggojpdcgcmaaaGreatDoor.BB
open Go.RowKit Go.Joins
open Classical
set_option linter.unusedVariables false
set_option linter.unusedSimpArgs false

theorem ZoneEq_same (nm : ByteArray) (L : List Er) (p1 : Option Addr) (c1 : Nat) (p2 : Option Addr) (c2 : Nat) (w : World) (h1 : SlEr w (.slice p1 L.length c1) L) (h2 : SlEr w (.slice p2 L.length c2) L) :
    Calls Tryz.prog 57 #[.agg #[.string nm, .slice p1 L.length c1], .agg #[.string nm, .slice p2 L.length c2]] w fun e w' => e = .returned (.bool true) ∧ Below w.heap.size w w' := by
  obtain ⟨W0, eW⟩ : ∃ W0, (w.alloc (.cells #[.string nm, .slice p1 L.length c1] 38)).alloc (.cells #[.string nm, .slice p2 L.length c2] 38) = W0 := ⟨_, rfl⟩
  obtain ⟨hz, g0, g1, hb0⟩ := two_alB eW
  have HEW := Lib.hid eW
  have HB := Lib.hid hb0
  have HQ := Lib.hid (EqEr_same L _ _ W0 (h1.below hb0) (h2.below hb0))
  have x0 : W0.cell? ⟨w.heap.size, 0, none⟩ = some (.string nm) := (cell_of_row W0 _ 0 _ _ _ g0).trans rfl
  have x1 : W0.cell? ⟨w.heap.size, 1, none⟩ = some (.slice p1 L.length c1) := (cell_of_row W0 _ 1 _ _ _ g0).trans rfl
  have y0 : W0.cell? ⟨w.heap.size + 1, 0, none⟩ = some (.string nm) := (cell_of_row W0 _ 0 _ _ _ g1).trans rfl
  have y1 : W0.cell? ⟨w.heap.size + 1, 1, none⟩ = some (.slice p2 L.length c2) := (cell_of_row W0 _ 1 _ _ _ g1).trans rfl
  clear eW hb0 h1 h2 g0 g1 hz
  go_enter Tryz.func57, Tryz.ntmps57
  go_wp2_with fail
  rw [HEW.out]
  refine HQ.out.mono ?_
  rintro e w1 ⟨rfl, hb1⟩
  have HB1 := Lib.hid (HB.out.trans (hb1.mono HB.out.size))
  clear hb1
  go_wp2
  go_ret
  exact ⟨rfl, HB1.out⟩

set_option maxRecDepth 100000 in
theorem BookEq_none (w : World) : Calls Tryz.prog 28 #[bkNone, bkNone] w fun e w' => e = .returned (.bool true) ∧ Below w.heap.size w w' := by
  go_enter Tryz.func28, Tryz.ntmps28
  go_wp2_with fail
  refine (EqRule_nil _).mono ?_
  rintro e w' ⟨rfl, rfl⟩
  go_wp2_with fail
  refine (EqLink_nil _).mono ?_
  rintro e w' ⟨rfl, rfl⟩
  go_wp2
  go_loop [32] (fun i => i = .int .i64 0) (fun _ => 0)
  case atStart => rfl
  case round =>
    subst hrel
    go_wp2
    go_ret
    exact ⟨rfl, ((Below.refl _ _).alloc (Nat.le_refl _) _).alloc (by simp) _⟩

set_option maxRecDepth 100000 in
set_option maxHeartbeats 4000000 in
theorem BookEq_same (nm : ByteArray) (L : List Er) (Z1 z1 : Nat) (p1 : Option Addr) (c1 : Nat) (Z2 z2 : Nat) (p2 : Option Addr) (c2 : Nat) (w : World) (h1 : BkAt w Z1 z1 p1 c1 nm L) (h2 : BkAt w Z2 z2 p2 c2 nm L) :
    Calls Tryz.prog 28 #[bkV Z1 z1, bkV Z2 z2] w fun e w' => e = .returned (.bool true) ∧ Below w.heap.size w w' := by
  obtain ⟨W0, eW⟩ : ∃ W0, (w.alloc (.cells #[.slice none 0 0, .slice (some ⟨Z1, 0, none⟩) 1 z1, .slice none 0 0] 26)).alloc (.cells #[.slice none 0 0, .slice (some ⟨Z2, 0, none⟩) 1 z2, .slice none 0 0] 26) = W0 := ⟨_, rfl⟩
  obtain ⟨hz, g0, g1, hb0⟩ := two_alB eW
  have HEW := Lib.hid eW
  have HB := Lib.hid hb0
  have k1 := h1.below hb0
  have k2 := h2.below hb0
  have H1 := Lib.hid k1
  have H2 := Lib.hid k2
  have G0 := Lib.hid g0
  have G1 := Lib.hid g1
  have x0 : W0.cell? ⟨w.heap.size, 0, none⟩ = some (.slice none 0 0) := (cell_of_row W0 _ 0 _ _ _ g0).trans rfl
  have x1 : W0.cell? ⟨w.heap.size, 1, none⟩ = some (.slice (some ⟨Z1, 0, none⟩) 1 z1) := (cell_of_row W0 _ 1 _ _ _ g0).trans rfl
  have x2 : W0.cell? ⟨w.heap.size, 2, none⟩ = some (.slice none 0 0) := (cell_of_row W0 _ 2 _ _ _ g0).trans rfl
  have y0 : W0.cell? ⟨w.heap.size + 1, 0, none⟩ = some (.slice none 0 0) := (cell_of_row W0 _ 0 _ _ _ g1).trans rfl
  have y1 : W0.cell? ⟨w.heap.size + 1, 1, none⟩ = some (.slice (some ⟨Z2, 0, none⟩) 1 z2) := (cell_of_row W0 _ 1 _ _ _ g1).trans rfl
  have y2 : W0.cell? ⟨w.heap.size + 1, 2, none⟩ = some (.slice none 0 0) := (cell_of_row W0 _ 2 _ _ _ g1).trans rfl
  have hl0 := (Array.getElem?_eq_some_iff.mp g0).1
  have hl1 := (Array.getElem?_eq_some_iff.mp g1).1
  have HZQ := Lib.hid (fun W (hb : Below W0.heap.size W0 W) => ZoneEq_same nm L p1 c1 p2 c2 W (k1.ers.below hb) (k2.ers.below hb))
  obtain ⟨s0, s1, hZ1⟩ := k1.cells
  obtain ⟨r0, r1, hZ2⟩ := k2.cells
  have KB : Hid (∀ wx, Below W0.heap.size W0 wx → (Below W0.heap.size W0 wx ∧ wx.cell? ⟨w.heap.size, 1, none⟩ = some (.slice (some ⟨Z1, 0, none⟩) 1 z1) ∧ wx.cell? ⟨w.heap.size + 1, 1, none⟩ = some (.slice (some ⟨Z2, 0, none⟩) 1 z2) ∧ wx.cell? ⟨Z1, 0, none⟩ = some (.string nm) ∧ wx.cell? ⟨Z1, 1, none⟩ = some (.slice p1 L.length c1) ∧ wx.cell? ⟨Z2, 0, none⟩ = some (.string nm) ∧ wx.cell? ⟨Z2, 1, none⟩ = some (.slice p2 L.length c2))) := by
    show ∀ wx, Below W0.heap.size W0 wx → _
    intro wx hb
    exact ⟨hb, (hb.cell (p := ⟨w.heap.size, 1, none⟩) hl0).trans x1, (hb.cell (p := ⟨w.heap.size + 1, 1, none⟩) hl1).trans y1, (hb.cell (p := ⟨Z1, 0, none⟩) hZ1).trans s0, (hb.cell (p := ⟨Z1, 1, none⟩) hZ1).trans s1, (hb.cell (p := ⟨Z2, 0, none⟩) hZ2).trans r0, (hb.cell (p := ⟨Z2, 1, none⟩) hZ2).trans r1⟩
  have KR : Hid (∀ wx, (Below W0.heap.size W0 wx ∧ wx.cell? ⟨w.heap.size, 1, none⟩ = some (.slice (some ⟨Z1, 0, none⟩) 1 z1) ∧ wx.cell? ⟨w.heap.size + 1, 1, none⟩ = some (.slice (some ⟨Z2, 0, none⟩) 1 z2) ∧ wx.cell? ⟨Z1, 0, none⟩ = some (.string nm) ∧ wx.cell? ⟨Z1, 1, none⟩ = some (.slice p1 L.length c1) ∧ wx.cell? ⟨Z2, 0, none⟩ = some (.string nm) ∧ wx.cell? ⟨Z2, 1, none⟩ = some (.slice p2 L.length c2)) → Below W0.heap.size W0 wx) := by
    show ∀ wx, _ → Below W0.heap.size W0 wx
    exact fun wx h => h.1
  clear eW hb0 h1 h2 g0 g1 hz k1 k2 s0 s1 r0 r1
  go_enter Tryz.func28, Tryz.ntmps28
  go_wp2_with fail
  rw [HEW.out]
  refine (EqRule_nil _).mono ?_
  rintro e w' ⟨rfl, rfl⟩
  go_wp2_with fail
  refine (EqLink_nil _).mono ?_
  rintro e w' ⟨rfl, rfl⟩
  go_wp2_with fail
  go_loopw [32] (fun i wr => ∃ k : Nat, k ≤ 1 ∧ i = .int .i64 k ∧ Below W0.heap.size W0 wr) (fun i _ => 1 - (intOf i).toNat)
  case atStart => exact ⟨0, Nat.zero_le _, rfl, Below.refl _ _⟩
  case round =>
    obtain ⟨k, hk, rfl, hbr⟩ := hrel
    have HBR := Lib.hid hbr
    have hzr := hbr.size
    clear hbr x0 x2 y0 y2 x1 y1
    have hk2 : k = 0 ∨ k = 1 := by omega
    clear hk
    rcases hk2 with rfl | rfl
    · go_upto_region 6 with fail
      go_cut [46] (fun s46 wx => s46 = .bool false ∧ Below W0.heap.size W0 wx)
      case first =>
        go_region_held3 (fun wx => Below W0.heap.size W0 wx ∧ wx.cell? ⟨w.heap.size, 1, none⟩ = some (.slice (some ⟨Z1, 0, none⟩) 1 z1) ∧ wx.cell? ⟨w.heap.size + 1, 1, none⟩ = some (.slice (some ⟨Z2, 0, none⟩) 1 z2) ∧ wx.cell? ⟨Z1, 0, none⟩ = some (.string nm) ∧ wx.cell? ⟨Z1, 1, none⟩ = some (.slice p1 L.length c1) ∧ wx.cell? ⟨Z2, 0, none⟩ = some (.string nm) ∧ wx.cell? ⟨Z2, 1, none⟩ = some (.slice p2 L.length c2)) ((refine KB.out _ ?_; repeat (first | (with_reducible assumption) | (with_reducible exact HBR.out) | (with_reducible exact Below.refl _ _) | (with_reducible refine Below.drew ?_))))
          (first
            | (go_at_call 57; refine (HZQ.out _ (KR.out _ (by assumption))).mono ?_; rintro e w2 ⟨rfl, hb2⟩; have hB2 := ((KR.out _ (by assumption)).trans (hb2.mono (KR.out _ (by assumption)).size)); clear hb2))
        all_goals go_wp2_with fail
        all_goals go_meet
        all_goals exact ⟨rfl, KR.out _ (by assumption)⟩
      case rest =>
        obtain ⟨rfl, hbc⟩ := hcut
        have HBC := Lib.hid hbc
        clear hbc
        go_wp2
        go_roundw
        case rel => exact ⟨1, by omega, rfl, HBC.out⟩
        case measure => simp [intOf]
    · go_wp2
      go_ret
      exact ⟨rfl, HB.out.trans (HBR.out.mono HB.out.size)⟩
end Go.Proofs.YthggojpdcgcmaaaGreatDoor.BB
namespace Go.Proofs.YthggojpdcgcmaaaGreatDoor
open Go.RowKit Go.Joins
open Classical
set_option linter.unusedVariables false
set_option linter.unusedSimpArgs false

theorem drew_at (w : World) (k : Nat) : (w.drew).heap[k]? = w.heap[k]? := rfl
theorem set3_at {W : World} {g : Nat} {a b c : Value} {T : TypeId} (h : W.heap[g]? = some (.cells #[a, b, c] T (0, 0))) (x y z : Value) :
    (((W.setCell ⟨g, 0, none⟩ x).setCell ⟨g, 1, none⟩ y).setCell ⟨g, 2, none⟩ z).heap[g]? = some (.cells #[x, y, z] T (0, 0)) := by
  obtain ⟨W', e, -, h2, -⟩ := end_cellsM h x y z
  rw [e]; exact h2
theorem set3_ne {W : World} {g : Nat} (x y z : Value) (k : Nat) (h : k ≠ g) :
    (((W.setCell ⟨g, 0, none⟩ x).setCell ⟨g, 1, none⟩ y).setCell ⟨g, 2, none⟩ z).heap[k]? = W.heap[k]? :=
  (Below.heap_setCell _ _ _ _ h).trans ((Below.heap_setCell _ _ _ _ h).trans (Below.heap_setCell _ _ _ _ h))
theorem tab_al {W : World} {v : Value} {t : Tab} {o : Obj} (h : TabAt W v t) : TabAt (W.alloc o) v t := h.below ((Below.refl _ _).alloc (Nat.le_refl _) _)
theorem tab_s3 {W : World} {g : Nat} {p q : Option Addr} {n1 n2 k1 k2 : Nat} {f : Int} {T : TypeId} {v : Value} {t : Tab} {x y z : Value} (h : W.heap[g]? = some (.cells #[.slice p n1 k1, .int .i64 f, .slice q n2 k2] T (0, 0))) (ht : TabAt W v t) :
    TabAt (((W.setCell ⟨g, 0, none⟩ x).setCell ⟨g, 1, none⟩ y).setCell ⟨g, 2, none⟩ z) v t :=
  tab_far ht h (fun b hb => set3_ne x y z b hb) (by simp)
theorem zfacts {W : World} {g : Nat} (h : W.heap[g]? = some (.cells #[.slice none 0 0, .int .i64 0, .slice none 0 0] 52 (0, 0))) :
    W.cell? ⟨g, 0, none⟩ = some (.slice none 0 0) ∧ W.cell? ⟨g, 1, none⟩ = some (.int .i64 0) ∧ W.cell? ⟨g, 2, none⟩ = some (.slice none 0 0) ∧ W.frozen? ⟨g, 0, none⟩ = false ∧ W.frozen? ⟨g, 1, none⟩ = false ∧ W.frozen? ⟨g, 2, none⟩ = false :=
  ⟨(cell_of_row W _ 0 _ _ _ h).trans rfl, (cell_of_row W _ 1 _ _ _ h).trans rfl, (cell_of_row W _ 2 _ _ _ h).trans rfl, by simp [World.frozen?, h], by simp [World.frozen?, h], by simp [World.frozen?, h]⟩

end Go.Proofs.YthggojpdcgcmaaaGreatDoor
namespace Go.Proofs.YthggojpdcgcmaaaGreatDoor
open Go.RowKit Go.Joins
open Classical
set_option linter.unusedVariables false
set_option linter.unusedSimpArgs false

/-- the first fault of two tables -/
def chk2 (a b : Tab) : Int := if chk a = 0 then chk b else chk a
set_option maxHeartbeats 1000000 in
theorem ncheck_any (a b : Tab) (v u : Value) (w : World) (hv : TabAt w v a) (hu : TabAt w u b) :
    Calls Tryz.prog 49 #[v, u] w fun e w' => e = .returned (.int .i64 (chk2 a b)) ∧ Below w.heap.size w w' := by
  have HV := Lib.hid hv
  have HU := Lib.hid hu
  obtain ⟨p1, c1, p2, c2, rfl⟩ := tabForms hv
  obtain ⟨p3, c3, p4, c4, rfl⟩ := tabForms hu
  have HK := Lib.hid (fun W h => Check_any a (.agg #[.slice p1 a.types.length c1, .int .i64 a.first, .slice p2 a.chs.length c2]) W h)
  have HL := Lib.hid (fun W h => Check_any b (.agg #[.slice p3 b.types.length c3, .int .i64 b.first, .slice p4 b.chs.length c4]) W h)
  have hC : Hid (chk2 a b = if chk a = 0 then chk b else chk a) := rfl
  obtain ⟨K, eK⟩ : ∃ K, chk a = K := ⟨_, rfl⟩
  rw [eK] at HK hC
  clear hv hu eK
  go_enter Tryz.func49, Tryz.ntmps49
  go_wp2_with fail
  obtain ⟨W0, eW⟩ : ∃ W0, (w.alloc (.cells #[.slice p1 a.types.length c1, .int .i64 a.first, .slice p2 a.chs.length c2] 52)).alloc (.cells #[.slice p3 b.types.length c3, .int .i64 b.first, .slice p4 b.chs.length c4] 52) = W0 := ⟨_, rfl⟩
  rw [eW]
  have hW0 : W0.heap.size = w.heap.size + 2 := by rw [← eW]; simp
  have hbW : Below w.heap.size w W0 := by rw [← eW]; exact ((Below.refl _ _).alloc (Nat.le_refl _) _).alloc (by simp) _
  have hR : W0.heap[w.heap.size + 1]? = some (.cells #[.slice p3 b.types.length c3, .int .i64 b.first, .slice p4 b.chs.length c4] 52 (0, 0)) := by
    rw [← eW]
    have := heap_alloc_new (w.alloc (.cells #[.slice p1 a.types.length c1, .int .i64 a.first, .slice p2 a.chs.length c2] 52)) (.cells #[.slice p3 b.types.length c3, .int .i64 b.first, .slice p4 b.chs.length c4] 52)
    simpa using this
  clear eW
  refine (HK.out _ (HV.out.below hbW)).mono ?_
  rintro e w2 ⟨rfl, hb1⟩
  have hR2 := (hb1.block (w.heap.size + 1) (by omega)).trans hR
  have b2 := hbW.trans (hb1.mono (by omega))
  have x0 : w2.cell? ⟨w.heap.size + 1, 0, none⟩ = some (.slice p3 b.types.length c3) := (cell_of_row w2 _ 0 _ _ _ hR2).trans rfl
  have x1 : w2.cell? ⟨w.heap.size + 1, 1, none⟩ = some (.int .i64 b.first) := (cell_of_row w2 _ 1 _ _ _ hR2).trans rfl
  have x2 : w2.cell? ⟨w.heap.size + 1, 2, none⟩ = some (.slice p4 b.chs.length c4) := (cell_of_row w2 _ 2 _ _ _ hR2).trans rfl
  clear hb1 hR hbW
  by_cases hK : K = 0
  · subst hK
    go_wp2_with fail
    refine (HL.out _ (HU.out.below b2)).mono ?_
    rintro e w3 ⟨rfl, hb3⟩
    go_wp2
    go_ret
    exact ⟨ret_int' (by rw [hC.out]; simp), b2.trans (hb3.mono b2.size)⟩
  · have hne : (K == 0) = false := by simpa using hK
    have hC2 : Hid (chk2 a b = K) := by show _ = _; rw [hC.out, if_neg hK]
    clear hK
    go_wp2
    go_ret
    exact ⟨ret_int' hC2.out.symm, b2⟩
end Go.Proofs.YthggojpdcgcmaaaGreatDoor
namespace Go.Proofs.YthggojpdcgcmaaaGreatDoor
open Go.RowKit Go.Joins
open Classical
set_option linter.unusedVariables false
set_option linter.unusedSimpArgs false

theorem isTime_any (x : Int) (w : World) : Calls Tryz.prog 50 #[.int .i64 x] w fun e w' => e = .returned (.bool (okTime x)) ∧ w = w' := by
  go_enter Tryz.func50, Tryz.ntmps50
  go_wp2
  all_goals (go_ret; refine ⟨ret_bool' ?_, rfl⟩; simp only [okTime]; simp; try omega)

theorem undChsB : Tryz.prog.underlying 50 = some (.slice 56) := by kernel_rfl
theorem undIntB : Tryz.prog.underlying 3 = some (.int .i64) := by kernel_rfl
theorem infoChB : (Tryz.prog.info? 56).map (fun i => (i.zero, i.size, i.bytes)) = some (some (.agg #[.int .i64 0, .int .i64 0]), 2, 16) := by kernel_rfl

set_option maxHeartbeats 4000000 in
set_option maxRecDepth 100000 in
theorem Grow_nil (n : Nat) (w : World) (hn : n ≤ 2000) :
    Calls Tryz.prog 84 #[.slice none 0 0, .int .i64 n] w fun e w' => ∃ v, e = .returned v ∧ w'.ownsRow w.heap.size 56 2 v 0 [] ∧ Below w.heap.size w w' := by
  obtain ⟨i0, hi0, hz0, hz1, hz2⟩ := info_parts infoChB
  by_cases h0 : n = 0
  · subst h0
    go_enter Tryz.func84, Tryz.ntmps84
    go_wp2
    go_ret
    exact ⟨_, rfl, World.ownsRow_nil _ _ _ _, Below.refl _ _⟩
  · have h1 : ¬ ((n : Int) < 0) := by omega
    have h3 : wrap64 (n : Int) = (n : Int) := by unfold wrap64; omega
    have h4 : (0 : Int) < (n : Int) := by omega
    have hold : (Builtin.firstCells i0.size 0 (.slice none 0 0)).run Tryz.prog w.drew = .ok ([] : List Value).toArray w.drew := run_firstCells_none w.drew i0.size 0 0 0
    have hrz : ∀ ty, (Builtin.append_ #[50, 3] ty #[.slice none 0 0, .int .i64 (n : Int)]).run Tryz.prog w = _ := fun ty =>
      Lib.run_append_grow_zeros w 50 3 ty 56 i0 (.agg #[.int .i64 0, .int .i64 0]) .i64 .i64 undChsB undIntB hi0 hz0 none 0 0 [] hold n (by omega) (by omega) (by omega) (by omega) (by rw [hz2]; omega)
        (by rw [Nat.zero_add]; exact growslice_fits (by omega) (by rw [hz2]; omega))
    rw [Nat.zero_add] at hrz
    obtain ⟨G, hG⟩ : ∃ G, G = grownCap w n 0 56 := ⟨_, rfl⟩
    have hGn : n ≤ G := by rw [hG]; exact grownCap_ge w _ _ _
    have hGm : G ≤ maxLen := by rw [hG]; exact grownCap_le_maxLen w _ _ _ (by unfold maxLen; omega)
    rw [← hG] at hrz
    have hG63 : G ≤ 9223372036854775807 := by unfold maxLen at hGm; omega
    clear hold hG
    go_enter Tryz.func84, Tryz.ntmps84
    go_wp2_with (at_builtin; refine Lib.wpList_append_run _ rfl _ _ _ _ rfl _ _ rfl rfl _ _ (hrz _) ?_)
    go_ret
    refine ⟨_, rfl, ⟨rfl, .inr ⟨w.heap.size, G, _, rfl, Nat.le_refl _, heap_alloc_new w.drew _, Nat.zero_le _, hGm, ?_, rfl⟩⟩, (Below.refl _ w).drew.alloc (Nat.le_refl _) _⟩
    simp [size_zeroCells, Value.cells]
    omega

theorem chCells_len (l : List Ch) : (chCells l).length = l.length * 2 := by
  induction l with
  | nil => rfl
  | cons x r ih =>
    have e : chCells (x :: r) = chC x ++ chCells r := by simp [chCells]
    rw [e, List.length_append, ih]
    simp [chC]
    omega
theorem addr_add (b o j : Nat) : (⟨b, o, none⟩ : Addr).add j = ⟨b, o + j, none⟩ := by unfold Addr.add; split <;> simp_all
theorem chs_news {w : World} {b o : Nat} {l : List Ch} (hat : ∀ i (h : i < l.length), chAt w b (o + i * 2) l[i]) : ∀ j u, (chCells l)[j]? = some u → w.cell? ((⟨b, o, none⟩ : Addr).add j) = some u := by
  intro j u hu
  have hj : j < l.length * 2 := by
    rcases Nat.lt_or_ge j (l.length * 2) with h | h
    · exact h
    · rw [List.getElem?_eq_none (by rw [chCells_len]; exact h)] at hu; cases hu
  have hi : j / 2 < l.length := by omega
  obtain ⟨g0, g1⟩ := chCells_get l (j / 2) hi
  obtain ⟨a0, a1⟩ := hat (j / 2) hi
  rw [addr_add]
  rcases (show j = j / 2 * 2 ∨ j = j / 2 * 2 + 1 by omega) with e | e
  · rw [← e] at g0 a0
    rw [g0] at hu
    injection hu with hu
    rw [a0, hu]
  · rw [← e] at g1
    rw [show o + j / 2 * 2 + 1 = o + j by omega] at a1
    rw [g1] at hu
    injection hu with hu
    rw [a1, hu]
theorem chs_one (l : List Ch) : ∀ u ∈ chCells l, u.oneCell' = true := by
  intro u hu
  simp only [chCells, List.mem_flatMap, chC, List.mem_cons, List.not_mem_nil, or_false] at hu
  obtain ⟨x, -, rfl | rfl⟩ := hu <;> rfl

set_option maxRecDepth 100000 in
/-- append of a slice of changes onto a row of the call's own -/
theorem wpList_append_chs (w : World) {ops : Array Oper} {rest : List Oper} {o : Oper} {a : Act} {Q : Exit → Act → World → Prop} (hgd : o.guard = none) (s x : Operand)
    (ho : o.op = .call { callee := .builtin .append, args := #[s, x], argTypes := #[50, 50] })
    (B : Nat) (v : Value) (l : List Ch) (hs : a.eval s = v) (hown : w.ownsRow B 56 2 v l.length (chCells l)) (vx : Value) (news : List Ch) (hx : a.eval x = vx) (hnews : SlCh w vx news)
    (h1 : l.length ≤ 2000) (h2 : news.length ≤ 2000) (hB : B ≤ w.heap.size)
    (h : ∀ v' w', w'.ownsRow B 56 2 v' (l ++ news).length (chCells (l ++ news)) → w.grownBy w' v.ownBlock → wpList Tryz.prog ops Q rest (a.put o.dst v') w') : wpList Tryz.prog ops Q (o :: rest) a w := by
  obtain ⟨i0, hi, hz0, hz1, hz2⟩ := info_parts infoChB
  obtain ⟨A, c, rfl, hat⟩ := hnews.shape
  have e : (l ++ news).length = l.length + news.length := List.length_append
  have ec : chCells (l ++ news) = chCells l ++ chCells news := by simp [chCells]
  have key : ∃ v' w', (Builtin.append_ #[50, 50] o.type #[v, .slice A news.length c]).run Tryz.prog w = .ok v' w' ∧ w'.ownsRow B 56 2 v' (l ++ news).length (chCells (l ++ news)) ∧ w.grownBy w' v.ownBlock := by
    cases A with
    | some ad =>
      have hn : ∀ j u, (chCells news)[j]? = some u → w.cell? (ad.add j) = some u := by
        intro j u hu
        by_cases hne : news = []
        · subst hne; simp [chCells] at hu
        · obtain ⟨b, off, e, hb, hc⟩ := hat hne
          injection e with e
          subst e
          exact chs_news hc j u hu
      obtain ⟨v', w', hr, k1, k2, _⟩ := run_append_own (P := Tryz.prog) w B 50 o.type 56 i0 (.agg #[.int .i64 0, .int .i64 0]) 2 16 undChsB hi hz0 hz1 hz2 rfl (by decide) v l.length (chCells l) hown ad news.length c (chCells news) (chCells_len _) hn (chs_one _) (by simp only [maxLen]; omega) (by omega) hB
      exact ⟨v', w', hr, by rw [e, ec]; exact k1, k2⟩
    | none =>
      have hn : news = [] := by
        cases news with
        | nil => rfl
        | cons y r =>
          obtain ⟨b, off, e, _⟩ := hat (by simp)
          cases e
      subst hn
      refine ⟨v, w, ?_, by rw [List.append_nil]; exact hown, ⟨rfl, rfl, rfl, Nat.le_refl _, fun _ _ _ => rfl⟩⟩
      rcases hown.2 with ⟨rfl, h0⟩ | ⟨g, cap, cur, rfl, _, _, hnc, _⟩
      · simp [Builtin.append_, run_underlying undChsB, sizeOf, typeInfo, hi, Builtin.lenOf, Builtin.firstCells]
      · simp [Builtin.append_, run_underlying undChsB, sizeOf, typeInfo, hi, Builtin.lenOf, Builtin.firstCells, hnc, storeCells]
  obtain ⟨v', w', hr, k1, k2⟩ := key
  refine wpList_plain hgd fun K hK => ?_
  unfold Oper.wp execOp
  simp only [ho, resolve, invoke, builtin, Sem.run_bind, Sem.run_pure, Result.andThen_ok, List.map_toArray, List.map_cons, List.map_nil, hs, hx, hr]
  exact hK _ _ (h v' w' k1 k2)

def two (A B : List Ch) : Nat → List Ch
  | 0 => []
  | 1 => A
  | _ => A ++ B

set_option maxHeartbeats 4000000 in
set_option maxRecDepth 100000 in
theorem Concat_any (A B : List Ch) (va vb : Value) (g c : Nat) (w : World) (ha : SlCh w va A) (hb : SlCh w vb B) (hA : A.length ≤ 1000) (hB : B.length ≤ 1000)
    (hc0 : w.cell? ⟨g, 0, none⟩ = some va) (hc1 : w.cell? ⟨g, 1, none⟩ = some vb) :
    Calls Tryz.prog 51 #[.slice (some ⟨g, 0, none⟩) 2 c] w fun e w' => ∃ v, e = .returned v ∧ w'.ownsRow w.heap.size 56 2 v (A ++ B).length (chCells (A ++ B)) ∧ Below w.heap.size w w' := by
  obtain ⟨i0, hi0, hz0, hz1, hz2⟩ := info_parts infoChB
  obtain ⟨⟨pa, ca, rfl, ha1⟩, -⟩ := ha
  obtain ⟨⟨pb, cb, rfl, hb1⟩, -⟩ := hb
  have hg := World.block_lt_of_cell? _ _ hc0
  have HA := Lib.hid ha1
  have HB := Lib.hid hb1
  clear ha1 hb1
  go_enter Tryz.func51, Tryz.ntmps51
  go_wp2_with fail
  go_loopw [3, 11] (fun s3 s11 wr => ∃ k : Nat, k ≤ 2 ∧ s11 = .int .i64 k ∧ s3 = .int .i64 (two A B k).length ∧ w = wr) (fun _ s11 _ => 2 - (intOf s11).toNat)
  case atStart => exact ⟨0, by omega, rfl, rfl, rfl⟩
  case round =>
    obtain ⟨k, hk, rfl, rfl, rfl⟩ := hrel
    rcases (show k = 0 ∨ k = 1 ∨ k = 2 by omega) with rfl | rfl | rfl
    · have e0 : (two A B 0).length = 0 := rfl
      have h63 : wrap64 (A.length : Int) = (A.length : Int) := by unfold wrap64; omega
      have hneg : ¬ ((A.length : Int) < 0) := by omega
      rw [e0]
      clear e0
      go_wp2
      go_roundw
      case rel => exact ⟨1, by omega, rfl, by simp [two], trivial⟩
      case measure => simp [intOf]
    · have e1 : (two A B 1).length = A.length := rfl
      have h63 : wrap64 ((A.length : Int) + (B.length : Int)) = (A.length : Int) + (B.length : Int) := by unfold wrap64; omega
      have hneg : ¬ ((A.length : Int) + (B.length : Int) < 0) := by omega
      rw [e1]
      clear e1
      go_wp2
      go_roundw
      case rel => exact ⟨2, by omega, rfl, by simp [two], trivial⟩
      case measure => simp [intOf]
    · have e2 : (two A B 2).length = A.length + B.length := by simp [two]
      rw [e2]
      clear e2
      have HGR := Lib.hid (Grow_nil (A.length + B.length) w (by omega))
      have ecast : ((A.length + B.length : Nat) : Int) = (A.length : Int) + (B.length : Int) := Int.natCast_add _ _
      rw [ecast] at HGR ⊢
      clear ecast
      go_wp2_with fail
      refine HGR.out.mono ?_
      rintro e w1 ⟨v1, rfl, hown, hbel⟩
      have h1c0 := (hbel.cell (p := ⟨g, 0, none⟩) hg).trans hc0
      have h1c1 := (hbel.cell (p := ⟨g, 1, none⟩) hg).trans hc1
      have hg1 : g < w1.heap.size := Nat.lt_of_lt_of_le hg hbel.size
      have HO := Lib.hid hown
      have HBL := Lib.hid hbel
      clear hown hbel HGR
      go_wp2_with fail
      go_loopw [6, 27] (fun s6 s27 wr => ∃ k : Nat, k ≤ 2 ∧ s27 = .int .i64 k ∧ wr.ownsRow w.heap.size 56 2 s6 (two A B k).length (chCells (two A B k)) ∧ Below w.heap.size w wr) (fun _ s27 _ => 2 - (intOf s27).toNat)
      case atStart => exact ⟨0, by omega, rfl, HO.out, HBL.out⟩
      case round =>
        obtain ⟨k, hk, rfl, hown, hbel⟩ := hrel
        have c0 := (hbel.cell (p := ⟨g, 0, none⟩) hg).trans hc0
        have c1 := (hbel.cell (p := ⟨g, 1, none⟩) hg).trans hc1
        have hgr : g < wr.heap.size := Nat.lt_of_lt_of_le hg hbel.size
        have HOR := Lib.hid hown
        have HBR := Lib.hid hbel
        clear hown hbel
        have hbr := HBR.out
        have hsz := hbr.size
        have HSA := Lib.hid (SlCh.below (w := w) (w' := wr) (v := .slice pa A.length ca) (l := A) ⟨⟨_, _, rfl, HA.out⟩, by simp only [maxLen]; omega⟩ hbr)
        have HSB := Lib.hid (SlCh.below (w := w) (w' := wr) (v := .slice pb B.length cb) (l := B) ⟨⟨_, _, rfl, HB.out⟩, by simp only [maxLen]; omega⟩ hbr)
        have grown : Hid (∀ (l : List Ch), wr.ownsRow w.heap.size 56 2 u6 l.length (chCells l) → ∀ (w' : World), wr.grownBy w' u6.ownBlock → Below w.heap.size w w') := fun l hl w' hgr => HBR.out.grown hgr HBR.out.size fun q hq => (World.ownsRow.lt hl q hq).1
        clear hbr
        rcases (show k = 0 ∨ k = 1 ∨ k = 2 by omega) with rfl | rfl | rfl
        · go_wp2_with (at_builtin; refine wpList_append_chs wr rfl _ _ rfl w.heap.size _ (two A B 0) rfl HOR.out _ A rfl HSA.out (by simp [two]) (by omega) hsz ?_; intro v' w2 hown2 hgrow2)
          go_roundw
          case rel => exact ⟨1, by omega, rfl, hown2, grown.out _ HOR.out _ hgrow2⟩
          case measure => simp [intOf]
        · go_wp2_with (at_builtin; refine wpList_append_chs wr rfl _ _ rfl w.heap.size _ (two A B 1) rfl HOR.out _ B rfl HSB.out (by show A.length ≤ _; omega) (by omega) hsz ?_; intro v' w2 hown2 hgrow2)
          go_roundw
          case rel => exact ⟨2, by omega, rfl, hown2, grown.out _ HOR.out _ hgrow2⟩
          case measure => simp [intOf]
        · go_wp2_with fail
          go_ret
          exact ⟨_, rfl, HOR.out, HBR.out⟩
end Go.Proofs.YthggojpdcgcmaaaGreatDoor
namespace Go.Proofs.YthggojpdcgcmaaaGreatDoor
open Go.RowKit Go.Joins
open Classical
set_option linter.unusedVariables false
set_option linter.unusedSimpArgs false

theorem infoIntB : (Tryz.prog.info? 3).map (fun i => (i.zero, i.size, i.bytes)) = some (some (.int .i64 0), 1, 8) := by kernel_rfl
theorem infoSpB : (Tryz.prog.info? 47).map (fun i => (i.zero, i.size, i.bytes)) = some (some (.agg #[.int .i64 0, .int .i64 0]), 2, 16) := by kernel_rfl
theorem undSpsB : Tryz.prog.underlying 68 = some (.slice 47) := by kernel_rfl
theorem undIntsB : Tryz.prog.underlying 62 = some (.slice 3) := by kernel_rfl
def spV (p : Int × Int) : Value := .agg #[.int .i64 p.1, .int .i64 p.2]
def spC (p : Int × Int) : List Value := [.int .i64 p.1, .int .i64 p.2]
def spCells (l : List (Int × Int)) : List Value := l.flatMap spC
theorem ptsB_hit {l : List Ch} {c : Ch} {f t : Int} (h : inS f t c = true) : ptsB (l ++ [c]) f t = ptsB l f t ++ [c.t] := by simp [ptsB, h]
theorem ptsB_miss {l : List Ch} {c : Ch} {f t : Int} (h : inS f t c = false) : ptsB (l ++ [c]) f t = ptsB l f t := by simp [ptsB, h]
/-- a row of changes is kept where a row of ints grows -/
theorem chs_kept {W W' : World} {B B' : Nat} {v v' : Value} {n m : Nat} {xs ys : List Value} (h : W.ownsRow B 56 2 v n xs) (h' : W.ownsRow B' 3 1 v' m ys) (hg : W.grownBy W' v'.ownBlock) : W'.ownsRow B 56 2 v n xs :=
  own_keep h fun g e => hg.block g (World.ownsRow.lt h g e).2 fun e2 => by
    rcases own_apart h h' (by decide) with h3 | h3
    · rw [e] at h3; cases h3
    · exact h3 (e.trans e2)
theorem wrapN (k : Nat) (h : k ≤ 100000) : wrap64 (k : Int) = (k : Int) := by unfold wrap64; omega
theorem wrapN2 (k : Nat) (h : k ≤ 100000) : IntKind.i64.wrap (k : Int) = (k : Int) := by rw [IntKind.wrap_i64]; omega
theorem natlt1 {k M : Nat} (h : k + 1 < M) : (k : Int) + 1 < M ∧ (k : Int) < M := by omega
theorem nfacts {n k M : Nat} (h1 : n + 1 ≤ k) (h2 : k + 1 < M) (h3 : M ≤ 2002) : ((n : Int) + 1 - 1 = (n : Int)) ∧ wrap64 ((n : Int) + 1 - 1) = (n : Int) ∧ wrap64 (n : Int) = (n : Int) ∧ (n : Int) < (n : Int) + 1 ∧ n < n + 1 ∧ (0 : Int) ≤ (n : Int) := by
  have e : (n : Int) + 1 - 1 = (n : Int) := by omega
  exact ⟨e, by rw [e]; exact wrapN n (by omega), wrapN n (by omega), by omega, by omega, by omega⟩
theorem nlast (n : Nat) : n * 2 + 1 < (n + 1) * 2 := by omega
theorem nmax0 {n k M : Nat} (h1 : n + 1 ≤ k) (h2 : k + 1 < M) (h3 : M ≤ 2002) : n + 1 ≤ 100000 := by omega
theorem nmax1 {n : Nat} (h1 : n ≤ 100000) : n + 1 ≤ maxLen := by simp only [maxLen]; omega
theorem nmax2 {n : Nat} (h1 : n ≤ 100000) : (n + 1) * 16 ≤ 140737488355328 := by omega
theorem own_kept2 {W W' : World} {B B' : Nat} {e e' : TypeId} {sz sz' : Nat} {v v' : Value} {n m : Nat} {xs ys : List Value} (h : W.ownsRow B e sz v n xs) (h' : W.ownsRow B' e' sz' v' m ys) (hne : e ≠ e') (hg : W.grownBy W' v'.ownBlock) : W'.ownsRow B e sz v n xs :=
  own_keep h fun g e => hg.block g (World.ownsRow.lt h g e).2 fun e2 => by
    rcases own_apart h h' hne with h3 | h3
    · rw [e] at h3; cases h3
    · exact h3 (e.trans e2)
theorem spCells_len (l : List (Int × Int)) : (spCells l).length = l.length * 2 := by
  induction l with
  | nil => rfl
  | cons x r ih =>
    have e : spCells (x :: r) = spC x ++ spCells r := by simp [spCells]
    rw [e, List.length_append, ih]
    simp [spC]
    omega
theorem spCells_snoc (l : List (Int × Int)) (p : Int × Int) : spCells (l ++ [p]) = spCells l ++ [.int .i64 p.1, .int .i64 p.2] := by simp [spCells, spC]
theorem spCells_last (l : List (Int × Int)) (p : Int × Int) : (spCells (l ++ [p]))[l.length * 2 + 1]? = some (.int .i64 p.2) := by
  rw [spCells_snoc, List.getElem?_append_right (by rw [spCells_len]; omega), spCells_len]
  simp
theorem spCells_set (l : List (Int × Int)) (p : Int × Int) (y : Int) : (spCells (l ++ [p])).set (l.length * 2 + 1) (.int .i64 y) = spCells (l ++ [(p.1, y)]) := by
  rw [spCells_snoc, spCells_snoc, List.set_append_right _ _ (by rw [spCells_len]; omega), spCells_len]
  simp
theorem own_setAt {W : World} {B : Nat} {e : TypeId} {s n g cap : Nat} {xs : List Value} (h : W.ownsRow B e s (.slice (some ⟨g, 0, none⟩) n cap) n xs) (j : Nat) (hj : j < n * s) (u : Value) :
    (W.setCell ⟨g, j, none⟩ u).ownsRow B e s (.slice (some ⟨g, 0, none⟩) n cap) n (xs.set j u) := by
  obtain ⟨h1, h2⟩ := h
  rcases h2 with ⟨h2, _⟩ | ⟨g', cap', cur, e2, hb, hg, hnc, hcm, hcs, htake⟩
  · cases h2
  · simp only [Value.slice.injEq, Option.some.injEq, Addr.mk.injEq, and_true, true_and] at e2
    obtain ⟨rfl, rfl⟩ := e2
    refine ⟨by rw [List.length_set]; exact h1, .inr ⟨g, cap, cur.setIfInBounds j u, rfl, hb, heap_setCm hg u, hnc, hcm, by simpa using hcs, ?_⟩⟩
    rw [Array.toList_setIfInBounds, ← htake, List.take_set]
theorem stepB_none {eq : Int → Bool} {x y : Int} (h1 : x ≠ y) (h2 : eq x = false) : stepB eq [] x y = [(x, y)] := by
  unfold stepB
  rw [if_neg (by simp [h1, h2])]
  rfl
theorem stepB_join {eq : Int → Bool} {init : List (Int × Int)} {p : Int × Int} {x y : Int} (h1 : x ≠ y) (h2 : eq x = false) (h3 : p.2 = x) : stepB eq (init ++ [p]) x y = init ++ [(p.1, y)] := by
  unfold stepB
  rw [if_neg (by simp [h1, h2])]
  simp [h3]
theorem stepB_more {eq : Int → Bool} {init : List (Int × Int)} {p : Int × Int} {x y : Int} (h1 : x ≠ y) (h2 : eq x = false) (h3 : p.2 ≠ x) : stepB eq (init ++ [p]) x y = init ++ [p] ++ [(x, y)] := by
  unfold stepB
  rw [if_neg (by simp [h1, h2])]
  simp [h3]
def okSpan (f t : Int) : Bool := okTime f && okTime t && decide (f ≤ t)

end Go.Proofs.YthggojpdcgcmaaaGreatDoor
