/- back.Book: what it returns. -/
import Derived.Test.YtmjakhageehcoaaDoorBk2
namespace Go.Proofs.YtmjakhageehcoaaDoor
open Go.RowKit Go.Joins
open Classical
set_option linter.unusedVariables false
set_option linter.unusedSimpArgs false

theorem bk_no {t : Tab} {nm : ByteArray} {w w' : World} {c : Int} (h : backC t nm = c) (hc : c ≠ 0) (hb : Below w.heap.size w w') : BkPost t nm w (.returned (.tuple #[bkNone, .int .i64 c])) w' :=
  ⟨hb, Or.inl ⟨by rw [h]; exact hc, by rw [h]⟩⟩

theorem undErB : Tryd.prog.underlying 37 = some (.slice 41) := by kernel_rfl
theorem infoErB : (Tryd.prog.info? 41).map (fun i => (i.zero, i.size, i.bytes)) = some (some (.agg #[.int .i64 0, .string ⟨#[]⟩, .int .i64 0, .string ⟨#[]⟩, .int .i64 0]), 5, 56) := by kernel_rfl
/-- the zone under way, and its row of eras -/
structure Vz (W : World) (U : Nat) (nm : ByteArray) (cv : Value) (L : List Er) : Prop where
  blk : W.heap[U]? = some (.cells #[.string nm, cv] 39 (0, 0))
  row : W.ownsRow U 41 5 cv L.length (erCells L)
section
variable {W W' : World} {U : Nat} {nm : ByteArray} {cv : Value} {L : List Er}
theorem Vz.lt (h : Vz W U nm cv L) : U < W.heap.size := (Array.getElem?_eq_some_iff.mp h.blk).1
theorem Vz.ne (h : Vz W U nm cv L) : cv.ownBlock ≠ some U := by
  rcases h.row.2 with ⟨e, _⟩ | ⟨g, cap, cur, e, _, hg, _⟩
  · rw [e]; simp [Value.ownBlock]
  · rw [e]
    simp only [Value.ownBlock]
    intro e2
    injection e2 with e2
    subst e2
    rw [h.blk] at hg
    injection hg with hg
    injection hg with _ h2 _
    exact absurd h2 (by decide)
theorem Vz.keep (h : Vz W U nm cv L) (hk : ∀ b, b < W.heap.size → W'.heap[b]? = W.heap[b]?) : Vz W' U nm cv L :=
  ⟨(hk _ h.lt).trans h.blk, own_keep h.row fun g e => hk g (World.ownsRow.lt h.row g e).2⟩
theorem Vz.below (h : Vz W U nm cv L) (hb : Below W.heap.size W W') : Vz W' U nm cv L := h.keep fun b hlt => hb.block b hlt
theorem Vz.cells (h : Vz W U nm cv L) : W.cell? ⟨U, 0, none⟩ = some (.string nm) ∧ W.cell? ⟨U, 1, none⟩ = some cv ∧ (∀ o, W.frozen? ⟨U, o, none⟩ = false) :=
  ⟨(cell_of_row W _ 0 _ _ _ h.blk).trans rfl, (cell_of_row W _ 1 _ _ _ h.blk).trans rfl, fun o => by simp [World.frozen?, h.blk]⟩
end
theorem vz_old {W w6 : World} {U : Nat} {nm : ByteArray} {A : Option Addr} {cS : Nat} {L : List Er} {o : Obj} (h : Vz W U nm (.slice A L.length cS) L) (hg : (W.alloc o).grownBy w6 (Value.slice A L.length cS).ownBlock) :
    w6.heap[U]? = some (.cells #[.string nm, .slice A L.length cS] 39 (0, 0)) := by
  have := h.lt
  exact ((hg.block U (by simp; omega) (fun e => h.ne e.symm)).trans (Below.heap_alloc _ _ _ this)).trans h.blk
theorem vz_snoc {W w6 : World} {U : Nat} {nm : ByteArray} {A : Option Addr} {cS : Nat} {v' : Value} {L : List Er} {x : Er} {o : Obj} (h : Vz W U nm (.slice A L.length cS) L)
    (hown : w6.ownsRow U 41 5 v' (L.length + 1) (erCells L ++ erC x))
    (hg : (W.alloc o).grownBy w6 (Value.slice A L.length cS).ownBlock) (y6 : w6.heap[U]? = some (.cells #[.string nm, .slice A L.length cS] 39 (0, 0))) :
    Vz (w6.setCell ⟨U, 1, none⟩ v') U nm v' (L ++ [x]) ∧ Below U W (w6.setCell ⟨U, 1, none⟩ v') := by
  have hne : v'.ownBlock ≠ some U := by
    rcases hown.2 with ⟨e, _⟩ | ⟨g, cap, cur, e, _, hg, _⟩
    · rw [e]; simp [Value.ownBlock]
    · rw [e]
      simp only [Value.ownBlock]
      intro e2
      injection e2 with e2
      subst e2
      rw [y6] at hg
      injection hg with hg
      injection hg with _ h2 _
      exact absurd h2 (by decide)
  have hlt := h.lt
  refine ⟨⟨(heap_setCB y6 _).trans rfl, ?_⟩, ?_⟩
  · rw [erCells_snoc, List.length_append]
    exact own_keep hown fun g e => Below.heap_setCell _ _ _ _ (by show g ≠ U; exact fun e2 => hne (by rw [e, e2]))
  · exact (((Below.refl U W).alloc (by omega) _).grown hg (by simp; omega) (fun g e => (World.ownsRow.lt h.row g e).1)).setCell (Nat.le_refl _) _
theorem seg_in {N : Tab} (ok : OkTab N) (i : Nat) (hi : i ≤ N.chs.length) : 0 ≤ segK N i ∧ segK N i < N.types.length := by
  unfold segK
  split
  · exact ok.first
  · have h : i - 1 < N.chs.length := by omega
    have := ok.ch N.chs[i - 1] (List.getElem_mem h)
    unfold kAt
    rw [List.getElem?_eq_getElem h]
    simp only [Option.map_some, Option.getD_some]
    omega

set_option maxRecDepth 100000 in
set_option maxHeartbeats 16000000 in
theorem Book_any (t : Tab) (v : Value) (nm : ByteArray) (w : World) (hv : TabAt w v t) (hs : nm.size ≤ maxLen) (ht : Tab10 w) :
    Calls Tryd.prog 11 #[v, .string nm] w (BkPost t nm w) := by
  obtain ⟨p1, c1, p2, c2, rfl⟩ := tabForms hv
  obtain ⟨W0, eW⟩ : ∃ W0, (w.alloc (.cells #[.slice p1 t.types.length c1, .int .i64 t.first, .slice p2 t.chs.length c2] 25)).alloc (.cells #[.slice none 0 0, .slice none 0 0, .slice none 0 0] 31) = W0 := ⟨_, rfl⟩
  obtain ⟨hz, g0, g1, hb0⟩ := two_alB eW
  have HM : Hid (BkM w W0 p1 c1 p2 c2 t) := by show BkM _ _ _ _ _ _ _; exact ⟨g0, g1, hv.below hb0, hb0⟩
  have HEW := Lib.hid eW
  have HT := Lib.hid ht
  have HC := Lib.hid (fun W v (hb : TabAt W v t) => Check_any t v W hb)
  obtain ⟨C, eC⟩ : ∃ C, chk t = C := ⟨_, rfl⟩
  rw [eC] at HC
  have EC := Lib.hid eC
  have HNM := Lib.hid (fun W => isName_any nm W hs)
  obtain ⟨B, eB⟩ : ∃ B, nameB nm = B := ⟨_, rfl⟩
  rw [eB] at HNM
  have EB := Lib.hid eB
  obtain ⟨x0, x1, x2, xf0, xf1, xf2, hl0⟩ := HM.out.cells
  clear eW g0 g1 hb0 hv eC eB hs ht hz
  go_enter Tryd.func11, Tryd.ntmps11
  go_wp2_with fail
  rw [HEW.out]
  refine (HC.out _ _ HM.out.tb).mono ?_
  rintro e w1 ⟨rfl, hb1⟩
  have HM1 := Lib.hid (HM.out.go hb1)
  clear hb1 HM x0 x1 x2 xf0 xf1 xf2 hl0
  obtain ⟨x0, x1, x2, xf0, xf1, xf2, hl1⟩ := HM1.out.cells
  obtain ⟨z0, z1, z2, zf0, zf1, zf2⟩ := HM1.out.zero
  have hr1 := HM1.out.lt
  by_cases hc : C = 0
  · subst hc
    cases B with
    | false =>
      go_wp2_with fail
      refine (HNM.out _).mono ?_
      rintro e w' ⟨rfl, rfl⟩
      go_wp2
      obtain ⟨W9, e9, hb9, v0, v1, v2, -⟩ := HM1.out.out (.slice none 0 0) (.slice none 0 0) (.slice none 0 0)
      rw [e9]
      refine bodyPost_ret (v := .tuple #[bkNone, .int .i64 3]) (by simp [results, Tryd.results11, go_sem, v0, v1, v2]) rfl (bk_no ?_ (by decide) hb9)
      unfold backC
      rw [if_neg (by rw [EC.out]; simp), if_pos EB.out]
    | true =>
      have ok := chk_ok t EC.out
      have OK := Lib.hid ok
      have nok := norm_ok t ok
      have NOK := Lib.hid nok
      have HN := Lib.hid (fun W v (hb : TabAt W v t) => NOf_any t v W hb ok)
      have HP : Hid (∀ r : Int, (if 700 ≤ (normT t).chs.length then 2 else if (∃ c ∈ (normT t).chs, okSB c.t = false) then 1 else if (∃ i, i ≤ (normT t).chs.length ∧ erOk (segT (normT t) i) = false) then 1 else 0) = r → backC t nm = r) := by
        show ∀ r : Int, _ → _
        intro r h
        unfold backC
        rw [if_neg (by rw [EC.out]; simp), if_neg (by rw [EB.out]; simp)]
        exact h
      obtain ⟨N, eN⟩ : ∃ N, normT t = N := ⟨_, rfl⟩
      rw [eN] at HN HP NOK
      have HPO : Hid (∀ e w', BkPost t nm w e w' ↔ Below w.heap.size w w' ∧ ((backC t nm ≠ 0 ∧ e = .returned (.tuple #[bkNone, .int .i64 (backC t nm)])) ∨ (backC t nm = 0 ∧ ∃ Z cz p ce, e = .returned (.tuple #[bkV Z cz, .int .i64 0]) ∧ BkAt w' Z cz p ce nm (ersOf N)))) := by
        show ∀ e w', _ ↔ _
        intro e w'
        unfold BkPost
        rw [eN]
      clear ok nok eN
      go_wp2_with fail
      refine (HNM.out _).mono ?_
      rintro e w' ⟨rfl, rfl⟩
      go_wp2_with fail
      refine (HN.out _ _ HM1.out.tb).mono ?_
      rintro e w2 ⟨v2, rfl, hv2, hb2⟩
      obtain ⟨q1, d1, q2, d2, rfl⟩ := tabForms hv2
      have HM2 := Lib.hid (HM1.out.go hb2)
      have HV2 := Lib.hid hv2
      clear hb2 hv2 HM1 x0 x1 x2 xf0 xf1 xf2 hl1 z0 z1 z2 zf0 zf1 zf2 hr1
      obtain ⟨x0, x1, x2, xf0, xf1, xf2, hl2⟩ := HM2.out.cells
      go_upto_region 7 with fail
      obtain ⟨W3, e3, hB3, hh3, ho3⟩ := end_cells3 HM2.out.px (.slice q1 N.types.length d1) (.int .i64 N.first) (.slice q2 N.chs.length d2)
      rw [e3]
      have hsz3 : w2.heap.size ≤ W3.heap.size := (hB3 0 (Nat.zero_le _)).size
      have HM3 : Hid (BkM w W3 q1 d1 q2 d2 N) := by
        show BkM _ _ _ _ _ _ _
        exact ⟨hh3, (ho3 _ (by omega)).trans HM2.out.r, tab_far HV2.out HM2.out.px ho3 hsz3, HM2.out.b.trans (hB3 _ (Nat.le_refl _))⟩
      clear e3 hB3 hh3 ho3 HM2 HV2 x0 x1 x2 xf0 xf1 xf2 hl2 hsz3
      obtain ⟨x0, x1, x2, xf0, xf1, xf2, hl3⟩ := HM3.out.cells
      have hr3 := HM3.out.lt
      by_cases h7 : 700 ≤ N.chs.length
      · obtain ⟨z0, z1, z2, zf0, zf1, zf2⟩ := HM3.out.zero
        have H7 := Lib.hid h7
        have h7' : (700 : Int) ≤ (N.chs.length : Int) := by omega
        clear h7
        go_wp2
        obtain ⟨W9, e9, hb9, v0, v1, v2, -⟩ := HM3.out.out (.slice none 0 0) (.slice none 0 0) (.slice none 0 0)
        rw [e9]
        refine bodyPost_ret (v := .tuple #[bkNone, .int .i64 2]) (by simp [results, Tryd.results11, go_sem, v0, v1, v2]) rfl (bk_no (HP.out 2 (if_pos H7.out)) (by decide) hb9)
      have h7' : (N.chs.length : Int) < 700 := by omega
      have H7 := Lib.hid h7
      clear h7
      have hsc := (tabOf_slices HM3.out.tb).2.1
      have hst := (tabOf_slices HM3.out.tb).1
      obtain ⟨p, cap, he, hcc⟩ := hsc.shape
      injection he with he1 _ he2
      subst he1 he2
      obtain ⟨p, cap, he, htt⟩ := hst.shape
      injection he with he1 _ he2
      subst he1 he2
      have HCC := Lib.hid hcc
      have HTT := Lib.hid htt
      clear hsc hst hcc htt
      go_wp2_with fail
      go_loopw [36] (fun i wr => ∃ k : Nat, k ≤ N.chs.length ∧ i = .int .i64 k ∧ (∀ j (h : j < N.chs.length), j < k → okSB N.chs[j].t = true) ∧ Below W3.heap.size W3 wr) (fun i _ => N.chs.length - (intOf i).toNat)
      case atStart => exact ⟨0, Nat.zero_le _, rfl, fun j h h2 => absurd h2 (Nat.not_lt_zero _), Below.refl _ _⟩
      case round =>
        obtain ⟨k, hk, rfl, hall, hbr⟩ := hrel
        have HBR := Lib.hid hbr
        have HMR := Lib.hid (HM3.out.go hbr)
        have HAL := Lib.hid hall
        have hzr := hbr.size
        clear hbr hall x0 x1 x2 xf0 xf1 xf2 hl3
        obtain ⟨x0, x1, x2, xf0, xf1, xf2, hlr⟩ := HMR.out.cells
        by_cases hkn : k < N.chs.length
        · have hne : N.chs ≠ [] := fun e => by rw [e] at hkn; exact absurd hkn (Nat.not_lt_zero _)
          obtain ⟨cb, co, rfl, hcb, hat⟩ := HCC.out hne
          obtain ⟨c, ec⟩ : ∃ c, N.chs[k] = c := ⟨_, rfl⟩
          have h1 := (hat k hkn).below HBR.out hcb
          have hcin := NOK.out.ch N.chs[k] (List.getElem_mem hkn)
          rw [ec] at h1 hcin
          obtain ⟨a0, a1⟩ := h1
          have EC2 := Lib.hid ec
          obtain ⟨ci1, ci2, -, -⟩ := hcin
          clear hat hne ec
          by_cases hok : okSB c.t = true
          · have hok' := hok
            simp only [okSB, decide_eq_true_eq] at hok'
            have HSt := Lib.hid (fun W (hb : Tab10 W) => Stamp_ok c.t W hok'.1 hok'.2 hb)
            have HOK := Lib.hid hok
            clear hok hok'
            go_wp2_with fail
            refine (HSt.out _ (HT.out.below (HMR.out.b.alloc HMR.out.b.size _))).mono ?_
            rintro e w4 ⟨rfl, hb4⟩
            have HZ := Lib.hid (HBR.out.trans ((((Below.refl _ _).alloc (Nat.le_refl _) _).trans (hb4.mono (by simp))).mono HBR.out.size))
            clear hb4 a0 a1 x0 x1 x2 xf0 xf1 xf2
            go_wp2
            go_roundw
            case rel =>
              refine ⟨k + 1, hkn, by go_num, fun j h h2 => ?_, HZ.out⟩
              rcases Nat.lt_or_ge j k with h3 | h3
              · exact HAL.out j h h3
              · have : j = k := by omega
                subst this
                rw [EC2.out]; exact HOK.out
            case measure => simp [intOf]; omega
          · have HSt := Lib.hid (fun W => Stamp_no c.t W (by
              have : ¬ (-135140 ≤ c.t / 86400 ∧ c.t / 86400 ≤ 157053) := fun h => hok (by unfold okSB; exact decide_eq_true h)
              omega) (by omega) (by omega))
            have HOK := Lib.hid (eq_false_of_ne_true hok)
            clear hok
            go_wp2_with fail
            refine (HSt.out _).mono ?_
            rintro e w4 ⟨rfl, hb4⟩
            have HM5 := Lib.hid ((HMR.out.go ((Below.refl _ _).alloc (Nat.le_refl _) _)).go hb4)
            obtain ⟨z0, z1, z2, zf0, zf1, zf2⟩ := HM5.out.zero
            have hl5 := HM5.out.lt
            clear hb4 a0 a1 x0 x1 x2 xf0 xf1 xf2
            go_wp2
            obtain ⟨W9, e9, hb9, v0, v1, v2, -⟩ := HM5.out.out (.slice none 0 0) (.slice none 0 0) (.slice none 0 0)
            rw [e9]
            refine bodyPost_ret (v := .tuple #[bkNone, .int .i64 1]) (by simp [results, Tryd.results11, go_sem, v0, v1, v2]) rfl (bk_no (HP.out 1 ?_) (by decide) hb9)
            rw [if_neg H7.out, if_pos ⟨c, by rw [← EC2.out]; exact List.getElem_mem hkn, HOK.out⟩]
        · obtain rfl : k = N.chs.length := by omega
          have HAA : Hid (¬ ∃ c ∈ N.chs, okSB c.t = false) := by
            show ¬ _
            rintro ⟨c, hc, h⟩
            obtain ⟨j, hj, rfl⟩ := List.mem_iff_getElem.1 hc
            rw [HAL.out j hj hj] at h
            cases h
          clear HAL hk hkn
          go_upto_region 18 with fail
          obtain ⟨wq, rfl⟩ : ∃ wq, wq = wr := ⟨wr, rfl⟩
          obtain ⟨W5, e5⟩ : ∃ W5, wq.alloc (.cells #[.string nm, .slice none 0 0] 39) = W5 := ⟨_, rfl⟩
          rw [e5]
          have g5 : W5.heap[wq.heap.size]? = some (.cells #[.string nm, .slice none 0 0] 39 (0, 0)) := by rw [← e5]; exact heap_alloc_new wq _
          have hb5 : Below wq.heap.size wq W5 := by rw [← e5]; exact (Below.refl _ _).alloc (Nat.le_refl _) _
          have HV5 : Hid (Vz W5 wq.heap.size nm (.slice none 0 0) (ersUp N 0)) := by
            show Vz _ _ _ _ _
            exact ⟨g5, World.ownsRow_nil _ _ _ _⟩
          have HB5 := Lib.hid hb5
          obtain ⟨U, eU⟩ : ∃ U, wq.heap.size = U := ⟨_, rfl⟩
          have EU := Lib.hid eU
          rw [eU] at HV5 HB5 hlr ⊢
          have hz5 : U < W5.heap.size := by have := (Array.getElem?_eq_some_iff.mp g5).1; omega
          have hM5 := HMR.out.go (W' := W5) (by rw [eU]; exact HB5.out)
          clear x0 x1 x2 xf0 xf1 xf2
          obtain ⟨x0, x1, x2, xf0, xf1, xf2, hl5⟩ := hM5.cells
          obtain ⟨i1, hi1, hz10, hz11, hz12⟩ := info_parts infoErB
          clear e5 g5 hb5 eU hM5
          go_wp2_with fail
          go_loopw [12, 59] (fun f i wr => ∃ (k : Nat) (sv : Value) (fk : Int), k ≤ N.chs.length + 1 ∧ i = .int .i64 k ∧ f = .int .i64 fk ∧ (k ≤ N.chs.length → fk = segK N k) ∧ (∀ j, j < k → erOk (segT N j) = true) ∧ Vz wr U nm sv (ersUp N k) ∧ Below U wq wr) (fun _ i _ => N.chs.length + 1 - (intOf i).toNat)
          case atStart => exact ⟨0, _, _, Nat.zero_le _, rfl, rfl, fun _ => rfl, fun j h => absurd h (Nat.not_lt_zero _), HV5.out, HB5.out⟩
          case round =>
            obtain ⟨k, sv, fk, hk, rfl, rfl, hfk, hall, hvz, hbw⟩ := hrel
            have HVR := Lib.hid hvz
            have HBW := Lib.hid hbw
            have HMK := Lib.hid (HMR.out.go (W' := wr) (by rw [EU.out]; exact hbw))
            have HAL := Lib.hid hall
            clear hvz hbw hall x0 x1 x2 xf0 xf1 xf2 hl5
            obtain ⟨x0, x1, x2, xf0, xf1, xf2, hlk⟩ := HMK.out.cells
            have hUr := HVR.out.lt
            by_cases hkn : k ≤ N.chs.length
            · obtain rfl := hfk hkn
              have sg := seg_in NOK.out k hkn
              obtain ⟨K, eK⟩ : ∃ K, segK N k = K := ⟨_, rfl⟩
              rw [eK] at sg ⊢
              obtain ⟨sg1, sg2⟩ := sg
              have hKn : K.toNat < N.types.length := by omega
              have hne : N.types ≠ [] := NOK.out.ne
              obtain ⟨ub, uo, rfl, htb, hat⟩ := HTT.out hne
              have hb3k : Below W3.heap.size W3 wr := HBR.out.trans (HBW.out.mono (by rw [← EU.out]; exact HBR.out.size))
              have h1 := (hat K.toNat hKn).below hb3k htb
              have hxt : N.types[K.toNat] = segT N k := by unfold segT tyD; rw [eK, List.getElem?_eq_getElem hKn]; rfl
              have hxo := NOK.out.type _ (List.getElem_mem hKn)
              rw [hxt] at h1 hxo
              obtain ⟨x, ex⟩ : ∃ x, segT N k = x := ⟨_, rfl⟩
              rw [ex] at h1 hxo
              obtain ⟨a0, a1, a2⟩ := h1
              obtain ⟨o1, o2, -⟩ := hxo
              have HER := Lib.hid (fun W => era_any x W o1 o2)
              obtain ⟨O, eO⟩ : ∃ O, erOk x = O := ⟨_, rfl⟩
              rw [eO] at HER
              obtain ⟨E, eE⟩ : ∃ E, erOf x 0 = E := ⟨_, rfl⟩
              rw [eE] at HER
              have HEV : Hid (erAt N k = ⟨E.off, E.rul, E.save, E.fmt, segU N k⟩) := by
                show _ = _
                unfold erAt
                rw [ex, ← eE]
                rfl
              have hE0 : E.til = 0 := by rw [← eE]; rfl
              have EO := Lib.hid eO
              have EX := Lib.hid ex
              have EK := Lib.hid eK
              have htbr : ub < wr.heap.size := Nat.lt_of_lt_of_le htb hb3k.size
              clear hat hne hxt hb3k ex eO eK hfk o1 o2 eE
              have HE0 := Lib.hid hE0
              clear hE0
              go_wp2_with fail
              refine (HER.out _).mono ?_
              rintro e w6 ⟨rfl, hb6⟩
              have HV6 := Lib.hid (HVR.out.below hb6)
              have HB6 := Lib.hid (HBW.out.trans (hb6.mono (Nat.le_of_lt hUr)))
              have HM6 := Lib.hid (HMK.out.go hb6)
              have hz6 := hb6.size
              clear hb6 a0 a1 a2 x0 x1 x2 xf0 xf1 xf2 hlk HVR HBW HMK
              obtain ⟨x0, x1, x2, xf0, xf1, xf2, hl6⟩ := HM6.out.cells
              have hU6 := HV6.out.lt
              cases O with
              | false =>
                go_upto_region 22 with fail
                obtain ⟨W7, e7⟩ : ∃ W7, w6.alloc (.cells #[.int .i64 E.off, .string E.rul, .int .i64 E.save, .string E.fmt, .int .i64 E.til] 41) = W7 := ⟨_, rfl⟩
                rw [e7]
                have HM7 : Hid (BkM w W7 (some ⟨ub, uo, none⟩) d1 q2 d2 N) := by
                  show BkM _ _ _ _ _ _ _
                  rw [← e7]
                  exact HM6.out.go ((Below.refl _ _).alloc (Nat.le_refl _) _)
                clear e7 x0 x1 x2 xf0 xf1 xf2 hl6
                obtain ⟨z0, z1, z2, zf0, zf1, zf2⟩ := HM7.out.zero
                have hr7 := HM7.out.lt
                go_wp2
                obtain ⟨W9, e9, hb9, v0, v1, v2, -⟩ := HM7.out.out (.slice none 0 0) (.slice none 0 0) (.slice none 0 0)
                rw [e9]
                refine bodyPost_ret (v := .tuple #[bkNone, .int .i64 1]) (by simp [results, Tryd.results11, go_sem, v0, v1, v2]) rfl (bk_no (HP.out 1 ?_) (by decide) hb9)
                rw [if_neg H7.out, if_neg HAA.out, if_pos ⟨k, hkn, by rw [EX.out]; exact EO.out⟩]
              | true =>
                go_upto_if 78 with fail
                obtain ⟨W7, e7⟩ : ∃ W7, w6.alloc (.cells #[.int .i64 E.off, .string E.rul, .int .i64 E.save, .string E.fmt, .int .i64 E.til] 41) = W7 := ⟨_, rfl⟩
                rw [e7]
                have g7 : W7.heap[w6.heap.size]? = some (.cells #[.int .i64 E.off, .string E.rul, .int .i64 E.save, .string E.fmt, .int .i64 E.til] 41 (0, 0)) := by rw [← e7]; exact heap_alloc_new w6 _
                have hb7 : Below w6.heap.size w6 W7 := by rw [← e7]; exact (Below.refl _ _).alloc (Nat.le_refl _) _
                have HM7 := Lib.hid (HM6.out.go hb7)
                have HB7 := Lib.hid hb7
                have G7 := Lib.hid g7
                have hz7 : w6.heap.size < W7.heap.size := (Array.getElem?_eq_some_iff.mp g7).1
                clear e7 g7 hb7 x0 x1 x2 xf0 xf1 xf2 hl6
                go_cut [12] (fun s12 wx => ∃ fk2 : Int, s12 = .int .i64 fk2 ∧ (k + 1 ≤ N.chs.length → fk2 = segK N (k + 1)) ∧ wx.heap[w6.heap.size]? = some (.cells #[.int .i64 E.off, .string E.rul, .int .i64 E.save, .string E.fmt, .int .i64 (segU N k)] 41 (0, 0)) ∧ Below w6.heap.size w6 wx)
                case first =>
                  by_cases hlt : k < N.chs.length
                  · have hne : N.chs ≠ [] := fun e => by rw [e] at hlt; exact absurd hlt (Nat.not_lt_zero _)
                    obtain ⟨cb, co, rfl, hcb, hat⟩ := HCC.out hne
                    have hb37 : Below W3.heap.size W3 W7 := HBR.out.trans ((HB6.out.trans (HB7.out.mono (Nat.le_of_lt hU6))).mono (by rw [← EU.out]; exact HBR.out.size))
                    have h1 := (hat k hlt).below hb37 hcb
                    obtain ⟨a0, a1⟩ := h1
                    have hcb7 : cb < W7.heap.size := Nat.lt_of_lt_of_le hcb hb37.size
                    have hcbne : cb ≠ w6.heap.size := by
                      have := HBR.out.size
                      have := EU.out
                      omega
                    obtain ⟨c, ec⟩ : ∃ c, N.chs[k] = c := ⟨_, rfl⟩
                    rw [ec] at a0 a1
                    have HU : Hid (segU N k = c.t) := by
                      show _ = _
                      unfold segU tAt
                      rw [if_pos hlt, List.getElem?_eq_getElem hlt, ec]
                      rfl
                    have HK2 : Hid (c.k = segK N (k + 1)) := by
                      show _ = _
                      unfold segK kAt
                      rw [if_neg (by omega), show k + 1 - 1 = k by omega, List.getElem?_eq_getElem hlt, ec]
                      rfl
                    obtain ⟨x0, x1, x2, xf0, xf1, xf2, hl7⟩ := HM7.out.cells
                    obtain ⟨y0, y1, y2, y3, y4, yf⟩ := cells5 G7.out
                    have yf4 := yf 4
                    clear hat hne hb37 ec yf
                    go_upto_region 25 with fail
                    go_region
                    all_goals go_wp2_with fail
                    all_goals go_meet
                    all_goals refine ⟨_, rfl, fun _ => HK2.out, ?_, ?_⟩
                    · rw [HU.out]
                      exact (heap_setCB G7.out _).trans rfl
                    · have hq := HB7.out
                      repeat (first | (with_reducible exact hq) | (with_reducible refine Below.drew ?_) | (with_reducible refine Below.setCell ?_ (by simp only [Nat.le_refl]) _))
                  · have HU : Hid (segU N k = 0) := by show _ = _; unfold segU; rw [if_neg hlt]
                    have hlt' : ¬ ((k : Int) < (N.chs.length : Int)) := by omega
                    go_wp2_with fail
                    go_meet
                    exact ⟨_, rfl, fun h => absurd h (by omega), by rw [HU.out, ← HE0.out]; exact G7.out, HB7.out⟩
                case rest =>
                  obtain ⟨fk2, rfl, hfk2, hgc, hbc⟩ := hcut
                  have HVC := Lib.hid (HV6.out.below hbc)
                  have HBC := Lib.hid (HB6.out.trans (hbc.mono (Nat.le_of_lt hU6)))
                  have HF := Lib.hid hfk2
                  obtain ⟨A, cS, rfl⟩ := own_sliceN HVC.out.row
                  have hLn := ersUp_length N k
                  obtain ⟨L, eL⟩ : ∃ L, ersUp N k = L := ⟨_, rfl⟩
                  rw [eL] at HVC hLn
                  have hUc := HVC.out.lt
                  have hgl : w6.heap.size < wc.heap.size := (Array.getElem?_eq_some_iff.mp hgc).1
                  obtain ⟨y0, y1, y2, y3, y4, yf⟩ := cells5 hgc
                  obtain ⟨s0, s1, sf⟩ := HVC.out.cells
                  have sf1 := sf 1
                  obtain ⟨u, eu⟩ : ∃ u, segU N k = u := ⟨_, rfl⟩
                  rw [eu] at y4
                  have HML : L.length + 1 ≤ maxLen := by simp only [maxLen]; omega
                  have HMB : (L.length + 1) * 56 ≤ 140737488355328 := by omega
                  have HROWH := Lib.hid (World.ownsRow.alloc HVC.out.row (.cells #[.int .i64 E.off, .string E.rul, .int .i64 E.save, .string E.fmt, .int .i64 u] 41))
                  have HNEWH := Lib.hid (World.news_of_block (cs := #[.int .i64 E.off, .string E.rul, .int .i64 E.save, .string E.fmt, .int .i64 u]) (t := 41) (fr := (0, 0)) (heap_alloc_new wc (.cells #[.int .i64 E.off, .string E.rul, .int .i64 E.save, .string E.fmt, .int .i64 u] 41)))
                  have HSZ : U ≤ (wc.alloc (.cells #[.int .i64 E.off, .string E.rul, .int .i64 E.save, .string E.fmt, .int .i64 u] 41)).heap.size := by simp; omega
                  have HEV2 : Hid (ersUp N (k + 1) = L ++ [⟨E.off, E.rul, E.save, E.fmt, u⟩]) := by
                    show _ = _
                    rw [ersUp_snoc, HEV.out, eL, eu]
                  have hbc1 : ∀ v ∈ [Value.int .i64 E.off, .string E.rul, .int .i64 E.save, .string E.fmt, .int .i64 u], v.oneCell' = true := by
                    intro v hv
                    simp at hv
                    rcases hv with rfl | rfl | rfl | rfl | rfl <;> rfl
                  have HONE := Lib.hid hbc1
                  clear hfk2 hgc hbc eL yf sf eu hbc1 hLn
                  go_wp2_with (at_builtin; refine wpList_append_own _ rfl _ _ 37 rfl U 41 i1 (.agg #[.int .i64 0, .string ⟨#[]⟩, .int .i64 0, .string ⟨#[]⟩, .int .i64 0]) 5 56 undErB hi1 hz10 hz11 hz12 rfl (by decide) _ _ _ rfl HROWH.out ⟨wc.heap.size, 0, none⟩ 1 1 [.int .i64 E.off, .string E.rul, .int .i64 E.save, .string E.fmt, .int .i64 u] rfl rfl HNEWH.out HONE.out HML HMB HSZ ?_; intro v' w10 hown10 hgrow10 _; obtain ⟨A', c', rfl⟩ := own_sliceN hown10; have y6 := vz_old HVC.out hgrow10; have t2 := (cell_of_row w10 _ 1 _ _ _ y6).trans (show _ = some (Value.slice A L.length cS) from rfl); have tz : w10.frozen? ⟨U, 1, none⟩ = false := (by simp [World.frozen?, y6]))
                  have HR := Lib.hid (vz_snoc (x := ⟨E.off, E.rul, E.save, E.fmt, u⟩) HVC.out hown10 hgrow10 y6)
                  go_roundw
                  case rel =>
                    refine ⟨k + 1, _, fk2, by omega, by go_num, rfl, HF.out, fun j hj => ?_, by rw [HEV2.out]; exact HR.out.1, HBC.out.trans HR.out.2⟩
                    rcases Nat.lt_or_ge j k with h3 | h3
                    · exact HAL.out j h3
                    · have : j = k := by omega
                      subst this
                      rw [EX.out]; exact EO.out
                  case measure => simp [intOf]; omega
            · obtain rfl : k = N.chs.length + 1 := by omega
              have HBE : Hid (¬ ∃ i, i ≤ N.chs.length ∧ erOk (segT N i) = false) := by
                show ¬ _
                rintro ⟨i, hi, h⟩
                rw [HAL.out i (by omega)] at h
                cases h
              have HZ0 : Hid (backC t nm = 0) := by
                show _ = _
                exact HP.out 0 (by rw [if_neg H7.out, if_neg HAA.out, if_neg HBE.out])
              obtain ⟨A, cS, rfl⟩ := own_sliceN HVR.out.row
              have hLn := ersUp_length N (N.chs.length + 1)
              have hLm : (ersUp N (N.chs.length + 1)).length ≤ maxLen := by simp only [maxLen]; omega
              have HLM := Lib.hid hLm
              obtain ⟨L, eL⟩ : ∃ L, ersUp N (N.chs.length + 1) = L := ⟨_, rfl⟩
              rw [eL] at HVR HLM
              have EL := Lib.hid eL
              obtain ⟨s0, s1, -⟩ := HVR.out.cells
              have hRU : w.heap.size + 1 < U := by have := HMR.out.lt; have := EU.out; omega
              clear hLn hLm eL hfk x0 x1 x2 xf0 xf1 xf2 hlk
              obtain ⟨z0, z1, z2, zf0, zf1, zf2⟩ := HMK.out.zero
              have hr8 := HMK.out.lt
              go_wp2
              obtain ⟨W8, e8, hb8, v0, v1, v2, ho8⟩ := HMK.out.out (.slice none 0 0) (.slice (some ⟨wr.heap.size, 0, none⟩) 1 1) (.slice none 0 0)
              have hs8 : W8.heap.size = wr.heap.size := by rw [← e8]; simp
              rw [e8]
              obtain ⟨W9, e9⟩ : ∃ W9, W8.alloc (.cells #[.string nm, .slice A L.length cS] 39) = W9 := ⟨_, rfl⟩
              rw [e9]
              have hk9 : ∀ b, b < W8.heap.size → W9.heap[b]? = W8.heap[b]? := fun b hb => by rw [← e9]; exact Below.heap_alloc _ _ _ hb
              have hR8 : w.heap.size + 1 < W8.heap.size := by rw [hs8]; exact hr8
              have hc9 : ∀ o, W9.cell? ⟨w.heap.size + 1, o, none⟩ = W8.cell? ⟨w.heap.size + 1, o, none⟩ := fun o => World.cell?_of_block (a := ⟨w.heap.size + 1, o, none⟩) (hk9 _ hR8)
              have u0 := (hc9 0).trans v0
              have u1 := (hc9 1).trans v1
              have u2 := (hc9 2).trans v2
              have g9 : W9.heap[wr.heap.size]? = some (.cells #[.string nm, .slice A L.length cS] 39 (0, 0)) := by rw [← e9, ← hs8]; exact heap_alloc_new W8 _
              have hb9 : Below w.heap.size w W9 := by rw [← e9]; exact hb8.alloc (by rw [hs8]; omega) _
              have hown : W9.ownsRow U 41 5 (.slice A L.length cS) L.length (erCells L) := own_keep HVR.out.row fun g e => by
                have hg := World.ownsRow.lt HVR.out.row g e
                exact (hk9 g (by rw [hs8]; exact hg.2)).trans (ho8 g (by omega))
              have hbk : BkAt W9 wr.heap.size 1 A cS nm L := ⟨g9, own_ers hown HLM.out⟩
              refine bodyPost_ret (v := .tuple #[bkV wr.heap.size 1, .int .i64 0]) (by simp [results, Tryd.results11, go_sem, u0, u1, u2]) rfl ((HPO.out _ _).2 ⟨hb9, Or.inr ⟨HZ0.out, wr.heap.size, 1, A, cS, rfl, by show BkAt _ _ _ _ _ _ (ersUp N (N.chs.length + 1)); rw [EL.out]; exact hbk⟩⟩)
  · have hc' : (C == 0) = false := by simpa using hc
    have hc'' : (C != 0) = true := by simpa using hc
    have HN := Lib.hid hc
    clear hc
    go_wp2
    obtain ⟨W9, e9, hb9, v0, v1, v2, -⟩ := HM1.out.out (.slice none 0 0) (.slice none 0 0) (.slice none 0 0)
    rw [e9]
    refine bodyPost_ret (v := .tuple #[bkNone, .int .i64 C]) (by simp [results, Tryd.results11, go_sem, v0, v1, v2]) rfl (bk_no ?_ HN.out hb9)
    unfold backC
    rw [if_pos (by rw [EC.out]; exact HN.out), EC.out]
end Go.Proofs.YtmjakhageehcoaaDoor
