/- names.All: the walk. -/
import Derived.Test.YtlgdilpmdoofiaaDoorNm6
namespace Go.Proofs.YtlgdilpmdoofiaaDoor
open Go.RowKit Go.Joins Go.Maps Go.Sort
open Classical
set_option linter.unusedVariables false
set_option linter.unusedSimpArgs false

theorem infoStrN : (Tryd.prog.info? 9).map (fun i => (i.zero, i.size, i.bytes)) = some (some (.string ⟨#[]⟩), 1, 16) := by kernel_rfl
theorem undStrs : Tryd.prog.underlying 60 = some (.slice 9) := by kernel_rfl

theorem vis_len {b : Bk} {left : Lit → Bool} {vis : List ByteArray} (h : Vis b left vis) : vis.length ≤ b.links.length := by
  have := pigeon vis (b.links.map (·.nm)) h.nd fun s hs => by
    obtain ⟨x, hx, rfl⟩ := h.mem s hs
    exact List.mem_map_of_mem hx
  simpa using this
theorem zn_len {b : Bk} {zn : List ByteArray} (h : zn.Pairwise (· ≠ ·)) (hm : ∀ s, s ∈ zn ↔ ∃ z ∈ b.zones, z.nm = s) : zn.length ≤ b.zones.length := by
  have := pigeon zn (b.zones.map (·.nm)) h fun s hs => by
    obtain ⟨x, hx, rfl⟩ := (hm s).1 hs
    exact List.mem_map_of_mem hx
  simpa using this
theorem below_grownN {w w' : World} (h : Below w.heap.size w w') : w.grownBy w' none := ⟨h.os, h.tape, h.output, h.size, fun i hi _ => h.block i hi⟩
theorem zo_shape {b : Bk} {W : World} {B : Nat} (hev : ∀ z ∈ b.zones, ∃ p c, z.ev = .slice p z.eras.length c) {R : Option Zo × Int} (h : ∀ z, R.1 = some z → z ∈ b.zones) : ∃ znm p n c, zoVal R.1 = .agg #[.string znm, .slice p n c] := by
  cases e : R.1 with
  | none => exact ⟨⟨#[]⟩, none, 0, 0, rfl⟩
  | some z =>
    obtain ⟨p, c, e2⟩ := hev z (h z e)
    refine ⟨z.nm, p, z.eras.length, c, ?_⟩
    show Value.agg #[.string z.nm, z.ev] = _
    rw [e2]

set_option maxRecDepth 100000 in
set_option maxHeartbeats 8000000 in
theorem All_any (KS : KeysSays) (SS : SortStrSays) (b : Bk) (rv zv lv : Value) (w : World) (hB : BookAt w.heap.size w rv zv lv b) (hm : MaxLen w) (ht : Tab10 w) :
    Calls Tryd.prog 25 #[.agg #[rv, zv, lv]] w (AllPost b w) := by
  have hr := hB.r
  have hz := hB.z
  have hl := hB.l
  obtain ⟨p1, c1, rfl, hlen1, hrow1⟩ := hr
  obtain ⟨p2, c2, rfl, hlen2, hrow2⟩ := hz
  obtain ⟨p3, c3, rfl, hlen3, hrow3⟩ := hl
  obtain ⟨W0, eW⟩ : ∃ W0, w.alloc (.cells #[.slice p1 b.rules.length c1, .slice p2 b.zones.length c2, .slice p3 b.links.length c3] 26) = W0 := ⟨_, rfl⟩
  have hb0 : Below w.heap.size w W0 := by rw [← eW]; exact (Below.refl _ _).alloc (Nat.le_refl _) _
  have hbx : W0.heap[w.heap.size]? = some (.cells #[.slice p1 b.rules.length c1, .slice p2 b.zones.length c2, .slice p3 b.links.length c3] 26 (0, 0)) := by rw [← eW]; exact heap_alloc_new w _
  have hl0 : w.heap.size < W0.heap.size := by rw [← eW]; simp
  have x0 := (cell_of_row W0 _ 0 _ _ _ hbx).trans rfl
  have x1 := (cell_of_row W0 _ 1 _ _ _ hbx).trans rfl
  have x2 := (cell_of_row W0 _ 2 _ _ _ hbx).trans rfl
  have HEW := Lib.hid eW
  have HB0 := Lib.hid hb0
  have HOF := Lib.hid (namesOf_any b _ _ _ W0 ((hB.below hb0 (Nat.le_refl _)).baseN (Nat.le_of_lt hl0)) (hm.below hb0) (ht.below hb0))
  have HEV := Lib.hid hB.e
  have HLS := Lib.hid hB.ls
  have HPOST : Hid (∀ e w', AllPost b w e w' = (Below w.heap.size w w' ∧ (bkChk b ≠ 0 → e = .returned (.tuple #[.slice none 0 0, .int .i64 (bkChk b)])) ∧
    (bkChk b = 0 → ∃ v ns, e = .returned (.tuple #[v, .int .i64 0]) ∧ AllN b ns ∧ ns.length ≤ 1000 ∧ w'.ownsRow w.heap.size 9 1 v ns.length (((bsL ns).mergeSort leB).map encStr)))) := fun e w' => rfl
  clear eW hb0 hbx hB hm ht hrow1 hrow2 hrow3
  go_enter Tryd.func25, Tryd.ntmps25
  go_upto_region 1 with fail
  rw [HEW.out]
  go_wp2_with fail
  refine HOF.out.mono ?_
  rintro e w1 ⟨hb1, hbad, hgood⟩
  have HB1 := Lib.hid (HB0.out.trans (hb1.mono HB0.out.size))
  have hs1 : W0.heap.size ≤ w1.heap.size := hb1.size
  by_cases hC : bkChk b = 0
  case neg =>
    have he := hbad hC
    subst he
    have hz : (bkChk b == 0) = false := by simpa using hC
    have hz2 : (!bkChk b == 0) = true := by rw [hz]; rfl
    have HC := Lib.hid hC
    clear hb1 hbad hgood hC x0 x1 x2
    go_wp2_with fail
    go_ret2
    rw [HPOST.out]
    exact ⟨HB1.out, fun _ => rfl, fun h => absurd h HC.out⟩
  case pos =>
  obtain ⟨pb, bz, bl, nz, nl, he, hP, hnl, hnz⟩ := hgood hC
  subst he
  have HC := Lib.hid hC
  have hEv : EvOk b.zones := fun z hz => by
    obtain ⟨p, c, e, -⟩ := HEV.out z hz
    exact ⟨p, c, e⟩
  have HEvO := Lib.hid hEv
  obtain ⟨m0, m1, mp⟩ := hP.cells
  have HP1 := Lib.hid hP
  have hpz := hP.hz
  have hpl := hP.hl
  have hpp := hP.hp
  have hzl := hP.z.lt
  have hll := hP.l.lt
  have HZN := Lib.hid (fun ss hp => zone_keys hP.z (ss := ss) hp)
  have HKS := Lib.hid (KS bz nz (DZ b.zones) w1 hP.z (by omega))
  clear hb1 hbad hgood hC x0 x1 x2 hP hEv HEV
  go_wp2_with fail
  refine HKS.out.1.mono ?_
  rintro e w' ⟨rfl, rfl⟩
  go_wp2_with fail
  refine HKS.out.2.mono ?_
  obtain ⟨W2, eW2⟩ : ∃ W2, keysW w1 bz = W2 := ⟨_, rfl⟩
  have hb2 : Below w1.heap.size w1 W2 := by rw [← eW2]; exact (Below.refl _ _).alloc (Nat.le_refl _) _
  rw [eW2]
  rintro e w3 ⟨v3, ss, rfl, hperm, hrow3, hb3⟩
  obtain ⟨zn, hz1, hz2, hz3, hz4⟩ := HZN.out ss hperm
  have hs2 : w1.heap.size ≤ W2.heap.size := hb2.size
  have hs3 : W2.heap.size ≤ w3.heap.size := hb3.size
  have hB13 := hb2.trans (hb3.mono hs2)
  have HP3 := Lib.hid (HP1.out.below hB13 (Nat.le_refl _))
  have HB3 := Lib.hid (HB1.out.trans (hB13.mono (by omega)))
  have hrow3' : w3.ownsRow W2.heap.size 9 1 v3 zn.length (zn.map Value.string) := by
    rw [hz2, ← bsL_enc, hz1]
    exact hrow3
  have HRW := Lib.hid hrow3'
  have HZ3 := Lib.hid hz3
  have HZ4 := Lib.hid hz4
  obtain ⟨m0, m1, mp3⟩ := HP3.out.cells
  clear hperm hrow3 hrow3' hb2 hb3 hz1 hz2 hz3 hz4 hB13 HKS HZN eW2 HP1
  obtain ⟨A, cA, rfl⟩ := own_sliceN HRW.out
  obtain ⟨i1, hi1, hz10, hz11, hz12⟩ := info_parts infoStrN
  go_wp2_with (at_range; refine wpList_range_own _ rfl _ 112 rfl 9 9 keyS Tryd.underlying112 heldV bl nl (DL b.links) rfl HP3.out.l ?_; intro w4 hrg0 hg0 hs4)
  go_frame
  obtain ⟨it, eit⟩ : ∃ it, w3.heap.size = it := ⟨_, rfl⟩
  rw [eit] at hrg0 hs4 hs3 mp3 ⊢
  have HP4 := Lib.hid (HP3.out.grown hg0 (by simp) (by simp) (by simp))
  have HRW4 := Lib.hid (own_keep HRW.out fun g e => hg0.block g (World.ownsRow.lt HRW.out g e).2 (by simp))
  have HB4 := Lib.hid (HB3.out.grown hg0 HB3.out.size (fun q hq => by cases hq))
  have hV0 : Vis b (has (DL b.links)) [] := Vis.start b
  have HV0 := Lib.hid hV0
  have HRG0 := Lib.hid hrg0
  have hE : ((zn ++ List.filter (okN b) []).length) = zn.length := by simp
  clear hg0 hrg0 hV0 HB3 HP3 HRW
  go_loopw [6] (fun v6 wr => ∃ (left : Lit → Bool) (cnt : Nat) (vis : List ByteArray), Hid (wr.ranges Tryd.prog 9 heldV bl it nl (DL b.links) left cnt) ∧ Hid (Vis b left vis) ∧ Hid (wr.ownsRow W2.heap.size 9 1 v6 (zn ++ vis.filter (okN b)).length ((zn ++ vis.filter (okN b)).map Value.string)) ∧ Hid (PlAt W0.heap.size wr pb bz bl nz nl b.zones b.links) ∧ Hid (Below w.heap.size w wr) ∧ it + 1 ≤ wr.heap.size) (fun _ wr => wr.rangeLeft bl it)
  case atStart => exact ⟨_, _, [], HRG0, HV0, by show World.ownsRow _ _ _ _ _ _ _; simpa using HRW4.out, HP4, HB4, by omega⟩
  case round =>
    obtain ⟨left, cnt, vis, HRG, HV, HRW, HP, HBR, hzr⟩ := hrel
    have hrg := HRG.out
    clear HRG0 HV0 HRW4 HP4 HB4
    go_wp2_with (first
      | (at_next; refine wpList_next_ranges _ rfl _ rfl 9 keyS heldV Value.string (fun v : Value => v) (fun key kl h => by obtain ⟨s, e, -⟩ := keyOf_str_inv h; exact ⟨s, e⟩) (fun v y h => ⟨v, rfl⟩) bl it nl _ _ _ rfl hrg ?_ ?_)
      | go_in)
    · intro _ hl0
      obtain ⟨ns, ens⟩ : ∃ ns, zn ++ vis.filter (okN b) = ns := ⟨_, rfl⟩
      have hall := all_of HC.out HV.out hl0 HZ3.out HZ4.out
      rw [ens] at HRW hall
      have hlen := allN_len HC.out hall
      have hrow : wr.ownsRow W2.heap.size 9 1 u6 (bsL ns).length ((bsL ns).map encStr) := by
        rw [bsL_enc, show (bsL ns).length = ns.length by simp [bsL]]
        exact HRW.out
      have HSS := Lib.hid (SS (bsL ns) u6 W2.heap.size wr hrow (by rw [show (bsL ns).length = ns.length by simp [bsL]]; omega))
      have HROW := Lib.hid hrow
      have HALL := Lib.hid hall
      clear hrow hrg HRG HV HRW hall ens hl0
      go_wp2_with fail
      refine HSS.out.mono ?_
      rintro e w6 ⟨rfl, hrow6, hg6⟩
      have hb6 : Below w.heap.size w w6 := HBR.out.grown hg6 HBR.out.size (fun q hq => by have := (World.ownsRow.lt HROW.out q hq).1; omega)
      have HB6 := Lib.hid hb6
      have HR6 := Lib.hid (own_base hrow6 (show w.heap.size ≤ W2.heap.size by omega))
      clear hb6 hrow6 hg6
      go_wp2_with fail
      go_ret2
      rw [HPOST.out]
      refine ⟨HB6.out, fun h => absurd HC.out h, fun _ => ⟨u6, ns, rfl, HALL.out, by omega, ?_⟩⟩
      have := HR6.out
      rwa [show (bsL ns).length = ns.length by simp [bsL]] at this
    · intro s c kl yd yp cnt' hkey hkl hlk hcv hat hrg5 hlt5 hgr5 hsz5 hen
      obtain ⟨s2, es, ek, -⟩ := keyOf_str_inv hkl
      injection es with es
      subst es
      subst ek
      obtain ⟨hV5, x, hx, hxs⟩ := HV.out.step hlk
      have hns := (HLS.out x hx).1
      rw [hxs] at hns
      have hP5 := HP.out.grown hgr5 (by simp; omega) (by simp; omega) (by simp; omega)
      have hne := row_ne_iter HRW.out HRG.out
      have hR5 : cnt'.ownsRow W2.heap.size 9 1 u6 (zn ++ vis.filter (okN b)).length ((zn ++ vis.filter (okN b)).map Value.string) := own_keep HRW.out fun g e => hgr5.block g (World.ownsRow.lt HRW.out g e).2 (fun h => hne (by rw [e, ← h]))
      obtain ⟨bi0, bi1, bi2⟩ := hP5.cells
      have hb5 : Below w.heap.size w cnt' := HBR.out.grown hgr5 HBR.out.size (fun q hq => by injection hq with hq; omega)
      have HB5 := Lib.hid hb5
      have hsb5 : w.heap.size ≤ cnt'.heap.size := hb5.size
      have HRE := Lib.hid (resolve_any W0.heap.size pb bz bl nz nl b.zones b.links s cnt' hP5 HEvO.out (fun y hy => (HLS.out y hy).2) hns hnl)
      have HP5 := Lib.hid hP5
      have HR5 := Lib.hid hR5
      have HV5 := Lib.hid hV5
      have HG5 := Lib.hid hrg5
      have hok : okN b s = decide ((resF b.zones b.links (Maps.size (DL b.links) + 1) s).2 = 0) := rfl
      have hin : ∀ z, (resF b.zones b.links (Maps.size (DL b.links) + 1) s).1 = some z → z ∈ b.zones := fun z hz => (resF_in (c := (resF b.zones b.links (Maps.size (DL b.links) + 1) s).2) (by rw [← hz])).1
      obtain ⟨R, eR⟩ : ∃ R, resF b.zones b.links (Maps.size (DL b.links) + 1) s = R := ⟨_, rfl⟩
      rw [eR] at HRE hok hin
      obtain ⟨znm, pe, ne, ce, hzv⟩ := zo_shape (B := 0) (W := w) HEvO.out hin
      have hlt6 : cnt'.rangeLeft bl it = hkey := HG5.out.left_eq
      have hlt7 : wr.rangeLeft bl it = cnt := HRG.out.left_eq
      have hmeas : hkey < wr.rangeLeft bl it := by rw [hlt7]; exact hlt5
      clear hP5 hR5 hV5 hb5 hrg5 hrg HRG HV HRW HP HBR eR hin hlk hcv
      go_wp2_with fail
      refine HRE.out.mono ?_
      obtain ⟨Z, C⟩ := R
      rintro e w6 ⟨rfl, hb6⟩
      simp only at hzv hok ⊢
      rw [hzv]
      obtain ⟨W7, e7⟩ : ∃ W7, w6.alloc (.cells #[.string znm, .slice pe ne ce] 53) = W7 := ⟨_, rfl⟩
      have hb7 : Below cnt'.heap.size cnt' W7 := by rw [← e7]; exact hb6.alloc hb6.size _
      have hg7 := below_grownN hb7
      have HG7 := Lib.hid (HG5.out.kept hg7 (by simp) (by simp))
      have HR7 := Lib.hid (own_keep HR5.out fun g e => hb7.block g (World.ownsRow.lt HR5.out g e).2)
      have HP7 := Lib.hid (HP5.out.below hb7 (Nat.le_refl _))
      have HB7 := Lib.hid (HB5.out.trans (hb7.mono hsb5))
      have hs7 : cnt'.heap.size ≤ W7.heap.size := hb7.size
      have hl7 : W7.rangeLeft bl it = hkey := HG7.out.left_eq
      have HE7 := Lib.hid e7
      clear hb6 hb7 hg7 e7 hzv HG5 HR5 HP5 HB5 HRE
      go_upto_region 9 with fail
      rw [HE7.out]
      by_cases hC0 : C = 0
      · subst hC0
        have hok1 : okN b s = true := by rw [hok]; exact decide_eq_true rfl
        have HO1 := Lib.hid hok1
        have hzl1 := zn_len HZ3.out HZ4.out
        have hvl1 := vis_len HV5.out
        have hbl1 := bk_len HC.out
        have hfl : (vis.filter (okN b)).length ≤ vis.length := List.length_filter_le _ _
        rw [List.length_append, List.length_singleton] at hvl1
        obtain ⟨ns, ens⟩ : ∃ ns, zn ++ vis.filter (okN b) = ns := ⟨_, rfl⟩
        have hnl2 : ns.length ≤ 40 := by rw [← ens, List.length_append]; omega
        rw [ens] at HR7
        obtain ⟨A2, c2, rfl⟩ := own_sliceN HR7.out
        have HROW := Lib.hid (World.ownsRow.alloc HR7.out (.cells #[.string s] 9))
        have HNEW := Lib.hid (World.news_of_block (cs := #[.string s]) (t := 9) (fr := (0, 0)) (heap_alloc_new W7 (.cells #[.string s] 9)))
        have HML : ns.length + 1 ≤ maxLen := by simp only [maxLen]; omega
        have HMB : (ns.length + 1) * 16 ≤ 140737488355328 := by omega
        have HSZ : W2.heap.size ≤ (W7.alloc (.cells #[.string s] 9)).heap.size := by simp; omega
        have HENS := Lib.hid ens
        clear hok hok1 ens hzl1 hvl1 hbl1 hfl
        go_wp2_with (at_builtin; refine wpList_append_own _ rfl _ _ 60 rfl W2.heap.size 9 i1 (.string ⟨#[]⟩) 1 16 undStrs hi1 hz10 hz11 hz12 rfl (by decide) _ _ _ rfl HROW.out ⟨W7.heap.size, 0, none⟩ 1 1 [.string s] rfl rfl HNEW.out (by simp [Value.oneCell']) HML HMB HSZ ?_; intro v' w10 hown10 hgrow10 _)
        have hpbl : bl < W2.heap.size := by omega
        have HGA := Lib.hid (World.ranges.alloc HG7.out (.cells #[.string s] 9))
        have HGX := Lib.hid (HGA.out.kept hgrow10 (row_ne_low HROW.out hpbl) (row_ne_iter HROW.out HGA.out))
        have HPA := HP7.out.below ((Below.refl _ _).alloc (Nat.le_refl _) (.cells #[.string s] 9)) (Nat.le_refl _)
        have HPX := Lib.hid (HPA.grown hgrow10 (row_ne_low HROW.out (by omega)) (row_ne_low HROW.out (by omega)) (row_ne_low HROW.out hpbl))
        have hs7w : w.heap.size ≤ W7.heap.size := by omega
        have HBA := Lib.hid ((HB7.out.alloc hs7w (.cells #[.string s] 9)).grown hgrow10 (by simp; omega) (fun q hq => by have := (World.ownsRow.lt HROW.out q hq).1; omega))
        have hsx : it + 1 ≤ w10.heap.size := by
          have h1 := hgrow10.size
          have h2 : (W7.alloc (.cells #[.string s] 9)).heap.size = W7.heap.size + 1 := by simp
          omega
        have hlx : w10.rangeLeft bl it = hkey := HGX.out.left_eq
        go_roundw
        case rel =>
          refine ⟨_, hkey, vis ++ [s], HGX, HV5, ?_, HPX, HBA, hsx⟩
          show World.ownsRow _ _ _ _ _ _ _
          rw [List.filter_append, List.filter_cons_of_pos HO1.out, List.filter_nil, ← List.append_assoc, HENS.out, List.length_append, List.map_append]
          exact hown10
        case measure => omega
      · have hok0 : okN b s = false := by rw [hok]; exact decide_eq_false hC0
        have hCz : (C == 0) = false := by simpa using hC0
        have HO0 := Lib.hid hok0
        clear hok hok0 hC0
        go_wp2_with fail
        go_roundw
        case rel =>
          refine ⟨_, hkey, vis ++ [s], HG7, HV5, ?_, HP7, HB7, by omega⟩
          show World.ownsRow _ _ _ _ _ _ _
          rw [List.filter_append, List.filter_cons_of_neg (by rw [HO0.out]; simp), List.filter_nil, List.append_nil]
          exact HR7.out
        case measure => omega
end Go.Proofs.YtlgdilpmdoofiaaDoor
