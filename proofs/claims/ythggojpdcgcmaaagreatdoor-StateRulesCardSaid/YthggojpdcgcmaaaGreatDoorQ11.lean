/- turns.Make: what it returns. The last step of a law's row where of the new world 'Below' alone is known. (A lemma that the guide gives to copy.) All arguments of a law read behind the call as before it, where of old memory nothing has turned. What a row's list of package-level variables gives: strconv's table of powers of ten. What a row's list of package-level variables gives, and bytealg's MaxLen. turns.Of: what it returns. The reference's days, and dates that a law draws: what each returns. The reference's days of a date. timeballref.Rest. A time that a law draws. A book of one zone of one era, in memory. -/
import Derived.Test.YthggojpdcgcmaaaGreatDoorQ07
import Derived.Deep.DeepCutAuto
import Derived.Deep.CutRange
import Derived.Deep.CutBlock
import Derived.Test.YthggojpdcgcmaaaGreatDoorRows
import Derived.WalkKit
import Derived.ProofKit
import Derived.OpenShut
import Derived.Below
import Derived.ChangeSame
import Derived.Carry
import Derived.Lib.SmallJoins
import Derived.Test.YthggojpdcgcmaaaGreatDoorCards
import Derived.Test.YthggojpdcgcmaaaGreatDoorTie
import Derived.Test.YthggojpdcgcmaaaGreatDoorQ01
import Derived.LaidMore
import Derived.Deep.DeepHandedRow
import Derived.Deep.DeepWitnessRowRef
import Derived.Lib.LaidTab
import Derived.Stop.LaidErr
import Derived.Test.YthggojpdcgcmaaaGreatDoorCiv3
import Derived.Test.YthggojpdcgcmaaaGreatDoorQ10
import Derived.Test.YthggojpdcgcmaaaGreatDoorQ08
import Derived.Test.YthggojpdcgcmaaaGreatDoorQ02
namespace Go.Proofs.YthggojpdcgcmaaaGreatDoor
open Go.RowKit Go.Joins
open Classical
set_option linter.unusedVariables false
set_option linter.unusedSimpArgs false

set_option maxRecDepth 100000 in
set_option maxHeartbeats 8000000 in
theorem Make_any (rules : List Ru) (nm : ByteArray) (off : Int) (rv : Value) (w : World) (hR : RowsAt (fun r : Ru => (ruCells r).toList) 11 w.heap.size w rv rules) (ho : ∀ r ∈ rules, OkRu r) (hl : rules.length ≤ 40) (hf1 : -75600 ≤ off) (hf2 : off ≤ 75600) :
    Calls Tryz.prog 33 #[rv, .string nm, .int .i64 off] w (MakePost rules nm off w) := by
  obtain ⟨i1, hi1, hz10, hz11, hz12⟩ := info_parts infoNb
  obtain ⟨p, cap, rfl, hlen, hrow⟩ := hR
  have HRow := Lib.hid hrow
  have HO := Lib.hid ho
  clear hrow ho
  go_enter Tryz.func33, Tryz.ntmps33
  go_wp2_with fail
  go_loopw [8, 9, 10, 23] (fun v8 v9 v10 i wr => ∃ (k : Nat) (Y : Int) (is : Bool) (l : List Nb), k ≤ rules.length ∧ i = .int .i64 k ∧ v9 = .int .i64 Y ∧ v10 = .bool is ∧ 0 ≤ Y ∧ Y ≤ 201 * k ∧ l.length ≤ 1500 ∧ Hid (MkR rules nm k Y is l) ∧ Hid (NbAt wr w.heap.size v8 l) ∧ Hid (Below w.heap.size w wr)) (fun _ _ _ i _ => rules.length - (intOf i).toNat)
  case atStart => exact ⟨0, 0, false, [], Nat.zero_le _, rfl, rfl, rfl, by omega, by omega, by simp, MkR.zero _ _, ⟨World.ownsRow_nil _ _ _ _, fun x hx => absurd hx (List.not_mem_nil)⟩, Lib.hid (Below.refl _ _)⟩
  case round =>
    obtain ⟨k, Y, is, l, hk, rfl, rfl, rfl, hY0, hY1, hll, HM, HN, HB⟩ := hrel
    have hzr := HB.out.size
    by_cases hlt : k < rules.length
    · obtain ⟨b, o, rfl, hbl, hcs⟩ := HRow.out (List.ne_nil_of_length_pos (by omega))
      have hck := hcs k hlt
      have HOK := Lib.hid (HO.out rules[k] (List.getElem_mem hlt))
      have HSK := Lib.hid (HM.out.skip hlt)
      have HLA := Lib.hid (HM.out.large hlt)
      have HMO := Lib.hid (HM.out.more hlt)
      obtain ⟨q, eq⟩ : ∃ q, rules[k] = q := ⟨_, rfl⟩
      rw [eq] at hck HOK HSK HLA HMO
      obtain ⟨B0, eB0⟩ : ∃ B0, w.heap.size = B0 := ⟨_, rfl⟩
      rw [eB0] at hzr HN
      have HB00 := Lib.hid eB0
      have up : ∀ j u, w.cell? ⟨b, o + k * 11 + j, none⟩ = some u → wr.cell? ⟨b, o + k * 11 + j, none⟩ = some u := fun j u h => (HB.out.cell (p := ⟨b, o + k * 11 + j, none⟩) hbl).trans h
      clear eq hcs eB0
      obtain ⟨nm2, yf, yt, mo, dk, dw, dn, tm, ck, sv, lt⟩ := q
      have z0 := up 0 _ (hck 0 _ rfl)
      have z1 := up 1 _ (hck 1 _ rfl)
      have z2 := up 2 _ (hck 2 _ rfl)
      have z3 := up 3 _ (hck 3 _ rfl)
      have z4 := up 4 _ (hck 4 _ rfl)
      have z5 := up 5 _ (hck 5 _ rfl)
      have z6 := up 6 _ (hck 6 _ rfl)
      have z7 := up 7 _ (hck 7 _ rfl)
      have z8 := up 8 _ (hck 8 _ rfl)
      have z9 := up 9 _ (hck 9 _ rfl)
      have z10 := up 10 _ (hck 10 _ rfl)
      clear up hck
      rw [Nat.add_zero] at z0
      simp only at HSK HLA HMO
      obtain ⟨W1, eW1⟩ : ∃ W1, wr.alloc (.cells #[.string nm2, .int .i64 yf, .int .i64 yt, .int .i64 mo, .int .i64 dk, .int .i64 dw, .int .i64 dn, .int .i64 tm, .int .i64 ck, .int .i64 sv, .string lt] 115) = W1 := ⟨_, rfl⟩
      have hbx : RuBx W1 wr.heap.size ⟨nm2, yf, yt, mo, dk, dw, dn, tm, ck, sv, lt⟩ := by rw [← eW1]; exact heap_alloc_new wr _
      have HN1 : Hid (NbAt W1 B0 u8 l) := by rw [← eW1]; exact HN.out.alloc _
      have HB1 : Hid (Below w.heap.size w W1) := by rw [← eW1]; exact HB.out.alloc HB.out.size _
      have hw1 : wr.heap.size < W1.heap.size := hbx.lt
      have HX1 := Lib.hid hbx
      have HEW := Lib.hid eW1
      obtain ⟨bx, ebx⟩ : ∃ bx, wr.heap.size = bx := ⟨_, rfl⟩
      rw [ebx] at HX1 hw1 hzr
      have HBX := Lib.hid ebx
      obtain ⟨x0, x1, x2, x3, x4, x5, x6, x7, x8, x9, x10⟩ := HX1.out.cells
      obtain ⟨f1, f2, t1, t2⟩ := And.intro HOK.out.f1 (And.intro HOK.out.f2 (And.intro HOK.out.t1 HOK.out.t2))
      simp only at x0 x1 x2 x3 x4 x5 x6 x7 x8 x9 x10 f1 f2 t1 t2
      clear ebx eW1 hbx
      by_cases hnm : nm2 = nm
      · have t0 : (nm2.toList == nm.toList) = true := by rw [hnm]; exact beq_self_eq_true _
        have t0n : (!(nm2.toList == nm.toList)) = false := by rw [t0]; rfl
        by_cases hy : 1500 < Y + (yt - yf + 1)
        · have HLA2 := Lib.hid (HLA.out hnm hy)
          clear HLA HMO HSK hnm
          go_upto_region 6 with fail
          rw [HEW.out, HBX.out]
          go_wp2_with fail
          go_roundw
          case rel => exact ⟨k + 1, Y + (yt - yf + 1), true, l, by omega, by go_num, by go_num, rfl, by omega, by omega, hll, HLA2, by rw [HB00.out]; exact HN1, HB1⟩
          case measure => simp [intOf]; omega
        · obtain ⟨C, hC⟩ : ∃ C : Nat, (C : Int) = yt - yf + 1 := ⟨(yt - yf + 1).toNat, by omega⟩
          have HMO2 := Lib.hid (HMO.out hnm t1 bx C hC)
          have hlen2 : l.length + C ≤ 1500 := by have := HM.out.len HO.out (by omega); omega
          clear HLA HMO HSK hnm
          go_upto_region 6 with fail
          rw [HEW.out, HBX.out]
          go_wp2_with fail
          go_loopw [8, 13] (fun v8 v13 wx => ∃ j : Nat, j ≤ C ∧ v13 = .int .i64 (yf + j) ∧ Hid (NbAt wx B0 v8 (l ++ nomB ⟨nm2, yf, yt, mo, dk, dw, dn, tm, ck, sv, lt⟩ bx j)) ∧ Hid (RuBx wx bx ⟨nm2, yf, yt, mo, dk, dw, dn, tm, ck, sv, lt⟩) ∧ Hid (Below w.heap.size w wx)) (fun _ v13 _ => (yt + 1 - intOf v13).toNat)
          case atStart => exact ⟨0, Nat.zero_le _, by go_num, by show NbAt _ _ _ _; rw [show nomB _ bx 0 = [] from rfl, List.append_nil]; exact HN1.out, HX1, HB1⟩
          case round =>
            obtain ⟨j, hj, rfl, HNJ, HXJ, HBJ⟩ := hrel
            have hzj := HBJ.out.size
            rw [HB00.out] at hzj
            obtain ⟨L, eL⟩ : ∃ L, l ++ nomB ⟨nm2, yf, yt, mo, dk, dw, dn, tm, ck, sv, lt⟩ bx j = L := ⟨_, rfl⟩
            have hLl : L.length ≤ 1500 := by rw [← eL, List.length_append, nomB_len]; omega
            have HSN : Hid (l ++ nomB ⟨nm2, yf, yt, mo, dk, dw, dn, tm, ck, sv, lt⟩ bx (j + 1) = L ++ [(86400 * dayN ⟨nm2, yf, yt, mo, dk, dw, dn, tm, ck, sv, lt⟩ (yf + j) + tm, ⟨nm2, yf, yt, mo, dk, dw, dn, tm, ck, sv, lt⟩, bx)]) := by show _ = _; rw [nomB_snoc, ← List.append_assoc, eL]
            rw [eL] at HNJ
            have EL := Lib.hid eL
            clear eL
            have hbj : bx < wr.heap.size := HXJ.out.lt
            have hxs := HXJ.out.cells
            simp only at hxs
            obtain ⟨y0, y1, y2, y3, y4, y5, y6, y7, y8, y9, y10⟩ := hxs
            by_cases hjc : j < C
            · have hyb : yf + (j : Int) ≤ yt := by omega
              have hyb2 : yf ≤ yf + (j : Int) := by omega
              have HOF := Lib.hid (Of_ru ⟨nm2, yf, yt, mo, dk, dw, dn, tm, ck, sv, lt⟩ HOK.out (yf + j) hyb2 hyb wr)
              have hbd := dayN_bd HOK.out (y := yf + j) hyb2 hyb
              obtain ⟨N, eN⟩ : ∃ N, dayN ⟨nm2, yf, yt, mo, dk, dw, dn, tm, ck, sv, lt⟩ (yf + j) = N := ⟨_, rfl⟩
              rw [eN] at HOF HSN hbd
              obtain ⟨hN1, hN2⟩ := hbd
              have ha1 := HOK.out.a1
              have ha2 := HOK.out.a2
              simp only at ha1 ha2
              have HY7 := Lib.hid y7
              clear eN
              go_wp2_with fail
              refine HOF.out.mono ?_
              rintro e w8 ⟨rfl, hb8⟩
              have HB8 := Lib.hid hb8
              have hz8 := hb8.size
              have y7 := (hb8.cell (p := ⟨bx, 7, none⟩) hbj).trans HY7.out
              have HN8 := Lib.hid (HNJ.out.below hb8)
              have HX8 := Lib.hid (HXJ.out.below hb8)
              have hbx8 : bx < w8.heap.size := by omega
              clear hb8 HOF
              obtain ⟨A, cS, rfl⟩ := own_sliceN HN8.out.row
              have HML : L.length + 1 ≤ maxLen := by simp only [maxLen]; omega
              have HMB : (L.length + 1) * 16 ≤ 140737488355328 := by omega
              have HROW := Lib.hid (World.ownsRow.alloc HN8.out.row (.cells #[.int .i64 (86400 * N + tm), .pointer (some ⟨bx, 0, none⟩)] 133))
              have HNEW := Lib.hid (World.news_of_block (cs := #[.int .i64 (86400 * N + tm), .pointer (some ⟨bx, 0, none⟩)]) (t := 133) (fr := (0, 0)) (heap_alloc_new w8 (.cells #[.int .i64 (86400 * N + tm), .pointer (some ⟨bx, 0, none⟩)] 133)))
              have HSZ : B0 ≤ (w8.alloc (.cells #[.int .i64 (86400 * N + tm), .pointer (some ⟨bx, 0, none⟩)] 133)).heap.size := by simp; omega
              go_wp2_with (at_builtin; refine wpList_append_own _ rfl _ _ 129 rfl B0 133 i1 (.agg #[.int .i64 0, .pointer none]) 2 16 undNb hi1 hz10 hz11 hz12 rfl (by decide) _ _ _ rfl HROW.out ⟨w8.heap.size, 0, none⟩ 1 1 [.int .i64 (86400 * N + tm), .pointer (some ⟨bx, 0, none⟩)] rfl rfl HNEW.out (by simp [Value.oneCell']) HML HMB HSZ ?_; intro v' w10 hown10 hgrow10 _)
              have HR := Lib.hid (NbAt.snoc (x := (86400 * N + tm, ⟨nm2, yf, yt, mo, dk, dw, dn, tm, ck, sv, lt⟩, bx)) HN8.out HX8.out hown10 hgrow10)
              have HXE := Lib.hid (box_kept HROW.out (HX8.out.alloc _) (by decide) hgrow10)
              go_roundw
              case rel =>
                refine ⟨j + 1, hjc, by go_num, by rw [HSN.out]; exact HR, HXE, ?_⟩
                obtain rfl := HB00.out
                exact (((HBJ.out.trans (HB8.out.mono HBJ.out.size)).alloc (by omega) _).grown hgrow10 HSZ fun q hq => (World.ownsRow.lt HROW.out q hq).1)
              case measure => simp [intOf]; omega
            · obtain rfl : j = C := by omega
              have hyb : ¬ yf + (j : Int) ≤ yt := by omega
              go_wp2_with fail
              go_roundw
              case rel => exact ⟨k + 1, Y + (yt - yf + 1), true, L, by omega, by go_num, by go_num, rfl, by omega, by omega, by omega, by rw [← EL.out]; exact HMO2, by rw [HB00.out]; exact HNJ, HBJ⟩
              case measure => simp [intOf]; omega
      · have t0 : (nm2.toList == nm.toList) = false := by
          cases e : nm2.toList == nm.toList
          · rfl
          · exact absurd (ByteArray.ext (Array.toList_inj.1 (by rw [← ByteArray.toList_eq, ← ByteArray.toList_eq]; simpa using e))) hnm
        have t0n : (!(nm2.toList == nm.toList)) = true := by rw [t0]; rfl
        have HSK2 := Lib.hid (HSK.out hnm)
        clear HSK hnm
        go_upto_region 6 with fail
        rw [HEW.out, HBX.out]
        go_wp2_with fail
        go_roundw
        case rel => exact ⟨k + 1, Y, is, l, by omega, by go_num, rfl, rfl, hY0, by omega, hll, HSK2, by rw [HB00.out]; exact HN1, HB1⟩
        case measure => simp [intOf]; omega
    · obtain rfl : k = rules.length := by omega
      obtain ⟨hMy, hMs, hMl⟩ := HM.out
      rw [List.take_length] at hMy hMs hMl
      have hmb := HO.out
      have HBE := HB
      cases is with
      | false =>
        have HE := Lib.hid (mkR_6 (off := off) hMs.symm)
        clear hMy hMs hMl hmb
        go_wp2_with fail
        go_ret2
        exact MakePost.bad HE.out HBE.out
      | true =>
      by_cases hy : 1500 < Y
      · have HE := Lib.hid (mkR_2 (off := off) hMs.symm (by rw [← hMy]; exact hy))
        clear hMy hMs hMl hmb
        go_wp2_with fail
        go_ret2
        exact MakePost.bad HE.out HBE.out
      · have hlen : (l.length : Int) = Y := HM.out.len HO.out (by omega)
        have hpos := yearsOf_pos nm rules hmb hMs.symm
        rw [← hMy] at hpos
        have hne : 0 < l.length := by omega
        have hSl := hMl (by omega)
        rcases own_cells HN.out.row with ⟨-, h0⟩ | ⟨g, cS, rfl, hg1, hg2, -⟩
        · omega
        have HSO := Lib.hid (SortStable_any (ptL l) wr g cS l.length (by omega) (tagged (l.map (·.1))).toArray wr (nbAt_so HN.out) (by simp [tagged]) (by have := tagged_inc (l.map (·.1)); rwa [List.length_map] at this))
        obtain ⟨S, eS⟩ : ∃ S, srt (nomsOf dayN rules nm) = S := ⟨_, rfl⟩
        have h5 : outF off 0 none S = none → mkR rules nm off = (5, []) := fun h => mkR_5 hMs.symm (by rw [← hMy]; exact hy) (by rw [eS]; exact h)
        have h0 : ∀ o, outF off 0 none S = some o → mkR rules nm off = (0, o) := fun o h => mkR_0 hMs.symm (by rw [← hMy]; exact hy) (by rw [eS]; exact h)
        obtain ⟨T, eT⟩ : ∃ T, nbT l = T := ⟨_, rfl⟩
        have hTS : nbM T = S := by rw [← eT, nbT_M, ← eS, ← hSl]; rfl
        have hTl : T.length = l.length := by rw [← eT, nbT_len]
        have hTb : ∀ x ∈ T, OkRu x.2.1 ∧ -3000000000 ≤ x.1 ∧ x.1 ≤ 5000000000 := by
          intro x hx
          have hm : (x.1, x.2.1) ∈ nomsOf dayN rules nm := by
            have : (x.1, x.2.1) ∈ srt (nomsOf dayN rules nm) := by rw [eS, ← hTS]; exact List.mem_map_of_mem hx
            exact List.mem_mergeSort.1 this
          exact nomsOf_bd hmb nm _ hm
        have H5 := Lib.hid h5
        have H0 := Lib.hid h0
        have HTS := Lib.hid hTS
        have HTB := Lib.hid hTb
        have HTL := Lib.hid hTl
        have hTl2 : T.length ≤ 1500 := by omega
        have ET := Lib.hid eT
        have hgw : w.heap.size ≤ wr.heap.size := HB.out.size
        clear hMy hMs hMl hmb hpos hSl eS h5 h0 hTS hTl hTb eT HM hlen hll
        go_wp2_with fail
        refine HSO.out.mono ?_
        rintro e W2 ⟨rfl, d', hS, hn, hp, ho⟩
        have hT := so_nbRd HN.out hS hp ho
        rw [ET.out] at hT
        have HT := Lib.hid hT
        have HB6 := Lib.hid (HBE.out.grown hS.g hgw (fun q hq => by injection hq with hq; omega))
        clear hS hn hp ho hT HSO HN HB HBE ET
        go_wp2_with fail
        go_loopw [16, 17, 78] (fun v16 v17 i wx => ∃ (k : Nat) (sv : Int) (out : List Tn), k ≤ l.length ∧ i = .int .i64 k ∧ v17 = .int .i64 sv ∧ 0 ≤ sv ∧ sv ≤ 10800 ∧ Hid (OutR off S k sv out) ∧ Hid (wx.ownsRow W2.heap.size 44 3 v16 k (tnCells out)) ∧ Hid (Below W2.heap.size W2 wx)) (fun _ _ i _ => l.length - (intOf i).toNat)
        case atStart => exact ⟨0, 0, [], Nat.zero_le _, rfl, rfl, by omega, by omega, OutR.zero _ _, World.ownsRow_nil _ _ _ _, Lib.hid (Below.refl _ _)⟩
        case round =>
          obtain ⟨k, sv, out, hk, rfl, rfl, hs0, hs1, HOR, HNR, HBR⟩ := hrel
          by_cases hkn : k < l.length
          · have hkt : k < T.length := by rw [HTL.out]; exact hkn
            have hks : k < S.length := by rw [← HTS.out]; unfold nbM; rw [List.length_map]; exact hkt
            have hSk : S[k]'hks = (T[k].1, T[k].2.1) := by
              have e : (nbM T)[k]? = some (T[k].1, T[k].2.1) := by unfold nbM; rw [List.getElem?_map, List.getElem?_eq_getElem hkt]; rfl
              rw [HTS.out, List.getElem?_eq_getElem hks] at e
              injection e
            have HOB := Lib.hid (HOR.out.bad hks)
            have HOM := Lib.hid (HOR.out.more hks)
            rw [hSk] at HOB HOM
            have HTW := HT.out.below HBR.out
            have hgr : g < wr.heap.size := HTW.lt
            have a0 := HTW.k k hkt
            have a1 := HTW.p k hkt
            have hX := HTW.bx T[k] (List.getElem_mem hkt)
            have hB := HTB.out T[k] (List.getElem_mem hkt)
            obtain ⟨x, ex⟩ : ∃ x, T[k] = x := ⟨_, rfl⟩
            rw [ex] at a0 a1 hX hB HOB HOM
            clear hSk HTW ex hks
            obtain ⟨at1, q, bx⟩ := x
            obtain ⟨nm2, yf, yt, mo, dk, dw, dn, tm, ck, sv2, lt⟩ := q
            obtain ⟨o, hA1, hA2⟩ := hB
            have hbxr : bx < wr.heap.size := hX.lt
            have hxs := hX.cells
            have c1 := o.c1
            have c2 := o.c2
            have s1 := o.s1
            have s2 := o.s2
            simp only at a0 a1 hX hA1 hA2 hbxr hxs c1 c2 s1 s2 HOB HOM
            obtain ⟨x0, x1, x2, x3, x4, x5, x6, x7, x8, x9, x10⟩ := hxs
            clear x0 x1 x2 x3 x4 x5 x6 x7 o
            have HX := Lib.hid hX
            have hs20 := s1
            have hs21 := s2
            clear hX
            obtain ⟨t, et⟩ : ∃ t, clkT off sv (at1, ⟨nm2, yf, yt, mo, dk, dw, dn, tm, ck, sv2, lt⟩) = t := ⟨_, rfl⟩
            rw [et] at HOB HOM
            have ET := Lib.hid et
            clear et
            obtain ⟨W5, eW5⟩ : ∃ W5, wr.alloc (.cells #[.int .i64 at1, .pointer (some ⟨bx, 0, none⟩)] 133) = W5 := ⟨_, rfl⟩
            have hb5 : Below wr.heap.size wr W5 := by rw [← eW5]; exact (Below.refl _ _).alloc (Nat.le_refl _) _
            have hn5 : W5.heap[wr.heap.size]? = some (.cells #[.int .i64 at1, .pointer (some ⟨bx, 0, none⟩)] 133 (0, 0)) := by rw [← eW5]; exact heap_alloc_new wr _
            have hz5 : W5.heap.size = wr.heap.size + 1 := by rw [← eW5]; simp
            have n0 : W5.cell? ⟨wr.heap.size, 0, none⟩ = some (.int .i64 at1) := (cell_of_row W5 _ 0 _ _ _ hn5).trans rfl
            have n1 : W5.cell? ⟨wr.heap.size, 1, none⟩ = some (.pointer (some ⟨bx, 0, none⟩)) := (cell_of_row W5 _ 1 _ _ _ hn5).trans rfl
            have b9 : W5.cell? ⟨bx, 9, none⟩ = some (.int .i64 sv2) := (hb5.cell (p := ⟨bx, 9, none⟩) hbxr).trans x9
            have b10 : W5.cell? ⟨bx, 10, none⟩ = some (.string lt) := (hb5.cell (p := ⟨bx, 10, none⟩) hbxr).trans x10
            have b8 : W5.cell? ⟨bx, 8, none⟩ = some (.int .i64 ck) := (hb5.cell (p := ⟨bx, 8, none⟩) hbxr).trans x8
            have hl5 : wr.heap.size < W5.heap.size := by omega
            have hbx5 : bx < W5.heap.size := by omega
            have KS : Hid (∀ wx, Below W5.heap.size W5 wx → Below W5.heap.size W5 wx ∧ wx.cell? ⟨wr.heap.size, 0, none⟩ = some (.int .i64 at1) ∧ wx.cell? ⟨wr.heap.size, 1, none⟩ = some (.pointer (some ⟨bx, 0, none⟩)) ∧ wx.cell? ⟨bx, 9, none⟩ = some (.int .i64 sv2) ∧ wx.cell? ⟨bx, 10, none⟩ = some (.string lt)) := by
              show ∀ wx, _
              exact fun wx hb => ⟨hb, (hb.cell (p := ⟨wr.heap.size, 0, none⟩) hl5).trans n0, (hb.cell (p := ⟨wr.heap.size, 1, none⟩) hl5).trans n1, (hb.cell (p := ⟨bx, 9, none⟩) hbx5).trans b9, (hb.cell (p := ⟨bx, 10, none⟩) hbx5).trans b10⟩
            have KAL : Hid (∀ wx ob, Below W5.heap.size W5 wx → Below W5.heap.size W5 (wx.alloc ob)) := by
              show ∀ wx ob, _
              exact fun wx ob h => h.alloc h.size ob
            have HB5 := Lib.hid hb5
            have HN5 := Lib.hid hn5
            have HZ5 := Lib.hid hz5
            have HEW5 := Lib.hid eW5
            clear eW5 hb5 hn5 hz5
            go_upto_region 26 with fail
            rw [HEW5.out]
            go_cut [20] from 83 to 95 (fun sx wx => sx = .pointer (some ⟨W5.heap.size, 0, none⟩) ∧ wx = (W5.alloc (.cells #[.int .i64 at1, .int .i64 sv2, .string lt] 44)).drew)
            case first =>
              clear x8 x9 x10 b8 a0 a1
              go_region_held3 (fun wx => Below W5.heap.size W5 wx ∧ wx.cell? ⟨wr.heap.size, 0, none⟩ = some (.int .i64 at1) ∧ wx.cell? ⟨wr.heap.size, 1, none⟩ = some (.pointer (some ⟨bx, 0, none⟩)) ∧ wx.cell? ⟨bx, 9, none⟩ = some (.int .i64 sv2) ∧ wx.cell? ⟨bx, 10, none⟩ = some (.string lt)) ((refine KS.out _ ?_; repeat (first | (with_reducible assumption) | (with_reducible exact Below.refl _ _) | (with_reducible refine Below.drew ?_) | (with_reducible refine KAL.out _ _ ?_)))) (fail)
              all_goals go_wp2_with fail
              all_goals go_meet
              all_goals exact ⟨rfl, rfl⟩
            case rest =>
            obtain ⟨rfl, rfl⟩ := hcut
            clear KS KAL b10 n0 x8 x9 x10 a0 a1
            go_upto_block 7 with fail
            go_cut [108] from 97 to 116 (fun sx wx => wx = (W5.alloc (.cells #[.int .i64 t, .int .i64 sv2, .string lt] 44)).drew)
            case first =>
              have et := ET.out
              unfold clkT at et
              simp only at et
              by_cases hc0 : ck = 0
              · rw [if_pos hc0] at et
                subst hc0
                subst et
                go_wp2_with fail
                go_meet
                exact rfl
              · rw [if_neg hc0] at et
                have z0 : (ck == 0) = false := by simpa using hc0
                by_cases hc1 : ck = 1
                · rw [if_pos hc1] at et
                  subst hc1
                  subst et
                  go_wp2_with fail
                  go_meet
                  exact rfl
                · rw [if_neg hc1] at et
                  have z1 : (ck == 1) = false := by simpa using hc1
                  subst et
                  go_wp2_with fail
                  go_meet
                  exact rfl
            case rest =>
            obtain ⟨W3, eW3⟩ : ∃ W3, (W5.alloc (.cells #[.int .i64 t, .int .i64 sv2, .string lt] 44)).drew = W3 := ⟨_, rfl⟩
            rw [eW3] at hcut
            have hb35 : Below W5.heap.size W5 W3 := by rw [← eW3]; exact ((Below.refl _ _).alloc (Nat.le_refl _) _).drew
            have hb3 : Below wr.heap.size wr W3 := HB5.out.trans (hb35.mono (by have := HZ5.out; omega))
            have hN3 : W3.heap[wr.heap.size]? = some (.cells #[.int .i64 at1, .pointer (some ⟨bx, 0, none⟩)] 133 (0, 0)) := (hb35.block _ hl5).trans HN5.out
            have hT3 : W3.heap[wr.heap.size + 1]? = some (.cells #[.int .i64 t, .int .i64 sv2, .string lt] 44 (0, 0)) := by
              rw [← eW3]
              exact alloc_at _ _ _ (by have := HZ5.out; omega)
            have hz3 : wr.heap.size + 2 ≤ W3.heap.size := by rw [← eW3]; have := HZ5.out; simp [World.drew]; omega
            have p1 : W3.cell? ⟨wr.heap.size, 1, none⟩ = some (.pointer (some ⟨bx, 0, none⟩)) := (cell_of_row W3 _ 1 _ _ _ hN3).trans rfl
            have q0 : W3.cell? ⟨wr.heap.size + 1, 0, none⟩ = some (.int .i64 t) := (cell_of_row W3 _ 0 _ _ _ hT3).trans rfl
            have q1 : W3.cell? ⟨wr.heap.size + 1, 1, none⟩ = some (.int .i64 sv2) := (cell_of_row W3 _ 1 _ _ _ hT3).trans rfl
            have q2 : W3.cell? ⟨wr.heap.size + 1, 2, none⟩ = some (.string lt) := (cell_of_row W3 _ 2 _ _ _ hT3).trans rfl
            have y9 : W3.cell? ⟨bx, 9, none⟩ = some (.int .i64 sv2) := (hb35.cell (p := ⟨bx, 9, none⟩) hbx5).trans b9
            obtain ⟨A, cO, rfl⟩ := own_sliceN HNR.out
            have HNR3 : Hid (W3.ownsRow W2.heap.size 44 3 (.slice A k cO) k (tnCells out)) := own_keep HNR.out fun g' e' => hb3.block g' (World.ownsRow.lt HNR.out g' e').2
            have hz2 : W2.heap.size ≤ W3.heap.size := by have := HBR.out.size; omega
            have HB3 : Hid (Below W2.heap.size W2 W3) := HBR.out.trans (hb3.mono HBR.out.size)
            rw [HZ5.out]
            obtain ⟨nb, enb⟩ : ∃ nb, wr.heap.size = nb := ⟨_, rfl⟩
            rw [enb] at p1 q0 q1 q2 hz3 hbxr hgr ⊢
            have hol := HOR.out.1
            have HLA : Hid (0 < k → ∃ g2 c2 m, (Value.slice A k cO) = .slice (some ⟨g2, 0, none⟩) k c2 ∧ g2 < W3.heap.size ∧ out[k - 1]? = some m ∧ W3.cell? ⟨g2, (k - 1) * 3, none⟩ = some (.int .i64 m.a)) := by
              show 0 < k → _
              intro h0
              rcases own_cells HNR3.out with ⟨-, h1⟩ | ⟨g2, c2, e2, -, h2, h3⟩
              · omega
              · have hl : k - 1 < out.length := by omega
                exact ⟨g2, c2, out[k - 1], e2, h2, List.getElem?_eq_getElem hl, h3 _ _ (tnCells_get out (k - 1) hl).1⟩
            obtain ⟨BB, hBB0, hBB1⟩ : ∃ BB : Bool, (k = 0 → BB = false) ∧ (∀ m, 0 < k → out[k - 1]? = some m → BB = decide (t ≤ m.a)) := by
              by_cases h0 : 0 < k
              · obtain ⟨g2, c2, m, -, -, e3, -⟩ := HLA.out h0
                exact ⟨decide (t ≤ m.a), fun h => by omega, fun m2 _ e4 => by rw [e3] at e4; injection e4 with e4; rw [e4]⟩
              · exact ⟨false, fun _ => rfl, fun m h => absurd h h0⟩
            have HBT : Hid (BB = true → outF off 0 none S = none) := by
              show BB = true → _
              intro hb
              by_cases h0 : 0 < k
              · obtain ⟨g2, c2, m, -, -, e3, -⟩ := HLA.out h0
                refine HOB.out h0 m e3 ?_
                have := hBB1 m h0 e3
                rw [hb] at this
                exact of_decide_eq_true this.symm
              · rw [hBB0 (by omega)] at hb; cases hb
            have HBF : Hid (BB = false → OutR off S (k + 1) sv2 (out ++ [⟨t, sv2, lt⟩])) := by
              show BB = false → _
              intro hb
              refine HOM.out fun m h0 e3 => ?_
              have := hBB1 m h0 e3
              rw [hb] at this
              have := of_decide_eq_false this.symm
              omega
            have HBB0 := Lib.hid hBB0
            have HBB1 := Lib.hid hBB1
            have hol1 : out.length ≤ 1500 := by omega
            have HOL := Lib.hid hol
            have HENB := Lib.hid enb
            clear hBB0 hBB1 hb3 hb35 hN3 hT3 eW3 HNR HOR HOM HOB ET HTB HTS hol enb HBR s1 s2 n1 b8 hl5 hbx5 HB5 HN5 HZ5 HEW5 b9
            subst hcut
            go_upto_region 32 with fail
            go_cut [129] from 117 to 129 (fun sx wx => sx = .bool BB ∧ ∃ nq, wx = wc.drewN nq)
            case first =>
              by_cases h0 : 0 < k
              · obtain ⟨g2, c2, m, e2, hg2, e3, hc⟩ := HLA.out h0
                simp only [Value.slice.injEq, true_and] at e2
                obtain ⟨rfl, rfl⟩ := e2
                have hBB := HBB1.out m h0 e3
                clear e3
                have hk1 : (0 : Int) < (k : Int) := by omega
                have hk2 : (0 : Int) ≤ (k : Int) - 1 := by omega
                have hk3 : (k : Int) - 1 < (k : Int) := by omega
                have hk4 : ((k : Int) - 1).toNat = k - 1 := by omega
                have hk5 : k - 1 < k := by omega
                by_cases hle : t ≤ m.a
                · rw [decide_eq_true hle] at hBB
                  subst hBB
                  go_quiet (fail)
                  go_wp2_with fail
                  go_meet
                  exact ⟨rfl, _, rfl⟩
                · rw [decide_eq_false hle] at hBB
                  subst hBB
                  go_quiet (fail)
                  go_wp2_with fail
                  go_meet
                  exact ⟨rfl, _, rfl⟩
              · have hBB := HBB0.out (by omega)
                subst hBB
                have hk0 : ¬ (0 : Int) < (k : Int) := by omega
                go_quiet (fail)
                go_wp2_with fail
                go_meet
                exact ⟨rfl, _, rfl⟩
            case rest =>
            obtain ⟨rfl, nq, rfl⟩ := hcut
            cases BB with
            | true =>
              have HE := Lib.hid (H5.out (HBT.out rfl))
              have HBD := Lib.hid (HB6.out.trans (HB3.out.mono HB6.out.size))
              go_wp2_with fail
              go_ret2
              exact MakePost.bad HE.out (below_drewN HBD.out nq)
            | false =>
              have HRF := Lib.hid (HBF.out rfl)
              obtain ⟨W4, e4⟩ : ∃ W4, wc.drewN nq = W4 := ⟨_, rfl⟩
              rw [e4]
              have HNR4 : Hid (W4.ownsRow W2.heap.size 44 3 (.slice A k cO) k (tnCells out)) := by rw [← e4]; exact HNR3
              have HB4 : Hid (Below W2.heap.size W2 W4) := by rw [← e4]; exact below_drewN HB3.out nq
              have p1 : W4.cell? ⟨nb, 1, none⟩ = some (.pointer (some ⟨bx, 0, none⟩)) := by rw [← e4]; exact p1
              have q0 : W4.cell? ⟨nb + 1, 0, none⟩ = some (.int .i64 t) := by rw [← e4]; exact q0
              have q1 : W4.cell? ⟨nb + 1, 1, none⟩ = some (.int .i64 sv2) := by rw [← e4]; exact q1
              have q2 : W4.cell? ⟨nb + 1, 2, none⟩ = some (.string lt) := by rw [← e4]; exact q2
              have y9 : W4.cell? ⟨bx, 9, none⟩ = some (.int .i64 sv2) := by rw [← e4]; exact y9
              have hz4 : wc.heap.size ≤ W4.heap.size := by rw [← e4]; exact Nat.le_refl _
              have hbxw : bx < W4.heap.size := by omega
              have hnbw : nb < W4.heap.size := by omega
              have hnbw1 : nb + 1 < W4.heap.size := by omega
              have hz24 : W2.heap.size ≤ W4.heap.size := by omega
              clear e4
              obtain ⟨i2, hi2, hz20, hz21, hz22⟩ := info_parts infoTn
              have HROW := Lib.hid (World.ownsRow.alloc HNR4.out (.cells #[.int .i64 t, .int .i64 sv2, .string lt] 44))
              have HNEW := Lib.hid (World.news_of_block (cs := #[.int .i64 t, .int .i64 sv2, .string lt]) (t := 44) (fr := (0, 0)) (heap_alloc_new W4 (.cells #[.int .i64 t, .int .i64 sv2, .string lt] 44)))
              have HSZ : W2.heap.size ≤ (W4.alloc (.cells #[.int .i64 t, .int .i64 sv2, .string lt] 44)).heap.size := by simp; omega
              have HML : k + 1 ≤ maxLen := by simp only [maxLen]; omega
              have HMB : (k + 1) * 32 ≤ 140737488355328 := by omega
              go_wp2_with (at_builtin; refine wpList_append_own _ rfl _ _ 30 rfl W2.heap.size 44 i2 (.agg #[.int .i64 0, .int .i64 0, .string ⟨#[]⟩]) 3 32 undTn hi2 hz20 hz21 hz22 rfl (by decide) _ _ _ rfl HROW.out ⟨W4.heap.size, 0, none⟩ 1 1 [.int .i64 t, .int .i64 sv2, .string lt] rfl rfl HNEW.out (by simp [Value.oneCell']) HML HMB HSZ ?_; intro v' w10 hown10 hgrow10 _)
              go_roundw
              case rel =>
                refine ⟨k + 1, sv2, out ++ [⟨t, sv2, lt⟩], hkn, by go_num, rfl, hs20, hs21, HRF, by show World.ownsRow _ _ _ _ _ _ _; rw [tnCells_snoc]; exact hown10, ?_⟩
                exact ((HB4.out.alloc hz24 _).grown hgrow10 HSZ fun q hq => (World.ownsRow.lt HROW.out q hq).1)
              case measure => simp [intOf]; omega
          · obtain rfl : k = l.length := by omega
            have HE := Lib.hid (H0.out out (HOR.out.done (by rw [← HTS.out]; unfold nbM; rw [List.length_map, HTL.out]; exact Nat.le_refl _)))
            have hol := HOR.out.1
            have HRW : Hid (wr.ownsRow w.heap.size 44 3 u16 out.length (tnCells out)) := by show World.ownsRow _ _ _ _ _ _ _; rw [hol]; exact own_base HNR.out HB6.out.size
            have HBD := Lib.hid (HB6.out.trans (HBR.out.mono HB6.out.size))
            clear hol
            go_wp2_with fail
            go_ret2
            exact MakePost.ok HE.out HRW.out HBD.out
end Go.Proofs.YthggojpdcgcmaaaGreatDoor
namespace Go.Proofs.YthggojpdcgcmaaaGreatDoor
open Go.ChangeShapes Go.WideShapes Go.ChangeAt Go.RowKit
set_option linter.unusedVariables false

theorem own : ownKnob Tryz.prog.godebug = none := by kernel_rfl

section
variable {H : Type} {enc : TypeId × Value → H} {P : Program}
theorem post_of_below {f : Func} {s : ChangeSpec} {apart fresh handsOn again : Bool} {W W' : World} {args : Array Value} {v : Value} {ds gs : List (DataW H)} {before pa pv : List MemPlace}
    (hW : DataW.Whole enc P f.params.toList s.vars apart W args.toList ds gs before)
    (hres : ∀ (b : Nat) (sp : Nat → Bool) (hd : Bool), DataW.TrodAll enc P W' b sp hd f.resultTypes.toList (v.resultList f.resultTypes.size) (s.fn H (ds ++ gs)).results [])
    (hargs : ∀ sp : Nat → Bool, (∀ p ∈ before, sp p.block = true) → DataW.TrodAll enc P W' 0 sp true f.params.toList args.toList (s.fn H (ds ++ gs)).args pa)
    (hvars : ∀ sp : Nat → Bool, (∀ p ∈ before, sp p.block = true) → DataW.TrodVars enc P W' sp s.vars (s.fn H (ds ++ gs)).vars pv)
    (hps : before = pa ++ pv) (hb : Below W.heap.size W W')
    (hok : ∀ (j : Nat) (t : TypeId) (r : Value), f.resultTypes[j]? = some t → (v.resultList f.resultTypes.size)[j]? = some r → Value.okWide P W' .any 0 t r) :
    s.post enc P f apart fresh handsOn again W args v W' := by
  have hlt : ∀ p ∈ before, p.block < W.heap.size := fun p hp => hW.lt p hp
  have hold : ∀ p ∈ before, (fun b => decide (b < W.heap.size)) p.block = true := fun p hp => by simpa using hlt p hp
  refine ⟨ds, gs, before, [], pa, pv, hW, hres _ _ _, hargs _ hold, hvars _ hold, World.keptBut_mono (fun p hp => ⟨hp, ?_⟩) (hb.frame (· ∈ before)), fun _ => ?_⟩
  · rw [hps, List.mem_append] at hp
    exact Or.inr hp
  · obtain ⟨_, _, _, _, _, hz, hn⟩ := hW
    refine ⟨hok, _, _, ([] ++ pa) ++ pv, ⟨[] ++ pa, pv, trodAll_append (hargs _ (fun _ _ => rfl)) (hres _ _ _), hvars _ (fun _ _ => rfl), rfl, ?_, ?_⟩, ?_⟩
    · intro b off hp
      have hin : MemPlace.cell b off ∈ before := by rw [hps]; simpa using hp
      rw [hb.frozen (hlt _ hin)]
      exact hz b off hin
    · intro ha
      have := hn ha
      rw [hps] at this
      simpa using this
    · intro p hp _
      rw [hps]
      simpa using hp
end

end Go.Proofs.YthggojpdcgcmaaaGreatDoor
namespace Go.Proofs.YthggojpdcgcmaaaGreatDoor
open Go.ChangeShapes Go.WideShapes Go.ChangeAt Go.RowKit
set_option linter.unusedVariables false

theorem laidOut : laidOutB Tryz.prog = true := by kernel_rfl

theorem trodAll_stays {H : Type} {enc : TypeId × Value → H} {P : Program} {W W' : World} {sp : Nat → Bool} (hl : laidOutB P = true) (hb : Below W.heap.size W W') :
    ∀ (ts : List TypeId) (vs : List Value) (ds : List (DataW H)) (ps : List MemPlace), (ts.all fun t => P.readableRec t && decide (t < P.types.size)) = true → (∀ p ∈ ps, p.block < W.heap.size) → (∀ p ∈ ps, sp p.block = true) →
      DataW.TrodAll enc P W 0 (fun _ => true) true ts vs ds ps → DataW.TrodAll enc P W' 0 sp true ts vs ds ps
  | [], [], [], _, _, _, _, h => h
  | t :: ts, v :: vs, d :: ds, ps, hts, hlt, hsp, ⟨p, q, h1, h2, e⟩ => by
    simp only [List.all_cons, Bool.and_eq_true, decide_eq_true_eq] at hts
    refine ⟨p, q, ?_, trodAll_stays hl hb ts vs ds q hts.2 (fun x hx => hlt x (by rw [e]; exact List.mem_append_right _ hx)) (fun x hx => hsp x (by rw [e]; exact List.mem_append_right _ hx)) h2, e⟩
    exact WideElems.Trod_stays hl hts.1.1 hts.1.2 h1 (fun x hx => hb.same (hlt x (by rw [e]; exact List.mem_append_left _ hx))) (fun x hx => hsp x (by rw [e]; exact List.mem_append_left _ hx))
  | [], [], _ :: _, _, _, _, _, h => h.elim
  | [], _ :: _, _, _, _, _, _, h => h.elim
  | _ :: _, [], _, _, _, _, _, h => h.elim
  | _ :: _, _ :: _, [], _, _, _, _, h => h.elim

end Go.Proofs.YthggojpdcgcmaaaGreatDoor
namespace Go.Proofs.YthggojpdcgcmaaaGreatDoor
open Go.ChangeShapes Go.WideShapes Go.ChangeAt Go.RowKit
set_option linter.unusedVariables false

theorem gPow : Tryz.prog.globalNamed "internal/strconv.uint64pow10" = some 0 := by kernel_rfl
theorem gPowType : (Tryz.prog.globals[0]?).map (·.type) = some 215 := by kernel_rfl
theorem tab10_of {W : World} {a b : String × DataW Unit} {rest : List (String × DataW Unit)} (h : laidMet Tryz.prog (a :: b :: ("internal/strconv.uint64pow10", Rows.laid_internal_strconv_uint64pow10) :: rest) W) : Tab10 W :=
  Lib.tabIs_of_head (rest := rest) gPow gPowType Tryz.underlying215 Tryz.underlying188 (by kernel_rfl) (by kernel_rfl) h.tail.tail
end Go.Proofs.YthggojpdcgcmaaaGreatDoor
namespace Go.Proofs.YthggojpdcgcmaaaGreatDoor
open Go.ChangeShapes Go.WideShapes Go.ChangeAt Go.RowKit
set_option linter.unusedVariables false

theorem maxLen_of {W : World} (h : W.ShapedOpen Tryz.prog) : MaxLen W :=
  Go.Proofs.cell_of_shapedOpen_int (zero := #[.int .i64 0]) (t := 3) h (of_decide_eq_true (by kernel_rfl)) (by kernel_rfl) rfl (by kernel_rfl) (by kernel_rfl) Tryz.underlying3
end Go.Proofs.YthggojpdcgcmaaaGreatDoor
namespace Go.Proofs.YthggojpdcgcmaaaGreatDoor
open Go.RowKit Go.Joins
open Classical
set_option linter.unusedVariables false
set_option linter.unusedSimpArgs false

set_option maxRecDepth 100000 in
set_option maxHeartbeats 4000000 in
theorem Of_book (MK : MakeSays) (b : Bk) (rv zv lv : Value) (nm : ByteArray) (off : Int) (w : World) (hB : BookAt w.heap.size w rv zv lv b) (hm : MaxLen w) (ht : Tab10 w) :
    Calls Tryz.prog 15 #[.agg #[rv, zv, lv], .string nm, .int .i64 off] w (TnPost (ofR b nm off) w) := by
  obtain ⟨W0, eW⟩ : ∃ W0, w.alloc (.cells #[rv, zv, lv] 26) = W0 := ⟨_, rfl⟩
  have hr := hB.r
  have hz := hB.z
  have hl := hB.l
  obtain ⟨p1, c1, rfl, hlen1, hrow1⟩ := hr
  obtain ⟨p2, c2, rfl, hlen2, hrow2⟩ := hz
  obtain ⟨p3, c3, rfl, hlen3, hrow3⟩ := hl
  have hb0 : Below w.heap.size w W0 := by rw [← eW]; exact (Below.refl _ _).alloc (Nat.le_refl _) _
  have hbx : W0.heap[w.heap.size]? = some (.cells #[.slice p1 b.rules.length c1, .slice p2 b.zones.length c2, .slice p3 b.links.length c3] 26 (0, 0)) := by rw [← eW]; exact heap_alloc_new w _
  have hl0 : w.heap.size < W0.heap.size := by rw [← eW]; simp
  have x0 := (cell_of_row W0 _ 0 _ _ _ hbx).trans rfl
  have x1 := (cell_of_row W0 _ 1 _ _ _ hbx).trans rfl
  have x2 := (cell_of_row W0 _ 2 _ _ _ hbx).trans rfl
  have HEW := Lib.hid eW
  have HB0 := Lib.hid hb0
  have HBK := Lib.hid (hB.below hb0 (Nat.le_refl _))
  have HCK := Lib.hid (bkCheck_any b _ _ _ W0 (by exact { r := HBK.out.r.mono (Nat.le_of_lt hl0), z := HBK.out.z.mono (Nat.le_of_lt hl0), e := fun z hz => (HBK.out.e z hz).mono (Nat.le_of_lt hl0), l := HBK.out.l.mono (Nat.le_of_lt hl0), rs := HBK.out.rs, zs := HBK.out.zs, ls := HBK.out.ls }) (hm.below hb0) (ht.below hb0))
  have HRU := Lib.hid (bk_rules (b := b))
  have HE1 := Lib.hid (ofR_bad (b := b) (nm := nm) (off := off))
  have HE2 := Lib.hid (ofR_1 (b := b) (nm := nm) (off := off))
  have HE3 := Lib.hid (ofR_mk (b := b) (nm := nm) (off := off))
  obtain ⟨R, eR⟩ : ∃ R, ofR b nm off = R := ⟨_, rfl⟩
  rw [eR] at HE1 HE2 HE3 ⊢
  obtain ⟨C, eC⟩ : ∃ C, bkChk b = C := ⟨_, rfl⟩
  rw [eC] at HE1 HE2 HE3 HCK HRU
  have HR0 := Lib.hid HBK.out.r
  clear eW hb0 hbx hB hm ht hrow1 hrow2 hrow3 eR eC
  go_enter Tryz.func15, Tryz.ntmps15
  go_upto_region 1 with fail
  rw [HEW.out]
  go_wp2_with fail
  refine HCK.out.mono ?_
  rintro e w1 ⟨rfl, hb1⟩
  have HB1 := Lib.hid (HB0.out.trans (hb1.mono HB0.out.size))
  have hl1 : w.heap.size < w1.heap.size := by have := hb1.size; omega
  have y0 := (hb1.cell (p := ⟨w.heap.size, 0, none⟩) hl0).trans x0
  have HR1 := Lib.hid (HR0.out.below hb1 (Nat.le_of_lt hl0))
  clear hb1 HCK x0 x1 x2
  by_cases hc : C = 0
  · subst hc
    by_cases ho : off < -64800 ∨ 64800 < off
    · have HE := Lib.hid (HE2.out rfl ho)
      by_cases h1 : off < -64800
      · clear ho
        go_wp2_with fail
        go_ret2
        exact TnPost.bad HE.out HB1.out
      · have h2 : 64800 < off := by omega
        clear ho
        go_wp2_with fail
        go_ret2
        exact TnPost.bad HE.out HB1.out
    · have HE := Lib.hid (HE3.out rfl ho)
      obtain ⟨hr1, hr2⟩ := HRU.out rfl
      have h1 : ¬ off < -64800 := by omega
      have h2 : ¬ 64800 < off := by omega
      have HMK := Lib.hid (fun W hW => MK b.rules nm off (.slice p1 b.rules.length c1) W hW hr2 hr1 (by omega) (by omega))
      clear ho hr1 hr2
      go_wp2_with fail
      refine (HMK.out _ (HR1.out.mono (Nat.le_of_lt hl1))).mono ?_
      rintro e w2 ⟨vo, rfl, hrow, hb2⟩
      have HP : Hid (TnPost R w (.returned (.tuple #[vo, .int .i64 (mkR b.rules nm off).1])) w2) := by
        show TnPost _ _ _ _
        rw [HE.out]
        exact ⟨vo, rfl, own_base hrow (Nat.le_of_lt hl1), HB1.out.trans (hb2.mono (Nat.le_of_lt hl1))⟩
      obtain ⟨X, eX⟩ : ∃ X, (mkR b.rules nm off).1 = X := ⟨_, rfl⟩
      rw [eX] at HP ⊢
      clear hrow hb2 eX
      go_wp2_with fail
      go_ret2
      exact HP.out
  · have HE := Lib.hid (HE1.out hc)
    have hcz : (C == 0) = false := by simpa using hc
    have hcz2 : (!(C == 0)) = true := by rw [hcz]; rfl
    clear hc
    go_wp2_with fail
    go_ret2
    exact TnPost.bad HE.out HB1.out
end Go.Proofs.YthggojpdcgcmaaaGreatDoor
namespace Go.Proofs.YthggojpdcgcmaaaGreatDoor
open Go.RowKit
set_option linter.unusedVariables false
set_option linter.unusedSimpArgs false

theorem dby_step_up (k : Int) : Civ.jan1 (k + 1) = Civ.jan1 k + 365 + (if longB k = true then 1 else 0) := by
  rw [← lp_of]; exact Civ.jan1_succ k

theorem jan1_bd (k : Int) (h0 : 0 ≤ k) (h1 : k ≤ 10000) : -1000000 ≤ Civ.jan1 k ∧ Civ.jan1 k ≤ 4000000 := by unfold Civ.jan1; omega


theorem jan1_1970 : Civ.jan1 1970 = 0 := by decide

set_option maxHeartbeats 1000000 in
theorem yearDay_any (y : Int) (w : World) (h0 : 1600 ≤ y) (h1 : y ≤ 2400) :
    Calls Tryz.prog 67 #[.int .i64 y] w fun e w' => e = .returned (.int .i64 (Civ.jan1 y)) ∧ w = w' := by
  have h70 := Lib.hid jan1_1970
  by_cases hy : 1970 ≤ y
  · go_enter Tryz.func67, Tryz.ntmps67
    go_wp2
    go_loop [3, 4] (fun n k => ∃ i : Int, 1970 ≤ i ∧ i ≤ y ∧ k = .int .i64 i ∧ n = .int .i64 (Civ.jan1 i)) (fun _ k => (y - intOf k).toNat)
    case atStart => exact ⟨1970, by omega, by omega, rfl, by rw [h70.out]⟩
    case round =>
      obtain ⟨i, hi1, hi2, rfl, rfl⟩ := hrel
      have hb := jan1_bd i (by omega) (by omega)
      by_cases hlt : i < y
      · have HS := Lib.hid (dby_step_up i)
        go_wp2_with (go_at_call 102; refine (rLong_any _ _ (by omega) (by omega)).mono ?_; rintro e w' ⟨rfl, rfl⟩)
        all_goals
          go_round
          case rel => exact ⟨i + 1, by omega, by omega, rfl, by rw [HS.out]; simp [*]⟩
          case measure => simp [intOf]; omega
      · have e : i = y := by omega
        subst e
        go_wp2
        go_loop [3, 5] (fun n k => k = .int .i64 i ∧ n = .int .i64 (Civ.jan1 i)) (fun _ k => 0)
        case atStart => exact ⟨rfl, rfl⟩
        case round =>
          obtain ⟨rfl, rfl⟩ := hrel
          go_wp2
          go_ret
          exact ⟨rfl, rfl⟩
  · go_enter Tryz.func67, Tryz.ntmps67
    go_wp2
    go_loop [3, 4] (fun n k => k = .int .i64 1970 ∧ n = .int .i64 0) (fun _ k => 0)
    case atStart => exact ⟨rfl, rfl⟩
    case round =>
      obtain ⟨rfl, rfl⟩ := hrel
      go_wp2
      go_loop [3, 5] (fun n k => ∃ i : Int, y ≤ i ∧ i ≤ 1970 ∧ k = .int .i64 i ∧ n = .int .i64 (Civ.jan1 y - Civ.jan1 i)) (fun _ k => (1970 - intOf k).toNat)
      case atStart => exact ⟨y, by omega, by omega, rfl, by simp⟩
      case round =>
        obtain ⟨i, hi1, hi2, rfl, rfl⟩ := hrel
        have hb := jan1_bd i (by omega) (by omega)
        have hc := jan1_bd y (by omega) (by omega)
        by_cases hlt : i < 1970
        · have HS := Lib.hid (dby_step_up i)
          go_wp2_with (go_at_call 102; refine (rLong_any _ _ (by omega) (by omega)).mono ?_; rintro e w' ⟨rfl, rfl⟩)
          all_goals
            go_round
            case rel => exact ⟨i + 1, by omega, by omega, rfl, by rw [HS.out]; simp [*]; omega⟩
            case measure => simp [intOf]; omega
        · have e : i = 1970 := by omega
          subst e
          go_wp2
          go_ret
          exact ⟨ret_int (by rw [h70.out]; omega), rfl⟩

end Go.Proofs.YthggojpdcgcmaaaGreatDoor
namespace Go.Proofs.YthggojpdcgcmaaaGreatDoor
open Go.RowKit
set_option linter.unusedVariables false
set_option linter.unusedSimpArgs false

theorem tup3 {a b c a' b' c' : Int} (h1 : a = a') (h2 : b = b') (h3 : c = c') :
    Ending.returned (.tuple #[.int .i64 a, .int .i64 b, .int .i64 c]) = .returned (.tuple #[.int .i64 a', .int .i64 b', .int .i64 c']) := by rw [h1, h2, h3]

theorem ret_v2 {a b c : Int} (h : a = b) : Ending.returned (.tuple #[.int .i64 a, .int .i64 c]) = .returned (.tuple #[.int .i64 b, .int .i64 c]) := by rw [h]
theorem RDays_jan1 (y : Int) (w : World) (h0 : 1600 ≤ y) (h1 : y ≤ 2399) :
    Calls Tryz.prog 32 #[.int .i64 y, .int .i64 1, .int .i64 1] w fun e w' => e = .returned (.tuple #[.int .i64 (Civ.jan1 y), .int .i64 0]) ∧ Below w.heap.size w w' := by
  have hb := jan1_bd y (by omega) (by omega)
  have hm : Hid (Civ.mlen y 1 = 31) := by show Civ.mlen y 1 = 31; simp [Civ.mlen]
  go_enter Tryz.func32, Tryz.ntmps32
  go_wp2_with fail
  refine (rLength_ok _ _ _ (by omega) (by omega) (by omega) (by omega)).mono ?_
  rintro e w1 ⟨rfl, hb1⟩
  rw [hm.out]
  go_wp2_with (first | (go_at_call 66; refine (outside_any _ _ _ _).mono ?_; rintro e w' ⟨rfl, rfl⟩) | (go_at_call 67; refine (yearDay_any _ _ (by omega) (by omega)).mono ?_; rintro e w' ⟨rfl, rfl⟩))
  go_loop [10, 11] (fun n k => k = .int .i64 1 ∧ n = .int .i64 (Civ.jan1 y)) (fun _ k => 0)
  case atStart => exact ⟨rfl, by go_num⟩
  case round =>
    obtain ⟨rfl, rfl⟩ := hrel
    go_wp2
    go_ret2
    exact ⟨rfl, hb1⟩

theorem cum_bd13 (y m : Int) (h1 : 1 ≤ m) (h2 : m ≤ 13) : 0 ≤ Civ.cum y m ∧ Civ.cum y m ≤ 400 := by
  have := Civ.lp01 y
  unfold Civ.cum
  repeat' split
  all_goals omega
set_option maxHeartbeats 1000000 in
theorem RDays_any (y m d : Int) (w : World) (hv : Civ.valid y m d) :
    Calls Tryz.prog 32 #[.int .i64 y, .int .i64 m, .int .i64 d] w fun e w' => e = .returned (.tuple #[.int .i64 (Civ.days y m d), .int .i64 0]) ∧ Below w.heap.size w w' := by
  obtain ⟨h0, h1, h2, h3, h4, h5⟩ := hv
  have hb := jan1_bd y (by omega) (by omega)
  have hml := Civ.mlen_bd y m h2 h3
  have HE := Lib.hid (Civ.days_eq y m d h2 h3)
  have h1c : Civ.cum y 1 = 0 := by simp [Civ.cum]
  have H1C := Lib.hid h1c
  have HCS := Lib.hid (Civ.cum_succ y)
  have HCB := Lib.hid (cum_bd13 y)
  have HMB := Lib.hid (Civ.mlen_bd y)
  obtain ⟨L, eL⟩ : ∃ L, Civ.mlen y m = L := ⟨_, rfl⟩
  rw [eL] at h5 hml
  have HL := Lib.hid eL
  obtain ⟨J, eJ⟩ : ∃ J, Civ.jan1 y = J := ⟨_, rfl⟩
  rw [eJ] at hb HE
  have HJ := Lib.hid eJ
  clear eL h1c eJ
  go_enter Tryz.func32, Tryz.ntmps32
  go_wp2_with fail
  refine (rLength_ok _ _ _ (by omega) (by omega) (by omega) (by omega)).mono ?_
  rintro e w1 ⟨rfl, hb1⟩
  rw [HL.out]
  have HB1 := Lib.hid hb1
  clear hb1
  go_wp2_with fail
  refine (outside_any _ _ _ _).mono ?_
  rw [decide_eq_false (show ¬ (d < 1 ∨ L < d) by omega)]
  rintro e w' ⟨rfl, rfl⟩
  go_wp2_with fail
  refine (yearDay_any _ _ (by omega) (by omega)).mono ?_
  rw [HJ.out]
  rintro e w' ⟨rfl, rfl⟩
  go_wp2_with fail
  go_loopw [10, 11] (fun n k wr => ∃ i : Int, 1 ≤ i ∧ i ≤ m ∧ k = .int .i64 i ∧ n = .int .i64 (J + d - 1 + Civ.cum y i) ∧ Below w.heap.size w wr) (fun _ k _ => (m - intOf k).toNat)
  case atStart => exact ⟨1, by omega, h2, rfl, by rw [H1C.out]; go_num, HB1.out⟩
  case round =>
    obtain ⟨i, hi1, hi2, rfl, rfl, hbr⟩ := hrel
    have HBR := Lib.hid hbr
    have hc := HCB.out i hi1 (by omega)
    have HC := Lib.hid (HCS.out i hi1 (by omega))
    have hm := HMB.out i hi1 (by omega)
    clear hbr
    by_cases hlt : i < m
    · obtain ⟨K, eK⟩ : ∃ K, Civ.mlen y i = K := ⟨_, rfl⟩
      rw [eK] at HC hm
      have HK := Lib.hid eK
      clear eK
      go_wp2_with fail
      refine (rLength_ok _ _ _ (by omega) (by omega) (by omega) (by omega)).mono ?_
      rintro e w1 ⟨rfl, hb1⟩
      rw [HK.out]
      have HZ := Lib.hid (HBR.out.trans (hb1.mono HBR.out.size))
      clear hb1
      go_wp2
      go_roundw
      case rel => exact ⟨i + 1, by omega, by omega, rfl, by rw [HC.out]; go_num, HZ.out⟩
      case measure => simp [intOf]; omega
    · obtain rfl : i = m := by omega
      go_wp2
      go_ret2
      exact ⟨ret_v2 (by rw [HE.out]; omega), HBR.out⟩
end Go.Proofs.YthggojpdcgcmaaaGreatDoor
namespace Go.Proofs.YthggojpdcgcmaaaGreatDoor
open Go.RowKit
set_option linter.unusedVariables false
set_option linter.unusedSimpArgs false

theorem rest0_neg (n m : Int) (h0 : 0 < m) (h1 : m ≤ 4611686018427387904) (h : n.tmod m < 0) : wrap64 (n.tmod m + m) = n % m := by
  have q := Int.tmod_eq_emod (a := n) (b := m)
  have := Int.emod_nonneg n (show m ≠ 0 by omega)
  have := Int.emod_lt_of_pos n h0
  have e : n.tmod m + m = n % m := by
    split at q
    · omega
    · have : (m.natAbs : Int) = m := by omega
      omega
  rw [e]
  exact IntWalk.wrap64_in _ ⟨by omega, by omega⟩

theorem rest0_pos (n m : Int) (h0 : 0 < m) (h : 0 ≤ n.tmod m) : n.tmod m = n % m := by
  have q := Int.tmod_eq_emod (a := n) (b := m)
  have := Int.emod_lt_of_pos n h0
  split at q
  · omega
  · have : (m.natAbs : Int) = m := by omega
    omega
theorem ret_int0 {k : IntKind} {a b : Int} (h : a = b) : Ending.returned (.int k a) = .returned (.int k b) := by rw [h]
theorem Rest0_any (n m : Int) (w : World) (h0 : 0 < m) (h1 : m ≤ 1099511627776) :
    Calls Tryz.prog 13 #[.int .i64 n, .int .i64 m] w fun e w' => e = .returned (.int .i64 (n % m)) ∧ w = w' := by
  have hh : m ≤ 4611686018427387904 := by omega
  go_enter Tryz.func13, Tryz.ntmps13
  go_wp2
  · go_ret
    exact ⟨ret_int0 (rest0_neg n m h0 hh (by assumption)), rfl⟩
  · go_ret
    exact ⟨ret_int0 (rest0_pos n m h0 (by assumption)), rfl⟩
end Go.Proofs.YthggojpdcgcmaaaGreatDoor
namespace Go.Proofs.YthggojpdcgcmaaaGreatDoor
open Go.RowKit
set_option linter.unusedVariables false
set_option linter.unusedSimpArgs false

/-- a time that a law draws -/
def tD (t : Int) : Int := t % 25245561600 + 86400 * -135140
theorem tD_bd (t : Int) : -135140 ≤ tD t / 86400 ∧ tD t / 86400 ≤ 157053 := by unfold tD; omega
theorem tD_bd2 (t : Int) : -11676096000 ≤ tD t ∧ tD t < 13569465600 := by unfold tD; omega
set_option maxHeartbeats 1000000 in
theorem timeOf_any (t : Int) (w : World) :
    Calls Tryz.prog 14 #[.int .i64 t] w fun e w' => e = .returned (.int .i64 (tD t)) ∧ Below w.heap.size w w' := by
  have hm0 : 0 ≤ t % 25245561600 := by omega
  have hm1 : t % 25245561600 < 25245561600 := by omega
  have hj := Lib.hid Civ.jan1_1600
  go_enter Tryz.func14, Tryz.ntmps14
  go_wp2_with fail
  refine (RDays_jan1 1600 _ (by decide) (by decide)).mono ?_
  rw [hj.out]
  rintro e w1 ⟨rfl, hb1⟩
  go_wp2_with fail
  refine (Rest0_any _ _ _ (by decide) (by decide)).mono ?_
  rintro e w2 ⟨rfl, rfl⟩
  go_wp2
  go_ret
  exact ⟨rfl, hb1⟩
end Go.Proofs.YthggojpdcgcmaaaGreatDoor
namespace Go.Proofs.YthggojpdcgcmaaaGreatDoor
open Go.RowKit Go.Joins
open Classical
set_option linter.unusedVariables false
set_option linter.unusedSimpArgs false

/-- a book of one zone of one era, in memory -/
theorem one_book {rules : List Ru} {rv : Value} {Z E : Nat} {x : Er} {W : World} (hr : RowsAt (fun r : Ru => (ruCells r).toList) 11 W.heap.size W rv rules) (hs : ∀ r ∈ rules, SzR r) (hx : SzE x)
    (hZ : W.heap[Z]? = some (.cells #[.string ⟨#[90]⟩, .slice (some ⟨E, 0, none⟩) 1 1] 38 (0, 0))) (hE : W.heap[E]? = some (.cells #[.int .i64 x.off, .string x.ru, .int .i64 x.sv, .string x.fm, .int .i64 x.un] 35 (0, 0))) (hZl : Z < W.heap.size) (hEl : E < W.heap.size) :
    BookAt W.heap.size W rv (.slice (some ⟨Z, 0, none⟩) 1 1) (.slice none 0 0) (oneB rules zB (.slice (some ⟨E, 0, none⟩) 1 1) [x]) := by
  refine ⟨hr, ?_, ?_, rows_nilN, hs, ?_, fun x hx => absurd hx (List.not_mem_nil)⟩
  · refine rows_lit (cells := zoCells) (k := 2) (l := [(⟨zB, .slice (some ⟨E, 0, none⟩) 1 1, [x]⟩ : Zo)]) (fun _ => rfl) hZ ?_ ?_ ?_ ?_
    · rfl
    · rfl
    · decide
    · exact hZl
  · intro z hz
    obtain rfl := List.mem_singleton.1 hz
    refine rows_lit (cells := fun x : Er => (erCells x).toList) (k := 5) (l := [x]) (fun _ => rfl) hE ?_ ?_ ?_ ?_
    · simp
    · rfl
    · decide
    · exact hEl
  · intro z hz
    obtain rfl := List.mem_singleton.1 hz
    refine ⟨(show ByteArray.size ⟨#[90]⟩ ≤ 140737488351232 by decide), fun y hy => ?_⟩
    obtain rfl := List.mem_singleton.1 hy
    exact hx
end Go.Proofs.YthggojpdcgcmaaaGreatDoor
