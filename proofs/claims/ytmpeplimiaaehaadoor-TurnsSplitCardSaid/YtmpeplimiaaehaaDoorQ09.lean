/- back.Years: the walk. An argument of type []api.Turn. The reference's Eq of turns; a turn's comparison; the closed fact of turns. Tables in plain Lean: what they hold, and what table.Check says of them. table.within and table.Check: what each returns. table.Check of a table that has types and is not too large: what it returns. How many places are still false: plain. What a table that may be has: plain facts. -/
import Derived.Test.YtmpeplimiaaehaaDoorQ08
import Derived.Test.YtmpeplimiaaehaaDoorQ02
import Derived.BigQuiet
import Derived.Deep.DeepCutAuto
import Derived.Handy
import Derived.Test.YtmpeplimiaaehaaDoorQ07
import Derived.Test.YtmpeplimiaaehaaDoorQ01
import Derived.WalkKit
namespace Go.Proofs.YtmpeplimiaaehaaDoor
open Go.RowKit Go.Joins
open Classical
set_option linter.unusedVariables false
set_option linter.unusedSimpArgs false

abbrev ruLY (r : Ru) : List Value := (ruCells r).toList
def ruFlatY (l : List Ru) : List Value := l.flatMap ruLY
theorem ruFlatY_snoc (l : List Ru) (r : Ru) : ruFlatY (l ++ [r]) = ruFlatY l ++ (ruCells r).toList := by simp [ruFlatY]
theorem infoRuY : (Tryd.prog.info? 34).map (fun i => (i.zero, i.size, i.bytes)) = some (some (.agg #[.string ⟨#[]⟩, .int .i64 0, .int .i64 0, .int .i64 0, .int .i64 0, .int .i64 0, .int .i64 0, .int .i64 0, .int .i64 0, .int .i64 0, .string ⟨#[]⟩]), 11, 104) := by kernel_rfl
theorem undRuY : Tryd.prog.underlying 22 = some (.slice 34) := by kernel_rfl
/-- what is known of a turn that comes in -/
structure SzTn (t : Tn) : Prop where
  a1 : -9223372036854775808 ≤ t.a
  a2 : t.a ≤ 9223372036854775807
  l : t.lt.size ≤ 140737488351232
def YrPost (R : Int × List Ru) (w : World) (e : Ending) (w' : World) : Prop := ∃ vo, e = .returned (.tuple #[vo, .int .i64 R.1]) ∧ w'.ownsRow w.heap.size 34 11 vo R.2.length (ruFlatY R.2) ∧ Below w.heap.size w w'
theorem YrPost.bad {R : Int × List Ru} {w w' : World} {c : Int} (h : R = (c, [])) (hb : Below w.heap.size w w') : YrPost R w (.returned (.tuple #[.slice none 0 0, .int .i64 c])) w' :=
  ⟨_, by rw [h], by rw [h]; exact World.ownsRow_nil _ _ _ _, hb⟩
def prevA (l : List Tn) (k : Nat) : Option Int := if k = 0 then none else (l[k - 1]?).map (·.a)
theorem yrs_step {l : List Tn} {k : Nat} (hk : k < l.length) : yrsE (prevA l k) (l.drop k) = if tnE (prevA l k) l[k] = 0 then yrsE (prevA l (k + 1)) (l.drop (k + 1)) else tnE (prevA l k) l[k] := by
  rw [List.drop_eq_getElem_cons hk]
  have e : prevA l (k + 1) = some l[k].a := by unfold prevA; rw [if_neg (by omega), Nat.add_sub_cancel, List.getElem?_eq_getElem hk]; rfl
  rw [e]
  rfl
theorem yrs_done (l : List Tn) : yrsE (prevA l l.length) (l.drop l.length) = 0 := by rw [List.drop_length]; rfl
theorem prevB_none (x : Int) : prevB none x = false := rfl
theorem tn1 {p : Option Int} {t : Tn} (h : ¬ (-135140 ≤ t.a / 86400 ∧ t.a / 86400 ≤ 157053) ∨ Civ.yy (t.a / 86400) < 1900 ∨ 2100 < Civ.yy (t.a / 86400)) : tnE p t = 1 := by unfold tnE; rw [if_pos h]
theorem tn5 {p : Option Int} {t : Tn} (h : ¬ (¬ (-135140 ≤ t.a / 86400 ∧ t.a / 86400 ≤ 157053) ∨ Civ.yy (t.a / 86400) < 1900 ∨ 2100 < Civ.yy (t.a / 86400))) (h2 : prevB p t.a = true) : tnE p t = 5 := by unfold tnE; rw [if_neg h, if_pos h2]
theorem tn1b {p : Option Int} {t : Tn} (h : ¬ (¬ (-135140 ≤ t.a / 86400 ∧ t.a / 86400 ≤ 157053) ∨ Civ.yy (t.a / 86400) < 1900 ∨ 2100 < Civ.yy (t.a / 86400))) (h2 : prevB p t.a = false) (h3 : t.s < 0 ∨ 10800 < t.s) : tnE p t = 1 := by unfold tnE; rw [if_neg h, if_neg (by rw [h2]; decide), if_pos h3]
theorem tn3 {p : Option Int} {t : Tn} (h : ¬ (¬ (-135140 ≤ t.a / 86400 ∧ t.a / 86400 ≤ 157053) ∨ Civ.yy (t.a / 86400) < 1900 ∨ 2100 < Civ.yy (t.a / 86400))) (h2 : prevB p t.a = false) (h3 : ¬ (t.s < 0 ∨ 10800 < t.s)) (h4 : t.lt.data.toList ≠ [45] ∧ abbrB t.lt = false) : tnE p t = 3 := by unfold tnE; rw [if_neg h, if_neg (by rw [h2]; decide), if_neg h3, if_pos h4]
theorem tn0 {p : Option Int} {t : Tn} (h : ¬ (¬ (-135140 ≤ t.a / 86400 ∧ t.a / 86400 ≤ 157053) ∨ Civ.yy (t.a / 86400) < 1900 ∨ 2100 < Civ.yy (t.a / 86400))) (h2 : prevB p t.a = false) (h3 : ¬ (t.s < 0 ∨ 10800 < t.s)) (h4 : ¬ (t.lt.data.toList ≠ [45] ∧ abbrB t.lt = false)) : tnE p t = 0 := by unfold tnE; rw [if_neg h, if_neg (by rw [h2]; decide), if_neg h3, if_neg h4]

set_option maxRecDepth 100000 in
set_option maxHeartbeats 20000000 in
theorem Years_any (l : List Tn) (v : Value) (w : World) (hv : RowsAt tnC 3 w.heap.size w v l) (hs : ∀ t ∈ l, SzTn t) :
    Calls Tryd.prog 12 #[v] w (YrPost (yearsR l) w) := by
  obtain ⟨p, cp, rfl, hlen, hrow⟩ := hv
  have HROW := Lib.hid hrow
  have HSZ := Lib.hid hs
  clear hrow hs
  obtain ⟨i1, hi1, hz10, hz11, hz12⟩ := info_parts infoRuY
  by_cases h40 : 40 < l.length
  · have er : yearsR l = (2, []) := by unfold yearsR; rw [if_pos h40]
    rw [er]
    have h41 : (40 : Int) < (l.length : Int) := by omega
    go_enter Tryd.func12, Tryd.ntmps12
    go_wp2_with fail
    go_ret2
    exact YrPost.bad rfl (Below.refl _ _)
  have h41 : ¬ (40 : Int) < (l.length : Int) := by omega
  have HY : Hid (yearsR l = if yrsE none l = 0 then (0, l.map yrR) else (yrsE none l, [])) := by show _ = _; unfold yearsR; rw [if_neg h40]
  obtain ⟨R, eR⟩ : ∃ R, yearsR l = R := ⟨_, rfl⟩
  rw [eR] at HY ⊢
  clear eR
  go_enter Tryd.func12, Tryd.ntmps12
  go_wp2_with fail
  go_loopw [4, 18] (fun v4 i wr => ∃ k : Nat, k ≤ l.length ∧ i = .int .i64 k ∧ Hid (yrsE none l = yrsE (prevA l k) (l.drop k)) ∧ Hid (wr.ownsRow w.heap.size 34 11 v4 k (ruFlatY ((l.take k).map yrR))) ∧ Hid (Below w.heap.size w wr)) (fun _ i _ => l.length - (intOf i).toNat)
  case atStart => exact ⟨0, Nat.zero_le _, rfl, Lib.hid rfl, Lib.hid (World.ownsRow_nil _ _ _ _), Lib.hid (Below.refl _ _)⟩
  case round =>
    obtain ⟨k, hk, rfl, HE, HOW, HBR⟩ := hrel
    have hzr := HBR.out.size
    by_cases hkl : k < l.length
    · obtain ⟨bb, o, rfl, hbl, hcs⟩ := HROW.out (List.ne_nil_of_length_pos (by omega))
      have hck := hcs k hkl
      have hsz := HSZ.out l[k] (List.getElem_mem hkl)
      have hpv : ∀ W : World, Below w.heap.size w W → 0 < k → ∃ x, prevA l k = some x ∧ W.cell? ⟨bb, o + (k - 1) * 3, none⟩ = some (.int .i64 x) := by
        intro W hW hk0
        have hc := hcs (k - 1) (by omega) 0 _ rfl
        refine ⟨(l[k - 1]'(by omega)).a, ?_, (hW.cell (p := ⟨bb, o + (k - 1) * 3, none⟩) hbl).trans hc⟩
        unfold prevA
        rw [if_neg (by omega), List.getElem?_eq_getElem (by omega)]
        rfl
      have hst := yrs_step hkl
      have htk : (l.take (k + 1)).map yrR = (l.take k).map yrR ++ [yrR l[k]] := by rw [List.take_succ_eq_append_getElem hkl, List.map_append]; rfl
      rw [← HE.out] at hst
      obtain ⟨q, eq⟩ : ∃ q, l[k] = q := ⟨_, rfl⟩
      rw [eq] at hck hsz hst htk
      have HPV := Lib.hid hpv
      have HST := Lib.hid hst
      have HTK := Lib.hid htk
      have hbad : ∀ c : Int, c ≠ 0 → tnE (prevA l k) q = c → R = (c, []) := fun c hc e => by
        rw [HY.out]
        rw [e, if_neg hc] at hst
        rw [hst, if_neg hc]
      have HBAD := Lib.hid hbad
      have up : ∀ j u, w.cell? ⟨bb, o + k * 3 + j, none⟩ = some u → wr.cell? ⟨bb, o + k * 3 + j, none⟩ = some u := fun j u h => (HBR.out.cell (p := ⟨bb, o + k * 3 + j, none⟩) hbl).trans h
      clear eq hcs hst htk hpv hbad
      obtain ⟨ta, ts, tl⟩ := q
      have z0 := up 0 _ (hck 0 _ rfl)
      have z1 := up 1 _ (hck 1 _ rfl)
      have z2 := up 2 _ (hck 2 _ rfl)
      rw [Nat.add_zero] at z0
      have ha1 := hsz.a1
      have ha2 := hsz.a2
      have hlz := hsz.l
      simp only at ha1 ha2 hlz z0 z1 z2
      clear up hck hsz HE
      obtain ⟨W1, e1⟩ : ∃ W1, wr.alloc (.cells #[.int .i64 ta, .int .i64 ts, .string tl] 40) = W1 := ⟨_, rfl⟩
      obtain ⟨tb, etb⟩ : ∃ tb, wr.heap.size = tb := ⟨_, rfl⟩
      have hx1 : W1.heap[tb]? = some (.cells #[.int .i64 ta, .int .i64 ts, .string tl] 40 (0, 0)) := by rw [← e1]; exact alloc_at _ _ _ etb.symm
      have hb1 : Below wr.heap.size wr W1 := by rw [← e1]; exact (Below.refl _ _).alloc (Nat.le_refl _) _
      have htb : tb < W1.heap.size := (Array.getElem?_eq_some_iff.mp hx1).1
      have hwtb : w.heap.size ≤ tb := by omega
      have HB1 := Lib.hid (HBR.out.trans (hb1.mono hzr))
      have HOW1 := Lib.hid (own_keep HOW.out fun g e => hb1.block g (World.ownsRow.lt HOW.out g e).2)
      have hnb : u4.ownBlock ≠ some tb := fun e => by have := (World.ownsRow.lt HOW.out _ e).2; omega
      have HNB := Lib.hid hnb
      have HX1 := Lib.hid hx1
      have HE1 := Lib.hid e1
      have HTB := Lib.hid etb
      have HFL := Lib.hid (Floor_any ta 86400 W1 (by decide) (by decide) ha1 ha2)
      have hfr : 0 ≤ ta % 86400 ∧ ta % 86400 < 86400 := ⟨Int.emod_nonneg _ (by decide), Int.emod_lt_of_pos _ (by decide)⟩
      have HTN1 := Lib.hid (fun p => tn1 (p := p) (t := ⟨ta, ts, tl⟩))
      have HTN5 := Lib.hid (fun p => tn5 (p := p) (t := ⟨ta, ts, tl⟩))
      have HTN1b := Lib.hid (fun p => tn1b (p := p) (t := ⟨ta, ts, tl⟩))
      have HTN3 := Lib.hid (fun p => tn3 (p := p) (t := ⟨ta, ts, tl⟩))
      have HTN0 := Lib.hid (fun p => tn0 (p := p) (t := ⟨ta, ts, tl⟩))
      have HYR : Hid (yrR ⟨ta, ts, tl⟩ = ⟨yearsB, Civ.yy (ta / 86400), Civ.yy (ta / 86400), Civ.mm (ta / 86400), 1, 0, if Civ.mm (ta / 86400) = 2 ∧ Civ.dd (ta / 86400) = 29 then 28 else Civ.dd (ta / 86400), if Civ.mm (ta / 86400) = 2 ∧ Civ.dd (ta / 86400) = 29 then ta % 86400 + 86400 else ta % 86400, 2, ts, tl⟩) := rfl
      simp only at HTN1 HTN5 HTN1b HTN3 HTN0
      obtain ⟨n, en⟩ : ∃ n, ta / 86400 = n := ⟨_, rfl⟩
      obtain ⟨rs, ers⟩ : ∃ rs, ta % 86400 = rs := ⟨_, rfl⟩
      rw [en] at HTN1 HTN5 HTN1b HTN3 HTN0 HYR HFL
      rw [ers] at hfr HYR HFL
      have hn1 : -9223372036854775808 ≤ n ∧ n ≤ 9223372036854775807 := by omega
      have y0 : W1.cell? ⟨tb, 0, none⟩ = some (.int .i64 ta) := (cell_of_row W1 _ 0 _ _ _ hx1).trans rfl
      clear e1 etb hb1 hx1 hnb en ers ha1 ha2
      go_upto_region 7 with fail
      rw [HE1.out, HTB.out]
      clear z0 z1 z2
      go_wp2_with fail
      refine HFL.out.mono ?_
      rintro e w2 ⟨rfl, hb2⟩
      have HB2 := Lib.hid (HB1.out.trans (hb2.mono HB1.out.size))
      have hx2 := (hb2.block tb htb).trans HX1.out
      have HX2 := Lib.hid hx2
      have HOW2 := Lib.hid (own_keep HOW1.out fun g e => hb2.block g (World.ownsRow.lt HOW1.out g e).2)
      have htb2 : tb < w2.heap.size := (Array.getElem?_eq_some_iff.mp hx2).1
      clear hb2 hx2 HB1 HX1 HOW1 HFL y0 htb HOW
      by_cases hd : -135140 ≤ n ∧ n ≤ 157053
      case neg =>
        have HBDX := Lib.hid (HBAD.out 1 (by decide) (HTN1.out _ (.inl hd)))
        have hd' : n < -135140 ∨ 157053 < n := by omega
        have HDT := Lib.hid (Date_no n w2 hd')
        go_wp2_with fail
        refine HDT.out.mono ?_
        rintro e w3 ⟨rfl, rfl⟩
        go_wp2_with fail
        go_ret2
        exact YrPost.bad HBDX.out HB2.out
      have HDT := Lib.hid (Date_ok n w2 hd.1 hd.2)
      obtain ⟨Y, eY⟩ : ∃ Y, Civ.yy n = Y := ⟨_, rfl⟩
      obtain ⟨M, eM⟩ : ∃ Y, Civ.mm n = Y := ⟨_, rfl⟩
      obtain ⟨D, eD⟩ : ∃ Y, Civ.dd n = Y := ⟨_, rfl⟩
      rw [eY, eM, eD] at HDT HYR
      rw [eY] at HTN1 HTN5 HTN1b HTN3 HTN0
      clear eY eM eD
      by_cases hy : Y < 1900 ∨ 2100 < Y
      case pos =>
        have HBDX := Lib.hid (HBAD.out 1 (by decide) (HTN1.out _ (.inr hy)))
        rcases hy with hy | hy
        · go_wp2_with fail
          refine HDT.out.mono ?_
          rintro e w3 ⟨rfl, rfl⟩
          go_wp2_with fail
          go_ret2
          exact YrPost.bad HBDX.out HB2.out
        · have hy2 : ¬ Y < 1900 := by omega
          go_wp2_with fail
          refine HDT.out.mono ?_
          rintro e w3 ⟨rfl, rfl⟩
          go_wp2_with fail
          go_ret2
          exact YrPost.bad HBDX.out HB2.out
      have hy1 : ¬ Y < 1900 := by omega
      have hy2 : ¬ 2100 < Y := by omega
      have hno : ¬ (¬ (-135140 ≤ n ∧ n ≤ 157053) ∨ Y < 1900 ∨ 2100 < Y) := by omega
      have HNO := Lib.hid hno
      clear hno hy
      have x0 : w2.cell? ⟨tb, 0, none⟩ = some (.int .i64 ta) := (cell_of_row w2 _ 0 _ _ _ HX2.out).trans rfl
      have HPB : Hid (∃ PB, prevB (prevA l k) ta = PB) := ⟨_, rfl⟩
      obtain ⟨PB, ePB⟩ := HPB.out
      have EPB := Lib.hid ePB
      have hk0 : k = 0 ∨ (0 < k ∧ ∃ x, PB = decide (ta ≤ x) ∧ w2.cell? ⟨bb, o + (k - 1) * 3, none⟩ = some (.int .i64 x)) := by
        by_cases h0 : k = 0
        · exact .inl h0
        · refine .inr ⟨by omega, ?_⟩
          obtain ⟨x, h1, h2⟩ := HPV.out w2 HB2.out (by omega)
          refine ⟨x, ?_, h2⟩
          rw [← ePB, h1]; rfl
      have hp0 : k = 0 → PB = false := fun h0 => by rw [← ePB, h0]; rfl
      have HK0 := Lib.hid hk0
      have HP0 := Lib.hid hp0
      clear ePB hk0 hp0 HPV HPB
      go_wp2_with fail
      refine HDT.out.mono ?_
      rintro e w3 ⟨rfl, rfl⟩
      go_upto_region 11 with fail
      go_cut [47] from 48 to 60 (fun s47 wx => s47 = .bool PB ∧ Hid (∃ nq, wx = w2.drewN nq))
      case first =>
        rcases HK0.out with h0 | ⟨h0, x, hx, hc⟩
        · have hPB := Lib.hid (HP0.out h0)
          subst h0
          go_big_region
          all_goals go_wp2_with fail
          all_goals go_meet
          all_goals exact ⟨congrArg Value.bool hPB.out.symm, Lib.hid ⟨1, rfl⟩⟩
        · obtain ⟨q, rfl⟩ : ∃ q, k = q + 1 := ⟨k - 1, by omega⟩
          rw [Nat.add_sub_cancel] at hc
          have hwp : IntKind.i64.wrap (q : Int) = (q : Int) := by rw [IntKind.wrap_i64]; omega
          have jz1 : (q : Int) < (l.length : Int) := by omega
          have p0 : (0 : Int) < (q : Int) + 1 := by omega
          have gd : decide ((q : Int) + 1 > 0) = true := decide_eq_true (by omega)
          clear h0 HK0 HP0
          by_cases hle : ta ≤ x
          · rw [decide_eq_true hle] at hx
            subst hx
            go_quiet (fail)
            go_wp2_with fail
            go_meet
            exact ⟨rfl, Lib.hid ⟨_, rfl⟩⟩
          · rw [decide_eq_false hle] at hx
            subst hx
            go_quiet (fail)
            go_wp2_with fail
            go_meet
            exact ⟨rfl, Lib.hid ⟨_, rfl⟩⟩
      case rest =>
      obtain ⟨rfl, nq, hwc⟩ := hcut
      obtain ⟨W3, e3⟩ : ∃ W3, w2.drewN nq = W3 := ⟨_, rfl⟩
      rw [hwc, e3]
      have hh3 : W3.heap = w2.heap := by rw [← e3]; rfl
      have HB3 : Hid (Below w.heap.size w W3) := by rw [← e3]; exact below_drewN HB2.out nq
      have hx3 : W3.heap[tb]? = some (.cells #[.int .i64 ta, .int .i64 ts, .string tl] 40 (0, 0)) := by rw [hh3]; exact HX2.out
      have HOW3 := Lib.hid (own_keep (W' := W3) HOW2.out fun g e => by rw [hh3])
      have hz3 : w.heap.size ≤ W3.heap.size := HB3.out.size
      have htb3 : tb < W3.heap.size := (Array.getElem?_eq_some_iff.mp hx3).1
      have x1 : W3.cell? ⟨tb, 1, none⟩ = some (.int .i64 ts) := (cell_of_row W3 _ 1 _ _ _ hx3).trans rfl
      have x2 : W3.cell? ⟨tb, 2, none⟩ = some (.string tl) := (cell_of_row W3 _ 2 _ _ _ hx3).trans rfl
      clear hwc e3 hh3 HX2 HOW2 HB2 x0 htb2 HK0 HP0 wc hx3
      cases PB with
      | true =>
        have HBDX := Lib.hid (HBAD.out 5 (by decide) (HTN5.out _ HNO.out EPB.out))
        go_wp2_with fail
        go_ret2
        exact YrPost.bad HBDX.out HB3.out
      | false =>
      by_cases hs0 : ts < 0
      · have HBDX := Lib.hid (HBAD.out 1 (by decide) (HTN1b.out _ HNO.out EPB.out (.inl hs0)))
        go_wp2_with fail
        go_ret2
        exact YrPost.bad HBDX.out HB3.out
      by_cases hs1 : 10800 < ts
      · have HBDX := Lib.hid (HBAD.out 1 (by decide) (HTN1b.out _ HNO.out EPB.out (.inr hs1)))
        go_wp2_with fail
        go_ret2
        exact YrPost.bad HBDX.out HB3.out
      have HAB := Lib.hid (isAbbr_any tl W3 (by simp only [maxLen]; omega))
      obtain ⟨AB, eAB⟩ : ∃ AB, abbrB tl = AB := ⟨_, rfl⟩
      rw [eAB] at HAB HTN3 HTN0
      clear eAB
      have HL0 : Hid ((tl.toList = [45] ∧ (!tl.toList == [45]) = false) ∨ (tl.toList ≠ [45] ∧ (!tl.toList == [45]) = true)) := by
        show _ ∨ _
        by_cases hL : tl.toList = [45]
        · exact .inl ⟨hL, by rw [hL]; rfl⟩
        · exact .inr ⟨hL, by simp [hL]⟩
      go_upto_region 15 with fail
      go_cut [70] from 71 to 79 (fun s70 wx => s70 = .bool (decide (tl.toList ≠ [45] ∧ AB = false)) ∧ wx = W3)
      case first =>
        rcases HL0.out with ⟨hL, hL2⟩ | ⟨hL, hL2⟩
        · have hd : decide (tl.toList ≠ [45] ∧ AB = false) = false := decide_eq_false fun g => g.1 hL
          clear hL
          go_wp2_with fail
          go_meet
          exact ⟨congrArg Value.bool hd.symm, rfl⟩
        · have hd : decide (tl.toList ≠ [45] ∧ AB = false) = !AB := by cases AB <;> simp [hL]
          clear hL
          go_wp2_with fail
          refine HAB.out.mono ?_
          rintro e w4 ⟨rfl, rfl⟩
          go_wp2_with fail
          go_meet
          exact ⟨congrArg Value.bool hd.symm, rfl⟩
      case rest =>
      obtain ⟨rfl, hwc⟩ := hcut
      rw [hwc]
      clear hwc wc HL0 HAB
      by_cases hbl : tl.toList ≠ [45] ∧ AB = false
      · have HBDX := Lib.hid (HBAD.out 3 (by decide) (HTN3.out _ HNO.out EPB.out (by omega) ⟨by rw [← ByteArray.toList_eq]; exact hbl.1, hbl.2⟩))
        rw [decide_eq_true hbl]
        go_wp2_with fail
        go_ret2
        exact YrPost.bad HBDX.out HB3.out
      rw [decide_eq_false hbl]
      have hok := HTN0.out _ HNO.out EPB.out (by omega) (fun g => hbl ⟨by rw [ByteArray.toList_eq]; exact g.1, g.2⟩)
      have HST2 := Lib.hid (HST.out.trans (by rw [if_pos hok]))
      clear hok hbl HBAD HTN0 HTN1 HTN1b HTN3 HTN5 HNO EPB HST
      have HREL : ∀ (D2 rs2 : Int), (if M = 2 ∧ D = 29 then 28 else D) = D2 → (if M = 2 ∧ D = 29 then rs + 86400 else rs) = rs2 → Hid ((l.take (k + 1)).map yrR = (l.take k).map yrR ++ [⟨yearsB, Y, Y, M, 1, 0, D2, rs2, 2, ts, tl⟩]) := by
        intro D2 rs2 h1 h2
        show _ = _
        rw [HTK.out, HYR.out, h1, h2]
      have HRL := Lib.hid HREL
      clear HREL HTK HYR
      obtain ⟨A, cA, rfl⟩ := own_sliceN HOW3.out
      have HRC : Hid (∀ (D2 rs2 : Int) (o' : Obj), (W3.alloc o').ownsRow w.heap.size 34 11 (.slice A k cA) k (ruFlatY ((l.take k).map yrR))) := by
        show ∀ D2 rs2 o', _
        intro D2 rs2 o'
        exact World.ownsRow.alloc HOW3.out o'
      have HML : k + 1 ≤ maxLen := by simp only [maxLen]; omega
      have HMB : (k + 1) * 104 ≤ 140737488355328 := by omega
      have HS2 : Hid (∀ o' : Obj, w.heap.size ≤ (W3.alloc o').heap.size) := by
        show ∀ o' : Obj, _
        intro o'; simp; omega
      have h3 : ∃ D2 rs2 : Int, ((M = 2 ∧ D = 29 ∧ D2 = 28 ∧ rs2 = rs + 86400) ∨ (M = 2 ∧ D ≠ 29 ∧ D2 = D ∧ rs2 = rs) ∨ (M ≠ 2 ∧ D2 = D ∧ rs2 = rs)) ∧ Hid ((l.take (k + 1)).map yrR = (l.take k).map yrR ++ [⟨yearsB, Y, Y, M, 1, 0, D2, rs2, 2, ts, tl⟩]) := by
        by_cases hM : M = 2
        · by_cases hD : D = 29
          · exact ⟨28, rs + 86400, .inl ⟨hM, hD, rfl, rfl⟩, HRL.out 28 (rs + 86400) (if_pos ⟨hM, hD⟩) (if_pos ⟨hM, hD⟩)⟩
          · exact ⟨D, rs, .inr (.inl ⟨hM, hD, rfl, rfl⟩), HRL.out D rs (if_neg fun g => hD g.2) (if_neg fun g => hD g.2)⟩
        · exact ⟨D, rs, .inr (.inr ⟨hM, rfl, rfl⟩), HRL.out D rs (if_neg fun g => hM g.1) (if_neg fun g => hM g.1)⟩
      obtain ⟨D2, rs2, hw3, HTK⟩ := h3
      clear HRL
      have HNEW := Lib.hid (World.news_of_block (cs := #[.string yearsB, .int .i64 Y, .int .i64 Y, .int .i64 M, .int .i64 1, .int .i64 0, .int .i64 D2, .int .i64 rs2, .int .i64 2, .int .i64 ts, .string tl]) (t := 34) (fr := (0, 0)) (heap_alloc_new W3 (.cells #[.string yearsB, .int .i64 Y, .int .i64 Y, .int .i64 M, .int .i64 1, .int .i64 0, .int .i64 D2, .int .i64 rs2, .int .i64 2, .int .i64 ts, .string tl] 34)))
      have HROW2 := Lib.hid (HRC.out D2 rs2 (.cells #[.string yearsB, .int .i64 Y, .int .i64 Y, .int .i64 M, .int .i64 1, .int .i64 0, .int .i64 D2, .int .i64 rs2, .int .i64 2, .int .i64 ts, .string tl] 34))
      have HSZ3 := HS2.out (.cells #[.string yearsB, .int .i64 Y, .int .i64 Y, .int .i64 M, .int .i64 1, .int .i64 0, .int .i64 D2, .int .i64 rs2, .int .i64 2, .int .i64 ts, .string tl] 34)
      rcases hw3 with ⟨hM, hD, rfl, rfl⟩ | ⟨hM, hD, rfl, rfl⟩ | ⟨hM, rfl, rfl⟩
      · have hw : IntKind.i64.wrap (rs + 86400) = rs + 86400 := IntWalk.i64_in _ (by omega)
        have hMb : (M == 2) = true := by simpa using hM
        have hDb : (D == 29) = true := by simpa using hD
        clear hM hD
        go_wp2_with (at_builtin; refine wpList_append_own _ rfl _ _ 22 rfl w.heap.size 34 i1 (.agg #[.string ⟨#[]⟩, .int .i64 0, .int .i64 0, .int .i64 0, .int .i64 0, .int .i64 0, .int .i64 0, .int .i64 0, .int .i64 0, .int .i64 0, .string ⟨#[]⟩]) 11 104 undRuY hi1 hz10 hz11 hz12 rfl (by decide) _ _ _ rfl HROW2.out ⟨W3.heap.size, 0, none⟩ 1 1 [.string yearsB, .int .i64 Y, .int .i64 Y, .int .i64 M, .int .i64 1, .int .i64 0, .int .i64 28, .int .i64 (rs + 86400), .int .i64 2, .int .i64 ts, .string tl] rfl rfl HNEW.out (by simp [Value.oneCell']) HML HMB HSZ3 ?_; intro v' w10 hown10 hgrow10 _)
        go_roundw
        case rel =>
          refine ⟨k + 1, by omega, by go_num, Lib.hid HST2.out, Lib.hid ?_, Lib.hid ((HB3.out.alloc hz3 _).grown hgrow10 HSZ3 fun q hq => (World.ownsRow.lt HROW2.out q hq).1)⟩
          rw [HTK.out, ruFlatY_snoc]
          exact hown10
        case measure => simp [intOf]; omega
      · have hMb : (M == 2) = true := by simpa using hM
        have hDb : (D2 == 29) = false := by simpa using hD
        clear hM hD
        go_wp2_with (at_builtin; refine wpList_append_own _ rfl _ _ 22 rfl w.heap.size 34 i1 (.agg #[.string ⟨#[]⟩, .int .i64 0, .int .i64 0, .int .i64 0, .int .i64 0, .int .i64 0, .int .i64 0, .int .i64 0, .int .i64 0, .int .i64 0, .string ⟨#[]⟩]) 11 104 undRuY hi1 hz10 hz11 hz12 rfl (by decide) _ _ _ rfl HROW2.out ⟨W3.heap.size, 0, none⟩ 1 1 [.string yearsB, .int .i64 Y, .int .i64 Y, .int .i64 M, .int .i64 1, .int .i64 0, .int .i64 D2, .int .i64 rs2, .int .i64 2, .int .i64 ts, .string tl] rfl rfl HNEW.out (by simp [Value.oneCell']) HML HMB HSZ3 ?_; intro v' w10 hown10 hgrow10 _)
        go_roundw
        case rel =>
          refine ⟨k + 1, by omega, by go_num, Lib.hid HST2.out, Lib.hid ?_, Lib.hid ((HB3.out.alloc hz3 _).grown hgrow10 HSZ3 fun q hq => (World.ownsRow.lt HROW2.out q hq).1)⟩
          rw [HTK.out, ruFlatY_snoc]
          exact hown10
        case measure => simp [intOf]; omega
      · have hMb : (M == 2) = false := by simpa using hM
        clear hM
        go_wp2_with (at_builtin; refine wpList_append_own _ rfl _ _ 22 rfl w.heap.size 34 i1 (.agg #[.string ⟨#[]⟩, .int .i64 0, .int .i64 0, .int .i64 0, .int .i64 0, .int .i64 0, .int .i64 0, .int .i64 0, .int .i64 0, .int .i64 0, .string ⟨#[]⟩]) 11 104 undRuY hi1 hz10 hz11 hz12 rfl (by decide) _ _ _ rfl HROW2.out ⟨W3.heap.size, 0, none⟩ 1 1 [.string yearsB, .int .i64 Y, .int .i64 Y, .int .i64 M, .int .i64 1, .int .i64 0, .int .i64 D2, .int .i64 rs2, .int .i64 2, .int .i64 ts, .string tl] rfl rfl HNEW.out (by simp [Value.oneCell']) HML HMB HSZ3 ?_; intro v' w10 hown10 hgrow10 _)
        go_roundw
        case rel =>
          refine ⟨k + 1, by omega, by go_num, Lib.hid HST2.out, Lib.hid ?_, Lib.hid ((HB3.out.alloc hz3 _).grown hgrow10 HSZ3 fun q hq => (World.ownsRow.lt HROW2.out q hq).1)⟩
          rw [HTK.out, ruFlatY_snoc]
          exact hown10
        case measure => simp [intOf]; omega
    · obtain rfl : k = l.length := by omega
      have HFIN : Hid (R = (0, l.map yrR)) := by show _ = _; rw [HY.out, HE.out, yrs_done]; rfl
      have hown := HOW.out
      rw [List.take_length] at hown
      go_wp2_with fail
      go_ret2
      rw [HFIN.out]
      refine ⟨_, rfl, ?_, HBR.out⟩
      show World.ownsRow _ _ _ _ _ (l.map yrR).length _
      rw [List.length_map]
      exact hown
end Go.Proofs.YtmpeplimiaaehaaDoor
namespace Go.Proofs.YtmpeplimiaaehaaDoor
open Go.RowKit Go.Joins Go.WideShapes
set_option linter.unusedVariables false
section
variable {H : Type} {enc : TypeId × Value → H} {w : World} {base : Nat} {spare : Nat → Bool} {held : Bool}
theorem cellsTn : Tryd.prog.cellsOf 40 = 3 := by kernel_rfl
instance : Inhabited Tn := ⟨⟨0, 0, ⟨#[]⟩⟩⟩
theorem list3 {α : Type} (l : List α) (h : l.length = 3) : ∃ a b c, l = [a, b, c] := by
  match l, h with
  | [a, b, c], _ => exact ⟨a, b, c, rfl⟩
set_option maxRecDepth 100000 in
theorem Tn_trodB {fuel : Nat} {l : List Value} {x : DataW H × List MemPlace} (hl : l.length = 3) (h : DataW.trod enc Tryd.prog w base spare held fuel 40 l = some x) (hs : Szd 40 x.1) :
    ∃ q : Tn, l = tnC q ∧ SzTn q := by
  obtain ⟨c0, c1, c2, rfl⟩ := list3 l hl
  obtain ⟨xs, n, _, hx, _, hl, hf⟩ := DataW.trod_struct Tryd.underlying40 h
  have hl3 : xs.length = 3 := hl
  have h0 := hf 0 _ rfl
  have h1 := hf 1 _ rfl
  have h2 := hf 2 _ rfl
  rw [List.getElem?_eq_getElem (by omega)] at h0 h1 h2
  rw [hx] at hs
  have s2 := sz_agg Tryd.underlying40 hs (j := 2) rfl (d := xs[2].1) (by rw [List.getElem?_map, List.getElem?_eq_getElem (by omega)]; rfl)
  obtain ⟨a, rfl, o1, o2⟩ := trod_iB (v := c0) h0
  obtain ⟨s, rfl, v1, v2⟩ := trod_iB (v := c1) h1
  obtain ⟨t, rfl, z⟩ := trod_sB (v := c2) h2 s2
  exact ⟨⟨a, s, t⟩, rfl, o1, o2, z⟩
set_option maxRecDepth 100000 in
theorem Tn_open {r : Reach} {b0 : Nat} {v : Value} {d : DataW H} {p : List MemPlace} (hv : Value.okWide Tryd.prog w r b0 35 v) (h : DataW.Trod enc Tryd.prog w base spare held 35 v d p)
    (hs : Szd 35 d) : ∃ l : List Tn, RowsAt tnC 3 w.heap.size w v l ∧ ∀ t ∈ l, SzTn t := by
  obtain ⟨a1, len, cap, rfl⟩ := okWide_slice Tryd.underlying35 hv
  obtain ⟨fuel, hf⟩ := h
  exact open_rows tnC 3 SzTn (t := 35) (e := 40) (by kernel_rfl) cellsTn (of_decide_eq_true (by kernel_rfl)) (by decide) (fun fuel l x hl h hs => Tn_trodB hl h hs) (v := .slice a1 len cap) (x := (d, p)) hf hs
end
end Go.Proofs.YtmpeplimiaaehaaDoor
namespace Go.Proofs.YtmpeplimiaaehaaDoor
open Go.RowKit Go.Joins
open Classical
set_option linter.unusedVariables false
set_option linter.unusedSimpArgs false

theorem bytes_neT {a b : ByteArray} (h : a ≠ b) : (a.toList == b.toList) = false := by
  cases he : a.toList == b.toList
  · rfl
  · have : a.toList = b.toList := by simpa using he
    rw [ByteArray.toList_eq, ByteArray.toList_eq] at this
    exact absurd (by cases a; cases b; simp_all) h
theorem tn_eq {x y : Tn} : x = y ↔ x.a = y.a ∧ x.s = y.s ∧ x.lt = y.lt := by
  cases x; cases y; simp
theorem fieldsTn : (Tryd.prog.fieldsOf 40).toList = [{ name := "At", type := 3, offset := 0, embedded := false, tag := "", pkgPath := "", byteOffset := 0 }, { name := "Save", type := 3, offset := 1, embedded := false, tag := "", pkgPath := "", byteOffset := 8 }, { name := "Letter", type := 9, offset := 2, embedded := false, tag := "", pkgPath := "", byteOffset := 16 }] := by kernel_rfl
theorem agg_tn : Tryd.prog.underlying 40 = some (.struct (Tryd.prog.fieldsOf 40)) := by kernel_rfl
theorem stood_tn : Tryd.prog.stoodInHeld 40 = false := by kernel_rfl
theorem neq_tn (x y : Tn) (W : World) : (binOp .neq 40 (.agg #[.int .i64 x.a, .int .i64 x.s, .string x.lt]) (.agg #[.int .i64 y.a, .int .i64 y.s, .string y.lt])).run Tryd.prog W = .ok (.bool (!decide (x = y))) W := by
  rw [run_neq_struct, run_equalIn_agg W 9999 _ _ _ agg_tn stood_tn, fieldsTn]
  by_cases h1 : x.a = y.a
  · by_cases h2 : x.s = y.s
    · by_cases h3 : x.lt = y.lt
      · have e : x = y := tn_eq.2 ⟨h1, h2, h3⟩
        simp [go_sem, Op.eqFields, Tryd.underlying3, Tryd.underlying9, e]
      · have e : ¬ x = y := fun e => h3 (by rw [e])
        simp [go_sem, Op.eqFields, Tryd.underlying3, Tryd.underlying9, e, h1, h2, bytes_neT h3]
    · have e : ¬ x = y := fun e => h2 (by rw [e])
      simp [go_sem, Op.eqFields, Tryd.underlying3, Tryd.underlying9, e, h1, h2]
  · have e : ¬ x = y := fun e => h1 (by rw [e])
    simp [go_sem, Op.eqFields, Tryd.underlying3, Tryd.underlying9, e, h1]
theorem eql_tn (x y : Tn) (W : World) : (binOp .eql 40 (.agg #[.int .i64 x.a, .int .i64 x.s, .string x.lt]) (.agg #[.int .i64 y.a, .int .i64 y.s, .string y.lt])).run Tryd.prog W = .ok (.bool (decide (x = y))) W := by
  rw [run_eql_struct, run_equalIn_agg W 9999 _ _ _ agg_tn stood_tn, fieldsTn]
  by_cases h1 : x.a = y.a
  · by_cases h2 : x.s = y.s
    · by_cases h3 : x.lt = y.lt
      · have e : x = y := tn_eq.2 ⟨h1, h2, h3⟩
        simp [go_sem, Op.eqFields, Tryd.underlying3, Tryd.underlying9, e]
      · have e : ¬ x = y := fun e => h3 (by rw [e])
        simp [go_sem, Op.eqFields, Tryd.underlying3, Tryd.underlying9, e, h1, h2, bytes_neT h3]
    · have e : ¬ x = y := fun e => h2 (by rw [e])
      simp [go_sem, Op.eqFields, Tryd.underlying3, Tryd.underlying9, e, h1, h2]
  · have e : ¬ x = y := fun e => h1 (by rw [e])
    simp [go_sem, Op.eqFields, Tryd.underlying3, Tryd.underlying9, e, h1]
theorem list_neT {α : Type} {l m : List α} {k : Nat} (h1 : k < l.length) (h2 : k < m.length) (h : l[k] ≠ m[k]) : l ≠ m := by
  intro e
  subst e
  exact h rfl
theorem list_eqT {α : Type} {l m : List α} (h : l.length = m.length) (hs : ∀ j (h1 : j < l.length) (h2 : j < m.length), l[j] = m[j]) : l = m := List.ext_getElem h hs

set_option maxRecDepth 100000 in
set_option maxHeartbeats 1000000 in
theorem EqTn_any (l m : List Tn) (v v2 : Value) (w : World) (h1 : RowsAt tnC 3 w.heap.size w v l) (h2 : RowsAt tnC 3 w.heap.size w v2 m) :
    Calls Tryd.prog 10 #[v, v2] w fun e w' => e = .returned (.bool (decide (l = m))) ∧ Below w.heap.size w w' := by
  obtain ⟨p, cap, rfl, hl, g1⟩ := h1
  obtain ⟨p2, cap2, rfl, hl2, g2⟩ := h2
  have HA := Lib.hid g1
  have HB := Lib.hid g2
  clear g1 g2
  by_cases hlen : l.length = m.length
  · obtain ⟨R, eR⟩ : ∃ R, decide (l = m) = R := ⟨_, rfl⟩
    rw [eR]
    have ER := Lib.hid eR
    have HLEN := Lib.hid hlen
    rw [← hlen] at hl2 ⊢
    clear eR hlen
    go_enter Tryd.func10, Tryd.ntmps10
    go_wp2
    go_loopw [14] (fun i wr => ∃ k : Nat, k ≤ l.length ∧ i = .int .i64 k ∧ (∀ j (h : j < k) (h1 : j < l.length) (h2 : j < m.length), l[j] = m[j]) ∧ Below w.heap.size w wr) (fun i _ => l.length - (intOf i).toNat)
    case atStart => exact ⟨0, Nat.zero_le _, rfl, fun j h => absurd h (Nat.not_lt_zero j), Below.refl _ _⟩
    case round =>
      obtain ⟨k, hk, rfl, hsame, hbel⟩ := hrel
      have HS := Lib.hid hsame
      clear hsame
      by_cases hlt : k < l.length
      · have hlt2 : k < m.length := by have := HLEN.out; omega
        obtain ⟨x, ex⟩ : ∃ x, l[k] = x := ⟨_, rfl⟩
        obtain ⟨y, ey⟩ : ∃ y, m[k] = y := ⟨_, rfl⟩
        have hne0 : l ≠ [] := by intro e; rw [e] at hlt; simp at hlt
        have hne1 : m ≠ [] := by intro e; rw [e] at hlt2; simp at hlt2
        obtain ⟨b, o, rfl, hb, ha0⟩ := HA.out hne0
        obtain ⟨b2, o2, rfl, hb2, hc0⟩ := HB.out hne1
        have ha := ha0 k hlt
        have hc := hc0 k hlt2
        rw [ex] at ha
        rw [ey] at hc
        have up : ∀ bb oo u, bb < w.heap.size → w.cell? ⟨bb, oo, none⟩ = some u → wr.cell? ⟨bb, oo, none⟩ = some u := fun bb oo u hlt h => (hbel.cell (p := ⟨bb, oo, none⟩) hlt).trans h
        have a0 := up _ _ _ hb (ha 0 _ rfl)
        have a1 := up _ _ _ hb (ha 1 _ rfl)
        have a2 := up _ _ _ hb (ha 2 _ rfl)
        have d0 := up _ _ _ hb2 (hc 0 _ rfl)
        have d1 := up _ _ _ hb2 (hc 1 _ rfl)
        have d2 := up _ _ _ hb2 (hc 2 _ rfl)
        rw [Nat.add_zero] at a0 d0
        have hlb := World.block_lt_of_cell? _ _ a0
        have hlb2 := World.block_lt_of_cell? _ _ d0
        have hq := neq_tn x y
        have HBL := Lib.hid hbel
        by_cases hxy : x = y
        · have hd : (!decide (x = y)) = false := by simpa using hxy
          rw [hd] at hq
          have hs2 : ∀ j (h : j < k + 1) (h1 : j < l.length) (h2 : j < m.length), l[j] = m[j] := fun j hj h1 h2 => by
            by_cases e : j = k
            · subst e; rw [ex, ey, hxy]
            · exact HS.out j (by omega) h1 h2
          have HS2 := Lib.hid hs2
          clear ex ey hbel ha0 hc0 ha hc up hne0 hne1 hxy hd hs2
          go_wp2
          go_quiet (fail)
          go_wp2
          go_roundw
          case rel => exact ⟨k + 1, by omega, by go_num, HS2.out, by first | exact below_drewN HBL.out _ | exact below_drewN (HBL.out.alloc HBL.out.size _) _⟩
          case measure => simp [intOf]; omega
        · have hd : (!decide (x = y)) = true := by simpa using hxy
          rw [hd] at hq
          have hR : Hid (R = false) := by
            show _ = _
            rw [← ER.out]
            have : l ≠ m := list_neT hlt hlt2 (by rw [ex, ey]; exact hxy)
            simpa using this
          clear ex ey hbel ha0 hc0 ha hc up hne0 hne1 hxy hd
          go_wp2
          go_quiet (fail)
          go_wp2
          go_ret
          exact ⟨ret_bool hR.out.symm, by first | exact below_drewN HBL.out _ | exact below_drewN (HBL.out.alloc HBL.out.size _) _⟩
      · obtain rfl : k = l.length := by omega
        have hR : Hid (R = true) := by
          show _ = _
          rw [← ER.out]
          have : l = m := list_eqT HLEN.out (fun j h1 h2 => HS.out j h1 h1 h2)
          simpa using this
        go_wp2
        go_ret
        exact ⟨ret_bool hR.out.symm, hbel⟩
  · have hR : decide (l = m) = false := by simp; intro e; exact hlen (by rw [e])
    rw [hR]
    have hli : ¬ (l.length : Int) = (m.length : Int) := by omega
    clear hR hlen
    go_enter Tryd.func10, Tryd.ntmps10
    go_wp2
    go_ret
    exact ⟨rfl, Below.refl _ _⟩
def ru0T : Ru := ⟨⟨#[65]⟩, 1970, 1970, 1, 1, 0, 2, 0, 0, 3600, ⟨#[45]⟩⟩
theorem ru0_ok : OkRu ru0T := ru_ok (by kernel_rfl)
theorem of0 : ofR ⟨[ru0T], [], []⟩ ⟨#[65]⟩ 7200 = (0, [⟨79200, 3600, ⟨#[45]⟩⟩]) := by
  have h1 : bkChk ⟨[ru0T], [], []⟩ = 0 := chk_rules (by simp) (fun r hr => by rw [List.mem_singleton.1 hr]; exact ru0_ok)
  rw [ofR_mk h1 (by omega)]
  refine mkR_0 (by simp [ru0T]) ?_ ?_
  · have : yearsOf [ru0T] ⟨#[65]⟩ = 1 := by simp [yearsOf, ru0T]
    show ¬ 1500 < yearsOf [ru0T] ⟨#[65]⟩
    omega
  · have : nomsOf dayN [ru0T] ⟨#[65]⟩ = [(86400, ru0T)] := by
      have e : dayN ru0T 1970 = 1 := by kernel_rfl
      simp [nomsOf, nomOf, ru0T] at *
      simp [e]
    show outF 7200 0 none (srt (nomsOf dayN [ru0T] ⟨#[65]⟩)) = _
    rw [this]
    unfold srt
    rw [List.mergeSort_singleton]
    rfl
theorem ru0_sz : SzR ru0T := ⟨by decide, by decide⟩

set_option maxRecDepth 100000 in
set_option maxHeartbeats 4000000 in
theorem turned_any (MK : MakeSays) (w : World) (hm : MaxLen w) (ht : Tab10 w) :
    Calls Tryd.prog 6 #[] w fun e w' => e = .returned (.bool true) ∧ Below w.heap.size w w' := by
  obtain ⟨W1, eW⟩ : ∃ W1, (w.alloc (.cells #[.string ⟨#[65]⟩, .int .i64 1970, .int .i64 1970, .int .i64 1, .int .i64 1, .int .i64 0, .int .i64 2, .int .i64 0, .int .i64 0, .int .i64 3600, .string ⟨#[45]⟩] 34)).alloc (.cells #[.slice (some ⟨w.heap.size, 0, none⟩) 1 1, .slice none 0 0, .slice none 0 0] 26) = W1 := ⟨_, rfl⟩
  have hb1 : Below w.heap.size w W1 := by rw [← eW]; exact ((Below.refl _ _).alloc (Nat.le_refl _) _).alloc (by simp) _
  have hr1 : W1.heap[w.heap.size]? = some (.cells (ruCells ru0T) 34 (0, 0)) := by
    rw [← eW]
    exact (Below.heap_alloc _ _ _ (by simp)).trans (heap_alloc_new w _)
  have hz1 : w.heap.size < W1.heap.size := by rw [← eW]; simp; omega
  have hx1 : W1.heap[w.heap.size + 1]? = some (.cells #[.slice (some ⟨w.heap.size, 0, none⟩) 1 1, .slice none 0 0, .slice none 0 0] 26 (0, 0)) := by
    rw [← eW]
    exact alloc_at _ _ _ (by simp)
  have x0 := (cell_of_row W1 _ 0 _ _ _ hx1).trans rfl
  have x1 := (cell_of_row W1 _ 1 _ _ _ hx1).trans rfl
  have x2 := (cell_of_row W1 _ 2 _ _ _ hx1).trans rfl
  have hRA : RowsAt (fun r : Ru => (ruCells r).toList) 11 W1.heap.size W1 (.slice (some ⟨w.heap.size, 0, none⟩) 1 1) [ru0T] := rows_one hr1 hz1
  have HOF := Lib.hid (Of_book MK ⟨[ru0T], [], []⟩ _ _ _ ⟨#[65]⟩ 7200 W1 (book_rules hRA (fun r hr => by rw [List.mem_singleton.1 hr]; exact ru0_sz)) (hm.below hb1) (ht.below hb1))
  have HEW := Lib.hid eW
  have HB1 := Lib.hid hb1
  have hq : ∀ W, (binOp .eql 40 (.agg #[.int .i64 79200, .int .i64 3600, .string ⟨#[45]⟩]) (.agg #[.int .i64 79200, .int .i64 3600, .string ⟨#[45]⟩])).run Tryd.prog W = .ok (.bool true) W := fun W => by
    rw [eql_tn ⟨79200, 3600, ⟨#[45]⟩⟩ ⟨79200, 3600, ⟨#[45]⟩⟩ W, decide_eq_true rfl]
  have HEQ := Lib.hid hq
  rw [of0] at HOF
  clear eW hb1 hr1 hRA hm ht hx1 hq
  go_enter Tryd.func6, Tryd.ntmps6
  go_upto_region 2 with fail
  rw [HEW.out]
  go_wp2_with fail
  refine HOF.out.mono ?_
  rintro e w2 ⟨vo, rfl, hrow, hb2⟩
  have HB2 := Lib.hid (HB1.out.trans (hb2.mono HB1.out.size))
  rcases own_cells hrow with ⟨-, h0⟩ | ⟨g, c, rfl, -, hg, hc⟩
  · cases h0
  have y0 := hc 0 _ rfl
  have y1 := hc 1 _ rfl
  have y2 := hc 2 _ rfl
  have hq := HEQ.out
  clear hc hrow hb2 x0 x1 x2 HOF HEQ
  dsimp only [List.length_cons, List.length_nil]
  go_wp2_with fail
  go_ret
  exact ⟨rfl, HB2.out⟩
end Go.Proofs.YtmpeplimiaaehaaDoor
namespace Go.Proofs.YtmpeplimiaaehaaDoor
open Go.RowKit
set_option linter.unusedVariables false

structure Ty where
  off : Int
  save : Bool
  name : ByteArray
abbrev tyV (x : Ty) : Value := .agg #[.int .i64 x.off, .bool x.save, .string x.name]
structure Ch where
  t : Int
  k : Int
structure Tab where
  types : List Ty
  first : Int
  chs : List Ch

def okOff (x : Int) : Bool := decide (-75600 ≤ x ∧ x ≤ 75600)
def okTime (x : Int) : Bool := decide (-1099511627776 ≤ x ∧ x ≤ 1099511627776)
def okIdx (last x : Int) : Bool := decide (0 ≤ x ∧ x ≤ last)

def chkTypes : List Ty → Int
  | [] => 0
  | x :: r => if okOff x.off = true then (if abbrB x.name = true then chkTypes r else 3) else 1

def before (prev : Option Int) (x : Int) : Bool := match prev with
  | some p => decide (x ≤ p)
  | none => false

def chkChs (last : Int) : Option Int → List Ch → Int
  | _, [] => 0
  | prev, c :: r => if (okTime c.t && okIdx last c.k) = true then (if before prev c.t = true then 5 else chkChs last (some c.t) r) else 1

def big (t : Tab) : Bool := decide (250 < t.types.length ∨ 1000 < t.chs.length)

def chk (t : Tab) : Int :=
  if big t = true then 2 else
  if t.types = [] then 5 else
  if chkTypes t.types = 0 then (if okIdx ((t.types.length : Int) - 1) t.first = true then chkChs ((t.types.length : Int) - 1) none t.chs else 1) else chkTypes t.types

/-- the time of the change ahead of number k -/
def prevOf (l : List Ch) : Nat → Option Int
  | 0 => none
  | k + 1 => (l[k]?).map (·.t)

/-! ### tables in memory -/
def tyAt (w : World) (b o : Nat) (x : Ty) : Prop :=
  w.cell? ⟨b, o, none⟩ = some (.int .i64 x.off) ∧ w.cell? ⟨b, o + 1, none⟩ = some (.bool x.save) ∧ w.cell? ⟨b, o + 2, none⟩ = some (.string x.name)
def chAt (w : World) (b o : Nat) (x : Ch) : Prop :=
  w.cell? ⟨b, o, none⟩ = some (.int .i64 x.t) ∧ w.cell? ⟨b, o + 1, none⟩ = some (.int .i64 x.k)

structure SlTy (w : World) (v : Value) (l : List Ty) : Prop where
  shape : ∃ p cap, v = .slice p l.length cap ∧ (l ≠ [] → ∃ b o, p = some ⟨b, o, none⟩ ∧ b < w.heap.size ∧ ∀ i (h : i < l.length), tyAt w b (o + i * 3) l[i])
  size : l.length ≤ maxLen
  names : ∀ x ∈ l, x.name.size ≤ maxLen
structure SlCh (w : World) (v : Value) (l : List Ch) : Prop where
  shape : ∃ p cap, v = .slice p l.length cap ∧ (l ≠ [] → ∃ b o, p = some ⟨b, o, none⟩ ∧ b < w.heap.size ∧ ∀ i (h : i < l.length), chAt w b (o + i * 2) l[i])
  size : l.length ≤ maxLen

structure TabAt (w : World) (v : Value) (t : Tab) : Prop where
  val : ∃ sv cv, v = .agg #[sv, .int .i64 t.first, cv] ∧ SlTy w sv t.types ∧ SlCh w cv t.chs

theorem tyAt.below {w w' : World} {b o : Nat} {x : Ty} (h : tyAt w b o x) (hb : Below w.heap.size w w') (hlt : b < w.heap.size) : tyAt w' b o x :=
  ⟨(hb.cell (p := ⟨b, o, none⟩) hlt).trans h.1, (hb.cell (p := ⟨b, o + 1, none⟩) hlt).trans h.2.1, (hb.cell (p := ⟨b, o + 2, none⟩) hlt).trans h.2.2⟩
theorem chAt.below {w w' : World} {b o : Nat} {x : Ch} (h : chAt w b o x) (hb : Below w.heap.size w w') (hlt : b < w.heap.size) : chAt w' b o x :=
  ⟨(hb.cell (p := ⟨b, o, none⟩) hlt).trans h.1, (hb.cell (p := ⟨b, o + 1, none⟩) hlt).trans h.2⟩

theorem SlTy.below {w w' : World} {v : Value} {l : List Ty} (h : SlTy w v l) (hb : Below w.heap.size w w') : SlTy w' v l := by
  obtain ⟨⟨p, cap, hv, hc⟩, h2, h3⟩ := h
  refine ⟨⟨p, cap, hv, fun hne => ?_⟩, h2, h3⟩
  obtain ⟨b, o, hp, hlt, hat⟩ := hc hne
  exact ⟨b, o, hp, Nat.lt_of_lt_of_le hlt hb.size, fun i h => (hat i h).below hb hlt⟩
theorem SlCh.below {w w' : World} {v : Value} {l : List Ch} (h : SlCh w v l) (hb : Below w.heap.size w w') : SlCh w' v l := by
  obtain ⟨⟨p, cap, hv, hc⟩, h2⟩ := h
  refine ⟨⟨p, cap, hv, fun hne => ?_⟩, h2⟩
  obtain ⟨b, o, hp, hlt, hat⟩ := hc hne
  exact ⟨b, o, hp, Nat.lt_of_lt_of_le hlt hb.size, fun i h => (hat i h).below hb hlt⟩
theorem TabAt.below {w w' : World} {v : Value} {t : Tab} (h : TabAt w v t) (hb : Below w.heap.size w w') : TabAt w' v t := by
  obtain ⟨sv, cv, hv, h1, h2⟩ := h.val
  exact ⟨sv, cv, hv, h1.below hb, h2.below hb⟩

theorem chkTypes_drop (l : List Ty) (k : Nat) (h : k < l.length) (ho : okOff l[k].off = true) (ha : abbrB l[k].name = true) : chkTypes (l.drop k) = chkTypes (l.drop (k + 1)) := by
  rw [List.drop_eq_getElem_cons h]; simp [chkTypes, ho, ha]
theorem chkTypes_off (l : List Ty) (k : Nat) (h : k < l.length) (ho : okOff l[k].off = false) : chkTypes (l.drop k) = 1 := by
  rw [List.drop_eq_getElem_cons h]; simp [chkTypes, ho]
theorem chkTypes_abbr (l : List Ty) (k : Nat) (h : k < l.length) (ho : okOff l[k].off = true) (ha : abbrB l[k].name = false) : chkTypes (l.drop k) = 3 := by
  rw [List.drop_eq_getElem_cons h]; simp [chkTypes, ho, ha]

theorem chkChs_drop (last : Int) (l : List Ch) (k : Nat) (h : k < l.length) (ho : (okTime l[k].t && okIdx last l[k].k) = true) (hb : before (prevOf l k) l[k].t = false) :
    chkChs last (prevOf l k) (l.drop k) = chkChs last (prevOf l (k + 1)) (l.drop (k + 1)) := by
  rw [List.drop_eq_getElem_cons h]
  have e : prevOf l (k + 1) = some l[k].t := by simp [prevOf, h]
  rw [e]
  simp only [chkChs, ho, hb]; simp
theorem chkChs_bad (last : Int) (l : List Ch) (k : Nat) (h : k < l.length) (ho : (okTime l[k].t && okIdx last l[k].k) = false) :
    chkChs last (prevOf l k) (l.drop k) = 1 := by
  rw [List.drop_eq_getElem_cons h]; simp only [chkChs, ho]; simp
theorem chkChs_back (last : Int) (l : List Ch) (k : Nat) (h : k < l.length) (ho : (okTime l[k].t && okIdx last l[k].k) = true) (hb : before (prevOf l k) l[k].t = true) :
    chkChs last (prevOf l k) (l.drop k) = 5 := by
  rw [List.drop_eq_getElem_cons h]; simp only [chkChs, ho, hb]; simp

end Go.Proofs.YtmpeplimiaaehaaDoor
namespace Go.Proofs.YtmpeplimiaaehaaDoor
open Go.RowKit
set_option linter.unusedVariables false
set_option linter.unusedSimpArgs false

def wiB (n a b : Int) : Bool := decide (a ≤ n ∧ n ≤ b)
theorem tab_within (n a b : Int) (w : World) :
    Calls Tryd.prog 58 #[.int .i64 n, .int .i64 a, .int .i64 b] w fun e w' => e = .returned (.bool (wiB n a b)) ∧ w = w' := by
  by_cases h1 : a ≤ n <;> by_cases h2 : n ≤ b <;>
  · go_enter Tryd.func58, Tryd.ntmps58
    go_wp2
    go_ret
    exact ⟨ret_bool' (by simp [wiB, h1, h2]), rfl⟩

theorem okOff_wi (x : Int) : okOff x = wiB x (-75600) 75600 := rfl
theorem okTime_wi (x : Int) : okTime x = wiB x (-1099511627776) 1099511627776 := rfl
theorem okIdx_wi (l x : Int) : okIdx l x = wiB x 0 l := rfl

theorem Check_big (t : Tab) (v : Value) (w : World) (hv : TabAt w v t) (hbig : big t = true) :
    Calls Tryd.prog 35 #[v] w fun e w' => e = .returned (.int .i64 (chk t)) ∧ Below w.heap.size w w' := by
  obtain ⟨sv, cv, rfl, ⟨⟨p, cap, rfl, hs⟩, hl1, hnm⟩, ⟨⟨p2, cap2, rfl, hc⟩, hl2⟩⟩ := hv.val
  have hk : Hid (chk t = 2) := by show _ = _; unfold chk; rw [if_pos hbig]
  simp only [big, decide_eq_true_eq] at hbig
  clear hs hc hnm
  by_cases h1 : (250 : Int) < t.types.length
  · go_enter Tryd.func35, Tryd.ntmps35
    go_wp2
    go_ret
    exact ⟨ret_int' hk.out.symm, (Below.refl _ _).alloc (Nat.le_refl _) _⟩
  · have h2 : (1000 : Int) < t.chs.length := by omega
    go_enter Tryd.func35, Tryd.ntmps35
    go_wp2
    go_ret
    exact ⟨ret_int' hk.out.symm, (Below.refl _ _).alloc (Nat.le_refl _) _⟩

theorem Check_none (t : Tab) (v : Value) (w : World) (hv : TabAt w v t) (hbig : big t = false) (hn : t.types = []) :
    Calls Tryd.prog 35 #[v] w fun e w' => e = .returned (.int .i64 (chk t)) ∧ Below w.heap.size w w' := by
  obtain ⟨sv, cv, rfl, ⟨⟨p, cap, rfl, hs⟩, hl1, hnm⟩, ⟨⟨p2, cap2, rfl, hc⟩, hl2⟩⟩ := hv.val
  have hk : Hid (chk t = 5) := by show _ = _; unfold chk; rw [if_neg (by simp [hbig]), if_pos hn]
  simp only [big, decide_eq_false_iff_not] at hbig
  have e0 : t.types.length = 0 := by rw [hn]; rfl
  have h2 : ¬ (1000 : Int) < t.chs.length := by omega
  clear hs hc hnm hbig hn hv
  rw [e0]
  go_enter Tryd.func35, Tryd.ntmps35
  go_wp2
  go_ret
  exact ⟨ret_int' hk.out.symm, (Below.refl _ _).alloc (Nat.le_refl _) _⟩

end Go.Proofs.YtmpeplimiaaehaaDoor
namespace Go.Proofs.YtmpeplimiaaehaaDoor
open Go.RowKit
set_option linter.unusedVariables false
set_option linter.unusedSimpArgs false

theorem tyAt.mono {w w' : World} {B b o : Nat} {x : Ty} (h : tyAt w b o x) (hb : Below B w w') (hlt : b < B) : tyAt w' b o x :=
  ⟨(hb.cell (p := ⟨b, o, none⟩) hlt).trans h.1, (hb.cell (p := ⟨b, o + 1, none⟩) hlt).trans h.2.1, (hb.cell (p := ⟨b, o + 2, none⟩) hlt).trans h.2.2⟩
theorem chAt.mono {w w' : World} {B b o : Nat} {x : Ch} (h : chAt w b o x) (hb : Below B w w') (hlt : b < B) : chAt w' b o x :=
  ⟨(hb.cell (p := ⟨b, o, none⟩) hlt).trans h.1, (hb.cell (p := ⟨b, o + 1, none⟩) hlt).trans h.2⟩
theorem bcellB {B : Nat} {W w1 : World} (hb : Below B W w1) : (∀ b o, b < B → w1.cell? ⟨b, o, none⟩ = W.cell? ⟨b, o, none⟩) ∧ (∀ b o, b < B → w1.frozen? ⟨b, o, none⟩ = W.frozen? ⟨b, o, none⟩) :=
  ⟨fun b o h => hb.cell (p := ⟨b, o, none⟩) h, fun b o h => hb.frozen (p := ⟨b, o, none⟩) h⟩
theorem chk_types (t : Tab) (hbig : big t = false) (hn : t.types ≠ []) (h : chkTypes t.types ≠ 0) : chk t = chkTypes t.types := by
  unfold chk; rw [if_neg (by simp [hbig]), if_neg hn, if_neg h]
theorem chk_first (t : Tab) (hbig : big t = false) (hn : t.types ≠ []) (h : chkTypes t.types = 0) (hf : okIdx ((t.types.length : Int) - 1) t.first = false) : chk t = 1 := by
  unfold chk; rw [if_neg (by simp [hbig]), if_neg hn, if_pos h, if_neg (by simp [hf])]
theorem chk_chs (t : Tab) (hbig : big t = false) (hn : t.types ≠ []) (h : chkTypes t.types = 0) (hf : okIdx ((t.types.length : Int) - 1) t.first = true) : chk t = chkChs ((t.types.length : Int) - 1) none t.chs := by
  unfold chk; rw [if_neg (by simp [hbig]), if_neg hn, if_pos h, if_pos hf]

set_option maxHeartbeats 4000000 in
theorem Check_nochs (l : List Ty) (f : Int) (m : List Ch) (b o cap cap2 : Nat) (p2 : Option Addr) (w : World) (hb : b < w.heap.size) (hty : ∀ i (h : i < l.length), tyAt w b (o + i * 3) l[i]) (hnm : ∀ x ∈ l, x.name.size ≤ maxLen)
    (hbig : big ⟨l, f, m⟩ = false) (hn : l ≠ []) (hm : m = []) :
    Calls Tryd.prog 35 #[.agg #[.slice (some ⟨b, o, none⟩) l.length cap, .int .i64 f, .slice p2 m.length cap2]] w fun e w' => e = .returned (.int .i64 (chk ⟨l, f, m⟩)) ∧ Below w.heap.size w w' := by
  have ht1 : Hid (chkTypes l ≠ 0 → chk ⟨l, f, m⟩ = chkTypes l) := chk_types ⟨l, f, m⟩ hbig hn
  have ht2 : Hid (chkTypes l = 0 → okIdx ((l.length : Int) - 1) f = false → chk ⟨l, f, m⟩ = 1) := chk_first ⟨l, f, m⟩ hbig hn
  have ht3 : Hid (chkTypes l = 0 → okIdx ((l.length : Int) - 1) f = true → chk ⟨l, f, m⟩ = chkChs ((l.length : Int) - 1) none m) := chk_chs ⟨l, f, m⟩ hbig hn
  have HTY := Lib.hid hty
  have HNM := Lib.hid hnm
  have E0 : Hid (m.length = 0) := by show m.length = 0; rw [hm]; rfl
  have HM := Lib.hid hm
  have hpos : 0 < l.length := List.length_pos_iff.2 hn
  simp only [big, decide_eq_false_iff_not] at hbig
  have hN : ¬ (250 : Int) < l.length := by omega
  have hM : ¬ (1000 : Int) < m.length := by omega
  have hN' : l.length ≤ 250 := by omega
  have hM' : m.length ≤ 1000 := by omega
  have hz : ((l.length : Int) == 0) = false := by simp; omega
  obtain ⟨R, eR⟩ : ∃ R : Int, chk ⟨l, f, m⟩ = R := ⟨_, rfl⟩
  rw [eR]
  have ER := Lib.hid eR
  clear hty hnm hbig hn eR hm
  obtain ⟨w0, hw0⟩ : ∃ w0, w.alloc (.cells #[.slice (some ⟨b, o, none⟩) l.length cap, .int .i64 f, .slice p2 m.length cap2] 48) = w0 := ⟨_, rfl⟩
  have hbw : Below w.heap.size w w0 := by rw [← hw0]; exact (Below.refl _ _).alloc (Nat.le_refl _) _
  have hsz : w0.heap.size = w.heap.size + 1 := by rw [← hw0]; simp
  have hq0 : w0.cell? ⟨w.heap.size, 0, none⟩ = some (.slice (some ⟨b, o, none⟩) l.length cap) := by rw [← hw0]; simp [go_sem]
  have hq1 : w0.cell? ⟨w.heap.size, 1, none⟩ = some (.int .i64 f) := by rw [← hw0]; simp [go_sem]
  have hq2 : w0.cell? ⟨w.heap.size, 2, none⟩ = some (.slice p2 m.length cap2) := by rw [← hw0]; simp [go_sem]
  have HW0 := Lib.hid hw0
  have HSZ := Lib.hid hsz
  clear hw0 hsz
  have HQ0 := Lib.hid hq0
  have HQ1 := Lib.hid hq1
  have HQ2 := Lib.hid hq2
  clear hq0 hq1 hq2
  go_enter Tryd.func35, Tryd.ntmps35
  go_wp2
  go_loopw [27] (fun i wr => ∃ k : Nat, k ≤ l.length ∧ i = .int .i64 k ∧ Below (w.heap.size + 1) (w.alloc (.cells #[.slice (some ⟨b, o, none⟩) l.length cap, .int .i64 f, .slice p2 m.length cap2] 48)) wr ∧ chkTypes l = chkTypes (l.drop k)) (fun i _ => l.length - (intOf i).toNat)
  case atStart => exact ⟨0, Nat.zero_le _, rfl, Below.refl _ _, rfl⟩
  case round =>
    obtain ⟨k, hk, rfl, hbel, hch⟩ := hrel
    rw [HW0.out] at hbel
    have HCH := Lib.hid hch
    clear hch
    by_cases hlt : k < l.length
    · obtain ⟨x, ex⟩ : ∃ x, l[k] = x := ⟨_, rfl⟩
      have hat := ((HTY.out k hlt).mono hbw hb).mono hbel (by omega)
      have hnx := HNM.out l[k] (List.getElem_mem hlt)
      rw [ex] at hat hnx
      obtain ⟨c0, c1, c2⟩ := hat
      have EX := Lib.hid ex
      clear ex
      cases ho : wiB x.off (-75600) 75600
      · have hr : Hid (R = 1) := by
          have h1 := chkTypes_off l k hlt (by rw [EX.out]; exact ho)
          have h2 : chkTypes l = 1 := by rw [HCH.out, h1]
          have h3 := ht1.out (by rw [h2]; decide)
          show R = 1
          rw [← ER.out, h3, h2]
        go_wp2_with (first | (go_at_call 58; refine (tab_within _ _ _ _).mono ?_; rintro e w' ⟨rfl, rfl⟩))
        go_ret
        exact ⟨ret_int' hr.out.symm, hbw.trans ((hbel.mono (by omega)).alloc (by have := hbel.size; have := HSZ.out; omega) _)⟩
      · cases ha : abbrB x.name
        · have hr : Hid (R = 3) := by
            have h1 := chkTypes_abbr l k hlt (by rw [EX.out]; exact ho) (by rw [EX.out]; exact ha)
            have h2 : chkTypes l = 3 := by rw [HCH.out, h1]
            have h3 := ht1.out (by rw [h2]; decide)
            show R = 3
            rw [← ER.out, h3, h2]
          go_wp2_with (first | (go_at_call 58; refine (tab_within _ _ _ _).mono ?_; rintro e w' ⟨rfl, rfl⟩) | (go_at_call 30; refine (isAbbr_any _ _ hnx).mono ?_; rintro e w' ⟨rfl, rfl⟩))
          go_ret
          exact ⟨ret_int' hr.out.symm, hbw.trans ((hbel.mono (by omega)).alloc (by have := hbel.size; have := HSZ.out; omega) _)⟩
        · have hstep : Hid (chkTypes l = chkTypes (l.drop (k + 1))) := by
            show _ = _
            rw [HCH.out, chkTypes_drop l k hlt (by rw [EX.out]; exact ho) (by rw [EX.out]; exact ha)]
          go_wp2_with (first | (go_at_call 58; refine (tab_within _ _ _ _).mono ?_; rintro e w' ⟨rfl, rfl⟩) | (go_at_call 30; refine (isAbbr_any _ _ hnx).mono ?_; rintro e w' ⟨rfl, rfl⟩))
          go_roundw
          case rel => exact ⟨k + 1, by omega, by go_num, by rw [HW0.out]; exact hbel.alloc (by have := hbel.size; have := HSZ.out; omega) _, hstep.out⟩
          case measure => simp [intOf]; omega
    · obtain rfl : k = l.length := by omega
      have h0 : chkTypes l = 0 := by rw [HCH.out, List.drop_of_length_le (by omega)]; rfl
      have H0 := Lib.hid h0
      clear h0
      have hq0 := ((bcellB hbel).1 w.heap.size 0 (by omega)).trans HQ0.out
      have hq1 := ((bcellB hbel).1 w.heap.size 1 (by omega)).trans HQ1.out
      have hq2 := ((bcellB hbel).1 w.heap.size 2 (by omega)).trans HQ2.out
      cases hfi : wiB f 0 ((l.length : Int) - 1)
      · have hr : Hid (R = 1) := by
          show R = 1
          rw [← ER.out, ht2.out H0.out hfi]
        go_wp2_with (first | (go_at_call 58; refine (tab_within _ _ _ _).mono ?_; rintro e w' ⟨rfl, rfl⟩))
        go_ret
        exact ⟨ret_int' hr.out.symm, hbw.trans (hbel.mono (by omega))⟩
      · have hR : Hid (R = chkChs ((l.length : Int) - 1) none m) := by
          show R = _
          rw [← ER.out, ht3.out H0.out hfi]
        go_wp2_with (first | (go_at_call 58; refine (tab_within _ _ _ _).mono ?_; rintro e w' ⟨rfl, rfl⟩))
        go_loopw [52] (fun i w2 => ∃ k : Nat, k ≤ m.length ∧ i = .int .i64 k ∧ Below (w.heap.size + 1) (w.alloc (.cells #[.slice (some ⟨b, o, none⟩) l.length cap, .int .i64 f, .slice p2 m.length cap2] 48)) w2 ∧ chkChs ((l.length : Int) - 1) none m = chkChs ((l.length : Int) - 1) (prevOf m k) (m.drop k)) (fun i _ => m.length - (intOf i).toNat)
        case atStart => exact ⟨0, Nat.zero_le _, rfl, by rw [HW0.out]; exact hbel, rfl⟩
        case round =>
          obtain ⟨k, hk2, rfl, hbel2, hcc⟩ := hrel
          rw [HW0.out] at hbel2
          have HCC := Lib.hid hcc
          clear hcc
          by_cases hlt2 : k < m.length
          · have := E0.out; omega
          · obtain rfl : k = m.length := by omega
            have hr : Hid (R = 0) := by show R = 0; rw [hR.out, HCC.out, List.drop_of_length_le (by omega)]; cases prevOf m m.length <;> rfl
            go_wp2
            go_ret
            exact ⟨ret_int' hr.out.symm, hbw.trans (hbel2.mono (by omega))⟩

set_option maxHeartbeats 4000000 in
theorem Check_chs (l : List Ty) (f : Int) (m : List Ch) (b o cap b2 o2 cap2 : Nat) (w : World) (hb : b < w.heap.size) (hty : ∀ i (h : i < l.length), tyAt w b (o + i * 3) l[i]) (hnm : ∀ x ∈ l, x.name.size ≤ maxLen)
    (hbig : big ⟨l, f, m⟩ = false) (hn : l ≠ []) (hb2 : b2 < w.heap.size) (hch2 : ∀ i (h : i < m.length), chAt w b2 (o2 + i * 2) m[i]) :
    Calls Tryd.prog 35 #[.agg #[.slice (some ⟨b, o, none⟩) l.length cap, .int .i64 f, .slice (some ⟨b2, o2, none⟩) m.length cap2]] w fun e w' => e = .returned (.int .i64 (chk ⟨l, f, m⟩)) ∧ Below w.heap.size w w' := by
  have ht1 : Hid (chkTypes l ≠ 0 → chk ⟨l, f, m⟩ = chkTypes l) := chk_types ⟨l, f, m⟩ hbig hn
  have ht2 : Hid (chkTypes l = 0 → okIdx ((l.length : Int) - 1) f = false → chk ⟨l, f, m⟩ = 1) := chk_first ⟨l, f, m⟩ hbig hn
  have ht3 : Hid (chkTypes l = 0 → okIdx ((l.length : Int) - 1) f = true → chk ⟨l, f, m⟩ = chkChs ((l.length : Int) - 1) none m) := chk_chs ⟨l, f, m⟩ hbig hn
  have HTY := Lib.hid hty
  have HNM := Lib.hid hnm
  have HC := Lib.hid hch2
  have hpos : 0 < l.length := List.length_pos_iff.2 hn
  simp only [big, decide_eq_false_iff_not] at hbig
  have hN : ¬ (250 : Int) < l.length := by omega
  have hM : ¬ (1000 : Int) < m.length := by omega
  have hN' : l.length ≤ 250 := by omega
  have hM' : m.length ≤ 1000 := by omega
  have hz : ((l.length : Int) == 0) = false := by simp; omega
  obtain ⟨R, eR⟩ : ∃ R : Int, chk ⟨l, f, m⟩ = R := ⟨_, rfl⟩
  rw [eR]
  have ER := Lib.hid eR
  clear hty hnm hbig hn eR hch2
  obtain ⟨w0, hw0⟩ : ∃ w0, w.alloc (.cells #[.slice (some ⟨b, o, none⟩) l.length cap, .int .i64 f, .slice (some ⟨b2, o2, none⟩) m.length cap2] 48) = w0 := ⟨_, rfl⟩
  have hbw : Below w.heap.size w w0 := by rw [← hw0]; exact (Below.refl _ _).alloc (Nat.le_refl _) _
  have hsz : w0.heap.size = w.heap.size + 1 := by rw [← hw0]; simp
  have hq0 : w0.cell? ⟨w.heap.size, 0, none⟩ = some (.slice (some ⟨b, o, none⟩) l.length cap) := by rw [← hw0]; simp [go_sem]
  have hq1 : w0.cell? ⟨w.heap.size, 1, none⟩ = some (.int .i64 f) := by rw [← hw0]; simp [go_sem]
  have hq2 : w0.cell? ⟨w.heap.size, 2, none⟩ = some (.slice (some ⟨b2, o2, none⟩) m.length cap2) := by rw [← hw0]; simp [go_sem]
  have HW0 := Lib.hid hw0
  have HSZ := Lib.hid hsz
  clear hw0 hsz
  have HQ0 := Lib.hid hq0
  have HQ1 := Lib.hid hq1
  have HQ2 := Lib.hid hq2
  clear hq0 hq1 hq2
  go_enter Tryd.func35, Tryd.ntmps35
  go_wp2
  go_loopw [27] (fun i wr => ∃ k : Nat, k ≤ l.length ∧ i = .int .i64 k ∧ Below (w.heap.size + 1) (w.alloc (.cells #[.slice (some ⟨b, o, none⟩) l.length cap, .int .i64 f, .slice (some ⟨b2, o2, none⟩) m.length cap2] 48)) wr ∧ chkTypes l = chkTypes (l.drop k)) (fun i _ => l.length - (intOf i).toNat)
  case atStart => exact ⟨0, Nat.zero_le _, rfl, Below.refl _ _, rfl⟩
  case round =>
    obtain ⟨k, hk, rfl, hbel, hch⟩ := hrel
    rw [HW0.out] at hbel
    have HCH := Lib.hid hch
    clear hch
    by_cases hlt : k < l.length
    · obtain ⟨x, ex⟩ : ∃ x, l[k] = x := ⟨_, rfl⟩
      have hat := ((HTY.out k hlt).mono hbw hb).mono hbel (by omega)
      have hnx := HNM.out l[k] (List.getElem_mem hlt)
      rw [ex] at hat hnx
      obtain ⟨c0, c1, c2⟩ := hat
      have EX := Lib.hid ex
      clear ex
      cases ho : wiB x.off (-75600) 75600
      · have hr : Hid (R = 1) := by
          have h1 := chkTypes_off l k hlt (by rw [EX.out]; exact ho)
          have h2 : chkTypes l = 1 := by rw [HCH.out, h1]
          have h3 := ht1.out (by rw [h2]; decide)
          show R = 1
          rw [← ER.out, h3, h2]
        go_wp2_with (first | (go_at_call 58; refine (tab_within _ _ _ _).mono ?_; rintro e w' ⟨rfl, rfl⟩))
        go_ret
        exact ⟨ret_int' hr.out.symm, hbw.trans ((hbel.mono (by omega)).alloc (by have := hbel.size; have := HSZ.out; omega) _)⟩
      · cases ha : abbrB x.name
        · have hr : Hid (R = 3) := by
            have h1 := chkTypes_abbr l k hlt (by rw [EX.out]; exact ho) (by rw [EX.out]; exact ha)
            have h2 : chkTypes l = 3 := by rw [HCH.out, h1]
            have h3 := ht1.out (by rw [h2]; decide)
            show R = 3
            rw [← ER.out, h3, h2]
          go_wp2_with (first | (go_at_call 58; refine (tab_within _ _ _ _).mono ?_; rintro e w' ⟨rfl, rfl⟩) | (go_at_call 30; refine (isAbbr_any _ _ hnx).mono ?_; rintro e w' ⟨rfl, rfl⟩))
          go_ret
          exact ⟨ret_int' hr.out.symm, hbw.trans ((hbel.mono (by omega)).alloc (by have := hbel.size; have := HSZ.out; omega) _)⟩
        · have hstep : Hid (chkTypes l = chkTypes (l.drop (k + 1))) := by
            show _ = _
            rw [HCH.out, chkTypes_drop l k hlt (by rw [EX.out]; exact ho) (by rw [EX.out]; exact ha)]
          go_wp2_with (first | (go_at_call 58; refine (tab_within _ _ _ _).mono ?_; rintro e w' ⟨rfl, rfl⟩) | (go_at_call 30; refine (isAbbr_any _ _ hnx).mono ?_; rintro e w' ⟨rfl, rfl⟩))
          go_roundw
          case rel => exact ⟨k + 1, by omega, by go_num, by rw [HW0.out]; exact hbel.alloc (by have := hbel.size; have := HSZ.out; omega) _, hstep.out⟩
          case measure => simp [intOf]; omega
    · obtain rfl : k = l.length := by omega
      have h0 : chkTypes l = 0 := by rw [HCH.out, List.drop_of_length_le (by omega)]; rfl
      have H0 := Lib.hid h0
      clear h0
      have hq0 := ((bcellB hbel).1 w.heap.size 0 (by omega)).trans HQ0.out
      have hq1 := ((bcellB hbel).1 w.heap.size 1 (by omega)).trans HQ1.out
      have hq2 := ((bcellB hbel).1 w.heap.size 2 (by omega)).trans HQ2.out
      cases hfi : wiB f 0 ((l.length : Int) - 1)
      · have hr : Hid (R = 1) := by
          show R = 1
          rw [← ER.out, ht2.out H0.out hfi]
        go_wp2_with (first | (go_at_call 58; refine (tab_within _ _ _ _).mono ?_; rintro e w' ⟨rfl, rfl⟩))
        go_ret
        exact ⟨ret_int' hr.out.symm, hbw.trans (hbel.mono (by omega))⟩
      · have hR : Hid (R = chkChs ((l.length : Int) - 1) none m) := by
          show R = _
          rw [← ER.out, ht3.out H0.out hfi]
        go_wp2_with (first | (go_at_call 58; refine (tab_within _ _ _ _).mono ?_; rintro e w' ⟨rfl, rfl⟩))
        go_loopw [52] (fun i w2 => ∃ k : Nat, k ≤ m.length ∧ i = .int .i64 k ∧ Below (w.heap.size + 1) (w.alloc (.cells #[.slice (some ⟨b, o, none⟩) l.length cap, .int .i64 f, .slice (some ⟨b2, o2, none⟩) m.length cap2] 48)) w2 ∧ chkChs ((l.length : Int) - 1) none m = chkChs ((l.length : Int) - 1) (prevOf m k) (m.drop k)) (fun i _ => m.length - (intOf i).toNat)
        case atStart => exact ⟨0, Nat.zero_le _, rfl, by rw [HW0.out]; exact hbel, rfl⟩
        case round =>
          obtain ⟨k, hk2, rfl, hbel2, hcc⟩ := hrel
          rw [HW0.out] at hbel2
          have HCC := Lib.hid hcc
          clear hcc
          by_cases hlt2 : k < m.length
          · obtain ⟨x, ex⟩ : ∃ x, m[k] = x := ⟨_, rfl⟩
            have hat := ((HC.out k hlt2).mono hbw hb2).mono hbel2 (by omega)
            rw [ex] at hat
            obtain ⟨c0, c1⟩ := hat
            have EX := Lib.hid ex
            clear ex
            have hs2 := hbel2.size
            have hs0 := HSZ.out
            cases ho : wiB x.t (-1099511627776) 1099511627776
            · have hr : Hid (R = 1) := by
                show R = 1
                rw [hR.out, HCC.out, chkChs_bad _ m k hlt2 (by rw [EX.out, okTime_wi, ho]; rfl)]
              go_wp2_with (first | (go_at_call 58; refine (tab_within _ _ _ _).mono ?_; rintro e w' ⟨rfl, rfl⟩))
              go_ret
              exact ⟨ret_int' hr.out.symm, hbw.trans ((hbel2.mono (by omega)).alloc (by omega) _)⟩
            · cases hi : wiB x.k 0 ((l.length : Int) - 1)
              · have hr : Hid (R = 1) := by
                  show R = 1
                  rw [hR.out, HCC.out, chkChs_bad _ m k hlt2 (by rw [EX.out, okTime_wi, ho, okIdx_wi, hi]; rfl)]
                go_wp2_with (first | (go_at_call 58; refine (tab_within _ _ _ _).mono ?_; rintro e w' ⟨rfl, rfl⟩))
                go_ret
                exact ⟨ret_int' hr.out.symm, hbw.trans ((hbel2.mono (by omega)).alloc (by omega) _)⟩
              · have hok : Hid ((okTime x.t && okIdx ((l.length : Int) - 1) x.k) = true) := by show _ = _; rw [okTime_wi, ho, okIdx_wi, hi]; rfl
                cases k with
                | zero =>
                  simp only [Nat.zero_mul, Nat.add_zero] at c0 c1
                  have hstep : Hid (chkChs ((l.length : Int) - 1) none m = chkChs ((l.length : Int) - 1) (prevOf m 1) (m.drop 1)) := by
                    show _ = _
                    rw [HCC.out, chkChs_drop _ m 0 hlt2 (by rw [EX.out]; exact hok.out) rfl]
                  go_wp2_with (first | (go_at_call 58; refine (tab_within _ _ _ _).mono ?_; rintro e w' ⟨rfl, rfl⟩))
                  go_quiet (fail)
                  go_wp2
                  go_roundw
                  case rel => exact ⟨1, by omega, by go_num, by rw [HW0.out]; exact below_drewN' (hbel2.alloc (by omega) _) _, hstep.out⟩
                  case measure => simp [intOf]; omega
                | succ j =>
                  obtain ⟨y, ey⟩ : ∃ y, m[j] = y := ⟨_, rfl⟩
                  have hay := ((HC.out j (by omega)).mono hbw hb2).mono hbel2 (by omega)
                  rw [ey] at hay
                  obtain ⟨y0, y1⟩ := hay
                  have hq2 := ((bcellB hbel2).1 w.heap.size 2 (by omega)).trans HQ2.out
                  have hprev : prevOf m (j + 1) = some y.t := by simp only [prevOf]; rw [List.getElem?_eq_getElem (by omega), ey]; rfl
                  have HP := Lib.hid hprev
                  clear ey hprev
                  have q1 : IntKind.i64.wrap ((j : Int) + 1 - 1) = (j : Int) := by rw [show (j : Int) + 1 - 1 = j by omega]; exact IntWalk.i64_in _ (by omega)
                  have q2 : (j : Int) < (m.length : Int) := by omega
                  have q3 : w.heap.size < wr.heap.size := by omega
                  have q4 : b2 < wr.heap.size := by omega
                  by_cases hle : x.t ≤ y.t
                  · have hr : Hid (R = 5) := by
                      show R = 5
                      rw [hR.out, HCC.out, chkChs_back _ m (j + 1) hlt2 (by rw [EX.out]; exact hok.out) (by rw [HP.out, EX.out]; simpa [before] using hle)]
                    go_wp2_with (first | (go_at_call 58; refine (tab_within _ _ _ _).mono ?_; rintro e w' ⟨rfl, rfl⟩))
                    go_quiet (fail)
                    go_wp2
                    go_ret
                    exact ⟨ret_int' hr.out.symm, hbw.trans (below_drewN' ((hbel2.mono (by omega)).alloc (by omega) _) _)⟩
                  · have hstep : Hid (chkChs ((l.length : Int) - 1) none m = chkChs ((l.length : Int) - 1) (prevOf m (j + 1 + 1)) (m.drop (j + 1 + 1))) := by
                      show _ = _
                      rw [HCC.out, chkChs_drop _ m (j + 1) hlt2 (by rw [EX.out]; exact hok.out) (by rw [HP.out, EX.out]; simpa [before] using hle)]
                    go_wp2_with (first | (go_at_call 58; refine (tab_within _ _ _ _).mono ?_; rintro e w' ⟨rfl, rfl⟩))
                    go_quiet (fail)
                    go_wp2
                    go_roundw
                    case rel => exact ⟨j + 1 + 1, by omega, by go_num, by rw [HW0.out]; exact below_drewN' (hbel2.alloc (by omega) _) _, hstep.out⟩
                    case measure => simp [intOf]; omega
          · obtain rfl : k = m.length := by omega
            have hr : Hid (R = 0) := by show R = 0; rw [hR.out, HCC.out, List.drop_of_length_le (by omega)]; cases prevOf m m.length <;> rfl
            go_wp2
            go_ret
            exact ⟨ret_int' hr.out.symm, hbw.trans (hbel2.mono (by omega))⟩

/-- table.Check, of whatever table. -/
theorem Check_any (t : Tab) (v : Value) (w : World) (hv : TabAt w v t) :
    Calls Tryd.prog 35 #[v] w fun e w' => e = .returned (.int .i64 (chk t)) ∧ Below w.heap.size w w' := by
  cases hbg : big t
  · by_cases hn : t.types = []
    · exact Check_none t v w hv hbg hn
    · obtain ⟨sv, cv, rfl, ⟨⟨p, cap, rfl, hs⟩, hl1, hnm⟩, ⟨⟨p2, cap2, rfl, hc⟩, hl2⟩⟩ := hv.val
      obtain ⟨b, o, rfl, hb, hty⟩ := hs hn
      obtain ⟨l, f, m⟩ := t
      by_cases hm : m = []
      · exact Check_nochs l f m b o cap cap2 p2 w hb hty hnm hbg hn hm
      · obtain ⟨b2, o2, rfl, hb2, hch⟩ := hc hm
        exact Check_chs l f m b o cap b2 o2 cap2 w hb hty hnm hbg hn hb2 hch
  · exact Check_big t v w hv hbg

end Go.Proofs.YtmpeplimiaaehaaDoor
namespace Go.Proofs.YtmpeplimiaaehaaDoor
set_option linter.unusedVariables false
set_option linter.unusedSimpArgs false

/-- how many places below n are still false -/
def cntF (p : Nat → Bool) (n : Nat) : Nat := (List.range n).countP (fun i => !p i)

theorem cntF_boundary (p : Nat → Bool) (n h : Nat) (hn : h ≤ n) (h1 : ∀ t, t < h → p t = false) (h2 : ∀ t, h ≤ t → t < n → p t = true) : cntF p n = h := by
  unfold cntF
  induction n with
  | zero => simp; omega
  | succ n ih =>
    rw [List.range_succ, List.countP_append]
    by_cases e : h = n + 1
    · subst e
      have : (List.range n).countP (fun i => !p i) = n := by
        have hall : ∀ i ∈ List.range n, (fun i => !p i) i = true := fun i hi => by
          have := h1 i (by have := List.mem_range.1 hi; omega)
          simp [this]
        rw [List.countP_eq_length.2 hall]; simp
      rw [this]; simp [h1 n (by omega)]
    · rw [ih (by omega) (fun t ht htn => h2 t ht (by omega))]
      simp [h2 n (by omega) (by omega)]
end Go.Proofs.YtmpeplimiaaehaaDoor
namespace Go.Proofs.YtmpeplimiaaehaaDoor
open Go.RowKit
set_option linter.unusedVariables false
set_option linter.unusedSimpArgs false

def tAt (m : List Ch) (i : Nat) : Int := (m[i]?.map (·.t)).getD 0
def kAt (m : List Ch) (i : Nat) : Int := (m[i]?.map (·.k)).getD 0
def tyD (l : List Ty) (k : Int) : Ty := l[k.toNat]?.getD ⟨0, false, ⟨#[]⟩⟩

theorem chkTypes_ok : ∀ (l : List Ty), chkTypes l = 0 → ∀ x ∈ l, okOff x.off = true ∧ abbrB x.name = true
  | [], _, x, hx => by simp at hx
  | y :: r, h, x, hx => by
    unfold chkTypes at h
    split at h
    · split at h
      · rcases List.mem_cons.1 hx with rfl | hx
        · exact ⟨‹_›, ‹_›⟩
        · exact chkTypes_ok r h x hx
      · omega
    · omega

theorem chkChs_ok (last : Int) : ∀ (m : List Ch) (prev : Option Int), chkChs last prev m = 0 →
    (∀ x ∈ m, okTime x.t = true ∧ okIdx last x.k = true) ∧ (∀ p, prev = some p → ∀ x ∈ m, p < x.t) ∧ m.Pairwise (fun a b => a.t < b.t)
  | [], _, _ => ⟨by simp, by simp, List.Pairwise.nil⟩
  | c :: r, prev, h => by
    unfold chkChs at h
    split at h
    · split at h
      · omega
      · rename_i h1 h2
        obtain ⟨i1, i2, i3⟩ := chkChs_ok last r (some c.t) h
        simp only [Bool.and_eq_true] at h1
        have hp : ∀ p, prev = some p → p < c.t := by
          intro p hp
          subst hp
          simpa [before] using h2
        refine ⟨fun x hx => ?_, fun p hpp x hx => ?_, ?_⟩
        · rcases List.mem_cons.1 hx with rfl | hx
          · exact h1
          · exact i1 x hx
        · rcases List.mem_cons.1 hx with rfl | hx
          · exact hp p hpp
          · have := i2 c.t rfl x hx
            have := hp p hpp
            omega
        · exact List.Pairwise.cons (fun x hx => i2 c.t rfl x hx) i3
    · omega

structure OkTab (t : Tab) : Prop where
  ne : t.types ≠ []
  many : t.types.length ≤ 250
  chs : t.chs.length ≤ 1000
  type : ∀ x ∈ t.types, -75600 ≤ x.off ∧ x.off ≤ 75600 ∧ abbrB x.name = true
  first : 0 ≤ t.first ∧ t.first < t.types.length
  ch : ∀ x ∈ t.chs, -1099511627776 ≤ x.t ∧ x.t ≤ 1099511627776 ∧ 0 ≤ x.k ∧ x.k < t.types.length
  rise : t.chs.Pairwise (fun a b => a.t < b.t)

theorem chk_ok (t : Tab) (h : chk t = 0) : OkTab t := by
  unfold chk at h
  split at h
  · omega
  · rename_i hb
    split at h
    · omega
    · rename_i hn
      split at h
      · rename_i ht
        split at h
        · rename_i hf
          obtain ⟨c1, _, c3⟩ := chkChs_ok _ _ _ h
          have hb' : ¬ (250 < t.types.length ∨ 1000 < t.chs.length) := by simpa [big] using hb
          simp only [okIdx, decide_eq_true_eq] at hf
          refine ⟨hn, by omega, by omega, fun x hx => ?_, by omega, fun x hx => ?_, c3⟩
          · have := chkTypes_ok _ ht x hx
            simp only [okOff, decide_eq_true_eq] at this
            exact ⟨this.1.1, this.1.2, this.2⟩
          · have := c1 x hx
            simp only [okTime, okIdx, decide_eq_true_eq] at this
            omega
        · omega
      · exact absurd h ‹_›

theorem tAt_mono (m : List Ch) (h : m.Pairwise (fun a b => a.t < b.t)) (i j : Nat) (hij : i ≤ j) (hj : j < m.length) : tAt m i ≤ tAt m j := by
  unfold tAt
  rw [List.getElem?_eq_getElem hj, List.getElem?_eq_getElem (by omega)]
  by_cases e : i = j
  · subst e; exact Int.le_refl _
  · have := List.pairwise_iff_getElem.1 h i j (by omega) hj (by omega)
    simp; omega

theorem length_sub {α : Type} [DecidableEq α] : ∀ (l m : List α), l.Nodup → (∀ x ∈ l, x ∈ m) → l.length ≤ m.length
  | [], m, _, _ => Nat.zero_le _
  | a :: l, m, hn, hs => by
    rw [List.nodup_cons] at hn
    have ha := hs a (by simp)
    have := length_sub l (m.erase a) hn.2 (fun x hx => (List.mem_erase_of_ne (fun (e : x = a) => hn.1 (by rw [← e]; exact hx))).2 (hs x (by simp [hx])))
    rw [List.length_erase_of_mem ha] at this
    have : 0 < m.length := List.length_pos_of_mem ha
    simp; omega


def cntOf (m : List Ch) (x : Int) : Nat := cntF (fun i => decide (x < tAt m i)) m.length
def kOf (f : Int) (m : List Ch) (x : Int) : Int := if cntOf m x = 0 then f else kAt m (cntOf m x - 1)
def tyOf (t : Tab) (x : Int) : Ty := tyD t.types (kOf t.first t.chs x)

theorem cntOf_le (m : List Ch) (x : Int) : cntOf m x ≤ m.length := by
  unfold cntOf cntF
  have := List.countP_le_length (p := fun i => !decide (x < tAt m i)) (l := List.range m.length)
  simpa using this

end Go.Proofs.YtmpeplimiaaehaaDoor
