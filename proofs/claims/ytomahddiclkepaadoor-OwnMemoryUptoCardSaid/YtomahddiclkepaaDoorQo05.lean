/- (checker).era: what it returns. (checker).zone: what it returns. (checker).link: what it returns. -/
import Derived.Test.YtomahddiclkepaaDoorQo04
import Derived.Deep.RegionHeld3
import Derived.Deep.CutBlock
namespace Go.Proofs.YtomahddiclkepaaDoor
open Go.RowKit Go.Joins
open Classical
set_option linter.unusedVariables false
set_option linter.unusedSimpArgs false
theorem str_eqB (a b : ByteArray) : (a.toList == b.toList) = decide (a = b) := by
 by_cases h : a = b
 ·subst h; simp
 ·rw [decide_eq_false h]
  have : a.toList ≠ b.toList := fun e => h (ByteArray.ext (Array.toList_inj.1 (by rw [← ByteArray.toList_eq, ← ByteArray.toList_eq]; exact e)))
  simpa using this
theorem eraF_any (r : Ru) (xb : Nat) (ru : ByteArray) (w : World) (hx : w.cell? ⟨xb, 1, none⟩ = some (.string ru)) :
 Calls Tryd.prog 53 (#[.agg (ruCells r).toList.toArray] ++ #[.pointer (some ⟨xb, 0, none⟩)]) w fun e w' => e = .returned (.bool (decide (r.nm = ru))) ∧ Below w.heap.size w w' := by
 have hlt : xb < w.heap.size := World.block_lt_of_cell? _ _ hx
 have HE := Lib.hid (str_eqB r.nm ru)
 obtain ⟨nm, yf, yt, mo, dk, dw, dn, tm, ck, sv, lt⟩ := r
 show Calls _ _ #[.agg #[.string nm, .int .i64 yf, .int .i64 yt, .int .i64 mo, .int .i64 dk, .int .i64 dw, .int .i64 dn, .int .i64 tm, .int .i64 ck, .int .i64 sv, .string lt], .pointer (some ⟨xb, 0, none⟩)] _ _
 go_enter Tryd.func53, Tryd.ntmps53
 go_wp2_with fail
 go_ret
 exact ⟨ret_bB HE.out, (Below.refl _ _).alloc (Nat.le_refl _) _⟩
theorem Stamp_any (t : Int) (w : World) (hn1 : -9223372036854775808 ≤ t) (hn2 : t ≤ 9223372036854775807) (ht : Tab10 w) :
 Calls Tryd.prog 55 #[.int .i64 t] w fun e w' => (∃ s, e = .returned (.tuple #[.string s, .int .i64 (stampE t)])) ∧ Below w.heap.size w w' := by
 by_cases h : -135140 ≤ t / 86400 ∧ t / 86400 ≤ 157053
 ·have e : stampE t = 0 := by unfold stampE; rw [if_pos h]
  rw [e]
  exact (Stamp_ok t w h.1 h.2 ht).mono fun e w' ⟨he, hb⟩ => ⟨⟨_, he⟩, hb⟩
 ·have e : stampE t = 1 := by unfold stampE; rw [if_neg h]
  rw [e]
  exact (Stamp_no t w (by omega) hn1 hn2).mono fun e w' ⟨he, hb⟩ => ⟨⟨_, he⟩, hb⟩
def eraB (O S N Rn H : Bool) (A : Int) (L U0 Ut : Bool) (T : Int) (Q : Bool) : Int :=
 if (!O || !S) = true then 1 else if (N && Rn) = true then 5 else if (Rn && !H) = true then 6 else if A ≠ 0 then A else
 if L = true then (if U0 = true then 5 else 0) else if Ut = false then 1 else if T ≠ 0 then T else if Q = true then 5 else 0
theorem eraChk_eq (rules : List Ru) (l : List Er) (k : Nat) (x : Er) (hx : eraAt l k = x) : eraChk rules l k =
 eraB (withinB x.off (-64800) 64800) (withinB x.sv 0 10800) (decide (x.sv ≠ 0)) (decide (x.ru.data.toList ≠ [])) (rules.any fun r => decide (r.nm = x.ru)) (abbrsChk rules x) (decide (k + 1 = l.length)) (decide (x.un ≠ 0)) (withinB x.un (-1099511627776) 1099511627776) (stampE x.un) (decide (0 < k ∧ x.un ≤ (eraAt l (k - 1)).un)) := by
 unfold eraChk eraB withinB
 rw [hx]
 simp only [Bool.or_eq_true, Bool.and_eq_true, Bool.not_eq_true', decide_eq_true_eq, decide_eq_false_iff_not]
def eraC (A : Int) (L U0 Ut : Bool) (T : Int) (Q : Bool) : Int :=
 if A ≠ 0 then A else if L = true then (if U0 = true then 5 else 0) else if Ut = false then 1 else if T ≠ 0 then T else if Q = true then 5 else 0
theorem eraB_mid (O S N Rn H : Bool) (A : Int) (L U0 Ut : Bool) (T : Int) (Q : Bool) (h : O = true ∧ S = true ∧ (N && Rn) = false ∧ (Rn && !H) = false) : eraB O S N Rn H A L U0 Ut T Q = eraC A L U0 Ut T Q := by
 obtain ⟨rfl, rfl, h1, h2⟩ := h
 unfold eraB eraC
 rw [if_neg (by decide), if_neg (by rw [h1]; decide), if_neg (by rw [h2]; decide)]
theorem eraC_A (A : Int) (L U0 Ut : Bool) (T : Int) (Q : Bool) (h : A ≠ 0) : eraC A L U0 Ut T Q = A := by unfold eraC; rw [if_pos h]
theorem eraC_T (U0 : Bool) (T : Int) (Q : Bool) (h : T ≠ 0) : eraC 0 false U0 true T Q = T := by unfold eraC; rw [if_neg (by decide), if_neg (by decide), if_neg (by decide), if_pos h]
theorem RowsAt.mono {α : Type} {cells : α → List Value} {k B B' : Nat} {W : World} {v : Value} {l : List α} (h : RowsAt cells k B W v l) (hB : B ≤ B') : RowsAt cells k B' W v l := by
 obtain ⟨p, cap, rfl, hl, h⟩ := h
 refine ⟨p, cap, rfl, hl, fun hn => ?_⟩
 obtain ⟨b, o, rfl, hlt, hc⟩ := h hn
 exact ⟨b, o, rfl, by omega, hc⟩
def ErBx (W : World) (B : Nat) (x : Er) : Prop := W.heap[B]? = some (.cells (erCells x) 45 (0, 0))
theorem ErBx.lt {W : World} {B : Nat} {x : Er} (h : ErBx W B x) : B < W.heap.size := (Array.getElem?_eq_some_iff.mp h).1
theorem ErBx.below {w w' : World} {B : Nat} {x : Er} (h : ErBx w B x) (hb : Below w.heap.size w w') : ErBx w' B x := (hb.block B h.lt).trans h
theorem ErBx.cells {W : World} {B : Nat} {x : Er} (h : ErBx W B x) : W.cell? ⟨B, 0, none⟩ = some (.int .i64 x.off) ∧ W.cell? ⟨B, 1, none⟩ = some (.string x.ru) ∧ W.cell? ⟨B, 2, none⟩ = some (.int .i64 x.sv) ∧ W.cell? ⟨B, 3, none⟩ = some (.string x.fm) ∧ W.cell? ⟨B, 4, none⟩ = some (.int .i64 x.un) :=
 ⟨(cell_of_row W _ 0 _ _ _ h).trans rfl, (cell_of_row W _ 1 _ _ _ h).trans rfl, (cell_of_row W _ 2 _ _ _ h).trans rfl, (cell_of_row W _ 3 _ _ _ h).trans rfl, (cell_of_row W _ 4 _ _ _ h).trans rfl⟩
set_option maxRecDepth 100000 in
set_option maxHeartbeats 8000000 in
theorem era_any (b : Bk) (rv zv lv : Value) (cb k : Nat) (nm : ByteArray) (ev : Value) (l : List Er) (w : World) (hC : ChkBx w cb rv zv lv) (hR : RowsAt (fun r : Ru => (ruCells r).toList) 11 w.heap.size w rv b.rules) (hs : ∀ r ∈ b.rules, SzR r)
 (hE : RowsAt (fun x : Er => (erCells x).toList) 5 w.heap.size w ev l) (hse : ∀ x ∈ l, SzE x) (hk : k < l.length) (hm : MaxLen w) (ht : Tab10 w) :
 Calls Tryd.prog 37 #[.pointer (some ⟨cb, 0, none⟩), .agg #[.string nm, ev], .int .i64 k] w fun e w' => e = .returned (.int .i64 (eraChk b.rules l k)) ∧ Below w.heap.size w w' := by
 have hcb : cb < w.heap.size := (Array.getElem?_eq_some_iff.mp hC).1
 obtain ⟨p, cap, rfl, hlen, hrow⟩ := hE
 obtain ⟨bb, o, rfl, hbl, hcs⟩ := hrow (List.ne_nil_of_length_pos (by omega))
 have hck := hcs k hk
 have hsx := hse l[k] (List.getElem_mem hk)
 have hat : eraAt l k = l[k] := by unfold eraAt; rw [List.getElem?_eq_getElem hk]; rfl
 have hprev : ∀ q, q + 1 = k → ∃ y : Er, eraAt l q = y ∧ w.cell? ⟨bb, o + q * 5 + 4, none⟩ = some (.int .i64 y.un) ∧ -9223372036854775808 ≤ y.un ∧ y.un ≤ 9223372036854775807 := by
  intro q hq
  have hql : q < l.length := by omega
  refine ⟨l[q], by unfold eraAt; rw [List.getElem?_eq_getElem hql]; rfl, hcs q hql 4 _ rfl, ?_⟩
  have := hse l[q] (List.getElem_mem hql)
  exact ⟨this.2.2.2.2.2.2.1, this.2.2.2.2.2.2.2⟩
 obtain ⟨x, ex⟩ : ∃ x, l[k] = x := ⟨_, rfl⟩
 rw [ex] at hck hsx hat
 have HQ := Lib.hid (eraChk_eq b.rules l k x hat)
 have HPV := Lib.hid hprev
 obtain ⟨W0, eW⟩ : ∃ W0, w.alloc (.cells #[.string nm, .slice (some ⟨bb, o, none⟩) l.length cap] 34) = W0 := ⟨_, rfl⟩
 have hb0 : Below w.heap.size w W0 := by rw [← eW]; exact (Below.refl _ _).alloc (Nat.le_refl _) _
 have x1 : W0.cell? ⟨w.heap.size, 1, none⟩ = some (.slice (some ⟨bb, o, none⟩) l.length cap) := by rw [← eW]; exact (cell_of_row _ _ 1 _ _ _ (heap_alloc_new w _)).trans rfl
 have hl0 : w.heap.size < W0.heap.size := by rw [← eW]; simp
 have up : ∀ j u, w.cell? ⟨bb, o + k * 5 + j, none⟩ = some u → W0.cell? ⟨bb, o + k * 5 + j, none⟩ = some u := fun j u h => (hb0.cell (p := ⟨bb, o + k * 5 + j, none⟩) hbl).trans h
 have z0 := up 0 _ (hck 0 _ rfl)
 have z1 := up 1 _ (hck 1 _ rfl)
 have z2 := up 2 _ (hck 2 _ rfl)
 have z3 := up 3 _ (hck 3 _ rfl)
 have z4 := up 4 _ (hck 4 _ rfl)
 rw [Nat.add_zero] at z0
 have HEW := Lib.hid eW
 have HB0 := Lib.hid hb0
 have HC0 := Lib.hid (hC.below hb0 hcb)
 have HR0 := Lib.hid (hR.below hb0 (Nat.le_refl _))
 have HM0 := Lib.hid (hm.below hb0)
 have HT0 := Lib.hid (ht.below hb0)
 have HS := Lib.hid hs
 have HSX := Lib.hid hsx
 have HX1 := Lib.hid x1
 have hbl0 : bb < W0.heap.size := by omega
 obtain ⟨off, ru, sv, fm, un⟩ := x
 clear eW hb0 hC hR hm ht hs hsx hcs hck hat hrow hse hprev ex up
 simp only at z0 z1 z2 z3 z4
 have KB : Hid (∀ wx, Below W0.heap.size W0 wx → (Below W0.heap.size W0 wx ∧ wx.cell? ⟨w.heap.size, 1, none⟩ = some (.slice (some ⟨bb, o, none⟩) l.length cap) ∧ wx.cell? ⟨bb, o + k * 5, none⟩ = some (.int .i64 off) ∧ wx.cell? ⟨bb, o + k * 5 + 1, none⟩ = some (.string ru) ∧ wx.cell? ⟨bb, o + k * 5 + 2, none⟩ = some (.int .i64 sv) ∧ wx.cell? ⟨bb, o + k * 5 + 3, none⟩ = some (.string fm) ∧ wx.cell? ⟨bb, o + k * 5 + 4, none⟩ = some (.int .i64 un))) := by
  show ∀ wx, Below W0.heap.size W0 wx → _
  exact fun wx hb => ⟨hb, (hb.cell (p := ⟨w.heap.size, 1, none⟩) hl0).trans x1, (hb.cell (p := ⟨bb, o + k * 5, none⟩) hbl0).trans z0, (hb.cell (p := ⟨bb, o + k * 5 + 1, none⟩) hbl0).trans z1, (hb.cell (p := ⟨bb, o + k * 5 + 2, none⟩) hbl0).trans z2, (hb.cell (p := ⟨bb, o + k * 5 + 3, none⟩) hbl0).trans z3, (hb.cell (p := ⟨bb, o + k * 5 + 4, none⟩) hbl0).trans z4⟩
 have KAL : Hid (∀ wx ob, Below W0.heap.size W0 wx → Below W0.heap.size W0 (wx.alloc ob)) := by
  show ∀ wx ob, Below W0.heap.size W0 wx → Below W0.heap.size W0 (wx.alloc ob)
  exact fun wx ob h => h.alloc h.size ob
 have ez : ((k : Int)).toNat = k := by omega
 have kz : (k : Int) < (l.length : Int) := by omega
 have wz : IntKind.i64.wrap ((l.length : Int) - 1) = (l.length : Int) - 1 := by rw [IntKind.wrap_i64]; omega
 obtain ⟨R, eR⟩ : ∃ R, eraChk b.rules l k = R := ⟨_, rfl⟩
 have hq0 := HQ.out
 simp only at hq0
 rw [eR] at hq0 ⊢
 have HQ1 := Lib.hid hq0
 clear hq0 eR
 go_enter Tryd.func37, Tryd.ntmps37
 go_upto_region 1 with fail
 rw [HEW.out]
 go_cut [7, 8] (fun s7 s8 wx => s7 = .pointer (some ⟨W0.heap.size, 0, none⟩) ∧ s8 = .bool (decide (k + 1 = l.length)) ∧ ErBx wx W0.heap.size ⟨off, ru, sv, fm, un⟩ ∧ Below W0.heap.size W0 wx)
 case first =>
  go_region_held3 (fun wx => Below W0.heap.size W0 wx ∧ wx.cell? ⟨w.heap.size, 1, none⟩ = some (.slice (some ⟨bb, o, none⟩) l.length cap) ∧ wx.cell? ⟨bb, o + k * 5, none⟩ = some (.int .i64 off) ∧ wx.cell? ⟨bb, o + k * 5 + 1, none⟩ = some (.string ru) ∧ wx.cell? ⟨bb, o + k * 5 + 2, none⟩ = some (.int .i64 sv) ∧ wx.cell? ⟨bb, o + k * 5 + 3, none⟩ = some (.string fm) ∧ wx.cell? ⟨bb, o + k * 5 + 4, none⟩ = some (.int .i64 un)) ((refine KB.out _ ?_; repeat (first | (with_reducible assumption) | (with_reducible exact Below.refl _ _) | (with_reducible refine Below.drew ?_) | (with_reducible refine KAL.out _ _ ?_)))) (fail)
  all_goals go_wp2_with fail
  all_goals go_meet
  all_goals exact ⟨rfl, by congr 1; rw [Bool.eq_iff_iff]; simp; omega, heap_alloc_new W0 _, ((Below.refl _ W0).alloc (Nat.le_refl _) _).drew⟩
 case rest =>
  obtain ⟨rfl, rfl, hex, hbw⟩ := hcut
  have HX := Lib.hid hex
  have HBc := Lib.hid hbw
  obtain ⟨L, eL⟩ : ∃ L, decide (k + 1 = l.length) = L := ⟨_, rfl⟩
  rw [eL]
  have HL := Lib.hid eL
  obtain ⟨e0, e1, e2, e3, e4⟩ := HX.out.cells
  have hlx := HX.out.lt
  simp only at e0 e1 e2 e3 e4
  have HCc := Lib.hid (HC0.out.below HBc.out (by omega))
  have y0 : wc.cell? ⟨cb, 0, none⟩ = some rv := (cell_of_row wc cb 0 _ _ _ HCc.out).trans rfl
  have hcbc : cb < wc.heap.size := (Array.getElem?_eq_some_iff.mp HCc.out).1
  have HMc := Lib.hid (HM0.out.below HBc.out)
  have HTc := Lib.hid (HT0.out.below HBc.out)
  have HRc := Lib.hid (HR0.out.below HBc.out (by omega))
  have HBW := Lib.hid (HB0.out.trans (HBc.out.mono HB0.out.size))
  have hq := HQ1.out
  rw [HL.out] at hq
  have HQ2 := Lib.hid hq
  clear z0 z1 z2 z3 z4 KB KAL hex hbw eL hq HQ HQ1 x1 ez kz wz
  obtain ⟨wd, ewd⟩ : ∃ wd, wd = wc := ⟨_, rfl⟩
  subst ewd
  go_upto_block 0 with fail
  go_cut [7] (fun s7 wx => s7 = .pointer (some ⟨W0.heap.size, 0, none⟩) ∧ Hid (withinB off (-64800) 64800 = true ∧ withinB sv 0 10800 = true ∧ (decide (sv ≠ 0) && decide (ru.data.toList ≠ [])) = false ∧ (decide (ru.data.toList ≠ []) && !(b.rules.any fun r => decide (r.nm = ru))) = false) ∧ Hid (Below wd.heap.size wd wx))
  case first =>
   go_wp2_with fail
   refine (book_within off (-64800) 64800 _).mono ?_
   obtain ⟨O, eO⟩ : ∃ O, withinB off (-64800) 64800 = O := ⟨_, rfl⟩
   rw [eO]
   have HO := Lib.hid eO
   clear eO
   rintro e w' ⟨rfl, rfl⟩
   cases O with
   | false =>
    go_wp2_with fail
    go_ret
    exact ⟨ret_E (by rw [HQ2.out, HO.out]; rfl), HBW.out⟩
   | true =>
   go_wp2_with fail
   refine (book_within sv 0 10800 _).mono ?_
   obtain ⟨S, eS⟩ : ∃ S, withinB sv 0 10800 = S := ⟨_, rfl⟩
   rw [eS]
   have HSS := Lib.hid eS
   clear eS
   rintro e w' ⟨rfl, rfl⟩
   cases S with
   | false =>
    go_wp2_with fail
    go_ret
    exact ⟨ret_E (by rw [HQ2.out, HO.out, HSS.out]; rfl), HBW.out⟩
   | true =>
   by_cases hru : ru.data.toList = []
   ·have b0 : ru.toList.isEmpty = true := by rw [ByteArray.toList_eq, hru]; rfl
    have HRN : Hid (decide (ru.data.toList ≠ []) = false) := by show _ = _; exact decide_eq_false (fun h => h hru)
    clear hru
    by_cases hsv : sv = 0
    ·have t1 : (sv == 0) = true := by simpa using hsv
     have s1 : sv ≤ 0 := by omega
     have s2 : 0 ≤ sv := by omega
     clear hsv
     go_wp2_with fail
     go_meet
     exact ⟨rfl, Lib.hid ⟨HO.out, HSS.out, by rw [HRN.out, Bool.and_false], by rw [HRN.out]; rfl⟩, Lib.hid (Below.refl _ _)⟩
    ·have t1 : (sv == 0) = false := by simpa using hsv
     have t2 : (!sv == 0) = true := by rw [t1]; rfl
     go_wp2_with fail
     go_meet
     exact ⟨rfl, Lib.hid ⟨HO.out, HSS.out, by rw [HRN.out, Bool.and_false], by rw [HRN.out]; rfl⟩, Lib.hid (Below.refl _ _)⟩
   ·have b0 : ru.toList.isEmpty = false := by
     rw [ByteArray.toList_eq]
     cases e : ru.data.toList with
     | nil => exact absurd e hru
     | cons c r => rfl
    have HRN : Hid (decide (ru.data.toList ≠ []) = true) := by show _ = _; exact decide_eq_true hru
    clear hru
    by_cases hsv : sv = 0
    ·have t1 : (sv == 0) = true := by simpa using hsv
     have HN : Hid (decide (sv ≠ 0) = false) := by show _ = _; exact decide_eq_false (fun h => h hsv)
     have eg : ∀ args w, (callFunc 53 args).run Tryd.prog w = .ok (.enter 53 args) w := enters_of Tryd.func53 (by kernel_rfl) rfl
     have HH := Lib.hid (hasRu_any b.rules rv 53 #[.pointer (some ⟨W0.heap.size, 0, none⟩)] (fun r => decide (r.nm = ru)) wd eg (by
      obtain ⟨p, cap, rfl, q1, q2⟩ := HRc.out
      refine ⟨p, cap, rfl, q1, fun hn => ?_⟩
      obtain ⟨b1, o1, h1, h2, h3⟩ := q2 hn
      exact ⟨b1, o1, h1, by omega, h3⟩) (fun W hb r hr => eraF_any r W0.heap.size ru W ((hb.cell (p := ⟨W0.heap.size, 1, none⟩) hlx).trans e1)))
     obtain ⟨H, eH⟩ : ∃ H, (b.rules.any fun r => decide (r.nm = ru)) = H := ⟨_, rfl⟩
     rw [eH] at HH
     have HHV := Lib.hid eH
     have s1 : sv ≤ 0 := by omega
     have s2 : 0 ≤ sv := by omega
     clear hsv eH eg
     go_wp2_with fail
     refine HH.out.mono ?_
     rintro e w2 ⟨rfl, hb2⟩
     have HB2 := Lib.hid hb2
     clear hb2
     cases H with
     | false =>
      go_wp2_with fail
      go_ret
      exact ⟨ret_E (by rw [HQ2.out, HO.out, HSS.out, HN.out, HRN.out, HHV.out]; rfl), HBW.out.trans (HB2.out.mono HBW.out.size)⟩
     | true =>
      go_wp2_with fail
      go_meet
      exact ⟨rfl, Lib.hid ⟨HO.out, HSS.out, by rw [HN.out]; rfl, by rw [HHV.out]; simp⟩, HB2⟩
    ·have t1 : (sv == 0) = false := by simpa using hsv
     have t2 : (!sv == 0) = true := by rw [t1]; rfl
     have HN : Hid (decide (sv ≠ 0) = true) := by show _ = _; exact decide_eq_true hsv
     go_wp2_with fail
     go_ret
     exact ⟨ret_E (by rw [HQ2.out, HO.out, HSS.out, HN.out, HRN.out]; rfl), HBW.out⟩
  case rest =>
  obtain ⟨rfl, HV, HBv⟩ := hcut
  have HX2 := Lib.hid (HX.out.below HBv.out)
  have HBW2 := Lib.hid (HBW.out.trans (HBv.out.mono HBW.out.size))
  have HC2 := Lib.hid (HCc.out.below HBv.out hcbc)
  have HM2 := Lib.hid (HMc.out.below HBv.out)
  have HT2 := Lib.hid (HTc.out.below HBv.out)
  have HR2 := Lib.hid ((HRc.out.below HBv.out (by have := HB0.out.size; have := HBc.out.size; omega)).mono (Nat.le_trans HB0.out.size (Nat.le_trans HBc.out.size HBv.out.size)))
  have hz1 : wd.heap.size ≤ wc.heap.size := HBv.out.size
  have hz2 : W0.heap.size ≤ wd.heap.size := HBc.out.size
  have X1 := Lib.hid ((HBv.out.cell (p := ⟨w.heap.size, 1, none⟩) (show w.heap.size < wd.heap.size by omega)).trans ((HBc.out.cell (p := ⟨w.heap.size, 1, none⟩) hl0).trans HX1.out))
  have HLFT := Lib.hid (fun (j : Nat) (u : Value) (h : w.cell? ⟨bb, j, none⟩ = some u) => (HBW2.out.cell (p := ⟨bb, j, none⟩) hbl).trans h)
  have hq := HQ2.out
  rw [eraB_mid _ _ _ _ _ _ _ _ _ _ _ HV.out] at hq
  have HQ3 := Lib.hid hq
  clear hq HQ2 e0 e1 e2 e3 e4 y0 HX HCc HMc HTc HRc HM0 HT0 HR0 HC0 HBW HV
  obtain ⟨e0, e1, e2, e3, e4⟩ := HX2.out.cells
  have hlx2 := HX2.out.lt
  simp only at e0 e1 e2 e3 e4
  have HAB := Lib.hid (abbrs_any ⟨off, ru, sv, fm, un⟩ b.rules rv zv lv cb wc HC2.out HR2.out HS.out HSX.out HM2.out)
  obtain ⟨A, eA⟩ : ∃ A, abbrsChk b.rules ⟨off, ru, sv, fm, un⟩ = A := ⟨_, rfl⟩
  rw [eA] at HAB HQ3
  clear eA
  go_wp2_with fail
  refine HAB.out.mono ?_
  rintro e w3 ⟨rfl, hb3⟩
  have HX3 := Lib.hid (HX2.out.below hb3)
  have HBW3 := Lib.hid (HBW2.out.trans (hb3.mono HBW2.out.size))
  have HT3 := Lib.hid (HT2.out.below hb3)
  have hz3 : wc.heap.size ≤ w3.heap.size := hb3.size
  have X3 := Lib.hid ((hb3.cell (p := ⟨w.heap.size, 1, none⟩) (show w.heap.size < wc.heap.size by omega)).trans X1.out)
  have HLF3 := Lib.hid (fun (j : Nat) (u : Value) (h : w.cell? ⟨bb, j, none⟩ = some u) => (HBW3.out.cell (p := ⟨bb, j, none⟩) hbl).trans h)
  clear hb3 HX2 HBW2 HC2 HM2 HT2 HR2 X1 HLFT e0 e1 e2 e3 e4 HAB
  obtain ⟨e0, e1, e2, e3, e4⟩ := HX3.out.cells
  have hlx3 := HX3.out.lt
  simp only at e0 e1 e2 e3 e4
  by_cases hA : A = 0
  case neg =>
   have t1 : (A == 0) = false := by simpa using hA
   have t2 : (!A == 0) = true := by rw [t1]; rfl
   have HRA : Hid (R = A) := by show _ = _; rw [HQ3.out]; exact eraC_A _ _ _ _ _ _ hA
   go_wp2_with fail
   go_ret
   exact ⟨ret_E HRA.out.symm, HBW3.out⟩
  case pos =>
  subst hA
  cases L with
  | true =>
   by_cases hu : un = 0
   ·have HRA : Hid (R = 0) := by show _ = _; rw [HQ3.out, decide_eq_false (fun h => h hu)]; rfl
    have s1 : un ≤ 0 := by omega
    have s2 : 0 ≤ un := by omega
    have t1 : (un == 0) = true := by simpa using hu
    clear hu
    go_wp2_with fail
    go_ret
    exact ⟨ret_E HRA.out.symm, HBW3.out⟩
   ·have HRA : Hid (R = 5) := by show _ = _; rw [HQ3.out, decide_eq_true hu]; rfl
    have t1 : (un == 0) = false := by simpa using hu
    have t2 : (!un == 0) = true := by rw [t1]; rfl
    go_wp2_with fail
    go_ret
    exact ⟨ret_E HRA.out.symm, HBW3.out⟩
  | false =>
  go_wp2_with fail
  refine (book_within un (-1099511627776) 1099511627776 _).mono ?_
  obtain ⟨U, eU⟩ : ∃ U, withinB un (-1099511627776) 1099511627776 = U := ⟨_, rfl⟩
  rw [eU]
  rw [eU] at HQ3
  clear eU
  rintro e w' ⟨rfl, rfl⟩
  cases U with
  | false =>
   go_wp2_with fail
   go_ret
   exact ⟨ret_E (by rw [HQ3.out]; rfl), HBW3.out⟩
  | true =>
  have HST := Lib.hid (Stamp_any un w3 HSX.out.2.2.2.2.2.2.1 HSX.out.2.2.2.2.2.2.2 HT3.out)
  obtain ⟨T, eT⟩ : ∃ T, stampE un = T := ⟨_, rfl⟩
  rw [eT] at HST HQ3
  clear eT
  go_wp2_with fail
  refine HST.out.mono ?_
  rintro e w4 ⟨⟨st, rfl⟩, hb4⟩
  have HX4 := Lib.hid (HX3.out.below hb4)
  have HBW4 := Lib.hid (HBW3.out.trans (hb4.mono HBW3.out.size))
  have hz4 : w3.heap.size ≤ w4.heap.size := hb4.size
  have X4 := Lib.hid ((hb4.cell (p := ⟨w.heap.size, 1, none⟩) (show w.heap.size < w3.heap.size by omega)).trans X3.out)
  have HLF4 := Lib.hid (fun (j : Nat) (u : Value) (h : w.cell? ⟨bb, j, none⟩ = some u) => (HBW4.out.cell (p := ⟨bb, j, none⟩) hbl).trans h)
  clear hb4 HX3 HBW3 X3 HLF3 HST e0 e1 e2 e3 e4
  obtain ⟨e0, e1, e2, e3, e4⟩ := HX4.out.cells
  have hlx4 := HX4.out.lt
  simp only at e0 e1 e2 e3 e4
  by_cases hT : T = 0
  case neg =>
   have t1 : (T == 0) = false := by simpa using hT
   have t2 : (!T == 0) = true := by rw [t1]; rfl
   have HRA : Hid (R = T) := by show _ = _; rw [HQ3.out]; exact eraC_T _ _ _ hT
   go_wp2_with fail
   go_ret
   exact ⟨ret_E HRA.out.symm, HBW4.out⟩
  case pos =>
  subst hT
  by_cases hk0 : k = 0
  ·subst hk0
   have HRA : Hid (R = 0) := by show _ = _; rw [HQ3.out, show decide (0 < 0 ∧ un ≤ (eraAt l (0 - 1)).un) = false from decide_eq_false (fun h => absurd h.1 (Nat.lt_irrefl 0))]; rfl
   go_upto_region 20 with fail
   go_big_region
   all_goals go_wp2_with fail
   go_ret
   exact ⟨ret_E HRA.out.symm, HBW4.out.drew⟩
  ·obtain ⟨q, rfl⟩ : ∃ q, k = q + 1 := ⟨k - 1, by omega⟩
   obtain ⟨y, hy1, hy2, hy3, hy4⟩ := HPV.out q rfl
   have c9 := HLF4.out _ _ hy2
   have x9 := X4.out
   obtain ⟨yun, eyu⟩ : ∃ v, y.un = v := ⟨_, rfl⟩
   have hq3 := HQ3.out
   rw [Nat.add_sub_cancel, hy1, eyu] at hq3
   rw [eyu] at c9 hy3 hy4
   have HQ4 := Lib.hid hq3
   clear hq3 hy1 hy2 eyu hk0
   have hwp : IntKind.i64.wrap (q : Int) = (q : Int) := by rw [IntKind.wrap_i64]; omega
   have jz1 : (q : Int) < (l.length : Int) := by omega
   have p0 : (0 : Int) < (q : Int) + 1 := by omega
   have gd : decide ((q : Int) + 1 > 0) = true := decide_eq_true (by omega)
   by_cases hP : un ≤ yun
   ·have HRA : Hid (R = 5) := by show _ = _; rw [HQ4.out, show decide (0 < q + 1 ∧ un ≤ yun) = true from decide_eq_true ⟨by omega, hP⟩]; rfl
    go_upto_region 20 with fail
    go_quiet (fail)
    go_wp2_with fail
    go_ret
    exact ⟨ret_E HRA.out.symm, below_drewN' HBW4.out _⟩
   ·have HRA : Hid (R = 0) := by show _ = _; rw [HQ4.out, show decide (0 < q + 1 ∧ un ≤ yun) = false from decide_eq_false (fun h => hP h.2)]; rfl
    go_upto_region 20 with fail
    go_quiet (fail)
    go_wp2_with fail
    go_ret
    exact ⟨ret_E HRA.out.symm, below_drewN' HBW4.out _⟩
theorem zoneF_any (y : Zo) (zb : Nat) (nm : ByteArray) (w : World) (hx : w.cell? ⟨zb, 0, none⟩ = some (.string nm)) :
 Calls Tryd.prog 36 (#[.agg (zoCells y).toArray] ++ #[.pointer (some ⟨zb, 0, none⟩)]) w fun e w' => e = .returned (.bool (decide (y.nm = nm))) ∧ Below w.heap.size w w' := by
 have hlt : zb < w.heap.size := World.block_lt_of_cell? _ _ hx
 have HE := Lib.hid (str_eqB y.nm nm)
 obtain ⟨ynm, yev, yer⟩ := y
 show Calls _ _ #[.agg #[.string ynm, yev], .pointer (some ⟨zb, 0, none⟩)] _ _
 go_enter Tryd.func36, Tryd.ntmps36
 go_wp2_with fail
 go_ret
 exact ⟨ret_bB HE.out, (Below.refl _ _).alloc (Nat.le_refl _) _⟩
theorem RowsAt.take {α : Type} {cells : α → List Value} {k B : Nat} {W : World} {b o cap : Nat} {l : List α} (h : RowsAt cells k B W (.slice (some ⟨b, o, none⟩) l.length cap) l) (n : Nat) (hn : n ≤ l.length) : RowsAt cells k B W (.slice (some ⟨b, o, none⟩) n cap) (l.take n) := by
 obtain ⟨p, c, e, hl, h⟩ := h
 injection e with e1 e2 e3
 subst e3
 refine ⟨some ⟨b, o, none⟩, cap, by rw [List.length_take, Nat.min_eq_left hn], by rw [List.length_take]; omega, fun hne => ?_⟩
 have hlne : l ≠ [] := by rintro rfl; simp at hne
 obtain ⟨b2, o2, e4, hlt, hc⟩ := h hlne
 rw [← e1] at e4
 injection e4 with e4
 injection e4 with e5 e6
 subst e5; subst e6
 refine ⟨b, o, rfl, hlt, fun i hi j u hu => ?_⟩
 rw [List.length_take] at hi
 rw [List.getElem_take] at hu
 exact hc i (by omega) j u hu
theorem zoneChk_3 (rules : List Ru) (be : List Zo) (z : Zo) (h : nameB z.nm = false) : zoneChk rules be z = 3 := by unfold zoneChk; rw [if_pos h]
theorem zoneChk_7 (rules : List Ru) (be : List Zo) (z : Zo) (h : nameB z.nm = true) (h2 : (be.any fun y => decide (y.nm = z.nm)) = true) : zoneChk rules be z = 7 := by unfold zoneChk; rw [if_neg (by rw [h]; simp), if_pos h2]
theorem zoneChk_n (rules : List Ru) (be : List Zo) (z : Zo) (h : nameB z.nm = true) (h2 : (be.any fun y => decide (y.nm = z.nm)) = false) : zoneChk rules be z = if z.eras = [] then 5 else if 700 < z.eras.length then 2 else firstE (eraChk rules z.eras) (List.range z.eras.length) := by unfold zoneChk; rw [if_neg (by rw [h]; simp), if_neg (by rw [h2]; simp)]
set_option maxRecDepth 100000 in
set_option maxHeartbeats 8000000 in
theorem zone_any (b : Bk) (rv zv lv : Value) (cb k : Nat) (w : World) (hC : ChkBx w cb rv zv lv) (hB : BookAt w.heap.size w rv zv lv b) (hk : k < b.zones.length) (hm : MaxLen w) (ht : Tab10 w) :
 Calls Tryd.prog 27 #[.pointer (some ⟨cb, 0, none⟩), .int .i64 k] w fun e w' => e = .returned (.int .i64 (zoneChk b.rules (b.zones.take k) b.zones[k])) ∧ Below w.heap.size w w' := by
 have hcb : cb < w.heap.size := (Array.getElem?_eq_some_iff.mp hC).1
 have hz := hB.z
 obtain ⟨p, cap, rfl, hlen, hrow⟩ := hz
 obtain ⟨bb, o, rfl, hbl, hcs⟩ := hrow (List.ne_nil_of_length_pos (by omega))
 have hck := hcs k hk
 have hev := hB.e b.zones[k] (List.getElem_mem hk)
 have hsz := hB.zs b.zones[k] (List.getElem_mem hk)
 have HTK := Lib.hid (hB.z.take k (by omega))
 obtain ⟨z, ez⟩ : ∃ z, b.zones[k] = z := ⟨_, rfl⟩
 rw [ez] at hck hev hsz ⊢
 obtain ⟨nm, ev, er⟩ := z
 simp only at hev
 obtain ⟨pe, ce, rfl, hle, hre⟩ := hev
 have c0 := hck 0 _ rfl
 have c1 := hck 1 _ rfl
 simp only at c0 c1
 rw [Nat.add_zero] at c0
 have y1 := (cell_of_row w cb 1 _ _ _ hC).trans rfl
 obtain ⟨R, eR⟩ : ∃ R, zoneChk b.rules (b.zones.take k) ⟨nm, .slice pe er.length ce, er⟩ = R := ⟨_, rfl⟩
 have HR3 := Lib.hid (zoneChk_3 b.rules (b.zones.take k) ⟨nm, .slice pe er.length ce, er⟩)
 have HR7 := Lib.hid (zoneChk_7 b.rules (b.zones.take k) ⟨nm, .slice pe er.length ce, er⟩)
 have HRn := Lib.hid (zoneChk_n b.rules (b.zones.take k) ⟨nm, .slice pe er.length ce, er⟩)
 rw [eR] at HR3 HR7 HRn ⊢
 obtain ⟨W0, eW⟩ : ∃ W0, w.alloc (.cells #[.string nm, .slice pe er.length ce] 34) = W0 := ⟨_, rfl⟩
 have hb0 : Below w.heap.size w W0 := by rw [← eW]; exact (Below.refl _ _).alloc (Nat.le_refl _) _
 have hbx : W0.heap[w.heap.size]? = some (.cells #[.string nm, .slice pe er.length ce] 34 (0, 0)) := by rw [← eW]; exact heap_alloc_new w _
 have hl0 : w.heap.size < W0.heap.size := by rw [← eW]; simp
 have HBX := Lib.hid hbx
 have x0 := (cell_of_row W0 _ 0 _ _ _ hbx).trans rfl
 have x1 := (cell_of_row W0 _ 1 _ _ _ hbx).trans rfl
 have x0r := x0
 have x1r := x1
 have HEW := Lib.hid eW
 have HB0 := Lib.hid hb0
 have HC0 := Lib.hid (hC.below hb0 hcb)
 have z1 := (cell_of_row W0 cb 1 _ _ _ HC0.out).trans rfl
 have HBK := Lib.hid (hB.below hb0 (Nat.le_refl _))
 have HM0 := Lib.hid (hm.below hb0)
 have HT0 := Lib.hid (ht.below hb0)
 have HTK0 := Lib.hid (HTK.out.below hb0 (Nat.le_refl _))
 have HRE0 : Hid (RowsAt (fun x : Er => (erCells x).toList) 5 w.heap.size W0 (.slice pe er.length ce) er) := by
  show RowsAt _ _ _ _ _ _
  have h : RowsAt (fun x : Er => (erCells x).toList) 5 w.heap.size w (.slice pe er.length ce) er := ⟨pe, ce, rfl, hle, hre⟩
  exact h.below hb0 (Nat.le_refl _)
 have HSZ := Lib.hid hsz
 have HNM := Lib.hid (fun W => isName_any nm W (by have := hsz.1; simp only at this; unfold maxLen; omega))
 have kz : (k : Int) < (b.zones.length : Int) := by omega
 have kz2 : (k : Int) ≤ (cap : Int) := by omega
 have hcb0 : cb < W0.heap.size := by omega
 clear eW hb0 hC hm ht hcs hck hrow hB hsz hbx ez eR hre HTK
 go_enter Tryd.func27, Tryd.ntmps27
 go_upto_region 2 with fail
 rw [HEW.out]
 go_wp2_with fail
 refine (HNM.out _).mono ?_
 obtain ⟨N, eN⟩ : ∃ N, nameB nm = N := ⟨_, rfl⟩
 rw [eN]
 have HN := Lib.hid eN
 clear eN HNM
 rintro e w' ⟨rfl, rfl⟩
 cases N with
 | false =>
  have HRA := Lib.hid (HR3.out HN.out)
  go_wp2_with fail
  go_ret
  exact ⟨ret_E HRA.out.symm, HB0.out⟩
 | true =>
 have eg : ∀ args w, (callFunc 36 args).run Tryd.prog w = .ok (.enter 36 args) w := enters_of Tryd.func36 (by kernel_rfl) rfl
 have HH := Lib.hid (hasZo_any (b.zones.take k) (.slice (some ⟨bb, o, none⟩) k cap) 36 #[.pointer (some ⟨w.heap.size, 0, none⟩)] (fun y => decide (y.nm = nm)) W0 eg (HTK0.out.mono HB0.out.size) (fun W hb y hy => zoneF_any y w.heap.size nm W ((hb.cell (p := ⟨w.heap.size, 0, none⟩) hl0).trans x0)))
 obtain ⟨H, eH⟩ : ∃ H, ((b.zones.take k).any fun y => decide (y.nm = nm)) = H := ⟨_, rfl⟩
 rw [eH] at HH
 have HHV := Lib.hid eH
 clear eH eg
 go_wp2_with fail
 refine HH.out.mono ?_
 rintro e w1 ⟨rfl, hb⟩
 have HB1 := Lib.hid hb
 have zb := HB1.out.size
 have x1 := (HB1.out.cell (p := ⟨w.heap.size, 1, none⟩) hl0).trans x1
 have hl1 : w.heap.size < w1.heap.size := by omega
 clear hb HH
 cases H with
 | true =>
  have HRA := Lib.hid (HR7.out HN.out HHV.out)
  go_wp2_with fail
  go_ret
  exact ⟨ret_E HRA.out.symm, HB0.out.trans (HB1.out.mono HB0.out.size)⟩
 | false =>
 have hRn := HRn.out HN.out HHV.out
 change R = if er = [] then 5 else if 700 < er.length then 2 else firstE (eraChk b.rules er) (List.range er.length) at hRn
 by_cases he0 : er.length = 0
 ·have e0 : ((er.length : Int) == 0) = true := by simp [he0]
  have HRA : Hid (R = 5) := by
   show R = 5
   rw [hRn, if_pos (List.length_eq_zero_iff.mp he0)]
  clear hRn
  go_wp2_with fail
  go_ret
  exact ⟨ret_E HRA.out.symm, HB0.out.trans (HB1.out.mono HB0.out.size)⟩
 have e0 : ((er.length : Int) == 0) = false := by simp; exact List.ne_nil_of_length_pos (by omega)
 rw [if_neg (fun h => he0 (by rw [h]; rfl))] at hRn
 by_cases he7 : 700 < er.length
 ·have e7 : (700 : Int) < (er.length : Int) := by omega
  have HRA : Hid (R = 2) := by
   show R = 2
   rw [hRn, if_pos he7]
  clear hRn
  go_wp2_with fail
  go_ret
  exact ⟨ret_E HRA.out.symm, HB0.out.trans (HB1.out.mono HB0.out.size)⟩
 have e7 : ¬ (700 : Int) < (er.length : Int) := by omega
 rw [if_neg he7] at hRn
 have HRA := Lib.hid hRn
 clear hRn
 go_wp2_with fail
 go_loopw [44] (fun i wr => ∃ j : Nat, j ≤ er.length ∧ i = .int .i64 j ∧ Hid (Below W0.heap.size W0 wr) ∧ Hid (firstE (eraChk b.rules er) (List.range er.length) = firstE (eraChk b.rules er) ((List.range er.length).drop j))) (fun i _ => er.length - (intOf i).toNat)
 case atStart => exact ⟨0, Nat.zero_le _, rfl, HB1, rfl⟩
 case round =>
  obtain ⟨j, hj, rfl, HB, HF⟩ := hrel
  have x0 := (HB.out.cell (p := ⟨w.heap.size, 0, none⟩) hl0).trans x0r
  have x1 := (HB.out.cell (p := ⟨w.heap.size, 1, none⟩) hl0).trans x1r
  have hzr := HB.out.size
  have hzr2 : w.heap.size < wr.heap.size := by omega
  by_cases hlt : j < er.length
  ·have HE := Lib.hid (era_any b _ _ _ cb j nm (.slice pe er.length ce) er wr (HC0.out.below HB.out hcb0) ((HBK.out.r.below HB.out (by omega)).mono (by omega)) HBK.out.rs ((HRE0.out.below HB.out (by omega)).mono (by omega)) HSZ.out.2 hlt (HM0.out.below HB.out) (HT0.out.below HB.out))
   obtain ⟨E, eE⟩ : ∃ E, eraChk b.rules er j = E := ⟨_, rfl⟩
   rw [eE] at HE
   have HV := Lib.hid eE
   clear eE
   go_wp2_with fail
   refine HE.out.mono ?_
   rintro e w3 ⟨rfl, hb3⟩
   have HB3 := Lib.hid (HB.out.trans (hb3.mono HB.out.size))
   clear hb3 HE
   by_cases hE : E = 0
   ·subst hE
    go_wp2_with fail
    go_roundw
    case rel => exact ⟨j + 1, by omega, by go_num, HB3, Lib.hid (firstE_drop (eraChk b.rules er) (List.range er.length) j (by simpa using hlt) (by rw [List.getElem_range]; exact HV.out) HF.out)⟩
    case measure => simp [intOf]; omega
   ·have hz : (E == 0) = false := by simpa using hE
    have hz2 : (!E == 0) = true := by rw [hz]; rfl
    have HK2 : Hid (R = E) := by
     show R = E
     have h1 := firstE_hit (eraChk b.rules er) (List.range er.length) j (by simpa using hlt) (by rw [List.getElem_range, HV.out]; exact hE) HF.out
     rw [HRA.out, h1, List.getElem_range, HV.out]
    clear hE
    go_wp2_with fail
    go_ret
    exact ⟨ret_E HK2.out.symm, HB0.out.trans (HB3.out.mono HB0.out.size)⟩
  ·have hend := firstE_end (eraChk b.rules er) (List.range er.length) j (by simp; omega) HF.out
   have hkl : ¬ (j : Int) < (er.length : Int) := by omega
   have HK2 : Hid (R = 0) := by
    show R = 0
    rw [HRA.out, hend]
   clear hend
   go_wp2_with fail
   go_ret
   exact ⟨ret_E HK2.out.symm, HB0.out.trans (HB.out.mono HB0.out.size)⟩
theorem lkZoF_any (y : Zo) (zb : Nat) (nm : ByteArray) (w : World) (hx : w.cell? ⟨zb, 0, none⟩ = some (.string nm)) :
 Calls Tryd.prog 39 (#[.agg (zoCells y).toArray] ++ #[.pointer (some ⟨zb, 0, none⟩)]) w fun e w' => e = .returned (.bool (decide (y.nm = nm))) ∧ Below w.heap.size w w' := by
 have hlt : zb < w.heap.size := World.block_lt_of_cell? _ _ hx
 have HE := Lib.hid (str_eqB y.nm nm)
 obtain ⟨ynm, yev, yer⟩ := y
 show Calls _ _ #[.agg #[.string ynm, yev], .pointer (some ⟨zb, 0, none⟩)] _ _
 go_enter Tryd.func39, Tryd.ntmps39
 go_wp2_with fail
 go_ret
 exact ⟨ret_bB HE.out, (Below.refl _ _).alloc (Nat.le_refl _) _⟩
theorem lkLkF_any (y : Lk) (zb : Nat) (nm : ByteArray) (w : World) (hx : w.cell? ⟨zb, 0, none⟩ = some (.string nm)) :
 Calls Tryd.prog 42 (#[.agg (lkCells y).toArray] ++ #[.pointer (some ⟨zb, 0, none⟩)]) w fun e w' => e = .returned (.bool (decide (y.nm = nm))) ∧ Below w.heap.size w w' := by
 have hlt : zb < w.heap.size := World.block_lt_of_cell? _ _ hx
 have HE := Lib.hid (str_eqB y.nm nm)
 obtain ⟨ynm, yto⟩ := y
 show Calls _ _ #[.agg #[.string ynm, .string yto], .pointer (some ⟨zb, 0, none⟩)] _ _
 go_enter Tryd.func42, Tryd.ntmps42
 go_wp2_with fail
 go_ret
 exact ⟨ret_bB HE.out, (Below.refl _ _).alloc (Nat.le_refl _) _⟩
set_option maxHeartbeats 2000000 in
theorem lkZone_any (b : Bk) (rv zv lv : Value) (cb tb : Nat) (nm : ByteArray) (w : World) (hC : ChkBx w cb rv zv lv) (hT : w.cell? ⟨tb, 0, none⟩ = some (.pointer (some ⟨cb, 0, none⟩))) (hz : RowsAt zoCells 2 w.heap.size w zv b.zones) :
 Calls Tryd.prog 38 (#[.string nm] ++ #[.pointer (some ⟨tb, 0, none⟩)]) w fun e w' => e = .returned (.bool (isZone b nm)) ∧ Below w.heap.size w w' := by
 have htb : tb < w.heap.size := World.block_lt_of_cell? _ _ hT
 have hcb : cb < w.heap.size := (Array.getElem?_eq_some_iff.mp hC).1
 obtain ⟨W0, eW⟩ : ∃ W0, w.alloc (.cells #[.string nm] 9) = W0 := ⟨_, rfl⟩
 have hb0 : Below w.heap.size w W0 := by rw [← eW]; exact (Below.refl _ _).alloc (Nat.le_refl _) _
 have hbx : W0.heap[w.heap.size]? = some (.cells #[.string nm] 9 (0, 0)) := by rw [← eW]; exact heap_alloc_new w _
 have hl0 : w.heap.size < W0.heap.size := by rw [← eW]; simp
 have x0 := (cell_of_row W0 _ 0 _ _ _ hbx).trans rfl
 have z1 := (cell_of_row W0 cb 1 _ _ _ (hC.below hb0 hcb)).trans rfl
 have t0 := (hb0.cell (p := ⟨tb, 0, none⟩) htb).trans hT
 have eg : ∀ args w, (callFunc 39 args).run Tryd.prog w = .ok (.enter 39 args) w := enters_of Tryd.func39 (by kernel_rfl) rfl
 have HH := Lib.hid (hasZo_any b.zones zv 39 #[.pointer (some ⟨w.heap.size, 0, none⟩)] (fun y => decide (y.nm = nm)) W0 eg ((hz.below hb0 (Nat.le_refl _)).mono hb0.size) (fun W hb y hy => lkZoF_any y w.heap.size nm W ((hb.cell (p := ⟨w.heap.size, 0, none⟩) hl0).trans x0)))
 obtain ⟨H, eH⟩ : ∃ H, isZone b nm = H := ⟨_, rfl⟩
 have eH2 : (b.zones.any fun y => decide (y.nm = nm)) = H := eH
 rw [eH2] at HH
 rw [eH]
 have HEW := Lib.hid eW
 have HB0 := Lib.hid hb0
 have hcb0 : cb < W0.heap.size := by omega
 have htb0 : tb < W0.heap.size := by omega
 clear eW hb0 hC hbx hT hz eH eH2 eg
 go_enter Tryd.func38, Tryd.ntmps38
 go_upto_region 1 with fail
 rw [HEW.out]
 go_wp2_with fail
 refine HH.out.mono ?_
 rintro e w1 ⟨rfl, hb⟩
 have HB1 := Lib.hid hb
 clear hb
 go_wp2_with fail
 go_ret
 exact ⟨rfl, HB0.out.trans (HB1.out.mono HB0.out.size)⟩
set_option maxHeartbeats 2000000 in
theorem lkLink_any (l : List Lk) (v : Value) (nm : ByteArray) (w : World) (hz : RowsAt lkCells 2 w.heap.size w v l) :
 Calls Tryd.prog 40 (#[v, .string nm] ++ #[]) w fun e w' => e = .returned (.bool (isLink l nm)) ∧ Below w.heap.size w w' := by
 obtain ⟨W0, eW⟩ : ∃ W0, w.alloc (.cells #[.string nm] 9) = W0 := ⟨_, rfl⟩
 have hb0 : Below w.heap.size w W0 := by rw [← eW]; exact (Below.refl _ _).alloc (Nat.le_refl _) _
 have hbx : W0.heap[w.heap.size]? = some (.cells #[.string nm] 9 (0, 0)) := by rw [← eW]; exact heap_alloc_new w _
 have hl0 : w.heap.size < W0.heap.size := by rw [← eW]; simp
 have x0 := (cell_of_row W0 _ 0 _ _ _ hbx).trans rfl
 have eg : ∀ args w, (callFunc 42 args).run Tryd.prog w = .ok (.enter 42 args) w := enters_of Tryd.func42 (by kernel_rfl) rfl
 have HH := Lib.hid (hasLk_any l v 42 #[.pointer (some ⟨w.heap.size, 0, none⟩)] (fun y => decide (y.nm = nm)) W0 eg ((hz.below hb0 (Nat.le_refl _)).mono hb0.size) (fun W hb y hy => lkLkF_any y w.heap.size nm W ((hb.cell (p := ⟨w.heap.size, 0, none⟩) hl0).trans x0)))
 obtain ⟨H, eH⟩ : ∃ H, isLink l nm = H := ⟨_, rfl⟩
 have eH2 : (l.any fun y => decide (y.nm = nm)) = H := eH
 rw [eH2] at HH
 rw [eH]
 have HEW := Lib.hid eW
 have HB0 := Lib.hid hb0
 clear eW hb0 hbx hz eH eH2 eg
 go_enter Tryd.func40, Tryd.ntmps40
 go_upto_region 1 with fail
 rw [HEW.out]
 go_wp2_with fail
 refine HH.out.mono ?_
 rintro e w1 ⟨rfl, hb⟩
 have HB1 := Lib.hid hb
 clear hb
 go_wp2_with fail
 go_ret
 exact ⟨rfl, HB0.out.trans (HB1.out.mono HB0.out.size)⟩
theorem linkChk_3 (b : Bk) (be : List Lk) (x : Lk) (h : nameB x.nm = false ∨ nameB x.tg = false) : linkChk b be x = 3 := by unfold linkChk; rw [if_pos h]
theorem linkChk_7 (b : Bk) (be : List Lk) (x : Lk) (h : nameB x.nm = true) (h2 : nameB x.tg = true) (h3 : isZone b x.nm = true ∨ isLink be x.nm = true) : linkChk b be x = 7 := by unfold linkChk; rw [if_neg (by rw [h, h2]; simp), if_pos h3]
theorem linkChk_6 (b : Bk) (be : List Lk) (x : Lk) (h : nameB x.nm = true) (h2 : nameB x.tg = true) (h3 : ¬ (isZone b x.nm = true ∨ isLink be x.nm = true)) (h4 : isZone b x.tg = false ∧ isLink b.links x.tg = false) : linkChk b be x = 6 := by unfold linkChk; rw [if_neg (by rw [h, h2]; simp), if_neg h3, if_pos h4]
theorem linkChk_0 (b : Bk) (be : List Lk) (x : Lk) (h : nameB x.nm = true) (h2 : nameB x.tg = true) (h3 : ¬ (isZone b x.nm = true ∨ isLink be x.nm = true)) (h4 : ¬ (isZone b x.tg = false ∧ isLink b.links x.tg = false)) : linkChk b be x = 0 := by unfold linkChk; rw [if_neg (by rw [h, h2]; simp), if_neg h3, if_neg h4]
end Go.Proofs.YtomahddiclkepaaDoor
