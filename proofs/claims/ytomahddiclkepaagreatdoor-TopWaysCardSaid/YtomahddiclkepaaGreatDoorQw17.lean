/- Part of the proof. -/
import Derived.Test.YtomahddiclkepaaGreatDoorQw00
import Derived.Test.YtomahddiclkepaaGreatDoorQw15
import Derived.Deep.DeepCutAuto
import Derived.Handy
import Derived.Test.YtomahddiclkepaaGreatDoorQw13
import Derived.Test.YtomahddiclkepaaGreatDoorQw10
import Derived.Test.YtomahddiclkepaaGreatDoorQw08
import Derived.Test.YtomahddiclkepaaGreatDoorQw16
import Derived.Test.YtomahddiclkepaaGreatDoorCiv3
set_option maxHeartbeats 20000000
set_option maxRecDepth 1000000
set_option linter.unusedVariables false
set_option linter.unusedSimpArgs false
namespace Go.Proofs.YtomahddiclkepaaGreatDoor
open Go.RowKit Go.Joins
open Classical
def PsPost (R : RdS × Nat × Int) (w : World) (e : Ending) (w' : World) : Prop :=
 Below w.heap.size w w' /\ ∃ rv zv lv evs, e = .returned (.tuple #[.agg #[rv, zv, lv], .int .i64 (R.2.1 : Int), .int .i64 R.2.2]) /\ R.1.zones.length = evs.length /\ BookAt w'.heap.size w' rv zv lv ⟨R.1.rules, zosE R.1.zones evs, R.1.links⟩
theorem rows_nilP {α : Type} {cells : α -> List Value} {k B : Nat} {W : World} : RowsAt cells k B W (.slice none 0 0) [] := ⟨none, 0, rfl, ⟨Nat.zero_le _, Nat.le_refl _⟩, fun h => absurd rfl h⟩
theorem PsPost.no {R : RdS × Nat × Int} {w w' : World} {n : Nat} {C m : Int} (h : R = (rd0, n, C)) (hm : m = (n : Int)) (hb : Below w.heap.size w w') : PsPost R w (.returned (.tuple #[.agg #[.slice none 0 0, .slice none 0 0, .slice none 0 0], .int .i64 m, .int .i64 C])) w' := by
 subst h
 subst hm
 exact ⟨hb, _, _, _, [], rfl, rfl, rows_nilP, rows_nilP, fun z hz => absurd hz (List.not_mem_nil), rows_nilP, fun z hz => absurd hz (List.not_mem_nil), fun z hz => absurd hz (List.not_mem_nil), fun z hz => absurd hz (List.not_mem_nil)⟩
theorem heap_setP {W : World} {g i : Nat} {cs : Array Value} {T : TypeId} (h : W.heap[g]? = some (.cells cs T (0, 0))) (v : Value) : (W.setCell ⟨g, i, none⟩ v).heap[g]? = some (.cells (cs.setIfInBounds i v) T (0, 0)) := by rw [heap_setCell_same W g i _ _ v h]
theorem end3P {W : World} {g : Nat} {a b c : Value} {T : TypeId} (h : W.heap[g]? = some (.cells #[a, b, c] T (0, 0))) (x y z : Value) :
 ∃ W', ((W.setCell ⟨g, 0, none⟩ x).setCell ⟨g, 1, none⟩ y).setCell ⟨g, 2, none⟩ z = W' /\ Below g W W' /\ W'.cell? ⟨g, 0, none⟩ = some x /\ W'.cell? ⟨g, 1, none⟩ = some y /\ W'.cell? ⟨g, 2, none⟩ = some z /\ ∀ b, b ≠ g -> W'.heap[b]? = W.heap[b]? := by
 have hr := heap_setP (i := 2) (heap_setP (i := 1) (heap_setP (i := 0) h x) y) z
 refine ⟨_, rfl, (((Below.refl _ _).setCell (by exact Nat.le_refl _) _).setCell (by exact Nat.le_refl _) _).setCell (by exact Nat.le_refl _) _, ?_, ?_, ?_, fun b hb => (Below.heap_setCell _ _ _ _ hb).trans ((Below.heap_setCell _ _ _ _ hb).trans (Below.heap_setCell _ _ _ _ hb))⟩
 ·exact (cell_of_row _ _ 0 _ _ _ hr).trans rfl
 ·exact (cell_of_row _ _ 1 _ _ _ hr).trans rfl
 ·exact (cell_of_row _ _ 2 _ _ _ hr).trans rfl
structure Box3 (W : World) (P : Nat) : Prop where
 h : W.heap[P]? = some (.cells #[.slice none 0 0, .slice none 0 0, .slice none 0 0] 26 (0, 0))
theorem Box3.facts {W : World} {P : Nat} (h : Box3 W P) : W.cell? ⟨P, 0, none⟩ = some (.slice none 0 0) /\ W.cell? ⟨P, 1, none⟩ = some (.slice none 0 0) /\ W.cell? ⟨P, 2, none⟩ = some (.slice none 0 0) /\ W.frozen? ⟨P, 0, none⟩ = false /\ W.frozen? ⟨P, 1, none⟩ = false /\ W.frozen? ⟨P, 2, none⟩ = false /\ P < W.heap.size :=
 ⟨(cell_of_row W _ 0 _ _ _ h.h).trans rfl, (cell_of_row W _ 1 _ _ _ h.h).trans rfl, (cell_of_row W _ 2 _ _ _ h.h).trans rfl, by simp [World.frozen?, h.h], by simp [World.frozen?, h.h], by simp [World.frozen?, h.h], (Array.getElem?_eq_some_iff.mp h.h).1⟩
def LnsAt (W : World) (A : Nat) (ls : List (List UInt8)) : Prop := ∃ cs fr, W.heap[A]? = some (.cells cs 9 fr) /\ ∀ j (h : j < ls.length), W.cell? ⟨A, j, none⟩ = some (.string (txt ls[j]))
theorem LnsAt.keep {W W' : World} {A : Nat} {ls : List (List UInt8)} (h : LnsAt W A ls) (hk : StrKeep W W') : LnsAt W' A ls := by
 obtain ⟨cs, fr, h1, h2⟩ := h
 have e := hk A cs fr h1
 exact ⟨cs, fr, e.trans h1, fun j hj => (World.cell?_of_block (a := ⟨A, j, none⟩) e).trans (h2 j hj)⟩
theorem splitB_any (c : UInt8) (l : List UInt8) (w : World) (hl : l.length < 4294967281) (hm : MaxLen w) :
 Calls Tryz.prog 36 #[.string (txt l), .string (txt [c])] w fun e w' => ∃ A, e = .returned (.slice (some ⟨A, 0, none⟩) (splitC c l).length (splitC c l).length) /\ w.heap.size <= A /\ LnsAt w' A (splitC c l) /\ Below w.heap.size w w' := by
 obtain ⟨m, hm⟩ := hm
 have hn : (splitC c l).length = Lib.countB (txt l) (txt [c]) + 1 := by
  rw [splitC_length]; unfold Lib.countB; rw [txt_data, txt_data, Lib.count_one]
 refine (Tryz.strings_Split (txt l) (txt [c]) m w (by rw [txt_size]; exact hl) hm (by rw [txt_size]; simp)).mono ?_
 rintro e w' ⟨rfl, rfl⟩
 rw [splitB_one]
 refine ⟨w.heap.size, by rw [hn], Nat.le_refl _, ⟨_, _, heap_alloc_new w _, ?_⟩, (Below.refl _ _).alloc (Nat.le_refl _) _⟩
 intro j h
 rw [cell_of_row _ _ _ _ _ _ (heap_alloc_new w _)]
 simp [h]
theorem RdM.keepB {B R : Nat} {W W' : World} {rv zv lv : Value} {evs : List Value} {st : RdS} (h : RdM B W R rv zv lv evs st) (hk : ∀ b, B <= b -> b < W.heap.size -> W'.heap[b]? = W.heap[b]?) : RdM B W' R rv zv lv evs st :=
 have kk : ∀ {e : TypeId} {s n : Nat} {v : Value} {xs : List Value}, W.ownsRow B e s v n xs -> W'.ownsRow B e s v n xs := fun ho => own_keep ho fun g e => hk g (World.ownsRow.lt ho g e).1 (World.ownsRow.lt ho g e).2
 ⟨h.hR, (hk R h.hR h.lt).trans h.blk, kk h.rr, kk h.zr, h.el, fun i hi => kk (h.er i hi), h.ed, kk h.lr⟩
theorem bookParse_any (l : List UInt8) (w : World) (hl : l.length <= 140737488351232) (ht : Tab10 w) (ha : AscTab w) (he : NumErrs w) (hm : MaxLen w) :
 Calls Tryz.prog 11 #[.string (txt l)] w (PsPost (parseF l) w) := by
 obtain ⟨W0, eW⟩ : ∃ W0, w.alloc (.cells #[.slice none 0 0, .slice none 0 0, .slice none 0 0] 26) = W0 := ⟨_, rfl⟩
 obtain ⟨P, eP⟩ : ∃ P, w.heap.size = P := ⟨_, rfl⟩
 have hx0 : Box3 W0 P := ⟨by rw [<- eW]; exact alloc_at _ _ _ eP.symm⟩
 have hb0 : Below w.heap.size w W0 := by rw [<- eW]; exact alB _ _
 have hs0 : W0.heap.size = P + 1 := by rw [<- eW, <- eP]; simp
 have HFIN : Hid (∀ W, Below P W0 W -> Below w.heap.size w W) := by
  show ∀ W, _
  intro W hb
  rw [eP] at hb0 ⊢
  exact hb0.trans hb
 have HFA : Hid (∀ W, Below (P + 1) W0 W -> Box3 W P /\ Tab10 W /\ AscTab W /\ NumErrs W /\ MaxLen W) := by
  show ∀ W, _
  intro W hb
  have hw := HFIN.out W (hb.mono (Nat.le_succ _))
  exact ⟨⟨(hb.block P (Nat.lt_succ_self _)).trans hx0.h⟩, ht.below hw, ha.below hw, he.below hw, hm.below hw⟩
 obtain ⟨R, eR⟩ : ∃ R, parseF l = R := ⟨_, rfl⟩
 rw [eR]
 have hsz : (txt l).size = l.length := txt_size l
 obtain ⟨z0, z1, z2, zf0, zf1, zf2, zl⟩ := hx0.facts
 have HEW := qH eW
 have HEP := qH eP
 have HX0 := qH hx0
 have HS0 := qH hs0
 have HER := qH eR
 clear eW eP hx0 hb0 hs0 ht ha he hm eR
 by_cases h60 : 60000 < l.length
 ·have h60i : (60000 : Int) < ((txt l).size : Int) := by omega
  have HR := qH (HER.out.symm.trans (pf_large h60))
  go_enter Tryz.func11, Tryz.ntmps11
  go_upto_region 1 with fail
  rw [HEW.out, HEP.out]
  go_wp2_with fail
  obtain ⟨W9, e9, hb9, v0, v1, v2, -⟩ := end3P HX0.out.h (.slice none 0 0) (.slice none 0 0) (.slice none 0 0)
  rw [e9]
  exact bodyPost_ret (v := .tuple #[.agg #[.slice none 0 0, .slice none 0 0, .slice none 0 0], .int .i64 0, .int .i64 2]) (by simp [results, Tryz.results11, go_sem, v0, v1, v2]) rfl (PsPost.no HR.out rfl (HFIN.out _ hb9))
 have h60i : ¬ (60000 : Int) < ((txt l).size : Int) := by omega
 by_cases hnil : l = []
 ·have HR := qH (HER.out.symm.trans (pf_nil hnil))
  have hq : ((txt l).toList == []) = true := by rw [hnil, ByteArray.toList_eq, txt_data]; rfl
  clear hnil
  go_enter Tryz.func11, Tryz.ntmps11
  go_upto_region 1 with fail
  rw [HEW.out, HEP.out]
  go_wp2_with fail
  obtain ⟨W9, e9, hb9, v0, v1, v2, -⟩ := end3P HX0.out.h (.slice none 0 0) (.slice none 0 0) (.slice none 0 0)
  rw [e9]
  exact bodyPost_ret (v := .tuple #[.agg #[.slice none 0 0, .slice none 0 0, .slice none 0 0], .int .i64 0, .int .i64 0]) (by simp [results, Tryz.results11, go_sem, v0, v1, v2]) rfl (PsPost.no HR.out rfl (HFIN.out _ hb9))
 have hq : ((txt l).toList == []) = false := by
  rw [ByteArray.toList_eq, txt_data]
  simpa using hnil
 have HNL := qH hnil
 obtain ⟨W1, e1⟩ : ∃ W1, W0.alloc (.cells #[.slice none 0 0, .slice none 0 0, .slice none 0 0, .int .i64 0] 100) = W1 := ⟨_, rfl⟩
 obtain ⟨rb, erb⟩ : ∃ rb, W0.heap.size = rb := ⟨_, rfl⟩
 have hrb : rb = P + 1 := by rw [<- erb]; exact HS0.out
 have hx1 : W1.heap[rb]? = some (.cells #[.slice none 0 0, .slice none 0 0, .slice none 0 0, .int .i64 0] 100 (0, 0)) := by rw [<- e1]; exact alloc_at _ _ _ erb.symm
 have hb1 : Below rb W0 W1 := by rw [<- e1, <- erb]; exact alB _ _
 have hrd : RdM rb W1 rb (.slice none 0 0) (.slice none 0 0) (.slice none 0 0) [] rd0 :=
  ⟨Nat.le_refl _, hx1, World.ownsRow_nil _ _ _ _, World.ownsRow_nil _ _ _ _, rfl, fun i h => absurd h (Nat.not_lt_zero _), fun i j h => absurd h (Nat.not_lt_zero _), World.ownsRow_nil _ _ _ _⟩
 have hz1 : rb < W1.heap.size := (Array.getElem?_eq_some_iff.mp hx1).1
 have HE1 := qH e1
 have HRB := qH erb
 have HB1 := qH hb1
 have HRD := qH hrd
 have hf1 := HFA.out W1 (by rw [<- hrb]; exact hb1)
 have HSP := qH (splitB_any 10 l W1 (by omega) hf1.2.2.2.2)
 have hsm := splitC_small 10 l
 have hcnt := splitC_length 10 l
 have hcl : l.count 10 <= l.length := List.count_le_length
 have HPL := qH (fun k => pf_line (l := l) h60 hnil (k := k))
 have HPE := qH (fun k st => pf_end (l := l) h60 hnil (k := k) (st := st))
 have HPC := qH (fun k st => pf_chk (l := l) h60 hnil (k := k) (st := st))
 have HPO := qH (fun k st => pf_ok (l := l) h60 hnil (k := k) (st := st))
 rw [HER.out] at HPL HPE HPC HPO
 obtain ⟨ls, els⟩ : ∃ ls, splitC 10 l = ls := ⟨_, rfl⟩
 rw [els] at HSP hsm hcnt HPL HPE HPC HPO
 have hln : ls.length <= 60001 := by omega
 have HSM := qH hsm
 have HRP := qH hrb
 have hPr : P < rb := by omega
 clear e1 erb hx1 hb1 hrd hf1 hsm hcnt hcl els hnil hrb hsz h60i HS0
 have h60i : ¬ (60000 : Int) < ((txt l).size : Int) := by rw [txt_size]; omega
 go_enter Tryz.func11, Tryz.ntmps11
 go_upto_region 1 with fail
 rw [HEW.out, HEP.out]
 go_upto_region 6 with fail
 rw [HE1.out, HRB.out]
 clear z0 z1 z2 zf0 zf1 zf2 zl
 go_wp2_with fail
 refine HSP.out.mono ?_
 rintro e w2 ⟨A, rfl, hA1, hlns, hb2⟩
 have HB2 := qH (HB1.out.trans (hb2.mono (Nat.le_of_lt hz1)))
 have HRD2 := qH (HRD.out.below hb2)
 have HLN := qH hlns
 have hz2 : rb < w2.heap.size := HRD2.out.lt
 clear hb2 hlns HSP hA1
 go_wp2_with fail
 go_loopw [25] (fun i wr => ∃ k : Nat, k <= ls.length /\ i = .int .i64 k /\ Hid (∃ st, RdOk st k /\ linesF rd0 0 ls = linesF st k (ls.drop k) /\ ∃ rv zv lv evs, RdM rb wr rb rv zv lv evs st) /\ Hid (LnsAt wr A ls) /\ Hid (Below rb W0 wr)) (fun i _ => ls.length - (intOf i).toNat)
 case atStart => exact ⟨0, Nat.zero_le _, rfl, qH ⟨rd0, rdOk_0, rfl, _, _, _, _, HRD2.out⟩, HLN, HB2⟩
 case round =>
  obtain ⟨k, hk, rfl, HST, HLR, HBR⟩ := hrel
  obtain ⟨st, hok, hli, rv, zv, lv, evs, hrd⟩ := HST.out
  have HOK := qH hok
  have HLI := qH hli
  have HRDr := qH hrd
  have hzr : rb < wr.heap.size := hrd.lt
  have hfa := HFA.out wr (by rw [<- HRP.out]; exact HBR.out)
  obtain ⟨z0, z1, z2, zf0, zf1, zf2, zl⟩ := hfa.1.facts
  by_cases hkl : k < ls.length
  ·obtain ⟨cs, fr, hA, hcs⟩ := HLR.out
   have c0 := hcs k hkl
   have hAl : A < wr.heap.size := (Array.getElem?_eq_some_iff.mp hA).1
   have HLS := qH (lines_step (ls := ls) (st := st) (k := k) (j := k) hkl)
   have hx60 : (ls[k]).length <= 60000 := Nat.le_trans (HSM.out _ (List.getElem_mem hkl)) (by omega)
   have HNX := qH (fun st' => line_ok (st' := st') hok hx60)
   have HCL := qH (rdLine_any rb rb rv zv lv evs st ls[k] wr hrd (hok.sz (by omega)) (Nat.le_of_lt hzr) hx60 hfa.2.1 hfa.2.2.1 hfa.2.2.2.1 hfa.2.2.2.2)
   obtain ⟨x, ex⟩ : ∃ x, ls[k] = x := ⟨_, rfl⟩
   rw [ex] at c0 HLS HNX HCL
   obtain ⟨N, eN⟩ : ∃ N, lineF st x = N := ⟨_, rfl⟩
   rw [eN] at HLS HNX HCL
   have hik : (k : Int) < (ls.length : Int) := by omega
   clear ex eN hA hcs hok hli hrd hfa z0 z1 z2 zf0 zf1 zf2 zl HST
   go_wp2_with fail
   refine HCL.out.mono ?_
   rintro e w3 ⟨rfl, hb3, hsk, hst⟩
   have HB3 := qH (HBR.out.trans hb3)
   have HL3 := qH (HLR.out.keep hsk)
   have hfa := HFA.out w3 (by rw [<- HRP.out]; exact HB3.out)
   obtain ⟨z0, z1, z2, zf0, zf1, zf2, zl⟩ := hfa.1.facts
   have HBX := qH hfa.1
   have HSTx := qH hst
   clear hb3 hsk hst hfa HCL
   cases N with
   | none =>
    have HRz := qH (HPL.out (k + 1) (HLI.out.trans HLS.out))
    have hw1 : IntKind.i64.wrap ((k : Int) + 1) = (k : Int) + 1 := IntWalk.i64_in _ (by omega)
    go_wp2_with fail
    obtain ⟨W9, e9, hb9, v0, v1, v2, -⟩ := end3P HBX.out.h (.slice none 0 0) (.slice none 0 0) (.slice none 0 0)
    rw [e9]
    exact bodyPost_ret (v := .tuple #[.agg #[.slice none 0 0, .slice none 0 0, .slice none 0 0], .int .i64 ((k : Int) + 1), .int .i64 3]) (by simp [results, Tryz.results11, go_sem, v0, v1, v2]) rfl (PsPost.no HRz.out (by omega) (HFIN.out _ ((HB3.out.mono (by omega)).trans hb9)))
   | some st' =>
    clear z0 z1 z2 zf0 zf1 zf2
    go_wp2_with fail
    go_roundw
    case rel => exact ⟨k + 1, by omega, by go_num, qH ⟨st', HNX.out st' rfl, HLI.out.trans HLS.out, HSTx.out st' rfl⟩, HL3, HB3⟩
    case measure => simp [intOf]; omega
  ·obtain rfl : k = ls.length := by omega
   have HQ : Hid (linesF rd0 0 ls = (some st, ls.length)) := by show _ = _; rw [hli, List.drop_length]; rfl
   have hbk := hrd.book hok (by omega)
   have hcq := bkS_chk st evs hrd.el
   obtain ⟨A1, a1, f1⟩ := own_sliceN hrd.rr
   obtain ⟨A2, a2, f2⟩ := own_sliceN hrd.zr
   obtain ⟨A3, a3, f3⟩ := own_sliceN hrd.lr
   subst f1
   subst f2
   subst f3
   have HCK := qH (bkCheck_any _ _ _ _ wr hbk hfa.2.2.2.2 hfa.2.1)
   rw [<- hcq] at HCK
   obtain ⟨y0, y1, y2, y3, yf⟩ := hrd.cells
   have HP1 := qH (HPE.out _ _ HQ.out)
   have HP2 := qH (HPC.out _ _ HQ.out)
   have HP3 := qH (HPO.out _ _ HQ.out)
   have HBX := qH hfa.1
   obtain ⟨C, eC⟩ : ∃ C, bkChk (bkS st fun _ => undef) = C := ⟨_, rfl⟩
   rw [eC] at HCK HP2 HP3
   obtain ⟨sg, esg⟩ : ∃ sg, st.stage = sg := ⟨_, rfl⟩
   rw [esg] at HP1 HP2 HP3 y3
   clear hok hli hrd hbk hcq eC esg hfa HST HLI HPL HPE HPC HPO
   by_cases hsg : sg = 2
   ·have HRz := qH (HP1.out hsg)
    have hw1 : IntKind.i64.wrap ((ls.length : Int) + 1) = (ls.length : Int) + 1 := IntWalk.i64_in _ (by omega)
    have hsb : (sg == 2) = true := by simpa using hsg
    clear hsg HP1 HP2 HP3 HCK
    go_wp2_with fail
    obtain ⟨W9, e9, hb9, v0, v1, v2, -⟩ := end3P HBX.out.h (.slice none 0 0) (.slice none 0 0) (.slice none 0 0)
    rw [e9]
    exact bodyPost_ret (v := .tuple #[.agg #[.slice none 0 0, .slice none 0 0, .slice none 0 0], .int .i64 ((ls.length : Int) + 1), .int .i64 3]) (by simp [results, Tryz.results11, go_sem, v0, v1, v2]) rfl (PsPost.no HRz.out (by omega) (HFIN.out _ ((HBR.out.mono (by omega)).trans hb9)))
   have hsb : (sg == 2) = false := by simpa using hsg
   have HSG := qH hsg
   clear hsg HP1 z0 z1 z2 zf0 zf1 zf2
   go_wp2_with fail
   refine HCK.out.mono ?_
   rintro e w3 ⟨rfl, hb3⟩
   have HB3 := qH (HBR.out.trans (hb3.mono (Nat.le_of_lt hzr)))
   have HRD3 := qH (HRDr.out.below hb3)
   have hbx : Box3 w3 P := ⟨(hb3.block P zl).trans HBX.out.h⟩
   have HBX3 := qH hbx
   obtain ⟨z0, z1, z2, zf0, zf1, zf2, zl3⟩ := hbx.facts
   clear hb3 hbx HCK y0 y1 y2 y3 yf HBX
   obtain ⟨y0, y1, y2, y3, yf⟩ := HRD3.out.cells
   have hz3 := HRD3.out.lt
   by_cases hC : C = 0
   case neg =>
    have HRz := qH (HP2.out HSG.out hC)
    have hCb : (C == 0) = false := by simpa using hC
    have hCn : (C != 0) = true := by simpa using hC
    clear hC HP2 HP3 y3
    go_wp2_with fail
    obtain ⟨W9, e9, hb9, v0, v1, v2, -⟩ := end3P HBX3.out.h (.slice none 0 0) (.slice none 0 0) (.slice none 0 0)
    rw [e9]
    exact bodyPost_ret (v := .tuple #[.agg #[.slice none 0 0, .slice none 0 0, .slice none 0 0], .int .i64 0, .int .i64 C]) (by simp [results, Tryz.results11, go_sem, v0, v1, v2]) rfl (PsPost.no HRz.out rfl (HFIN.out _ ((HB3.out.mono (by omega)).trans hb9)))
   subst hC
   have HRz := qH (HP3.out HSG.out rfl)
   clear HP2 HP3 y3
   go_wp2_with fail
   obtain ⟨W9, e9, hb9, v0, v1, v2, ho9⟩ := end3P HBX3.out.h (.slice A1 st.rules.length a1) (.slice A2 st.zones.length a2) (.slice A3 st.links.length a3)
   rw [e9]
   refine bodyPost_ret (v := .tuple #[.agg #[.slice A1 st.rules.length a1, .slice A2 st.zones.length a2, .slice A3 st.links.length a3], .int .i64 0, .int .i64 0]) (by simp [results, Tryz.results11, go_sem, v0, v1, v2]) rfl ?_
   rw [HRz.out]
   have hrd9 := HRD3.out.keepB (W' := W9) fun b h1 h2 => ho9 b (by omega)
   exact ⟨HFIN.out _ ((HB3.out.mono (by omega)).trans hb9), _, _, _, evs, rfl, hrd9.el, hrd9.book HOK.out (by omega)⟩
theorem rdSpan_eq {n : Int} {l : List UInt8} (h : inS n) (e : spanT n = l) : rdSpan l = (n, 0) := by
 have hx : ∃ n, inS n /\ spanT n = l := ⟨n, h, e⟩
 unfold rdSpan
 rw [dif_pos hx]
 obtain ⟨h1, h2⟩ := Classical.choose_spec hx
 have a := rawS_span h1
 have b := rawS_span h
 have c : Classical.choose hx = n := by rw [<- a, <- b, h2, e]
 exact Prod.ext c rfl
def eraR (x : Er) : List UInt8 := if x.ru.data.toList = [] then 45 :: spanT x.sv else x.ru.data.toList
def eraT (x : Er) (last : Bool) : List UInt8 :=
 (((((([101, 114, 97, 32] ++ spanT x.off) ++ [32]) ++ eraR x) ++ [32]) ++ x.fm.data.toList)) ++ (if last = true then [] else 32 :: stampT x.un)
structure ErP (x : Er) (last : Bool) : Prop where
 o : inS x.off
 s : inS x.sv
 u : last = false -> inT x.un
 r : x.ru.size <= 60000
 f : x.fm.size <= 60000
theorem add_txt (a b : List UInt8) (h : a.length + b.length <= 9223372036854775807) (W : World) : (Op.stringOp .add (txt a) (txt b)).run Tryz.prog W = .ok (.string (txt (a ++ b))) W := by
 have := run_string_add_sum (P := Tryz.prog) W (txt a) (txt b) (by rw [txt_size, txt_size]; exact h)
 rwa [txt_append] at this
theorem eraText_any (x : Er) (last : Bool) (w : World) (h : ErP x last) (ht : Tab10 w) :
 Calls Tryz.prog 31 #[.agg (erCells x), .bool last] w fun e w' => e = .returned (.string (txt (eraT x last))) /\ Below w.heap.size w w' := by
 have HEQ : Hid (eraT x last = (((((([101, 114, 97, 32] ++ spanT x.off) ++ [32]) ++ eraR x) ++ [32]) ++ x.fm.data.toList)) ++ (if last = true then [] else 32 :: stampT x.un)) := rfl
 obtain ⟨Z, eZ⟩ : ∃ Z, eraT x last = Z := ⟨_, rfl⟩
 rw [eZ] at HEQ ⊢
 have h1 := h.o
 have h2 := h.s
 have h3 := h.u
 have h4 := h.r
 have h5 := h.f
 obtain ⟨off, ru, sv, fm, un⟩ := x
 simp only at HEQ h1 h2 h3 h4 h5
 obtain ⟨lr, rfl⟩ : ∃ a, ru = txt a := ⟨ru.data.toList, by unfold txt; simp⟩
 obtain ⟨lf, rfl⟩ : ∃ a, fm = txt a := ⟨fm.data.toList, by unfold txt; simp⟩
 rw [txt_size] at h4 h5
 rw [txt_data] at HEQ
 have HER : Hid (eraR ⟨off, txt lr, sv, txt lf, un⟩ = if lr = [] then 45 :: spanT sv else lr) := by show _ = _; unfold eraR; simp only [txt_data]
 have l1 := spanT_len h1
 have l2 := spanT_len h2
 have HSO := qH (fun W ht => Span_ok off W h1.1 h1.2 ht)
 have HSS := qH (fun W ht => Span_ok sv W h2.1 h2.2 ht)
 have HST := qH (fun W hl ht => Stamp_ok un W (h3 hl).1 (h3 hl).2 ht)
 have HT := qH ht
 obtain ⟨so, eo⟩ : ∃ s, spanT off = s := ⟨_, rfl⟩
 obtain ⟨ss, es⟩ : ∃ s, spanT sv = s := ⟨_, rfl⟩
 obtain ⟨su, eu⟩ : ∃ s, stampT un = s := ⟨_, rfl⟩
 have hlu : last = false -> su.length <= 100 := fun hl => by rw [<- eu, stamp_length un (h3 hl).1 (h3 hl).2]; decide
 obtain ⟨rr, er⟩ : ∃ s, eraR ⟨off, txt lr, sv, txt lf, un⟩ = s := ⟨_, rfl⟩
 rw [eo] at HEQ HSO l1
 rw [es] at HER HSS l2
 rw [eu] at HEQ HST
 rw [er] at HEQ HER
 have hrl : rr.length <= 60000 := by
  rw [HER.out]
  split
  ·rw [List.length_cons]; omega
  ·omega
 have a1 := add_txt [101, 114, 97, 32] so (by show 4 + so.length <= _; omega)
 have a2 := add_txt ([101, 114, 97, 32] ++ so) [32] (by rw [List.length_append]; show 4 + so.length + 1 <= _; omega)
 have a3 := add_txt (([101, 114, 97, 32] ++ so) ++ [32]) rr (by rw [List.length_append, List.length_append]; show 4 + so.length + 1 + rr.length <= _; omega)
 have a4 := add_txt ((([101, 114, 97, 32] ++ so) ++ [32]) ++ rr) [32] (by rw [List.length_append, List.length_append, List.length_append]; show 4 + so.length + 1 + rr.length + 1 <= _; omega)
 have a5 := add_txt (((([101, 114, 97, 32] ++ so) ++ [32]) ++ rr) ++ [32]) lf (by rw [List.length_append, List.length_append, List.length_append, List.length_append]; show 4 + so.length + 1 + rr.length + 1 + lf.length <= _; omega)
 have a6 := add_txt [32] su
 have a7 := add_txt ((((([101, 114, 97, 32] ++ so) ++ [32]) ++ rr) ++ [32]) ++ lf) (32 :: su)
 have a0 := add_txt [45] ss (by show 1 + ss.length <= _; omega)
 have hll : ((((([101, 114, 97, 32] ++ so) ++ [32]) ++ rr) ++ [32]) ++ lf).length = 4 + so.length + 1 + rr.length + 1 + lf.length := by
  rw [List.length_append, List.length_append, List.length_append, List.length_append, List.length_append]; rfl
 obtain ⟨s1, e1⟩ : ∃ s, [101, 114, 97, 32] ++ so = s := ⟨_, rfl⟩
 rw [e1] at a1 a2 a3 a4 a5 a7 HEQ hll
 obtain ⟨s2, e2⟩ : ∃ s, s1 ++ [32] = s := ⟨_, rfl⟩
 rw [e2] at a2 a3 a4 a5 a7 HEQ hll
 obtain ⟨s3, e3⟩ : ∃ s, s2 ++ rr = s := ⟨_, rfl⟩
 rw [e3] at a3 a4 a5 a7 HEQ hll
 obtain ⟨s4, e4⟩ : ∃ s, s3 ++ [32] = s := ⟨_, rfl⟩
 rw [e4] at a4 a5 a7 HEQ hll
 obtain ⟨s5, e5⟩ : ∃ s, s4 ++ lf = s := ⟨_, rfl⟩
 rw [e5] at a5 a7 HEQ hll
 rw [show txt [101, 114, 97, 32] = (⟨#[101, 114, 97, 32]⟩ : ByteArray) from rfl] at a1
 rw [show txt [32] = (⟨#[32]⟩ : ByteArray) from rfl] at a2 a4 a6
 rw [show txt [45] = (⟨#[45]⟩ : ByteArray) from rfl, show [45] ++ ss = 45 :: ss from rfl] at a0
 rw [show [32] ++ su = 32 :: su from rfl] at a6
 obtain ⟨W0, eW⟩ : ∃ W0, w.alloc (.cells #[.int .i64 off, .string (txt lr), .int .i64 sv, .string (txt lf), .int .i64 un] 43) = W0 := ⟨_, rfl⟩
 obtain ⟨xb, exb⟩ : ∃ xb, w.heap.size = xb := ⟨_, rfl⟩
 have hx0 : W0.heap[xb]? = some (.cells #[.int .i64 off, .string (txt lr), .int .i64 sv, .string (txt lf), .int .i64 un] 43 (0, 0)) := by rw [<- eW]; exact alloc_at _ _ _ exb.symm
 have hb0 : Below w.heap.size w W0 := by rw [<- eW]; exact alB _ _
 have HCX : Hid (∀ W, Below W0.heap.size W0 W -> W.cell? ⟨xb, 0, none⟩ = some (.int .i64 off) /\ W.cell? ⟨xb, 1, none⟩ = some (.string (txt lr)) /\ W.cell? ⟨xb, 2, none⟩ = some (.int .i64 sv) /\ W.cell? ⟨xb, 3, none⟩ = some (.string (txt lf)) /\ W.cell? ⟨xb, 4, none⟩ = some (.int .i64 un) /\ Tab10 W) := by
  show ∀ W, _
  intro W hb
  have hx := (hb.block xb (Array.getElem?_eq_some_iff.mp hx0).1).trans hx0
  exact ⟨(cell_of_row W _ 0 _ _ _ hx).trans rfl, (cell_of_row W _ 1 _ _ _ hx).trans rfl, (cell_of_row W _ 2 _ _ _ hx).trans rfl, (cell_of_row W _ 3 _ _ _ hx).trans rfl, (cell_of_row W _ 4 _ _ _ hx).trans rfl, (HT.out.below hb0).below hb⟩
 have HFIN : Hid (∀ W, Below W0.heap.size W0 W -> Below w.heap.size w W) := by
  show ∀ W, _
  intro W hb
  exact hb0.trans (hb.mono hb0.size)
 have HEW := qH eW
 have HXB := qH exb
 have HL2 := qH hll
 have HLU := qH hlu
 have HA6 := qH a6
 have HA7 := qH a7
 clear eZ eo es eu er e1 e2 e3 e4 e5 eW exb hx0 hb0 ht h h3 hll hlu a6 a7
 obtain ⟨g0, g1, g2, g3, g4, -⟩ := HCX.out W0 (Below.refl _ _)
 go_enter Tryz.func31, Tryz.ntmps31
 go_upto_region 1 with fail
 rw [HEW.out, HXB.out]
 go_wp2_with fail
 refine (HSO.out W0 (HCX.out W0 (Below.refl _ _)).2.2.2.2.2).mono ?_
 rintro e w1 ⟨rfl, hb1⟩
 have HB1 := qH hb1
 obtain ⟨y0, y1, y2, y3, y4, yt⟩ := HCX.out w1 hb1
 clear hb1 g0 g1 g2 g3 g4
 by_cases hl0 : lr = []
 ·have hq : ((txt lr).toList == []) = true := by rw [ByteArray.toList_eq, txt_data, hl0]; rfl
  have hrr : rr = 45 :: ss := by rw [HER.out, if_pos hl0]
  subst hrr
  have HS2 := qH (HSS.out w1 yt)
  clear hl0
  go_wp2_with fail
  refine HS2.out.mono ?_
  rintro e w2 ⟨rfl, hb2⟩
  have HB2 := qH (HB1.out.trans (hb2.mono HB1.out.size))
  clear hb2 y0 y1 y2 y3 y4 yt
  obtain ⟨y0, y1, y2, y3, y4, yt⟩ := HCX.out w2 HB2.out
  cases last with
  | true =>
   have hZ : Z = s5 := by rw [HEQ.out, if_pos rfl, List.append_nil]
   subst hZ
   go_wp2_with fail
   go_ret
   exact ⟨rfl, HFIN.out _ HB2.out⟩
  | false =>
   have hZ : Z = s5 ++ 32 :: su := by rw [HEQ.out, if_neg (by decide)]
   have a6 := HA6.out (by have := HLU.out rfl; show 1 + su.length <= _; omega)
   have a7 := HA7.out (by have := HLU.out rfl; have := HL2.out; rw [List.length_cons]; omega)
   rw [<- hZ] at a7
   have HS := qH (HST.out w2 rfl yt)
   clear hZ
   go_wp2_with fail
   refine HS.out.mono ?_
   rintro e w9 ⟨rfl, hb9⟩
   have hfin := HFIN.out _ (HB2.out |>.trans (hb9.mono (HB2.out).size))
   have HFN := qH hfin
   clear hb9 hfin
   go_wp2_with fail
   go_ret
   exact ⟨rfl, HFN.out⟩
 ·have hq : ((txt lr).toList == []) = false := by rw [ByteArray.toList_eq, txt_data]; simpa using hl0
  have hrr : rr = lr := by rw [HER.out, if_neg hl0]
  subst hrr
  clear hl0
  cases last with
  | true =>
   have hZ : Z = s5 := by rw [HEQ.out, if_pos rfl, List.append_nil]
   subst hZ
   go_wp2_with fail
   go_ret
   exact ⟨rfl, HFIN.out _ HB1.out⟩
  | false =>
   have hZ : Z = s5 ++ 32 :: su := by rw [HEQ.out, if_neg (by decide)]
   have a6 := HA6.out (by have := HLU.out rfl; show 1 + su.length <= _; omega)
   have a7 := HA7.out (by have := HLU.out rfl; have := HL2.out; rw [List.length_cons]; omega)
   rw [<- hZ] at a7
   have HS := qH (HST.out w1 rfl yt)
   clear hZ
   go_wp2_with fail
   refine HS.out.mono ?_
   rintro e w9 ⟨rfl, hb9⟩
   have hfin := HFIN.out _ (HB1.out |>.trans (hb9.mono (HB1.out).size))
   have HFN := qH hfin
   clear hb9 hfin
   go_wp2_with fail
   go_ret
   exact ⟨rfl, HFN.out⟩
theorem glue_len : ∀ (ws : List (List UInt8)), (∀ x ∈ ws, x.length <= 60) -> (glue ws).length <= 61 * ws.length
 | [], _ => by simp [glue]
 | [x], h => by have := h x (by simp); simp [glue]; omega
 | x :: y :: r, h => by
  have h1 := h x (by simp)
  have h2 := glue_len (y :: r) (fun z hz => h z (List.mem_cons_of_mem _ hz))
  show (x ++ 32 :: glue (y :: r)).length <= _
  simp only [List.length_append, List.length_cons] at h2 ⊢
  omega
theorem ruText_len {r : Ru} (o : OkRu r) : (ruText r).length <= 549 := by
 have f1 := o.f1; have f2 := o.f2; have t1 := o.t1; have t2 := o.t2; have m1 := o.m1; have m2 := o.m2; have a1 := o.a1; have a2 := o.a2; have s1 := o.s1; have s2 := o.s2
 have n1 := okRu_nm o; have n2 := okRu_lt o
 refine Nat.le_trans (glue_len (ruW r) ?_) (by simp [ruW])
 have hi : ∀ n : Int, -9223372036854775808 <= n -> n <= 9223372036854775807 -> (Lib.itoa n).length <= 60 := fun n h1 h2 => Nat.le_trans (Lib.itoa_length_le _ h1 h2) (by decide)
 intro x hx
 simp only [ruW, List.mem_cons, List.not_mem_nil, or_false] at hx
 rcases hx with rfl | rfl | rfl | rfl | rfl | rfl | rfl | rfl | rfl
 ·simp
 ·rw [<- Lib.size_eq]; omega
 ·exact hi _ (by omega) (by omega)
 ·exact hi _ (by omega) (by omega)
 ·exact hi _ (by omega) (by omega)
 ·exact Nat.le_trans (dayT_len o.d) (by decide)
 ·have g := spanT_len (n := r.tm) ⟨a1, a2⟩
  have g2 : (ckT r.ck).length <= 1 := by unfold ckT; split <;> (try split) <;> simp
  rw [List.length_append]; omega
 ·exact Nat.le_trans (spanT_len (n := r.sv) ⟨by omega, by omega⟩) (by decide)
 ·rw [<- Lib.size_eq]; omega
def zoH (nm : ByteArray) : List UInt8 := [122, 111, 110, 101, 32] ++ nm.data.toList
def erLs (l : List Er) : List (List UInt8) := (List.range l.length).map fun i => eraT (eraAt l i) (decide (i + 1 = l.length))
def zoLs (z : Zo) : List (List UInt8) := zoH z.nm :: erLs z.eras
def lkL (x : Lk) : List UInt8 := (([108, 105, 110, 107, 32] ++ x.nm.data.toList) ++ [32]) ++ x.tg.data.toList
def bkLs (b : Bk) : List (List UInt8) := b.rules.map ruText ++ b.zones.flatMap zoLs ++ b.links.map lkL
def bkText (b : Bk) : List UInt8 := Lib.join (bkLs b) [10]
def strs (l : List (List UInt8)) : List Value := l.map fun x => .string (txt x)
theorem strs_app (a b : List (List UInt8)) : strs (a ++ b) = strs a ++ strs b := by unfold strs; rw [List.map_append]
theorem abE_len {f : ByteArray} {s : Int} {l : ByteArray} (h : abE f s l = 0) : f.size <= 12 := by
 obtain ⟨-, h1, -⟩ := abbrF_ok (show (abbrF f.data.toList s l.data.toList).2 = 0 from h)
 rw [Lib.size_eq]
 apply Classical.byContradiction
 intro hn
 unfold splitF at h1
 rw [if_pos (by omega)] at h1
 cases h1
theorem er_P {rules : List Ru} {l : List Er} {k : Nat} (hr : ∀ r ∈ rules, OkRu r) (h : eraChk rules l k = 0) : ErP (eraAt l k) (decide (k + 1 = l.length)) /\ (eraAt l k).ru.size <= 20 /\ (eraAt l k).fm.size <= 12 := by
 unfold eraChk at h
 dsimp only at h
 split at h
 ·cases h
 rename_i h1
 split at h
 ·cases h
 rename_i h2
 split at h
 ·cases h
 rename_i h3
 split at h
 ·rename_i g; exact absurd h g
 rename_i h4
 have h4 := Classical.not_not.1 h4
 have hru : (eraAt l k).ru.size <= 20 := by
  by_cases g : (eraAt l k).ru.data.toList = []
  ·rw [Lib.size_eq, g]; decide
  ·have g2 : (rules.any fun r => decide (r.nm = (eraAt l k).ru)) = true := by
    cases e : (rules.any fun r => decide (r.nm = (eraAt l k).ru)) with
    | true => rfl
    | false => exact absurd ⟨g, e⟩ h3
   obtain ⟨r, hm, e⟩ := List.any_eq_true.1 g2
   have e := of_decide_eq_true e
   rw [<- e]
   exact okRu_nm (hr r hm)
 have hfm : (eraAt l k).fm.size <= 12 := by
  unfold abbrsChk at h4
  split at h4
  ·exact abE_len h4
  ·split at h4
   ·exact abE_len h4
   ·rename_i g; exact absurd h4 g
 refine ⟨⟨⟨by omega, by omega⟩, ⟨by omega, by omega⟩, fun hl => ?_, by omega, by omega⟩, hru, hfm⟩
 have hl : ¬ k + 1 = l.length := by simpa using hl
 rw [if_neg hl] at h
 split at h
 ·cases h
 split at h
 ·rename_i g; exact absurd h g
 rename_i g
 have g := Classical.not_not.1 g
 unfold stampE at g
 split at g
 ·rename_i g2; exact g2
 ·cases g
theorem eraT_len {x : Er} {last : Bool} (h : ErP x last) (h1 : x.ru.size <= 20) (h2 : x.fm.size <= 12) : (eraT x last).length <= 100 := by
 have a := spanT_len h.o
 have b := spanT_len h.s
 have c : (eraR x).length <= 20 := by
  unfold eraR
  split
  ·rw [List.length_cons]; omega
  ·rw [<- Lib.size_eq]; exact h1
 unfold eraT
 rw [List.length_append, List.length_append, List.length_append, List.length_append, List.length_append, List.length_append, <- Lib.size_eq]
 have d : (if last = true then [] else 32 :: stampT x.un : List UInt8).length <= 20 := by
  cases last with
  | true => rw [if_pos rfl]; exact Nat.zero_le _
  | false =>
   have := stamp_length x.un (h.u rfl).1 (h.u rfl).2
   rw [if_neg (by decide), List.length_cons, this]; decide
 show 4 + _ + 1 + _ + 1 + _ + _ <= 100
 omega
theorem join_len : ∀ (l : List (List UInt8)) (n : Nat), (∀ x ∈ l, x.length <= n) -> (Lib.join l [10]).length <= (n + 1) * l.length
 | [], _, _ => by simp [Lib.join]
 | [x], n, h => by
  have := h x List.mem_cons_self
  simp [Lib.join]
  omega
 | x :: y :: r, n, h => by
  have h1 := h x List.mem_cons_self
  have h2 := join_len (y :: r) n (fun z hz => h z (List.mem_cons_of_mem _ hz))
  have e : Lib.join (x :: y :: r) [10] = x ++ 10 :: Lib.join (y :: r) [10] := by unfold Lib.join; simp [List.intercalate]
  rw [e, List.length_append, List.length_cons]
  rw [List.length_cons, Nat.mul_succ]
  omega
theorem addEra_s (f : List (ByteArray × List Er)) (z : ByteArray × List Er) (x : Er) : addEra (f ++ [z]) x = f ++ [(z.1, z.2 ++ [x])] := by
 unfold addEra zD
 simp [List.set_append]
theorem joinC (c : UInt8) : ∀ l : List UInt8, Lib.join (splitC c l) [c] = l
 | [] => rfl
 | x :: r => by
  have ih := joinC c r
  have hne := splitC_ne c r
  unfold splitC
  obtain ⟨a, t, e⟩ : ∃ a t, splitC c r = a :: t := List.exists_cons_of_ne_nil hne
  rw [e] at ih ⊢
  split
  ·rename_i h; subst h
   have : Lib.join ([] :: a :: t) [x] = x :: Lib.join (a :: t) [x] := by simp [Lib.join, List.intercalate]
   rw [this, ih]
  ·have : Lib.join (consHd x (a :: t)) [c] = x :: Lib.join (a :: t) [c] := by cases t <;> simp [consHd, Lib.join, List.intercalate]
   rw [this, ih]
theorem w2 {l a b : List UInt8} (h : splitC 32 l = [a, b]) : l = a ++ 32 :: b := by have := joinC 32 l; rw [h] at this; rw [<- this]; simp [Lib.join, List.intercalate]
theorem w3 {l a b c : List UInt8} (h : splitC 32 l = [a, b, c]) : l = a ++ 32 :: (b ++ 32 :: c) := by have := joinC 32 l; rw [h] at this; rw [<- this]; simp [Lib.join, List.intercalate]
theorem w4 {l a b c d : List UInt8} (h : splitC 32 l = [a, b, c, d]) : l = a ++ 32 :: (b ++ 32 :: (c ++ 32 :: d)) := by have := joinC 32 l; rw [h] at this; rw [<- this]; simp [Lib.join, List.intercalate]
theorem w5 {l a b c d e : List UInt8} (h : splitC 32 l = [a, b, c, d, e]) : l = a ++ 32 :: (b ++ 32 :: (c ++ 32 :: (d ++ 32 :: e))) := by have := joinC 32 l; rw [h] at this; rw [<- this]; simp [Lib.join, List.intercalate]
theorem rdRule_eq {r : Ru} (o : OkRu r) (w : World) (ht : Tab10 w) (ha : AscTab w) (hn : NumErrs w) (hm : MaxLen w) : rdRule (ruText r) = (r, 0) := by
 have hl := ruText_len o
 obtain ⟨q, R, RE, -, hu, -⟩ := Parse_nine (ruText r) _ _ _ _ _ _ _ _ _ (ru_split o) (ck_of ⟨o.a1, o.a2⟩ o.c1 o.c2).2.2 w (by omega) ht ha hn hm
 have hx : ∃ q, OkRu q /\ ruText q = ruText r := ⟨r, o, rfl⟩
 unfold rdRule
 rw [dif_pos hx]
 obtain ⟨h1, h2⟩ := Classical.choose_spec hx
 exact Prod.ext ((hu _ h1 h2).symm.trans (hu r o rfl)) rfl
theorem linesF_app : ∀ (a b : List (List UInt8)) (st st' : RdS) (k k' : Nat), linesF st k a = (some st', k') -> linesF st k (a ++ b) = linesF st' k' b
 | [], b, st, st', k, k', h => by
  unfold linesF at h
  injection h with h h2
  injection h with h
  subst h h2
  rfl
 | l :: a, b, st, st', k, k', h => by
  unfold linesF at h
  show linesF st k (l :: (a ++ b)) = _
  conv => lhs; unfold linesF
  cases e : lineF st l with
  | none => rw [e] at h; injection h with h _; cases h
  | some s2 =>
   rw [e] at h
   exact linesF_app a b s2 st' _ k' h
theorem stampT_inj {t u : Int} (h1 : inT t) (h2 : inT u) (e : stampT t = stampT u) : t = u := by
 have a := h1.1; have b := h1.2; have c := h2.1; have d := h2.2
 rcases Int.lt_trichotomy t u with h | h | h
 ·have := (stampT_lt t u (by omega) (by omega) (by omega) (by omega)).2 h
  rw [e] at this
  exact absurd this (List.lt_irrefl _)
 ·exact h
 ·have := (stampT_lt u t (by omega) (by omega) (by omega) (by omega)).2 h
  rw [e] at this
  exact absurd this (List.lt_irrefl _)
theorem rdStamp_eq {t : Int} (h : inT t) : rdStamp (stampT t) = (t, 0) := by
 have hx : ∃ n, inT n /\ stampT n = stampT t := ⟨t, h, rfl⟩
 unfold rdStamp
 rw [dif_pos hx]
 obtain ⟨h1, h2⟩ := Classical.choose_spec hx
 exact Prod.ext (stampT_inj h1 h h2) rfl
theorem line_ru {r : Ru} (o : OkRu r) (e : rdRule (ruText r) = (r, 0)) (rs : List Ru) : lineF ⟨rs, [], [], 0⟩ (ruText r) = some ⟨rs ++ [r], [], [], 0⟩ := by
 unfold lineF
 rw [if_pos ⟨by rw [ru_split o]; rfl, rfl⟩, e, if_pos rfl]
theorem lines_ru : ∀ (l rs : List Ru) (k : Nat), (∀ r ∈ l, OkRu r /\ rdRule (ruText r) = (r, 0)) -> linesF ⟨rs, [], [], 0⟩ k (l.map ruText) = (some ⟨rs ++ l, [], [], 0⟩, k + l.length)
 | [], rs, k, _ => by simp [linesF]
 | r :: l, rs, k, h => by
  have h1 := h r List.mem_cons_self
  have ih := lines_ru l (rs ++ [r]) (k + 1) fun x hx => h x (List.mem_cons_of_mem _ hx)
  rw [List.map_cons]
  unfold linesF
  rw [line_ru h1.1 h1.2]
  dsimp only
  rw [ih, List.append_assoc, List.length_cons]
  simp only [List.singleton_append, Nat.add_assoc, Nat.add_comm 1]
theorem zo_split {nm : ByteArray} (h : ∀ x ∈ nm.data.toList, x ≠ 32) : splitC 32 (zoH nm) = [zoneW, nm.data.toList] := by
 have : zoH nm = zoneW ++ 32 :: nm.data.toList := rfl
 rw [this, splitC_head 32 zoneW _ (by decide), splitC_last 32 _ h]
theorem lk_split {x : Lk} (h : ∀ c ∈ x.nm.data.toList, c ≠ 32) (h2 : ∀ c ∈ x.tg.data.toList, c ≠ 32) : splitC 32 (lkL x) = [linkW, x.nm.data.toList, x.tg.data.toList] := by
 have : lkL x = linkW ++ 32 :: (x.nm.data.toList ++ 32 :: x.tg.data.toList) := by unfold lkL; simp [linkW]
 rw [this, splitC_head 32 linkW _ (by decide), splitC_head 32 _ _ h, splitC_last 32 _ h2]
theorem line_zo {nm : ByteArray} (h : ∀ x ∈ nm.data.toList, x ≠ 32) (rs : List Ru) (zs : List (ByteArray × List Er)) (sg : Int) (hs : sg <= 1) : lineF ⟨rs, zs, [], sg⟩ (zoH nm) = some ⟨rs, zs ++ [(nm, [])], [], 2⟩ := by
 unfold lineF
 rw [zo_split h]
 dsimp only
 rw [if_neg (fun h => absurd (show zoneW = ruleW from h.1) (by decide)), if_pos ⟨rfl, hs, rfl⟩]
 rfl
theorem line_lk {x : Lk} (h : ∀ c ∈ x.nm.data.toList, c ≠ 32) (h2 : ∀ c ∈ x.tg.data.toList, c ≠ 32) (rs : List Ru) (zs : List (ByteArray × List Er)) (ls : List Lk) (sg : Int) (hs : sg ≠ 2) : lineF ⟨rs, zs, ls, sg⟩ (lkL x) = some ⟨rs, zs, ls ++ [x], 3⟩ := by
 unfold lineF
 rw [lk_split h h2]
 dsimp only
 rw [if_neg (fun h => absurd (show linkW = ruleW from h.1) (by decide)), if_neg (fun h => absurd (show linkW = zoneW from h.1) (by decide)), if_neg (show ¬ ([linkW, x.nm.data.toList, x.tg.data.toList] : List (List UInt8)).getD 0 [] = eraW from fun h => absurd (show linkW = eraW from h) (by decide)), if_pos ⟨rfl, hs, rfl⟩]
 rfl
theorem lines_lk : ∀ (l : List Lk) (rs : List Ru) (zs : List (ByteArray × List Er)) (ls : List Lk) (sg : Int) (k : Nat), sg ≠ 2 -> (∀ x ∈ l, (∀ c ∈ x.nm.data.toList, c ≠ 32) /\ ∀ c ∈ x.tg.data.toList, c ≠ 32) -> ∃ sg' k', sg' ≠ 2 /\ linesF ⟨rs, zs, ls, sg⟩ k (l.map lkL) = (some ⟨rs, zs, ls ++ l, sg'⟩, k')
 | [], rs, zs, ls, sg, k, hs, _ => ⟨sg, k, hs, by simp [linesF]⟩
 | x :: l, rs, zs, ls, sg, k, hs, h => by
  have h1 := h x List.mem_cons_self
  obtain ⟨s2, k2, hs2, ih⟩ := lines_lk l rs zs (ls ++ [x]) 3 (k + 1) (by decide) fun y hy => h y (List.mem_cons_of_mem _ hy)
  refine ⟨s2, k2, hs2, ?_⟩
  rw [List.map_cons]
  unfold linesF
  rw [line_lk h1.1 h1.2 rs zs ls sg hs]
  dsimp only
  rw [ih, List.append_assoc]
  rfl
theorem era_split {x : Er} {last : Bool} (h1 : ∀ c ∈ spanT x.off, c ≠ 32) (h2 : ∀ c ∈ eraR x, c ≠ 32) (h3 : ∀ c ∈ x.fm.data.toList, c ≠ 32) (h4 : last = false -> ∀ c ∈ stampT x.un, c ≠ 32) : splitC 32 (eraT x last) = [eraW, spanT x.off, eraR x, x.fm.data.toList] ++ (if last = true then [] else [stampT x.un]) := by
 cases last with
 | true =>
  have : eraT x true = eraW ++ 32 :: (spanT x.off ++ 32 :: (eraR x ++ 32 :: x.fm.data.toList)) := by unfold eraT; simp [eraW]
  rw [this, splitC_head 32 eraW _ (by decide), splitC_head 32 _ _ h1, splitC_head 32 _ _ h2, splitC_last 32 _ h3]
  rfl
 | false =>
  have : eraT x false = eraW ++ 32 :: (spanT x.off ++ 32 :: (eraR x ++ 32 :: (x.fm.data.toList ++ 32 :: stampT x.un))) := by unfold eraT; simp [eraW]
  rw [this, splitC_head 32 eraW _ (by decide), splitC_head 32 _ _ h1, splitC_head 32 _ _ h2, splitC_head 32 _ _ h3, splitC_last 32 _ (h4 rfl)]
  rfl
theorem split_join : ∀ l : List (List UInt8), l ≠ [] -> (∀ x ∈ l, ∀ c ∈ x, c ≠ 10) -> splitC 10 (Lib.join l [10]) = l
 | [], h, _ => absurd rfl h
 | [x], _, h => by
  have e : Lib.join [x] [10] = x := by simp [Lib.join]
  rw [e]
  exact splitC_last 10 x (h x List.mem_cons_self)
 | x :: y :: r, _, h => by
  have e : Lib.join (x :: y :: r) [10] = x ++ 10 :: Lib.join (y :: r) [10] := by unfold Lib.join; simp [List.intercalate]
  rw [e, splitC_head 10 x _ (h x List.mem_cons_self), split_join (y :: r) (by simp) fun z hz => h z (List.mem_cons_of_mem _ hz)]
def Gs (l : List UInt8) : Prop := ∀ c ∈ l, 32 < c.toNat
theorem Gs_ne {l : List UInt8} (h : Gs l) (k : UInt8) (hk : k.toNat <= 32) : ∀ c ∈ l, c ≠ k := by
 rintro c hc rfl
 have := h c hc
 omega
theorem Gs_app {a b : List UInt8} (h : Gs a) (h2 : Gs b) : Gs (a ++ b) := fun c hc => (List.mem_append.1 hc).elim (h c) (h2 c)
theorem Gs_dg {l : List UInt8} (h : ∀ c ∈ l, isDg c) : Gs l := fun c hc => by have := h c hc; unfold isDg at this; omega
theorem Gs_one {k : UInt8} (h : 32 < k.toNat) : Gs [k] := fun c hc => by rw [List.mem_singleton.1 hc]; exact h
theorem Gs_itoa {n : Int} (h : 0 <= n) : Gs (Lib.itoa n) := Gs_dg (itoa_dg h)
theorem Gs_T2 {n : Int} (h : 0 <= n) (h1 : n < 100) : Gs (T2 n) := Gs_dg (T2_dg h h1)
theorem Gs_span {n : Int} (h : inS n) : Gs (spanT n) := fun c hc => by
 rcases spanT_mem h c hc with h | rfl | rfl
 ·unfold isDg at h; omega
 ·decide
 ·decide
theorem Gs_stamp {t : Int} (h : inT t) : Gs (stampT t) := by
 obtain ⟨h1, h2⟩ := h
 obtain ⟨hv, _⟩ := Civ.date_valid (t / 86400) h1 h2
 obtain ⟨y1, y2, m1, m2, d1, d2⟩ := hv
 have hm : Civ.mlen (Civ.yy (t / 86400)) (Civ.mm (t / 86400)) <= 31 := (Civ.mlen_bd _ _ m1 m2).2
 unfold stampT
 refine Gs_app (Gs_itoa (by omega)) (Gs_app (Gs_one (by decide)) (Gs_app (Gs_T2 (by omega) (by omega)) (Gs_app (Gs_one (by decide)) (Gs_app (Gs_T2 (by omega) (by omega)) (Gs_app (Gs_one (by decide)) (Gs_app (Gs_T2 (by omega) (by omega)) (Gs_app (Gs_one (by decide)) (Gs_app (Gs_T2 (by omega) (by omega)) (Gs_app (Gs_one (by decide)) (Gs_T2 (by omega) (by omega)))))))))))
theorem Gs_all {s : ByteArray} {most : Int} {o : ByteArray} (h : allB s most o = true) (ho : Gs o.data.toList) : Gs s.data.toList := by
 unfold allB at h
 simp only [Bool.and_eq_true, List.all_eq_true] at h
 intro c hc
 have := h.1.1 c hc
 unfold signB letterB digitB at this
 simp only [Bool.or_eq_true, decide_eq_true_eq, List.contains_iff_mem] at this
 rcases this with (h | h) | h
 ·omega
 ·omega
 ·exact ho _ h
theorem Gs_name {s : ByteArray} (h : nameB s = true) : Gs s.data.toList := by
 unfold nameB at h
 simp only [Bool.and_eq_true] at h
 exact Gs_all h.1 (by unfold Gs; decide)
theorem Gs_abbr {s : ByteArray} (h : abbrB s = true) : Gs s.data.toList := Gs_all (show allB s 8 _ = true from h) (by unfold Gs; decide)
theorem Gs_lt {l : List UInt8} (h : ∀ c ∈ l, isLt c) : Gs l := fun c hc => by have := h c hc; unfold isLt at this; omega
theorem Gs_day {k wd n : Int} (h : dayB k wd n = true) : Gs (dayT k wd n) := by
 simp only [dayB, decide_eq_true_eq] at h
 unfold dayT
 rcases h with ⟨rfl, rfl, h1, h2⟩ | ⟨rfl, h1, h2, rfl⟩ | ⟨rfl | rfl, h1, h2, h3, h4⟩
 ·rw [if_neg (by decide), if_neg (by decide), if_neg (by decide)]
  exact Gs_itoa (by omega)
 ·rw [if_pos rfl]
  exact Gs_app (Gs_lt last_letters) (Gs_lt (word_letters h1 h2))
 ·rw [if_neg (by decide), if_pos rfl]
  exact Gs_app (Gs_lt (word_letters h1 h2)) (Gs_app (by unfold Gs; decide) (Gs_itoa (by omega)))
 ·rw [if_neg (by decide), if_neg (by decide), if_pos rfl]
  exact Gs_app (Gs_lt (word_letters h1 h2)) (Gs_app (by unfold Gs; decide) (Gs_itoa (by omega)))
theorem Gs_ruW {r : Ru} (o : OkRu r) : ∀ x ∈ ruW r, Gs x := by
 have f1 := o.f1; have t1 := o.t1; have m1 := o.m1; have s1 := o.s1; have s2 := o.s2
 intro x hx
 simp only [ruW, List.mem_cons, List.not_mem_nil, or_false] at hx
 rcases hx with rfl | rfl | rfl | rfl | rfl | rfl | rfl | rfl | rfl
 ·unfold Gs; decide
 ·exact Gs_name o.nm
 ·exact Gs_itoa (by omega)
 ·exact Gs_itoa (by omega)
 ·exact Gs_itoa (by omega)
 ·exact Gs_day o.d
 ·refine Gs_app (Gs_span ⟨o.a1, o.a2⟩) ?_
  unfold ckT
  split
  ·unfold Gs; decide
  ·split
   ·unfold Gs; decide
   ·intro c hc; cases hc
 ·exact Gs_span ⟨by omega, by omega⟩
 ·rcases o.lt with h | h
  ·rw [<- ByteArray.toList_eq, h]; unfold Gs; decide
  ·exact Gs_abbr h
theorem glue_no : ∀ (ws : List (List UInt8)), (∀ x ∈ ws, Gs x) -> ∀ c ∈ glue ws, c ≠ 10
 | [], _ => fun c hc => by cases hc
 | [x], h => Gs_ne (h x List.mem_cons_self) 10 (by decide)
 | x :: y :: r, h => fun c hc => by
  have hc : c ∈ x ++ 32 :: glue (y :: r) := hc
  rcases List.mem_append.1 hc with hc | hc
  ·exact Gs_ne (h x List.mem_cons_self) 10 (by decide) c hc
  ·rcases List.mem_cons.1 hc with rfl | hc
   ·decide
   ·exact glue_no (y :: r) (fun z hz => h z (List.mem_cons_of_mem _ hz)) c hc
theorem cut_parts (l : List UInt8) (k : UInt8) (h : (Lib.cut l [k]).2.2 = true) : l = (Lib.cut l [k]).1 ++ k :: (Lib.cut l [k]).2.1 := by
 by_cases hm : k ∈ l
 ·obtain ⟨a, b, e, hn⟩ := List.eq_append_cons_of_mem hm
  have := cut_sep a b k fun c hc e => hn (e ▸ hc)
  rw [e, this]
 ·rw [cut_noA hm] at h; cases h
theorem Gs_fm {f : List UInt8} (h : (splitF f).2.2.2 = true) : Gs f := by
 have ok : ∀ l : List UInt8, abbrB (txt l) = true -> Gs l := fun l h => by have := Gs_abbr h; rwa [txt_data] at this
 unfold splitF at h
 by_cases g1 : 12 < f.length
 ·rw [if_pos g1] at h; cases h
 ·rw [if_neg g1] at h
  by_cases g2 : (Lib.cut f [47]).2.2 = true
  ·rw [if_pos g2] at h
   dsimp only at h
   rw [Bool.and_eq_true] at h
   rw [cut_parts f 47 g2]
   exact Gs_app (ok _ h.1) (Gs_app (Gs_one (by decide)) (ok _ h.2) : Gs ([47] ++ _))
  ·rw [if_neg g2] at h
   by_cases g3 : (Lib.cut f [37]).2.2 = true
   ·rw [if_pos g3] at h
    dsimp only at h
    have hab : Gs ((Lib.cut f [37]).1 ++ (Lib.cut f [37]).2.1) := by
     rw [Bool.or_eq_true] at h
     rcases h with h | h
     ·rw [of_decide_eq_true h]; intro c hc; cases hc
     ·rw [Bool.and_eq_true] at h
      exact ok _ h.2
    rw [cut_parts f 37 g3]
    exact Gs_app (fun c hc => hab c (List.mem_append_left _ hc)) (Gs_app (Gs_one (by decide)) (fun c hc => hab c (List.mem_append_right _ hc)) : Gs ([37] ++ _))
   ·rw [if_neg g3] at h
    exact ok _ h
theorem er_Q {rules : List Ru} {l : List Er} {k : Nat} (hr : ∀ r ∈ rules, OkRu r) (h : eraChk rules l k = 0) :
 ((eraAt l k).ru.data.toList ≠ [] -> (eraAt l k).sv = 0 /\ nameB (eraAt l k).ru = true) /\ (k + 1 = l.length -> (eraAt l k).un = 0) /\ Gs (eraAt l k).fm.data.toList := by
 unfold eraChk at h
 dsimp only at h
 split at h
 ·cases h
 rename_i h1
 split at h
 ·cases h
 rename_i h2
 split at h
 ·cases h
 rename_i h3
 split at h
 ·rename_i g; exact absurd h g
 rename_i h4
 have h4 := Classical.not_not.1 h4
 refine ⟨fun g => ⟨Classical.byContradiction fun e => h2 ⟨e, g⟩, ?_⟩, fun g => ?_, ?_⟩
 ·have g2 : (rules.any fun r => decide (r.nm = (eraAt l k).ru)) = true := by
   cases e : (rules.any fun r => decide (r.nm = (eraAt l k).ru)) with
   | true => rfl
   | false => exact absurd ⟨g, e⟩ h3
  obtain ⟨r, hm, e⟩ := List.any_eq_true.1 g2
  have e := of_decide_eq_true e
  rw [<- e]
  exact (hr r hm).nm
 ·rw [if_pos g] at h
  split at h
  ·cases h
  ·rename_i e; exact Classical.not_not.1 e
 ·have hf : ∀ {s : Int} {lt : ByteArray}, abE (eraAt l k).fm s lt = 0 -> Gs (eraAt l k).fm.data.toList := fun {s lt} e => Gs_fm (abbrF_ok (show (abbrF (eraAt l k).fm.data.toList s lt.data.toList).2 = 0 from e)).2.1
  unfold abbrsChk at h4
  split at h4
  ·exact hf h4
  ·split at h4
   ·exact hf h4
   ·rename_i g; exact absurd h4 g
theorem eraL_core {x : Er} {u : Int × Int} (ho : inS x.off) (hs : inS x.sv) (hn : x.ru.data.toList ≠ [] -> x.sv = 0 /\ nameB x.ru = true) (hu : u = (x.un, 0)) :
 (if (rdSpan (spanT x.off)).2 ≠ 0 then none else
   if Lib.hasPrefix (eraR x) [45] = true then (if (rdSpan (Lib.trimPrefix (eraR x) [45])).2 ≠ 0 \/ u.2 ≠ 0 then none else some ⟨(rdSpan (spanT x.off)).1, ⟨#[]⟩, (rdSpan (Lib.trimPrefix (eraR x) [45])).1, txt x.fm.data.toList, u.1⟩) else
   if nameB (txt (eraR x)) = false \/ u.2 ≠ 0 then none else some ⟨(rdSpan (spanT x.off)).1, txt (eraR x), 0, txt x.fm.data.toList, u.1⟩) = some x := by
 subst hu
 obtain ⟨off, ru, sv, fm, un⟩ := x
 dsimp only at ho hs hn ⊢
 rw [rdSpan_eq ho rfl, if_neg (fun h => h rfl)]
 by_cases g : ru.data.toList = []
 ·have er : eraR ⟨off, ru, sv, fm, un⟩ = 45 :: spanT sv := by unfold eraR; rw [if_pos g]
  have t1 : Lib.hasPrefix (45 :: spanT sv) [45] = true := by simp [Lib.hasPrefix]
  have t2 : Lib.trimPrefix (45 :: spanT sv) [45] = spanT sv := by unfold Lib.trimPrefix; rw [if_pos t1]; rfl
  rw [er, if_pos t1, t2, rdSpan_eq hs rfl, if_neg (by rintro (h | h); exact h rfl; exact h rfl)]
  have e : ru = ⟨#[]⟩ := by
   have : ru = txt ru.data.toList := rfl
   rw [this, g]; rfl
  rw [e]
  rfl
 ·obtain ⟨h1, h2⟩ := hn g
  have er : eraR ⟨off, ru, sv, fm, un⟩ = ru.data.toList := by unfold eraR; rw [if_neg g]
  have t1 : ¬ Lib.hasPrefix ru.data.toList [45] = true := by
   unfold nameB at h2
   simp only [Bool.and_eq_true, decide_eq_true_eq] at h2
   obtain ⟨-, c, hc, hl⟩ := h2
   intro hp
   cases hz : ru.data.toList with
   | nil => exact g hz
   | cons y r =>
    rw [hz] at hp hc
    injection hc with hc
    subst hc
    simp [Lib.hasPrefix] at hp
    subst hp
    revert hl
    decide
  rw [er, if_neg t1, txt_data', if_neg (by rintro (h | h); rw [h2] at h; cases h; exact h rfl), h1]
  rfl
theorem line_er {rules : List Ru} {l : List Er} {k : Nat} (hr : ∀ r ∈ rules, OkRu r) (h : eraChk rules l k = 0) (rs : List Ru) (f : List (ByteArray × List Er)) (nm : ByteArray) (d : List Er) :
 lineF ⟨rs, f ++ [(nm, d)], [], 2⟩ (eraT (eraAt l k) (decide (k + 1 = l.length))) = some ⟨rs, f ++ [(nm, d ++ [eraAt l k])], [], if k + 1 = l.length then 1 else 2⟩ := by
 obtain ⟨p, -, -⟩ := er_P hr h
 obtain ⟨q1, q2, q3⟩ := er_Q hr h
 have n1 : ∀ c ∈ spanT (eraAt l k).off, c ≠ 32 := spanT_ne32 p.o
 have n2 : ∀ c ∈ eraR (eraAt l k), c ≠ 32 := by
  unfold eraR
  split
  ·intro c hc
   rcases List.mem_cons.1 hc with rfl | hc
   ·decide
   ·exact spanT_ne32 p.s c hc
  ·rename_i g
   exact Gs_ne (Gs_name (q1 g).2) 32 (by decide)
 have n3 := Gs_ne q3 32 (by decide)
 have n4 : decide (k + 1 = l.length) = false -> ∀ c ∈ stampT (eraAt l k).un, c ≠ 32 := fun hl => Gs_ne (Gs_stamp (p.u hl)) 32 (by decide)
 unfold lineF
 rw [era_split n1 n2 n3 n4]
 generalize eraAt l k = x at *
 by_cases g : k + 1 = l.length
 ·rw [decide_eq_true g] at *
  have hx : eraL (spanT x.off) (eraR x) x.fm.data.toList none = some x := eraL_core (u := (0, 0)) p.o p.s q1 (by rw [q2 g])
  rw [if_pos g, if_pos rfl, List.append_nil]
  dsimp only
  rw [if_neg (fun h => absurd (show eraW = ruleW from h.1) (by decide)), if_neg (fun h => absurd (show eraW = zoneW from h.1) (by decide)), if_pos (show ([eraW, spanT x.off, eraR x, x.fm.data.toList] : List (List UInt8)).getD 0 [] = eraW from rfl)]
  show (match eraL (spanT x.off) (eraR x) x.fm.data.toList none with | none => none | some y => some (⟨rs, addEra (f ++ [(nm, d)]) y, [], 1⟩ : RdS)) = _
  rw [hx]
  dsimp only
  rw [addEra_s]
 ·rw [decide_eq_false g] at *
  have hx : eraL (spanT x.off) (eraR x) x.fm.data.toList (some (stampT x.un)) = some x := eraL_core (u := rdStamp (stampT x.un)) p.o p.s q1 (rdStamp_eq (p.u rfl))
  have hl : ([eraW, spanT x.off, eraR x, x.fm.data.toList] ++ (if false = true then [] else [stampT x.un]) : List (List UInt8)) = [eraW, spanT x.off, eraR x, x.fm.data.toList, stampT x.un] := rfl
  rw [if_neg g, hl]
  dsimp only
  rw [if_neg (fun h => absurd (show eraW = ruleW from h.1) (by decide)), if_neg (fun h => absurd (show eraW = zoneW from h.1) (by decide)), if_pos (show ([eraW, spanT x.off, eraR x, x.fm.data.toList, stampT x.un] : List (List UInt8)).getD 0 [] = eraW from rfl)]
  show (match eraL (spanT x.off) (eraR x) x.fm.data.toList (some (stampT x.un)) with | none => none | some y => some (⟨rs, addEra (f ++ [(nm, d)]) y, [], 2⟩ : RdS)) = _
  rw [hx]
  dsimp only
  rw [addEra_s]
theorem lines_er {rules : List Ru} {l : List Er} (hr : ∀ r ∈ rules, OkRu r) (h : ∀ k, k < l.length -> eraChk rules l k = 0) (hne : l ≠ []) (rs : List Ru) (f : List (ByteArray × List Er)) (nm : ByteArray) (k0 : Nat) :
 ∀ j, j <= l.length -> linesF ⟨rs, f ++ [(nm, [])], [], 2⟩ k0 ((List.range j).map fun i => eraT (eraAt l i) (decide (i + 1 = l.length))) = (some ⟨rs, f ++ [(nm, l.take j)], [], if j = l.length then 1 else 2⟩, k0 + j)
 | 0, _ => by
  have : ¬ 0 = l.length := fun e => hne (List.eq_nil_of_length_eq_zero e.symm)
  rw [if_neg this]
  rfl
 | j + 1, hj => by
  have ih := lines_er hr h hne rs f nm k0 j (by omega)
  rw [if_neg (by omega : ¬ j = l.length)] at ih
  rw [List.range_succ, List.map_append, linesF_app _ _ _ _ _ _ ih]
  show (match lineF ⟨rs, f ++ [(nm, l.take j)], [], 2⟩ (eraT (eraAt l j) (decide (j + 1 = l.length))) with | none => ((none : Option RdS), k0 + j + 1) | some st' => (some st', k0 + j + 1)) = _
  rw [line_er hr (h j (by omega))]
  dsimp only
  have e : l.take (j + 1) = l.take j ++ [eraAt l j] := by
   rw [List.take_add_one]
   unfold eraAt
   rw [List.getElem?_eq_getElem (by omega)]
   rfl
  rw [e]
  rfl
theorem lines_zo {rules : List Ru} (hr : ∀ r ∈ rules, OkRu r) : ∀ (l : List Zo) (rs : List Ru) (zs : List (ByteArray × List Er)) (sg : Int) (k : Nat), sg <= 1 -> (∀ z ∈ l, nameB z.nm = true /\ z.eras ≠ [] /\ ∀ k, k < z.eras.length -> eraChk rules z.eras k = 0) ->
 ∃ sg' k', sg' <= 1 /\ linesF ⟨rs, zs, [], sg⟩ k (l.flatMap zoLs) = (some ⟨rs, zs ++ l.map (fun z => (z.nm, z.eras)), [], sg'⟩, k')
 | [], rs, zs, sg, k, hs, _ => ⟨sg, k, hs, by simp [linesF]⟩
 | z :: l, rs, zs, sg, k, hs, h => by
  obtain ⟨h1, h2, h3⟩ := h z List.mem_cons_self
  have e1 : linesF ⟨rs, zs, [], sg⟩ k (zoLs z) = (some ⟨rs, zs ++ [(z.nm, z.eras)], [], 1⟩, k + 1 + z.eras.length) := by
   unfold zoLs erLs
   unfold linesF
   rw [line_zo (Gs_ne (Gs_name h1) 32 (by decide)) rs zs sg hs]
   dsimp only
   have := lines_er hr h3 h2 rs zs z.nm (k + 1) z.eras.length (Nat.le_refl _)
   rw [this, if_pos rfl, List.take_length]
  obtain ⟨s2, k2, hs2, ih⟩ := lines_zo hr l rs (zs ++ [(z.nm, z.eras)]) 1 (k + 1 + z.eras.length) (by decide) fun y hy => h y (List.mem_cons_of_mem _ hy)
  refine ⟨s2, k2, hs2, ?_⟩
  rw [List.flatMap_cons, linesF_app _ _ _ _ _ _ e1, ih, List.map_cons, List.append_assoc]
  rfl
theorem nameZ {b : Bk} (h : bkChk b = 0) : ∀ z ∈ b.zones, nameB z.nm = true /\ z.eras ≠ [] /\ ∀ k, k < z.eras.length -> eraChk b.rules z.eras k = 0 := by
 intro z hz
 obtain ⟨i, hi, rfl⟩ := List.mem_iff_getElem.1 hz
 have ho := bk_zone h i hi
 exact ⟨ho.nm, ho.ne, fun k hk => (firstE_zero _ _).1 ho.er k (List.mem_range.2 hk)⟩
theorem nameL {b : Bk} (h : bkChk b = 0) : ∀ x ∈ b.links, nameB x.nm = true /\ nameB x.tg = true := by
 intro x hx
 obtain ⟨i, hi, rfl⟩ := List.mem_iff_getElem.1 hx
 have ho := (bk_parts h).2 i hi
 unfold linkChk at ho
 split at ho
 ·cases ho
 ·rename_i hn
  exact ⟨by cases e : nameB b.links[i].nm with | true => rfl | false => exact absurd (.inl e) hn, by cases e : nameB b.links[i].tg with | true => rfl | false => exact absurd (.inr e) hn⟩
theorem line_no {b : Bk} (h : bkChk b = 0) : ∀ x ∈ bkLs b, (∀ c ∈ x, c ≠ 10) /\ x ≠ [] := by
 intro x hx
 have hr := (bk_rules h).2
 unfold bkLs at hx
 rcases List.mem_append.1 hx with hx | hx
 ·rcases List.mem_append.1 hx with hx | hx
  ·obtain ⟨r, hm, rfl⟩ := List.mem_map.1 hx
   exact ⟨glue_no _ (Gs_ruW (hr r hm)), by unfold ruText ruW glue; simp⟩
  ·obtain ⟨z, hz, hx⟩ := List.mem_flatMap.1 hx
   obtain ⟨h1, h2, h3⟩ := nameZ h z hz
   rcases List.mem_cons.1 hx with rfl | hx
   ·refine ⟨fun c hc => ?_, by unfold zoH; simp⟩
    rcases List.mem_append.1 hc with hc | hc
    ·exact (show ∀ c ∈ ([122, 111, 110, 101, 32] : List UInt8), c ≠ 10 by decide) c hc
    ·exact Gs_ne (Gs_name h1) 10 (by decide) c hc
   ·obtain ⟨k, hk, rfl⟩ := List.mem_map.1 hx
    have hk := h3 k (List.mem_range.1 hk)
    obtain ⟨p, -, -⟩ := er_P hr hk
    obtain ⟨q1, q2, q3⟩ := er_Q hr hk
    have n2 : Gs (eraR (eraAt z.eras k)) := by
     unfold eraR
     split
     ·exact Gs_app (Gs_one (k := 45) (by decide)) (Gs_span p.s)
     ·rename_i g
      exact Gs_name (q1 g).2
    have g10 : ∀ {l : List UInt8}, Gs l -> ∀ c ∈ l, c ≠ 10 := fun h => Gs_ne h 10 (by decide)
    have app : ∀ {a b : List UInt8}, (∀ c ∈ a, c ≠ 10) -> (∀ c ∈ b, c ≠ 10) -> ∀ c ∈ a ++ b, c ≠ 10 := fun h1 h2 c hc => (List.mem_append.1 hc).elim (h1 c) (h2 c)
    have sp : ∀ c ∈ ([32] : List UInt8), c ≠ 10 := by decide
    refine ⟨?_, by unfold eraT; simp⟩
    unfold eraT
    refine app (app (app (app (app (app (by decide) (g10 (Gs_span p.o))) sp) (g10 n2)) sp) (g10 q3)) ?_
    split
    ·intro c hc; cases hc
    ·rename_i g
     exact app sp (g10 (Gs_stamp (p.u (by cases e : decide (k + 1 = z.eras.length) with | true => exact absurd e g | false => rfl))))
 ·obtain ⟨l, hm, rfl⟩ := List.mem_map.1 hx
  obtain ⟨h1, h2⟩ := nameL h l hm
  have g10 : ∀ {l : List UInt8}, Gs l -> ∀ c ∈ l, c ≠ 10 := fun h => Gs_ne h 10 (by decide)
  have app : ∀ {a b : List UInt8}, (∀ c ∈ a, c ≠ 10) -> (∀ c ∈ b, c ≠ 10) -> ∀ c ∈ a ++ b, c ≠ 10 := fun h1 h2 c hc => (List.mem_append.1 hc).elim (h1 c) (h2 c)
  refine ⟨?_, by unfold lkL; simp⟩
  unfold lkL
  exact app (app (app (by decide) (g10 (Gs_name h1))) (by decide)) (g10 (Gs_name h2))
theorem parse_text {b : Bk} (h : bkChk b = 0) (hl : (bkText b).length <= 60000) (w : World) (ht : Tab10 w) (ha : AscTab w) (hn : NumErrs w) (hm : MaxLen w) :
 ∃ sg, parseF (bkText b) = (⟨b.rules, b.zones.map fun z => (z.nm, z.eras), b.links, sg⟩, 0, 0) := by
 have hr := (bk_rules h).2
 by_cases e0 : bkLs b = []
 ·have h1 : b.rules = [] := by
   cases e : b.rules with
   | nil => rfl
   | cons x r => unfold bkLs at e0; rw [e] at e0; simp at e0
  have h2 : b.zones = [] := by
   cases e : b.zones with
   | nil => rfl
   | cons x r => unfold bkLs at e0; rw [e] at e0; simp [zoLs] at e0
  have h3 : b.links = [] := by
   cases e : b.links with
   | nil => rfl
   | cons x r => unfold bkLs at e0; rw [e] at e0; simp at e0
  have e1 : bkText b = [] := by unfold bkText; rw [e0]; rfl
  refine ⟨0, ?_⟩
  rw [e1, h1, h2, h3]
  unfold parseF
  rw [if_neg (by decide), if_pos rfl]
  rfl
 ·have hs : splitC 10 (bkText b) = bkLs b := split_join _ e0 fun x hx => (line_no h x hx).1
  have hne : bkText b ≠ [] := by
   intro e
   rw [e] at hs
   have : splitC 10 [] = [[]] := rfl
   rw [this] at hs
   exact (line_no h [] (by rw [<- hs]; simp)).2 rfl
  obtain ⟨s2, k2, hs2, e2⟩ := lines_zo hr b.zones b.rules [] 0 (0 + b.rules.length) (by decide) (nameZ h)
  obtain ⟨s3, k3, hs3, e3⟩ := lines_lk b.links b.rules ([] ++ b.zones.map fun z => (z.nm, z.eras)) [] s2 k2 (by omega) fun x hx => ⟨Gs_ne (Gs_name (nameL h x hx).1) 32 (by decide), Gs_ne (Gs_name (nameL h x hx).2) 32 (by decide)⟩
  have e1 := lines_ru b.rules [] 0 fun r hm' => ⟨hr r hm', rdRule_eq (hr r hm') w ht ha hn hm⟩
  have e4 : linesF rd0 0 (splitC 10 (bkText b)) = (some ⟨b.rules, b.zones.map fun z => (z.nm, z.eras), b.links, s3⟩, k3) := by
   rw [hs]
   unfold bkLs
   rw [List.append_assoc, linesF_app _ _ _ _ _ _ (show linesF rd0 0 (b.rules.map ruText) = (some ⟨[] ++ b.rules, [], [], 0⟩, 0 + b.rules.length) from e1)]
   rw [linesF_app _ _ _ _ _ _ (show linesF ⟨[] ++ b.rules, [], [], 0⟩ (0 + b.rules.length) (b.zones.flatMap zoLs) = _ from e2), e3]
   rfl
  refine ⟨s3, ?_⟩
  unfold parseF
  rw [if_neg (by omega), if_neg hne, e4]
  dsimp only
  have hc : bkChk (bkS ⟨b.rules, b.zones.map fun z => (z.nm, z.eras), b.links, s3⟩ fun _ => undef) = 0 := by
   have e5 : bkS ⟨b.rules, b.zones.map fun z => (z.nm, z.eras), b.links, s3⟩ (fun _ => undef) = ⟨b.rules, b.zones.map clrZ, b.links⟩ := by
    unfold bkS
    dsimp only
    congr 1
    refine List.ext_getElem (by simp) fun i h1 h2 => ?_
    simp [clrZ]
   rw [e5, bkChk_clr]
   exact h
  rw [if_neg hs3, if_neg (fun g => g hc)]
end Go.Proofs.YtomahddiclkepaaGreatDoor
namespace Go.Proofs.YtomahddiclkepaaGreatDoor
open Go.RowKit Go.Joins Go.Maps
open Classical
def wkT : Tab := ⟨[⟨3600, false, ⟨#[67, 69, 84]⟩⟩, ⟨0, false, ⟨#[71, 77, 84]⟩⟩], 0, [⟨0, 1⟩]⟩
def wkA : ByteArray := ⟨#[65]⟩
theorem wk_chk : chk wkT = 0 := by kernel_rfl
theorem wk_norm : normT wkT = wkT := by
 have hne : (⟨0, false, ⟨#[71, 77, 84]⟩⟩ : Ty) ≠ ⟨3600, false, ⟨#[67, 69, 84]⟩⟩ := by
  intro h
  injection h with h _ _
  exact absurd h (by decide)
 have e1 : resH wkT = ⟨3600, false, ⟨#[67, 69, 84]⟩⟩ := rfl
 have e2 : resL wkT = [(0, ⟨0, false, ⟨#[71, 77, 84]⟩⟩)] := rfl
 unfold normT
 rw [e1, e2]
 have hx : (⟨0, false, ⟨#[71, 77, 84]⟩⟩ : Ty) ∉ (begN ⟨3600, false, ⟨#[67, 69, 84]⟩⟩).types := fun h => hne (List.mem_singleton.1 h)
 have e3 : makeN ⟨3600, false, ⟨#[67, 69, 84]⟩⟩ [(0, ⟨0, false, ⟨#[71, 77, 84]⟩⟩)] = ⟨[⟨3600, false, ⟨#[67, 69, 84]⟩⟩, ⟨0, false, ⟨#[71, 77, 84]⟩⟩], [⟨0, 1⟩], ⟨0, false, ⟨#[71, 77, 84]⟩⟩⟩ := by
  show stepN (begN ⟨3600, false, ⟨#[67, 69, 84]⟩⟩) (0, ⟨0, false, ⟨#[71, 77, 84]⟩⟩) = _
  unfold stepN
  rw [if_neg (show ¬ (0, (⟨0, false, ⟨#[71, 77, 84]⟩⟩ : Ty)).2 = (begN ⟨3600, false, ⟨#[67, 69, 84]⟩⟩).last from hne)]
  dsimp only
  rw [idx_out hx]
  unfold addTy
  rw [if_neg hx]
  rfl
 unfold normR
 rw [e3]
 rfl
theorem wk_bkd : Bkd wkT wkA := by
 refine ⟨chk_ok _ wk_chk, wk_norm, by decide +kernel, by decide, fun c hc => ?_, fun i hi => ?_⟩
 ·rw [List.mem_singleton.1 (show c ∈ [(⟨0, 1⟩ : Ch)] from hc)]; rfl
 ·have hi : i <= 1 := hi
  have : i = 0 \/ i = 1 := by omega
  rcases this with rfl | rfl
  ·decide +kernel
  ·decide +kernel
def wkL : List UInt8 := [122, 111, 110, 101, 32, 65, 10, 101, 114, 97, 32, 49, 58, 48, 48, 32, 45, 48, 58, 48, 48, 32, 67, 69, 84, 32, 49, 57, 55, 48, 45, 48, 49, 45, 48, 49, 84, 48, 48, 58, 48, 48, 58, 48, 48, 10, 101, 114, 97, 32, 48, 58, 48, 48, 32, 45, 48, 58, 48, 48, 32, 71, 77, 84]
theorem wk_text : bkText (oneB [] wkA undef (bErs wkT)) = wkL := by kernel_rfl
theorem wk_parse (w : World) (ht : Tab10 w) (ha : AscTab w) (hn : NumErrs w) (hm : MaxLen w) : ∃ sg, parseF wkL = (⟨[], [(wkA, bErs wkT)], [], sg⟩, 0, 0) := by
 have := parse_text (b := oneB [] wkA undef (bErs wkT)) (bBk_chk wk_bkd undef) (by rw [wk_text]; decide) w ht ha hn hm
 rw [wk_text] at this
 exact this
theorem wk_made (ev : Value) : mkT (oneB [] wkA ev (bErs wkT)) wkA (-5) 5 = (0, wkT) := back_made wk_bkd ev (fun c hc => by rw [List.mem_singleton.1 (show c ∈ [(⟨0, 1⟩ : Ch)] from hc)]; decide) (by decide) (by decide) (by decide)
end Go.Proofs.YtomahddiclkepaaGreatDoor
namespace Go.Proofs.YtomahddiclkepaaGreatDoor
open Go.RowKit
theorem dby_step_up (k : Int) : Civ.jan1 (k + 1) = Civ.jan1 k + 365 + (if longB k = true then 1 else 0) := by
 rw [<- lp_of]; exact Civ.jan1_succ k
theorem jan1_bd (k : Int) (h0 : 0 <= k) (h1 : k <= 10000) : -1000000 <= Civ.jan1 k /\ Civ.jan1 k <= 4000000 := by unfold Civ.jan1; omega
theorem jan1_1970 : Civ.jan1 1970 = 0 := by decide
theorem yearDay_any (y : Int) (w : World) (h0 : 1600 <= y) (h1 : y <= 2400) :
 Calls Tryz.prog 113 #[.int .i64 y] w fun e w' => e = .returned (.int .i64 (Civ.jan1 y)) /\ w = w' := by
 have h70 := qH jan1_1970
 by_cases hy : 1970 <= y
 ·go_enter Tryz.func113, Tryz.ntmps113
  go_wp2
  go_loop [3, 4] (fun n k => ∃ i : Int, 1970 <= i /\ i <= y /\ k = .int .i64 i /\ n = .int .i64 (Civ.jan1 i)) (fun _ k => (y - intOf k).toNat)
  case atStart => exact ⟨1970, by omega, by omega, rfl, by rw [h70.out]⟩
  case round =>
   obtain ⟨i, hi1, hi2, rfl, rfl⟩ := hrel
   have hb := jan1_bd i (by omega) (by omega)
   by_cases hlt : i < y
   ·have HS := qH (dby_step_up i)
    go_wp2_with (go_at_call 151; refine (rLong_any _ _ (by omega) (by omega)).mono ?_; rintro e w' ⟨rfl, rfl⟩)
    all_goals
     go_round
     case rel => exact ⟨i + 1, by omega, by omega, rfl, by rw [HS.out]; simp [*]⟩
     case measure => simp [intOf]; omega
   ·have e : i = y := by omega
    subst e
    go_wp2
    go_loop [3, 5] (fun n k => k = .int .i64 i /\ n = .int .i64 (Civ.jan1 i)) (fun _ k => 0)
    case atStart => exact ⟨rfl, rfl⟩
    case round =>
     obtain ⟨rfl, rfl⟩ := hrel
     go_wp2
     go_ret
     exact ⟨rfl, rfl⟩
 ·go_enter Tryz.func113, Tryz.ntmps113
  go_wp2
  go_loop [3, 4] (fun n k => k = .int .i64 1970 /\ n = .int .i64 0) (fun _ k => 0)
  case atStart => exact ⟨rfl, rfl⟩
  case round =>
   obtain ⟨rfl, rfl⟩ := hrel
   go_wp2
   go_loop [3, 5] (fun n k => ∃ i : Int, y <= i /\ i <= 1970 /\ k = .int .i64 i /\ n = .int .i64 (Civ.jan1 y - Civ.jan1 i)) (fun _ k => (1970 - intOf k).toNat)
   case atStart => exact ⟨y, by omega, by omega, rfl, by simp⟩
   case round =>
    obtain ⟨i, hi1, hi2, rfl, rfl⟩ := hrel
    have hb := jan1_bd i (by omega) (by omega)
    have hc := jan1_bd y (by omega) (by omega)
    by_cases hlt : i < 1970
    ·have HS := qH (dby_step_up i)
     go_wp2_with (go_at_call 151; refine (rLong_any _ _ (by omega) (by omega)).mono ?_; rintro e w' ⟨rfl, rfl⟩)
     all_goals
      go_round
      case rel => exact ⟨i + 1, by omega, by omega, rfl, by rw [HS.out]; simp [*]; omega⟩
      case measure => simp [intOf]; omega
    ·have e : i = 1970 := by omega
     subst e
     go_wp2
     go_ret
     exact ⟨ret_int (by rw [h70.out]; omega), rfl⟩
end Go.Proofs.YtomahddiclkepaaGreatDoor
