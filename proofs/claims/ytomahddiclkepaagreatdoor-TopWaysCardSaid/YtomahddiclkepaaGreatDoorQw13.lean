/- Part of the proof. -/
import Derived.Test.YtomahddiclkepaaGreatDoorQw00
import Derived.Test.YtomahddiclkepaaGreatDoorQw12
import Derived.Test.YtomahddiclkepaaGreatDoorQw03
import Derived.Test.YtomahddiclkepaaGreatDoorQw02
import Derived.Test.YtomahddiclkepaaGreatDoorQw10
import Derived.Laws.OwnMore
import Derived.Test.YtomahddiclkepaaGreatDoorQw05
import Derived.Test.YtomahddiclkepaaGreatDoorQw07
set_option maxHeartbeats 20000000
set_option maxRecDepth 1000000
set_option linter.unusedVariables false
set_option linter.unusedSimpArgs false
namespace Go.Proofs.YtomahddiclkepaaGreatDoor
open Go.RowKit Go.Joins
open Classical
theorem ruText_no (r : Ru) (w : World) (hc : ruChk r ≠ 0) (h1 : r.nm.size <= maxLen) (h2 : r.lt.size <= maxLen) :
 Calls Tryz.prog 30 #[ruV r] w fun e w' => e = .returned (.tuple #[.string ⟨#[]⟩, .int .i64 (ruChk r)]) /\ Below w.heap.size w w' := by
 have HCK : Hid (∀ W : World, Calls Tryz.prog 33 #[ruV r] W fun e w' => e = .returned (.int .i64 (ruChk r)) /\ Below W.heap.size W w') := by
  show ∀ W : World, _
  exact fun W => ruCheck_any r W h1 h2
 obtain ⟨C, eC⟩ : ∃ C, ruChk r = C := ⟨_, rfl⟩
 rw [eC] at HCK hc ⊢
 have hz : (C == 0) = false := by simpa using hc
 have hz2 : (!C == 0) = true := by rw [hz]; rfl
 clear hc eC h1 h2
 obtain ⟨W0, eW⟩ : ∃ W0, w.alloc (.cells (ruCells r) 87) = W0 := ⟨_, rfl⟩
 have HX : Hid (RuBx W0 w.heap.size r) := by show RuBx _ _ _; rw [<- eW]; exact RuBx.box w r
 have HB : Hid (Below w.heap.size w W0) := by show Below _ _ _; rw [<- eW]; exact (Below.refl _ _).alloc (Nat.le_refl _) _
 have HEW := qH eW
 obtain ⟨nm, yf, yt, mo, dk, dw, dn, tm, ck, sv, lt⟩ := r
 obtain ⟨x0, x1, x2, x3, x4, x5, x6, x7, x8, x9, x10⟩ := HX.out.cells
 have hl0 := HX.out.lt
 simp only at x0 x1 x2 x3 x4 x5 x6 x7 x8 x9 x10
 clear eW
 go_enter Tryz.func30, Tryz.ntmps30
 go_wp2_with fail
 rw [HEW.out]
 refine (HCK.out _).mono ?_
 rintro e w1 ⟨rfl, hb1⟩
 have HB1 := qH (HB.out.trans (hb1.mono HB.out.size))
 clear hb1 HB HX x0 x1 x2 x3 x4 x5 x6 x7 x8 x9 x10 hl0
 go_wp2
 go_ret2
 exact ⟨rfl, HB1.out⟩
theorem Parse_short (l : List UInt8) (w : World) (hl : l.length < 4294967281) (hm : MaxLen w) (hs : (splitC 32 l).length ≠ 9 \/ ∃ h : (splitC 32 l).length = 9, (splitC 32 l)[6] = []) :
 Calls Tryz.prog 90 #[.string (txt l)] w fun e w' => e = .returned (.tuple #[ruV ru0, .int .i64 3]) /\ Below w.heap.size w w' := by
 have HSP := qH (fun W hmW => splitC_any 32 l W hl hmW)
 have hlen : (splitC 32 l).length <= 4294967281 := by
  rw [splitC_length]
  have := List.count_le_length (a := (32 : UInt8)) (l := l)
  omega
 obtain ⟨W0, eW⟩ : ∃ W0, w.alloc (.cells (ruCells ru0) 87) = W0 := ⟨_, rfl⟩
 have HX0 : Hid (RuBx W0 w.heap.size ru0) := by show RuBx _ _ _; rw [<- eW]; exact RuBx.box w ru0
 have HB0 : Hid (Below w.heap.size w W0) := by show Below _ _ _; rw [<- eW]; exact (Below.refl _ _).alloc (Nat.le_refl _) _
 have hM0 : MaxLen W0 := by
  obtain ⟨m, hm⟩ := hm
  refine ⟨m, ?_⟩
  rw [<- eW]
  exact ((Below.refl w.heap.size w).alloc (Nat.le_refl _) _).cell (show (⟨2, 0, none⟩ : Addr).block < w.heap.size from Lib.lt_of_cell hm) |>.trans hm
 have HM0 := qH hM0
 have HEW := qH eW
 obtain ⟨n, en⟩ : ∃ n, (splitC 32 l).length = n := ⟨_, rfl⟩
 have hre : Hid (∀ (W10 : World), RuBx W10 w.heap.size ru0 -> ∀ tm : Array Value, tm.getD 2 undef = .pointer (some ⟨w.heap.size, 0, none⟩) -> (results Tryz.f90 tm).run Tryz.prog W10 = .ok (.tuple #[ruV ru0, tm.getD 3 undef]) W10) := by
  show ∀ (W10 : World), _
  exact fun W10 h tm hp => results_mid rfl tm W10 w.heap.size 0 (ruCells ru0).toList _ hp h.range Tryz.underlying87 rfl info_rule
 clear eW hM0 hm hl
 go_enter Tryz.func90, Tryz.ntmps90
 go_wp2_with fail
 rw [HEW.out]
 refine (HSP.out W0 HM0.out).mono ?_
 rintro e w1 ⟨A, rfl, hA0, hA1, hcl, hb1⟩
 have HX1 := qH (HX0.out.below (hb1.mono (Nat.le_refl _)))
 have HB1 := qH (HB0.out.trans (hb1.mono HB0.out.size))
 rw [en] at hlen ⊢
 rcases hs with hs | ⟨hs, h6⟩
 case' inl =>
  rw [en] at hs
  have hz : ((n : Int) == 9) = false := by simp; omega
  have hz2 : (!(n : Int) == 9) = true := by rw [hz]; rfl
  clear hb1 HX0 HB0 HSP HM0 hA0 hcl
  go_upto_region 3 with fail
 case' inr =>
  have c6 : w1.cell? ⟨A, 6, none⟩ = some (.string (txt [])) := by
   have h := hcl 6 (by omega)
   rw [h, h6]
  obtain rfl : n = 9 := en.symm.trans hs
  clear en
  have b6 : (txt []).toList.isEmpty = true := by rw [bytes_toList_txt]; rfl
  clear hb1 HX0 HB0 HSP HM0 hA0 hcl h6
  go_upto_region 3 with fail
 all_goals
  have hth := HX1.out.there
  have hst := qH (HX1.out.stored ru0)
  have hbl := qH (below_setCells w.heap.size (Nat.le_refl _) (ruCells ru0).toList 0 w1 HB1.out)
  have HTH := qH hth
  clear hth
  go_step
  go_step
  go_step
  go_step
  refine wpList_store_mid rfl 87 _ _ rfl w.heap.size 0 (ruCells ru0) rfl rfl HTH.out info_rule (ru_one ru0) ?_
  have hst2 : Hid (RuBx (w1.setCells w.heap.size 0 (ruCells ru0).toList) w.heap.size ru0) := hst
  generalize w1.setCells w.heap.size 0 (ruCells ru0).toList = W10 at hst2 hbl ⊢
  clear hst
  repeat go_step
  refine bodyPost_ret (hre.out _ hst2.out _ rfl) rfl ⟨rfl, hbl.out⟩
theorem list9 {α : Type} : ∀ (l : List α), l.length = 9 -> ∃ a0 a1 a2 a3 a4 a5 a6 a7 a8, l = [a0, a1, a2, a3, a4, a5, a6, a7, a8]
 | [a0, a1, a2, a3, a4, a5, a6, a7, a8], _ => ⟨a0, a1, a2, a3, a4, a5, a6, a7, a8, rfl⟩
 | [], h | [_], h | [_, _], h | [_, _, _], h | [_, _, _, _], h | [_, _, _, _, _], h | [_, _, _, _, _, _], h | [_, _, _, _, _, _, _], h | [_, _, _, _, _, _, _, _], h => by simp at h
 | _ :: _ :: _ :: _ :: _ :: _ :: _ :: _ :: _ :: _ :: _, h => by simp at h
theorem day_res (l : List UInt8) : ∃ dk dw dn ed : Int, (dayB dk dw dn = true /\ dayT dk dw dn = l /\ ed = 0) \/ ((∀ k wd n, dayB k wd n = true -> dayT k wd n ≠ l) /\ dk = 0 /\ dw = 0 /\ dn = 0 /\ ed = 3) := by
 by_cases h : ∃ k wd n, dayB k wd n = true /\ dayT k wd n = l
 ·obtain ⟨k, wd, n, h1, h2⟩ := h
  exact ⟨k, wd, n, 0, Or.inl ⟨h1, h2, rfl⟩⟩
 ·exact ⟨0, 0, 0, 3, Or.inr ⟨fun k wd n h1 h2 => h ⟨k, wd, n, h1, h2⟩, rfl, rfl, rfl, rfl⟩⟩
theorem span_res (l : List UInt8) : ∃ n e : Int, (inS n /\ spanT n = l /\ e = 0) \/ ((∀ n, inS n -> spanT n ≠ l) /\ n = 0 /\ e = 3) := by
 by_cases h : ∃ n, inS n /\ spanT n = l
 ·obtain ⟨n, h1, h2⟩ := h
  exact ⟨n, 0, Or.inl ⟨h1, h2, rfl⟩⟩
 ·exact ⟨0, 3, Or.inr ⟨fun n h1 h2 => h ⟨n, h1, h2⟩, rfl, rfl⟩⟩
theorem itoa_inj' {a b : Int} (ha : 0 <= a) (ha2 : a < 1844674407370955162) (hb : 0 <= b) (hb2 : b < 1844674407370955162) (e : Lib.itoa a = Lib.itoa b) : a = b := by
 have := congrArg atoiV e
 rwa [atoiV_itoa ha ha2, atoiV_itoa hb hb2] at this
theorem dayT_2 (wd n : Int) : dayT 2 wd n = [108, 97, 115, 116] ++ wordT wd := rfl
theorem dayT_3 (wd n : Int) : dayT 3 wd n = wordT wd ++ ([62, 61] ++ Lib.itoa n) := rfl
theorem dayT_4 (wd n : Int) : dayT 4 wd n = wordT wd ++ ([60, 61] ++ Lib.itoa n) := rfl
theorem word_has {wd : Int} (h0 : 0 <= wd) (h6 : wd <= 6) : ∃ c, c ∈ wordT wd /\ isLt c := by
 have hl := wordT_length h0 h6
 cases e : wordT wd with
 | nil => rw [e] at hl; simp at hl
 | cons c r => exact ⟨c, by simp, word_letters h0 h6 c (by rw [e]; simp)⟩
theorem word_inj {a b : Int} (a0 : 0 <= a) (a6 : a <= 6) (b0 : 0 <= b) (b6 : b <= 6) (e : wordT a = wordT b) : a = b := by
 have := congrArg wdayV e
 rwa [word_wday a0 a6, word_wday b0 b6] at this
theorem dg_not_lt {l : List UInt8} (hd : ∀ c ∈ l, isDg c) (hl : ∃ c, c ∈ l /\ isLt c) : False := by
 obtain ⟨c, h1, h2⟩ := hl
 have := hd c h1
 unfold isDg at this
 unfold isLt at h2
 omega
theorem has_app {a b : List UInt8} (h : ∃ c, c ∈ a /\ isLt c) : ∃ c, c ∈ a ++ b /\ isLt c := by
 obtain ⟨c, h1, h2⟩ := h
 exact ⟨c, List.mem_append_left _ h1, h2⟩
theorem third {wd : Int} (h0 : 0 <= wd) (h6 : wd <= 6) (c : UInt8) (r : List UInt8) : (wordT wd ++ c :: r)[3]? = some c := by
 rw [List.getElem?_append_right (by rw [wordT_length h0 h6]; omega), wordT_length h0 h6]
 rfl
theorem dayT_inj {k wd n k' wd' n' : Int} (h : dayB k wd n = true) (h' : dayB k' wd' n' = true) (e : dayT k wd n = dayT k' wd' n') : k = k' /\ wd = wd' /\ n = n' := by
 simp only [dayB, decide_eq_true_eq] at h h'
 have last : ∃ c, c ∈ ([108, 97, 115, 116] : List UInt8) /\ isLt c := ⟨108, by simp, by unfold isLt; decide⟩
 have two : ∀ (a b : Int) (c : UInt8) (x y : Int), 0 <= a -> a <= 6 -> 0 <= b -> b <= 6 -> 1 <= x -> x <= 31 -> 1 <= y -> y <= 31 -> wordT a ++ ([c, 61] ++ Lib.itoa x) = wordT b ++ ([c, 61] ++ Lib.itoa y) -> a = b /\ x = y := by
  intro a b c x y a0 a6 b0 b6 x1 x2 y1 y2 e
  have := List.append_inj e (by rw [wordT_length a0 a6, wordT_length b0 b6])
  refine ⟨word_inj a0 a6 b0 b6 this.1, ?_⟩
  have e2 := (List.append_inj this.2 rfl).2
  exact itoa_inj' (by omega) (by omega) (by omega) (by omega) e2
 have t116 : ∀ wd : Int, ([108, 97, 115, 116] ++ wordT wd)[3]? = some 116 := fun _ => rfl
 rcases h with ⟨rfl, rfl, h1, h2⟩ | ⟨rfl, h1, h2, rfl⟩ | ⟨rfl | rfl, h1, h2, h3, h4⟩ <;> rcases h' with ⟨rfl, rfl, g1, g2⟩ | ⟨rfl, g1, g2, rfl⟩ | ⟨rfl | rfl, g1, g2, g3, g4⟩
 ·exact ⟨rfl, rfl, itoa_inj' (by omega) (by omega) (by omega) (by omega) e⟩
 ·exact (dg_not_lt (l := dayT 1 0 n) (itoa_dg (by omega)) (by rw [e]; exact has_app last)).elim
 ·exact (dg_not_lt (l := dayT 1 0 n) (itoa_dg (by omega)) (by rw [e]; exact has_app (word_has g1 g2))).elim
 ·exact (dg_not_lt (l := dayT 1 0 n) (itoa_dg (by omega)) (by rw [e]; exact has_app (word_has g1 g2))).elim
 ·exact (dg_not_lt (l := dayT 1 0 n') (itoa_dg (by omega)) (by rw [<- e]; exact has_app last)).elim
 ·exact ⟨rfl, word_inj h1 h2 g1 g2 (List.append_cancel_left e), rfl⟩
 ·have := congrArg (fun l : List UInt8 => l[3]?) e
  simp only [dayT_2, dayT_3, t116] at this
  rw [show ([62, 61] : List UInt8) ++ Lib.itoa n' = 62 :: (61 :: Lib.itoa n') from rfl, third g1 g2] at this
  exact absurd this (by decide)
 ·have := congrArg (fun l : List UInt8 => l[3]?) e
  simp only [dayT_2, dayT_4, t116] at this
  rw [show ([60, 61] : List UInt8) ++ Lib.itoa n' = 60 :: (61 :: Lib.itoa n') from rfl, third g1 g2] at this
  exact absurd this (by decide)
 ·exact (dg_not_lt (l := dayT 1 0 n') (itoa_dg (by omega)) (by rw [<- e]; exact has_app (word_has h1 h2))).elim
 ·have := congrArg (fun l : List UInt8 => l[3]?) e
  simp only [dayT_2, dayT_3, t116] at this
  rw [show ([62, 61] : List UInt8) ++ Lib.itoa n = 62 :: (61 :: Lib.itoa n) from rfl, third h1 h2] at this
  exact absurd this (by decide)
 ·have := two wd wd' 62 n n' h1 h2 g1 g2 h3 h4 g3 g4 e
  exact ⟨rfl, this.1, this.2⟩
 ·have := congrArg (fun l : List UInt8 => l[3]?) e
  simp only [dayT_3, dayT_4] at this
  rw [show ([62, 61] : List UInt8) ++ Lib.itoa n = 62 :: (61 :: Lib.itoa n) from rfl, show ([60, 61] : List UInt8) ++ Lib.itoa n' = 60 :: (61 :: Lib.itoa n') from rfl, third h1 h2, third g1 g2] at this
  exact absurd this (by decide)
 ·exact (dg_not_lt (l := dayT 1 0 n') (itoa_dg (by omega)) (by rw [<- e]; exact has_app (word_has h1 h2))).elim
 ·have := congrArg (fun l : List UInt8 => l[3]?) e
  simp only [dayT_2, dayT_4, t116] at this
  rw [show ([60, 61] : List UInt8) ++ Lib.itoa n = 60 :: (61 :: Lib.itoa n) from rfl, third h1 h2] at this
  exact absurd this (by decide)
 ·have := congrArg (fun l : List UInt8 => l[3]?) e
  simp only [dayT_3, dayT_4] at this
  rw [show ([60, 61] : List UInt8) ++ Lib.itoa n = 60 :: (61 :: Lib.itoa n) from rfl, show ([62, 61] : List UInt8) ++ Lib.itoa n' = 62 :: (61 :: Lib.itoa n') from rfl, third h1 h2, third g1 g2] at this
  exact absurd this (by decide)
 ·have := two wd wd' 60 n n' h1 h2 g1 g2 h3 h4 g3 g4 e
  exact ⟨rfl, this.1, this.2⟩
theorem Parse_nine (l a0 a1 a2 a3 a4 a5 a6 a7 a8 : List UInt8) (hw : splitC 32 l = [a0, a1, a2, a3, a4, a5, a6, a7, a8]) (h6 : a6 ≠ []) (w : World) (hl : l.length < 4294967281) (ht : Tab10 w) (ha : AscTab w) (hn : NumErrs w) (hm : MaxLen w) :
 ∃ (r : Ru) (R : Ru) (RE : Int), ((ruChk r = 0 /\ ruText r = l /\ R = r /\ RE = 0) \/ (¬ (ruChk r = 0 /\ ruText r = l) /\ R = ru0 /\ RE = 3)) /\
 (∀ q, OkRu q -> ruText q = l -> r = q) /\
 Calls Tryz.prog 90 #[.string (txt l)] w fun e w' => e = .returned (.tuple #[ruV R, .int .i64 RE]) /\ Below w.heap.size w w' := by
 have hsm : ∀ x ∈ [a0, a1, a2, a3, a4, a5, a6, a7, a8], x.length <= l.length := by rw [<- hw]; exact splitC_small 32 l
 obtain ⟨dk, dw, dn, ed, hd⟩ := day_res a5
 obtain ⟨tm, ea, hta⟩ := span_res (tmOf a6)
 obtain ⟨sv, es, hts⟩ := span_res a7
 have e7 := hsm a7 (by simp)
 have e5 := hsm a5 (by simp)
 have e6 := hsm a6 (by simp)
 have e1 := hsm a1 (by simp)
 have e8 := hsm a8 (by simp)
 have etm : (tmOf a6).length <= a6.length := by
  unfold tmOf
  split
  ·exact Nat.le_refl _
  ·simp
 obtain ⟨r, er⟩ : ∃ r : Ru, r = ⟨txt a1, atoiV a2, atoiV a3, atoiV a4, dk, dw, dn, tm, ckOf a6, sv, txt a8⟩ := ⟨_, rfl⟩
 have hD : ∀ W, Below w.heap.size w W -> Calls Tryz.prog 138 #[.string (txt a5)] W fun e w' => e = .returned (.tuple #[dayV dk dw dn, .int .i64 ed]) /\ Below W.heap.size W w' := by
  intro W hb
  rcases hd with ⟨h1, rfl, rfl⟩ | ⟨h1, rfl, rfl, rfl, rfl⟩
  ·exact Read_ok dk dw dn W h1 (ht.below hb) (hn.below hb) (hm.below hb)
  ·exact Read_no a5 W (by omega) h1 (ht.below hb) (hn.below hb) (hm.below hb)
 have hsp : ∀ (x : List UInt8) (n e : Int), x.length <= l.length -> ((inS n /\ spanT n = x /\ e = 0) \/ ((∀ n, inS n -> spanT n ≠ x) /\ n = 0 /\ e = 3)) -> ∀ W, Below w.heap.size w W ->
  Calls Tryz.prog 140 #[.string (txt x)] W fun e' w' => e' = .returned (.tuple #[.int .i64 n, .int .i64 e]) /\ Below W.heap.size W w' := by
  intro x n e hx h W hb
  rcases h with ⟨h1, rfl, rfl⟩ | ⟨h1, rfl, rfl⟩
  ·exact ReadSpan_ok n W h1 (ht.below hb) (hn.below hb) (hm.below hb)
  ·exact ReadSpan_no x W (by omega) h1 (ht.below hb) (hn.below hb) (hm.below hb)
 have hT : ∃ (t : ByteArray) (te : Int), ((ruChk r = 0 /\ t = txt (ruText r) /\ te = 0) \/ (ruChk r ≠ 0 /\ te ≠ 0)) /\ ∀ W, Below w.heap.size w W -> Calls Tryz.prog 30 #[ruV r] W fun e w' => e = .returned (.tuple #[.string t, .int .i64 te]) /\ Below W.heap.size W w' := by
  by_cases hc : ruChk r = 0
  ·exact ⟨_, _, Or.inl ⟨hc, rfl, rfl⟩, fun W hb => ruText_ok r W (ru_ok hc) (ht.below hb) (ha.below hb)⟩
  ·exact ⟨_, _, Or.inr ⟨hc, hc⟩, fun W hb => ruText_no r W hc (by rw [er]; simp only [txt_size]; unfold maxLen; omega) (by rw [er]; simp only [txt_size]; unfold maxLen; omega)⟩
 obtain ⟨t, te, hte, hTX⟩ := hT
 have huni : ∀ q, OkRu q -> ruText q = l -> r = q := by
  intro q oq eq
  have e := ru_split oq
  rw [eq, hw] at e
  unfold ruW at e
  injection e with g0 e; injection e with g1 e; injection e with g2 e; injection e with g3 e; injection e with g4 e; injection e with g5 e; injection e with g6 e; injection e with g7 e; injection e with g8 e
  obtain ⟨k1, k2, k3⟩ := ck_of (n := q.tm) (b := q.ck) ⟨oq.a1, oq.a2⟩ oq.c1 oq.c2
  have f1 := oq.f1; have f2 := oq.f2; have t1 := oq.t1; have t2 := oq.t2; have m1 := oq.m1; have m2 := oq.m2; have s1 := oq.s1; have s2 := oq.s2
  have hday : dk = q.dk /\ dw = q.dw /\ dn = q.dn := by
   rcases hd with ⟨h1, h2, _⟩ | ⟨h1, _⟩
   ·exact dayT_inj h1 oq.d (by rw [h2, g5])
   ·exact absurd g5.symm (h1 _ _ _ oq.d)
  have htm : tm = q.tm := by
   rw [g6, k2] at hta
   rcases hta with ⟨h1, h2, _⟩ | ⟨h1, _⟩
   ·have := congrArg rawS h2
    rwa [rawS_span h1, rawS_span ⟨oq.a1, oq.a2⟩] at this
   ·exact absurd rfl (h1 _ ⟨oq.a1, oq.a2⟩)
  have hsv : sv = q.sv := by
   rw [g7] at hts
   rcases hts with ⟨h1, h2, _⟩ | ⟨h1, _⟩
   ·have := congrArg rawS h2
    rwa [rawS_span h1, rawS_span ⟨by omega, by omega⟩] at this
   ·exact absurd rfl (h1 _ ⟨by omega, by omega⟩)
  rw [er, g1, g2, g3, g4, g6, g8, k1, hday.1, hday.2.1, hday.2.2, htm, hsv, atoiV_itoa (by omega) (by omega), atoiV_itoa (by omega) (by omega), atoiV_itoa (by omega) (by omega)]
  rfl
 have hwl : ∀ x ∈ [a2, a3, a4, a6], x.length <= 281474976710656 := by
  intro x hx
  have := hsm x (by simp only [List.mem_cons, List.not_mem_nil, or_false] at hx ⊢; rcases hx with rfl | rfl | rfl | rfl <;> simp)
  omega
 by_cases hc : ruChk r = 0 /\ ruText r = l
 ·refine ⟨r, r, 0, Or.inl ⟨hc.1, hc.2, rfl, rfl⟩, huni, ?_⟩
  refine Parse_walk l a0 a1 a2 a3 a4 a5 a6 a7 a8 hw h6 w hl hn hm hwl dk dw dn ed tm ea sv es te t hD (hsp _ _ _ (by omega) hta) (hsp _ _ _ e7 hts) (by rw [er] at hTX; exact hTX) r 0 (Or.inl ?_)
  rcases hte with ⟨h1, h2, h3⟩ | ⟨h1, _⟩
  ·exact ⟨h3, by rw [h2, hc.2], er, rfl⟩
  ·exact absurd hc.1 h1
 ·refine ⟨r, ru0, 3, Or.inr ⟨hc, rfl, rfl⟩, huni, ?_⟩
  refine Parse_walk l a0 a1 a2 a3 a4 a5 a6 a7 a8 hw h6 w hl hn hm hwl dk dw dn ed tm ea sv es te t hD (hsp _ _ _ (by omega) hta) (hsp _ _ _ e7 hts) (by rw [er] at hTX; exact hTX) ru0 3 (Or.inr ⟨?_, rfl, rfl⟩)
  rcases hte with ⟨h1, h2, h3⟩ | ⟨h1, h2⟩
  ·right
   intro e
   rw [h2] at e
   exact hc ⟨h1, txt_inj e⟩
  ·exact Or.inl h2
theorem Parse_ok (r : Ru) (o : OkRu r) (w : World) (hl : (ruText r).length < 4294967281) (ht : Tab10 w) (ha : AscTab w) (hn : NumErrs w) (hm : MaxLen w) :
 Calls Tryz.prog 90 #[.string (txt (ruText r))] w fun e w' => e = .returned (.tuple #[ruV r, .int .i64 0]) /\ Below w.heap.size w w' := by
 obtain ⟨q, R, RE, h, hu, hc⟩ := Parse_nine (ruText r) _ _ _ _ _ _ _ _ _ (ru_split o) (ck_of ⟨o.a1, o.a2⟩ o.c1 o.c2).2.2 w hl ht ha hn hm
 have e := hu r o rfl
 subst e
 rcases h with ⟨h1, h2, rfl, rfl⟩ | ⟨h1, _⟩
 ·exact hc
 ·exact absurd ⟨ok_ru o, rfl⟩ h1
theorem Parse_no (l : List UInt8) (hno : ∀ r, OkRu r -> ruText r ≠ l) (w : World) (hl : l.length < 4294967281) (ht : Tab10 w) (ha : AscTab w) (hn : NumErrs w) (hm : MaxLen w) :
 Calls Tryz.prog 90 #[.string (txt l)] w fun e w' => e = .returned (.tuple #[ruV ru0, .int .i64 3]) /\ Below w.heap.size w w' := by
 by_cases h9 : (splitC 32 l).length = 9
 ·obtain ⟨a0, a1, a2, a3, a4, a5, a6, a7, a8, hw⟩ := list9 _ h9
  by_cases h6 : a6 = []
  ·exact Parse_short l w hl hm (Or.inr ⟨h9, by simp [hw, h6]⟩)
  ·obtain ⟨q, R, RE, h, _, hc⟩ := Parse_nine l _ _ _ _ _ _ _ _ _ hw h6 w hl ht ha hn hm
   rcases h with ⟨h1, h2, _⟩ | ⟨_, rfl, rfl⟩
   ·exact absurd h2 (hno q (ru_ok h1))
   ·exact hc
 ·exact Parse_short l w hl hm (Or.inl h9)
end Go.Proofs.YtomahddiclkepaaGreatDoor
namespace Go.Proofs.YtomahddiclkepaaGreatDoor
open Go.RowKit Go.Joins
theorem sep_walk (W : World) (x : Nat) : FnGives Tryz.prog 183 #[] #[encR x] (.bool (sepP x)) W := by
 unfold FnGives
 show Calls Tryz.prog _ #[.int .i32 (x : Int)] W _
 by_cases h : x < 48
 ·have e : sepP x = true := by unfold sepP; simp; omega
  have E := qH e
  clear e
  go_enter Tryz.func183, Tryz.ntmps183
  go_wp2
  go_ret
  exact ⟨ret_bool E.out.symm, 0, rfl⟩
 ·by_cases h2 : 57 < x
  ·have e : sepP x = true := by unfold sepP; simp; omega
   have E := qH e
   clear e
   go_enter Tryz.func183, Tryz.ntmps183
   go_wp2
   go_ret
   exact ⟨ret_bool (by rw [E.out]; simp; omega), 0, rfl⟩
  ·have e : sepP x = false := by unfold sepP; simp; omega
   have E := qH e
   clear e
   go_enter Tryz.func183, Tryz.ntmps183
   go_wp2
   go_ret
   exact ⟨ret_bool (by rw [E.out]; simp; omega), 0, rfl⟩
theorem eg_sep : ∀ args w, (callFunc 183 args).run Tryz.prog w = .ok (.enter 183 args) w := enters_of Tryz.func183 (by kernel_rfl) rfl
def piecesT (l : List UInt8) : List (List UInt8) := (Lib.goFieldsP sepP (txt l)).map fun x => x.data.toList
theorem txt_of (s : ByteArray) : txt s.data.toList = s := rfl
theorem fields_any (l : List UInt8) (w : World) (hl : l.length <= 4294967296) :
 Calls Tryz.prog 182 #[.string (txt l), .func (.func 183) #[] #[]] w fun e w' => ∃ A, e = .returned (.slice (some ⟨A, 0, none⟩) (piecesT l).length (piecesT l).length) /\ w.heap.size <= A /\ A < w'.heap.size /\
  (∀ j (h : j < (piecesT l).length), w'.cell? ⟨A, j, none⟩ = some (.string (txt ((piecesT l)[j]'h)))) /\ Below w.heap.size w w' := by
 have hn : (piecesT l).length = (Lib.goFieldsP sepP (txt l)).length := by unfold piecesT; simp
 refine (Tryz.strings_FieldsFunc 183 #[] eg_sep sepP (txt l) w (by rw [txt_size]; exact hl) (fun W x _ => sep_walk W x)).mono ?_
 rintro e w' ⟨A, rfl, hA, hown, hb⟩
 refine ⟨A, by rw [hn], hA, ?_, ?_, hb⟩
 ·rcases hown.2 with ⟨h, _⟩ | ⟨g, cap, cur, hv, _, hg, _⟩
  ·cases h
  ·cases hv
   exact (Array.getElem?_eq_some_iff.mp hg).1
 ·intro j h
  have := hown.cellAt j (by omega)
  rw [this]
  simp [piecesT, txt_of]
theorem ReadStamp_len (l : List UInt8) (w : World) (hl : l.length <= 4294967296) (h6 : (piecesT l).length ≠ 6) :
 Calls Tryz.prog 142 #[.string (txt l)] w fun e w' => e = .returned (.tuple #[.int .i64 0, .int .i64 3]) /\ Below w.heap.size w w' := by
 have HF := qH (fun W => fields_any l W hl)
 generalize txt l = S at HF
 generalize piecesT l = L at HF h6
 go_enter Tryz.func142, Tryz.ntmps142
 go_wp2_with fail
 refine (HF.out _).mono ?_
 rintro e w1 ⟨A, rfl, hA, hA2, hc, hb⟩
 have h6' : ¬ (L.length : Int) = 6 := by omega
 clear hc
 go_wp2
 go_ret2
 exact ⟨rfl, hb⟩
theorem heap_setC {w : World} {R i : Nat} {cs : Array Value} {T : TypeId} {f : Nat × Nat} (h : w.heap[R]? = some (.cells cs T f)) (v : Value) : (w.setCell ⟨R, i, none⟩ v).heap[R]? = some (.cells (cs.setIfInBounds i v) T f) := by
 simp [World.setCell, Array.getElem?_modify, h]
def arrV (V : Nat -> Int) (k : Nat) : Array Value := #[.int .i64 (if 0 < k then V 0 else 0), .int .i64 (if 1 < k then V 1 else 0), .int .i64 (if 2 < k then V 2 else 0), .int .i64 (if 3 < k then V 3 else 0), .int .i64 (if 4 < k then V 4 else 0), .int .i64 (if 5 < k then V 5 else 0)]
theorem wrap64_bd (n : Int) : -9223372036854775808 <= wrap64 n /\ wrap64 n <= 9223372036854775807 := by unfold wrap64; omega
def RdRes (l : List UInt8) (V : Nat -> Int) (R : Int × Int) : Prop :=
 (validB (V 0) (V 1) (V 2) = false /\ R = (0, 3)) \/
 (Civ.valid (V 0) (V 1) (V 2) /\ (60 < V 3 \/ 60 < V 4 \/ 60 < V 5) /\ R = (0, 3)) \/
 (Civ.valid (V 0) (V 1) (V 2) /\ V 3 <= 60 /\ V 4 <= 60 /\ V 5 <= 60 /\
   ∃ T : Int, T = wrap64 (wrap64 (wrap64 (86400 * Civ.days (V 0) (V 1) (V 2) + wrap64 (3600 * V 3)) + wrap64 (60 * V 4)) + V 5) /\
    ((-135140 <= T / 86400 /\ T / 86400 <= 157053 /\ stampT T = l /\ R = (T, 0)) \/
     (-135140 <= T / 86400 /\ T / 86400 <= 157053 /\ stampT T ≠ l /\ R = (0, 3)) \/
     ((T / 86400 < -135140 \/ 157053 < T / 86400) /\ R = (0, 3))))
theorem ReadStamp_six (l : List UInt8) (R : Int × Int) (w : World) (hres : RdRes l (fun j => atoiV ((piecesT l).getD j [])) R) (hl : l.length <= 4294967296) (h6 : (piecesT l).length = 6) (hsm : ∀ x ∈ piecesT l, x.length <= 281474976710656) (ht : Tab10 w) (hn : NumErrs w) :
 Calls Tryz.prog 142 #[.string (txt l)] w fun e w' => e = .returned (.tuple #[.int .i64 R.1, .int .i64 R.2]) /\ Below w.heap.size w w' := by
 have HF := qH (fun W => fields_any l W hl)
 have HT := qH ht
 have HN := qH hn
 clear ht hn
 unfold RdRes at hres
 obtain ⟨S, eS⟩ : ∃ S, txt l = S := ⟨_, rfl⟩
 rw [eS] at HF ⊢
 have ES := qH eS
 clear eS
 generalize piecesT l = L at HF h6 hsm hres
 simp only at hres
 go_enter Tryz.func142, Tryz.ntmps142
 go_wp2_with fail
 refine (HF.out _).mono ?_
 rintro e w1 ⟨A, rfl, hA, hA2, hc, hb⟩
 rw [h6]
 have HC := qH hc
 clear hc
 go_wp2_with fail
 go_loopw [20] (fun i wr => ∃ k : Nat, k <= 6 /\ i = .int .i64 k /\ wr.heap[w1.heap.size]? = some (.cells (arrV (fun j => atoiV (L.getD j [])) k) 261 (0, 0)) /\ Below w1.heap.size w1 wr) (fun i _ => 6 - (intOf i).toNat)
 case atStart => exact ⟨0, by omega, by go_num, heap_alloc_new _ _, (Below.refl _ _).alloc (Nat.le_refl _) _⟩
 case round =>
  obtain ⟨k, hk, rfl, hB, hbw⟩ := hrel
  have HBW := qH hbw
  have hsz : w1.heap.size < wr.heap.size := (Array.getElem?_eq_some_iff.mp hB).1
  have hA3 : A < wr.heap.size := by omega
  clear hbw
  by_cases h6k : k = 6
  ·subst h6k
   have q0 : wr.cell? ⟨w1.heap.size, 0, none⟩ = some (.int .i64 (atoiV (L.getD 0 []))) := (cell_of_row wr _ 0 _ _ _ hB).trans rfl
   have q1 : wr.cell? ⟨w1.heap.size, 1, none⟩ = some (.int .i64 (atoiV (L.getD 1 []))) := (cell_of_row wr _ 1 _ _ _ hB).trans rfl
   have q2 : wr.cell? ⟨w1.heap.size, 2, none⟩ = some (.int .i64 (atoiV (L.getD 2 []))) := (cell_of_row wr _ 2 _ _ _ hB).trans rfl
   have q3 : wr.cell? ⟨w1.heap.size, 3, none⟩ = some (.int .i64 (atoiV (L.getD 3 []))) := (cell_of_row wr _ 3 _ _ _ hB).trans rfl
   have q4 : wr.cell? ⟨w1.heap.size, 4, none⟩ = some (.int .i64 (atoiV (L.getD 4 []))) := (cell_of_row wr _ 4 _ _ _ hB).trans rfl
   have q5 : wr.cell? ⟨w1.heap.size, 5, none⟩ = some (.int .i64 (atoiV (L.getD 5 []))) := (cell_of_row wr _ 5 _ _ _ hB).trans rfl
   have B0 := atoiV_bd (L.getD 0 [])
   have B1 := atoiV_bd (L.getD 1 [])
   have B2 := atoiV_bd (L.getD 2 [])
   have B3 := atoiV_bd (L.getD 3 [])
   have B4 := atoiV_bd (L.getD 4 [])
   have B5 := atoiV_bd (L.getD 5 [])
   generalize atoiV (L.getD 0 []) = v0 at q0 B0 hres
   generalize atoiV (L.getD 1 []) = v1 at q1 B1 hres
   generalize atoiV (L.getD 2 []) = v2 at q2 B2 hres
   generalize atoiV (L.getD 3 []) = v3 at q3 B3 hres
   generalize atoiV (L.getD 4 []) = v4 at q4 B4 hres
   generalize atoiV (L.getD 5 []) = v5 at q5 B5 hres
   clear hB
   have HBA := qH (hb.trans (HBW.out.mono hb.size))
   rcases hres with ⟨hv, rfl⟩ | ⟨hv, hm, rfl⟩ | ⟨hv, hm3, hm4, hm5, hr⟩
   ·go_wp2_with fail
    refine (Days_no v0 v1 v2 _ hv).mono ?_
    rintro e w2 ⟨rfl, rfl⟩
    clear hv
    go_wp2
    go_ret2
    exact ⟨rfl, HBA.out⟩
   ·go_wp2_with fail
    refine (Days_ok v0 v1 v2 _ hv).mono ?_
    rintro e w2 ⟨rfl, rfl⟩
    generalize Civ.days v0 v1 v2 = D
    clear hv
    go_wp2_with fail
    all_goals first
     | omega
     | (go_ret2; exact ⟨rfl, HBA.out⟩)
   ·have hdb := Civ.days_bd hv
    go_wp2_with fail
    refine (Days_ok v0 v1 v2 _ hv).mono ?_
    rintro e w2 ⟨rfl, rfl⟩
    generalize Civ.days v0 v1 v2 = D at hdb hr
    clear hv
    obtain ⟨T, eT, hr⟩ := hr
    have ET := qH eT.symm
    have hTb : -9223372036854775808 <= T /\ T <= 9223372036854775807 := by rw [eT]; exact wrap64_bd _
    clear eT
    go_wp2_with fail
    all_goals rw [ET.out]
    all_goals (
     rcases hr with ⟨t1, t2, t3, rfl⟩ | ⟨t1, t2, t3, rfl⟩ | ⟨t1, rfl⟩
     ·refine (Stamp_ok T _ t1 t2 (HT.out.below HBA.out)).mono ?_
      rw [t3, ES.out]
      rintro e w3 ⟨rfl, hb3⟩
      clear t3
      go_wp2
      go_ret2
      exact ⟨rfl, HBA.out.trans (hb3.mono HBA.out.size)⟩
     ·refine (Stamp_ok T _ t1 t2 (HT.out.below HBA.out)).mono ?_
      have hne : ((txt (stampT T)).toList == S.toList) = false := by
       rw [<- ES.out]; exact txt_ne t3
      generalize txt (stampT T) = U at hne
      rintro e w3 ⟨rfl, hb3⟩
      clear t3
      go_wp2
      go_ret2
      exact ⟨rfl, HBA.out.trans (hb3.mono HBA.out.size)⟩
     ·refine (Stamp_no T _ t1 hTb.1 hTb.2).mono ?_
      rintro e w3 ⟨rfl, hb3⟩
      clear t1
      go_wp2
      go_ret2
      exact ⟨rfl, HBA.out.trans (hb3.mono HBA.out.size)⟩)
  ·rcases (by omega : k = 0 \/ k = 1 \/ k = 2 \/ k = 3 \/ k = 4 \/ k = 5) with rfl | rfl | rfl | rfl | rfl | rfl
   ·have cA := (HBW.out.cell (p := ⟨A, 0, none⟩) hA2).trans (HC.out 0 (by omega))
    have hsk := hsm (L[0]'(by omega)) (List.getElem_mem _)
    have ex0 : L.getD 0 [] = L[0]'(by omega) := by rw [List.getD_eq_getElem?_getD, List.getElem?_eq_getElem (by omega)]; rfl
    obtain ⟨x, ex⟩ : ∃ x, L[0]'(by omega) = x := ⟨_, rfl⟩
    rw [ex] at cA hsk ex0
    have EX0 := qH ex0
    clear ex ex0 hres
    go_wp2_with fail
    refine (Atoi_any x _ hsk (HN.out.below (hb.trans (HBW.out.mono hb.size)))).mono ?_
    rintro e w2 ⟨ev, rfl, hb2, -⟩
    have hB2 := (hb2.block _ hsz).trans hB
    have cB : w2.cell? ⟨w1.heap.size, 0, none⟩ = some (.int .i64 0) := (cell_of_row w2 _ 0 _ _ _ hB2).trans rfl
    have hsz2 : w1.heap.size < w2.heap.size := (Array.getElem?_eq_some_iff.mp hB2).1
    have hfz : w2.frozen? ⟨w1.heap.size, 0, none⟩ = false := by simp [World.frozen?, hB2]
    go_wp2
    refine ⟨⟨1, by omega, by go_num, (heap_setC hB2 _).trans ?_, (HBW.out.trans (hb2.mono HBW.out.size)).setCell (Nat.le_refl _) _⟩, by simp [intOf]⟩
    rw [<- EX0.out]
    rfl
   ·have cA := (HBW.out.cell (p := ⟨A, 1, none⟩) hA2).trans (HC.out 1 (by omega))
    have hsk := hsm (L[1]'(by omega)) (List.getElem_mem _)
    have ex0 : L.getD 1 [] = L[1]'(by omega) := by rw [List.getD_eq_getElem?_getD, List.getElem?_eq_getElem (by omega)]; rfl
    obtain ⟨x, ex⟩ : ∃ x, L[1]'(by omega) = x := ⟨_, rfl⟩
    rw [ex] at cA hsk ex0
    have EX0 := qH ex0
    clear ex ex0 hres
    go_wp2_with fail
    refine (Atoi_any x _ hsk (HN.out.below (hb.trans (HBW.out.mono hb.size)))).mono ?_
    rintro e w2 ⟨ev, rfl, hb2, -⟩
    have hB2 := (hb2.block _ hsz).trans hB
    have cB : w2.cell? ⟨w1.heap.size, 1, none⟩ = some (.int .i64 0) := (cell_of_row w2 _ 1 _ _ _ hB2).trans rfl
    have hsz2 : w1.heap.size < w2.heap.size := (Array.getElem?_eq_some_iff.mp hB2).1
    have hfz : w2.frozen? ⟨w1.heap.size, 1, none⟩ = false := by simp [World.frozen?, hB2]
    go_wp2
    refine ⟨⟨2, by omega, by go_num, (heap_setC hB2 _).trans ?_, (HBW.out.trans (hb2.mono HBW.out.size)).setCell (Nat.le_refl _) _⟩, by simp [intOf]⟩
    rw [<- EX0.out]
    rfl
   ·have cA := (HBW.out.cell (p := ⟨A, 2, none⟩) hA2).trans (HC.out 2 (by omega))
    have hsk := hsm (L[2]'(by omega)) (List.getElem_mem _)
    have ex0 : L.getD 2 [] = L[2]'(by omega) := by rw [List.getD_eq_getElem?_getD, List.getElem?_eq_getElem (by omega)]; rfl
    obtain ⟨x, ex⟩ : ∃ x, L[2]'(by omega) = x := ⟨_, rfl⟩
    rw [ex] at cA hsk ex0
    have EX0 := qH ex0
    clear ex ex0 hres
    go_wp2_with fail
    refine (Atoi_any x _ hsk (HN.out.below (hb.trans (HBW.out.mono hb.size)))).mono ?_
    rintro e w2 ⟨ev, rfl, hb2, -⟩
    have hB2 := (hb2.block _ hsz).trans hB
    have cB : w2.cell? ⟨w1.heap.size, 2, none⟩ = some (.int .i64 0) := (cell_of_row w2 _ 2 _ _ _ hB2).trans rfl
    have hsz2 : w1.heap.size < w2.heap.size := (Array.getElem?_eq_some_iff.mp hB2).1
    have hfz : w2.frozen? ⟨w1.heap.size, 2, none⟩ = false := by simp [World.frozen?, hB2]
    go_wp2
    refine ⟨⟨3, by omega, by go_num, (heap_setC hB2 _).trans ?_, (HBW.out.trans (hb2.mono HBW.out.size)).setCell (Nat.le_refl _) _⟩, by simp [intOf]⟩
    rw [<- EX0.out]
    rfl
   ·have cA := (HBW.out.cell (p := ⟨A, 3, none⟩) hA2).trans (HC.out 3 (by omega))
    have hsk := hsm (L[3]'(by omega)) (List.getElem_mem _)
    have ex0 : L.getD 3 [] = L[3]'(by omega) := by rw [List.getD_eq_getElem?_getD, List.getElem?_eq_getElem (by omega)]; rfl
    obtain ⟨x, ex⟩ : ∃ x, L[3]'(by omega) = x := ⟨_, rfl⟩
    rw [ex] at cA hsk ex0
    have EX0 := qH ex0
    clear ex ex0 hres
    go_wp2_with fail
    refine (Atoi_any x _ hsk (HN.out.below (hb.trans (HBW.out.mono hb.size)))).mono ?_
    rintro e w2 ⟨ev, rfl, hb2, -⟩
    have hB2 := (hb2.block _ hsz).trans hB
    have cB : w2.cell? ⟨w1.heap.size, 3, none⟩ = some (.int .i64 0) := (cell_of_row w2 _ 3 _ _ _ hB2).trans rfl
    have hsz2 : w1.heap.size < w2.heap.size := (Array.getElem?_eq_some_iff.mp hB2).1
    have hfz : w2.frozen? ⟨w1.heap.size, 3, none⟩ = false := by simp [World.frozen?, hB2]
    go_wp2
    refine ⟨⟨4, by omega, by go_num, (heap_setC hB2 _).trans ?_, (HBW.out.trans (hb2.mono HBW.out.size)).setCell (Nat.le_refl _) _⟩, by simp [intOf]⟩
    rw [<- EX0.out]
    rfl
   ·have cA := (HBW.out.cell (p := ⟨A, 4, none⟩) hA2).trans (HC.out 4 (by omega))
    have hsk := hsm (L[4]'(by omega)) (List.getElem_mem _)
    have ex0 : L.getD 4 [] = L[4]'(by omega) := by rw [List.getD_eq_getElem?_getD, List.getElem?_eq_getElem (by omega)]; rfl
    obtain ⟨x, ex⟩ : ∃ x, L[4]'(by omega) = x := ⟨_, rfl⟩
    rw [ex] at cA hsk ex0
    have EX0 := qH ex0
    clear ex ex0 hres
    go_wp2_with fail
    refine (Atoi_any x _ hsk (HN.out.below (hb.trans (HBW.out.mono hb.size)))).mono ?_
    rintro e w2 ⟨ev, rfl, hb2, -⟩
    have hB2 := (hb2.block _ hsz).trans hB
    have cB : w2.cell? ⟨w1.heap.size, 4, none⟩ = some (.int .i64 0) := (cell_of_row w2 _ 4 _ _ _ hB2).trans rfl
    have hsz2 : w1.heap.size < w2.heap.size := (Array.getElem?_eq_some_iff.mp hB2).1
    have hfz : w2.frozen? ⟨w1.heap.size, 4, none⟩ = false := by simp [World.frozen?, hB2]
    go_wp2
    refine ⟨⟨5, by omega, by go_num, (heap_setC hB2 _).trans ?_, (HBW.out.trans (hb2.mono HBW.out.size)).setCell (Nat.le_refl _) _⟩, by simp [intOf]⟩
    rw [<- EX0.out]
    rfl
   ·have cA := (HBW.out.cell (p := ⟨A, 5, none⟩) hA2).trans (HC.out 5 (by omega))
    have hsk := hsm (L[5]'(by omega)) (List.getElem_mem _)
    have ex0 : L.getD 5 [] = L[5]'(by omega) := by rw [List.getD_eq_getElem?_getD, List.getElem?_eq_getElem (by omega)]; rfl
    obtain ⟨x, ex⟩ : ∃ x, L[5]'(by omega) = x := ⟨_, rfl⟩
    rw [ex] at cA hsk ex0
    have EX0 := qH ex0
    clear ex ex0 hres
    go_wp2_with fail
    refine (Atoi_any x _ hsk (HN.out.below (hb.trans (HBW.out.mono hb.size)))).mono ?_
    rintro e w2 ⟨ev, rfl, hb2, -⟩
    have hB2 := (hb2.block _ hsz).trans hB
    have cB : w2.cell? ⟨w1.heap.size, 5, none⟩ = some (.int .i64 0) := (cell_of_row w2 _ 5 _ _ _ hB2).trans rfl
    have hsz2 : w1.heap.size < w2.heap.size := (Array.getElem?_eq_some_iff.mp hB2).1
    have hfz : w2.frozen? ⟨w1.heap.size, 5, none⟩ = false := by simp [World.frozen?, hB2]
    go_wp2
    refine ⟨⟨6, by omega, by go_num, (heap_setC hB2 _).trans ?_, (HBW.out.trans (hb2.mono HBW.out.size)).setCell (Nat.le_refl _) _⟩, by simp [intOf]⟩
    rw [<- EX0.out]
    rfl
theorem pieces_small (l : List UInt8) : ∀ x ∈ piecesT l, x.length <= l.length := by
 intro x hx
 unfold piecesT Lib.goFieldsP at hx
 simp only [List.map_map, List.mem_map, Function.comp] at hx
 obtain ⟨p, -, rfl⟩ := hx
 rw [Lib.extract_data, txt_data]
 simp only [List.length_take, List.length_drop]
 omega
def inT (t : Int) : Prop := -135140 <= t / 86400 /\ t / 86400 <= 157053
theorem ReadStamp_no (l : List UInt8) (w : World) (hl : l.length <= 4294967296) (hno : ∀ t, inT t -> stampT t ≠ l) (ht : Tab10 w) (hn : NumErrs w) :
 Calls Tryz.prog 142 #[.string (txt l)] w fun e w' => e = .returned (.tuple #[.int .i64 0, .int .i64 3]) /\ Below w.heap.size w w' := by
 by_cases h6 : (piecesT l).length = 6
 ·refine ReadStamp_six l (0, 3) w ?_ hl h6 (fun x hx => Nat.le_trans (pieces_small l x hx) (by omega)) ht hn
  unfold RdRes
  generalize (fun j => atoiV ((piecesT l).getD j [])) = V
  by_cases hv : validB (V 0) (V 1) (V 2) = true
  ·have hv' := validB_iff.1 hv
   by_cases hm : 60 < V 3 \/ 60 < V 4 \/ 60 < V 5
   ·exact .inr (.inl ⟨hv', hm, rfl⟩)
   ·refine .inr (.inr ⟨hv', by omega, by omega, by omega, _, rfl, ?_⟩)
    generalize wrap64 _ = T
    by_cases hT : inT T
    ·exact .inr (.inl ⟨hT.1, hT.2, hno T hT, rfl⟩)
    ·exact .inr (.inr ⟨by unfold inT at hT; omega, rfl⟩)
  ·exact .inl ⟨by simpa using hv, rfl⟩
 ·exact ReadStamp_len l w hl h6
theorem pieces_stamp (t : Int) (h : inT t) : piecesT (stampT t) = [Lib.itoa (Civ.yy (t / 86400)), T2 (Civ.mm (t / 86400)), T2 (Civ.dd (t / 86400)), T2 (t % 86400 / 3600), T2 (t % 86400 / 60 % 60), T2 (t % 86400 % 60)] := by
 unfold piecesT
 rw [fields_stamp t h.1 h.2]
 simp [txt_data]
theorem ReadStamp_ok (t : Int) (w : World) (h : inT t) (ht : Tab10 w) (hn : NumErrs w) :
 Calls Tryz.prog 142 #[.string (txt (stampT t))] w fun e w' => e = .returned (.tuple #[.int .i64 t, .int .i64 0]) /\ Below w.heap.size w w' := by
 have hp := pieces_stamp t h
 have hlen := stamp_length t h.1 h.2
 refine ReadStamp_six (stampT t) (t, 0) w ?_ (by omega) (by rw [hp]; rfl) (fun x hx => Nat.le_trans (pieces_small _ x hx) (by omega)) ht hn
 obtain ⟨hv, hd⟩ := Civ.date_valid (t / 86400) h.1 h.2
 have hb := Civ.mlen_bd (Civ.yy (t / 86400)) (Civ.mm (t / 86400)) hv.2.2.1 hv.2.2.2.1
 unfold RdRes
 rw [hp]
 have e0 : atoiV (Lib.itoa (Civ.yy (t / 86400))) = Civ.yy (t / 86400) := atoiV_itoa (by have := hv.1; omega) (by have := hv.2.1; omega)
 have e1 : atoiV (T2 (Civ.mm (t / 86400))) = Civ.mm (t / 86400) := atoiV_T2 (by have := hv.2.2.1; omega) (by have := hv.2.2.2.1; omega)
 have e2 : atoiV (T2 (Civ.dd (t / 86400))) = Civ.dd (t / 86400) := atoiV_T2 (by have := hv.2.2.2.2.1; omega) (by have := hv.2.2.2.2.2; omega)
 have e3 : atoiV (T2 (t % 86400 / 3600)) = t % 86400 / 3600 := atoiV_T2 (by omega) (by omega)
 have e4 : atoiV (T2 (t % 86400 / 60 % 60)) = t % 86400 / 60 % 60 := atoiV_T2 (by omega) (by omega)
 have e5 : atoiV (T2 (t % 86400 % 60)) = t % 86400 % 60 := atoiV_T2 (by omega) (by omega)
 simp only [List.getD_cons_zero, List.getD_cons_succ, e0, e1, e2, e3, e4, e5]
 refine .inr (.inr ⟨hv, by omega, by omega, by omega, _, rfl, .inl ?_⟩)
 rw [hd]
 have hh1 := h.1
 have hh2 := h.2
 rw [IntWalk.wrap64_in (3600 * (t % 86400 / 3600)) (by omega), IntWalk.wrap64_in (60 * (t % 86400 / 60 % 60)) (by omega), IntWalk.wrap64_in (86400 * (t / 86400) + 3600 * (t % 86400 / 3600)) (by omega),
  IntWalk.wrap64_in (86400 * (t / 86400) + 3600 * (t % 86400 / 3600) + 60 * (t % 86400 / 60 % 60)) (by omega), IntWalk.wrap64_in _ (by omega),
  show 86400 * (t / 86400) + 3600 * (t % 86400 / 3600) + 60 * (t % 86400 / 60 % 60) + t % 86400 % 60 = t by omega]
 exact ⟨h.1, h.2, rfl, rfl⟩
end Go.Proofs.YtomahddiclkepaaGreatDoor
namespace Go.Proofs.YtomahddiclkepaaGreatDoor
open Go.RowKit Go.Joins
open Classical
noncomputable def rdSpan (l : List UInt8) : Int × Int := if h : ∃ n, inS n /\ spanT n = l then (Classical.choose h, 0) else (0, 3)
noncomputable def rdStamp (l : List UInt8) : Int × Int := if h : ∃ t, inT t /\ stampT t = l then (Classical.choose h, 0) else (0, 3)
noncomputable def rdRule (l : List UInt8) : Ru × Int := if h : ∃ r, OkRu r /\ ruText r = l then (Classical.choose h, 0) else (ru0, 3)
theorem rdSpan_ok {l : List UInt8} (h : (rdSpan l).2 = 0) : inS (rdSpan l).1 /\ spanT (rdSpan l).1 = l := by
 unfold rdSpan at h ⊢
 split at h
 ·rename_i g; rw [dif_pos g]; exact Classical.choose_spec g
 ·cases h
theorem rdStamp_ok {l : List UInt8} (h : (rdStamp l).2 = 0) : inT (rdStamp l).1 /\ stampT (rdStamp l).1 = l := by
 unfold rdStamp at h ⊢
 split at h
 ·rename_i g; rw [dif_pos g]; exact Classical.choose_spec g
 ·cases h
theorem rdRule_ok {l : List UInt8} (h : (rdRule l).2 = 0) : OkRu (rdRule l).1 /\ ruText (rdRule l).1 = l := by
 unfold rdRule at h ⊢
 split at h
 ·rename_i g; rw [dif_pos g]; exact Classical.choose_spec g
 ·cases h
theorem rdSpan_any (l : List UInt8) (w : World) (hl : l.length < 4294967281) (ht : Tab10 w) (hn : NumErrs w) (hm : MaxLen w) :
 Calls Tryz.prog 140 #[.string (txt l)] w fun e w' => e = .returned (.tuple #[.int .i64 (rdSpan l).1, .int .i64 (rdSpan l).2]) /\ Below w.heap.size w w' := by
 by_cases h : ∃ n, inS n /\ spanT n = l
 ·have e : rdSpan l = (Classical.choose h, 0) := by unfold rdSpan; rw [dif_pos h]
  rw [e]
  obtain ⟨h1, h2⟩ := Classical.choose_spec h
  have := ReadSpan_ok _ w h1 ht hn hm
  rw [h2] at this
  exact this
 ·have e : rdSpan l = (0, 3) := by unfold rdSpan; rw [dif_neg h]
  rw [e]
  exact ReadSpan_no l w hl (fun n h1 h2 => h ⟨n, h1, h2⟩) ht hn hm
theorem rdStamp_any (l : List UInt8) (w : World) (hl : l.length <= 4294967296) (ht : Tab10 w) (hn : NumErrs w) :
 Calls Tryz.prog 142 #[.string (txt l)] w fun e w' => e = .returned (.tuple #[.int .i64 (rdStamp l).1, .int .i64 (rdStamp l).2]) /\ Below w.heap.size w w' := by
 by_cases h : ∃ t, inT t /\ stampT t = l
 ·have e : rdStamp l = (Classical.choose h, 0) := by unfold rdStamp; rw [dif_pos h]
  rw [e]
  obtain ⟨h1, h2⟩ := Classical.choose_spec h
  have := ReadStamp_ok _ w h1 ht hn
  rw [h2] at this
  exact this
 ·have e : rdStamp l = (0, 3) := by unfold rdStamp; rw [dif_neg h]
  rw [e]
  exact ReadStamp_no l w hl (fun n h1 h2 => h ⟨n, h1, h2⟩) ht hn
theorem rdRule_any (l : List UInt8) (w : World) (hl : l.length < 4294967281) (ht : Tab10 w) (ha : AscTab w) (hn : NumErrs w) (hm : MaxLen w) :
 Calls Tryz.prog 90 #[.string (txt l)] w fun e w' => e = .returned (.tuple #[ruV (rdRule l).1, .int .i64 (rdRule l).2]) /\ Below w.heap.size w w' := by
 by_cases h : ∃ r, OkRu r /\ ruText r = l
 ·have e : rdRule l = (Classical.choose h, 0) := by unfold rdRule; rw [dif_pos h]
  rw [e]
  obtain ⟨h1, h2⟩ := Classical.choose_spec h
  have := Parse_ok _ h1 w (by rw [h2]; exact hl) ht ha hn hm
  rw [h2] at this
  exact this
 ·have e : rdRule l = (ru0, 3) := by unfold rdRule; rw [dif_neg h]
  rw [e]
  exact Parse_no l (fun r h1 h2 => h ⟨r, h1, h2⟩) w hl ht ha hn hm
structure RdS where
 (rules : List Ru)
 (zones : List (ByteArray × List Er))
 (links : List Lk)
 (stage : Int)
def rd0 : RdS := ⟨[], [], [], 0⟩
def ruleW : List UInt8 := [114, 117, 108, 101]
def zoneW : List UInt8 := [122, 111, 110, 101]
def eraW : List UInt8 := [101, 114, 97]
def linkW : List UInt8 := [108, 105, 110, 107]
noncomputable def eraL (w1 w2 w3 : List UInt8) (w4 : Option (List UInt8)) : Option Er :=
 let u : Int × Int := match w4 with | none => (0, 0) | some x => rdStamp x
 if (rdSpan w1).2 ≠ 0 then none else
 if Lib.hasPrefix w2 [45] = true then (if (rdSpan (Lib.trimPrefix w2 [45])).2 ≠ 0 \/ u.2 ≠ 0 then none else some ⟨(rdSpan w1).1, ⟨#[]⟩, (rdSpan (Lib.trimPrefix w2 [45])).1, txt w3, u.1⟩) else
 if nameB (txt w2) = false \/ u.2 ≠ 0 then none else some ⟨(rdSpan w1).1, txt w2, 0, txt w3, u.1⟩
def zD (zs : List (ByteArray × List Er)) (k : Nat) : ByteArray × List Er := zs.getD k (⟨#[]⟩, [])
def addEra (zs : List (ByteArray × List Er)) (x : Er) : List (ByteArray × List Er) := zs.set (zs.length - 1) ((zD zs (zs.length - 1)).1, (zD zs (zs.length - 1)).2 ++ [x])
theorem addEra_length (zs : List (ByteArray × List Er)) (x : Er) : (addEra zs x).length = zs.length := by unfold addEra; simp
noncomputable def eraF (st : RdS) (w : List (List UInt8)) : Option RdS :=
 if st.stage ≠ 2 \/ (w.length ≠ 4 /\ w.length ≠ 5) then none else
 match eraL (w.getD 1 []) (w.getD 2 []) (w.getD 3 []) (if w.length = 5 then some (w.getD 4 []) else none) with
 | none => none
 | some x => some ⟨st.rules, addEra st.zones x, st.links, if w.length = 5 then 2 else 1⟩
noncomputable def lineF (st : RdS) (l : List UInt8) : Option RdS :=
 if (splitC 32 l).getD 0 [] = ruleW /\ st.stage = 0 then (if (rdRule l).2 = 0 then some ⟨st.rules ++ [(rdRule l).1], st.zones, st.links, st.stage⟩ else none) else
 if (splitC 32 l).getD 0 [] = zoneW /\ st.stage <= 1 /\ (splitC 32 l).length = 2 then some ⟨st.rules, st.zones ++ [(txt ((splitC 32 l).getD 1 []), [])], st.links, 2⟩ else
 if (splitC 32 l).getD 0 [] = eraW then eraF st (splitC 32 l) else
 if (splitC 32 l).getD 0 [] = linkW /\ st.stage ≠ 2 /\ (splitC 32 l).length = 3 then some ⟨st.rules, st.zones, st.links ++ [⟨txt ((splitC 32 l).getD 1 []), txt ((splitC 32 l).getD 2 [])⟩], 3⟩ else none
noncomputable def linesF : RdS -> Nat -> List (List UInt8) -> Option RdS × Nat
 | st, k, [] => (some st, k)
 | st, k, l :: r => match lineF st l with
  | none => (none, k + 1)
  | some st' => linesF st' (k + 1) r
def bkS (st : RdS) (ev : Nat -> Value) : Bk := ⟨st.rules, st.zones.zipIdx.map fun z => ⟨z.1.1, ev z.2, z.1.2⟩, st.links⟩
noncomputable def parseF (s : List UInt8) : RdS × Nat × Int :=
 if 60000 < s.length then (rd0, 0, 2) else if s = [] then (rd0, 0, 0) else
 match linesF rd0 0 (splitC 10 s) with
 | (none, k) => (rd0, k, 3)
 | (some st, k) => if st.stage = 2 then (rd0, k + 1, 3) else if bkChk (bkS st fun _ => undef) ≠ 0 then (rd0, 0, bkChk (bkS st fun _ => undef)) else (st, 0, 0)
def erCs (l : List Er) : List Value := l.flatMap fun x => (erCells x).toList
def ruCs (l : List Ru) : List Value := l.flatMap fun r => (ruCells r).toList
def lkCs (l : List Lk) : List Value := l.flatMap lkCells
def zoCs : List (ByteArray × List Er) -> List Value -> List Value
 | z :: zs, e :: es => .string z.1 :: e :: zoCs zs es
 | _, _ => []
theorem zoCs_snoc : ∀ (zs : List (ByteArray × List Er)) (es : List Value), zs.length = es.length -> ∀ (nm : ByteArray) (l : List Er) (e : Value), zoCs (zs ++ [(nm, l)]) (es ++ [e]) = zoCs zs es ++ [.string nm, e]
 | [], [], _, _, _, _ => rfl
 | [], _ :: _, h, _, _, _ => by cases h
 | _ :: _, [], h, _, _, _ => by cases h
 | z :: zs, e :: es, h, nm, l, e' => by
  have h : zs.length = es.length := by simpa using h
  show .string z.1 :: e :: zoCs (zs ++ [(nm, l)]) (es ++ [e']) = .string z.1 :: e :: (zoCs zs es ++ _)
  rw [zoCs_snoc zs es h]
theorem zoCs_set : ∀ (zs : List (ByteArray × List Er)) (es : List Value), zs.length = es.length -> ∀ (k : Nat) (z : ByteArray × List Er) (e : Value), k < zs.length -> z.1 = (zD zs k).1 -> zoCs (zs.set k z) (es.set k e) = (zoCs zs es).set (k * 2 + 1) e
 | [], _, _, _, _, _, h, _ => absurd h (Nat.not_lt_zero _)
 | _ :: _, [], h, _, _, _, _, _ => by cases h
 | y :: zs, e :: es, _, 0, z, e', _, hz => by
  have hz : z.1 = y.1 := hz
  show .string z.1 :: e' :: zoCs zs es = _
  rw [hz]; rfl
 | y :: zs, e :: es, h, k + 1, z, e', hk, hz => by
  have h : zs.length = es.length := by simpa using h
  have hk : k < zs.length := by simpa using hk
  show .string y.1 :: e :: zoCs (zs.set k z) (es.set k e') = (.string y.1 :: e :: zoCs zs es).set ((k + 1) * 2 + 1) e'
  rw [zoCs_set zs es h k z e' hk hz, show (k + 1) * 2 + 1 = (k * 2 + 1) + 1 + 1 by omega]
  rfl
theorem zoCs_get : ∀ (zs : List (ByteArray × List Er)) (es : List Value), zs.length = es.length -> ∀ (k : Nat) (hk : k < es.length), (zoCs zs es)[k * 2]? = some (.string (zD zs k).1) /\ (zoCs zs es)[k * 2 + 1]? = some es[k]
 | _, [], _, _, h => absurd h (Nat.not_lt_zero _)
 | [], _ :: _, h, _, _ => by cases h
 | y :: zs, e :: es, _, 0, _ => ⟨rfl, rfl⟩
 | y :: zs, e :: es, h, k + 1, hk => by
  have h : zs.length = es.length := by simpa using h
  have hk : k < es.length := by simpa using hk
  have := zoCs_get zs es h k hk
  rw [show (k + 1) * 2 = k * 2 + 1 + 1 by omega]
  exact this
structure RdM (B : Nat) (W : World) (R : Nat) (rv zv lv : Value) (evs : List Value) (st : RdS) : Prop where
 hR : B <= R
 blk : W.heap[R]? = some (.cells #[rv, zv, lv, .int .i64 st.stage] 100 (0, 0))
 rr : W.ownsRow B 87 11 rv st.rules.length (ruCs st.rules)
 zr : W.ownsRow B 46 2 zv st.zones.length (zoCs st.zones evs)
 el : st.zones.length = evs.length
 er : ∀ (i : Nat) (h : i < evs.length), W.ownsRow B 43 5 evs[i] (zD st.zones i).2.length (erCs (zD st.zones i).2)
 ed : ∀ (i j : Nat) (hi : i < evs.length) (hj : j < evs.length), i ≠ j -> evs[i].ownBlock = none \/ evs[i].ownBlock ≠ evs[j].ownBlock
 lr : W.ownsRow B 91 2 lv st.links.length (lkCs st.links)
theorem own_neT {W : World} {B R : Nat} {e T : TypeId} {s n : Nat} {v : Value} {xs : List Value} {cs : Array Value} (h : W.ownsRow B e s v n xs) (hb : W.heap[R]? = some (.cells cs T (0, 0))) (hne : e ≠ T) : v.ownBlock ≠ some R := by
 rcases h.2 with ⟨rfl, _⟩ | ⟨g, cap, cur, rfl, _, hg, _⟩
 ·simp [Value.ownBlock]
 ·simp only [Value.ownBlock]
  intro e0
  injection e0 with e0
  subst e0
  rw [hb] at hg
  injection hg with hg
  injection hg with _ h2 _
  exact hne h2.symm
section
variable {B R : Nat} {W W' W1 w6 : World} {rv zv lv : Value} {evs : List Value} {st : RdS}
theorem RdM.lt (h : RdM B W R rv zv lv evs st) : R < W.heap.size := (Array.getElem?_eq_some_iff.mp h.blk).1
theorem RdM.keep (h : RdM B W R rv zv lv evs st) (hk : ∀ b, b < W.heap.size -> W'.heap[b]? = W.heap[b]?) : RdM B W' R rv zv lv evs st :=
 ⟨h.hR, (hk R h.lt).trans h.blk, own_keep h.rr fun g e => hk g (World.ownsRow.lt h.rr g e).2, own_keep h.zr fun g e => hk g (World.ownsRow.lt h.zr g e).2, h.el,
  fun i hi => own_keep (h.er i hi) fun g e => hk g (World.ownsRow.lt (h.er i hi) g e).2, h.ed, own_keep h.lr fun g e => hk g (World.ownsRow.lt h.lr g e).2⟩
theorem RdM.below (h : RdM B W R rv zv lv evs st) (hb : Below W.heap.size W W') : RdM B W' R rv zv lv evs st := h.keep fun b hl => hb.block b hl
theorem RdM.cells (h : RdM B W R rv zv lv evs st) : W.cell? ⟨R, 0, none⟩ = some rv /\ W.cell? ⟨R, 1, none⟩ = some zv /\ W.cell? ⟨R, 2, none⟩ = some lv /\ W.cell? ⟨R, 3, none⟩ = some (.int .i64 st.stage) /\ ∀ o, W.frozen? ⟨R, o, none⟩ = false :=
 ⟨(cell_of_row W _ 0 _ _ _ h.blk).trans rfl, (cell_of_row W _ 1 _ _ _ h.blk).trans rfl, (cell_of_row W _ 2 _ _ _ h.blk).trans rfl, (cell_of_row W _ 3 _ _ _ h.blk).trans rfl, fun o => by simp [World.frozen?, h.blk]⟩
theorem RdM.other (h : RdM B W R rv zv lv evs st) {W7 : World} {v : Value} {e e1 : TypeId} {s n s1 n1 : Nat} {v1 : Value} {xs xs1 : List Value} (hv : W.ownsRow B e1 s1 v1 n1 xs1) (ho : W.ownsRow B e s v n xs) (h1 : e ≠ e1) (h2 : e ≠ 100)
 (h6 : ∀ b, b < W.heap.size -> v1.ownBlock ≠ some b -> b ≠ R -> W7.heap[b]? = W.heap[b]?) : W7.ownsRow B e s v n xs := own_keep ho fun g eg => by
 have hgl := (World.ownsRow.lt ho g eg).2
 refine h6 g hgl (fun e0 => ?_) (fun e0 => own_neT ho h.blk h2 (by rw [eg, e0]))
 rcases own_apart ho hv h1 with e2 | e2
 ·rw [eg] at e2; cases e2
 ·exact e2 (by rw [eg, e0])
theorem RdM.rule (h : RdM B W R rv zv lv evs st) {W7 : World} {r : Ru} {rv' : Value} (h6 : ∀ b, b < W.heap.size -> rv.ownBlock ≠ some b -> b ≠ R -> W7.heap[b]? = W.heap[b]?)
 (hR : W7.heap[R]? = some (.cells #[rv', zv, lv, .int .i64 st.stage] 100 (0, 0)))
 (hown : W7.ownsRow B 87 11 rv' (st.rules.length + 1) (ruCs st.rules ++ (ruCells r).toList)) : RdM B W7 R rv' zv lv evs ⟨st.rules ++ [r], st.zones, st.links, st.stage⟩ := by
 refine ⟨h.hR, hR, ?_, h.other h.rr h.zr (by decide) (by decide) h6, h.el, fun i hi => h.other h.rr (h.er i hi) (by decide) (by decide) h6, h.ed, h.other h.rr h.lr (by decide) (by decide) h6⟩
 show W7.ownsRow B _ 11 rv' (st.rules ++ [r]).length (ruCs (st.rules ++ [r]))
 have e : ruCs (st.rules ++ [r]) = ruCs st.rules ++ (ruCells r).toList := by unfold ruCs; simp
 rw [e, List.length_append]
 exact hown
theorem RdM.link (h : RdM B W R rv zv lv evs st) {W7 : World} {x : Lk} {lv' : Value} {s : Int} (h6 : ∀ b, b < W.heap.size -> lv.ownBlock ≠ some b -> b ≠ R -> W7.heap[b]? = W.heap[b]?)
 (hR : W7.heap[R]? = some (.cells #[rv, zv, lv', .int .i64 s] 100 (0, 0)))
 (hown : W7.ownsRow B 91 2 lv' (st.links.length + 1) (lkCs st.links ++ lkCells x)) : RdM B W7 R rv zv lv' evs ⟨st.rules, st.zones, st.links ++ [x], s⟩ := by
 refine ⟨h.hR, hR, h.other h.lr h.rr (by decide) (by decide) h6, h.other h.lr h.zr (by decide) (by decide) h6, h.el, fun i hi => h.other h.lr (h.er i hi) (by decide) (by decide) h6, h.ed, ?_⟩
 show W7.ownsRow B _ 2 lv' (st.links ++ [x]).length (lkCs (st.links ++ [x]))
 have e : lkCs (st.links ++ [x]) = lkCs st.links ++ lkCells x := by unfold lkCs; simp
 rw [e, List.length_append]
 exact hown
theorem zD_snoc (zs : List (ByteArray × List Er)) (z : ByteArray × List Er) (i : Nat) : (i < zs.length -> zD (zs ++ [z]) i = zD zs i) /\ (i = zs.length -> zD (zs ++ [z]) i = z) := by
 unfold zD
 refine ⟨fun h => ?_, fun h => ?_⟩
 ·simp [List.getElem?_append_left h]
 ·subst h; simp
theorem RdM.zone (h : RdM B W R rv zv lv evs st) {W7 : World} {nm : ByteArray} {zv' : Value} (h6 : ∀ b, b < W.heap.size -> zv.ownBlock ≠ some b -> b ≠ R -> W7.heap[b]? = W.heap[b]?)
 (hR : W7.heap[R]? = some (.cells #[rv, zv', lv, .int .i64 2] 100 (0, 0)))
 (hown : W7.ownsRow B 46 2 zv' (st.zones.length + 1) (zoCs st.zones evs ++ [.string nm, .slice none 0 0])) : RdM B W7 R rv zv' lv (evs ++ [.slice none 0 0]) ⟨st.rules, st.zones ++ [(nm, [])], st.links, 2⟩ := by
 have el := h.el
 refine ⟨h.hR, hR, h.other h.zr h.rr (by decide) (by decide) h6, ?_, by simp [el], fun i hi => ?_, fun i j hi hj hij => ?_, h.other h.zr h.lr (by decide) (by decide) h6⟩
 ·show W7.ownsRow B _ 2 zv' (st.zones ++ [(nm, [])]).length (zoCs (st.zones ++ [(nm, [])]) (evs ++ [.slice none 0 0]))
  rw [zoCs_snoc _ _ el, List.length_append]
  exact hown
 ·have hi' : i < evs.length + 1 := by simpa using hi
  show W7.ownsRow B _ 5 (evs ++ [Value.slice none 0 0])[i] (zD (st.zones ++ [(nm, [])]) i).2.length (erCs (zD (st.zones ++ [(nm, [])]) i).2)
  by_cases g : i < evs.length
  ·rw [(zD_snoc st.zones (nm, []) i).1 (by omega), List.getElem_append_left g]
   exact h.other h.zr (h.er i g) (by decide) (by decide) h6
  ·rw [(zD_snoc st.zones (nm, []) i).2 (by omega), List.getElem_append_right (by omega)]
   have : (0 : Nat) < 1 := by decide
   simp only [List.getElem_singleton]
   exact World.ownsRow_nil _ _ _ _
 ·by_cases g : i < evs.length
  ·by_cases g2 : j < evs.length
   ·rw [List.getElem_append_left g, List.getElem_append_left g2]
    exact h.ed i j g g2 hij
   ·rw [List.getElem_append_right (show evs.length <= j by omega)]
    simp only [List.getElem_singleton]
    cases e : ((evs ++ [Value.slice none 0 0])[i]).ownBlock with
    | none => exact .inl rfl
    | some b => exact .inr (by simp [Value.ownBlock])
  ·left
   rw [List.getElem_append_right (show evs.length <= i by omega)]
   simp only [List.getElem_singleton]
   rfl
theorem RdM.stage (h : RdM B W R rv zv lv evs st) (s : Int) : RdM B (W.setCell ⟨R, 3, none⟩ (.int .i64 s)) R rv zv lv evs ⟨st.rules, st.zones, st.links, s⟩ := by
 have k7 : ∀ b, b ≠ R -> (W.setCell ⟨R, 3, none⟩ (.int .i64 s)).heap[b]? = W.heap[b]? := fun b hb => Below.heap_setCell _ _ _ _ hb
 have kk : ∀ {e : TypeId} {s1 n : Nat} {v : Value} {xs : List Value}, W.ownsRow B e s1 v n xs -> e ≠ 100 -> (W.setCell ⟨R, 3, none⟩ (.int .i64 s)).ownsRow B e s1 v n xs := fun ho h2 => own_keep ho fun g eg => k7 g fun e0 => own_neT ho h.blk h2 (by rw [eg, e0])
 refine ⟨h.hR, ?_, kk h.rr (by decide), kk h.zr (by decide), h.el, fun i hi => kk (h.er i hi) (by decide), h.ed, kk h.lr (by decide)⟩
 rw [heap_setCell_same W R 3 _ _ _ h.blk]; rfl
theorem zD_set (zs : List (ByteArray × List Er)) (k : Nat) (z : ByteArray × List Er) (i : Nat) (hk : k < zs.length) : zD (zs.set k z) i = if i = k then z else zD zs i := by
 unfold zD
 rw [List.getD_eq_getElem?_getD, List.getElem?_set]
 by_cases h : k = i
 ·subst h; simp [hk]
 ·rw [if_neg h, if_neg (fun e => h e.symm), List.getD_eq_getElem?_getD]
theorem RdM.era (h : RdM B W R rv zv lv evs st) {W7 : World} {x : Er} {e e' : Value} {k g cap : Nat} (hk : k < evs.length) (hkl : k = st.zones.length - 1) (he : evs[k] = e) (hz : zv = .slice (some ⟨g, 0, none⟩) st.zones.length cap)
 (h6 : ∀ b, b < W.heap.size -> e.ownBlock ≠ some b -> b ≠ g -> W7.heap[b]? = W.heap[b]?)
 (hzr : W7.ownsRow B 46 2 zv st.zones.length ((zoCs st.zones evs).set (k * 2 + 1) e'))
 (hown : W7.ownsRow B 43 5 e' ((zD st.zones k).2.length + 1) (erCs (zD st.zones k).2 ++ (erCells x).toList))
 (hfr : e'.ownBlock = e.ownBlock \/ ∀ b, e'.ownBlock = some b -> W.heap.size <= b) : RdM B W7 R rv zv lv (evs.set k e') ⟨st.rules, addEra st.zones x, st.links, st.stage⟩ := by
 have el := h.el
 subst hz
 subst he
 have hgz : (Value.slice (some ⟨g, 0, none⟩) st.zones.length cap).ownBlock = some g := rfl
 have keepT : ∀ {t : TypeId} {s n : Nat} {v : Value} {xs : List Value}, W.ownsRow B t s v n xs -> t ≠ 43 -> t ≠ 46 -> W7.ownsRow B t s v n xs := fun ho h1 h2 => own_keep ho fun b eb => by
  refine h6 b (World.ownsRow.lt ho b eb).2 (fun e0 => ?_) (fun e0 => ?_)
  ·rcases own_apart ho (h.er k hk) h1 with e2 | e2
   ·rw [eb] at e2; cases e2
   ·exact e2 (by rw [eb, e0])
  ·rcases own_apart ho h.zr h2 with e2 | e2
   ·rw [eb] at e2; cases e2
   ·exact e2 (by rw [eb, e0, hgz])
 have hblk : W7.heap[R]? = some (.cells #[rv, .slice (some ⟨g, 0, none⟩) st.zones.length cap, lv, .int .i64 st.stage] 100 (0, 0)) :=
  (h6 R h.lt (own_neT (h.er k hk) h.blk (by decide)) (fun e0 => own_neT h.zr h.blk (by decide) (by rw [hgz, e0]))).trans h.blk
 have hadd : addEra st.zones x = st.zones.set k ((zD st.zones k).1, (zD st.zones k).2 ++ [x]) := by unfold addEra; rw [hkl]
 have hkz : k < st.zones.length := by omega
 refine ⟨h.hR, hblk, keepT h.rr (by decide) (by decide), ?_, by rw [addEra_length, List.length_set]; exact el, fun i hi => ?_, fun i j hi hj hij => ?_, keepT h.lr (by decide) (by decide)⟩
 ·show W7.ownsRow B _ 2 _ (addEra st.zones x).length (zoCs (addEra st.zones x) (evs.set k e'))
  rw [addEra_length, hadd, zoCs_set _ _ el k ((zD st.zones k).1, (zD st.zones k).2 ++ [x]) e' hkz rfl]
  exact hzr
 ·have hi' : i < evs.length := by simpa using hi
  show W7.ownsRow B _ 5 (evs.set k e')[i] (zD (addEra st.zones x) i).2.length (erCs (zD (addEra st.zones x) i).2)
  rw [hadd, zD_set _ _ _ _ hkz, List.getElem_set]
  by_cases g1 : k = i
  ·subst g1
   rw [if_pos rfl, if_pos rfl]
   have e1 : erCs ((zD st.zones k).2 ++ [x]) = erCs (zD st.zones k).2 ++ (erCells x).toList := by unfold erCs; simp
   show W7.ownsRow B _ 5 e' ((zD st.zones k).2 ++ [x]).length (erCs ((zD st.zones k).2 ++ [x]))
   rw [e1, List.length_append]
   exact hown
  ·rw [if_neg g1, if_neg (fun e0 => g1 e0.symm)]
   refine own_keep (h.er i hi') fun b eb => ?_
   have hb := (World.ownsRow.lt (h.er i hi') b eb).2
   refine h6 b hb (fun e0 => ?_) (fun e0 => ?_)
   ·rcases h.ed k i hk hi' g1 with e2 | e2
    ·rw [e2] at e0; cases e0
    ·exact e2 (by rw [e0, eb])
   ·rcases own_apart (h.er i hi') h.zr (by decide) with e2 | e2
    ·rw [eb] at e2; cases e2
    ·exact e2 (by rw [eb, e0, hgz])
 ·have hi' : i < evs.length := by simpa using hi
  have hj' : j < evs.length := by simpa using hj
  rw [List.getElem_set, List.getElem_set]
  have fresh : ∀ m (hm : m < evs.length), k ≠ m -> e'.ownBlock = none \/ e'.ownBlock ≠ evs[m].ownBlock := fun m hm hkm => by
   rcases hfr with h1 | h1
   ·rw [h1]; exact h.ed k m hk hm hkm
   ·cases e0 : e'.ownBlock with
    | none => exact .inl rfl
    | some b =>
     right
     intro e2
     have := (World.ownsRow.lt (h.er m hm) b e2.symm).2
     have := h1 b e0
     omega
  by_cases g1 : k = i
  ·subst g1
   rw [if_pos rfl, if_neg hij]
   exact fresh j hj' hij
  ·rw [if_neg g1]
   by_cases g2 : k = j
   ·subst g2
    rw [if_pos rfl]
    rcases fresh i hi' g1 with e2 | e2
    ·cases e3 : evs[i].ownBlock with
     | none => exact .inl rfl
     | some b => right; rw [e2]; simp
    ·exact .inr fun e3 => e2 e3.symm
   ·rw [if_neg g2]
    exact h.ed i j hi' hj' hij
end
end Go.Proofs.YtomahddiclkepaaGreatDoor
