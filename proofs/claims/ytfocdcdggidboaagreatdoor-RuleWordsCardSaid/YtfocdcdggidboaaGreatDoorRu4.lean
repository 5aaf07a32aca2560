/- rule.Text of what may not be; rule.Parse: every text. -/
import Derived.Test.YtfocdcdggidboaaGreatDoorRu3
namespace Go.Proofs.YtfocdcdggidboaaGreatDoor
open Go.RowKit Go.Joins
open Classical
set_option linter.unusedVariables false
set_option linter.unusedSimpArgs false

set_option maxRecDepth 100000 in
set_option maxHeartbeats 2000000 in
theorem ruText_no (r : Ru) (w : World) (hc : ruChk r ≠ 0) (h1 : r.nm.size ≤ maxLen) (h2 : r.lt.size ≤ maxLen) :
    Calls Tryz.prog 17 #[ruV r] w fun e w' => e = .returned (.tuple #[.string ⟨#[]⟩, .int .i64 (ruChk r)]) ∧ Below w.heap.size w w' := by
  have HCK : Hid (∀ W : World, Calls Tryz.prog 33 #[ruV r] W fun e w' => e = .returned (.int .i64 (ruChk r)) ∧ Below W.heap.size W w') := by
    show ∀ W : World, _
    exact fun W => ruCheck_any r W h1 h2
  obtain ⟨C, eC⟩ : ∃ C, ruChk r = C := ⟨_, rfl⟩
  rw [eC] at HCK hc ⊢
  have hz : (C == 0) = false := by simpa using hc
  have hz2 : (!C == 0) = true := by rw [hz]; rfl
  clear hc eC h1 h2
  obtain ⟨W0, eW⟩ : ∃ W0, w.alloc (.cells (ruCells r) 28) = W0 := ⟨_, rfl⟩
  have HX : Hid (RuBx W0 w.heap.size r) := by show RuBx _ _ _; rw [← eW]; exact RuBx.box w r
  have HB : Hid (Below w.heap.size w W0) := by show Below _ _ _; rw [← eW]; exact (Below.refl _ _).alloc (Nat.le_refl _) _
  have HEW := Lib.hid eW
  obtain ⟨nm, yf, yt, mo, dk, dw, dn, tm, ck, sv, lt⟩ := r
  obtain ⟨x0, x1, x2, x3, x4, x5, x6, x7, x8, x9, x10⟩ := HX.out.cells
  have hl0 := HX.out.lt
  simp only at x0 x1 x2 x3 x4 x5 x6 x7 x8 x9 x10
  clear eW
  go_enter Tryz.func17, Tryz.ntmps17
  go_wp2_with fail
  rw [HEW.out]
  refine (HCK.out _).mono ?_
  rintro e w1 ⟨rfl, hb1⟩
  have HB1 := Lib.hid (HB.out.trans (hb1.mono HB.out.size))
  clear hb1 HB HX x0 x1 x2 x3 x4 x5 x6 x7 x8 x9 x10 hl0
  go_wp2
  go_ret2
  exact ⟨rfl, HB1.out⟩

set_option maxRecDepth 100000 in
set_option maxHeartbeats 2000000 in
theorem Parse_short (l : List UInt8) (w : World) (hl : l.length < 4294967281) (hm : MaxLen w) (hs : (splitC 32 l).length ≠ 9 ∨ ∃ h : (splitC 32 l).length = 9, (splitC 32 l)[6] = []) :
    Calls Tryz.prog 8 #[.string (txt l)] w fun e w' => e = .returned (.tuple #[ruV ru0, .int .i64 3]) ∧ Below w.heap.size w w' := by
  have HSP := Lib.hid (fun W hmW => splitC_any 32 l W hl hmW)
  have hlen : (splitC 32 l).length ≤ 4294967281 := by
    rw [splitC_length]
    have := List.count_le_length (a := (32 : UInt8)) (l := l)
    omega
  obtain ⟨W0, eW⟩ : ∃ W0, w.alloc (.cells (ruCells ru0) 28) = W0 := ⟨_, rfl⟩
  have HX0 : Hid (RuBx W0 w.heap.size ru0) := by show RuBx _ _ _; rw [← eW]; exact RuBx.box w ru0
  have HB0 : Hid (Below w.heap.size w W0) := by show Below _ _ _; rw [← eW]; exact (Below.refl _ _).alloc (Nat.le_refl _) _
  have hM0 : MaxLen W0 := by
    obtain ⟨m, hm⟩ := hm
    refine ⟨m, ?_⟩
    rw [← eW]
    exact ((Below.refl w.heap.size w).alloc (Nat.le_refl _) _).cell (show (⟨1, 0, none⟩ : Addr).block < w.heap.size from Lib.lt_of_cell hm) |>.trans hm
  have HM0 := Lib.hid hM0
  have HEW := Lib.hid eW
  obtain ⟨n, en⟩ : ∃ n, (splitC 32 l).length = n := ⟨_, rfl⟩
  have hre : Hid (∀ (W10 : World), RuBx W10 w.heap.size ru0 → ∀ tm : Array Value, tm.getD 2 undef = .pointer (some ⟨w.heap.size, 0, none⟩) → (results Tryz.f8 tm).run Tryz.prog W10 = .ok (.tuple #[ruV ru0, tm.getD 3 undef]) W10) := by
    show ∀ (W10 : World), _
    exact fun W10 h tm hp => results_mid rfl tm W10 w.heap.size 0 (ruCells ru0).toList _ hp h.range Tryz.underlying28 rfl info_rule
  clear eW hM0 hm hl
  go_enter Tryz.func8, Tryz.ntmps8
  go_wp2_with fail
  rw [HEW.out]
  refine (HSP.out W0 HM0.out).mono ?_
  rintro e w1 ⟨A, rfl, hA0, hA1, hcl, hb1⟩
  have HX1 := Lib.hid (HX0.out.below (hb1.mono (Nat.le_refl _)))
  have HB1 := Lib.hid (HB0.out.trans (hb1.mono HB0.out.size))
  rw [en] at hlen ⊢
  rcases hs with hs | ⟨hs, h6⟩
  case' inl =>
    rw [en] at hs
    have hz : ((n : Int) == 9) = false := by simp; omega
    have hz2 : (!(n : Int) == 9) = true := by rw [hz]; rfl
    clear hb1 HX0 HB0 HSP HM0 hA0 hcl
    go_upto_region 3 with fail
  case' inr =>
    have c6 : w1.cell? ⟨A, 6, none⟩ = some (.string (txt [])) := by
      have h := hcl 6 (by omega)
      rw [h, h6]
    obtain rfl : n = 9 := en.symm.trans hs
    clear en
    have b6 : (txt []).toList.isEmpty = true := by rw [bytes_toList_txt]; rfl
    clear hb1 HX0 HB0 HSP HM0 hA0 hcl h6
    go_upto_region 3 with fail
  all_goals
    have hth := HX1.out.there
    have hst := Lib.hid (HX1.out.stored ru0)
    have hbl := Lib.hid (below_setCells w.heap.size (Nat.le_refl _) (ruCells ru0).toList 0 w1 HB1.out)
    have HTH := Lib.hid hth
    clear hth
    go_step
    go_step
    go_step
    go_step
    refine wpList_store_mid rfl 28 _ _ rfl w.heap.size 0 (ruCells ru0) rfl rfl HTH.out info_rule (ru_one ru0) ?_
    have hst2 : Hid (RuBx (w1.setCells w.heap.size 0 (ruCells ru0).toList) w.heap.size ru0) := hst
    generalize w1.setCells w.heap.size 0 (ruCells ru0).toList = W10 at hst2 hbl ⊢
    clear hst
    repeat go_step
    refine bodyPost_ret (hre.out _ hst2.out _ rfl) rfl ⟨rfl, hbl.out⟩

theorem list9 {α : Type} : ∀ (l : List α), l.length = 9 → ∃ a0 a1 a2 a3 a4 a5 a6 a7 a8, l = [a0, a1, a2, a3, a4, a5, a6, a7, a8]
  | [a0, a1, a2, a3, a4, a5, a6, a7, a8], _ => ⟨a0, a1, a2, a3, a4, a5, a6, a7, a8, rfl⟩
  | [], h | [_], h | [_, _], h | [_, _, _], h | [_, _, _, _], h | [_, _, _, _, _], h | [_, _, _, _, _, _], h | [_, _, _, _, _, _, _], h | [_, _, _, _, _, _, _, _], h => by simp at h
  | _ :: _ :: _ :: _ :: _ :: _ :: _ :: _ :: _ :: _ :: _, h => by simp at h

theorem day_res (l : List UInt8) : ∃ dk dw dn ed : Int, (dayB dk dw dn = true ∧ dayT dk dw dn = l ∧ ed = 0) ∨ ((∀ k wd n, dayB k wd n = true → dayT k wd n ≠ l) ∧ dk = 0 ∧ dw = 0 ∧ dn = 0 ∧ ed = 3) := by
  by_cases h : ∃ k wd n, dayB k wd n = true ∧ dayT k wd n = l
  · obtain ⟨k, wd, n, h1, h2⟩ := h
    exact ⟨k, wd, n, 0, Or.inl ⟨h1, h2, rfl⟩⟩
  · exact ⟨0, 0, 0, 3, Or.inr ⟨fun k wd n h1 h2 => h ⟨k, wd, n, h1, h2⟩, rfl, rfl, rfl, rfl⟩⟩
theorem span_res (l : List UInt8) : ∃ n e : Int, (inS n ∧ spanT n = l ∧ e = 0) ∨ ((∀ n, inS n → spanT n ≠ l) ∧ n = 0 ∧ e = 3) := by
  by_cases h : ∃ n, inS n ∧ spanT n = l
  · obtain ⟨n, h1, h2⟩ := h
    exact ⟨n, 0, Or.inl ⟨h1, h2, rfl⟩⟩
  · exact ⟨0, 3, Or.inr ⟨fun n h1 h2 => h ⟨n, h1, h2⟩, rfl, rfl⟩⟩

theorem itoa_inj' {a b : Int} (ha : 0 ≤ a) (ha2 : a < 1844674407370955162) (hb : 0 ≤ b) (hb2 : b < 1844674407370955162) (e : Lib.itoa a = Lib.itoa b) : a = b := by
  have := congrArg atoiV e
  rwa [atoiV_itoa ha ha2, atoiV_itoa hb hb2] at this
theorem dayT_1 (wd n : Int) : dayT 1 wd n = Lib.itoa n := rfl
theorem dayT_2 (wd n : Int) : dayT 2 wd n = [108, 97, 115, 116] ++ wordT wd := rfl
theorem dayT_3 (wd n : Int) : dayT 3 wd n = wordT wd ++ ([62, 61] ++ Lib.itoa n) := rfl
theorem dayT_4 (wd n : Int) : dayT 4 wd n = wordT wd ++ ([60, 61] ++ Lib.itoa n) := rfl
theorem word_has {wd : Int} (h0 : 0 ≤ wd) (h6 : wd ≤ 6) : ∃ c, c ∈ wordT wd ∧ isLt c := by
  have hl := wordT_length h0 h6
  cases e : wordT wd with
  | nil => rw [e] at hl; simp at hl
  | cons c r => exact ⟨c, by simp, word_letters h0 h6 c (by rw [e]; simp)⟩
theorem word_inj {a b : Int} (a0 : 0 ≤ a) (a6 : a ≤ 6) (b0 : 0 ≤ b) (b6 : b ≤ 6) (e : wordT a = wordT b) : a = b := by
  have := congrArg wdayV e
  rwa [word_wday a0 a6, word_wday b0 b6] at this
theorem dg_not_lt {l : List UInt8} (hd : ∀ c ∈ l, isDg c) (hl : ∃ c, c ∈ l ∧ isLt c) : False := by
  obtain ⟨c, h1, h2⟩ := hl
  have := hd c h1
  unfold isDg at this
  unfold isLt at h2
  omega
theorem has_app {a b : List UInt8} (h : ∃ c, c ∈ a ∧ isLt c) : ∃ c, c ∈ a ++ b ∧ isLt c := by
  obtain ⟨c, h1, h2⟩ := h
  exact ⟨c, List.mem_append_left _ h1, h2⟩
theorem third {wd : Int} (h0 : 0 ≤ wd) (h6 : wd ≤ 6) (c : UInt8) (r : List UInt8) : (wordT wd ++ c :: r)[3]? = some c := by
  rw [List.getElem?_append_right (by rw [wordT_length h0 h6]; omega), wordT_length h0 h6]
  rfl
theorem dayT_inj {k wd n k' wd' n' : Int} (h : dayB k wd n = true) (h' : dayB k' wd' n' = true) (e : dayT k wd n = dayT k' wd' n') : k = k' ∧ wd = wd' ∧ n = n' := by
  simp only [dayB, decide_eq_true_eq] at h h'
  have last : ∃ c, c ∈ ([108, 97, 115, 116] : List UInt8) ∧ isLt c := ⟨108, by simp, by unfold isLt; decide⟩
  have two : ∀ (a b : Int) (c : UInt8) (x y : Int), 0 ≤ a → a ≤ 6 → 0 ≤ b → b ≤ 6 → 1 ≤ x → x ≤ 31 → 1 ≤ y → y ≤ 31 → wordT a ++ ([c, 61] ++ Lib.itoa x) = wordT b ++ ([c, 61] ++ Lib.itoa y) → a = b ∧ x = y := by
    intro a b c x y a0 a6 b0 b6 x1 x2 y1 y2 e
    have := List.append_inj e (by rw [wordT_length a0 a6, wordT_length b0 b6])
    refine ⟨word_inj a0 a6 b0 b6 this.1, ?_⟩
    have e2 := (List.append_inj this.2 rfl).2
    exact itoa_inj' (by omega) (by omega) (by omega) (by omega) e2
  have t116 : ∀ wd : Int, ([108, 97, 115, 116] ++ wordT wd)[3]? = some 116 := fun _ => rfl
  rcases h with ⟨rfl, rfl, h1, h2⟩ | ⟨rfl, h1, h2, rfl⟩ | ⟨rfl | rfl, h1, h2, h3, h4⟩ <;> rcases h' with ⟨rfl, rfl, g1, g2⟩ | ⟨rfl, g1, g2, rfl⟩ | ⟨rfl | rfl, g1, g2, g3, g4⟩
  · exact ⟨rfl, rfl, itoa_inj' (by omega) (by omega) (by omega) (by omega) e⟩
  · exact (dg_not_lt (l := dayT 1 0 n) (itoa_dg (by omega)) (by rw [e]; exact has_app last)).elim
  · exact (dg_not_lt (l := dayT 1 0 n) (itoa_dg (by omega)) (by rw [e]; exact has_app (word_has g1 g2))).elim
  · exact (dg_not_lt (l := dayT 1 0 n) (itoa_dg (by omega)) (by rw [e]; exact has_app (word_has g1 g2))).elim
  · exact (dg_not_lt (l := dayT 1 0 n') (itoa_dg (by omega)) (by rw [← e]; exact has_app last)).elim
  · exact ⟨rfl, word_inj h1 h2 g1 g2 (List.append_cancel_left e), rfl⟩
  · have := congrArg (fun l : List UInt8 => l[3]?) e
    simp only [dayT_2, dayT_3, t116] at this
    rw [show ([62, 61] : List UInt8) ++ Lib.itoa n' = 62 :: (61 :: Lib.itoa n') from rfl, third g1 g2] at this
    exact absurd this (by decide)
  · have := congrArg (fun l : List UInt8 => l[3]?) e
    simp only [dayT_2, dayT_4, t116] at this
    rw [show ([60, 61] : List UInt8) ++ Lib.itoa n' = 60 :: (61 :: Lib.itoa n') from rfl, third g1 g2] at this
    exact absurd this (by decide)
  · exact (dg_not_lt (l := dayT 1 0 n') (itoa_dg (by omega)) (by rw [← e]; exact has_app (word_has h1 h2))).elim
  · have := congrArg (fun l : List UInt8 => l[3]?) e
    simp only [dayT_2, dayT_3, t116] at this
    rw [show ([62, 61] : List UInt8) ++ Lib.itoa n = 62 :: (61 :: Lib.itoa n) from rfl, third h1 h2] at this
    exact absurd this (by decide)
  · have := two wd wd' 62 n n' h1 h2 g1 g2 h3 h4 g3 g4 e
    exact ⟨rfl, this.1, this.2⟩
  · have := congrArg (fun l : List UInt8 => l[3]?) e
    simp only [dayT_3, dayT_4] at this
    rw [show ([62, 61] : List UInt8) ++ Lib.itoa n = 62 :: (61 :: Lib.itoa n) from rfl, show ([60, 61] : List UInt8) ++ Lib.itoa n' = 60 :: (61 :: Lib.itoa n') from rfl, third h1 h2, third g1 g2] at this
    exact absurd this (by decide)
  · exact (dg_not_lt (l := dayT 1 0 n') (itoa_dg (by omega)) (by rw [← e]; exact has_app (word_has h1 h2))).elim
  · have := congrArg (fun l : List UInt8 => l[3]?) e
    simp only [dayT_2, dayT_4, t116] at this
    rw [show ([60, 61] : List UInt8) ++ Lib.itoa n = 60 :: (61 :: Lib.itoa n) from rfl, third h1 h2] at this
    exact absurd this (by decide)
  · have := congrArg (fun l : List UInt8 => l[3]?) e
    simp only [dayT_3, dayT_4] at this
    rw [show ([60, 61] : List UInt8) ++ Lib.itoa n = 60 :: (61 :: Lib.itoa n) from rfl, show ([62, 61] : List UInt8) ++ Lib.itoa n' = 62 :: (61 :: Lib.itoa n') from rfl, third h1 h2, third g1 g2] at this
    exact absurd this (by decide)
  · have := two wd wd' 60 n n' h1 h2 g1 g2 h3 h4 g3 g4 e
    exact ⟨rfl, this.1, this.2⟩

/-- nine words -/
theorem Parse_nine (l a0 a1 a2 a3 a4 a5 a6 a7 a8 : List UInt8) (hw : splitC 32 l = [a0, a1, a2, a3, a4, a5, a6, a7, a8]) (h6 : a6 ≠ []) (w : World) (hl : l.length < 4294967281) (ht : Tab10 w) (ha : AscTab w) (hn : NumErrs w) (hm : MaxLen w) :
    ∃ (r : Ru) (R : Ru) (RE : Int), ((ruChk r = 0 ∧ ruText r = l ∧ R = r ∧ RE = 0) ∨ (¬ (ruChk r = 0 ∧ ruText r = l) ∧ R = ru0 ∧ RE = 3)) ∧
    (∀ q, OkRu q → ruText q = l → r = q) ∧
    Calls Tryz.prog 8 #[.string (txt l)] w fun e w' => e = .returned (.tuple #[ruV R, .int .i64 RE]) ∧ Below w.heap.size w w' := by
  have hsm : ∀ x ∈ [a0, a1, a2, a3, a4, a5, a6, a7, a8], x.length ≤ l.length := by rw [← hw]; exact splitC_small 32 l
  obtain ⟨dk, dw, dn, ed, hd⟩ := day_res a5
  obtain ⟨tm, ea, hta⟩ := span_res (tmOf a6)
  obtain ⟨sv, es, hts⟩ := span_res a7
  have e7 := hsm a7 (by simp)
  have e5 := hsm a5 (by simp)
  have e6 := hsm a6 (by simp)
  have e1 := hsm a1 (by simp)
  have e8 := hsm a8 (by simp)
  have etm : (tmOf a6).length ≤ a6.length := by
    unfold tmOf
    split
    · exact Nat.le_refl _
    · simp
  obtain ⟨r, er⟩ : ∃ r : Ru, r = ⟨txt a1, atoiV a2, atoiV a3, atoiV a4, dk, dw, dn, tm, ckOf a6, sv, txt a8⟩ := ⟨_, rfl⟩
  have hD : ∀ W, Below w.heap.size w W → Calls Tryz.prog 14 #[.string (txt a5)] W fun e w' => e = .returned (.tuple #[dayV dk dw dn, .int .i64 ed]) ∧ Below W.heap.size W w' := by
    intro W hb
    rcases hd with ⟨h1, rfl, rfl⟩ | ⟨h1, rfl, rfl, rfl, rfl⟩
    · exact Read_ok dk dw dn W h1 (ht.below hb) (hn.below hb) (hm.below hb)
    · exact Read_no a5 W (by omega) h1 (ht.below hb) (hn.below hb) (hm.below hb)
  have hsp : ∀ (x : List UInt8) (n e : Int), x.length ≤ l.length → ((inS n ∧ spanT n = x ∧ e = 0) ∨ ((∀ n, inS n → spanT n ≠ x) ∧ n = 0 ∧ e = 3)) → ∀ W, Below w.heap.size w W →
      Calls Tryz.prog 16 #[.string (txt x)] W fun e' w' => e' = .returned (.tuple #[.int .i64 n, .int .i64 e]) ∧ Below W.heap.size W w' := by
    intro x n e hx h W hb
    rcases h with ⟨h1, rfl, rfl⟩ | ⟨h1, rfl, rfl⟩
    · exact ReadSpan_ok n W h1 (ht.below hb) (hn.below hb) (hm.below hb)
    · exact ReadSpan_no x W (by omega) h1 (ht.below hb) (hn.below hb) (hm.below hb)
  have hT : ∃ (t : ByteArray) (te : Int), ((ruChk r = 0 ∧ t = txt (ruText r) ∧ te = 0) ∨ (ruChk r ≠ 0 ∧ te ≠ 0)) ∧ ∀ W, Below w.heap.size w W → Calls Tryz.prog 17 #[ruV r] W fun e w' => e = .returned (.tuple #[.string t, .int .i64 te]) ∧ Below W.heap.size W w' := by
    by_cases hc : ruChk r = 0
    · exact ⟨_, _, Or.inl ⟨hc, rfl, rfl⟩, fun W hb => ruText_ok r W (ru_ok hc) (ht.below hb) (ha.below hb)⟩
    · exact ⟨_, _, Or.inr ⟨hc, hc⟩, fun W hb => ruText_no r W hc (by rw [er]; simp only [txt_size]; unfold maxLen; omega) (by rw [er]; simp only [txt_size]; unfold maxLen; omega)⟩
  obtain ⟨t, te, hte, hTX⟩ := hT
  have huni : ∀ q, OkRu q → ruText q = l → r = q := by
    intro q oq eq
    have e := ru_split oq
    rw [eq, hw] at e
    unfold ruW at e
    injection e with g0 e; injection e with g1 e; injection e with g2 e; injection e with g3 e; injection e with g4 e; injection e with g5 e; injection e with g6 e; injection e with g7 e; injection e with g8 e
    obtain ⟨k1, k2, k3⟩ := ck_of (n := q.tm) (b := q.ck) ⟨oq.a1, oq.a2⟩ oq.c1 oq.c2
    have f1 := oq.f1; have f2 := oq.f2; have t1 := oq.t1; have t2 := oq.t2; have m1 := oq.m1; have m2 := oq.m2; have s1 := oq.s1; have s2 := oq.s2
    have hday : dk = q.dk ∧ dw = q.dw ∧ dn = q.dn := by
      rcases hd with ⟨h1, h2, _⟩ | ⟨h1, _⟩
      · exact dayT_inj h1 oq.d (by rw [h2, g5])
      · exact absurd g5.symm (h1 _ _ _ oq.d)
    have htm : tm = q.tm := by
      rw [g6, k2] at hta
      rcases hta with ⟨h1, h2, _⟩ | ⟨h1, _⟩
      · have := congrArg rawS h2
        rwa [rawS_span h1, rawS_span ⟨oq.a1, oq.a2⟩] at this
      · exact absurd rfl (h1 _ ⟨oq.a1, oq.a2⟩)
    have hsv : sv = q.sv := by
      rw [g7] at hts
      rcases hts with ⟨h1, h2, _⟩ | ⟨h1, _⟩
      · have := congrArg rawS h2
        rwa [rawS_span h1, rawS_span ⟨by omega, by omega⟩] at this
      · exact absurd rfl (h1 _ ⟨by omega, by omega⟩)
    rw [er, g1, g2, g3, g4, g6, g8, k1, hday.1, hday.2.1, hday.2.2, htm, hsv, atoiV_itoa (by omega) (by omega), atoiV_itoa (by omega) (by omega), atoiV_itoa (by omega) (by omega)]
    rfl
  have hwl : ∀ x ∈ [a2, a3, a4, a6], x.length ≤ 281474976710656 := by
    intro x hx
    have := hsm x (by simp only [List.mem_cons, List.not_mem_nil, or_false] at hx ⊢; rcases hx with rfl | rfl | rfl | rfl <;> simp)
    omega
  by_cases hc : ruChk r = 0 ∧ ruText r = l
  · refine ⟨r, r, 0, Or.inl ⟨hc.1, hc.2, rfl, rfl⟩, huni, ?_⟩
    refine Parse_walk l a0 a1 a2 a3 a4 a5 a6 a7 a8 hw h6 w hl hn hm hwl dk dw dn ed tm ea sv es te t hD (hsp _ _ _ (by omega) hta) (hsp _ _ _ e7 hts) (by rw [er] at hTX; exact hTX) r 0 (Or.inl ?_)
    rcases hte with ⟨h1, h2, h3⟩ | ⟨h1, _⟩
    · exact ⟨h3, by rw [h2, hc.2], er, rfl⟩
    · exact absurd hc.1 h1
  · refine ⟨r, ru0, 3, Or.inr ⟨hc, rfl, rfl⟩, huni, ?_⟩
    refine Parse_walk l a0 a1 a2 a3 a4 a5 a6 a7 a8 hw h6 w hl hn hm hwl dk dw dn ed tm ea sv es te t hD (hsp _ _ _ (by omega) hta) (hsp _ _ _ e7 hts) (by rw [er] at hTX; exact hTX) ru0 3 (Or.inr ⟨?_, rfl, rfl⟩)
    rcases hte with ⟨h1, h2, h3⟩ | ⟨h1, h2⟩
    · right
      intro e
      rw [h2] at e
      exact hc ⟨h1, txt_inj e⟩
    · exact Or.inl h2

/-- rule.Parse of a rule's text -/
theorem Parse_ok (r : Ru) (o : OkRu r) (w : World) (hl : (ruText r).length < 4294967281) (ht : Tab10 w) (ha : AscTab w) (hn : NumErrs w) (hm : MaxLen w) :
    Calls Tryz.prog 8 #[.string (txt (ruText r))] w fun e w' => e = .returned (.tuple #[ruV r, .int .i64 0]) ∧ Below w.heap.size w w' := by
  obtain ⟨q, R, RE, h, hu, hc⟩ := Parse_nine (ruText r) _ _ _ _ _ _ _ _ _ (ru_split o) (ck_of ⟨o.a1, o.a2⟩ o.c1 o.c2).2.2 w hl ht ha hn hm
  have e := hu r o rfl
  subst e
  rcases h with ⟨h1, h2, rfl, rfl⟩ | ⟨h1, _⟩
  · exact hc
  · exact absurd ⟨ok_ru o, rfl⟩ h1

/-- rule.Parse of any other text -/
theorem Parse_no (l : List UInt8) (hno : ∀ r, OkRu r → ruText r ≠ l) (w : World) (hl : l.length < 4294967281) (ht : Tab10 w) (ha : AscTab w) (hn : NumErrs w) (hm : MaxLen w) :
    Calls Tryz.prog 8 #[.string (txt l)] w fun e w' => e = .returned (.tuple #[ruV ru0, .int .i64 3]) ∧ Below w.heap.size w w' := by
  by_cases h9 : (splitC 32 l).length = 9
  · obtain ⟨a0, a1, a2, a3, a4, a5, a6, a7, a8, hw⟩ := list9 _ h9
    by_cases h6 : a6 = []
    · exact Parse_short l w hl hm (Or.inr ⟨h9, by simp [hw, h6]⟩)
    · obtain ⟨q, R, RE, h, _, hc⟩ := Parse_nine l _ _ _ _ _ _ _ _ _ hw h6 w hl ht ha hn hm
      rcases h with ⟨h1, h2, _⟩ | ⟨_, rfl, rfl⟩
      · exact absurd h2 (hno q (ru_ok h1))
      · exact hc
  · exact Parse_short l w hl hm (Or.inl h9)
end Go.Proofs.YtfocdcdggidboaaGreatDoor
