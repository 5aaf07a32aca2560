/- pack.Parse of any bytes; PackCut: its walk. -/
import Derived.Test.YtddkedghpapepaaParse1
import Derived.Test.YtddkedghpapepaaInts
namespace Go.Proofs.Ytddkedghpapepaa
open Go.RowKit Go.Joins
set_option linter.unusedVariables false
set_option linter.unusedSimpArgs false

theorem Parse_any (A : Option Addr) (c : Nat) (l : List Int) (w : World) (hA : BytesBelow w w.heap.size A l.length l) (hc : l.length ≤ c) (hby : ∀ x ∈ l, 0 ≤ x ∧ x < 256) :
    Calls Try.prog 24 #[.slice A l.length c] w (ParsePost l w) := by
  by_cases h1 : 20000 < l.length
  · have e : prsE l = 2 := by unfold prsE; rw [if_pos h1]
    refine (Parse_large A l.length c w h1).mono ?_
    rintro e' w' ⟨rfl, hb⟩
    exact ⟨zeroTV, by rw [e], by rw [e]; exact zero_at _, hb⟩
  · by_cases h2 : l.length < 8
    · have e : prsE l = 4 := by unfold prsE; rw [if_neg h1, if_pos h2]
      refine (Parse_short A l.length c w h2).mono ?_
      rintro e' w' ⟨rfl, hb⟩
      exact ⟨zeroTV, by rw [e], by rw [e]; exact zero_at _, hb⟩
    · exact Parse_go A c l w hA hc hby (by omega) (by omega)

theorem BytesBelow.take {w : World} {B n k : Nat} {A : Option Addr} {l : List Int} (h : BytesBelow w B A n l) (hk : k ≤ n) : BytesBelow w B A k (l.take k) := fun h0 => by
  obtain ⟨b, o, e, hb, hc⟩ := h (by omega)
  refine ⟨b, o, e, hb, fun i hi => ?_⟩
  rw [hc i (by omega)]
  simp [List.getD_eq_getElem?_getD, List.getElem?_take, hi]
theorem BRow.below {w : World} {B n cap : Nat} {p : Option Addr} {l : List Int} (h : BRow w B (.slice p n cap) l) : n = l.length ∧ n ≤ cap ∧ BytesBelow w w.heap.size p n l := by
  obtain ⟨p', cap', e, hp⟩ := h.form
  injection e with e1 e2 e3
  subst e1; subst e2; subst e3
  refine ⟨rfl, ?_, fun h0 => ?_⟩
  · rcases h.2 with ⟨e, h0⟩ | ⟨g, cap', cur, e, _, _, hn, _⟩
    · rw [h0]; exact Nat.zero_le _
    · injection e with _ _ e3; omega
  · obtain ⟨g, rfl, hg, _, hc⟩ := hp (by intro e; rw [e] at h0; simp at h0)
    refine ⟨g, 0, rfl, hg, fun i hi => ?_⟩
    rw [Nat.zero_add, hc i hi]
    simp [List.getD_eq_getElem?_getD, hi]

theorem BytesBelow.mono {w w' : World} {n : Nat} {A : Option Addr} {l : List Int} (h : BytesBelow w w.heap.size A n l) (hb : Below w.heap.size w w') : BytesBelow w' w'.heap.size A n l := fun h0 => by
  obtain ⟨b, o, e, hb1, hc⟩ := h h0
  exact ⟨b, o, e, Nat.lt_of_lt_of_le hb1 hb.size, fun i hi => (hb.cell (p := ⟨b, _, none⟩) hb1).trans (hc i hi)⟩
theorem TabAt.forms {w : World} {v : Value} {t : Tab} (h : TabAt w v t) : ∃ p1 c1 p2 c2, v = .agg #[.slice p1 t.types.length c1, .int .i64 t.first, .slice p2 t.chs.length c2] := by
  obtain ⟨sv, cv, rfl, h1, h2⟩ := h.val
  obtain ⟨p1, c1, rfl, -⟩ := h1.shape
  obtain ⟨p2, c2, rfl, -⟩ := h2.shape
  exact ⟨_, _, _, _, rfl⟩
theorem nextcap_tight {need old : Nat} (h : old < need) : Builtin.nextslicecap need old ≤ need + need / 4 + 1000 := by
  unfold Builtin.nextslicecap
  split
  · omega
  · split
    · omega
    · rw [growBy_four]
      repeat' split
      all_goals omega

/-- append onto a row of bytes, near the reach too -/
theorem run_append_bytes (w : World) (B : Nat) (v : Value) (l : List Int) (hown : BRow w B v l) (a : Addr) (m c : Nat) (news : List Int) (hl : news.length = m) (hnews : ∀ j u, (bts news)[j]? = some u → w.cell? (a.add j) = some u)
    (h1 : l.length ≤ 20000) (h2 : m ≤ 140737488351232) (hB : B ≤ w.heap.size) (ty : TypeId) :
    ∃ v' w', (Builtin.append_ #[27, 27] ty #[v, .slice (some a) m c]).run Try.prog w = .ok v' w' ∧ BRow w' B v' (l ++ news) ∧ w.grownBy w' v.ownBlock := by
  obtain ⟨i0, hi, hz0, hz1, hz2⟩ := info_parts infoByte
  have hone : ∀ u ∈ bts news, u.oneCell' = true := by
    intro u hu
    simp only [bts, List.mem_map] at hu
    obtain ⟨x, _, rfl⟩ := hu
    rfl
  have e : (l ++ news).length = l.length + m := by rw [List.length_append, hl]
  have done : ∀ {v' : Value} {w' : World}, w'.ownsRow B 5 1 v' (l.length + m) (bts l ++ bts news) → BRow w' B v' (l ++ news) := fun h => by
    show World.ownsRow _ _ _ _ _ _ _
    rw [e, bts_append]; exact h
  by_cases hs : l.length + m ≤ 140737488355328
  · obtain ⟨v', w', hr, k1, k2, _⟩ := run_append_own (P := Try.prog) w B 27 ty 5 i0 (.int .u8 0) 1 1 undBytes hi hz0 hz1 hz2 rfl (by decide) v l.length (bts l) hown a m c (bts news) (by rw [bts_length]; omega) hnews hone (by simp only [maxLen]; omega) (by omega) hB
    exact ⟨v', w', hr, done k1, k2⟩
  · obtain ⟨hx, hown2⟩ := hown
    rcases hown2 with ⟨rfl, h0⟩ | ⟨g, cap, cur, rfl, hbg, hg, hnc, hcm, hcs, htake⟩
    · omega
    · by_cases hroom : l.length + m ≤ cap
      · have hr := run_append_room (P := Try.prog) w 27 ty 5 i0 undBytes hi g l.length cap cur hg a m c (bts news) (by rw [bts_length, hz1]; omega) hnews hone hroom (by rw [bts_length, hz1]; omega)
        refine ⟨_, _, hr, done ⟨by simp [bts_length]; omega, .inr ⟨g, cap, _, rfl, hbg, setRow_heap w g cur _ _ _ hg, hroom, hcm, ?_, ?_⟩⟩, ⟨rfl, rfl, rfl, by simp, fun k _ hk => setRow_other w g k _ (fun e => hk (by simp [Value.ownBlock, e]))⟩⟩
        · simp only [List.size_toArray, List.length_append, List.length_take, List.length_drop, Array.length_toList, bts_length, hz1]
          omega
        · rw [hz1, htake]
          have hle : (l.length + m) * 1 = (bts l ++ bts news).length := by rw [List.length_append, bts_length, bts_length, hl]; omega
          rw [hle]
          exact List.take_left
      · have holds : ∀ j u, (bts l)[j]? = some u → w.cell? ((⟨g, 0, none⟩ : Addr).add j) = some u := World.ownsRow.cells (v := .slice (some ⟨g, 0, none⟩) l.length cap) ⟨hx, .inr ⟨g, cap, cur, rfl, hbg, hg, hnc, hcm, hcs, htake⟩⟩ (g := g) rfl
        have hfit : Builtin.nextslicecap (l.length + m) cap * i0.bytes ≤ 281474976710656 := by
          rw [hz2]
          have := nextcap_tight (need := l.length + m) (old := cap) (by omega)
          omega
        have hr := run_append_grow (P := Try.prog) w 27 ty 5 i0 (.int .u8 0) undBytes hi hz0 ⟨g, 0, none⟩ l.length cap (bts l) (by rw [bts_length, hz1]; omega) holds a m c (bts news) (by rw [bts_length, hz1]; omega) hnews (by omega) (by omega) hfit
        have hge := grownCap_ge w (l.length + m) cap 5
        have hcm' : grownCap w (l.length + m) cap 5 ≤ maxLen := grownCap_le_maxLen w (l.length + m) cap 5 (by simp only [maxLen]; omega)
        refine ⟨_, _, hr, done ⟨by simp [bts_length]; omega, .inr ⟨w.heap.size, _, _, rfl, hB, heap_alloc_new w.drew _, hge, hcm', ?_, ?_⟩⟩, ⟨rfl, rfl, rfl, by simp, fun k hk _ => Below.heap_alloc w.drew _ k hk⟩⟩
        · simp only [Array.size_append, List.size_toArray, size_zeroCells, bts_length, hl]
          show l.length + m + (_ - _) * 1 = _
          omega
        · simp only [Array.toList_append, List.append_assoc]
          have hle : (l.length + m) * 1 = (bts l ++ bts news).length := by rw [List.length_append, bts_length, bts_length, hl]; omega
          rw [← List.append_assoc, hle]
          exact List.take_left

/-- append onto a row of bytes, for the walk: the source nil or not -/
theorem wpList_append_bytes (w : World) {ops : Array Oper} {rest : List Oper} {o : Oper} {a : Act} {Q : Exit → Act → World → Prop} (hgd : o.guard = none) (s x : Operand)
    (ho : o.op = .call { callee := .builtin .append, args := #[s, x], argTypes := #[27, 27] })
    (B : Nat) (v : Value) (l : List Int) (hs : a.eval s = v) (hown : BRow w B v l) (A : Option Addr) (m c : Nat) (news : List Int) (hx : a.eval x = .slice A m c) (hm : news.length = m) (hnews : BytesBelow w w.heap.size A m news)
    (h1 : l.length ≤ 20000) (h2 : m ≤ 140737488351232) (hB : B ≤ w.heap.size)
    (h : ∀ v' w', BRow w' B v' (l ++ news) → w.grownBy w' v.ownBlock → wpList Try.prog ops Q rest (a.put o.dst v') w') : wpList Try.prog ops Q (o :: rest) a w := by
  subst hm
  have key : ∃ v' w', (Builtin.append_ #[27, 27] o.type #[v, .slice A news.length c]).run Try.prog w = .ok v' w' ∧ BRow w' B v' (l ++ news) ∧ w.grownBy w' v.ownBlock := by
    cases A with
    | some ad =>
      refine run_append_bytes w B v l hown ad news.length c news rfl (fun j u hu => ?_) h1 h2 hB o.type
      have hj : j < news.length := by
        rcases Nat.lt_or_ge j news.length with hj | hj
        · exact hj
        · rw [List.getElem?_eq_none (by simpa [bts] using hj)] at hu; cases hu
      obtain ⟨b, off, e, hb, hc⟩ := hnews (by omega)
      injection e with e
      subst e
      have := hc j hj
      have e2 : (⟨b, off, none⟩ : Addr).add j = ⟨b, off + j, none⟩ := by unfold Addr.add; split <;> simp_all
      rw [e2, this]
      simp only [bts, List.getElem?_map, List.getElem?_eq_getElem hj, Option.map_some] at hu
      rw [List.getD_eq_getElem?_getD, List.getElem?_eq_getElem hj]
      exact hu
    | none =>
      have hn : news = [] := by
        cases news with
        | nil => rfl
        | cons y r =>
          obtain ⟨b, off, e, _⟩ := hnews (by simp)
          cases e
      subst hn
      obtain ⟨i0, hi, hz0, hz1, hz2⟩ := info_parts infoByte
      refine ⟨v, w, ?_, by rw [List.append_nil]; exact hown, ⟨rfl, rfl, rfl, Nat.le_refl _, fun _ _ _ => rfl⟩⟩
      rcases hown.2 with ⟨rfl, h0⟩ | ⟨g, cap, cur, rfl, _, _, hnc, _⟩
      · simp [Builtin.append_, run_underlying undBytes, sizeOf, typeInfo, hi, Builtin.lenOf, Builtin.firstCells]
      · simp [Builtin.append_, run_underlying undBytes, sizeOf, typeInfo, hi, Builtin.lenOf, Builtin.firstCells, hnc, storeCells]
  obtain ⟨v', w', hr, k1, k2⟩ := key
  refine wpList_plain hgd fun K hK => ?_
  unfold Oper.wp execOp
  simp only [ho, resolve, invoke, builtin, Sem.run_bind, Sem.run_pure, Result.andThen_ok, List.map_toArray, List.map_cons, List.map_nil, hs, hx, hr]
  exact hK _ _ (h v' w' k1 k2)

set_option maxRecDepth 100000 in
set_option maxHeartbeats 1000000 in
theorem PackCut_walk (t : Tab) (v : Value) (at_ : Int) (A : Option Addr) (c : Nat) (l : List Int) (w : World) (hv : TabAt w v t) (hA : BytesBelow w w.heap.size A l.length l) (hc : l.length ≤ c) (hby : ∀ x ∈ l, 0 ≤ x ∧ x < 256) (hsz : l.length ≤ 140737488351232) :
    Calls Try.prog 10 #[v, .int .i64 at_, .slice A l.length c] w fun e w' => e = .returned (.bool true) ∧ Below w.heap.size w w' := by
  obtain ⟨sv, cv, rfl⟩ := hv.parts
  have hB : Below w.heap.size w (w.alloc (.cells #[sv, .int .i64 t.first, cv] 25)) := (Below.refl _ _).alloc (Nat.le_refl _) _
  have HV := Lib.hid hv
  have HB := Lib.hid hB
  have HA := Lib.hid hA
  have HBY := Lib.hid hby
  clear hv hB hA hby
  go_enter Try.func10, Try.ntmps10
  go_wp2_with fail
  refine (packed_any _).mono ?_
  rintro e w1 ⟨rfl, hb1⟩
  rw [World.size_alloc] at hb1
  have c0 := (hb1.cell (p := ⟨w.heap.size, 0, none⟩) (by show w.heap.size < _; omega))
  have c1 := (hb1.cell (p := ⟨w.heap.size, 1, none⟩) (by show w.heap.size < _; omega))
  have c2 := (hb1.cell (p := ⟨w.heap.size, 2, none⟩) (by show w.heap.size < _; omega))
  simp [go_sem] at c0 c1 c2
  have HB1 := Lib.hid (HB.out.trans (hb1.mono (by omega)))
  clear hb1
  go_wp2_with fail
  by_cases hk : chk t = 0
  · refine (Pack_ok t _ _ (HV.out.below HB1.out) hk).mono ?_
    rintro e w2 ⟨u, rfl, hr, hb2⟩
    obtain ⟨p, cap, rfl, -⟩ := hr.form
    obtain ⟨-, hcap, hbb⟩ := hr.below
    have hel := enc_length t
    have hes := enc_small t (chk_ok t hk)
    obtain ⟨NL, hNL⟩ : ∃ NL : Nat, (enc t).length = NL := ⟨_, rfl⟩
    have hN8 : 8 ≤ NL := by omega
    have HBB := Lib.hid hbb
    have HRR := Lib.hid hr
    rw [hNL] at HBB hes hcap HRR ⊢
    have HNL := Lib.hid hNL
    have HB2 := Lib.hid (HB1.out.trans (hb2.mono HB1.out.size))
    have HK := Lib.hid hk
    clear hbb hr hel hNL hb2 c0 c1 c2 hk
    go_wp2_with fail
    refine (Rest_any _ _ _ (by omega) (by omega)).mono ?_
    rintro e w3 ⟨rfl, rfl⟩
    have hk0 : 0 ≤ at_ % (NL : Int) := Int.emod_nonneg _ (by omega)
    have hk1 : at_ % (NL : Int) < NL := Int.emod_lt_of_pos _ (by omega)
    obtain ⟨k, ek⟩ := Int.eq_ofNat_of_zero_le hk0
    rw [ek] at hk1 ⊢
    clear ek hk0
    have hkn : k < NL := by omega
    go_wp2_with fail
    have hlk : ((enc t).take k).length = k := by have := HNL.out; rw [List.length_take]; omega
    have hby1 : ∀ x ∈ (enc t).take k, 0 ≤ x ∧ x < 256 := fun x hx => enc_byte t (chk_ok t HK.out) x (List.mem_of_mem_take hx)
    have HP1 := Parse_any p cap ((enc t).take k) w2 (by rw [hlk]; exact HBB.out.take (by omega)) (by rw [hlk]; omega) hby1
    rw [hlk] at HP1
    have HC4 : Hid (prsE ((enc t).take k) = 4) := prsE_cut t HK.out k (by rw [HNL.out]; exact hkn)
    clear hlk hby1
    refine HP1.mono ?_
    rintro e w4 hpost
    obtain ⟨v4, rfl, ht4, hb4⟩ := hpost
    obtain ⟨p41, c41, p42, c42, rfl⟩ := ht4.forms
    rw [HC4.out]
    have HB4 := Lib.hid (HB2.out.trans (hb4.mono HB2.out.size))
    have HBB4 : Hid (BytesBelow w4 w4.heap.size p NL (enc t)) := fun h0 => by
      obtain ⟨b, o, e, hb, hcell⟩ := HBB.out h0
      exact ⟨b, o, e, Nat.lt_of_lt_of_le hb hb4.size, fun i hi => (hb4.cell (p := ⟨b, _, none⟩) hb).trans (hcell i hi)⟩
    clear ht4 hb4 HP1 hkn hk1 HC4
    have hN2 : NL ≤ 140737488351232 := by omega
    have HBA : ∀ o : Obj, BytesBelow (w4.alloc o) (w4.alloc o).heap.size p NL (enc t) := fun o h0 => by
      obtain ⟨b, off, e, hb, hcell⟩ := HBB4.out h0
      exact ⟨b, off, e, by simp; omega, fun i hi => (World.cell?_alloc_lt w4 o _ hb).trans (hcell i hi)⟩
    have HBA2 := Lib.hid HBA
    have HSA : Hid (∀ o : Obj, w4.heap.size ≤ (w4.alloc o).heap.size) := fun o => by simp
    clear HBA
    have tok1 : True := trivial
    go_wp2_with (first
      | (at_builtin
         have _t := tok1
         refine wpList_append_bytes _ rfl (.const (.slice none 0 0)) (.tmp 36) rfl w4.heap.size (.slice none 0 0) [] rfl (World.ownsRow_nil _ _ _ _) p NL cap (enc t) rfl HNL.out (HBA2.out _) (Nat.zero_le _) hN2 (HSA.out _) ?_
         intro v5 w5 hr5 hg5
         rw [List.nil_append] at hr5
         have HR5 := Lib.hid hr5
         have HG5 := Lib.hid ((((Below.refl _ _).alloc (Nat.le_refl _) _).grown hg5 (HSA.out _) (fun _ e => by cases e)))
         have HB5 := Lib.hid (HB4.out.trans (HG5.out.mono HB4.out.size))
         have HAX := Lib.hid (HA.out.mono HB5.out)
         clear hr5 hg5 tok1
         have tok2 : True := trivial)
      | (at_builtin
         have _t := tok2
         refine wpList_append_bytes _ rfl (.tmp 37) (.tmp 38) rfl w4.heap.size v5 (enc t) rfl HR5.out A l.length c l rfl rfl HAX.out (Nat.le_trans (Nat.le_of_eq HNL.out) hes) hsz HG5.out.size ?_
         intro v6 w6 hr6 hg6
         have HR6 := Lib.hid hr6
         have HB6 := Lib.hid (HB5.out.trans (((Below.refl _ _).grown hg6 HG5.out.size (fun q hq => (World.ownsRow.lt HR5.out q hq).1)).mono HB4.out.size))
         clear hr6 hg6 tok2))
    obtain ⟨p6, cap6, rfl, -⟩ := HR6.out.form
    obtain ⟨-, hc6, hb6⟩ := HR6.out.below
    have hby6 : ∀ x ∈ enc t ++ l, 0 ≤ x ∧ x < 256 := by
      intro x hx
      rcases List.mem_append.1 hx with hx | hx
      · exact enc_byte t (chk_ok t HK.out) x hx
      · exact HBY.out x hx
    refine (Parse_any p6 cap6 (enc t ++ l) w6 hb6 hc6 hby6).mono ?_
    rintro e w7 hpost
    obtain ⟨v7, rfl, ht7, hb7⟩ := hpost
    obtain ⟨p71, c71, p72, c72, rfl⟩ := ht7.forms
    have hmore := prsE_more t HK.out l
    obtain ⟨G, eG⟩ : ∃ G, prsE (enc t ++ l) = G := ⟨_, rfl⟩
    rw [eG] at hmore ⊢
    have HB7 := Lib.hid (HB6.out.trans (hb7.mono HB6.out.size))
    clear ht7 hb7 hb6 hc6 hby6 eG
    by_cases hl : l = []
    · obtain rfl : G = 0 := hmore.2 hl
      have hL : ((l.length : Int) == 0) = true := by rw [hl]; rfl
      clear hmore hl
      go_wp2
      go_ret
      exact ⟨rfl, HB7.out.alloc HB7.out.size _⟩
    · have hG : (G == 0) = false := by simpa using fun e => hl (hmore.1 e)
      have hGn : ¬ G = 0 := fun e => hl (hmore.1 e)
      have hGd : decide (G = 0) = false := by simpa using hGn
      have hL : ((l.length : Int) == 0) = false := by
        have : l.length ≠ 0 := fun e => hl (List.eq_nil_of_length_eq_zero e)
        simpa using this
      clear hmore hl
      go_wp2
      go_ret
      exact ⟨rfl, HB7.out.alloc HB7.out.size _⟩
  · refine (Pack_bad t _ _ (HV.out.below HB1.out) hk).mono ?_
    obtain ⟨R, eR⟩ : ∃ R : Int, chk t = R := ⟨_, rfl⟩
    rw [eR] at hk ⊢
    have hne : (R == 0) = false := by simpa using hk
    have hne2 : (R != 0) = true := by simpa using hk
    rintro e w2 ⟨rfl, hb2⟩
    have HB2 := Lib.hid (HB1.out.trans (hb2.mono HB1.out.size))
    clear hk eR hb2
    go_wp2
    go_ret
    exact ⟨rfl, HB2.out⟩
end Go.Proofs.Ytddkedghpapepaa
