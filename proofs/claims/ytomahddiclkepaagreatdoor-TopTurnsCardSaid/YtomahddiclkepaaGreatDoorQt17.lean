/- state.At: which type it is at a time, by a book. table.Make: its error answer; what it returns. table.Make: what the maker has left to do; eras with turns in memory, in use. table.Make: behind the maker's begin. -/
import Derived.Test.YtomahddiclkepaaGreatDoorQt16
import Derived.Test.YtomahddiclkepaaGreatDoorQt08
import Derived.Test.YtomahddiclkepaaGreatDoorQt09
import Derived.Test.YtomahddiclkepaaGreatDoorProg
namespace Go.Proofs.YtomahddiclkepaaGreatDoor
open Go.RowKit Go.Joins Go.Maps
open Classical
set_option linter.unusedVariables false
set_option linter.unusedSimpArgs false

def StPost (S : Int × Ty) (w : World) (e : Ending) (w' : World) : Prop := e = .returned (.tuple #[tyV S.2, .int .i64 S.1]) ∧ Below w.heap.size w w'
theorem StPost.mk {S : Int × Ty} {c : Int} {T : Ty} {w w' : World} (h : S = (c, T)) (hb : Below w.heap.size w w') : StPost S w (.returned (.tuple #[.agg #[.int .i64 T.off, .bool T.save, .string T.name], .int .i64 c])) w' := by
  subst h
  exact ⟨rfl, hb⟩
/-- a part of a row: one of its members -/
theorem rows_at {α : Type} {cells : α → List Value} {k B : Nat} {W : World} {p : Option Addr} {c : Nat} {l : List α} (h : RowsAt cells k B W (.slice p l.length c) l) (i : Nat) (hi : i < l.length) : ∃ b o, p = some ⟨b, o, none⟩ ∧ RowsAt cells k B W (.slice (some ⟨b, o + i * k, none⟩) 1 (c - i)) [l[i]] := by
  obtain ⟨p2, c2, e, ⟨h1, h2⟩, hat⟩ := h
  simp only [Value.slice.injEq, true_and] at e
  obtain ⟨rfl, rfl⟩ := e
  obtain ⟨b, o, rfl, hb, hc⟩ := hat (List.ne_nil_of_length_pos (by omega))
  refine ⟨b, o, rfl, _, _, rfl, ⟨by simp, by simp; omega⟩, fun _ => ⟨b, o + i * k, rfl, hb, fun j hj m u hu => ?_⟩⟩
  obtain rfl : j = 0 := by simpa using hj
  rw [Nat.zero_mul, Nat.add_zero]
  exact hc i hi m u hu
theorem tds_one {W : World} {B : Nat} {v : Value} {ms : List TdM} {x : Td} (h : TdsAt W B v ms) (hm : ms.map (·.td) = [x]) : ∃ g cap tv, v = .slice (some ⟨g, 0, none⟩) 1 cap ∧ B ≤ g ∧ g < W.heap.size ∧ (∀ j u, (tdCells x tv)[j]? = some u → W.cell? ⟨g, j, none⟩ = some u) ∧ W.ownsRow B 49 3 tv x.ts.length (tnCells x.ts) := by
  cases ms with
  | nil => cases hm
  | cons m r =>
    cases r with
    | cons a r => cases hm
    | nil =>
      simp only [List.map_cons, List.map_nil, List.cons.injEq, and_true] at hm
      subst hm
      rcases own_cells h.row with ⟨-, h0⟩ | ⟨g, cap, rfl, hb, hg, hc⟩
      · cases h0
      · refine ⟨g, cap, m.tv, rfl, hb, hg, fun j u hu => ?_, h.ts m (List.mem_singleton.2 rfl)⟩
        refine hc j u ?_
        show (tmL m ++ [])[j]? = some u
        rw [List.append_nil]
        simpa using hu

theorem abE_fm {f l : ByteArray} {s : Int} (h : abE f s l = 0) : f.size ≤ 140737488351232 := by
  have h1 := (abbrF_ok h).2.1
  unfold splitF at h1
  split at h1
  · cases h1
  · rename_i h2
    rw [Lib.size_eq]
    omega
theorem abbr_lt {f l : ByteArray} {s : Int} (h : abE f s l = 0) : l.size ≤ 140737488351232 := by
  have h1 := letter_len (abbrF_ok h).2.2.1
  rw [Lib.size_eq]
  omega
theorem tdR_len {rules : List Ru} (ho : ∀ r ∈ rules, OkRu r) (x : Er) : (tdR rules x).ts.length ≤ 1500 := by
  unfold tdR
  split
  · exact Nat.zero_le _
  · exact (mkR_len ho _ _).1

set_option maxRecDepth 100000 in
set_option maxHeartbeats 20000000 in
theorem StAt_any (MK : MakeSays) (b : Bk) (rv zv lv : Value) (nm : ByteArray) (t : Int) (w : World) (hB : BookAt w.heap.size w rv zv lv b) (hn : nm.size ≤ 140737488351232) (ht1 : -9223372036854775808 ≤ t) (ht2 : t ≤ 9223372036854775807) (hm : MaxLen w) (ht : Tab10 w) :
    Calls Tryz.prog 18 #[.agg #[rv, zv, lv], .string nm, .int .i64 t] w (StPost (stR b nm t) w) := by
  have HBK := Lib.hid hB
  obtain ⟨p1, c1, rfl, -, -⟩ := hB.r
  obtain ⟨p2, c2, rfl, -, -⟩ := hB.z
  obtain ⟨p3, c3, rfl, -, -⟩ := hB.l
  obtain ⟨W0, eW⟩ : ∃ W0, (w.alloc (.cells #[.slice p1 b.rules.length c1, .slice p2 b.zones.length c2, .slice p3 b.links.length c3] 26)).alloc (.cells #[.int .i64 0, .bool false, .string ⟨#[]⟩] 51) = W0 := ⟨_, rfl⟩
  have hb0 : Below w.heap.size w W0 := by rw [← eW]; exact ((Below.refl _ _).alloc (Nat.le_refl _) _).alloc (by simp) _
  have hbx : W0.heap[w.heap.size]? = some (.cells #[.slice p1 b.rules.length c1, .slice p2 b.zones.length c2, .slice p3 b.links.length c3] 26 (0, 0)) := by
    rw [← eW]
    exact (Below.heap_alloc _ _ _ (by simp)).trans (heap_alloc_new w _)
  have hrb : W0.heap[w.heap.size + 1]? = some (.cells #[.int .i64 0, .bool false, .string ⟨#[]⟩] 51 (0, 0)) := by
    rw [← eW]
    exact alloc_at _ _ _ (by simp)
  have hl0 : w.heap.size + 1 < W0.heap.size := by rw [← eW]; simp
  have x0 := (cell_of_row W0 _ 0 _ _ _ hbx).trans rfl
  have x1 := (cell_of_row W0 _ 1 _ _ _ hbx).trans rfl
  have x2 := (cell_of_row W0 _ 2 _ _ _ hbx).trans rfl
  have HEW := Lib.hid eW
  have HB0 := Lib.hid hb0
  have HBX := Lib.hid hbx
  have HRB := Lib.hid hrb
  have HM := Lib.hid hm
  have HT := Lib.hid ht
  have HRS := Lib.hid (Resolve_any b _ _ _ nm W0 ((hB.below hb0 (Nat.le_refl _)).baseN (by omega)) hn (hm.below hb0) (ht.below hb0))
  have HNO := Lib.hid (fun c h => stR_none (b := b) (nm := nm) (c := c) h t)
  have HSO := Lib.hid (fun z c h => stR_some (b := b) (nm := nm) (z := z) (c := c) h t)
  have HRV := Lib.hid (fun z c h => rsv_zero (b := b) (nm := nm) (z := z) (c := c) h)
  have HRN := Lib.hid (fun c h => rsv_not0 (b := b) (nm := nm) (c := c) h)
  obtain ⟨S, eS⟩ : ∃ S, stR b nm t = S := ⟨_, rfl⟩
  rw [eS] at HNO HSO ⊢
  obtain ⟨R, eR⟩ : ∃ R, rsv b nm = R := ⟨_, rfl⟩
  rw [eR] at HRS HNO HSO HRV HRN
  clear eW hb0 hbx hrb hB hm ht eS eR
  -- the end: the result's cells
  have FIN : Hid (∀ (W' : World) (c : Int) (T : Ty), Below W0.heap.size W0 W' → S = (c, T) → ∃ W9, ((W'.setCell ⟨w.heap.size + 1, 0, none⟩ (.int .i64 T.off)).setCell ⟨w.heap.size + 1, 1, none⟩ (.bool T.save)).setCell ⟨w.heap.size + 1, 2, none⟩ (.string T.name) = W9 ∧ W9.cell? ⟨w.heap.size + 1, 0, none⟩ = some (.int .i64 T.off) ∧ W9.cell? ⟨w.heap.size + 1, 1, none⟩ = some (.bool T.save) ∧ W9.cell? ⟨w.heap.size + 1, 2, none⟩ = some (.string T.name) ∧ StPost S w (.returned (.tuple #[.agg #[.int .i64 T.off, .bool T.save, .string T.name], .int .i64 c])) W9) := by
    show ∀ W' c T, _
    intro W' c T hb hS
    obtain ⟨W9, e9, hh9, hb9⟩ := end_three ((hb.block (w.heap.size + 1) hl0).trans HRB.out) (.int .i64 T.off) (.bool T.save) (.string T.name)
    exact ⟨W9, e9, (cell_of_row W9 _ 0 _ _ _ hh9).trans rfl, (cell_of_row W9 _ 1 _ _ _ hh9).trans rfl, (cell_of_row W9 _ 2 _ _ _ hh9).trans rfl, StPost.mk hS ((HB0.out.trans (hb.mono HB0.out.size)).trans (hb9 _ (by omega)))⟩
  have RES : Hid (∀ (W' : World), Below W0.heap.size W0 W' → W'.cell? ⟨w.heap.size + 1, 0, none⟩ = some (.int .i64 0) ∧ W'.cell? ⟨w.heap.size + 1, 1, none⟩ = some (.bool false) ∧ W'.cell? ⟨w.heap.size + 1, 2, none⟩ = some (.string ⟨#[]⟩) ∧ W'.frozen? ⟨w.heap.size + 1, 0, none⟩ = false ∧ W'.frozen? ⟨w.heap.size + 1, 1, none⟩ = false ∧ W'.frozen? ⟨w.heap.size + 1, 2, none⟩ = false) := by
    show ∀ W', _
    intro W' hb
    have h2 := (hb.block (w.heap.size + 1) hl0).trans HRB.out
    exact ⟨(cell_of_row W' _ 0 _ _ _ h2).trans rfl, (cell_of_row W' _ 1 _ _ _ h2).trans rfl, (cell_of_row W' _ 2 _ _ _ h2).trans rfl, by simp [World.frozen?, h2], by simp [World.frozen?, h2], by simp [World.frozen?, h2]⟩
  have BOX : Hid (∀ (W' : World), Below W0.heap.size W0 W' → W'.cell? ⟨w.heap.size, 0, none⟩ = some (.slice p1 b.rules.length c1) ∧ W'.cell? ⟨w.heap.size, 1, none⟩ = some (.slice p2 b.zones.length c2) ∧ W'.cell? ⟨w.heap.size, 2, none⟩ = some (.slice p3 b.links.length c3)) := by
    show ∀ W', _
    intro W' hb
    have h2 := (hb.block w.heap.size (by omega)).trans HBX.out
    exact ⟨(cell_of_row W' _ 0 _ _ _ h2).trans rfl, (cell_of_row W' _ 1 _ _ _ h2).trans rfl, (cell_of_row W' _ 2 _ _ _ h2).trans rfl⟩
  go_enter Tryz.func18, Tryz.ntmps18
  go_upto_region 1 with fail
  rw [HEW.out]
  go_wp2_with fail
  refine HRS.out.mono ?_
  obtain ⟨Z, C⟩ := R
  rintro e w1 ⟨vo, rfl, hrow, hb1⟩
  simp only at hrow ⊢
  have HB1 := Lib.hid hb1
  have HRW := Lib.hid hrow
  obtain ⟨A, cA, rfl⟩ := own_sliceN hrow
  obtain ⟨W2, e2⟩ : ∃ W2, w1.alloc (.cells #[.string (zNm Z), .slice A (zEr Z).length cA] 46) = W2 := ⟨_, rfl⟩
  obtain ⟨zb, ezb⟩ : ∃ zb, w1.heap.size = zb := ⟨_, rfl⟩
  have hzb : W0.heap.size ≤ zb := by rw [← ezb]; exact hb1.size
  have hx2 : W2.heap[zb]? = some (.cells #[.string (zNm Z), .slice A (zEr Z).length cA] 46 (0, 0)) := by rw [← e2]; exact alloc_at _ _ _ ezb.symm
  have hb2 : Below w1.heap.size w1 W2 := by rw [← e2]; exact (Below.refl _ _).alloc (Nat.le_refl _) _
  have hz2 : zb < W2.heap.size := by rw [← e2]; simp; omega
  have HB2 := Lib.hid (hb1.trans (hb2.mono hb1.size))
  have HX2 := Lib.hid hx2
  have HE2 := Lib.hid e2
  have HRW2 := Lib.hid (own_keep hrow fun g e => hb2.block g (World.ownsRow.lt hrow g e).2)
  clear hrow hb1 hb2 hx2 HRS HRW x0 x1 x2 e2
  go_upto_region 2 with fail
  rw [HE2.out]
  obtain ⟨r0, r1, r2, f0, f1, f2⟩ := RES.out W2 HB2.out
  cases Z with
  | none =>
    have hC := HRN.out C rfl
    have hS := HNO.out C rfl
    have hz : (C == 0) = false := by simpa using hC
    have hz2 : (!C == 0) = true := by rw [hz]; rfl
    have HF := Lib.hid (FIN.out W2 C ty0 HB2.out hS)
    clear hC hS HNO HSO HRV HRN FIN RES BOX HRW2 HX2
    go_wp2_with fail
    obtain ⟨W9, e9, v0, v1, v2, hP⟩ := HF.out
    simp only [ty0] at e9 v0 v1 v2 hP
    rw [e9]
    exact bodyPost_ret (v := .tuple #[.agg #[.int .i64 0, .bool false, .string ⟨#[]⟩], .int .i64 C]) (by simp [results, Tryz.results18, go_sem, v0, v1, v2]) rfl hP
  | some z =>
    obtain ⟨hC, hzz, hbk⟩ := HRV.out z C rfl
    subst hC
    have hS := HSO.out z 0 rfl
    have HST := Lib.hid (Stamp_any t W2 ht1 ht2 (HT.out.below (HB0.out.trans (HB2.out.mono HB0.out.size))))
    have hE0 := bk_eras hbk hzz
    have HE0 := Lib.hid hE0
    have HBKC := Lib.hid hbk
    have HSS := Lib.hid hS
    have hel := hE0.le
    have HROWE : Hid (RowsAt (fun x : Er => (erCells x).toList) 5 W2.heap.size W2 (.slice A z.eras.length cA) z.eras) := own_rowsG (cells := fun x : Er => (erCells x).toList) (k := 5) (fun _ => rfl) HRW2.out (by show z.eras.length ≤ 100000; omega)
    clear hS hzz hbk HNO HSO HRV HRN HRW2 hE0
    simp only [zNm, zEr] at HX2 HE2 ⊢
    have HROWA : Hid (∃ b o, A = some ⟨b, o, none⟩ ∧ RowsAt (fun x : Er => (erCells x).toList) 5 W2.heap.size W2 (.slice (some ⟨b, o + (whichF z.eras t) * 5, none⟩) 1 (cA - whichF z.eras t)) [eraAt z.eras (whichF z.eras t)]) := by
      show ∃ b o, _
      obtain ⟨hk, e⟩ := era_in HE0.out t
      rw [e]
      exact rows_at HROWE.out _ hk
    have hkl := (era_in HE0.out t).1
    have HXO := Lib.hid (HE0.out.ok _ (List.getElem_mem hkl))
    rw [← eraAt_in _ _ hkl] at HXO
    have hcap : z.eras.length ≤ cA := by
      obtain ⟨pp, cc, e, ⟨-, h2⟩, -⟩ := HROWE.out
      simp only [Value.slice.injEq, true_and] at e
      obtain ⟨-, rfl⟩ := e
      exact h2
    obtain ⟨E1, eE1⟩ : ∃ E1, stampE t = E1 := ⟨_, rfl⟩
    rw [eE1] at HST HSS
    obtain ⟨k, ek⟩ : ∃ k, whichF z.eras t = k := ⟨_, rfl⟩
    have HWH : Hid (∀ W, Below W2.heap.size W2 W → Calls Tryz.prog 47 #[.slice A z.eras.length cA, .int .i64 t] W fun e w' => e = .returned (.int .i64 (k : Nat)) ∧ Below W.heap.size W w') := by
      show ∀ W, _
      intro W hb
      have := Which_any (rules := b.rules) z.eras (.slice A z.eras.length cA) t W2.heap.size W (HROWE.out.below hb (Nat.le_refl _)) hb.size HE0.out
      rwa [ek] at this
    rw [ek] at HSS HROWA HXO hkl
    have hSF : stF b.rules z.eras t = tdTy (tdR b.rules (eraAt z.eras k)) t := by unfold stF tdA; rw [ek]
    rw [hSF] at HSS
    obtain ⟨x, ex⟩ : ∃ x, eraAt z.eras k = x := ⟨_, rfl⟩
    rw [ex] at HSS HROWA HXO
    clear eE1 ek hSF ex HROWE HE0
    obtain ⟨eb, eo, rfl, hrowx⟩ := HROWA.out
    have HRX := Lib.hid hrowx
    clear hrowx HROWA
    go_wp2_with fail
    refine HST.out.mono ?_
    rintro e w3 ⟨⟨s3, rfl⟩, hb3⟩
    have HB3 := Lib.hid (HB2.out.trans (hb3.mono HB2.out.size))
    have hx3 := (hb3.block zb hz2).trans HX2.out
    have q1 : w3.cell? ⟨zb, 1, none⟩ = some (.slice (some ⟨eb, eo, none⟩) z.eras.length cA) := (cell_of_row w3 _ 1 _ _ _ hx3).trans rfl
    have HBZ := Lib.hid hb3
    obtain ⟨r0, r1, r2, f0, f1, f2⟩ := RES.out w3 HB3.out
    clear hb3 HST
    by_cases hE1 : E1 = 0
    case neg =>
      have hS := HSS.out
      rw [if_pos hE1] at hS
      have hz : (E1 == 0) = false := by simpa using hE1
      have hz2 : (!E1 == 0) = true := by rw [hz]; rfl
      have HF := Lib.hid (FIN.out w3 E1 ty0 HB3.out hS)
      clear hE1 hS HSS FIN RES BOX HX2 HWH q1 hx3
      go_wp2_with fail
      obtain ⟨W9, e9, v0, v1, v2, hP⟩ := HF.out
      simp only [ty0] at e9 v0 v1 v2 hP
      rw [e9]
      exact bodyPost_ret (v := .tuple #[.agg #[.int .i64 0, .bool false, .string ⟨#[]⟩], .int .i64 E1]) (by simp [results, Tryz.results18, go_sem, v0, v1, v2]) rfl hP
    case pos =>
    subst hE1
    have HX3 := Lib.hid hx3
    have HW3 := Lib.hid (HWH.out w3 HBZ.out)
    clear hx3 HWH HX2
    go_wp2_with fail
    refine HW3.out.mono ?_
    rintro e w4 ⟨rfl, hb4⟩
    have HBZ4 := Lib.hid (HBZ.out.trans (hb4.mono HBZ.out.size))
    have HB4 := Lib.hid (HB3.out.trans (hb4.mono HB3.out.size))
    have hzb3 : zb < w3.heap.size := by have := HBZ.out.size; omega
    have hx4 := (hb4.block zb hzb3).trans HX3.out
    have q1 : w4.cell? ⟨zb, 1, none⟩ = some (.slice (some ⟨eb, eo, none⟩) z.eras.length cA) := (cell_of_row w4 _ 1 _ _ _ hx4).trans rfl
    obtain ⟨g0, g1, g2⟩ := BOX.out w4 HB4.out
    have HRU := Lib.hid (bk_rules HBKC.out)
    have HER : Hid (∀ W, Below w4.heap.size w4 W → Calls Tryz.prog 48 #[.agg #[.slice p1 b.rules.length c1, .slice p2 b.zones.length c2, .slice p3 b.links.length c3], .agg #[.string ⟨#[]⟩, .slice (some ⟨eb, eo + k * 5, none⟩) 1 (cA - k)]] W (ErasPost b.rules [x] W)) := by
      show ∀ W, _
      intro W hb
      have hbw := HB0.out.trans ((HB4.out.trans (hb.mono HB4.out.size)).mono HB0.out.size)
      have hbz := HBZ4.out.trans (hb.mono HBZ4.out.size)
      refine Eras_any MK b.rules _ _ _ ⟨#[]⟩ [x] _ W ((HBK.out.r.below hbw (Nat.le_refl _)).mono hbw.size) HRU.out.2 HRU.out.1 ((HRX.out.below hbz (Nat.le_refl _)).mono hbz.size) (fun y hy => ?_) (by simp) ⟨_, _, _, rfl⟩ ⟨_, _, _, rfl⟩
      obtain rfl := List.mem_singleton.1 hy
      have h1 := HXO.out.o1
      have h2 := HXO.out.o2
      omega
    have hkz0 : (0 : Int) ≤ (k : Int) := Int.natCast_nonneg _
    have hkz1 : (k : Int) ≤ (k : Int) + 1 := by omega
    have hkz2 : (k : Int) + 1 ≤ (cA : Int) := by omega
    have hckz : ¬ cA = k := by omega
    have hkz3 : IntKind.i64.wrap ((k : Int) + 1) = (k : Int) + 1 := IntWalk.i64_in _ (by omega)
    have hzb4 : zb < w4.heap.size := by have := hb4.size; omega
    have hw04 : W0.heap.size ≤ w4.heap.size := HB4.out.size
    have HX4 := Lib.hid hx4
    have KS : Hid (∀ wx, Below w4.heap.size w4 wx → Below w4.heap.size w4 wx ∧ wx.cell? ⟨w.heap.size, 0, none⟩ = some (.slice p1 b.rules.length c1) ∧ wx.cell? ⟨w.heap.size, 1, none⟩ = some (.slice p2 b.zones.length c2) ∧ wx.cell? ⟨w.heap.size, 2, none⟩ = some (.slice p3 b.links.length c3) ∧ wx.cell? ⟨zb, 1, none⟩ = some (.slice (some ⟨eb, eo, none⟩) z.eras.length cA)) := by
      show ∀ wx, _
      intro wx hb
      obtain ⟨a0, a1, a2⟩ := BOX.out wx (HB4.out.trans (hb.mono hw04))
      exact ⟨hb, a0, a1, a2, (hb.cell (p := ⟨zb, 1, none⟩) hzb4).trans ((cell_of_row w4 _ 1 _ _ _ HX4.out).trans rfl)⟩
    have KR : Hid (∀ wx,  Below w4.heap.size w4 wx ∧ wx.cell? ⟨w.heap.size, 0, none⟩ = some (.slice p1 b.rules.length c1) ∧ wx.cell? ⟨w.heap.size, 1, none⟩ = some (.slice p2 b.zones.length c2) ∧ wx.cell? ⟨w.heap.size, 2, none⟩ = some (.slice p3 b.links.length c3) ∧ wx.cell? ⟨zb, 1, none⟩ = some (.slice (some ⟨eb, eo, none⟩) z.eras.length cA) → Below w4.heap.size w4 wx) := fun wx h => h.1
    have eE2 : firstE (tdE b.rules) [x] = tdE b.rules x := by
      show (if tdE b.rules x = 0 then 0 else tdE b.rules x) = _
      split
      · rename_i h; exact h.symm
      · rfl
    by_cases hE2 : tdE b.rules x = 0
    case neg =>
      have HEB : Hid (∀ W, Below w4.heap.size w4 W → Calls Tryz.prog 48 #[.agg #[.slice p1 b.rules.length c1, .slice p2 b.zones.length c2, .slice p3 b.links.length c3], .agg #[.string ⟨#[]⟩, .slice (some ⟨eb, eo + k * 5, none⟩) 1 (cA - k)]] W fun e w' => e = .returned (.tuple #[.slice none 0 0, .int .i64 (tdE b.rules x)]) ∧ Below W.heap.size W w') := by
        show ∀ W, _
        intro W hb
        refine (HER.out W hb).mono fun e w' ⟨h1, h2, _⟩ => ⟨?_, h1⟩
        rw [eE2] at h2
        exact h2 hE2
      have hS := HSS.out
      rw [if_neg (by simp), if_pos hE2] at hS
      obtain ⟨E2, e2⟩ : ∃ E2, tdE b.rules x = E2 := ⟨_, rfl⟩
      rw [e2] at HEB hS hE2
      have hz : (E2 == 0) = false := by simpa using hE2
      have hzz2 : (!E2 == 0) = true := by rw [hz]; rfl
      have HSF := Lib.hid hS
      clear hb4 HX3 hx4 HW3 HER e2 eE2 hS HSS hE2
      go_wp2_with fail
      go_region_held3 (fun wx => Below w4.heap.size w4 wx ∧ wx.cell? ⟨w.heap.size, 0, none⟩ = some (.slice p1 b.rules.length c1) ∧ wx.cell? ⟨w.heap.size, 1, none⟩ = some (.slice p2 b.zones.length c2) ∧ wx.cell? ⟨w.heap.size, 2, none⟩ = some (.slice p3 b.links.length c3) ∧ wx.cell? ⟨zb, 1, none⟩ = some (.slice (some ⟨eb, eo, none⟩) z.eras.length cA)) ((refine KS.out _ ?_; repeat (first | (with_reducible assumption) | (with_reducible exact Below.refl _ _) | (with_reducible refine Below.drew ?_)))) (first | (go_at_call 48; refine (HEB.out _ (KR.out _ (by assumption))).mono ?_; rintro e w5 ⟨rfl, hb5⟩; have hB5 := ((KR.out _ (by assumption)).trans (hb5.mono (KR.out _ (by assumption)).size)); clear hb5))
      obtain ⟨r0, r1, r2, f0, f1, f2⟩ := RES.out w5 (HB4.out.trans (hB5.mono hw04))
      have HF := Lib.hid (FIN.out w5 E2 ty0 (HB4.out.trans (hB5.mono hw04)) HSF.out)
      clear hB5 HEB KS KR FIN RES BOX HX4 g0 g1 g2 q1 HSF
      go_wp2_with fail
      obtain ⟨W9, e9, v0, v1, v2, hP⟩ := HF.out
      simp only [ty0] at e9 v0 v1 v2 hP
      rw [e9]
      exact bodyPost_ret (v := .tuple #[.agg #[.int .i64 0, .bool false, .string ⟨#[]⟩], .int .i64 E2]) (by simp [results, Tryz.results18, go_sem, v0, v1, v2]) rfl hP
    case pos =>
      have hS := HSS.out
      rw [if_neg (by simp), if_neg (fun g => g hE2)] at hS
      have hXr := tdR_rises hE2
      have hXe : (tdR b.rules x).er = x := tdR_er _ _
      obtain ⟨s1, s2, s3', -⟩ := sv_ok HXO.out t
      have hfm := abE_fm s1
      have hlt := abbr_lt s1
      have HO := Lib.hid (And.intro HXO.out.o1 HXO.out.o2)
      have hXl : (tdR b.rules x).ts.length ≤ 1500 := tdR_len HRU.out.2 x
      obtain ⟨X, eX⟩ : ∃ X, tdR b.rules x = X := ⟨_, rfl⟩
      have HEG : Hid (∀ W, Below w4.heap.size w4 W → Calls Tryz.prog 48 #[.agg #[.slice p1 b.rules.length c1, .slice p2 b.zones.length c2, .slice p3 b.links.length c3], .agg #[.string ⟨#[]⟩, .slice (some ⟨eb, eo + k * 5, none⟩) 1 (cA - k)]] W fun e w' => ∃ g cap tv, e = .returned (.tuple #[.slice (some ⟨g, 0, none⟩) 1 cap, .int .i64 0]) ∧ Hid (g < w'.heap.size ∧ (∀ j u, (tdCells X tv)[j]? = some u → w'.cell? ⟨g, j, none⟩ = some u) ∧ w'.ownsRow W.heap.size 49 3 tv X.ts.length (tnCells X.ts)) ∧ Below W.heap.size W w') := by
        show ∀ W, _
        intro W hb
        refine (HER.out W hb).mono fun e w' ⟨h1, _, h2⟩ => ?_
        obtain ⟨v, ms, he, hms, htd⟩ := h2 (by rw [eE2]; exact hE2)
        rw [List.map_cons, List.map_nil, eX] at hms
        obtain ⟨g, cap, tv, rfl, -, q2, q3, q4⟩ := tds_one htd hms
        exact ⟨g, cap, tv, he, ⟨q2, q3, q4⟩, h1⟩
      rw [eX] at hS hXr hXe s2 s3' hlt hXl
      have HSF := Lib.hid hS
      have HXR := Lib.hid hXr
      have HXE := Lib.hid hXe
      have HS2 := Lib.hid (And.intro s2 s3')
      have HFM := Lib.hid hfm
      have HLT := Lib.hid hlt
      clear hb4 HX3 hx4 HW3 HER eE2 hS HSS hE2 eX hXr hXe s1 s2 s3' hfm hlt
      go_wp2_with fail
      go_region_held3 (fun wx => Below w4.heap.size w4 wx ∧ wx.cell? ⟨w.heap.size, 0, none⟩ = some (.slice p1 b.rules.length c1) ∧ wx.cell? ⟨w.heap.size, 1, none⟩ = some (.slice p2 b.zones.length c2) ∧ wx.cell? ⟨w.heap.size, 2, none⟩ = some (.slice p3 b.links.length c3) ∧ wx.cell? ⟨zb, 1, none⟩ = some (.slice (some ⟨eb, eo, none⟩) z.eras.length cA)) ((refine KS.out _ ?_; repeat (first | (with_reducible assumption) | (with_reducible exact Below.refl _ _) | (with_reducible refine Below.drew ?_)))) (first | (go_at_call 48; refine (HEG.out _ (KR.out _ (by assumption))).mono ?_; rintro e w5 ⟨g, cap, tv, rfl, hg5, hb5⟩; have hB5 := ((KR.out _ (by assumption)).trans (hb5.mono (KR.out _ (by assumption)).size)); clear hb5))
      obtain ⟨r0, r1, r2, f0, f1, f2⟩ := RES.out w5 (HB4.out.trans (hB5.mono hw04))
      have HB5 := Lib.hid (HB4.out.trans (hB5.mono hw04))
      obtain ⟨hg, hgc, hgt⟩ := hg5.out
      obtain ⟨At, cAt, rfl⟩ := own_sliceN hgt
      have y0 := hgc 0 _ rfl
      have y1 := hgc 1 _ rfl
      have y2 := hgc 2 _ rfl
      have y3 := hgc 3 _ rfl
      have y4 := hgc 4 _ rfl
      have y5 := hgc 5 _ rfl
      have y6 := hgc 6 _ rfl
      have HTA : Hid (Calls Tryz.prog 49 #[.agg (tdCells X (.slice At X.ts.length cAt)), .int .i64 t] w5 fun e w' => e = .returned (tyV (tdTy X t)) ∧ Below w5.heap.size w5 w') := by
        have ho := HO.out
        refine TdAt_any X _ t w5 ((own_rowsT hgt (by omega)).mono (Nat.le_refl _)) HXR.out (by rw [HXE.out]; omega) (by rw [HXE.out]; omega) (by rw [HXE.out]; exact HFM.out) HLT.out HS2.out.1 HS2.out.2 (HM.out.below (HB0.out.trans (HB5.out.mono HB0.out.size))) (by omega)
      have hw05 : W0.heap.size ≤ w5.heap.size := HB5.out.size
      clear hB5 HEG KS KR BOX HX4 g0 g1 g2 q1 hg5 hgc hgt HXR HS2 HFM HLT HO
      go_wp2_with fail
      refine HTA.out.mono ?_
      rintro e w6 ⟨rfl, hb6⟩
      have HB6 := Lib.hid (HB5.out.trans (hb6.mono hw05))
      obtain ⟨r0, r1, r2, f0, f1, f2⟩ := RES.out w6 HB6.out
      have HF := Lib.hid (FIN.out w6 0 (tdTy X t) HB6.out HSF.out)
      obtain ⟨T, eT⟩ : ∃ T, tdTy X t = T := ⟨_, rfl⟩
      rw [eT] at HF ⊢
      obtain ⟨tof, ts, tn⟩ := T
      clear hb6 HTA FIN RES HSF eT y0 y1 y2 y3 y4 y5 y6
      go_wp2_with fail
      obtain ⟨W9, e9, v0, v1, v2, hP⟩ := HF.out
      rw [e9]
      exact bodyPost_ret (v := .tuple #[.agg #[.int .i64 tof, .bool ts, .string tn], .int .i64 0]) (by simp [results, Tryz.results18, go_sem, v0, v1, v2]) rfl hP
end Go.Proofs.YtomahddiclkepaaGreatDoor
namespace Go.Proofs.YtomahddiclkepaaGreatDoor
open Go.RowKit Go.Joins Go.Maps
open Classical
set_option linter.unusedVariables false
set_option linter.unusedSimpArgs false

def MkTPost (R : Int × Tab) (w : World) (e : Ending) (w' : World) : Prop := ∃ sv cv, e = .returned (.tuple #[.agg #[sv, .int .i64 0, cv], .int .i64 R.1]) ∧ w'.ownsRow w.heap.size 51 3 sv R.2.types.length (tyCells R.2.types) ∧ w'.ownsRow w.heap.size 61 2 cv R.2.chs.length (chCells R.2.chs) ∧ Below w.heap.size w w'
theorem MkTPost.bad {R : Int × Tab} {c : Int} {w w' : World} (h : R = (c, zTab)) (hb : Below w.heap.size w w') : MkTPost R w (.returned (.tuple #[.agg #[.slice none 0 0, .int .i64 0, .slice none 0 0], .int .i64 c])) w' := by
  subst h
  exact ⟨_, _, rfl, World.ownsRow_nil _ _ _ _, World.ownsRow_nil _ _ _ _, hb⟩
set_option maxHeartbeats 2000000 in
theorem MakeNone_any (c : Int) (w : World) : Calls Tryz.prog 54 #[.int .i64 c] w fun e w' => e = .returned (.tuple #[.agg #[.slice none 0 0, .int .i64 0, .slice none 0 0], .int .i64 c]) ∧ Below w.heap.size w w' := by
  obtain ⟨W0, e0⟩ : ∃ W0, w.alloc (.cells #[.slice none 0 0, .int .i64 0, .slice none 0 0] 58) = W0 := ⟨_, rfl⟩
  have hx : W0.heap[w.heap.size]? = some (.cells #[.slice none 0 0, .int .i64 0, .slice none 0 0] 58 (0, 0)) := by rw [← e0]; exact heap_alloc_new w _
  have v0 : W0.cell? ⟨w.heap.size, 0, none⟩ = some (.slice none 0 0) := (cell_of_row W0 _ 0 _ _ _ hx).trans rfl
  have v1 : W0.cell? ⟨w.heap.size, 1, none⟩ = some (.int .i64 0) := (cell_of_row W0 _ 1 _ _ _ hx).trans rfl
  have v2 : W0.cell? ⟨w.heap.size, 2, none⟩ = some (.slice none 0 0) := (cell_of_row W0 _ 2 _ _ _ hx).trans rfl
  have HB : Hid (Below w.heap.size w W0) := by rw [← e0]; exact (Below.refl _ _).alloc (Nat.le_refl _) _
  have HE := Lib.hid e0
  clear hx e0
  go_enter Tryz.func54, Tryz.ntmps54
  go_wp2_with fail
  rw [HE.out]
  exact bodyPost_ret (v := .tuple #[.agg #[.slice none 0 0, .int .i64 0, .slice none 0 0], .int .i64 c]) (by simp [results, Tryz.results54, go_sem, v0, v1, v2]) rfl ⟨rfl, HB.out⟩
end Go.Proofs.YtomahddiclkepaaGreatDoor
namespace Go.Proofs.YtomahddiclkepaaGreatDoor
open Go.RowKit Go.Joins Go.Maps
open Classical
set_option linter.unusedVariables false
set_option linter.unusedSimpArgs false

/-- the maker's way from `s` to `F` -/
structure MInv (F s : NS) (L : List (Int × Ty)) : Prop where
  eq : L.foldl stepN s = F
  tl : s.types.length + L.length ≤ 2000000
  cl : s.chs.length + L.length ≤ 2000000
  pos : 0 < s.types.length
  nm : ∀ y ∈ s.types, y.name.size ≤ maxLen
  ln : ∀ c ∈ L, c.2.name.size ≤ maxLen
theorem MInv.small {F s : NS} {L : List (Int × Ty)} (h : MInv F s L) : NSm s := ⟨by have := h.tl; omega, by have := h.cl; omega, h.pos, h.nm⟩
theorem MInv.step {F s : NS} {c : Int × Ty} {L : List (Int × Ty)} (h : MInv F s (c :: L)) : MInv F (stepN s c) L := by
  have e := h.eq
  have h1 := h.tl
  have h2 := h.cl
  simp only [List.length_cons] at h1 h2
  have hp := h.pos
  have hln : ∀ d ∈ L, d.2.name.size ≤ maxLen := fun d hd => h.ln d (List.mem_cons_of_mem _ hd)
  rw [List.foldl_cons] at e
  refine ⟨e, ?_, ?_, ?_, ?_, hln⟩ <;> unfold stepN <;> by_cases hc : c.2 = s.last
  · rw [if_pos hc]; omega
  · rw [if_neg hc]
    simp only [addTy]
    split
    · omega
    · simp only [List.length_append, List.length_cons, List.length_nil]; omega
  · rw [if_pos hc]; omega
  · rw [if_neg hc]
    simp only [List.length_append, List.length_cons, List.length_nil]; omega
  · rw [if_pos hc]; exact hp
  · rw [if_neg hc]
    simp only [addTy]
    split
    · exact hp
    · simp only [List.length_append, List.length_cons, List.length_nil]; omega
  · rw [if_pos hc]; exact h.nm
  · rw [if_neg hc]
    simp only [addTy]
    split
    · exact h.nm
    · intro y hy
      rcases List.mem_append.1 hy with hy | hy
      · exact h.nm y hy
      · rw [List.mem_singleton.1 hy]; exact h.ln c List.mem_cons_self
theorem MInv.done {F s : NS} (h : MInv F s []) : s = F := h.eq
theorem cand_len {rules : List Ru} (ho : ∀ r ∈ rules, OkRu r) (l : List Er) (te : Int) : ∀ (n k : Nat) (fr : Int), (candF rules l te n fr k).length ≤ n * 1501
  | 0, _, _ => Nat.zero_le _
  | n + 1, k, fr => by
    have h1 : ∀ a c, (evF (tdA rules l k) a c).length ≤ 1500 := by
      intro a c
      unfold evF winF
      rw [List.length_map]
      exact Nat.le_trans (List.length_filter_le _ _) (tdR_len ho _)
    have h2 := cand_len ho l te n (k + 1) ((eraAt l k).un + 1)
    have h3 := h1 fr (lastF l k te)
    rw [candF]
    split
    · omega
    · simp only [List.length_append, List.length_cons]; omega
theorem minv_start {rules : List Ru} {l : List Er} (hok : TdsOk rules l) (ho : ∀ r ∈ rules, OkRu r) (hl : l.length ≤ 1000) (fr te : Int) : MInv (makeN (stF rules l fr) (candsF rules l fr te)) (begN (stF rules l fr)) (candF rules l te (l.length - whichF l fr) (fr + 1) (whichF l fr)) := by
  have hn := cand_len ho l te (l.length - whichF l fr) (whichF l fr) (fr + 1)
  have hsz : ∀ y, (stF rules l y).name.size ≤ maxLen := fun y => by
    have := abbr_sizeT _ (stF_ok hok y).2.2
    simp only [maxLen]; omega
  refine ⟨rfl, ?_, ?_, ?_, ?_, ?_⟩
  · simp only [begN, List.length_cons, List.length_nil]; omega
  · simp only [begN, List.length_nil]; omega
  · simp [begN]
  · intro y hy
    simp only [begN, List.mem_singleton] at hy
    rw [hy]; exact hsz _
  · intro c hc
    rw [((cands_spec hok fr te).2.1 c hc).2.2.1]
    exact hsz _
theorem ev_win (x : Td) (a c : Int) : evF x a c = (winL x.ts a c).map fun t => (t, tdTy x t) := by
  unfold evF winF winL
  rw [List.map_map]
  rfl

theorem tmFlat_at : ∀ (ms : List TdM) (k : Nat) (hk : k < ms.length) (j : Nat) (u : Value), (tdCells ms[k].td ms[k].tv)[j]? = some u → (tmFlat ms)[k * 7 + j]? = some u
  | m :: r, 0, _, j, u, h => by
    have hj : j < 7 := (Array.getElem?_eq_some_iff.mp h).1
    show (tmL m ++ tmFlat r)[0 * 7 + j]? = some u
    rw [Nat.zero_mul, Nat.zero_add, List.getElem?_append_left (by exact hj)]
    simpa using h
  | m :: r, k + 1, hk, j, u, h => by
    have := tmFlat_at r k (by simpa using hk) j u (by simpa using h)
    show (tmL m ++ tmFlat r)[(k + 1) * 7 + j]? = some u
    rw [List.getElem?_append_right (by show 7 ≤ _; omega)]
    show (tmFlat r)[(k + 1) * 7 + j - 7]? = some u
    rw [show (k + 1) * 7 + j - 7 = k * 7 + j by omega]
    exact this
/-- one of the eras with turns, as the walk uses it -/
structure EraUse (rules : List Ru) (l : List Er) (W : World) (g k : Nat) (p : Option Addr) (n c : Nat) : Prop where
  c0 : W.cell? ⟨g, k * 7, none⟩ = some (.int .i64 (tdA rules l k).er.off)
  c1 : W.cell? ⟨g, k * 7 + 1, none⟩ = some (.string (tdA rules l k).er.ru)
  c2 : W.cell? ⟨g, k * 7 + 2, none⟩ = some (.int .i64 (tdA rules l k).er.sv)
  c3 : W.cell? ⟨g, k * 7 + 3, none⟩ = some (.string (tdA rules l k).er.fm)
  c4 : W.cell? ⟨g, k * 7 + 4, none⟩ = some (.int .i64 (tdA rules l k).er.un)
  c5 : W.cell? ⟨g, k * 7 + 5, none⟩ = some (.slice p n c)
  c6 : W.cell? ⟨g, k * 7 + 6, none⟩ = some (.string (tdA rules l k).fst)
  tdat : ∀ t, Calls Tryz.prog 49 #[.agg (tdCells (tdA rules l k) (.slice p n c)), .int .i64 t] W fun e w' => e = .returned (tyV (tdTy (tdA rules l k) t)) ∧ Below W.heap.size W w'
  len : (tdA rules l k).ts.length ≤ 1500
  win : ∀ a z, Calls Tryz.prog 56 #[.agg (tdCells (tdA rules l k) (.slice p n c)), .int .i64 a, .int .i64 z] W (WinPost (winL (tdA rules l k).ts a z) W)
theorem tds_use {rules : List Ru} {l : List Er} {ms : List TdM} {v : Value} {W : World} {B : Nat} (hok : TdsOk rules l) (ho : ∀ r ∈ rules, OkRu r) (hms : ms.map (·.td) = l.map (tdR rules)) (hts : TdsAt W B v ms) (hne : 0 < l.length) (hm : MaxLen W) :
    ∃ g cap, ∃ P : Nat → Option Addr × Nat × Nat, v = .slice (some ⟨g, 0, none⟩) l.length cap ∧ l.length ≤ cap ∧ g < W.heap.size ∧ ∀ W', Below W.heap.size W W' → ∀ k, k < l.length → EraUse rules l W' g k (P k).1 (P k).2.1 (P k).2.2 := by
  have hlen : ms.length = l.length := by have := congrArg List.length hms; simpa using this
  rcases own_cells hts.row with ⟨-, h0⟩ | ⟨g, cap, hv, hb, hg, hc⟩
  · omega
  obtain ⟨hcap, -⟩ : ms.length ≤ cap ∧ True := by
    rcases hts.row.2 with ⟨-, h0⟩ | ⟨g2, cap2, cur, e, -, -, h3, -⟩
    · omega
    · rw [hv] at e
      simp only [Value.slice.injEq, true_and] at e
      obtain ⟨-, rfl⟩ := e
      exact ⟨h3, trivial⟩
  have hex : ∀ k, ∃ t : Option Addr × Nat × Nat, ∀ hk : k < ms.length, ms[k].tv = .slice t.1 t.2.1 t.2.2 ∧ t.2.1 = ms[k].td.ts.length := by
    intro k
    by_cases hk : k < ms.length
    · obtain ⟨p, c, e⟩ := own_sliceN (hts.ts ms[k] (List.getElem_mem hk))
      exact ⟨(p, _, c), fun _ => ⟨e, rfl⟩⟩
    · exact ⟨(none, 0, 0), fun h => absurd h hk⟩
  obtain ⟨P, hP⟩ := Classical.axiomOfChoice hex
  refine ⟨g, cap, P, by rw [hv, hlen], by omega, hg, fun W' hb' k hk => ?_⟩
  have hkm : k < ms.length := by omega
  have etd : ms[k].td = tdA rules l k := by
    unfold tdA
    rw [eraAt_in _ _ hk]
    have : (ms.map (·.td))[k]'(by simpa using hkm) = (l.map (tdR rules))[k]'(by simpa using hk) := by congr 1
    simpa using this
  have hrow := hts.ts ms[k] (List.getElem_mem hkm)
  rw [etd] at hrow
  have hcl : ∀ j u, (tdCells (tdA rules l k) ms[k].tv)[j]? = some u → W'.cell? ⟨g, k * 7 + j, none⟩ = some u := by
    intro j u hu
    rw [← etd] at hu
    exact (hb'.cell (p := ⟨g, k * 7 + j, none⟩) hg).trans (hc _ _ (tmFlat_at ms k hkm j u hu))
  obtain ⟨hp1, hp2⟩ := hP k hkm
  rw [etd] at hp2
  rw [hp1] at hrow hcl
  generalize P k = t at hrow hcl hp2
  obtain ⟨p, n, c⟩ := t
  dsimp only at hrow hcl hp2 ⊢
  subst hp2
  have hx : EraOk rules (eraAt l k) := by rw [eraAt_in _ _ hk]; exact hok.o.ok _ (List.getElem_mem hk)
  have hlen5 : (tdA rules l k).ts.length ≤ 1500 := tdR_len ho _
  have hrows : RowsAt tnC 3 W'.heap.size W' (.slice p (tdA rules l k).ts.length c) (tdA rules l k).ts := by
    have h1 := own_rowsT hrow (by omega)
    exact (RowsAt.below (h1.mono (Nat.le_refl _)) hb' (Nat.le_refl _)).mono hb'.size
  have he : (tdA rules l k).er = eraAt l k := tdR_er _ _
  refine ⟨hcl 0 _ rfl, hcl 1 _ rfl, hcl 2 _ rfl, hcl 3 _ rfl, hcl 4 _ rfl, hcl 5 _ rfl, hcl 6 _ rfl, fun t => ?_, hlen5, fun a z => Within_any _ _ a z W' hrows (by omega)⟩
  obtain ⟨s1, s2, s3, -⟩ := sv_ok hx t
  have ho1 := hx.o1
  have ho2 := hx.o2
  refine TdAt_any _ _ t W' hrows (hok.r k hk) (by rw [he]; omega) (by rw [he]; omega) (by rw [he]; exact abE_fm s1) (abbr_lt s1) s2 s3 (hm.below hb') (by omega)
theorem minv_in {rules : List Ru} {l : List Er} {te f : Int} {k : Nat} {F s : NS} (hk : k < l.length) (h : MInv F s (candF rules l te (l.length - k) f k)) :
    ∃ R, MInv F s (((winL (tdA rules l k).ts f (lastF l k te)).drop 0).map (fun t => (t, tdTy (tdA rules l k) t)) ++ R) ∧ (k + 1 = l.length ∨ te ≤ (eraAt l k).un → R = []) ∧
      (¬ (k + 1 = l.length ∨ te ≤ (eraAt l k).un) → R = ((eraAt l k).un, tdTy (tdA rules l (k + 1)) (eraAt l k).un) :: candF rules l te (l.length - (k + 1)) ((eraAt l k).un + 1) (k + 1)) := by
  rw [show l.length - k = (l.length - (k + 1)) + 1 by omega] at h
  rw [List.drop_zero, ← ev_win]
  by_cases c : k + 1 = l.length ∨ te ≤ (eraAt l k).un
  · rw [cand_end c] at h
    exact ⟨[], by rw [List.append_nil]; exact h, fun _ => rfl, fun g => absurd c g⟩
  · rw [cand_go c] at h
    exact ⟨_, h, fun g => absurd g c, fun _ => rfl⟩
theorem minv_next {X : Int → Ty} {F s : NS} {W : List Int} {R : List (Int × Ty)} {j : Nat} (hj : j < W.length) (h : MInv F s ((W.drop j).map (fun t => (t, X t)) ++ R)) : NSm s ∧ MInv F (stepN s (W[j], X W[j])) ((W.drop (j + 1)).map (fun t => (t, X t)) ++ R) := by
  rw [List.drop_eq_getElem_cons hj, List.map_cons, List.cons_append] at h
  exact ⟨h.small, h.step⟩
theorem minv_rest {X : Int → Ty} {F s : NS} {W : List Int} {R : List (Int × Ty)} {j : Nat} (hj : ¬ j < W.length) (h : MInv F s ((W.drop j).map (fun t => (t, X t)) ++ R)) : MInv F s R := by
  rw [List.drop_eq_nil_of_le (by omega)] at h
  exact h
/-- blocks of numbers stay -/
def KeepI (w w' : World) : Prop := ∀ (b : Nat) (cs : Array Value) (f : Nat × Nat), w.heap[b]? = some (Obj.cells cs 3 f) → w'.heap[b]? = some (Obj.cells cs 3 f)
theorem KeepI.refl (w : World) : KeepI w w := fun _ _ _ h => h
theorem KeepI.trans {a b c : World} (h : KeepI a b) (g : KeepI b c) : KeepI a c := fun x cs f e => g x cs f (h x cs f e)
theorem KeepI.below {w w' : World} (h : Below w.heap.size w w') : KeepI w w' := fun b cs f e => (h.block b (Array.getElem?_eq_some_iff.mp e).1).trans e
theorem change_int {w w' : World} {M b0 : Nat} {sv cv : Value} {s : NS} (hm : Mk w M b0 sv cv s) (hk : ∀ b, b < w.heap.size → b ≠ M → sv.ownBlock ≠ some b → cv.ownBlock ≠ some b → w'.heap[b]? = w.heap[b]?) : KeepI w w' := by
  intro b cs f e
  refine (hk b (Array.getElem?_eq_some_iff.mp e).1 (fun g => ?_) (own_type hm.rowT e (by decide)) (own_type hm.rowC e (by decide))).trans e
  have h2 := hm.blk
  rw [← g, e] at h2
  injection h2 with h2
  injection h2 with _ h3 _
  exact absurd h3 (by decide)
theorem int_row {w w' : World} {B : Nat} {v : Value} {L : List Int} (h : w.ownsRow B 3 1 v L.length (L.map (Value.int .i64))) (hk : KeepI w w') : w'.ownsRow B 3 1 v L.length (L.map (Value.int .i64)) := by
  refine own_keep h fun g e => ?_
  rcases h.2 with ⟨e1, _⟩ | ⟨g2, cap, cur, e1, _, hg, _⟩
  · rw [e1] at e; cases e
  · rw [e1] at e
    simp only [Value.ownBlock] at e
    injection e with e
    subst e
    rw [hg]
    exact hk _ _ _ hg
theorem int_cell {w : World} {B : Nat} {A : Option Addr} {c : Nat} {L : List Int} (h : w.ownsRow B 3 1 (.slice A L.length c) L.length (L.map (Value.int .i64))) {j : Nat} (hj : j < L.length) : ∃ g, A = some ⟨g, 0, none⟩ ∧ L.length ≤ c ∧ g < w.heap.size ∧ w.cell? ⟨g, j, none⟩ = some (.int .i64 L[j]) := by
  rcases own_cells h with ⟨e, h0⟩ | ⟨g, cap, e, hb, hg, hc⟩
  · omega
  · simp only [Value.slice.injEq, true_and] at e
    obtain ⟨rfl, rfl⟩ := e
    refine ⟨g, rfl, ?_, hg, hc j _ (by simp [hj])⟩
    rcases h.2 with ⟨e1, _⟩ | ⟨g2, cap, cur, e1, _, hg, h3, _⟩
    · cases e1
    · simp only [Value.slice.injEq, true_and] at e1
      obtain ⟨-, rfl⟩ := e1
      exact h3
end Go.Proofs.YtomahddiclkepaaGreatDoor
namespace Go.Proofs.YtomahddiclkepaaGreatDoor
open Go.RowKit Go.Joins Go.Maps
open Classical
set_option linter.unusedVariables false
set_option linter.unusedSimpArgs false

theorem own_less {W : World} {B B' : Nat} {e : TypeId} {s n : Nat} {v : Value} {xs : List Value} (h : W.ownsRow B e s v n xs) (hb : B' ≤ B) : W.ownsRow B' e s v n xs :=
  ⟨h.1, h.2.imp id fun ⟨g, cap, cur, a, b, c⟩ => ⟨g, cap, cur, a, Nat.le_trans hb b, c⟩⟩
structure TJ (W5 : World) (M b0 : Nat) (s : NS) (c : Int × Ty) (wx : World) : Prop where
  b : Below W5.heap.size W5 wx
  j : ∃ s' sv cv, (s' = s ∨ s' = stepN s c) ∧ NSm s' ∧ Mk wx M b0 sv cv s'
def MkD (M b0 : Nat) (s : NS) (c : Int × Ty) (w : World) : Prop := ∃ sv cv, Mk w M b0 sv cv (stepN s c)
theorem TJ.drew {W5 : World} {M b0 : Nat} {s : NS} {c : Int × Ty} {wx : World} (h : TJ W5 M b0 s c wx) : TJ W5 M b0 s c wx.drew := by
  obtain ⟨s', sv, cv, a, n, m⟩ := h.j
  exact ⟨h.b.drew, s', sv, cv, a, n, m.keep fun b hb => rfl⟩
theorem TJ.next {W5 : World} {M b0 : Nat} {s : NS} {c : Int × Ty} {wx w' : World} (h : TJ W5 M b0 s c wx) (hb : Below wx.heap.size wx w') : TJ W5 M b0 s c w' := by
  obtain ⟨s', sv, cv, a, n, m⟩ := h.j
  exact ⟨h.b.trans (hb.mono h.b.size), s', sv, cv, a, n, m.keep fun b hl => hb.block b hl⟩
theorem stepN_twice (s : NS) (c : Int × Ty) : stepN (stepN s c) c = stepN s c := by
  by_cases h : c.2 = s.last
  · have e : stepN s c = s := by unfold stepN; rw [if_pos h]
    rw [e, e]
  · have e : (stepN s c).last = c.2 := by unfold stepN; rw [if_neg h]
    show (if c.2 = (stepN s c).last then stepN s c else _) = _
    rw [if_pos e.symm]
theorem TJ.change {W5 : World} {M b0 : Nat} {s : NS} {t : Int} {x : Ty} {wx : World} (h : TJ W5 M b0 s (t, x) wx) (hn : NSm (stepN s (t, x))) (hb : W5.heap.size ≤ b0) :
    Calls Tryz.prog 57 #[.pointer (some ⟨M, 0, none⟩), .int .i64 t, tyV x] wx fun e w' => e = .returned (.tuple #[]) ∧ TJ W5 M b0 s (t, x) w' ∧ MkD M b0 s (t, x) w' := by
  obtain ⟨s', sv, cv, a, n, m⟩ := h.j
  refine (Change_any M b0 sv cv s' t x wx m (by have h1 := m.hM; have h2 := m.lt; omega) n).mono fun e w' h => ?_
  obtain ⟨h1, ⟨sv2, cv2, h2⟩, h3⟩ := h
  have e2 : stepN s' (t, x) = stepN s (t, x) := by
    rcases a with rfl | rfl
    · rfl
    · exact stepN_twice _ _
  rw [e2] at h2
  exact ⟨h1, ⟨‹TJ W5 M b0 s (t, x) wx›.b.trans (h3.mono hb), _, sv2, cv2, .inr rfl, hn, h2⟩, sv2, cv2, h2⟩
def tailAt : Code → Nat → Code
  | c, 0 => c
  | .seq _ b, n + 1 => tailAt b n
  | c, _ + 1 => c
def tailOf (f : Func) (n : Nat) : Code := tailAt (f.body.getD .skip) n

set_option maxRecDepth 1000000 in
set_option maxHeartbeats 20000000 in
theorem Tm_tail (rules : List Ru) (l : List Er) (fr te : Int) (F : NS) (S : Int × Tab) (x0 : Ty) (w W5 w8 : World) (sp rb g cap M b0 k0 : Nat) (P : Nat → Option Addr × Nat × Nat) (sv cv : Value) (z0 z1 z2 z3 z4 z7 z9 z10 z11 z12 z13 z14 z18 z19 z20 z21 z22 z23 z24 z25 z26 z27 z28 z29 z30 z31 z32 z33 z34 z35 z36 z37 z38 z39 z40 z41 z42 z43 z44 z45 z46 z47 z48 z49 z50 z51 z52 z53 z54 z55 z56 z57 z58 z59 z60 z61 z62 z63 z64 z65 z66 z67 z68 z69 z70 z71 z72 z73 z74 z75 z76 z77 z78 z79 z80 z81 z82 z83 z84 z85 z86 z87 z88 z89 z90 z91 z92 z93 z94 z95 z96 z97 z98 z99 z100 z101 z102 z103 z104 z105 z106 z107 z108 z109 z110 z111 z112 z113 z114 z115 z116 z117 z118 z119 z120 z121 z122 z123 z124 z125 z126 z127 z128 z129 z130 z131 z132 z133 z134 z135 z136 z137 z138 z139 z140 z141 z142 z143 z144 z145 z146 z147 z148 z149 z150 z151 z152 z153 z154 z155 z156 z157 z158 z159 z160 z161 z162 z163 z164 z165 z166 z167 z168 z169 z170 z171 z172 z173 z174 z175 z176 z177 z178 z179 z180 z181 z182 z183 z184 z185 z186 z187 z188 z189 z190 z191 z192 z193 z194 z195 z196 z197 z198 z199 z200 z201 z202 z203 z204 z205 z206 z207 : Value)
    (hf1 : -4611686018427387904 ≤ fr) (hf2 : fr ≤ 4611686018427387904) (ht1 : -4611686018427387904 ≤ te) (ht2 : te ≤ 4611686018427387904)
    (HE0 : Hid (ErasOk rules l)) (hcap : l.length ≤ cap) (hg5 : g < W5.heap.size) (hk0 : k0 < l.length) (hb05 : W5.heap.size ≤ b0) (hb08 : b0 ≤ w8.heap.size)
    (HUSE : Hid (∀ W', Below W5.heap.size W5 W' → ∀ k, k < l.length → EraUse rules l W' g k (P k).1 (P k).2.1 (P k).2.2))
    (HMI : Hid (MInv F (begN x0) (candF rules l te (l.length - k0) (fr + 1) k0))) (HMK : Hid (Mk w8 M b0 sv cv (begN x0))) (HB58 : Hid (Below W5.heap.size W5 w8))
    (SPAN : Hid (∀ W', Below W5.heap.size W5 W' → W'.cell? ⟨sp, 0, none⟩ = some (.int .i64 fr) ∧ W'.cell? ⟨sp, 1, none⟩ = some (.int .i64 te)))
    (RES : Hid (∀ W', Below W5.heap.size W5 W' → W'.cell? ⟨rb, 0, none⟩ = some (.slice none 0 0) ∧ W'.cell? ⟨rb, 1, none⟩ = some (.int .i64 0) ∧ W'.cell? ⟨rb, 2, none⟩ = some (.slice none 0 0) ∧ W'.frozen? ⟨rb, 0, none⟩ = false ∧ W'.frozen? ⟨rb, 1, none⟩ = false ∧ W'.frozen? ⟨rb, 2, none⟩ = false))
    (FIN : Hid (∀ (W' : World) (R : Int × Tab) (u v : Value), Below W5.heap.size W5 W' → S = R → W'.ownsRow W5.heap.size 51 3 u R.2.types.length (tyCells R.2.types) → W'.ownsRow W5.heap.size 61 2 v R.2.chs.length (chCells R.2.chs) → ∃ W9, ((W'.setCell ⟨rb, 0, none⟩ u).setCell ⟨rb, 1, none⟩ (.int .i64 0)).setCell ⟨rb, 2, none⟩ v = W9 ∧ W9.cell? ⟨rb, 0, none⟩ = some u ∧ W9.cell? ⟨rb, 1, none⟩ = some (.int .i64 0) ∧ W9.cell? ⟨rb, 2, none⟩ = some v ∧ MkTPost S w (.returned (.tuple #[.agg #[u, .int .i64 0, v], .int .i64 R.1])) W9))
    (HSF : Hid (S = if 250 < F.types.length ∨ 1000 < F.chs.length then (2, zTab) else (0, ⟨F.types, 0, F.chs⟩))) :
    Code.wp Tryz.prog (tailOf Tryz.f24 10) (bodyPost Tryz.prog Tryz.f24 (MkTPost S w)) ⟨#[z0, z1, z2, z3, z4, .pointer (some ⟨sp, 0, none⟩), .pointer (some ⟨rb, 0, none⟩), z7, .func (.func 54) #[] #[], z9, z10, z11, z12, z13, z14, .slice (some ⟨g, 0, none⟩) l.length cap, .int .i64 (k0 : Nat), .pointer (some ⟨M, 0, none⟩), z18, z19, z20, z21, z22, z23, z24, z25, z26, z27, z28, z29, z30, z31, z32, z33, z34, z35, z36, z37, z38, z39, z40, z41, z42, z43, z44, z45, z46, z47, z48, z49, z50, z51, z52, z53, z54, z55, z56, z57, z58, z59, z60, z61, z62, z63, z64, z65, z66, z67, z68, z69, z70, z71, z72, z73, z74, z75, z76, z77, z78, z79, z80, z81, z82, z83, z84, z85, z86, z87, z88, z89, z90, z91, z92, z93, z94, z95, z96, z97, z98, z99, z100, z101, z102, z103, z104, z105, z106, z107, z108, z109, z110, z111, z112, z113, z114, z115, z116, z117, z118, z119, z120, z121, z122, z123, z124, z125, z126, z127, z128, z129, z130, z131, z132, z133, z134, z135, z136, z137, z138, z139, z140, z141, z142, z143, z144, z145, z146, z147, z148, z149, z150, z151, z152, z153, z154, z155, z156, z157, z158, z159, z160, z161, z162, z163, z164, z165, z166, z167, z168, z169, z170, z171, z172, z173, z174, z175, z176, z177, z178, z179, z180, z181, z182, z183, z184, z185, z186, z187, z188, z189, z190, z191, z192, z193, z194, z195, z196, z197, z198, z199, z200, z201, z202, z203, z204, z205, z206, z207], []⟩ w8 := by
  obtain ⟨g3, g4⟩ := SPAN.out w8 HB58.out
  show Code.wp _ (Code.seq _ _) _ _ _
  dsimp only [tailOf, Tryz.f24, Option.getD, tailAt]
  go_wp2_with fail
  have hfr1 : IntKind.i64.wrap (fr + 1) = fr + 1 := IntWalk.i64_in _ (by omega)
  try rw [hfr1]
  go_loopw [16, 18] (fun v16 v18 wr => ∃ (k : Nat) (f : Int) (s : NS) (sv cv : Value), k < l.length ∧ v16 = .int .i64 k ∧ v18 = .int .i64 f ∧ Hid (MInv F s (candF rules l te (l.length - k) f k)) ∧ Hid (Mk wr M b0 sv cv s) ∧ Hid (Below W5.heap.size W5 wr)) (fun v16 _ _ => l.length - (intOf v16).toNat)
  case atStart => exact ⟨k0, fr + 1, begN x0, sv, cv, hk0, rfl, rfl, HMI, HMK, HB58⟩
  case round =>
    clear HMI HMK HB58 hb08 g3 g4
    obtain ⟨k, f, s, sv, cv, hk, rfl, rfl, HMI, HMK, HBR⟩ := hrel
    have hkz : (k : Int) < (l.length : Int) := by omega
    have hkp : (0 : Int) ≤ (k : Int) := Int.natCast_nonneg _
    have hl7 : l.length ≤ 700 := HE0.out.le
    have hzr := HBR.out.size
    have hgr : g < wr.heap.size := by omega
    obtain ⟨R, hin, hr1, hr2⟩ := minv_in hk HMI.out
    have HIN := Lib.hid hin
    have HR1 := Lib.hid hr1
    have HR2 := Lib.hid hr2
    clear hin hr1 hr2
    obtain ⟨u0, u1, u2, u3, u4, u5, u6, -, -⟩ := HUSE.out wr HBR.out k hk
    obtain ⟨g3, g4⟩ := SPAN.out wr HBR.out
    have hlw : IntKind.i64.wrap ((l.length : Int) - 1) = (l.length : Int) - 1 := IntWalk.i64_in _ (by omega)
    have htw : IntKind.i64.wrap (te - 1) = te - 1 := IntWalk.i64_in _ (by omega)
    have HUN := HE0.out.un k
    have her : (tdA rules l k).er.un = (eraAt l k).un := by unfold tdA; rw [tdR_er]
    have HER := Lib.hid her
    rw [← her] at HUN
    clear her
    by_cases hlast : k + 1 < l.length
    · have hl1 : (k : Int) < (l.length : Int) - 1 := by omega
      obtain ⟨hu1, hu2, -⟩ := HUN hlast
      have huw : IntKind.i64.wrap ((tdA rules l k).er.un - 1) = (tdA rules l k).er.un - 1 := IntWalk.i64_in _ (by omega)
      have HLF : Hid (lastF l k te = min (te - 1) ((tdA rules l k).er.un - 1)) := by show _ = _; unfold lastF; rw [if_pos hlast, ← HER.out]
      go_upto_region 25 with fail
      have HWI := Lib.hid ((HUSE.out wr HBR.out k hk).win f (lastF l k te))
      have HLE := Lib.hid ((HUSE.out wr HBR.out k hk).len)
      rw [HLF.out] at HWI
      go_wp2_with fail
      refine HWI.out.mono ?_
      rintro e w4 ⟨vo, rfl, hrow, hb4⟩
      have hwl := winL_le (tdA rules l k).ts f (lastF l k te)
      rw [HLF.out] at hwl
      have hle := HLE.out
      obtain ⟨WL, eWL⟩ : ∃ WL, winL (tdA rules l k).ts f (min (te - 1) ((tdA rules l k).er.un - 1)) = WL := ⟨_, rfl⟩
      rw [eWL] at hrow hwl
      dsimp only
      have HMI4 := Lib.hid HIN.out
      have eWL2 : winL (tdA rules l k).ts f (lastF l k te) = WL := by rw [HLF.out]; exact eWL
      rw [eWL2] at HMI4
      have hn15 : WL.length ≤ 1500 := by omega
      obtain ⟨A, cA, rfl⟩ := own_sliceN hrow
      have HROW := Lib.hid hrow
      have HMK4 := Lib.hid (HMK.out.keep fun b hb => hb4.block b hb)
      have HB4 := Lib.hid (HBR.out.trans (hb4.mono hzr))
      clear hrow hb4 eWL eWL2 hle hwl HLE HWI HIN HMI HMK u0 u1 u2 u3 u4 u5 u6 g3 g4
      obtain ⟨w3, rfl⟩ : ∃ x, x = wr := ⟨_, rfl⟩
      go_wp2_with fail
      go_loopw [127] (fun v127 wr => ∃ (j : Nat) (s : NS) (sv cv : Value), j ≤ WL.length ∧ v127 = .int .i64 j ∧ Hid (MInv F s ((WL.drop j).map (fun t => (t, tdTy (tdA rules l k) t)) ++ R)) ∧ Hid (Mk wr M b0 sv cv s) ∧ Hid (Below W5.heap.size W5 wr) ∧ Hid (KeepI w4 wr)) (fun v127 _ => WL.length - (intOf v127).toNat)
      case atStart => exact ⟨0, s, sv, cv, Nat.zero_le _, rfl, HMI4, HMK4, HB4, Lib.hid (KeepI.refl _)⟩
      case round =>
        clear HMI4 HMK4
        obtain ⟨j, s, sv, cv, hj, rfl, HMI, HMK, HBR, HKI⟩ := hrel
        have hzr := HBR.out.size
        have hgr : g < wr.heap.size := by omega
        by_cases hjn : j < WL.length
        · obtain ⟨hns, HM2⟩ := minv_next (X := tdTy (tdA rules l k)) hjn HMI.out
          have HNS := Lib.hid hns
          have HM3 := Lib.hid HM2
          obtain ⟨g2, rfl, hc2, hg2, hx⟩ := int_cell (int_row HROW.out HKI.out) hjn
          obtain ⟨a, ea⟩ : ∃ a, WL[j] = a := ⟨_, rfl⟩
          rw [ea] at hx HM3
          have HTA := Lib.hid ((HUSE.out wr HBR.out k hk).tdat a)
          obtain ⟨x1, ex1⟩ : ∃ x1, tdTy (tdA rules l k) a = x1 := ⟨_, rfl⟩
          rw [ex1] at HM3 HTA
          obtain ⟨u0, u1, u2, u3, u4, u5, u6, -, -⟩ := HUSE.out wr HBR.out k hk
          have hjz : (j : Int) < (WL.length : Int) := by omega
          have hjp : (0 : Int) ≤ (j : Int) := Int.natCast_nonneg _
          clear hns HM2 ea ex1 HMI
          go_wp2_with fail
          refine HTA.out.mono ?_
          rintro e w5 ⟨rfl, hb5⟩
          have HMK5 := Lib.hid (HMK.out.keep fun b hb => hb5.block b hb)
          have HB5 := Lib.hid (HBR.out.trans (hb5.mono hzr))
          have HKI5 := Lib.hid (HKI.out.trans (KeepI.below hb5))
          have hb05w : b0 ≤ w5.heap.size := by have h1 := HMK5.out.hM; have h2 := HMK5.out.lt; omega
          have HCH := Lib.hid (ChangeK_any M b0 sv cv s a x1 w5 HMK5.out hb05w HNS.out)
          clear HTA HMK hb5 hx HKI u0 u1 u2 u3 u4 u5 u6
          go_wp2_with fail
          refine HCH.out.mono ?_
          rintro e w6 ⟨rfl, ⟨sv6, cv6, hm6⟩, hb6, hk6⟩
          have HM6 := Lib.hid hm6
          have HB6 := Lib.hid (HB5.out.trans (hb6.mono hb05))
          have HKI6 := Lib.hid (HKI5.out.trans (change_int HMK5.out hk6))
          clear hm6 hb6 hk6 HCH
          go_wp2_with fail
          go_roundw
          case rel => exact ⟨j + 1, _, sv6, cv6, hjn, by go_num, HM3, HM6, HB6, HKI6⟩
          case measure => simp [intOf]; omega
        · obtain rfl : j = WL.length := by omega
          have HR0 := Lib.hid (minv_rest (X := tdTy (tdA rules l k)) hjn HMI.out)
          clear HMI HROW HKI hjn HB4
          obtain ⟨u0, u1, u2, u3, u4, u5, u6, -, -⟩ := HUSE.out wr HBR.out k hk
          obtain ⟨g3, g4⟩ := SPAN.out wr HBR.out
          have hke : ¬ (k : Int) = (l.length : Int) - 1 := by omega
          by_cases hge : te ≤ (tdA rules l k).er.un
          · go_wp2_with fail
            go_quiet (fail)
            obtain ⟨w7, e7⟩ : ∃ w7, wr.drewN nq = w7 := ⟨_, rfl⟩
            have HB7 : Hid (Below W5.heap.size W5 w7) := by rw [← e7]; exact below_drewNm HBR.out _
            have HMK7 : Hid (Mk w7 M b0 sv cv s) := by rw [← e7]; exact HMK.out.keep fun b hb => rfl
            rw [e7]
            have hz7 := HB7.out.size
            clear e7 HMK HBR
            have hR := HR1.out (.inr (by rw [← HER.out]; exact hge))
            rw [hR] at HR0
            have hsF := HR0.out.done
            rw [hsF] at HMK7
            clear hsF
            have hMl : M < w7.heap.size := HMK7.out.lt
            have HRT := Lib.hid HMK7.out.rowT
            have HRC := Lib.hid HMK7.out.rowC
            obtain ⟨A1, C1, rfl⟩ := own_sliceN HRT.out
            obtain ⟨A2, C2, rfl⟩ := own_sliceN HRC.out
            obtain ⟨m0, m1, m2, -, -, -, mz⟩ := mkCells HMK7.out.blk
            clear hR HR0 HR1 HR2 u0 u1 u2 u3 u4 u5 u6 g3 g4 HMK7
            by_cases h1 : 250 < F.types.length
            · have h1z : (250 : Int) < (F.types.length : Int) := by omega
              have hS : S = (2, zTab) := by rw [HSF.out, if_pos (by omega)]
              have HS1 := Lib.hid hS
              clear hS HSF
              go_wp2_with fail
              refine (MakeNone_any 2 _).mono ?_
              rintro e w9 ⟨rfl, hb9⟩
              have HB9 := Lib.hid (HB7.out.trans (hb9.mono hz7))
              obtain ⟨r0, r1, r2, f0, f1, f2⟩ := RES.out w9 HB9.out
              clear hb9 m0 m1 m2
              go_wp2_with fail
              obtain ⟨W9, e9, v0, v1, v2, hP⟩ := FIN.out w9 (2, zTab) (.slice none 0 0) (.slice none 0 0) HB9.out HS1.out (World.ownsRow_nil _ _ _ _) (World.ownsRow_nil _ _ _ _)
              rw [e9]
              exact bodyPost_ret (v := .tuple #[.agg #[.slice none 0 0, .int .i64 0, .slice none 0 0], .int .i64 2]) (by simp [results, Tryz.results24, go_sem, v0, v1, v2]) rfl hP
            · have h1z : ¬ (250 : Int) < (F.types.length : Int) := by omega
              by_cases h2 : 1000 < F.chs.length
              · have h2z : (1000 : Int) < (F.chs.length : Int) := by omega
                have hS : S = (2, zTab) := by rw [HSF.out, if_pos (by omega)]
                have HS1 := Lib.hid hS
                clear hS HSF
                go_wp2_with fail
                refine (MakeNone_any 2 _).mono ?_
                rintro e w9 ⟨rfl, hb9⟩
                have HB9 := Lib.hid (HB7.out.trans (hb9.mono hz7))
                obtain ⟨r0, r1, r2, f0, f1, f2⟩ := RES.out w9 HB9.out
                clear hb9 m0 m1 m2
                go_wp2_with fail
                obtain ⟨W9, e9, v0, v1, v2, hP⟩ := FIN.out w9 (2, zTab) (.slice none 0 0) (.slice none 0 0) HB9.out HS1.out (World.ownsRow_nil _ _ _ _) (World.ownsRow_nil _ _ _ _)
                rw [e9]
                exact bodyPost_ret (v := .tuple #[.agg #[.slice none 0 0, .int .i64 0, .slice none 0 0], .int .i64 2]) (by simp [results, Tryz.results24, go_sem, v0, v1, v2]) rfl hP
              · have h2z : ¬ (1000 : Int) < (F.chs.length : Int) := by omega
                have hS : S = (0, ⟨F.types, 0, F.chs⟩) := by rw [HSF.out, if_neg (by omega)]
                have HS1 := Lib.hid hS
                obtain ⟨r0, r1, r2, f0, f1, f2⟩ := RES.out w7 HB7.out
                clear hS HSF
                go_wp2_with fail
                obtain ⟨W9, e9, v0, v1, v2, hP⟩ := FIN.out w7 (0, ⟨F.types, 0, F.chs⟩) (.slice A1 F.types.length C1) (.slice A2 F.chs.length C2) HB7.out HS1.out (own_less HRT.out hb05) (own_less HRC.out hb05)
                rw [e9]
                exact bodyPost_ret (v := .tuple #[.agg #[.slice A1 F.types.length C1, .int .i64 0, .slice A2 F.chs.length C2], .int .i64 0]) (by simp [results, Tryz.results24, go_sem, v0, v1, v2]) rfl hP
          · go_wp2_with fail
            go_quiet (fail)
            obtain ⟨w7, e7⟩ : ∃ w7, wr.drewN nq = w7 := ⟨_, rfl⟩
            have HB7 : Hid (Below W5.heap.size W5 w7) := by rw [← e7]; exact below_drewNm HBR.out _
            have HMK7 : Hid (Mk w7 M b0 sv cv s) := by rw [← e7]; exact HMK.out.keep fun b hb => rfl
            rw [e7]
            have hz7 := HB7.out.size
            clear e7 HMK HBR
            have hR := HR2.out (by rw [← HER.out]; omega)
            rw [hR, ← HER.out] at HR0
            have hnm0 := HR0.out.small
            have HST := Lib.hid HR0.out.step
            obtain ⟨x1, ex1⟩ : ∃ x1, tdTy (tdA rules l (k + 1)) (tdA rules l k).er.un = x1 := ⟨_, rfl⟩
            rw [ex1] at HST
            have HSN := Lib.hid HST.out.small
            have HTJ : Hid (TJ W5 M b0 s ((tdA rules l k).er.un, x1) w7) := ⟨HB7.out, s, sv, cv, .inl rfl, hnm0, HMK7.out⟩
            have KS : Hid (∀ wx, TJ W5 M b0 s ((tdA rules l k).er.un, x1) wx → TJ W5 M b0 s ((tdA rules l k).er.un, x1) wx ∧ wx.cell? ⟨g, k * 7 + 4, none⟩ = some (.int .i64 (tdA rules l k).er.un) ∧ wx.cell? ⟨g, (k + 1) * 7, none⟩ = some (.int .i64 (tdA rules l (k + 1)).er.off) ∧ wx.cell? ⟨g, (k + 1) * 7 + 1, none⟩ = some (.string (tdA rules l (k + 1)).er.ru) ∧ wx.cell? ⟨g, (k + 1) * 7 + 2, none⟩ = some (.int .i64 (tdA rules l (k + 1)).er.sv) ∧ wx.cell? ⟨g, (k + 1) * 7 + 3, none⟩ = some (.string (tdA rules l (k + 1)).er.fm) ∧ wx.cell? ⟨g, (k + 1) * 7 + 4, none⟩ = some (.int .i64 (tdA rules l (k + 1)).er.un) ∧ wx.cell? ⟨g, (k + 1) * 7 + 5, none⟩ = some (.slice (P (k + 1)).1 (P (k + 1)).2.1 (P (k + 1)).2.2) ∧ wx.cell? ⟨g, (k + 1) * 7 + 6, none⟩ = some (.string (tdA rules l (k + 1)).fst)) := by
              show ∀ wx, _
              intro wx hb
              obtain ⟨-, -, -, -, v4, -, -, -, -⟩ := HUSE.out wx hb.b k hk
              obtain ⟨y0, y1, y2, y3, y4, y5, y6, -, -⟩ := HUSE.out wx hb.b (k + 1) hlast
              exact ⟨hb, v4, y0, y1, y2, y3, y4, y5, y6⟩
            have KR : Hid (∀ wx, TJ W5 M b0 s ((tdA rules l k).er.un, x1) wx ∧ wx.cell? ⟨g, k * 7 + 4, none⟩ = some (.int .i64 (tdA rules l k).er.un) ∧ wx.cell? ⟨g, (k + 1) * 7, none⟩ = some (.int .i64 (tdA rules l (k + 1)).er.off) ∧ wx.cell? ⟨g, (k + 1) * 7 + 1, none⟩ = some (.string (tdA rules l (k + 1)).er.ru) ∧ wx.cell? ⟨g, (k + 1) * 7 + 2, none⟩ = some (.int .i64 (tdA rules l (k + 1)).er.sv) ∧ wx.cell? ⟨g, (k + 1) * 7 + 3, none⟩ = some (.string (tdA rules l (k + 1)).er.fm) ∧ wx.cell? ⟨g, (k + 1) * 7 + 4, none⟩ = some (.int .i64 (tdA rules l (k + 1)).er.un) ∧ wx.cell? ⟨g, (k + 1) * 7 + 5, none⟩ = some (.slice (P (k + 1)).1 (P (k + 1)).2.1 (P (k + 1)).2.2) ∧ wx.cell? ⟨g, (k + 1) * 7 + 6, none⟩ = some (.string (tdA rules l (k + 1)).fst) → TJ W5 M b0 s ((tdA rules l k).er.un, x1) wx) := fun wx h => h.1
            have HTA : Hid (∀ wx, TJ W5 M b0 s ((tdA rules l k).er.un, x1) wx → Calls Tryz.prog 49 #[.agg (tdCells (tdA rules l (k + 1)) (.slice (P (k + 1)).1 (P (k + 1)).2.1 (P (k + 1)).2.2)), .int .i64 (tdA rules l k).er.un] wx fun e w' => e = .returned (tyV x1) ∧ TJ W5 M b0 s ((tdA rules l k).er.un, x1) w') := by
              show ∀ wx, _
              intro wx hb
              refine ((HUSE.out wx hb.b (k + 1) hlast).tdat (tdA rules l k).er.un).mono fun e w' h => ?_
              rw [ex1] at h
              exact ⟨h.1, hb.next h.2⟩
            have HCA : Hid (∀ wx, TJ W5 M b0 s ((tdA rules l k).er.un, x1) wx → Calls Tryz.prog 57 #[.pointer (some ⟨M, 0, none⟩), .int .i64 (tdA rules l k).er.un, tyV x1] wx fun e w' => e = .returned (.tuple #[]) ∧ TJ W5 M b0 s ((tdA rules l k).er.un, x1) w' ∧ MkD M b0 s ((tdA rules l k).er.un, x1) w') := by
              show ∀ wx, _
              intro wx hb
              exact hb.change HSN.out hb05
            obtain ⟨-, v4, y0, y1, y2, y3, y4, y5, y6⟩ := KS.out w7 HTJ.out
            have huw2 : IntKind.i64.wrap ((tdA rules l k).er.un + 1) = (tdA rules l k).er.un + 1 := IntWalk.i64_in _ (by omega)
            have hkw : IntKind.i64.wrap ((k : Int) + 1) = (k : Int) + 1 := IntWalk.i64_in _ (by omega)
            have hkz1 : (k : Int) + 1 < (l.length : Int) := by omega
            have hkp1 : (0 : Int) ≤ (k : Int) + 1 := by omega
            have hgr7 : g < w7.heap.size := by omega
            have hkb : ((k : Int) == (l.length : Int) - 1) = false := by simpa using hke
            clear hR HR0 HR1 HR2 u0 u1 u2 u3 u4 u5 u6 g3 g4 HMK7 hnm0 HB7 ex1 HER HLF hl1 huw HUN
            go_wp2_with fail
            all_goals try (exfalso; first | omega | (rename _ ∨ _ => hh; rcases hh with hh | hh <;> first | omega | (rw [hkb] at hh; cases hh)))
            go_region_held3 (fun wx => TJ W5 M b0 s ((tdA rules l k).er.un, x1) wx ∧ wx.cell? ⟨g, k * 7 + 4, none⟩ = some (.int .i64 (tdA rules l k).er.un) ∧ wx.cell? ⟨g, (k + 1) * 7, none⟩ = some (.int .i64 (tdA rules l (k + 1)).er.off) ∧ wx.cell? ⟨g, (k + 1) * 7 + 1, none⟩ = some (.string (tdA rules l (k + 1)).er.ru) ∧ wx.cell? ⟨g, (k + 1) * 7 + 2, none⟩ = some (.int .i64 (tdA rules l (k + 1)).er.sv) ∧ wx.cell? ⟨g, (k + 1) * 7 + 3, none⟩ = some (.string (tdA rules l (k + 1)).er.fm) ∧ wx.cell? ⟨g, (k + 1) * 7 + 4, none⟩ = some (.int .i64 (tdA rules l (k + 1)).er.un) ∧ wx.cell? ⟨g, (k + 1) * 7 + 5, none⟩ = some (.slice (P (k + 1)).1 (P (k + 1)).2.1 (P (k + 1)).2.2) ∧ wx.cell? ⟨g, (k + 1) * 7 + 6, none⟩ = some (.string (tdA rules l (k + 1)).fst)) ((refine KS.out _ ?_; repeat (first | (with_reducible assumption) | (with_reducible exact HTJ.out) | (with_reducible refine TJ.drew ?_)))) (first
              | (go_at_call 49; refine (HTA.out _ (KR.out _ (by assumption))).mono ?_; rintro e w8 ⟨rfl, hj8⟩)
              | (go_at_call 57; refine (HCA.out _ (KR.out _ (by assumption))).mono ?_; rintro e w9 ⟨rfl, hj9, hd9⟩))
            go_wp2_with fail
            obtain ⟨sv9, cv9, hm9⟩ := hd9
            go_roundw
            case rel => exact ⟨k + 1, (tdA rules l k).er.un + 1, _, sv9, cv9, hlast, by go_num, rfl, HST, Lib.hid hm9, Lib.hid hj9.b⟩
            case measure => simp [intOf]; omega
    · have hl1 : ¬ (k : Int) < (l.length : Int) - 1 := by omega
      have HLF : Hid (lastF l k te = te - 1) := by show _ = _; unfold lastF; rw [if_neg hlast]
      go_upto_region 25 with fail
      have HWI := Lib.hid ((HUSE.out wr HBR.out k hk).win f (lastF l k te))
      have HLE := Lib.hid ((HUSE.out wr HBR.out k hk).len)
      rw [HLF.out] at HWI
      go_wp2_with fail
      refine HWI.out.mono ?_
      rintro e w4 ⟨vo, rfl, hrow, hb4⟩
      have hwl := winL_le (tdA rules l k).ts f (lastF l k te)
      rw [HLF.out] at hwl
      have hle := HLE.out
      obtain ⟨WL, eWL⟩ : ∃ WL, winL (tdA rules l k).ts f (te - 1) = WL := ⟨_, rfl⟩
      rw [eWL] at hrow hwl
      dsimp only
      have HMI4 := Lib.hid HIN.out
      have eWL2 : winL (tdA rules l k).ts f (lastF l k te) = WL := by rw [HLF.out]; exact eWL
      rw [eWL2] at HMI4
      have hn15 : WL.length ≤ 1500 := by omega
      obtain ⟨A, cA, rfl⟩ := own_sliceN hrow
      have HROW := Lib.hid hrow
      have HMK4 := Lib.hid (HMK.out.keep fun b hb => hb4.block b hb)
      have HB4 := Lib.hid (HBR.out.trans (hb4.mono hzr))
      clear hrow hb4 eWL eWL2 hle hwl HLE HWI HIN HMI HMK u0 u1 u2 u3 u4 u5 u6 g3 g4
      obtain ⟨w3, rfl⟩ : ∃ x, x = wr := ⟨_, rfl⟩
      go_wp2_with fail
      go_loopw [127] (fun v127 wr => ∃ (j : Nat) (s : NS) (sv cv : Value), j ≤ WL.length ∧ v127 = .int .i64 j ∧ Hid (MInv F s ((WL.drop j).map (fun t => (t, tdTy (tdA rules l k) t)) ++ R)) ∧ Hid (Mk wr M b0 sv cv s) ∧ Hid (Below W5.heap.size W5 wr) ∧ Hid (KeepI w4 wr)) (fun v127 _ => WL.length - (intOf v127).toNat)
      case atStart => exact ⟨0, s, sv, cv, Nat.zero_le _, rfl, HMI4, HMK4, HB4, Lib.hid (KeepI.refl _)⟩
      case round =>
        clear HMI4 HMK4
        obtain ⟨j, s, sv, cv, hj, rfl, HMI, HMK, HBR, HKI⟩ := hrel
        have hzr := HBR.out.size
        have hgr : g < wr.heap.size := by omega
        by_cases hjn : j < WL.length
        · obtain ⟨hns, HM2⟩ := minv_next (X := tdTy (tdA rules l k)) hjn HMI.out
          have HNS := Lib.hid hns
          have HM3 := Lib.hid HM2
          obtain ⟨g2, rfl, hc2, hg2, hx⟩ := int_cell (int_row HROW.out HKI.out) hjn
          obtain ⟨a, ea⟩ : ∃ a, WL[j] = a := ⟨_, rfl⟩
          rw [ea] at hx HM3
          have HTA := Lib.hid ((HUSE.out wr HBR.out k hk).tdat a)
          obtain ⟨x1, ex1⟩ : ∃ x1, tdTy (tdA rules l k) a = x1 := ⟨_, rfl⟩
          rw [ex1] at HM3 HTA
          obtain ⟨u0, u1, u2, u3, u4, u5, u6, -, -⟩ := HUSE.out wr HBR.out k hk
          have hjz : (j : Int) < (WL.length : Int) := by omega
          have hjp : (0 : Int) ≤ (j : Int) := Int.natCast_nonneg _
          clear hns HM2 ea ex1 HMI
          go_wp2_with fail
          refine HTA.out.mono ?_
          rintro e w5 ⟨rfl, hb5⟩
          have HMK5 := Lib.hid (HMK.out.keep fun b hb => hb5.block b hb)
          have HB5 := Lib.hid (HBR.out.trans (hb5.mono hzr))
          have HKI5 := Lib.hid (HKI.out.trans (KeepI.below hb5))
          have hb05w : b0 ≤ w5.heap.size := by have h1 := HMK5.out.hM; have h2 := HMK5.out.lt; omega
          have HCH := Lib.hid (ChangeK_any M b0 sv cv s a x1 w5 HMK5.out hb05w HNS.out)
          clear HTA HMK hb5 hx HKI u0 u1 u2 u3 u4 u5 u6
          go_wp2_with fail
          refine HCH.out.mono ?_
          rintro e w6 ⟨rfl, ⟨sv6, cv6, hm6⟩, hb6, hk6⟩
          have HM6 := Lib.hid hm6
          have HB6 := Lib.hid (HB5.out.trans (hb6.mono hb05))
          have HKI6 := Lib.hid (HKI5.out.trans (change_int HMK5.out hk6))
          clear hm6 hb6 hk6 HCH
          go_wp2_with fail
          go_roundw
          case rel => exact ⟨j + 1, _, sv6, cv6, hjn, by go_num, HM3, HM6, HB6, HKI6⟩
          case measure => simp [intOf]; omega
        · obtain rfl : j = WL.length := by omega
          have HR0 := Lib.hid (minv_rest (X := tdTy (tdA rules l k)) hjn HMI.out)
          clear HMI HROW HKI hjn HB4
          obtain ⟨u0, u1, u2, u3, u4, u5, u6, -, -⟩ := HUSE.out wr HBR.out k hk
          obtain ⟨g3, g4⟩ := SPAN.out wr HBR.out
          have hke : (k : Int) = (l.length : Int) - 1 := by omega
          go_wp2_with fail
          go_quiet (fail)
          obtain ⟨w7, e7⟩ : ∃ w7, wr.drewN nq = w7 := ⟨_, rfl⟩
          have HB7 : Hid (Below W5.heap.size W5 w7) := by rw [← e7]; exact below_drewNm HBR.out _
          have HMK7 : Hid (Mk w7 M b0 sv cv s) := by rw [← e7]; exact HMK.out.keep fun b hb => rfl
          rw [e7]
          have hz7 := HB7.out.size
          clear e7 HMK HBR
          have hR := HR1.out (.inl (by omega))
          rw [hR] at HR0
          have hsF := HR0.out.done
          rw [hsF] at HMK7
          clear hsF
          have hMl : M < w7.heap.size := HMK7.out.lt
          have HRT := Lib.hid HMK7.out.rowT
          have HRC := Lib.hid HMK7.out.rowC
          obtain ⟨A1, C1, rfl⟩ := own_sliceN HRT.out
          obtain ⟨A2, C2, rfl⟩ := own_sliceN HRC.out
          obtain ⟨m0, m1, m2, -, -, -, mz⟩ := mkCells HMK7.out.blk
          clear hR HR0 HR1 HR2 u0 u1 u2 u3 u4 u5 u6 g3 g4 HMK7
          by_cases h1 : 250 < F.types.length
          · have h1z : (250 : Int) < (F.types.length : Int) := by omega
            have hS : S = (2, zTab) := by rw [HSF.out, if_pos (by omega)]
            have HS1 := Lib.hid hS
            clear hS HSF
            go_wp2_with fail
            refine (MakeNone_any 2 _).mono ?_
            rintro e w9 ⟨rfl, hb9⟩
            have HB9 := Lib.hid (HB7.out.trans (hb9.mono hz7))
            obtain ⟨r0, r1, r2, f0, f1, f2⟩ := RES.out w9 HB9.out
            clear hb9 m0 m1 m2
            go_wp2_with fail
            obtain ⟨W9, e9, v0, v1, v2, hP⟩ := FIN.out w9 (2, zTab) (.slice none 0 0) (.slice none 0 0) HB9.out HS1.out (World.ownsRow_nil _ _ _ _) (World.ownsRow_nil _ _ _ _)
            rw [e9]
            exact bodyPost_ret (v := .tuple #[.agg #[.slice none 0 0, .int .i64 0, .slice none 0 0], .int .i64 2]) (by simp [results, Tryz.results24, go_sem, v0, v1, v2]) rfl hP
          · have h1z : ¬ (250 : Int) < (F.types.length : Int) := by omega
            by_cases h2 : 1000 < F.chs.length
            · have h2z : (1000 : Int) < (F.chs.length : Int) := by omega
              have hS : S = (2, zTab) := by rw [HSF.out, if_pos (by omega)]
              have HS1 := Lib.hid hS
              clear hS HSF
              go_wp2_with fail
              refine (MakeNone_any 2 _).mono ?_
              rintro e w9 ⟨rfl, hb9⟩
              have HB9 := Lib.hid (HB7.out.trans (hb9.mono hz7))
              obtain ⟨r0, r1, r2, f0, f1, f2⟩ := RES.out w9 HB9.out
              clear hb9 m0 m1 m2
              go_wp2_with fail
              obtain ⟨W9, e9, v0, v1, v2, hP⟩ := FIN.out w9 (2, zTab) (.slice none 0 0) (.slice none 0 0) HB9.out HS1.out (World.ownsRow_nil _ _ _ _) (World.ownsRow_nil _ _ _ _)
              rw [e9]
              exact bodyPost_ret (v := .tuple #[.agg #[.slice none 0 0, .int .i64 0, .slice none 0 0], .int .i64 2]) (by simp [results, Tryz.results24, go_sem, v0, v1, v2]) rfl hP
            · have h2z : ¬ (1000 : Int) < (F.chs.length : Int) := by omega
              have hS : S = (0, ⟨F.types, 0, F.chs⟩) := by rw [HSF.out, if_neg (by omega)]
              have HS1 := Lib.hid hS
              obtain ⟨r0, r1, r2, f0, f1, f2⟩ := RES.out w7 HB7.out
              clear hS HSF
              go_wp2_with fail
              obtain ⟨W9, e9, v0, v1, v2, hP⟩ := FIN.out w7 (0, ⟨F.types, 0, F.chs⟩) (.slice A1 F.types.length C1) (.slice A2 F.chs.length C2) HB7.out HS1.out (own_less HRT.out hb05) (own_less HRC.out hb05)
              rw [e9]
              exact bodyPost_ret (v := .tuple #[.agg #[.slice A1 F.types.length C1, .int .i64 0, .slice A2 F.chs.length C2], .int .i64 0]) (by simp [results, Tryz.results24, go_sem, v0, v1, v2]) rfl hP
end Go.Proofs.YtomahddiclkepaaGreatDoor
