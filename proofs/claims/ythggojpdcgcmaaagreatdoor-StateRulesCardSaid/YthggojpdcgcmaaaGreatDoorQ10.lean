/- state.At: which type it is at a time, by a book. Rows of literals. A type's comparison. The closed fact of states. A law's argument of type Rule, as it comes in. A law's argument of type Book, as it comes in. -/
import Derived.Test.YthggojpdcgcmaaaGreatDoorQ09
import Derived.Test.YthggojpdcgcmaaaGreatDoorQ02
import Derived.WalkKit
import Derived.Laws.StructEq
import Derived.Test.YthggojpdcgcmaaaGreatDoorQ08
import Derived.Deep.Slices
import Derived.Deep.Fields
import Derived.ChangeSame
import Derived.Lib.SmallJoins
import Derived.SizedLaws
namespace Go.Proofs.YthggojpdcgcmaaaGreatDoor
open Go.RowKit Go.Joins Go.Maps
open Classical
set_option linter.unusedVariables false
set_option linter.unusedSimpArgs false

def StPost (S : Int × Ty) (w : World) (e : Ending) (w' : World) : Prop := e = .returned (.tuple #[tyV S.2, .int .i64 S.1]) ∧ Below w.heap.size w w'
theorem StPost.mk {S : Int × Ty} {c : Int} {T : Ty} {w w' : World} (h : S = (c, T)) (hb : Below w.heap.size w w') : StPost S w (.returned (.tuple #[.agg #[.int .i64 T.off, .bool T.save, .string T.name], .int .i64 c])) w' := by
  subst h
  exact ⟨rfl, hb⟩
/-- a part of a row: one of its members -/
theorem rows_at {α : Type} {cells : α → List Value} {k B : Nat} {W : World} {p : Option Addr} {c : Nat} {l : List α} (h : RowsAt cells k B W (.slice p l.length c) l) (i : Nat) (hi : i < l.length) : ∃ b o, p = some ⟨b, o, none⟩ ∧ RowsAt cells k B W (.slice (some ⟨b, o + i * k, none⟩) 1 (c - i)) [l[i]] := by
  obtain ⟨p2, c2, e, ⟨h1, h2⟩, hat⟩ := h
  simp only [Value.slice.injEq, true_and] at e
  obtain ⟨rfl, rfl⟩ := e
  obtain ⟨b, o, rfl, hb, hc⟩ := hat (List.ne_nil_of_length_pos (by omega))
  refine ⟨b, o, rfl, _, _, rfl, ⟨by simp, by simp; omega⟩, fun _ => ⟨b, o + i * k, rfl, hb, fun j hj m u hu => ?_⟩⟩
  obtain rfl : j = 0 := by simpa using hj
  rw [Nat.zero_mul, Nat.add_zero]
  exact hc i hi m u hu
theorem tds_one {W : World} {B : Nat} {v : Value} {ms : List TdM} {x : Td} (h : TdsAt W B v ms) (hm : ms.map (·.td) = [x]) : ∃ g cap tv, v = .slice (some ⟨g, 0, none⟩) 1 cap ∧ B ≤ g ∧ g < W.heap.size ∧ (∀ j u, (tdCells x tv)[j]? = some u → W.cell? ⟨g, j, none⟩ = some u) ∧ W.ownsRow B 44 3 tv x.ts.length (tnCells x.ts) := by
  cases ms with
  | nil => cases hm
  | cons m r =>
    cases r with
    | cons a r => cases hm
    | nil =>
      simp only [List.map_cons, List.map_nil, List.cons.injEq, and_true] at hm
      subst hm
      rcases own_cells h.row with ⟨-, h0⟩ | ⟨g, cap, rfl, hb, hg, hc⟩
      · cases h0
      · refine ⟨g, cap, m.tv, rfl, hb, hg, fun j u hu => ?_, h.ts m (List.mem_singleton.2 rfl)⟩
        refine hc j u ?_
        show (tmL m ++ [])[j]? = some u
        rw [List.append_nil]
        simpa using hu

theorem abE_fm {f l : ByteArray} {s : Int} (h : abE f s l = 0) : f.size ≤ 140737488351232 := by
  have h1 := (abbrF_ok h).2.1
  unfold splitF at h1
  split at h1
  · cases h1
  · rename_i h2
    rw [Lib.size_eq]
    omega
theorem abbr_lt {f l : ByteArray} {s : Int} (h : abE f s l = 0) : l.size ≤ 140737488351232 := by
  have h1 := letter_len (abbrF_ok h).2.2.1
  rw [Lib.size_eq]
  omega
theorem tdR_len {rules : List Ru} (ho : ∀ r ∈ rules, OkRu r) (x : Er) : (tdR rules x).ts.length ≤ 1500 := by
  unfold tdR
  split
  · exact Nat.zero_le _
  · exact (mkR_len ho _ _).1

set_option maxRecDepth 100000 in
set_option maxHeartbeats 20000000 in
theorem StAt_any (MK : MakeSays) (b : Bk) (rv zv lv : Value) (nm : ByteArray) (t : Int) (w : World) (hB : BookAt w.heap.size w rv zv lv b) (hn : nm.size ≤ 140737488351232) (ht1 : -9223372036854775808 ≤ t) (ht2 : t ≤ 9223372036854775807) (hm : MaxLen w) (ht : Tab10 w) :
    Calls Tryz.prog 16 #[.agg #[rv, zv, lv], .string nm, .int .i64 t] w (StPost (stR b nm t) w) := by
  have HBK := Lib.hid hB
  obtain ⟨p1, c1, rfl, -, -⟩ := hB.r
  obtain ⟨p2, c2, rfl, -, -⟩ := hB.z
  obtain ⟨p3, c3, rfl, -, -⟩ := hB.l
  obtain ⟨W0, eW⟩ : ∃ W0, (w.alloc (.cells #[.slice p1 b.rules.length c1, .slice p2 b.zones.length c2, .slice p3 b.links.length c3] 26)).alloc (.cells #[.int .i64 0, .bool false, .string ⟨#[]⟩] 40) = W0 := ⟨_, rfl⟩
  have hb0 : Below w.heap.size w W0 := by rw [← eW]; exact ((Below.refl _ _).alloc (Nat.le_refl _) _).alloc (by simp) _
  have hbx : W0.heap[w.heap.size]? = some (.cells #[.slice p1 b.rules.length c1, .slice p2 b.zones.length c2, .slice p3 b.links.length c3] 26 (0, 0)) := by
    rw [← eW]
    exact (Below.heap_alloc _ _ _ (by simp)).trans (heap_alloc_new w _)
  have hrb : W0.heap[w.heap.size + 1]? = some (.cells #[.int .i64 0, .bool false, .string ⟨#[]⟩] 40 (0, 0)) := by
    rw [← eW]
    exact alloc_at _ _ _ (by simp)
  have hl0 : w.heap.size + 1 < W0.heap.size := by rw [← eW]; simp
  have x0 := (cell_of_row W0 _ 0 _ _ _ hbx).trans rfl
  have x1 := (cell_of_row W0 _ 1 _ _ _ hbx).trans rfl
  have x2 := (cell_of_row W0 _ 2 _ _ _ hbx).trans rfl
  have HEW := Lib.hid eW
  have HB0 := Lib.hid hb0
  have HBX := Lib.hid hbx
  have HRB := Lib.hid hrb
  have HM := Lib.hid hm
  have HT := Lib.hid ht
  have HRS := Lib.hid (Resolve_any b _ _ _ nm W0 ((hB.below hb0 (Nat.le_refl _)).baseN (by omega)) hn (hm.below hb0) (ht.below hb0))
  have HNO := Lib.hid (fun c h => stR_none (b := b) (nm := nm) (c := c) h t)
  have HSO := Lib.hid (fun z c h => stR_some (b := b) (nm := nm) (z := z) (c := c) h t)
  have HRV := Lib.hid (fun z c h => rsv_zero (b := b) (nm := nm) (z := z) (c := c) h)
  have HRN := Lib.hid (fun c h => rsv_not0 (b := b) (nm := nm) (c := c) h)
  obtain ⟨S, eS⟩ : ∃ S, stR b nm t = S := ⟨_, rfl⟩
  rw [eS] at HNO HSO ⊢
  obtain ⟨R, eR⟩ : ∃ R, rsv b nm = R := ⟨_, rfl⟩
  rw [eR] at HRS HNO HSO HRV HRN
  clear eW hb0 hbx hrb hB hm ht eS eR
  -- the end: the result's cells
  have FIN : Hid (∀ (W' : World) (c : Int) (T : Ty), Below W0.heap.size W0 W' → S = (c, T) → ∃ W9, ((W'.setCell ⟨w.heap.size + 1, 0, none⟩ (.int .i64 T.off)).setCell ⟨w.heap.size + 1, 1, none⟩ (.bool T.save)).setCell ⟨w.heap.size + 1, 2, none⟩ (.string T.name) = W9 ∧ W9.cell? ⟨w.heap.size + 1, 0, none⟩ = some (.int .i64 T.off) ∧ W9.cell? ⟨w.heap.size + 1, 1, none⟩ = some (.bool T.save) ∧ W9.cell? ⟨w.heap.size + 1, 2, none⟩ = some (.string T.name) ∧ StPost S w (.returned (.tuple #[.agg #[.int .i64 T.off, .bool T.save, .string T.name], .int .i64 c])) W9) := by
    show ∀ W' c T, _
    intro W' c T hb hS
    obtain ⟨W9, e9, hh9, hb9⟩ := end_three ((hb.block (w.heap.size + 1) hl0).trans HRB.out) (.int .i64 T.off) (.bool T.save) (.string T.name)
    exact ⟨W9, e9, (cell_of_row W9 _ 0 _ _ _ hh9).trans rfl, (cell_of_row W9 _ 1 _ _ _ hh9).trans rfl, (cell_of_row W9 _ 2 _ _ _ hh9).trans rfl, StPost.mk hS ((HB0.out.trans (hb.mono HB0.out.size)).trans (hb9 _ (by omega)))⟩
  have RES : Hid (∀ (W' : World), Below W0.heap.size W0 W' → W'.cell? ⟨w.heap.size + 1, 0, none⟩ = some (.int .i64 0) ∧ W'.cell? ⟨w.heap.size + 1, 1, none⟩ = some (.bool false) ∧ W'.cell? ⟨w.heap.size + 1, 2, none⟩ = some (.string ⟨#[]⟩) ∧ W'.frozen? ⟨w.heap.size + 1, 0, none⟩ = false ∧ W'.frozen? ⟨w.heap.size + 1, 1, none⟩ = false ∧ W'.frozen? ⟨w.heap.size + 1, 2, none⟩ = false) := by
    show ∀ W', _
    intro W' hb
    have h2 := (hb.block (w.heap.size + 1) hl0).trans HRB.out
    exact ⟨(cell_of_row W' _ 0 _ _ _ h2).trans rfl, (cell_of_row W' _ 1 _ _ _ h2).trans rfl, (cell_of_row W' _ 2 _ _ _ h2).trans rfl, by simp [World.frozen?, h2], by simp [World.frozen?, h2], by simp [World.frozen?, h2]⟩
  have BOX : Hid (∀ (W' : World), Below W0.heap.size W0 W' → W'.cell? ⟨w.heap.size, 0, none⟩ = some (.slice p1 b.rules.length c1) ∧ W'.cell? ⟨w.heap.size, 1, none⟩ = some (.slice p2 b.zones.length c2) ∧ W'.cell? ⟨w.heap.size, 2, none⟩ = some (.slice p3 b.links.length c3)) := by
    show ∀ W', _
    intro W' hb
    have h2 := (hb.block w.heap.size (by omega)).trans HBX.out
    exact ⟨(cell_of_row W' _ 0 _ _ _ h2).trans rfl, (cell_of_row W' _ 1 _ _ _ h2).trans rfl, (cell_of_row W' _ 2 _ _ _ h2).trans rfl⟩
  go_enter Tryz.func16, Tryz.ntmps16
  go_upto_region 1 with fail
  rw [HEW.out]
  go_wp2_with fail
  refine HRS.out.mono ?_
  obtain ⟨Z, C⟩ := R
  rintro e w1 ⟨vo, rfl, hrow, hb1⟩
  simp only at hrow ⊢
  have HB1 := Lib.hid hb1
  have HRW := Lib.hid hrow
  obtain ⟨A, cA, rfl⟩ := own_sliceN hrow
  obtain ⟨W2, e2⟩ : ∃ W2, w1.alloc (.cells #[.string (zNm Z), .slice A (zEr Z).length cA] 38) = W2 := ⟨_, rfl⟩
  obtain ⟨zb, ezb⟩ : ∃ zb, w1.heap.size = zb := ⟨_, rfl⟩
  have hzb : W0.heap.size ≤ zb := by rw [← ezb]; exact hb1.size
  have hx2 : W2.heap[zb]? = some (.cells #[.string (zNm Z), .slice A (zEr Z).length cA] 38 (0, 0)) := by rw [← e2]; exact alloc_at _ _ _ ezb.symm
  have hb2 : Below w1.heap.size w1 W2 := by rw [← e2]; exact (Below.refl _ _).alloc (Nat.le_refl _) _
  have hz2 : zb < W2.heap.size := by rw [← e2]; simp; omega
  have HB2 := Lib.hid (hb1.trans (hb2.mono hb1.size))
  have HX2 := Lib.hid hx2
  have HE2 := Lib.hid e2
  have HRW2 := Lib.hid (own_keep hrow fun g e => hb2.block g (World.ownsRow.lt hrow g e).2)
  clear hrow hb1 hb2 hx2 HRS HRW x0 x1 x2 e2
  go_upto_region 2 with fail
  rw [HE2.out]
  obtain ⟨r0, r1, r2, f0, f1, f2⟩ := RES.out W2 HB2.out
  cases Z with
  | none =>
    have hC := HRN.out C rfl
    have hS := HNO.out C rfl
    have hz : (C == 0) = false := by simpa using hC
    have hz2 : (!C == 0) = true := by rw [hz]; rfl
    have HF := Lib.hid (FIN.out W2 C ty0 HB2.out hS)
    clear hC hS HNO HSO HRV HRN FIN RES BOX HRW2 HX2
    go_wp2_with fail
    obtain ⟨W9, e9, v0, v1, v2, hP⟩ := HF.out
    simp only [ty0] at e9 v0 v1 v2 hP
    rw [e9]
    exact bodyPost_ret (v := .tuple #[.agg #[.int .i64 0, .bool false, .string ⟨#[]⟩], .int .i64 C]) (by simp [results, Tryz.results16, go_sem, v0, v1, v2]) rfl hP
  | some z =>
    obtain ⟨hC, hzz, hbk⟩ := HRV.out z C rfl
    subst hC
    have hS := HSO.out z 0 rfl
    have HST := Lib.hid (Stamp_any t W2 ht1 ht2 (HT.out.below (HB0.out.trans (HB2.out.mono HB0.out.size))))
    have hE0 := bk_eras hbk hzz
    have HE0 := Lib.hid hE0
    have HBKC := Lib.hid hbk
    have HSS := Lib.hid hS
    have hel := hE0.le
    have HROWE : Hid (RowsAt (fun x : Er => (erCells x).toList) 5 W2.heap.size W2 (.slice A z.eras.length cA) z.eras) := own_rowsG (cells := fun x : Er => (erCells x).toList) (k := 5) (fun _ => rfl) HRW2.out (by show z.eras.length ≤ 100000; omega)
    clear hS hzz hbk HNO HSO HRV HRN HRW2 hE0
    simp only [zNm, zEr] at HX2 HE2 ⊢
    have HROWA : Hid (∃ b o, A = some ⟨b, o, none⟩ ∧ RowsAt (fun x : Er => (erCells x).toList) 5 W2.heap.size W2 (.slice (some ⟨b, o + (whichF z.eras t) * 5, none⟩) 1 (cA - whichF z.eras t)) [eraAt z.eras (whichF z.eras t)]) := by
      show ∃ b o, _
      obtain ⟨hk, e⟩ := era_in HE0.out t
      rw [e]
      exact rows_at HROWE.out _ hk
    have hkl := (era_in HE0.out t).1
    have HXO := Lib.hid (HE0.out.ok _ (List.getElem_mem hkl))
    rw [← eraAt_in _ _ hkl] at HXO
    have hcap : z.eras.length ≤ cA := by
      obtain ⟨pp, cc, e, ⟨-, h2⟩, -⟩ := HROWE.out
      simp only [Value.slice.injEq, true_and] at e
      obtain ⟨-, rfl⟩ := e
      exact h2
    obtain ⟨E1, eE1⟩ : ∃ E1, stampE t = E1 := ⟨_, rfl⟩
    rw [eE1] at HST HSS
    obtain ⟨k, ek⟩ : ∃ k, whichF z.eras t = k := ⟨_, rfl⟩
    have HWH : Hid (∀ W, Below W2.heap.size W2 W → Calls Tryz.prog 35 #[.slice A z.eras.length cA, .int .i64 t] W fun e w' => e = .returned (.int .i64 (k : Nat)) ∧ Below W.heap.size W w') := by
      show ∀ W, _
      intro W hb
      have := Which_any (rules := b.rules) z.eras (.slice A z.eras.length cA) t W2.heap.size W (HROWE.out.below hb (Nat.le_refl _)) hb.size HE0.out
      rwa [ek] at this
    rw [ek] at HSS HROWA HXO hkl
    have hSF : stF b.rules z.eras t = tdTy (tdR b.rules (eraAt z.eras k)) t := by unfold stF tdA; rw [ek]
    rw [hSF] at HSS
    obtain ⟨x, ex⟩ : ∃ x, eraAt z.eras k = x := ⟨_, rfl⟩
    rw [ex] at HSS HROWA HXO
    clear eE1 ek hSF ex HROWE HE0
    obtain ⟨eb, eo, rfl, hrowx⟩ := HROWA.out
    have HRX := Lib.hid hrowx
    clear hrowx HROWA
    go_wp2_with fail
    refine HST.out.mono ?_
    rintro e w3 ⟨⟨s3, rfl⟩, hb3⟩
    have HB3 := Lib.hid (HB2.out.trans (hb3.mono HB2.out.size))
    have hx3 := (hb3.block zb hz2).trans HX2.out
    have q1 : w3.cell? ⟨zb, 1, none⟩ = some (.slice (some ⟨eb, eo, none⟩) z.eras.length cA) := (cell_of_row w3 _ 1 _ _ _ hx3).trans rfl
    have HBZ := Lib.hid hb3
    obtain ⟨r0, r1, r2, f0, f1, f2⟩ := RES.out w3 HB3.out
    clear hb3 HST
    by_cases hE1 : E1 = 0
    case neg =>
      have hS := HSS.out
      rw [if_pos hE1] at hS
      have hz : (E1 == 0) = false := by simpa using hE1
      have hz2 : (!E1 == 0) = true := by rw [hz]; rfl
      have HF := Lib.hid (FIN.out w3 E1 ty0 HB3.out hS)
      clear hE1 hS HSS FIN RES BOX HX2 HWH q1 hx3
      go_wp2_with fail
      obtain ⟨W9, e9, v0, v1, v2, hP⟩ := HF.out
      simp only [ty0] at e9 v0 v1 v2 hP
      rw [e9]
      exact bodyPost_ret (v := .tuple #[.agg #[.int .i64 0, .bool false, .string ⟨#[]⟩], .int .i64 E1]) (by simp [results, Tryz.results16, go_sem, v0, v1, v2]) rfl hP
    case pos =>
    subst hE1
    have HX3 := Lib.hid hx3
    have HW3 := Lib.hid (HWH.out w3 HBZ.out)
    clear hx3 HWH HX2
    go_wp2_with fail
    refine HW3.out.mono ?_
    rintro e w4 ⟨rfl, hb4⟩
    have HBZ4 := Lib.hid (HBZ.out.trans (hb4.mono HBZ.out.size))
    have HB4 := Lib.hid (HB3.out.trans (hb4.mono HB3.out.size))
    have hzb3 : zb < w3.heap.size := by have := HBZ.out.size; omega
    have hx4 := (hb4.block zb hzb3).trans HX3.out
    have q1 : w4.cell? ⟨zb, 1, none⟩ = some (.slice (some ⟨eb, eo, none⟩) z.eras.length cA) := (cell_of_row w4 _ 1 _ _ _ hx4).trans rfl
    obtain ⟨g0, g1, g2⟩ := BOX.out w4 HB4.out
    have HRU := Lib.hid (bk_rules HBKC.out)
    have HER : Hid (∀ W, Below w4.heap.size w4 W → Calls Tryz.prog 36 #[.agg #[.slice p1 b.rules.length c1, .slice p2 b.zones.length c2, .slice p3 b.links.length c3], .agg #[.string ⟨#[]⟩, .slice (some ⟨eb, eo + k * 5, none⟩) 1 (cA - k)]] W (ErasPost b.rules [x] W)) := by
      show ∀ W, _
      intro W hb
      have hbw := HB0.out.trans ((HB4.out.trans (hb.mono HB4.out.size)).mono HB0.out.size)
      have hbz := HBZ4.out.trans (hb.mono HBZ4.out.size)
      refine Eras_any MK b.rules _ _ _ ⟨#[]⟩ [x] _ W ((HBK.out.r.below hbw (Nat.le_refl _)).mono hbw.size) HRU.out.2 HRU.out.1 ((HRX.out.below hbz (Nat.le_refl _)).mono hbz.size) (fun y hy => ?_) (by simp) ⟨_, _, _, rfl⟩ ⟨_, _, _, rfl⟩
      obtain rfl := List.mem_singleton.1 hy
      have h1 := HXO.out.o1
      have h2 := HXO.out.o2
      omega
    have hkz0 : (0 : Int) ≤ (k : Int) := Int.natCast_nonneg _
    have hkz1 : (k : Int) ≤ (k : Int) + 1 := by omega
    have hkz2 : (k : Int) + 1 ≤ (cA : Int) := by omega
    have hckz : ¬ cA = k := by omega
    have hkz3 : IntKind.i64.wrap ((k : Int) + 1) = (k : Int) + 1 := IntWalk.i64_in _ (by omega)
    have hzb4 : zb < w4.heap.size := by have := hb4.size; omega
    have hw04 : W0.heap.size ≤ w4.heap.size := HB4.out.size
    have HX4 := Lib.hid hx4
    have KS : Hid (∀ wx, Below w4.heap.size w4 wx → Below w4.heap.size w4 wx ∧ wx.cell? ⟨w.heap.size, 0, none⟩ = some (.slice p1 b.rules.length c1) ∧ wx.cell? ⟨w.heap.size, 1, none⟩ = some (.slice p2 b.zones.length c2) ∧ wx.cell? ⟨w.heap.size, 2, none⟩ = some (.slice p3 b.links.length c3) ∧ wx.cell? ⟨zb, 1, none⟩ = some (.slice (some ⟨eb, eo, none⟩) z.eras.length cA)) := by
      show ∀ wx, _
      intro wx hb
      obtain ⟨a0, a1, a2⟩ := BOX.out wx (HB4.out.trans (hb.mono hw04))
      exact ⟨hb, a0, a1, a2, (hb.cell (p := ⟨zb, 1, none⟩) hzb4).trans ((cell_of_row w4 _ 1 _ _ _ HX4.out).trans rfl)⟩
    have KR : Hid (∀ wx,  Below w4.heap.size w4 wx ∧ wx.cell? ⟨w.heap.size, 0, none⟩ = some (.slice p1 b.rules.length c1) ∧ wx.cell? ⟨w.heap.size, 1, none⟩ = some (.slice p2 b.zones.length c2) ∧ wx.cell? ⟨w.heap.size, 2, none⟩ = some (.slice p3 b.links.length c3) ∧ wx.cell? ⟨zb, 1, none⟩ = some (.slice (some ⟨eb, eo, none⟩) z.eras.length cA) → Below w4.heap.size w4 wx) := fun wx h => h.1
    have eE2 : firstE (tdE b.rules) [x] = tdE b.rules x := by
      show (if tdE b.rules x = 0 then 0 else tdE b.rules x) = _
      split
      · rename_i h; exact h.symm
      · rfl
    by_cases hE2 : tdE b.rules x = 0
    case neg =>
      have HEB : Hid (∀ W, Below w4.heap.size w4 W → Calls Tryz.prog 36 #[.agg #[.slice p1 b.rules.length c1, .slice p2 b.zones.length c2, .slice p3 b.links.length c3], .agg #[.string ⟨#[]⟩, .slice (some ⟨eb, eo + k * 5, none⟩) 1 (cA - k)]] W fun e w' => e = .returned (.tuple #[.slice none 0 0, .int .i64 (tdE b.rules x)]) ∧ Below W.heap.size W w') := by
        show ∀ W, _
        intro W hb
        refine (HER.out W hb).mono fun e w' ⟨h1, h2, _⟩ => ⟨?_, h1⟩
        rw [eE2] at h2
        exact h2 hE2
      have hS := HSS.out
      rw [if_neg (by simp), if_pos hE2] at hS
      obtain ⟨E2, e2⟩ : ∃ E2, tdE b.rules x = E2 := ⟨_, rfl⟩
      rw [e2] at HEB hS hE2
      have hz : (E2 == 0) = false := by simpa using hE2
      have hzz2 : (!E2 == 0) = true := by rw [hz]; rfl
      have HSF := Lib.hid hS
      clear hb4 HX3 hx4 HW3 HER e2 eE2 hS HSS hE2
      go_wp2_with fail
      go_region_held3 (fun wx => Below w4.heap.size w4 wx ∧ wx.cell? ⟨w.heap.size, 0, none⟩ = some (.slice p1 b.rules.length c1) ∧ wx.cell? ⟨w.heap.size, 1, none⟩ = some (.slice p2 b.zones.length c2) ∧ wx.cell? ⟨w.heap.size, 2, none⟩ = some (.slice p3 b.links.length c3) ∧ wx.cell? ⟨zb, 1, none⟩ = some (.slice (some ⟨eb, eo, none⟩) z.eras.length cA)) ((refine KS.out _ ?_; repeat (first | (with_reducible assumption) | (with_reducible exact Below.refl _ _) | (with_reducible refine Below.drew ?_)))) (first | (go_at_call 36; refine (HEB.out _ (KR.out _ (by assumption))).mono ?_; rintro e w5 ⟨rfl, hb5⟩; have hB5 := ((KR.out _ (by assumption)).trans (hb5.mono (KR.out _ (by assumption)).size)); clear hb5))
      obtain ⟨r0, r1, r2, f0, f1, f2⟩ := RES.out w5 (HB4.out.trans (hB5.mono hw04))
      have HF := Lib.hid (FIN.out w5 E2 ty0 (HB4.out.trans (hB5.mono hw04)) HSF.out)
      clear hB5 HEB KS KR FIN RES BOX HX4 g0 g1 g2 q1 HSF
      go_wp2_with fail
      obtain ⟨W9, e9, v0, v1, v2, hP⟩ := HF.out
      simp only [ty0] at e9 v0 v1 v2 hP
      rw [e9]
      exact bodyPost_ret (v := .tuple #[.agg #[.int .i64 0, .bool false, .string ⟨#[]⟩], .int .i64 E2]) (by simp [results, Tryz.results16, go_sem, v0, v1, v2]) rfl hP
    case pos =>
      have hS := HSS.out
      rw [if_neg (by simp), if_neg (fun g => g hE2)] at hS
      have hXr := tdR_rises hE2
      have hXe : (tdR b.rules x).er = x := tdR_er _ _
      obtain ⟨s1, s2, s3', -⟩ := sv_ok HXO.out t
      have hfm := abE_fm s1
      have hlt := abbr_lt s1
      have HO := Lib.hid (And.intro HXO.out.o1 HXO.out.o2)
      have hXl : (tdR b.rules x).ts.length ≤ 1500 := tdR_len HRU.out.2 x
      obtain ⟨X, eX⟩ : ∃ X, tdR b.rules x = X := ⟨_, rfl⟩
      have HEG : Hid (∀ W, Below w4.heap.size w4 W → Calls Tryz.prog 36 #[.agg #[.slice p1 b.rules.length c1, .slice p2 b.zones.length c2, .slice p3 b.links.length c3], .agg #[.string ⟨#[]⟩, .slice (some ⟨eb, eo + k * 5, none⟩) 1 (cA - k)]] W fun e w' => ∃ g cap tv, e = .returned (.tuple #[.slice (some ⟨g, 0, none⟩) 1 cap, .int .i64 0]) ∧ Hid (g < w'.heap.size ∧ (∀ j u, (tdCells X tv)[j]? = some u → w'.cell? ⟨g, j, none⟩ = some u) ∧ w'.ownsRow W.heap.size 44 3 tv X.ts.length (tnCells X.ts)) ∧ Below W.heap.size W w') := by
        show ∀ W, _
        intro W hb
        refine (HER.out W hb).mono fun e w' ⟨h1, _, h2⟩ => ?_
        obtain ⟨v, ms, he, hms, htd⟩ := h2 (by rw [eE2]; exact hE2)
        rw [List.map_cons, List.map_nil, eX] at hms
        obtain ⟨g, cap, tv, rfl, -, q2, q3, q4⟩ := tds_one htd hms
        exact ⟨g, cap, tv, he, ⟨q2, q3, q4⟩, h1⟩
      rw [eX] at hS hXr hXe s2 s3' hlt hXl
      have HSF := Lib.hid hS
      have HXR := Lib.hid hXr
      have HXE := Lib.hid hXe
      have HS2 := Lib.hid (And.intro s2 s3')
      have HFM := Lib.hid hfm
      have HLT := Lib.hid hlt
      clear hb4 HX3 hx4 HW3 HER eE2 hS HSS hE2 eX hXr hXe s1 s2 s3' hfm hlt
      go_wp2_with fail
      go_region_held3 (fun wx => Below w4.heap.size w4 wx ∧ wx.cell? ⟨w.heap.size, 0, none⟩ = some (.slice p1 b.rules.length c1) ∧ wx.cell? ⟨w.heap.size, 1, none⟩ = some (.slice p2 b.zones.length c2) ∧ wx.cell? ⟨w.heap.size, 2, none⟩ = some (.slice p3 b.links.length c3) ∧ wx.cell? ⟨zb, 1, none⟩ = some (.slice (some ⟨eb, eo, none⟩) z.eras.length cA)) ((refine KS.out _ ?_; repeat (first | (with_reducible assumption) | (with_reducible exact Below.refl _ _) | (with_reducible refine Below.drew ?_)))) (first | (go_at_call 36; refine (HEG.out _ (KR.out _ (by assumption))).mono ?_; rintro e w5 ⟨g, cap, tv, rfl, hg5, hb5⟩; have hB5 := ((KR.out _ (by assumption)).trans (hb5.mono (KR.out _ (by assumption)).size)); clear hb5))
      obtain ⟨r0, r1, r2, f0, f1, f2⟩ := RES.out w5 (HB4.out.trans (hB5.mono hw04))
      have HB5 := Lib.hid (HB4.out.trans (hB5.mono hw04))
      obtain ⟨hg, hgc, hgt⟩ := hg5.out
      obtain ⟨At, cAt, rfl⟩ := own_sliceN hgt
      have y0 := hgc 0 _ rfl
      have y1 := hgc 1 _ rfl
      have y2 := hgc 2 _ rfl
      have y3 := hgc 3 _ rfl
      have y4 := hgc 4 _ rfl
      have y5 := hgc 5 _ rfl
      have y6 := hgc 6 _ rfl
      have HTA : Hid (Calls Tryz.prog 37 #[.agg (tdCells X (.slice At X.ts.length cAt)), .int .i64 t] w5 fun e w' => e = .returned (tyV (tdTy X t)) ∧ Below w5.heap.size w5 w') := by
        have ho := HO.out
        refine TdAt_any X _ t w5 ((own_rowsT hgt (by omega)).mono (Nat.le_refl _)) HXR.out (by rw [HXE.out]; omega) (by rw [HXE.out]; omega) (by rw [HXE.out]; exact HFM.out) HLT.out HS2.out.1 HS2.out.2 (HM.out.below (HB0.out.trans (HB5.out.mono HB0.out.size))) (by omega)
      have hw05 : W0.heap.size ≤ w5.heap.size := HB5.out.size
      clear hB5 HEG KS KR BOX HX4 g0 g1 g2 q1 hg5 hgc hgt HXR HS2 HFM HLT HO
      go_wp2_with fail
      refine HTA.out.mono ?_
      rintro e w6 ⟨rfl, hb6⟩
      have HB6 := Lib.hid (HB5.out.trans (hb6.mono hw05))
      obtain ⟨r0, r1, r2, f0, f1, f2⟩ := RES.out w6 HB6.out
      have HF := Lib.hid (FIN.out w6 0 (tdTy X t) HB6.out HSF.out)
      obtain ⟨T, eT⟩ : ∃ T, tdTy X t = T := ⟨_, rfl⟩
      rw [eT] at HF ⊢
      obtain ⟨tof, ts, tn⟩ := T
      clear hb6 HTA FIN RES HSF eT y0 y1 y2 y3 y4 y5 y6
      go_wp2_with fail
      obtain ⟨W9, e9, v0, v1, v2, hP⟩ := HF.out
      rw [e9]
      exact bodyPost_ret (v := .tuple #[.agg #[.int .i64 tof, .bool ts, .string tn], .int .i64 0]) (by simp [results, Tryz.results16, go_sem, v0, v1, v2]) rfl hP
end Go.Proofs.YthggojpdcgcmaaaGreatDoor
namespace Go.Proofs.YthggojpdcgcmaaaGreatDoor
open Go.RowKit Go.Joins
open Classical
set_option linter.unusedVariables false
set_option linter.unusedSimpArgs false

theorem flat_getN {α : Type} {cells : α → List Value} {k : Nat} (hk : ∀ x, (cells x).length = k) : ∀ (l : List α) (i : Nat) (h : i < l.length) (j : Nat), j < k → (l.flatMap cells)[i * k + j]? = (cells l[i])[j]?
  | [], i, h, _, _ => absurd h (by simp)
  | x :: r, 0, _, j, hj => by
    rw [List.flatMap_cons, Nat.zero_mul, Nat.zero_add, List.getElem?_append_left (by rw [hk]; exact hj)]
    rfl
  | x :: r, i + 1, h, j, hj => by
    have := flat_getN hk r i (by simpa using h) j hj
    rw [List.flatMap_cons, List.getElem?_append_right (by rw [hk, Nat.add_mul]; omega), hk, show (i + 1) * k + j - k = i * k + j by rw [Nat.add_mul]; omega, this]
    rfl
/-- a literal's row -/
theorem rows_lit {α : Type} {cells : α → List Value} {k : Nat} (hk : ∀ x, (cells x).length = k) {B g n : Nat} {W : World} {l : List α} {T : TypeId} {cs : Array Value} (h : W.heap[g]? = some (.cells cs T (0, 0))) (hcs : cs.toList = l.flatMap cells) (hn : l.length = n) (hl : n ≤ 100000) (hB : g < B) : RowsAt cells k B W (.slice (some ⟨g, 0, none⟩) n n) l := by
  subst hn
  refine ⟨_, _, rfl, ⟨by omega, Nat.le_refl _⟩, fun _ => ⟨g, 0, rfl, hB, fun i hi j u hu => ?_⟩⟩
  rw [Nat.zero_add, cell_of_row W g (i * k + j) _ _ (0, 0) h]
  have hj : j < k := by rw [← hk l[i]]; exact (List.getElem?_eq_some_iff.1 hu).1
  have := (flat_getN hk l i hi j hj).trans hu
  rw [← hcs] at this
  simpa using this
theorem rows_nilN {α : Type} {cells : α → List Value} {k B : Nat} {W : World} : RowsAt cells k B W (.slice none 0 0) [] := ⟨none, 0, rfl, ⟨by simp, by simp⟩, fun h => absurd rfl h⟩
end Go.Proofs.YthggojpdcgcmaaaGreatDoor
namespace Go.Proofs.YthggojpdcgcmaaaGreatDoor
open Go.RowKit
open Classical
set_option linter.unusedVariables false
set_option linter.unusedSimpArgs false

theorem fieldsTyN : (Tryz.prog.fieldsOf 40).toList = [{ name := "Offset", type := 3, offset := 0, embedded := false, tag := "", pkgPath := "", byteOffset := 0 }, { name := "Save", type := 4, offset := 1, embedded := false, tag := "", pkgPath := "", byteOffset := 8 }, { name := "Name", type := 9, offset := 2, embedded := false, tag := "", pkgPath := "", byteOffset := 16 }] := by kernel_rfl
theorem agg_tyN : Tryz.prog.underlying 40 = some (.struct (Tryz.prog.fieldsOf 40)) := by kernel_rfl
theorem stood_tyN : Tryz.prog.stoodInHeld 40 = false := by kernel_rfl
theorem ty_eq {x y : Ty} : x = y ↔ x.off = y.off ∧ x.save = y.save ∧ x.name = y.name := by
  cases x; cases y; simp
theorem bytes_ne {a b : ByteArray} (h : a ≠ b) : (a.toList == b.toList) = false := by
  cases he : a.toList == b.toList
  · rfl
  · have : a.toList = b.toList := by simpa using he
    rw [ByteArray.toList_eq, ByteArray.toList_eq] at this
    exact absurd (by cases a; cases b; simp_all) h
theorem eql_ty (x y : Ty) (W : World) : (binOp .eql 40 (.agg #[.int .i64 x.off, .bool x.save, .string x.name]) (.agg #[.int .i64 y.off, .bool y.save, .string y.name])).run Tryz.prog W = .ok (.bool (decide (x = y))) W := by
  rw [run_eql_struct, run_equalIn_agg W 9999 _ _ _ agg_tyN stood_tyN, fieldsTyN]
  by_cases h1 : x.off = y.off
  · by_cases h2 : x.save = y.save
    · by_cases h3 : x.name = y.name
      · have e : x = y := ty_eq.2 ⟨h1, h2, h3⟩
        simp [go_sem, Op.eqFields, Tryz.underlying3, Tryz.underlying4, Tryz.underlying9, e]
      · have e : ¬ x = y := fun e => h3 (by rw [e])
        simp [go_sem, Op.eqFields, Tryz.underlying3, Tryz.underlying4, Tryz.underlying9, e, h1, h2, bytes_ne h3]
    · have e : ¬ x = y := fun e => h2 (by rw [e])
      simp [go_sem, Op.eqFields, Tryz.underlying3, Tryz.underlying4, Tryz.underlying9, e, h1, h2]
  · have e : ¬ x = y := fun e => h1 (by rw [e])
    simp [go_sem, Op.eqFields, Tryz.underlying3, Tryz.underlying4, Tryz.underlying9, e, h1]
theorem eql_tySelf (o : Int) (s : Bool) (n : ByteArray) (W : World) : (binOp .eql 40 (.agg #[.int .i64 o, .bool s, .string n]) (.agg #[.int .i64 o, .bool s, .string n])).run Tryz.prog W = .ok (.bool true) W := by
  have := eql_ty ⟨o, s, n⟩ ⟨o, s, n⟩ W
  rwa [decide_eq_true rfl] at this
theorem neq_tyN (x y : Ty) (W : World) : (binOp .neq 40 (.agg #[.int .i64 x.off, .bool x.save, .string x.name]) (.agg #[.int .i64 y.off, .bool y.save, .string y.name])).run Tryz.prog W = .ok (.bool (!decide (x = y))) W := by
  rw [run_neq_struct, run_equalIn_agg W 9999 _ _ _ agg_tyN stood_tyN, fieldsTyN]
  by_cases h1 : x.off = y.off
  · by_cases h2 : x.save = y.save
    · by_cases h3 : x.name = y.name
      · have e : x = y := ty_eq.2 ⟨h1, h2, h3⟩
        simp [go_sem, Op.eqFields, Tryz.underlying3, Tryz.underlying4, Tryz.underlying9, e]
      · have e : ¬ x = y := fun e => h3 (by rw [e])
        simp [go_sem, Op.eqFields, Tryz.underlying3, Tryz.underlying4, Tryz.underlying9, e, h1, h2, bytes_ne h3]
    · have e : ¬ x = y := fun e => h2 (by rw [e])
      simp [go_sem, Op.eqFields, Tryz.underlying3, Tryz.underlying4, Tryz.underlying9, e, h1, h2]
  · have e : ¬ x = y := fun e => h1 (by rw [e])
    simp [go_sem, Op.eqFields, Tryz.underlying3, Tryz.underlying4, Tryz.underlying9, e, h1]
theorem neq_tySelf (o : Int) (s : Bool) (n : ByteArray) (W : World) : (binOp .neq 40 (.agg #[.int .i64 o, .bool s, .string n]) (.agg #[.int .i64 o, .bool s, .string n])).run Tryz.prog W = .ok (.bool false) W := by
  have := neq_tyN ⟨o, s, n⟩ ⟨o, s, n⟩ W
  rwa [decide_eq_true rfl] at this
end Go.Proofs.YthggojpdcgcmaaaGreatDoor
namespace Go.Proofs.YthggojpdcgcmaaaGreatDoor
open Go.RowKit Go.Joins Go.Maps
open Classical
set_option linter.unusedVariables false
set_option linter.unusedSimpArgs false

def aB : ByteArray := ⟨#[65]⟩
def cetB : ByteArray := ⟨#[67, 69, 84]⟩
def fix0 : Er := ⟨3600, ⟨#[]⟩, 0, cetB, 0⟩
theorem fix_chk (ev : Value) : bkChk (oneB [] aB ev [fix0]) = 0 := by kernel_rfl
theorem fix_ty (t : Int) : stF [] [fix0] t = ⟨3600, false, cetB⟩ := by
  have e : abbrF cetB.data.toList 0 [45] = ([67, 69, 84], 0) := abbrF_self (by decide) (by decide) (by decide)
  unfold stF tdA
  rw [which_one]
  have e1 : eraAt [fix0] 0 = fix0 := rfl
  rw [e1, (tdE_nil (rules := []) (x := fix0) rfl).2]
  unfold tdTy nmT
  rw [svT_0 rfl]
  show (⟨3600 + 0, decide ((0 : Int) < 0), txt (abbrF cetB.data.toList 0 [45]).1⟩ : Ty) = _
  rw [e]
  rfl
theorem fix_st (ev : Value) : stR (oneB [] aB ev [fix0]) aB 0 = (0, ⟨3600, false, cetB⟩) := by
  rw [stR_some (oneB_rsv (fix_chk ev)), if_neg (by decide), which_one]
  have e1 : eraAt [fix0] 0 = fix0 := rfl
  have e2 : tdE (oneB [] aB ev [fix0]).rules fix0 = 0 := (tdE_nil rfl).1
  rw [e1, e2, if_neg (by simp)]
  have e3 : stF (oneB [] aB ev [fix0]).rules [fix0] 0 = stF [] [fix0] 0 := rfl
  rw [e3, fix_ty]
theorem fixed_any (w : World) : Calls Tryz.prog 31 #[] w fun e w' => ∃ Z E, e = .returned (.agg #[.slice none 0 0, .slice (some ⟨Z, 0, none⟩) 1 1, .slice none 0 0]) ∧ Hid (BookAt w'.heap.size w' (.slice none 0 0) (.slice (some ⟨Z, 0, none⟩) 1 1) (.slice none 0 0) (oneB [] aB (.slice (some ⟨E, 0, none⟩) 1 1) [fix0])) ∧ Below w.heap.size w w' := by
  obtain ⟨W1, eW⟩ : ∃ W1, ((w.alloc (.cells #[.slice none 0 0, .slice (some ⟨w.heap.size + 1 + 1, 0, none⟩) 1 1, .slice none 0 0] 26)).alloc (.cells #[.int .i64 3600, .string ⟨#[]⟩, .int .i64 0, .string ⟨#[67, 69, 84]⟩, .int .i64 0] 35)).alloc (.cells #[.string ⟨#[65]⟩, .slice (some ⟨w.heap.size + 1, 0, none⟩) 1 1] 38) = W1 := ⟨_, rfl⟩
  have hb1 : Below w.heap.size w W1 := by rw [← eW]; exact (((Below.refl _ _).alloc (Nat.le_refl _) _).alloc (by simp) _).alloc (by simp; omega) _
  have hz1 : W1.heap.size = w.heap.size + 3 := by rw [← eW]; simp
  have hR : W1.heap[w.heap.size]? = some (.cells #[.slice none 0 0, .slice (some ⟨w.heap.size + 1 + 1, 0, none⟩) 1 1, .slice none 0 0] 26 (0, 0)) := by
    rw [← eW, Below.heap_alloc _ _ _ (by simp; omega), Below.heap_alloc _ _ _ (by simp)]
    exact heap_alloc_new w _
  have hE : W1.heap[w.heap.size + 1]? = some (.cells #[.int .i64 3600, .string ⟨#[]⟩, .int .i64 0, .string ⟨#[67, 69, 84]⟩, .int .i64 0] 35 (0, 0)) := by
    rw [← eW, Below.heap_alloc _ _ _ (by simp)]
    exact alloc_at _ _ _ (by simp)
  have hZ : W1.heap[w.heap.size + 1 + 1]? = some (.cells #[.string ⟨#[65]⟩, .slice (some ⟨w.heap.size + 1, 0, none⟩) 1 1] 38 (0, 0)) := by
    rw [← eW]
    exact alloc_at _ _ _ (by simp)
  have v0 : W1.cell? ⟨w.heap.size, 0, none⟩ = some (.slice none 0 0) := (cell_of_row W1 _ 0 _ _ _ hR).trans rfl
  have v1 : W1.cell? ⟨w.heap.size, 1, none⟩ = some (.slice (some ⟨w.heap.size + 1 + 1, 0, none⟩) 1 1) := (cell_of_row W1 _ 1 _ _ _ hR).trans rfl
  have v2 : W1.cell? ⟨w.heap.size, 2, none⟩ = some (.slice none 0 0) := (cell_of_row W1 _ 2 _ _ _ hR).trans rfl
  have HEW := Lib.hid eW
  have HB1 := Lib.hid hb1
  have HZ1 := Lib.hid hz1
  have HE := Lib.hid hE
  have HZ := Lib.hid hZ
  clear eW hb1 hz1 hR hE hZ
  go_enter Tryz.func31, Tryz.ntmps31
  go_wp2_with fail
  rw [HEW.out]
  refine bodyPost_ret (v := .agg #[.slice none 0 0, .slice (some ⟨w.heap.size + 1 + 1, 0, none⟩) 1 1, .slice none 0 0]) (by simp [results, Tryz.results31, go_sem, v0, v1, v2]) rfl ⟨w.heap.size + 1 + 1, w.heap.size + 1, rfl, ?_, HB1.out⟩
  have hz := HZ1.out
  show BookAt _ _ _ _ _ _
  refine ⟨rows_nilN, ?_, ?_, rows_nilN, fun r hr => absurd hr (List.not_mem_nil), ?_, fun x hx => absurd hx (List.not_mem_nil)⟩
  · refine rows_lit (cells := zoCells) (k := 2) (l := [(⟨aB, .slice (some ⟨w.heap.size + 1, 0, none⟩) 1 1, [fix0]⟩ : Zo)]) (fun _ => rfl) HZ.out ?_ ?_ ?_ ?_
    · rfl
    · rfl
    · decide
    · omega
  · intro z hz
    obtain rfl := List.mem_singleton.1 hz
    refine rows_lit (cells := fun x : Er => (erCells x).toList) (k := 5) (l := [fix0]) (fun _ => rfl) HE.out ?_ ?_ ?_ ?_
    · rfl
    · rfl
    · decide
    · omega
  · intro z hz
    obtain rfl := List.mem_singleton.1 hz
    refine ⟨(show ByteArray.size ⟨#[65]⟩ ≤ 140737488351232 by decide), fun x hx => ?_⟩
    obtain rfl := List.mem_singleton.1 hx
    exact ⟨by decide, by decide, by decide, by decide, by decide, by decide, by decide, by decide⟩

set_option maxHeartbeats 4000000 in
theorem stated_any (MK : MakeSays) (w : World) (hm : MaxLen w) (ht : Tab10 w) :
    Calls Tryz.prog 12 #[] w fun e w' => e = .returned (.bool true) ∧ Below w.heap.size w w' := by
  have HM := Lib.hid hm
  have HT := Lib.hid ht
  have HFX := Lib.hid (fixed_any w)
  clear hm ht
  go_enter Tryz.func12, Tryz.ntmps12
  go_wp2_with fail
  refine HFX.out.mono ?_
  rintro e w1 ⟨Z, E, rfl, HBK, hb1⟩
  have hst := StAt_any MK _ _ _ _ aB 0 w1 HBK.out (by decide) (by decide) (by decide) (HM.out.below hb1) (HT.out.below hb1)
  rw [fix_st] at hst
  have HST : Hid (Calls Tryz.prog 16 #[.agg #[.slice none 0 0, .slice (some ⟨Z, 0, none⟩) 1 1, .slice none 0 0], .string ⟨#[65]⟩, .int .i64 0] w1 fun e w' => e = .returned (.tuple #[.agg #[.int .i64 3600, .bool false, .string ⟨#[67, 69, 84]⟩], .int .i64 0]) ∧ Below w1.heap.size w1 w') := hst
  have HB1 := Lib.hid hb1
  clear hst hb1 HFX
  go_wp2_with fail
  refine HST.out.mono ?_
  rintro e w2 ⟨rfl, hb2⟩
  have HB2 := Lib.hid (HB1.out.trans (hb2.mono HB1.out.size))
  have hq := fun W => eql_tySelf 3600 false ⟨#[67, 69, 84]⟩ W
  clear hb2 HST
  go_wp2_with fail
  go_ret
  exact ⟨rfl, HB2.out.alloc HB2.out.size _⟩
end Go.Proofs.YthggojpdcgcmaaaGreatDoor
namespace Go.Proofs.YthggojpdcgcmaaaGreatDoor
open Go.ChangeShapes Go.WideShapes Go.Deep Go.RowKit Go.Joins
set_option linter.unusedVariables false
set_option linter.unusedSimpArgs false

theorem list11 {α : Type} (l : List α) (h : l.length = 11) : ∃ a b c d e f g h' i j k, l = [a, b, c, d, e, f, g, h', i, j, k] := by
  match l, h with
  | [a, b, c, d, e, f, g, h', i, j, k], _ => exact ⟨a, b, c, d, e, f, g, h', i, j, k, rfl⟩

section
variable {H : Type} {enc : TypeId × Value → H} {w : World} {base : Nat} {spare : Nat → Bool} {held : Bool}
theorem trod_iR {fuel : Nat} {v : Value} {x : DataW H × List MemPlace} (h : DataW.trod enc Tryz.prog w base spare held fuel 3 [v] = some x) : ∃ n, v = .int .i64 n := by
  obtain ⟨b, e, _, _⟩ := DataW.trod_int Tryz.underlying3 h
  simp only [List.cons.injEq, and_true] at e
  exact ⟨b, e⟩
theorem trod_sR {fuel : Nat} {v : Value} {x : DataW H × List MemPlace} (h : DataW.trod enc Tryz.prog w base spare held fuel 9 [v] = some x) : ∃ s, v = .string s ∧ s.size ≤ maxLen := by
  obtain ⟨b, e, _, hs⟩ := DataW.trod_string Tryz.underlying9 h
  simp only [List.cons.injEq, and_true] at e
  exact ⟨b, e, hs⟩
set_option maxRecDepth 100000 in
theorem Dy_open {fuel : Nat} {a b c : Value} {x : DataW H × List MemPlace} (h : DataW.trod enc Tryz.prog w base spare held fuel 113 [a, b, c] = some x) : ∃ k wd n : Int, a = .int .i64 k ∧ b = .int .i64 wd ∧ c = .int .i64 n := by
  obtain ⟨xs, n, _, _, _, hl, hf⟩ := DataW.trod_struct Tryz.underlying113 h
  have hl3 : xs.length = 3 := hl
  have h0 := hf 0 _ rfl
  have h1 := hf 1 _ rfl
  have h2 := hf 2 _ rfl
  rw [List.getElem?_eq_getElem (by omega)] at h0 h1 h2
  obtain ⟨m, rfl⟩ := trod_iR (v := a) h0
  obtain ⟨k, rfl⟩ := trod_iR (v := b) h1
  obtain ⟨e, rfl⟩ := trod_iR (v := c) h2
  exact ⟨m, k, e, rfl, rfl, rfl⟩

theorem cellsRu : Tryz.prog.cellsOf 115 = 11 := by kernel_rfl
set_option maxRecDepth 100000 in
/-- the cells of a rule that can be read -/
theorem Ru_trod {fuel : Nat} {l : List Value} {x : DataW H × List MemPlace} (hl : l.length = 11) (h : DataW.trod enc Tryz.prog w base spare held fuel 115 l = some x) :
    ∃ q : Ru, l = (ruCells q).toList ∧ q.nm.size ≤ maxLen ∧ q.lt.size ≤ maxLen := by
  obtain ⟨c0, c1, c2, c3, c4, c5, c6, c7, c8, c9, c10, rfl⟩ := list11 l hl
  obtain ⟨xs, n, _, _, _, hl, hf⟩ := DataW.trod_struct Tryz.underlying115 h
  have hl9 : xs.length = 9 := hl
  have h0 := hf 0 _ rfl
  have h1 := hf 1 _ rfl
  have h2 := hf 2 _ rfl
  have h3 := hf 3 _ rfl
  have h4 := hf 4 _ rfl
  have h5 := hf 5 _ rfl
  have h6 := hf 6 _ rfl
  have h7 := hf 7 _ rfl
  have h8 := hf 8 _ rfl
  rw [List.getElem?_eq_getElem (by omega)] at h0 h1 h2 h3 h4 h5 h6 h7 h8
  obtain ⟨nm, rfl, s1⟩ := trod_sR (v := c0) h0
  obtain ⟨yf, rfl⟩ := trod_iR (v := c1) h1
  obtain ⟨yt, rfl⟩ := trod_iR (v := c2) h2
  obtain ⟨mo, rfl⟩ := trod_iR (v := c3) h3
  obtain ⟨dk, dw, dn, rfl, rfl, rfl⟩ := Dy_open (a := c4) (b := c5) (c := c6) (h4 : DataW.trod enc Tryz.prog w base spare held n 113 [c4, c5, c6] = _)
  obtain ⟨tm, rfl⟩ := trod_iR (v := c7) h5
  obtain ⟨ck, rfl⟩ := trod_iR (v := c8) h6
  obtain ⟨sv, rfl⟩ := trod_iR (v := c9) h7
  obtain ⟨lt, rfl, s2⟩ := trod_sR (v := c10) h8
  exact ⟨⟨nm, yf, yt, mo, dk, dw, dn, tm, ck, sv, lt⟩, rfl, s1, s2⟩
set_option maxRecDepth 100000 in
theorem Ru_open {r : Reach} {b0 : Nat} {v : Value} {d : DataW H} {p : List MemPlace} (hv : Value.okWide Tryz.prog w r b0 115 v) (h : DataW.Trod enc Tryz.prog w base spare held 115 v d p) :
    ∃ q : Ru, v = ruV q ∧ q.nm.size ≤ maxLen ∧ q.lt.size ≤ maxLen := by
  obtain ⟨cs, rfl, hsz⟩ := okWide_struct Tryz.underlying115 hv
  obtain ⟨l⟩ := cs
  obtain ⟨fuel, hf⟩ := h
  obtain ⟨q, rfl, s1, s2⟩ := Ru_trod (l := l) (hsz.trans cellsRu) hf
  exact ⟨q, rfl, s1, s2⟩
end
end Go.Proofs.YthggojpdcgcmaaaGreatDoor
namespace Go.Proofs.YthggojpdcgcmaaaGreatDoor
open Go.ChangeShapes Go.WideShapes Go.Deep Go.RowKit Go.Joins
set_option linter.unusedVariables false
set_option linter.unusedSimpArgs false

theorem reach_valB : reachBytes = 140737488351232 := by decide
theorem spot_noneB {w : World} {a : Addr} {v : Value} (h : w.cell? a = some v) : a = ⟨a.block, a.off, none⟩ := by
  obtain ⟨b, o, s⟩ := a
  cases s with
  | none => rfl
  | some k =>
    simp only [World.cell?] at h
    split at h
    · simp at h
    · cases h
theorem add_plainB (b o i : Nat) : (⟨b, o, none⟩ : Addr).add i = ⟨b, o + i, none⟩ := by
  unfold Addr.add
  split
  · rename_i h; subst h; rfl
  · rfl
theorem list_ofB {α : Type} [Inhabited α] (n : Nat) (Q : Nat → α → Prop) (h : ∀ i, i < n → ∃ x, Q i x) : ∃ l : List α, l.length = n ∧ ∀ i (hi : i < l.length), Q i l[i] := by
  classical
  refine ⟨(List.range n).map fun i => if hi : i < n then Classical.choose (h i hi) else default, by simp, fun i hi => ?_⟩
  have hi' : i < n := by simpa using hi
  simp only [List.getElem_map, List.getElem_range, hi', dite_true]
  exact Classical.choose_spec (h i hi')
instance : Inhabited Ru := ⟨⟨⟨#[]⟩, 0, 0, 0, 0, 0, 0, 0, 0, 0, ⟨#[]⟩⟩⟩
instance : Inhabited Er := ⟨⟨0, ⟨#[]⟩, 0, ⟨#[]⟩, 0⟩⟩
instance : Inhabited Zo := ⟨⟨⟨#[]⟩, .slice none 0 0, []⟩⟩
instance : Inhabited Lk := ⟨⟨⟨#[]⟩, ⟨#[]⟩⟩⟩

section
variable {H : Type} {enc : TypeId × Value → H} {w : World} {base : Nat} {spare : Nat → Bool} {held : Bool}
/-- what a datum weighs is within the reach -/
def Szd (t : TypeId) (d : DataW H) : Prop := ∀ n ∈ d.weights Tryz.prog t, n ≤ reachBytes
theorem sz_agg {t : TypeId} {fs : Array Field} (ht : Tryz.prog.underlying t = some (.struct fs)) {parts : List (DataW H)} (h : Szd t (.agg parts)) {j : Nat} {f : Field} {d : DataW H} (hf : fs[j]? = some f) (hd : parts[j]? = some d) : Szd f.type d := fun n hn =>
  h n (by
    simp only [DataW.weights, ht]
    refine DataW.weights_mem_each (j := j) ?_ hd n hn
    rw [List.getElem?_map, Array.getElem?_toList, hf]
    rfl)
theorem wa_mem {e : TypeId} : ∀ {es : List (DataW H)} {d : DataW H}, d ∈ es → ∀ n ∈ d.weights Tryz.prog e, n ∈ DataW.weightsAll Tryz.prog e es
  | x :: r, d, hd, n, hn => by
    simp only [DataW.weightsAll, List.mem_append]
    rcases List.mem_cons.1 hd with rfl | hd
    · exact .inl hn
    · exact .inr (wa_mem hd n hn)
theorem sz_slice {t e : TypeId} (ht : Tryz.prog.underlying t = some (.slice e)) {es sp : List (DataW H)} (h : Szd t (.slice es sp)) : (es.length + sp.length) * Tryz.prog.bytesOf e ≤ reachBytes ∧ ∀ d ∈ es, Szd e d := by
  unfold Szd at h
  simp only [DataW.weights, ht] at h
  exact ⟨h _ (List.mem_cons_self ..), fun d hd n hn => h n (List.mem_cons_of_mem _ (List.mem_append_left _ (wa_mem hd n hn)))⟩
theorem sz_str {t : TypeId} {b : ByteArray} (h : Szd t (.lit (.string b.data.toList) : DataW H)) : b.size ≤ 140737488351232 := by
  have := h b.data.toList.length (by simp [DataW.weights])
  rw [reach_valB] at this
  rw [Lib.size_eq]
  exact this

theorem open_rows {α : Type} [Inhabited α] (cells : α → List Value) (k : Nat) (Q : α → Prop) {t e : TypeId} (ht : Tryz.prog.underlying t = some (.slice e)) (hk : Tryz.prog.cellsOf e = k) (hb : 1 ≤ Tryz.prog.bytesOf e) (hk0 : 0 < k)
    (el : ∀ fuel l x, l.length = k → DataW.trod enc Tryz.prog w base spare held fuel e l = some x → Szd e x.1 → ∃ a, l = cells a ∧ Q a)
    {fuel : Nat} {v : Value} {x : DataW H × List MemPlace} (h : DataW.trod enc Tryz.prog w base spare held fuel t [v] = some x) (hs : Szd t x.1) : ∃ l, RowsAt cells k w.heap.size w v l ∧ ∀ a ∈ l, Q a := by
  rcases open_slice ht h with ⟨hcs, _⟩ | ⟨a, len, cap, m, n, D, Pl, hcs, hba, hl, hm, hmm, hx, hi⟩
  · obtain rfl : v = .slice none 0 0 := by simpa using hcs
    exact ⟨[], ⟨none, 0, rfl, ⟨by simp, by simp⟩, fun h => absurd rfl h⟩, fun a h => absurd h (List.not_mem_nil)⟩
  · obtain rfl : v = .slice (some a) len cap := by simpa using hcs
    rw [hx] at hs
    obtain ⟨hw, hsd⟩ := sz_slice ht hs
    have hlen : len ≤ 140737488351232 := by
      rw [reach_valB] at hw
      simp only [List.length_map, List.length_range] at hw
      have : len * 1 ≤ (len + (m - len)) * Tryz.prog.bytesOf e := Nat.mul_le_mul (by omega) hb
      omega
    have hlm : len ≤ m := by rw [hmm]; split <;> omega
    have key : ∀ i, i < len → ∃ y : α, (∀ j u, (cells y)[j]? = some u → w.cell? (a.add (i * k + j)) = some u) ∧ Q y ∧ ∃ u, w.cell? (a.add (i * k)) = some u := by
      intro i hil
      obtain ⟨cs', hc, htr⟩ := hi i (by omega)
      rw [hk] at hc
      obtain ⟨_, hcl, hat⟩ := World.cells?_some hc
      obtain ⟨y, rfl, hq⟩ := el n cs' _ hcl htr (hsd _ (List.mem_map.2 ⟨i, List.mem_range.2 hil, rfl⟩))
      have hcell : ∀ j u, (cells y)[j]? = some u → w.cell? (a.add (i * k + j)) = some u := by
        intro j u hu
        have hj : j < k := by rw [← hcl]; exact (List.getElem?_eq_some_iff.1 hu).1
        rw [← Go.Deep.add_add, hat j hj, hu]
      have h0 : (cells y)[0]? = some ((cells y)[0]'(by omega)) := List.getElem?_eq_getElem (by omega)
      exact ⟨y, hcell, hq, _, hcell 0 _ h0⟩
    obtain ⟨l, hl1, hl2⟩ := list_ofB len _ key
    subst hl1
    refine ⟨l, ⟨some a, cap, rfl, ⟨hlen, hl⟩, fun hne => ?_⟩, fun y hy => ?_⟩
    · have hp : 0 < l.length := List.length_pos_iff.2 hne
      obtain ⟨_, _, u, d0⟩ := hl2 0 hp
      rw [Nat.zero_mul] at d0
      have hsp : a = ⟨a.block, a.off, none⟩ := spot_noneB (w := w) (v := u) d0
      refine ⟨a.block, a.off, congrArg some hsp, ?_, fun i hi j u hu => ?_⟩
      · rw [hsp, add_plainB] at d0
        exact World.block_lt_of_cell? w ⟨a.block, _, none⟩ d0
      · have := (hl2 i hi).1 j u hu
        rw [hsp, add_plainB] at this
        rw [Nat.add_assoc]
        exact this
    · obtain ⟨i, hi, rfl⟩ := List.mem_iff_getElem.1 hy
      exact (hl2 i hi).2.1

theorem trod_iB {fuel : Nat} {v : Value} {x : DataW H × List MemPlace} (h : DataW.trod enc Tryz.prog w base spare held fuel 3 [v] = some x) : ∃ n, v = .int .i64 n ∧ -9223372036854775808 ≤ n ∧ n ≤ 9223372036854775807 := by
  obtain ⟨b, e, _, hw⟩ := DataW.trod_int Tryz.underlying3 h
  simp only [List.cons.injEq, and_true] at e
  simp only [Lit.wf, Bool.and_eq_true, decide_eq_true_eq] at hw
  exact ⟨b, e, hw⟩
theorem trod_sB {fuel : Nat} {v : Value} {x : DataW H × List MemPlace} (h : DataW.trod enc Tryz.prog w base spare held fuel 9 [v] = some x) (hs : Szd 9 x.1) : ∃ s, v = .string s ∧ s.size ≤ 140737488351232 := by
  obtain ⟨b, e, ex, _⟩ := DataW.trod_string Tryz.underlying9 h
  simp only [List.cons.injEq, and_true] at e
  rw [ex] at hs
  exact ⟨b, e, sz_str hs⟩
theorem list5 {α : Type} (l : List α) (h : l.length = 5) : ∃ a b c d e, l = [a, b, c, d, e] := by
  match l, h with
  | [a, b, c, d, e], _ => exact ⟨a, b, c, d, e, rfl⟩
theorem list2 {α : Type} (l : List α) (h : l.length = 2) : ∃ a b, l = [a, b] := by
  match l, h with
  | [a, b], _ => exact ⟨a, b, rfl⟩
set_option maxRecDepth 100000 in
/-- the cells of a rule, with its words' sizes -/
theorem Ru_trodB {fuel : Nat} {l : List Value} {x : DataW H × List MemPlace} (hl : l.length = 11) (h : DataW.trod enc Tryz.prog w base spare held fuel 115 l = some x) (hs : Szd 115 x.1) :
    ∃ q : Ru, l = (ruCells q).toList ∧ SzR q := by
  obtain ⟨q, rfl, -, -⟩ := Ru_trod hl h
  refine ⟨q, rfl, ?_⟩
  obtain ⟨xs, n, _, hx, _, hl, hf⟩ := DataW.trod_struct Tryz.underlying115 h
  have hl9 : xs.length = 9 := hl
  have h0 := hf 0 _ rfl
  have h8 := hf 8 _ rfl
  rw [List.getElem?_eq_getElem (by omega)] at h0 h8
  rw [hx] at hs
  have s0 := sz_agg Tryz.underlying115 hs (j := 0) rfl (d := xs[0].1) (by rw [List.getElem?_map, List.getElem?_eq_getElem (by omega)]; rfl)
  have s8 := sz_agg Tryz.underlying115 hs (j := 8) rfl (d := xs[8].1) (by rw [List.getElem?_map, List.getElem?_eq_getElem (by omega)]; rfl)
  obtain ⟨nm, e0, z0⟩ := trod_sB (v := .string q.nm) h0 s0
  obtain ⟨lt, e8, z8⟩ := trod_sB (v := .string q.lt) h8 s8
  injection e0 with e0
  injection e8 with e8
  subst e0 e8
  exact ⟨z0, z8⟩
set_option maxRecDepth 100000 in
theorem Er_trodB {fuel : Nat} {l : List Value} {x : DataW H × List MemPlace} (hl : l.length = 5) (h : DataW.trod enc Tryz.prog w base spare held fuel 35 l = some x) (hs : Szd 35 x.1) :
    ∃ q : Er, l = (erCells q).toList ∧ SzE q := by
  obtain ⟨c0, c1, c2, c3, c4, rfl⟩ := list5 l hl
  obtain ⟨xs, n, _, hx, _, hl, hf⟩ := DataW.trod_struct Tryz.underlying35 h
  have hl5 : xs.length = 5 := hl
  have h0 := hf 0 _ rfl
  have h1 := hf 1 _ rfl
  have h2 := hf 2 _ rfl
  have h3 := hf 3 _ rfl
  have h4 := hf 4 _ rfl
  rw [List.getElem?_eq_getElem (by omega)] at h0 h1 h2 h3 h4
  rw [hx] at hs
  have s1 := sz_agg Tryz.underlying35 hs (j := 1) rfl (d := xs[1].1) (by rw [List.getElem?_map, List.getElem?_eq_getElem (by omega)]; rfl)
  have s3 := sz_agg Tryz.underlying35 hs (j := 3) rfl (d := xs[3].1) (by rw [List.getElem?_map, List.getElem?_eq_getElem (by omega)]; rfl)
  obtain ⟨off, rfl, o1, o2⟩ := trod_iB (v := c0) h0
  obtain ⟨ru, rfl, z1⟩ := trod_sB (v := c1) h1 s1
  obtain ⟨sv, rfl, v1, v2⟩ := trod_iB (v := c2) h2
  obtain ⟨fm, rfl, z3⟩ := trod_sB (v := c3) h3 s3
  obtain ⟨un, rfl, u1, u2⟩ := trod_iB (v := c4) h4
  exact ⟨⟨off, ru, sv, fm, un⟩, rfl, z1, z3, o1, o2, v1, v2, u1, u2⟩
theorem cellsEr : Tryz.prog.cellsOf 35 = 5 := by kernel_rfl
theorem cellsZo : Tryz.prog.cellsOf 38 = 2 := by kernel_rfl
theorem cellsLk : Tryz.prog.cellsOf 59 = 2 := by kernel_rfl
theorem cellsBk : Tryz.prog.cellsOf 26 = 3 := by kernel_rfl
def ZoOk (w : World) (z : Zo) : Prop := RowsAt (fun x : Er => (erCells x).toList) 5 w.heap.size w z.ev z.eras ∧ z.nm.size ≤ 140737488351232 ∧ ∀ x ∈ z.eras, SzE x
set_option maxRecDepth 100000 in
theorem Zo_trodB {fuel : Nat} {l : List Value} {x : DataW H × List MemPlace} (hl : l.length = 2) (h : DataW.trod enc Tryz.prog w base spare held fuel 38 l = some x) (hs : Szd 38 x.1) :
    ∃ q : Zo, l = zoCells q ∧ ZoOk w q := by
  obtain ⟨c0, c1, rfl⟩ := list2 l hl
  obtain ⟨xs, n, _, hx, _, hl, hf⟩ := DataW.trod_struct Tryz.underlying38 h
  have hl2 : xs.length = 2 := hl
  have h0 := hf 0 _ rfl
  have h1 := hf 1 _ rfl
  rw [List.getElem?_eq_getElem (by omega)] at h0 h1
  rw [hx] at hs
  have s0 := sz_agg Tryz.underlying38 hs (j := 0) rfl (d := xs[0].1) (by rw [List.getElem?_map, List.getElem?_eq_getElem (by omega)]; rfl)
  have s1 := sz_agg Tryz.underlying38 hs (j := 1) rfl (d := xs[1].1) (by rw [List.getElem?_map, List.getElem?_eq_getElem (by omega)]; rfl)
  obtain ⟨nm, rfl, z0⟩ := trod_sB (v := c0) h0 s0
  obtain ⟨er, hr, hq⟩ := open_rows (fun x : Er => (erCells x).toList) 5 SzE (t := 36) (e := 35) (by kernel_rfl) cellsEr (of_decide_eq_true (by kernel_rfl)) (by decide) (fun fuel l x hl h hs => Er_trodB hl h hs) (v := c1) h1 s1
  exact ⟨⟨nm, c1, er⟩, rfl, hr, z0, hq⟩
set_option maxRecDepth 100000 in
theorem Lk_trodB {fuel : Nat} {l : List Value} {x : DataW H × List MemPlace} (hl : l.length = 2) (h : DataW.trod enc Tryz.prog w base spare held fuel 59 l = some x) (hs : Szd 59 x.1) :
    ∃ q : Lk, l = lkCells q ∧ (q.nm.size ≤ 140737488351232 ∧ q.to.size ≤ 140737488351232) := by
  obtain ⟨c0, c1, rfl⟩ := list2 l hl
  obtain ⟨xs, n, _, hx, _, hl, hf⟩ := DataW.trod_struct Tryz.underlying59 h
  have hl2 : xs.length = 2 := hl
  have h0 := hf 0 _ rfl
  have h1 := hf 1 _ rfl
  rw [List.getElem?_eq_getElem (by omega)] at h0 h1
  rw [hx] at hs
  have s0 := sz_agg Tryz.underlying59 hs (j := 0) rfl (d := xs[0].1) (by rw [List.getElem?_map, List.getElem?_eq_getElem (by omega)]; rfl)
  have s1 := sz_agg Tryz.underlying59 hs (j := 1) rfl (d := xs[1].1) (by rw [List.getElem?_map, List.getElem?_eq_getElem (by omega)]; rfl)
  obtain ⟨nm, rfl, z0⟩ := trod_sB (v := c0) h0 s0
  obtain ⟨tt, rfl, z1⟩ := trod_sB (v := c1) h1 s1
  exact ⟨⟨nm, tt⟩, rfl, z0, z1⟩
set_option maxRecDepth 100000 in
/-- A law's argument of type Book -/
theorem Bk_open {r : Reach} {b0 : Nat} {v : Value} {d : DataW H} {p : List MemPlace} (hv : Value.okWide Tryz.prog w r b0 26 v) (h : DataW.Trod enc Tryz.prog w base spare held 26 v d p)
    (hs : Szd 26 d) : ∃ b rv zv lv, v = .agg #[rv, zv, lv] ∧ BookAt w.heap.size w rv zv lv b := by
  obtain ⟨c0, c1, c2, y0, y1, y2, m, rfl, rfl, _, g0, g1, g2⟩ := open_agg3 Tryz.underlying26 (by kernel_rfl) cellsBk hv h
  have s0 := sz_agg Tryz.underlying26 hs (j := 0) rfl rfl
  have s1 := sz_agg Tryz.underlying26 hs (j := 1) rfl rfl
  have s2 := sz_agg Tryz.underlying26 hs (j := 2) rfl rfl
  obtain ⟨rs, hr1, hr2⟩ := open_rows (fun r : Ru => (ruCells r).toList) 11 SzR (t := 22) (e := 115) (by kernel_rfl) cellsRu (of_decide_eq_true (by kernel_rfl)) (by decide) (fun fuel l x hl h hs => Ru_trodB hl h hs) (v := c0) g0 s0
  obtain ⟨zs, hz1, hz2⟩ := open_rows zoCells 2 (ZoOk w) (t := 23) (e := 38) (by kernel_rfl) cellsZo (of_decide_eq_true (by kernel_rfl)) (by decide) (fun fuel l x hl h hs => Zo_trodB hl h hs) (v := c1) g1 s1
  obtain ⟨ls, hl1, hl2⟩ := open_rows lkCells 2 (fun q : Lk => q.nm.size ≤ 140737488351232 ∧ q.to.size ≤ 140737488351232) (t := 24) (e := 59) (by kernel_rfl) cellsLk (of_decide_eq_true (by kernel_rfl)) (by decide) (fun fuel l x hl h hs => Lk_trodB hl h hs) (v := c2) g2 s2
  exact ⟨⟨rs, zs, ls⟩, c0, c1, c2, rfl, hr1, hz1, fun z hz => (hz2 z hz).1, hl1, hr2, fun z hz => (hz2 z hz).2, hl2⟩
set_option maxRecDepth 100000 in
/-- a rule, with its words' sizes -/
theorem Ru_openB {r : Reach} {b0 : Nat} {v : Value} {d : DataW H} {p : List MemPlace} (hv : Value.okWide Tryz.prog w r b0 115 v) (h : DataW.Trod enc Tryz.prog w base spare held 115 v d p)
    (hs : Szd 115 d) : ∃ q : Ru, v = ruV q ∧ SzR q := by
  obtain ⟨cs, rfl, hsz⟩ := okWide_struct Tryz.underlying115 hv
  obtain ⟨l⟩ := cs
  obtain ⟨fuel, hf⟩ := h
  obtain ⟨q, rfl, hz⟩ := Ru_trodB (l := l) (hsz.trans cellsRu) hf hs
  exact ⟨q, rfl, hz⟩
theorem szd_at {ts : List TypeId} {ds : List (DataW H)} (h : (DataW.weightsEach Tryz.prog ts ds).all (· ≤ reachBytes) = true) {j : Nat} {t : TypeId} {d : DataW H} (ht : ts[j]? = some t) (hd : ds[j]? = some d) : Szd t d := fun n hn => by
  have := List.all_eq_true.1 h n (DataW.weights_mem_each ht hd n hn)
  simpa using this
end
end Go.Proofs.YthggojpdcgcmaaaGreatDoor
