/- turns.Of: what it returns. The reference's Eq of turns; a turn's comparison; the closed fact of turns. turns: facts of the answer; the closed fact of turns. -/
import Derived.Test.YtlgdilpmdoofiaaDoorTuSort
import Derived.Test.YtlgdilpmdoofiaaDoorBaB
import Derived.Laws.StructEq
namespace Go.Proofs.YtlgdilpmdoofiaaDoor
open Go.RowKit Go.Joins
open Classical
set_option linter.unusedVariables false
set_option linter.unusedSimpArgs false

def MakeSays : Prop := ∀ (rules : List Ru) (nm : ByteArray) (off : Int) (rv : Value) (w : World) (hR : RowsAt (fun r : Ru => (ruCells r).toList) 11 w.heap.size w rv rules) (ho : ∀ r ∈ rules, OkRu r) (hl : rules.length ≤ 40) (hf1 : -75600 ≤ off) (hf2 : off ≤ 75600),
    Calls Tryd.prog 36 #[rv, .string nm, .int .i64 off] w (MakePost rules nm off w)
/-- what turns.Of answers -/
def ofR (b : Bk) (nm : ByteArray) (off : Int) : Int × List Tn :=
  if bkChk b ≠ 0 then (bkChk b, []) else if off < -64800 ∨ 64800 < off then (1, []) else mkR b.rules nm off
def TnPost (R : Int × List Tn) (w : World) (e : Ending) (w' : World) : Prop :=
  ∃ vo, e = .returned (.tuple #[vo, .int .i64 R.1]) ∧ w'.ownsRow w.heap.size 37 3 vo R.2.length (tnCells R.2) ∧ Below w.heap.size w w'
theorem TnPost.bad {R : Int × List Tn} {w w' : World} {c : Int} (h : R = (c, [])) (hb : Below w.heap.size w w') : TnPost R w (.returned (.tuple #[.slice none 0 0, .int .i64 c])) w' := by
  refine ⟨_, by rw [h], by rw [h]; exact World.ownsRow_nil _ _ _ _, hb⟩
theorem ofR_bad {b : Bk} {nm : ByteArray} {off : Int} (h : bkChk b ≠ 0) : ofR b nm off = (bkChk b, []) := by unfold ofR; rw [if_pos h]
theorem ofR_1 {b : Bk} {nm : ByteArray} {off : Int} (h : bkChk b = 0) (h1 : off < -64800 ∨ 64800 < off) : ofR b nm off = (1, []) := by unfold ofR; rw [if_neg (fun g => g h), if_pos h1]
theorem ofR_mk {b : Bk} {nm : ByteArray} {off : Int} (h : bkChk b = 0) (h1 : ¬ (off < -64800 ∨ 64800 < off)) : ofR b nm off = mkR b.rules nm off := by unfold ofR; rw [if_neg (fun g => g h), if_neg h1]
/-- a book that may be: its rules may be -/
theorem bk_rules {b : Bk} (h : bkChk b = 0) : b.rules.length ≤ 40 ∧ ∀ r ∈ b.rules, OkRu r := by
  unfold bkChk at h
  split at h
  · cases h
  · rename_i h1
    split at h
    · exact absurd h (by assumption)
    · rename_i h2
      refine ⟨by omega, fun r hr => ru_ok ?_⟩
      exact (firstE_zero ruChk b.rules).1 (Classical.not_not.1 h2) r hr

theorem BookAt.base {B B' : Nat} {W : World} {rv zv lv : Value} {b : Bk} (h : BookAt B W rv zv lv b) (hB : B ≤ B') : BookAt B' W rv zv lv b :=
  ⟨h.r.mono hB, h.z.mono hB, fun z hz => (h.e z hz).mono hB, h.l.mono hB, h.rs, h.zs, h.ls⟩

set_option maxRecDepth 100000 in
set_option maxHeartbeats 4000000 in
theorem Of_book (MK : MakeSays) (b : Bk) (rv zv lv : Value) (nm : ByteArray) (off : Int) (w : World) (hB : BookAt w.heap.size w rv zv lv b) (hm : MaxLen w) (ht : Tab10 w) :
    Calls Tryd.prog 14 #[.agg #[rv, zv, lv], .string nm, .int .i64 off] w (TnPost (ofR b nm off) w) := by
  obtain ⟨W0, eW⟩ : ∃ W0, w.alloc (.cells #[rv, zv, lv] 26) = W0 := ⟨_, rfl⟩
  have hr := hB.r
  have hz := hB.z
  have hl := hB.l
  obtain ⟨p1, c1, rfl, hlen1, hrow1⟩ := hr
  obtain ⟨p2, c2, rfl, hlen2, hrow2⟩ := hz
  obtain ⟨p3, c3, rfl, hlen3, hrow3⟩ := hl
  have hb0 : Below w.heap.size w W0 := by rw [← eW]; exact (Below.refl _ _).alloc (Nat.le_refl _) _
  have hbx : W0.heap[w.heap.size]? = some (.cells #[.slice p1 b.rules.length c1, .slice p2 b.zones.length c2, .slice p3 b.links.length c3] 26 (0, 0)) := by rw [← eW]; exact heap_alloc_new w _
  have hl0 : w.heap.size < W0.heap.size := by rw [← eW]; simp
  have x0 := (cell_of_row W0 _ 0 _ _ _ hbx).trans rfl
  have x1 := (cell_of_row W0 _ 1 _ _ _ hbx).trans rfl
  have x2 := (cell_of_row W0 _ 2 _ _ _ hbx).trans rfl
  have HEW := Lib.hid eW
  have HB0 := Lib.hid hb0
  have HBK := Lib.hid (hB.below hb0 (Nat.le_refl _))
  have HCK := Lib.hid (bkCheck_any b _ _ _ W0 (by exact { r := HBK.out.r.mono (Nat.le_of_lt hl0), z := HBK.out.z.mono (Nat.le_of_lt hl0), e := fun z hz => (HBK.out.e z hz).mono (Nat.le_of_lt hl0), l := HBK.out.l.mono (Nat.le_of_lt hl0), rs := HBK.out.rs, zs := HBK.out.zs, ls := HBK.out.ls }) (hm.below hb0) (ht.below hb0))
  have HRU := Lib.hid (bk_rules (b := b))
  have HE1 := Lib.hid (ofR_bad (b := b) (nm := nm) (off := off))
  have HE2 := Lib.hid (ofR_1 (b := b) (nm := nm) (off := off))
  have HE3 := Lib.hid (ofR_mk (b := b) (nm := nm) (off := off))
  obtain ⟨R, eR⟩ : ∃ R, ofR b nm off = R := ⟨_, rfl⟩
  rw [eR] at HE1 HE2 HE3 ⊢
  obtain ⟨C, eC⟩ : ∃ C, bkChk b = C := ⟨_, rfl⟩
  rw [eC] at HE1 HE2 HE3 HCK HRU
  have HR0 := Lib.hid HBK.out.r
  clear eW hb0 hbx hB hm ht hrow1 hrow2 hrow3 eR eC
  go_enter Tryd.func14, Tryd.ntmps14
  go_upto_region 1 with fail
  rw [HEW.out]
  go_wp2_with fail
  refine HCK.out.mono ?_
  rintro e w1 ⟨rfl, hb1⟩
  have HB1 := Lib.hid (HB0.out.trans (hb1.mono HB0.out.size))
  have hl1 : w.heap.size < w1.heap.size := by have := hb1.size; omega
  have y0 := (hb1.cell (p := ⟨w.heap.size, 0, none⟩) hl0).trans x0
  have HR1 := Lib.hid (HR0.out.below hb1 (Nat.le_of_lt hl0))
  clear hb1 HCK x0 x1 x2
  by_cases hc : C = 0
  · subst hc
    by_cases ho : off < -64800 ∨ 64800 < off
    · have HE := Lib.hid (HE2.out rfl ho)
      by_cases h1 : off < -64800
      · clear ho
        go_wp2_with fail
        go_ret2
        exact TnPost.bad HE.out HB1.out
      · have h2 : 64800 < off := by omega
        clear ho
        go_wp2_with fail
        go_ret2
        exact TnPost.bad HE.out HB1.out
    · have HE := Lib.hid (HE3.out rfl ho)
      obtain ⟨hr1, hr2⟩ := HRU.out rfl
      have h1 : ¬ off < -64800 := by omega
      have h2 : ¬ 64800 < off := by omega
      have HMK := Lib.hid (fun W hW => MK b.rules nm off (.slice p1 b.rules.length c1) W hW hr2 hr1 (by omega) (by omega))
      clear ho hr1 hr2
      go_wp2_with fail
      refine (HMK.out _ (HR1.out.mono (Nat.le_of_lt hl1))).mono ?_
      rintro e w2 ⟨vo, rfl, hrow, hb2⟩
      have HP : Hid (TnPost R w (.returned (.tuple #[vo, .int .i64 (mkR b.rules nm off).1])) w2) := by
        show TnPost _ _ _ _
        rw [HE.out]
        exact ⟨vo, rfl, own_base hrow (Nat.le_of_lt hl1), HB1.out.trans (hb2.mono (Nat.le_of_lt hl1))⟩
      obtain ⟨X, eX⟩ : ∃ X, (mkR b.rules nm off).1 = X := ⟨_, rfl⟩
      rw [eX] at HP ⊢
      clear hrow hb2 eX
      go_wp2_with fail
      go_ret2
      exact HP.out
  · have HE := Lib.hid (HE1.out hc)
    have hcz : (C == 0) = false := by simpa using hc
    have hcz2 : (!(C == 0)) = true := by rw [hcz]; rfl
    clear hc
    go_wp2_with fail
    go_ret2
    exact TnPost.bad HE.out HB1.out
end Go.Proofs.YtlgdilpmdoofiaaDoor
namespace Go.Proofs.YtlgdilpmdoofiaaDoor
open Go.RowKit Go.Joins
open Classical
set_option linter.unusedVariables false
set_option linter.unusedSimpArgs false

theorem bytes_neT {a b : ByteArray} (h : a ≠ b) : (a.toList == b.toList) = false := by
  cases he : a.toList == b.toList
  · rfl
  · have : a.toList = b.toList := by simpa using he
    rw [ByteArray.toList_eq, ByteArray.toList_eq] at this
    exact absurd (by cases a; cases b; simp_all) h
theorem tn_eq {x y : Tn} : x = y ↔ x.a = y.a ∧ x.s = y.s ∧ x.lt = y.lt := by
  cases x; cases y; simp
theorem fieldsTn : (Tryd.prog.fieldsOf 37).toList = [{ name := "At", type := 3, offset := 0, embedded := false, tag := "", pkgPath := "", byteOffset := 0 }, { name := "Save", type := 3, offset := 1, embedded := false, tag := "", pkgPath := "", byteOffset := 8 }, { name := "Letter", type := 9, offset := 2, embedded := false, tag := "", pkgPath := "", byteOffset := 16 }] := by kernel_rfl
theorem agg_tn : Tryd.prog.underlying 37 = some (.struct (Tryd.prog.fieldsOf 37)) := by kernel_rfl
theorem stood_tn : Tryd.prog.stoodInHeld 37 = false := by kernel_rfl
theorem neq_tn (x y : Tn) (W : World) : (binOp .neq 37 (.agg #[.int .i64 x.a, .int .i64 x.s, .string x.lt]) (.agg #[.int .i64 y.a, .int .i64 y.s, .string y.lt])).run Tryd.prog W = .ok (.bool (!decide (x = y))) W := by
  rw [run_neq_struct, run_equalIn_agg W 9999 _ _ _ agg_tn stood_tn, fieldsTn]
  by_cases h1 : x.a = y.a
  · by_cases h2 : x.s = y.s
    · by_cases h3 : x.lt = y.lt
      · have e : x = y := tn_eq.2 ⟨h1, h2, h3⟩
        simp [go_sem, Op.eqFields, Tryd.underlying3, Tryd.underlying9, e]
      · have e : ¬ x = y := fun e => h3 (by rw [e])
        simp [go_sem, Op.eqFields, Tryd.underlying3, Tryd.underlying9, e, h1, h2, bytes_neT h3]
    · have e : ¬ x = y := fun e => h2 (by rw [e])
      simp [go_sem, Op.eqFields, Tryd.underlying3, Tryd.underlying9, e, h1, h2]
  · have e : ¬ x = y := fun e => h1 (by rw [e])
    simp [go_sem, Op.eqFields, Tryd.underlying3, Tryd.underlying9, e, h1]
theorem eql_tn (x y : Tn) (W : World) : (binOp .eql 37 (.agg #[.int .i64 x.a, .int .i64 x.s, .string x.lt]) (.agg #[.int .i64 y.a, .int .i64 y.s, .string y.lt])).run Tryd.prog W = .ok (.bool (decide (x = y))) W := by
  rw [run_eql_struct, run_equalIn_agg W 9999 _ _ _ agg_tn stood_tn, fieldsTn]
  by_cases h1 : x.a = y.a
  · by_cases h2 : x.s = y.s
    · by_cases h3 : x.lt = y.lt
      · have e : x = y := tn_eq.2 ⟨h1, h2, h3⟩
        simp [go_sem, Op.eqFields, Tryd.underlying3, Tryd.underlying9, e]
      · have e : ¬ x = y := fun e => h3 (by rw [e])
        simp [go_sem, Op.eqFields, Tryd.underlying3, Tryd.underlying9, e, h1, h2, bytes_neT h3]
    · have e : ¬ x = y := fun e => h2 (by rw [e])
      simp [go_sem, Op.eqFields, Tryd.underlying3, Tryd.underlying9, e, h1, h2]
  · have e : ¬ x = y := fun e => h1 (by rw [e])
    simp [go_sem, Op.eqFields, Tryd.underlying3, Tryd.underlying9, e, h1]
theorem own_rowsT {W : World} {B : Nat} {v : Value} {l : List Tn} (h : W.ownsRow B 37 3 v l.length (tnCells l)) (hl : l.length ≤ 100000) : RowsAt tnC 3 W.heap.size W v l := by
  rcases h.2 with ⟨rfl, h0⟩ | ⟨g, cap, cur, rfl, hb, hg, hnc, hcm, hcs, htake⟩
  · have : l = [] := List.eq_nil_of_length_eq_zero h0
    subst this
    exact ⟨none, 0, rfl, ⟨by simp, by simp⟩, fun h => absurd rfl h⟩
  · have hc : ∀ i u, (tnCells l)[i]? = some u → W.cell? ⟨g, i, none⟩ = some u := by
      intro i u hu
      rw [cell_of_row W g i cur _ (0, 0) hg]
      rw [← htake, List.getElem?_take] at hu
      split at hu
      · simpa using hu
      · cases hu
    refine ⟨_, cap, rfl, ⟨by omega, hnc⟩, fun _ => ⟨g, 0, rfl, (Array.getElem?_eq_some_iff.1 hg).1, fun i hi j u hu => ?_⟩⟩
    obtain ⟨k1, k2, k3⟩ := tnCells_get l i hi
    rw [Nat.zero_add]
    match j, hu with
    | 0, hu => injection hu with hu; subst hu; exact hc _ _ k1
    | 1, hu => injection hu with hu; subst hu; exact hc _ _ k2
    | 2, hu => injection hu with hu; subst hu; exact hc _ _ k3
theorem list_neT {α : Type} {l m : List α} {k : Nat} (h1 : k < l.length) (h2 : k < m.length) (h : l[k] ≠ m[k]) : l ≠ m := by
  intro e
  subst e
  exact h rfl
theorem list_eqT {α : Type} {l m : List α} (h : l.length = m.length) (hs : ∀ j (h1 : j < l.length) (h2 : j < m.length), l[j] = m[j]) : l = m := List.ext_getElem h hs

set_option maxRecDepth 100000 in
set_option maxHeartbeats 1000000 in
theorem EqTn_any (l m : List Tn) (v v2 : Value) (w : World) (h1 : RowsAt tnC 3 w.heap.size w v l) (h2 : RowsAt tnC 3 w.heap.size w v2 m) :
    Calls Tryd.prog 16 #[v, v2] w fun e w' => e = .returned (.bool (decide (l = m))) ∧ Below w.heap.size w w' := by
  obtain ⟨p, cap, rfl, hl, g1⟩ := h1
  obtain ⟨p2, cap2, rfl, hl2, g2⟩ := h2
  have HA := Lib.hid g1
  have HB := Lib.hid g2
  clear g1 g2
  by_cases hlen : l.length = m.length
  · obtain ⟨R, eR⟩ : ∃ R, decide (l = m) = R := ⟨_, rfl⟩
    rw [eR]
    have ER := Lib.hid eR
    have HLEN := Lib.hid hlen
    rw [← hlen] at hl2 ⊢
    clear eR hlen
    go_enter Tryd.func16, Tryd.ntmps16
    go_wp2
    go_loopw [14] (fun i wr => ∃ k : Nat, k ≤ l.length ∧ i = .int .i64 k ∧ (∀ j (h : j < k) (h1 : j < l.length) (h2 : j < m.length), l[j] = m[j]) ∧ Below w.heap.size w wr) (fun i _ => l.length - (intOf i).toNat)
    case atStart => exact ⟨0, Nat.zero_le _, rfl, fun j h => absurd h (Nat.not_lt_zero j), Below.refl _ _⟩
    case round =>
      obtain ⟨k, hk, rfl, hsame, hbel⟩ := hrel
      have HS := Lib.hid hsame
      clear hsame
      by_cases hlt : k < l.length
      · have hlt2 : k < m.length := by have := HLEN.out; omega
        obtain ⟨x, ex⟩ : ∃ x, l[k] = x := ⟨_, rfl⟩
        obtain ⟨y, ey⟩ : ∃ y, m[k] = y := ⟨_, rfl⟩
        have hne0 : l ≠ [] := by intro e; rw [e] at hlt; simp at hlt
        have hne1 : m ≠ [] := by intro e; rw [e] at hlt2; simp at hlt2
        obtain ⟨b, o, rfl, hb, ha0⟩ := HA.out hne0
        obtain ⟨b2, o2, rfl, hb2, hc0⟩ := HB.out hne1
        have ha := ha0 k hlt
        have hc := hc0 k hlt2
        rw [ex] at ha
        rw [ey] at hc
        have up : ∀ bb oo u, bb < w.heap.size → w.cell? ⟨bb, oo, none⟩ = some u → wr.cell? ⟨bb, oo, none⟩ = some u := fun bb oo u hlt h => (hbel.cell (p := ⟨bb, oo, none⟩) hlt).trans h
        have a0 := up _ _ _ hb (ha 0 _ rfl)
        have a1 := up _ _ _ hb (ha 1 _ rfl)
        have a2 := up _ _ _ hb (ha 2 _ rfl)
        have d0 := up _ _ _ hb2 (hc 0 _ rfl)
        have d1 := up _ _ _ hb2 (hc 1 _ rfl)
        have d2 := up _ _ _ hb2 (hc 2 _ rfl)
        rw [Nat.add_zero] at a0 d0
        have hlb := World.block_lt_of_cell? _ _ a0
        have hlb2 := World.block_lt_of_cell? _ _ d0
        have hq := neq_tn x y
        have HBL := Lib.hid hbel
        by_cases hxy : x = y
        · have hd : (!decide (x = y)) = false := by simpa using hxy
          rw [hd] at hq
          have hs2 : ∀ j (h : j < k + 1) (h1 : j < l.length) (h2 : j < m.length), l[j] = m[j] := fun j hj h1 h2 => by
            by_cases e : j = k
            · subst e; rw [ex, ey, hxy]
            · exact HS.out j (by omega) h1 h2
          have HS2 := Lib.hid hs2
          clear ex ey hbel ha0 hc0 ha hc up hne0 hne1 hxy hd hs2
          go_wp2
          go_quiet (fail)
          go_wp2
          go_roundw
          case rel => exact ⟨k + 1, by omega, by go_num, HS2.out, by first | exact below_drewN HBL.out _ | exact below_drewN (HBL.out.alloc HBL.out.size _) _⟩
          case measure => simp [intOf]; omega
        · have hd : (!decide (x = y)) = true := by simpa using hxy
          rw [hd] at hq
          have hR : Hid (R = false) := by
            show _ = _
            rw [← ER.out]
            have : l ≠ m := list_neT hlt hlt2 (by rw [ex, ey]; exact hxy)
            simpa using this
          clear ex ey hbel ha0 hc0 ha hc up hne0 hne1 hxy hd
          go_wp2
          go_quiet (fail)
          go_wp2
          go_ret
          exact ⟨ret_bool hR.out.symm, by first | exact below_drewN HBL.out _ | exact below_drewN (HBL.out.alloc HBL.out.size _) _⟩
      · obtain rfl : k = l.length := by omega
        have hR : Hid (R = true) := by
          show _ = _
          rw [← ER.out]
          have : l = m := list_eqT HLEN.out (fun j h1 h2 => HS.out j h1 h1 h2)
          simpa using this
        go_wp2
        go_ret
        exact ⟨ret_bool hR.out.symm, hbel⟩
  · have hR : decide (l = m) = false := by simp; intro e; exact hlen (by rw [e])
    rw [hR]
    have hli : ¬ (l.length : Int) = (m.length : Int) := by omega
    clear hR hlen
    go_enter Tryd.func16, Tryd.ntmps16
    go_wp2
    go_ret
    exact ⟨rfl, Below.refl _ _⟩
end Go.Proofs.YtlgdilpmdoofiaaDoor
namespace Go.Proofs.YtlgdilpmdoofiaaDoor
open Go.RowKit Go.Joins
open Classical
set_option linter.unusedVariables false
set_option linter.unusedSimpArgs false

def lastB (off save : Int) (x : Int × Ru) (last : Option Int) : Bool := match last with | none => false | some m => decide (clkT off save x ≤ m)
theorem outF_some {off save : Int} {last : Option Int} {x : Int × Ru} {r : List (Int × Ru)} {l : List Tn} (h : outF off save last (x :: r) = some l) : lastB off save x last = false ∧ ∃ t, outF off x.2.sv (some (clkT off save x)) r = some t ∧ l = ⟨clkT off save x, x.2.sv, x.2.lt⟩ :: t := by
  have e : outF off save last (x :: r) = if lastB off save x last = true then none else (outF off x.2.sv (some (clkT off save x)) r).map fun l => ⟨clkT off save x, x.2.sv, x.2.lt⟩ :: l := outF_cons ..
  rw [e] at h
  by_cases hb : lastB off save x last = true
  · rw [if_pos hb] at h; cases h
  · rw [if_neg hb] at h
    cases e2 : outF off x.2.sv (some (clkT off save x)) r with
    | none => rw [e2] at h; cases h
    | some t =>
      rw [e2] at h
      simp only [Option.map_some, Option.some.injEq] at h
      exact ⟨by simpa using hb, t, rfl, h.symm⟩
theorem outF_len (off : Int) : ∀ (S : List (Int × Ru)) (save : Int) (last : Option Int) (l : List Tn), outF off save last S = some l → l.length = S.length := by
  intro S
  induction S with
  | nil => intro save last l h; unfold outF at h; injection h with h; subst h; rfl
  | cons x r ih =>
    intro save last l h
    obtain ⟨-, t, e, rfl⟩ := outF_some h
    simp [ih _ _ _ e]
theorem outF_rise (off : Int) : ∀ (S : List (Int × Ru)) (save : Int) (last : Option Int) (l : List Tn), outF off save last S = some l → (∀ m, last = some m → ∀ h : 0 < l.length, m < l[0].a) ∧ ∀ i (h : i + 1 < l.length), l[i].a < l[i + 1].a := by
  intro S
  induction S with
  | nil =>
    intro save last l h
    unfold outF at h
    injection h with h
    subst h
    exact ⟨fun m _ h => absurd h (by simp), fun i h => absurd h (by simp)⟩
  | cons x r ih =>
    intro save last l h
    obtain ⟨hno, t, e, rfl⟩ := outF_some h
    obtain ⟨h1, h2⟩ := ih _ _ _ e
    refine ⟨fun m hm _ => ?_, fun i hi => ?_⟩
    · subst hm
      simp [lastB] at hno
      simpa using hno
    · cases i with
      | zero => exact h1 _ rfl (by simpa using hi)
      | succ i => exact h2 i (by simpa using hi)
theorem srt_len (m : List (Int × Ru)) : (srt m).length = m.length := List.length_mergeSort ..
theorem mkR_len {rules : List Ru} (ho : ∀ r ∈ rules, OkRu r) (nm : ByteArray) (off : Int) : (mkR rules nm off).2.length ≤ 1500 ∧ ((mkR rules nm off).1 = 0 → ((mkR rules nm off).2.length : Int) = yearsOf rules nm) ∧ ((mkR rules nm off).1 ≠ 0 → (mkR rules nm off).2 = []) := by
  unfold mkR
  split
  · exact ⟨by simp, (fun h => by cases h), fun _ => rfl⟩
  · split
    · exact ⟨by simp, (fun h => by cases h), fun _ => rfl⟩
    · rename_i hy
      cases e : outF off 0 none (srt (nomsOf dayN rules nm)) with
      | none => exact ⟨by simp, (fun h => by cases h), fun _ => rfl⟩
      | some l =>
        have h1 := outF_len _ _ _ _ _ e
        rw [srt_len] at h1
        have h2 := nomsOf_len dayN nm rules fun r hr => (ho r hr).t1
        have h3 := (yearsOf_bd nm rules fun r hr => by have o := ho r hr; exact ⟨o.f1, o.t1, o.t2⟩).1
        exact ⟨by show l.length ≤ 1500; omega, fun _ => by show (l.length : Int) = _; omega, fun h => absurd rfl h⟩
theorem ofR_len (b : Bk) (nm : ByteArray) (off : Int) : (ofR b nm off).2.length ≤ 1500 := by
  unfold ofR
  split
  · simp
  · rename_i h
    split
    · simp
    · exact (mkR_len (bk_rules (Classical.not_not.1 h)).2 nm off).1
/-- one struct in a row of its own -/
theorem rows_one {α : Type} {cells : α → List Value} {k B g : Nat} {W : World} {x : α} {T : TypeId} (h : W.heap[g]? = some (.cells (cells x).toArray T (0, 0))) (hB : g < B) : RowsAt cells k B W (.slice (some ⟨g, 0, none⟩) 1 1) [x] := by
  refine ⟨_, 1, rfl, ⟨by simp, by simp⟩, fun _ => ⟨g, 0, rfl, hB, fun i hi j u hu => ?_⟩⟩
  obtain rfl : i = 0 := by simpa using hi
  rw [Nat.zero_mul, Nat.zero_add, cell_of_row W g j _ _ (0, 0) h]
  simpa using hu
theorem rows_nil {α : Type} {cells : α → List Value} {k B : Nat} {W : World} : RowsAt cells k B W (.slice none 0 0) [] := ⟨none, 0, rfl, ⟨by simp, by simp⟩, fun h => absurd rfl h⟩
theorem book_rules {rules : List Ru} {B : Nat} {W : World} {rv : Value} (h : RowsAt (fun r : Ru => (ruCells r).toList) 11 B W rv rules) (hs : ∀ r ∈ rules, SzR r) : BookAt B W rv (.slice none 0 0) (.slice none 0 0) ⟨rules, [], []⟩ :=
  ⟨h, rows_nil, fun z hz => absurd hz (List.not_mem_nil), rows_nil, hs, fun z hz => absurd hz (List.not_mem_nil), fun z hz => absurd hz (List.not_mem_nil)⟩
theorem chk_rules {rules : List Ru} (h : rules.length ≤ 40) (ho : ∀ r ∈ rules, OkRu r) : bkChk ⟨rules, [], []⟩ = 0 := by
  unfold bkChk
  have h1 : firstE ruChk rules = 0 := (firstE_zero ruChk rules).2 fun r hr => ok_ru (ho r hr)
  rw [if_neg (by simp; omega), if_neg (fun g => g h1)]
  rfl
def ru0 : Ru := ⟨⟨#[65]⟩, 1970, 1970, 1, 1, 0, 2, 0, 0, 3600, ⟨#[45]⟩⟩
theorem ru0_ok : OkRu ru0 := ru_ok (by kernel_rfl)
theorem of0 : ofR ⟨[ru0], [], []⟩ ⟨#[65]⟩ 7200 = (0, [⟨79200, 3600, ⟨#[45]⟩⟩]) := by
  have h1 : bkChk ⟨[ru0], [], []⟩ = 0 := chk_rules (by simp) (fun r hr => by rw [List.mem_singleton.1 hr]; exact ru0_ok)
  rw [ofR_mk h1 (by omega)]
  refine mkR_0 (by simp [ru0]) ?_ ?_
  · have : yearsOf [ru0] ⟨#[65]⟩ = 1 := by simp [yearsOf, ru0]
    show ¬ 1500 < yearsOf [ru0] ⟨#[65]⟩
    omega
  · have : nomsOf dayN [ru0] ⟨#[65]⟩ = [(86400, ru0)] := by
      have e : dayN ru0 1970 = 1 := by kernel_rfl
      simp [nomsOf, nomOf, ru0] at *
      simp [e]
    show outF 7200 0 none (srt (nomsOf dayN [ru0] ⟨#[65]⟩)) = _
    rw [this]
    unfold srt
    rw [List.mergeSort_singleton]
    rfl
theorem ru0_sz : SzR ru0 := ⟨by decide, by decide⟩

set_option maxRecDepth 100000 in
set_option maxHeartbeats 4000000 in
theorem turned_any (MK : MakeSays) (w : World) (hm : MaxLen w) (ht : Tab10 w) :
    Calls Tryd.prog 13 #[] w fun e w' => e = .returned (.bool true) ∧ Below w.heap.size w w' := by
  obtain ⟨W1, eW⟩ : ∃ W1, (w.alloc (.cells #[.string ⟨#[65]⟩, .int .i64 1970, .int .i64 1970, .int .i64 1, .int .i64 1, .int .i64 0, .int .i64 2, .int .i64 0, .int .i64 0, .int .i64 3600, .string ⟨#[45]⟩] 35)).alloc (.cells #[.slice (some ⟨w.heap.size, 0, none⟩) 1 1, .slice none 0 0, .slice none 0 0] 26) = W1 := ⟨_, rfl⟩
  have hb1 : Below w.heap.size w W1 := by rw [← eW]; exact ((Below.refl _ _).alloc (Nat.le_refl _) _).alloc (by simp) _
  have hr1 : W1.heap[w.heap.size]? = some (.cells (ruCells ru0) 35 (0, 0)) := by
    rw [← eW]
    exact (Below.heap_alloc _ _ _ (by simp)).trans (heap_alloc_new w _)
  have hz1 : w.heap.size < W1.heap.size := by rw [← eW]; simp; omega
  have hx1 : W1.heap[w.heap.size + 1]? = some (.cells #[.slice (some ⟨w.heap.size, 0, none⟩) 1 1, .slice none 0 0, .slice none 0 0] 26 (0, 0)) := by
    rw [← eW]
    exact alloc_at _ _ _ (by simp)
  have x0 := (cell_of_row W1 _ 0 _ _ _ hx1).trans rfl
  have x1 := (cell_of_row W1 _ 1 _ _ _ hx1).trans rfl
  have x2 := (cell_of_row W1 _ 2 _ _ _ hx1).trans rfl
  have hRA : RowsAt (fun r : Ru => (ruCells r).toList) 11 W1.heap.size W1 (.slice (some ⟨w.heap.size, 0, none⟩) 1 1) [ru0] := rows_one hr1 hz1
  have HOF := Lib.hid (Of_book MK ⟨[ru0], [], []⟩ _ _ _ ⟨#[65]⟩ 7200 W1 (book_rules hRA (fun r hr => by rw [List.mem_singleton.1 hr]; exact ru0_sz)) (hm.below hb1) (ht.below hb1))
  have HEW := Lib.hid eW
  have HB1 := Lib.hid hb1
  have hq : ∀ W, (binOp .eql 37 (.agg #[.int .i64 79200, .int .i64 3600, .string ⟨#[45]⟩]) (.agg #[.int .i64 79200, .int .i64 3600, .string ⟨#[45]⟩])).run Tryd.prog W = .ok (.bool true) W := fun W => by
    rw [eql_tn ⟨79200, 3600, ⟨#[45]⟩⟩ ⟨79200, 3600, ⟨#[45]⟩⟩ W, decide_eq_true rfl]
  have HEQ := Lib.hid hq
  rw [of0] at HOF
  clear eW hb1 hr1 hRA hm ht hx1 hq
  go_enter Tryd.func13, Tryd.ntmps13
  go_upto_region 2 with fail
  rw [HEW.out]
  go_wp2_with fail
  refine HOF.out.mono ?_
  rintro e w2 ⟨vo, rfl, hrow, hb2⟩
  have HB2 := Lib.hid (HB1.out.trans (hb2.mono HB1.out.size))
  rcases own_cells hrow with ⟨-, h0⟩ | ⟨g, c, rfl, -, hg, hc⟩
  · cases h0
  have y0 := hc 0 _ rfl
  have y1 := hc 1 _ rfl
  have y2 := hc 2 _ rfl
  have hq := HEQ.out
  clear hc hrow hb2 x0 x1 x2 HOF HEQ
  dsimp only [List.length_cons, List.length_nil]
  go_wp2_with fail
  go_ret
  exact ⟨rfl, HB2.out⟩
end Go.Proofs.YtlgdilpmdoofiaaDoor
