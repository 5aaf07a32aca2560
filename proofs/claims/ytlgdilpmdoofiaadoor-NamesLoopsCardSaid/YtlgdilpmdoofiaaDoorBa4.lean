/- A book in memory; the abbreviations of an era. -/
import Derived.Test.YtlgdilpmdoofiaaDoorBa3
import Derived.Test.YtlgdilpmdoofiaaDoorRu1
import Derived.Deep.MidRow
import Derived.Deep.LoopGhost
namespace Go.Proofs.YtlgdilpmdoofiaaDoor
open Go.RowKit Go.Joins
open Classical
set_option linter.unusedVariables false
set_option linter.unusedSimpArgs false

/-- a slice of structs of k cells lies below block B -/
def RowsAt {α : Type} (cells : α → List Value) (k B : Nat) (W : World) (v : Value) (l : List α) : Prop :=
  ∃ p cap, v = .slice p l.length cap ∧ (l.length ≤ 140737488351232 ∧ l.length ≤ cap) ∧ (l ≠ [] → ∃ b o, p = some ⟨b, o, none⟩ ∧ b < B ∧ ∀ i (h : i < l.length) (j : Nat) (u : Value), (cells l[i])[j]? = some u → W.cell? ⟨b, o + i * k + j, none⟩ = some u)
theorem RowsAt.below {α : Type} {cells : α → List Value} {k B B' : Nat} {W W' : World} {v : Value} {l : List α} (h : RowsAt cells k B W v l) (hb : Below B' W W') (hB : B ≤ B') : RowsAt cells k B W' v l := by
  obtain ⟨p, cap, rfl, hl, h⟩ := h
  refine ⟨p, cap, rfl, hl, fun hn => ?_⟩
  obtain ⟨b, o, rfl, hlt, hc⟩ := h hn
  exact ⟨b, o, rfl, hlt, fun i hi j u hu => (hb.cell (p := ⟨b, o + i * k + j, none⟩) (Nat.lt_of_lt_of_le hlt hB)).trans (hc i hi j u hu)⟩
abbrev erCells (x : Er) : Array Value := #[.int .i64 x.off, .string x.ru, .int .i64 x.sv, .string x.fm, .int .i64 x.un]
abbrev erV (x : Er) : Value := .agg (erCells x)
abbrev zoCells (z : Zo) : List Value := [.string z.nm, z.ev]
abbrev lkCells (z : Lk) : List Value := [.string z.nm, .string z.to]
def SzR (r : Ru) : Prop := r.nm.size ≤ 140737488351232 ∧ r.lt.size ≤ 140737488351232
def SzE (x : Er) : Prop := x.ru.size ≤ 140737488351232 ∧ x.fm.size ≤ 140737488351232 ∧ -9223372036854775808 ≤ x.off ∧ x.off ≤ 9223372036854775807 ∧ -9223372036854775808 ≤ x.sv ∧ x.sv ≤ 9223372036854775807 ∧ -9223372036854775808 ≤ x.un ∧ x.un ≤ 9223372036854775807
structure BookAt (B : Nat) (W : World) (rv zv lv : Value) (b : Bk) : Prop where
  r : RowsAt (fun r : Ru => (ruCells r).toList) 11 B W rv b.rules
  z : RowsAt zoCells 2 B W zv b.zones
  e : ∀ z ∈ b.zones, RowsAt (fun x : Er => (erCells x).toList) 5 B W z.ev z.eras
  l : RowsAt lkCells 2 B W lv b.links
  rs : ∀ r ∈ b.rules, SzR r
  zs : ∀ z ∈ b.zones, z.nm.size ≤ 140737488351232 ∧ ∀ x ∈ z.eras, SzE x
  ls : ∀ x ∈ b.links, x.nm.size ≤ 140737488351232 ∧ x.to.size ≤ 140737488351232
theorem BookAt.below {B B' : Nat} {W W' : World} {rv zv lv : Value} {b : Bk} (h : BookAt B W rv zv lv b) (hb : Below B' W W') (hB : B ≤ B') : BookAt B W' rv zv lv b :=
  ⟨h.r.below hb hB, h.z.below hb hB, fun z hz => (h.e z hz).below hb hB, h.l.below hb hB, h.rs, h.zs, h.ls⟩
/-- the checker's box: three slices -/
def ChkBx (W : World) (cb : Nat) (rv zv lv : Value) : Prop := W.heap[cb]? = some (.cells #[rv, zv, lv] 88 (0, 0))
theorem ChkBx.below {W W' : World} {cb B : Nat} {rv zv lv : Value} (h : ChkBx W cb rv zv lv) (hb : Below B W W') (hlt : cb < B) : ChkBx W' cb rv zv lv := (hb.block cb hlt).trans h

theorem ret_E {a b : Int} (h : a = b) : Ending.returned (.int .i64 a) = .returned (.int .i64 b) := by rw [h]
abbrev abRule (x : Er) (r : Ru) : Int := if r.nm = x.ru then abE x.fm r.sv r.lt else 0

set_option maxRecDepth 100000 in
set_option maxHeartbeats 8000000 in
theorem abbrs_any (x : Er) (rules : List Ru) (rv zv lv : Value) (cb : Nat) (w : World) (hC : ChkBx w cb rv zv lv) (hR : RowsAt (fun r : Ru => (ruCells r).toList) 11 w.heap.size w rv rules) (hs : ∀ r ∈ rules, SzR r) (hx : SzE x) (hm : MaxLen w) :
    Calls Tryd.prog 93 #[.pointer (some ⟨cb, 0, none⟩), erV x] w fun e w' => e = .returned (.int .i64 (abbrsChk rules x)) ∧ Below w.heap.size w w' := by
  have hcb : cb < w.heap.size := (Array.getElem?_eq_some_iff.mp hC).1
  obtain ⟨hx1, hx2, _, _, _, _, _, _⟩ := hx
  have HAB : Hid (∀ (sv : Int) (lt : ByteArray) (W : World), lt.size ≤ 140737488351232 → MaxLen W → Calls Tryd.prog 115 #[.string x.fm, .int .i64 sv, .string lt] W fun e w' => e = .returned (.tuple #[.string (txt (abbrF x.fm.data.toList sv lt.data.toList).1), .int .i64 (abE x.fm sv lt)]) ∧ Below W.heap.size W w') := by
    show ∀ (sv : Int) (lt : ByteArray) (W : World), _
    intro sv lt W hl hm
    exact Abbr_any x.fm.data.toList lt.data.toList sv W (by rw [← Lib.size_eq]; omega) (by rw [← Lib.size_eq]; omega) hm
  obtain ⟨W0, eW⟩ : ∃ W0, w.alloc (.cells (erCells x) 65) = W0 := ⟨_, rfl⟩
  have hb0 : Below w.heap.size w W0 := by rw [← eW]; exact (Below.refl _ _).alloc (Nat.le_refl _) _
  have hbx : W0.heap[w.heap.size]? = some (.cells (erCells x) 65 (0, 0)) := by rw [← eW]; exact heap_alloc_new w _
  have hz0 : W0.heap.size = w.heap.size + 1 := by rw [← eW]; simp
  have hp0 := hC.below hb0 hcb
  have HR0 := Lib.hid (hR.below hb0 (Nat.le_refl _))
  have HM0 := Lib.hid (hm.below hb0)
  have HB0 := Lib.hid hb0
  have HP0 := Lib.hid hp0
  have HBX := Lib.hid hbx
  have HZ0 := Lib.hid hz0
  have HEW := Lib.hid eW
  have HS := Lib.hid hs
  clear hb0 hbx hz0 hp0 eW hs hR hm
  obtain ⟨off, ru, sv, fm, un⟩ := x
  have x1 := (cell_of_row W0 _ 1 _ _ _ HBX.out).trans rfl
  have x2 := (cell_of_row W0 _ 2 _ _ _ HBX.out).trans rfl
  have x3 := (cell_of_row W0 _ 3 _ _ _ HBX.out).trans rfl
  by_cases hru : ru.toList = []
  · have b0 : ru.toList.isEmpty = true := by rw [hru]; rfl
    have HK : Hid (abbrsChk rules ⟨off, ru, sv, fm, un⟩ = abE fm sv ⟨#[45]⟩) := by show _ = _; unfold abbrsChk; rw [if_pos (by rw [← ByteArray.toList_eq]; exact hru)]
    have HC0 := Lib.hid (HAB.out sv ⟨#[45]⟩ W0 (by decide) HM0.out)
    clear hru HS HAB
    go_enter Tryd.func93, Tryd.ntmps93
    go_wp2_with fail
    rw [HEW.out]
    refine HC0.out.mono ?_
    obtain ⟨E, eE⟩ : ∃ E, abE fm sv ⟨#[45]⟩ = E := ⟨_, rfl⟩
    rw [eE] at HK ⊢
    rintro e w1 ⟨rfl, hb1⟩
    have HB1 := Lib.hid (HB0.out.trans (hb1.mono HB0.out.size))
    clear hb1 eE HC0
    go_wp2_with fail
    go_ret
    exact ⟨ret_E HK.out.symm, HB1.out⟩
  · have b0 : ru.toList.isEmpty = false := by
      cases e : ru.toList with
      | nil => exact absurd e hru
      | cons c r => rfl
    have HK : Hid (abbrsChk rules ⟨off, ru, sv, fm, un⟩ = if firstE (abRule ⟨off, ru, sv, fm, un⟩) rules = 0 then abE fm 0 ⟨#[45]⟩ else firstE (abRule ⟨off, ru, sv, fm, un⟩) rules) := by show _ = _; unfold abbrsChk; rw [if_neg (by rw [← ByteArray.toList_eq]; exact hru)]
    have hab : ∀ r : Ru, abRule ⟨off, ru, sv, fm, un⟩ r = if r.nm.toList = ru.toList then abE fm r.sv r.lt else 0 := by
      intro r
      unfold abRule
      by_cases e : r.nm = ru
      · rw [if_pos e, if_pos (by rw [e])]
      · rw [if_neg e, if_neg (fun h => e (ByteArray.ext (Array.toList_inj.1 (by rw [← ByteArray.toList_eq, ← ByteArray.toList_eq]; exact h))))]
    obtain ⟨FR, eFR⟩ : ∃ F, abRule ⟨off, ru, sv, fm, un⟩ = F := ⟨_, rfl⟩
    rw [eFR] at HK hab
    have HFR := Lib.hid hab
    have HRU := Lib.hid hru
    obtain ⟨R, eR⟩ : ∃ R, abbrsChk rules ⟨off, ru, sv, fm, un⟩ = R := ⟨_, rfl⟩
    rw [eR] at HK ⊢
    obtain ⟨p, cap, rfl, hlen, hrow⟩ := HR0.out
    have HRow := Lib.hid hrow
    have y0 := (cell_of_row W0 cb 0 _ _ _ HP0.out).trans rfl
    clear hru hab eFR eR hrow HR0 hC
    go_enter Tryd.func93, Tryd.ntmps93
    go_upto_region 1 with fail
    rw [HEW.out]
    go_wp2_with fail
    go_loopw [31] (fun i wr => ∃ k : Nat, k ≤ rules.length ∧ i = .int .i64 k ∧ Hid (Below W0.heap.size W0 wr) ∧ Hid (firstE FR rules = firstE FR (rules.drop k))) (fun i _ => rules.length - (intOf i).toNat)
    case atStart => exact ⟨0, Nat.zero_le _, rfl, Lib.hid (Below.refl _ _), rfl⟩
    case round =>
      obtain ⟨k, hk, rfl, HB, HF⟩ := hrel
      have hz1 : w.heap.size < W0.heap.size := by have := HZ0.out; omega
      have x1 := (HB.out.cell (p := ⟨w.heap.size, 1, none⟩) hz1).trans ((cell_of_row W0 _ 1 _ _ _ HBX.out).trans rfl)
      have x3 := (HB.out.cell (p := ⟨w.heap.size, 3, none⟩) hz1).trans ((cell_of_row W0 _ 3 _ _ _ HBX.out).trans rfl)
      have hzr := HB.out.size
      have hzr2 : w.heap.size < wr.heap.size := by omega
      by_cases hlt : k < rules.length
      · obtain ⟨b, o, rfl, hbl, hcs⟩ := HRow.out (List.ne_nil_of_length_pos (by omega))
        obtain ⟨hs1, hs2⟩ := HS.out rules[k] (List.getElem_mem hlt)
        have hck := hcs k hlt
        have HV := Lib.hid (HFR.out rules[k])
        obtain ⟨q, eq⟩ : ∃ q, rules[k] = q := ⟨_, rfl⟩
        rw [eq] at hck hs1 hs2 HV
        have EQ := Lib.hid eq
        clear eq hcs
        obtain ⟨nm, yf, yt, mo, dk, dw, dn, tm, ck, sv', lt⟩ := q
        have up : ∀ j u, W0.cell? ⟨b, o + k * 11 + j, none⟩ = some u → wr.cell? ⟨b, o + k * 11 + j, none⟩ = some u := fun j u h => (HB.out.cell (p := ⟨b, o + k * 11 + j, none⟩) (show b < W0.heap.size by omega)).trans h
        have z0 := up 0 _ (hck 0 _ rfl)
        have z1 := up 1 _ (hck 1 _ rfl)
        have z2 := up 2 _ (hck 2 _ rfl)
        have z3 := up 3 _ (hck 3 _ rfl)
        have z4 := up 4 _ (hck 4 _ rfl)
        have z5 := up 5 _ (hck 5 _ rfl)
        have z6 := up 6 _ (hck 6 _ rfl)
        have z7 := up 7 _ (hck 7 _ rfl)
        have z8 := up 8 _ (hck 8 _ rfl)
        have z9 := up 9 _ (hck 9 _ rfl)
        have z10 := up 10 _ (hck 10 _ rfl)
        clear up hck
        rw [Nat.add_zero] at z0
        have HBn := Lib.hid (HB.out.alloc HB.out.size (.cells #[.string nm, .int .i64 yf, .int .i64 yt, .int .i64 mo, .int .i64 dk, .int .i64 dw, .int .i64 dn, .int .i64 tm, .int .i64 ck, .int .i64 sv', .string lt] 35))
        by_cases hnm : nm.toList = ru.toList
        · have t0 : (nm.toList == ru.toList) = true := by simpa using hnm
          have hv := HV.out
          simp only at hv
          rw [if_pos hnm] at hv
          have HA := Lib.hid (HAB.out sv' lt (wr.alloc (.cells #[.string nm, .int .i64 yf, .int .i64 yt, .int .i64 mo, .int .i64 dk, .int .i64 dw, .int .i64 dn, .int .i64 tm, .int .i64 ck, .int .i64 sv', .string lt] 35)) hs2 (HM0.out.below HBn.out))
          obtain ⟨E, eE⟩ : ∃ E, abE fm sv' lt = E := ⟨_, rfl⟩
          rw [eE] at hv HA
          have HV2 := Lib.hid hv
          clear hv eE hnm HV
          go_wp2_with fail
          refine HA.out.mono ?_
          rintro e w3 ⟨rfl, hb3⟩
          have HB3 := Lib.hid (HBn.out.trans (hb3.mono HBn.out.size))
          clear hb3 HA
          by_cases hE : E = 0
          · subst hE
            go_wp2_with fail
            go_roundw
            case rel => exact ⟨k + 1, by omega, by go_num, HB3, Lib.hid (firstE_drop FR rules k hlt (by rw [EQ.out]; exact HV2.out) HF.out)⟩
            case measure => simp [intOf]; omega
          · have hz : (E == 0) = false := by simpa using hE
            have hz2 : (!E == 0) = true := by rw [hz]; rfl
            have HK2 : Hid (R = E) := by
              show R = E
              have h1 := firstE_hit FR rules k hlt (by rw [EQ.out, HV2.out]; exact hE) HF.out
              rw [HK.out, h1, EQ.out, HV2.out, if_neg hE]
            clear hE
            go_wp2_with fail
            go_ret
            exact ⟨ret_E HK2.out.symm, HB0.out.trans (HB3.out.mono HB0.out.size)⟩
        · have t0 : (nm.toList == ru.toList) = false := by simpa using hnm
          have hv := HV.out
          simp only at hv
          rw [if_neg hnm] at hv
          have HV2 := Lib.hid hv
          clear hv hnm HV
          go_wp2_with fail
          go_roundw
          case rel => exact ⟨k + 1, by omega, by go_num, HBn, Lib.hid (firstE_drop FR rules k hlt (by rw [EQ.out]; exact HV2.out) HF.out)⟩
          case measure => simp [intOf]; omega
      · have hend := firstE_end FR rules k (by omega) HF.out
        have hkl : ¬ (k : Int) < (rules.length : Int) := by omega
        have HK2 : Hid (R = abE fm 0 ⟨#[45]⟩) := by
          show R = _
          rw [HK.out, if_pos hend]
        have HA := Lib.hid (HAB.out 0 ⟨#[45]⟩ wr (by decide) (HM0.out.below HB.out))
        obtain ⟨E, eE⟩ : ∃ E, abE fm 0 ⟨#[45]⟩ = E := ⟨_, rfl⟩
        rw [eE] at HK2 HA
        clear hend eE
        go_wp2_with fail
        refine HA.out.mono ?_
        rintro e w3 ⟨rfl, hb3⟩
        have HB3 := Lib.hid (HB.out.trans (hb3.mono HB.out.size))
        clear hb3 HA
        go_wp2_with fail
        go_ret
        exact ⟨ret_E HK2.out.symm, HB0.out.trans (HB3.out.mono HB0.out.size)⟩
end Go.Proofs.YtlgdilpmdoofiaaDoor
