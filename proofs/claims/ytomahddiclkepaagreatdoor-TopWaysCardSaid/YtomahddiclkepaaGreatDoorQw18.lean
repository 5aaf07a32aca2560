/- Part of the proof. -/
import Derived.Test.YtomahddiclkepaaGreatDoorQw00
import Derived.Test.YtomahddiclkepaaGreatDoorQw17
import Derived.Test.YtomahddiclkepaaGreatDoorQw01
import Derived.Test.YtomahddiclkepaaGreatDoorQw10
import Derived.Test.YtomahddiclkepaaGreatDoorQw16
import Derived.Test.YtomahddiclkepaaGreatDoorQw03
import Derived.Sort.Walk0
import Derived.StillTailTactics
import Derived.Test.YtomahddiclkepaaGreatDoorQw08
import Derived.Test.YtomahddiclkepaaGreatDoorQw07
set_option maxHeartbeats 20000000
set_option maxRecDepth 1000000
set_option linter.unusedVariables false
set_option linter.unusedSimpArgs false
namespace Go.Proofs.YtomahddiclkepaaGreatDoor
open Go.RowKit
theorem ret_v2 {a b c : Int} (h : a = b) : Ending.returned (.tuple #[.int .i64 a, .int .i64 c]) = .returned (.tuple #[.int .i64 b, .int .i64 c]) := by rw [h]
theorem cum_bd13 (y m : Int) (h1 : 1 <= m) (h2 : m <= 13) : 0 <= Civ.cum y m /\ Civ.cum y m <= 400 := by
 have := Civ.lp01 y
 unfold Civ.cum
 repeat' split
 all_goals omega
theorem RDays_any (y m d : Int) (w : World) (hv : Civ.valid y m d) :
 Calls Tryz.prog 53 #[.int .i64 y, .int .i64 m, .int .i64 d] w fun e w' => e = .returned (.tuple #[.int .i64 (Civ.days y m d), .int .i64 0]) /\ Below w.heap.size w w' := by
 obtain ⟨h0, h1, h2, h3, h4, h5⟩ := hv
 have hb := jan1_bd y (by omega) (by omega)
 have hml := Civ.mlen_bd y m h2 h3
 have HE := qH (Civ.days_eq y m d h2 h3)
 have h1c : Civ.cum y 1 = 0 := by simp [Civ.cum]
 have H1C := qH h1c
 have HCS := qH (Civ.cum_succ y)
 have HCB := qH (cum_bd13 y)
 have HMB := qH (Civ.mlen_bd y)
 obtain ⟨L, eL⟩ : ∃ L, Civ.mlen y m = L := ⟨_, rfl⟩
 rw [eL] at h5 hml
 have HL := qH eL
 obtain ⟨J, eJ⟩ : ∃ J, Civ.jan1 y = J := ⟨_, rfl⟩
 rw [eJ] at hb HE
 have HJ := qH eJ
 clear eL h1c eJ
 go_enter Tryz.func53, Tryz.ntmps53
 go_wp2_with fail
 refine (rLength_ok _ _ _ (by omega) (by omega) (by omega) (by omega)).mono ?_
 rintro e w1 ⟨rfl, hb1⟩
 rw [HL.out]
 have HB1 := qH hb1
 clear hb1
 go_wp2_with fail
 refine (outside_any _ _ _ _).mono ?_
 rw [decide_eq_false (show ¬ (d < 1 \/ L < d) by omega)]
 rintro e w' ⟨rfl, rfl⟩
 go_wp2_with fail
 refine (yearDay_any _ _ (by omega) (by omega)).mono ?_
 rw [HJ.out]
 rintro e w' ⟨rfl, rfl⟩
 go_wp2_with fail
 go_loopw [10, 11] (fun n k wr => ∃ i : Int, 1 <= i /\ i <= m /\ k = .int .i64 i /\ n = .int .i64 (J + d - 1 + Civ.cum y i) /\ Below w.heap.size w wr) (fun _ k _ => (m - intOf k).toNat)
 case atStart => exact ⟨1, by omega, h2, rfl, by rw [H1C.out]; go_num, HB1.out⟩
 case round =>
  obtain ⟨i, hi1, hi2, rfl, rfl, hbr⟩ := hrel
  have HBR := qH hbr
  have hc := HCB.out i hi1 (by omega)
  have HC := qH (HCS.out i hi1 (by omega))
  have hm := HMB.out i hi1 (by omega)
  clear hbr
  by_cases hlt : i < m
  ·obtain ⟨K, eK⟩ : ∃ K, Civ.mlen y i = K := ⟨_, rfl⟩
   rw [eK] at HC hm
   have HK := qH eK
   clear eK
   go_wp2_with fail
   refine (rLength_ok _ _ _ (by omega) (by omega) (by omega) (by omega)).mono ?_
   rintro e w1 ⟨rfl, hb1⟩
   rw [HK.out]
   have HZ := qH (HBR.out.trans (hb1.mono HBR.out.size))
   clear hb1
   go_wp2
   go_roundw
   case rel => exact ⟨i + 1, by omega, by omega, rfl, by rw [HC.out]; go_num, HZ.out⟩
   case measure => simp [intOf]; omega
  ·obtain rfl : i = m := by omega
   go_wp2
   go_ret2
   exact ⟨ret_v2 (by rw [HE.out]; omega), HBR.out⟩
theorem rest0_neg (n m : Int) (h0 : 0 < m) (h1 : m <= 4611686018427387904) (h : n.tmod m < 0) : wrap64 (n.tmod m + m) = n % m := by
 have q := Int.tmod_eq_emod (a := n) (b := m)
 have := Int.emod_nonneg n (show m ≠ 0 by omega)
 have := Int.emod_lt_of_pos n h0
 have e : n.tmod m + m = n % m := by
  split at q
  ·omega
  ·have : (m.natAbs : Int) = m := by omega
   omega
 rw [e]
 exact IntWalk.wrap64_in _ ⟨by omega, by omega⟩
theorem rest0_pos (n m : Int) (h0 : 0 < m) (h : 0 <= n.tmod m) : n.tmod m = n % m := by
 have q := Int.tmod_eq_emod (a := n) (b := m)
 have := Int.emod_lt_of_pos n h0
 split at q
 ·omega
 ·have : (m.natAbs : Int) = m := by omega
  omega
theorem ret_int0 {k : IntKind} {a b : Int} (h : a = b) : Ending.returned (.int k a) = .returned (.int k b) := by rw [h]
theorem Rest0_any (n m : Int) (w : World) (h0 : 0 < m) (h1 : m <= 1099511627776) :
 Calls Tryz.prog 14 #[.int .i64 n, .int .i64 m] w fun e w' => e = .returned (.int .i64 (n % m)) /\ w = w' := by
 have hh : m <= 4611686018427387904 := by omega
 go_enter Tryz.func14, Tryz.ntmps14
 go_wp2
 ·go_ret
  exact ⟨ret_int0 (rest0_neg n m h0 hh (by assumption)), rfl⟩
 ·go_ret
  exact ⟨ret_int0 (rest0_pos n m h0 (by assumption)), rfl⟩
end Go.Proofs.YtomahddiclkepaaGreatDoor
namespace Go.Proofs.YtomahddiclkepaaGreatDoor
open Go.RowKit Go.Joins
open Classical
def idxF {α : Type} (p : α -> Bool) (l : List α) : Int := if l.any p = true then (l.findIdx p : Nat) else -1
theorem idxF_no {α : Type} (p : α -> Bool) (l : List α) (h : l.any p = false) : idxF p l = -1 := by unfold idxF; rw [if_neg (by rw [h]; simp)]
theorem idxF_hit {α : Type} (p : α -> Bool) (l : List α) (k : Nat) (hk : k < l.length) (h : (l.take k).any p = false) (hp : p l[k] = true) : idxF p l = (k : Nat) := by
 unfold idxF
 rw [if_pos (any_hit p l k hk hp)]
 congr 1
 rw [List.findIdx_eq hk]
 refine ⟨hp, fun j hj => ?_⟩
 rw [List.any_eq_false] at h
 have := h l[j] (List.mem_take_iff_getElem.2 ⟨j, by omega, rfl⟩)
 simpa using this
theorem idxTn_any (l : List Tn) (v : Value) (g : Nat) (cb : Array Value) (p : Tn -> Bool) (w : World) (eg : ∀ args w, (callFunc g args).run Tryz.prog w = .ok (.enter g args) w) (hv : RowsAt tnC 3 w.heap.size w v l)
 (hp : ∀ W, Below w.heap.size w W -> ∀ x ∈ l, Calls Tryz.prog g (#[.agg (tnC x).toArray] ++ cb) W fun e w' => e = .returned (.bool (p x)) /\ Below W.heap.size W w') :
 Calls Tryz.prog 105 #[v, .func (.func g) #[] cb] w fun e w' => e = .returned (.int .i64 (idxF p l)) /\ Below w.heap.size w w' := by
 have HP := qH hp
 have HHIT := qH (fun k hk h1 h2 => idxF_hit p l k hk h1 h2)
 have HNO := qH (idxF_no p l)
 obtain ⟨R, eR⟩ : ∃ R, idxF p l = R := ⟨_, rfl⟩
 rw [eR] at HHIT HNO ⊢
 clear eR
 obtain ⟨pp, cap, rfl, hlen, hrow⟩ := hv
 have HRow := qH hrow
 clear hp hrow
 go_enter Tryz.func105, Tryz.ntmps105
 go_wp2_with fail
 go_loopw [8] (fun i wr => ∃ k : Nat, k <= l.length /\ i = .int .i64 k /\ Hid (Below w.heap.size w wr) /\ Hid ((l.take k).any p = false)) (fun i _ => l.length - (intOf i).toNat)
 case atStart => exact ⟨0, Nat.zero_le _, rfl, qH (Below.refl _ _), qH rfl⟩
 case round =>
  obtain ⟨k, hk, rfl, HB, HA⟩ := hrel
  have hzr := HB.out.size
  by_cases hlt : k < l.length
  ·obtain ⟨b, o, rfl, hbl, hcs⟩ := HRow.out (List.ne_nil_of_length_pos (by omega))
   have hck := hcs k hlt
   have hc := HP.out wr HB.out l[k] (List.getElem_mem hlt)
   have HST := qH (fun h => any_step p l k hlt HA.out h)
   have HHT := qH (fun h => HHIT.out k hlt HA.out h)
   obtain ⟨q, eq⟩ : ∃ q, l[k] = q := ⟨_, rfl⟩
   rw [eq] at hck hc HST HHT
   clear eq hcs
   obtain ⟨pv, epv⟩ : ∃ pv, p q = pv := ⟨_, rfl⟩
   rw [epv] at hc HST HHT
   clear epv
   obtain ⟨a, s, lt⟩ := q
   have up : ∀ j u, w.cell? ⟨b, o + k * 3 + j, none⟩ = some u -> wr.cell? ⟨b, o + k * 3 + j, none⟩ = some u := fun j u h => (HB.out.cell (p := ⟨b, o + k * 3 + j, none⟩) hbl).trans h
   have z0 := up 0 _ (hck 0 _ rfl)
   have z1 := up 1 _ (hck 1 _ rfl)
   have z2 := up 2 _ (hck 2 _ rfl)
   rw [Nat.add_zero] at z0
   have HC := qH hc
   clear up hck hc
   cases pv with
   | true =>
    have HT := qH (HHT.out (by first | rfl | trivial))
    go_wp2_with (go_at_fn g; refine HC.out.mono ?_; rintro e w' ⟨rfl, hb⟩; have HB2 := qH (HB.out.trans (hb.mono HB.out.size)); clear hb)
    go_ret
    exact ⟨ret_E HT.out.symm, HB2.out⟩
   | false =>
    go_wp2_with (go_at_fn g; refine HC.out.mono ?_; rintro e w' ⟨rfl, hb⟩; have HB2 := qH (HB.out.trans (hb.mono HB.out.size)); clear hb)
    go_roundw
    case rel => exact ⟨k + 1, by omega, by go_num, HB2, qH (HST.out (by first | rfl | trivial))⟩
    case measure => simp [intOf]; omega
  ·have hkl : ¬ (k : Int) < (l.length : Int) := by omega
   have HT : Hid (R = -1) := by
    show _ = _
    have := HA.out
    rw [List.take_of_length_le (by omega)] at this
    exact HNO.out this
   go_wp2_with fail
   go_ret
   exact ⟨ret_E HT.out.symm, HB.out⟩
theorem Eras1_any (x : Tn) (W : World) : Calls Tryz.prog 106 (#[.agg (tnC x).toArray] ++ #[]) W fun e w' => e = .returned (.bool (decide (x.s = 0))) /\ Below W.heap.size W w' := by
 obtain ⟨a, s, lt⟩ := x
 show Calls _ _ #[.agg #[.int .i64 a, .int .i64 s, .string lt]] W _
 go_enter Tryz.func106, Tryz.ntmps106
 go_wp2
 go_ret
 exact ⟨rfl, (Below.refl _ _).alloc (Nat.le_refl _) _⟩
theorem IdxTn_any (l : List Tn) (v : Value) (w : World) (hv : RowsAt tnC 3 w.heap.size w v l) :
 Calls Tryz.prog 105 #[v, .func (.func 106) #[] #[]] w fun e w' => e = .returned (.int .i64 (idxF (fun u : Tn => decide (u.s = 0)) l)) /\ Below w.heap.size w w' :=
 idxTn_any l v 106 #[] _ w (enters_of Tryz.func106 (by kernel_rfl) rfl) hv fun W _ x _ => Eras1_any x W
theorem Which1_any (bl bt b o n cap : Nat) (x y : Int) (i : Nat) (W : World) (hi : i < n)
 (hl : W.cell? ⟨bl, 0, none⟩ = some (.slice (some ⟨b, o, none⟩) n cap)) (hx : W.cell? ⟨bt, 0, none⟩ = some (.int .i64 x)) (hc : W.cell? ⟨b, o + i * 5 + 4, none⟩ = some (.int .i64 y)) :
 Calls Tryz.prog 104 (#[.int .i64 i] ++ #[.pointer (some ⟨bl, 0, none⟩), .pointer (some ⟨bt, 0, none⟩)]) W fun e w' => e = .returned (.bool (decide (x < y))) /\ Below W.heap.size W w' := by
 have hiz : (i : Int) < (n : Int) := by omega
 go_enter Tryz.func104, Tryz.ntmps104
 go_wp2
 go_quiet (fail)
 go_wp2
 go_ret
 exact ⟨rfl, below_drewN' (Below.refl _ _) _⟩
theorem Which_any {rules : List Ru} (l : List Er) (v : Value) (t : Int) (B : Nat) (w : World) (hv : RowsAt (fun x : Er => (erCells x).toList) 5 B w v l) (hB : B <= w.heap.size) (ho : ErasOk rules l) :
 Calls Tryz.prog 47 #[v, .int .i64 t] w fun e w' => e = .returned (.int .i64 (whichF l t : Nat)) /\ Below w.heap.size w w' := by
 obtain ⟨p, cap, rfl, ⟨hl, hlc⟩, hat⟩ := hv
 obtain ⟨b, o, rfl, hbl, hcs⟩ := hat ho.ne
 have hp : 0 < l.length := List.length_pos_iff.2 ho.ne
 obtain ⟨W0, hW0⟩ : ∃ W0, (w.alloc (.cells #[.slice (some ⟨b, o, none⟩) l.length cap] 44)).alloc (.cells #[.int .i64 t] 3) = W0 := ⟨_, rfl⟩
 have hB0 : Below w.heap.size w W0 := by rw [<- hW0]; exact ((Below.refl _ w).alloc (Nat.le_refl _) _).alloc (by simp) _
 have hS0 : W0.heap.size = w.heap.size + 2 := by rw [<- hW0]; simp
 have q0 : W0.cell? ⟨w.heap.size, 0, none⟩ = some (.slice (some ⟨b, o, none⟩) l.length cap) := by rw [<- hW0]; simp [go_sem]
 have qx : W0.cell? ⟨w.heap.size + 1, 0, none⟩ = some (.int .i64 t) := by rw [<- hW0]; simp [go_sem]
 have eg : ∀ args w, (callFunc 104 args).run Tryz.prog w = .ok (.enter 104 args) w := enters_of Tryz.func104 (by kernel_rfl) rfl
 have hS := Search_any 104 #[.pointer (some ⟨w.heap.size, 0, none⟩), .pointer (some ⟨w.heap.size + 1, 0, none⟩)] (l.length - 1) (fun i => decide (t < (eraAt l i).un)) W0 eg (by omega)
  (fun W i hbW hi => Which1_any w.heap.size (w.heap.size + 1) b o l.length cap t (eraAt l i).un i W (by omega) ((hbW.cell (by show w.heap.size < _; omega)).trans q0) ((hbW.cell (by show w.heap.size + 1 < _; omega)).trans qx)
    ((hbW.cell (by show b < _; omega)).trans ((hB0.cell (by show b < _; omega)).trans (by rw [eraAt_in l i (by omega)]; exact hcs i (by omega) 4 _ rfl))))
  (which_mono ho t)
 have hcd : cntF (fun i => decide (t < (eraAt l i).un)) (l.length - 1) = whichF l t := rfl
 rw [hcd] at hS
 have HS := qH hS
 have HW0 := qH hW0
 have HB0 := qH hB0
 have hcast : ((l.length - 1 : Nat) : Int) = (l.length : Int) - 1 := by omega
 rw [hcast] at HS
 have p1 : IntKind.i64.wrap ((l.length : Int) - 1) = (l.length : Int) - 1 := IntWalk.i64_in _ (by omega)
 obtain ⟨c, hc⟩ : ∃ c, whichF l t = c := ⟨_, rfl⟩
 rw [hc] at HS ⊢
 clear hS hW0 hB0 hat hcs eg hcd hcast hc
 go_enter Tryz.func47, Tryz.ntmps47
 go_wp2_with fail
 rw [HW0.out]
 refine HS.out.mono ?_
 rintro e w1 ⟨rfl, hb1⟩
 go_wp2
 go_ret
 exact ⟨rfl, HB0.out.trans (hb1.mono HB0.out.size)⟩
abbrev tdCells (x : Td) (tv : Value) : Array Value := #[.int .i64 x.er.off, .string x.er.ru, .int .i64 x.er.sv, .string x.er.fm, .int .i64 x.er.un, tv, .string x.fst]
theorem TdAt1_any (bx bt b o n cap : Nat) (t y : Int) (i : Nat) (W : World) (hi : i < n)
 (hl : W.cell? ⟨bx, 5, none⟩ = some (.slice (some ⟨b, o, none⟩) n cap)) (hx : W.cell? ⟨bt, 0, none⟩ = some (.int .i64 t)) (hc : W.cell? ⟨b, o + i * 3, none⟩ = some (.int .i64 y)) :
 Calls Tryz.prog 107 (#[.int .i64 i] ++ #[.pointer (some ⟨bx, 0, none⟩), .pointer (some ⟨bt, 0, none⟩)]) W fun e w' => e = .returned (.bool (decide (t < y))) /\ Below W.heap.size W w' := by
 have hiz : (i : Int) < (n : Int) := by omega
 go_enter Tryz.func107, Tryz.ntmps107
 go_wp2
 go_quiet (fail)
 go_wp2
 go_ret
 exact ⟨rfl, below_drewN' (Below.refl _ _) _⟩
theorem end_three {W : World} {rb : Nat} {a b c : Value} {T : TypeId} (h : W.heap[rb]? = some (.cells #[a, b, c] T (0, 0))) (x y z : Value) :
 ∃ W', ((W.setCell ⟨rb, 0, none⟩ x).setCell ⟨rb, 1, none⟩ y).setCell ⟨rb, 2, none⟩ z = W' /\ W'.heap[rb]? = some (.cells #[x, y, z] T (0, 0)) /\ ∀ B, B <= rb -> Below B W W' := by
 refine ⟨_, rfl, ?_, fun B hB => (((Below.refl _ _).setCell hB _).setCell hB _).setCell hB _⟩
 simp [World.setCell, Array.getElem?_modify, h]
theorem ret_ty {a b : Ty} (h : a = b) : Ending.returned (tyV a) = .returned (tyV b) := by rw [h]
theorem TdAt_any (x : Td) (tv : Value) (t : Int) (w : World) (hr : RowsAt tnC 3 w.heap.size w tv x.ts) (hrise : Rises x.ts) (ho1 : -100000 <= x.er.off) (ho2 : x.er.off <= 100000) (hf : x.er.fm.size <= 140737488351232) (hl : (svT x t).2.size <= 140737488351232) (hs1 : 0 <= (svT x t).1) (hs2 : (svT x t).1 <= 10800) (hm : MaxLen w) (hlen : x.ts.length <= 100000) :
 Calls Tryz.prog 49 #[.agg (tdCells x tv), .int .i64 t] w fun e w' => e = .returned (tyV (tdTy x t)) /\ Below w.heap.size w w' := by
 obtain ⟨p, cap, rfl, -, hat⟩ := hr
 obtain ⟨W0, hW0⟩ : ∃ W0, ((w.alloc (.cells (tdCells x (.slice p x.ts.length cap)) 119)).alloc (.cells #[.int .i64 t] 3)).alloc (.cells #[.int .i64 0, .bool false, .string ⟨#[]⟩] 51) = W0 := ⟨_, rfl⟩
 have hB0 : Below w.heap.size w W0 := by rw [<- hW0]; exact (((Below.refl _ w).alloc (Nat.le_refl _) _).alloc (by simp) _).alloc (by simp; omega) _
 have hS0 : W0.heap.size = w.heap.size + 3 := by rw [<- hW0]; simp
 have hx0 : W0.heap[w.heap.size]? = some (.cells (tdCells x (.slice p x.ts.length cap)) 119 (0, 0)) := by
  rw [<- hW0, Below.heap_alloc _ _ _ (by simp; omega), Below.heap_alloc _ _ _ (by simp)]
  exact heap_alloc_new w _
 have hx1 : W0.heap[w.heap.size + 1]? = some (.cells #[.int .i64 t] 3 (0, 0)) := by
  rw [<- hW0, Below.heap_alloc _ _ _ (by simp)]
  exact alloc_at _ _ _ (by simp)
 have hx2 : W0.heap[w.heap.size + 1 + 1]? = some (.cells #[.int .i64 0, .bool false, .string ⟨#[]⟩] 51 (0, 0)) := by
  rw [<- hW0]
  exact alloc_at _ _ _ (by simp)
 have eg : ∀ args w, (callFunc 107 args).run Tryz.prog w = .ok (.enter 107 args) w := enters_of Tryz.func107 (by kernel_rfl) rfl
 have q5 : W0.cell? ⟨w.heap.size, 5, none⟩ = some (.slice p x.ts.length cap) := (cell_of_row W0 _ 5 _ _ _ hx0).trans rfl
 have qt : W0.cell? ⟨w.heap.size + 1, 0, none⟩ = some (.int .i64 t) := (cell_of_row W0 _ 0 _ _ _ hx1).trans rfl
 have hS : ∀ W1, Below W0.heap.size W0 W1 -> Calls Tryz.prog 103 #[.int .i64 x.ts.length, .func (.func 107) #[] #[.pointer (some ⟨w.heap.size, 0, none⟩), .pointer (some ⟨w.heap.size + 1, 0, none⟩)]] W1 fun e w' => e = .returned (.int .i64 (cntT x.ts t : Nat)) /\ Below W1.heap.size W1 w' := by
  intro W1 hb1
  refine Search_any 107 #[.pointer (some ⟨w.heap.size, 0, none⟩), .pointer (some ⟨w.heap.size + 1, 0, none⟩)] x.ts.length (fun i => decide (t < tnA x.ts i)) W1 eg (by omega) (fun W i hbW hi => ?_) (cntT_mono hrise t)
  obtain ⟨b, o, e, hbl, hcs⟩ := hat (List.ne_nil_of_length_pos (by omega))
  have hbW2 := hb1.trans (hbW.mono hb1.size)
  refine TdAt1_any w.heap.size (w.heap.size + 1) b o x.ts.length cap t (tnA x.ts i) i W hi ?_ ((hbW2.cell (by show w.heap.size + 1 < _; omega)).trans qt) ?_
  ·rw [<- e]; exact (hbW2.cell (by show w.heap.size < _; omega)).trans q5
  ·rw [tnA_at _ i hi]
   exact (hbW2.cell (by show b < _; omega)).trans ((hB0.cell (by exact hbl)).trans (hcs i hi 0 _ rfl))
 have HS := qH hS
 have HW0 := qH hW0
 have HB0 := qH hB0
 have HX0 := qH hx0
 have HX2 := qH hx2
 have hle := cntT_le x.ts t
 have HAB : Hid (∀ W, Below w.heap.size w W -> Calls Tryz.prog 108 #[.string x.er.fm, .int .i64 (svT x t).1, .string (svT x t).2] W fun e w' => e = .returned (.tuple #[.string (nmT x t), .int .i64 (abbrF x.er.fm.data.toList (svT x t).1 (svT x t).2.data.toList).2]) /\ Below W.heap.size W w') := by
  show ∀ W, _
  intro W hb
  exact Abbr_any x.er.fm.data.toList (svT x t).2.data.toList (svT x t).1 W (by rw [<- Lib.size_eq]; omega) (by rw [<- Lib.size_eq]; omega) (hm.below hb)
 have HTY : Hid (∀ s n, s = (svT x t).1 -> n = nmT x t -> (⟨x.er.off + s, decide (0 < s), n⟩ : Ty) = tdTy x t) := by
  show ∀ s n, _
  rintro s n rfl rfl
  rfl
 have H0 := qH (fun h => svT_0 (x := x) (t := t) h)
 have H1 := qH (fun h => svT_s (x := x) (t := t) h)
 obtain ⟨c, hc⟩ : ∃ c, cntT x.ts t = c := ⟨_, rfl⟩
 rw [hc] at HS hle
 have HC := qH hc
 obtain ⟨s, es⟩ : ∃ s, (svT x t).1 = s := ⟨_, rfl⟩
 obtain ⟨l, el⟩ : ∃ l, (svT x t).2 = l := ⟨_, rfl⟩
 obtain ⟨nm, en⟩ : ∃ nm, nmT x t = nm := ⟨_, rfl⟩
 obtain ⟨T, eT⟩ : ∃ T, tdTy x t = T := ⟨_, rfl⟩
 obtain ⟨E, eE⟩ : ∃ E, (abbrF x.er.fm.data.toList (svT x t).1 (svT x t).2.data.toList).2 = E := ⟨_, rfl⟩
 rw [eE] at HAB
 rw [es, el, en] at HAB
 rw [es, en, eT] at HTY
 rw [es] at hs1 hs2
 rw [eT]
 have hSL : (svT x t) = (s, l) := by rw [<- es, <- el]
 have HSL := qH hSL
 have HAT := qH hat
 clear hat hS hW0 hB0 hx0 hx2 hx1 eg q5 qt hc es el en eT eE hSL hl hrise hf
 obtain ⟨⟨off, ru, sv, fm, un⟩, ts, fst⟩ := x
 simp only at ho1 ho2 hlen hle HS HX0 HAB HTY H0 H1 HC HAT HW0 HSL ⊢
 have z0 : W0.cell? ⟨w.heap.size, 0, none⟩ = some (.int .i64 off) := (cell_of_row W0 _ 0 _ _ _ HX0.out).trans rfl
 have z2 : W0.cell? ⟨w.heap.size, 2, none⟩ = some (.int .i64 sv) := (cell_of_row W0 _ 2 _ _ _ HX0.out).trans rfl
 have z3 : W0.cell? ⟨w.heap.size, 3, none⟩ = some (.string fm) := (cell_of_row W0 _ 3 _ _ _ HX0.out).trans rfl
 have z5 : W0.cell? ⟨w.heap.size, 5, none⟩ = some (.slice p ts.length cap) := (cell_of_row W0 _ 5 _ _ _ HX0.out).trans rfl
 have z6 : W0.cell? ⟨w.heap.size, 6, none⟩ = some (.string fst) := (cell_of_row W0 _ 6 _ _ _ HX0.out).trans rfl
 go_enter Tryz.func49, Tryz.ntmps49
 go_upto_region 1 with fail
 rw [HW0.out]
 go_quiet (fail)
 go_wp2_with fail
 refine (HS.out _ (below_drewN' (Below.refl _ _) _)).mono ?_
 rintro e w1 ⟨rfl, hb1⟩
 have hb1' : Below W0.heap.size W0 w1 := (below_drewN' (Below.refl W0.heap.size W0) nq).trans (hb1.mono (Nat.le_refl _))
 have HB1 := qH (HB0.out.trans (hb1'.mono HB0.out.size))
 have hx0 := (hb1'.block w.heap.size (by omega)).trans HX0.out
 have hx2 := (hb1'.block (w.heap.size + 1 + 1) (by omega)).trans HX2.out
 have HY2 := qH hx2
 have y0 : w1.cell? ⟨w.heap.size, 0, none⟩ = some (.int .i64 off) := (cell_of_row w1 _ 0 _ _ _ hx0).trans rfl
 have y3 : w1.cell? ⟨w.heap.size, 3, none⟩ = some (.string fm) := (cell_of_row w1 _ 3 _ _ _ hx0).trans rfl
 have y5 : w1.cell? ⟨w.heap.size, 5, none⟩ = some (.slice p ts.length cap) := (cell_of_row w1 _ 5 _ _ _ hx0).trans rfl
 have HY0 := qH hx0
 have hs1z : w.heap.size + 2 < w1.heap.size := by have := hb1'.size; omega
 have p0 : IntKind.i64.wrap (off + s) = off + s := IntWalk.i64_in _ (by omega)
 clear hb1 hb1' hx0 hx2 z0 z2 z3 z5 z6 HS HX0 HX2
 have FIN : Hid (∀ (w2 : World), Below w1.heap.size w1 w2 -> ∃ W9, ((w2.setCell ⟨w.heap.size + 1 + 1, 0, none⟩ (.int .i64 (off + s))).setCell ⟨w.heap.size + 1 + 1, 1, none⟩ (.bool (decide (0 < s)))).setCell ⟨w.heap.size + 1 + 1, 2, none⟩ (.string nm) = W9 /\ W9.cell? ⟨w.heap.size + 1 + 1, 0, none⟩ = some (.int .i64 (off + s)) /\ W9.cell? ⟨w.heap.size + 1 + 1, 1, none⟩ = some (.bool (decide (0 < s))) /\ W9.cell? ⟨w.heap.size + 1 + 1, 2, none⟩ = some (.string nm) /\ Below w.heap.size w W9) := by
  show ∀ w2, _
  intro w2 hb2
  obtain ⟨W9, e9, hh9, hb9⟩ := end_three ((hb2.block (w.heap.size + 1 + 1) (by omega)).trans HY2.out) (.int .i64 (off + s)) (.bool (decide (0 < s))) (.string nm)
  exact ⟨W9, e9, (cell_of_row W9 _ 0 _ _ _ hh9).trans rfl, (cell_of_row W9 _ 1 _ _ _ hh9).trans rfl, (cell_of_row W9 _ 2 _ _ _ hh9).trans rfl, (HB1.out.trans (hb2.mono HB1.out.size)).trans (hb9 _ (by omega))⟩
 have BOX : Hid (∀ (w2 : World), Below w1.heap.size w1 w2 -> w2.cell? ⟨w.heap.size, 0, none⟩ = some (.int .i64 off) /\ w2.cell? ⟨w.heap.size + 1 + 1, 0, none⟩ = some (.int .i64 0) /\ w2.cell? ⟨w.heap.size + 1 + 1, 1, none⟩ = some (.bool false) /\ w2.cell? ⟨w.heap.size + 1 + 1, 2, none⟩ = some (.string ⟨#[]⟩) /\ (∀ o, w2.frozen? ⟨w.heap.size + 1 + 1, o, none⟩ = false)) := by
  show ∀ w2, _
  intro w2 hb2
  have h0 := (hb2.block w.heap.size (by omega)).trans HY0.out
  have h2 := (hb2.block (w.heap.size + 1 + 1) (by omega)).trans HY2.out
  exact ⟨(cell_of_row w2 _ 0 _ _ _ h0).trans rfl, (cell_of_row w2 _ 0 _ _ _ h2).trans rfl, (cell_of_row w2 _ 1 _ _ _ h2).trans rfl, (cell_of_row w2 _ 2 _ _ _ h2).trans rfl, fun o => by simp [World.frozen?, h2]⟩
 have HTT := qH (HTY.out s nm rfl rfl)
 cases c with
 | zero =>
  have hsl := (H0.out HC.out).symm.trans HSL.out
  injection hsl with e1 e2
  subst e1
  subst e2
  clear HAT H0 H1 HC HSL HTY
  go_wp2_with fail
  refine (HAB.out _ HB1.out).mono ?_
  rintro e w2 ⟨rfl, hb2⟩
  obtain ⟨g0, r0, r1, r2, rf⟩ := BOX.out w2 hb2
  have rf0 := rf 0
  have rf1 := rf 1
  have rf2 := rf 2
  have HF := qH (FIN.out w2 hb2)
  clear BOX FIN HAB rf y0 y3 y5
  go_wp2_with fail
  obtain ⟨W9, e9, v0, v1, v2, hb9⟩ := HF.out
  rw [e9]
  refine bodyPost_ret (v := .agg #[.int .i64 (off + sv), .bool (decide (0 < sv)), .string nm]) (by simp [results, Tryz.results49, go_sem, v0, v1, v2]) rfl ⟨?_, hb9⟩
  exact ret_ty HTT.out
 | succ c =>
  obtain ⟨hlt, hsl⟩ := H1.out (by rw [HC.out]; omega)
  have hci : cntT ts t - 1 = c := by rw [HC.out]; omega
  have hcl : c < ts.length := by omega
  have hsl2 : (ts[c].s, ts[c].lt) = (s, l) := by
   have h3 := hsl.symm.trans HSL.out
   simp only [hci] at h3
   exact h3
  injection hsl2 with e1 e2
  obtain ⟨b, o, rfl, hbl, hcs⟩ := HAT.out (List.ne_nil_of_length_pos (by omega))
  have k1 := (HB1.out.cell (p := ⟨b, o + c * 3 + 1, none⟩) hbl).trans (hcs c hcl 1 _ rfl)
  have k2 := (HB1.out.cell (p := ⟨b, o + c * 3 + 2, none⟩) hbl).trans (hcs c hcl 2 _ rfl)
  rw [e1] at k1
  rw [e2] at k2
  have p1 : IntKind.i64.wrap ((c : Int) + 1 - 1) = (c : Int) := by rw [show (c : Int) + 1 - 1 = c by omega]; exact IntWalk.i64_in _ (by omega)
  have p2 : (c : Int) < (ts.length : Int) := by omega
  clear hcs hsl e1 e2 hlt hci HAT H0 H1 HC HSL HTY
  rw [show ((c + 1 : Nat) : Int) = (c : Int) + 1 by omega]
  go_wp2_with fail
  go_quiet (fail)
  go_wp2_with fail
  refine (HAB.out _ (below_drewN' HB1.out _)).mono ?_
  rintro e w2 ⟨rfl, hb2⟩
  have hb2' : Below w1.heap.size w1 w2 := (below_drewN' (Below.refl w1.heap.size w1) _).trans (hb2.mono (Nat.le_refl _))
  obtain ⟨g0, r0, r1, r2, rf⟩ := BOX.out w2 hb2'
  have rf0 := rf 0
  have rf1 := rf 1
  have rf2 := rf 2
  have HF := qH (FIN.out w2 hb2')
  clear BOX FIN HAB rf y0 y3 y5 hb2 hb2'
  go_wp2_with fail
  obtain ⟨W9, e9, v0, v1, v2, hb9⟩ := HF.out
  rw [e9]
  refine bodyPost_ret (v := .agg #[.int .i64 (off + s), .bool (decide (0 < s)), .string nm]) (by simp [results, Tryz.results49, go_sem, v0, v1, v2]) rfl ⟨?_, hb9⟩
  exact ret_ty HTT.out
structure TdM where
 td : Td
 tv : Value
abbrev tmL (m : TdM) : List Value := (tdCells m.td m.tv).toList
def tmFlat (l : List TdM) : List Value := l.flatMap tmL
theorem tmFlat_snoc (l : List TdM) (m : TdM) : tmFlat (l ++ [m]) = tmFlat l ++ (tdCells m.td m.tv).toList := by simp [tmFlat]
theorem infoTd : (Tryz.prog.info? 119).map (fun i => (i.zero, i.size, i.bytes)) = some (some (.agg #[.int .i64 0, .string ⟨#[]⟩, .int .i64 0, .string ⟨#[]⟩, .int .i64 0, .slice none 0 0, .string ⟨#[]⟩]), 7, 96) := by kernel_rfl
theorem undTd : Tryz.prog.underlying 115 = some (.slice 119) := by kernel_rfl
structure TdsAt (W : World) (B : Nat) (v : Value) (ms : List TdM) : Prop where
 row : W.ownsRow B 119 7 v ms.length (tmFlat ms)
 ts : ∀ m ∈ ms, W.ownsRow B 49 3 m.tv m.td.ts.length (tnCells m.td.ts)
def ErasPost (rules : List Ru) (l : List Er) (w : World) (e : Ending) (w' : World) : Prop :=
 Below w.heap.size w w' /\ (firstE (tdE rules) l ≠ 0 -> e = .returned (.tuple #[.slice none 0 0, .int .i64 (firstE (tdE rules) l)])) /\
 (firstE (tdE rules) l = 0 -> ∃ v ms, e = .returned (.tuple #[v, .int .i64 0]) /\ ms.map (·.td) = l.map (tdR rules) /\ TdsAt w' w.heap.size v ms)
theorem ErasPost.bad {rules : List Ru} {l : List Er} {w w' : World} {c : Int} (h : firstE (tdE rules) l = c) (hc : c ≠ 0) (hb : Below w.heap.size w w') : ErasPost rules l w (.returned (.tuple #[.slice none 0 0, .int .i64 c])) w' :=
 ⟨hb, fun _ => by rw [h], fun g => absurd (h.symm.trans g) hc⟩
theorem ErasPost.ok {rules : List Ru} {l : List Er} {w w' : World} {v : Value} {ms : List TdM} (h : firstE (tdE rules) l = 0) (hm : ms.map (·.td) = l.map (tdR rules)) (ht : TdsAt w' w.heap.size v ms) (hb : Below w.heap.size w w') : ErasPost rules l w (.returned (.tuple #[v, .int .i64 0])) w' :=
 ⟨hb, fun g => absurd h g, fun _ => ⟨v, ms, rfl, hm, ht⟩⟩
theorem heap_setSt {w : World} {R i : Nat} {cs : Array Value} {T : TypeId} {f : Nat × Nat} (h : w.heap[R]? = some (.cells cs T f)) (v : Value) : (w.setCell ⟨R, i, none⟩ v).heap[R]? = some (.cells (cs.setIfInBounds i v) T f) := by
 simp [World.setCell, Array.getElem?_modify, h]
theorem own_type {W : World} {B : Nat} {e T : TypeId} {s n R : Nat} {v : Value} {xs : List Value} {cs : Array Value} {f : Nat × Nat} (h : W.ownsRow B e s v n xs) (hR : W.heap[R]? = some (.cells cs T f)) (hne : e ≠ T) : v.ownBlock ≠ some R := by
 rcases h.2 with ⟨e1, _⟩ | ⟨g, cap, cur, e1, _, hg, _⟩
 ·rw [e1]; simp [Value.ownBlock]
 ·rw [e1]
  simp only [Value.ownBlock]
  intro e2
  injection e2 with e2
  subst e2
  rw [hR] at hg
  injection hg with hg
  injection hg with _ h2 _
  exact hne h2.symm
theorem own_grown {W W' : World} {B B' : Nat} {e e' : TypeId} {s s' n n' : Nat} {v v' : Value} {xs xs' : List Value} (h : W.ownsRow B e s v n xs) (h' : W.ownsRow B' e' s' v' n' xs') (hne : e ≠ e') (hg : W.grownBy W' v'.ownBlock) : W'.ownsRow B e s v n xs := by
 refine own_keep h fun g eg => hg.block g (World.ownsRow.lt h g eg).2 fun e2 => ?_
 rcases own_apart h h' hne with h3 | h3
 ·rw [h3] at eg; cases eg
 ·exact h3 (by rw [eg, e2])
theorem firstE_upto {α : Type} (f : α -> Int) (l : List α) (k : Nat) (hk : k < l.length) (h : firstE f (l.take k) = 0) (h2 : f l[k] ≠ 0) : firstE f l = f l[k] := by
 have key : ∀ (a b : List α) (x : α), firstE f a = 0 -> f x ≠ 0 -> firstE f (a ++ x :: b) = f x := by
  intro a b x
  induction a with
  | nil => intro _ hx; show (if f x = 0 then firstE f b else f x) = f x; rw [if_neg hx]
  | cons y a ih =>
   intro ha hx
   have e : firstE f (y :: a) = if f y = 0 then firstE f a else f y := rfl
   rw [e] at ha
   show (if f y = 0 then firstE f (a ++ x :: b) else f y) = f x
   by_cases hy : f y = 0
   ·rw [if_pos hy] at ha ⊢; exact ih ha hx
   ·rw [if_neg hy] at ha; exact absurd ha hy
 have := key (l.take k) (l.drop (k + 1)) l[k] h h2
 rwa [<- List.drop_eq_getElem_cons hk, List.take_append_drop] at this
theorem firstE_next {α : Type} (f : α -> Int) (l : List α) (k : Nat) (hk : k < l.length) (h : firstE f (l.take k) = 0) (h2 : f l[k] = 0) : firstE f (l.take (k + 1)) = 0 := by
 rw [firstE_zero] at h ⊢
 intro x hx
 rw [List.take_succ_eq_append_getElem hk] at hx
 rcases List.mem_append.1 hx with hx | hx
 ·exact h x hx
 ·rw [List.mem_singleton.1 hx]; exact h2
theorem tdE_nil {rules : List Ru} {x : Er} (h : x.ru.data.toList = []) : tdE rules x = 0 /\ tdR rules x = ⟨x, [], dashB⟩ := by
 unfold tdE tdR; rw [if_pos h, if_pos h]; exact ⟨rfl, rfl⟩
theorem tdE_go {rules : List Ru} {x : Er} (h : x.ru.data.toList ≠ []) : tdE rules x = (mkR rules x.ru x.off).1 /\ tdR rules x = ⟨x, (mkR rules x.ru x.off).2, firstLt (mkR rules x.ru x.off).2⟩ := by
 unfold tdE tdR; rw [if_neg h, if_neg h]; exact ⟨rfl, rfl⟩
theorem firstLt_idx (l : List Tn) : (idxF (fun u : Tn => decide (u.s = 0)) l = -1 /\ firstLt l = dashB) \/ ∃ k, ∃ h : k < l.length, idxF (fun u : Tn => decide (u.s = 0)) l = (k : Nat) /\ firstLt l = l[k].lt := by
 unfold idxF firstLt fstK
 by_cases h : (l.any fun u => decide (u.s = 0)) = true
 ·have hlt : (l.findIdx fun u => decide (u.s = 0)) < l.length := List.findIdx_lt_length.2 (by
   obtain ⟨x, hx, e⟩ := List.any_eq_true.1 h
   exact ⟨x, hx, e⟩)
  rw [if_pos h, List.getElem?_eq_getElem hlt]
  exact .inr ⟨_, hlt, rfl, rfl⟩
 ·have hno : (l.findIdx fun u => decide (u.s = 0)) = l.length := List.findIdx_eq_length.2 fun x hx => by
   cases e : decide (x.s = 0) with
   | false => rfl
   | true => exact absurd (List.any_eq_true.2 ⟨x, hx, e⟩) h
  rw [if_neg h, hno, List.getElem?_eq_none (Nat.le_refl _)]
  exact .inl ⟨rfl, rfl⟩
theorem Eras_any (MK : MakeSays) (rules : List Ru) (rv zv lv : Value) (nm : ByteArray) (l : List Er) (v : Value) (w : World) (hR : RowsAt (fun r : Ru => (ruCells r).toList) 11 w.heap.size w rv rules) (hro : ∀ r ∈ rules, OkRu r) (hr40 : rules.length <= 40)
 (hE : RowsAt (fun x : Er => (erCells x).toList) 5 w.heap.size w v l) (hoff : ∀ x ∈ l, -75600 <= x.off /\ x.off <= 75600) (hl : l.length <= 1000) (hz : ∃ p n c, zv = .slice p n c) (hlv : ∃ p n c, lv = .slice p n c) :
 Calls Tryz.prog 48 #[.agg #[rv, zv, lv], .agg #[.string nm, v]] w (ErasPost rules l w) := by
 obtain ⟨zp, zn, zc, rfl⟩ := hz
 obtain ⟨lp, ln, lc, rfl⟩ := hlv
 have HRL := qH hR
 obtain ⟨p1, c1, rfl, -, -⟩ := hR
 obtain ⟨pv, cv, rfl, ⟨-, hlc⟩, hat⟩ := hE
 obtain ⟨W0, eW⟩ : ∃ W0, (w.alloc (.cells #[.slice p1 rules.length c1, .slice zp zn zc, .slice lp ln lc] 26)).alloc (.cells #[.string nm, .slice pv l.length cv] 46) = W0 := ⟨_, rfl⟩
 have hb0 : Below w.heap.size w W0 := by rw [<- eW]; exact ((Below.refl _ _).alloc (Nat.le_refl _) _).alloc (by simp) _
 have hz0 : W0.heap.size = w.heap.size + 2 := by rw [<- eW]; simp
 have hbx : W0.heap[w.heap.size]? = some (.cells #[.slice p1 rules.length c1, .slice zp zn zc, .slice lp ln lc] 26 (0, 0)) := by
  rw [<- eW, Below.heap_alloc _ _ _ (by simp)]
  exact heap_alloc_new w _
 have hzx : W0.heap[w.heap.size + 1]? = some (.cells #[.string nm, .slice pv l.length cv] 46 (0, 0)) := by
  rw [<- eW]
  exact alloc_at _ _ _ (by simp)
 have x1 := (cell_of_row W0 _ 1 _ _ _ hzx).trans rfl
 have HEW := qH eW
 have HB0 := qH hb0
 have HBX := qH hbx
 have HAT := qH hat
 have HOFF := qH hoff
 have HMK : Hid (∀ (W : World) (nm : ByteArray) (off : Int), Below w.heap.size w W -> -75600 <= off -> off <= 75600 -> Calls Tryz.prog 41 #[.slice p1 rules.length c1, .string nm, .int .i64 off] W (MakePost rules nm off W)) := by
  show ∀ W nm off, _
  intro W nm off hb h1 h2
  exact MK rules nm off _ W ((HRL.out.below hb (Nat.le_refl _)).mono hb.size) hro hr40 h1 h2
 have HLEN : Hid (∀ nm off, (mkR rules nm off).2.length <= 1500) := fun nm off => (mkR_len hro nm off).1
 have HBAD := qH (fun k hk h1 h2 => firstE_upto (tdE rules) l k hk h1 h2)
 have HNXT := qH (fun k hk h1 h2 => firstE_next (tdE rules) l k hk h1 h2)
 obtain ⟨i1, hi1, hz10, hz11, hz12⟩ := info_parts infoTd
 clear eW hb0 hbx hzx hat hoff hro
 go_enter Tryz.func48, Tryz.ntmps48
 go_upto_region 2 with fail
 rw [HEW.out]
 go_wp2_with fail
 go_loopw [6, 16] (fun v6 i wr => ∃ (k : Nat) (ms : List TdM), k <= l.length /\ i = .int .i64 k /\ Hid (ms.map (·.td) = (l.take k).map (tdR rules)) /\ Hid (firstE (tdE rules) (l.take k) = 0) /\ Hid (TdsAt wr W0.heap.size v6 ms) /\ Hid (Below W0.heap.size W0 wr)) (fun _ i _ => l.length - (intOf i).toNat)
 case atStart => exact ⟨0, [], Nat.zero_le _, rfl, rfl, rfl, ⟨World.ownsRow_nil _ _ _ _, fun m hm => absurd hm (List.not_mem_nil)⟩, qH (Below.refl _ _)⟩
 case round =>
  obtain ⟨k, ms, hk, rfl, HMS, HFE, HTD, HBR⟩ := hrel
  have hzr := HBR.out.size
  have hml : ms.length = k := by
   have := congrArg List.length HMS.out
   simpa [List.length_take, Nat.min_eq_left hk] using this
  have hmle : ms.length <= 1000 := by omega
  clear hml
  by_cases hkl : k < l.length
  ·obtain ⟨bb, o, rfl, hbl, hcs⟩ := HAT.out (List.ne_nil_of_length_pos (by omega))
   have hck := hcs k hkl
   have hoff := HOFF.out _ (List.getElem_mem hkl)
   have HB1 := qH (HBAD.out k hkl HFE.out)
   have HN1 := qH (HNXT.out k hkl HFE.out)
   have HSN : Hid (∀ m : TdM, m.td = tdR rules l[k] -> (ms ++ [m]).map (·.td) = (l.take (k + 1)).map (tdR rules)) := by
    show ∀ m : TdM, _
    intro m hm
    rw [List.take_succ_eq_append_getElem hkl, List.map_append, List.map_append, HMS.out]
    simp [hm]
   have HBW := qH (HB0.out.trans (HBR.out.mono HB0.out.size))
   have up : ∀ j u, w.cell? ⟨bb, o + k * 5 + j, none⟩ = some u -> wr.cell? ⟨bb, o + k * 5 + j, none⟩ = some u := fun j u h => (HBW.out.cell (p := ⟨bb, o + k * 5 + j, none⟩) hbl).trans h
   obtain ⟨q, eq⟩ : ∃ q, l[k] = q := ⟨_, rfl⟩
   rw [eq] at hck hoff HB1 HN1 HSN
   clear eq hcs
   have z0 := up 0 _ (hck 0 _ rfl)
   have z1 := up 1 _ (hck 1 _ rfl)
   have z2 := up 2 _ (hck 2 _ rfl)
   have z3 := up 3 _ (hck 3 _ rfl)
   have z4 := up 4 _ (hck 4 _ rfl)
   rw [Nat.add_zero] at z0
   clear up hck
   have HNIL := qH (fun h => tdE_nil (rules := rules) (x := q) h)
   have HGO := qH (fun h => tdE_go (rules := rules) (x := q) h)
   obtain ⟨off, ru, sv, fm, un⟩ := q
   simp only at hoff z0 z1 z2 z3 z4 HNIL HGO
   obtain ⟨W3, eW3⟩ : ∃ W3, (wr.alloc (.cells #[.int .i64 off, .string ru, .int .i64 sv, .string fm, .int .i64 un] 43)).alloc (.cells #[.int .i64 off, .string ru, .int .i64 sv, .string fm, .int .i64 un, .slice none 0 0, .string ⟨#[45]⟩] 119) = W3 := ⟨_, rfl⟩
   obtain ⟨eb, eeb⟩ : ∃ eb, wr.heap.size = eb := ⟨_, rfl⟩
   have hx3 : W3.heap[eb]? = some (.cells #[.int .i64 off, .string ru, .int .i64 sv, .string fm, .int .i64 un] 43 (0, 0)) := by
    rw [<- eW3, Below.heap_alloc _ _ _ (by simp; omega)]
    exact alloc_at _ _ _ eeb.symm
   have ht3 : W3.heap[eb + 1]? = some (.cells #[.int .i64 off, .string ru, .int .i64 sv, .string fm, .int .i64 un, .slice none 0 0, .string ⟨#[45]⟩] 119 (0, 0)) := by
    rw [<- eW3]
    exact alloc_at _ _ _ (by simp; omega)
   have hz3 : W3.heap.size = eb + 2 := by rw [<- eW3]; simp; omega
   have hk3 : ∀ b, b < wr.heap.size -> W3.heap[b]? = wr.heap[b]? := fun b hb => by rw [<- eW3, Below.heap_alloc _ _ _ (by simp; omega), Below.heap_alloc _ _ _ hb]
   have hb3 : Below wr.heap.size wr W3 := by rw [<- eW3]; exact ((Below.refl _ _).alloc (Nat.le_refl _) _).alloc (by simp) _
   have HBR3 := qH (HBR.out.trans (hb3.mono hzr))
   have HTD3 : Hid (TdsAt W3 W0.heap.size u6 ms) := ⟨own_keep HTD.out.row fun g e => hk3 g (World.ownsRow.lt HTD.out.row g e).2, fun m hm => own_keep (HTD.out.ts m hm) fun g e => hk3 g (World.ownsRow.lt (HTD.out.ts m hm) g e).2⟩
   have HGN : Hid (∀ g, u6.ownBlock = some g -> g < eb) := fun g e => by have := (World.ownsRow.lt HTD.out.row g e).2; omega
   have HX3 := qH hx3
   have HT3 := qH ht3
   have HEW3 := qH eW3
   have HEB := qH eeb
   clear hk3 hb3 hx3 ht3 eW3 HTD
   go_upto_region 6 with fail
   rw [HEW3.out]
   have hebz : W0.heap.size <= eb := by have := HEB.out; omega
   have e0 : W3.cell? ⟨eb, 0, none⟩ = some (.int .i64 off) := (cell_of_row W3 _ 0 _ _ _ HX3.out).trans rfl
   have e1 : W3.cell? ⟨eb, 1, none⟩ = some (.string ru) := (cell_of_row W3 _ 1 _ _ _ HX3.out).trans rfl
   have hlt3 : eb + 1 < W3.heap.size := by omega
   have hge3 : W0.heap.size <= W3.heap.size := by omega
   clear hz3
   clear z0 z1 z2 z3 z4
   by_cases hru : ru.toList = []
   ·have b0 : ru.toList.isEmpty = true := by rw [hru]; rfl
    obtain ⟨n1, n2⟩ := HNIL.out (by rw [<- ByteArray.toList_eq]; exact hru)
    have HS1 := qH (HSN.out ⟨⟨⟨off, ru, sv, fm, un⟩, [], dashB⟩, .slice none 0 0⟩ n2.symm)
    have HF1 := qH (HN1.out n1)
    have y0 : W3.cell? ⟨eb + 1, 0, none⟩ = some (.int .i64 off) := (cell_of_row W3 _ 0 _ _ _ HT3.out).trans rfl
    have y1 : W3.cell? ⟨eb + 1, 1, none⟩ = some (.string ru) := (cell_of_row W3 _ 1 _ _ _ HT3.out).trans rfl
    have y2 : W3.cell? ⟨eb + 1, 2, none⟩ = some (.int .i64 sv) := (cell_of_row W3 _ 2 _ _ _ HT3.out).trans rfl
    have y3 : W3.cell? ⟨eb + 1, 3, none⟩ = some (.string fm) := (cell_of_row W3 _ 3 _ _ _ HT3.out).trans rfl
    have y4 : W3.cell? ⟨eb + 1, 4, none⟩ = some (.int .i64 un) := (cell_of_row W3 _ 4 _ _ _ HT3.out).trans rfl
    have y5 : W3.cell? ⟨eb + 1, 5, none⟩ = some (.slice none 0 0) := (cell_of_row W3 _ 5 _ _ _ HT3.out).trans rfl
    have y6 : W3.cell? ⟨eb + 1, 6, none⟩ = some (.string ⟨#[45]⟩) := (cell_of_row W3 _ 6 _ _ _ HT3.out).trans rfl
    clear hru n1 n2 HNIL HGO HSN HN1 HB1 HMS HFE
    obtain ⟨A, cS, rfl⟩ := own_sliceN HTD3.out.row
    have HML : ms.length + 1 <= maxLen := by simp only [maxLen]; omega
    have HMB : (ms.length + 1) * 96 <= 140737488355328 := by omega
    have HROW := qH (World.ownsRow.alloc HTD3.out.row (.cells #[.int .i64 off, .string ru, .int .i64 sv, .string fm, .int .i64 un, .slice none 0 0, .string ⟨#[45]⟩] 119))
    have HNEW := qH (World.news_of_block (cs := #[.int .i64 off, .string ru, .int .i64 sv, .string fm, .int .i64 un, .slice none 0 0, .string ⟨#[45]⟩]) (t := 119) (fr := (0, 0)) (heap_alloc_new W3 (.cells #[.int .i64 off, .string ru, .int .i64 sv, .string fm, .int .i64 un, .slice none 0 0, .string ⟨#[45]⟩] 119)))
    have HSZ : W0.heap.size <= (W3.alloc (.cells #[.int .i64 off, .string ru, .int .i64 sv, .string fm, .int .i64 un, .slice none 0 0, .string ⟨#[45]⟩] 119)).heap.size := by have := HBR3.out.size; simp; omega
    go_wp2_with (at_builtin; refine wpList_append_own _ rfl _ _ 115 rfl W0.heap.size 119 i1 (.agg #[.int .i64 0, .string ⟨#[]⟩, .int .i64 0, .string ⟨#[]⟩, .int .i64 0, .slice none 0 0, .string ⟨#[]⟩]) 7 96 undTd hi1 hz10 hz11 hz12 rfl (by decide) _ _ _ rfl HROW.out ⟨W3.heap.size, 0, none⟩ 1 1 [.int .i64 off, .string ru, .int .i64 sv, .string fm, .int .i64 un, .slice none 0 0, .string ⟨#[45]⟩] rfl rfl HNEW.out (by simp [Value.oneCell']) HML HMB HSZ ?_; intro v' w10 hown10 hgrow10 _)
    go_roundw
    case rel =>
     refine ⟨k + 1, ms ++ [⟨⟨⟨off, ru, sv, fm, un⟩, [], dashB⟩, .slice none 0 0⟩], by omega, by go_num, HS1, HF1, ⟨?_, ?_⟩, ?_⟩
     ·show World.ownsRow _ _ _ _ _ _ _
      rw [tmFlat_snoc, List.length_append]
      exact hown10
     ·intro m hm
      rcases List.mem_append.1 hm with hm | hm
      ·exact own_grown (World.ownsRow.alloc (HTD3.out.ts m hm) _) HROW.out (by decide) hgrow10
      ·obtain rfl := List.mem_singleton.1 hm
       exact own_grown (World.ownsRow.alloc (World.ownsRow_nil _ _ _ _) _) HROW.out (by decide) hgrow10
     ·exact ((HBR3.out.alloc HBR3.out.size _).grown hgrow10 HSZ fun q hq => (World.ownsRow.lt HROW.out q hq).1)
    case measure => simp [intOf]; omega
   ·have b0 : ru.toList.isEmpty = false := by
     cases e : ru.toList with
     | nil => exact absurd e hru
     | cons c r => rfl
    obtain ⟨n1, n2⟩ := HGO.out (by rw [<- ByteArray.toList_eq]; exact hru)
    rw [n1] at HB1 HN1
    have HSN2 : Hid (∀ m : TdM, m.td = ⟨⟨off, ru, sv, fm, un⟩, (mkR rules ru off).2, firstLt (mkR rules ru off).2⟩ -> (ms ++ [m]).map (·.td) = (l.take (k + 1)).map (tdR rules)) := by
     show ∀ m : TdM, _
     intro m hm
     exact HSN.out m (by rw [n2]; exact hm)
    have HBW3 := qH (HB0.out.trans (HBR3.out.mono HB0.out.size))
    have g0 : W3.cell? ⟨w.heap.size, 0, none⟩ = some (.slice p1 rules.length c1) := (cell_of_row W3 _ 0 _ _ _ ((HBR3.out.block w.heap.size (by omega)).trans HBX.out)).trans rfl
    have HMK3 := qH (HMK.out W3 ru off HBW3.out hoff.1 hoff.2)
    have HLN := HLEN.out ru off
    clear hru n1 n2 HNIL HGO HSN HMS HFE
    go_wp2_with fail
    refine HMK3.out.mono ?_
    rintro e w4 ⟨vo, rfl, hrow4, hb4⟩
    obtain ⟨C, eC⟩ : ∃ C, (mkR rules ru off).1 = C := ⟨_, rfl⟩
    obtain ⟨L, eL⟩ : ∃ L, (mkR rules ru off).2 = L := ⟨_, rfl⟩
    rw [eC] at HB1 HN1 ⊢
    rw [eL] at HSN2 HLN hrow4
    have HBR4 := qH (HBR3.out.trans (hb4.mono HBR3.out.size))
    have ht4 := (hb4.block (eb + 1) hlt3).trans HT3.out
    have HT4 := qH ht4
    have hz4 : W3.heap.size <= w4.heap.size := hb4.size
    have HTD4 : Hid (TdsAt w4 W0.heap.size u6 ms) := ⟨own_keep HTD3.out.row fun g e => hb4.block g (World.ownsRow.lt HTD3.out.row g e).2, fun m hm => own_keep (HTD3.out.ts m hm) fun g e => hb4.block g (World.ownsRow.lt (HTD3.out.ts m hm) g e).2⟩
    have HR4 := qH (own_base hrow4 HBR3.out.size)
    obtain ⟨Av, cV, rfl⟩ := own_sliceN hrow4
    clear hb4 ht4 hrow4 HMK3 HTD3 HT3 eC eL e0 e1 g0
    by_cases hC : C = 0
    case neg =>
     have HBD := qH (HB1.out hC)
     have hz : (C == 0) = false := by simpa using hC
     have hz2 : (!C == 0) = true := by rw [hz]; rfl
     have HCN := qH hC
     clear hC
     go_wp2_with fail
     go_ret2
     exact ErasPost.bad HBD.out HCN.out (HB0.out.trans (HBR4.out.mono HB0.out.size))
    case pos =>
    subst hC
    have HF1 := qH (HN1.out rfl)
    obtain ⟨W5, e5⟩ : ∃ W5, w4.setCell ⟨eb + 1, 5, none⟩ (.slice Av L.length cV) = W5 := ⟨_, rfl⟩
    have hk5 : ∀ b, b ≠ eb + 1 -> W5.heap[b]? = w4.heap[b]? := fun b hb => by rw [<- e5]; exact Below.heap_setCell _ _ _ _ hb
    have hz5 : W5.heap.size = w4.heap.size := by rw [<- e5]; simp [World.setCell]
    have ht5 : W5.heap[eb + 1]? = some (.cells #[.int .i64 off, .string ru, .int .i64 sv, .string fm, .int .i64 un, .slice Av L.length cV, .string ⟨#[45]⟩] 119 (0, 0)) := by
     rw [<- e5]
     exact (heap_setSt HT4.out (i := 5) (.slice Av L.length cV)).trans rfl
    have hb5 : Below W0.heap.size w4 W5 := by rw [<- e5]; exact (Below.refl _ _).setCell (by show W0.heap.size <= eb + 1; omega) _
    have HBR5 := qH (HBR4.out.trans hb5)
    have own5 : ∀ {e : TypeId} {s n : Nat} {v : Value} {xs : List Value}, e ≠ 119 -> w4.ownsRow W0.heap.size e s v n xs -> W5.ownsRow W0.heap.size e s v n xs := fun {e s n v xs} he h => own_keep h fun g eg => hk5 g fun e2 => own_type h HT4.out he (by rw [eg, e2])
    have hneR : ∀ g, u6.ownBlock = some g -> g ≠ eb + 1 := fun g eg e2 => by have := HGN.out g eg; omega
    have HTD5 : Hid (TdsAt W5 W0.heap.size u6 ms) := ⟨own_keep HTD4.out.row fun g eg => hk5 g (hneR g eg), fun m hm => own5 (by decide) (HTD4.out.ts m hm)⟩
    have HR5 := qH (own5 (by decide) HR4.out)
    have HT5 := qH ht5
    have HE5 := qH e5
    have HIX := qH (IdxTn_any L _ W5 (own_rowsT HR5.out (by omega)))
    have y5w : w4.frozen? ⟨eb + 1, 5, none⟩ = false := by simp [World.frozen?, HT4.out]
    have y5c : w4.cell? ⟨eb + 1, 5, none⟩ = some (.slice none 0 0) := (cell_of_row w4 _ 5 _ _ _ HT4.out).trans rfl
    clear hk5 ht5 hb5 own5 hneR HTD4 HR4 HB1 HN1 e5
    go_upto_region 11 with fail
    rw [HE5.out]
    go_wp2_with fail
    refine HIX.out.mono ?_
    rintro e w6 ⟨rfl, hb6⟩
    have HBR6 := qH (HBR5.out.trans (hb6.mono HBR5.out.size))
    have hlt5 : eb + 1 < W5.heap.size := by omega
    have HT6 := qH ((hb6.block (eb + 1) hlt5).trans HT5.out)
    have HTD6 : Hid (TdsAt w6 W0.heap.size u6 ms) := ⟨own_keep HTD5.out.row fun g e => hb6.block g (World.ownsRow.lt HTD5.out.row g e).2, fun m hm => own_keep (HTD5.out.ts m hm) fun g e => hb6.block g (World.ownsRow.lt (HTD5.out.ts m hm) g e).2⟩
    have HR6 := qH (own_keep HR5.out fun g e => hb6.block g (World.ownsRow.lt HR5.out g e).2)
    have hz6 : W5.heap.size <= w6.heap.size := hb6.size
    have y0 : w6.cell? ⟨eb + 1, 0, none⟩ = some (.int .i64 off) := (cell_of_row w6 _ 0 _ _ _ HT6.out).trans rfl
    have y1 : w6.cell? ⟨eb + 1, 1, none⟩ = some (.string ru) := (cell_of_row w6 _ 1 _ _ _ HT6.out).trans rfl
    have y2 : w6.cell? ⟨eb + 1, 2, none⟩ = some (.int .i64 sv) := (cell_of_row w6 _ 2 _ _ _ HT6.out).trans rfl
    have y3 : w6.cell? ⟨eb + 1, 3, none⟩ = some (.string fm) := (cell_of_row w6 _ 3 _ _ _ HT6.out).trans rfl
    have y4 : w6.cell? ⟨eb + 1, 4, none⟩ = some (.int .i64 un) := (cell_of_row w6 _ 4 _ _ _ HT6.out).trans rfl
    have y5 : w6.cell? ⟨eb + 1, 5, none⟩ = some (.slice Av L.length cV) := (cell_of_row w6 _ 5 _ _ _ HT6.out).trans rfl
    have y6 : w6.cell? ⟨eb + 1, 6, none⟩ = some (.string ⟨#[45]⟩) := (cell_of_row w6 _ 6 _ _ _ HT6.out).trans rfl
    clear hb6 HTD5 HR5 HT5 HT4 HIX y5w y5c
    rcases firstLt_idx L with ⟨i1x, f1⟩ | ⟨j, hj, i1x, f1⟩
    ·rw [i1x]
     have HS1 := qH (HSN2.out ⟨⟨⟨off, ru, sv, fm, un⟩, L, dashB⟩, .slice Av L.length cV⟩ (by rw [<- f1]))
     clear i1x f1 HSN2
     obtain ⟨A, cS, rfl⟩ := own_sliceN HTD6.out.row
     have HML : ms.length + 1 <= maxLen := by simp only [maxLen]; omega
     have HMB : (ms.length + 1) * 96 <= 140737488355328 := by omega
     have HROW := qH (World.ownsRow.alloc HTD6.out.row (.cells #[.int .i64 off, .string ru, .int .i64 sv, .string fm, .int .i64 un, .slice Av L.length cV, .string ⟨#[45]⟩] 119))
     have HNEW := qH (World.news_of_block (cs := #[.int .i64 off, .string ru, .int .i64 sv, .string fm, .int .i64 un, .slice Av L.length cV, .string ⟨#[45]⟩]) (t := 119) (fr := (0, 0)) (heap_alloc_new w6 (.cells #[.int .i64 off, .string ru, .int .i64 sv, .string fm, .int .i64 un, .slice Av L.length cV, .string ⟨#[45]⟩] 119)))
     have HSZ : W0.heap.size <= (w6.alloc (.cells #[.int .i64 off, .string ru, .int .i64 sv, .string fm, .int .i64 un, .slice Av L.length cV, .string ⟨#[45]⟩] 119)).heap.size := by have := HBR6.out.size; simp; omega
     go_wp2_with (at_builtin; refine wpList_append_own _ rfl _ _ 115 rfl W0.heap.size 119 i1 (.agg #[.int .i64 0, .string ⟨#[]⟩, .int .i64 0, .string ⟨#[]⟩, .int .i64 0, .slice none 0 0, .string ⟨#[]⟩]) 7 96 undTd hi1 hz10 hz11 hz12 rfl (by decide) _ _ _ rfl HROW.out ⟨w6.heap.size, 0, none⟩ 1 1 [.int .i64 off, .string ru, .int .i64 sv, .string fm, .int .i64 un, .slice Av L.length cV, .string ⟨#[45]⟩] rfl rfl HNEW.out (by simp [Value.oneCell']) HML HMB HSZ ?_; intro v' w10 hown10 hgrow10 _)
     go_roundw
     case rel =>
      refine ⟨k + 1, ms ++ [⟨⟨⟨off, ru, sv, fm, un⟩, L, dashB⟩, .slice Av L.length cV⟩], by omega, by go_num, HS1, HF1, ⟨?_, ?_⟩, ?_⟩
      ·show World.ownsRow _ _ _ _ _ _ _
       rw [tmFlat_snoc, List.length_append]
       exact hown10
      ·intro m hm
       rcases List.mem_append.1 hm with hm | hm
       ·exact own_grown (World.ownsRow.alloc (HTD6.out.ts m hm) _) HROW.out (by decide) hgrow10
       ·obtain rfl := List.mem_singleton.1 hm
        exact own_grown (World.ownsRow.alloc HR6.out _) HROW.out (by decide) hgrow10
      ·exact ((HBR6.out.alloc HBR6.out.size _).grown hgrow10 HSZ fun q hq => (World.ownsRow.lt HROW.out q hq).1)
     case measure => simp [intOf]; omega
    ·rw [i1x]
     obtain ⟨lt, elt⟩ : ∃ lt, L[j].lt = lt := ⟨_, rfl⟩
     have HS1 := qH (HSN2.out ⟨⟨⟨off, ru, sv, fm, un⟩, L, lt⟩, .slice Av L.length cV⟩ (by rw [<- elt, <- f1]))
     obtain ⟨pt, ct, et, -, hrt⟩ := own_rowsT HR6.out (by omega)
     simp only [Value.slice.injEq, true_and] at et
     obtain ⟨rfl, rfl⟩ := et
     obtain ⟨bt, ot, rfl, hblt, hct⟩ := hrt (List.ne_nil_of_length_pos (by omega))
     have k2 := hct j hj 2 _ rfl
     rw [elt] at k2
     have hjz : (j : Int) < (L.length : Int) := by omega
     obtain ⟨W7, e7⟩ : ∃ W7, w6.setCell ⟨eb + 1, 6, none⟩ (.string lt) = W7 := ⟨_, rfl⟩
     have hk7 : ∀ b, b ≠ eb + 1 -> W7.heap[b]? = w6.heap[b]? := fun b hb => by rw [<- e7]; exact Below.heap_setCell _ _ _ _ hb
     have hz7 : W7.heap.size = w6.heap.size := by rw [<- e7]; simp [World.setCell]
     have ht7 : W7.heap[eb + 1]? = some (.cells #[.int .i64 off, .string ru, .int .i64 sv, .string fm, .int .i64 un, .slice (some ⟨bt, ot, none⟩) L.length cV, .string lt] 119 (0, 0)) := by
      rw [<- e7]
      exact (heap_setSt HT6.out (i := 6) (.string lt)).trans rfl
     have hb7 : Below W0.heap.size w6 W7 := by rw [<- e7]; exact (Below.refl _ _).setCell (by show W0.heap.size <= eb + 1; omega) _
     have HBR7 := qH (HBR6.out.trans hb7)
     have own7 : ∀ {e : TypeId} {s n : Nat} {v : Value} {xs : List Value}, e ≠ 119 -> w6.ownsRow W0.heap.size e s v n xs -> W7.ownsRow W0.heap.size e s v n xs := fun {e s n v xs} he h => own_keep h fun g eg => hk7 g fun e2 => own_type h HT6.out he (by rw [eg, e2])
     have HTD7 : Hid (TdsAt W7 W0.heap.size u6 ms) := ⟨own_keep HTD6.out.row fun g eg => hk7 g fun e2 => by have := HGN.out g eg; omega, fun m hm => own7 (by decide) (HTD6.out.ts m hm)⟩
     have HR7 := qH (own7 (by decide) HR6.out)
     have HE7 := qH e7
     have y6f : w6.frozen? ⟨eb + 1, 6, none⟩ = false := by simp [World.frozen?, HT6.out]
     have HT7 := qH ht7
     clear i1x f1 HSN2 hct hrt hk7 ht7 hb7 own7 HTD6 HR6 HT6 e7 elt hz7
     go_upto_region 14 with fail
     rw [HE7.out]
     clear y0 y1 y2 y3 y4 y5 y6
     have y0 : W7.cell? ⟨eb + 1, 0, none⟩ = some (.int .i64 off) := (cell_of_row W7 _ 0 _ _ _ HT7.out).trans rfl
     have y1 : W7.cell? ⟨eb + 1, 1, none⟩ = some (.string ru) := (cell_of_row W7 _ 1 _ _ _ HT7.out).trans rfl
     have y2 : W7.cell? ⟨eb + 1, 2, none⟩ = some (.int .i64 sv) := (cell_of_row W7 _ 2 _ _ _ HT7.out).trans rfl
     have y3 : W7.cell? ⟨eb + 1, 3, none⟩ = some (.string fm) := (cell_of_row W7 _ 3 _ _ _ HT7.out).trans rfl
     have y4 : W7.cell? ⟨eb + 1, 4, none⟩ = some (.int .i64 un) := (cell_of_row W7 _ 4 _ _ _ HT7.out).trans rfl
     have y5 : W7.cell? ⟨eb + 1, 5, none⟩ = some (.slice (some ⟨bt, ot, none⟩) L.length cV) := (cell_of_row W7 _ 5 _ _ _ HT7.out).trans rfl
     have y6 : W7.cell? ⟨eb + 1, 6, none⟩ = some (.string lt) := (cell_of_row W7 _ 6 _ _ _ HT7.out).trans rfl
     obtain ⟨A, cS, rfl⟩ := own_sliceN HTD7.out.row
     have HML : ms.length + 1 <= maxLen := by simp only [maxLen]; omega
     have HMB : (ms.length + 1) * 96 <= 140737488355328 := by omega
     have HROW := qH (World.ownsRow.alloc HTD7.out.row (.cells #[.int .i64 off, .string ru, .int .i64 sv, .string fm, .int .i64 un, .slice (some ⟨bt, ot, none⟩) L.length cV, .string lt] 119))
     have HNEW := qH (World.news_of_block (cs := #[.int .i64 off, .string ru, .int .i64 sv, .string fm, .int .i64 un, .slice (some ⟨bt, ot, none⟩) L.length cV, .string lt]) (t := 119) (fr := (0, 0)) (heap_alloc_new W7 (.cells #[.int .i64 off, .string ru, .int .i64 sv, .string fm, .int .i64 un, .slice (some ⟨bt, ot, none⟩) L.length cV, .string lt] 119)))
     have HSZ : W0.heap.size <= (W7.alloc (.cells #[.int .i64 off, .string ru, .int .i64 sv, .string fm, .int .i64 un, .slice (some ⟨bt, ot, none⟩) L.length cV, .string lt] 119)).heap.size := by have := HBR7.out.size; simp; omega
     go_wp2_with (at_builtin; refine wpList_append_own _ rfl _ _ 115 rfl W0.heap.size 119 i1 (.agg #[.int .i64 0, .string ⟨#[]⟩, .int .i64 0, .string ⟨#[]⟩, .int .i64 0, .slice none 0 0, .string ⟨#[]⟩]) 7 96 undTd hi1 hz10 hz11 hz12 rfl (by decide) _ _ _ rfl HROW.out ⟨W7.heap.size, 0, none⟩ 1 1 [.int .i64 off, .string ru, .int .i64 sv, .string fm, .int .i64 un, .slice (some ⟨bt, ot, none⟩) L.length cV, .string lt] rfl rfl HNEW.out (by simp [Value.oneCell']) HML HMB HSZ ?_; intro v' w10 hown10 hgrow10 _)
     go_roundw
     case rel =>
      refine ⟨k + 1, ms ++ [⟨⟨⟨off, ru, sv, fm, un⟩, L, lt⟩, .slice (some ⟨bt, ot, none⟩) L.length cV⟩], by omega, by go_num, HS1, HF1, ⟨?_, ?_⟩, ?_⟩
      ·show World.ownsRow _ _ _ _ _ _ _
       rw [tmFlat_snoc, List.length_append]
       exact hown10
      ·intro m hm
       rcases List.mem_append.1 hm with hm | hm
       ·exact own_grown (World.ownsRow.alloc (HTD7.out.ts m hm) _) HROW.out (by decide) hgrow10
       ·obtain rfl := List.mem_singleton.1 hm
        exact own_grown (World.ownsRow.alloc HR7.out _) HROW.out (by decide) hgrow10
      ·exact ((HBR7.out.alloc HBR7.out.size _).grown hgrow10 HSZ fun q hq => (World.ownsRow.lt HROW.out q hq).1)
     case measure => simp [intOf]; omega
  ·obtain rfl : k = l.length := by omega
   have hms := HMS.out
   have hfe := HFE.out
   rw [List.take_length] at hms hfe
   have HEND := qH (ErasPost.ok (v := u6) hfe hms ⟨own_base HTD.out.row HB0.out.size, fun m hm => own_base (HTD.out.ts m hm) HB0.out.size⟩ (HB0.out.trans (HBR.out.mono HB0.out.size)))
   obtain ⟨A, cS, rfl⟩ := own_sliceN HTD.out.row
   clear hms hfe HMS HFE HTD
   go_wp2_with fail
   go_ret2
   exact HEND.out
theorem infoIntW : (Tryz.prog.info? 3).map (fun i => (i.zero, i.size, i.bytes)) = some (some (.int .i64 0), 1, 8) := by kernel_rfl
theorem undIntsW : Tryz.prog.underlying 127 = some (.slice 3) := by kernel_rfl
def winL (l : List Tn) (a c : Int) : List Int := (l.filter fun u => decide (a <= u.a /\ u.a <= c)).map (·.a)
theorem winL_snoc (l : List Tn) (u : Tn) (a c : Int) : winL (l ++ [u]) a c = winL l a c ++ if a <= u.a /\ u.a <= c then [u.a] else [] := by
 unfold winL
 rw [List.filter_append, List.map_append]
 by_cases h : a <= u.a /\ u.a <= c
 ·rw [if_pos h]; congr 1; simp [h]
 ·rw [if_neg h]; congr 1; simp [h]
theorem winL_le (l : List Tn) (a c : Int) : (winL l a c).length <= l.length := by
 unfold winL
 rw [List.length_map]
 exact List.length_filter_le _ _
def WinPost (L : List Int) (w : World) (e : Ending) (w' : World) : Prop := ∃ vo, e = .returned vo /\ w'.ownsRow w.heap.size 3 1 vo L.length (L.map (Value.int .i64)) /\ Below w.heap.size w w'
theorem Within_any (x : Td) (tv : Value) (a c : Int) (w : World) (hr : RowsAt tnC 3 w.heap.size w tv x.ts) (hlen : x.ts.length <= 2000) :
 Calls Tryz.prog 56 #[.agg (tdCells x tv), .int .i64 a, .int .i64 c] w (WinPost (winL x.ts a c) w) := by
 obtain ⟨p, cap, rfl, -, hat⟩ := hr
 obtain ⟨W0, hW0⟩ : ∃ W0, w.alloc (.cells (tdCells x (.slice p x.ts.length cap)) 119) = W0 := ⟨_, rfl⟩
 have hB0 : Below w.heap.size w W0 := by rw [<- hW0]; exact (Below.refl _ w).alloc (Nat.le_refl _) _
 have hS0 : w.heap.size < W0.heap.size := by rw [<- hW0]; simp
 have hx0 : W0.heap[w.heap.size]? = some (.cells (tdCells x (.slice p x.ts.length cap)) 119 (0, 0)) := by
  rw [<- hW0]
  exact heap_alloc_new w _
 obtain ⟨⟨off, ru, sv, fm, un⟩, ts, fst⟩ := x
 simp only at hlen hat hW0 hx0 ⊢
 have z5 : W0.cell? ⟨w.heap.size, 5, none⟩ = some (.slice p ts.length cap) := (cell_of_row W0 _ 5 _ _ _ hx0).trans rfl
 have HW0 := qH hW0
 have HB0 := qH hB0
 have HAT := qH hat
 obtain ⟨i1, hi1, hz10, hz11, hz12⟩ := info_parts infoIntW
 clear hW0 hB0 hx0 hat
 go_enter Tryz.func56, Tryz.ntmps56
 go_upto_region 1 with fail
 rw [HW0.out]
 go_wp2_with fail
 go_loopw [7, 13] (fun v7 i wr => ∃ k : Nat, k <= ts.length /\ i = .int .i64 k /\ Hid (wr.ownsRow W0.heap.size 3 1 v7 (winL (ts.take k) a c).length ((winL (ts.take k) a c).map (Value.int .i64))) /\ Hid (Below W0.heap.size W0 wr)) (fun _ i _ => ts.length - (intOf i).toNat)
 case atStart => exact ⟨0, Nat.zero_le _, rfl, World.ownsRow_nil _ _ _ _, qH (Below.refl _ _)⟩
 case round =>
  obtain ⟨k, hk, rfl, HOW, HBR⟩ := hrel
  have hzr := HBR.out.size
  have hwl : (winL (ts.take k) a c).length <= k := Nat.le_trans (winL_le _ _ _) (by rw [List.length_take]; omega)
  by_cases hkl : k < ts.length
  ·obtain ⟨bb, o, rfl, hbl, hcs⟩ := HAT.out (List.ne_nil_of_length_pos (by omega))
   have hck := hcs k hkl
   have hsn := winL_snoc (ts.take k) ts[k] a c
   rw [<- List.take_succ_eq_append_getElem hkl] at hsn
   obtain ⟨q, eq⟩ : ∃ q, ts[k] = q := ⟨_, rfl⟩
   rw [eq] at hck hsn
   obtain ⟨ta, tsv, tlt⟩ := q
   have up : ∀ m u, w.cell? ⟨bb, o + k * 3 + m, none⟩ = some u -> wr.cell? ⟨bb, o + k * 3 + m, none⟩ = some u := fun m u h => (HBR.out.cell (p := ⟨bb, o + k * 3 + m, none⟩) (by show bb < _; omega)).trans ((HB0.out.cell (p := ⟨bb, o + k * 3 + m, none⟩) hbl).trans h)
   have z0 := up 0 _ (hck 0 _ rfl)
   have z1 := up 1 _ (hck 1 _ rfl)
   have z2 := up 2 _ (hck 2 _ rfl)
   rw [Nat.add_zero] at z0
   simp only at hsn z0 z1 z2
   have HSN := qH hsn
   obtain ⟨L, eL⟩ : ∃ L, winL (ts.take k) a c = L := ⟨_, rfl⟩
   rw [eL] at HSN HOW hwl
   obtain ⟨W3, e3⟩ : ∃ W3, wr.alloc (.cells #[.int .i64 ta, .int .i64 tsv, .string tlt] 49) = W3 := ⟨_, rfl⟩
   have HB3 : Hid (Below W0.heap.size W0 W3) := by rw [<- e3]; exact HBR.out.alloc hzr _
   have HOW3 : Hid (W3.ownsRow W0.heap.size 3 1 u7 L.length (L.map (Value.int .i64))) := by rw [<- e3]; exact World.ownsRow.alloc HOW.out _
   have y0 : W3.cell? ⟨wr.heap.size, 0, none⟩ = some (.int .i64 ta) := by rw [<- e3]; exact (cell_of_row _ _ 0 _ _ _ (heap_alloc_new wr _)).trans rfl
   obtain ⟨tb, etb⟩ : ∃ tb, wr.heap.size = tb := ⟨_, rfl⟩
   have HTB := qH etb
   rw [etb] at y0
   have HE3 := qH e3
   clear hcs hck hsn eq up eL e3 etb HOW
   go_upto_region 5 with fail
   rw [HE3.out, HTB.out]
   clear z0 z1 z2
   by_cases h1 : a <= ta
   ·by_cases h2 : ta <= c
    ·have HN : Hid (winL (ts.take (k + 1)) a c = L ++ [ta]) := by show _ = _; rw [HSN.out, if_pos ⟨h1, h2⟩]
     clear HSN
     obtain ⟨A, cS, rfl⟩ := own_sliceN HOW3.out
     have HML : L.length + 1 <= maxLen := by simp only [maxLen]; omega
     have HMB : (L.length + 1) * 8 <= 140737488355328 := by omega
     have HROW := qH (World.ownsRow.alloc HOW3.out (.cells #[.int .i64 ta] 3))
     have HNEW := qH (World.news_of_block (cs := #[.int .i64 ta]) (t := 3) (fr := (0, 0)) (heap_alloc_new W3 (.cells #[.int .i64 ta] 3)))
     have HSZ : W0.heap.size <= (W3.alloc (.cells #[.int .i64 ta] 3)).heap.size := by have := HB3.out.size; simp; omega
     go_wp2_with (at_builtin; refine wpList_append_own _ rfl _ _ 127 rfl W0.heap.size 3 i1 (.int .i64 0) 1 8 undIntsW hi1 hz10 hz11 hz12 rfl (by decide) _ _ _ rfl HROW.out ⟨W3.heap.size, 0, none⟩ 1 1 [.int .i64 ta] rfl rfl HNEW.out (by simp [Value.oneCell']) HML HMB HSZ ?_; intro v' w10 hown10 hgrow10 _)
     go_roundw
     case rel =>
      refine ⟨k + 1, by omega, by go_num, ?_, qH ((HB3.out.alloc HB3.out.size _).grown hgrow10 HSZ fun q hq => (World.ownsRow.lt HROW.out q hq).1)⟩
      show World.ownsRow _ _ _ _ _ _ _
      rw [HN.out, List.length_append, List.map_append]
      exact hown10
     case measure => simp [intOf]; omega
    ·have HN : Hid (winL (ts.take (k + 1)) a c = L) := by show _ = _; rw [HSN.out, if_neg (fun g => h2 g.2), List.append_nil]
     clear HSN
     go_wp2_with fail
     go_roundw
     case rel => exact ⟨k + 1, by omega, by go_num, by rw [HN.out]; exact HOW3, HB3⟩
     case measure => simp [intOf]; omega
   ·have HN : Hid (winL (ts.take (k + 1)) a c = L) := by show _ = _; rw [HSN.out, if_neg (fun g => h1 g.1), List.append_nil]
    clear HSN
    go_wp2_with fail
    go_roundw
    case rel => exact ⟨k + 1, by omega, by go_num, by rw [HN.out]; exact HOW3, HB3⟩
    case measure => simp [intOf]; omega
  ·obtain rfl : k = ts.length := by omega
   rw [List.take_length] at HOW
   have HEND : Hid (WinPost (winL ts a c) w (.returned u7) wr) := ⟨_, rfl, own_base HOW.out (Nat.le_of_lt hS0), HB0.out.trans (HBR.out.mono HB0.out.size)⟩
   obtain ⟨A, cS, rfl⟩ := own_sliceN HOW.out
   clear HOW
   go_wp2_with fail
   go_ret
   exact HEND.out
end Go.Proofs.YtomahddiclkepaaGreatDoor
