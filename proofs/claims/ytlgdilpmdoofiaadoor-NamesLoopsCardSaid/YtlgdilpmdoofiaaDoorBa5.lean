/- slices.ContainsFunc of rules, zones and links, at a function that leaves what lay below. -/
import Derived.Test.YtlgdilpmdoofiaaDoorBa4
import Derived.Sort.Walk0
namespace Go.Proofs.YtlgdilpmdoofiaaDoor
open Go.RowKit Go.Joins
open Classical
set_option linter.unusedVariables false
set_option linter.unusedSimpArgs false

def IdxR (b : Bool) (e : Ending) : Prop := ∃ n : Int, e = .returned (.int .i64 n) ∧ decide (0 ≤ n) = b
theorem any_step {α : Type} (p : α → Bool) (l : List α) (k : Nat) (hk : k < l.length) (h : (l.take k).any p = false) (hp : p l[k] = false) : (l.take (k + 1)).any p = false := by
  rw [List.take_succ_eq_append_getElem hk, List.any_append, h]
  simp [hp]
theorem any_hit {α : Type} (p : α → Bool) (l : List α) (k : Nat) (hk : k < l.length) (hp : p l[k] = true) : l.any p = true := List.any_eq_true.2 ⟨l[k], List.getElem_mem hk, hp⟩
theorem ret_bB {a b : Bool} (h : a = b) : Ending.returned (.bool a) = .returned (.bool b) := by rw [h]


set_option maxRecDepth 100000 in
set_option maxHeartbeats 4000000 in
theorem idxRu_any (l : List Ru) (v : Value) (g : Nat) (cb : Array Value) (p : Ru → Bool) (w : World) (eg : ∀ args w, (callFunc g args).run Tryd.prog w = .ok (.enter g args) w) (hv : RowsAt (fun r : Ru => (ruCells r).toList) 11 w.heap.size w v l)
    (hp : ∀ W, Below w.heap.size w W → ∀ x ∈ l, Calls Tryd.prog g (#[.agg ((fun r : Ru => (ruCells r).toList) x).toArray] ++ cb) W fun e w' => e = .returned (.bool (p x)) ∧ Below W.heap.size W w') :
    Calls Tryd.prog 114 #[v, .func (.func g) #[] cb] w fun e w' => IdxR (l.any p) e ∧ Below w.heap.size w w' := by
  have HP := Lib.hid hp
  obtain ⟨pp, cap, rfl, hlen, hrow⟩ := hv
  have HRow := Lib.hid hrow
  clear hp hrow
  go_enter Tryd.func114, Tryd.ntmps114
  go_wp2_with fail
  go_loopw [8] (fun i wr => ∃ k : Nat, k ≤ l.length ∧ i = .int .i64 k ∧ Hid (Below w.heap.size w wr) ∧ Hid ((l.take k).any p = false)) (fun i _ => l.length - (intOf i).toNat)
  case atStart => exact ⟨0, Nat.zero_le _, rfl, Lib.hid (Below.refl _ _), Lib.hid rfl⟩
  case round =>
    obtain ⟨k, hk, rfl, HB, HA⟩ := hrel
    have hzr := HB.out.size
    by_cases hlt : k < l.length
    · obtain ⟨b, o, rfl, hbl, hcs⟩ := HRow.out (List.ne_nil_of_length_pos (by omega))
      have hck := hcs k hlt
      have hc := HP.out wr HB.out l[k] (List.getElem_mem hlt)
      have HST := Lib.hid (fun h => any_step p l k hlt HA.out h)
      have HHT := Lib.hid (fun h => any_hit p l k hlt h)
      obtain ⟨q, eq⟩ : ∃ q, l[k] = q := ⟨_, rfl⟩
      rw [eq] at hck hc HST HHT
      clear eq hcs
      obtain ⟨pv, epv⟩ : ∃ pv, p q = pv := ⟨_, rfl⟩
      rw [epv] at hc HST HHT
      clear epv
      obtain ⟨nm, yf, yt, mo, dk, dw, dn, tm, ck, sv, lt⟩ := q
      have up : ∀ j u, w.cell? ⟨b, o + k * 11 + j, none⟩ = some u → wr.cell? ⟨b, o + k * 11 + j, none⟩ = some u := fun j u h => (HB.out.cell (p := ⟨b, o + k * 11 + j, none⟩) hbl).trans h
      have z0 := up 0 _ (hck 0 _ rfl)
      have z1 := up 1 _ (hck 1 _ rfl)
      have z2 := up 2 _ (hck 2 _ rfl)
      have z3 := up 3 _ (hck 3 _ rfl)
      have z4 := up 4 _ (hck 4 _ rfl)
      have z5 := up 5 _ (hck 5 _ rfl)
      have z6 := up 6 _ (hck 6 _ rfl)
      have z7 := up 7 _ (hck 7 _ rfl)
      have z8 := up 8 _ (hck 8 _ rfl)
      have z9 := up 9 _ (hck 9 _ rfl)
      have z10 := up 10 _ (hck 10 _ rfl)
      rw [Nat.add_zero] at z0
      have HC := Lib.hid hc
      clear up hck hc
      cases pv with
      | true =>
        have HT := Lib.hid (HHT.out (by first | rfl | trivial))
        go_wp2_with (go_at_fn g; refine HC.out.mono ?_; rintro e w' ⟨rfl, hb⟩; have HB2 := Lib.hid (HB.out.trans (hb.mono HB.out.size)); clear hb)
        go_ret
        exact ⟨⟨k, rfl, by rw [HT.out]; exact decide_eq_true (by omega)⟩, HB2.out⟩
      | false =>
        go_wp2_with (go_at_fn g; refine HC.out.mono ?_; rintro e w' ⟨rfl, hb⟩; have HB2 := Lib.hid (HB.out.trans (hb.mono HB.out.size)); clear hb)
        go_roundw
        case rel => exact ⟨k + 1, by omega, by go_num, HB2, Lib.hid (HST.out (by first | rfl | trivial))⟩
        case measure => simp [intOf]; omega
    · have hkl : ¬ (k : Int) < (l.length : Int) := by omega
      have HT : Hid (l.any p = false) := by
        show _ = _
        have := HA.out
        rwa [List.take_of_length_le (by omega)] at this
      go_wp2_with fail
      go_ret
      exact ⟨⟨-1, rfl, by rw [HT.out]; decide⟩, HB.out⟩
set_option maxHeartbeats 1000000 in
theorem hasRu_any (l : List Ru) (v : Value) (g : Nat) (cb : Array Value) (p : Ru → Bool) (w : World) (eg : ∀ args w, (callFunc g args).run Tryd.prog w = .ok (.enter g args) w) (hv : RowsAt (fun r : Ru => (ruCells r).toList) 11 w.heap.size w v l)
    (hp : ∀ W, Below w.heap.size w W → ∀ x ∈ l, Calls Tryd.prog g (#[.agg ((fun r : Ru => (ruCells r).toList) x).toArray] ++ cb) W fun e w' => e = .returned (.bool (p x)) ∧ Below W.heap.size W w') :
    Calls Tryd.prog 91 #[v, .func (.func g) #[] cb] w fun e w' => e = .returned (.bool (l.any p)) ∧ Below w.heap.size w w' := by
  have HC := Lib.hid (idxRu_any l v g cb p w eg hv hp)
  clear hv hp eg
  obtain ⟨bb, eb⟩ : ∃ bb, l.any p = bb := ⟨_, rfl⟩
  rw [eb] at HC ⊢
  clear eb
  go_enter Tryd.func91, Tryd.ntmps91
  go_wp2_with fail
  refine HC.out.mono ?_
  rintro e w' ⟨⟨n, rfl, hn⟩, hb⟩
  have HN := Lib.hid hn
  clear hn
  go_wp2_with fail
  go_ret
  exact ⟨ret_bB HN.out, hb⟩

set_option maxRecDepth 100000 in
set_option maxHeartbeats 4000000 in
theorem idxZo_any (l : List Zo) (v : Value) (g : Nat) (cb : Array Value) (p : Zo → Bool) (w : World) (eg : ∀ args w, (callFunc g args).run Tryd.prog w = .ok (.enter g args) w) (hv : RowsAt zoCells 2 w.heap.size w v l)
    (hp : ∀ W, Below w.heap.size w W → ∀ x ∈ l, Calls Tryd.prog g (#[.agg (zoCells x).toArray] ++ cb) W fun e w' => e = .returned (.bool (p x)) ∧ Below W.heap.size W w') :
    Calls Tryd.prog 89 #[v, .func (.func g) #[] cb] w fun e w' => IdxR (l.any p) e ∧ Below w.heap.size w w' := by
  have HP := Lib.hid hp
  obtain ⟨pp, cap, rfl, hlen, hrow⟩ := hv
  have HRow := Lib.hid hrow
  clear hp hrow
  go_enter Tryd.func89, Tryd.ntmps89
  go_wp2_with fail
  go_loopw [8] (fun i wr => ∃ k : Nat, k ≤ l.length ∧ i = .int .i64 k ∧ Hid (Below w.heap.size w wr) ∧ Hid ((l.take k).any p = false)) (fun i _ => l.length - (intOf i).toNat)
  case atStart => exact ⟨0, Nat.zero_le _, rfl, Lib.hid (Below.refl _ _), Lib.hid rfl⟩
  case round =>
    obtain ⟨k, hk, rfl, HB, HA⟩ := hrel
    have hzr := HB.out.size
    by_cases hlt : k < l.length
    · obtain ⟨b, o, rfl, hbl, hcs⟩ := HRow.out (List.ne_nil_of_length_pos (by omega))
      have hck := hcs k hlt
      have hc := HP.out wr HB.out l[k] (List.getElem_mem hlt)
      have HST := Lib.hid (fun h => any_step p l k hlt HA.out h)
      have HHT := Lib.hid (fun h => any_hit p l k hlt h)
      obtain ⟨q, eq⟩ : ∃ q, l[k] = q := ⟨_, rfl⟩
      rw [eq] at hck hc HST HHT
      clear eq hcs
      obtain ⟨pv, epv⟩ : ∃ pv, p q = pv := ⟨_, rfl⟩
      rw [epv] at hc HST HHT
      clear epv
      obtain ⟨nm, ev, eras⟩ := q
      have up : ∀ j u, w.cell? ⟨b, o + k * 2 + j, none⟩ = some u → wr.cell? ⟨b, o + k * 2 + j, none⟩ = some u := fun j u h => (HB.out.cell (p := ⟨b, o + k * 2 + j, none⟩) hbl).trans h
      have z0 := up 0 _ (hck 0 _ rfl)
      have z1 := up 1 _ (hck 1 _ rfl)
      rw [Nat.add_zero] at z0
      have HC := Lib.hid hc
      clear up hck hc
      cases pv with
      | true =>
        have HT := Lib.hid (HHT.out (by first | rfl | trivial))
        go_wp2_with (go_at_fn g; refine HC.out.mono ?_; rintro e w' ⟨rfl, hb⟩; have HB2 := Lib.hid (HB.out.trans (hb.mono HB.out.size)); clear hb)
        go_ret
        exact ⟨⟨k, rfl, by rw [HT.out]; exact decide_eq_true (by omega)⟩, HB2.out⟩
      | false =>
        go_wp2_with (go_at_fn g; refine HC.out.mono ?_; rintro e w' ⟨rfl, hb⟩; have HB2 := Lib.hid (HB.out.trans (hb.mono HB.out.size)); clear hb)
        go_roundw
        case rel => exact ⟨k + 1, by omega, by go_num, HB2, Lib.hid (HST.out (by first | rfl | trivial))⟩
        case measure => simp [intOf]; omega
    · have hkl : ¬ (k : Int) < (l.length : Int) := by omega
      have HT : Hid (l.any p = false) := by
        show _ = _
        have := HA.out
        rwa [List.take_of_length_le (by omega)] at this
      go_wp2_with fail
      go_ret
      exact ⟨⟨-1, rfl, by rw [HT.out]; decide⟩, HB.out⟩
set_option maxHeartbeats 1000000 in
theorem hasZo_any (l : List Zo) (v : Value) (g : Nat) (cb : Array Value) (p : Zo → Bool) (w : World) (eg : ∀ args w, (callFunc g args).run Tryd.prog w = .ok (.enter g args) w) (hv : RowsAt zoCells 2 w.heap.size w v l)
    (hp : ∀ W, Below w.heap.size w W → ∀ x ∈ l, Calls Tryd.prog g (#[.agg (zoCells x).toArray] ++ cb) W fun e w' => e = .returned (.bool (p x)) ∧ Below W.heap.size W w') :
    Calls Tryd.prog 63 #[v, .func (.func g) #[] cb] w fun e w' => e = .returned (.bool (l.any p)) ∧ Below w.heap.size w w' := by
  have HC := Lib.hid (idxZo_any l v g cb p w eg hv hp)
  clear hv hp eg
  obtain ⟨bb, eb⟩ : ∃ bb, l.any p = bb := ⟨_, rfl⟩
  rw [eb] at HC ⊢
  clear eb
  go_enter Tryd.func63, Tryd.ntmps63
  go_wp2_with fail
  refine HC.out.mono ?_
  rintro e w' ⟨⟨n, rfl, hn⟩, hb⟩
  have HN := Lib.hid hn
  clear hn
  go_wp2_with fail
  go_ret
  exact ⟨ret_bB HN.out, hb⟩

set_option maxRecDepth 100000 in
set_option maxHeartbeats 4000000 in
theorem idxLk_any (l : List Lk) (v : Value) (g : Nat) (cb : Array Value) (p : Lk → Bool) (w : World) (eg : ∀ args w, (callFunc g args).run Tryd.prog w = .ok (.enter g args) w) (hv : RowsAt lkCells 2 w.heap.size w v l)
    (hp : ∀ W, Below w.heap.size w W → ∀ x ∈ l, Calls Tryd.prog g (#[.agg (lkCells x).toArray] ++ cb) W fun e w' => e = .returned (.bool (p x)) ∧ Below W.heap.size W w') :
    Calls Tryd.prog 94 #[v, .func (.func g) #[] cb] w fun e w' => IdxR (l.any p) e ∧ Below w.heap.size w w' := by
  have HP := Lib.hid hp
  obtain ⟨pp, cap, rfl, hlen, hrow⟩ := hv
  have HRow := Lib.hid hrow
  clear hp hrow
  go_enter Tryd.func94, Tryd.ntmps94
  go_wp2_with fail
  go_loopw [8] (fun i wr => ∃ k : Nat, k ≤ l.length ∧ i = .int .i64 k ∧ Hid (Below w.heap.size w wr) ∧ Hid ((l.take k).any p = false)) (fun i _ => l.length - (intOf i).toNat)
  case atStart => exact ⟨0, Nat.zero_le _, rfl, Lib.hid (Below.refl _ _), Lib.hid rfl⟩
  case round =>
    obtain ⟨k, hk, rfl, HB, HA⟩ := hrel
    have hzr := HB.out.size
    by_cases hlt : k < l.length
    · obtain ⟨b, o, rfl, hbl, hcs⟩ := HRow.out (List.ne_nil_of_length_pos (by omega))
      have hck := hcs k hlt
      have hc := HP.out wr HB.out l[k] (List.getElem_mem hlt)
      have HST := Lib.hid (fun h => any_step p l k hlt HA.out h)
      have HHT := Lib.hid (fun h => any_hit p l k hlt h)
      obtain ⟨q, eq⟩ : ∃ q, l[k] = q := ⟨_, rfl⟩
      rw [eq] at hck hc HST HHT
      clear eq hcs
      obtain ⟨pv, epv⟩ : ∃ pv, p q = pv := ⟨_, rfl⟩
      rw [epv] at hc HST HHT
      clear epv
      obtain ⟨nm, tt⟩ := q
      have up : ∀ j u, w.cell? ⟨b, o + k * 2 + j, none⟩ = some u → wr.cell? ⟨b, o + k * 2 + j, none⟩ = some u := fun j u h => (HB.out.cell (p := ⟨b, o + k * 2 + j, none⟩) hbl).trans h
      have z0 := up 0 _ (hck 0 _ rfl)
      have z1 := up 1 _ (hck 1 _ rfl)
      rw [Nat.add_zero] at z0
      have HC := Lib.hid hc
      clear up hck hc
      cases pv with
      | true =>
        have HT := Lib.hid (HHT.out (by first | rfl | trivial))
        go_wp2_with (go_at_fn g; refine HC.out.mono ?_; rintro e w' ⟨rfl, hb⟩; have HB2 := Lib.hid (HB.out.trans (hb.mono HB.out.size)); clear hb)
        go_ret
        exact ⟨⟨k, rfl, by rw [HT.out]; exact decide_eq_true (by omega)⟩, HB2.out⟩
      | false =>
        go_wp2_with (go_at_fn g; refine HC.out.mono ?_; rintro e w' ⟨rfl, hb⟩; have HB2 := Lib.hid (HB.out.trans (hb.mono HB.out.size)); clear hb)
        go_roundw
        case rel => exact ⟨k + 1, by omega, by go_num, HB2, Lib.hid (HST.out (by first | rfl | trivial))⟩
        case measure => simp [intOf]; omega
    · have hkl : ¬ (k : Int) < (l.length : Int) := by omega
      have HT : Hid (l.any p = false) := by
        show _ = _
        have := HA.out
        rwa [List.take_of_length_le (by omega)] at this
      go_wp2_with fail
      go_ret
      exact ⟨⟨-1, rfl, by rw [HT.out]; decide⟩, HB.out⟩
set_option maxHeartbeats 1000000 in
theorem hasLk_any (l : List Lk) (v : Value) (g : Nat) (cb : Array Value) (p : Lk → Bool) (w : World) (eg : ∀ args w, (callFunc g args).run Tryd.prog w = .ok (.enter g args) w) (hv : RowsAt lkCells 2 w.heap.size w v l)
    (hp : ∀ W, Below w.heap.size w W → ∀ x ∈ l, Calls Tryd.prog g (#[.agg (lkCells x).toArray] ++ cb) W fun e w' => e = .returned (.bool (p x)) ∧ Below W.heap.size W w') :
    Calls Tryd.prog 69 #[v, .func (.func g) #[] cb] w fun e w' => e = .returned (.bool (l.any p)) ∧ Below w.heap.size w w' := by
  have HC := Lib.hid (idxLk_any l v g cb p w eg hv hp)
  clear hv hp eg
  obtain ⟨bb, eb⟩ : ∃ bb, l.any p = bb := ⟨_, rfl⟩
  rw [eb] at HC ⊢
  clear eb
  go_enter Tryd.func69, Tryd.ntmps69
  go_wp2_with fail
  refine HC.out.mono ?_
  rintro e w' ⟨⟨n, rfl, hn⟩, hb⟩
  have HN := Lib.hid hn
  clear hn
  go_wp2_with fail
  go_ret
  exact ⟨ret_bB HN.out, hb⟩
end Go.Proofs.YtlgdilpmdoofiaaDoor
