/- wall.pieces: the pieces of a table without changes; and of whatever table that may be. -/
import Derived.Test.YteoliifghhlinaaPieces
namespace Go.Proofs.Yteoliifghhlinaa
open Go.RowKit Go.Shelf
set_option linter.unusedVariables false
set_option linter.unusedSimpArgs false

attribute [local go_sem] Oper.semAt_some

set_option maxRecDepth 100000 in
set_option maxHeartbeats 4000000 in
theorem pieces0_in (n l Bt n₀ b o cap cap2 : Nat) (p2 : Option Addr) (t : Tab) (hm : t.chs = []) (hn : 1 ≤ n) (hb : b < n₀) (J Jx : List Pc → World → Prop)
    (hY : ∀ pre x W, J pre W → pre.length < t.chs.length + 1 → YieldAt Fence.wide (n - 1) Try.prog l (pcV x) W fun e W' =>
      (e = .returned (.bool true) ∧ J (pre ++ [x]) W' ∧ KpT n₀ W W') ∨ (e = .returned (.bool false) ∧ Jx (pre ++ [x]) W'))
    (W : World) (hJ : AbidesFrom W.heap.size J) (hJx : AbidesFrom W.heap.size Jx) (hq : W.heap[Bt]? = some (Obj.cells #[.slice (some ⟨b, o, none⟩) t.types.length cap, .int .i64 t.first, .slice p2 0 cap2] 25 (0, 0)))
    (hty : ∀ i (h : i < t.types.length), tyAt W b (o + i * 3) t.types[i]) (ok : OkTab t) (hn0 : n₀ ≤ W.heap.size) (h0 : J [] W) :
    CallsIn Fence.wide n Try.prog 49 #[.func (.yield l) #[] #[], .pointer (some ⟨Bt, 0, none⟩)] W fun e W' => (∃ v, e = .returned v) ∧
      ((∃ ys, ys = uptoP t (t.chs.length + 1) ∧ J ys W') ∨ (∃ pre, (∃ k, pre = uptoP t k) ∧ Jx pre W')) := by
  obtain ⟨hq0, hq1, hq2⟩ := cells3 hq
  refine callsIn_of_wp Try.func49 rfl trivial ?_ rfl
  simp only [Try.ntmps49, List.size_toArray, List.length_cons, List.length_nil, Nat.reduceAdd, Nat.reduceSub, Array.replicate_succ, Array.replicate_zero, List.push_toArray, List.append_toArray, List.nil_append, List.cons_append]
  gi_wp2
  gi_quiet (fail)
  gi_wp2
  have hstart : J (uptoP t 0) (W.drewN nq) := hJ _ _ _ none h0 (grownBy_drewN W nq) (fun r e => by cases e)
  have HT := Lib.hid hty
  have HJ := Lib.hid hJ
  have HY := Lib.hid hY
  have HS := Lib.hid hstart
  have HQ := Lib.hid hq
  have hok1 := ok.many
  have hok2 := ok.chs
  have hok3 := ok.first
  have OK := Lib.hid ok
  have hBt : Bt < W.heap.size := World.block_lt_of_cell? _ _ hq0
  obtain ⟨kn, hkn⟩ := Int.eq_ofNat_of_zero_le hok3.1
  have hkl : kn < t.types.length := by omega
  obtain ⟨x, ex⟩ : ∃ x, t.types[kn] = x := ⟨_, rfl⟩
  have hat := hty kn hkl
  rw [ex] at hat
  have hpc2 : pcAt t 0 = ⟨-4611686018427387904, 4611686018427387903, x.off⟩ := by
    simp only [pcAt, frAt, toAt, idAt, hm, hkn]; congr 1; simp [tyD, hkl, ex]
  have c0 := hat.1
  have e0 : t.chs.length = 0 := by rw [hm]; rfl
  have E0 := Lib.hid e0
  have HP2 := Lib.hid hpc2
  have hknz : (kn : Int) < (t.types.length : Int) := by omega
  rw [hkn]
  clear hty hJ hJx hY hstart hq hq1 hq2 ok hm hat ex hpc2 e0 hkn
  gi_loopw [3, 4, 12] (fun s3 s4 s12 wr => s3 = .int .i64 (-4611686018427387904) ∧ s4 = .int .i64 kn ∧ s12 = .int .i64 0 ∧ wr = W.drewN nq) (fun _ _ _ _ => 0)
  case atStart => exact ⟨rfl, rfl, rfl, rfl⟩
  case round =>
    obtain ⟨rfl, rfl, rfl, rfl⟩ := hrel
    obtain ⟨fn, tmps, assign, body, hy, hR⟩ := HY.out [] (pcAt t 0) (W.drewN nq) HS.out (by rw [E0.out]; decide)
    rw [HP2.out] at hy hR
    dsimp only [pcV] at hy
    have hR2 := hR.mono (R' := fun e W' => ∃ bb, e = .returned (.bool bb) ∧ YOut n₀ J Jx ([] ++ [⟨-4611686018427387904, 4611686018427387903, x.off⟩]) (W.drewN nq) bb W')
      (by
        rintro e W' (⟨rfl, h1, h2⟩ | ⟨rfl, h1⟩)
        · exact ⟨true, rfl, ⟨fun _ => ⟨h1, h2⟩, fun h => by cases h⟩⟩
        · exact ⟨false, rfl, ⟨fun h => (by cases h), fun _ => h1⟩⟩)
    clear hR
    gi_wp2
    refine hR2.mono ?_
    rintro e W3 ⟨bb, rfl, h3⟩
    gi_wp2
    go_end0
    cases bb with
    | false => exact ⟨⟨_, rfl⟩, .inr ⟨_, ⟨1, by rw [← HP2.out]; rfl⟩, h3.no rfl⟩⟩
    | true => exact ⟨⟨_, rfl⟩, .inl ⟨_, by rw [E0.out, ← HP2.out]; rfl, (h3.yes rfl).1⟩⟩


set_option maxHeartbeats 1000000 in
/-- pieces(t): the table is boxed; the function value captures the box. -/
theorem pieces_any (a b c : Value) (w : World) :
    Calls Try.prog 40 #[.agg #[a, b, c]] w fun e w' => e = .returned (.func (.func 49) #[] #[.pointer (some ⟨w.heap.size, 0, none⟩)]) ∧ w.alloc (.cells #[a, b, c] 25) = w' := by
  go_enter Try.func40, Try.ntmps40
  go_wp2
  go_ret
  exact ⟨rfl, rfl⟩

theorem pieces_stops (n Bt n₀ : Nat) (t : Tab) (sv cv : Value) (hn : 1 ≤ n) (w : World) (hBt : Bt < w.heap.size) (hn₀ : n₀ ≤ w.heap.size) (w0 : World) (hw0 : w0.heap.size = n₀) (hs : SlTy w0 sv t.types) (hc : SlCh w0 cv t.chs) (hb : Below n₀ w0 w)
    (hq : w.heap[Bt]? = some (Obj.cells #[sv, .int .i64 t.first, cv] 25 (0, 0))) (ok : OkTab t) :
    SeqStopsK Fence.wide n Try.prog 49 #[.pointer (some ⟨Bt, 0, none⟩)] pcV (KpT n₀) (fun ys => ys = uptoP t (t.chs.length + 1)) (fun pre => ∃ k, pre = uptoP t k) (t.chs.length + 1) w := by
  intro l J Jx W hW hJ hJx hY h0
  have hq' := (hW.block Bt hBt).trans hq
  have hbW : Below n₀ w0 W := hb.trans (hW.mono hn₀)
  have hsW : n₀ ≤ W.heap.size := Nat.le_trans hn₀ hW.size
  obtain ⟨p, cap, rfl, hs1⟩ := hs.shape
  obtain ⟨b, o, rfl, hlt, hty⟩ := hs1 ok.ne
  rw [hw0] at hlt
  have hty' : ∀ i (h : i < t.types.length), tyAt W b (o + i * 3) t.types[i] := fun i h => (hty i h).mono hbW hlt
  obtain ⟨p2, cap2, rfl, hc1⟩ := hc.shape
  by_cases hm : t.chs = []
  · have e0 : t.chs.length = 0 := by rw [hm]; rfl
    rw [e0] at hq'
    exact pieces0_in n l Bt n₀ b o cap cap2 p2 t hm hn hlt J Jx hY W hJ hJx hq' hty' ok hsW h0
  · obtain ⟨b2, o2, rfl, hlt2, hch⟩ := hc1 hm
    rw [hw0] at hlt2
    exact pieces1_in n l Bt n₀ b o cap b2 o2 cap2 t hn hlt hlt2 J Jx hY W hJ hJx hq' hty' (fun i h => (hch i h).mono hbW hlt2) ok hsW h0

end Go.Proofs.Yteoliifghhlinaa
