/- pack.put: appends some bytes of a number to a slice of the call's own. -/
import Derived.Test.YtddkedghpapepaaPackMath
import Derived.Laws.AppendOwn
import Derived.Laws.OwnMore
import Derived.Maps.AppendAt
import Derived.OwnWalk
import Derived.Lib.AppendStr
namespace Go.Proofs.Ytddkedghpapepaa
open Go.RowKit
set_option linter.unusedVariables false
set_option linter.unusedSimpArgs false

theorem undBytes : Try.prog.underlying 27 = some (.slice 5) := by kernel_rfl
theorem infoByte : (Try.prog.info? 5).map (fun i => (i.zero, i.size, i.bytes)) = some (some (.int .u8 0), 1, 1) := by kernel_rfl

/-- a slice of bytes of the call's own -/
def BRow (w : World) (B : Nat) (v : Value) (l : List Int) : Prop := w.ownsRow B 5 1 v l.length (bts l)

/-- appending: only the row itself, and what is new, has turned -/
def Grew (w : World) (v : Value) (w' : World) (v' : Value) : Prop := w.grownBy w' v.ownBlock ∧ (v'.ownBlock = v.ownBlock ∨ ∃ k, v'.ownBlock = some k ∧ w.heap.size ≤ k)
theorem Grew.refl (w : World) (v : Value) : Grew w v w v := ⟨⟨rfl, rfl, rfl, Nat.le_refl _, fun _ _ _ => rfl⟩, .inl rfl⟩
theorem Grew.trans {a b c : World} {u v x : Value} (h : Grew a u b v) (k : Grew b v c x) : Grew a u c x := by
  obtain ⟨h1, h2⟩ := h
  obtain ⟨k1, k2⟩ := k
  refine ⟨⟨k1.os.trans h1.os, k1.tape.trans h1.tape, k1.output.trans h1.output, Nat.le_trans h1.size k1.size, fun i hi hne => ?_⟩, ?_⟩
  · refine (k1.block i (Nat.lt_of_lt_of_le hi h1.size) (fun e => ?_)).trans (h1.block i hi hne)
    rcases h2 with h2 | ⟨j, h2, h3⟩
    · exact hne (by rw [e, h2])
    · rw [h2] at e; injection e with e; omega
  · rcases k2 with k2 | ⟨j, k2, k3⟩
    · rcases h2 with h2 | ⟨i, h2, h3⟩
      · exact .inl (k2.trans h2)
      · exact .inr ⟨i, k2.trans h2, h3⟩
    · exact .inr ⟨j, k2, Nat.le_trans h1.size k3⟩
theorem Grew.alloc (w : World) (v : Value) (o : Obj) : Grew w v (w.alloc o) v :=
  ⟨⟨rfl, rfl, rfl, by simp, fun i hi _ => Below.heap_alloc w o i hi⟩, .inl rfl⟩
theorem Grew.drew (w : World) (v : Value) : Grew w v w.drew v := ⟨⟨rfl, rfl, rfl, Nat.le_refl _, fun _ _ _ => rfl⟩, .inl rfl⟩
theorem Grew.drewN (w : World) (v : Value) (n : Nat) : Grew w v (w.drewN n) v := ⟨⟨rfl, rfl, rfl, Nat.le_refl _, fun _ _ _ => rfl⟩, .inl rfl⟩
theorem Grew.app {w w' : World} {v v' : Value} (h : w.grownBy w' v.ownBlock) (k : v'.ownBlock = v.ownBlock ∨ v'.ownBlock = some w.heap.size) : Grew w v w' v' :=
  ⟨h, k.imp id fun e => ⟨_, e, Nat.le_refl _⟩⟩
theorem Grew.below {w w' : World} {v v' : Value} {B : Nat} {l : List Int} (h : Grew w v w' v') (hr : BRow w B v l) (hB : B ≤ w.heap.size) : Below B w w' :=
  (Below.refl B w).grown h.1 hB fun q hq => (World.ownsRow.lt hr q hq).1
/-- a block that is there and is not the row's -/
theorem Grew.far {w w' : World} {v v' : Value} (h : Grew w v w' v') {b : Nat} (hb : b < w.heap.size) (hne : v.ownBlock ≠ some b) : w'.heap[b]? = w.heap[b]? := h.1.block b hb fun e => hne e.symm
theorem Grew.ne {w w' : World} {v v' : Value} (h : Grew w v w' v') {b : Nat} (hb : b < w.heap.size) (hne : v.ownBlock ≠ some b) : v'.ownBlock ≠ some b := by
  rcases h.2 with e | ⟨k, e, hk⟩
  · rw [e]; exact hne
  · rw [e]; intro e2; injection e2 with e2; omega

theorem put_step (k n : Nat) : putN (k + 1) n = [((n / 256 ^ k % 256 : Nat) : Int)] ++ putN k n := rfl
theorem shr_eq (n k : Nat) : IntKind.u8.wrap ((n : Int) / 2 ^ (8 * k)) = ((n / 256 ^ k % 256 : Nat) : Int) := by
  rw [IntKind.wrap_u8']
  have e : (2 : Int) ^ (8 * k) = ((256 ^ k : Nat) : Int) := by
    rw [Int.pow_mul, show ((2 : Int) ^ 8) = ((256 : Nat) : Int) from by decide, ← Int.natCast_pow]
  rw [e]
  simp only [Int.natCast_emod, Int.natCast_ediv]
  rfl

set_option maxRecDepth 100000 in
set_option maxHeartbeats 4000000 in
theorem put_any (B : Nat) (v : Value) (l : List Int) (n many : Nat) (w : World) (hown : BRow w B v l) (hB : B ≤ w.heap.size) (hm : many ≤ 8) (hl : l.length ≤ 100000) :
    Calls Try.prog 28 #[v, .int .u64 n, .int .i64 many] w fun e w' => ∃ v', e = .returned v' ∧ BRow w' B v' (l ++ putN many n) ∧ Grew w v w' v' := by
  obtain ⟨i0, hi, hz0, hz1, hz2⟩ := info_parts infoByte
  have HO := Lib.hid hown
  clear hown
  go_enter Try.func28, Try.ntmps28
  go_wp2
  go_loopw [0, 7] (fun s0 s7 wr => ∃ (k : Nat) (pre : List Int), k ≤ many ∧ s7 = .int .i64 ((k : Int) - 1) ∧ BRow wr B s0 (l ++ pre) ∧ putN many n = pre ++ putN k n ∧ pre.length ≤ 8 ∧ Grew w v wr s0) (fun _ s7 _ => (intOf s7 + 1).toNat)
  case atStart => exact ⟨many, [], Nat.le_refl _, rfl, by rw [List.append_nil]; exact HO.out, rfl, by simp, Grew.refl _ _⟩
  case round =>
    obtain ⟨k, pre, hk, rfl, hrow, heq, hpl, hb⟩ := hrel
    have HR := Lib.hid hrow
    have HE := Lib.hid heq
    have HB := Lib.hid hb
    clear hrow heq hb
    rcases Nat.eq_zero_or_pos k with h0 | h0
    · subst h0
      go_wp2
      go_ret
      refine ⟨_, rfl, ?_, HB.out⟩
      have e : putN many n = pre := by rw [HE.out]; exact List.append_nil _
      rw [e]; exact HR.out
    · obtain ⟨j, rfl⟩ : ∃ j, k = j + 1 := ⟨k - 1, by omega⟩
      have e1 : (((j + 1 : Nat) : Int) - 1) = (j : Int) := by omega
      rw [e1]
      clear e1
      have hj1 : (j : Int) ≤ 7 := by omega
      have hj0 : (0 : Int) ≤ (j : Int) := by omega
      have hv : Hid ((n : Int) / 2 ^ (8 * j) % 256 = ((n / 256 ^ j % 256 : Nat) : Int)) := by
        have := shr_eq n j
        rw [IntKind.wrap_u8'] at this
        exact this
      have hlen : (l ++ pre).length ≤ 100008 := by rw [List.length_append]; omega
      have hsz : B ≤ (wr.alloc (Obj.cells #[Value.int IntKind.u8 (↑n / 2 ^ (8 * j) % 256)] 5)).heap.size := by have := HB.out.1.size; simp; omega
      have HSZ := Lib.hid hsz
      have HL1 : (l ++ pre).length + 1 ≤ maxLen := by simp only [maxLen]; omega
      have HL2 : ((l ++ pre).length + 1) * 1 ≤ 140737488355328 := by omega
      have HR2 : (wr.alloc (Obj.cells #[Value.int IntKind.u8 (↑n / 2 ^ (8 * j) % 256)] 5)).ownsRow B 5 1 u0 (l ++ pre).length (bts (l ++ pre)) := World.ownsRow.alloc HR.out _
      have HNEW : ∀ (k : Nat) (u : Value), [Value.int .u8 (↑n / 2 ^ (8 * j) % 256)][k]? = some u → (wr.alloc (Obj.cells #[Value.int IntKind.u8 (↑n / 2 ^ (8 * j) % 256)] 5)).cell? ((⟨wr.heap.size, 0, none⟩ : Addr).add k) = some u := cell_one_new _ _ _
      clear hsz hlen
      go_wp2_with (first
        | (at_builtin
           refine wpList_append_own_at _ rfl _ _ 27 rfl B 5 i0 (.int .u8 0) 1 1 undBytes hi hz0 hz1 hz2 rfl (by decide) _ _ _ rfl HR2 ⟨wr.heap.size, 0, none⟩ 1 1 [.int .u8 (↑n / 2 ^ (8 * j) % 256)] rfl rfl HNEW (by simp [Value.oneCell']) HL1 HL2 HSZ.out ?_
           intro v' w1 hown1 hgrow1 _ hat1))
      go_roundw
      case rel =>
        refine ⟨j, pre ++ [((n / 256 ^ j % 256 : Nat) : Int)], by omega, rfl, ?_, ?_, ?_, ?_⟩
        · show w1.ownsRow _ _ _ _ _ _
          rw [← List.append_assoc, List.length_append, bts_append, ← hv.out]
          exact hown1
        · rw [HE.out, put_step, List.append_assoc]
        · have h1 := congrArg List.length HE.out
          simp only [List.length_append, putN_length] at h1
          rw [List.length_append]
          show pre.length + 1 ≤ 8
          omega
        · exact HB.out.trans ((Grew.alloc _ _ _).trans (Grew.app hgrow1 hat1))
      case measure => simp [intOf]
end Go.Proofs.Ytddkedghpapepaa
