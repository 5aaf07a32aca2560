/- pack's reader: the contracts of bytes and number. -/
import Derived.Test.YtddkedghpapepaaPack2
import Derived.Shelf.Bytes.SlEqualAll
import Derived.Laws.BitsAllLaws
namespace Go.Proofs.Ytddkedghpapepaa
open Go.RowKit
set_option linter.unusedVariables false
set_option linter.unusedSimpArgs false

/-- a slice of bytes that reads so, below a block -/
def BytesBelow (w : World) (B : Nat) (A : Option Addr) (n : Nat) (xs : List Int) : Prop :=
  0 < n → ∃ b o, A = some ⟨b, o, none⟩ ∧ b < B ∧ ∀ i, i < n → w.cell? ⟨b, o + i, none⟩ = some (.int .u8 (xs.getD i 0))
theorem BytesBelow.bytes {w : World} {B : Nat} {A : Option Addr} {n : Nat} {xs : List Int} (h : BytesBelow w B A n xs) : Lib.BytesIn w A n xs := fun hn => by
  obtain ⟨b, o, h1, _, h2⟩ := h hn
  exact ⟨b, o, h1, h2⟩
theorem BytesBelow.keep {w w' : World} {B : Nat} {A : Option Addr} {n : Nat} {xs : List Int} (h : BytesBelow w B A n xs) (hk : ∀ b o, b < B → w'.cell? ⟨b, o, none⟩ = w.cell? ⟨b, o, none⟩) : BytesBelow w' B A n xs := fun hn => by
  obtain ⟨b, o, h1, h2, h3⟩ := h hn
  exact ⟨b, o, h1, h2, fun i hi => (hk b _ h2).trans (h3 i hi)⟩

/-- the reader, in a block of its own -/
def RdAt (w : World) (R : Nat) (r : Rd) : Prop := ∃ A c, r.rest.length ≤ c ∧ w.heap[R]? = some (.cells #[.slice A r.rest.length c, .bool r.short] 72 (0, 0)) ∧ BytesBelow w R A r.rest.length r.rest
theorem RdAt.keep {w w' : World} {R : Nat} {r : Rd} (h : RdAt w R r) (hk : ∀ b, b ≤ R → w'.heap[b]? = w.heap[b]?) : RdAt w' R r := by
  obtain ⟨A, c, h1, h2, h3⟩ := h
  refine ⟨A, c, h1, (hk R (Nat.le_refl _)).trans h2, h3.keep fun b o hb => ?_⟩
  simp only [World.cell?, hk b (by omega)]
theorem RdAt.lt {w : World} {R : Nat} {r : Rd} (h : RdAt w R r) : R < w.heap.size := by
  obtain ⟨A, c, h1, h2, h3⟩ := h
  exact (Array.getElem?_eq_some_iff.1 h2).1

theorem heap_setCell_same {w : World} {R i : Nat} {cs : Array Value} {T : TypeId} {f : Nat × Nat} (h : w.heap[R]? = some (.cells cs T f)) (v : Value) : (w.setCell ⟨R, i, none⟩ v).heap[R]? = some (.cells (cs.setIfInBounds i v) T f) := by
  simp [World.setCell, Array.getElem?_modify, h]

theorem made_bytes (n : Nat) (hn : n ≤ 255) (W : World) : (Instr.makeSlice 27 (.int .i64 (n : Int)) (.int .i64 (n : Int))).run Try.prog W = .ok (.slice (some ⟨W.heap.size, 0, none⟩) n n) (W.alloc (.cells (madeCells #[.int .u8 0] n) 5)) := by
  obtain ⟨i0, hi, hz0, hz1, hz2⟩ := info_parts infoByte
  have h := run_make (P := Try.prog) W 27 5 i0 (.int .u8 0) undBytes hi hz0 .i64 .i64 (n : Int) (n : Int) (by omega) (by omega) (by rw [hz2]; omega) (by omega)
  rw [hz1] at h
  simpa [Value.cells] using h

theorem rd_short {w : World} {R n : Nat} {A : Option Addr} {m c : Nat} {s : Bool} (h2 : w.heap[R]? = some (.cells #[.slice A m c, .bool s] 72 (0, 0))) (hn : 0 < n) :
    let W := ((w.setCell ⟨R, 1, none⟩ (.bool true)).setCell ⟨R, 0, none⟩ (.slice none 0 0)).alloc (.cells (madeCells #[.int .u8 0] n) 5)
    BytesBelow W W.heap.size (some ⟨w.heap.size, 0, none⟩) n (List.replicate n 0) ∧ RdAt W R ⟨[], true⟩ ∧ w.grownBy W (some R) := by
  intro W
  have hlt : R < w.heap.size := (Array.getElem?_eq_some_iff.1 h2).1
  have e1 := heap_setCell_same (i := 1) h2 (.bool true)
  have e2 := heap_setCell_same (i := 0) e1 (.slice none 0 0)
  have hz : ((w.setCell ⟨R, 1, none⟩ (.bool true)).setCell ⟨R, 0, none⟩ (.slice none 0 0)).heap.size = w.heap.size := by simp [World.setCell]
  refine ⟨fun _ => ⟨w.heap.size, 0, rfl, by show _ < W.heap.size; simp [W, hz], fun i hi => ?_⟩, ⟨none, 0, Nat.le_refl _, ?_, fun h => by simp at h⟩, ⟨rfl, rfl, rfl, by simp [W, hz], fun i hi hne => ?_⟩⟩
  · have e := heap_alloc_new ((w.setCell ⟨R, 1, none⟩ (.bool true)).setCell ⟨R, 0, none⟩ (.slice none 0 0)) (.cells (madeCells #[.int .u8 0] n) 5)
    rw [hz] at e
    rw [cell_of_row _ _ _ _ _ _ e]
    rw [Nat.zero_add, ← Array.getElem?_toList, toList_madeCells_one]
    simp [hi]
  · refine (Below.heap_alloc _ _ _ (by omega)).trans ?_
    rw [e2]; rfl
  · have hne' : i ≠ R := fun e => hne (by rw [e])
    exact (Below.heap_alloc _ _ _ (by omega)).trans ((Below.heap_setCell _ _ _ _ hne').trans (Below.heap_setCell _ _ _ _ hne'))

theorem rd_long {w : World} {R n : Nat} {r : Rd} {A : Option Addr} {c : Nat} (h1 : r.rest.length ≤ c) (h2 : w.heap[R]? = some (.cells #[.slice A r.rest.length c, .bool r.short] 72 (0, 0))) (h3 : BytesBelow w R A r.rest.length r.rest) (hs : n ≤ r.rest.length)
    (A' : Option Addr) (hA : n < r.rest.length → A' = A.map (·.add n)) :
    BytesBelow (w.setCell ⟨R, 0, none⟩ (.slice A' (r.rest.length - n) (c - n))) (w.setCell ⟨R, 0, none⟩ (.slice A' (r.rest.length - n) (c - n))).heap.size A n (r.rest.take n) ∧
      RdAt (w.setCell ⟨R, 0, none⟩ (.slice A' (r.rest.length - n) (c - n))) R ⟨r.rest.drop n, r.short⟩ ∧ w.grownBy (w.setCell ⟨R, 0, none⟩ (.slice A' (r.rest.length - n) (c - n))) (some R) := by
  have hlt : R < w.heap.size := (Array.getElem?_eq_some_iff.1 h2).1
  have e2 := heap_setCell_same (i := 0) h2 (.slice A' (r.rest.length - n) (c - n))
  have hk : ∀ b o, b < R → (w.setCell ⟨R, 0, none⟩ (.slice A' (r.rest.length - n) (c - n))).cell? ⟨b, o, none⟩ = w.cell? ⟨b, o, none⟩ := fun b o hb => by
    simp only [World.cell?, Below.heap_setCell w ⟨R, 0, none⟩ (.slice A' (r.rest.length - n) (c - n)) b (show b ≠ R by omega)]
  refine ⟨fun hn => ?_, ⟨A', c - n, by simp; omega, ?_, fun hn => ?_⟩, ⟨rfl, rfl, rfl, by simp [World.setCell], fun i hi hne => Below.heap_setCell _ _ _ _ (fun e => hne (by rw [e]))⟩⟩
  · obtain ⟨b, o, rfl, hb, hc⟩ := h3 (by omega)
    refine ⟨b, o, rfl, by simp [World.setCell]; omega, fun i hi => ?_⟩
    rw [hk b _ hb, hc i (by omega)]
    simp only [List.getD_eq_getElem?_getD, List.getElem?_take, hi, if_true]
  · rw [e2]; simp [List.length_drop]
  · simp only [List.length_drop] at hn
    obtain ⟨b, o, rfl, hb, hc⟩ := h3 (by omega)
    refine ⟨b, o + n, by rw [hA (by omega)]; simp [Addr.add], hb, fun i hi => ?_⟩
    simp only [List.length_drop] at hi
    rw [hk b _ hb, Nat.add_assoc, hc (n + i) (by omega)]
    simp only [List.getD_eq_getElem?_getD, List.getElem?_drop]

set_option maxRecDepth 100000 in
set_option maxHeartbeats 1000000 in
theorem bytes_short (R n : Nat) (r : Rd) (w : World) (hr : RdAt w R r) (hn : n ≤ 255) (hs : r.rest.length < n) :
    Calls Try.prog 36 #[.pointer (some ⟨R, 0, none⟩), .int .i64 n] w fun e w' => ∃ A c, e = .returned (.slice A n c) ∧ n ≤ c ∧ BytesBelow w' w'.heap.size A n (List.replicate n 0) ∧ RdAt w' R ⟨[], true⟩ ∧ w.grownBy w' (some R) := by
  obtain ⟨A, c, h1, h2, h3⟩ := hr
  obtain ⟨c0, c1⟩ := cellsX2 h2
  have hlt : R < w.heap.size := (Array.getElem?_eq_some_iff.1 h2).1
  have f0 : w.frozen? ⟨R, 0, none⟩ = false := by simp [World.frozen?, h2]
  have f1 : w.frozen? ⟨R, 1, none⟩ = false := by simp [World.frozen?, h2]
  have hmk := made_bytes n hn
  have H2 := Lib.hid h2
  clear h2 h3
  go_enter Try.func36, Try.ntmps36
  go_wp2
  go_ret
  obtain ⟨k1, k2, k3⟩ := rd_short (n := n) H2.out (by omega)
  exact ⟨_, _, rfl, Nat.le_refl _, k1, k2, k3⟩
set_option maxRecDepth 100000 in
set_option maxHeartbeats 1000000 in
theorem bytes_long (R n : Nat) (r : Rd) (w : World) (hr : RdAt w R r) (hn : n ≤ 255) (hs : n ≤ r.rest.length) :
    Calls Try.prog 36 #[.pointer (some ⟨R, 0, none⟩), .int .i64 n] w fun e w' => ∃ A c, e = .returned (.slice A n c) ∧ n ≤ c ∧ BytesBelow w' w'.heap.size A n (r.rest.take n) ∧ RdAt w' R ⟨r.rest.drop n, r.short⟩ ∧ w.grownBy w' (some R) := by
  obtain ⟨A, c, h1, h2, h3⟩ := hr
  obtain ⟨c0, c1⟩ := cellsX2 h2
  have hlt : R < w.heap.size := (Array.getElem?_eq_some_iff.1 h2).1
  have f0 : w.frozen? ⟨R, 0, none⟩ = false := by simp [World.frozen?, h2]
  have f1 : w.frozen? ⟨R, 1, none⟩ = false := by simp [World.frozen?, h2]
  have H2 := Lib.hid h2
  have H3 := Lib.hid h3
  clear h2 h3
  go_enter Try.func36, Try.ntmps36
  go_wp2
  · have hc : c = n := by assumption
    subst hc
    go_ret
    obtain ⟨k1, k2, k3⟩ := rd_long h1 H2.out H3.out hs A (by omega)
    exact ⟨_, _, rfl, Nat.le_refl _, by simpa using k1, by simpa using k2, by simpa using k3⟩
  · go_ret
    obtain ⟨k1, k2, k3⟩ := rd_long h1 H2.out H3.out hs (A.map (·.add n)) (fun _ => rfl)
    exact ⟨_, _, rfl, by omega, k1, k2, k3⟩
theorem bytes_any (R n : Nat) (r : Rd) (w : World) (hr : RdAt w R r) (hn : n ≤ 255) :
    Calls Try.prog 36 #[.pointer (some ⟨R, 0, none⟩), .int .i64 n] w fun e w' => ∃ A c, e = .returned (.slice A n c) ∧ n ≤ c ∧ BytesBelow w' w'.heap.size A n (takeN n r).1 ∧ RdAt w' R (takeN n r).2 ∧ w.grownBy w' (some R) := by
  unfold takeN
  by_cases hs : n ≤ r.rest.length
  · simp only [hs, if_true]; exact bytes_long R n r w hr hn hs
  · simp only [hs, if_false]; exact bytes_short R n r w hr hn (by omega)

theorem u64_or256 (a c : Nat) (ha : a < 72057594037927936) (hc : c < 256) : bits .or .u64 (IntKind.u64.wrap ((a : Int) * 256)) (c : Int) = ((a * 256 + c : Nat) : Int) := by
  have e : IntKind.u64.wrap ((a : Int) * 256) = ((a * 256 : Nat) : Int) := by rw [IntKind.wrap_u64]; omega
  rw [e, u64_or_nat _ _ (by omega) (by omega)]
  congr 1
  have := Nat.shiftLeft_add_eq_or_of_lt (a := a) (i := 8) (b := c) (by omega)
  rw [Nat.shiftLeft_eq] at this
  exact this.symm

theorem numL_take (l : List Int) (k : Nat) (h : k < l.length) : numL (l.take (k + 1)) = numL (l.take k) * 256 + l[k].toNat := by
  rw [List.take_succ_eq_append_getElem h, numL_snoc]

set_option maxRecDepth 100000 in
set_option maxHeartbeats 1000000 in
theorem number_any (R n : Nat) (r : Rd) (w : World) (hr : RdAt w R r) (hn : n ≤ 8) (hby : ∀ x ∈ r.rest, 0 ≤ x ∧ x < 256) :
    Calls Try.prog 35 #[.pointer (some ⟨R, 0, none⟩), .int .i64 n] w fun e w' => e = .returned (.int .u64 (numN n r).1) ∧ RdAt w' R (numN n r).2 ∧ w.grownBy w' (some R) := by
  have HB := Lib.hid (bytes_any R n r w hr (by omega))
  have hlen := takeN_length n r
  have hbt := takeN_byte n r hby
  have e2 : numN n r = (numL (takeN n r).1, (takeN n r).2) := rfl
  obtain ⟨L, eL⟩ : ∃ L, (takeN n r).1 = L := ⟨_, rfl⟩
  obtain ⟨Q, eQ⟩ : ∃ Q, (takeN n r).2 = Q := ⟨_, rfl⟩
  rw [eL, eQ] at HB e2
  rw [eL] at hlen hbt
  rw [e2]
  have HBT := Lib.hid hbt
  have HLEN := Lib.hid hlen
  clear hr hby eL eQ e2 hbt hlen
  go_enter Try.func35, Try.ntmps35
  go_wp2_with fail
  refine HB.out.mono ?_
  rintro e w1 ⟨A, c, rfl, hc, hbb, hrd, hgr⟩
  have HRD := Lib.hid hrd
  have HGR := Lib.hid hgr
  have HBB := Lib.hid hbb
  clear hrd hgr hbb
  go_wp2
  go_loop [4, 11] (fun s4 s11 => ∃ k : Nat, k ≤ n ∧ s11 = .int .i64 k ∧ s4 = .int .u64 (numL (L.take k))) (fun _ s11 => n - (intOf s11).toNat)
  case atStart => exact ⟨0, Nat.zero_le _, rfl, rfl⟩
  case round =>
    obtain ⟨k, hk, rfl, rfl⟩ := hrel
    by_cases hlt : k < n
    · obtain ⟨b, o, rfl, hb, hcell⟩ := HBB.out (by omega)
      have hkl : k < L.length := by have := HLEN.out; omega
      have hx := HBT.out _ (List.getElem_mem hkl)
      have hs := numL_take L k hkl
      have hbd := numL_lt (L.take k) fun x hx => HBT.out x (List.mem_of_mem_take hx)
      have hpow : numL (L.take k) < 72057594037927936 := by
        refine Nat.lt_of_lt_of_le hbd ?_
        rw [List.length_take]
        exact Nat.pow_le_pow_right (by decide) (show min k L.length ≤ 7 by omega)
      have hck := hcell k hlt
      rw [List.getD_eq_getElem?_getD, List.getElem?_eq_getElem hkl, Option.getD_some] at hck
      obtain ⟨x, hxe⟩ := Int.eq_ofNat_of_zero_le hx.1
      rw [hxe] at hck hs
      have hx2 : x < 256 := by rw [hxe] at hx; omega
      obtain ⟨a, ea⟩ : ∃ a, numL (L.take k) = a := ⟨_, rfl⟩
      rw [ea] at hs hpow ⊢
      have HOR := Lib.hid (u64_or256 a x hpow hx2)
      have HS : Hid (numL (L.take (k + 1)) = a * 256 + x) := by show _ = _; rw [hs]; rfl
      clear hs hpow ea hbd hx hxe hcell
      go_wp2
      go_round
      case rel => exact ⟨k + 1, by omega, by go_num, by rw [HS.out, HOR.out]⟩
      case measure => simp [intOf]; omega
    · obtain rfl : k = n := by omega
      have e : L.take k = L := List.take_of_length_le (by have := HLEN.out; omega)
      rw [e]
      go_wp2
      go_ret
      exact ⟨rfl, HRD.out, HGR.out⟩
end Go.Proofs.Ytddkedghpapepaa
