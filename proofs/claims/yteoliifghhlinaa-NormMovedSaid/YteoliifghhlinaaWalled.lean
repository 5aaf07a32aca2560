/- sample(), walled(): what they return. -/
import Derived.Test.YteoliifghhlinaaFind
import Derived.Test.YteoliifghhlinaaInts
namespace Go.Proofs.Yteoliifghhlinaa
open Go.RowKit Go.Shelf
set_option linter.unusedVariables false
set_option linter.unusedSimpArgs false

def samT : Tab := ⟨[⟨0, false, ⟨#[65]⟩⟩, ⟨3600, false, ⟨#[66]⟩⟩], 0, [⟨10000, 1⟩, ⟨20000, 0⟩]⟩

theorem sam_tab {w W : World} (hs : W.heap.size = w.heap.size + 3) (h1 : W.heap[w.heap.size + 1]? = some (Obj.cells #[.int .i64 0, .bool false, .string ⟨#[65]⟩, .int .i64 3600, .bool false, .string ⟨#[66]⟩] 46 (0, 0)))
    (h2 : W.heap[w.heap.size + 1 + 1]? = some (Obj.cells #[.int .i64 10000, .int .i64 1, .int .i64 20000, .int .i64 0] 42 (0, 0))) :
    TabAt W (.agg #[.slice (some ⟨w.heap.size + 1, 0, none⟩) 2 2, .int .i64 0, .slice (some ⟨w.heap.size + 1 + 1, 0, none⟩) 2 2]) samT := by
  refine ⟨_, _, rfl, ⟨⟨_, 2, rfl, fun _ => ⟨_, _, rfl, by omega, fun i hi => ?_⟩⟩, by decide, by decide⟩, ⟨⟨_, 2, rfl, fun _ => ⟨_, _, rfl, by omega, fun i hi => ?_⟩⟩, by decide⟩⟩
  · have : i < 2 := hi
    rcases i with _ | _ | i
    · refine ⟨?_, ?_, ?_⟩ <;> simp [World.cell?, h1, samT]
    · refine ⟨?_, ?_, ?_⟩ <;> simp [World.cell?, h1, samT]
    · omega
  · have : i < 2 := hi
    rcases i with _ | _ | i
    · refine ⟨?_, ?_⟩ <;> simp [World.cell?, h2, samT]
    · refine ⟨?_, ?_⟩ <;> simp [World.cell?, h2, samT]
    · omega

set_option maxHeartbeats 4000000 in
theorem sample_any (w : World) :
    Calls Try.prog 25 #[] w fun e w' => ∃ v, e = .returned v ∧ TabAt w' v samT ∧ Below w.heap.size w w' := by
  go_enter Try.func25, Try.ntmps25
  go_wp2
  obtain ⟨w1, h1⟩ : ∃ w1, w.alloc (Obj.cells #[.slice (some ⟨w.heap.size + 1, 0, none⟩) 2 2, .int .i64 0, .slice (some ⟨w.heap.size + 1 + 1, 0, none⟩) 2 2] 25) = w1 := ⟨_, rfl⟩
  obtain ⟨b1, s1, q0, q1, q2⟩ := box3 h1
  rw [h1]
  obtain ⟨w2, h2⟩ : ∃ w2, w1.alloc (Obj.cells #[.int .i64 0, .bool false, .string ⟨#[65]⟩, .int .i64 3600, .bool false, .string ⟨#[66]⟩] 46) = w2 := ⟨_, rfl⟩
  have s2 : w2.heap.size = w.heap.size + 2 := by rw [← h2]; simp; omega
  have n2 := World.alloc_heap_new w1 (Obj.cells #[.int .i64 0, .bool false, .string ⟨#[65]⟩, .int .i64 3600, .bool false, .string ⟨#[66]⟩] 46)
  have b2 : Below w.heap.size w w2 := by rw [← h2]; exact b1.alloc (by omega) _
  have bb2 : Below w1.heap.size w1 w2 := by rw [← h2]; exact (Below.refl _ _).alloc (Nat.le_refl _) _
  rw [h2, s1] at n2
  rw [h2]
  obtain ⟨w3, h3⟩ : ∃ w3, w2.alloc (Obj.cells #[.int .i64 10000, .int .i64 1, .int .i64 20000, .int .i64 0] 42) = w3 := ⟨_, rfl⟩
  have s3 : w3.heap.size = w.heap.size + 3 := by rw [← h3]; simp; omega
  have n3 := World.alloc_heap_new w2 (Obj.cells #[.int .i64 10000, .int .i64 1, .int .i64 20000, .int .i64 0] 42)
  have b3 : Below w.heap.size w w3 := by rw [← h3]; exact b2.alloc (by omega) _
  have bb3 : Below w2.heap.size w2 w3 := by rw [← h3]; exact (Below.refl _ _).alloc (Nat.le_refl _) _
  rw [h3, s2] at n3
  rw [h3]
  have m2 := (bb3.block (w.heap.size + 1) (by omega)).trans n2
  have k0 := (bb3.cell (p := ⟨w.heap.size, 0, none⟩) (by show w.heap.size < _; omega)).trans ((bb2.cell (p := ⟨w.heap.size, 0, none⟩) (by show w.heap.size < _; omega)).trans q0)
  have k1 := (bb3.cell (p := ⟨w.heap.size, 1, none⟩) (by show w.heap.size < _; omega)).trans ((bb2.cell (p := ⟨w.heap.size, 1, none⟩) (by show w.heap.size < _; omega)).trans q1)
  have k2 := (bb3.cell (p := ⟨w.heap.size, 2, none⟩) (by show w.heap.size < _; omega)).trans ((bb2.cell (p := ⟨w.heap.size, 2, none⟩) (by show w.heap.size < _; omega)).trans q2)
  refine bodyPost_ret (v := .agg #[.slice (some ⟨w.heap.size + 1, 0, none⟩) 2 2, .int .i64 0, .slice (some ⟨w.heap.size + 1 + 1, 0, none⟩) 2 2]) (by simp [results, Try.results25, go_sem, k0, k1, k2]) rfl ?_
  exact ⟨_, rfl, sam_tab s3 m2 n3, b3⟩

theorem sam_chk1 : chkW samT 12000 = 0 := by decide
theorem sam_chk2 : chkW samT 22000 = 0 := by decide
theorem sam_f1 : fnd 12000 (uptoP samT (samT.chs.length + 1)) = [] := by kernel_rfl
theorem sam_f2 : fnd 22000 (uptoP samT (samT.chs.length + 1)) = [18400, 22000] := by kernel_rfl

theorem Find_int (t : Tab) (v : Value) (l : Int) (w : World) (hv : TabAt w v t) (h : chkW t l = 0) :
    Calls Try.prog 24 #[v, .int .i64 l] w fun e w' => ∃ u, e = .returned (.tuple #[u, .int .i64 0]) ∧ SlInt w' u (fnd l (uptoP t (t.chs.length + 1))) ∧ Below w.heap.size w w' := by
  refine (Find_ok t v l w hv h).mono ?_
  rintro e w' ⟨u, rfl, h1, h2⟩
  have := fnd_length l (uptoP t (t.chs.length + 1))
  rw [uptoP_length] at this
  have := (chk_ok t (chkW_zero h).1).chs
  exact ⟨u, rfl, SlInt.of_own h1 (by unfold maxLen; omega), h2⟩

set_option maxRecDepth 100000 in
set_option maxHeartbeats 4000000 in
theorem walled_any (w : World) :
    Calls Try.prog 21 #[] w fun e w' => e = .returned (.bool true) ∧ Below w.heap.size w w' := by
  go_enter Try.func21, Try.ntmps21
  go_wp2_with fail
  refine (sample_any _).mono ?_
  rintro e w1 ⟨v1, rfl, ht1, hb1⟩
  go_wp2_with fail
  refine (Find_int samT v1 12000 w1 ht1 sam_chk1).mono ?_
  rw [sam_f1]
  rintro e w2 ⟨u1, rfl, ⟨⟨p1, cap1, rfl, -⟩, -⟩, hb2⟩
  go_wp2_with fail
  refine (sample_any _).mono ?_
  rintro e w3 ⟨v2, rfl, ht2, hb3⟩
  go_wp2_with fail
  refine (Find_int samT v2 22000 w3 ht2 sam_chk2).mono ?_
  rw [sam_f2]
  rintro e w4 ⟨u2, rfl, hu2, hb4⟩
  have b4 : Below w.heap.size w w4 := hb1.trans ((hb2.trans ((hb3.trans (hb4.mono hb3.size)).mono hb2.size)).mono hb1.size)
  obtain ⟨⟨p2, cap2, rfl, hs2⟩, hl2⟩ := hu2
  obtain ⟨bb, oo, rfl, hlt, hat⟩ := hs2 (by simp)
  have HAT := Lib.hid hat
  have HB4 := Lib.hid b4
  clear hs2 hb1 hb2 hb3 hb4 ht1 ht2 hat b4
  go_wp2_with fail
  have hb5 : Below w4.heap.size w4 (w4.alloc (Obj.cells #[.int .i64 18400, .int .i64 22000] 3)) := (Below.refl _ _).alloc (Nat.le_refl _) _
  have hn5 := World.alloc_heap_new w4 (Obj.cells #[.int .i64 18400, .int .i64 22000] 3)
  refine (Eq_some [18400, 22000] [18400, 22000] bb oo cap2 w4.heap.size 0 2 _ (by decide) rfl (fun i hi => (hb5.cell (p := ⟨bb, oo + i, none⟩) hlt).trans (HAT.out i hi)) (fun i hi => ?_)).mono ?_
  · have : i < 2 := hi
    rcases i with _ | _ | i
    · exact (cells2 hn5).1
    · exact (cells2 hn5).2
    · omega
  rintro e w5 ⟨rfl, rfl⟩
  rw [show decide ([18400, 22000] = ([18400, 22000] : List Int)) = true from by decide]
  go_wp2
  go_ret
  exact ⟨rfl, HB4.out.trans (hb5.mono HB4.out.size)⟩

end Go.Proofs.Yteoliifghhlinaa
