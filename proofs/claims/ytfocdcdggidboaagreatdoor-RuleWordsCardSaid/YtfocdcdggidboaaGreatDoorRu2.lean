/- rule.Text: what it returns. -/
import Derived.Test.YtfocdcdggidboaaGreatDoorRu1
import Derived.Test.YtfocdcdggidboaaGreatDoorRuMath2
import Derived.Lib.ItoaLen
import Derived.Lib.SmallJoins
import Derived.Deep.RegionHeld3
namespace Go.Proofs.YtfocdcdggidboaaGreatDoor
open Go.RowKit Go.Joins
open Classical
set_option linter.unusedVariables false
set_option linter.unusedSimpArgs false

def AscTab (w : World) : Prop := Lib.TabIs Tryz.prog w "strings.asciiSpace" .u8 Lib.asciiSpaceTab
theorem AscTab.below {w w' : World} (h : AscTab w) (hb : Below w.heap.size w w') : AscTab w' := (Lib.tabBelow_of_tabIs h) w' hb

theorem trim_one (b : Int) (h0 : 0 ≤ b) (h2 : b ≤ 2) : ∃ T : ByteArray,
    (∀ W : World, (Instr.slice 9 (.string ⟨#[32, 115, 117]⟩) (some (.int .i64 b)) (some (.int .i64 (b + 1))) none).run Tryz.prog W = .ok (.string T) W) ∧
    (∀ W : World, AscTab W → Calls Tryz.prog 36 #[.string T] W fun e w' => e = .returned (.string (txt (ckT b))) ∧ Below W.heap.size W w') := by
  have hb : b = 0 ∨ b = 1 ∨ b = 2 := by omega
  have key : ∀ (c : UInt8), c.toNat < 128 → ∀ R, Lib.trimSpace [c] = R → ∀ W : World, AscTab W → Calls Tryz.prog 36 #[.string ⟨#[c]⟩] W fun e w' => e = .returned (.string (txt R)) ∧ Below W.heap.size W w' := by
    intro c hc R hR W ha
    refine (Tryz.strings_TrimSpace ⟨#[c]⟩ W (by show (1 : Nat) ≤ _; omega) (by
      intro j x hx
      cases j with
      | zero => simp at hx; subst hx; exact hc
      | succ j => simp at hx) ha).mono ?_
    rintro e w' ⟨rfl, rfl⟩
    exact ⟨by rw [← hR]; rfl, below_bytesWorld _ _ _ _ (Nat.le_refl _)⟩
  rcases hb with rfl | rfl | rfl
  · refine ⟨⟨#[32]⟩, fun W => ?_, key 32 (by decide) _ (by decide)⟩
    rw [run_slice_string (P := Tryz.prog) W _ _ _ _ _ _ Tryz.underlying9 (by omega) (by omega) (by show (0 : Int) + 1 ≤ ((3 : Nat) : Int); omega)]
    rfl
  · refine ⟨⟨#[115]⟩, fun W => ?_, key 115 (by decide) _ (by decide)⟩
    rw [run_slice_string (P := Tryz.prog) W _ _ _ _ _ _ Tryz.underlying9 (by omega) (by omega) (by show (1 : Int) + 1 ≤ ((3 : Nat) : Int); omega)]
    rfl
  · refine ⟨⟨#[117]⟩, fun W => ?_, key 117 (by decide) _ (by decide)⟩
    rw [run_slice_string (P := Tryz.prog) W _ _ _ _ _ _ Tryz.underlying9 (by omega) (by omega) (by show (2 : Int) + 1 ≤ ((3 : Nat) : Int); omega)]
    rfl

theorem dayT_len {k wd n : Int} (h : dayB k wd n = true) : (dayT k wd n).length ≤ 30 := by
  simp only [dayB, decide_eq_true_eq] at h
  have hw : (wordT wd).length = 3 := wordT_length (by omega) (by omega)
  have hi := Lib.itoa_length_le n (by omega) (by omega)
  unfold dayT
  split
  · simp only [List.length_append, List.length_cons, List.length_nil]; omega
  · split
    · simp only [List.length_append, List.length_cons, List.length_nil]; omega
    · split
      · simp only [List.length_append, List.length_cons, List.length_nil]; omega
      · omega
theorem all_size {s : ByteArray} {most : Int} {o : ByteArray} (h : allB s most o = true) : (s.size : Int) ≤ most := by
  unfold allB at h
  simp only [Bool.and_eq_true, decide_eq_true_eq] at h
  exact h.2
theorem okRu_nm {r : Ru} (o : OkRu r) : r.nm.size ≤ 20 := by
  have := o.nm
  unfold nameB at this
  simp only [Bool.and_eq_true] at this
  have := all_size this.1
  omega
theorem okRu_lt {r : Ru} (o : OkRu r) : r.lt.size ≤ 8 := by
  rcases o.lt with h | h
  · have : r.lt.data.toList.length = 1 := by rw [← ByteArray.toList_eq, h]; rfl
    simp at this
    omega
  · have := all_size h
    omega
/-- strings.Join of nine short words -/
theorem join9 (a b c d e f g h i : ByteArray) (W : World) (cap : Nat) (hc : 9 ≤ cap) (bk : Nat) (hbk : bk < W.heap.size) (row : ∃ t z, W.heap[bk]? = some (.cells #[.string a, .string b, .string c, .string d, .string e, .string f, .string g, .string h, .string i] t z)) (hs : ∀ x ∈ [a, b, c, d, e, f, g, h, i], x.size ≤ 60) :
    Calls Tryz.prog 34 #[.slice (some ⟨bk, 0, none⟩) 9 cap, .string ⟨#[32]⟩] W fun en w' => en = .returned (.string (txt (glue [a.data.toList, b.data.toList, c.data.toList, d.data.toList, e.data.toList, f.data.toList, g.data.toList, h.data.toList, i.data.toList]))) ∧ Below W.heap.size W w' := by
  obtain ⟨t, z, hrow⟩ := row
  have hj : Lib.join ([a, b, c, d, e, f, g, h, i].map (·.data.toList)) (⟨#[32]⟩ : ByteArray).data.toList = glue [a.data.toList, b.data.toList, c.data.toList, d.data.toList, e.data.toList, f.data.toList, g.data.toList, h.data.toList, i.data.toList] := by
    simp [Lib.join, List.intercalate, glue]
  refine (Tryz.strings_Join bk 0 cap [a, b, c, d, e, f, g, h, i] ⟨#[32]⟩ W ?_ hbk (by simp) (by simpa using hc) ?_).mono ?_
  · intro j x hx
    have hj9 : j < 9 := by
      have := (List.getElem?_eq_some_iff.mp hx).1
      simpa using this
    rw [show (0 + j) = j from Nat.zero_add j]
    refine (cell_of_row W bk j _ _ _ hrow).trans ?_
    have : j = 0 ∨ j = 1 ∨ j = 2 ∨ j = 3 ∨ j = 4 ∨ j = 5 ∨ j = 6 ∨ j = 7 ∨ j = 8 := by omega
    rcases this with rfl | rfl | rfl | rfl | rfl | rfl | rfl | rfl | rfl <;> (simp at hx; subst hx; rfl)
  · rw [hj]
    have h1 := hs a (by simp); have h2 := hs b (by simp); have h3 := hs c (by simp); have h4 := hs d (by simp); have h5 := hs e (by simp)
    have h6 := hs f (by simp); have h7 := hs g (by simp); have h8 := hs h (by simp); have h9 := hs i (by simp)
    simp only [glue, List.length_append, List.length_cons, Array.length_toList, ByteArray.size_data]
    omega
  · rintro en w' ⟨rfl, hb⟩
    exact ⟨by rw [hj]; rfl, hb⟩

end Go.Proofs.YtfocdcdggidboaaGreatDoor
