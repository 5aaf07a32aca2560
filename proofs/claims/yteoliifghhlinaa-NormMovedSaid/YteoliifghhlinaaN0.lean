/- The laws of norm: a table in a block of its own; normed. -/
import Derived.Test.YteoliifghhlinaaBt7
import Derived.Test.YteoliifghhlinaaBt8
import Derived.Test.YteoliifghhlinaaBtE
import Derived.Test.YteoliifghhlinaaWalled
namespace Go.Proofs.Yteoliifghhlinaa
open Go.RowKit Go.Joins
open Classical
set_option linter.unusedVariables false
set_option linter.unusedSimpArgs false

/-- a table that lies in a block of its own -/
def TBx (w : World) (B : Nat) (p1 : Option Addr) (c1 : Nat) (p2 : Option Addr) (c2 : Nat) (t : Tab) : Prop :=
  w.heap[B]? = some (.cells #[.slice p1 t.types.length c1, .int .i64 t.first, .slice p2 t.chs.length c2] 25 (0, 0)) ∧ TabAt w (.agg #[.slice p1 t.types.length c1, .int .i64 t.first, .slice p2 t.chs.length c2]) t
theorem TBx.lt {w : World} {B c1 c2 : Nat} {p1 p2 : Option Addr} {t : Tab} (h : TBx w B p1 c1 p2 c2 t) : B < w.heap.size := (Array.getElem?_eq_some_iff.mp h.1).1
theorem TBx.below {w w' : World} {B c1 c2 : Nat} {p1 p2 : Option Addr} {t : Tab} (h : TBx w B p1 c1 p2 c2 t) (hb : Below w.heap.size w w') : TBx w' B p1 c1 p2 c2 t :=
  ⟨(hb.block B h.lt).trans h.1, h.2.below hb⟩
theorem TBx.cells {w : World} {B c1 c2 : Nat} {p1 p2 : Option Addr} {t : Tab} (h : TBx w B p1 c1 p2 c2 t) :
    w.cell? ⟨B, 0, none⟩ = some (.slice p1 t.types.length c1) ∧ w.cell? ⟨B, 1, none⟩ = some (.int .i64 t.first) ∧ w.cell? ⟨B, 2, none⟩ = some (.slice p2 t.chs.length c2) :=
  ⟨(cell_of_row w _ 0 _ _ _ h.1).trans rfl, (cell_of_row w _ 1 _ _ _ h.1).trans rfl, (cell_of_row w _ 2 _ _ _ h.1).trans rfl⟩
theorem TBx.box {w : World} {c1 c2 : Nat} {p1 p2 : Option Addr} {t : Tab} (h : TabAt w (.agg #[.slice p1 t.types.length c1, .int .i64 t.first, .slice p2 t.chs.length c2]) t) :
    TBx (w.alloc (.cells #[.slice p1 t.types.length c1, .int .i64 t.first, .slice p2 t.chs.length c2] 25)) w.heap.size p1 c1 p2 c2 t :=
  ⟨heap_alloc_new w _, tab_al h⟩
theorem below_al (w : World) (o : Obj) : Below w.heap.size w (w.alloc o) := (Below.refl _ _).alloc (Nat.le_refl _) _

theorem spCells_ch (l : List (Int × Int)) : spCells l = chCells (spL l) := by
  induction l with
  | nil => rfl
  | cons x r ih =>
    have e1 : spCells (x :: r) = spC x ++ spCells r := by simp [spCells]
    have e2 : chCells (spL (x :: r)) = chC ⟨x.1, x.2⟩ ++ chCells (spL r) := by simp [chCells, spL]
    rw [e1, e2, ih]
    rfl
theorem own_sp {W : World} {B : Nat} {v : Value} {l : List (Int × Int)} (h : W.ownsRow B 29 2 v l.length (spCells l)) (hl : l.length ≤ 100000) : SlCh W v (spL l) := by
  rw [spCells_ch] at h
  refine ⟨?_, by rw [spL_len]; simp only [maxLen]; omega⟩
  rcases own_cells h with ⟨rfl, h0⟩ | ⟨g, cap, rfl, hb, hg, hc⟩
  · have : l = [] := List.eq_nil_of_length_eq_zero h0
    subst this
    exact ⟨none, 0, rfl, fun h => absurd rfl h⟩
  · refine ⟨some ⟨g, 0, none⟩, cap, by rw [spL_len], fun _ => ⟨g, 0, rfl, hg, fun i hi => ?_⟩⟩
    obtain ⟨k1, k2⟩ := chCells_get (spL l) i hi
    exact ⟨by rw [Nat.zero_add]; exact hc _ _ k1, by rw [Nat.zero_add]; exact hc _ _ k2⟩
theorem outB_len (a b : Tab) (f t : Int) (ha : OkTab a) (hb : OkTab b) : (outB a b f t).length ≤ 2002 := by
  have h1 : (outB a b f t).length ≤ (srtB (a.chs ++ b.chs) f t).length - 1 := outN_len _ _ _
  rw [srtB_len] at h1
  have h2 := List.length_filter_le (inS f t) (a.chs ++ b.chs)
  have h3 := ha.chs
  have h4 := hb.chs
  rw [List.length_append] at h2
  omega

def samU : Tab := ⟨samT.types, 0, []⟩
theorem sam_chk0 : chk samT = 0 := by decide
theorem samU_chk0 : chk samU = 0 := by decide
theorem sam_srt : srtB (samT.chs ++ samU.chs) 0 15000 = [0, 10000, 15000] := by
  have e : ptsB (samT.chs ++ samU.chs) 0 15000 = [0, 15000, 10000] := by decide
  unfold srtB
  rw [e]
  simp [List.mergeSort, List.MergeSort.Internal.splitInTwo, List.merge]
theorem sam_out : outB samT samU 0 15000 = [(10000, 15000)] := by
  unfold outB
  rw [sam_srt]
  have e0 : eqB samT samU 0 = true := by unfold eqB; exact decide_eq_true (by kernel_rfl)
  have e1 : eqB samT samU 10000 = false := by
    unfold eqB
    refine decide_eq_false fun h => ?_
    have h1 : (tyOf samT 10000).off = 3600 := by kernel_rfl
    have h2 : (tyOf samU 10000).off = 0 := by kernel_rfl
    rw [h, h2] at h1
    cases h1
  simp [outN, stepB, e0, e1]
end Go.Proofs.Yteoliifghhlinaa
