/- turns.Make: the sorted list of moments, in plain terms and in memory. -/
import Derived.Test.YtlgdilpmdoofiaaDoorTuA
namespace Go.Proofs.YtlgdilpmdoofiaaDoor
open Go.RowKit Go.Joins Go.Sort
open Classical
set_option linter.unusedVariables false
set_option linter.unusedSimpArgs false

abbrev nle (x y : Int × Ru) : Bool := decide (x.1 ≤ y.1)
def srt (m : List (Int × Ru)) : List (Int × Ru) := m.mergeSort nle
def srtZ (m : List (Int × Ru)) : List ((Int × Ru) × Nat) := m.zipIdx.mergeSort (List.zipIdxLE nle)
theorem srtZ_fst (m : List (Int × Ru)) : (srtZ m).map (·.1) = srt m := List.mergeSort_zipIdx
theorem soList_map (m : List (Int × Ru)) : soList (m.map (·.1)) = (srtZ m).map fun p => (p.1.1, p.2) := by
  unfold soList tagged srtZ
  rw [List.zipIdx_map, List.map_mergeSort]
  · rfl
  · intro a _ b _
    show (if decide (a.1.1 ≤ b.1.1) then (if decide (b.1.1 ≤ a.1.1) then decide (a.2 ≤ b.2) else true) else false) = !elL (b.1.1, b.2) (a.1.1, a.2)
    unfold elL
    by_cases h1 : a.1.1 ≤ b.1.1
    · by_cases h2 : b.1.1 ≤ a.1.1
      · have e : a.1.1 = b.1.1 := by omega
        by_cases h3 : a.2 ≤ b.2
        · simp [e, h3]
        · simp [e, h3]; omega
      · simp [h1, h2]; omega
    · simp [h1]
def ptL (l : List Nb) (t : Nat) : Nat := (l[t]?.map (·.2.2)).getD 0
def nbM (l : List Nb) : List (Int × Ru) := l.map fun x => (x.1, x.2.1)
def nbT (l : List Nb) : List Nb := (srtZ (nbM l)).map fun p => (p.1.1, p.1.2, ptL l p.2)
theorem nbT_M (l : List Nb) : nbM (nbT l) = srt (nbM l) := by
  rw [← srtZ_fst]
  unfold nbT nbM
  rw [List.map_map]
  rfl
theorem nbT_len (l : List Nb) : (nbT l).length = l.length := by
  have e := congrArg List.length (nbT_M l)
  unfold srt at e
  rw [List.length_mergeSort] at e
  unfold nbM at e
  simpa using e
theorem srtZ_mem {m : List (Int × Ru)} {p : (Int × Ru) × Nat} (h : p ∈ srtZ m) : m[p.2]? = some p.1 := by
  have := (List.mem_mergeSort.1 h)
  exact List.mem_zipIdx_iff_getElem?.1 this
theorem nbT_mem {l : List Nb} {x : Nb} (h : x ∈ nbT l) : x ∈ l := by
  obtain ⟨p, hp, rfl⟩ := List.mem_map.1 h
  have e := srtZ_mem hp
  unfold nbM at e
  rw [List.getElem?_map] at e
  unfold ptL
  cases e2 : l[p.2]? with
  | none => rw [e2] at e; cases e
  | some y =>
    rw [e2] at e
    injection e with e
    rw [← e]
    exact List.mem_of_getElem? e2
/-- moments in a row, each with its rule's box -/
structure NbRd (W : World) (blk : Nat) (T : List Nb) : Prop where
  lt : blk < W.heap.size
  k : ∀ i (h : i < T.length), W.cell? ⟨blk, i * 2, none⟩ = some (.int .i64 T[i].1)
  p : ∀ i (h : i < T.length), W.cell? ⟨blk, i * 2 + 1, none⟩ = some (.pointer (some ⟨T[i].2.2, 0, none⟩))
  bx : ∀ x ∈ T, RuBx W x.2.2 x.2.1
theorem NbRd.below {W W' : World} {blk : Nat} {T : List Nb} (h : NbRd W blk T) (hb : Below W.heap.size W W') : NbRd W' blk T :=
  ⟨Nat.lt_of_lt_of_le h.lt hb.size, fun i hi => (hb.cell (p := ⟨blk, i * 2, none⟩) h.lt).trans (h.k i hi), fun i hi => (hb.cell (p := ⟨blk, i * 2 + 1, none⟩) h.lt).trans (h.p i hi), fun x hx => (h.bx x hx).below hb⟩
theorem nbCells_get : ∀ (l : List Nb) (i : Nat) (h : i < l.length), (nbCells l)[i * 2]? = some (.int .i64 l[i].1) ∧ (nbCells l)[i * 2 + 1]? = some (.pointer (some ⟨l[i].2.2, 0, none⟩))
  | [], i, h => by simp at h
  | x :: r, 0, _ => by simp [nbCells]
  | x :: r, i + 1, h => by
    have := nbCells_get r i (by simpa using h)
    have e : nbCells (x :: r) = [.int .i64 x.1, .pointer (some ⟨x.2.2, 0, none⟩)] ++ nbCells r := by simp [nbCells]
    rw [e]
    rw [List.getElem?_append_right (by simp; omega), List.getElem?_append_right (by simp; omega)]
    rw [show (i + 1) * 2 - [Value.int .i64 x.1, .pointer (some ⟨x.2.2, 0, none⟩)].length = i * 2 by simp; omega, show (i + 1) * 2 + 1 - [Value.int .i64 x.1, .pointer (some ⟨x.2.2, 0, none⟩)].length = i * 2 + 1 by simp; omega]
    simpa using this
theorem nbAt_so {W : World} {base g cap : Nat} {l : List Nb} (h : NbAt W base (.slice (some ⟨g, 0, none⟩) l.length cap) l) : SoW (ptL l) W g (tagged (l.map (·.1))).toArray W := by
  obtain ⟨h1, h2⟩ := h.row
  rcases h2 with ⟨h2, _⟩ | ⟨g', cap', cur, e2, hb, hg, hnc, hcm, hcs, htake⟩
  · cases h2
  · simp only [Value.slice.injEq, Option.some.injEq, Addr.mk.injEq, and_true, true_and] at e2
    obtain ⟨rfl, rfl⟩ := e2
    have hc : ∀ i u, (nbCells l)[i]? = some u → W.cell? ⟨g, i, none⟩ = some u := by
      intro i u hu
      rw [cell_of_row W g i cur _ (0, 0) hg]
      rw [← htake, List.getElem?_take] at hu
      split at hu
      · simpa using hu
      · cases hu
    have es : (tagged (l.map (·.1))).toArray.size = l.length := by simp [tagged]
    refine ⟨World.grownBy.refl _ _, ⟨fun i hi => ?_, fun i hi => ?_, fun i hi => by simp [World.frozen?, hg]⟩, (Array.getElem?_eq_some_iff.1 hg).1⟩
    · rw [hc _ _ (nbCells_get l i (by omega)).1, getElem!_pos _ i hi]
      simp [tagged]
    · rw [hc _ _ (nbCells_get l i (by omega)).2, getElem!_pos _ i hi]
      have : i < l.length := by omega
      simp [tagged, ptL, this]
theorem so_nbRd {W W' : World} {base g cap : Nat} {l : List Nb} {d' : Array El} (h : NbAt W base (.slice (some ⟨g, 0, none⟩) l.length cap) l) (hs : SoW (ptL l) W g d' W') (hp : PermIn 0 l.length (tagged (l.map (·.1))).toArray d') (ho : SoIn 0 l.length d') : NbRd W' g (nbT l) := by
  have e := so_list (l.map (·.1)) d' (by rw [List.length_map]; exact hp) (by rw [List.length_map]; exact ho)
  have em : l.map (·.1) = (nbM l).map (·.1) := by unfold nbM; rw [List.map_map]; rfl
  rw [em, soList_map] at e
  have es : d'.size = l.length := by
    have := congrArg List.length e
    rw [List.length_map, ← List.length_map (f := fun p : (Int × Ru) × Nat => ((p.1.1, p.1.2, ptL l p.2) : Nb))] at this
    have e2 := nbT_len l
    unfold nbT at e2
    rw [e2] at this
    simpa using this
  have hi : ∀ i (h : i < (nbT l).length), d'[i]!.1 = (nbT l)[i].1 ∧ ptL l d'[i]!.2 = (nbT l)[i].2.2 := by
    intro i hi
    have hil : i < d'.size := by rw [es, ← nbT_len]; exact hi
    have e3 : d'.toList[i]? = ((srtZ (nbM l)).map fun p => ((p.1.1, p.2) : El))[i]? := by rw [e]
    rw [List.getElem?_map] at e3
    have hz : i < (srtZ (nbM l)).length := by unfold nbT at hi; rwa [List.length_map] at hi
    have e4 : (nbT l)[i]? = some ((srtZ (nbM l))[i].1.1, (srtZ (nbM l))[i].1.2, ptL l (srtZ (nbM l))[i].2) := by
      unfold nbT
      rw [List.getElem?_map, List.getElem?_eq_getElem hz]
      rfl
    rw [List.getElem?_eq_getElem hi] at e4
    injection e4 with e4
    rw [List.getElem?_eq_getElem hz, Array.getElem?_toList, Array.getElem?_eq_getElem hil] at e3
    injection e3 with e3
    rw [e4]
    rw [getElem!_pos _ i hil, e3]
    exact ⟨rfl, rfl⟩
  refine ⟨hs.lt, fun i hi2 => ?_, fun i hi2 => ?_, fun x hx => ?_⟩
  · rw [← (hi i hi2).1]; exact hs.h.k i (by rw [es, ← nbT_len]; exact hi2)
  · rw [← (hi i hi2).2]; exact hs.h.p i (by rw [es, ← nbT_len]; exact hi2)
  · exact box_kept h.row (h.bx x (nbT_mem hx)) (by decide) hs.g
def tnC (x : Tn) : List Value := [.int .i64 x.a, .int .i64 x.s, .string x.lt]
def tnCells (l : List Tn) : List Value := l.flatMap tnC
theorem tnCells_snoc (l : List Tn) (x : Tn) : tnCells (l ++ [x]) = tnCells l ++ [.int .i64 x.a, .int .i64 x.s, .string x.lt] := by simp [tnCells, tnC]
theorem tnCells_get : ∀ (l : List Tn) (i : Nat) (h : i < l.length), (tnCells l)[i * 3]? = some (.int .i64 l[i].a) ∧ (tnCells l)[i * 3 + 1]? = some (.int .i64 l[i].s) ∧ (tnCells l)[i * 3 + 2]? = some (.string l[i].lt)
  | [], i, h => by simp at h
  | x :: r, 0, _ => by simp [tnCells, tnC]
  | x :: r, i + 1, h => by
    have := tnCells_get r i (by simpa using h)
    have e : tnCells (x :: r) = tnC x ++ tnCells r := by simp [tnCells]
    rw [e]
    have e3 : (tnC x).length = 3 := rfl
    rw [List.getElem?_append_right (by rw [e3]; omega), List.getElem?_append_right (by rw [e3]; omega), List.getElem?_append_right (by rw [e3]; omega), e3,
      show (i + 1) * 3 - 3 = i * 3 by omega, show (i + 1) * 3 + 1 - 3 = i * 3 + 1 by omega, show (i + 1) * 3 + 2 - 3 = i * 3 + 2 by omega]
    simpa using this
theorem infoTn : (Tryd.prog.info? 37).map (fun i => (i.zero, i.size, i.bytes)) = some (some (.agg #[.int .i64 0, .int .i64 0, .string ⟨#[]⟩]), 3, 32) := by kernel_rfl
theorem undTn : Tryd.prog.underlying 28 = some (.slice 37) := by kernel_rfl
/-- what turns.Make answers -/
def mkR (rules : List Ru) (nm : ByteArray) (off : Int) : Int × List Tn :=
  if (rules.any fun r => decide (r.nm = nm)) = false then (6, []) else if 1500 < yearsOf rules nm then (2, []) else
  match outF off 0 none (srt (nomsOf dayN rules nm)) with
  | none => (5, [])
  | some l => (0, l)
def MakePost (rules : List Ru) (nm : ByteArray) (off : Int) (w : World) (e : Ending) (w' : World) : Prop :=
  ∃ vo, e = .returned (.tuple #[vo, .int .i64 (mkR rules nm off).1]) ∧ w'.ownsRow w.heap.size 37 3 vo (mkR rules nm off).2.length (tnCells (mkR rules nm off).2) ∧ Below w.heap.size w w'
theorem MakePost.bad {rules : List Ru} {nm : ByteArray} {off : Int} {w w' : World} {c : Int} (h : mkR rules nm off = (c, [])) (hb : Below w.heap.size w w') : MakePost rules nm off w (.returned (.tuple #[.slice none 0 0, .int .i64 c])) w' := by
  refine ⟨_, by rw [h], by rw [h]; exact World.ownsRow_nil _ _ _ _, hb⟩
theorem MakePost.ok {rules : List Ru} {nm : ByteArray} {off : Int} {w w' : World} {l : List Tn} {vo : Value} (h : mkR rules nm off = (0, l)) (hr : w'.ownsRow w.heap.size 37 3 vo l.length (tnCells l)) (hb : Below w.heap.size w w') : MakePost rules nm off w (.returned (.tuple #[vo, .int .i64 0])) w' := by
  refine ⟨vo, by rw [h], by rw [h]; exact hr, hb⟩
theorem mkR_6 {rules : List Ru} {nm : ByteArray} {off : Int} (h : (rules.any fun r => decide (r.nm = nm)) = false) : mkR rules nm off = (6, []) := by unfold mkR; rw [if_pos h]
theorem mkR_2 {rules : List Ru} {nm : ByteArray} {off : Int} (h : (rules.any fun r => decide (r.nm = nm)) = true) (hy : 1500 < yearsOf rules nm) : mkR rules nm off = (2, []) := by unfold mkR; rw [if_neg (by rw [h]; simp), if_pos hy]
theorem mkR_5 {rules : List Ru} {nm : ByteArray} {off : Int} (h : (rules.any fun r => decide (r.nm = nm)) = true) (hy : ¬ 1500 < yearsOf rules nm) (ho : outF off 0 none (srt (nomsOf dayN rules nm)) = none) : mkR rules nm off = (5, []) := by unfold mkR; rw [if_neg (by rw [h]; simp), if_neg hy, ho]
theorem mkR_0 {rules : List Ru} {nm : ByteArray} {off : Int} {l : List Tn} (h : (rules.any fun r => decide (r.nm = nm)) = true) (hy : ¬ 1500 < yearsOf rules nm) (ho : outF off 0 none (srt (nomsOf dayN rules nm)) = some l) : mkR rules nm off = (0, l) := by unfold mkR; rw [if_neg (by rw [h]; simp), if_neg hy, ho]
theorem yearsOf_pos (nm : ByteArray) (rules : List Ru) (ho : ∀ r ∈ rules, OkRu r) (h : (rules.any fun r => decide (r.nm = nm)) = true) : 1 ≤ yearsOf rules nm := by
  induction rules with
  | nil => simp at h
  | cons x r ih =>
    have hx := ho x (List.mem_cons_self ..)
    have h0 := (yearsOf_bd nm r fun y hy => by have o := ho y (List.mem_cons_of_mem _ hy); exact ⟨o.f1, o.t1, o.t2⟩).1
    have t1 := hx.t1
    unfold yearsOf at *
    by_cases hn : x.nm = nm
    · rw [List.filter_cons_of_pos (by simpa using hn)]
      simp only [List.map_cons, List.sum_cons]
      omega
    · rw [List.filter_cons_of_neg (by simpa using hn)]
      exact ih (fun y hy => ho y (List.mem_cons_of_mem _ hy)) (by simpa [hn] using h)
/-- the last loop: what is still to come, and what there is -/
def OutR (off : Int) (S : List (Int × Ru)) (k : Nat) (save : Int) (out : List Tn) : Prop :=
  out.length = k ∧ outF off 0 none S = (outF off save (out.getLast?.map (·.a)) (S.drop k)).map (out ++ ·)
theorem OutR.zero (off : Int) (S : List (Int × Ru)) : OutR off S 0 0 [] := by
  refine ⟨rfl, ?_⟩
  show outF off 0 none S = (outF off 0 none S).map ([] ++ ·)
  cases outF off 0 none S <;> rfl
theorem OutR.done {off : Int} {S : List (Int × Ru)} {k : Nat} {save : Int} {out : List Tn} (h : OutR off S k save out) (hk : S.length ≤ k) : outF off 0 none S = some out := by
  rw [h.2, List.drop_eq_nil_of_le hk]
  show some (out ++ []) = _
  rw [List.append_nil]
theorem outF_cons (off save : Int) (last : Option Int) (x : Int × Ru) (r : List (Int × Ru)) : outF off save last (x :: r) = if (match last with | none => false | some m => decide (clkT off save x ≤ m)) = true then none else (outF off x.2.sv (some (clkT off save x)) r).map fun l => ⟨clkT off save x, x.2.sv, x.2.lt⟩ :: l := by
  cases last <;> rfl
theorem OutR.bad {off : Int} {S : List (Int × Ru)} {k : Nat} {save : Int} {out : List Tn} (h : OutR off S k save out) (hk : k < S.length) (h0 : 0 < k) (m : Tn) (hm : out[k - 1]? = some m) (hb : clkT off save S[k] ≤ m.a) : outF off 0 none S = none := by
  rw [h.2, List.drop_eq_getElem_cons hk]
  have e : out.getLast? = some m := by rw [List.getLast?_eq_getElem?, h.1]; exact hm
  rw [e]
  unfold outF
  simp [hb]
theorem OutR.more {off : Int} {S : List (Int × Ru)} {k : Nat} {save : Int} {out : List Tn} (h : OutR off S k save out) (hk : k < S.length) (hb : ∀ m, 0 < k → out[k - 1]? = some m → m.a < clkT off save S[k]) : OutR off S (k + 1) S[k].2.sv (out ++ [⟨clkT off save S[k], S[k].2.sv, S[k].2.lt⟩]) := by
  refine ⟨by rw [List.length_append, h.1]; rfl, ?_⟩
  rw [h.2, List.drop_eq_getElem_cons hk, List.getLast?_append]
  have hno : (match out.getLast?.map (·.a) with | none => false | some m => decide (clkT off save S[k] ≤ m)) = false := by
    by_cases h0 : 0 < k
    · have hl : k - 1 < out.length := by rw [h.1]; omega
      have hm : out[k - 1]? = some out[k - 1] := List.getElem?_eq_getElem hl
      have e : out.getLast? = some out[k - 1] := by rw [List.getLast?_eq_getElem?, show out.length - 1 = k - 1 by rw [h.1]]; exact hm
      rw [e]
      have := hb _ h0 hm
      simp
      omega
    · have : out = [] := List.eq_nil_of_length_eq_zero (by rw [h.1]; omega)
      subst this
      rfl
  have e1 : outF off save (out.getLast?.map (·.a)) (S[k] :: S.drop (k + 1)) = (outF off S[k].2.sv (some (clkT off save S[k])) (S.drop (k + 1))).map fun l => ⟨clkT off save S[k], S[k].2.sv, S[k].2.lt⟩ :: l := by
    rw [outF_cons, hno]
    simp
  rw [e1, Option.map_map]
  show _ = (outF off S[k].2.sv (some (clkT off save S[k])) (S.drop (k + 1))).map _
  congr 1
  funext l
  simp
theorem nomsOf_bd {rules : List Ru} (ho : ∀ r ∈ rules, OkRu r) (nm : ByteArray) : ∀ x ∈ nomsOf dayN rules nm, OkRu x.2 ∧ -3000000000 ≤ x.1 ∧ x.1 ≤ 5000000000 := by
  intro x hx
  unfold nomsOf at hx
  obtain ⟨r, hr, hx⟩ := List.mem_flatMap.1 hx
  have o := ho r (List.mem_filter.1 hr).1
  unfold nomOf at hx
  obtain ⟨i, hi, rfl⟩ := List.mem_map.1 hx
  have hi := List.mem_range.1 hi
  have hb := dayN_bd o (y := r.yf + (i : Int)) (by omega) (by omega)
  have a1 := o.a1
  have a2 := o.a2
  refine ⟨o, ?_, ?_⟩
  · show _ ≤ 86400 * _ + r.tm; omega
  · show 86400 * _ + r.tm ≤ _; omega
end Go.Proofs.YtlgdilpmdoofiaaDoor
