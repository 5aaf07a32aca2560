/- Part of the proof. -/
import Derived.Test.YtomahddiclkepaaGreatDoorQw00
import Derived.Test.YtomahddiclkepaaGreatDoorQw07
import Derived.Test.YtomahddiclkepaaGreatDoorQw05
import Derived.Laws.StructEq
import Derived.Maps.Own
import Derived.Maps.OwnOps
import Derived.Maps.OwnSet
import Derived.Maps.Views
import Derived.StringKeys
import Derived.StillTailTactics
import Derived.Carry
import Derived.Deep.AppendLies
import Derived.Laws.AppendOwn
import Derived.Laws.OwnMore
import Derived.Lib.SliceRun
import Derived.WalkKit
import Derived.Test.YtomahddiclkepaaGreatDoorQw01
set_option maxHeartbeats 20000000
set_option maxRecDepth 1000000
set_option linter.unusedVariables false
set_option linter.unusedSimpArgs false
namespace Go.Proofs.YtomahddiclkepaaGreatDoor
open Go.RowKit Go.Joins Go.Sort
open Classical
abbrev nle (x y : Int × Ru) : Bool := decide (x.1 <= y.1)
def srt (m : List (Int × Ru)) : List (Int × Ru) := m.mergeSort nle
def srtZ (m : List (Int × Ru)) : List ((Int × Ru) × Nat) := m.zipIdx.mergeSort (List.zipIdxLE nle)
theorem srtZ_fst (m : List (Int × Ru)) : (srtZ m).map (·.1) = srt m := List.mergeSort_zipIdx
theorem soList_map (m : List (Int × Ru)) : soList (m.map (·.1)) = (srtZ m).map fun p => (p.1.1, p.2) := by
 unfold soList tagged srtZ
 rw [List.zipIdx_map, List.map_mergeSort]
 ·rfl
 ·intro a _ b _
  show (if decide (a.1.1 <= b.1.1) then (if decide (b.1.1 <= a.1.1) then decide (a.2 <= b.2) else true) else false) = !elL (b.1.1, b.2) (a.1.1, a.2)
  unfold elL
  by_cases h1 : a.1.1 <= b.1.1
  ·by_cases h2 : b.1.1 <= a.1.1
   ·have e : a.1.1 = b.1.1 := by omega
    by_cases h3 : a.2 <= b.2
    ·simp [e, h3]
    ·simp [e, h3]; omega
   ·simp [h1, h2]; omega
  ·simp [h1]
def ptL (l : List Nb) (t : Nat) : Nat := (l[t]?.map (·.2.2)).getD 0
def nbM (l : List Nb) : List (Int × Ru) := l.map fun x => (x.1, x.2.1)
def nbT (l : List Nb) : List Nb := (srtZ (nbM l)).map fun p => (p.1.1, p.1.2, ptL l p.2)
theorem nbT_M (l : List Nb) : nbM (nbT l) = srt (nbM l) := by
 rw [<- srtZ_fst]
 unfold nbT nbM
 rw [List.map_map]
 rfl
theorem nbT_len (l : List Nb) : (nbT l).length = l.length := by
 have e := congrArg List.length (nbT_M l)
 unfold srt at e
 rw [List.length_mergeSort] at e
 unfold nbM at e
 simpa using e
theorem srtZ_mem {m : List (Int × Ru)} {p : (Int × Ru) × Nat} (h : p ∈ srtZ m) : m[p.2]? = some p.1 := by
 have := (List.mem_mergeSort.1 h)
 exact List.mem_zipIdx_iff_getElem?.1 this
theorem nbT_mem {l : List Nb} {x : Nb} (h : x ∈ nbT l) : x ∈ l := by
 obtain ⟨p, hp, rfl⟩ := List.mem_map.1 h
 have e := srtZ_mem hp
 unfold nbM at e
 rw [List.getElem?_map] at e
 unfold ptL
 cases e2 : l[p.2]? with
 | none => rw [e2] at e; cases e
 | some y =>
  rw [e2] at e
  injection e with e
  rw [<- e]
  exact List.mem_of_getElem? e2
structure NbRd (W : World) (blk : Nat) (T : List Nb) : Prop where
 lt : blk < W.heap.size
 k : ∀ i (h : i < T.length), W.cell? ⟨blk, i * 2, none⟩ = some (.int .i64 T[i].1)
 p : ∀ i (h : i < T.length), W.cell? ⟨blk, i * 2 + 1, none⟩ = some (.pointer (some ⟨T[i].2.2, 0, none⟩))
 bx : ∀ x ∈ T, RuBx W x.2.2 x.2.1
theorem NbRd.below {W W' : World} {blk : Nat} {T : List Nb} (h : NbRd W blk T) (hb : Below W.heap.size W W') : NbRd W' blk T :=
 ⟨Nat.lt_of_lt_of_le h.lt hb.size, fun i hi => (hb.cell (p := ⟨blk, i * 2, none⟩) h.lt).trans (h.k i hi), fun i hi => (hb.cell (p := ⟨blk, i * 2 + 1, none⟩) h.lt).trans (h.p i hi), fun x hx => (h.bx x hx).below hb⟩
theorem nbCells_get : ∀ (l : List Nb) (i : Nat) (h : i < l.length), (nbCells l)[i * 2]? = some (.int .i64 l[i].1) /\ (nbCells l)[i * 2 + 1]? = some (.pointer (some ⟨l[i].2.2, 0, none⟩))
 | [], i, h => by simp at h
 | x :: r, 0, _ => by simp [nbCells]
 | x :: r, i + 1, h => by
  have := nbCells_get r i (by simpa using h)
  have e : nbCells (x :: r) = [.int .i64 x.1, .pointer (some ⟨x.2.2, 0, none⟩)] ++ nbCells r := by simp [nbCells]
  rw [e]
  rw [List.getElem?_append_right (by simp; omega), List.getElem?_append_right (by simp; omega)]
  rw [show (i + 1) * 2 - [Value.int .i64 x.1, .pointer (some ⟨x.2.2, 0, none⟩)].length = i * 2 by simp; omega, show (i + 1) * 2 + 1 - [Value.int .i64 x.1, .pointer (some ⟨x.2.2, 0, none⟩)].length = i * 2 + 1 by simp; omega]
  simpa using this
theorem nbAt_so {W : World} {base g cap : Nat} {l : List Nb} (h : NbAt W base (.slice (some ⟨g, 0, none⟩) l.length cap) l) : SoW (ptL l) W g (tagged (l.map (·.1))).toArray W := by
 obtain ⟨h1, h2⟩ := h.row
 rcases h2 with ⟨h2, _⟩ | ⟨g', cap', cur, e2, hb, hg, hnc, hcm, hcs, htake⟩
 ·cases h2
 ·simp only [Value.slice.injEq, Option.some.injEq, Addr.mk.injEq, and_true, true_and] at e2
  obtain ⟨rfl, rfl⟩ := e2
  have hc : ∀ i u, (nbCells l)[i]? = some u -> W.cell? ⟨g, i, none⟩ = some u := by
   intro i u hu
   rw [cell_of_row W g i cur _ (0, 0) hg]
   rw [<- htake, List.getElem?_take] at hu
   split at hu
   ·simpa using hu
   ·cases hu
  have es : (tagged (l.map (·.1))).toArray.size = l.length := by simp [tagged]
  refine ⟨World.grownBy.refl _ _, ⟨fun i hi => ?_, fun i hi => ?_, fun i hi => by simp [World.frozen?, hg]⟩, (Array.getElem?_eq_some_iff.1 hg).1⟩
  ·rw [hc _ _ (nbCells_get l i (by omega)).1, getElem!_pos _ i hi]
   simp [tagged]
  ·rw [hc _ _ (nbCells_get l i (by omega)).2, getElem!_pos _ i hi]
   have : i < l.length := by omega
   simp [tagged, ptL, this]
theorem so_nbRd {W W' : World} {base g cap : Nat} {l : List Nb} {d' : Array El} (h : NbAt W base (.slice (some ⟨g, 0, none⟩) l.length cap) l) (hs : SoW (ptL l) W g d' W') (hp : PermIn 0 l.length (tagged (l.map (·.1))).toArray d') (ho : SoIn 0 l.length d') : NbRd W' g (nbT l) := by
 have e := so_list (l.map (·.1)) d' (by rw [List.length_map]; exact hp) (by rw [List.length_map]; exact ho)
 have em : l.map (·.1) = (nbM l).map (·.1) := by unfold nbM; rw [List.map_map]; rfl
 rw [em, soList_map] at e
 have es : d'.size = l.length := by
  have := congrArg List.length e
  rw [List.length_map, <- List.length_map (f := fun p : (Int × Ru) × Nat => ((p.1.1, p.1.2, ptL l p.2) : Nb))] at this
  have e2 := nbT_len l
  unfold nbT at e2
  rw [e2] at this
  simpa using this
 have hi : ∀ i (h : i < (nbT l).length), d'[i]!.1 = (nbT l)[i].1 /\ ptL l d'[i]!.2 = (nbT l)[i].2.2 := by
  intro i hi
  have hil : i < d'.size := by rw [es, <- nbT_len]; exact hi
  have e3 : d'.toList[i]? = ((srtZ (nbM l)).map fun p => ((p.1.1, p.2) : El))[i]? := by rw [e]
  rw [List.getElem?_map] at e3
  have hz : i < (srtZ (nbM l)).length := by unfold nbT at hi; rwa [List.length_map] at hi
  have e4 : (nbT l)[i]? = some ((srtZ (nbM l))[i].1.1, (srtZ (nbM l))[i].1.2, ptL l (srtZ (nbM l))[i].2) := by
   unfold nbT
   rw [List.getElem?_map, List.getElem?_eq_getElem hz]
   rfl
  rw [List.getElem?_eq_getElem hi] at e4
  injection e4 with e4
  rw [List.getElem?_eq_getElem hz, Array.getElem?_toList, Array.getElem?_eq_getElem hil] at e3
  injection e3 with e3
  rw [e4]
  rw [getElem!_pos _ i hil, e3]
  exact ⟨rfl, rfl⟩
 refine ⟨hs.lt, fun i hi2 => ?_, fun i hi2 => ?_, fun x hx => ?_⟩
 ·rw [<- (hi i hi2).1]; exact hs.h.k i (by rw [es, <- nbT_len]; exact hi2)
 ·rw [<- (hi i hi2).2]; exact hs.h.p i (by rw [es, <- nbT_len]; exact hi2)
 ·exact box_kept h.row (h.bx x (nbT_mem hx)) (by decide) hs.g
def tnC (x : Tn) : List Value := [.int .i64 x.a, .int .i64 x.s, .string x.lt]
def tnCells (l : List Tn) : List Value := l.flatMap tnC
theorem tnCells_snoc (l : List Tn) (x : Tn) : tnCells (l ++ [x]) = tnCells l ++ [.int .i64 x.a, .int .i64 x.s, .string x.lt] := by simp [tnCells, tnC]
theorem tnCells_get : ∀ (l : List Tn) (i : Nat) (h : i < l.length), (tnCells l)[i * 3]? = some (.int .i64 l[i].a) /\ (tnCells l)[i * 3 + 1]? = some (.int .i64 l[i].s) /\ (tnCells l)[i * 3 + 2]? = some (.string l[i].lt)
 | [], i, h => by simp at h
 | x :: r, 0, _ => by simp [tnCells, tnC]
 | x :: r, i + 1, h => by
  have := tnCells_get r i (by simpa using h)
  have e : tnCells (x :: r) = tnC x ++ tnCells r := by simp [tnCells]
  rw [e]
  have e3 : (tnC x).length = 3 := rfl
  rw [List.getElem?_append_right (by rw [e3]; omega), List.getElem?_append_right (by rw [e3]; omega), List.getElem?_append_right (by rw [e3]; omega), e3,
   show (i + 1) * 3 - 3 = i * 3 by omega, show (i + 1) * 3 + 1 - 3 = i * 3 + 1 by omega, show (i + 1) * 3 + 2 - 3 = i * 3 + 2 by omega]
  simpa using this
theorem infoTn : (Tryz.prog.info? 49).map (fun i => (i.zero, i.size, i.bytes)) = some (some (.agg #[.int .i64 0, .int .i64 0, .string ⟨#[]⟩]), 3, 32) := by kernel_rfl
theorem undTn : Tryz.prog.underlying 37 = some (.slice 49) := by kernel_rfl
def mkR (rules : List Ru) (nm : ByteArray) (off : Int) : Int × List Tn :=
 if (rules.any fun r => decide (r.nm = nm)) = false then (6, []) else if 1500 < yearsOf rules nm then (2, []) else
 match outF off 0 none (srt (nomsOf dayN rules nm)) with
 | none => (5, [])
 | some l => (0, l)
def MakePost (rules : List Ru) (nm : ByteArray) (off : Int) (w : World) (e : Ending) (w' : World) : Prop :=
 ∃ vo, e = .returned (.tuple #[vo, .int .i64 (mkR rules nm off).1]) /\ w'.ownsRow w.heap.size 49 3 vo (mkR rules nm off).2.length (tnCells (mkR rules nm off).2) /\ Below w.heap.size w w'
theorem MakePost.bad {rules : List Ru} {nm : ByteArray} {off : Int} {w w' : World} {c : Int} (h : mkR rules nm off = (c, [])) (hb : Below w.heap.size w w') : MakePost rules nm off w (.returned (.tuple #[.slice none 0 0, .int .i64 c])) w' := by
 refine ⟨_, by rw [h], by rw [h]; exact World.ownsRow_nil _ _ _ _, hb⟩
theorem MakePost.ok {rules : List Ru} {nm : ByteArray} {off : Int} {w w' : World} {l : List Tn} {vo : Value} (h : mkR rules nm off = (0, l)) (hr : w'.ownsRow w.heap.size 49 3 vo l.length (tnCells l)) (hb : Below w.heap.size w w') : MakePost rules nm off w (.returned (.tuple #[vo, .int .i64 0])) w' := by
 refine ⟨vo, by rw [h], by rw [h]; exact hr, hb⟩
theorem mkR_6 {rules : List Ru} {nm : ByteArray} {off : Int} (h : (rules.any fun r => decide (r.nm = nm)) = false) : mkR rules nm off = (6, []) := by unfold mkR; rw [if_pos h]
theorem mkR_2 {rules : List Ru} {nm : ByteArray} {off : Int} (h : (rules.any fun r => decide (r.nm = nm)) = true) (hy : 1500 < yearsOf rules nm) : mkR rules nm off = (2, []) := by unfold mkR; rw [if_neg (by rw [h]; simp), if_pos hy]
theorem mkR_5 {rules : List Ru} {nm : ByteArray} {off : Int} (h : (rules.any fun r => decide (r.nm = nm)) = true) (hy : ¬ 1500 < yearsOf rules nm) (ho : outF off 0 none (srt (nomsOf dayN rules nm)) = none) : mkR rules nm off = (5, []) := by unfold mkR; rw [if_neg (by rw [h]; simp), if_neg hy, ho]
theorem mkR_0 {rules : List Ru} {nm : ByteArray} {off : Int} {l : List Tn} (h : (rules.any fun r => decide (r.nm = nm)) = true) (hy : ¬ 1500 < yearsOf rules nm) (ho : outF off 0 none (srt (nomsOf dayN rules nm)) = some l) : mkR rules nm off = (0, l) := by unfold mkR; rw [if_neg (by rw [h]; simp), if_neg hy, ho]
theorem yearsOf_pos (nm : ByteArray) (rules : List Ru) (ho : ∀ r ∈ rules, OkRu r) (h : (rules.any fun r => decide (r.nm = nm)) = true) : 1 <= yearsOf rules nm := by
 induction rules with
 | nil => simp at h
 | cons x r ih =>
  have hx := ho x (List.mem_cons_self ..)
  have h0 := (yearsOf_bd nm r fun y hy => by have o := ho y (List.mem_cons_of_mem _ hy); exact ⟨o.f1, o.t1, o.t2⟩).1
  have t1 := hx.t1
  unfold yearsOf at *
  by_cases hn : x.nm = nm
  ·rw [List.filter_cons_of_pos (by simpa using hn)]
   simp only [List.map_cons, List.sum_cons]
   omega
  ·rw [List.filter_cons_of_neg (by simpa using hn)]
   exact ih (fun y hy => ho y (List.mem_cons_of_mem _ hy)) (by simpa [hn] using h)
def OutR (off : Int) (S : List (Int × Ru)) (k : Nat) (save : Int) (out : List Tn) : Prop :=
 out.length = k /\ outF off 0 none S = (outF off save (out.getLast?.map (·.a)) (S.drop k)).map (out ++ ·)
theorem OutR.zero (off : Int) (S : List (Int × Ru)) : OutR off S 0 0 [] := by
 refine ⟨rfl, ?_⟩
 show outF off 0 none S = (outF off 0 none S).map ([] ++ ·)
 cases outF off 0 none S <;> rfl
theorem OutR.done {off : Int} {S : List (Int × Ru)} {k : Nat} {save : Int} {out : List Tn} (h : OutR off S k save out) (hk : S.length <= k) : outF off 0 none S = some out := by
 rw [h.2, List.drop_eq_nil_of_le hk]
 show some (out ++ []) = _
 rw [List.append_nil]
theorem outF_cons (off save : Int) (last : Option Int) (x : Int × Ru) (r : List (Int × Ru)) : outF off save last (x :: r) = if (match last with | none => false | some m => decide (clkT off save x <= m)) = true then none else (outF off x.2.sv (some (clkT off save x)) r).map fun l => ⟨clkT off save x, x.2.sv, x.2.lt⟩ :: l := by
 cases last <;> rfl
theorem OutR.bad {off : Int} {S : List (Int × Ru)} {k : Nat} {save : Int} {out : List Tn} (h : OutR off S k save out) (hk : k < S.length) (h0 : 0 < k) (m : Tn) (hm : out[k - 1]? = some m) (hb : clkT off save S[k] <= m.a) : outF off 0 none S = none := by
 rw [h.2, List.drop_eq_getElem_cons hk]
 have e : out.getLast? = some m := by rw [List.getLast?_eq_getElem?, h.1]; exact hm
 rw [e]
 unfold outF
 simp [hb]
theorem OutR.more {off : Int} {S : List (Int × Ru)} {k : Nat} {save : Int} {out : List Tn} (h : OutR off S k save out) (hk : k < S.length) (hb : ∀ m, 0 < k -> out[k - 1]? = some m -> m.a < clkT off save S[k]) : OutR off S (k + 1) S[k].2.sv (out ++ [⟨clkT off save S[k], S[k].2.sv, S[k].2.lt⟩]) := by
 refine ⟨by rw [List.length_append, h.1]; rfl, ?_⟩
 rw [h.2, List.drop_eq_getElem_cons hk, List.getLast?_append]
 have hno : (match out.getLast?.map (·.a) with | none => false | some m => decide (clkT off save S[k] <= m)) = false := by
  by_cases h0 : 0 < k
  ·have hl : k - 1 < out.length := by rw [h.1]; omega
   have hm : out[k - 1]? = some out[k - 1] := List.getElem?_eq_getElem hl
   have e : out.getLast? = some out[k - 1] := by rw [List.getLast?_eq_getElem?, show out.length - 1 = k - 1 by rw [h.1]]; exact hm
   rw [e]
   have := hb _ h0 hm
   simp
   omega
  ·have : out = [] := List.eq_nil_of_length_eq_zero (by rw [h.1]; omega)
   subst this
   rfl
 have e1 : outF off save (out.getLast?.map (·.a)) (S[k] :: S.drop (k + 1)) = (outF off S[k].2.sv (some (clkT off save S[k])) (S.drop (k + 1))).map fun l => ⟨clkT off save S[k], S[k].2.sv, S[k].2.lt⟩ :: l := by
  rw [outF_cons, hno]
  simp
 rw [e1, Option.map_map]
 show _ = (outF off S[k].2.sv (some (clkT off save S[k])) (S.drop (k + 1))).map _
 congr 1
 funext l
 simp
theorem nomsOf_bd {rules : List Ru} (ho : ∀ r ∈ rules, OkRu r) (nm : ByteArray) : ∀ x ∈ nomsOf dayN rules nm, OkRu x.2 /\ -3000000000 <= x.1 /\ x.1 <= 5000000000 := by
 intro x hx
 unfold nomsOf at hx
 obtain ⟨r, hr, hx⟩ := List.mem_flatMap.1 hx
 have o := ho r (List.mem_filter.1 hr).1
 unfold nomOf at hx
 obtain ⟨i, hi, rfl⟩ := List.mem_map.1 hx
 have hi := List.mem_range.1 hi
 have hb := dayN_bd o (y := r.yf + (i : Int)) (by omega) (by omega)
 have a1 := o.a1
 have a2 := o.a2
 refine ⟨o, ?_, ?_⟩
 ·show _ <= 86400 * _ + r.tm; omega
 ·show 86400 * _ + r.tm <= _; omega
end Go.Proofs.YtomahddiclkepaaGreatDoor
namespace Go.Proofs.YtomahddiclkepaaGreatDoor
open Go.RowKit Go.Joins
open Classical
def MakeSays : Prop := ∀ (rules : List Ru) (nm : ByteArray) (off : Int) (rv : Value) (w : World) (hR : RowsAt (fun r : Ru => (ruCells r).toList) 11 w.heap.size w rv rules) (ho : ∀ r ∈ rules, OkRu r) (hl : rules.length <= 40) (hf1 : -75600 <= off) (hf2 : off <= 75600),
 Calls Tryz.prog 41 #[rv, .string nm, .int .i64 off] w (MakePost rules nm off w)
theorem bk_rules {b : Bk} (h : bkChk b = 0) : b.rules.length <= 40 /\ ∀ r ∈ b.rules, OkRu r := by
 unfold bkChk at h
 split at h
 ·cases h
 ·rename_i h1
  split at h
  ·exact absurd h (by assumption)
  ·rename_i h2
   refine ⟨by omega, fun r hr => ru_ok ?_⟩
   exact (firstE_zero ruChk b.rules).1 (Classical.not_not.1 h2) r hr
theorem own_rowsT {W : World} {B : Nat} {v : Value} {l : List Tn} (h : W.ownsRow B 49 3 v l.length (tnCells l)) (hl : l.length <= 100000) : RowsAt tnC 3 W.heap.size W v l := by
 rcases h.2 with ⟨rfl, h0⟩ | ⟨g, cap, cur, rfl, hb, hg, hnc, hcm, hcs, htake⟩
 ·have : l = [] := List.eq_nil_of_length_eq_zero h0
  subst this
  exact ⟨none, 0, rfl, ⟨by simp, by simp⟩, fun h => absurd rfl h⟩
 ·have hc : ∀ i u, (tnCells l)[i]? = some u -> W.cell? ⟨g, i, none⟩ = some u := by
   intro i u hu
   rw [cell_of_row W g i cur _ (0, 0) hg]
   rw [<- htake, List.getElem?_take] at hu
   split at hu
   ·simpa using hu
   ·cases hu
  refine ⟨_, cap, rfl, ⟨by omega, hnc⟩, fun _ => ⟨g, 0, rfl, (Array.getElem?_eq_some_iff.1 hg).1, fun i hi j u hu => ?_⟩⟩
  obtain ⟨k1, k2, k3⟩ := tnCells_get l i hi
  rw [Nat.zero_add]
  match j, hu with
  | 0, hu => injection hu with hu; subst hu; exact hc _ _ k1
  | 1, hu => injection hu with hu; subst hu; exact hc _ _ k2
  | 2, hu => injection hu with hu; subst hu; exact hc _ _ k3
def lastB (off save : Int) (x : Int × Ru) (last : Option Int) : Bool := match last with | none => false | some m => decide (clkT off save x <= m)
theorem outF_some {off save : Int} {last : Option Int} {x : Int × Ru} {r : List (Int × Ru)} {l : List Tn} (h : outF off save last (x :: r) = some l) : lastB off save x last = false /\ ∃ t, outF off x.2.sv (some (clkT off save x)) r = some t /\ l = ⟨clkT off save x, x.2.sv, x.2.lt⟩ :: t := by
 have e : outF off save last (x :: r) = if lastB off save x last = true then none else (outF off x.2.sv (some (clkT off save x)) r).map fun l => ⟨clkT off save x, x.2.sv, x.2.lt⟩ :: l := outF_cons ..
 rw [e] at h
 by_cases hb : lastB off save x last = true
 ·rw [if_pos hb] at h; cases h
 ·rw [if_neg hb] at h
  cases e2 : outF off x.2.sv (some (clkT off save x)) r with
  | none => rw [e2] at h; cases h
  | some t =>
   rw [e2] at h
   simp only [Option.map_some, Option.some.injEq] at h
   exact ⟨by simpa using hb, t, rfl, h.symm⟩
theorem outF_len (off : Int) : ∀ (S : List (Int × Ru)) (save : Int) (last : Option Int) (l : List Tn), outF off save last S = some l -> l.length = S.length := by
 intro S
 induction S with
 | nil => intro save last l h; unfold outF at h; injection h with h; subst h; rfl
 | cons x r ih =>
  intro save last l h
  obtain ⟨-, t, e, rfl⟩ := outF_some h
  simp [ih _ _ _ e]
theorem outF_rise (off : Int) : ∀ (S : List (Int × Ru)) (save : Int) (last : Option Int) (l : List Tn), outF off save last S = some l -> (∀ m, last = some m -> ∀ h : 0 < l.length, m < l[0].a) /\ ∀ i (h : i + 1 < l.length), l[i].a < l[i + 1].a := by
 intro S
 induction S with
 | nil =>
  intro save last l h
  unfold outF at h
  injection h with h
  subst h
  exact ⟨fun m _ h => absurd h (by simp), fun i h => absurd h (by simp)⟩
 | cons x r ih =>
  intro save last l h
  obtain ⟨hno, t, e, rfl⟩ := outF_some h
  obtain ⟨h1, h2⟩ := ih _ _ _ e
  refine ⟨fun m hm _ => ?_, fun i hi => ?_⟩
  ·subst hm
   simp [lastB] at hno
   simpa using hno
  ·cases i with
   | zero => exact h1 _ rfl (by simpa using hi)
   | succ i => exact h2 i (by simpa using hi)
theorem srt_len (m : List (Int × Ru)) : (srt m).length = m.length := List.length_mergeSort ..
theorem mkR_len {rules : List Ru} (ho : ∀ r ∈ rules, OkRu r) (nm : ByteArray) (off : Int) : (mkR rules nm off).2.length <= 1500 /\ ((mkR rules nm off).1 = 0 -> ((mkR rules nm off).2.length : Int) = yearsOf rules nm) /\ ((mkR rules nm off).1 ≠ 0 -> (mkR rules nm off).2 = []) := by
 unfold mkR
 split
 ·exact ⟨by simp, (fun h => by cases h), fun _ => rfl⟩
 ·split
  ·exact ⟨by simp, (fun h => by cases h), fun _ => rfl⟩
  ·rename_i hy
   cases e : outF off 0 none (srt (nomsOf dayN rules nm)) with
   | none => exact ⟨by simp, (fun h => by cases h), fun _ => rfl⟩
   | some l =>
    have h1 := outF_len _ _ _ _ _ e
    rw [srt_len] at h1
    have h2 := nomsOf_len dayN nm rules fun r hr => (ho r hr).t1
    have h3 := (yearsOf_bd nm rules fun r hr => by have o := ho r hr; exact ⟨o.f1, o.t1, o.t2⟩).1
    exact ⟨by show l.length <= 1500; omega, fun _ => by show (l.length : Int) = _; omega, fun h => absurd rfl h⟩
theorem mkR_ok {rules : List Ru} {nm : ByteArray} {off : Int} (h : (mkR rules nm off).1 = 0) : outF off 0 none (srt (nomsOf dayN rules nm)) = some (mkR rules nm off).2 := by
 unfold mkR at h ⊢
 by_cases h1 : (rules.any fun r => decide (r.nm = nm)) = false
 ·rw [if_pos h1] at h; cases h
 ·rw [if_neg h1] at h ⊢
  by_cases h2 : 1500 < yearsOf rules nm
  ·rw [if_pos h2] at h; cases h
  ·rw [if_neg h2] at h ⊢
   cases e : outF off 0 none (srt (nomsOf dayN rules nm)) with
   | none => rw [e] at h; cases h
   | some l => rfl
def Rises (l : List Tn) : Prop := ∀ i (h : i + 1 < l.length), l[i].a < l[i + 1].a
theorem flat_get {α : Type} {cells : α -> List Value} {k : Nat} (hk : ∀ x, (cells x).length = k) : ∀ (l : List α) (i : Nat) (h : i < l.length) (j : Nat), j < k -> (l.flatMap cells)[i * k + j]? = (cells l[i])[j]?
 | [], i, h, _, _ => absurd h (by simp)
 | x :: r, 0, _, j, hj => by
  rw [List.flatMap_cons, Nat.zero_mul, Nat.zero_add, List.getElem?_append_left (by rw [hk]; exact hj)]
  rfl
 | x :: r, i + 1, h, j, hj => by
  have := flat_get hk r i (by simpa using h) j hj
  rw [List.flatMap_cons, List.getElem?_append_right (by rw [hk, Nat.add_mul]; omega), hk, show (i + 1) * k + j - k = i * k + j by rw [Nat.add_mul]; omega, this]
  rfl
theorem own_rowsG {α : Type} {cells : α -> List Value} {k : Nat} (hk : ∀ x, (cells x).length = k) {W : World} {B : Nat} {T : TypeId} {v : Value} {l : List α} (h : W.ownsRow B T k v l.length (l.flatMap cells)) (hl : l.length <= 100000) : RowsAt cells k W.heap.size W v l := by
 rcases h.2 with ⟨rfl, h0⟩ | ⟨g, cap, cur, rfl, hb, hg, hnc, hcm, hcs, htake⟩
 ·have : l = [] := List.eq_nil_of_length_eq_zero h0
  subst this
  exact ⟨none, 0, rfl, ⟨by simp, by simp⟩, fun h => absurd rfl h⟩
 ·have hc : ∀ i u, (l.flatMap cells)[i]? = some u -> W.cell? ⟨g, i, none⟩ = some u := by
   intro i u hu
   rw [cell_of_row W g i cur _ (0, 0) hg]
   rw [<- htake, List.getElem?_take] at hu
   split at hu
   ·simpa using hu
   ·cases hu
  refine ⟨_, cap, rfl, ⟨by omega, hnc⟩, fun _ => ⟨g, 0, rfl, (Array.getElem?_eq_some_iff.1 hg).1, fun i hi j u hu => ?_⟩⟩
  rw [Nat.zero_add]
  have hj : j < k := by rw [<- hk l[i]]; exact (List.getElem?_eq_some_iff.1 hu).1
  exact hc _ _ ((flat_get hk l i hi j hj).trans hu)
end Go.Proofs.YtomahddiclkepaaGreatDoor
namespace Go.Proofs.YtomahddiclkepaaGreatDoor
open Go.RowKit Go.Joins Go.Maps
open Classical
theorem keyS : Keyed Tryz.prog 9 := string_keyed Tryz.underlying9
def heldV (v : Value) : Option (DataW Value × List MemPlace) := some (.held v, [])
abbrev zoV (z : Zo) : Value := .agg #[.string z.nm, z.ev]
abbrev kyS (s : ByteArray) : Lit := .string s.data.toList
def DZ (l : List Zo) : DataW Value := l.foldl (fun D z => D.put (kyS z.nm) (.held (zoV z))) (.map [])
def DL (l : List Lk) : DataW Value := l.foldl (fun D x => D.put (kyS x.nm) (.held (.string x.tg))) (.map [])
theorem DZ_snoc (l : List Zo) (z : Zo) : DZ (l ++ [z]) = (DZ l).put (kyS z.nm) (.held (zoV z)) := by unfold DZ; rw [List.foldl_append]; rfl
theorem DL_snoc (l : List Lk) (x : Lk) : DL (l ++ [x]) = (DL l).put (kyS x.nm) (.held (.string x.tg)) := by unfold DL; rw [List.foldl_append]; rfl
theorem ownsMap_keep {W W' : World} {b n : Nat} {D : DataW Value} (h : W.ownsMap Tryz.prog 9 heldV b n D) (hk : W'.heap[b]? = W.heap[b]?) : W'.ownsMap Tryz.prog 9 heldV b n D := by
 obtain ⟨es, clock, hb, r⟩ := h
 exact ⟨es, clock, hk.trans hb, r⟩
structure PlAt (B : Nat) (W : World) (pb bz bl nz nl : Nat) (zs : List Zo) (ls : List Lk) : Prop where
 bx : W.heap[pb]? = some (.cells #[.map (some bz), .map (some bl)] 229 (0, 0))
 z : W.ownsMap Tryz.prog 9 heldV bz nz (DZ zs)
 l : W.ownsMap Tryz.prog 9 heldV bl nl (DL ls)
 hp : B <= pb
 hz : B <= bz
 hl : B <= bl
theorem PlAt.below {B B' : Nat} {W W' : World} {pb bz bl nz nl : Nat} {zs : List Zo} {ls : List Lk} (h : PlAt B W pb bz bl nz nl zs ls) (hb : Below B' W W') (hB : W.heap.size <= B') : PlAt B W' pb bz bl nz nl zs ls := by
 have h1 : pb < W.heap.size := (Array.getElem?_eq_some_iff.mp h.bx).1
 exact ⟨(hb.block pb (by omega)).trans h.bx, ownsMap_keep h.z (hb.block bz (by have := h.z.lt; omega)), ownsMap_keep h.l (hb.block bl (by have := h.l.lt; omega)), h.hp, h.hz, h.hl⟩
theorem PlAt.cells {B : Nat} {W : World} {pb bz bl nz nl : Nat} {zs : List Zo} {ls : List Lk} (h : PlAt B W pb bz bl nz nl zs ls) : W.cell? ⟨pb, 0, none⟩ = some (.map (some bz)) /\ W.cell? ⟨pb, 1, none⟩ = some (.map (some bl)) /\ pb < W.heap.size :=
 ⟨(cell_of_row W _ 0 _ _ _ h.bx).trans rfl, (cell_of_row W _ 1 _ _ _ h.bx).trans rfl, (Array.getElem?_eq_some_iff.mp h.bx).1⟩
def OfPost (b : Bk) (w : World) (e : Ending) (w' : World) : Prop :=
 Below w.heap.size w w' /\ (bkChk b ≠ 0 -> e = .returned (.tuple #[.pointer none, .int .i64 (bkChk b)])) /\
 (bkChk b = 0 -> ∃ pb bz bl nz nl, e = .returned (.tuple #[.pointer (some ⟨pb, 0, none⟩), .int .i64 0]) /\ PlAt w.heap.size w' pb bz bl nz nl b.zones b.links /\ nl <= 1000 /\ nz <= 1000)
theorem BookAt.baseN {B B' : Nat} {W : World} {rv zv lv : Value} {b : Bk} (h : BookAt B W rv zv lv b) (hB : B <= B') : BookAt B' W rv zv lv b :=
 ⟨h.r.mono hB, h.z.mono hB, fun z hz => (h.e z hz).mono hB, h.l.mono hB, h.rs, h.zs, h.ls⟩
theorem take_succN {α : Type} (l : List α) (k : Nat) (h : k < l.length) : l.take (k + 1) = l.take k ++ [l[k]] := List.take_succ_eq_append_getElem h
theorem bk_len {b : Bk} (h : bkChk b = 0) : b.rules.length <= 40 /\ b.zones.length <= 20 /\ b.links.length <= 20 := by
 unfold bkChk at h
 split at h
 ·cases h
 ·omega
theorem namesOf_any (b : Bk) (rv zv lv : Value) (w : World) (hB : BookAt w.heap.size w rv zv lv b) (hm : MaxLen w) (ht : Tab10 w) :
 Calls Tryz.prog 99 #[.agg #[rv, zv, lv]] w (OfPost b w) := by
 have hr := hB.r
 have hz := hB.z
 have hl := hB.l
 obtain ⟨p1, c1, rfl, hlen1, hrow1⟩ := hr
 obtain ⟨p2, c2, rfl, hlen2, hrow2⟩ := hz
 obtain ⟨p3, c3, rfl, hlen3, hrow3⟩ := hl
 obtain ⟨W0, eW⟩ : ∃ W0, w.alloc (.cells #[.slice p1 b.rules.length c1, .slice p2 b.zones.length c2, .slice p3 b.links.length c3] 26) = W0 := ⟨_, rfl⟩
 have hb0 : Below w.heap.size w W0 := by rw [<- eW]; exact (Below.refl _ _).alloc (Nat.le_refl _) _
 have hbx : W0.heap[w.heap.size]? = some (.cells #[.slice p1 b.rules.length c1, .slice p2 b.zones.length c2, .slice p3 b.links.length c3] 26 (0, 0)) := by rw [<- eW]; exact heap_alloc_new w _
 have hl0 : w.heap.size < W0.heap.size := by rw [<- eW]; simp
 have x0 := (cell_of_row W0 _ 0 _ _ _ hbx).trans rfl
 have x1 := (cell_of_row W0 _ 1 _ _ _ hbx).trans rfl
 have x2 := (cell_of_row W0 _ 2 _ _ _ hbx).trans rfl
 have HEW := qH eW
 have HB0 := qH hb0
 have HBX := qH hbx
 have HBK := qH hB
 have HCK := qH (bkCheck_any b _ _ _ W0 ((hB.below hb0 (Nat.le_refl _)).baseN (Nat.le_of_lt hl0)) (hm.below hb0) (ht.below hb0))
 have HLN := qH (bk_len (b := b))
 have HRZ := qH hB.z
 have HRL := qH hB.l
 have HSZ := qH hB.zs
 have HSL := qH hB.ls
 have HEV := qH hB.e
 have HPOST : Hid (∀ e w', OfPost b w e w' = (Below w.heap.size w w' /\ (bkChk b ≠ 0 -> e = .returned (.tuple #[.pointer none, .int .i64 (bkChk b)])) /\ (bkChk b = 0 -> ∃ pb bz bl nz nl, e = .returned (.tuple #[.pointer (some ⟨pb, 0, none⟩), .int .i64 0]) /\ PlAt w.heap.size w' pb bz bl nz nl b.zones b.links /\ nl <= 1000 /\ nz <= 1000))) := fun e w' => rfl
 obtain ⟨C, eC⟩ : ∃ C, bkChk b = C := ⟨_, rfl⟩
 rw [eC] at HCK HLN HPOST
 clear eW hb0 hbx hB hm ht hrow1 hrow2 hrow3 eC
 go_enter Tryz.func99, Tryz.ntmps99
 go_upto_region 1 with fail
 rw [HEW.out]
 go_wp2_with fail
 refine HCK.out.mono ?_
 rintro e w1 ⟨rfl, hb1⟩
 have HB1 := qH (HB0.out.trans (hb1.mono HB0.out.size))
 have hx1 := (hb1.block w.heap.size hl0).trans HBX.out
 have HBX1 := qH hx1
 have hl1 : w.heap.size < w1.heap.size := by have := hb1.size; omega
 clear hb1 hx1 x0 x1 x2 HCK HBX
 by_cases hC : C = 0
 case neg =>
  have hz : (C == 0) = false := by simpa using hC
  have hz2 : (!C == 0) = true := by rw [hz]; rfl
  have HC := qH hC
  clear hC
  go_wp2_with fail
  go_ret2
  rw [HPOST.out]
  exact ⟨HB1.out, fun _ => rfl, fun h => absurd h HC.out⟩
 case pos =>
 subst hC
 obtain ⟨hr40, hz20, hl20⟩ := HLN.out rfl
 have hmk : ∀ (ty : TypeId) (W : World), (Instr.makeMap ty none).run Tryz.prog W = .ok (.map (some W.heap.size)) (W.alloc (.map #[] 0)) := fun ty W => run_makeMap ty W
 obtain ⟨W4, e4⟩ : ∃ W4, ((w1.alloc (.map #[] 0)).alloc (.map #[] 0)).alloc (.cells #[.map (some w1.heap.size), .map (some (w1.heap.size + 1))] 229) = W4 := ⟨_, rfl⟩
 have hP4 : PlAt w.heap.size W4 (w1.heap.size + 1 + 1) w1.heap.size (w1.heap.size + 1) 0 0 [] [] := by
  rw [<- e4]
  refine ⟨alloc_at _ _ _ (by simp), ?_, ?_, by omega, by omega, by omega⟩
  ·exact ownsMap_keep (World.ownsMap_made w1 Tryz.prog 9 heldV) (by rw [Below.heap_alloc _ _ _ (by simp; omega), Below.heap_alloc _ _ _ (by simp)])
  ·have := World.ownsMap_made (w1.alloc (.map #[] 0)) Tryz.prog 9 heldV
   rw [show (w1.alloc (.map #[] 0)).heap.size = w1.heap.size + 1 by simp] at this
   exact ownsMap_keep this (by rw [Below.heap_alloc _ _ _ (by simp)])
 have hb4 : Below w1.heap.size w1 W4 := by rw [<- e4]; exact (((Below.refl _ _).alloc (Nat.le_refl _) _).alloc (by simp) _).alloc (by simp; omega) _
 have hz4 : W4.heap.size = w1.heap.size + 3 := by rw [<- e4]; simp
 have HP4 := qH hP4
 have HB4 := qH (HB1.out.trans (hb4.mono (Nat.le_of_lt hl1)))
 have HE4 := qH e4
 have hx4 := (hb4.block w.heap.size hl1).trans HBX1.out
 have HX4 := qH hx4
 have hl4 : w.heap.size < W4.heap.size := by omega
 have y1 := (cell_of_row W4 _ 1 _ _ _ hx4).trans rfl
 obtain ⟨pz, cz, ez, -, hrw⟩ := (HRZ.out.below HB4.out (Nat.le_refl _))
 simp only [Value.slice.injEq, true_and] at ez
 obtain ⟨rfl, rfl⟩ := ez
 have HRWZ := qH hrw
 clear hP4 hb4 e4 hx4 hrw
 go_upto_region 5 with fail
 rw [HE4.out]
 obtain ⟨bz, ebz⟩ : ∃ bz, w1.heap.size = bz := ⟨_, rfl⟩
 rw [ebz] at HP4 hz4 hl1 ⊢
 have HBZ := qH ebz
 clear ebz
 go_wp2_with fail
 go_loopw [22] (fun i wr => ∃ k : Nat, k <= b.zones.length /\ i = .int .i64 k /\ Hid (PlAt w.heap.size wr (bz + 1 + 1) bz (bz + 1) k 0 (b.zones.take k) []) /\ Hid (Below bz W4 wr) /\ W4.heap.size <= wr.heap.size) (fun i _ => b.zones.length - (intOf i).toNat)
 case atStart => exact ⟨0, Nat.zero_le _, rfl, HP4, qH (Below.refl _ _), Nat.le_refl _⟩
 case round =>
  obtain ⟨k, hk, rfl, HPR, HBR, hzr⟩ := hrel
  by_cases hkl : k < b.zones.length
  ·obtain ⟨bb, o, rfl, hbl, hcs⟩ := HRWZ.out (List.ne_nil_of_length_pos (by omega))
   have hck := hcs k hkl
   have hsz := HSZ.out b.zones[k] (List.getElem_mem hkl)
   have hev := HEV.out b.zones[k] (List.getElem_mem hkl)
   have HTK : Hid (b.zones.take (k + 1) = b.zones.take k ++ [b.zones[k]]) := take_succN _ _ hkl
   obtain ⟨q, eq⟩ : ∃ q, b.zones[k] = q := ⟨_, rfl⟩
   rw [eq] at hck hsz HTK hev
   obtain ⟨nm, ev, er⟩ := q
   simp only at hev
   obtain ⟨pe, ce, rfl, -, -⟩ := hev
   have hnm := hsz.1
   have hbb : bb < bz := by omega
   have z0 := (HBR.out.cell (p := ⟨bb, o + k * 2 + 0, none⟩) hbb).trans (hck 0 _ rfl)
   have z1 := (HBR.out.cell (p := ⟨bb, o + k * 2 + 1, none⟩) hbb).trans (hck 1 _ rfl)
   simp only at hnm z0 z1
   rw [Nat.add_zero] at z0
   obtain ⟨W5, e5⟩ : ∃ W5, wr.alloc (.cells #[.string nm, .slice pe er.length ce] 46) = W5 := ⟨_, rfl⟩
   have hx5 : W5.heap[wr.heap.size]? = some (.cells #[.string nm, .slice pe er.length ce] 46 (0, 0)) := by rw [<- e5]; exact heap_alloc_new wr _
   have hb5 : Below wr.heap.size wr W5 := by rw [<- e5]; exact (Below.refl _ _).alloc (Nat.le_refl _) _
   have hz5 : W5.heap.size = wr.heap.size + 1 := by rw [<- e5]; simp
   have HP5 := qH (HPR.out.below hb5 (Nat.le_refl _))
   have HB5 : Hid (Below bz W4 W5) := HBR.out.trans (hb5.mono (by omega))
   have q0 := (cell_of_row W5 _ 0 _ _ _ hx5).trans rfl
   have q1 := (cell_of_row W5 _ 1 _ _ _ hx5).trans rfl
   obtain ⟨q2, q3, hpb⟩ := HP5.out.cells
   have HE5 := qH e5
   clear e5 hx5 eq hcs hck hsz
   go_upto_region 8 with fail
   rw [HE5.out]
   go_still_tail 7, (by kernel_rfl)
   change wpList _ _ _ _ _ W5.drew
   refine wpList_mapUpdate_own _ rfl _ _ _ 226 rfl 9 46 keyS Tryz.underlying226 heldV bz k (DZ (b.zones.take k)) rfl HP5.out.z (by unfold maxLen; omega) (.string nm) (.agg #[.string nm, .slice pe er.length ce]) (kyS nm) rfl rfl (Go.WideMaps.keyOf_string_mk Tryz.underlying9 (by unfold maxLen; omega)) (.held (.agg #[.string nm, .slice pe er.length ce])) [] rfl ?_
   intro w6 hown6 hgrow6
   have HP6 : Hid (PlAt w.heap.size w6 (bz + 1 + 1) bz (bz + 1) (k + 1) 0 (b.zones.take (k + 1)) []) := by
    have h5 := HP5.out
    refine ⟨(hgrow6.block (bz + 1 + 1) hpb (by simp; omega)).trans h5.bx, ?_, (World.ownsMap.drew h5.l).kept hgrow6 (by simp), h5.hp, h5.hz, h5.hl⟩
    rw [HTK.out, DZ_snoc]
    exact hown6
   have HB6 : Hid (Below bz W4 w6) := HB5.out.drew.grown hgrow6 (by show bz <= W5.heap.size; omega) (fun q hq => by injection hq with hq; omega)
   have hz6 : W4.heap.size <= w6.heap.size := by have := hgrow6.size; have h2 : W5.drew.heap.size = W5.heap.size := rfl; omega
   go_wp2_with fail
   go_roundw
   case rel => exact ⟨k + 1, by omega, by go_num, HP6, HB6, hz6⟩
   case measure => simp [intOf]; omega
  ·obtain rfl : k = b.zones.length := by omega
   rw [List.take_length] at HPR
   have hbW := HB4.out.trans (HBR.out.mono (by omega))
   obtain ⟨W6, e6⟩ : ∃ W6, wr = W6 := ⟨_, rfl⟩
   rw [e6] at HPR hbW hzr ⊢
   have hx6 := (HBR.out.block w.heap.size hl1).trans HX4.out
   rw [e6] at hx6
   have y2 := (cell_of_row W6 _ 2 _ _ _ hx6).trans rfl
   have hl6 : w.heap.size < W6.heap.size := by omega
   obtain ⟨pz, cz, ez, -, hrw⟩ := (HRL.out.below hbW (Nat.le_refl _))
   simp only [Value.slice.injEq, true_and] at ez
   obtain ⟨rfl, rfl⟩ := ez
   have HRWL := qH hrw
   have HBW := qH hbW
   clear hrw hbW hx6 e6 HBR HRL HEV HSZ y1 HX4
   go_wp2_with fail
   go_loopw [37] (fun i wr => ∃ k : Nat, k <= b.links.length /\ i = .int .i64 k /\ Hid (PlAt w.heap.size wr (bz + 1 + 1) bz (bz + 1) b.zones.length k b.zones (b.links.take k)) /\ Hid (Below bz W6 wr) /\ W6.heap.size <= wr.heap.size) (fun i _ => b.links.length - (intOf i).toNat)
   case atStart => exact ⟨0, Nat.zero_le _, rfl, HPR, qH (Below.refl _ _), Nat.le_refl _⟩
   case round =>
    obtain ⟨k, hk, rfl, HPR, HBR, hzr2⟩ := hrel
    by_cases hkl : k < b.links.length
    ·obtain ⟨bb, o, rfl, hbl, hcs⟩ := HRWL.out (List.ne_nil_of_length_pos (by omega))
     have hck := hcs k hkl
     have hsz := HSL.out b.links[k] (List.getElem_mem hkl)
     have HTK : Hid (b.links.take (k + 1) = b.links.take k ++ [b.links[k]]) := take_succN _ _ hkl
     obtain ⟨q, eq⟩ : ∃ q, b.links[k] = q := ⟨_, rfl⟩
     rw [eq] at hck hsz HTK
     obtain ⟨nm, tt⟩ := q
     obtain ⟨hnm, htt⟩ := hsz
     have hbb : bb < bz := by omega
     have z0 := (HBR.out.cell (p := ⟨bb, o + k * 2 + 0, none⟩) hbb).trans (hck 0 _ rfl)
     have z1 := (HBR.out.cell (p := ⟨bb, o + k * 2 + 1, none⟩) hbb).trans (hck 1 _ rfl)
     simp only at hnm htt z0 z1
     rw [Nat.add_zero] at z0
     obtain ⟨W5, e5⟩ : ∃ W5, wr.alloc (.cells #[.string nm, .string tt] 91) = W5 := ⟨_, rfl⟩
     have hx5 : W5.heap[wr.heap.size]? = some (.cells #[.string nm, .string tt] 91 (0, 0)) := by rw [<- e5]; exact heap_alloc_new wr _
     have hb5 : Below wr.heap.size wr W5 := by rw [<- e5]; exact (Below.refl _ _).alloc (Nat.le_refl _) _
     have hz5 : W5.heap.size = wr.heap.size + 1 := by rw [<- e5]; simp
     have HP5 := qH (HPR.out.below hb5 (Nat.le_refl _))
     have HB5 : Hid (Below bz W6 W5) := HBR.out.trans (hb5.mono (by omega))
     have q0 := (cell_of_row W5 _ 0 _ _ _ hx5).trans rfl
     have q1 := (cell_of_row W5 _ 1 _ _ _ hx5).trans rfl
     obtain ⟨q2, q3, hpb⟩ := HP5.out.cells
     have HE5 := qH e5
     clear e5 hx5 eq hcs hck
     go_upto_region 13 with fail
     rw [HE5.out]
     go_still_tail 8, (by kernel_rfl)
     change wpList _ _ _ _ _ W5.drew
     refine wpList_mapUpdate_own _ rfl _ _ _ 227 rfl 9 9 keyS Tryz.underlying227 heldV (bz + 1) k (DL (b.links.take k)) rfl HP5.out.l (by unfold maxLen; omega) (.string nm) (.string tt) (kyS nm) rfl rfl (Go.WideMaps.keyOf_string_mk Tryz.underlying9 (by unfold maxLen; omega)) (.held (.string tt)) [] rfl ?_
     intro w6 hown6 hgrow6
     have HP6 : Hid (PlAt w.heap.size w6 (bz + 1 + 1) bz (bz + 1) b.zones.length (k + 1) b.zones (b.links.take (k + 1))) := by
      have h5 := HP5.out
      refine ⟨(hgrow6.block (bz + 1 + 1) hpb (by simp)).trans h5.bx, (World.ownsMap.drew h5.z).kept hgrow6 (by simp), ?_, h5.hp, h5.hz, h5.hl⟩
      rw [HTK.out, DL_snoc]
      exact hown6
     have HB6 : Hid (Below bz W6 w6) := HB5.out.drew.grown hgrow6 (by show bz <= W5.heap.size; omega) (fun q hq => by injection hq with hq; omega)
     have hz6 : W6.heap.size <= w6.heap.size := by have := hgrow6.size; have h2 : W5.drew.heap.size = W5.heap.size := rfl; omega
     go_wp2_with fail
     go_roundw
     case rel => exact ⟨k + 1, by omega, by go_num, HP6, HB6, hz6⟩
     case measure => simp [intOf]; omega
    ·obtain rfl : k = b.links.length := by omega
     rw [List.take_length] at HPR
     have HBD := qH (HBW.out.trans (HBR.out.mono (by omega)))
     go_wp2_with fail
     go_ret2
     rw [HPOST.out]
     exact ⟨HBD.out, fun h => absurd rfl h, fun _ => ⟨_, _, _, _, _, rfl, HPR.out, by omega, by omega⟩⟩
def lookF {α : Type} (key : α -> ByteArray) (l : List α) (k : ByteArray) : Option α := l.foldl (fun acc x => if key x = k then some x else acc) none
def Dof {α : Type} (key : α -> ByteArray) (val : α -> Value) (l : List α) : DataW Value := l.foldl (fun D x => D.put (kyS (key x)) (.held (val x))) (.map [])
theorem kyS_inj {a b : ByteArray} (h : a ≠ b) : kyS a ≠ kyS b := fun e => h (by
 injection e with e
 cases a; cases b; simp_all [Array.toList_inj])
theorem Dof_look {α : Type} (key : α -> ByteArray) (val : α -> Value) (k : ByteArray) : ∀ (l : List α) (D : DataW Value) (acc : Option α), IsMap D -> (has D (kyS k) = acc.isSome /\ ∀ zd, D.atKey (kyS k) zd = (match acc with | some x => .held (val x) | none => zd)) ->
 (has (l.foldl (fun D x => D.put (kyS (key x)) (.held (val x))) D) (kyS k) = (l.foldl (fun acc x => if key x = k then some x else acc) acc).isSome /\ ∀ zd, (l.foldl (fun D x => D.put (kyS (key x)) (.held (val x))) D).atKey (kyS k) zd = (match l.foldl (fun acc x => if key x = k then some x else acc) acc with | some x => .held (val x) | none => zd)) := by
 intro l
 induction l with
 | nil => intro D acc _ h; exact h
 | cons x r ih =>
  intro D acc hD h
  refine ih _ _ (hD.put _ _) ?_
  dsimp only
  by_cases e : key x = k
  ·rw [if_pos e, e]
   exact ⟨has_put_same hD (show WideAt.IsKeyLit (kyS k) from trivial) _, fun zd => atKey_put_same hD (show WideAt.IsKeyLit (kyS k) from trivial) _ _⟩
  ·rw [if_neg e]
   have hne : kyS k ≠ kyS (key x) := kyS_inj (fun h => e h.symm)
   refine ⟨(has_put_other hne _).trans h.1, fun zd => (atKey_put_other hne _ _).trans (h.2 zd)⟩
theorem Dof_has {α : Type} (key : α -> ByteArray) (val : α -> Value) (l : List α) (k : ByteArray) : has (Dof key val l) (kyS k) = (lookF key l k).isSome /\ ∀ zd, (Dof key val l).atKey (kyS k) zd = (match lookF key l k with | some x => .held (val x) | none => zd) :=
 Dof_look key val k l (.map []) none isMap_empty ⟨rfl, fun zd => rfl⟩
theorem lookF_mem {α : Type} {key : α -> ByteArray} {k : ByteArray} : ∀ {l : List α} {acc : Option α} {x : α}, l.foldl (fun acc x => if key x = k then some x else acc) acc = some x -> (x ∈ l /\ key x = k) \/ acc = some x := by
 intro l
 induction l with
 | nil => intro acc x h; exact .inr h
 | cons y r ih =>
  intro acc x h
  rcases ih h with ⟨h1, h2⟩ | h1
  ·exact .inl ⟨List.mem_cons_of_mem _ h1, h2⟩
  ·dsimp only at h1
   by_cases e : key y = k
   ·rw [if_pos e] at h1
    injection h1 with h1
    subst h1
    exact .inl ⟨List.mem_cons_self .., e⟩
   ·rw [if_neg e] at h1; exact .inr h1
theorem lookF_in {α : Type} {key : α -> ByteArray} {k : ByteArray} {l : List α} {x : α} (h : lookF key l k = some x) : x ∈ l /\ key x = k := by
 rcases lookF_mem h with h | h
 ·exact h
 ·cases h
def resF (zs : List Zo) (ls : List Lk) : Nat -> ByteArray -> Option Zo × Int
 | 0, _ => (none, 8)
 | n + 1, k => match lookF (·.nm) zs k with
  | some z => (some z, 0)
  | none => match lookF (·.nm) ls k with
   | none => (none, 6)
   | some x => resF zs ls n x.tg
def zoVal (z : Option Zo) : Value := match z with | some z => zoV z | none => .agg #[.string ⟨#[]⟩, .slice none 0 0]
theorem zeroZo (W : World) : (zeroValue 46).run Tryz.prog W = .ok (.agg #[.string ⟨#[]⟩, .slice none 0 0]) W := by kernel_rfl
theorem zeroStr (W : World) : (zeroValue 9).run Tryz.prog W = .ok (.string ⟨#[]⟩) W := by kernel_rfl
theorem look_zone {B : Nat} {W : World} {pb bz bl nz nl : Nat} {zs : List Zo} {ls : List Lk} (h : PlAt B W pb bz bl nz nl zs ls) (k : ByteArray) (hk : k.size <= maxLen) :
 (Instr.lookup 226 (.map (some bz)) (.string k) true).run Tryz.prog W = .ok (.tuple #[zoVal (lookF (·.nm) zs k), .bool (lookF (·.nm) zs k).isSome]) W := by
 obtain ⟨v, ps, hrun, hv⟩ := h.z.look_ok keyS Tryz.underlying226 (zeroZo W) (zd := .held (.agg #[.string ⟨#[]⟩, .slice none 0 0])) (zp := []) rfl (Go.WideMaps.keyOf_string_mk Tryz.underlying9 hk)
 have hd := Dof_has (·.nm) zoV zs k
 have e : DZ zs = Dof (·.nm) zoV zs := rfl
 rw [e] at hrun hv
 have hv2 : DataW.held v = _ := (congrArg Prod.fst (Option.some.inj hv)).trans (hd.2 _)
 rw [hrun, hd.1]
 clear hrun hv hd e
 cases hl : lookF (·.nm) zs k with
 | none => rw [hl] at hv2; rw [DataW.held.inj hv2]; rfl
 | some z => rw [hl] at hv2; rw [DataW.held.inj hv2]; rfl
theorem look_link {B : Nat} {W : World} {pb bz bl nz nl : Nat} {zs : List Zo} {ls : List Lk} (h : PlAt B W pb bz bl nz nl zs ls) (k : ByteArray) (hk : k.size <= maxLen) :
 (Instr.lookup 227 (.map (some bl)) (.string k) true).run Tryz.prog W = .ok (.tuple #[.string (match lookF (·.nm) ls k with | some x => x.tg | none => ⟨#[]⟩), .bool (lookF (·.nm) ls k).isSome]) W := by
 obtain ⟨v, ps, hrun, hv⟩ := h.l.look_ok keyS Tryz.underlying227 (zeroStr W) (zd := .held (.string ⟨#[]⟩)) (zp := []) rfl (Go.WideMaps.keyOf_string_mk Tryz.underlying9 hk)
 have hd := Dof_has (·.nm) (fun x : Lk => .string x.tg) ls k
 have e : DL ls = Dof (·.nm) (fun x : Lk => .string x.tg) ls := rfl
 rw [e] at hrun hv
 have hv2 : DataW.held v = _ := (congrArg Prod.fst (Option.some.inj hv)).trans (hd.2 _)
 rw [hrun, hd.1]
 clear hrun hv hd e
 cases hl : lookF (·.nm) ls k with
 | none => rw [hl] at hv2; rw [DataW.held.inj hv2]
 | some z => rw [hl] at hv2; rw [DataW.held.inj hv2]
theorem resF_z {zs : List Zo} {ls : List Lk} {n : Nat} {k : ByteArray} {z : Zo} (h : lookF (·.nm) zs k = some z) : resF zs ls (n + 1) k = (some z, 0) := by
 rw [resF, h]
theorem resF_none {zs : List Zo} {ls : List Lk} {n : Nat} {k : ByteArray} (h : lookF (·.nm) zs k = none) (h2 : lookF (·.nm) ls k = none) : resF zs ls (n + 1) k = (none, 6) := by
 rw [resF, h, h2]
theorem resF_go {zs : List Zo} {ls : List Lk} {n : Nat} {k : ByteArray} {x : Lk} (h : lookF (·.nm) zs k = none) (h2 : lookF (·.nm) ls k = some x) : resF zs ls (n + 1) k = resF zs ls n x.tg := by
 rw [resF, h, h2]
def EvOk (zs : List Zo) : Prop := ∀ z ∈ zs, ∃ p c, z.ev = .slice p z.eras.length c
def ResPost (R : Option Zo × Int) (w : World) (e : Ending) (w' : World) : Prop := e = .returned (.tuple #[zoVal R.1, .int .i64 R.2]) /\ Below w.heap.size w w'
theorem end_two {W : World} {rb : Nat} {a b : Value} {T : TypeId} (h : W.heap[rb]? = some (.cells #[a, b] T (0, 0))) (c d : Value) :
 ∃ W', (W.setCell ⟨rb, 0, none⟩ c).setCell ⟨rb, 1, none⟩ d = W' /\ W'.heap[rb]? = some (.cells #[c, d] T (0, 0)) /\ ∀ B, B <= rb -> Below B W W' := by
 refine ⟨_, rfl, ?_, fun B hB => ((Below.refl _ _).setCell hB _).setCell hB _⟩
 simp [World.setCell, Array.getElem?_modify, h]
theorem ResPost.mk {R : Option Zo × Int} {z : Option Zo} {c : Int} {v : Value} {w w' : World} (h : (z, c) = R) (hv : zoVal z = v) (hb : Below w.heap.size w w') : ResPost R w (.returned (.tuple #[v, .int .i64 c])) w' := by
 subst h
 subst hv
 exact ⟨rfl, hb⟩
theorem resolve_any (B pb bz bl nz nl : Nat) (zs : List Zo) (ls : List Lk) (nm : ByteArray) (w : World) (hP : PlAt B w pb bz bl nz nl zs ls) (hz : EvOk zs) (hs : ∀ x ∈ ls, x.tg.size <= 140737488351232) (hn : nm.size <= 140737488351232) (hnl : nl <= 1000) :
 Calls Tryz.prog 100 #[.pointer (some ⟨pb, 0, none⟩), .string nm] w (ResPost (resF zs ls (Maps.size (DL ls) + 1) nm) w) := by
 obtain ⟨N, eN⟩ : ∃ N, Maps.size (DL ls) = N := ⟨_, rfl⟩
 have hN : N <= 1000 := by rw [<- eN]; exact Nat.le_trans hP.l.size_le hnl
 rw [eN]
 obtain ⟨R, eR⟩ : ∃ R, resF zs ls (N + 1) nm = R := ⟨_, rfl⟩
 rw [eR]
 have HR := qH eR
 have hlen : ∀ {B : Nat} {W : World} {pb bz bl nz nl : Nat}, PlAt B W pb bz bl nz nl zs ls -> (Builtin.len_ #[227] 3 #[.map (some bl)]).run Tryz.prog W = .ok (.int .i64 N) W := fun h => by rw [<- eN]; exact h.l.len Tryz.underlying227 _
 have HLEN := qH (fun W h => hlen (B := B) (W := W) (pb := pb) (bz := bz) (bl := bl) (nz := nz) (nl := nl) h)
 have HLZ := qH (fun W k h hk => look_zone (B := B) (W := W) (pb := pb) (bz := bz) (bl := bl) (nz := nz) (nl := nl) (zs := zs) (ls := ls) h k hk)
 have HLL := qH (fun W k h hk => look_link (B := B) (W := W) (pb := pb) (bz := bz) (bl := bl) (nz := nz) (nl := nl) (zs := zs) (ls := ls) h k hk)
 obtain ⟨W0, eW⟩ : ∃ W0, w.alloc (.cells #[.string ⟨#[]⟩, .slice none 0 0] 46) = W0 := ⟨_, rfl⟩
 have hb0 : Below w.heap.size w W0 := by rw [<- eW]; exact (Below.refl _ _).alloc (Nat.le_refl _) _
 have hbx : W0.heap[w.heap.size]? = some (.cells #[.string ⟨#[]⟩, .slice none 0 0] 46 (0, 0)) := by rw [<- eW]; exact heap_alloc_new w _
 have hl0 : w.heap.size < W0.heap.size := by rw [<- eW]; simp
 have HP0 := qH (hP.below hb0 (Nat.le_refl _))
 have HEW := qH eW
 have HB0 := qH hb0
 have HBX := qH hbx
 have HZ := qH hz
 have HS := qH hs
 have hpw : pb < w.heap.size := hP.cells.2.2
 obtain ⟨rb, erb⟩ : ∃ rb, w.heap.size = rb := ⟨_, rfl⟩
 rw [erb] at hpw hl0 HBX
 have HERB := qH erb
 clear eW hb0 hbx hP hz hs eR eN hlen erb
 go_enter Tryz.func100, Tryz.ntmps100
 go_upto_region 1 with fail
 rw [HEW.out, HERB.out]
 obtain ⟨m0, m1, mp⟩ := HP0.out.cells
 have hl := HLEN.out W0 HP0.out
 go_wp2_with fail
 go_loopw [1, 16] (fun v1 i wr => ∃ (k : Nat) (nm' : ByteArray), k <= N + 1 /\ i = .int .i64 k /\ v1 = .string nm' /\ nm'.size <= 140737488351232 /\ Hid (resF zs ls (N + 1 - k) nm' = R) /\ Hid (Below W0.heap.size W0 wr)) (fun _ i _ => N + 1 - (intOf i).toNat)
 case atStart => exact ⟨0, nm, Nat.zero_le _, rfl, rfl, hn, HR, qH (Below.refl _ _)⟩
 case round =>
  obtain ⟨k, nm1, hk, rfl, rfl, hn1, HRR, HBR⟩ := hrel
  have hzr := HBR.out.size
  have hrb : rb < wr.heap.size := by omega
  have HPW := qH (HP0.out.below HBR.out (Nat.le_refl _))
  have HXR := qH ((HBR.out.block rb hl0).trans HBX.out)
  obtain ⟨m0, m1, mp⟩ := HPW.out.cells
  have r0 : wr.cell? ⟨rb, 0, none⟩ = some (.string ⟨#[]⟩) := (cell_of_row wr _ 0 _ _ _ HXR.out).trans rfl
  have r1 : wr.cell? ⟨rb, 1, none⟩ = some (.slice none 0 0) := (cell_of_row wr _ 1 _ _ _ HXR.out).trans rfl
  have f0 : wr.frozen? ⟨rb, 0, none⟩ = false := by simp [World.frozen?, HXR.out]
  have f1 : wr.frozen? ⟨rb, 1, none⟩ = false := by simp [World.frozen?, HXR.out]
  by_cases hkn : k < N + 1
  ·obtain ⟨n, en⟩ : ∃ n, N + 1 - k = n + 1 := ⟨N - k, by omega⟩
   have hrr := HRR.out
   rw [en] at hrr
   have hkz : (k : Int) < (N : Int) + 1 := by omega
   have lz := HLZ.out wr nm1 HPW.out (by unfold maxLen; omega)
   have ll := HLL.out (wr.alloc (.cells #[.string ⟨#[]⟩, .slice none 0 0] 46)) nm1 (HPW.out.below ((Below.refl _ _).alloc (Nat.le_refl _) _) (Nat.le_refl _)) (by unfold maxLen; omega)
   cases hlz : lookF (·.nm) zs nm1 with
   | some z =>
    rw [hlz] at lz
    rw [resF_z hlz] at hrr
    obtain ⟨pe, ce, hev⟩ := HZ.out z (lookF_in hlz).1
    obtain ⟨znm, zev, zer⟩ := z
    simp only at hev
    subst hev
    change _ = Result.ok (Value.tuple #[Value.agg #[Value.string znm, Value.slice pe zer.length ce], Value.bool true]) wr at lz
    have HRE := qH hrr
    clear hlz hrr ll en
    go_wp2_with fail
    obtain ⟨W9, e9, hh9, hb9⟩ := end_two HXR.out (.string znm) (.slice pe zer.length ce)
    rw [e9]
    obtain ⟨W10, e10⟩ : ∃ W10, W9.alloc (.cells #[(.string znm), (.slice pe zer.length ce)] 46) = W10 := ⟨_, rfl⟩
    rw [e10]
    have hs9 : wr.heap.size <= W9.heap.size := (hb9 0 (Nat.zero_le _)).size
    have hh10 : W10.heap[rb]? = some (.cells #[(.string znm), (.slice pe zer.length ce)] 46 (0, 0)) := by rw [<- e10, Below.heap_alloc _ _ _ (by omega)]; exact hh9
    have v0 := (cell_of_row W10 _ 0 _ _ _ hh10).trans rfl
    have v1 := (cell_of_row W10 _ 1 _ _ _ hh10).trans rfl
    have HBD : Below w.heap.size w W10 := by
     rw [<- e10]
     exact (HB0.out.trans ((HBR.out.mono HB0.out.size).trans (hb9 _ (by have := HERB.out; omega)))).alloc (by have := HERB.out; omega) _
    exact bodyPost_ret (v := .tuple #[.agg #[(.string znm), (.slice pe zer.length ce)], .int .i64 0]) (by simp [results, Tryz.results100, go_sem, v0, v1]) rfl (ResPost.mk (z := some ⟨znm, .slice pe zer.length ce, zer⟩) HRE.out rfl HBD)
   | none =>
    rw [hlz] at lz
    change _ = Result.ok (Value.tuple #[Value.agg #[Value.string ⟨#[]⟩, Value.slice none 0 0], Value.bool false]) wr at lz
    cases hll : lookF (·.nm) ls nm1 with
    | none =>
     rw [hll] at ll
     rw [resF_none hlz hll] at hrr
     have HRE := qH hrr
     clear hlz hll hrr en
     go_wp2_with fail
     obtain ⟨W9, e9, hh9, hb9⟩ := end_two HXR.out (.string ⟨#[]⟩) (.slice none 0 0)
     rw [e9]
     obtain ⟨W10, e10⟩ : ∃ W10, W9.alloc (.cells #[(.string ⟨#[]⟩), (.slice none 0 0)] 46) = W10 := ⟨_, rfl⟩
     rw [e10]
     have hs9 : wr.heap.size <= W9.heap.size := (hb9 0 (Nat.zero_le _)).size
     have hh10 : W10.heap[rb]? = some (.cells #[(.string ⟨#[]⟩), (.slice none 0 0)] 46 (0, 0)) := by rw [<- e10, Below.heap_alloc _ _ _ (by omega)]; exact hh9
     have v0 := (cell_of_row W10 _ 0 _ _ _ hh10).trans rfl
     have v1 := (cell_of_row W10 _ 1 _ _ _ hh10).trans rfl
     have HBD : Below w.heap.size w W10 := by
      rw [<- e10]
      exact (HB0.out.trans ((HBR.out.mono HB0.out.size).trans (hb9 _ (by have := HERB.out; omega)))).alloc (by have := HERB.out; omega) _
     exact bodyPost_ret (v := .tuple #[.agg #[(.string ⟨#[]⟩), (.slice none 0 0)], .int .i64 6]) (by simp [results, Tryz.results100, go_sem, v0, v1]) rfl (ResPost.mk (z := none) HRE.out rfl HBD)
    | some x =>
     rw [hll] at ll
     rw [resF_go hlz hll] at hrr
     have hxs := HS.out x (lookF_in hll).1
     have en2 : N + 1 - (k + 1) = n := by omega
     rw [<- en2] at hrr
     have HRE := qH hrr
     clear hlz hll hrr en en2
     go_wp2_with fail
     go_roundw
     case rel => exact ⟨k + 1, x.tg, by omega, by go_num, rfl, hxs, HRE, qH (HBR.out.alloc hzr _)⟩
     case measure => simp [intOf]; omega
  ·have en : N + 1 - k = 0 := by omega
   have hrr := HRR.out
   rw [en] at hrr
   have HRE := qH hrr
   have hkz : ¬ (k : Int) < (N : Int) + 1 := by omega
   clear hrr en
   go_wp2_with fail
   obtain ⟨W9, e9, hh9, hb9⟩ := end_two HXR.out (.string ⟨#[]⟩) (.slice none 0 0)
   rw [e9]
   have v0 : W9.cell? ⟨rb, 0, none⟩ = some (.string ⟨#[]⟩) := (cell_of_row W9 _ 0 _ _ _ hh9).trans rfl
   have v1 : W9.cell? ⟨rb, 1, none⟩ = some (.slice none 0 0) := (cell_of_row W9 _ 1 _ _ _ hh9).trans rfl
   have HBD : Below w.heap.size w W9 := HB0.out.trans ((HBR.out.mono HB0.out.size).trans (hb9 _ (by have := HERB.out; omega)))
   exact bodyPost_ret (v := .tuple #[.agg #[.string ⟨#[]⟩, .slice none 0 0], .int .i64 8]) (by simp [results, Tryz.results100, go_sem, v0, v1]) rfl (ResPost.mk (z := none) HRE.out rfl HBD)
abbrev erL (x : Er) : List Value := (erCells x).toList
def erFlat (l : List Er) : List Value := l.flatMap erL
theorem infoEr : (Tryz.prog.info? 43).map (fun i => (i.zero, i.size, i.bytes)) = some (some (.agg #[.int .i64 0, .string ⟨#[]⟩, .int .i64 0, .string ⟨#[]⟩, .int .i64 0]), 5, 56) := by kernel_rfl
theorem undErS : Tryz.prog.underlying 44 = some (.slice 43) := by kernel_rfl
theorem erFlat_len (l : List Er) : (erFlat l).length = l.length * 5 := by
 induction l with
 | nil => rfl
 | cons x r ih =>
  have e : erFlat (x :: r) = erL x ++ erFlat r := by simp [erFlat]
  rw [e, List.length_append, ih]
  simp
  omega
theorem erFlat_get : ∀ (l : List Er) (j : Nat) (u : Value), (erFlat l)[j]? = some u -> ∃ i, ∃ h : i < l.length, ∃ m, j = i * 5 + m /\ (erL l[i])[m]? = some u
 | [], j, u, h => by simp [erFlat] at h
 | x :: r, j, u, h => by
  have e : erFlat (x :: r) = erL x ++ erFlat r := by simp [erFlat]
  rw [e] at h
  by_cases hj : j < 5
  ·rw [List.getElem?_append_left (by simpa using hj)] at h
   exact ⟨0, by simp, j, by omega, h⟩
  ·rw [List.getElem?_append_right (by simpa using Nat.le_of_not_lt hj)] at h
   obtain ⟨i, hi, m, e1, e2⟩ := erFlat_get r _ u h
   have e3 : (erL x).length = 5 := rfl
   rw [e3] at e1
   exact ⟨i + 1, by simpa using hi, m, by omega, e2⟩
theorem erFlat_one (l : List Er) : ∀ u ∈ erFlat l, u.oneCell' = true := by
 intro u hu
 obtain ⟨x, -, hx⟩ := List.mem_flatMap.1 hu
 simp at hx
 rcases hx with rfl | rfl | rfl | rfl | rfl <;> rfl
theorem CloneEr_any (l : List Er) (v : Value) (B : Nat) (w : World) (h : RowsAt erL 5 B w v l) (hl : l.length <= 1000) :
 Calls Tryz.prog 101 #[v] w fun e w' => ∃ vo, e = .returned vo /\ w'.ownsRow w.heap.size 43 5 vo l.length (erFlat l) /\ Below w.heap.size w w' := by
 obtain ⟨p, cap, rfl, hlen, hrow⟩ := h
 have qT : ∀ (W : World) (a : Option Addr) (n c n' c' : Nat), (binOp .eql 44 (.slice a n c) (.slice none n' c')).run Tryz.prog W = .ok (.bool a.isNone) W := fun W a n c n' c' => Lib.run_eql_slice_nil W _ _ a n c n' c' undErS
 cases p with
 | none =>
  have : l = [] := by
   by_cases hn : l = []
   ·exact hn
   ·obtain ⟨b, o, e, -⟩ := hrow hn; cases e
  subst this
  clear hrow
  go_enter Tryz.func101, Tryz.ntmps101
  go_wp2_with fail
  go_ret
  exact ⟨_, rfl, World.ownsRow_nil _ _ _ _, Below.refl _ _⟩
 | some ad =>
  have hnews : ∀ j u, (erFlat l)[j]? = some u -> w.cell? (ad.add j) = some u := by
   intro j u hu
   obtain ⟨i, hi, m, rfl, hm⟩ := erFlat_get l j u hu
   obtain ⟨b, o, e, hlt, hc⟩ := hrow (List.ne_nil_of_length_pos (by omega))
   injection e with e
   subst e
   have := hc i hi m u hm
   rw [Nat.add_assoc] at this
   have e2 : (⟨b, o, none⟩ : Addr).add (i * 5 + m) = ⟨b, o + (i * 5 + m), none⟩ := by
    unfold Addr.add
    split
    ·rename_i h0; rw [h0]; rfl
    ·rfl
   rw [e2]
   exact this
  have HNW := qH hnews
  have HFL := qH (erFlat_len l)
  have HFO := qH (erFlat_one l)
  obtain ⟨i1, hi1, hz10, hz11, hz12⟩ := info_parts infoEr
  obtain ⟨n, en⟩ : ∃ n, l.length = n := ⟨_, rfl⟩
  rw [en] at hl HFL ⊢
  clear hnews hrow hlen
  go_enter Tryz.func101, Tryz.ntmps101
  have hROW := World.ownsRow_lit (base := w.heap.size) (e := 43) (size := 5) w #[] 0 (Nat.le_refl _) (by decide) rfl
  have HROW := qH hROW
  have HNEW : Hid (∀ j u, (erFlat l)[j]? = some u -> (w.alloc (.cells #[] 43)).cell? (ad.add j) = some u) := by
   show ∀ j u, _
   intro j u hu
   have h1 := HNW.out j u hu
   exact (((Below.refl w.heap.size w).alloc (Nat.le_refl _) (.cells #[] 43)).cell (p := ad.add j) (World.block_lt_of_cell? _ _ h1)).trans h1
  have HML : 0 + n <= maxLen := by simp only [maxLen]; omega
  have HMB : (0 + n) * 56 <= 140737488355328 := by omega
  have HSZ : w.heap.size <= (w.alloc (.cells #[] 43)).heap.size := by simp
  clear hROW
  go_wp2_with (at_builtin; refine wpList_append_own _ rfl _ _ 44 rfl w.heap.size 43 i1 (.agg #[.int .i64 0, .string ⟨#[]⟩, .int .i64 0, .string ⟨#[]⟩, .int .i64 0]) 5 56 undErS hi1 hz10 hz11 hz12 rfl (by decide) _ _ _ rfl HROW.out ad n cap (erFlat l) rfl HFL.out HNEW.out HFO.out HML HMB HSZ ?_; intro v' w10 hown10 hgrow10 _)
  go_ret
  refine ⟨_, rfl, ?_, (((Below.refl _ _).alloc (Nat.le_refl _) _).grown hgrow10 HSZ (fun q hq => (World.ownsRow.lt HROW.out q hq).1))⟩
  have := hown10
  simp only [Nat.zero_add] at this
  exact this
theorem bk_parts {b : Bk} (h : bkChk b = 0) : (∀ i (hi : i < b.zones.length), zoneChk b.rules (b.zones.take i) b.zones[i] = 0) /\ ∀ i (hi : i < b.links.length), linkChk b (b.links.take i) b.links[i] = 0 := by
 by_cases h0 : 40 < b.rules.length \/ 20 < b.zones.length \/ 20 < b.links.length
 ·rw [bkChk_2 b h0] at h; cases h
 ·by_cases h1 : firstE ruChk b.rules = 0
  ·by_cases h2 : firstE (chkZ b) (List.range b.zones.length) = 0
   ·rw [bkChk_l b h0 h1 h2] at h
    exact ⟨fun i hi => by rw [<- chkZ_at b i hi]; exact (firstE_zero _ _).1 h2 i (List.mem_range.2 hi), fun i hi => by rw [<- chkL_at b i hi]; exact (firstE_zero _ _).1 h i (List.mem_range.2 hi)⟩
   ·rw [bkChk_z b h0 h1 h2] at h; exact absurd h h2
  ·rw [bkChk_r b h0 h1] at h; exact absurd h h1
structure ZoneOk (b : Bk) (i : Nat) (z : Zo) : Prop where
 nm : nameB z.nm = true
 fresh : ∀ y ∈ b.zones.take i, y.nm ≠ z.nm
 ne : z.eras ≠ []
 le : z.eras.length <= 700
 er : firstE (eraChk b.rules z.eras) (List.range z.eras.length) = 0
theorem bk_zone {b : Bk} (h : bkChk b = 0) (i : Nat) (hi : i < b.zones.length) : ZoneOk b i b.zones[i] := by
 have hz := (bk_parts h).1 i hi
 unfold zoneChk at hz
 split at hz
 ·cases hz
 ·rename_i h1
  split at hz
  ·cases hz
  ·rename_i h2
   split at hz
   ·cases hz
   ·rename_i h3
    split at hz
    ·cases hz
    ·rename_i h4
     refine ⟨by simpa using h1, fun y hy e => h2 (List.any_eq_true.2 ⟨y, hy, by simpa using e⟩), h3, by omega, hz⟩
theorem bk_er {b : Bk} (h : bkChk b = 0) {z : Zo} (hz : z ∈ b.zones) : z.eras ≠ [] /\ z.eras.length <= 700 := by
 obtain ⟨i, hi, rfl⟩ := List.mem_iff_getElem.1 hz
 exact ⟨(bk_zone h i hi).ne, (bk_zone h i hi).le⟩
def rsv (b : Bk) (nm : ByteArray) : Option Zo × Int := if bkChk b ≠ 0 then (none, bkChk b) else resF b.zones b.links (Maps.size (DL b.links) + 1) nm
def zNm (z : Option Zo) : ByteArray := match z with | some z => z.nm | none => ⟨#[]⟩
def zEr (z : Option Zo) : List Er := match z with | some z => z.eras | none => []
def RsvPost (R : Option Zo × Int) (w : World) (e : Ending) (w' : World) : Prop :=
 ∃ vo, e = .returned (.tuple #[.agg #[.string (zNm R.1), vo], .int .i64 R.2]) /\ w'.ownsRow w.heap.size 43 5 vo (zEr R.1).length (erFlat (zEr R.1)) /\ Below w.heap.size w w'
theorem rsv_bad {b : Bk} {nm : ByteArray} (h : bkChk b ≠ 0) : rsv b nm = (none, bkChk b) := by unfold rsv; rw [if_pos h]
theorem rsv_go {b : Bk} {nm : ByteArray} (h : bkChk b = 0) : rsv b nm = resF b.zones b.links (Maps.size (DL b.links) + 1) nm := by unfold rsv; rw [if_neg (fun g => g h)]
theorem resF_in {zs : List Zo} {ls : List Lk} : ∀ {n : Nat} {k : ByteArray} {z : Zo} {c : Int}, resF zs ls n k = (some z, c) -> z ∈ zs /\ c = 0 := by
 intro n
 induction n with
 | zero => intro k z c h; cases h
 | succ n ih =>
  intro k z c h
  rw [resF] at h
  split at h
  ·rename_i z2 e
   cases h
   exact ⟨(lookF_in e).1, rfl⟩
  ·split at h
   ·cases h
   ·exact ih h
section
variable {α : Type} {key : α -> ByteArray}
theorem lookF_keep {k : ByteArray} : ∀ (l : List α) (x : α), (l.foldl (fun acc x => if key x = k then some x else acc) (some x)).isSome = true
 | [], x => rfl
 | y :: r, x => by
  rw [List.foldl_cons]
  by_cases h : key y = k
  ·rw [if_pos h]; exact lookF_keep r y
  ·rw [if_neg h]; exact lookF_keep r x
theorem lookF_has {k : ByteArray} : ∀ (l : List α) (acc : Option α), (∃ x ∈ l, key x = k) -> (l.foldl (fun acc x => if key x = k then some x else acc) acc).isSome = true
 | [], acc, h => by obtain ⟨x, hx, -⟩ := h; cases hx
 | y :: r, acc, h => by
  rw [List.foldl_cons]
  by_cases hy : key y = k
  ·rw [if_pos hy]; exact lookF_keep r y
  ·rw [if_neg hy]
   obtain ⟨x, hx, e⟩ := h
   rcases List.mem_cons.1 hx with rfl | hx
   ·exact absurd e hy
   ·exact lookF_has r acc ⟨x, hx, e⟩
theorem lookF_uniq {l : List α} (hu : ∀ x ∈ l, ∀ y ∈ l, key x = key y -> x = y) {x : α} (hx : x ∈ l) : lookF key l (key x) = some x := by
 have h := lookF_has (key := key) (k := key x) l none ⟨x, hx, rfl⟩
 cases e : lookF key l (key x) with
 | none => unfold lookF at e; rw [e] at h; cases h
 | some y =>
  obtain ⟨hy, hk⟩ := lookF_in e
  rw [hu y hy x hx hk]
theorem uniq_of {l : List α} (h : ∀ i (hi : i < l.length), ∀ y ∈ l.take i, key y ≠ key l[i]) : ∀ x ∈ l, ∀ y ∈ l, key x = key y -> x = y := by
 intro x hx y hy e
 obtain ⟨i, hi, rfl⟩ := List.mem_iff_getElem.1 hx
 obtain ⟨j, hj, rfl⟩ := List.mem_iff_getElem.1 hy
 rcases Nat.lt_trichotomy i j with hij | hij | hij
 ·exact absurd e (h j hj _ (List.mem_take_iff_getElem.2 ⟨i, by omega, rfl⟩))
 ·subst hij; rfl
 ·exact absurd e.symm (h i hi _ (List.mem_take_iff_getElem.2 ⟨j, by omega, rfl⟩))
end
theorem zones_uniq {b : Bk} (h : bkChk b = 0) : ∀ x ∈ b.zones, ∀ y ∈ b.zones, x.nm = y.nm -> x = y := uniq_of (key := fun z : Zo => z.nm) fun i hi => (bk_zone h i hi).fresh
theorem rsv_zone {b : Bk} (h : bkChk b = 0) {z : Zo} (hz : z ∈ b.zones) : rsv b z.nm = (some z, 0) := by
 rw [rsv_go h]
 exact resF_z (lookF_uniq (key := fun z : Zo => z.nm) (zones_uniq h) hz)
end Go.Proofs.YtomahddiclkepaaGreatDoor
namespace Go.Proofs.YtomahddiclkepaaGreatDoor
def cntF (p : Nat -> Bool) (n : Nat) : Nat := (List.range n).countP (fun i => !p i)
theorem cntF_boundary (p : Nat -> Bool) (n h : Nat) (hn : h <= n) (h1 : ∀ t, t < h -> p t = false) (h2 : ∀ t, h <= t -> t < n -> p t = true) : cntF p n = h := by
 unfold cntF
 induction n with
 | zero => simp; omega
 | succ n ih =>
  rw [List.range_succ, List.countP_append]
  by_cases e : h = n + 1
  ·subst e
   have : (List.range n).countP (fun i => !p i) = n := by
    have hall : ∀ i ∈ List.range n, (fun i => !p i) i = true := fun i hi => by
     have := h1 i (by have := List.mem_range.1 hi; omega)
     simp [this]
    rw [List.countP_eq_length.2 hall]; simp
   rw [this]; simp [h1 n (by omega)]
  ·rw [ih (by omega) (fun t ht htn => h2 t ht (by omega))]
   simp [h2 n (by omega) (by omega)]
end Go.Proofs.YtomahddiclkepaaGreatDoor
namespace Go.Proofs.YtomahddiclkepaaGreatDoor
open Go.RowKit
structure Ty where
 off : Int
 save : Bool
 name : ByteArray
abbrev tyV (x : Ty) : Value := .agg #[.int .i64 x.off, .bool x.save, .string x.name]
structure Ch where
 t : Int
 k : Int
structure Tab where
 types : List Ty
 first : Int
 chs : List Ch
def okOff (x : Int) : Bool := decide (-75600 <= x /\ x <= 75600)
def okTime (x : Int) : Bool := decide (-1099511627776 <= x /\ x <= 1099511627776)
def okIdx (last x : Int) : Bool := decide (0 <= x /\ x <= last)
def chkTypes : List Ty -> Int
 | [] => 0
 | x :: r => if okOff x.off = true then (if abbrB x.name = true then chkTypes r else 3) else 1
def before (prev : Option Int) (x : Int) : Bool := match prev with
 | some p => decide (x <= p)
 | none => false
def chkChs (last : Int) : Option Int -> List Ch -> Int
 | _, [] => 0
 | prev, c :: r => if (okTime c.t && okIdx last c.k) = true then (if before prev c.t = true then 5 else chkChs last (some c.t) r) else 1
def big (t : Tab) : Bool := decide (250 < t.types.length \/ 1000 < t.chs.length)
def chk (t : Tab) : Int :=
 if big t = true then 2 else
 if t.types = [] then 5 else
 if chkTypes t.types = 0 then (if okIdx ((t.types.length : Int) - 1) t.first = true then chkChs ((t.types.length : Int) - 1) none t.chs else 1) else chkTypes t.types
def prevOf (l : List Ch) : Nat -> Option Int
 | 0 => none
 | k + 1 => (l[k]?).map (·.t)
def tyAt (w : World) (b o : Nat) (x : Ty) : Prop :=
 w.cell? ⟨b, o, none⟩ = some (.int .i64 x.off) /\ w.cell? ⟨b, o + 1, none⟩ = some (.bool x.save) /\ w.cell? ⟨b, o + 2, none⟩ = some (.string x.name)
def chAt (w : World) (b o : Nat) (x : Ch) : Prop :=
 w.cell? ⟨b, o, none⟩ = some (.int .i64 x.t) /\ w.cell? ⟨b, o + 1, none⟩ = some (.int .i64 x.k)
structure SlTy (w : World) (v : Value) (l : List Ty) : Prop where
 shape : ∃ p cap, v = .slice p l.length cap /\ (l ≠ [] -> ∃ b o, p = some ⟨b, o, none⟩ /\ b < w.heap.size /\ ∀ i (h : i < l.length), tyAt w b (o + i * 3) l[i])
 size : l.length <= maxLen
 names : ∀ x ∈ l, x.name.size <= maxLen
structure SlCh (w : World) (v : Value) (l : List Ch) : Prop where
 shape : ∃ p cap, v = .slice p l.length cap /\ (l ≠ [] -> ∃ b o, p = some ⟨b, o, none⟩ /\ b < w.heap.size /\ ∀ i (h : i < l.length), chAt w b (o + i * 2) l[i])
 size : l.length <= maxLen
structure TabAt (w : World) (v : Value) (t : Tab) : Prop where
 val : ∃ sv cv, v = .agg #[sv, .int .i64 t.first, cv] /\ SlTy w sv t.types /\ SlCh w cv t.chs
theorem tyAt.below {w w' : World} {b o : Nat} {x : Ty} (h : tyAt w b o x) (hb : Below w.heap.size w w') (hlt : b < w.heap.size) : tyAt w' b o x :=
 ⟨(hb.cell (p := ⟨b, o, none⟩) hlt).trans h.1, (hb.cell (p := ⟨b, o + 1, none⟩) hlt).trans h.2.1, (hb.cell (p := ⟨b, o + 2, none⟩) hlt).trans h.2.2⟩
theorem chAt.below {w w' : World} {b o : Nat} {x : Ch} (h : chAt w b o x) (hb : Below w.heap.size w w') (hlt : b < w.heap.size) : chAt w' b o x :=
 ⟨(hb.cell (p := ⟨b, o, none⟩) hlt).trans h.1, (hb.cell (p := ⟨b, o + 1, none⟩) hlt).trans h.2⟩
theorem SlTy.below {w w' : World} {v : Value} {l : List Ty} (h : SlTy w v l) (hb : Below w.heap.size w w') : SlTy w' v l := by
 obtain ⟨⟨p, cap, hv, hc⟩, h2, h3⟩ := h
 refine ⟨⟨p, cap, hv, fun hne => ?_⟩, h2, h3⟩
 obtain ⟨b, o, hp, hlt, hat⟩ := hc hne
 exact ⟨b, o, hp, Nat.lt_of_lt_of_le hlt hb.size, fun i h => (hat i h).below hb hlt⟩
theorem SlCh.below {w w' : World} {v : Value} {l : List Ch} (h : SlCh w v l) (hb : Below w.heap.size w w') : SlCh w' v l := by
 obtain ⟨⟨p, cap, hv, hc⟩, h2⟩ := h
 refine ⟨⟨p, cap, hv, fun hne => ?_⟩, h2⟩
 obtain ⟨b, o, hp, hlt, hat⟩ := hc hne
 exact ⟨b, o, hp, Nat.lt_of_lt_of_le hlt hb.size, fun i h => (hat i h).below hb hlt⟩
theorem TabAt.below {w w' : World} {v : Value} {t : Tab} (h : TabAt w v t) (hb : Below w.heap.size w w') : TabAt w' v t := by
 obtain ⟨sv, cv, hv, h1, h2⟩ := h.val
 exact ⟨sv, cv, hv, h1.below hb, h2.below hb⟩
theorem chkTypes_drop (l : List Ty) (k : Nat) (h : k < l.length) (ho : okOff l[k].off = true) (ha : abbrB l[k].name = true) : chkTypes (l.drop k) = chkTypes (l.drop (k + 1)) := by
 rw [List.drop_eq_getElem_cons h]; simp [chkTypes, ho, ha]
theorem chkTypes_off (l : List Ty) (k : Nat) (h : k < l.length) (ho : okOff l[k].off = false) : chkTypes (l.drop k) = 1 := by
 rw [List.drop_eq_getElem_cons h]; simp [chkTypes, ho]
theorem chkTypes_abbr (l : List Ty) (k : Nat) (h : k < l.length) (ho : okOff l[k].off = true) (ha : abbrB l[k].name = false) : chkTypes (l.drop k) = 3 := by
 rw [List.drop_eq_getElem_cons h]; simp [chkTypes, ho, ha]
theorem chkChs_drop (last : Int) (l : List Ch) (k : Nat) (h : k < l.length) (ho : (okTime l[k].t && okIdx last l[k].k) = true) (hb : before (prevOf l k) l[k].t = false) :
 chkChs last (prevOf l k) (l.drop k) = chkChs last (prevOf l (k + 1)) (l.drop (k + 1)) := by
 rw [List.drop_eq_getElem_cons h]
 have e : prevOf l (k + 1) = some l[k].t := by simp [prevOf, h]
 rw [e]
 simp only [chkChs, ho, hb]; simp
theorem chkChs_bad (last : Int) (l : List Ch) (k : Nat) (h : k < l.length) (ho : (okTime l[k].t && okIdx last l[k].k) = false) :
 chkChs last (prevOf l k) (l.drop k) = 1 := by
 rw [List.drop_eq_getElem_cons h]; simp only [chkChs, ho]; simp
theorem chkChs_back (last : Int) (l : List Ch) (k : Nat) (h : k < l.length) (ho : (okTime l[k].t && okIdx last l[k].k) = true) (hb : before (prevOf l k) l[k].t = true) :
 chkChs last (prevOf l k) (l.drop k) = 5 := by
 rw [List.drop_eq_getElem_cons h]; simp only [chkChs, ho, hb]; simp
end Go.Proofs.YtomahddiclkepaaGreatDoor
