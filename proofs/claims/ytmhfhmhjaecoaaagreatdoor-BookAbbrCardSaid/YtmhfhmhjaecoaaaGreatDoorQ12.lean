/- turns: what Make and Of answer, in plain words; rows of turns. book.Parse: what is kept of a book under way, and the book that it is: plain facts. book.Parse: the walk. booked(): the closed fact of books' texts. A law's argument of type Rule, as it comes in. A law's argument of type Book, as it comes in. -/
import Derived.Test.YtmhfhmhjaecoaaaGreatDoorQ11
import Derived.Test.YtmhfhmhjaecoaaaGreatDoorQ07
import Derived.Laws.StructEq
import Derived.Test.YtmhfhmhjaecoaaaGreatDoorQ09
import Derived.Test.YtmhfhmhjaecoaaaGreatDoorQ01
import Derived.Deep.Slices
import Derived.Deep.Fields
import Derived.ChangeSame
import Derived.Lib.SmallJoins
import Derived.Test.YtmhfhmhjaecoaaaGreatDoorQ06
import Derived.SizedLaws
namespace Go.Proofs.YtmhfhmhjaecoaaaGreatDoor
open Go.RowKit Go.Joins
open Classical
set_option linter.unusedVariables false
set_option linter.unusedSimpArgs false

def MakeSays : Prop := ∀ (rules : List Ru) (nm : ByteArray) (off : Int) (rv : Value) (w : World) (hR : RowsAt (fun r : Ru => (ruCells r).toList) 11 w.heap.size w rv rules) (ho : ∀ r ∈ rules, OkRu r) (hl : rules.length ≤ 40) (hf1 : -75600 ≤ off) (hf2 : off ≤ 75600),
    Calls Tryz.prog 117 #[rv, .string nm, .int .i64 off] w (MakePost rules nm off w)
/-- what turns.Of answers -/
def ofR (b : Bk) (nm : ByteArray) (off : Int) : Int × List Tn :=
  if bkChk b ≠ 0 then (bkChk b, []) else if off < -64800 ∨ 64800 < off then (1, []) else mkR b.rules nm off
def TnPost (R : Int × List Tn) (w : World) (e : Ending) (w' : World) : Prop :=
  ∃ vo, e = .returned (.tuple #[vo, .int .i64 R.1]) ∧ w'.ownsRow w.heap.size 195 3 vo R.2.length (tnCells R.2) ∧ Below w.heap.size w w'
theorem TnPost.bad {R : Int × List Tn} {w w' : World} {c : Int} (h : R = (c, [])) (hb : Below w.heap.size w w') : TnPost R w (.returned (.tuple #[.slice none 0 0, .int .i64 c])) w' := by
  refine ⟨_, by rw [h], by rw [h]; exact World.ownsRow_nil _ _ _ _, hb⟩
theorem ofR_bad {b : Bk} {nm : ByteArray} {off : Int} (h : bkChk b ≠ 0) : ofR b nm off = (bkChk b, []) := by unfold ofR; rw [if_pos h]
theorem ofR_1 {b : Bk} {nm : ByteArray} {off : Int} (h : bkChk b = 0) (h1 : off < -64800 ∨ 64800 < off) : ofR b nm off = (1, []) := by unfold ofR; rw [if_neg (fun g => g h), if_pos h1]
theorem ofR_mk {b : Bk} {nm : ByteArray} {off : Int} (h : bkChk b = 0) (h1 : ¬ (off < -64800 ∨ 64800 < off)) : ofR b nm off = mkR b.rules nm off := by unfold ofR; rw [if_neg (fun g => g h), if_neg h1]
/-- a book that may be: its rules may be -/
theorem bk_rules {b : Bk} (h : bkChk b = 0) : b.rules.length ≤ 40 ∧ ∀ r ∈ b.rules, OkRu r := by
  unfold bkChk at h
  split at h
  · cases h
  · rename_i h1
    split at h
    · exact absurd h (by assumption)
    · rename_i h2
      refine ⟨by omega, fun r hr => ru_ok ?_⟩
      exact (firstE_zero ruChk b.rules).1 (Classical.not_not.1 h2) r hr

theorem BookAt.base {B B' : Nat} {W : World} {rv zv lv : Value} {b : Bk} (h : BookAt B W rv zv lv b) (hB : B ≤ B') : BookAt B' W rv zv lv b :=
  ⟨h.r.mono hB, h.z.mono hB, fun z hz => (h.e z hz).mono hB, h.l.mono hB, h.rs, h.zs, h.ls⟩

theorem own_rowsT {W : World} {B : Nat} {v : Value} {l : List Tn} (h : W.ownsRow B 195 3 v l.length (tnCells l)) (hl : l.length ≤ 100000) : RowsAt tnC 3 W.heap.size W v l := by
  rcases h.2 with ⟨rfl, h0⟩ | ⟨g, cap, cur, rfl, hb, hg, hnc, hcm, hcs, htake⟩
  · have : l = [] := List.eq_nil_of_length_eq_zero h0
    subst this
    exact ⟨none, 0, rfl, ⟨by simp, by simp⟩, fun h => absurd rfl h⟩
  · have hc : ∀ i u, (tnCells l)[i]? = some u → W.cell? ⟨g, i, none⟩ = some u := by
      intro i u hu
      rw [cell_of_row W g i cur _ (0, 0) hg]
      rw [← htake, List.getElem?_take] at hu
      split at hu
      · simpa using hu
      · cases hu
    refine ⟨_, cap, rfl, ⟨by omega, hnc⟩, fun _ => ⟨g, 0, rfl, (Array.getElem?_eq_some_iff.1 hg).1, fun i hi j u hu => ?_⟩⟩
    obtain ⟨k1, k2, k3⟩ := tnCells_get l i hi
    rw [Nat.zero_add]
    match j, hu with
    | 0, hu => injection hu with hu; subst hu; exact hc _ _ k1
    | 1, hu => injection hu with hu; subst hu; exact hc _ _ k2
    | 2, hu => injection hu with hu; subst hu; exact hc _ _ k3
def lastB (off save : Int) (x : Int × Ru) (last : Option Int) : Bool := match last with | none => false | some m => decide (clkT off save x ≤ m)
theorem outF_some {off save : Int} {last : Option Int} {x : Int × Ru} {r : List (Int × Ru)} {l : List Tn} (h : outF off save last (x :: r) = some l) : lastB off save x last = false ∧ ∃ t, outF off x.2.sv (some (clkT off save x)) r = some t ∧ l = ⟨clkT off save x, x.2.sv, x.2.lt⟩ :: t := by
  have e : outF off save last (x :: r) = if lastB off save x last = true then none else (outF off x.2.sv (some (clkT off save x)) r).map fun l => ⟨clkT off save x, x.2.sv, x.2.lt⟩ :: l := outF_cons ..
  rw [e] at h
  by_cases hb : lastB off save x last = true
  · rw [if_pos hb] at h; cases h
  · rw [if_neg hb] at h
    cases e2 : outF off x.2.sv (some (clkT off save x)) r with
    | none => rw [e2] at h; cases h
    | some t =>
      rw [e2] at h
      simp only [Option.map_some, Option.some.injEq] at h
      exact ⟨by simpa using hb, t, rfl, h.symm⟩
theorem outF_len (off : Int) : ∀ (S : List (Int × Ru)) (save : Int) (last : Option Int) (l : List Tn), outF off save last S = some l → l.length = S.length := by
  intro S
  induction S with
  | nil => intro save last l h; unfold outF at h; injection h with h; subst h; rfl
  | cons x r ih =>
    intro save last l h
    obtain ⟨-, t, e, rfl⟩ := outF_some h
    simp [ih _ _ _ e]
theorem outF_rise (off : Int) : ∀ (S : List (Int × Ru)) (save : Int) (last : Option Int) (l : List Tn), outF off save last S = some l → (∀ m, last = some m → ∀ h : 0 < l.length, m < l[0].a) ∧ ∀ i (h : i + 1 < l.length), l[i].a < l[i + 1].a := by
  intro S
  induction S with
  | nil =>
    intro save last l h
    unfold outF at h
    injection h with h
    subst h
    exact ⟨fun m _ h => absurd h (by simp), fun i h => absurd h (by simp)⟩
  | cons x r ih =>
    intro save last l h
    obtain ⟨hno, t, e, rfl⟩ := outF_some h
    obtain ⟨h1, h2⟩ := ih _ _ _ e
    refine ⟨fun m hm _ => ?_, fun i hi => ?_⟩
    · subst hm
      simp [lastB] at hno
      simpa using hno
    · cases i with
      | zero => exact h1 _ rfl (by simpa using hi)
      | succ i => exact h2 i (by simpa using hi)
theorem srt_len (m : List (Int × Ru)) : (srt m).length = m.length := List.length_mergeSort ..
theorem mkR_len {rules : List Ru} (ho : ∀ r ∈ rules, OkRu r) (nm : ByteArray) (off : Int) : (mkR rules nm off).2.length ≤ 1500 ∧ ((mkR rules nm off).1 = 0 → ((mkR rules nm off).2.length : Int) = yearsOf rules nm) ∧ ((mkR rules nm off).1 ≠ 0 → (mkR rules nm off).2 = []) := by
  unfold mkR
  split
  · exact ⟨by simp, (fun h => by cases h), fun _ => rfl⟩
  · split
    · exact ⟨by simp, (fun h => by cases h), fun _ => rfl⟩
    · rename_i hy
      cases e : outF off 0 none (srt (nomsOf dayN rules nm)) with
      | none => exact ⟨by simp, (fun h => by cases h), fun _ => rfl⟩
      | some l =>
        have h1 := outF_len _ _ _ _ _ e
        rw [srt_len] at h1
        have h2 := nomsOf_len dayN nm rules fun r hr => (ho r hr).t1
        have h3 := (yearsOf_bd nm rules fun r hr => by have o := ho r hr; exact ⟨o.f1, o.t1, o.t2⟩).1
        exact ⟨by show l.length ≤ 1500; omega, fun _ => by show (l.length : Int) = _; omega, fun h => absurd rfl h⟩
theorem ofR_len (b : Bk) (nm : ByteArray) (off : Int) : (ofR b nm off).2.length ≤ 1500 := by
  unfold ofR
  split
  · simp
  · rename_i h
    split
    · simp
    · exact (mkR_len (bk_rules (Classical.not_not.1 h)).2 nm off).1
/-- one struct in a row of its own -/
theorem rows_one {α : Type} {cells : α → List Value} {k B g : Nat} {W : World} {x : α} {T : TypeId} (h : W.heap[g]? = some (.cells (cells x).toArray T (0, 0))) (hB : g < B) : RowsAt cells k B W (.slice (some ⟨g, 0, none⟩) 1 1) [x] := by
  refine ⟨_, 1, rfl, ⟨by simp, by simp⟩, fun _ => ⟨g, 0, rfl, hB, fun i hi j u hu => ?_⟩⟩
  obtain rfl : i = 0 := by simpa using hi
  rw [Nat.zero_mul, Nat.zero_add, cell_of_row W g j _ _ (0, 0) h]
  simpa using hu
theorem rows_nil {α : Type} {cells : α → List Value} {k B : Nat} {W : World} : RowsAt cells k B W (.slice none 0 0) [] := ⟨none, 0, rfl, ⟨by simp, by simp⟩, fun h => absurd rfl h⟩
theorem book_rules {rules : List Ru} {B : Nat} {W : World} {rv : Value} (h : RowsAt (fun r : Ru => (ruCells r).toList) 11 B W rv rules) (hs : ∀ r ∈ rules, SzR r) : BookAt B W rv (.slice none 0 0) (.slice none 0 0) ⟨rules, [], []⟩ :=
  ⟨h, rows_nil, fun z hz => absurd hz (List.not_mem_nil), rows_nil, hs, fun z hz => absurd hz (List.not_mem_nil), fun z hz => absurd hz (List.not_mem_nil)⟩
theorem chk_rules {rules : List Ru} (h : rules.length ≤ 40) (ho : ∀ r ∈ rules, OkRu r) : bkChk ⟨rules, [], []⟩ = 0 := by
  unfold bkChk
  have h1 : firstE ruChk rules = 0 := (firstE_zero ruChk rules).2 fun r hr => ok_ru (ho r hr)
  rw [if_neg (by simp; omega), if_neg (fun g => g h1)]
  rfl
theorem ofR_ok {b : Bk} {nm : ByteArray} {off : Int} (h : (ofR b nm off).1 = 0) : bkChk b = 0 ∧ ofR b nm off = mkR b.rules nm off := by
  by_cases h1 : bkChk b = 0
  · by_cases h2 : off < -64800 ∨ 64800 < off
    · rw [ofR_1 h1 h2] at h; cases h
    · exact ⟨h1, ofR_mk h1 h2⟩
  · rw [ofR_bad h1] at h; exact absurd h h1
theorem mkR_ok {rules : List Ru} {nm : ByteArray} {off : Int} (h : (mkR rules nm off).1 = 0) : outF off 0 none (srt (nomsOf dayN rules nm)) = some (mkR rules nm off).2 := by
  unfold mkR at h ⊢
  by_cases h1 : (rules.any fun r => decide (r.nm = nm)) = false
  · rw [if_pos h1] at h; cases h
  · rw [if_neg h1] at h ⊢
    by_cases h2 : 1500 < yearsOf rules nm
    · rw [if_pos h2] at h; cases h
    · rw [if_neg h2] at h ⊢
      cases e : outF off 0 none (srt (nomsOf dayN rules nm)) with
      | none => rw [e] at h; cases h
      | some l => rfl
theorem ofR_bad2 {b : Bk} {nm : ByteArray} {off : Int} (h : (ofR b nm off).1 ≠ 0) : (ofR b nm off).2 = [] := by
  by_cases h1 : bkChk b = 0
  · by_cases h2 : off < -64800 ∨ 64800 < off
    · rw [ofR_1 h1 h2]
    · rw [ofR_mk h1 h2] at h ⊢
      exact (mkR_len (bk_rules h1).2 nm off).2.2 h
  · rw [ofR_bad h1]
def Rises (l : List Tn) : Prop := ∀ i (h : i + 1 < l.length), l[i].a < l[i + 1].a
theorem ofR_rise {b : Bk} {nm : ByteArray} {off : Int} (h : (ofR b nm off).1 = 0) : Rises (ofR b nm off).2 ∧ ((ofR b nm off).2.length : Int) = yearsOf b.rules nm ∧ b.rules.length ≤ 40 ∧ ∀ r ∈ b.rules, OkRu r := by
  obtain ⟨h1, h2⟩ := ofR_ok h
  obtain ⟨r1, r2⟩ := bk_rules h1
  rw [h2] at h ⊢
  exact ⟨(outF_rise _ _ _ _ _ (mkR_ok h)).2, (mkR_len r2 nm off).2.1 h, r1, r2⟩

theorem flat_get {α : Type} {cells : α → List Value} {k : Nat} (hk : ∀ x, (cells x).length = k) : ∀ (l : List α) (i : Nat) (h : i < l.length) (j : Nat), j < k → (l.flatMap cells)[i * k + j]? = (cells l[i])[j]?
  | [], i, h, _, _ => absurd h (by simp)
  | x :: r, 0, _, j, hj => by
    rw [List.flatMap_cons, Nat.zero_mul, Nat.zero_add, List.getElem?_append_left (by rw [hk]; exact hj)]
    rfl
  | x :: r, i + 1, h, j, hj => by
    have := flat_get hk r i (by simpa using h) j hj
    rw [List.flatMap_cons, List.getElem?_append_right (by rw [hk, Nat.add_mul]; omega), hk, show (i + 1) * k + j - k = i * k + j by rw [Nat.add_mul]; omega, this]
    rfl
theorem own_rowsG {α : Type} {cells : α → List Value} {k : Nat} (hk : ∀ x, (cells x).length = k) {W : World} {B : Nat} {T : TypeId} {v : Value} {l : List α} (h : W.ownsRow B T k v l.length (l.flatMap cells)) (hl : l.length ≤ 100000) : RowsAt cells k W.heap.size W v l := by
  rcases h.2 with ⟨rfl, h0⟩ | ⟨g, cap, cur, rfl, hb, hg, hnc, hcm, hcs, htake⟩
  · have : l = [] := List.eq_nil_of_length_eq_zero h0
    subst this
    exact ⟨none, 0, rfl, ⟨by simp, by simp⟩, fun h => absurd rfl h⟩
  · have hc : ∀ i u, (l.flatMap cells)[i]? = some u → W.cell? ⟨g, i, none⟩ = some u := by
      intro i u hu
      rw [cell_of_row W g i cur _ (0, 0) hg]
      rw [← htake, List.getElem?_take] at hu
      split at hu
      · simpa using hu
      · cases hu
    refine ⟨_, cap, rfl, ⟨by omega, hnc⟩, fun _ => ⟨g, 0, rfl, (Array.getElem?_eq_some_iff.1 hg).1, fun i hi j u hu => ?_⟩⟩
    rw [Nat.zero_add]
    have hj : j < k := by rw [← hk l[i]]; exact (List.getElem?_eq_some_iff.1 hu).1
    exact hc _ _ ((flat_get hk l i hi j hj).trans hu)

end Go.Proofs.YtmhfhmhjaecoaaaGreatDoor
namespace Go.Proofs.YtmhfhmhjaecoaaaGreatDoor
open Go.RowKit Go.Joins
open Classical
set_option linter.unusedVariables false
set_option linter.unusedSimpArgs false

structure RdOk (st : RdS) (k : Nat) : Prop where
  r : st.rules.length ≤ k
  z : st.zones.length ≤ k
  l : st.links.length ≤ k
  e : ∀ i, (zD st.zones i).2.length ≤ k
  n : st.stage = 2 → st.zones ≠ []
  rs : ∀ r ∈ st.rules, SzR r
  zs : ∀ z ∈ st.zones, z.1.size ≤ 60000 ∧ ∀ x ∈ z.2, SzE x
  ls : ∀ x ∈ st.links, x.nm.size ≤ 60000 ∧ x.tg.size ≤ 60000
theorem RdOk.sz {st : RdS} {k : Nat} (h : RdOk st k) (hk : k ≤ 100000) : RdSz st := ⟨by have := h.r; omega, by have := h.z; omega, by have := h.l; omega, fun i => by have := h.e i; omega, h.n⟩
theorem rdOk_0 : RdOk rd0 0 := ⟨Nat.le_refl _, Nat.le_refl _, Nat.le_refl _, fun i => Nat.le_refl _, fun h => absurd h (by decide), fun r h => absurd h (List.not_mem_nil), fun r h => absurd h (List.not_mem_nil), fun r h => absurd h (List.not_mem_nil)⟩
theorem abbr_sizeP {s : ByteArray} (h : abbrB s = true) : s.size ≤ 8 := by
  unfold abbrB allB at h
  simp only [Bool.and_eq_true, decide_eq_true_eq] at h
  omega
theorem okRu_sz {r : Ru} (o : OkRu r) : SzR r := by
  refine ⟨Nat.le_trans (okRu_nm o) (by decide), ?_⟩
  rcases o.lt with h | h
  · have e : r.lt.size = 1 := by rw [Lib.size_eq, ← ByteArray.toList_eq, h]; rfl
    omega
  · have := abbr_sizeP h
    omega
theorem zD_mem {zs : List (ByteArray × List Er)} {i : Nat} (h : i < zs.length) : zD zs i ∈ zs := by
  unfold zD
  rw [List.getD_eq_getElem?_getD, List.getElem?_eq_getElem h]
  exact List.getElem_mem h
theorem zD_out {zs : List (ByteArray × List Er)} {i : Nat} (h : zs.length ≤ i) : zD zs i = (⟨#[]⟩, []) := by
  unfold zD
  rw [List.getD_eq_getElem?_getD, List.getElem?_eq_none h]
  rfl
theorem eraL_sz {x1 x2 x3 : List UInt8} {w4 : Option (List UInt8)} {x : Er} (h2 : x2.length ≤ 60000) (h3 : x3.length ≤ 60000) (h : eraL x1 x2 x3 w4 = some x) : SzE x := by
  have e0 : eraL x1 x2 x3 w4 = eraU x1 x2 x3 (uOf w4) := rfl
  rw [e0] at h
  unfold eraU at h
  have hu : (uOf w4).2 = 0 → -9223372036854775808 ≤ (uOf w4).1 ∧ (uOf w4).1 ≤ 9223372036854775807 := by
    intro hz
    cases w4 with
    | none => exact ⟨by decide, by decide⟩
    | some y =>
      have h := (rdStamp_ok (l := y) hz).1
      unfold inT at h
      show -9223372036854775808 ≤ (rdStamp y).1 ∧ (rdStamp y).1 ≤ 9223372036854775807
      omega
  split at h
  · cases h
  rename_i g1
  have g1 : (rdSpan x1).2 = 0 := Classical.not_not.1 g1
  have s1 := (rdSpan_ok g1).1
  unfold inS at s1
  split at h
  · split at h
    · cases h
    rename_i g2
    rw [not_or] at g2
    have g3 := Classical.not_not.1 g2.1
    have s2 := (rdSpan_ok g3).1
    unfold inS at s2
    have s3 := hu (Classical.not_not.1 g2.2)
    injection h with h
    subst h
    exact ⟨by show ByteArray.size ⟨#[]⟩ ≤ _; decide, by show (txt x3).size ≤ _; rw [txt_size]; omega, by show _ ≤ (rdSpan x1).1; omega, by show (rdSpan x1).1 ≤ _; omega, by show _ ≤ (rdSpan (Lib.trimPrefix x2 [45])).1; omega, by show (rdSpan (Lib.trimPrefix x2 [45])).1 ≤ _; omega, s3.1, s3.2⟩
  · split at h
    · cases h
    rename_i g2
    rw [not_or] at g2
    have s3 := hu (Classical.not_not.1 g2.2)
    injection h with h
    subst h
    exact ⟨by show (txt x2).size ≤ _; rw [txt_size]; omega, by show (txt x3).size ≤ _; rw [txt_size]; omega, by show _ ≤ (rdSpan x1).1; omega, by show (rdSpan x1).1 ≤ _; omega, by show _ ≤ (0 : Int); decide, by show (0 : Int) ≤ _; decide, s3.1, s3.2⟩
theorem getD_sm {ws : List (List UInt8)} (h : ∀ x ∈ ws, x.length ≤ 60000) (k : Nat) : (ws.getD k []).length ≤ 60000 := by
  by_cases g : k < ws.length
  · rw [getD_in _ _ g]; exact h _ (List.getElem_mem g)
  · rw [getD_out _ _ (by omega)]; exact Nat.zero_le _
theorem line_ok {st st' : RdS} {k : Nat} {l : List UInt8} (o : RdOk st k) (hl : l.length ≤ 60000) (h : lineF st l = some st') : RdOk st' (k + 1) := by
  have hw : ∀ x ∈ splitC 32 l, x.length ≤ 60000 := fun x hx => Nat.le_trans (splitC_small 32 l x hx) hl
  have hg := getD_sm hw
  have tz : ∀ j, (txt ((splitC 32 l).getD j [])).size ≤ 60000 := fun j => by rw [txt_size]; exact hg j
  have a1 := o.r
  have a2 := o.z
  have a3 := o.l
  unfold lineF at h
  split at h
  · split at h
    · rename_i g
      injection h with h
      subst h
      refine ⟨by show (st.rules ++ [_]).length ≤ _; rw [List.length_append]; show st.rules.length + 1 ≤ _; omega, by show st.zones.length ≤ _; omega, by show st.links.length ≤ _; omega, fun i => Nat.le_succ_of_le (o.e i), o.n, ?_, o.zs, o.ls⟩
      intro r hr
      rcases List.mem_append.1 hr with hr | hr
      · exact o.rs r hr
      · rw [List.mem_singleton.1 hr]; exact okRu_sz (rdRule_ok g).1
    · cases h
  split at h
  · injection h with h
    subst h
    refine ⟨by show st.rules.length ≤ _; omega, by show (st.zones ++ [_]).length ≤ _; rw [List.length_append]; show st.zones.length + 1 ≤ _; omega, by show st.links.length ≤ _; omega, fun i => ?_, fun _ => by show st.zones ++ [_] ≠ []; simp, o.rs, ?_, o.ls⟩
    · show (zD (st.zones ++ [(txt ((splitC 32 l).getD 1 []), [])]) i).2.length ≤ _
      rcases Nat.lt_trichotomy i st.zones.length with g | g | g
      · rw [(zD_snoc _ _ i).1 g]; exact Nat.le_succ_of_le (o.e i)
      · rw [(zD_snoc _ _ i).2 g]; exact Nat.zero_le _
      · rw [zD_out (by rw [List.length_append]; show st.zones.length + 1 ≤ i; omega)]; exact Nat.zero_le _
    · intro z hz
      rcases List.mem_append.1 hz with hz | hz
      · exact o.zs z hz
      · rw [List.mem_singleton.1 hz]; exact ⟨tz 1, fun x hx => absurd hx (List.not_mem_nil)⟩
  split at h
  · unfold eraF at h
    split at h
    · cases h
    rename_i g
    rw [not_or] at g
    have hst := Classical.not_not.1 g.1
    split at h
    · cases h
    rename_i x hx
    injection h with h
    subst h
    have hsx := eraL_sz (hg 2) (hg 3) hx
    have hnz : 0 < st.zones.length := List.length_pos_iff.2 (o.n hst)
    refine ⟨by show st.rules.length ≤ _; omega, by show (addEra st.zones x).length ≤ _; rw [addEra_length]; omega, by show st.links.length ≤ _; omega, fun i => ?_, fun _ => ?_, o.rs, ?_, o.ls⟩
    · show (zD (addEra st.zones x) i).2.length ≤ _
      unfold addEra
      rw [zD_set _ _ _ _ (by omega)]
      split
      · show ((zD st.zones (st.zones.length - 1)).2 ++ [x]).length ≤ _
        have := o.e (st.zones.length - 1)
        rw [List.length_append]; show _ + 1 ≤ _; omega
      · exact Nat.le_succ_of_le (o.e i)
    · show addEra st.zones x ≠ []
      intro e
      have := addEra_length st.zones x
      rw [e] at this
      simp at this
      omega
    · intro z hz
      have hz : z ∈ st.zones.set (st.zones.length - 1) ((zD st.zones (st.zones.length - 1)).1, (zD st.zones (st.zones.length - 1)).2 ++ [x]) := hz
      have hm := zD_mem (zs := st.zones) (i := st.zones.length - 1) (by omega)
      rcases List.mem_or_eq_of_mem_set hz with hz | rfl
      · exact o.zs z hz
      · refine ⟨(o.zs _ hm).1, fun y hy => ?_⟩
        rcases List.mem_append.1 hy with hy | hy
        · exact (o.zs _ hm).2 y hy
        · rw [List.mem_singleton.1 hy]; exact hsx
  split at h
  · injection h with h
    subst h
    refine ⟨by show st.rules.length ≤ _; omega, by show st.zones.length ≤ _; omega, by show (st.links ++ [_]).length ≤ _; rw [List.length_append]; show st.links.length + 1 ≤ _; omega, fun i => Nat.le_succ_of_le (o.e i), fun e => absurd (show (3 : Int) = 2 from e) (by decide), o.rs, o.zs, ?_⟩
    intro x hx
    rcases List.mem_append.1 hx with hx | hx
    · exact o.ls x hx
    · rw [List.mem_singleton.1 hx]; exact ⟨tz 1, tz 2⟩
  · cases h

/-! the book -/
def zosE : List (ByteArray × List Er) → List Value → List Zo
  | z :: zs, e :: es => ⟨z.1, e, z.2⟩ :: zosE zs es
  | _, _ => []
theorem zosE_len : ∀ (zs : List (ByteArray × List Er)) (es : List Value), zs.length = es.length → (zosE zs es).length = zs.length
  | [], [], _ => rfl
  | [], _ :: _, h => by cases h
  | _ :: _, [], h => by cases h
  | z :: zs, e :: es, h => by
    have h : zs.length = es.length := by simpa using h
    show (zosE zs es).length + 1 = zs.length + 1
    rw [zosE_len zs es h]
theorem zosE_get : ∀ (zs : List (ByteArray × List Er)) (es : List Value), zs.length = es.length → ∀ (i : Nat) (h : i < (zosE zs es).length) (h2 : i < es.length), (zosE zs es)[i] = ⟨(zD zs i).1, es[i], (zD zs i).2⟩
  | [], [], _, i, h, _ => absurd h (Nat.not_lt_zero _)
  | [], _ :: _, h, _, _, _ => by cases h
  | _ :: _, [], h, _, _, _ => by cases h
  | z :: zs, e :: es, _, 0, _, _ => rfl
  | z :: zs, e :: es, h, i + 1, h1, h2 => by
    have h : zs.length = es.length := by simpa using h
    have h1 : i < (zosE zs es).length := by simpa [zosE] using h1
    have h2 : i < es.length := by simpa using h2
    exact zosE_get zs es h i h1 h2
theorem zosE_cs : ∀ (zs : List (ByteArray × List Er)) (es : List Value), zoCs zs es = (zosE zs es).flatMap zoCells
  | z :: zs, e :: es => by
    show .string z.1 :: e :: zoCs zs es = _
    rw [zosE_cs zs es]; rfl
  | [], _ => rfl
  | _ :: _, [] => rfl
def clrZ (z : Zo) : Zo := ⟨z.nm, undef, z.eras⟩
theorem any_clr (zs : List Zo) (n : ByteArray) : ((zs.map clrZ).any fun y => decide (y.nm = n)) = zs.any fun y => decide (y.nm = n) := by
  rw [List.any_map]; rfl
theorem firstE_congr {α : Type} {f g : α → Int} : ∀ (l : List α), (∀ x ∈ l, f x = g x) → firstE f l = firstE g l
  | [], _ => rfl
  | x :: r, h => by
    unfold firstE
    rw [h x List.mem_cons_self, firstE_congr r fun y hy => h y (List.mem_cons_of_mem _ hy)]
/-- where the eras lie matters nothing to the book's check -/
theorem bkChk_clr (rs : List Ru) (zs : List Zo) (ls : List Lk) : bkChk ⟨rs, zs.map clrZ, ls⟩ = bkChk ⟨rs, zs, ls⟩ := by
  have hz : firstE (chkZ ⟨rs, zs.map clrZ, ls⟩) (List.range (zs.map clrZ).length) = firstE (chkZ ⟨rs, zs, ls⟩) (List.range zs.length) := by
    rw [List.length_map]
    refine firstE_congr _ fun i hi => ?_
    have hi := List.mem_range.1 hi
    have e1 := chkZ_at (⟨rs, zs.map clrZ, ls⟩ : Bk) i (by show i < (zs.map clrZ).length; rw [List.length_map]; exact hi)
    have e2 := chkZ_at (⟨rs, zs, ls⟩ : Bk) i hi
    refine e1.trans (Eq.trans ?_ e2.symm)
    show zoneChk rs ((zs.map clrZ).take i) ((zs.map clrZ)[i]'(by rw [List.length_map]; exact hi)) = zoneChk rs (zs.take i) zs[i]
    rw [List.getElem_map, ← List.map_take]
    unfold zoneChk
    have e3 := any_clr (zs.take i) zs[i].nm
    show (if nameB zs[i].nm = false then (3 : Int) else if (((zs.take i).map clrZ).any fun y => decide (y.nm = zs[i].nm)) = true then 7 else _) = _
    rw [e3]
    rfl
  have hlz : (zs.map clrZ).length = zs.length := List.length_map _
  have hl : firstE (chkL ⟨rs, zs.map clrZ, ls⟩) (List.range ls.length) = firstE (chkL ⟨rs, zs, ls⟩) (List.range ls.length) := by
    refine firstE_congr _ fun i hi => ?_
    have e : ∀ n, isZone ⟨rs, zs.map clrZ, ls⟩ n = isZone ⟨rs, zs, ls⟩ n := fun n => any_clr zs n
    unfold chkL linkChk
    rw [e, e]
  by_cases h0 : 40 < rs.length ∨ 20 < zs.length ∨ 20 < ls.length
  · have e1 := bkChk_2 (⟨rs, zs.map clrZ, ls⟩ : Bk) (by show 40 < rs.length ∨ 20 < (zs.map clrZ).length ∨ 20 < ls.length; rw [hlz]; exact h0)
    have e2 := bkChk_2 (⟨rs, zs, ls⟩ : Bk) h0
    exact e1.trans e2.symm
  · have h0' : ¬ (40 < (⟨rs, zs.map clrZ, ls⟩ : Bk).rules.length ∨ 20 < (⟨rs, zs.map clrZ, ls⟩ : Bk).zones.length ∨ 20 < (⟨rs, zs.map clrZ, ls⟩ : Bk).links.length) := by
      show ¬ (40 < rs.length ∨ 20 < (zs.map clrZ).length ∨ 20 < ls.length)
      rw [hlz]; exact h0
    by_cases h1 : firstE ruChk rs = 0
    · by_cases h2 : firstE (chkZ ⟨rs, zs, ls⟩) (List.range zs.length) = 0
      · exact (bkChk_l _ h0' h1 (hz.trans h2)).trans (hl.trans (bkChk_l (⟨rs, zs, ls⟩ : Bk) h0 h1 h2).symm)
      · exact (bkChk_z _ h0' h1 (fun g => h2 (hz.symm.trans g))).trans (hz.trans (bkChk_z (⟨rs, zs, ls⟩ : Bk) h0 h1 h2).symm)
    · exact (bkChk_r _ h0' h1).trans (bkChk_r (⟨rs, zs, ls⟩ : Bk) h0 h1).symm
theorem bkS_chk (st : RdS) (evs : List Value) (h : st.zones.length = evs.length) : bkChk (bkS st fun _ => undef) = bkChk ⟨st.rules, zosE st.zones evs, st.links⟩ := by
  rw [← bkChk_clr st.rules (zosE st.zones evs) st.links]
  have e : (st.zones.zipIdx.map fun z : (ByteArray × List Er) × Nat => (⟨z.1.1, undef, z.1.2⟩ : Zo)) = (zosE st.zones evs).map clrZ := by
    refine List.ext_getElem (by rw [List.length_map, List.length_map, List.length_zipIdx, zosE_len _ _ h]) fun i h1 h2 => ?_
    have hi : i < st.zones.length := by simpa using h1
    rw [List.getElem_map, List.getElem_map, List.getElem_zipIdx, zosE_get _ _ h i (by rw [zosE_len _ _ h]; exact hi) (by omega)]
    have hz : zD st.zones i = st.zones[i] := by unfold zD; rw [List.getD_eq_getElem?_getD, List.getElem?_eq_getElem hi]; rfl
    show (⟨st.zones[i].1, undef, st.zones[i].2⟩ : Zo) = ⟨(zD st.zones i).1, undef, (zD st.zones i).2⟩
    rw [hz]
  show bkChk ⟨st.rules, _, st.links⟩ = _
  rw [e]
/-- the book under way, as it lies in memory -/
theorem RdM.book {B R : Nat} {W : World} {rv zv lv : Value} {evs : List Value} {st : RdS} {k : Nat} (h : RdM B W R rv zv lv evs st) (o : RdOk st k) (hk : k ≤ 100000) : BookAt W.heap.size W rv zv lv ⟨st.rules, zosE st.zones evs, st.links⟩ := by
  have el := h.el
  have hl := zosE_len st.zones evs el
  have a1 := o.r
  have a2 := o.z
  have a3 := o.l
  have hz := h.zr
  rw [zosE_cs, ← hl] at hz
  refine ⟨own_rowsG (cells := fun r : Ru => (ruCells r).toList) (k := 11) (fun _ => rfl) h.rr (by show st.rules.length ≤ 100000; omega), own_rowsG (cells := zoCells) (k := 2) (fun _ => rfl) hz (by show (zosE st.zones evs).length ≤ 100000; omega), ?_, own_rowsG (cells := lkCells) (k := 2) (fun _ => rfl) h.lr (by show st.links.length ≤ 100000; omega), o.rs, ?_, fun x hx => ⟨Nat.le_trans (o.ls x hx).1 (by decide), Nat.le_trans (o.ls x hx).2 (by decide)⟩⟩
  · intro z hz
    obtain ⟨i, hi, rfl⟩ := List.mem_iff_getElem.1 hz
    have hi2 : i < evs.length := by have : i < (zosE st.zones evs).length := hi; omega
    have e := zosE_get st.zones evs el i hi hi2
    show RowsAt _ 5 W.heap.size W (zosE st.zones evs)[i].ev (zosE st.zones evs)[i].eras
    rw [e]
    have := o.e i
    exact own_rowsG (cells := fun x : Er => (erCells x).toList) (k := 5) (fun _ => rfl) (h.er i hi2) (by show (zD st.zones i).2.length ≤ 100000; omega)
  · intro z hz
    obtain ⟨i, hi, rfl⟩ := List.mem_iff_getElem.1 hz
    have hi2 : i < evs.length := by have : i < (zosE st.zones evs).length := hi; omega
    have e := zosE_get st.zones evs el i hi hi2
    show (zosE st.zones evs)[i].nm.size ≤ _ ∧ ∀ x ∈ (zosE st.zones evs)[i].eras, SzE x
    rw [e]
    have hm := o.zs _ (zD_mem (zs := st.zones) (i := i) (by omega))
    exact ⟨Nat.le_trans hm.1 (by decide), hm.2⟩
/-- the lines' way, step by step -/
theorem lines_step {ls : List (List UInt8)} {st : RdS} {k j : Nat} (hk : k < ls.length) : linesF st j (ls.drop k) = match lineF st ls[k] with | none => (none, j + 1) | some st' => linesF st' (j + 1) (ls.drop (k + 1)) := by
  rw [List.drop_eq_getElem_cons hk]
  rfl
theorem pf_large {l : List UInt8} (h : 60000 < l.length) : parseF l = (rd0, 0, 2) := by unfold parseF; rw [if_pos h]
theorem pf_nil {l : List UInt8} (h : l = []) : parseF l = (rd0, 0, 0) := by subst h; unfold parseF; rw [if_neg (by decide), if_pos rfl]
theorem pf_line {l : List UInt8} (h : ¬ 60000 < l.length) (h2 : l ≠ []) {k : Nat} (e : linesF rd0 0 (splitC 10 l) = (none, k)) : parseF l = (rd0, k, 3) := by unfold parseF; rw [if_neg h, if_neg h2, e]
theorem pf_end {l : List UInt8} (h : ¬ 60000 < l.length) (h2 : l ≠ []) {k : Nat} {st : RdS} (e : linesF rd0 0 (splitC 10 l) = (some st, k)) (hs : st.stage = 2) : parseF l = (rd0, k + 1, 3) := by unfold parseF; rw [if_neg h, if_neg h2, e]; exact if_pos hs
theorem pf_chk {l : List UInt8} (h : ¬ 60000 < l.length) (h2 : l ≠ []) {k : Nat} {st : RdS} (e : linesF rd0 0 (splitC 10 l) = (some st, k)) (hs : st.stage ≠ 2) (hc : bkChk (bkS st fun _ => undef) ≠ 0) : parseF l = (rd0, 0, bkChk (bkS st fun _ => undef)) := by unfold parseF; rw [if_neg h, if_neg h2, e]; exact (if_neg hs).trans (if_pos hc)
theorem pf_ok {l : List UInt8} (h : ¬ 60000 < l.length) (h2 : l ≠ []) {k : Nat} {st : RdS} (e : linesF rd0 0 (splitC 10 l) = (some st, k)) (hs : st.stage ≠ 2) (hc : bkChk (bkS st fun _ => undef) = 0) : parseF l = (st, 0, 0) := by unfold parseF; rw [if_neg h, if_neg h2, e]; exact (if_neg hs).trans (if_neg fun g => g hc)
end Go.Proofs.YtmhfhmhjaecoaaaGreatDoor
namespace Go.Proofs.YtmhfhmhjaecoaaaGreatDoor
open Go.RowKit Go.Joins
open Classical
set_option linter.unusedVariables false
set_option linter.unusedSimpArgs false

def PsPost (R : RdS × Nat × Int) (w : World) (e : Ending) (w' : World) : Prop :=
  Below w.heap.size w w' ∧ ∃ rv zv lv evs, e = .returned (.tuple #[.agg #[rv, zv, lv], .int .i64 (R.2.1 : Int), .int .i64 R.2.2]) ∧ R.1.zones.length = evs.length ∧ BookAt w'.heap.size w' rv zv lv ⟨R.1.rules, zosE R.1.zones evs, R.1.links⟩
theorem rows_nilP {α : Type} {cells : α → List Value} {k B : Nat} {W : World} : RowsAt cells k B W (.slice none 0 0) [] := ⟨none, 0, rfl, ⟨Nat.zero_le _, Nat.le_refl _⟩, fun h => absurd rfl h⟩
theorem PsPost.no {R : RdS × Nat × Int} {w w' : World} {n : Nat} {C m : Int} (h : R = (rd0, n, C)) (hm : m = (n : Int)) (hb : Below w.heap.size w w') : PsPost R w (.returned (.tuple #[.agg #[.slice none 0 0, .slice none 0 0, .slice none 0 0], .int .i64 m, .int .i64 C])) w' := by
  subst h
  subst hm
  exact ⟨hb, _, _, _, [], rfl, rfl, rows_nilP, rows_nilP, fun z hz => absurd hz (List.not_mem_nil), rows_nilP, fun z hz => absurd hz (List.not_mem_nil), fun z hz => absurd hz (List.not_mem_nil), fun z hz => absurd hz (List.not_mem_nil)⟩
theorem heap_setP {W : World} {g i : Nat} {cs : Array Value} {T : TypeId} (h : W.heap[g]? = some (.cells cs T (0, 0))) (v : Value) : (W.setCell ⟨g, i, none⟩ v).heap[g]? = some (.cells (cs.setIfInBounds i v) T (0, 0)) := by rw [heap_setCell_same W g i _ _ v h]
theorem end3P {W : World} {g : Nat} {a b c : Value} {T : TypeId} (h : W.heap[g]? = some (.cells #[a, b, c] T (0, 0))) (x y z : Value) :
    ∃ W', ((W.setCell ⟨g, 0, none⟩ x).setCell ⟨g, 1, none⟩ y).setCell ⟨g, 2, none⟩ z = W' ∧ Below g W W' ∧ W'.cell? ⟨g, 0, none⟩ = some x ∧ W'.cell? ⟨g, 1, none⟩ = some y ∧ W'.cell? ⟨g, 2, none⟩ = some z ∧ ∀ b, b ≠ g → W'.heap[b]? = W.heap[b]? := by
  have hr := heap_setP (i := 2) (heap_setP (i := 1) (heap_setP (i := 0) h x) y) z
  refine ⟨_, rfl, (((Below.refl _ _).setCell (by exact Nat.le_refl _) _).setCell (by exact Nat.le_refl _) _).setCell (by exact Nat.le_refl _) _, ?_, ?_, ?_, fun b hb => (Below.heap_setCell _ _ _ _ hb).trans ((Below.heap_setCell _ _ _ _ hb).trans (Below.heap_setCell _ _ _ _ hb))⟩
  · exact (cell_of_row _ _ 0 _ _ _ hr).trans rfl
  · exact (cell_of_row _ _ 1 _ _ _ hr).trans rfl
  · exact (cell_of_row _ _ 2 _ _ _ hr).trans rfl
structure Box3 (W : World) (P : Nat) : Prop where
  h : W.heap[P]? = some (.cells #[.slice none 0 0, .slice none 0 0, .slice none 0 0] 31 (0, 0))
theorem Box3.facts {W : World} {P : Nat} (h : Box3 W P) : W.cell? ⟨P, 0, none⟩ = some (.slice none 0 0) ∧ W.cell? ⟨P, 1, none⟩ = some (.slice none 0 0) ∧ W.cell? ⟨P, 2, none⟩ = some (.slice none 0 0) ∧ W.frozen? ⟨P, 0, none⟩ = false ∧ W.frozen? ⟨P, 1, none⟩ = false ∧ W.frozen? ⟨P, 2, none⟩ = false ∧ P < W.heap.size :=
  ⟨(cell_of_row W _ 0 _ _ _ h.h).trans rfl, (cell_of_row W _ 1 _ _ _ h.h).trans rfl, (cell_of_row W _ 2 _ _ _ h.h).trans rfl, by simp [World.frozen?, h.h], by simp [World.frozen?, h.h], by simp [World.frozen?, h.h], (Array.getElem?_eq_some_iff.mp h.h).1⟩
/-- the lines' row -/
def LnsAt (W : World) (A : Nat) (ls : List (List UInt8)) : Prop := ∃ cs fr, W.heap[A]? = some (.cells cs 9 fr) ∧ ∀ j (h : j < ls.length), W.cell? ⟨A, j, none⟩ = some (.string (txt ls[j]))
theorem LnsAt.keep {W W' : World} {A : Nat} {ls : List (List UInt8)} (h : LnsAt W A ls) (hk : StrKeep W W') : LnsAt W' A ls := by
  obtain ⟨cs, fr, h1, h2⟩ := h
  have e := hk A cs fr h1
  exact ⟨cs, fr, e.trans h1, fun j hj => (World.cell?_of_block (a := ⟨A, j, none⟩) e).trans (h2 j hj)⟩

theorem splitB_any (c : UInt8) (l : List UInt8) (w : World) (hl : l.length < 4294967281) (hm : MaxLen w) :
    Calls Tryz.prog 47 #[.string (txt l), .string (txt [c])] w fun e w' => ∃ A, e = .returned (.slice (some ⟨A, 0, none⟩) (splitC c l).length (splitC c l).length) ∧ w.heap.size ≤ A ∧ LnsAt w' A (splitC c l) ∧ Below w.heap.size w w' := by
  obtain ⟨m, hm⟩ := hm
  have hn : (splitC c l).length = Lib.countB (txt l) (txt [c]) + 1 := by
    rw [splitC_length]; unfold Lib.countB; rw [txt_data, txt_data, Lib.count_one]
  refine (Tryz.strings_Split (txt l) (txt [c]) m w (by rw [txt_size]; exact hl) hm (by rw [txt_size]; simp)).mono ?_
  rintro e w' ⟨rfl, rfl⟩
  rw [splitB_one]
  refine ⟨w.heap.size, by rw [hn], Nat.le_refl _, ⟨_, _, heap_alloc_new w _, ?_⟩, (Below.refl _ _).alloc (Nat.le_refl _) _⟩
  intro j h
  rw [cell_of_row _ _ _ _ _ _ (heap_alloc_new w _)]
  simp [h]
theorem RdM.keepB {B R : Nat} {W W' : World} {rv zv lv : Value} {evs : List Value} {st : RdS} (h : RdM B W R rv zv lv evs st) (hk : ∀ b, B ≤ b → b < W.heap.size → W'.heap[b]? = W.heap[b]?) : RdM B W' R rv zv lv evs st :=
  have kk : ∀ {e : TypeId} {s n : Nat} {v : Value} {xs : List Value}, W.ownsRow B e s v n xs → W'.ownsRow B e s v n xs := fun ho => own_keep ho fun g e => hk g (World.ownsRow.lt ho g e).1 (World.ownsRow.lt ho g e).2
  ⟨h.hR, (hk R h.hR h.lt).trans h.blk, kk h.rr, kk h.zr, h.el, fun i hi => kk (h.er i hi), h.ed, kk h.lr⟩
set_option maxRecDepth 100000 in
set_option maxHeartbeats 20000000 in
theorem bookParse_any (l : List UInt8) (w : World) (hl : l.length ≤ 140737488351232) (ht : Tab10 w) (ha : AscTab w) (he : NumErrs w) (hm : MaxLen w) :
    Calls Tryz.prog 20 #[.string (txt l)] w (PsPost (parseF l) w) := by
  obtain ⟨W0, eW⟩ : ∃ W0, w.alloc (.cells #[.slice none 0 0, .slice none 0 0, .slice none 0 0] 31) = W0 := ⟨_, rfl⟩
  obtain ⟨P, eP⟩ : ∃ P, w.heap.size = P := ⟨_, rfl⟩
  have hx0 : Box3 W0 P := ⟨by rw [← eW]; exact alloc_at _ _ _ eP.symm⟩
  have hb0 : Below w.heap.size w W0 := by rw [← eW]; exact alB _ _
  have hs0 : W0.heap.size = P + 1 := by rw [← eW, ← eP]; simp
  have HFIN : Hid (∀ W, Below P W0 W → Below w.heap.size w W) := by
    show ∀ W, _
    intro W hb
    rw [eP] at hb0 ⊢
    exact hb0.trans hb
  have HFA : Hid (∀ W, Below (P + 1) W0 W → Box3 W P ∧ Tab10 W ∧ AscTab W ∧ NumErrs W ∧ MaxLen W) := by
    show ∀ W, _
    intro W hb
    have hw := HFIN.out W (hb.mono (Nat.le_succ _))
    exact ⟨⟨(hb.block P (Nat.lt_succ_self _)).trans hx0.h⟩, ht.below hw, ha.below hw, he.below hw, hm.below hw⟩
  obtain ⟨R, eR⟩ : ∃ R, parseF l = R := ⟨_, rfl⟩
  rw [eR]
  have hsz : (txt l).size = l.length := txt_size l
  obtain ⟨z0, z1, z2, zf0, zf1, zf2, zl⟩ := hx0.facts
  have HEW := Lib.hid eW
  have HEP := Lib.hid eP
  have HX0 := Lib.hid hx0
  have HS0 := Lib.hid hs0
  have HER := Lib.hid eR
  clear eW eP hx0 hb0 hs0 ht ha he hm eR
  by_cases h60 : 60000 < l.length
  · have h60i : (60000 : Int) < ((txt l).size : Int) := by omega
    have HR := Lib.hid (HER.out.symm.trans (pf_large h60))
    go_enter Tryz.func20, Tryz.ntmps20
    go_upto_region 1 with fail
    rw [HEW.out, HEP.out]
    go_wp2_with fail
    obtain ⟨W9, e9, hb9, v0, v1, v2, -⟩ := end3P HX0.out.h (.slice none 0 0) (.slice none 0 0) (.slice none 0 0)
    rw [e9]
    exact bodyPost_ret (v := .tuple #[.agg #[.slice none 0 0, .slice none 0 0, .slice none 0 0], .int .i64 0, .int .i64 2]) (by simp [results, Tryz.results20, go_sem, v0, v1, v2]) rfl (PsPost.no HR.out rfl (HFIN.out _ hb9))
  have h60i : ¬ (60000 : Int) < ((txt l).size : Int) := by omega
  by_cases hnil : l = []
  · have HR := Lib.hid (HER.out.symm.trans (pf_nil hnil))
    have hq : ((txt l).toList == []) = true := by rw [hnil, ByteArray.toList_eq, txt_data]; rfl
    clear hnil
    go_enter Tryz.func20, Tryz.ntmps20
    go_upto_region 1 with fail
    rw [HEW.out, HEP.out]
    go_wp2_with fail
    obtain ⟨W9, e9, hb9, v0, v1, v2, -⟩ := end3P HX0.out.h (.slice none 0 0) (.slice none 0 0) (.slice none 0 0)
    rw [e9]
    exact bodyPost_ret (v := .tuple #[.agg #[.slice none 0 0, .slice none 0 0, .slice none 0 0], .int .i64 0, .int .i64 0]) (by simp [results, Tryz.results20, go_sem, v0, v1, v2]) rfl (PsPost.no HR.out rfl (HFIN.out _ hb9))
  have hq : ((txt l).toList == []) = false := by
    rw [ByteArray.toList_eq, txt_data]
    simpa using hnil
  have HNL := Lib.hid hnil
  obtain ⟨W1, e1⟩ : ∃ W1, W0.alloc (.cells #[.slice none 0 0, .slice none 0 0, .slice none 0 0, .int .i64 0] 114) = W1 := ⟨_, rfl⟩
  obtain ⟨rb, erb⟩ : ∃ rb, W0.heap.size = rb := ⟨_, rfl⟩
  have hrb : rb = P + 1 := by rw [← erb]; exact HS0.out
  have hx1 : W1.heap[rb]? = some (.cells #[.slice none 0 0, .slice none 0 0, .slice none 0 0, .int .i64 0] 114 (0, 0)) := by rw [← e1]; exact alloc_at _ _ _ erb.symm
  have hb1 : Below rb W0 W1 := by rw [← e1, ← erb]; exact alB _ _
  have hrd : RdM rb W1 rb (.slice none 0 0) (.slice none 0 0) (.slice none 0 0) [] rd0 :=
    ⟨Nat.le_refl _, hx1, World.ownsRow_nil _ _ _ _, World.ownsRow_nil _ _ _ _, rfl, fun i h => absurd h (Nat.not_lt_zero _), fun i j h => absurd h (Nat.not_lt_zero _), World.ownsRow_nil _ _ _ _⟩
  have hz1 : rb < W1.heap.size := (Array.getElem?_eq_some_iff.mp hx1).1
  have HE1 := Lib.hid e1
  have HRB := Lib.hid erb
  have HB1 := Lib.hid hb1
  have HRD := Lib.hid hrd
  have hf1 := HFA.out W1 (by rw [← hrb]; exact hb1)
  have HSP := Lib.hid (splitB_any 10 l W1 (by omega) hf1.2.2.2.2)
  have hsm := splitC_small 10 l
  have hcnt := splitC_length 10 l
  have hcl : l.count 10 ≤ l.length := List.count_le_length
  have HPL := Lib.hid (fun k => pf_line (l := l) h60 hnil (k := k))
  have HPE := Lib.hid (fun k st => pf_end (l := l) h60 hnil (k := k) (st := st))
  have HPC := Lib.hid (fun k st => pf_chk (l := l) h60 hnil (k := k) (st := st))
  have HPO := Lib.hid (fun k st => pf_ok (l := l) h60 hnil (k := k) (st := st))
  rw [HER.out] at HPL HPE HPC HPO
  obtain ⟨ls, els⟩ : ∃ ls, splitC 10 l = ls := ⟨_, rfl⟩
  rw [els] at HSP hsm hcnt HPL HPE HPC HPO
  have hln : ls.length ≤ 60001 := by omega
  have HSM := Lib.hid hsm
  have HRP := Lib.hid hrb
  have hPr : P < rb := by omega
  clear e1 erb hx1 hb1 hrd hf1 hsm hcnt hcl els hnil hrb hsz h60i HS0
  have h60i : ¬ (60000 : Int) < ((txt l).size : Int) := by rw [txt_size]; omega
  go_enter Tryz.func20, Tryz.ntmps20
  go_upto_region 1 with fail
  rw [HEW.out, HEP.out]
  go_upto_region 6 with fail
  rw [HE1.out, HRB.out]
  clear z0 z1 z2 zf0 zf1 zf2 zl
  go_wp2_with fail
  refine HSP.out.mono ?_
  rintro e w2 ⟨A, rfl, hA1, hlns, hb2⟩
  have HB2 := Lib.hid (HB1.out.trans (hb2.mono (Nat.le_of_lt hz1)))
  have HRD2 := Lib.hid (HRD.out.below hb2)
  have HLN := Lib.hid hlns
  have hz2 : rb < w2.heap.size := HRD2.out.lt
  clear hb2 hlns HSP hA1
  go_wp2_with fail
  go_loopw [25] (fun i wr => ∃ k : Nat, k ≤ ls.length ∧ i = .int .i64 k ∧ Hid (∃ st, RdOk st k ∧ linesF rd0 0 ls = linesF st k (ls.drop k) ∧ ∃ rv zv lv evs, RdM rb wr rb rv zv lv evs st) ∧ Hid (LnsAt wr A ls) ∧ Hid (Below rb W0 wr)) (fun i _ => ls.length - (intOf i).toNat)
  case atStart => exact ⟨0, Nat.zero_le _, rfl, Lib.hid ⟨rd0, rdOk_0, rfl, _, _, _, _, HRD2.out⟩, HLN, HB2⟩
  case round =>
    obtain ⟨k, hk, rfl, HST, HLR, HBR⟩ := hrel
    obtain ⟨st, hok, hli, rv, zv, lv, evs, hrd⟩ := HST.out
    have HOK := Lib.hid hok
    have HLI := Lib.hid hli
    have HRDr := Lib.hid hrd
    have hzr : rb < wr.heap.size := hrd.lt
    have hfa := HFA.out wr (by rw [← HRP.out]; exact HBR.out)
    obtain ⟨z0, z1, z2, zf0, zf1, zf2, zl⟩ := hfa.1.facts
    by_cases hkl : k < ls.length
    · obtain ⟨cs, fr, hA, hcs⟩ := HLR.out
      have c0 := hcs k hkl
      have hAl : A < wr.heap.size := (Array.getElem?_eq_some_iff.mp hA).1
      have HLS := Lib.hid (lines_step (ls := ls) (st := st) (k := k) (j := k) hkl)
      have hx60 : (ls[k]).length ≤ 60000 := Nat.le_trans (HSM.out _ (List.getElem_mem hkl)) (by omega)
      have HNX := Lib.hid (fun st' => line_ok (st' := st') hok hx60)
      have HCL := Lib.hid (rdLine_any rb rb rv zv lv evs st ls[k] wr hrd (hok.sz (by omega)) (Nat.le_of_lt hzr) hx60 hfa.2.1 hfa.2.2.1 hfa.2.2.2.1 hfa.2.2.2.2)
      obtain ⟨x, ex⟩ : ∃ x, ls[k] = x := ⟨_, rfl⟩
      rw [ex] at c0 HLS HNX HCL
      obtain ⟨N, eN⟩ : ∃ N, lineF st x = N := ⟨_, rfl⟩
      rw [eN] at HLS HNX HCL
      have hik : (k : Int) < (ls.length : Int) := by omega
      clear ex eN hA hcs hok hli hrd hfa z0 z1 z2 zf0 zf1 zf2 zl HST
      go_wp2_with fail
      refine HCL.out.mono ?_
      rintro e w3 ⟨rfl, hb3, hsk, hst⟩
      have HB3 := Lib.hid (HBR.out.trans hb3)
      have HL3 := Lib.hid (HLR.out.keep hsk)
      have hfa := HFA.out w3 (by rw [← HRP.out]; exact HB3.out)
      obtain ⟨z0, z1, z2, zf0, zf1, zf2, zl⟩ := hfa.1.facts
      have HBX := Lib.hid hfa.1
      have HSTx := Lib.hid hst
      clear hb3 hsk hst hfa HCL
      cases N with
      | none =>
        have HRz := Lib.hid (HPL.out (k + 1) (HLI.out.trans HLS.out))
        have hw1 : IntKind.i64.wrap ((k : Int) + 1) = (k : Int) + 1 := IntWalk.i64_in _ (by omega)
        go_wp2_with fail
        obtain ⟨W9, e9, hb9, v0, v1, v2, -⟩ := end3P HBX.out.h (.slice none 0 0) (.slice none 0 0) (.slice none 0 0)
        rw [e9]
        exact bodyPost_ret (v := .tuple #[.agg #[.slice none 0 0, .slice none 0 0, .slice none 0 0], .int .i64 ((k : Int) + 1), .int .i64 3]) (by simp [results, Tryz.results20, go_sem, v0, v1, v2]) rfl (PsPost.no HRz.out (by omega) (HFIN.out _ ((HB3.out.mono (by omega)).trans hb9)))
      | some st' =>
        clear z0 z1 z2 zf0 zf1 zf2
        go_wp2_with fail
        go_roundw
        case rel => exact ⟨k + 1, by omega, by go_num, Lib.hid ⟨st', HNX.out st' rfl, HLI.out.trans HLS.out, HSTx.out st' rfl⟩, HL3, HB3⟩
        case measure => simp [intOf]; omega
    · obtain rfl : k = ls.length := by omega
      have HQ : Hid (linesF rd0 0 ls = (some st, ls.length)) := by show _ = _; rw [hli, List.drop_length]; rfl
      have hbk := hrd.book hok (by omega)
      have hcq := bkS_chk st evs hrd.el
      obtain ⟨A1, a1, f1⟩ := own_sliceN hrd.rr
      obtain ⟨A2, a2, f2⟩ := own_sliceN hrd.zr
      obtain ⟨A3, a3, f3⟩ := own_sliceN hrd.lr
      subst f1
      subst f2
      subst f3
      have HCK := Lib.hid (bkCheck_any _ _ _ _ wr hbk hfa.2.2.2.2 hfa.2.1)
      rw [← hcq] at HCK
      obtain ⟨y0, y1, y2, y3, yf⟩ := hrd.cells
      have HP1 := Lib.hid (HPE.out _ _ HQ.out)
      have HP2 := Lib.hid (HPC.out _ _ HQ.out)
      have HP3 := Lib.hid (HPO.out _ _ HQ.out)
      have HBX := Lib.hid hfa.1
      obtain ⟨C, eC⟩ : ∃ C, bkChk (bkS st fun _ => undef) = C := ⟨_, rfl⟩
      rw [eC] at HCK HP2 HP3
      obtain ⟨sg, esg⟩ : ∃ sg, st.stage = sg := ⟨_, rfl⟩
      rw [esg] at HP1 HP2 HP3 y3
      clear hok hli hrd hbk hcq eC esg hfa HST HLI HPL HPE HPC HPO
      by_cases hsg : sg = 2
      · have HRz := Lib.hid (HP1.out hsg)
        have hw1 : IntKind.i64.wrap ((ls.length : Int) + 1) = (ls.length : Int) + 1 := IntWalk.i64_in _ (by omega)
        have hsb : (sg == 2) = true := by simpa using hsg
        clear hsg HP1 HP2 HP3 HCK
        go_wp2_with fail
        obtain ⟨W9, e9, hb9, v0, v1, v2, -⟩ := end3P HBX.out.h (.slice none 0 0) (.slice none 0 0) (.slice none 0 0)
        rw [e9]
        exact bodyPost_ret (v := .tuple #[.agg #[.slice none 0 0, .slice none 0 0, .slice none 0 0], .int .i64 ((ls.length : Int) + 1), .int .i64 3]) (by simp [results, Tryz.results20, go_sem, v0, v1, v2]) rfl (PsPost.no HRz.out (by omega) (HFIN.out _ ((HBR.out.mono (by omega)).trans hb9)))
      have hsb : (sg == 2) = false := by simpa using hsg
      have HSG := Lib.hid hsg
      clear hsg HP1 z0 z1 z2 zf0 zf1 zf2
      go_wp2_with fail
      refine HCK.out.mono ?_
      rintro e w3 ⟨rfl, hb3⟩
      have HB3 := Lib.hid (HBR.out.trans (hb3.mono (Nat.le_of_lt hzr)))
      have HRD3 := Lib.hid (HRDr.out.below hb3)
      have hbx : Box3 w3 P := ⟨(hb3.block P zl).trans HBX.out.h⟩
      have HBX3 := Lib.hid hbx
      obtain ⟨z0, z1, z2, zf0, zf1, zf2, zl3⟩ := hbx.facts
      clear hb3 hbx HCK y0 y1 y2 y3 yf HBX
      obtain ⟨y0, y1, y2, y3, yf⟩ := HRD3.out.cells
      have hz3 := HRD3.out.lt
      by_cases hC : C = 0
      case neg =>
        have HRz := Lib.hid (HP2.out HSG.out hC)
        have hCb : (C == 0) = false := by simpa using hC
        have hCn : (C != 0) = true := by simpa using hC
        clear hC HP2 HP3 y3
        go_wp2_with fail
        obtain ⟨W9, e9, hb9, v0, v1, v2, -⟩ := end3P HBX3.out.h (.slice none 0 0) (.slice none 0 0) (.slice none 0 0)
        rw [e9]
        exact bodyPost_ret (v := .tuple #[.agg #[.slice none 0 0, .slice none 0 0, .slice none 0 0], .int .i64 0, .int .i64 C]) (by simp [results, Tryz.results20, go_sem, v0, v1, v2]) rfl (PsPost.no HRz.out rfl (HFIN.out _ ((HB3.out.mono (by omega)).trans hb9)))
      subst hC
      have HRz := Lib.hid (HP3.out HSG.out rfl)
      clear HP2 HP3 y3
      go_wp2_with fail
      obtain ⟨W9, e9, hb9, v0, v1, v2, ho9⟩ := end3P HBX3.out.h (.slice A1 st.rules.length a1) (.slice A2 st.zones.length a2) (.slice A3 st.links.length a3)
      rw [e9]
      refine bodyPost_ret (v := .tuple #[.agg #[.slice A1 st.rules.length a1, .slice A2 st.zones.length a2, .slice A3 st.links.length a3], .int .i64 0, .int .i64 0]) (by simp [results, Tryz.results20, go_sem, v0, v1, v2]) rfl ?_
      rw [HRz.out]
      have hrd9 := HRD3.out.keepB (W' := W9) fun b h1 h2 => ho9 b (by omega)
      exact ⟨HFIN.out _ ((HB3.out.mono (by omega)).trans hb9), _, _, _, evs, rfl, hrd9.el, hrd9.book HOK.out (by omega)⟩
end Go.Proofs.YtmhfhmhjaecoaaaGreatDoor
namespace Go.Proofs.YtmhfhmhjaecoaaaGreatDoor
open Go.RowKit Go.Joins
open Classical
set_option linter.unusedVariables false
set_option linter.unusedSimpArgs false

theorem rdSpan_eq {n : Int} {l : List UInt8} (h : inS n) (e : spanT n = l) : rdSpan l = (n, 0) := by
  have hx : ∃ n, inS n ∧ spanT n = l := ⟨n, h, e⟩
  unfold rdSpan
  rw [dif_pos hx]
  obtain ⟨h1, h2⟩ := Classical.choose_spec hx
  have a := rawS_span h1
  have b := rawS_span h
  have c : Classical.choose hx = n := by rw [← a, ← b, h2, e]
  exact Prod.ext c rfl
def litB : List UInt8 := [122, 111, 110, 101, 32, 65, 10, 101, 114, 97, 32, 49, 58, 48, 48, 32, 45, 48, 58, 48, 48, 32, 67, 69, 84]
def litE : Er := ⟨3600, ⟨#[]⟩, 0, ⟨#[67, 69, 84]⟩, 0⟩
def litS : RdS := ⟨[], [(⟨#[65]⟩, [litE])], [], 1⟩
theorem lit_span : spanT 3600 = [49, 58, 48, 48] := by kernel_rfl
theorem lit_span0 : spanT 0 = [48, 58, 48, 48] := by kernel_rfl
theorem lit_parse : parseF litB = (litS, 0, 0) := by
  have h1 : splitC 10 litB = [[122, 111, 110, 101, 32, 65], [101, 114, 97, 32, 49, 58, 48, 48, 32, 45, 48, 58, 48, 48, 32, 67, 69, 84]] := by decide
  have h2 : splitC 32 ([122, 111, 110, 101, 32, 65] : List UInt8) = [[122, 111, 110, 101], [65]] := by decide
  have h3 : splitC 32 ([101, 114, 97, 32, 49, 58, 48, 48, 32, 45, 48, 58, 48, 48, 32, 67, 69, 84] : List UInt8) = [[101, 114, 97], [49, 58, 48, 48], [45, 48, 58, 48, 48], [67, 69, 84]] := by decide
  have e1 : lineF rd0 [122, 111, 110, 101, 32, 65] = some ⟨[], [(⟨#[65]⟩, [])], [], 2⟩ := by
    unfold lineF
    rw [h2]
    rw [if_neg (by rintro ⟨h, _⟩; exact absurd h (by decide)), if_pos ⟨rfl, by decide, rfl⟩]
    rfl
  have e2 : lineF ⟨[], [(⟨#[65]⟩, [])], [], 2⟩ [101, 114, 97, 32, 49, 58, 48, 48, 32, 45, 48, 58, 48, 48, 32, 67, 69, 84] = some litS := by
    rw [eraF_of (by rw [h3]; rfl), h3]
    unfold eraF
    rw [if_neg (by rintro (h | h); exact h rfl; exact h.1 rfl)]
    have hL : eraL [49, 58, 48, 48] [45, 48, 58, 48, 48] [67, 69, 84] none = some litE := by
      have e0 : eraL [49, 58, 48, 48] [45, 48, 58, 48, 48] [67, 69, 84] none = eraU [49, 58, 48, 48] [45, 48, 58, 48, 48] [67, 69, 84] (uOf none) := rfl
      rw [e0]
      unfold eraU
      have t1 : Lib.trimPrefix ([45, 48, 58, 48, 48] : List UInt8) [45] = [48, 58, 48, 48] := by decide
      have t2 : Lib.hasPrefix ([45, 48, 58, 48, 48] : List UInt8) [45] = true := by decide
      rw [t1, t2, rdSpan_eq (n := 3600) ⟨by decide, by decide⟩ lit_span, rdSpan_eq (n := 0) ⟨by decide, by decide⟩ lit_span0]
      rw [if_neg (by intro h; exact h rfl), if_pos rfl, if_neg (by rintro (h | h); exact h rfl; exact h rfl)]
      rfl
    show (match eraL [49, 58, 48, 48] [45, 48, 58, 48, 48] [67, 69, 84] none with | none => none | some x => some (⟨[], addEra [((⟨#[65]⟩ : ByteArray), [])] x, [], 1⟩ : RdS)) = _
    rw [hL]
    rfl
  have e3 : linesF rd0 0 (splitC 10 litB) = (some litS, 2) := by
    rw [h1]
    show (match lineF rd0 [122, 111, 110, 101, 32, 65] with | none => ((none : Option RdS), 0 + 1) | some st' => linesF st' (0 + 1) _) = _
    rw [e1]
    show (match lineF ⟨[], [((⟨#[65]⟩ : ByteArray), [])], [], 2⟩ [101, 114, 97, 32, 49, 58, 48, 48, 32, 45, 48, 58, 48, 48, 32, 67, 69, 84] with | none => ((none : Option RdS), 0 + 1 + 1) | some st' => linesF st' (0 + 1 + 1) _) = _
    rw [e2]
    rfl
  refine pf_ok (by decide) (by decide) e3 (show (1 : Int) ≠ 2 by decide) ?_
  show bkChk ⟨[], [⟨⟨#[65]⟩, undef, [litE]⟩], []⟩ = 0
  kernel_rfl

theorem lit_post {w w' : World} {e : Ending} (h : PsPost (litS, 0, 0) w e w') : Below w.heap.size w w' ∧ ∃ p1 c1 bb o c2 p3 c3 be oe ce, e = .returned (.tuple #[.agg #[.slice p1 0 c1, .slice (some ⟨bb, o, none⟩) 1 c2, .slice p3 0 c3], .int .i64 0, .int .i64 0]) ∧
    bb < w'.heap.size ∧ be < w'.heap.size ∧ w'.cell? ⟨bb, o + 1, none⟩ = some (.slice (some ⟨be, oe, none⟩) 1 ce) ∧ w'.cell? ⟨be, oe, none⟩ = some (.int .i64 3600) := by
  obtain ⟨hb1, rv, zv, lv, evs, rfl, hel, hbk⟩ := h
  obtain ⟨ev, rfl⟩ : ∃ ev, evs = [ev] := by
    cases evs with
    | nil => simp [litS] at hel
    | cons x r =>
      cases r with
      | nil => exact ⟨x, rfl⟩
      | cons y r => simp [litS] at hel
  obtain ⟨p1, c1, e1, -, -⟩ := hbk.r
  obtain ⟨p3, c3, e3, -, -⟩ := hbk.l
  obtain ⟨p2, c2, e2, -, hzr⟩ := hbk.z
  obtain ⟨pe, ce, e4, -, her⟩ := hbk.e _ (List.mem_singleton.2 (rfl : (⟨⟨#[65]⟩, ev, [litE]⟩ : Zo) = _))
  obtain ⟨bb, o, rfl, hbb, hzc⟩ := hzr (by intro h; cases h)
  obtain ⟨be, oe, rfl, hbe, hec⟩ := her (by intro h; cases h)
  have z1 := hzc 0 Nat.zero_lt_one 1 _ rfl
  have x0 := hec 0 Nat.zero_lt_one 0 _ rfl
  refine ⟨hb1, p1, c1, bb, o, c2, p3, c3, be, oe, ce, ?_, hbb, hbe, ?_, ?_⟩
  · rw [e1, e2, e3]; rfl
  · have e4' : ev = .slice (some ⟨be, oe, none⟩) 1 ce := e4
    have z1' : w'.cell? ⟨bb, o + 0 * 2 + 1, none⟩ = some ev := z1
    rw [Nat.zero_mul, Nat.add_zero] at z1'
    rw [z1', e4']
  · have x0' : w'.cell? ⟨be, oe + 0 * 5 + 0, none⟩ = some (.int .i64 3600) := x0
    rwa [Nat.zero_mul, Nat.add_zero] at x0'
set_option maxRecDepth 100000 in
set_option maxHeartbeats 4000000 in
theorem booked_any (w : World) (ht : Tab10 w) (ha : AscTab w) (he : NumErrs w) (hm : MaxLen w) :
    Calls Tryz.prog 14 #[] w fun e w' => e = .returned (.bool true) ∧ Below w.heap.size w w' := by
  have hp := bookParse_any litB w (by decide) ht ha he hm
  rw [lit_parse] at hp
  have HP : Hid (Calls Tryz.prog 20 #[.string ⟨#[122, 111, 110, 101, 32, 65, 10, 101, 114, 97, 32, 49, 58, 48, 48, 32, 45, 48, 58, 48, 48, 32, 67, 69, 84]⟩] w (PsPost (litS, 0, 0) w)) := hp
  clear hp ht ha he hm
  go_enter Tryz.func14, Tryz.ntmps14
  go_wp2_with fail
  refine HP.out.mono ?_
  intro e w1 hpost
  obtain ⟨hb1, p1, c1, bb, o, c2, p3, c3, be, oe, ce, rfl, hbb, hbe, z1, x0⟩ := lit_post hpost
  have HB1 := Lib.hid hb1
  obtain ⟨W2, e2⟩ : ∃ W2, w1.alloc (.cells #[.slice p1 0 c1, .slice (some ⟨bb, o, none⟩) 1 c2, .slice p3 0 c3] 31) = W2 := ⟨_, rfl⟩
  have hb2 : Below w1.heap.size w1 W2 := by rw [← e2]; exact alB _ _
  have hx2 : W2.heap[w1.heap.size]? = some (.cells #[.slice p1 0 c1, .slice (some ⟨bb, o, none⟩) 1 c2, .slice p3 0 c3] 31 (0, 0)) := by rw [← e2]; exact heap_alloc_new w1 _
  have y1 : W2.cell? ⟨w1.heap.size, 1, none⟩ = some (.slice (some ⟨bb, o, none⟩) 1 c2) := (cell_of_row W2 _ 1 _ _ _ hx2).trans rfl
  have z1' : W2.cell? ⟨bb, o + 1, none⟩ = some (.slice (some ⟨be, oe, none⟩) 1 ce) := (hb2.cell (p := ⟨bb, o + 1, none⟩) hbb).trans z1
  have x0' : W2.cell? ⟨be, oe, none⟩ = some (.int .i64 3600) := (hb2.cell (p := ⟨be, oe, none⟩) hbe).trans x0
  have HE2 := Lib.hid e2
  have HB2 := Lib.hid (HB1.out.trans (hb2.mono HB1.out.size))
  clear hb1 hpost hb2 hx2 e2 HP z1 x0
  go_upto_region 2 with fail
  rw [HE2.out]
  go_wp2_with fail
  go_ret
  exact ⟨rfl, HB2.out⟩
end Go.Proofs.YtmhfhmhjaecoaaaGreatDoor
namespace Go.Proofs.YtmhfhmhjaecoaaaGreatDoor
open Go.ChangeShapes Go.WideShapes Go.Deep Go.RowKit Go.Joins
set_option linter.unusedVariables false
set_option linter.unusedSimpArgs false

theorem list11 {α : Type} (l : List α) (h : l.length = 11) : ∃ a b c d e f g h' i j k, l = [a, b, c, d, e, f, g, h', i, j, k] := by
  match l, h with
  | [a, b, c, d, e, f, g, h', i, j, k], _ => exact ⟨a, b, c, d, e, f, g, h', i, j, k, rfl⟩

section
variable {H : Type} {enc : TypeId × Value → H} {w : World} {base : Nat} {spare : Nat → Bool} {held : Bool}
theorem trod_iR {fuel : Nat} {v : Value} {x : DataW H × List MemPlace} (h : DataW.trod enc Tryz.prog w base spare held fuel 3 [v] = some x) : ∃ n, v = .int .i64 n := by
  obtain ⟨b, e, _, _⟩ := DataW.trod_int Tryz.underlying3 h
  simp only [List.cons.injEq, and_true] at e
  exact ⟨b, e⟩
theorem trod_sR {fuel : Nat} {v : Value} {x : DataW H × List MemPlace} (h : DataW.trod enc Tryz.prog w base spare held fuel 9 [v] = some x) : ∃ s, v = .string s ∧ s.size ≤ maxLen := by
  obtain ⟨b, e, _, hs⟩ := DataW.trod_string Tryz.underlying9 h
  simp only [List.cons.injEq, and_true] at e
  exact ⟨b, e, hs⟩
set_option maxRecDepth 100000 in
theorem Dy_open {fuel : Nat} {a b c : Value} {x : DataW H × List MemPlace} (h : DataW.trod enc Tryz.prog w base spare held fuel 103 [a, b, c] = some x) : ∃ k wd n : Int, a = .int .i64 k ∧ b = .int .i64 wd ∧ c = .int .i64 n := by
  obtain ⟨xs, n, _, _, _, hl, hf⟩ := DataW.trod_struct Tryz.underlying103 h
  have hl3 : xs.length = 3 := hl
  have h0 := hf 0 _ rfl
  have h1 := hf 1 _ rfl
  have h2 := hf 2 _ rfl
  rw [List.getElem?_eq_getElem (by omega)] at h0 h1 h2
  obtain ⟨m, rfl⟩ := trod_iR (v := a) h0
  obtain ⟨k, rfl⟩ := trod_iR (v := b) h1
  obtain ⟨e, rfl⟩ := trod_iR (v := c) h2
  exact ⟨m, k, e, rfl, rfl, rfl⟩

theorem cellsRu : Tryz.prog.cellsOf 105 = 11 := by kernel_rfl
set_option maxRecDepth 100000 in
/-- the cells of a rule that can be read -/
theorem Ru_trod {fuel : Nat} {l : List Value} {x : DataW H × List MemPlace} (hl : l.length = 11) (h : DataW.trod enc Tryz.prog w base spare held fuel 105 l = some x) :
    ∃ q : Ru, l = (ruCells q).toList ∧ q.nm.size ≤ maxLen ∧ q.lt.size ≤ maxLen := by
  obtain ⟨c0, c1, c2, c3, c4, c5, c6, c7, c8, c9, c10, rfl⟩ := list11 l hl
  obtain ⟨xs, n, _, _, _, hl, hf⟩ := DataW.trod_struct Tryz.underlying105 h
  have hl9 : xs.length = 9 := hl
  have h0 := hf 0 _ rfl
  have h1 := hf 1 _ rfl
  have h2 := hf 2 _ rfl
  have h3 := hf 3 _ rfl
  have h4 := hf 4 _ rfl
  have h5 := hf 5 _ rfl
  have h6 := hf 6 _ rfl
  have h7 := hf 7 _ rfl
  have h8 := hf 8 _ rfl
  rw [List.getElem?_eq_getElem (by omega)] at h0 h1 h2 h3 h4 h5 h6 h7 h8
  obtain ⟨nm, rfl, s1⟩ := trod_sR (v := c0) h0
  obtain ⟨yf, rfl⟩ := trod_iR (v := c1) h1
  obtain ⟨yt, rfl⟩ := trod_iR (v := c2) h2
  obtain ⟨mo, rfl⟩ := trod_iR (v := c3) h3
  obtain ⟨dk, dw, dn, rfl, rfl, rfl⟩ := Dy_open (a := c4) (b := c5) (c := c6) (h4 : DataW.trod enc Tryz.prog w base spare held n 103 [c4, c5, c6] = _)
  obtain ⟨tm, rfl⟩ := trod_iR (v := c7) h5
  obtain ⟨ck, rfl⟩ := trod_iR (v := c8) h6
  obtain ⟨sv, rfl⟩ := trod_iR (v := c9) h7
  obtain ⟨lt, rfl, s2⟩ := trod_sR (v := c10) h8
  exact ⟨⟨nm, yf, yt, mo, dk, dw, dn, tm, ck, sv, lt⟩, rfl, s1, s2⟩
set_option maxRecDepth 100000 in
theorem Ru_open {r : Reach} {b0 : Nat} {v : Value} {d : DataW H} {p : List MemPlace} (hv : Value.okWide Tryz.prog w r b0 105 v) (h : DataW.Trod enc Tryz.prog w base spare held 105 v d p) :
    ∃ q : Ru, v = ruV q ∧ q.nm.size ≤ maxLen ∧ q.lt.size ≤ maxLen := by
  obtain ⟨cs, rfl, hsz⟩ := okWide_struct Tryz.underlying105 hv
  obtain ⟨l⟩ := cs
  obtain ⟨fuel, hf⟩ := h
  obtain ⟨q, rfl, s1, s2⟩ := Ru_trod (l := l) (hsz.trans cellsRu) hf
  exact ⟨q, rfl, s1, s2⟩
end
end Go.Proofs.YtmhfhmhjaecoaaaGreatDoor
namespace Go.Proofs.YtmhfhmhjaecoaaaGreatDoor
open Go.ChangeShapes Go.WideShapes Go.Deep Go.RowKit Go.Joins
set_option linter.unusedVariables false
set_option linter.unusedSimpArgs false

theorem reach_valB : reachBytes = 140737488351232 := by decide
theorem spot_noneB {w : World} {a : Addr} {v : Value} (h : w.cell? a = some v) : a = ⟨a.block, a.off, none⟩ := by
  obtain ⟨b, o, s⟩ := a
  cases s with
  | none => rfl
  | some k =>
    simp only [World.cell?] at h
    split at h
    · simp at h
    · cases h
theorem add_plainB (b o i : Nat) : (⟨b, o, none⟩ : Addr).add i = ⟨b, o + i, none⟩ := by
  unfold Addr.add
  split
  · rename_i h; subst h; rfl
  · rfl
theorem list_ofB {α : Type} [Inhabited α] (n : Nat) (Q : Nat → α → Prop) (h : ∀ i, i < n → ∃ x, Q i x) : ∃ l : List α, l.length = n ∧ ∀ i (hi : i < l.length), Q i l[i] := by
  classical
  refine ⟨(List.range n).map fun i => if hi : i < n then Classical.choose (h i hi) else default, by simp, fun i hi => ?_⟩
  have hi' : i < n := by simpa using hi
  simp only [List.getElem_map, List.getElem_range, hi', dite_true]
  exact Classical.choose_spec (h i hi')
instance : Inhabited Ru := ⟨⟨⟨#[]⟩, 0, 0, 0, 0, 0, 0, 0, 0, 0, ⟨#[]⟩⟩⟩
instance : Inhabited Er := ⟨⟨0, ⟨#[]⟩, 0, ⟨#[]⟩, 0⟩⟩
instance : Inhabited Zo := ⟨⟨⟨#[]⟩, .slice none 0 0, []⟩⟩
instance : Inhabited Lk := ⟨⟨⟨#[]⟩, ⟨#[]⟩⟩⟩

section
variable {H : Type} {enc : TypeId × Value → H} {w : World} {base : Nat} {spare : Nat → Bool} {held : Bool}
/-- what a datum weighs is within the reach -/
def Szd (t : TypeId) (d : DataW H) : Prop := ∀ n ∈ d.weights Tryz.prog t, n ≤ reachBytes
theorem sz_agg {t : TypeId} {fs : Array Field} (ht : Tryz.prog.underlying t = some (.struct fs)) {parts : List (DataW H)} (h : Szd t (.agg parts)) {j : Nat} {f : Field} {d : DataW H} (hf : fs[j]? = some f) (hd : parts[j]? = some d) : Szd f.type d := fun n hn =>
  h n (by
    simp only [DataW.weights, ht]
    refine DataW.weights_mem_each (j := j) ?_ hd n hn
    rw [List.getElem?_map, Array.getElem?_toList, hf]
    rfl)
theorem wa_mem {e : TypeId} : ∀ {es : List (DataW H)} {d : DataW H}, d ∈ es → ∀ n ∈ d.weights Tryz.prog e, n ∈ DataW.weightsAll Tryz.prog e es
  | x :: r, d, hd, n, hn => by
    simp only [DataW.weightsAll, List.mem_append]
    rcases List.mem_cons.1 hd with rfl | hd
    · exact .inl hn
    · exact .inr (wa_mem hd n hn)
theorem sz_slice {t e : TypeId} (ht : Tryz.prog.underlying t = some (.slice e)) {es sp : List (DataW H)} (h : Szd t (.slice es sp)) : (es.length + sp.length) * Tryz.prog.bytesOf e ≤ reachBytes ∧ ∀ d ∈ es, Szd e d := by
  unfold Szd at h
  simp only [DataW.weights, ht] at h
  exact ⟨h _ (List.mem_cons_self ..), fun d hd n hn => h n (List.mem_cons_of_mem _ (List.mem_append_left _ (wa_mem hd n hn)))⟩
theorem sz_str {t : TypeId} {b : ByteArray} (h : Szd t (.lit (.string b.data.toList) : DataW H)) : b.size ≤ 140737488351232 := by
  have := h b.data.toList.length (by simp [DataW.weights])
  rw [reach_valB] at this
  rw [Lib.size_eq]
  exact this

theorem open_rows {α : Type} [Inhabited α] (cells : α → List Value) (k : Nat) (Q : α → Prop) {t e : TypeId} (ht : Tryz.prog.underlying t = some (.slice e)) (hk : Tryz.prog.cellsOf e = k) (hb : 1 ≤ Tryz.prog.bytesOf e) (hk0 : 0 < k)
    (el : ∀ fuel l x, l.length = k → DataW.trod enc Tryz.prog w base spare held fuel e l = some x → Szd e x.1 → ∃ a, l = cells a ∧ Q a)
    {fuel : Nat} {v : Value} {x : DataW H × List MemPlace} (h : DataW.trod enc Tryz.prog w base spare held fuel t [v] = some x) (hs : Szd t x.1) : ∃ l, RowsAt cells k w.heap.size w v l ∧ ∀ a ∈ l, Q a := by
  rcases open_slice ht h with ⟨hcs, _⟩ | ⟨a, len, cap, m, n, D, Pl, hcs, hba, hl, hm, hmm, hx, hi⟩
  · obtain rfl : v = .slice none 0 0 := by simpa using hcs
    exact ⟨[], ⟨none, 0, rfl, ⟨by simp, by simp⟩, fun h => absurd rfl h⟩, fun a h => absurd h (List.not_mem_nil)⟩
  · obtain rfl : v = .slice (some a) len cap := by simpa using hcs
    rw [hx] at hs
    obtain ⟨hw, hsd⟩ := sz_slice ht hs
    have hlen : len ≤ 140737488351232 := by
      rw [reach_valB] at hw
      simp only [List.length_map, List.length_range] at hw
      have : len * 1 ≤ (len + (m - len)) * Tryz.prog.bytesOf e := Nat.mul_le_mul (by omega) hb
      omega
    have hlm : len ≤ m := by rw [hmm]; split <;> omega
    have key : ∀ i, i < len → ∃ y : α, (∀ j u, (cells y)[j]? = some u → w.cell? (a.add (i * k + j)) = some u) ∧ Q y ∧ ∃ u, w.cell? (a.add (i * k)) = some u := by
      intro i hil
      obtain ⟨cs', hc, htr⟩ := hi i (by omega)
      rw [hk] at hc
      obtain ⟨_, hcl, hat⟩ := World.cells?_some hc
      obtain ⟨y, rfl, hq⟩ := el n cs' _ hcl htr (hsd _ (List.mem_map.2 ⟨i, List.mem_range.2 hil, rfl⟩))
      have hcell : ∀ j u, (cells y)[j]? = some u → w.cell? (a.add (i * k + j)) = some u := by
        intro j u hu
        have hj : j < k := by rw [← hcl]; exact (List.getElem?_eq_some_iff.1 hu).1
        rw [← Go.Deep.add_add, hat j hj, hu]
      have h0 : (cells y)[0]? = some ((cells y)[0]'(by omega)) := List.getElem?_eq_getElem (by omega)
      exact ⟨y, hcell, hq, _, hcell 0 _ h0⟩
    obtain ⟨l, hl1, hl2⟩ := list_ofB len _ key
    subst hl1
    refine ⟨l, ⟨some a, cap, rfl, ⟨hlen, hl⟩, fun hne => ?_⟩, fun y hy => ?_⟩
    · have hp : 0 < l.length := List.length_pos_iff.2 hne
      obtain ⟨_, _, u, d0⟩ := hl2 0 hp
      rw [Nat.zero_mul] at d0
      have hsp : a = ⟨a.block, a.off, none⟩ := spot_noneB (w := w) (v := u) d0
      refine ⟨a.block, a.off, congrArg some hsp, ?_, fun i hi j u hu => ?_⟩
      · rw [hsp, add_plainB] at d0
        exact World.block_lt_of_cell? w ⟨a.block, _, none⟩ d0
      · have := (hl2 i hi).1 j u hu
        rw [hsp, add_plainB] at this
        rw [Nat.add_assoc]
        exact this
    · obtain ⟨i, hi, rfl⟩ := List.mem_iff_getElem.1 hy
      exact (hl2 i hi).2.1

theorem trod_iB {fuel : Nat} {v : Value} {x : DataW H × List MemPlace} (h : DataW.trod enc Tryz.prog w base spare held fuel 3 [v] = some x) : ∃ n, v = .int .i64 n ∧ -9223372036854775808 ≤ n ∧ n ≤ 9223372036854775807 := by
  obtain ⟨b, e, _, hw⟩ := DataW.trod_int Tryz.underlying3 h
  simp only [List.cons.injEq, and_true] at e
  simp only [Lit.wf, Bool.and_eq_true, decide_eq_true_eq] at hw
  exact ⟨b, e, hw⟩
theorem trod_sB {fuel : Nat} {v : Value} {x : DataW H × List MemPlace} (h : DataW.trod enc Tryz.prog w base spare held fuel 9 [v] = some x) (hs : Szd 9 x.1) : ∃ s, v = .string s ∧ s.size ≤ 140737488351232 := by
  obtain ⟨b, e, ex, _⟩ := DataW.trod_string Tryz.underlying9 h
  simp only [List.cons.injEq, and_true] at e
  rw [ex] at hs
  exact ⟨b, e, sz_str hs⟩
theorem list5 {α : Type} (l : List α) (h : l.length = 5) : ∃ a b c d e, l = [a, b, c, d, e] := by
  match l, h with
  | [a, b, c, d, e], _ => exact ⟨a, b, c, d, e, rfl⟩
theorem list2 {α : Type} (l : List α) (h : l.length = 2) : ∃ a b, l = [a, b] := by
  match l, h with
  | [a, b], _ => exact ⟨a, b, rfl⟩
set_option maxRecDepth 100000 in
/-- the cells of a rule, with its words' sizes -/
theorem Ru_trodB {fuel : Nat} {l : List Value} {x : DataW H × List MemPlace} (hl : l.length = 11) (h : DataW.trod enc Tryz.prog w base spare held fuel 105 l = some x) (hs : Szd 105 x.1) :
    ∃ q : Ru, l = (ruCells q).toList ∧ SzR q := by
  obtain ⟨q, rfl, -, -⟩ := Ru_trod hl h
  refine ⟨q, rfl, ?_⟩
  obtain ⟨xs, n, _, hx, _, hl, hf⟩ := DataW.trod_struct Tryz.underlying105 h
  have hl9 : xs.length = 9 := hl
  have h0 := hf 0 _ rfl
  have h8 := hf 8 _ rfl
  rw [List.getElem?_eq_getElem (by omega)] at h0 h8
  rw [hx] at hs
  have s0 := sz_agg Tryz.underlying105 hs (j := 0) rfl (d := xs[0].1) (by rw [List.getElem?_map, List.getElem?_eq_getElem (by omega)]; rfl)
  have s8 := sz_agg Tryz.underlying105 hs (j := 8) rfl (d := xs[8].1) (by rw [List.getElem?_map, List.getElem?_eq_getElem (by omega)]; rfl)
  obtain ⟨nm, e0, z0⟩ := trod_sB (v := .string q.nm) h0 s0
  obtain ⟨lt, e8, z8⟩ := trod_sB (v := .string q.lt) h8 s8
  injection e0 with e0
  injection e8 with e8
  subst e0 e8
  exact ⟨z0, z8⟩
set_option maxRecDepth 100000 in
theorem Er_trodB {fuel : Nat} {l : List Value} {x : DataW H × List MemPlace} (hl : l.length = 5) (h : DataW.trod enc Tryz.prog w base spare held fuel 46 l = some x) (hs : Szd 46 x.1) :
    ∃ q : Er, l = (erCells q).toList ∧ SzE q := by
  obtain ⟨c0, c1, c2, c3, c4, rfl⟩ := list5 l hl
  obtain ⟨xs, n, _, hx, _, hl, hf⟩ := DataW.trod_struct Tryz.underlying46 h
  have hl5 : xs.length = 5 := hl
  have h0 := hf 0 _ rfl
  have h1 := hf 1 _ rfl
  have h2 := hf 2 _ rfl
  have h3 := hf 3 _ rfl
  have h4 := hf 4 _ rfl
  rw [List.getElem?_eq_getElem (by omega)] at h0 h1 h2 h3 h4
  rw [hx] at hs
  have s1 := sz_agg Tryz.underlying46 hs (j := 1) rfl (d := xs[1].1) (by rw [List.getElem?_map, List.getElem?_eq_getElem (by omega)]; rfl)
  have s3 := sz_agg Tryz.underlying46 hs (j := 3) rfl (d := xs[3].1) (by rw [List.getElem?_map, List.getElem?_eq_getElem (by omega)]; rfl)
  obtain ⟨off, rfl, o1, o2⟩ := trod_iB (v := c0) h0
  obtain ⟨ru, rfl, z1⟩ := trod_sB (v := c1) h1 s1
  obtain ⟨sv, rfl, v1, v2⟩ := trod_iB (v := c2) h2
  obtain ⟨fm, rfl, z3⟩ := trod_sB (v := c3) h3 s3
  obtain ⟨un, rfl, u1, u2⟩ := trod_iB (v := c4) h4
  exact ⟨⟨off, ru, sv, fm, un⟩, rfl, z1, z3, o1, o2, v1, v2, u1, u2⟩
theorem cellsEr : Tryz.prog.cellsOf 46 = 5 := by kernel_rfl
theorem cellsZo : Tryz.prog.cellsOf 50 = 2 := by kernel_rfl
theorem cellsLk : Tryz.prog.cellsOf 52 = 2 := by kernel_rfl
theorem cellsBk : Tryz.prog.cellsOf 31 = 3 := by kernel_rfl
def ZoOk (w : World) (z : Zo) : Prop := RowsAt (fun x : Er => (erCells x).toList) 5 w.heap.size w z.ev z.eras ∧ z.nm.size ≤ 140737488351232 ∧ ∀ x ∈ z.eras, SzE x
set_option maxRecDepth 100000 in
theorem Zo_trodB {fuel : Nat} {l : List Value} {x : DataW H × List MemPlace} (hl : l.length = 2) (h : DataW.trod enc Tryz.prog w base spare held fuel 50 l = some x) (hs : Szd 50 x.1) :
    ∃ q : Zo, l = zoCells q ∧ ZoOk w q := by
  obtain ⟨c0, c1, rfl⟩ := list2 l hl
  obtain ⟨xs, n, _, hx, _, hl, hf⟩ := DataW.trod_struct Tryz.underlying50 h
  have hl2 : xs.length = 2 := hl
  have h0 := hf 0 _ rfl
  have h1 := hf 1 _ rfl
  rw [List.getElem?_eq_getElem (by omega)] at h0 h1
  rw [hx] at hs
  have s0 := sz_agg Tryz.underlying50 hs (j := 0) rfl (d := xs[0].1) (by rw [List.getElem?_map, List.getElem?_eq_getElem (by omega)]; rfl)
  have s1 := sz_agg Tryz.underlying50 hs (j := 1) rfl (d := xs[1].1) (by rw [List.getElem?_map, List.getElem?_eq_getElem (by omega)]; rfl)
  obtain ⟨nm, rfl, z0⟩ := trod_sB (v := c0) h0 s0
  obtain ⟨er, hr, hq⟩ := open_rows (fun x : Er => (erCells x).toList) 5 SzE (t := 48) (e := 46) (by kernel_rfl) cellsEr (of_decide_eq_true (by kernel_rfl)) (by decide) (fun fuel l x hl h hs => Er_trodB hl h hs) (v := c1) h1 s1
  exact ⟨⟨nm, c1, er⟩, rfl, hr, z0, hq⟩
set_option maxRecDepth 100000 in
theorem Lk_trodB {fuel : Nat} {l : List Value} {x : DataW H × List MemPlace} (hl : l.length = 2) (h : DataW.trod enc Tryz.prog w base spare held fuel 52 l = some x) (hs : Szd 52 x.1) :
    ∃ q : Lk, l = lkCells q ∧ (q.nm.size ≤ 140737488351232 ∧ q.tg.size ≤ 140737488351232) := by
  obtain ⟨c0, c1, rfl⟩ := list2 l hl
  obtain ⟨xs, n, _, hx, _, hl, hf⟩ := DataW.trod_struct Tryz.underlying52 h
  have hl2 : xs.length = 2 := hl
  have h0 := hf 0 _ rfl
  have h1 := hf 1 _ rfl
  rw [List.getElem?_eq_getElem (by omega)] at h0 h1
  rw [hx] at hs
  have s0 := sz_agg Tryz.underlying52 hs (j := 0) rfl (d := xs[0].1) (by rw [List.getElem?_map, List.getElem?_eq_getElem (by omega)]; rfl)
  have s1 := sz_agg Tryz.underlying52 hs (j := 1) rfl (d := xs[1].1) (by rw [List.getElem?_map, List.getElem?_eq_getElem (by omega)]; rfl)
  obtain ⟨nm, rfl, z0⟩ := trod_sB (v := c0) h0 s0
  obtain ⟨tt, rfl, z1⟩ := trod_sB (v := c1) h1 s1
  exact ⟨⟨nm, tt⟩, rfl, z0, z1⟩
set_option maxRecDepth 100000 in
/-- A law's argument of type Book -/
theorem Bk_open {r : Reach} {b0 : Nat} {v : Value} {d : DataW H} {p : List MemPlace} (hv : Value.okWide Tryz.prog w r b0 31 v) (h : DataW.Trod enc Tryz.prog w base spare held 31 v d p)
    (hs : Szd 31 d) : ∃ b rv zv lv, v = .agg #[rv, zv, lv] ∧ BookAt w.heap.size w rv zv lv b := by
  obtain ⟨c0, c1, c2, y0, y1, y2, m, rfl, rfl, _, g0, g1, g2⟩ := open_agg3 Tryz.underlying31 (by kernel_rfl) cellsBk hv h
  have s0 := sz_agg Tryz.underlying31 hs (j := 0) rfl rfl
  have s1 := sz_agg Tryz.underlying31 hs (j := 1) rfl rfl
  have s2 := sz_agg Tryz.underlying31 hs (j := 2) rfl rfl
  obtain ⟨rs, hr1, hr2⟩ := open_rows (fun r : Ru => (ruCells r).toList) 11 SzR (t := 27) (e := 105) (by kernel_rfl) cellsRu (of_decide_eq_true (by kernel_rfl)) (by decide) (fun fuel l x hl h hs => Ru_trodB hl h hs) (v := c0) g0 s0
  obtain ⟨zs, hz1, hz2⟩ := open_rows zoCells 2 (ZoOk w) (t := 28) (e := 50) (by kernel_rfl) cellsZo (of_decide_eq_true (by kernel_rfl)) (by decide) (fun fuel l x hl h hs => Zo_trodB hl h hs) (v := c1) g1 s1
  obtain ⟨ls, hl1, hl2⟩ := open_rows lkCells 2 (fun q : Lk => q.nm.size ≤ 140737488351232 ∧ q.tg.size ≤ 140737488351232) (t := 29) (e := 52) (by kernel_rfl) cellsLk (of_decide_eq_true (by kernel_rfl)) (by decide) (fun fuel l x hl h hs => Lk_trodB hl h hs) (v := c2) g2 s2
  exact ⟨⟨rs, zs, ls⟩, c0, c1, c2, rfl, hr1, hz1, fun z hz => (hz2 z hz).1, hl1, hr2, fun z hz => (hz2 z hz).2, hl2⟩
set_option maxRecDepth 100000 in
/-- a rule, with its words' sizes -/
theorem Ru_openB {r : Reach} {b0 : Nat} {v : Value} {d : DataW H} {p : List MemPlace} (hv : Value.okWide Tryz.prog w r b0 105 v) (h : DataW.Trod enc Tryz.prog w base spare held 105 v d p)
    (hs : Szd 105 d) : ∃ q : Ru, v = ruV q ∧ SzR q := by
  obtain ⟨cs, rfl, hsz⟩ := okWide_struct Tryz.underlying105 hv
  obtain ⟨l⟩ := cs
  obtain ⟨fuel, hf⟩ := h
  obtain ⟨q, rfl, hz⟩ := Ru_trodB (l := l) (hsz.trans cellsRu) hf hs
  exact ⟨q, rfl, hz⟩
theorem szd_at {ts : List TypeId} {ds : List (DataW H)} (h : (DataW.weightsEach Tryz.prog ts ds).all (· ≤ reachBytes) = true) {j : Nat} {t : TypeId} {d : DataW H} (ht : ts[j]? = some t) (hd : ds[j]? = some d) : Szd t d := fun n hn => by
  have := List.all_eq_true.1 h n (DataW.weights_mem_each ht hd n hn)
  simpa using this
end
end Go.Proofs.YtmhfhmhjaecoaaaGreatDoor
