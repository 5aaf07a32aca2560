/- book: what Abbr and Check return: plain functions. book.within, isLetter, split: what each returns. book.split: what it returns. -/
import Derived.Test.YtomahddiclkepaaDoorCiv2
import Derived.Test.YtomahddiclkepaaDoorQo02
import Derived.Handy
namespace Go.Proofs.YtomahddiclkepaaDoor
open Go.RowKit Go.Joins
open Classical
set_option linter.unusedVariables false
set_option linter.unusedSimpArgs false
structure Er where
 (off : Int)
 (ru : ByteArray)
 (sv : Int)
 (fm : ByteArray)
 (un : Int)
structure Zo where
 (nm : ByteArray)
 (ev : Value)
 (eras : List Er)
structure Lk where
 (nm tg : ByteArray)
structure Bk where
 (rules : List Ru)
 (zones : List Zo)
 (links : List Lk)
def splitF (f : List UInt8) : List UInt8 × List UInt8 × List UInt8 × Bool :=
 if 12 < f.length then ([], [], [], false) else
 if (Lib.cut f [47]).2.2 = true then ((Lib.cut f [47]).1, (Lib.cut f [47]).2.1, [47], abbrB (txt (Lib.cut f [47]).1) && abbrB (txt (Lib.cut f [47]).2.1)) else
 if (Lib.cut f [37]).2.2 = true then ((Lib.cut f [37]).1, (Lib.cut f [37]).2.1, [37], decide ((Lib.cut f [37]).1 ++ (Lib.cut f [37]).2.1 = []) || (decide (((Lib.cut f [37]).1 ++ (Lib.cut f [37]).2.1).length ≤ 8) && abbrB (txt ((Lib.cut f [37]).1 ++ (Lib.cut f [37]).2.1)))) else
 (f, [], [], abbrB (txt f))
def letterOk (l : List UInt8) : Bool := decide (l = [45]) || abbrB (txt l)
def abbrN (f : List UInt8) (save : Int) (l : List UInt8) : List UInt8 :=
 let s := splitF f
 if s.2.2.1 = [47] then (if save = 0 then s.1 else s.2.1) else
 if s.2.2.1 = [37] then s.1 ++ ((if l = [45] then [] else l) ++ s.2.1) else s.1
def abbrF (f : List UInt8) (save : Int) (l : List UInt8) : List UInt8 × Int :=
 if (splitF f).2.2.2 = false ∨ letterOk l = false then ([], 3) else
 if ¬ (0 ≤ save ∧ save ≤ 10800) then ([], 1) else
 if 8 < (abbrN f save l).length then ([], 2) else
 if abbrN f save l = [] then ([], 5) else (abbrN f save l, 0)
def abE (f : ByteArray) (save : Int) (l : ByteArray) : Int := (abbrF f.data.toList save l.data.toList).2
def firstE {α : Type} (f : α → Int) : List α → Int
 | [] => 0
 | x :: r => if f x = 0 then firstE f r else f x
def abbrsChk (rules : List Ru) (x : Er) : Int :=
 if x.ru.data.toList = [] then abE x.fm x.sv ⟨#[45]⟩ else
 if firstE (fun r : Ru => if r.nm = x.ru then abE x.fm r.sv r.lt else 0) rules = 0 then abE x.fm 0 ⟨#[45]⟩ else firstE (fun r : Ru => if r.nm = x.ru then abE x.fm r.sv r.lt else 0) rules
def stampE (t : Int) : Int := if -135140 ≤ t / 86400 ∧ t / 86400 ≤ 157053 then 0 else 1
def erD : Er := ⟨0, ⟨#[]⟩, 0, ⟨#[]⟩, 0⟩
def eraAt (l : List Er) (k : Nat) : Er := l[k]?.getD erD
def eraChk (rules : List Ru) (l : List Er) (k : Nat) : Int :=
 let x := eraAt l k
 if ¬ (-64800 ≤ x.off ∧ x.off ≤ 64800) ∨ ¬ (0 ≤ x.sv ∧ x.sv ≤ 10800) then 1 else
 if x.sv ≠ 0 ∧ x.ru.data.toList ≠ [] then 5 else
 if x.ru.data.toList ≠ [] ∧ (rules.any fun r => decide (r.nm = x.ru)) = false then 6 else
 if abbrsChk rules x ≠ 0 then abbrsChk rules x else
 if k + 1 = l.length then (if x.un ≠ 0 then 5 else 0) else
 if ¬ (-1099511627776 ≤ x.un ∧ x.un ≤ 1099511627776) then 1 else
 if stampE x.un ≠ 0 then stampE x.un else
 if 0 < k ∧ x.un ≤ (eraAt l (k - 1)).un then 5 else 0
def zoneChk (rules : List Ru) (before : List Zo) (z : Zo) : Int :=
 if nameB z.nm = false then 3 else
 if (before.any fun y => decide (y.nm = z.nm)) = true then 7 else
 if z.eras = [] then 5 else
 if 700 < z.eras.length then 2 else firstE (eraChk rules z.eras) (List.range z.eras.length)
def isZone (b : Bk) (n : ByteArray) : Bool := b.zones.any fun z => decide (z.nm = n)
def isLink (l : List Lk) (n : ByteArray) : Bool := l.any fun y => decide (y.nm = n)
def linkChk (b : Bk) (before : List Lk) (x : Lk) : Int :=
 if nameB x.nm = false ∨ nameB x.tg = false then 3 else
 if isZone b x.nm = true ∨ isLink before x.nm = true then 7 else
 if isZone b x.tg = false ∧ isLink b.links x.tg = false then 6 else 0
def bkChk (b : Bk) : Int :=
 if 40 < b.rules.length ∨ 20 < b.zones.length ∨ 20 < b.links.length then 2 else
 if firstE ruChk b.rules ≠ 0 then firstE ruChk b.rules else
 if firstE (fun k => zoneChk b.rules (b.zones.take k) (b.zones[k]?.getD ⟨⟨#[]⟩, undef, []⟩)) (List.range b.zones.length) ≠ 0 then firstE (fun k => zoneChk b.rules (b.zones.take k) (b.zones[k]?.getD ⟨⟨#[]⟩, undef, []⟩)) (List.range b.zones.length) else
 firstE (fun k => linkChk b (b.links.take k) (b.links[k]?.getD ⟨⟨#[]⟩, ⟨#[]⟩⟩)) (List.range b.links.length)
theorem firstE_drop {α : Type} (f : α → Int) (l : List α) (k : Nat) (hk : k < l.length) (h : f l[k] = 0) (e : firstE f l = firstE f (l.drop k)) : firstE f l = firstE f (l.drop (k + 1)) := by
 rw [e, List.drop_eq_getElem_cons hk]
 show (if f l[k] = 0 then firstE f (l.drop (k + 1)) else f l[k]) = _
 rw [if_pos h]
theorem firstE_hit {α : Type} (f : α → Int) (l : List α) (k : Nat) (hk : k < l.length) (h : f l[k] ≠ 0) (e : firstE f l = firstE f (l.drop k)) : firstE f l = f l[k] := by
 rw [e, List.drop_eq_getElem_cons hk]
 show (if f l[k] = 0 then firstE f (l.drop (k + 1)) else f l[k]) = _
 rw [if_neg h]
theorem firstE_end {α : Type} (f : α → Int) (l : List α) (k : Nat) (hk : l.length ≤ k) (e : firstE f l = firstE f (l.drop k)) : firstE f l = 0 := by
 rw [e, List.drop_of_length_le hk]; rfl
theorem firstE_zero {α : Type} (f : α → Int) : ∀ (l : List α), firstE f l = 0 ↔ ∀ x ∈ l, f x = 0
 | [] => by simp [firstE]
 | x :: r => by
  unfold firstE
  split
  ·rename_i h
   rw [firstE_zero f r]
   simp [h]
  ·rename_i h
   simp [h]
end Go.Proofs.YtomahddiclkepaaDoor
namespace Go.Proofs.YtomahddiclkepaaDoor
open Go.RowKit Go.Joins
open Classical
set_option linter.unusedVariables false
set_option linter.unusedSimpArgs false
theorem book_within (n a b : Int) (w : World) :
 Calls Tryd.prog 51 #[.int .i64 n, .int .i64 a, .int .i64 b] w fun e w' => e = .returned (.bool (withinB n a b)) ∧ w = w' := by
 by_cases h1 : a ≤ n <;> by_cases h2 : n ≤ b <;>
 ·go_enter Tryd.func51, Tryd.ntmps51
  go_wp2
  go_ret
  exact ⟨ret_bool (by simp [withinB, h1, h2]), rfl⟩
theorem bookLetter_any (s : ByteArray) (w : World) (hs : s.size ≤ maxLen) :
 Calls Tryd.prog 67 #[.string s] w fun e w' => e = .returned (.bool (letterOk s.data.toList)) ∧ w = w' := by
 by_cases hL : s.toList = [45]
 ·have hL2 : (s.toList == [45]) = true := by rw [hL]; rfl
  have HK : Hid (letterOk s.data.toList = true) := by show _ = _; unfold letterOk; rw [← ByteArray.toList_eq, hL]; rfl
  clear hL
  go_enter Tryd.func67, Tryd.ntmps67
  go_wp2
  go_ret
  exact ⟨ret_bool' HK.out.symm, rfl⟩
 ·have hL2 : (s.toList == [45]) = false := by simpa using hL
  have HK : Hid (letterOk s.data.toList = abbrB s) := by show _ = _; unfold letterOk; rw [← ByteArray.toList_eq, decide_eq_false hL, Bool.false_or]; rw [ByteArray.toList_eq]; rfl
  clear hL
  go_enter Tryd.func67, Tryd.ntmps67
  go_wp2_with fail
  refine (isAbbr_any _ _ hs).mono ?_
  rintro e w' ⟨rfl, rfl⟩
  go_wp2
  go_ret
  exact ⟨ret_bool' HK.out.symm, rfl⟩
end Go.Proofs.YtomahddiclkepaaDoor
namespace Go.Proofs.YtomahddiclkepaaDoor
open Go.RowKit Go.Joins
open Classical
set_option linter.unusedVariables false
set_option linter.unusedSimpArgs false
theorem cut_le (l sg : List UInt8) : (Lib.cut l sg).1.length ≤ l.length ∧ (Lib.cut l sg).2.1.length ≤ l.length := by
 unfold Lib.cut
 split
 ·simp; omega
 ·simp
def SplitR (f : List UInt8) (e : Ending) : Prop := ∃ a b c x, splitF f = (a, b, c, x) ∧ e = .returned (.tuple #[.string (txt a), .string (txt b), .string (txt c), .bool x])
theorem splitR_mk {f a b c : List UInt8} {x : Bool} {e : Ending} (h : splitF f = (a, b, c, x)) (he : e = .returned (.tuple #[.string (txt a), .string (txt b), .string (txt c), .bool x])) : SplitR f e := ⟨a, b, c, x, h, he⟩
set_option maxRecDepth 100000 in
set_option maxHeartbeats 4000000 in
theorem split_any (f : List UInt8) (w : World) (hf : f.length ≤ 9223372036854775807) (hm : MaxLen w) :
 Calls Tryd.prog 66 #[.string (txt f)] w fun e w' => SplitR f e ∧ Below w.heap.size w w' := by
 have hsz : (txt f).size = f.length := txt_size f
 by_cases hlong : 12 < f.length
 ·have HK : Hid (splitF f = ([], [], [], false)) := by show _ = _; unfold splitF; rw [if_pos hlong]
  have z1 : (12 : Int) < ((txt f).size : Int) := by omega
  clear hlong
  go_enter Tryd.func66, Tryd.ntmps66
  go_wp2_with fail
  refine bodyPost_ret (results_tmp4 rfl _ _ _) rfl ?_
  exact ⟨splitR_mk HK.out rfl, Below.refl _ _⟩
 ·have z1 : ¬ (12 : Int) < ((txt f).size : Int) := by omega
  have HM := Lib.hid hm
  have l1 := cut_le f [47]
  have l2 := cut_le f [37]
  have HC1 := Lib.hid (fun W (h : MaxLen W) => cut_any f [47] W (by omega) h)
  have HC2 := Lib.hid (fun W (h : MaxLen W) => cut_any f [37] W (by omega) h)
  have HF := Lib.hid (show splitF f = if (Lib.cut f [47]).2.2 = true then ((Lib.cut f [47]).1, (Lib.cut f [47]).2.1, [47], abbrB (txt (Lib.cut f [47]).1) && abbrB (txt (Lib.cut f [47]).2.1)) else
   if (Lib.cut f [37]).2.2 = true then ((Lib.cut f [37]).1, (Lib.cut f [37]).2.1, [37], decide ((Lib.cut f [37]).1 ++ (Lib.cut f [37]).2.1 = []) || (decide (((Lib.cut f [37]).1 ++ (Lib.cut f [37]).2.1).length ≤ 8) && abbrB (txt ((Lib.cut f [37]).1 ++ (Lib.cut f [37]).2.1)))) else
   (f, [], [], abbrB (txt f)) from by unfold splitF; rw [if_neg hlong])
  obtain ⟨a1, ea1⟩ : ∃ x, (Lib.cut f [47]).1 = x := ⟨_, rfl⟩
  obtain ⟨b1, eb1⟩ : ∃ x, (Lib.cut f [47]).2.1 = x := ⟨_, rfl⟩
  obtain ⟨i1, ei1⟩ : ∃ x, (Lib.cut f [47]).2.2 = x := ⟨_, rfl⟩
  obtain ⟨a2, ea2⟩ : ∃ x, (Lib.cut f [37]).1 = x := ⟨_, rfl⟩
  obtain ⟨b2, eb2⟩ : ∃ x, (Lib.cut f [37]).2.1 = x := ⟨_, rfl⟩
  obtain ⟨i2, ei2⟩ : ∃ x, (Lib.cut f [37]).2.2 = x := ⟨_, rfl⟩
  rw [ea1, eb1, ei1] at HC1
  rw [ea2, eb2, ei2] at HC2
  rw [ea1, eb1, ei1, ea2, eb2, ei2] at HF
  rw [ea1, eb1] at l1
  rw [ea2, eb2] at l2
  have HA1 := Lib.hid (fun W => isAbbr_any (txt a1) W (by rw [txt_size]; unfold maxLen; omega))
  have HA2 := Lib.hid (fun W => isAbbr_any (txt b1) W (by rw [txt_size]; unfold maxLen; omega))
  have HA3 := Lib.hid (fun W => isAbbr_any (txt (a2 ++ b2)) W (by rw [txt_size, List.length_append]; unfold maxLen; omega))
  have HA4 := Lib.hid (fun W => isAbbr_any (txt f) W (by rw [txt_size]; unfold maxLen; omega))
  have radd := fun W => run_string_add_sum (P := Tryd.prog) W (txt a2) (txt b2) (by rw [txt_size, txt_size]; omega)
  have s12 : (txt (a2 ++ b2)).size ≤ 100 := by rw [txt_size, List.length_append]; omega
  rw [show txt a2 ++ txt b2 = txt (a2 ++ b2) from txt_append a2 b2] at radd
  have HL1 := Lib.hid l1
  clear ea1 eb1 ei1 ea2 eb2 ei2 l1 l2 hlong hm
  go_enter Tryd.func66, Tryd.ntmps66
  go_wp2_with fail
  obtain ⟨W0, eW⟩ : ∃ W0, w.alloc (.cells #[.string ⟨#[47]⟩, .string ⟨#[37]⟩] 9) = W0 := ⟨_, rfl⟩
  have hb0 : Below w.heap.size w W0 := by rw [← eW]; exact (Below.refl _ _).alloc (Nat.le_refl _) _
  have x0 : W0.cell? ⟨w.heap.size, 0, none⟩ = some (.string ⟨#[47]⟩) := by rw [← eW]; exact (cell_of_row _ _ 0 _ _ _ (heap_alloc_new w _)).trans rfl
  have x1 : W0.cell? ⟨w.heap.size, 1, none⟩ = some (.string ⟨#[37]⟩) := by rw [← eW]; exact (cell_of_row _ _ 1 _ _ _ (heap_alloc_new w _)).trans rfl
  have hl0 : w.heap.size < W0.heap.size := by rw [← eW]; simp
  rw [eW]
  have HB0 := Lib.hid hb0
  have HX1 := Lib.hid x1
  have HL0 := Lib.hid hl0
  clear eW hb0 x1 hl0
  refine wp_loop_rounds 3 ?_
  rw [rounds_succ]
  go_wp2_with fail
  refine (HC1.out _ (HM.out.below HB0.out)).mono ?_
  rintro e w1 ⟨rfl, hb1⟩
  have y1 : w1.cell? ⟨w.heap.size, 1, none⟩ = some (.string ⟨#[37]⟩) := (hb1.cell (p := ⟨w.heap.size, 1, none⟩) HL0.out).trans HX1.out
  have HB1 := Lib.hid (HB0.out.trans (hb1.mono HB0.out.size))
  clear hb1 x0
  cases i1 with
  | true =>
   have hres := HF.out
   rw [if_pos rfl] at hres
   have HR := Lib.hid hres
   clear hres
   cases hA : abbrB (txt a1) with
   | false =>
    rw [hA] at HA1 HR
    clear hA
    go_wp2_with fail
    refine (HA1.out _).mono ?_
    rintro e w' ⟨rfl, rfl⟩
    go_wp2_with fail
    refine bodyPost_ret (results_tmp4 rfl _ _ _) rfl ?_
    exact ⟨splitR_mk HR.out rfl, HB1.out⟩
   | true =>
    rw [hA] at HA1 HR
    clear hA
    go_wp2_with fail
    refine (HA1.out _).mono ?_
    rintro e w' ⟨rfl, rfl⟩
    go_wp2_with fail
    refine (HA2.out _).mono ?_
    rintro e w' ⟨rfl, rfl⟩
    go_wp2_with fail
    refine bodyPost_ret (results_tmp4 rfl _ _ _) rfl ?_
    exact ⟨splitR_mk HR.out rfl, HB1.out⟩
  | false =>
   have hres := HF.out
   rw [if_neg (by simp)] at hres
   have HR := Lib.hid hres
   clear hres HF
   go_wp2_with fail
   rw [rounds_succ]
   go_wp2_with fail
   refine (HC2.out _ (HM.out.below HB1.out)).mono ?_
   rintro e w2 ⟨rfl, hb2⟩
   have HB2 := Lib.hid (HB1.out.trans (hb2.mono HB1.out.size))
   clear hb2 y1 HB1
   cases i2 with
   | true =>
    have hres := HR.out
    rw [if_pos rfl] at hres
    have HR2 := Lib.hid hres
    clear hres HR
    obtain ⟨S, eS⟩ : ∃ S, a2 ++ b2 = S := ⟨_, rfl⟩
    rw [eS] at HR2 HA3 radd s12
    clear eS
    by_cases h0 : S = []
    ·have b0 : (txt S).toList.isEmpty = true := by rw [h0, bytes_toList_txt]; rfl
     rw [decide_eq_true h0, Bool.true_or] at HR2
     clear h0
     go_wp2_with fail
     refine bodyPost_ret (results_tmp4 rfl _ _ _) rfl ?_
     exact ⟨splitR_mk HR2.out rfl, HB2.out⟩
    ·have b0 : (txt S).toList.isEmpty = false := by
      rw [bytes_toList_txt]
      cases S with
      | nil => exact absurd rfl h0
      | cons c r => rfl
     rw [decide_eq_false h0, Bool.false_or] at HR2
     clear h0
     by_cases h8 : S.length ≤ 8
     ·have z8 : ((txt S).size : Int) ≤ 8 := by rw [txt_size]; omega
      rw [decide_eq_true h8, Bool.true_and] at HR2
      have hs : (txt S).size = S.length := txt_size S
      clear h8
      go_wp2_with fail
      refine (HA3.out _).mono ?_
      rintro e w' ⟨rfl, rfl⟩
      go_wp2_with fail
      refine bodyPost_ret (results_tmp4 rfl _ _ _) rfl ?_
      exact ⟨splitR_mk HR2.out rfl, HB2.out⟩
     ·have z8 : ¬ ((txt S).size : Int) ≤ 8 := by rw [txt_size]; omega
      have z9 : ¬ (S.length : Int) ≤ 8 := by omega
      rw [decide_eq_false h8, Bool.false_and] at HR2
      clear h8
      go_wp2_with fail
      refine bodyPost_ret (results_tmp4 rfl _ _ _) rfl ?_
      exact ⟨splitR_mk HR2.out rfl, HB2.out⟩
   | false =>
    have hres := HR.out
    rw [if_neg (by simp)] at hres
    have HR2 := Lib.hid hres
    clear hres HR
    go_wp2_with fail
    rw [rounds_succ]
    go_wp2_with fail
    refine (HA4.out _).mono ?_
    rintro e w' ⟨rfl, rfl⟩
    go_wp2_with fail
    refine bodyPost_ret (results_tmp4 rfl _ _ _) rfl ?_
    exact ⟨splitR_mk HR2.out rfl, HB2.out⟩
end Go.Proofs.YtomahddiclkepaaDoor
