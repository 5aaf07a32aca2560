/- Part of the proof. -/
import Derived.Test.YtomahddiclkepaaGreatDoorQw00
import Derived.Test.YtomahddiclkepaaGreatDoorQw11
import Derived.Test.YtomahddiclkepaaGreatDoorQw03
import Derived.Lib.ItoaLen
import Derived.Lib.SmallJoins
import Derived.Deep.RegionHeld3
import Derived.Test.YtomahddiclkepaaGreatDoorQw10
import Derived.LoopN
import Derived.Deep.MidRow
import Derived.Laws.ResultCell
set_option maxHeartbeats 20000000
set_option maxRecDepth 1000000
set_option linter.unusedVariables false
set_option linter.unusedSimpArgs false
namespace Go.Proofs.YtomahddiclkepaaGreatDoor
open Go.RowKit Go.Joins
theorem index_no (l t : List UInt8) (s : UInt8) (h : ∀ c ∈ l, c ≠ s) : Lib.index l (s :: t) = -1 := by
 refine Lib.index_none (fun j hj => ?_)
 cases ho : Lib.occAt l (s :: t) j
 ·rfl
 ·have := Lib.occAt_head rfl ho
  exact absurd rfl (h s (List.mem_of_getElem? this))
theorem cut_no (l t : List UInt8) (s : UInt8) (h : ∀ c ∈ l, c ≠ s) : Lib.cut l (s :: t) = (l, [], false) := by
 unfold Lib.cut
 rw [index_no l t s h, if_neg (by omega)]
theorem cut_two (g r : List UInt8) (s t : UInt8) (h : ∀ c ∈ g, c ≠ s) : Lib.cut (g ++ ([s, t] ++ r)) [s, t] = (g, r, true) := by
 have hi : Lib.index (g ++ ([s, t] ++ r)) [s, t] = g.length := by
  refine Lib.index_first (by simp) ?_ ?_
  ·unfold Lib.occAt
   rw [List.drop_append_of_le_length (Nat.le_refl _), List.drop_length]
   simp
  ·intro j hj
   cases ho : Lib.occAt (g ++ ([s, t] ++ r)) [s, t] j
   ·rfl
   ·have := Lib.occAt_head rfl ho
    rw [List.getElem?_append_left hj, List.getElem?_eq_getElem hj] at this
    injection this with this
    exact absurd this (h _ (List.getElem_mem _))
 unfold Lib.cut
 rw [hi, if_pos (by omega)]
 simp [List.drop_append]
theorem cut_small (l sg : List UInt8) : (Lib.cut l sg).2.1.length <= l.length := by
 unfold Lib.cut
 split
 ·simp
 ·simp
def isLt (c : UInt8) : Prop := 65 <= c.toNat /\ c.toNat <= 122
theorem word_letters {wd : Int} (h0 : 0 <= wd) (h6 : wd <= 6) : ∀ c ∈ wordT wd, isLt c := by
 rcases wd_cases h0 h6 with rfl | rfl | rfl | rfl | rfl | rfl | rfl <;> (unfold isLt; decide)
theorem word_wday {wd : Int} (h0 : 0 <= wd) (h6 : wd <= 6) : wdayV (wordT wd) = wd := by
 rcases wd_cases h0 h6 with rfl | rfl | rfl | rfl | rfl | rfl | rfl <;> rfl
theorem word_head {wd : Int} (h0 : 0 <= wd) (h6 : wd <= 6) (r : List UInt8) : Lib.hasPrefix (wordT wd ++ r) [108, 97, 115, 116] = false := by
 rcases wd_cases h0 h6 with rfl | rfl | rfl | rfl | rfl | rfl | rfl <;> rfl
theorem dg_head (l : List UInt8) (hd : ∀ c ∈ l, isDg c) : Lib.hasPrefix l [108, 97, 115, 116] = false := by
 cases l with
 | nil => rfl
 | cons c r =>
  have hc := hd c (by simp)
  have : c ≠ 108 := dg_ne hc 108 (by decide)
  simp only [Lib.hasPrefix, List.isPrefixOf_cons_cons, Bool.and_eq_false_iff]
  left
  simpa using fun e => this e.symm
theorem lt_ne {c : UInt8} (h : isLt c) (s : UInt8) (hs : s.toNat < 65) : c ≠ s := by
 rintro rfl
 unfold isLt at h
 omega
theorem last_letters : ∀ c ∈ ([108, 97, 115, 116] : List UInt8), isLt c := by unfold isLt; decide
theorem Read_no (l : List UInt8) (w : World) (hl : l.length <= 4294967280) (hno : ∀ k wd n, dayB k wd n = true -> dayT k wd n ≠ l) (ht : Tab10 w) (hn : NumErrs w) (hm : MaxLen w) :
 Calls Tryz.prog 138 #[.string (txt l)] w fun e w' => e = .returned (.tuple #[dayV 0 0 0, .int .i64 3]) /\ Below w.heap.size w w' := by
 refine Read_walk l w hl ht hn hm (fun _ _ st => st.2.2.length <= l.length + 1) ?_ ?_ ?_ (fun a b st h => by omega) (0, 0, 0, 3) (fun st _ => ?_)
 ·unfold dayS0
  split
  ·simp
  ·exact Nat.le_succ _
 ·intro b st h
  unfold dayHit
  split
  ·have := cut_small l [62, 61]
   show (Lib.cut l [62, 61]).2.1.length <= l.length + 1
   omega
  ·exact h
 ·intro b st h
  unfold dayHit
  split
  ·have := cut_small l [60, 61]
   show (Lib.cut l [60, 61]).2.1.length <= l.length + 1
   omega
  ·exact h
 ·unfold DayRes
  cases hb : dayB st.1 st.2.1 (atoiV st.2.2)
  ·exact .inr (.inr ⟨rfl, rfl⟩)
  ·exact .inr (.inl ⟨rfl, hno _ _ _ hb, rfl⟩)
theorem dayT_small {k wd n : Int} (h : dayB k wd n = true) : (dayT k wd n).length <= 20 := by
 have h' := h
 simp only [dayB, decide_eq_true_eq] at h'
 have h1 := itoa_31 (n := n) (by omega) (by omega)
 unfold dayT
 split
 ·have := wordT_length (wd := wd) (by omega) (by omega)
  simp; omega
 ·split
  ·have := wordT_length (wd := wd) (by omega) (by omega)
   simp; omega
  ·split
   ·have := wordT_length (wd := wd) (by omega) (by omega)
    simp; omega
   ·omega
theorem Read_ok (k wd n : Int) (w : World) (hd : dayB k wd n = true) (ht : Tab10 w) (hn : NumErrs w) (hm : MaxLen w) :
 Calls Tryz.prog 138 #[.string (txt (dayT k wd n))] w fun e w' => e = .returned (.tuple #[dayV k wd n, .int .i64 0]) /\ Below w.heap.size w w' := by
 have hl := dayT_small hd
 have hd' := hd
 simp only [dayB, decide_eq_true_eq] at hd'
 have hi : 0 <= n /\ n <= 31 := by omega
 have hdg := itoa_dg hi.1
 have hil := itoa_31 hi.1 hi.2
 have hat : atoiV (Lib.itoa n) = n := atoiV_itoa hi.1 (by omega)
 rcases hd' with ⟨rfl, rfl, h⟩ | ⟨rfl, h0, h6, rfl⟩ | ⟨rfl | rfl, h0, h6, h⟩
 ·have e : dayT 1 0 n = Lib.itoa n := by simp [dayT]
  rw [e] at hl ⊢
  have h1 := cut_no (Lib.itoa n) [61] 62 (fun c hc => dg_ne (hdg c hc) 62 (by decide))
  have h2 := cut_no (Lib.itoa n) [61] 60 (fun c hc => dg_ne (hdg c hc) 60 (by decide))
  refine Read_walk (Lib.itoa n) w (by omega) ht hn hm (fun _ _ st => st = (1, 0, Lib.itoa n)) ?_ ?_ ?_ (fun a b st h => by subst h; show (Lib.itoa n).length <= _; omega) (1, 0, n, 0) (fun st hst => ?_)
  ·unfold dayS0; rw [dg_head _ hdg]; rfl
  ·intro b st hst; unfold dayHit; rw [h1]; exact hst
  ·intro b st hst; unfold dayHit; rw [h2]; exact hst
  ·subst hst
   unfold DayRes
   simp only [hat]
   exact .inl ⟨hd, e, trivial⟩
 ·have e : dayT 2 wd 0 = [108, 97, 115, 116] ++ wordT wd := by simp [dayT]
  rw [e] at hl ⊢
  have hlt : ∀ c ∈ [108, 97, 115, 116] ++ wordT wd, isLt c := fun c hc => (List.mem_append.1 hc).elim (last_letters c) (word_letters h0 h6 c)
  have h1 := cut_no ([108, 97, 115, 116] ++ wordT wd) [61] 62 (fun c hc => lt_ne (hlt c hc) 62 (by decide))
  have h2 := cut_no ([108, 97, 115, 116] ++ wordT wd) [61] 60 (fun c hc => lt_ne (hlt c hc) 60 (by decide))
  have hp : Lib.hasPrefix ([108, 97, 115, 116] ++ wordT wd) [108, 97, 115, 116] = true := by simp [Lib.hasPrefix]
  have htp : Lib.trimPrefix ([108, 97, 115, 116] ++ wordT wd) [108, 97, 115, 116] = wordT wd := by unfold Lib.trimPrefix; rw [hp]; simp
  have h48 : atoiV [48] = 0 := by decide
  refine Read_walk ([108, 97, 115, 116] ++ wordT wd) w (by omega) ht hn hm (fun _ _ st => st = (2, wd, [48])) ?_ ?_ ?_ (fun a b st h => by subst h; show ([48] : List UInt8).length <= _; simp) (2, wd, 0, 0) (fun st hst => ?_)
  ·unfold dayS0; rw [hp, htp, word_wday h0 h6]; rfl
  ·intro b st hst; unfold dayHit; rw [h1]; exact hst
  ·intro b st hst; unfold dayHit; rw [h2]; exact hst
  ·subst hst
   unfold DayRes
   simp only [h48]
   exact .inl ⟨hd, e, trivial⟩
 ·have e : dayT 3 wd n = wordT wd ++ ([62, 61] ++ Lib.itoa n) := by simp [dayT]
  rw [e] at hl ⊢
  have h1 := cut_two (wordT wd) (Lib.itoa n) 62 61 (fun c hc => lt_ne (word_letters h0 h6 c hc) 62 (by decide))
  have h2 := cut_no (wordT wd ++ ([62, 61] ++ Lib.itoa n)) [61] 60 (fun c hc => by
   rcases List.mem_append.1 hc with hc | hc
   ·exact lt_ne (word_letters h0 h6 c hc) 60 (by decide)
   ·rcases List.mem_append.1 hc with hc | hc
    ·simp only [List.mem_cons, List.not_mem_nil, or_false] at hc
     rcases hc with rfl | rfl <;> decide
    ·exact dg_ne (hdg c hc) 60 (by decide))
  refine Read_walk (wordT wd ++ ([62, 61] ++ Lib.itoa n)) w (by omega) ht hn hm (fun a _ st => st = if a then (1, 0, wordT wd ++ ([62, 61] ++ Lib.itoa n)) else (3, wd, Lib.itoa n)) ?_ ?_ ?_ (fun a b st h => by subst h; cases a <;> simp <;> simp at hl <;> omega) (3, wd, n, 0) (fun st hst => ?_)
  ·unfold dayS0; rw [word_head h0 h6]; rfl
  ·intro b st hst; unfold dayHit; rw [h1, word_wday h0 h6]; rfl
  ·intro b st hst; unfold dayHit; rw [h2]; exact hst
  ·subst hst
   unfold DayRes
   simp only [Bool.false_eq_true, if_false, hat]
   exact .inl ⟨hd, e, trivial⟩
 ·have e : dayT 4 wd n = wordT wd ++ ([60, 61] ++ Lib.itoa n) := by simp [dayT]
  rw [e] at hl ⊢
  have h1 := cut_two (wordT wd) (Lib.itoa n) 60 61 (fun c hc => lt_ne (word_letters h0 h6 c hc) 60 (by decide))
  have h2 := cut_no (wordT wd ++ ([60, 61] ++ Lib.itoa n)) [61] 62 (fun c hc => by
   rcases List.mem_append.1 hc with hc | hc
   ·exact lt_ne (word_letters h0 h6 c hc) 62 (by decide)
   ·rcases List.mem_append.1 hc with hc | hc
    ·simp only [List.mem_cons, List.not_mem_nil, or_false] at hc
     rcases hc with rfl | rfl <;> decide
    ·exact dg_ne (hdg c hc) 62 (by decide))
  refine Read_walk (wordT wd ++ ([60, 61] ++ Lib.itoa n)) w (by omega) ht hn hm (fun _ b st => st = if b then (1, 0, wordT wd ++ ([60, 61] ++ Lib.itoa n)) else (4, wd, Lib.itoa n)) ?_ ?_ ?_ (fun a b st h => by subst h; cases b <;> simp <;> simp at hl <;> omega) (4, wd, n, 0) (fun st hst => ?_)
  ·unfold dayS0; rw [word_head h0 h6]; rfl
  ·intro b st hst; unfold dayHit; rw [h2]; exact hst
  ·intro b st hst; unfold dayHit; rw [h1, word_wday h0 h6]; rfl
  ·subst hst
   unfold DayRes
   simp only [Bool.false_eq_true, if_false, hat]
   exact .inl ⟨hd, e, trivial⟩
end Go.Proofs.YtomahddiclkepaaGreatDoor
namespace Go.Proofs.YtomahddiclkepaaGreatDoor
open Go.RowKit Go.Joins
open Classical
theorem spanP_mem {n : Int} (h0 : 0 <= n) (h1 : n <= 604800) : ∀ c ∈ spanP n, isDg c \/ c = 58 := by
 intro c hc
 unfold spanP at hc
 simp only [List.mem_append, List.mem_cons, List.not_mem_nil, or_false] at hc
 rcases hc with h | h | h | h
 ·exact Or.inl (itoa_dg (by omega) c h)
 ·exact Or.inr h
 ·exact Or.inl (T2_dg (by omega) (by omega) c h)
 ·split at h
  ·cases h
  ·simp only [List.mem_append, List.mem_cons, List.not_mem_nil, or_false] at h
   rcases h with h | h
   ·exact Or.inr h
   ·exact Or.inl (T2_dg (by omega) (by omega) c h)
theorem spanT_mem {n : Int} (h : inS n) : ∀ c ∈ spanT n, isDg c \/ c = 58 \/ c = 45 := by
 obtain ⟨h0, h1⟩ := h
 intro c hc
 unfold spanT at hc
 split at hc
 ·simp only [List.mem_cons] at hc
  rcases hc with h | h
  ·exact Or.inr (Or.inr h)
  ·rcases spanP_mem (n := -n) (by omega) (by omega) c h with h | h
   ·exact Or.inl h
   ·exact Or.inr (Or.inl h)
 ·rcases spanP_mem (n := n) (by omega) (by omega) c hc with h | h
  ·exact Or.inl h
  ·exact Or.inr (Or.inl h)
theorem spanT_ne32 {n : Int} (h : inS n) : ∀ c ∈ spanT n, c ≠ 32 := by
 intro c hc
 rcases spanT_mem h c hc with h | rfl | rfl
 ·exact dg_ne h 32 (Or.inl (by decide))
 ·decide
 ·decide
theorem dayT_ne32 {k wd n : Int} (h : dayB k wd n = true) : ∀ c ∈ dayT k wd n, c ≠ 32 := by
 simp only [dayB, decide_eq_true_eq] at h
 have hl : ∀ c, isLt c -> c ≠ 32 := fun c h => lt_ne h 32 (by decide)
 have hd : ∀ c, isDg c -> c ≠ 32 := fun c h => dg_ne h 32 (Or.inl (by decide))
 intro c hc
 unfold dayT at hc
 rcases h with ⟨rfl, rfl, h1, h2⟩ | ⟨rfl, h1, h2, rfl⟩ | ⟨rfl | rfl, h1, h2, h3, h4⟩
 ·rw [if_neg (by decide), if_neg (by decide), if_neg (by decide)] at hc
  exact hd c (itoa_dg (by omega) c hc)
 ·rw [if_pos rfl] at hc
  rcases List.mem_append.1 hc with h | h
  ·exact hl c (last_letters c h)
  ·exact hl c (word_letters h1 h2 c h)
 ·rw [if_neg (by decide), if_pos rfl] at hc
  rcases List.mem_append.1 hc with h | h
  ·exact hl c (word_letters h1 h2 c h)
  ·rcases List.mem_append.1 h with h | h
   ·simp only [List.mem_cons, List.not_mem_nil, or_false] at h
    rcases h with rfl | rfl <;> decide
   ·exact hd c (itoa_dg (by omega) c h)
 ·rw [if_neg (by decide), if_neg (by decide), if_pos rfl] at hc
  rcases List.mem_append.1 hc with h | h
  ·exact hl c (word_letters h1 h2 c h)
  ·rcases List.mem_append.1 h with h | h
   ·simp only [List.mem_cons, List.not_mem_nil, or_false] at h
    rcases h with rfl | rfl <;> decide
   ·exact hd c (itoa_dg (by omega) c h)
def ckOf (l : List UInt8) : Int := if l.getLast? = some 115 then 1 else if l.getLast? = some 117 then 2 else 0
def tmOf (l : List UInt8) : List UInt8 := if ckOf l = 0 then l else l.dropLast
theorem spanP_last {n : Int} (h0 : 0 <= n) : ∃ p c, spanP n = p ++ [c] /\ isDg c := by
 by_cases hz : n % 60 = 0
 ·refine ⟨Lib.itoa (n / 3600) ++ ([58] ++ [UInt8.ofNat (48 + (n / 60 % 60 / 10).toNat)]), UInt8.ofNat (48 + (n / 60 % 60 % 10).toNat), ?_, T2_dg (n := n / 60 % 60) (by omega) (by omega) _ (by simp [T2])⟩
  unfold spanP
  rw [if_pos hz]
  simp [T2]
 ·refine ⟨Lib.itoa (n / 3600) ++ ([58] ++ (T2 (n / 60 % 60) ++ ([58] ++ [UInt8.ofNat (48 + (n % 60 / 10).toNat)]))), UInt8.ofNat (48 + (n % 60 % 10).toNat), ?_, T2_dg (n := n % 60) (by omega) (by omega) _ (by simp [T2])⟩
  unfold spanP
  rw [if_neg hz]
  simp [T2]
theorem spanT_last {n : Int} (h : inS n) : ∃ p c, spanT n = p ++ [c] /\ isDg c := by
 obtain ⟨h0, h1⟩ := h
 unfold spanT
 split
 ·obtain ⟨p, c, e, hc⟩ := spanP_last (n := -n) (by omega)
  exact ⟨45 :: p, c, by rw [e]; rfl, hc⟩
 ·exact spanP_last (by omega)
theorem ck_of {n b : Int} (h : inS n) (h0 : 0 <= b) (h2 : b <= 2) : ckOf (spanT n ++ ckT b) = b /\ tmOf (spanT n ++ ckT b) = spanT n /\ spanT n ++ ckT b ≠ [] := by
 obtain ⟨p, c, e, hc⟩ := spanT_last h
 have hb : b = 0 \/ b = 1 \/ b = 2 := by omega
 rcases hb with rfl | rfl | rfl
 ·have e0 : ckT 0 = [] := by decide
  have hk : ckOf (spanT n) = 0 := by
   unfold ckOf
   rw [e]
   simp only [List.getLast?_append, List.getLast?_singleton, Option.some_or]
   rw [if_neg (by intro h; injection h with h; subst h; unfold isDg at hc; exact absurd hc (by decide)), if_neg (by intro h; injection h with h; subst h; unfold isDg at hc; exact absurd hc (by decide))]
  rw [e0, List.append_nil]
  refine ⟨hk, by unfold tmOf; rw [if_pos hk], by rw [e]; simp⟩
 ·have e1 : ckT 1 = [115] := by decide
  have hk : ckOf (spanT n ++ [115]) = 1 := by unfold ckOf; simp
  rw [e1]
  refine ⟨hk, by unfold tmOf; rw [hk, if_neg (by decide)]; simp, by simp⟩
 ·have e2 : ckT 2 = [117] := by decide
  have hk : ckOf (spanT n ++ [117]) = 2 := by unfold ckOf; simp
  rw [e2]
  refine ⟨hk, by unfold tmOf; rw [hk, if_neg (by decide)]; simp, by simp⟩
theorem ruW_ne {r : Ru} (o : OkRu r) : ∀ x ∈ ruW r, ∀ c ∈ x, c ≠ 32 := by
 have hd : ∀ n : Int, 0 <= n -> ∀ c ∈ Lib.itoa n, c ≠ 32 := fun n h c hc => dg_ne (itoa_dg h c hc) 32 (Or.inl (by decide))
 have f1 := o.f1; have t1 := o.t1; have m1 := o.m1; have s1 := o.s1; have s2 := o.s2
 intro x hx c hc
 simp only [ruW, List.mem_cons, List.not_mem_nil, or_false] at hx
 rcases hx with rfl | rfl | rfl | rfl | rfl | rfl | rfl | rfl | rfl
 ·simp only [List.mem_cons, List.not_mem_nil, or_false] at hc
  rcases hc with rfl | rfl | rfl | rfl <;> decide
 ·have := o.nm
  unfold nameB at this
  simp only [Bool.and_eq_true] at this
  exact sign_ne this.1 (by decide) c hc
 ·exact hd _ (by omega) c hc
 ·exact hd _ (by omega) c hc
 ·exact hd _ (by omega) c hc
 ·exact dayT_ne32 o.d c hc
 ·rcases List.mem_append.1 hc with h | h
  ·exact spanT_ne32 ⟨o.a1, o.a2⟩ c h
  ·unfold ckT at h
   split at h
   ·simp only [List.mem_singleton] at h; subst h; decide
   ·split at h
    ·simp only [List.mem_singleton] at h; subst h; decide
    ·cases h
 ·exact spanT_ne32 ⟨by omega, by omega⟩ c hc
 ·rcases o.lt with h | h
  ·rw [<- ByteArray.toList_eq, h] at hc
   simp only [List.mem_singleton] at hc; subst hc; decide
  ·exact sign_ne h (by decide) c hc
theorem ru_split {r : Ru} (o : OkRu r) : splitC 32 (ruText r) = ruW r := split_glue _ (by simp [ruW]) (ruW_ne o)
def AscTab (w : World) : Prop := Lib.TabIs Tryz.prog w "strings.asciiSpace" .u8 Lib.asciiSpaceTab
theorem AscTab.below {w w' : World} (h : AscTab w) (hb : Below w.heap.size w w') : AscTab w' := (Lib.tabBelow_of_tabIs h) w' hb
theorem trim_one (b : Int) (h0 : 0 <= b) (h2 : b <= 2) : ∃ T : ByteArray,
 (∀ W : World, (Instr.slice 9 (.string ⟨#[32, 115, 117]⟩) (some (.int .i64 b)) (some (.int .i64 (b + 1))) none).run Tryz.prog W = .ok (.string T) W) /\
 (∀ W : World, AscTab W -> Calls Tryz.prog 74 #[.string T] W fun e w' => e = .returned (.string (txt (ckT b))) /\ Below W.heap.size W w') := by
 have hb : b = 0 \/ b = 1 \/ b = 2 := by omega
 have key : ∀ (c : UInt8), c.toNat < 128 -> ∀ R, Lib.trimSpace [c] = R -> ∀ W : World, AscTab W -> Calls Tryz.prog 74 #[.string ⟨#[c]⟩] W fun e w' => e = .returned (.string (txt R)) /\ Below W.heap.size W w' := by
  intro c hc R hR W ha
  refine (Tryz.strings_TrimSpace ⟨#[c]⟩ W (by show (1 : Nat) <= _; omega) (by
   intro j x hx
   cases j with
   | zero => simp at hx; subst hx; exact hc
   | succ j => simp at hx) ha).mono ?_
  rintro e w' ⟨rfl, rfl⟩
  exact ⟨by rw [<- hR]; rfl, below_bytesWorld _ _ _ _ (Nat.le_refl _)⟩
 rcases hb with rfl | rfl | rfl
 ·refine ⟨⟨#[32]⟩, fun W => ?_, key 32 (by decide) _ (by decide)⟩
  rw [run_slice_string (P := Tryz.prog) W _ _ _ _ _ _ Tryz.underlying9 (by omega) (by omega) (by show (0 : Int) + 1 <= ((3 : Nat) : Int); omega)]
  rfl
 ·refine ⟨⟨#[115]⟩, fun W => ?_, key 115 (by decide) _ (by decide)⟩
  rw [run_slice_string (P := Tryz.prog) W _ _ _ _ _ _ Tryz.underlying9 (by omega) (by omega) (by show (1 : Int) + 1 <= ((3 : Nat) : Int); omega)]
  rfl
 ·refine ⟨⟨#[117]⟩, fun W => ?_, key 117 (by decide) _ (by decide)⟩
  rw [run_slice_string (P := Tryz.prog) W _ _ _ _ _ _ Tryz.underlying9 (by omega) (by omega) (by show (2 : Int) + 1 <= ((3 : Nat) : Int); omega)]
  rfl
theorem dayT_len {k wd n : Int} (h : dayB k wd n = true) : (dayT k wd n).length <= 30 := by
 simp only [dayB, decide_eq_true_eq] at h
 have hw : (wordT wd).length = 3 := wordT_length (by omega) (by omega)
 have hi := Lib.itoa_length_le n (by omega) (by omega)
 unfold dayT
 split
 ·simp only [List.length_append, List.length_cons, List.length_nil]; omega
 ·split
  ·simp only [List.length_append, List.length_cons, List.length_nil]; omega
  ·split
   ·simp only [List.length_append, List.length_cons, List.length_nil]; omega
   ·omega
theorem all_size {s : ByteArray} {most : Int} {o : ByteArray} (h : allB s most o = true) : (s.size : Int) <= most := by
 unfold allB at h
 simp only [Bool.and_eq_true, decide_eq_true_eq] at h
 exact h.2
theorem okRu_nm {r : Ru} (o : OkRu r) : r.nm.size <= 20 := by
 have := o.nm
 unfold nameB at this
 simp only [Bool.and_eq_true] at this
 have := all_size this.1
 omega
theorem okRu_lt {r : Ru} (o : OkRu r) : r.lt.size <= 8 := by
 rcases o.lt with h | h
 ·have : r.lt.data.toList.length = 1 := by rw [<- ByteArray.toList_eq, h]; rfl
  simp at this
  omega
 ·have := all_size h
  omega
theorem join9 (a b c d e f g h i : ByteArray) (W : World) (cap : Nat) (hc : 9 <= cap) (bk : Nat) (hbk : bk < W.heap.size) (row : ∃ t z, W.heap[bk]? = some (.cells #[.string a, .string b, .string c, .string d, .string e, .string f, .string g, .string h, .string i] t z)) (hs : ∀ x ∈ [a, b, c, d, e, f, g, h, i], x.size <= 60) :
 Calls Tryz.prog 32 #[.slice (some ⟨bk, 0, none⟩) 9 cap, .string ⟨#[32]⟩] W fun en w' => en = .returned (.string (txt (glue [a.data.toList, b.data.toList, c.data.toList, d.data.toList, e.data.toList, f.data.toList, g.data.toList, h.data.toList, i.data.toList]))) /\ Below W.heap.size W w' := by
 obtain ⟨t, z, hrow⟩ := row
 have hj : Lib.join ([a, b, c, d, e, f, g, h, i].map (·.data.toList)) (⟨#[32]⟩ : ByteArray).data.toList = glue [a.data.toList, b.data.toList, c.data.toList, d.data.toList, e.data.toList, f.data.toList, g.data.toList, h.data.toList, i.data.toList] := by
  simp [Lib.join, List.intercalate, glue]
 refine (Tryz.strings_Join bk 0 cap [a, b, c, d, e, f, g, h, i] ⟨#[32]⟩ W ?_ hbk (by simp) (by simpa using hc) ?_).mono ?_
 ·intro j x hx
  have hj9 : j < 9 := by
   have := (List.getElem?_eq_some_iff.mp hx).1
   simpa using this
  rw [show (0 + j) = j from Nat.zero_add j]
  refine (cell_of_row W bk j _ _ _ hrow).trans ?_
  have : j = 0 \/ j = 1 \/ j = 2 \/ j = 3 \/ j = 4 \/ j = 5 \/ j = 6 \/ j = 7 \/ j = 8 := by omega
  rcases this with rfl | rfl | rfl | rfl | rfl | rfl | rfl | rfl | rfl <;> (simp at hx; subst hx; rfl)
 ·rw [hj]
  have h1 := hs a (by simp); have h2 := hs b (by simp); have h3 := hs c (by simp); have h4 := hs d (by simp); have h5 := hs e (by simp)
  have h6 := hs f (by simp); have h7 := hs g (by simp); have h8 := hs h (by simp); have h9 := hs i (by simp)
  simp only [glue, List.length_append, List.length_cons, Array.length_toList, ByteArray.size_data]
  omega
 ·rintro en w' ⟨rfl, hb⟩
  exact ⟨by rw [hj]; rfl, hb⟩
theorem ruText_ok (r : Ru) (w : World) (o : OkRu r) (ht : Tab10 w) (ha : AscTab w) :
 Calls Tryz.prog 30 #[ruV r] w fun e w' => e = .returned (.tuple #[.string (txt (ruText r)), .int .i64 0]) /\ Below w.heap.size w w' := by
 have hchk := ok_ru o
 have f1 := o.f1; have f2 := o.f2; have t1 := o.t1; have t2 := o.t2; have m1 := o.m1; have m2 := o.m2; have a1 := o.a1; have a2 := o.a2; have c1 := o.c1; have c2 := o.c2; have s1 := o.s1; have s2 := o.s2
 have n1 := okRu_nm o; have n2 := okRu_lt o
 have HCK : Hid (∀ W : World, Calls Tryz.prog 33 #[ruV r] W fun e w' => e = .returned (.int .i64 0) /\ Below W.heap.size W w') := by
  show ∀ W : World, _
  intro W
  have := ruCheck_any r W (by unfold maxLen; omega) (by unfold maxLen; omega)
  rw [hchk] at this
  exact this
 have HD := qH (fun W (hb : Tab10 W) => Text_ok r.dk r.dw r.dn W o.d hb)
 have HAT := qH (fun W (hb : Tab10 W) => Span_ok r.tm W (by omega) (by omega) hb)
 have HSV := qH (fun W (hb : Tab10 W) => Span_ok r.sv W (by omega) (by omega) hb)
 have H1 := qH (fun W (hb : Tab10 W) => itoa_text r.yf W (by omega) (by omega) hb)
 have H2 := qH (fun W (hb : Tab10 W) => itoa_text r.yt W (by omega) (by omega) hb)
 have H3 := qH (fun W (hb : Tab10 W) => itoa_text r.mo W (by omega) (by omega) hb)
 obtain ⟨T, hsl, hTr⟩ := trim_one r.ck (by omega) (by omega)
 have HTR := qH hTr
 have g1 : (txt (Lib.itoa r.yf)).size <= 60 := by rw [txt_size]; exact Nat.le_trans (Lib.itoa_length_le _ (by omega) (by omega)) (by decide)
 have g2 : (txt (Lib.itoa r.yt)).size <= 60 := by rw [txt_size]; exact Nat.le_trans (Lib.itoa_length_le _ (by omega) (by omega)) (by decide)
 have g3 : (txt (Lib.itoa r.mo)).size <= 60 := by rw [txt_size]; exact Nat.le_trans (Lib.itoa_length_le _ (by omega) (by omega)) (by decide)
 have g4 : (txt (dayT r.dk r.dw r.dn)).size <= 60 := by rw [txt_size]; exact Nat.le_trans (dayT_len o.d) (by decide)
 have g5 : (txt (spanT r.tm)).size <= 10 := by rw [txt_size]; exact spanT_len ⟨a1, a2⟩
 have g6 : (txt (spanT r.sv)).size <= 60 := by rw [txt_size]; exact Nat.le_trans (spanT_len ⟨by omega, by omega⟩) (by decide)
 have g7 : (txt (ckT r.ck)).size <= 1 := by rw [txt_size]; unfold ckT; split <;> (try split) <;> simp
 have hE : txt (glue [(⟨#[114, 117, 108, 101]⟩ : ByteArray).data.toList, r.nm.data.toList, (txt (Lib.itoa r.yf)).data.toList, (txt (Lib.itoa r.yt)).data.toList, (txt (Lib.itoa r.mo)).data.toList, (txt (dayT r.dk r.dw r.dn)).data.toList, (txt (spanT r.tm) ++ txt (ckT r.ck)).data.toList, (txt (spanT r.sv)).data.toList, r.lt.data.toList]) = txt (ruText r) := by
  rw [txt_append]
  rfl
 obtain ⟨YF, e1⟩ : ∃ Y, txt (Lib.itoa r.yf) = Y := ⟨_, rfl⟩
 obtain ⟨YT, e2⟩ : ∃ Y, txt (Lib.itoa r.yt) = Y := ⟨_, rfl⟩
 obtain ⟨MO, e3⟩ : ∃ Y, txt (Lib.itoa r.mo) = Y := ⟨_, rfl⟩
 obtain ⟨ON, e4⟩ : ∃ Y, txt (dayT r.dk r.dw r.dn) = Y := ⟨_, rfl⟩
 obtain ⟨AT, e5⟩ : ∃ Y, txt (spanT r.tm) = Y := ⟨_, rfl⟩
 obtain ⟨SV, e6⟩ : ∃ Y, txt (spanT r.sv) = Y := ⟨_, rfl⟩
 obtain ⟨CK, e7⟩ : ∃ Y, txt (ckT r.ck) = Y := ⟨_, rfl⟩
 obtain ⟨RES, e8⟩ : ∃ Y, txt (ruText r) = Y := ⟨_, rfl⟩
 rw [e1, e2, e3, e4, e5, e6, e7, e8] at hE
 rw [e1] at H1 g1
 rw [e2] at H2 g2
 rw [e3] at H3 g3
 rw [e4] at HD g4
 rw [e5] at HAT g5
 rw [e6] at HSV g6
 rw [e7] at HTR g7
 rw [e8]
 have HSZ : Hid (∀ x ∈ [(⟨#[114, 117, 108, 101]⟩ : ByteArray), r.nm, YF, YT, MO, ON, AT ++ CK, SV, r.lt], x.size <= 60) := by
  show ∀ x ∈ _, _
  intro x hx
  simp only [List.mem_cons, List.not_mem_nil, or_false] at hx
  rcases hx with rfl | rfl | rfl | rfl | rfl | rfl | rfl | rfl | rfl
  ·decide
  ·omega
  ·exact g1
  ·exact g2
  ·exact g3
  ·exact g4
  ·rw [ByteArray.size_append]; omega
  ·exact g6
  ·omega
 have hw1 : IntKind.i64.wrap (r.ck + 1) = r.ck + 1 := by rw [IntKind.wrap_i64]; omega
 have radd := fun W => run_string_add_sum (P := Tryz.prog) W AT CK (by omega)
 have HE := qH hE
 have HT := qH ht
 have HA := qH ha
 clear e1 e2 e3 e4 e5 e6 e7 e8 g1 g2 g3 g4 g5 g6 g7 hE ht ha hTr hchk f1 f2 t1 t2 m1 m2 a1 a2 c1 c2 s1 s2 n1 n2 o
 obtain ⟨W0, eW⟩ : ∃ W0, w.alloc (.cells (ruCells r) 87) = W0 := ⟨_, rfl⟩
 have HX : Hid (RuBx W0 w.heap.size r) := by show RuBx _ _ _; rw [<- eW]; exact RuBx.box w r
 have HB : Hid (Below w.heap.size w W0) := by show Below _ _ _; rw [<- eW]; exact (Below.refl _ _).alloc (Nat.le_refl _) _
 have HEW := qH eW
 obtain ⟨nm, yf, yt, mo, dk, dw, dn, tm, ck, sv, lt⟩ := r
 obtain ⟨x0, x1, x2, x3, x4, x5, x6, x7, x8, x9, x10⟩ := HX.out.cells
 have hl0 := HX.out.lt
 simp only at H1 H2 H3 HD HAT HSV HTR HSZ HE hw1 hsl x0 x1 x2 x3 x4 x5 x6 x7 x8 x9 x10
 clear eW
 go_enter Tryz.func30, Tryz.ntmps30
 go_wp2_with fail
 rw [HEW.out]
 refine (HCK.out _).mono ?_
 rintro e w1 ⟨rfl, hb1⟩
 have HX1 := qH (HX.out.below (hb1.mono (Nat.le_refl _)))
 have HB1 := qH (HB.out.trans (hb1.mono HB.out.size))
 clear hb1 HX HB x0 x1 x2 x3 x4 x5 x6 x7 x8 x9 x10 hl0
 obtain ⟨x0, x1, x2, x3, x4, x5, x6, x7, x8, x9, x10⟩ := HX1.out.cells
 have hl0 := HX1.out.lt
 simp only at x0 x1 x2 x3 x4 x5 x6 x7 x8 x9 x10
 go_wp2_with fail
 refine (HD.out _ (HT.out.below HB1.out)).mono ?_
 rintro e w2 ⟨rfl, hb2⟩
 have HX2 := qH (HX1.out.below (hb2.mono (Nat.le_refl _)))
 have HB2 := qH (HB1.out.trans (hb2.mono HB1.out.size))
 clear hb2 HX1 HB1 x0 x1 x2 x3 x4 x5 x6 x7 x8 x9 x10 hl0
 obtain ⟨x0, x1, x2, x3, x4, x5, x6, x7, x8, x9, x10⟩ := HX2.out.cells
 have hl0 := HX2.out.lt
 simp only at x0 x1 x2 x3 x4 x5 x6 x7 x8 x9 x10
 go_wp2_with fail
 refine (HAT.out _ (HT.out.below HB2.out)).mono ?_
 rintro e w3 ⟨rfl, hb3⟩
 have HX3 := qH (HX2.out.below (hb3.mono (Nat.le_refl _)))
 have HB3 := qH (HB2.out.trans (hb3.mono HB2.out.size))
 clear hb3 HX2 HB2 x0 x1 x2 x3 x4 x5 x6 x7 x8 x9 x10 hl0
 obtain ⟨x0, x1, x2, x3, x4, x5, x6, x7, x8, x9, x10⟩ := HX3.out.cells
 have hl0 := HX3.out.lt
 simp only at x0 x1 x2 x3 x4 x5 x6 x7 x8 x9 x10
 go_wp2_with fail
 refine (HSV.out _ (HT.out.below HB3.out)).mono ?_
 rintro e w4 ⟨rfl, hb4⟩
 have HX4 := qH (HX3.out.below (hb4.mono (Nat.le_refl _)))
 have HB4 := qH (HB3.out.trans (hb4.mono HB3.out.size))
 clear hb4 HX3 HB3 x0 x1 x2 x3 x4 x5 x6 x7 x8 x9 x10 hl0
 obtain ⟨x0, x1, x2, x3, x4, x5, x6, x7, x8, x9, x10⟩ := HX4.out.cells
 have hl0 := HX4.out.lt
 simp only at x0 x1 x2 x3 x4 x5 x6 x7 x8 x9 x10
 clear x0 x1 x2 x3 x4 x5 x6 x7 x8 x9 x10
 have KB : Hid (∀ wx, Below w4.heap.size w4 wx -> (Below w4.heap.size w4 wx /\ wx.cell? ⟨w.heap.size, 0, none⟩ = some (.string nm) /\ wx.cell? ⟨w.heap.size, 1, none⟩ = some (.int .i64 yf) /\ wx.cell? ⟨w.heap.size, 2, none⟩ = some (.int .i64 yt) /\ wx.cell? ⟨w.heap.size, 3, none⟩ = some (.int .i64 mo) /\ wx.cell? ⟨w.heap.size, 8, none⟩ = some (.int .i64 ck) /\ wx.cell? ⟨w.heap.size, 10, none⟩ = some (.string lt))) := by
  show ∀ wx, Below w4.heap.size w4 wx -> _
  intro wx hb
  have g := (HX4.out.below hb).cells
  exact ⟨hb, g.1, g.2.1, g.2.2.1, g.2.2.2.1, g.2.2.2.2.2.2.2.2.1, g.2.2.2.2.2.2.2.2.2.2⟩
 have KR : Hid (∀ wx, (Below w4.heap.size w4 wx /\ wx.cell? ⟨w.heap.size, 0, none⟩ = some (.string nm) /\ wx.cell? ⟨w.heap.size, 1, none⟩ = some (.int .i64 yf) /\ wx.cell? ⟨w.heap.size, 2, none⟩ = some (.int .i64 yt) /\ wx.cell? ⟨w.heap.size, 3, none⟩ = some (.int .i64 mo) /\ wx.cell? ⟨w.heap.size, 8, none⟩ = some (.int .i64 ck) /\ wx.cell? ⟨w.heap.size, 10, none⟩ = some (.string lt)) -> Below w4.heap.size w4 wx) := by
  show ∀ wx, _ -> Below w4.heap.size w4 wx
  exact fun wx h => h.1
 have KT : Hid (∀ wx, Below w4.heap.size w4 wx -> Tab10 wx) := by
  show ∀ wx, Below w4.heap.size w4 wx -> Tab10 wx
  exact fun wx h => HT.out.below (HB4.out.trans (h.mono HB4.out.size))
 have KA : Hid (∀ wx, Below w4.heap.size w4 wx -> AscTab wx) := by
  show ∀ wx, Below w4.heap.size w4 wx -> AscTab wx
  exact fun wx h => HA.out.below (HB4.out.trans (h.mono HB4.out.size))
 have KAL : Hid (∀ wx ob, Below w4.heap.size w4 wx -> Below w4.heap.size w4 (wx.alloc ob)) := by
  show ∀ wx ob, Below w4.heap.size w4 wx -> Below w4.heap.size w4 (wx.alloc ob)
  exact fun wx ob h => h.alloc h.size ob
 go_upto_region 7 with fail
 go_cut [2, 3] (fun s2 s3 wx => s2 = .string RES /\ s3 = .int .i64 0 /\ Below w4.heap.size w4 wx)
 case first =>
  go_region_held3 (fun wx => Below w4.heap.size w4 wx /\ wx.cell? ⟨w.heap.size, 0, none⟩ = some (.string nm) /\ wx.cell? ⟨w.heap.size, 1, none⟩ = some (.int .i64 yf) /\ wx.cell? ⟨w.heap.size, 2, none⟩ = some (.int .i64 yt) /\ wx.cell? ⟨w.heap.size, 3, none⟩ = some (.int .i64 mo) /\ wx.cell? ⟨w.heap.size, 8, none⟩ = some (.int .i64 ck) /\ wx.cell? ⟨w.heap.size, 10, none⟩ = some (.string lt)) ((refine KB.out _ ?_; repeat (first | (with_reducible assumption) | (with_reducible exact Below.refl _ _) | (with_reducible refine Below.drew ?_) | (with_reducible refine KAL.out _ _ ?_))))
   (first
     | (go_at_call_of 73 (Value.int IntKind.i64 yf); refine (H1.out _ (KT.out _ (KR.out _ (by assumption)))).mono ?_; rintro e w5 ⟨rfl, hb5⟩; have hB5 := ((KR.out _ (by assumption)).trans (hb5.mono (KR.out _ (by assumption)).size)); clear hb5)
     | (go_at_call_of 73 (Value.int IntKind.i64 yt); refine (H2.out _ (KT.out _ (KR.out _ (by assumption)))).mono ?_; rintro e w6 ⟨rfl, hb6⟩; have hB6 := ((KR.out _ (by assumption)).trans (hb6.mono (KR.out _ (by assumption)).size)); clear hb6)
     | (go_at_call_of 73 (Value.int IntKind.i64 mo); refine (H3.out _ (KT.out _ (KR.out _ (by assumption)))).mono ?_; rintro e w7 ⟨rfl, hb7⟩; have hB7 := ((KR.out _ (by assumption)).trans (hb7.mono (KR.out _ (by assumption)).size)); clear hb7)
     | (go_at_call 74; refine (HTR.out _ (KA.out _ (KR.out _ (by assumption)))).mono ?_; rintro e w8 ⟨rfl, hb8⟩; have hB8 := ((KR.out _ (by assumption)).trans (hb8.mono (KR.out _ (by assumption)).size)); clear hb8)
     | (go_at_call 32; refine (join9 _ _ _ _ _ _ _ _ _ _ _ (by decide) _ (by simp) ⟨_, _, heap_alloc_new _ _⟩ HSZ.out).mono ?_; rintro e w9 ⟨rfl, hb9⟩; have hB9 := ((KR.out _ (by assumption)).trans (hb9.mono (KR.out _ (by assumption)).size)); clear hb9))
  all_goals go_wp2_with fail
  all_goals go_meet
  all_goals exact ⟨congrArg Value.string HE.out, rfl, by assumption⟩
 case rest =>
  obtain ⟨rfl, rfl, hbc⟩ := hcut
  have HZ := qH (HB4.out.trans (hbc.mono HB4.out.size))
  clear hbc
  go_wp2
  go_ret2
  exact ⟨rfl, HZ.out⟩
abbrev ru0 : Ru := ⟨⟨#[]⟩, 0, 0, 0, 0, 0, 0, 0, 0, 0, ⟨#[]⟩⟩
def Words (W : World) (A : Nat) (a0 a1 a2 a3 a4 a5 a6 a7 a8 : ByteArray) : Prop :=
 W.cell? ⟨A, 0, none⟩ = some (.string a0) /\ W.cell? ⟨A, 1, none⟩ = some (.string a1) /\ W.cell? ⟨A, 2, none⟩ = some (.string a2) /\ W.cell? ⟨A, 3, none⟩ = some (.string a3) /\ W.cell? ⟨A, 4, none⟩ = some (.string a4) /\
 W.cell? ⟨A, 5, none⟩ = some (.string a5) /\ W.cell? ⟨A, 6, none⟩ = some (.string a6) /\ W.cell? ⟨A, 7, none⟩ = some (.string a7) /\ W.cell? ⟨A, 8, none⟩ = some (.string a8)
theorem Words.below {W W' : World} {A : Nat} {a0 a1 a2 a3 a4 a5 a6 a7 a8 : ByteArray} {N : Nat} (h : Words W A a0 a1 a2 a3 a4 a5 a6 a7 a8) (hb : Below N W W') (hA : A < N) : Words W' A a0 a1 a2 a3 a4 a5 a6 a7 a8 := by
 obtain ⟨v0, v1, v2, v3, v4, v5, v6, v7, v8⟩ := h
 exact ⟨(hb.cell hA).trans v0, (hb.cell hA).trans v1, (hb.cell hA).trans v2, (hb.cell hA).trans v3, (hb.cell hA).trans v4, (hb.cell hA).trans v5, (hb.cell hA).trans v6, (hb.cell hA).trans v7, (hb.cell hA).trans v8⟩
structure St (w W : World) (A B P : Nat) (a0 a1 a2 a3 a4 a5 a6 a7 a8 : ByteArray) (r : Ru) : Prop where
 wd : Words W A a0 a1 a2 a3 a4 a5 a6 a7 a8
 pt : ∃ t, W.heap[P]? = some (.cells #[.pointer (some ⟨B, 1, none⟩), .pointer (some ⟨B, 2, none⟩), .pointer (some ⟨B, 3, none⟩)] t (0, 0))
 x : RuBx W B r
 x0 : RuBx W w.heap.size ru0
 b : Below w.heap.size w W
 hA : w.heap.size < A
 hAB : A < B
 hBP : B < P
theorem St.hP {w W : World} {A B P : Nat} {a0 a1 a2 a3 a4 a5 a6 a7 a8 : ByteArray} {r : Ru} (h : St w W A B P a0 a1 a2 a3 a4 a5 a6 a7 a8 r) : P < W.heap.size := by
 obtain ⟨t, h⟩ := h.pt
 exact (Array.getElem?_eq_some_iff.mp h).1
theorem St.below {w W W' : World} {A B P : Nat} {a0 a1 a2 a3 a4 a5 a6 a7 a8 : ByteArray} {r : Ru} (h : St w W A B P a0 a1 a2 a3 a4 a5 a6 a7 a8 r) (hb : Below W.heap.size W W') : St w W' A B P a0 a1 a2 a3 a4 a5 a6 a7 a8 r := by
 have hP := h.hP
 have h1 := h.hA; have h2 := h.hAB; have h3 := h.hBP
 refine ⟨h.wd.below hb (by omega), ?_, h.x.below hb, h.x0.below hb, h.b.trans (hb.mono h.b.size), h1, h2, h3⟩
 obtain ⟨t, e⟩ := h.pt
 exact ⟨t, (hb.block P hP).trans e⟩
theorem St.set {w W : World} {A B P : Nat} {a0 a1 a2 a3 a4 a5 a6 a7 a8 : ByteArray} {r : Ru} (h : St w W A B P a0 a1 a2 a3 a4 a5 a6 a7 a8 r) (k : Nat) (v : Value) (r' : Ru) (e : (ruCells r).setIfInBounds k v = ruCells r') : St w (W.setCell ⟨B, k, none⟩ v) A B P a0 a1 a2 a3 a4 a5 a6 a7 a8 r' := by
 have h1 := h.hA; have h2 := h.hAB; have h3 := h.hBP
 have hb : Below B W (W.setCell ⟨B, k, none⟩ v) := (Below.refl B W).setCell (Nat.le_refl _) v
 refine ⟨h.wd.below hb h2, ?_, ?_, (hb.block _ (by omega)).trans h.x0, h.b.trans (hb.mono (by omega)), h1, h2, h3⟩
 ·obtain ⟨t, e⟩ := h.pt
  exact ⟨t, (Below.heap_setCell W ⟨B, k, none⟩ v P (by show P ≠ B; omega)).trans e⟩
 ·have := h.x
  unfold RuBx at this ⊢
  rw [<- e]
  simp [World.setCell, Array.getElem?_modify, this]
theorem St.ptrs {w W : World} {A B P : Nat} {a0 a1 a2 a3 a4 a5 a6 a7 a8 : ByteArray} {r : Ru} (h : St w W A B P a0 a1 a2 a3 a4 a5 a6 a7 a8 r) :
 W.cell? ⟨P, 0, none⟩ = some (.pointer (some ⟨B, 1, none⟩)) /\ W.cell? ⟨P, 1, none⟩ = some (.pointer (some ⟨B, 2, none⟩)) /\ W.cell? ⟨P, 2, none⟩ = some (.pointer (some ⟨B, 3, none⟩)) := by
 obtain ⟨t, e⟩ := h.pt
 exact ⟨(cell_of_row W _ 0 _ _ _ e).trans rfl, (cell_of_row W _ 1 _ _ _ e).trans rfl, (cell_of_row W _ 2 _ _ _ e).trans rfl⟩
theorem RuBx.set {W : World} {B : Nat} {r : Ru} (h : RuBx W B r) (k : Nat) (v : Value) (r' : Ru) (e : (ruCells r).setIfInBounds k v = ruCells r') : RuBx (W.setCell ⟨B, k, none⟩ v) B r' := by
 unfold RuBx at h ⊢
 rw [<- e]
 simp [World.setCell, Array.getElem?_modify, h]
theorem ruStore {W : World} {B : Nat} {r : Ru} (h : RuBx W B r) (r2 : Ru) : RuBx (((((((((((W.setCell ⟨B, 0, none⟩ (.string r2.nm)).setCell ⟨B, 1, none⟩ (.int .i64 r2.yf)).setCell ⟨B, 2, none⟩ (.int .i64 r2.yt)).setCell ⟨B, 3, none⟩ (.int .i64 r2.mo)).setCell ⟨B, 4, none⟩ (.int .i64 r2.dk)).setCell ⟨B, 5, none⟩ (.int .i64 r2.dw)).setCell ⟨B, 6, none⟩ (.int .i64 r2.dn)).setCell ⟨B, 7, none⟩ (.int .i64 r2.tm)).setCell ⟨B, 8, none⟩ (.int .i64 r2.ck)).setCell ⟨B, 9, none⟩ (.int .i64 r2.sv)).setCell ⟨B, 10, none⟩ (.string r2.lt)) B r2 := by
 have h1 := RuBx.set h 0 (.string r2.nm) ⟨r2.nm, r.yf, r.yt, r.mo, r.dk, r.dw, r.dn, r.tm, r.ck, r.sv, r.lt⟩ rfl
 have h2 := RuBx.set h1 1 (.int .i64 r2.yf) ⟨r2.nm, r2.yf, r.yt, r.mo, r.dk, r.dw, r.dn, r.tm, r.ck, r.sv, r.lt⟩ rfl
 have h3 := RuBx.set h2 2 (.int .i64 r2.yt) ⟨r2.nm, r2.yf, r2.yt, r.mo, r.dk, r.dw, r.dn, r.tm, r.ck, r.sv, r.lt⟩ rfl
 have h4 := RuBx.set h3 3 (.int .i64 r2.mo) ⟨r2.nm, r2.yf, r2.yt, r2.mo, r.dk, r.dw, r.dn, r.tm, r.ck, r.sv, r.lt⟩ rfl
 have h5 := RuBx.set h4 4 (.int .i64 r2.dk) ⟨r2.nm, r2.yf, r2.yt, r2.mo, r2.dk, r.dw, r.dn, r.tm, r.ck, r.sv, r.lt⟩ rfl
 have h6 := RuBx.set h5 5 (.int .i64 r2.dw) ⟨r2.nm, r2.yf, r2.yt, r2.mo, r2.dk, r2.dw, r.dn, r.tm, r.ck, r.sv, r.lt⟩ rfl
 have h7 := RuBx.set h6 6 (.int .i64 r2.dn) ⟨r2.nm, r2.yf, r2.yt, r2.mo, r2.dk, r2.dw, r2.dn, r.tm, r.ck, r.sv, r.lt⟩ rfl
 have h8 := RuBx.set h7 7 (.int .i64 r2.tm) ⟨r2.nm, r2.yf, r2.yt, r2.mo, r2.dk, r2.dw, r2.dn, r2.tm, r.ck, r.sv, r.lt⟩ rfl
 have h9 := RuBx.set h8 8 (.int .i64 r2.ck) ⟨r2.nm, r2.yf, r2.yt, r2.mo, r2.dk, r2.dw, r2.dn, r2.tm, r2.ck, r.sv, r.lt⟩ rfl
 have h10 := RuBx.set h9 9 (.int .i64 r2.sv) ⟨r2.nm, r2.yf, r2.yt, r2.mo, r2.dk, r2.dw, r2.dn, r2.tm, r2.ck, r2.sv, r.lt⟩ rfl
 have h11 := RuBx.set h10 10 (.string r2.lt) ⟨r2.nm, r2.yf, r2.yt, r2.mo, r2.dk, r2.dw, r2.dn, r2.tm, r2.ck, r2.sv, r2.lt⟩ rfl
 exact h11
theorem idx_ck (a6 : List UInt8) (c : UInt8) (h : a6.getLast? = some c) : ∃ idx : Int, (∀ W : World, Calls Tryz.prog 139 #[.string ⟨#[32, 115, 117]⟩, .int .u8 c.toNat] W fun e w' => e = .returned (.int .i64 idx) /\ W = w') /\
 ((0 < idx /\ ckOf a6 = idx /\ tmOf a6 = a6.dropLast) \/ (¬ 0 < idx /\ ckOf a6 = 0 /\ tmOf a6 = a6)) := by
 refine ⟨Lib.indexByte [32, 115, 117] c, fun W => ?_, ?_⟩
 ·refine (Tryz.strings_IndexByte ⟨#[32, 115, 117]⟩ (c.toNat : Int) W).mono ?_
  rintro e w' ⟨rfl, rfl⟩
  refine ⟨?_, rfl⟩
  have : ((c.toNat : Int).toNat.toUInt8) = c := by simp
  rw [this]
 ·by_cases h1 : c = 115
  ·subst h1
   left
   have hk : ckOf a6 = 1 := by unfold ckOf; rw [h]; rfl
   exact ⟨by decide, by rw [hk]; decide, by unfold tmOf; rw [hk]; rfl⟩
  ·by_cases h2 : c = 117
   ·subst h2
    left
    have hk : ckOf a6 = 2 := by unfold ckOf; rw [h]; rfl
    exact ⟨by decide, by rw [hk]; decide, by unfold tmOf; rw [hk]; rfl⟩
   ·right
    have hk : ckOf a6 = 0 := by
     unfold ckOf; rw [h]
     rw [if_neg (by intro e; injection e with e; exact h1 e), if_neg (by intro e; injection e with e; exact h2 e)]
    refine ⟨?_, hk, by unfold tmOf; rw [hk]; rfl⟩
    by_cases h0 : c = 32
    ·subst h0; decide
    ·rw [show Lib.indexByte [32, 115, 117] c = -1 from by simp [Lib.indexByte, Ne.symm h0, Ne.symm h1, Ne.symm h2]]
     decide
theorem results_mid {P : Program} {fn : Func} {p u : Tmp} {ty : TypeId} (h : fn.results = #[.cell p ty, .tmp u]) (tmps : Array Value) (w : World) (b o : Nat) (cs : List Value) (d : TypeDesc) (hp : tmps.getD p undef = .pointer (some ⟨b, o, none⟩))
 (hc : w.rangeAt b o cs) (hu : P.underlying ty = some d) (hd : d.isRow = true) (hi : (P.info? ty).map (·.size) = some cs.length) :
 (results fn tmps).run P w = .ok (.tuple #[.agg cs.toArray, tmps.getD u undef]) w := by
 rw [results_cell_tmp h, hp]
 simp only [asAddr, Sem.run_pure, Result.andThen_ok, run_loadVar_mid w b o ty cs d hc hu hd hi]
theorem info_rule : (Tryz.prog.info? 87).map (·.size) = some 11 := by kernel_rfl
theorem RuBx.range {W : World} {B : Nat} {r : Ru} (h : RuBx W B r) : W.rangeAt B 0 (ruCells r).toList := World.rangeAt_of_block h 0 11
theorem RuBx.there {W : World} {B : Nat} {r : Ru} (h : RuBx W B r) : W.there B 0 11 := by
 intro j hj
 have hr := h.range
 refine ⟨?_, frozen_of_row _ _ _ _ _ h⟩
 have : j < (ruCells r).toList.length := hj
 have e := hr j _ (List.getElem?_eq_getElem this)
 rw [e]
 rfl
theorem RuBx.stored {W : World} {B : Nat} {r : Ru} (h : RuBx W B r) (r2 : Ru) : RuBx (W.setCells B 0 (ruCells r2).toList) B r2 := ruStore h r2
theorem ru_one (r : Ru) : (ruCells r).all (·.oneCell') = true := by simp [ruCells, Value.oneCell']
theorem below_setCells {B : Nat} {w : World} (b : Nat) (hb : B <= b) : ∀ (vs : List Value) (o : Nat) (W : World), Below B w W -> Below B w (W.setCells b o vs)
 | [], _, _, h => h
 | v :: r, o, W, h => below_setCells b hb r (o + 1) _ (h.setCell hb v)
theorem Parse_walk (l a0 a1 a2 a3 a4 a5 a6 a7 a8 : List UInt8) (hw : splitC 32 l = [a0, a1, a2, a3, a4, a5, a6, a7, a8]) (h6 : a6 ≠ []) (w : World) (hl : l.length < 4294967281) (hn : NumErrs w) (hm : MaxLen w)
 (hwl : ∀ x ∈ [a2, a3, a4, a6], x.length <= 281474976710656)
 (dk dw dn ed tm ea sv es te : Int) (t : ByteArray)
 (hD : ∀ W, Below w.heap.size w W -> Calls Tryz.prog 138 #[.string (txt a5)] W fun e w' => e = .returned (.tuple #[dayV dk dw dn, .int .i64 ed]) /\ Below W.heap.size W w')
 (hA : ∀ W, Below w.heap.size w W -> Calls Tryz.prog 140 #[.string (txt (tmOf a6))] W fun e w' => e = .returned (.tuple #[.int .i64 tm, .int .i64 ea]) /\ Below W.heap.size W w')
 (hS : ∀ W, Below w.heap.size w W -> Calls Tryz.prog 140 #[.string (txt a7)] W fun e w' => e = .returned (.tuple #[.int .i64 sv, .int .i64 es]) /\ Below W.heap.size W w')
 (hT : ∀ W, Below w.heap.size w W -> Calls Tryz.prog 30 #[ruV ⟨txt a1, atoiV a2, atoiV a3, atoiV a4, dk, dw, dn, tm, ckOf a6, sv, txt a8⟩] W fun e w' => e = .returned (.tuple #[.string t, .int .i64 te]) /\ Below W.heap.size W w')
 (R : Ru) (RE : Int) (hR : (te = 0 /\ t = txt l /\ R = ⟨txt a1, atoiV a2, atoiV a3, atoiV a4, dk, dw, dn, tm, ckOf a6, sv, txt a8⟩ /\ RE = 0) \/ ((te ≠ 0 \/ t ≠ txt l) /\ R = ru0 /\ RE = 3)) :
 Calls Tryz.prog 90 #[.string (txt l)] w fun e w' => e = .returned (.tuple #[ruV R, .int .i64 RE]) /\ Below w.heap.size w w' := by
 have HD := qH hD
 have HA := qH hA
 have HS := qH hS
 have HTX := qH hT
 have HR := qH hR
 have HN := qH hn
 have hsp : ∀ W, Below w.heap.size w W -> MaxLen W -> Calls Tryz.prog 36 #[.string (txt l), .string ⟨#[32]⟩] W fun e w' => ∃ A, e = .returned (.slice (some ⟨A, 0, none⟩) 9 9) /\ W.heap.size <= A /\ A < w'.heap.size /\ Words w' A (txt a0) (txt a1) (txt a2) (txt a3) (txt a4) (txt a5) (txt a6) (txt a7) (txt a8) /\ Below W.heap.size W w' := by
  intro W hb hmW
  refine (splitC_any 32 l W hl hmW).mono ?_
  rintro e w' ⟨A, rfl, h1, h2, h3, h4⟩
  rw [hw] at h3 ⊢
  exact ⟨A, rfl, h1, h2, ⟨h3 0 (by simp), h3 1 (by simp), h3 2 (by simp), h3 3 (by simp), h3 4 (by simp), h3 5 (by simp), h3 6 (by simp), h3 7 (by simp), h3 8 (by simp)⟩, h4⟩
 have HSP := qH hsp
 have H2 := qH (fun W (hb : NumErrs W) => Atoi_any a2 W (hwl a2 (by simp)) hb)
 have H3 := qH (fun W (hb : NumErrs W) => Atoi_any a3 W (hwl a3 (by simp)) hb)
 have H4 := qH (fun W (hb : NumErrs W) => Atoi_any a4 W (hwl a4 (by simp)) hb)
 have HM := qH hm
 have HL6 := qH (hwl a6 (by simp))
 clear hD hA hS hT hR hn hsp hwl hm hw
 obtain ⟨W0, eW⟩ : ∃ W0, w.alloc (.cells (ruCells ru0) 87) = W0 := ⟨_, rfl⟩
 have HX0 : Hid (RuBx W0 w.heap.size ru0) := by show RuBx _ _ _; rw [<- eW]; exact RuBx.box w ru0
 have HB0 : Hid (Below w.heap.size w W0) := by show Below _ _ _; rw [<- eW]; exact (Below.refl _ _).alloc (Nat.le_refl _) _
 have hM0 : MaxLen W0 := by
  obtain ⟨m, hm⟩ := HM.out
  refine ⟨m, ?_⟩
  rw [<- eW]
  exact ((Below.refl w.heap.size w).alloc (Nat.le_refl _) _).cell (show (⟨2, 0, none⟩ : Addr).block < w.heap.size from Lib.lt_of_cell hm) |>.trans hm
 have HM0 := qH hM0
 have HEW := qH eW
 clear eW hM0 HM
 have b6 : (txt a6).toList.isEmpty = false := by
  cases a6 with
  | nil => exact absurd rfl h6
  | cons c r => simp [txt]
 go_enter Tryz.func90, Tryz.ntmps90
 go_wp2_with fail
 rw [HEW.out]
 refine (HSP.out W0 HB0.out HM0.out).mono ?_
 rintro e w1 ⟨A, rfl, hA0, hA1, hwords, hb1⟩
 have HX1 := qH (HX0.out.below (hb1.mono (Nat.le_refl _)))
 have HB1 := qH (HB0.out.trans (hb1.mono HB0.out.size))
 have hAw : w.heap.size < A := Nat.lt_of_lt_of_le HX0.out.lt hA0
 have HWD := qH hwords
 obtain ⟨v0, v1, v2, v3, v4, v5, v6, v7, v8⟩ := hwords
 clear hb1 HB0 HX0 HM0 HSP hA0
 go_wp2_with fail
 have KB : Hid (∀ wx, Below w1.heap.size w1 wx -> (Below w1.heap.size w1 wx /\ wx.cell? ⟨A, 1, none⟩ = some (.string (txt a1)) /\ wx.cell? ⟨A, 8, none⟩ = some (.string (txt a8)))) := by
  show ∀ wx, Below w1.heap.size w1 wx -> _
  exact fun wx hb => ⟨hb, (hb.cell hA1).trans v1, (hb.cell hA1).trans v8⟩
 have KR : Hid (∀ wx, (Below w1.heap.size w1 wx /\ wx.cell? ⟨A, 1, none⟩ = some (.string (txt a1)) /\ wx.cell? ⟨A, 8, none⟩ = some (.string (txt a8))) -> Below w1.heap.size w1 wx) := by
  show ∀ wx, _ -> Below w1.heap.size w1 wx
  exact fun wx h => h.1
 have KAL : Hid (∀ wx ob, Below w1.heap.size w1 wx -> Below w1.heap.size w1 (wx.alloc ob)) := by
  show ∀ wx ob, Below w1.heap.size w1 wx -> Below w1.heap.size w1 (wx.alloc ob)
  exact fun wx ob h => h.alloc h.size ob
 go_upto_region 4 with fail
 go_cut [5] (fun s5 wx => s5 = .pointer (some ⟨w1.heap.size, 0, none⟩) /\ RuBx wx w1.heap.size { ru0 with nm := txt a1, lt := txt a8 } /\ Below w1.heap.size w1 wx)
 case first =>
  go_region_held3 (fun wx => Below w1.heap.size w1 wx /\ wx.cell? ⟨A, 1, none⟩ = some (.string (txt a1)) /\ wx.cell? ⟨A, 8, none⟩ = some (.string (txt a8))) ((refine KB.out _ ?_; repeat (first | (with_reducible assumption) | (with_reducible exact Below.refl _ _) | (with_reducible refine Below.drew ?_) | (with_reducible refine KAL.out _ _ ?_)))) (fail)
  all_goals go_wp2_with fail
  all_goals go_meet
  all_goals exact ⟨rfl, RuBx.box w1 { ru0 with nm := txt a1, lt := txt a8 }, ((Below.refl _ w1).alloc (Nat.le_refl _) _).drew⟩
 case rest =>
  obtain ⟨rfl, hx, hbx⟩ := hcut
  go_wp2_with fail
  obtain ⟨W2, eW2⟩ : ∃ W2, wc.alloc (.cells #[.pointer (some ⟨w1.heap.size, 1, none⟩), .pointer (some ⟨w1.heap.size, 2, none⟩), .pointer (some ⟨w1.heap.size, 3, none⟩)] 214) = W2 := ⟨_, rfl⟩
  have hs2 : St w W2 A w1.heap.size wc.heap.size (txt a0) (txt a1) (txt a2) (txt a3) (txt a4) (txt a5) (txt a6) (txt a7) (txt a8) { ru0 with nm := txt a1, lt := txt a8 } := by
   have hb2 : Below wc.heap.size wc W2 := by rw [<- eW2]; exact (Below.refl _ _).alloc (Nat.le_refl _) _
   have hb3 : Below w1.heap.size w1 W2 := hbx.trans (hb2.mono hbx.size)
   exact ⟨HWD.out.below hb3 hA1, ⟨_, by rw [<- eW2]; exact heap_alloc_new _ _⟩, hx.below hb2, HX1.out.below hb3, HB1.out.trans (hb3.mono HB1.out.size), hAw, hA1, hx.lt⟩
  rw [eW2]
  have HS2 := qH hs2
  generalize wc.heap.size = P at HS2 ⊢
  generalize w1.heap.size = B at HS2 ⊢
  clear hs2 eW2 hx hbx v0 v1 v2 v3 v4 v5 v6 v7 v8 HWD HX1 HB1 hAw hA1
  obtain ⟨v0, v1, v2, v3, v4, v5, v6, v7, v8⟩ := HS2.out.wd
  obtain ⟨p0, p1, p2⟩ := HS2.out.ptrs
  obtain ⟨x0, x1, x2, x3, x4, x5, x6, x7, x8, x9, x10⟩ := HS2.out.x.cells
  have q : ∀ i : Nat, _ := fun i => frozen_of_row _ _ i _ _ HS2.out.x
  have hl0 := HS2.out.hP
  have hl1 := Nat.lt_trans HS2.out.hBP HS2.out.hP
  have hl2 := Nat.lt_trans HS2.out.hAB hl1
  simp only at x0 x1 x2 x3 x4 x5 x6 x7 x8 x9 x10
  refine wp_loop_rounds 4 ?_
  rw [rounds_succ]
  go_wp2_with fail
  refine (H2.out _ (HN.out.below HS2.out.b)).mono ?_
  rintro e u3 ⟨ev, rfl, hb, hev⟩
  have HU3 := qH (HS2.out.below hb)
  clear hb hev v0 v1 v2 v3 v4 v5 v6 v7 v8 p0 p1 p2 x0 x1 x2 x3 x4 x5 x6 x7 x8 x9 x10 q hl0 hl1 hl2 HS2
  obtain ⟨v0, v1, v2, v3, v4, v5, v6, v7, v8⟩ := HU3.out.wd
  obtain ⟨p0, p1, p2⟩ := HU3.out.ptrs
  obtain ⟨x0, x1, x2, x3, x4, x5, x6, x7, x8, x9, x10⟩ := HU3.out.x.cells
  have q : ∀ i : Nat, _ := fun i => frozen_of_row _ _ i _ _ HU3.out.x
  have hl0 := HU3.out.hP
  have hl1 := Nat.lt_trans HU3.out.hBP HU3.out.hP
  have hl2 := Nat.lt_trans HU3.out.hAB hl1
  simp only at x0 x1 x2 x3 x4 x5 x6 x7 x8 x9 x10
  go_wp2_with fail
  obtain ⟨W3, eW3⟩ : ∃ W3, u3.setCell ⟨B, 1, none⟩ (.int .i64 (atoiV a2)) = W3 := ⟨_, rfl⟩
  have hs3 : St w W3 A B P (txt a0) (txt a1) (txt a2) (txt a3) (txt a4) (txt a5) (txt a6) (txt a7) (txt a8) { ru0 with nm := txt a1, lt := txt a8, yf := atoiV a2 } := by
   rw [<- eW3]
   exact HU3.out.set 1 _ _ rfl
  rw [eW3]
  have HS3 := qH hs3
  clear hs3 eW3 v0 v1 v2 v3 v4 v5 v6 v7 v8 p0 p1 p2 x0 x1 x2 x3 x4 x5 x6 x7 x8 x9 x10 q hl0 hl1 hl2 HU3 u3
  obtain ⟨v0, v1, v2, v3, v4, v5, v6, v7, v8⟩ := HS3.out.wd
  obtain ⟨p0, p1, p2⟩ := HS3.out.ptrs
  obtain ⟨x0, x1, x2, x3, x4, x5, x6, x7, x8, x9, x10⟩ := HS3.out.x.cells
  have q : ∀ i : Nat, _ := fun i => frozen_of_row _ _ i _ _ HS3.out.x
  have hl0 := HS3.out.hP
  have hl1 := Nat.lt_trans HS3.out.hBP HS3.out.hP
  have hl2 := Nat.lt_trans HS3.out.hAB hl1
  simp only at x0 x1 x2 x3 x4 x5 x6 x7 x8 x9 x10
  rw [rounds_succ]
  go_wp2_with fail
  refine (H3.out _ (HN.out.below HS3.out.b)).mono ?_
  rintro e u4 ⟨ev, rfl, hb, hev⟩
  have HU4 := qH (HS3.out.below hb)
  clear hb hev v0 v1 v2 v3 v4 v5 v6 v7 v8 p0 p1 p2 x0 x1 x2 x3 x4 x5 x6 x7 x8 x9 x10 q hl0 hl1 hl2 HS3
  obtain ⟨v0, v1, v2, v3, v4, v5, v6, v7, v8⟩ := HU4.out.wd
  obtain ⟨p0, p1, p2⟩ := HU4.out.ptrs
  obtain ⟨x0, x1, x2, x3, x4, x5, x6, x7, x8, x9, x10⟩ := HU4.out.x.cells
  have q : ∀ i : Nat, _ := fun i => frozen_of_row _ _ i _ _ HU4.out.x
  have hl0 := HU4.out.hP
  have hl1 := Nat.lt_trans HU4.out.hBP HU4.out.hP
  have hl2 := Nat.lt_trans HU4.out.hAB hl1
  simp only at x0 x1 x2 x3 x4 x5 x6 x7 x8 x9 x10
  go_wp2_with fail
  obtain ⟨W4, eW4⟩ : ∃ W4, u4.setCell ⟨B, 2, none⟩ (.int .i64 (atoiV a3)) = W4 := ⟨_, rfl⟩
  have hs4 : St w W4 A B P (txt a0) (txt a1) (txt a2) (txt a3) (txt a4) (txt a5) (txt a6) (txt a7) (txt a8) { ru0 with nm := txt a1, lt := txt a8, yf := atoiV a2, yt := atoiV a3 } := by
   rw [<- eW4]
   exact HU4.out.set 2 _ _ rfl
  rw [eW4]
  have HS4 := qH hs4
  clear hs4 eW4 v0 v1 v2 v3 v4 v5 v6 v7 v8 p0 p1 p2 x0 x1 x2 x3 x4 x5 x6 x7 x8 x9 x10 q hl0 hl1 hl2 HU4 u4
  obtain ⟨v0, v1, v2, v3, v4, v5, v6, v7, v8⟩ := HS4.out.wd
  obtain ⟨p0, p1, p2⟩ := HS4.out.ptrs
  obtain ⟨x0, x1, x2, x3, x4, x5, x6, x7, x8, x9, x10⟩ := HS4.out.x.cells
  have q : ∀ i : Nat, _ := fun i => frozen_of_row _ _ i _ _ HS4.out.x
  have hl0 := HS4.out.hP
  have hl1 := Nat.lt_trans HS4.out.hBP HS4.out.hP
  have hl2 := Nat.lt_trans HS4.out.hAB hl1
  simp only at x0 x1 x2 x3 x4 x5 x6 x7 x8 x9 x10
  rw [rounds_succ]
  go_wp2_with fail
  refine (H4.out _ (HN.out.below HS4.out.b)).mono ?_
  rintro e u5 ⟨ev, rfl, hb, hev⟩
  have HU5 := qH (HS4.out.below hb)
  clear hb hev v0 v1 v2 v3 v4 v5 v6 v7 v8 p0 p1 p2 x0 x1 x2 x3 x4 x5 x6 x7 x8 x9 x10 q hl0 hl1 hl2 HS4
  obtain ⟨v0, v1, v2, v3, v4, v5, v6, v7, v8⟩ := HU5.out.wd
  obtain ⟨p0, p1, p2⟩ := HU5.out.ptrs
  obtain ⟨x0, x1, x2, x3, x4, x5, x6, x7, x8, x9, x10⟩ := HU5.out.x.cells
  have q : ∀ i : Nat, _ := fun i => frozen_of_row _ _ i _ _ HU5.out.x
  have hl0 := HU5.out.hP
  have hl1 := Nat.lt_trans HU5.out.hBP HU5.out.hP
  have hl2 := Nat.lt_trans HU5.out.hAB hl1
  simp only at x0 x1 x2 x3 x4 x5 x6 x7 x8 x9 x10
  go_wp2_with fail
  obtain ⟨W5, eW5⟩ : ∃ W5, u5.setCell ⟨B, 3, none⟩ (.int .i64 (atoiV a4)) = W5 := ⟨_, rfl⟩
  have hs5 : St w W5 A B P (txt a0) (txt a1) (txt a2) (txt a3) (txt a4) (txt a5) (txt a6) (txt a7) (txt a8) { ru0 with nm := txt a1, lt := txt a8, yf := atoiV a2, yt := atoiV a3, mo := atoiV a4 } := by
   rw [<- eW5]
   exact HU5.out.set 3 _ _ rfl
  rw [eW5]
  have HS5 := qH hs5
  clear hs5 eW5 v0 v1 v2 v3 v4 v5 v6 v7 v8 p0 p1 p2 x0 x1 x2 x3 x4 x5 x6 x7 x8 x9 x10 q hl0 hl1 hl2 HU5 u5
  obtain ⟨v0, v1, v2, v3, v4, v5, v6, v7, v8⟩ := HS5.out.wd
  obtain ⟨p0, p1, p2⟩ := HS5.out.ptrs
  obtain ⟨x0, x1, x2, x3, x4, x5, x6, x7, x8, x9, x10⟩ := HS5.out.x.cells
  have q : ∀ i : Nat, _ := fun i => frozen_of_row _ _ i _ _ HS5.out.x
  have hl0 := HS5.out.hP
  have hl1 := Nat.lt_trans HS5.out.hBP HS5.out.hP
  have hl2 := Nat.lt_trans HS5.out.hAB hl1
  simp only at x0 x1 x2 x3 x4 x5 x6 x7 x8 x9 x10
  rw [rounds_succ]
  go_wp2_with fail
  refine (HD.out _ HS5.out.b).mono ?_
  rintro e u6 ⟨rfl, hb⟩
  have HU6 := qH (HS5.out.below hb)
  clear hb v0 v1 v2 v3 v4 v5 v6 v7 v8 p0 p1 p2 x0 x1 x2 x3 x4 x5 x6 x7 x8 x9 x10 q hl0 hl1 hl2 HS5
  obtain ⟨v0, v1, v2, v3, v4, v5, v6, v7, v8⟩ := HU6.out.wd
  obtain ⟨p0, p1, p2⟩ := HU6.out.ptrs
  obtain ⟨x0, x1, x2, x3, x4, x5, x6, x7, x8, x9, x10⟩ := HU6.out.x.cells
  have q : ∀ i : Nat, _ := fun i => frozen_of_row _ _ i _ _ HU6.out.x
  have hl0 := HU6.out.hP
  have hl1 := Nat.lt_trans HU6.out.hBP HU6.out.hP
  have hl2 := Nat.lt_trans HU6.out.hAB hl1
  simp only at x0 x1 x2 x3 x4 x5 x6 x7 x8 x9 x10
  go_upto_region 11 with fail
  obtain ⟨W6, eW6⟩ : ∃ W6, ((u6.setCell ⟨B, 4, none⟩ (.int .i64 dk)).setCell ⟨B, 5, none⟩ (.int .i64 dw)).setCell ⟨B, 6, none⟩ (.int .i64 dn) = W6 := ⟨_, rfl⟩
  have hs6 : St w W6 A B P (txt a0) (txt a1) (txt a2) (txt a3) (txt a4) (txt a5) (txt a6) (txt a7) (txt a8) { ru0 with nm := txt a1, lt := txt a8, yf := atoiV a2, yt := atoiV a3, mo := atoiV a4, dk := dk, dw := dw, dn := dn } := by
   rw [<- eW6]
   have g1 := HU6.out.set 4 (.int .i64 dk) { ru0 with nm := txt a1, lt := txt a8, yf := atoiV a2, yt := atoiV a3, mo := atoiV a4, dk := dk } rfl
   have g2 := g1.set 5 (.int .i64 dw) { ru0 with nm := txt a1, lt := txt a8, yf := atoiV a2, yt := atoiV a3, mo := atoiV a4, dk := dk, dw := dw } rfl
   exact g2.set 6 (.int .i64 dn) { ru0 with nm := txt a1, lt := txt a8, yf := atoiV a2, yt := atoiV a3, mo := atoiV a4, dk := dk, dw := dw, dn := dn } rfl
  rw [eW6]
  have HS6 := qH hs6
  clear hs6 eW6 v0 v1 v2 v3 v4 v5 v6 v7 v8 p0 p1 p2 x0 x1 x2 x3 x4 x5 x6 x7 x8 x9 x10 q hl0 hl1 hl2 HU6 u6
  obtain ⟨v0, v1, v2, v3, v4, v5, v6, v7, v8⟩ := HS6.out.wd
  obtain ⟨p0, p1, p2⟩ := HS6.out.ptrs
  obtain ⟨x0, x1, x2, x3, x4, x5, x6, x7, x8, x9, x10⟩ := HS6.out.x.cells
  have q : ∀ i : Nat, _ := fun i => frozen_of_row _ _ i _ _ HS6.out.x
  have hl0 := HS6.out.hP
  have hl1 := Nat.lt_trans HS6.out.hBP HS6.out.hP
  have hl2 := Nat.lt_trans HS6.out.hAB hl1
  simp only at x0 x1 x2 x3 x4 x5 x6 x7 x8 x9 x10
  obtain ⟨c6, hc6⟩ : ∃ c, a6.getLast? = some c := by
   cases e : a6.getLast? with
   | none => exact absurd (List.getLast?_eq_none_iff.1 e) h6
   | some c => exact ⟨c, rfl⟩
  have hsz : 0 < (txt a6).size := by rw [txt_size]; exact List.length_pos_iff.2 h6
  have hix : ∀ W : World, (Instr.index 9 (.string (txt a6)) (.int .i64 (((txt a6).size : Int) - 1))).run Tryz.prog W = .ok (.int .u8 c6.toNat) W := by
   intro W
   rw [run_index_string (P := Tryz.prog) (w := W) _ _ _ _ Tryz.underlying9, dif_pos (by omega)]
   have : (txt a6)[(((txt a6).size : Int) - 1).toNat]'(by omega) = c6 := by
    rw [List.getLast?_eq_getElem?] at hc6
    have e : (((txt a6).size : Int) - 1).toNat = a6.length - 1 := by rw [txt_size]; omega
    have h2 := List.getElem?_eq_some_iff.1 hc6
    obtain ⟨hh, h2⟩ := h2
    rw [<- h2]
    simp only [e]
    rfl
   rw [this]
  have hl6 := HL6.out
  rw [<- txt_size] at hl6
  have hwr : IntKind.i64.wrap (((txt a6).size : Int) - 1) = ((txt a6).size : Int) - 1 := by rw [IntKind.wrap_i64]; omega
  have hb1 : (0 : Int) <= ((txt a6).size : Int) - 1 := by omega
  have hb2 : ((txt a6).size : Int) - 1 < ((txt a6).size : Int) := by omega
  clear hsz hl6
  go_wp2_with fail
  obtain ⟨idx, hi1, hi2⟩ := idx_ck a6 c6 hc6
  refine (hi1 _).mono ?_
  rintro e w' ⟨rfl, rfl⟩
  clear hi1
  rcases hi2 with ⟨hk, ek, et⟩ | ⟨hk, ek, et⟩
  case' inl =>
   have hsl : ∀ W : World, (Instr.slice 9 (.string (txt a6)) none (some (.int .i64 (((txt a6).size : Int) - 1))) none).run Tryz.prog W = .ok (.string (txt a6.dropLast)) W := by
    intro W
    rw [run_slice_string_h (ht := Tryz.underlying9) (kh := .i64) (h := ((txt a6).size : Int) - 1) (h0 := by omega) (h2 := by omega)]
    congr 2
    apply ByteArray.ext
    apply Array.toList_inj.1
    rw [Lib.extract_data, txt_data, txt_data, List.dropLast_eq_take]
    have : (((txt a6).size : Int) - 1).toNat = a6.length - 1 := by rw [txt_size]; omega
    rw [this]
    simp
   have HA2 : Hid (∀ W, Below w.heap.size w W -> Calls Tryz.prog 140 #[.string (txt a6.dropLast)] W fun e w' => e = .returned (.tuple #[.int .i64 tm, .int .i64 ea]) /\ Below W.heap.size W w') := by
    show ∀ W, _
    rw [<- et]
    exact HA.out
   have hs7 : St w (W6.setCell ⟨B, 8, none⟩ (.int .i64 idx)).drew A B P (txt a0) (txt a1) (txt a2) (txt a3) (txt a4) (txt a5) (txt a6) (txt a7) (txt a8) { ru0 with nm := txt a1, lt := txt a8, yf := atoiV a2, yt := atoiV a3, mo := atoiV a4, dk := dk, dw := dw, dn := dn, ck := ckOf a6 } := by
    rw [ek]
    exact (HS6.out.set 8 (.int .i64 idx) { ru0 with nm := txt a1, lt := txt a8, yf := atoiV a2, yt := atoiV a3, mo := atoiV a4, dk := dk, dw := dw, dn := dn, ck := idx } rfl).below (Below.refl _ _).drew
   clear ek et
   go_wp2_with fail
   go_region
   go_wp2_with fail
   obtain ⟨W7, eW7⟩ : ∃ W7, (W6.setCell ⟨B, 8, none⟩ (.int .i64 idx)).drew = W7 := ⟨_, rfl⟩
   rw [eW7] at hs7
   rw [eW7]
  case' inr =>
   have HA2 : Hid (∀ W, Below w.heap.size w W -> Calls Tryz.prog 140 #[.string (txt a6)] W fun e w' => e = .returned (.tuple #[.int .i64 tm, .int .i64 ea]) /\ Below W.heap.size W w') := by
    show ∀ W, _
    rw [et] at HA
    exact HA.out
   have hs7 : St w W6 A B P (txt a0) (txt a1) (txt a2) (txt a3) (txt a4) (txt a5) (txt a6) (txt a7) (txt a8) { ru0 with nm := txt a1, lt := txt a8, yf := atoiV a2, yt := atoiV a3, mo := atoiV a4, dk := dk, dw := dw, dn := dn, ck := ckOf a6 } := by
    rw [ek]
    exact HS6.out
   clear ek et
   go_wp2_with fail
   obtain ⟨W7, eW7⟩ : ∃ W7, W6 = W7 := ⟨_, rfl⟩
   rw [eW7] at hs7
   rw [eW7]
  all_goals
   have HS7 := qH hs7
   clear hs7 eW7 v0 v1 v2 v3 v4 v5 v6 v7 v8 p0 p1 p2 x0 x1 x2 x3 x4 x5 x6 x7 x8 x9 x10 q hl0 hl1 hl2 HS6 hk
   refine (HA2.out _ HS7.out.b).mono ?_
   rintro e u8 ⟨rfl, hb⟩
   have HU8 := qH (HS7.out.below hb)
   clear hb HS7
   obtain ⟨v0, v1, v2, v3, v4, v5, v6, v7, v8⟩ := HU8.out.wd
   obtain ⟨p0, p1, p2⟩ := HU8.out.ptrs
   obtain ⟨x0, x1, x2, x3, x4, x5, x6, x7, x8, x9, x10⟩ := HU8.out.x.cells
   have q : ∀ i : Nat, _ := fun i => frozen_of_row _ _ i _ _ HU8.out.x
   have hl0 := HU8.out.hP
   have hl1 := Nat.lt_trans HU8.out.hBP HU8.out.hP
   have hl2 := Nat.lt_trans HU8.out.hAB hl1
   simp only at x0 x1 x2 x3 x4 x5 x6 x7 x8 x9 x10
   go_upto_region 16 with fail
   obtain ⟨W8, eW8⟩ : ∃ W8, u8.setCell ⟨B, 7, none⟩ (.int .i64 tm) = W8 := ⟨_, rfl⟩
   have hs8 : St w W8 A B P (txt a0) (txt a1) (txt a2) (txt a3) (txt a4) (txt a5) (txt a6) (txt a7) (txt a8) { ru0 with nm := txt a1, lt := txt a8, yf := atoiV a2, yt := atoiV a3, mo := atoiV a4, dk := dk, dw := dw, dn := dn, ck := ckOf a6, tm := tm } := by
    rw [<- eW8]
    exact HU8.out.set 7 _ _ rfl
   rw [eW8]
   have HS8 := qH hs8
   clear hs8 eW8 v0 v1 v2 v3 v4 v5 v6 v7 v8 p0 p1 p2 x0 x1 x2 x3 x4 x5 x6 x7 x8 x9 x10 q hl0 hl1 hl2 HU8
   obtain ⟨v0, v1, v2, v3, v4, v5, v6, v7, v8⟩ := HS8.out.wd
   obtain ⟨p0, p1, p2⟩ := HS8.out.ptrs
   obtain ⟨x0, x1, x2, x3, x4, x5, x6, x7, x8, x9, x10⟩ := HS8.out.x.cells
   have q : ∀ i : Nat, _ := fun i => frozen_of_row _ _ i _ _ HS8.out.x
   have hl0 := HS8.out.hP
   have hl1 := Nat.lt_trans HS8.out.hBP HS8.out.hP
   have hl2 := Nat.lt_trans HS8.out.hAB hl1
   simp only at x0 x1 x2 x3 x4 x5 x6 x7 x8 x9 x10
   go_wp2_with fail
   refine (HS.out _ HS8.out.b).mono ?_
   rintro e u9 ⟨rfl, hb⟩
   have HU9 := qH (HS8.out.below hb)
   clear hb HS8 v0 v1 v2 v3 v4 v5 v6 v7 v8 p0 p1 p2 x0 x1 x2 x3 x4 x5 x6 x7 x8 x9 x10 q hl0 hl1 hl2
   obtain ⟨v0, v1, v2, v3, v4, v5, v6, v7, v8⟩ := HU9.out.wd
   obtain ⟨p0, p1, p2⟩ := HU9.out.ptrs
   obtain ⟨x0, x1, x2, x3, x4, x5, x6, x7, x8, x9, x10⟩ := HU9.out.x.cells
   have q : ∀ i : Nat, _ := fun i => frozen_of_row _ _ i _ _ HU9.out.x
   have hl0 := HU9.out.hP
   have hl1 := Nat.lt_trans HU9.out.hBP HU9.out.hP
   have hl2 := Nat.lt_trans HU9.out.hAB hl1
   simp only at x0 x1 x2 x3 x4 x5 x6 x7 x8 x9 x10
   go_upto_region 17 with fail
   obtain ⟨W9, eW9⟩ : ∃ W9, u9.setCell ⟨B, 9, none⟩ (.int .i64 sv) = W9 := ⟨_, rfl⟩
   have hs9 : St w W9 A B P (txt a0) (txt a1) (txt a2) (txt a3) (txt a4) (txt a5) (txt a6) (txt a7) (txt a8) { ru0 with nm := txt a1, lt := txt a8, yf := atoiV a2, yt := atoiV a3, mo := atoiV a4, dk := dk, dw := dw, dn := dn, ck := ckOf a6, tm := tm, sv := sv } := by
    rw [<- eW9]
    exact HU9.out.set 9 _ _ rfl
   rw [eW9]
   have HS9 := qH hs9
   clear hs9 eW9 v0 v1 v2 v3 v4 v5 v6 v7 v8 p0 p1 p2 x0 x1 x2 x3 x4 x5 x6 x7 x8 x9 x10 q hl0 hl1 hl2 HU9
   obtain ⟨v0, v1, v2, v3, v4, v5, v6, v7, v8⟩ := HS9.out.wd
   obtain ⟨p0, p1, p2⟩ := HS9.out.ptrs
   obtain ⟨x0, x1, x2, x3, x4, x5, x6, x7, x8, x9, x10⟩ := HS9.out.x.cells
   have q : ∀ i : Nat, _ := fun i => frozen_of_row _ _ i _ _ HS9.out.x
   have hl0 := HS9.out.hP
   have hl1 := Nat.lt_trans HS9.out.hBP HS9.out.hP
   have hl2 := Nat.lt_trans HS9.out.hAB hl1
   simp only at x0 x1 x2 x3 x4 x5 x6 x7 x8 x9 x10
   go_wp2_with fail
   refine (HTX.out _ HS9.out.b).mono ?_
   rintro e u10 ⟨rfl, hb⟩
   have HU10 := qH (HS9.out.below hb)
   clear hb HS9 v0 v1 v2 v3 v4 v5 v6 v7 v8 p0 p1 p2 x0 x1 x2 x3 x4 x5 x6 x7 x8 x9 x10 q hl0 hl1 hl2
   obtain ⟨v0, v1, v2, v3, v4, v5, v6, v7, v8⟩ := HU10.out.wd
   obtain ⟨p0, p1, p2⟩ := HU10.out.ptrs
   obtain ⟨x0, x1, x2, x3, x4, x5, x6, x7, x8, x9, x10⟩ := HU10.out.x.cells
   have q : ∀ i : Nat, _ := fun i => frozen_of_row _ _ i _ _ HU10.out.x
   have hl0 := HU10.out.hP
   have hl1 := Nat.lt_trans HU10.out.hBP HU10.out.hP
   have hl2 := Nat.lt_trans HU10.out.hAB hl1
   simp only at x0 x1 x2 x3 x4 x5 x6 x7 x8 x9 x10
   obtain ⟨y0, y1, y2, y3, y4, y5, y6, y7, y8, y9, y10⟩ := HU10.out.x0.cells
   have q0 : ∀ i : Nat, _ := fun i => frozen_of_row _ _ i _ _ HU10.out.x0
   have hl3 := HU10.out.x0.lt
   simp only at y0 y1 y2 y3 y4 y5 y6 y7 y8 y9 y10
   rcases HR.out with ⟨rfl, rfl, rfl, rfl⟩ | ⟨hne, rfl, rfl⟩
   case' inl =>
    go_upto_region 20 with fail
    clear v0 v1 v2 v3 v4 v5 v6 v7 v8 p0 p1 p2 q x0 x1 x2 x3 x4 x5 x6 x7 x8 x9 x10 y0 y1 y2 y3 y4 y5 y6 y7 y8 y9 y10 q0 hl0 hl1 hl2 hl3
    obtain ⟨RR, eRR⟩ : ∃ RR : Ru, ⟨txt a1, atoiV a2, atoiV a3, atoiV a4, dk, dw, dn, tm, ckOf a6, sv, txt a8⟩ = RR := ⟨_, rfl⟩
    obtain ⟨CS, eCS⟩ : ∃ CS, (ruCells RR).toList = CS := ⟨_, rfl⟩
    have hrB : u10.rangeAt B 0 CS := by rw [<- eCS, <- eRR]; exact HU10.out.x.range
    have hth : u10.there w.heap.size 0 CS.toArray.size := by rw [<- eCS]; exact HU10.out.x0.there
    have hin : (Tryz.prog.info? 87).map (·.size) = some CS.length := by rw [<- eCS]; exact info_rule
    have hin2 : (Tryz.prog.info? 87).map (·.size) = some CS.toArray.size := by rw [<- eCS]; exact info_rule
    have h1c : CS.toArray.all (·.oneCell') = true := by rw [<- eCS]; exact ru_one RR
    have hst := qH (HU10.out.x0.stored RR)
    have hbl := qH (below_setCells w.heap.size (Nat.le_refl _) CS.toArray.toList 0 u10 HU10.out.b)
    rw [eCS] at hst
    go_step
    refine wpList_load_mid rfl 87 _ rfl B 0 rfl CS _ hrB Tryz.underlying87 rfl hin ?_
    refine wpList_store_mid rfl 87 _ _ rfl w.heap.size 0 CS.toArray rfl rfl hth hin2 h1c ?_
    have hst2 : Hid (RuBx (u10.setCells w.heap.size 0 CS.toArray.toList) w.heap.size RR) := hst
    generalize u10.setCells w.heap.size 0 CS.toArray.toList = W10 at hst2 hbl ⊢
    have hres := qH (show ∀ tm : Array Value, tm.getD 2 undef = .pointer (some ⟨w.heap.size, 0, none⟩) -> (results Tryz.f90 tm).run Tryz.prog W10 = .ok (.tuple #[ruV RR, tm.getD 3 undef]) W10 from fun tm hp => results_mid rfl tm W10 w.heap.size 0 (ruCells RR).toList _ hp hst2.out.range Tryz.underlying87 rfl info_rule)
    have ERR := qH eRR
    clear hrB hth hin hin2 h1c hst hst2 eRR eCS
    repeat go_step
    refine bodyPost_ret (hres.out _ rfl) rfl ⟨by rw [<- ERR.out]; rfl, hbl.out⟩
   case' inr =>
    clear v0 v1 v2 v3 v4 v5 v6 v7 v8 p0 p1 p2 q x0 x1 x2 x3 x4 x5 x6 x7 x8 x9 x10 y0 y1 y2 y3 y4 y5 y6 y7 y8 y9 y10 q0 hl0 hl1 hl2 hl3
    have hth := HU10.out.x0.there
    have hst := qH (HU10.out.x0.stored ru0)
    have hbl := qH (below_setCells w.heap.size (Nat.le_refl _) (ruCells ru0).toList 0 u10 HU10.out.b)
    have hre : Hid (∀ (W10 : World), RuBx W10 w.heap.size ru0 -> ∀ tm : Array Value, tm.getD 2 undef = .pointer (some ⟨w.heap.size, 0, none⟩) -> (results Tryz.f90 tm).run Tryz.prog W10 = .ok (.tuple #[ruV ru0, tm.getD 3 undef]) W10) := by
     show ∀ (W10 : World), _
     exact fun W10 h tm hp => results_mid rfl tm W10 w.heap.size 0 (ruCells ru0).toList _ hp h.range Tryz.underlying87 rfl info_rule
    have HTH := qH hth
    clear hth
    by_cases hte : te = 0
    case' pos =>
     subst hte
     have htl : t.toList ≠ (txt l).toList := by
      intro e
      rcases hne with h | h
      ·exact h rfl
      ·exact h (ByteArray.ext (Array.toList_inj.1 (by simpa [ByteArray.toList_eq] using e)))
     have ht1 : (t.toList == (txt l).toList) = false := by simpa using htl
     have ht2 : (!t.toList == (txt l).toList) = true := by rw [ht1]; rfl
     clear hne htl
     go_upto_region 19 with fail
    case' neg =>
     have hz : (te == 0) = false := by simpa using hte
     have hz2 : (!te == 0) = true := by rw [hz]; rfl
     clear hne
     go_upto_region 19 with fail
    all_goals
     go_step
     go_step
     go_step
     go_step
     refine wpList_store_mid rfl 87 _ _ rfl w.heap.size 0 (ruCells ru0) rfl rfl HTH.out info_rule (ru_one ru0) ?_
     have hst2 : Hid (RuBx (u10.setCells w.heap.size 0 (ruCells ru0).toList) w.heap.size ru0) := hst
     generalize u10.setCells w.heap.size 0 (ruCells ru0).toList = W10 at hst2 hbl ⊢
     clear hst
     repeat go_step
     refine bodyPost_ret (hre.out _ hst2.out _ rfl) rfl ⟨rfl, hbl.out⟩
end Go.Proofs.YtomahddiclkepaaGreatDoor
