/- day.Read of a day's text, and of any other text. -/
import Derived.Test.YtfocdcdggidboaaGreatDoorDayR
namespace Go.Proofs.YtfocdcdggidboaaGreatDoor
open Go.RowKit Go.Joins
set_option linter.unusedVariables false
set_option linter.unusedSimpArgs false

theorem index_no (l t : List UInt8) (s : UInt8) (h : ∀ c ∈ l, c ≠ s) : Lib.index l (s :: t) = -1 := by
  refine Lib.index_none (fun j hj => ?_)
  cases ho : Lib.occAt l (s :: t) j
  · rfl
  · have := Lib.occAt_head rfl ho
    exact absurd rfl (h s (List.mem_of_getElem? this))
theorem cut_no (l t : List UInt8) (s : UInt8) (h : ∀ c ∈ l, c ≠ s) : Lib.cut l (s :: t) = (l, [], false) := by
  unfold Lib.cut
  rw [index_no l t s h, if_neg (by omega)]
theorem cut_two (g r : List UInt8) (s t : UInt8) (h : ∀ c ∈ g, c ≠ s) : Lib.cut (g ++ ([s, t] ++ r)) [s, t] = (g, r, true) := by
  have hi : Lib.index (g ++ ([s, t] ++ r)) [s, t] = g.length := by
    refine Lib.index_first (by simp) ?_ ?_
    · unfold Lib.occAt
      rw [List.drop_append_of_le_length (Nat.le_refl _), List.drop_length]
      simp
    · intro j hj
      cases ho : Lib.occAt (g ++ ([s, t] ++ r)) [s, t] j
      · rfl
      · have := Lib.occAt_head rfl ho
        rw [List.getElem?_append_left hj, List.getElem?_eq_getElem hj] at this
        injection this with this
        exact absurd this (h _ (List.getElem_mem _))
  unfold Lib.cut
  rw [hi, if_pos (by omega)]
  simp [List.drop_append]
theorem cut_small (l sg : List UInt8) : (Lib.cut l sg).2.1.length ≤ l.length := by
  unfold Lib.cut
  split
  · simp
  · simp

/-- letters of a word -/
def isLt (c : UInt8) : Prop := 65 ≤ c.toNat ∧ c.toNat ≤ 122
theorem word_letters {wd : Int} (h0 : 0 ≤ wd) (h6 : wd ≤ 6) : ∀ c ∈ wordT wd, isLt c := by
  rcases wd_cases h0 h6 with rfl | rfl | rfl | rfl | rfl | rfl | rfl <;> (unfold isLt; decide)
theorem word_wday {wd : Int} (h0 : 0 ≤ wd) (h6 : wd ≤ 6) : wdayV (wordT wd) = wd := by
  rcases wd_cases h0 h6 with rfl | rfl | rfl | rfl | rfl | rfl | rfl <;> rfl
theorem word_head {wd : Int} (h0 : 0 ≤ wd) (h6 : wd ≤ 6) (r : List UInt8) : Lib.hasPrefix (wordT wd ++ r) [108, 97, 115, 116] = false := by
  rcases wd_cases h0 h6 with rfl | rfl | rfl | rfl | rfl | rfl | rfl <;> rfl
theorem dg_head (l : List UInt8) (hd : ∀ c ∈ l, isDg c) : Lib.hasPrefix l [108, 97, 115, 116] = false := by
  cases l with
  | nil => rfl
  | cons c r =>
    have hc := hd c (by simp)
    have : c ≠ 108 := dg_ne hc 108 (by decide)
    simp only [Lib.hasPrefix, List.isPrefixOf_cons_cons, Bool.and_eq_false_iff]
    left
    simpa using fun e => this e.symm
theorem lt_ne {c : UInt8} (h : isLt c) (s : UInt8) (hs : s.toNat < 65) : c ≠ s := by
  rintro rfl
  unfold isLt at h
  omega
theorem last_letters : ∀ c ∈ ([108, 97, 115, 116] : List UInt8), isLt c := by unfold isLt; decide

theorem Read_no (l : List UInt8) (w : World) (hl : l.length ≤ 4294967280) (hno : ∀ k wd n, dayB k wd n = true → dayT k wd n ≠ l) (ht : Tab10 w) (hn : NumErrs w) (hm : MaxLen w) :
    Calls Tryz.prog 14 #[.string (txt l)] w fun e w' => e = .returned (.tuple #[dayV 0 0 0, .int .i64 3]) ∧ Below w.heap.size w w' := by
  refine Read_walk l w hl ht hn hm (fun _ _ st => st.2.2.length ≤ l.length + 1) ?_ ?_ ?_ (fun a b st h => by omega) (0, 0, 0, 3) (fun st _ => ?_)
  · unfold dayS0
    split
    · simp
    · exact Nat.le_succ _
  · intro b st h
    unfold dayHit
    split
    · have := cut_small l [62, 61]
      show (Lib.cut l [62, 61]).2.1.length ≤ l.length + 1
      omega
    · exact h
  · intro b st h
    unfold dayHit
    split
    · have := cut_small l [60, 61]
      show (Lib.cut l [60, 61]).2.1.length ≤ l.length + 1
      omega
    · exact h
  · unfold DayRes
    cases hb : dayB st.1 st.2.1 (atoiV st.2.2)
    · exact .inr (.inr ⟨rfl, rfl⟩)
    · exact .inr (.inl ⟨rfl, hno _ _ _ hb, rfl⟩)

theorem dayT_small {k wd n : Int} (h : dayB k wd n = true) : (dayT k wd n).length ≤ 20 := by
  have h' := h
  simp only [dayB, decide_eq_true_eq] at h'
  have h1 := itoa_31 (n := n) (by omega) (by omega)
  unfold dayT
  split
  · have := wordT_length (wd := wd) (by omega) (by omega)
    simp; omega
  · split
    · have := wordT_length (wd := wd) (by omega) (by omega)
      simp; omega
    · split
      · have := wordT_length (wd := wd) (by omega) (by omega)
        simp; omega
      · omega
theorem Read_ok (k wd n : Int) (w : World) (hd : dayB k wd n = true) (ht : Tab10 w) (hn : NumErrs w) (hm : MaxLen w) :
    Calls Tryz.prog 14 #[.string (txt (dayT k wd n))] w fun e w' => e = .returned (.tuple #[dayV k wd n, .int .i64 0]) ∧ Below w.heap.size w w' := by
  have hl := dayT_small hd
  have hd' := hd
  simp only [dayB, decide_eq_true_eq] at hd'
  have hi : 0 ≤ n ∧ n ≤ 31 := by omega
  have hdg := itoa_dg hi.1
  have hil := itoa_31 hi.1 hi.2
  have hat : atoiV (Lib.itoa n) = n := atoiV_itoa hi.1 (by omega)
  rcases hd' with ⟨rfl, rfl, h⟩ | ⟨rfl, h0, h6, rfl⟩ | ⟨rfl | rfl, h0, h6, h⟩
  · have e : dayT 1 0 n = Lib.itoa n := by simp [dayT]
    rw [e] at hl ⊢
    have h1 := cut_no (Lib.itoa n) [61] 62 (fun c hc => dg_ne (hdg c hc) 62 (by decide))
    have h2 := cut_no (Lib.itoa n) [61] 60 (fun c hc => dg_ne (hdg c hc) 60 (by decide))
    refine Read_walk (Lib.itoa n) w (by omega) ht hn hm (fun _ _ st => st = (1, 0, Lib.itoa n)) ?_ ?_ ?_ (fun a b st h => by subst h; show (Lib.itoa n).length ≤ _; omega) (1, 0, n, 0) (fun st hst => ?_)
    · unfold dayS0; rw [dg_head _ hdg]; rfl
    · intro b st hst; unfold dayHit; rw [h1]; exact hst
    · intro b st hst; unfold dayHit; rw [h2]; exact hst
    · subst hst
      unfold DayRes
      simp only [hat]
      exact .inl ⟨hd, e, trivial⟩
  · have e : dayT 2 wd 0 = [108, 97, 115, 116] ++ wordT wd := by simp [dayT]
    rw [e] at hl ⊢
    have hlt : ∀ c ∈ [108, 97, 115, 116] ++ wordT wd, isLt c := fun c hc => (List.mem_append.1 hc).elim (last_letters c) (word_letters h0 h6 c)
    have h1 := cut_no ([108, 97, 115, 116] ++ wordT wd) [61] 62 (fun c hc => lt_ne (hlt c hc) 62 (by decide))
    have h2 := cut_no ([108, 97, 115, 116] ++ wordT wd) [61] 60 (fun c hc => lt_ne (hlt c hc) 60 (by decide))
    have hp : Lib.hasPrefix ([108, 97, 115, 116] ++ wordT wd) [108, 97, 115, 116] = true := by simp [Lib.hasPrefix]
    have htp : Lib.trimPrefix ([108, 97, 115, 116] ++ wordT wd) [108, 97, 115, 116] = wordT wd := by unfold Lib.trimPrefix; rw [hp]; simp
    have h48 : atoiV [48] = 0 := by decide
    refine Read_walk ([108, 97, 115, 116] ++ wordT wd) w (by omega) ht hn hm (fun _ _ st => st = (2, wd, [48])) ?_ ?_ ?_ (fun a b st h => by subst h; show ([48] : List UInt8).length ≤ _; simp) (2, wd, 0, 0) (fun st hst => ?_)
    · unfold dayS0; rw [hp, htp, word_wday h0 h6]; rfl
    · intro b st hst; unfold dayHit; rw [h1]; exact hst
    · intro b st hst; unfold dayHit; rw [h2]; exact hst
    · subst hst
      unfold DayRes
      simp only [h48]
      exact .inl ⟨hd, e, trivial⟩
  · have e : dayT 3 wd n = wordT wd ++ ([62, 61] ++ Lib.itoa n) := by simp [dayT]
    rw [e] at hl ⊢
    have h1 := cut_two (wordT wd) (Lib.itoa n) 62 61 (fun c hc => lt_ne (word_letters h0 h6 c hc) 62 (by decide))
    have h2 := cut_no (wordT wd ++ ([62, 61] ++ Lib.itoa n)) [61] 60 (fun c hc => by
      rcases List.mem_append.1 hc with hc | hc
      · exact lt_ne (word_letters h0 h6 c hc) 60 (by decide)
      · rcases List.mem_append.1 hc with hc | hc
        · simp only [List.mem_cons, List.not_mem_nil, or_false] at hc
          rcases hc with rfl | rfl <;> decide
        · exact dg_ne (hdg c hc) 60 (by decide))
    refine Read_walk (wordT wd ++ ([62, 61] ++ Lib.itoa n)) w (by omega) ht hn hm (fun a _ st => st = if a then (1, 0, wordT wd ++ ([62, 61] ++ Lib.itoa n)) else (3, wd, Lib.itoa n)) ?_ ?_ ?_ (fun a b st h => by subst h; cases a <;> simp <;> simp at hl <;> omega) (3, wd, n, 0) (fun st hst => ?_)
    · unfold dayS0; rw [word_head h0 h6]; rfl
    · intro b st hst; unfold dayHit; rw [h1, word_wday h0 h6]; rfl
    · intro b st hst; unfold dayHit; rw [h2]; exact hst
    · subst hst
      unfold DayRes
      simp only [Bool.false_eq_true, if_false, hat]
      exact .inl ⟨hd, e, trivial⟩
  · have e : dayT 4 wd n = wordT wd ++ ([60, 61] ++ Lib.itoa n) := by simp [dayT]
    rw [e] at hl ⊢
    have h1 := cut_two (wordT wd) (Lib.itoa n) 60 61 (fun c hc => lt_ne (word_letters h0 h6 c hc) 60 (by decide))
    have h2 := cut_no (wordT wd ++ ([60, 61] ++ Lib.itoa n)) [61] 62 (fun c hc => by
      rcases List.mem_append.1 hc with hc | hc
      · exact lt_ne (word_letters h0 h6 c hc) 62 (by decide)
      · rcases List.mem_append.1 hc with hc | hc
        · simp only [List.mem_cons, List.not_mem_nil, or_false] at hc
          rcases hc with rfl | rfl <;> decide
        · exact dg_ne (hdg c hc) 62 (by decide))
    refine Read_walk (wordT wd ++ ([60, 61] ++ Lib.itoa n)) w (by omega) ht hn hm (fun _ b st => st = if b then (1, 0, wordT wd ++ ([60, 61] ++ Lib.itoa n)) else (4, wd, Lib.itoa n)) ?_ ?_ ?_ (fun a b st h => by subst h; cases b <;> simp <;> simp at hl <;> omega) (4, wd, n, 0) (fun st hst => ?_)
    · unfold dayS0; rw [word_head h0 h6]; rfl
    · intro b st hst; unfold dayHit; rw [h2]; exact hst
    · intro b st hst; unfold dayHit; rw [h1, word_wday h0 h6]; rfl
    · subst hst
      unfold DayRes
      simp only [Bool.false_eq_true, if_false, hat]
      exact .inl ⟨hd, e, trivial⟩
end Go.Proofs.YtfocdcdggidboaaGreatDoor
