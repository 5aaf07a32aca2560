/- Times and spans as texts, in plain Lean. clock.two: what it returns. clock.Span: what it returns. rule.all, rule.IsAbbr: what each returns. Condition: the text within the form's own reach. rule.IsName: what it returns. day.Check and day.within: what each returns. rule: what Check returns: the plain mathematics. rule.within, rule.Check: what each returns. Numbers as digits, cuts and beginnings of texts: plain Lean. Pieces of a text between letters, and what digits say: plain Lean. strconv.Atoi at every text: the number; nil just where it is one. -/
import Derived.Test.YtmhfhmhjaecoaaaGreatDoorCivMath
import Derived.Lib.ItoaNum
import Derived.Test.YtmhfhmhjaecoaaaGreatDoorCiv0
import Derived.Test.YtmhfhmhjaecoaaaGreatDoorShelf
import Derived.Shelf.Bytes.SlEqualAll
import Derived.Lib.SmallJoins
import Derived.Lib.AppendIntMem
import Derived.Test.YtmhfhmhjaecoaaaGreatDoorRows
import Derived.WalkKit
import Derived.WalkSpells
import Derived.WalkLawsBesides
import Derived.Lib.Hide
import Derived.Lib.IndexAny
import Derived.Deep.QuietTactic
import Derived.BigQuiet
import Derived.Deep.DeepCutAuto
import Derived.Handy
import Derived.Lib.IndexMore
import Derived.Lib.Strings
import Derived.Lib.FieldsP
import Derived.Laws.RangeString
import Derived.Lib.AtoiAllCases
import Derived.Shelf.Strconv.AtoiAll
import Derived.Shelf.Strconv.ErrVarAll
namespace Go.Proofs.YtmhfhmhjaecoaaaGreatDoor
open Go
set_option linter.unusedVariables false

/-- two digits -/
def T2 (n : Int) : List UInt8 := [UInt8.ofNat (48 + (n / 10).toNat), UInt8.ofNat (48 + (n % 10).toNat)]
theorem T2_length (n : Int) : (T2 n).length = 2 := rfl
/-- a text as a string -/
def txt (l : List UInt8) : ByteArray := ⟨l.toArray⟩
theorem txt_append (a b : List UInt8) : txt a ++ txt b = txt (a ++ b) := by
  apply ByteArray.ext
  simp [txt]
theorem txt_data (l : List UInt8) : (txt l).data.toList = l := by simp [txt]
theorem txt_size (l : List UInt8) : (txt l).size = l.length := by simp [txt, ByteArray.size]
theorem txt_inj {a b : List UInt8} (h : txt a = txt b) : a = b := by
  have := congrArg (fun s : ByteArray => s.data.toList) h
  simpa [txt] using this

/-- a span that is not below 0 -/
def spanP (n : Int) : List UInt8 := Lib.itoa (n / 3600) ++ ([58] ++ (T2 (n / 60 % 60) ++ (if n % 60 = 0 then [] else [58] ++ T2 (n % 60))))
def spanT (n : Int) : List UInt8 := if n < 0 then 45 :: spanP (-n) else spanP n

def stampT (t : Int) : List UInt8 :=
  Lib.itoa (Civ.yy (t / 86400)) ++ ([45] ++ (T2 (Civ.mm (t / 86400)) ++ ([45] ++ (T2 (Civ.dd (t / 86400)) ++ ([84] ++ (T2 (t % 86400 / 3600) ++ ([58] ++ (T2 (t % 86400 / 60 % 60) ++ ([58] ++ T2 (t % 86400 % 60))))))))))

theorem itoa_small {n : Int} (h0 : 0 ≤ n) (h1 : n < 10) : Lib.itoa n = [UInt8.ofNat (48 + n.toNat)] := by
  unfold Lib.itoa
  rw [if_neg (by omega), Lib.decDigits_one (by omega)]
theorem dec_four (u : Nat) (h0 : 1000 ≤ u) (h1 : u < 10000) : Lib.decDigits u = [UInt8.ofNat (48 + u / 1000), UInt8.ofNat (48 + u / 100 % 10), UInt8.ofNat (48 + u / 10 % 10), UInt8.ofNat (48 + u % 10)] := by
  rw [Lib.decDigits, dif_neg (by omega), Lib.decDigits, dif_neg (by omega), Lib.decDigits, dif_neg (by omega), Lib.decDigits, dif_pos (by omega)]
  simp only [List.cons_append, List.nil_append]
  rw [show u / 10 / 10 / 10 = u / 1000 by omega, show u / 10 / 10 % 10 = u / 100 % 10 by omega]
theorem itoa_four {n : Int} (h0 : 1000 ≤ n) (h1 : n < 10000) : Lib.itoa n = T2 (n / 100) ++ T2 (n % 100) := by
  unfold Lib.itoa
  rw [if_neg (by omega), dec_four _ (by omega) (by omega)]
  have e1 : n.toNat / 1000 = (n / 100 / 10).toNat := by omega
  have e2 : n.toNat / 100 % 10 = (n / 100 % 10).toNat := by omega
  have e3 : n.toNat / 10 % 10 = (n % 100 / 10).toNat := by omega
  have e4 : n.toNat % 10 = (n % 100 % 10).toNat := by omega
  rw [e1, e2, e3, e4]
  rfl
theorem stamp_length (t : Int) (h1 : -135140 ≤ t / 86400) (h2 : t / 86400 ≤ 157053) : (stampT t).length = 19 := by
  obtain ⟨hv, _⟩ := Civ.date_valid (t / 86400) h1 h2
  obtain ⟨y1, y2, _⟩ := hv
  unfold stampT
  rw [itoa_four (by omega) (by omega)]
  simp [T2_length]

/-! ### the order of texts -/
theorem digit_lt {a b : Nat} (ha : a < 10) (hb : b < 10) : UInt8.ofNat (48 + a) < UInt8.ofNat (48 + b) ↔ a < b := by
  rw [UInt8.lt_iff_toNat_lt]
  simp only [UInt8.toNat_ofNat']
  omega
theorem digit_inj {a b : Nat} (ha : a < 10) (hb : b < 10) (h : UInt8.ofNat (48 + a) = UInt8.ofNat (48 + b)) : a = b := by
  have := congrArg UInt8.toNat h
  simp only [UInt8.toNat_ofNat'] at this
  omega
/-- lists of one size, the first different place tells -/
theorem lex_append {a b c d : List UInt8} (hl : a.length = b.length) : a ++ c < b ++ d ↔ a < b ∨ a = b ∧ c < d := by
  induction a generalizing b with
  | nil =>
    cases b with
    | nil => simp
    | cons y s => simp at hl
  | cons x r ih =>
    cases b with
    | nil => simp at hl
    | cons y s =>
      have := ih (b := s) (by simpa using hl)
      simp only [List.cons_append, List.cons_lt_cons_iff, this, List.cons.injEq]
      constructor
      · rintro (h | ⟨rfl, h | ⟨rfl, h⟩⟩)
        · exact .inl (.inl h)
        · exact .inl (.inr ⟨rfl, h⟩)
        · exact .inr ⟨⟨rfl, rfl⟩, h⟩
      · rintro ((h | ⟨rfl, h⟩) | ⟨⟨rfl, rfl⟩, h⟩)
        · exact .inl h
        · exact .inr ⟨rfl, .inl h⟩
        · exact .inr ⟨rfl, .inr ⟨rfl, h⟩⟩
theorem T2_app (a b : Int) (c d : List UInt8) : T2 a ++ c < T2 b ++ d ↔ T2 a < T2 b ∨ T2 a = T2 b ∧ c < d := lex_append rfl
theorem same_head {a b c : List UInt8} : c ++ a < c ++ b ↔ a < b := by
  rw [lex_append rfl]
  constructor
  · rintro (h | ⟨_, h⟩)
    · exact absurd h (List.lt_irrefl c)
    · exact h
  · exact fun h => .inr ⟨rfl, h⟩
theorem T2_lt {a b : Int} (h0 : 0 ≤ a) (h1 : a < 100) (h2 : 0 ≤ b) (h3 : b < 100) : T2 a < T2 b ↔ a < b := by
  unfold T2
  simp only [List.cons_lt_cons_iff]
  rw [digit_lt (by omega) (by omega), digit_lt (by omega) (by omega)]
  constructor
  · rintro (h | ⟨h, h' | ⟨_, h'⟩⟩)
    · omega
    · have := digit_inj (by omega) (by omega) h; omega
    · exact absurd h' (by simp)
  · intro h
    by_cases e : a / 10 = b / 10
    · exact .inr ⟨by rw [e], .inl (by omega)⟩
    · exact .inl (by omega)
theorem T2_inj {a b : Int} (h0 : 0 ≤ a) (h1 : a < 100) (h2 : 0 ≤ b) (h3 : b < 100) (h : T2 a = T2 b) : a = b := by
  unfold T2 at h
  injection h with h4 h5
  injection h5 with h5 _
  have := digit_inj (by omega) (by omega) h4
  have := digit_inj (by omega) (by omega) h5
  omega
theorem T2_eq {a b : Int} (h0 : 0 ≤ a) (h1 : a < 100) (h2 : 0 ≤ b) (h3 : b < 100) : T2 a = T2 b ↔ a = b := ⟨T2_inj h0 h1 h2 h3, fun h => by rw [h]⟩
theorem Y4_lt {a b : Int} (h0 : 1000 ≤ a) (h1 : a < 10000) (h2 : 1000 ≤ b) (h3 : b < 10000) : Lib.itoa a < Lib.itoa b ↔ a < b := by
  rw [itoa_four h0 h1, itoa_four h2 h3, T2_app, T2_lt (by omega) (by omega) (by omega) (by omega), T2_lt (by omega) (by omega) (by omega) (by omega), T2_eq (by omega) (by omega) (by omega) (by omega)]
  omega
theorem Y4_eq {a b : Int} (h0 : 1000 ≤ a) (h1 : a < 10000) (h2 : 1000 ≤ b) (h3 : b < 10000) : Lib.itoa a = Lib.itoa b ↔ a = b := by
  constructor
  · intro h
    rw [itoa_four h0 h1, itoa_four h2 h3] at h
    have e := List.append_inj h rfl
    have := T2_inj (by omega) (by omega) (by omega) (by omega) e.1
    have := T2_inj (by omega) (by omega) (by omega) (by omega) e.2
    omega
  · intro h; rw [h]
theorem Y4_length {a : Int} (h0 : 1000 ≤ a) (h1 : a < 10000) : (Lib.itoa a).length = 4 := by rw [itoa_four h0 h1]; rfl

/-- a time's date as a text -/
def dateT (n : Int) : List UInt8 := Lib.itoa (Civ.yy n) ++ ([45] ++ (T2 (Civ.mm n) ++ ([45] ++ T2 (Civ.dd n))))
/-- a second of the day as a text -/
def clockT (r : Int) : List UInt8 := [84] ++ (T2 (r / 3600) ++ ([58] ++ (T2 (r / 60 % 60) ++ ([58] ++ T2 (r % 60)))))
theorem stamp_two (t : Int) : stampT t = dateT (t / 86400) ++ clockT (t % 86400) := by simp [stampT, dateT, clockT]
theorem dateT_length (n : Int) (h1 : -135140 ≤ n) (h2 : n ≤ 157053) : (dateT n).length = 10 := by
  obtain ⟨hv, _⟩ := Civ.date_valid n h1 h2
  obtain ⟨y1, y2, _⟩ := hv
  unfold dateT
  rw [List.length_append, Y4_length (by omega) (by omega)]
  rfl
theorem dateT_lt (n m : Int) (h1 : -135140 ≤ n) (h2 : n ≤ 157053) (h3 : -135140 ≤ m) (h4 : m ≤ 157053) : dateT n < dateT m ↔ n < m := by
  obtain ⟨hv, e⟩ := Civ.date_valid n h1 h2
  obtain ⟨hw, e'⟩ := Civ.date_valid m h3 h4
  have key := Civ.days_lt_iff hv hw
  rw [e, e'] at key
  rw [key]
  have b1 := Civ.mlen_bd (Civ.yy n) (Civ.mm n) hv.2.2.1 hv.2.2.2.1
  have b2 := Civ.mlen_bd (Civ.yy m) (Civ.mm m) hw.2.2.1 hw.2.2.2.1
  obtain ⟨v1, v2, v3, v4, v5, v6⟩ := hv
  obtain ⟨u1, u2, u3, u4, u5, u6⟩ := hw
  unfold dateT Civ.less
  rw [lex_append (by rw [Y4_length (by omega) (by omega), Y4_length (by omega) (by omega)]), same_head, T2_app, same_head, Y4_lt (by omega) (by omega) (by omega) (by omega), Y4_eq (by omega) (by omega) (by omega) (by omega),
    T2_lt (by omega) (by omega) (by omega) (by omega), T2_lt (by omega) (by omega) (by omega) (by omega), T2_eq (by omega) (by omega) (by omega) (by omega)]
theorem dateT_eq (n m : Int) (h1 : -135140 ≤ n) (h2 : n ≤ 157053) (h3 : -135140 ≤ m) (h4 : m ≤ 157053) : dateT n = dateT m ↔ n = m := by
  constructor
  · intro h
    rcases Int.lt_trichotomy n m with h' | h' | h'
    · have := (dateT_lt n m h1 h2 h3 h4).2 h'
      rw [h] at this
      exact absurd this (List.lt_irrefl _)
    · exact h'
    · have := (dateT_lt m n h3 h4 h1 h2).2 h'
      rw [h] at this
      exact absurd this (List.lt_irrefl _)
  · intro h; rw [h]
theorem clockT_lt (r s : Int) (h1 : 0 ≤ r) (h2 : r < 86400) (h3 : 0 ≤ s) (h4 : s < 86400) : clockT r < clockT s ↔ r < s := by
  unfold clockT
  rw [same_head, T2_app, same_head, T2_app, same_head, T2_lt (by omega) (by omega) (by omega) (by omega), T2_lt (by omega) (by omega) (by omega) (by omega), T2_lt (by omega) (by omega) (by omega) (by omega),
    T2_eq (by omega) (by omega) (by omega) (by omega), T2_eq (by omega) (by omega) (by omega) (by omega)]
  omega
/-- texts stand as times do -/
theorem stampT_lt (t u : Int) (h1 : -135140 ≤ t / 86400) (h2 : t / 86400 ≤ 157053) (h3 : -135140 ≤ u / 86400) (h4 : u / 86400 ≤ 157053) : stampT t < stampT u ↔ t < u := by
  rw [stamp_two, stamp_two, lex_append (by rw [dateT_length _ h1 h2, dateT_length _ h3 h4]), dateT_lt _ _ h1 h2 h3 h4, dateT_eq _ _ h1 h2 h3 h4, clockT_lt _ _ (by omega) (by omega) (by omega) (by omega)]
  omega
end Go.Proofs.YtmhfhmhjaecoaaaGreatDoor
namespace Go.Proofs.YtmhfhmhjaecoaaaGreatDoor
open Go.RowKit Go.Joins
set_option linter.unusedVariables false
set_option linter.unusedSimpArgs false

/-- strconv's table of powers of ten lies there -/
def Tab10 (w : World) : Prop := Lib.TabIs Tryz.prog w "internal/strconv.uint64pow10" .u64 Lib.pow10Tab
theorem Tab10.below {w w' : World} (h : Tab10 w) (hb : Below w.heap.size w w') : Tab10 w' := (Lib.tabBelow_of_tabIs h) w' hb

theorem ret_text {a b : List UInt8} (h : a = b) : Ending.returned (.string (txt a)) = .returned (.string (txt b)) := by rw [h]
theorem itoa_text (n : Int) (w : World) (h0 : -9223372036854775808 ≤ n) (h1 : n ≤ 9223372036854775807) (ht : Tab10 w) :
    Calls Tryz.prog 76 #[.int .i64 n] w fun e w' => e = .returned (.string (txt (Lib.itoa n))) ∧ Below w.heap.size w w' :=
  (Tryz.strconv_Itoa n h0 h1 w ht).mono fun e w' ⟨he, k, os, hw⟩ => ⟨he, by rw [hw]; exact Lib.below_grow _ w (Nat.le_refl _) k os⟩

theorem und_bytes : Tryz.prog.underlying 173 = some (.slice 5) := by kernel_rfl

set_option maxHeartbeats 1000000 in
theorem two_any (n : Int) (w : World) (h0 : 0 ≤ n) (h1 : n < 100) :
    Calls Tryz.prog 77 #[.int .i64 n] w fun e w' => e = .returned (.string (txt (T2 n))) ∧ Below w.heap.size w w' := by
  have hcv : (convert 173 9 (.slice (some ⟨w.heap.size, 0, none⟩) 2 2)).run Tryz.prog (w.alloc (.cells #[.int .u8 (48 + n / 10), .int .u8 (48 + n % 10)] 5)) = .ok (.string (strOfNums [48 + n / 10, 48 + n % 10])) (w.alloc (.cells #[.int .u8 (48 + n / 10), .int .u8 (48 + n % 10)] 5)) := by
    refine Lib.BytesIn.convert (xs := [48 + n / 10, 48 + n % 10]) (fun _ => ⟨w.heap.size, 0, rfl, fun i hi => ?_⟩) rfl 2 _ 5 _ und_bytes Tryz.underlying5 (by kernel_rfl)
    have e := heap_alloc_new w (.cells #[.int .u8 (48 + n / 10), .int .u8 (48 + n % 10)] 5)
    rw [cell_of_row _ _ _ _ _ _ e]
    have hi2 : i < 2 := hi
    have : i = 0 ∨ i = 1 := by omega
    rcases this with rfl | rfl <;> rfl
  have hs : strOfNums [48 + n / 10, 48 + n % 10] = txt (T2 n) := by
    simp only [strOfNums, txt, T2, List.map_cons, List.map_nil]
    rw [show (48 + n / 10).toNat = 48 + (n / 10).toNat by omega, show (48 + n % 10).toNat = 48 + (n % 10).toNat by omega]
  rw [hs] at hcv
  clear hs
  go_enter Tryz.func77, Tryz.ntmps77
  go_wp2
  go_ret
  exact ⟨rfl, (Below.refl _ _).alloc (Nat.le_refl _) _⟩

theorem below_drewN' {B : Nat} {a w : World} (h : Below B a w) (n : Nat) : Below B a (w.drewN n) := ⟨h.os, h.tape, h.output, h.size, h.block⟩
theorem ret_2 {a b c d : Int} (h : a = b) (h2 : c = d) : Ending.returned (.tuple #[.int .i64 a, .int .i64 c]) = .returned (.tuple #[.int .i64 b, .int .i64 d]) := by rw [h, h2]

theorem itoa_len3 {n : Int} (h0 : 0 ≤ n) (h1 : n < 1000) : (Lib.itoa n).length ≤ 3 := by
  unfold Lib.itoa
  rw [if_neg (by omega), Lib.decDigits_length]
  by_cases a : n.toNat < 10
  · rw [Lib.nDigits_small a]; omega
  · rw [Lib.nDigits_big a]
    by_cases b : n.toNat / 10 < 10
    · rw [Lib.nDigits_small b]; omega
    · rw [Lib.nDigits_big b, Lib.nDigits_small (by omega)]; omega
theorem ret_span {a b : List UInt8} {x y : Int} (h : a = b) (h2 : x = y) : Ending.returned (.tuple #[.string (txt a), .int .i64 x]) = .returned (.tuple #[.string (txt b), .int .i64 y]) := by rw [h, h2]
theorem str_txt (l : List UInt8) : (⟨l.toArray⟩ : ByteArray) = txt l := rfl

theorem cat1 (p a b : List UInt8) : txt p ++ txt a ++ ⟨#[58]⟩ ++ txt b = txt (p ++ (a ++ ([58] ++ (b ++ [])))) := by
  rw [show (⟨#[58]⟩ : ByteArray) = txt [58] from rfl, txt_append, txt_append, txt_append]; simp
theorem cat2 (p a b c : List UInt8) : txt p ++ txt a ++ ⟨#[58]⟩ ++ txt b ++ (⟨#[58]⟩ ++ txt c) = txt (p ++ (a ++ ([58] ++ (b ++ ([58] ++ c))))) := by
  rw [show (⟨#[58]⟩ : ByteArray) = txt [58] from rfl, txt_append, txt_append, txt_append, txt_append, txt_append]; simp
end Go.Proofs.YtmhfhmhjaecoaaaGreatDoor
namespace Go.Proofs.YtmhfhmhjaecoaaaGreatDoor
open Go.RowKit Go.Joins
set_option linter.unusedVariables false
set_option linter.unusedSimpArgs false

set_option maxRecDepth 100000 in
set_option maxHeartbeats 1000000 in
theorem Span_pos (n : Int) (w : World) (h0 : 0 ≤ n) (h1 : n ≤ 604800) (ht : Tab10 w) :
    Calls Tryz.prog 101 #[.int .i64 n] w fun e w' => e = .returned (.tuple #[.string (txt (spanP n)), .int .i64 0]) ∧ Below w.heap.size w w' := by
  have HT := Lib.hid ht
  clear ht
  have ha : ¬ n < -604800 := by omega
  have hb : ¬ 604800 < n := by omega
  go_enter Tryz.func101, Tryz.ntmps101
  go_wp2_with fail
  refine (itoa_text _ _ (by omega) (by omega) HT.out).mono ?_
  have hA := itoa_len3 (n := n / 3600) (by omega) (by omega)
  rw [← txt_size] at hA
  obtain ⟨A, eA⟩ : ∃ A, txt (Lib.itoa (n / 3600)) = A := ⟨_, rfl⟩
  rw [eA] at hA ⊢
  have EA := Lib.hid eA
  clear eA
  rintro e w1 ⟨rfl, hb1⟩
  go_wp2_with fail
  refine (two_any _ _ (by omega) (by omega)).mono ?_
  obtain ⟨B, eB⟩ : ∃ B, txt (T2 (n / 60 % 60)) = B := ⟨_, rfl⟩
  rw [eB]
  have hB2 : B.size ≤ 2 := by rw [← eB, txt_size, T2_length]; omega
  have EB := Lib.hid eB
  clear eB
  rintro e w2 ⟨rfl, hb2⟩
  have b2 := hb1.trans (hb2.mono hb1.size)
  by_cases hz : n % 60 = 0
  · go_wp2_with fail
    go_ret2
    refine ⟨?_, b2⟩
    show Ending.returned (.tuple #[.string (txt [] ++ A ++ ⟨#[58]⟩ ++ B), .int .i64 0]) = _
    rw [← EA.out, ← EB.out, cat1, spanP, if_pos hz]
    rfl
  · go_wp2_with fail
    refine (two_any _ _ (by omega) (by omega)).mono ?_
    obtain ⟨C, eC⟩ : ∃ C, txt (T2 (n % 60)) = C := ⟨_, rfl⟩
    rw [eC]
    have hC2 : C.size ≤ 2 := by rw [← eC, txt_size, T2_length]; omega
    have EC := Lib.hid eC
    clear eC
    rintro e w3 ⟨rfl, hb3⟩
    go_wp2_with fail
    go_ret2
    refine ⟨?_, b2.trans (hb3.mono b2.size)⟩
    show Ending.returned (.tuple #[.string (txt [] ++ A ++ ⟨#[58]⟩ ++ B ++ (⟨#[58]⟩ ++ C)), .int .i64 0]) = _
    rw [← EA.out, ← EB.out, ← EC.out, cat2, spanP, if_neg hz]
    rfl
set_option maxRecDepth 100000 in
set_option maxHeartbeats 1000000 in
theorem Span_neg (n : Int) (w : World) (h0 : 0 < n) (h1 : n ≤ 604800) (ht : Tab10 w) :
    Calls Tryz.prog 101 #[.int .i64 (-n)] w fun e w' => e = .returned (.tuple #[.string (txt (45 :: spanP n)), .int .i64 0]) ∧ Below w.heap.size w w' := by
  have HT := Lib.hid ht
  clear ht
  have ha : ¬ -n < -604800 := by omega
  have hb : ¬ 604800 < -n := by omega
  go_enter Tryz.func101, Tryz.ntmps101
  go_wp2_with fail
  refine (itoa_text _ _ (by omega) (by omega) HT.out).mono ?_
  have hA := itoa_len3 (n := n / 3600) (by omega) (by omega)
  rw [← txt_size] at hA
  obtain ⟨A, eA⟩ : ∃ A, txt (Lib.itoa (n / 3600)) = A := ⟨_, rfl⟩
  rw [eA] at hA ⊢
  have EA := Lib.hid eA
  clear eA
  rintro e w1 ⟨rfl, hb1⟩
  go_wp2_with fail
  refine (two_any _ _ (by omega) (by omega)).mono ?_
  obtain ⟨B, eB⟩ : ∃ B, txt (T2 (n / 60 % 60)) = B := ⟨_, rfl⟩
  rw [eB]
  have hB2 : B.size ≤ 2 := by rw [← eB, txt_size, T2_length]; omega
  have EB := Lib.hid eB
  clear eB
  rintro e w2 ⟨rfl, hb2⟩
  have b2 := hb1.trans (hb2.mono hb1.size)
  by_cases hz : n % 60 = 0
  · go_wp2_with fail
    go_ret2
    refine ⟨?_, b2⟩
    show Ending.returned (.tuple #[.string (txt [45] ++ A ++ ⟨#[58]⟩ ++ B), .int .i64 0]) = _
    rw [← EA.out, ← EB.out, cat1, spanP, if_pos hz]
    rfl
  · go_wp2_with fail
    refine (two_any _ _ (by omega) (by omega)).mono ?_
    obtain ⟨C, eC⟩ : ∃ C, txt (T2 (n % 60)) = C := ⟨_, rfl⟩
    rw [eC]
    have hC2 : C.size ≤ 2 := by rw [← eC, txt_size, T2_length]; omega
    have EC := Lib.hid eC
    clear eC
    rintro e w3 ⟨rfl, hb3⟩
    go_wp2_with fail
    go_ret2
    refine ⟨?_, b2.trans (hb3.mono b2.size)⟩
    show Ending.returned (.tuple #[.string (txt [45] ++ A ++ ⟨#[58]⟩ ++ B ++ (⟨#[58]⟩ ++ C)), .int .i64 0]) = _
    rw [← EA.out, ← EB.out, ← EC.out, cat2, spanP, if_neg hz]
    rfl

theorem Span_ok (n : Int) (w : World) (h0 : -604800 ≤ n) (h1 : n ≤ 604800) (ht : Tab10 w) :
    Calls Tryz.prog 101 #[.int .i64 n] w fun e w' => e = .returned (.tuple #[.string (txt (spanT n)), .int .i64 0]) ∧ Below w.heap.size w w' := by
  unfold spanT
  by_cases h : n < 0
  · rw [if_pos h]
    have := Span_neg (-n) w (by omega) (by omega) ht
    rw [Int.neg_neg] at this
    exact this
  · rw [if_neg h]; exact Span_pos n w (by omega) h1 ht
end Go.Proofs.YtmhfhmhjaecoaaaGreatDoor
namespace Go.Proofs.YtmhfhmhjaecoaaaGreatDoor
open Go.RowKit
set_option linter.unusedVariables false
set_option linter.unusedSimpArgs false

theorem ret_int' {k : IntKind} {a b : Int} (h : a = b) : Ending.returned (.int k a) = .returned (.int k b) := by rw [h]
theorem ret_bool' {a b : Bool} (h : a = b) : Ending.returned (.bool a) = .returned (.bool b) := by rw [h]

def letterB (c : Int) : Bool := decide (97 ≤ c ∧ c ≤ 122 ∨ 65 ≤ c ∧ c ≤ 90)
def digitB (c : Int) : Bool := decide (48 ≤ c ∧ c ≤ 57)

theorem isLetter_any (c : Int) (w : World) :
    Calls Tryz.prog 46 #[.int .u8 c] w fun e w' => e = .returned (.bool (letterB c)) ∧ w = w' := by
  by_cases h1 : 97 ≤ c <;> by_cases h2 : c ≤ 122 <;> by_cases h3 : 65 ≤ c <;> by_cases h4 : c ≤ 90 <;>
  first
  | omega
  | (go_enter Tryz.func46, Tryz.ntmps46
     go_wp2
     go_ret
     exact ⟨ret_bool' (by simp [letterB, h1, h2, h3, h4]), rfl⟩)

theorem isDigit_any (c : Int) (w : World) :
    Calls Tryz.prog 83 #[.int .u8 c] w fun e w' => e = .returned (.bool (digitB c)) ∧ w = w' := by
  by_cases h1 : 48 ≤ c <;> by_cases h2 : c ≤ 57 <;>
  · go_enter Tryz.func83, Tryz.ntmps83
    go_wp2
    go_ret
    exact ⟨ret_bool' (by simp [digitB, h1, h2]), rfl⟩

/-- is a byte a letter, a digit or one of some others? -/
def signB (others : List UInt8) (c : UInt8) : Bool := letterB c.toNat || digitB c.toNat || others.contains c
def allB (s : ByteArray) (most : Int) (others : ByteArray) : Bool := s.data.toList.all (signB others.data.toList) && (!s.data.toList.isEmpty) && decide ((s.size : Int) ≤ most)

theorem drop_at (s : ByteArray) (k : Nat) (h : k < s.size) : s.data.toList.drop k = s[k] :: s.data.toList.drop (k + 1) := by
  rw [List.drop_eq_getElem_cons (by simpa using h)]; rfl

theorem extract_one (s : ByteArray) (k : Nat) (h : k < s.size) : s.extract k (k + 1) = ⟨#[s[k]]⟩ := by
  apply ByteArray.ext
  apply Array.toList_inj.1
  rw [Lib.extract_data]
  simp only [Nat.add_sub_cancel_left]
  rw [drop_at s k h]; rfl

set_option maxHeartbeats 1000000 in
theorem all_any (s others : ByteArray) (most : Int) (w : World) (hs : s.size ≤ maxLen) :
    Calls Tryz.prog 42 #[.string s, .int .i64 most, .string others] w fun e w' => e = .returned (.bool (allB s most others)) ∧ w = w' := by
  unfold maxLen at hs
  go_enter Tryz.func42, Tryz.ntmps42
  go_wp2
  go_loop [10] (fun t => ∃ k : Nat, k ≤ s.size ∧ t = .int .i64 k ∧ s.data.toList.all (signB others.data.toList) = (s.data.toList.drop k).all (signB others.data.toList)) (fun t => s.size - (intOf t).toNat)
  case atStart => exact ⟨0, Nat.zero_le _, rfl, rfl⟩
  case round =>
    obtain ⟨k, hk, rfl, hall⟩ := hrel
    have HA := Lib.hid hall
    clear hall
    by_cases hlt : k < s.size
    · have hd := Lib.hid (drop_at s k hlt)
      have he := Lib.hid (extract_one s k hlt)
      cases h1 : letterB (s[k].toNat : Int)
      · cases h2 : digitB (s[k].toNat : Int)
        · cases h3 : decide (0 ≤ Lib.indexByte others.data.toList s[k])
          · have hf : Hid (signB others.data.toList s[k] = false) := by
              show signB _ _ = false
              unfold signB; rw [h1, h2, Lib.contains_iff_indexByte, h3]; rfl
            go_wp2_with (first | (go_at_call 46; refine (isLetter_any _ _).mono ?_; rintro e w' ⟨rfl, rfl⟩) | (go_at_call 83; refine (isDigit_any _ _).mono ?_; rintro e w' ⟨rfl, rfl⟩) | (go_at_call 84; rw [he.out]; refine (Tryz.strings_Contains_one _ _ _).mono ?_; rintro e w' ⟨rfl, rfl⟩))
            go_ret
            exact ⟨ret_bool' (by unfold allB; rw [HA.out, hd.out, List.all_cons, hf.out]; rfl), rfl⟩
          · have hf : Hid (signB others.data.toList s[k] = true) := by
              show signB _ _ = true
              unfold signB; rw [h1, h2, Lib.contains_iff_indexByte, h3]; rfl
            go_wp2_with (first | (go_at_call 46; refine (isLetter_any _ _).mono ?_; rintro e w' ⟨rfl, rfl⟩) | (go_at_call 83; refine (isDigit_any _ _).mono ?_; rintro e w' ⟨rfl, rfl⟩) | (go_at_call 84; rw [he.out]; refine (Tryz.strings_Contains_one _ _ _).mono ?_; rintro e w' ⟨rfl, rfl⟩))
            go_round
            case rel => exact ⟨k + 1, by omega, by go_num, by rw [HA.out, hd.out, List.all_cons, hf.out, Bool.true_and]⟩
            case measure => simp [intOf]; omega
        · have hf : Hid (signB others.data.toList s[k] = true) := by
            show signB _ _ = true
            unfold signB; rw [h1, h2]; rfl
          go_wp2_with (first | (go_at_call 46; refine (isLetter_any _ _).mono ?_; rintro e w' ⟨rfl, rfl⟩) | (go_at_call 83; refine (isDigit_any _ _).mono ?_; rintro e w' ⟨rfl, rfl⟩))
          go_round
          case rel => exact ⟨k + 1, by omega, by go_num, by rw [HA.out, hd.out, List.all_cons, hf.out, Bool.true_and]⟩
          case measure => simp [intOf]; omega
      · have hf : Hid (signB others.data.toList s[k] = true) := by
          show signB _ _ = true
          unfold signB; rw [h1]; rfl
        go_wp2_with (first | (go_at_call 46; refine (isLetter_any _ _).mono ?_; rintro e w' ⟨rfl, rfl⟩))
        go_round
        case rel => exact ⟨k + 1, by omega, by go_num, by rw [HA.out, hd.out, List.all_cons, hf.out, Bool.true_and]⟩
        case measure => simp [intOf]; omega
    · obtain rfl : k = s.size := by omega
      have hall : s.data.toList.all (signB others.data.toList) = true := by rw [HA.out, List.drop_of_length_le (by simp)]; rfl
      have HT := Lib.hid hall
      clear hall
      by_cases he : s.toList = []
      · have hE : Hid (s.data.toList = []) := by show _ = _; rw [← ByteArray.toList_eq, he]
        go_wp2
        go_ret
        exact ⟨ret_bool' (by unfold allB; rw [hE.out]; rfl), rfl⟩
      · have he2 : s.toList.isEmpty = false := by simpa using he
        have hE : Hid (s.data.toList.isEmpty = false) := by show _ = _; rw [← ByteArray.toList_eq, he2]
        by_cases hm : (s.size : Int) ≤ most
        · go_wp2
          go_ret
          exact ⟨ret_bool' (by unfold allB; rw [HT.out, hE.out, decide_eq_true hm]; simp [he2]), rfl⟩
        · go_wp2
          go_ret
          exact ⟨ret_bool' (by unfold allB; rw [HT.out, hE.out, decide_eq_false (by omega)]; simp [he2]), rfl⟩

def abbrB (s : ByteArray) : Bool := allB s 8 ⟨#[43, 45]⟩

theorem isAbbr_any (s : ByteArray) (w : World) (hs : s.size ≤ maxLen) :
    Calls Tryz.prog 17 #[.string s] w fun e w' => e = .returned (.bool (abbrB s)) ∧ w = w' := by
  go_enter Tryz.func17, Tryz.ntmps17
  go_wp2_with fail
  refine (all_any _ _ _ _ hs).mono ?_
  rintro e w' ⟨rfl, rfl⟩
  go_wp2
  go_ret
  exact ⟨rfl, rfl⟩

end Go.Proofs.YtmhfhmhjaecoaaaGreatDoor
namespace Go.Proofs.YtmhfhmhjaecoaaaGreatDoor
open Go.RowKit Go.Joins
open Classical
set_option linter.unusedVariables false
set_option linter.unusedSimpArgs false

def nameB (s : ByteArray) : Bool := allB s 20 ⟨#[95, 47, 45]⟩ && decide (∃ c, s.data.toList[0]? = some c ∧ letterB c.toNat = true)
theorem isName_any (s : ByteArray) (w : World) (hs : s.size ≤ maxLen) :
    Calls Tryz.prog 19 #[.string s] w fun e w' => e = .returned (.bool (nameB s)) ∧ w = w' := by
  obtain ⟨A, eA⟩ : ∃ A, allB s 20 ⟨#[95, 47, 45]⟩ = A := ⟨_, rfl⟩
  have HA := Lib.hid eA
  cases A with
  | false =>
    have HN : Hid (nameB s = false) := by show _ = _; unfold nameB; rw [eA]; simp
    clear eA
    go_enter Tryz.func19, Tryz.ntmps19
    go_wp2_with fail
    refine (all_any _ _ _ _ hs).mono ?_
    rw [HA.out]
    rintro e w' ⟨rfl, rfl⟩
    go_wp2
    go_ret
    exact ⟨ret_bool' HN.out.symm, rfl⟩
  | true =>
    have h0 : 0 < s.size := by
      unfold allB at eA
      simp only [Bool.and_eq_true, Bool.not_eq_true', decide_eq_true_eq] at eA
      have h2 := eA.1.2
      rcases Nat.eq_zero_or_pos s.size with h | h
      · have : s.data.toList = [] := List.eq_nil_of_length_eq_zero (by simpa using h)
        rw [this] at h2; simp at h2
      · exact h
    obtain ⟨c, ec⟩ : ∃ c, s[0] = c := ⟨_, rfl⟩
    have HN : Hid (nameB s = letterB c.toNat) := by
      show _ = _
      unfold nameB
      rw [eA, Bool.true_and]
      have hc : s.data.toList[0]? = some c := by
        rw [List.getElem?_eq_getElem (by simpa using h0)]
        exact congrArg some ec
      rw [hc]
      cases hl : letterB c.toNat
      · exact decide_eq_false (by rintro ⟨d, hd, h⟩; injection hd with hd; subst hd; rw [hl] at h; cases h)
      · exact decide_eq_true ⟨c, rfl, hl⟩
    clear eA
    go_enter Tryz.func19, Tryz.ntmps19
    go_wp2_with fail
    refine (all_any _ _ _ _ hs).mono ?_
    rw [HA.out]
    rintro e w' ⟨rfl, rfl⟩
    go_wp2_with fail
    refine (isLetter_any _ _).mono ?_
    rintro e w' ⟨rfl, rfl⟩
    go_wp2
    go_ret
    exact ⟨ret_bool' (by rw [HN.out, ← ec]), rfl⟩

end Go.Proofs.YtmhfhmhjaecoaaaGreatDoor
namespace Go.Proofs.YtmhfhmhjaecoaaaGreatDoor
open Go.RowKit
set_option linter.unusedVariables false
set_option linter.unusedSimpArgs false

def withinB (n a b : Int) : Bool := decide (a ≤ n ∧ n ≤ b)
theorem withinB_t {n a b : Int} (h : a ≤ n ∧ n ≤ b) : withinB n a b = true := by simp [withinB, h]
theorem withinB_f {n a b : Int} (h : ¬ (a ≤ n ∧ n ≤ b)) : withinB n a b = false := by unfold withinB; exact decide_eq_false h
theorem withinB_iff {n a b : Int} : withinB n a b = true ↔ a ≤ n ∧ n ≤ b := by simp [withinB]

theorem day_within (n a b : Int) (w : World) :
    Calls Tryz.prog 136 #[.int .i64 n, .int .i64 a, .int .i64 b] w fun e w' => e = .returned (.bool (withinB n a b)) ∧ w = w' := by
  by_cases h1 : a ≤ n <;> by_cases h2 : n ≤ b <;>
  · go_enter Tryz.func136, Tryz.ntmps136
    go_wp2
    go_ret
    exact ⟨ret_bool (by simp [withinB, h1, h2]), rfl⟩

abbrev dayV (k wd n : Int) : Value := .agg #[.int .i64 k, .int .i64 wd, .int .i64 n]

def dayB (k wd n : Int) : Bool := decide ((k = 1 ∧ wd = 0 ∧ 1 ≤ n ∧ n ≤ 31) ∨ (k = 2 ∧ 0 ≤ wd ∧ wd ≤ 6 ∧ n = 0) ∨ ((k = 3 ∨ k = 4) ∧ 0 ≤ wd ∧ wd ≤ 6 ∧ 1 ≤ n ∧ n ≤ 31))

theorem quiet_left {P : Program} {f : FuncId} {args : Array Value} {w : World} {n : Nat} {v : Value}
    (h : Calls P f args (w.drewN n) fun e w' => e = .returned v ∧ w.drewN n = w') : Calls P f args (w.drewN n) fun e w'' => e = .returned v ∧ ∃ m, w'' = w.drewN m :=
  h.mono fun _ _ ⟨he, hm⟩ => ⟨he, n, hm.symm⟩

theorem below_drewN {B : Nat} {a w : World} (h : Below B a w) (n : Nat) : Below B a (w.drewN n) := ⟨h.os, h.tape, h.output, h.size, h.block⟩

set_option maxHeartbeats 2000000 in
theorem Check_ok (k wd n : Int) (w : World) (h0 : dayB k wd n = true) :
    Calls Tryz.prog 86 #[dayV k wd n] w fun e w' => e = .returned (.int .i64 0) ∧ Below w.heap.size w w' := by
  simp only [dayB, decide_eq_true_eq] at h0
  rcases h0 with ⟨rfl, rfl, h⟩ | ⟨rfl, h, h2, rfl⟩ | ⟨rfl | rfl, h⟩
  · have t0 : withinB 0 0 6 = true := by decide
    have t2 : withinB n 1 31 = true := withinB_t (by omega)
    clear h
    go_enter Tryz.func86, Tryz.ntmps86
    go_wp2
    go_quiet ((go_at_call 136; exact quiet_left (day_within _ _ _ _)))
    go_wp2
    go_ret
    exact ⟨rfl, below_drewN ((Below.refl _ _).alloc (Nat.le_refl _) _) _⟩
  · have t2 : withinB 0 1 31 = false := by decide
    have t1 : withinB wd 0 6 = true := withinB_t (by omega)
    clear h
    go_enter Tryz.func86, Tryz.ntmps86
    go_wp2
    go_quiet ((go_at_call 136; exact quiet_left (day_within _ _ _ _)))
    go_wp2
    go_ret
    exact ⟨rfl, below_drewN ((Below.refl _ _).alloc (Nat.le_refl _) _) _⟩
  · have t1 : withinB wd 0 6 = true := withinB_t (by omega)
    have t2 : withinB n 1 31 = true := withinB_t (by omega)
    clear h
    go_enter Tryz.func86, Tryz.ntmps86
    go_wp2
    go_quiet ((go_at_call 136; exact quiet_left (day_within _ _ _ _)))
    go_wp2
    go_ret
    exact ⟨rfl, below_drewN ((Below.refl _ _).alloc (Nat.le_refl _) _) _⟩
  · have t1 : withinB wd 0 6 = true := withinB_t (by omega)
    have t2 : withinB n 1 31 = true := withinB_t (by omega)
    clear h
    go_enter Tryz.func86, Tryz.ntmps86
    go_wp2
    go_quiet ((go_at_call 136; exact quiet_left (day_within _ _ _ _)))
    go_wp2
    go_ret
    exact ⟨rfl, below_drewN ((Below.refl _ _).alloc (Nat.le_refl _) _) _⟩
set_option maxHeartbeats 2000000 in
theorem Check_no (k wd n : Int) (w : World) (h0 : dayB k wd n = false) :
    Calls Tryz.prog 86 #[dayV k wd n] w fun e w' => e = .returned (.int .i64 1) ∧ Below w.heap.size w w' := by
  simp only [dayB, decide_eq_false_iff_not] at h0
  have h : (k = 1 ∧ wd ≠ 0) ∨ (k = 1 ∧ wd = 0 ∧ ¬ (1 ≤ n ∧ n ≤ 31)) ∨ (k = 2 ∧ ¬ (0 ≤ wd ∧ wd ≤ 6)) ∨ (k = 2 ∧ (0 ≤ wd ∧ wd ≤ 6) ∧ n ≠ 0) ∨ (k = 3 ∧ ¬ (0 ≤ wd ∧ wd ≤ 6)) ∨ (k = 3 ∧ (0 ≤ wd ∧ wd ≤ 6) ∧ ¬ (1 ≤ n ∧ n ≤ 31)) ∨
      (k = 4 ∧ ¬ (0 ≤ wd ∧ wd ≤ 6)) ∨ (k = 4 ∧ (0 ≤ wd ∧ wd ≤ 6) ∧ ¬ (1 ≤ n ∧ n ≤ 31)) ∨ (k ≠ 1 ∧ k ≠ 2 ∧ k ≠ 3 ∧ k ≠ 4) := by omega
  clear h0
  rcases h with ⟨rfl, h⟩ | ⟨rfl, rfl, h⟩ | ⟨rfl, h⟩ | ⟨rfl, h1, h⟩ | ⟨rfl, h⟩ | ⟨rfl, h1, h⟩ | ⟨rfl, h⟩ | ⟨rfl, h1, h⟩ | h
  · have t3 : (wd == 0) = false := by simp; omega
    clear h
    go_enter Tryz.func86, Tryz.ntmps86
    go_wp2
    go_quiet ((go_at_call 136; exact quiet_left (day_within _ _ _ _)))
    go_wp2
    go_ret
    exact ⟨rfl, below_drewN ((Below.refl _ _).alloc (Nat.le_refl _) _) _⟩
  · have t2 : withinB n 1 31 = false := withinB_f (by omega)
    clear h
    go_enter Tryz.func86, Tryz.ntmps86
    go_wp2
    go_quiet ((go_at_call 136; exact quiet_left (day_within _ _ _ _)))
    go_wp2
    go_ret
    exact ⟨rfl, below_drewN ((Below.refl _ _).alloc (Nat.le_refl _) _) _⟩
  · have t1 : withinB wd 0 6 = false := withinB_f (by omega)
    clear h
    go_enter Tryz.func86, Tryz.ntmps86
    go_wp2
    go_quiet ((go_at_call 136; exact quiet_left (day_within _ _ _ _)))
    go_wp2
    go_ret
    exact ⟨rfl, below_drewN ((Below.refl _ _).alloc (Nat.le_refl _) _) _⟩
  · have t1 : withinB wd 0 6 = true := withinB_t (by omega)
    have t4 : (n == 0) = false := by simp; omega
    clear h
    go_enter Tryz.func86, Tryz.ntmps86
    go_wp2
    go_quiet ((go_at_call 136; exact quiet_left (day_within _ _ _ _)))
    go_wp2
    go_ret
    exact ⟨rfl, below_drewN ((Below.refl _ _).alloc (Nat.le_refl _) _) _⟩
  · have t1 : withinB wd 0 6 = false := withinB_f (by omega)
    clear h
    go_enter Tryz.func86, Tryz.ntmps86
    go_wp2
    go_quiet ((go_at_call 136; exact quiet_left (day_within _ _ _ _)))
    go_wp2
    go_ret
    exact ⟨rfl, below_drewN ((Below.refl _ _).alloc (Nat.le_refl _) _) _⟩
  · have t1 : withinB wd 0 6 = true := withinB_t (by omega)
    have t2 : withinB n 1 31 = false := withinB_f (by omega)
    clear h
    go_enter Tryz.func86, Tryz.ntmps86
    go_wp2
    go_quiet ((go_at_call 136; exact quiet_left (day_within _ _ _ _)))
    go_wp2
    go_ret
    exact ⟨rfl, below_drewN ((Below.refl _ _).alloc (Nat.le_refl _) _) _⟩
  · have t1 : withinB wd 0 6 = false := withinB_f (by omega)
    clear h
    go_enter Tryz.func86, Tryz.ntmps86
    go_wp2
    go_quiet ((go_at_call 136; exact quiet_left (day_within _ _ _ _)))
    go_wp2
    go_ret
    exact ⟨rfl, below_drewN ((Below.refl _ _).alloc (Nat.le_refl _) _) _⟩
  · have t1 : withinB wd 0 6 = true := withinB_t (by omega)
    have t2 : withinB n 1 31 = false := withinB_f (by omega)
    clear h
    go_enter Tryz.func86, Tryz.ntmps86
    go_wp2
    go_quiet ((go_at_call 136; exact quiet_left (day_within _ _ _ _)))
    go_wp2
    go_ret
    exact ⟨rfl, below_drewN ((Below.refl _ _).alloc (Nat.le_refl _) _) _⟩
  · have t5 : (k == 1) = false := by simp; omega
    have t6 : (k == 2) = false := by simp; omega
    have t7 : (k == 3) = false := by simp; omega
    have t8 : (k == 4) = false := by simp; omega
    clear h
    go_enter Tryz.func86, Tryz.ntmps86
    go_wp2
    go_quiet ((go_at_call 136; exact quiet_left (day_within _ _ _ _)))
    go_wp2
    go_ret
    exact ⟨rfl, below_drewN ((Below.refl _ _).alloc (Nat.le_refl _) _) _⟩

end Go.Proofs.YtmhfhmhjaecoaaaGreatDoor
namespace Go.Proofs.YtmhfhmhjaecoaaaGreatDoor
open Go.RowKit Go.Joins
open Classical
set_option linter.unusedVariables false
set_option linter.unusedSimpArgs false

structure Ru where
  (nm : ByteArray)
  (yf yt mo dk dw dn tm ck sv : Int)
  (lt : ByteArray)

def ruChk (r : Ru) : Int :=
  if nameB r.nm = false then 3 else
  if r.lt.toList ≠ [45] ∧ abbrB r.lt = false then 3 else
  if ¬ (1900 ≤ r.yf ∧ r.yf ≤ 2100) then 1 else
  if ¬ (r.yf ≤ r.yt ∧ r.yt ≤ 2100) then 1 else
  if ¬ (1 ≤ r.mo ∧ r.mo ≤ 12) then 1 else
  if dayB r.dk r.dw r.dn = false then 1 else
  if Civ.mlen 1901 r.mo < r.dn then 1 else
  if ¬ (-604800 ≤ r.tm ∧ r.tm ≤ 604800) then 1 else
  if ¬ (0 ≤ r.ck ∧ r.ck ≤ 2) then 1 else
  if ¬ (0 ≤ r.sv ∧ r.sv ≤ 10800) then 1 else 0

structure OkRu (r : Ru) : Prop where
  nm : nameB r.nm = true
  lt : r.lt.toList = [45] ∨ abbrB r.lt = true
  f1 : 1900 ≤ r.yf
  f2 : r.yf ≤ 2100
  t1 : r.yf ≤ r.yt
  t2 : r.yt ≤ 2100
  m1 : 1 ≤ r.mo
  m2 : r.mo ≤ 12
  d : dayB r.dk r.dw r.dn = true
  n : r.dn ≤ Civ.mlen 1901 r.mo
  a1 : -604800 ≤ r.tm
  a2 : r.tm ≤ 604800
  c1 : 0 ≤ r.ck
  c2 : r.ck ≤ 2
  s1 : 0 ≤ r.sv
  s2 : r.sv ≤ 10800
theorem ru_ok {r : Ru} (h : ruChk r = 0) : OkRu r := by
  unfold ruChk at h
  split at h
  · omega
  rename_i h1
  split at h
  · omega
  rename_i h2
  split at h
  · omega
  rename_i h3
  split at h
  · omega
  rename_i h4
  split at h
  · omega
  rename_i h5
  split at h
  · omega
  rename_i h6
  split at h
  · omega
  rename_i h7
  split at h
  · omega
  rename_i h8
  split at h
  · omega
  rename_i h9
  split at h
  · omega
  rename_i h10
  refine ⟨by simpa using h1, ?_, by omega, by omega, by omega, by omega, by omega, by omega, by simpa using h6, by omega, by omega, by omega, by omega, by omega, by omega, by omega⟩
  by_cases hl : r.lt.toList = [45]
  · exact Or.inl hl
  · right
    cases ha : abbrB r.lt
    · exact absurd ⟨hl, ha⟩ h2
    · rfl
theorem ok_ru {r : Ru} (o : OkRu r) : ruChk r = 0 := by
  unfold ruChk
  rw [if_neg (by rw [o.nm]; simp), if_neg (fun h => by
    rcases o.lt with h1 | h1
    · exact h.1 h1
    · rw [h1] at h; exact absurd h.2 (by simp)), if_neg (fun h => h ⟨o.f1, o.f2⟩), if_neg (fun h => h ⟨o.t1, o.t2⟩), if_neg (fun h => h ⟨o.m1, o.m2⟩), if_neg (by rw [o.d]; simp), if_neg (by have := o.n; omega), if_neg (fun h => h ⟨o.a1, o.a2⟩), if_neg (fun h => h ⟨o.c1, o.c2⟩), if_neg (fun h => h ⟨o.s1, o.s2⟩)]

/-- RuleYears -/
theorem years_law (r : Ru) (o : OkRu r) (a b : Int) (ha : r.yf ≤ a ∧ a ≤ r.yt) (hb : r.yf ≤ b ∧ b ≤ r.yt) : ruChk { r with yf := min a b, yt := max a b } = 0 := by
  have h1 := o.f1; have h2 := o.f2; have h3 := o.t1; have h4 := o.t2
  refine ok_ru ⟨o.nm, o.lt, ?_, ?_, ?_, ?_, o.m1, o.m2, o.d, o.n, o.a1, o.a2, o.c1, o.c2, o.s1, o.s2⟩ <;> simp only <;> omega

end Go.Proofs.YtmhfhmhjaecoaaaGreatDoor
namespace Go.Proofs.YtmhfhmhjaecoaaaGreatDoor
open Go.RowKit Go.Joins
open Classical
set_option linter.unusedVariables false
set_option linter.unusedSimpArgs false

theorem rule_within (n a b : Int) (w : World) :
    Calls Tryz.prog 85 #[.int .i64 n, .int .i64 a, .int .i64 b] w fun e w' => e = .returned (.bool (withinB n a b)) ∧ w = w' := by
  by_cases h1 : a ≤ n <;> by_cases h2 : n ≤ b <;>
  · go_enter Tryz.func85, Tryz.ntmps85
    go_wp2
    go_ret
    exact ⟨ret_bool (by simp [withinB, h1, h2]), rfl⟩

abbrev ruCells (r : Ru) : Array Value := #[.string r.nm, .int .i64 r.yf, .int .i64 r.yt, .int .i64 r.mo, .int .i64 r.dk, .int .i64 r.dw, .int .i64 r.dn, .int .i64 r.tm, .int .i64 r.ck, .int .i64 r.sv, .string r.lt]
abbrev ruV (r : Ru) : Value := .agg (ruCells r)
def RuBx (W : World) (B : Nat) (r : Ru) : Prop := W.heap[B]? = some (.cells (ruCells r) 105 (0, 0))
theorem RuBx.lt {W : World} {B : Nat} {r : Ru} (h : RuBx W B r) : B < W.heap.size := (Array.getElem?_eq_some_iff.mp h).1
theorem RuBx.below {w w' : World} {B : Nat} {r : Ru} (h : RuBx w B r) (hb : Below w.heap.size w w') : RuBx w' B r := (hb.block B h.lt).trans h
theorem RuBx.box (w : World) (r : Ru) : RuBx (w.alloc (.cells (ruCells r) 105)) w.heap.size r := heap_alloc_new w _
theorem RuBx.cells {W : World} {B : Nat} {r : Ru} (h : RuBx W B r) :
    W.cell? ⟨B, 0, none⟩ = some (.string r.nm) ∧ W.cell? ⟨B, 1, none⟩ = some (.int .i64 r.yf) ∧ W.cell? ⟨B, 2, none⟩ = some (.int .i64 r.yt) ∧ W.cell? ⟨B, 3, none⟩ = some (.int .i64 r.mo) ∧ W.cell? ⟨B, 4, none⟩ = some (.int .i64 r.dk) ∧ W.cell? ⟨B, 5, none⟩ = some (.int .i64 r.dw) ∧ W.cell? ⟨B, 6, none⟩ = some (.int .i64 r.dn) ∧ W.cell? ⟨B, 7, none⟩ = some (.int .i64 r.tm) ∧ W.cell? ⟨B, 8, none⟩ = some (.int .i64 r.ck) ∧ W.cell? ⟨B, 9, none⟩ = some (.int .i64 r.sv) ∧ W.cell? ⟨B, 10, none⟩ = some (.string r.lt) :=
  ⟨(cell_of_row W _ 0 _ _ _ h).trans rfl, (cell_of_row W _ 1 _ _ _ h).trans rfl, (cell_of_row W _ 2 _ _ _ h).trans rfl, (cell_of_row W _ 3 _ _ _ h).trans rfl, (cell_of_row W _ 4 _ _ _ h).trans rfl, (cell_of_row W _ 5 _ _ _ h).trans rfl, (cell_of_row W _ 6 _ _ _ h).trans rfl, (cell_of_row W _ 7 _ _ _ h).trans rfl, (cell_of_row W _ 8 _ _ _ h).trans rfl, (cell_of_row W _ 9 _ _ _ h).trans rfl, (cell_of_row W _ 10 _ _ _ h).trans rfl⟩
theorem rule_al (w : World) (o : Obj) : Below w.heap.size w (w.alloc o) := (Below.refl _ _).alloc (Nat.le_refl _) _
/-- day.Check, either way -/
theorem dayCheck_any (k wd n : Int) (w : World) :
    Calls Tryz.prog 86 #[dayV k wd n] w fun e w' => e = .returned (.int .i64 (if dayB k wd n = true then 0 else 1)) ∧ Below w.heap.size w w' := by
  by_cases h : dayB k wd n = true
  · rw [if_pos h]; exact Check_ok k wd n w h
  · rw [if_neg h]; exact Check_no k wd n w (eq_false_of_ne_true h)

def ruB (N L A F T M D G X Y Z : Bool) : Int :=
  if (!N || (!L && !A)) = true then 3 else if (!F || !T || !M) = true then 1 else if D = false then 1 else if (G || !X || !Y || !Z) = true then 1 else 0
theorem ruChk_eq (r : Ru) : ruChk r = ruB (nameB r.nm) (decide (r.lt.toList = [45])) (abbrB r.lt) (withinB r.yf 1900 2100) (withinB r.yt r.yf 2100) (withinB r.mo 1 12) (dayB r.dk r.dw r.dn) (decide (Civ.mlen 1901 r.mo < r.dn)) (withinB r.tm (-604800) 604800) (withinB r.ck 0 2) (withinB r.sv 0 10800) := by
  unfold ruChk ruB withinB
  simp only [Bool.or_eq_true, Bool.and_eq_true, Bool.not_eq_true', decide_eq_true_eq, decide_eq_false_iff_not]
  grind
def ruC (F T M D G X Y Z : Bool) : Int := if (!F || !T || !M) = true then 1 else if D = false then 1 else if (G || !X || !Y || !Z) = true then 1 else 0
theorem ruB_bad (L A F T M D G X Y Z : Bool) (h : (!L && !A) = true) : ruB true L A F T M D G X Y Z = 3 := by
  unfold ruB
  rw [if_pos (by rw [h]; rfl)]
theorem ruB_la (L A F T M D G X Y Z : Bool) (h : (!L && !A) = false) : ruB true L A F T M D G X Y Z = ruC F T M D G X Y Z := by
  unfold ruB
  rw [if_neg (by rw [h]; simp)]
  rfl
theorem ruB_la' (N L A F T M D G X Y Z : Bool) (hN : N = true) (h : (!L && !A) = false) : ruB N L A F T M D G X Y Z = ruC F T M D G X Y Z := by
  subst hN; exact ruB_la _ _ _ _ _ _ _ _ _ _ h
theorem dayErr (D : Bool) : (if D = true then (0 : Int) else 1) = if D = false then 1 else 0 := by cases D <;> rfl

set_option maxRecDepth 100000 in
set_option maxHeartbeats 4000000 in
theorem ruCheck_any (r : Ru) (w : World) (h1 : r.nm.size ≤ maxLen) (h2 : r.lt.size ≤ maxLen) :
    Calls Tryz.prog 43 #[ruV r] w fun e w' => e = .returned (.int .i64 (ruChk r)) ∧ Below w.heap.size w w' := by
  obtain ⟨W0, eW⟩ : ∃ W0, w.alloc (.cells (ruCells r) 105) = W0 := ⟨_, rfl⟩
  have HX : Hid (RuBx W0 w.heap.size r) := by show RuBx _ _ _; rw [← eW]; exact RuBx.box w r
  have HB : Hid (Below w.heap.size w W0) := by show Below _ _ _; rw [← eW]; exact (Below.refl _ _).alloc (Nat.le_refl _) _
  have HEW := Lib.hid eW
  have HQ := Lib.hid (ruChk_eq r)
  obtain ⟨nm, yf, yt, mo, dk, dw, dn, tm, ck, sv, lt⟩ := r
  obtain ⟨x0, x1, x2, x3, x4, x5, x6, x7, x8, x9, x10⟩ := HX.out.cells
  have hl0 := HX.out.lt
  simp only at h1 h2 x0 x1 x2 x3 x4 x5 x6 x7 x8 x9 x10
  clear eW
  go_enter Tryz.func43, Tryz.ntmps43
  go_wp2_with fail
  rw [HEW.out]
  refine (isName_any nm _ h1).mono ?_
  obtain ⟨N, eN⟩ : ∃ N, nameB nm = N := ⟨_, rfl⟩
  rw [eN]
  have HN := Lib.hid eN
  clear eN
  rintro e w1 ⟨rfl, rfl⟩
  cases N with
  | false =>
    go_wp2
    go_ret
    exact ⟨ret_int' (by rw [HQ.out, HN.out]; rfl), HB.out⟩
  | true =>
  have hla : ∃ LA, (!decide (lt.toList = [45]) && !abbrB lt) = LA := ⟨_, rfl⟩
  obtain ⟨LA, eLA⟩ := hla
  have HLA := Lib.hid eLA
  by_cases hL : lt.toList = [45]
  case' pos =>
    have hL2 : (!lt.toList == [45]) = false := by rw [hL]; rfl
    have hf : LA = false := by rw [← eLA]; simp [hL]
    subst hf
    clear eLA
    go_wp2_with fail
  case' neg =>
    have hL2 : (!lt.toList == [45]) = true := by simp [hL]
    go_wp2_with fail
    refine (isAbbr_any lt _ h2).mono ?_
    obtain ⟨A, eA⟩ : ∃ A, abbrB lt = A := ⟨_, rfl⟩
    rw [eA]
    rintro e w1 ⟨rfl, rfl⟩
    cases A
    case false =>
      have hf : LA = true := by rw [← eLA]; simp [hL, eA]
      subst hf
      clear eLA eA
      go_wp2
      go_ret
      exact ⟨ret_int' (by rw [HQ.out, HN.out]; exact (ruB_bad _ _ _ _ _ _ _ _ _ _ HLA.out).symm), HB.out⟩
    have hf : LA = false := by rw [← eLA]; simp [eA]
    subst hf
    clear eLA eA
    go_wp2_with fail
  all_goals
    have HQ2 := Lib.hid (HQ.out.trans (ruB_la' _ _ _ _ _ _ _ _ _ _ _ HN.out HLA.out))
    clear hL hL2 HLA HQ HN
    refine (rule_within yf 1900 2100 _).mono ?_
    obtain ⟨F, eF⟩ : ∃ F, withinB yf 1900 2100 = F := ⟨_, rfl⟩
    rw [eF]
    have HF := Lib.hid eF
    clear eF
    rintro e w1 ⟨rfl, rfl⟩
    cases F with
    | false =>
      go_wp2
      go_ret
      exact ⟨ret_int' (by rw [HQ2.out, HF.out]; rfl), HB.out⟩
    | true =>
    go_wp2_with fail
    refine (rule_within yt yf 2100 _).mono ?_
    obtain ⟨T, eT⟩ : ∃ T, withinB yt yf 2100 = T := ⟨_, rfl⟩
    rw [eT]
    have HT := Lib.hid eT
    clear eT
    rintro e w1 ⟨rfl, rfl⟩
    cases T with
    | false =>
      go_wp2
      go_ret
      exact ⟨ret_int' (by rw [HQ2.out, HF.out, HT.out]; rfl), HB.out⟩
    | true =>
    go_wp2_with fail
    refine (rule_within mo 1 12 _).mono ?_
    obtain ⟨M, eM⟩ : ∃ M, withinB mo 1 12 = M := ⟨_, rfl⟩
    rw [eM]
    have HM := Lib.hid eM
    clear eM
    rintro e w1 ⟨rfl, rfl⟩
    cases M with
    | false =>
      go_wp2
      go_ret
      exact ⟨ret_int' (by rw [HQ2.out, HF.out, HT.out, HM.out]; rfl), HB.out⟩
    | true =>
    go_wp2_with fail
    have hm := withinB_iff.1 HM.out
    refine (dayCheck_any dk dw dn _).mono ?_
    obtain ⟨D, eD⟩ : ∃ D, dayB dk dw dn = D := ⟨_, rfl⟩
    rw [eD]
    have HD := Lib.hid eD
    clear eD
    rintro e w2 ⟨rfl, hb2⟩
    have HX1 := Lib.hid (HX.out.below (hb2.mono (Nat.le_refl _)))
    have HB1 := Lib.hid (HB.out.trans (hb2.mono HB.out.size))
    clear hb2 HX HB x0 x1 x2 x3 x4 x5 x6 x7 x8 x9 x10 hl0
    obtain ⟨x0, x1, x2, x3, x4, x5, x6, x7, x8, x9, x10⟩ := HX1.out.cells
    have hl1 := HX1.out.lt
    simp only at x0 x1 x2 x3 x4 x5 x6 x7 x8 x9 x10
    cases D with
    | false =>
      go_wp2
      go_ret
      exact ⟨ret_int' (by rw [HQ2.out, HF.out, HT.out, HM.out, HD.out]; rfl), HB1.out⟩
    | true =>
    go_wp2_with fail
    refine (Length_ok 1901 mo _ (by decide) (by decide) hm.1 hm.2).mono ?_
    obtain ⟨lng, eG⟩ : ∃ lng, Civ.mlen 1901 mo = lng := ⟨_, rfl⟩
    rw [eG]
    rintro e w' ⟨rfl, rfl⟩
    have HG0 := Lib.hid eG
    clear eG
    by_cases hG : lng < dn
    case pos =>
      have HG : Hid (decide (Civ.mlen 1901 mo < dn) = true) := by show _ = _; rw [HG0.out]; exact decide_eq_true hG
      go_wp2
      go_ret
      exact ⟨ret_int' (by rw [HQ2.out, HF.out, HT.out, HM.out, HD.out, HG.out]; rfl), HB1.out⟩
    have HG : Hid (decide (Civ.mlen 1901 mo < dn) = false) := by show _ = _; rw [HG0.out]; exact decide_eq_false hG
    go_wp2_with fail
    refine (rule_within tm (-604800) 604800 _).mono ?_
    obtain ⟨X, eX⟩ : ∃ X, withinB tm (-604800) 604800 = X := ⟨_, rfl⟩
    rw [eX]
    have HX := Lib.hid eX
    clear eX
    rintro e w' ⟨rfl, rfl⟩
    cases X with
    | false =>
      go_wp2
      go_ret
      exact ⟨ret_int' (by rw [HQ2.out, HF.out, HT.out, HM.out, HD.out, HG.out, HX.out]; rfl), HB1.out⟩
    | true =>
    go_wp2_with fail
    refine (rule_within ck 0 2 _).mono ?_
    obtain ⟨Y, eY⟩ : ∃ Y, withinB ck 0 2 = Y := ⟨_, rfl⟩
    rw [eY]
    have HY := Lib.hid eY
    clear eY
    rintro e w' ⟨rfl, rfl⟩
    cases Y with
    | false =>
      go_wp2
      go_ret
      exact ⟨ret_int' (by rw [HQ2.out, HF.out, HT.out, HM.out, HD.out, HG.out, HX.out, HY.out]; rfl), HB1.out⟩
    | true =>
    go_wp2_with fail
    refine (rule_within sv 0 10800 _).mono ?_
    obtain ⟨Z, eZ⟩ : ∃ Z, withinB sv 0 10800 = Z := ⟨_, rfl⟩
    rw [eZ]
    have HZ := Lib.hid eZ
    clear eZ
    rintro e w' ⟨rfl, rfl⟩
    cases Z with
    | false =>
      go_wp2
      go_ret
      exact ⟨ret_int' (by rw [HQ2.out, HF.out, HT.out, HM.out, HD.out, HG.out, HX.out, HY.out, HZ.out]; rfl), HB1.out⟩
    | true =>
    go_wp2
    go_ret
    exact ⟨ret_int' (by rw [HQ2.out, HF.out, HT.out, HM.out, HD.out, HG.out, HX.out, HY.out, HZ.out]; rfl), HB1.out⟩

end Go.Proofs.YtmhfhmhjaecoaaaGreatDoor
namespace Go.Proofs.YtmhfhmhjaecoaaaGreatDoor
open Go
set_option linter.unusedVariables false

def isDg (c : UInt8) : Prop := 48 ≤ c.toNat ∧ c.toNat ≤ 57
theorem dg_of {k : Nat} (h : k < 10) : isDg (UInt8.ofNat (48 + k)) := by
  unfold isDg
  simp only [UInt8.toNat_ofNat']
  omega
theorem dec_dg (u : Nat) : ∀ c ∈ Lib.decDigits u, isDg c := by
  induction u using Nat.strongRecOn with
  | _ u ih =>
    intro c hc
    rw [Lib.decDigits] at hc
    split at hc
    · next h =>
      simp only [List.mem_singleton] at hc
      subst hc
      exact dg_of h
    · next h =>
      rcases List.mem_append.1 hc with hc | hc
      · exact ih (u / 10) (by omega) c hc
      · simp only [List.mem_singleton] at hc
        subst hc
        exact dg_of (by omega)
theorem dec_ne (u : Nat) : Lib.decDigits u ≠ [] := by
  intro h
  have := Lib.decDigits_length u
  rw [h] at this
  have := Lib.nDigits_pos u
  simp at *
  omega
/-- what digits say -/
def numV (l : List UInt8) : Nat := l.foldl (fun a c => 10 * a + (c.toNat - 48)) 0
theorem numV_snoc (l : List UInt8) (c : UInt8) : numV (l ++ [c]) = 10 * numV l + (c.toNat - 48) := by simp [numV]
theorem numV_dec (u : Nat) : numV (Lib.decDigits u) = u := by
  induction u using Nat.strongRecOn with
  | _ u ih =>
    rw [Lib.decDigits]
    split
    · next h =>
      simp only [numV, List.foldl_cons, List.foldl_nil, UInt8.toNat_ofNat']
      omega
    · next h =>
      rw [numV_snoc, ih (u / 10) (by omega)]
      simp only [UInt8.toNat_ofNat']
      omega
theorem dec_inj {u v : Nat} (h : Lib.decDigits u = Lib.decDigits v) : u = v := by rw [← numV_dec u, ← numV_dec v, h]
theorem itoa_nn {n : Int} (h : 0 ≤ n) : Lib.itoa n = Lib.decDigits n.toNat := by unfold Lib.itoa; rw [if_neg (by omega)]
theorem itoa_inj {a b : Int} (h0 : 0 ≤ a) (h1 : 0 ≤ b) (h : Lib.itoa a = Lib.itoa b) : a = b := by
  rw [itoa_nn h0, itoa_nn h1] at h
  have := dec_inj h
  omega
theorem itoa_dg {n : Int} (h : 0 ≤ n) : ∀ c ∈ Lib.itoa n, isDg c := by rw [itoa_nn h]; exact dec_dg _
theorem itoa_ne {n : Int} (h : 0 ≤ n) : Lib.itoa n ≠ [] := by rw [itoa_nn h]; exact dec_ne _
theorem T2_dg {n : Int} (h0 : 0 ≤ n) (h1 : n < 100) : ∀ c ∈ T2 n, isDg c := by
  intro c hc
  simp only [T2, List.mem_cons, List.not_mem_nil, or_false] at hc
  rcases hc with rfl | rfl
  · exact dg_of (by omega)
  · exact dg_of (by omega)

/-- the first place of a letter that stands behind a text without it -/
theorem index_sep (l r : List UInt8) (s : UInt8) (h : ∀ c ∈ l, c ≠ s) : Lib.index (l ++ s :: r) [s] = l.length := by
  refine Lib.index_first (by simp) ?_ ?_
  · unfold Lib.occAt
    rw [List.drop_append_of_le_length (Nat.le_refl _), List.drop_length]
    simp
  · intro j hj
    unfold Lib.occAt
    have hj' : j < (l ++ s :: r).length := by simp; omega
    rw [List.drop_eq_getElem_cons hj']
    have hne : (l ++ s :: r)[j] ≠ s := by
      rw [List.getElem_append_left hj]
      exact h _ (List.getElem_mem _)
    simp only [List.isPrefixOf_cons_cons, Bool.and_eq_false_iff]
    left
    simpa using fun e => hne e.symm
theorem cut_sep (l r : List UInt8) (s : UInt8) (h : ∀ c ∈ l, c ≠ s) : Lib.cut (l ++ s :: r) [s] = (l, r, true) := by
  unfold Lib.cut
  rw [index_sep l r s h, if_pos (by omega)]
  simp
theorem dg_ne {c : UInt8} (h : isDg c) (s : UInt8) (hs : s.toNat < 48 ∨ 57 < s.toNat) : c ≠ s := by
  rintro rfl
  unfold isDg at h
  omega

/-! ### spans -/
/-- behind the hours -/
def spanR (n : Int) : List UInt8 := T2 (n / 60 % 60) ++ (if n % 60 = 0 then [] else [58] ++ T2 (n % 60))
theorem spanP_eq (n : Int) : spanP n = Lib.itoa (n / 3600) ++ 58 :: spanR n := rfl
theorem spanR_hour (n : Int) : spanR (n + 3600) = spanR n := by
  unfold spanR
  rw [show (n + 3600) / 60 % 60 = n / 60 % 60 by omega, show (n + 3600) % 60 = n % 60 by omega]
theorem cut_span {n : Int} (h : 0 ≤ n) : Lib.cut (spanP n) [58] = (Lib.itoa (n / 3600), spanR n, true) := by
  rw [spanP_eq]
  exact cut_sep _ _ _ fun c hc => dg_ne (itoa_dg (by omega) c hc) 58 (by decide)
theorem span_hour_ne {n : Int} (h : 0 ≤ n) : spanP n ≠ spanP (n + 3600) := by
  intro e
  have := congrArg (fun l => (Lib.cut l [58]).1) e
  simp only [cut_span h, cut_span (show 0 ≤ n + 3600 by omega)] at this
  have := itoa_inj (by omega) (by omega) this
  omega
theorem span_plus {n : Int} (h : 0 ≤ n) : Lib.hasPrefix (spanP n) [45] = false := by
  rw [spanP_eq]
  obtain ⟨c, r, e⟩ : ∃ c r, Lib.itoa (n / 3600) = c :: r := List.exists_cons_of_ne_nil (itoa_ne (by omega))
  have hc := dg_ne (itoa_dg (show 0 ≤ n / 3600 by omega) c (by rw [e]; simp)) 45 (by decide)
  rw [e]
  simp only [Lib.hasPrefix, List.cons_append, List.isPrefixOf_cons_cons, Bool.and_eq_false_iff]
  left
  simpa using fun e => hc e.symm
end Go.Proofs.YtmhfhmhjaecoaaaGreatDoor
namespace Go.Proofs.YtmhfhmhjaecoaaaGreatDoor
open Go
set_option linter.unusedVariables false

/-! ### Atoi -/
theorem fold_ge (l : List UInt8) : ∀ acc : Nat, acc ≤ l.foldl (fun a c => 10 * a + (c.toNat - 48)) acc := by
  induction l with
  | nil => intro acc; exact Nat.le_refl _
  | cons c r ih =>
    intro acc
    simp only [List.foldl_cons]
    have := ih (10 * acc + (c.toNat - 48))
    omega
theorem parseU (l : List UInt8) (hd : ∀ c ∈ l, isDg c) : ∀ acc : Nat, l.foldl (fun a c => 10 * a + (c.toNat - 48)) acc < 1844674407370955162 →
    Lib.parseUint10 acc l = .ok (l.foldl (fun a c => 10 * a + (c.toNat - 48)) acc) := by
  induction l with
  | nil => intro acc _; rfl
  | cons c r ih =>
    intro acc h
    simp only [List.foldl_cons] at h ⊢
    have hc := hd c (by simp)
    have hge := fold_ge r (10 * acc + (c.toNat - 48))
    unfold isDg at hc
    rw [Lib.parseUint10, if_pos hc, if_neg (by omega), if_neg (by omega), show acc * 10 + (c.toNat - 48) = 10 * acc + (c.toNat - 48) by omega]
    exact ih (fun x hx => hd x (by simp [hx])) _ h
/-- the number of strconv.Atoi, whatever the text -/
def atoiV (l : List UInt8) : Int :=
  match Lib.atoiAll l with
  | .ok v => v
  | .range => Lib.atoiSat l
  | _ => 0
theorem atoi_dg {l : List UInt8} (hn : l ≠ []) (hd : ∀ c ∈ l, isDg c) (h : numV l < 1844674407370955162) : Lib.atoiAll l = .ok (numV l : Int) := by
  match l, hn with
  | c :: r, _ =>
    have hc := hd c (by simp)
    unfold isDg at hc
    rw [Lib.atoiAll_plain c r (by omega) (by omega), Lib.parseMag, if_neg (by simp), parseU _ hd 0 h]
    have : numV (c :: r) < 1844674407370955162 := h
    unfold Lib.signless
    exact if_neg (by unfold numV at this; omega)
theorem atoiV_dg {l : List UInt8} (hn : l ≠ []) (hd : ∀ c ∈ l, isDg c) (h : numV l < 1844674407370955162) : atoiV l = numV l := by
  unfold atoiV
  rw [atoi_dg hn hd h]
theorem atoiV_itoa {n : Int} (h0 : 0 ≤ n) (h1 : n < 1844674407370955162) : atoiV (Lib.itoa n) = n := by
  have e : numV (Lib.itoa n) = n.toNat := by rw [itoa_nn h0, numV_dec]
  rw [atoiV_dg (itoa_ne h0) (itoa_dg h0) (by omega), e]
  omega
theorem numV_T2 {n : Int} (h0 : 0 ≤ n) (h1 : n < 100) : numV (T2 n) = n.toNat := by
  simp only [numV, T2, List.foldl_cons, List.foldl_nil, UInt8.toNat_ofNat']
  omega
theorem atoiV_T2 {n : Int} (h0 : 0 ≤ n) (h1 : n < 100) : atoiV (T2 n) = n := by
  rw [atoiV_dg (by simp [T2]) (T2_dg h0 h1) (by rw [numV_T2 h0 h1]; omega), numV_T2 h0 h1]
  omega
theorem atoiV_bd (l : List UInt8) : -9223372036854775808 ≤ atoiV l ∧ atoiV l ≤ 9223372036854775807 := by
  unfold atoiV
  split
  · next v h => exact Lib.atoiAll_bounds h
  · unfold Lib.atoiSat; split <;> omega
  · omega

/-! ### FieldsFunc on groups of digits -/
/-- what is no digit -/
def sepP (x : Nat) : Bool := decide (x < 48) || decide (57 < x)
def joinG : List (List UInt8 × UInt8) → List UInt8 → List UInt8
  | [], l => l
  | (g, c) :: r, l => g ++ c :: joinG r l
def spG (pos : Nat) : List (List UInt8 × UInt8) → List UInt8 → List (Nat × Nat)
  | [], l => [(pos, pos + l.length)]
  | (g, c) :: r, l => (pos, pos + g.length) :: spG (pos + g.length + 1) r l

theorem txt_get (l : List UInt8) (i : Nat) (h : i < (txt l).size) : (txt l)[i]'h = l[i]'(by rw [txt_size] at h; exact h) := rfl
theorem dec_txt (pre post : List UInt8) (c : UInt8) (h : c.toNat < 128) : Utf8.decode (txt (pre ++ c :: post)) pre.length = (c.toNat, 1) := by
  have hl : pre.length < (txt (pre ++ c :: post)).size := by rw [txt_size]; simp
  have e : (txt (pre ++ c :: post))[pre.length]'hl = c := by
    rw [txt_get]
    simp
  rw [decode_ascii _ _ hl (by rw [e]; exact h), e]
theorem sepP_dg {c : UInt8} (h : isDg c) : sepP c.toNat = false := by
  unfold isDg at h
  unfold sepP
  simp; omega
theorem dg_lt {c : UInt8} (h : isDg c) : c.toNat < 128 := by unfold isDg at h; omega

/-- digits behind a digit -/
theorem run_some (g : List UInt8) : ∀ (pre post : List UInt8) (f a : Nat) (acc : List (Nat × Nat)), (∀ c ∈ g, isDg c) →
    Lib.spansFromP sepP (txt (pre ++ (g ++ post))) (f + g.length) pre.length (some a) acc = Lib.spansFromP sepP (txt (pre ++ (g ++ post))) f (pre.length + g.length) (some a) acc := by
  induction g with
  | nil => intro pre post f a acc _; rfl
  | cons c r ih =>
    intro pre post f a acc hd
    have hc := hd c (by simp)
    have hlt : pre.length < (txt (pre ++ (c :: r ++ post))).size := by rw [txt_size]; simp
    have e := dec_txt pre (r ++ post) c (dg_lt hc)
    show Lib.spansFromP sepP _ ((f + r.length) + 1) _ _ _ = _
    rw [Lib.spansFromP, if_pos hlt]
    rw [show pre ++ (c :: r ++ post) = pre ++ c :: (r ++ post) by simp, e]
    simp only [sepP_dg hc]
    have := ih (pre ++ [c]) post f a acc (fun x hx => hd x (by simp [hx]))
    simp only [List.append_assoc, List.cons_append, List.nil_append, List.length_append, List.length_cons, List.length_nil] at this ⊢
    rw [if_neg (by simp), this]
    congr 1
    omega
/-- a group of digits at its first place -/
theorem run_none (g : List UInt8) (hg : g ≠ []) (pre post : List UInt8) (f : Nat) (acc : List (Nat × Nat)) (hd : ∀ c ∈ g, isDg c) :
    Lib.spansFromP sepP (txt (pre ++ (g ++ post))) (f + g.length) pre.length none acc = Lib.spansFromP sepP (txt (pre ++ (g ++ post))) f (pre.length + g.length) (some pre.length) acc := by
  match g, hg with
  | c :: r, _ =>
    have hc := hd c (by simp)
    have hlt : pre.length < (txt (pre ++ (c :: r ++ post))).size := by rw [txt_size]; simp
    have e := dec_txt pre (r ++ post) c (dg_lt hc)
    show Lib.spansFromP sepP _ ((f + r.length) + 1) _ _ _ = _
    rw [Lib.spansFromP, if_pos hlt]
    rw [show pre ++ (c :: r ++ post) = pre ++ c :: (r ++ post) by simp, e]
    simp only [sepP_dg hc]
    have := run_some r (pre ++ [c]) post f pre.length acc (fun x hx => hd x (by simp [hx]))
    simp only [List.append_assoc, List.cons_append, List.nil_append, List.length_append, List.length_cons, List.length_nil] at this ⊢
    rw [if_neg (by simp), this]
    congr 1
    omega
theorem run_sep (c : UInt8) (hc : c.toNat < 128) (hs : sepP c.toNat = true) (pre post : List UInt8) (f a : Nat) (acc : List (Nat × Nat)) :
    Lib.spansFromP sepP (txt (pre ++ c :: post)) (f + 1) pre.length (some a) acc = Lib.spansFromP sepP (txt (pre ++ c :: post)) f (pre.length + 1) none (acc ++ [(a, pre.length)]) := by
  have hlt : pre.length < (txt (pre ++ c :: post)).size := by rw [txt_size]; simp
  rw [Lib.spansFromP, if_pos hlt, dec_txt pre post c hc]
  simp only [hs, if_true]

def okG (r : List (List UInt8 × UInt8)) : Prop := ∀ x ∈ r, x.1 ≠ [] ∧ (∀ c ∈ x.1, isDg c) ∧ x.2.toNat < 128 ∧ sepP x.2.toNat = true
theorem groups (last : List UInt8) (hl : last ≠ []) (hd : ∀ c ∈ last, isDg c) : ∀ (r : List (List UInt8 × UInt8)) (pre : List UInt8) (acc : List (Nat × Nat)), okG r →
    Lib.closeSpans (txt (pre ++ joinG r last)) (Lib.spansFromP sepP (txt (pre ++ joinG r last)) (joinG r last).length pre.length none acc) = acc ++ spG pre.length r last := by
  intro r
  induction r with
  | nil =>
    intro pre acc _
    have := run_none last hl pre [] 0 acc hd
    simp only [List.append_nil, Nat.zero_add] at this
    simp only [joinG, spG]
    rw [this]
    simp [Lib.spansFromP, Lib.closeSpans, txt_size]
  | cons x r ih =>
    intro pre acc hok
    obtain ⟨g, c⟩ := x
    obtain ⟨h1, h2, h3, h4⟩ := hok (g, c) (by simp)
    simp only [joinG, spG]
    have e1 := run_none g h1 pre (c :: joinG r last) ((joinG r last).length + 1) acc h2
    rw [show (g ++ c :: joinG r last).length = (joinG r last).length + 1 + g.length by simp; omega, e1]
    have e2 := run_sep c h3 h4 (pre ++ g) (joinG r last) (joinG r last).length pre.length acc
    simp only [List.append_assoc, List.length_append] at e2
    rw [e2]
    have e3 := ih (pre ++ g ++ [c]) (acc ++ [(pre.length, pre.length + g.length)]) (fun y hy => hok y (by simp [hy]))
    simp only [List.append_assoc, List.length_append, List.cons_append, List.nil_append, List.length_cons, List.length_nil] at e3
    rw [show pre.length + (g.length + (0 + 1)) = pre.length + g.length + 1 by omega] at e3
    rw [e3]
theorem ext_mid (pre g post : List UInt8) : (txt (pre ++ (g ++ post))).extract pre.length (pre.length + g.length) = txt g := by
  apply ByteArray.ext
  apply Array.ext'
  rw [Lib.extract_data, txt_data, txt_data]
  simp
theorem groups_ext (last : List UInt8) : ∀ (r : List (List UInt8 × UInt8)) (pre : List UInt8),
    (spG pre.length r last).map (fun x => (txt (pre ++ joinG r last)).extract x.1 x.2) = r.map (fun x => txt x.1) ++ [txt last] := by
  intro r
  induction r with
  | nil =>
    intro pre
    have := ext_mid pre last []
    simp only [List.append_nil] at this
    simp [spG, joinG, this]
  | cons x r ih =>
    intro pre
    obtain ⟨g, c⟩ := x
    simp only [spG, joinG, List.map_cons, List.cons_append, List.cons.injEq]
    refine ⟨ext_mid pre g (c :: joinG r last), ?_⟩
    have := ih (pre ++ g ++ [c])
    simp only [List.append_assoc, List.length_append, List.cons_append, List.nil_append, List.length_cons, List.length_nil] at this
    rw [show pre.length + (g.length + (0 + 1)) = pre.length + g.length + 1 by omega] at this
    exact this
/-- a text of groups of digits -/
theorem fields_groups (r : List (List UInt8 × UInt8)) (last : List UInt8) (hok : okG r) (hl : last ≠ []) (hd : ∀ c ∈ last, isDg c) :
    Lib.goFieldsP sepP (txt (joinG r last)) = r.map (fun x => txt x.1) ++ [txt last] := by
  unfold Lib.goFieldsP Lib.spansOfP
  have h1 := groups last hl hd r [] [] hok
  have h2 := groups_ext last r []
  simp only [List.nil_append, List.length_nil] at h1 h2
  rw [txt_size, h1, h2]

/-- the pieces of a time's text -/
theorem fields_stamp (t : Int) (h1 : -135140 ≤ t / 86400) (h2 : t / 86400 ≤ 157053) :
    Lib.goFieldsP sepP (txt (stampT t)) = [txt (Lib.itoa (Civ.yy (t / 86400))), txt (T2 (Civ.mm (t / 86400))), txt (T2 (Civ.dd (t / 86400))), txt (T2 (t % 86400 / 3600)), txt (T2 (t % 86400 / 60 % 60)), txt (T2 (t % 86400 % 60))] := by
  obtain ⟨hv, -⟩ := Civ.date_valid (t / 86400) h1 h2
  have hb := Civ.mlen_bd (Civ.yy (t / 86400)) (Civ.mm (t / 86400)) hv.2.2.1 hv.2.2.2.1
  obtain ⟨v1, v2, v3, v4, v5, v6⟩ := hv
  have key := fields_groups [(Lib.itoa (Civ.yy (t / 86400)), 45), (T2 (Civ.mm (t / 86400)), 45), (T2 (Civ.dd (t / 86400)), 84), (T2 (t % 86400 / 3600), 58), (T2 (t % 86400 / 60 % 60), 58)] (T2 (t % 86400 % 60))
    (by
      have d2 : ∀ n : Int, 0 ≤ n → n < 100 → T2 n ≠ [] ∧ ∀ c ∈ T2 n, isDg c := fun n a b => ⟨by simp [T2], T2_dg a b⟩
      intro x hx
      simp only [List.mem_cons, List.not_mem_nil, or_false] at hx
      rcases hx with rfl | rfl | rfl | rfl | rfl
      · exact ⟨itoa_ne (by omega), itoa_dg (by omega), by show (45 : UInt8).toNat < 128; decide, by show sepP (45 : UInt8).toNat = true; decide⟩
      · exact ⟨(d2 _ (by omega) (by omega)).1, (d2 _ (by omega) (by omega)).2, by show (45 : UInt8).toNat < 128; decide, by show sepP (45 : UInt8).toNat = true; decide⟩
      · exact ⟨(d2 _ (by omega) (by omega)).1, (d2 _ (by omega) (by omega)).2, by show (84 : UInt8).toNat < 128; decide, by show sepP (84 : UInt8).toNat = true; decide⟩
      · exact ⟨(d2 _ (by omega) (by omega)).1, (d2 _ (by omega) (by omega)).2, by show (58 : UInt8).toNat < 128; decide, by show sepP (58 : UInt8).toNat = true; decide⟩
      · exact ⟨(d2 _ (by omega) (by omega)).1, (d2 _ (by omega) (by omega)).2, by show (58 : UInt8).toNat < 128; decide, by show sepP (58 : UInt8).toNat = true; decide⟩)
    (by simp [T2]) (T2_dg (by omega) (by omega))
  have e : joinG [(Lib.itoa (Civ.yy (t / 86400)), 45), (T2 (Civ.mm (t / 86400)), 45), (T2 (Civ.dd (t / 86400)), 84), (T2 (t % 86400 / 3600), 58), (T2 (t % 86400 / 60 % 60), 58)] (T2 (t % 86400 % 60)) = stampT t := by
    unfold stampT
    simp [joinG]
  rw [e] at key
  rw [key]
  rfl
end Go.Proofs.YtmhfhmhjaecoaaaGreatDoor
namespace Go.Proofs.YtmhfhmhjaecoaaaGreatDoor
open Go.RowKit Go.Joins
set_option linter.unusedVariables false

/-- a variable of an interface type holds something -/
def IfaceV (w : World) (g : Nat) : Prop := ∃ ev, w.cell? ⟨g, 0, none⟩ = some ev ∧ (ev = .nilIface ∨ ∃ te pe, ev = .iface te pe)
theorem IfaceV.below {w w' : World} {g : Nat} (h : IfaceV w g) (hb : Below w.heap.size w w') : IfaceV w' g := by
  obtain ⟨ev, h1, h2⟩ := h
  exact ⟨ev, (hb.cell (show (⟨g, 0, none⟩ : Addr).block < w.heap.size from Lib.lt_of_cell h1)).trans h1, h2⟩
/-- strconv's two errors lie there -/
def NumErrs (w : World) : Prop := IfaceV w 6 ∧ IfaceV w 7
theorem NumErrs.below {w w' : World} (h : NumErrs w) (hb : Below w.heap.size w w') : NumErrs w' := ⟨h.1.below hb, h.2.below hb⟩

section
variable {P : Program} {ρ : Go.Shelf.Ren}
theorem atoi_bad1 (L : LaysC.n172 P ρ) (s : ByteArray) (hlim : s.size ≤ 281474976710656) (ev : Value) (w : World) (hv : w.cell? ⟨(ρ.g 15), 0, none⟩ = some ev) (hev : ev = .nilIface ∨ ∃ te pe, ev = .iface te pe)
    (h1 : ∀ v, Lib.atoiAll s.data.toList ≠ .ok v) (h2 : Lib.atoiAll s.data.toList ≠ .range) :
    Calls P (ρ.f 172) #[.string s] w fun e w' => ∃ t p, e = .returned (.tuple #[.int .i64 0, .iface t p]) ∧ Below w.heap.size w w' := by
  rcases h : Lib.atoiAll s.data.toList with v | _ | _
  · exact absurd h (h1 v)
  · exact (Any.strconv_Atoi_syntax L s hlim h ev w hv hev).mono fun e w' ⟨N, he, _, _, hb⟩ => ⟨_, _, he, hb⟩
  · exact absurd h h2
theorem atoi_bad2 (L : LaysC.n172 P ρ) (s : ByteArray) (hlim : s.size ≤ 281474976710656) (ev : Value) (w : World) (hv : w.cell? ⟨(ρ.g 16), 0, none⟩ = some ev) (hev : ev = .nilIface ∨ ∃ te pe, ev = .iface te pe)
    (h : Lib.atoiAll s.data.toList = .range) :
    Calls P (ρ.f 172) #[.string s] w fun e w' => ∃ t p, e = .returned (.tuple #[.int .i64 (Lib.atoiSat s.data.toList), .iface t p]) ∧ Below w.heap.size w w' :=
  (Any.strconv_Atoi_range L s hlim h ev w hv hev).mono fun e w' ⟨N, he, _, _, hb⟩ => ⟨_, _, he, hb⟩
end
theorem Atoi_bad1 (s : ByteArray) (hlim : s.size ≤ 281474976710656) (ev : Value) (w : World) (hv : w.cell? ⟨6, 0, none⟩ = some ev) (hev : ev = .nilIface ∨ ∃ te pe, ev = .iface te pe)
    (h1 : ∀ v, Lib.atoiAll s.data.toList ≠ .ok v) (h2 : Lib.atoiAll s.data.toList ≠ .range) :
    Calls Tryz.prog 145 #[.string s] w fun e w' => ∃ t p, e = .returned (.tuple #[.int .i64 0, .iface t p]) ∧ Below w.heap.size w w' :=
  atoi_bad1 Tryz.laysC172 s hlim ev w hv hev h1 h2
theorem Atoi_bad2 (s : ByteArray) (hlim : s.size ≤ 281474976710656) (ev : Value) (w : World) (hv : w.cell? ⟨7, 0, none⟩ = some ev) (hev : ev = .nilIface ∨ ∃ te pe, ev = .iface te pe)
    (h : Lib.atoiAll s.data.toList = .range) :
    Calls Tryz.prog 145 #[.string s] w fun e w' => ∃ t p, e = .returned (.tuple #[.int .i64 (Lib.atoiSat s.data.toList), .iface t p]) ∧ Below w.heap.size w w' :=
  atoi_bad2 Tryz.laysC172 s hlim ev w hv hev h

theorem Atoi_any (l : List UInt8) (w : World) (hl : l.length ≤ 281474976710656) (hv : NumErrs w) :
    Calls Tryz.prog 145 #[.string (txt l)] w fun e w' => ∃ ev, e = .returned (.tuple #[.int .i64 (atoiV l), ev]) ∧ Below w.heap.size w w' ∧
      ((∃ v, Lib.atoiAll l = .ok v ∧ ev = .nilIface) ∨ ((∀ v, Lib.atoiAll l ≠ .ok v) ∧ ∃ t p, ev = .iface t p)) := by
  obtain ⟨⟨v1, c1, k1⟩, ⟨v2, c2, k2⟩⟩ := hv
  have hs : (txt l).size = l.length := txt_size l
  unfold atoiV
  rcases h : Lib.atoiAll l with v | _ | _
  · refine (Tryz.strconv_Atoi_ok (txt l) (by omega) v (by rw [txt_data]; exact h) w).mono ?_
    rintro e w' ⟨rfl, hw⟩
    refine ⟨_, rfl, ?_, .inl ⟨v, rfl, rfl⟩⟩
    rcases hw with rfl | ⟨t, rfl⟩
    · exact Below.refl _ _
    · exact below_bytesWorld _ _ _ _ (Nat.le_refl _)
  · refine (Atoi_bad1 (txt l) (by omega) v1 w c1 k1 (by rw [txt_data, h]; intro v hv; cases hv) (by rw [txt_data, h]; intro hv; cases hv)).mono ?_
    rintro e w' ⟨t, p, rfl, hb⟩
    exact ⟨_, rfl, hb, .inr ⟨(fun v hv => by cases hv), _, _, rfl⟩⟩
  · refine (Atoi_bad2 (txt l) (by omega) v2 w c2 k2 (by rw [txt_data]; exact h)).mono ?_
    rintro e w' ⟨t, p, rfl, hb⟩
    rw [txt_data]
    exact ⟨_, rfl, hb, .inr ⟨(fun v hv => by cases hv), _, _, rfl⟩⟩
end Go.Proofs.YtmhfhmhjaecoaaaGreatDoor
