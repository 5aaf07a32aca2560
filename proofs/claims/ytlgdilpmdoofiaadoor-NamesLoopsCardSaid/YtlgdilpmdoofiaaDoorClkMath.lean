/- Times and spans as texts, in plain Lean. -/
import Derived.Test.YtlgdilpmdoofiaaDoorCivMath
import Derived.Lib.ItoaNum
namespace Go.Proofs.YtlgdilpmdoofiaaDoor
open Go
set_option linter.unusedVariables false

/-- two digits -/
def T2 (n : Int) : List UInt8 := [UInt8.ofNat (48 + (n / 10).toNat), UInt8.ofNat (48 + (n % 10).toNat)]
theorem T2_length (n : Int) : (T2 n).length = 2 := rfl
/-- a text as a string -/
def txt (l : List UInt8) : ByteArray := ⟨l.toArray⟩
theorem txt_append (a b : List UInt8) : txt a ++ txt b = txt (a ++ b) := by
  apply ByteArray.ext
  simp [txt]
theorem txt_data (l : List UInt8) : (txt l).data.toList = l := by simp [txt]
theorem txt_size (l : List UInt8) : (txt l).size = l.length := by simp [txt, ByteArray.size]
theorem txt_inj {a b : List UInt8} (h : txt a = txt b) : a = b := by
  have := congrArg (fun s : ByteArray => s.data.toList) h
  simpa [txt] using this

/-- a span that is not below 0 -/
def spanP (n : Int) : List UInt8 := Lib.itoa (n / 3600) ++ ([58] ++ (T2 (n / 60 % 60) ++ (if n % 60 = 0 then [] else [58] ++ T2 (n % 60))))
def spanT (n : Int) : List UInt8 := if n < 0 then 45 :: spanP (-n) else spanP n

def stampT (t : Int) : List UInt8 :=
  Lib.itoa (Civ.yy (t / 86400)) ++ ([45] ++ (T2 (Civ.mm (t / 86400)) ++ ([45] ++ (T2 (Civ.dd (t / 86400)) ++ ([84] ++ (T2 (t % 86400 / 3600) ++ ([58] ++ (T2 (t % 86400 / 60 % 60) ++ ([58] ++ T2 (t % 86400 % 60))))))))))

theorem itoa_small {n : Int} (h0 : 0 ≤ n) (h1 : n < 10) : Lib.itoa n = [UInt8.ofNat (48 + n.toNat)] := by
  unfold Lib.itoa
  rw [if_neg (by omega), Lib.decDigits_one (by omega)]
theorem dec_four (u : Nat) (h0 : 1000 ≤ u) (h1 : u < 10000) : Lib.decDigits u = [UInt8.ofNat (48 + u / 1000), UInt8.ofNat (48 + u / 100 % 10), UInt8.ofNat (48 + u / 10 % 10), UInt8.ofNat (48 + u % 10)] := by
  rw [Lib.decDigits, dif_neg (by omega), Lib.decDigits, dif_neg (by omega), Lib.decDigits, dif_neg (by omega), Lib.decDigits, dif_pos (by omega)]
  simp only [List.cons_append, List.nil_append]
  rw [show u / 10 / 10 / 10 = u / 1000 by omega, show u / 10 / 10 % 10 = u / 100 % 10 by omega]
theorem itoa_four {n : Int} (h0 : 1000 ≤ n) (h1 : n < 10000) : Lib.itoa n = T2 (n / 100) ++ T2 (n % 100) := by
  unfold Lib.itoa
  rw [if_neg (by omega), dec_four _ (by omega) (by omega)]
  have e1 : n.toNat / 1000 = (n / 100 / 10).toNat := by omega
  have e2 : n.toNat / 100 % 10 = (n / 100 % 10).toNat := by omega
  have e3 : n.toNat / 10 % 10 = (n % 100 / 10).toNat := by omega
  have e4 : n.toNat % 10 = (n % 100 % 10).toNat := by omega
  rw [e1, e2, e3, e4]
  rfl
theorem stamp_length (t : Int) (h1 : -135140 ≤ t / 86400) (h2 : t / 86400 ≤ 157053) : (stampT t).length = 19 := by
  obtain ⟨hv, _⟩ := Civ.date_valid (t / 86400) h1 h2
  obtain ⟨y1, y2, _⟩ := hv
  unfold stampT
  rw [itoa_four (by omega) (by omega)]
  simp [T2_length]

/-! ### the order of texts -/
theorem digit_lt {a b : Nat} (ha : a < 10) (hb : b < 10) : UInt8.ofNat (48 + a) < UInt8.ofNat (48 + b) ↔ a < b := by
  rw [UInt8.lt_iff_toNat_lt]
  simp only [UInt8.toNat_ofNat']
  omega
theorem digit_inj {a b : Nat} (ha : a < 10) (hb : b < 10) (h : UInt8.ofNat (48 + a) = UInt8.ofNat (48 + b)) : a = b := by
  have := congrArg UInt8.toNat h
  simp only [UInt8.toNat_ofNat'] at this
  omega
/-- lists of one size, the first different place tells -/
theorem lex_append {a b c d : List UInt8} (hl : a.length = b.length) : a ++ c < b ++ d ↔ a < b ∨ a = b ∧ c < d := by
  induction a generalizing b with
  | nil =>
    cases b with
    | nil => simp
    | cons y s => simp at hl
  | cons x r ih =>
    cases b with
    | nil => simp at hl
    | cons y s =>
      have := ih (b := s) (by simpa using hl)
      simp only [List.cons_append, List.cons_lt_cons_iff, this, List.cons.injEq]
      constructor
      · rintro (h | ⟨rfl, h | ⟨rfl, h⟩⟩)
        · exact .inl (.inl h)
        · exact .inl (.inr ⟨rfl, h⟩)
        · exact .inr ⟨⟨rfl, rfl⟩, h⟩
      · rintro ((h | ⟨rfl, h⟩) | ⟨⟨rfl, rfl⟩, h⟩)
        · exact .inl h
        · exact .inr ⟨rfl, .inl h⟩
        · exact .inr ⟨rfl, .inr ⟨rfl, h⟩⟩
theorem T2_app (a b : Int) (c d : List UInt8) : T2 a ++ c < T2 b ++ d ↔ T2 a < T2 b ∨ T2 a = T2 b ∧ c < d := lex_append rfl
theorem same_head {a b c : List UInt8} : c ++ a < c ++ b ↔ a < b := by
  rw [lex_append rfl]
  constructor
  · rintro (h | ⟨_, h⟩)
    · exact absurd h (List.lt_irrefl c)
    · exact h
  · exact fun h => .inr ⟨rfl, h⟩
theorem T2_lt {a b : Int} (h0 : 0 ≤ a) (h1 : a < 100) (h2 : 0 ≤ b) (h3 : b < 100) : T2 a < T2 b ↔ a < b := by
  unfold T2
  simp only [List.cons_lt_cons_iff]
  rw [digit_lt (by omega) (by omega), digit_lt (by omega) (by omega)]
  constructor
  · rintro (h | ⟨h, h' | ⟨_, h'⟩⟩)
    · omega
    · have := digit_inj (by omega) (by omega) h; omega
    · exact absurd h' (by simp)
  · intro h
    by_cases e : a / 10 = b / 10
    · exact .inr ⟨by rw [e], .inl (by omega)⟩
    · exact .inl (by omega)
theorem T2_inj {a b : Int} (h0 : 0 ≤ a) (h1 : a < 100) (h2 : 0 ≤ b) (h3 : b < 100) (h : T2 a = T2 b) : a = b := by
  unfold T2 at h
  injection h with h4 h5
  injection h5 with h5 _
  have := digit_inj (by omega) (by omega) h4
  have := digit_inj (by omega) (by omega) h5
  omega
theorem T2_eq {a b : Int} (h0 : 0 ≤ a) (h1 : a < 100) (h2 : 0 ≤ b) (h3 : b < 100) : T2 a = T2 b ↔ a = b := ⟨T2_inj h0 h1 h2 h3, fun h => by rw [h]⟩
theorem Y4_lt {a b : Int} (h0 : 1000 ≤ a) (h1 : a < 10000) (h2 : 1000 ≤ b) (h3 : b < 10000) : Lib.itoa a < Lib.itoa b ↔ a < b := by
  rw [itoa_four h0 h1, itoa_four h2 h3, T2_app, T2_lt (by omega) (by omega) (by omega) (by omega), T2_lt (by omega) (by omega) (by omega) (by omega), T2_eq (by omega) (by omega) (by omega) (by omega)]
  omega
theorem Y4_eq {a b : Int} (h0 : 1000 ≤ a) (h1 : a < 10000) (h2 : 1000 ≤ b) (h3 : b < 10000) : Lib.itoa a = Lib.itoa b ↔ a = b := by
  constructor
  · intro h
    rw [itoa_four h0 h1, itoa_four h2 h3] at h
    have e := List.append_inj h rfl
    have := T2_inj (by omega) (by omega) (by omega) (by omega) e.1
    have := T2_inj (by omega) (by omega) (by omega) (by omega) e.2
    omega
  · intro h; rw [h]
theorem Y4_length {a : Int} (h0 : 1000 ≤ a) (h1 : a < 10000) : (Lib.itoa a).length = 4 := by rw [itoa_four h0 h1]; rfl

/-- a time's date as a text -/
def dateT (n : Int) : List UInt8 := Lib.itoa (Civ.yy n) ++ ([45] ++ (T2 (Civ.mm n) ++ ([45] ++ T2 (Civ.dd n))))
/-- a second of the day as a text -/
def clockT (r : Int) : List UInt8 := [84] ++ (T2 (r / 3600) ++ ([58] ++ (T2 (r / 60 % 60) ++ ([58] ++ T2 (r % 60)))))
theorem stamp_two (t : Int) : stampT t = dateT (t / 86400) ++ clockT (t % 86400) := by simp [stampT, dateT, clockT]
theorem dateT_length (n : Int) (h1 : -135140 ≤ n) (h2 : n ≤ 157053) : (dateT n).length = 10 := by
  obtain ⟨hv, _⟩ := Civ.date_valid n h1 h2
  obtain ⟨y1, y2, _⟩ := hv
  unfold dateT
  rw [List.length_append, Y4_length (by omega) (by omega)]
  rfl
theorem dateT_lt (n m : Int) (h1 : -135140 ≤ n) (h2 : n ≤ 157053) (h3 : -135140 ≤ m) (h4 : m ≤ 157053) : dateT n < dateT m ↔ n < m := by
  obtain ⟨hv, e⟩ := Civ.date_valid n h1 h2
  obtain ⟨hw, e'⟩ := Civ.date_valid m h3 h4
  have key := Civ.days_lt_iff hv hw
  rw [e, e'] at key
  rw [key]
  have b1 := Civ.mlen_bd (Civ.yy n) (Civ.mm n) hv.2.2.1 hv.2.2.2.1
  have b2 := Civ.mlen_bd (Civ.yy m) (Civ.mm m) hw.2.2.1 hw.2.2.2.1
  obtain ⟨v1, v2, v3, v4, v5, v6⟩ := hv
  obtain ⟨u1, u2, u3, u4, u5, u6⟩ := hw
  unfold dateT Civ.less
  rw [lex_append (by rw [Y4_length (by omega) (by omega), Y4_length (by omega) (by omega)]), same_head, T2_app, same_head, Y4_lt (by omega) (by omega) (by omega) (by omega), Y4_eq (by omega) (by omega) (by omega) (by omega),
    T2_lt (by omega) (by omega) (by omega) (by omega), T2_lt (by omega) (by omega) (by omega) (by omega), T2_eq (by omega) (by omega) (by omega) (by omega)]
theorem dateT_eq (n m : Int) (h1 : -135140 ≤ n) (h2 : n ≤ 157053) (h3 : -135140 ≤ m) (h4 : m ≤ 157053) : dateT n = dateT m ↔ n = m := by
  constructor
  · intro h
    rcases Int.lt_trichotomy n m with h' | h' | h'
    · have := (dateT_lt n m h1 h2 h3 h4).2 h'
      rw [h] at this
      exact absurd this (List.lt_irrefl _)
    · exact h'
    · have := (dateT_lt m n h3 h4 h1 h2).2 h'
      rw [h] at this
      exact absurd this (List.lt_irrefl _)
  · intro h; rw [h]
theorem clockT_lt (r s : Int) (h1 : 0 ≤ r) (h2 : r < 86400) (h3 : 0 ≤ s) (h4 : s < 86400) : clockT r < clockT s ↔ r < s := by
  unfold clockT
  rw [same_head, T2_app, same_head, T2_app, same_head, T2_lt (by omega) (by omega) (by omega) (by omega), T2_lt (by omega) (by omega) (by omega) (by omega), T2_lt (by omega) (by omega) (by omega) (by omega),
    T2_eq (by omega) (by omega) (by omega) (by omega), T2_eq (by omega) (by omega) (by omega) (by omega)]
  omega
/-- texts stand as times do -/
theorem stampT_lt (t u : Int) (h1 : -135140 ≤ t / 86400) (h2 : t / 86400 ≤ 157053) (h3 : -135140 ≤ u / 86400) (h4 : u / 86400 ≤ 157053) : stampT t < stampT u ↔ t < u := by
  rw [stamp_two, stamp_two, lex_append (by rw [dateT_length _ h1 h2, dateT_length _ h3 h4]), dateT_lt _ _ h1 h2 h3 h4, dateT_eq _ _ h1 h2 h3 h4, clockT_lt _ _ (by omega) (by omega) (by omega) (by omega)]
  omega
end Go.Proofs.YtlgdilpmdoofiaaDoor
