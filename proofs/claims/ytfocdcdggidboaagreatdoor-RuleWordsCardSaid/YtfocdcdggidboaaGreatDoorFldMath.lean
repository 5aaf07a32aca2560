/- Pieces of a text between letters, and what digits say: plain Lean. -/
import Derived.Test.YtfocdcdggidboaaGreatDoorTxtMath
import Derived.Lib.FieldsP
import Derived.Laws.RangeString
import Derived.Lib.AtoiAllCases
namespace Go.Proofs.YtfocdcdggidboaaGreatDoor
open Go
set_option linter.unusedVariables false

/-! ### Atoi -/
theorem fold_ge (l : List UInt8) : ∀ acc : Nat, acc ≤ l.foldl (fun a c => 10 * a + (c.toNat - 48)) acc := by
  induction l with
  | nil => intro acc; exact Nat.le_refl _
  | cons c r ih =>
    intro acc
    simp only [List.foldl_cons]
    have := ih (10 * acc + (c.toNat - 48))
    omega
theorem parseU (l : List UInt8) (hd : ∀ c ∈ l, isDg c) : ∀ acc : Nat, l.foldl (fun a c => 10 * a + (c.toNat - 48)) acc < 1844674407370955162 →
    Lib.parseUint10 acc l = .ok (l.foldl (fun a c => 10 * a + (c.toNat - 48)) acc) := by
  induction l with
  | nil => intro acc _; rfl
  | cons c r ih =>
    intro acc h
    simp only [List.foldl_cons] at h ⊢
    have hc := hd c (by simp)
    have hge := fold_ge r (10 * acc + (c.toNat - 48))
    unfold isDg at hc
    rw [Lib.parseUint10, if_pos hc, if_neg (by omega), if_neg (by omega), show acc * 10 + (c.toNat - 48) = 10 * acc + (c.toNat - 48) by omega]
    exact ih (fun x hx => hd x (by simp [hx])) _ h
/-- the number of strconv.Atoi, whatever the text -/
def atoiV (l : List UInt8) : Int :=
  match Lib.atoiAll l with
  | .ok v => v
  | .range => Lib.atoiSat l
  | _ => 0
theorem atoi_dg {l : List UInt8} (hn : l ≠ []) (hd : ∀ c ∈ l, isDg c) (h : numV l < 1844674407370955162) : Lib.atoiAll l = .ok (numV l : Int) := by
  match l, hn with
  | c :: r, _ =>
    have hc := hd c (by simp)
    unfold isDg at hc
    rw [Lib.atoiAll_plain c r (by omega) (by omega), Lib.parseMag, if_neg (by simp), parseU _ hd 0 h]
    have : numV (c :: r) < 1844674407370955162 := h
    unfold Lib.signless
    exact if_neg (by unfold numV at this; omega)
theorem atoiV_dg {l : List UInt8} (hn : l ≠ []) (hd : ∀ c ∈ l, isDg c) (h : numV l < 1844674407370955162) : atoiV l = numV l := by
  unfold atoiV
  rw [atoi_dg hn hd h]
theorem atoiV_itoa {n : Int} (h0 : 0 ≤ n) (h1 : n < 1844674407370955162) : atoiV (Lib.itoa n) = n := by
  have e : numV (Lib.itoa n) = n.toNat := by rw [itoa_nn h0, numV_dec]
  rw [atoiV_dg (itoa_ne h0) (itoa_dg h0) (by omega), e]
  omega
theorem numV_T2 {n : Int} (h0 : 0 ≤ n) (h1 : n < 100) : numV (T2 n) = n.toNat := by
  simp only [numV, T2, List.foldl_cons, List.foldl_nil, UInt8.toNat_ofNat']
  omega
theorem atoiV_T2 {n : Int} (h0 : 0 ≤ n) (h1 : n < 100) : atoiV (T2 n) = n := by
  rw [atoiV_dg (by simp [T2]) (T2_dg h0 h1) (by rw [numV_T2 h0 h1]; omega), numV_T2 h0 h1]
  omega
theorem atoiV_bd (l : List UInt8) : -9223372036854775808 ≤ atoiV l ∧ atoiV l ≤ 9223372036854775807 := by
  unfold atoiV
  split
  · next v h => exact Lib.atoiAll_bounds h
  · unfold Lib.atoiSat; split <;> omega
  · omega

/-! ### FieldsFunc on groups of digits -/
/-- what is no digit -/
def sepP (x : Nat) : Bool := decide (x < 48) || decide (57 < x)
def joinG : List (List UInt8 × UInt8) → List UInt8 → List UInt8
  | [], l => l
  | (g, c) :: r, l => g ++ c :: joinG r l
def spG (pos : Nat) : List (List UInt8 × UInt8) → List UInt8 → List (Nat × Nat)
  | [], l => [(pos, pos + l.length)]
  | (g, c) :: r, l => (pos, pos + g.length) :: spG (pos + g.length + 1) r l

theorem txt_get (l : List UInt8) (i : Nat) (h : i < (txt l).size) : (txt l)[i]'h = l[i]'(by rw [txt_size] at h; exact h) := rfl
theorem dec_txt (pre post : List UInt8) (c : UInt8) (h : c.toNat < 128) : Utf8.decode (txt (pre ++ c :: post)) pre.length = (c.toNat, 1) := by
  have hl : pre.length < (txt (pre ++ c :: post)).size := by rw [txt_size]; simp
  have e : (txt (pre ++ c :: post))[pre.length]'hl = c := by
    rw [txt_get]
    simp
  rw [decode_ascii _ _ hl (by rw [e]; exact h), e]
theorem sepP_dg {c : UInt8} (h : isDg c) : sepP c.toNat = false := by
  unfold isDg at h
  unfold sepP
  simp; omega
theorem dg_lt {c : UInt8} (h : isDg c) : c.toNat < 128 := by unfold isDg at h; omega

/-- digits behind a digit -/
theorem run_some (g : List UInt8) : ∀ (pre post : List UInt8) (f a : Nat) (acc : List (Nat × Nat)), (∀ c ∈ g, isDg c) →
    Lib.spansFromP sepP (txt (pre ++ (g ++ post))) (f + g.length) pre.length (some a) acc = Lib.spansFromP sepP (txt (pre ++ (g ++ post))) f (pre.length + g.length) (some a) acc := by
  induction g with
  | nil => intro pre post f a acc _; rfl
  | cons c r ih =>
    intro pre post f a acc hd
    have hc := hd c (by simp)
    have hlt : pre.length < (txt (pre ++ (c :: r ++ post))).size := by rw [txt_size]; simp
    have e := dec_txt pre (r ++ post) c (dg_lt hc)
    show Lib.spansFromP sepP _ ((f + r.length) + 1) _ _ _ = _
    rw [Lib.spansFromP, if_pos hlt]
    rw [show pre ++ (c :: r ++ post) = pre ++ c :: (r ++ post) by simp, e]
    simp only [sepP_dg hc]
    have := ih (pre ++ [c]) post f a acc (fun x hx => hd x (by simp [hx]))
    simp only [List.append_assoc, List.cons_append, List.nil_append, List.length_append, List.length_cons, List.length_nil] at this ⊢
    rw [if_neg (by simp), this]
    congr 1
    omega
/-- a group of digits at its first place -/
theorem run_none (g : List UInt8) (hg : g ≠ []) (pre post : List UInt8) (f : Nat) (acc : List (Nat × Nat)) (hd : ∀ c ∈ g, isDg c) :
    Lib.spansFromP sepP (txt (pre ++ (g ++ post))) (f + g.length) pre.length none acc = Lib.spansFromP sepP (txt (pre ++ (g ++ post))) f (pre.length + g.length) (some pre.length) acc := by
  match g, hg with
  | c :: r, _ =>
    have hc := hd c (by simp)
    have hlt : pre.length < (txt (pre ++ (c :: r ++ post))).size := by rw [txt_size]; simp
    have e := dec_txt pre (r ++ post) c (dg_lt hc)
    show Lib.spansFromP sepP _ ((f + r.length) + 1) _ _ _ = _
    rw [Lib.spansFromP, if_pos hlt]
    rw [show pre ++ (c :: r ++ post) = pre ++ c :: (r ++ post) by simp, e]
    simp only [sepP_dg hc]
    have := run_some r (pre ++ [c]) post f pre.length acc (fun x hx => hd x (by simp [hx]))
    simp only [List.append_assoc, List.cons_append, List.nil_append, List.length_append, List.length_cons, List.length_nil] at this ⊢
    rw [if_neg (by simp), this]
    congr 1
    omega
theorem run_sep (c : UInt8) (hc : c.toNat < 128) (hs : sepP c.toNat = true) (pre post : List UInt8) (f a : Nat) (acc : List (Nat × Nat)) :
    Lib.spansFromP sepP (txt (pre ++ c :: post)) (f + 1) pre.length (some a) acc = Lib.spansFromP sepP (txt (pre ++ c :: post)) f (pre.length + 1) none (acc ++ [(a, pre.length)]) := by
  have hlt : pre.length < (txt (pre ++ c :: post)).size := by rw [txt_size]; simp
  rw [Lib.spansFromP, if_pos hlt, dec_txt pre post c hc]
  simp only [hs, if_true]

def okG (r : List (List UInt8 × UInt8)) : Prop := ∀ x ∈ r, x.1 ≠ [] ∧ (∀ c ∈ x.1, isDg c) ∧ x.2.toNat < 128 ∧ sepP x.2.toNat = true
theorem groups (last : List UInt8) (hl : last ≠ []) (hd : ∀ c ∈ last, isDg c) : ∀ (r : List (List UInt8 × UInt8)) (pre : List UInt8) (acc : List (Nat × Nat)), okG r →
    Lib.closeSpans (txt (pre ++ joinG r last)) (Lib.spansFromP sepP (txt (pre ++ joinG r last)) (joinG r last).length pre.length none acc) = acc ++ spG pre.length r last := by
  intro r
  induction r with
  | nil =>
    intro pre acc _
    have := run_none last hl pre [] 0 acc hd
    simp only [List.append_nil, Nat.zero_add] at this
    simp only [joinG, spG]
    rw [this]
    simp [Lib.spansFromP, Lib.closeSpans, txt_size]
  | cons x r ih =>
    intro pre acc hok
    obtain ⟨g, c⟩ := x
    obtain ⟨h1, h2, h3, h4⟩ := hok (g, c) (by simp)
    simp only [joinG, spG]
    have e1 := run_none g h1 pre (c :: joinG r last) ((joinG r last).length + 1) acc h2
    rw [show (g ++ c :: joinG r last).length = (joinG r last).length + 1 + g.length by simp; omega, e1]
    have e2 := run_sep c h3 h4 (pre ++ g) (joinG r last) (joinG r last).length pre.length acc
    simp only [List.append_assoc, List.length_append] at e2
    rw [e2]
    have e3 := ih (pre ++ g ++ [c]) (acc ++ [(pre.length, pre.length + g.length)]) (fun y hy => hok y (by simp [hy]))
    simp only [List.append_assoc, List.length_append, List.cons_append, List.nil_append, List.length_cons, List.length_nil] at e3
    rw [show pre.length + (g.length + (0 + 1)) = pre.length + g.length + 1 by omega] at e3
    rw [e3]
theorem ext_mid (pre g post : List UInt8) : (txt (pre ++ (g ++ post))).extract pre.length (pre.length + g.length) = txt g := by
  apply ByteArray.ext
  apply Array.ext'
  rw [Lib.extract_data, txt_data, txt_data]
  simp
theorem groups_ext (last : List UInt8) : ∀ (r : List (List UInt8 × UInt8)) (pre : List UInt8),
    (spG pre.length r last).map (fun x => (txt (pre ++ joinG r last)).extract x.1 x.2) = r.map (fun x => txt x.1) ++ [txt last] := by
  intro r
  induction r with
  | nil =>
    intro pre
    have := ext_mid pre last []
    simp only [List.append_nil] at this
    simp [spG, joinG, this]
  | cons x r ih =>
    intro pre
    obtain ⟨g, c⟩ := x
    simp only [spG, joinG, List.map_cons, List.cons_append, List.cons.injEq]
    refine ⟨ext_mid pre g (c :: joinG r last), ?_⟩
    have := ih (pre ++ g ++ [c])
    simp only [List.append_assoc, List.length_append, List.cons_append, List.nil_append, List.length_cons, List.length_nil] at this
    rw [show pre.length + (g.length + (0 + 1)) = pre.length + g.length + 1 by omega] at this
    exact this
/-- a text of groups of digits -/
theorem fields_groups (r : List (List UInt8 × UInt8)) (last : List UInt8) (hok : okG r) (hl : last ≠ []) (hd : ∀ c ∈ last, isDg c) :
    Lib.goFieldsP sepP (txt (joinG r last)) = r.map (fun x => txt x.1) ++ [txt last] := by
  unfold Lib.goFieldsP Lib.spansOfP
  have h1 := groups last hl hd r [] [] hok
  have h2 := groups_ext last r []
  simp only [List.nil_append, List.length_nil] at h1 h2
  rw [txt_size, h1, h2]

/-- the pieces of a time's text -/
theorem fields_stamp (t : Int) (h1 : -135140 ≤ t / 86400) (h2 : t / 86400 ≤ 157053) :
    Lib.goFieldsP sepP (txt (stampT t)) = [txt (Lib.itoa (Civ.yy (t / 86400))), txt (T2 (Civ.mm (t / 86400))), txt (T2 (Civ.dd (t / 86400))), txt (T2 (t % 86400 / 3600)), txt (T2 (t % 86400 / 60 % 60)), txt (T2 (t % 86400 % 60))] := by
  obtain ⟨hv, -⟩ := Civ.date_valid (t / 86400) h1 h2
  have hb := Civ.mlen_bd (Civ.yy (t / 86400)) (Civ.mm (t / 86400)) hv.2.2.1 hv.2.2.2.1
  obtain ⟨v1, v2, v3, v4, v5, v6⟩ := hv
  have key := fields_groups [(Lib.itoa (Civ.yy (t / 86400)), 45), (T2 (Civ.mm (t / 86400)), 45), (T2 (Civ.dd (t / 86400)), 84), (T2 (t % 86400 / 3600), 58), (T2 (t % 86400 / 60 % 60), 58)] (T2 (t % 86400 % 60))
    (by
      have d2 : ∀ n : Int, 0 ≤ n → n < 100 → T2 n ≠ [] ∧ ∀ c ∈ T2 n, isDg c := fun n a b => ⟨by simp [T2], T2_dg a b⟩
      intro x hx
      simp only [List.mem_cons, List.not_mem_nil, or_false] at hx
      rcases hx with rfl | rfl | rfl | rfl | rfl
      · exact ⟨itoa_ne (by omega), itoa_dg (by omega), by show (45 : UInt8).toNat < 128; decide, by show sepP (45 : UInt8).toNat = true; decide⟩
      · exact ⟨(d2 _ (by omega) (by omega)).1, (d2 _ (by omega) (by omega)).2, by show (45 : UInt8).toNat < 128; decide, by show sepP (45 : UInt8).toNat = true; decide⟩
      · exact ⟨(d2 _ (by omega) (by omega)).1, (d2 _ (by omega) (by omega)).2, by show (84 : UInt8).toNat < 128; decide, by show sepP (84 : UInt8).toNat = true; decide⟩
      · exact ⟨(d2 _ (by omega) (by omega)).1, (d2 _ (by omega) (by omega)).2, by show (58 : UInt8).toNat < 128; decide, by show sepP (58 : UInt8).toNat = true; decide⟩
      · exact ⟨(d2 _ (by omega) (by omega)).1, (d2 _ (by omega) (by omega)).2, by show (58 : UInt8).toNat < 128; decide, by show sepP (58 : UInt8).toNat = true; decide⟩)
    (by simp [T2]) (T2_dg (by omega) (by omega))
  have e : joinG [(Lib.itoa (Civ.yy (t / 86400)), 45), (T2 (Civ.mm (t / 86400)), 45), (T2 (Civ.dd (t / 86400)), 84), (T2 (t % 86400 / 3600), 58), (T2 (t % 86400 / 60 % 60), 58)] (T2 (t % 86400 % 60)) = stampT t := by
    unfold stampT
    simp [joinG]
  rw [e] at key
  rw [key]
  rfl
end Go.Proofs.YtfocdcdggidboaaGreatDoor
