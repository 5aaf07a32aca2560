/- Tables as bytes, in plain Lean: what is written, what is read. -/
import Derived.Test.YtddkedghpapepaaTabFacts
import Derived.Laws.BytesArg
namespace Go.Proofs.Ytddkedghpapepaa
open Go.RowKit
set_option linter.unusedVariables false
set_option linter.unusedSimpArgs false

theorem snoc_rec {α : Type} {P : List α → Prop} (nil : P []) (snoc : ∀ l x, P l → P (l ++ [x])) : ∀ l, P l := fun l => by
  rw [← List.reverse_reverse l]
  induction l.reverse with
  | nil => exact nil
  | cons x r ih => rw [List.reverse_cons]; exact snoc _ _ ih

def bts (l : List Int) : List Value := l.map (Value.int .u8)
theorem bts_append (a b : List Int) : bts (a ++ b) = bts a ++ bts b := List.map_append
theorem bts_length (a : List Int) : (bts a).length = a.length := List.length_map _
def strB (s : ByteArray) : List Int := s.data.toList.map fun b => (b.toNat : Int)
theorem strB_length (s : ByteArray) : (strB s).length = s.size := by simp [strB]
theorem strB_byte (s : ByteArray) : ∀ x ∈ strB s, 0 ≤ x ∧ x < 256 := by
  intro x hx
  simp only [strB, List.mem_map] at hx
  obtain ⟨b, _, rfl⟩ := hx
  have := b.toNat_lt
  omega

/-- some bytes of a number, the highest first -/
def putN : Nat → Nat → List Int
  | 0, _ => []
  | k + 1, n => ((n / 256 ^ k % 256 : Nat) : Int) :: putN k n
theorem putN_length : ∀ k n, (putN k n).length = k
  | 0, _ => rfl
  | k + 1, n => by simp [putN, putN_length k n]
theorem putN_byte : ∀ k n, ∀ x ∈ putN k n, 0 ≤ x ∧ x < 256
  | 0, _, x, hx => by simp [putN] at hx
  | k + 1, n, x, hx => by
    simp only [putN, List.mem_cons] at hx
    rcases hx with rfl | hx
    · have := Nat.mod_lt (n / 256 ^ k) (show 0 < 256 by decide)
      omega
    · exact putN_byte k n x hx

def flag (s : Bool) : Int := if s = true then 1 else 0
def encTy (x : Ty) : List Int := putN 4 (x.off + 2147483648).toNat ++ ([flag x.save, (x.name.size : Int)] ++ strB x.name)
def encCh (c : Ch) : List Int := putN 8 (c.t + 9223372036854775808).toNat ++ [c.k]
def encHead (t : Tab) : List Int := [84, 90, 98, 49, (t.types.length : Int), t.first] ++ putN 2 t.chs.length
def enc (t : Tab) : List Int := encHead t ++ (t.types.flatMap encTy ++ t.chs.flatMap encCh)

theorem encTy_length (x : Ty) : (encTy x).length = 6 + x.name.size := by simp [encTy, putN_length, strB_length]; omega
theorem encCh_length (x : Ch) : (encCh x).length = 9 := by simp [encCh, putN_length]
theorem encHead_length (t : Tab) : (encHead t).length = 8 := by simp [encHead, putN_length]
def nameSum (l : List Ty) : Nat := (l.map fun x => x.name.size).sum
theorem tys_length : ∀ l : List Ty, (l.flatMap encTy).length = 6 * l.length + nameSum l
  | [] => rfl
  | x :: r => by
    rw [List.flatMap_cons, List.length_append, encTy_length, tys_length r]
    simp [nameSum]; omega
theorem chs_length : ∀ l : List Ch, (l.flatMap encCh).length = 9 * l.length
  | [] => rfl
  | x :: r => by
    rw [List.flatMap_cons, List.length_append, encCh_length, chs_length r]
    simp; omega
theorem enc_length (t : Tab) : (enc t).length = 8 + (6 * t.types.length + nameSum t.types + 9 * t.chs.length) := by
  simp only [enc, List.length_append, encHead_length, tys_length, chs_length]

/-! ### reading -/
structure Rd where
  rest : List Int
  short : Bool
def takeN (n : Nat) (r : Rd) : List Int × Rd := if n ≤ r.rest.length then (r.rest.take n, ⟨r.rest.drop n, r.short⟩) else (List.replicate n 0, ⟨[], true⟩)
def numL (l : List Int) : Nat := l.foldl (fun n c => n * 256 + c.toNat) 0
def numN (n : Nat) (r : Rd) : Nat × Rd := (numL (takeN n r).1, (takeN n r).2)

theorem takeN_length (n : Nat) (r : Rd) : (takeN n r).1.length = n := by
  unfold takeN; split <;> simp; omega
theorem takeN_byte (n : Nat) (r : Rd) (h : ∀ x ∈ r.rest, 0 ≤ x ∧ x < 256) : ∀ x ∈ (takeN n r).1, 0 ≤ x ∧ x < 256 := by
  unfold takeN; split
  · intro x hx; exact h x (List.mem_of_mem_take hx)
  · intro x hx
    have := List.eq_of_mem_replicate hx
    omega
theorem takeN_rest (n : Nat) (r : Rd) (h : ∀ x ∈ r.rest, 0 ≤ x ∧ x < 256) : ∀ x ∈ (takeN n r).2.rest, 0 ≤ x ∧ x < 256 := by
  unfold takeN; split
  · intro x hx; exact h x (List.mem_of_mem_drop hx)
  · simp
theorem takeN_le (n : Nat) (r : Rd) : (takeN n r).2.rest.length ≤ r.rest.length := by
  unfold takeN; split <;> simp
theorem numL_snoc (l : List Int) (c : Int) : numL (l ++ [c]) = numL l * 256 + c.toNat := by simp [numL]
theorem numL_lt : ∀ (l : List Int), (∀ x ∈ l, 0 ≤ x ∧ x < 256) → numL l < 256 ^ l.length := by
  intro l
  induction l using snoc_rec with
  | nil => intro _; simp [numL]
  | snoc l c ih =>
    intro h
    rw [numL_snoc, List.length_append]
    have h1 := ih fun x hx => h x (by simp [hx])
    have h2 := h c (by simp)
    have e : 256 ^ (l.length + [c].length) = 256 ^ l.length * 256 := by simp [Nat.pow_succ]
    rw [e]
    omega
theorem numL_put (a : Nat) : ∀ k n, (putN k n).foldl (fun n c => n * 256 + c.toNat) a = a * 256 ^ k + n % 256 ^ k
  | 0, n => by simp [putN, Nat.mod_one]
  | k + 1, n => by
    simp only [putN, List.foldl_cons, Int.toNat_natCast]
    rw [numL_put _ k n, Nat.pow_succ, Nat.mod_mul, Nat.add_mul, Nat.mul_assoc, Nat.mul_comm 256 (256 ^ k), Nat.mul_comm (n / 256 ^ k % 256)]
    omega
theorem numL_putN (k n : Nat) (h : n < 256 ^ k) : numL (putN k n) = n := by
  have := numL_put 0 k n
  rw [Nat.mod_eq_of_lt h] at this
  simpa [numL] using this
theorem numN_lt (n : Nat) (r : Rd) (h : ∀ x ∈ r.rest, 0 ≤ x ∧ x < 256) : (numN n r).1 < 256 ^ n := by
  have h1 := numL_lt _ (takeN_byte n r h)
  rw [takeN_length] at h1
  exact h1

def ty1 (r : Rd) : Ty × Rd :=
  let a := numN 4 r
  let s := numN 1 a.2
  let k := numN 1 s.2
  let m := takeN k.1 k.2
  (⟨(a.1 : Int) - 2147483648, s.1 == 1, strOfNums m.1⟩, m.2)
def ch1 (r : Rd) : Ch × Rd :=
  let a := numN 8 r
  let k := numN 1 a.2
  (⟨(a.1 : Int) - 9223372036854775808, (k.1 : Int)⟩, k.2)
def tys : Nat → Rd → List Ty × Rd
  | 0, r => ([], r)
  | k + 1, r => ((tys k r).1 ++ [(ty1 (tys k r).2).1], (ty1 (tys k r).2).2)
def chs : Nat → Rd → List Ch × Rd
  | 0, r => ([], r)
  | k + 1, r => if (chs k r).2.short = true then chs k r else ((chs k r).1 ++ [(ch1 (chs k r).2).1], (ch1 (chs k r).2).2)
def pH (l : List Int) : Nat × Rd := numN 1 ⟨l.drop 4, false⟩
def pF (l : List Int) : Nat × Rd := numN 1 (pH l).2
def pC (l : List Int) : Nat × Rd := numN 2 (pF l).2
def pT (l : List Int) : List Ty × Rd := tys (pH l).1 (pC l).2
def pX (l : List Int) : List Ch × Rd := chs (pC l).1 (pT l).2
def prs (l : List Int) : Tab := ⟨(pT l).1, ((pF l).1 : Int), (pX l).1⟩
def prsE (l : List Int) : Int :=
  if 20000 < l.length then 2 else if l.length < 8 then 4 else if (pX l).2.short = true then 4 else if chk (prs l) = 0 ∧ enc (prs l) = l then 0 else 5

theorem chs_stop (r : Rd) (k : Nat) (h : (chs k r).2.short = true) : ∀ j, chs (k + j) r = chs k r
  | 0 => rfl
  | j + 1 => by
    have := chs_stop r k h j
    show (if (chs (k + j) r).2.short = true then chs (k + j) r else _) = _
    rw [this, if_pos h]

/-! ### what is written is read so -/
theorem takeN_app (l m : List Int) (s : Bool) (n : Nat) (h : n = l.length) : takeN n ⟨l ++ m, s⟩ = (l, ⟨m, s⟩) := by
  subst h; simp [takeN]
theorem numN_app (k n : Nat) (m : List Int) (s : Bool) (h : n < 256 ^ k) : numN k ⟨putN k n ++ m, s⟩ = (n, ⟨m, s⟩) := by
  unfold numN
  rw [takeN_app _ _ _ _ (putN_length k n).symm, numL_putN k n h]
theorem numN_one (c : Int) (m : List Int) (s : Bool) : numN 1 ⟨c :: m, s⟩ = (c.toNat, ⟨m, s⟩) := by
  unfold numN
  rw [show (c :: m) = [c] ++ m from rfl, takeN_app [c] m s 1 rfl]
  simp [numL]
theorem strOf_strB (s : ByteArray) : strOfNums (strB s) = s := by
  apply ByteArray.ext
  apply Array.toList_inj.1
  rw [strOfNums_data]
  simp only [strB, List.map_map]
  rw [List.map_congr_left (g := id) (fun b _ => by simp), List.map_id]

theorem ty1_enc (x : Ty) (m : List Int) (h1 : -75600 ≤ x.off) (h2 : x.off ≤ 75600) : ty1 ⟨encTy x ++ m, false⟩ = (x, ⟨m, false⟩) := by
  obtain ⟨off, save, name⟩ := x
  simp only at h1 h2
  unfold ty1 encTy
  simp only [List.append_assoc]
  rw [numN_app 4 _ _ _ (by omega)]
  simp only [List.cons_append, List.nil_append]
  rw [numN_one]
  simp only
  rw [numN_one]
  simp only [Int.toNat_natCast]
  rw [takeN_app _ _ _ _ (strB_length name).symm]
  simp only [strOf_strB]
  congr 2
  · omega
  · cases save <;> rfl
theorem ch1_enc (x : Ch) (m : List Int) (h1 : -1099511627776 ≤ x.t) (h2 : x.t ≤ 1099511627776) (h3 : 0 ≤ x.k) : ch1 ⟨encCh x ++ m, false⟩ = (x, ⟨m, false⟩) := by
  obtain ⟨t, k⟩ := x
  simp only at h1 h2 h3
  unfold ch1 encCh
  simp only [List.append_assoc]
  rw [numN_app 8 _ _ _ (by omega)]
  simp only [List.cons_append, List.nil_append]
  rw [numN_one]
  simp only
  congr 2 <;> omega

theorem tys_enc (l : List Ty) : (∀ x ∈ l, -75600 ≤ x.off ∧ x.off ≤ 75600) → ∀ m, tys l.length ⟨l.flatMap encTy ++ m, false⟩ = (l, ⟨m, false⟩) := by
  induction l using snoc_rec with
  | nil => intro _ m; rfl
  | snoc l x ih =>
    intro h m
    have h1 := ih (fun y hy => h y (by simp [hy])) (encTy x ++ m)
    have h2 := h x (by simp)
    have e : (l ++ [x]).flatMap encTy ++ m = l.flatMap encTy ++ (encTy x ++ m) := by simp
    rw [e, List.length_append]
    show (_, _) = _
    rw [h1]
    simp only
    rw [ty1_enc x m h2.1 h2.2]
theorem chs_enc (l : List Ch) : (∀ x ∈ l, -1099511627776 ≤ x.t ∧ x.t ≤ 1099511627776 ∧ 0 ≤ x.k) → ∀ m, chs l.length ⟨l.flatMap encCh ++ m, false⟩ = (l, ⟨m, false⟩) := by
  induction l using snoc_rec with
  | nil => intro _ m; rfl
  | snoc l x ih =>
    intro h m
    have h1 := ih (fun y hy => h y (by simp [hy])) (encCh x ++ m)
    have h2 := h x (by simp)
    have e : (l ++ [x]).flatMap encCh ++ m = l.flatMap encCh ++ (encCh x ++ m) := by simp
    rw [e, List.length_append]
    show (if _ then _ else _) = _
    rw [h1]
    simp only [Bool.false_eq_true, if_false]
    rw [ch1_enc x m h2.1 h2.2.1 h2.2.2]

theorem prs_enc (t : Tab) (ok : OkTab t) (m : List Int) : prs (enc t ++ m) = t ∧ (pX (enc t ++ m)).2 = ⟨m, false⟩ := by
  obtain ⟨types, first, cs⟩ := t
  have k1 := ok.many
  have k2 := ok.chs
  have k3 := ok.first
  simp only at k1 k2 k3
  have e1 : pH (enc ⟨types, first, cs⟩ ++ m) = (types.length, ⟨first :: (putN 2 cs.length ++ (types.flatMap encTy ++ (cs.flatMap encCh ++ m))), false⟩) := by
    simp only [pH, enc, encHead, List.append_assoc, List.cons_append, List.nil_append, List.drop_succ_cons, List.drop_zero]
    rw [numN_one]
    simp
  have e2 : pF (enc ⟨types, first, cs⟩ ++ m) = (first.toNat, ⟨putN 2 cs.length ++ (types.flatMap encTy ++ (cs.flatMap encCh ++ m)), false⟩) := by
    rw [pF, e1]; exact numN_one _ _ _
  have e3 : pC (enc ⟨types, first, cs⟩ ++ m) = (cs.length, ⟨types.flatMap encTy ++ (cs.flatMap encCh ++ m), false⟩) := by
    rw [pC, e2]; exact numN_app 2 _ _ _ (by omega)
  have e4 : pT (enc ⟨types, first, cs⟩ ++ m) = (types, ⟨cs.flatMap encCh ++ m, false⟩) := by
    rw [pT, e1, e3]; exact tys_enc types (fun x hx => ⟨(ok.type x hx).1, (ok.type x hx).2.1⟩) _
  have e5 : pX (enc ⟨types, first, cs⟩ ++ m) = (cs, ⟨m, false⟩) := by
    rw [pX, e3, e4]; exact chs_enc cs (fun x hx => ⟨(ok.ch x hx).1, (ok.ch x hx).2.1, (ok.ch x hx).2.2.1⟩) _
  refine ⟨?_, by rw [e5]⟩
  simp only [prs, e4, e2, e5]
  congr 1
  omega

/-! ### more bytes behind -/
def Ext {α : Type} (f : Rd → α × Rd) : Prop := ∀ l m, (f ⟨l, false⟩).2.short = false → f ⟨l ++ m, false⟩ = ((f ⟨l, false⟩).1, ⟨(f ⟨l, false⟩).2.rest ++ m, false⟩)
def Keeps {α : Type} (f : Rd → α × Rd) : Prop := ∀ l, (f ⟨l, true⟩).2.short = true
theorem takeN_keeps (n : Nat) : Keeps (takeN n) := by intro l; unfold takeN; split <;> rfl
theorem takeN_ext (n : Nat) : Ext (takeN n) := by
  intro l m h
  unfold takeN at h ⊢
  by_cases hn : n ≤ l.length
  · simp only [hn, if_true, List.length_append, if_pos (show n ≤ l.length + m.length by omega)]
    rw [List.take_append_of_le_length hn, List.drop_append_of_le_length hn]
  · simp [hn] at h
theorem numN_keeps (n : Nat) : Keeps (numN n) := fun l => takeN_keeps n l
theorem numN_ext (n : Nat) : Ext (numN n) := by
  intro l m h
  have := takeN_ext n l m h
  simp only [numN, this]
theorem rd_false {r : Rd} (h : r.short = false) : r = ⟨r.rest, false⟩ := by cases r; simp_all
theorem rd_true {r : Rd} (h : r.short = true) : r = ⟨r.rest, true⟩ := by cases r; simp_all
theorem Keeps.at {α : Type} {f : Rd → α × Rd} (h : Keeps f) {r : Rd} (hr : r.short = true) : (f r).2.short = true := by rw [rd_true hr]; exact h _
theorem Keeps.back {α : Type} {f : Rd → α × Rd} (h : Keeps f) {r : Rd} (hr : (f r).2.short = false) : r.short = false := by
  cases e : r.short
  · rfl
  · rw [h.at e] at hr; cases hr
theorem Ext.at {α : Type} {f : Rd → α × Rd} (h : Ext f) (k : Keeps f) {r r' : Rd} {m : List Int} (hr : (f r).2.short = false) (h' : r' = ⟨r.rest ++ m, false⟩) : f r' = ((f r).1, ⟨(f r).2.rest ++ m, false⟩) := by
  subst h'
  have e := rd_false (k.back hr)
  have := h r.rest m (by rw [← e]; exact hr)
  rw [this, ← e]

theorem ty1_keeps : Keeps ty1 := fun l => (takeN_keeps _).at ((numN_keeps 1).at ((numN_keeps 1).at (numN_keeps 4 l)))
theorem ty1_ext : Ext ty1 := by
  intro l m h
  have h3 : (numN 1 (numN 1 (numN 4 ⟨l, false⟩).2).2).2.short = false := (takeN_keeps _).back h
  have h2 := (numN_keeps 1).back h3
  have h1 := (numN_keeps 1).back h2
  have e1 := numN_ext 4 l m h1
  have e2 := (numN_ext 1).at (numN_keeps 1) h2 (r' := (numN 4 ⟨l ++ m, false⟩).2) (by rw [e1])
  have e3 := (numN_ext 1).at (numN_keeps 1) h3 (r' := (numN 1 (numN 4 ⟨l ++ m, false⟩).2).2) (by rw [e2])
  have e4 := (takeN_ext (numN 1 (numN 1 (numN 4 ⟨l, false⟩).2).2).1).at (takeN_keeps _) h (r' := (numN 1 (numN 1 (numN 4 ⟨l ++ m, false⟩).2).2).2) (by rw [e3])
  simp only [ty1]
  rw [e3] at e4
  simp only at e4
  rw [e3, e2, e1]
  simp only [e4]
theorem ch1_keeps : Keeps ch1 := fun l => (numN_keeps 1).at (numN_keeps 8 l)
theorem ch1_ext : Ext ch1 := by
  intro l m h
  have h1 := (numN_keeps 1).back h
  have e1 := numN_ext 8 l m h1
  have e2 := (numN_ext 1).at (numN_keeps 1) h (r' := (numN 8 ⟨l ++ m, false⟩).2) (by rw [e1])
  simp only [ch1]
  rw [e2, e1]
theorem tys_keeps : ∀ n, Keeps (tys n)
  | 0, l => rfl
  | n + 1, l => ty1_keeps.at (tys_keeps n l)
theorem tys_ext : ∀ n, Ext (tys n)
  | 0, l, m, _ => rfl
  | n + 1, l, m, h => by
    have h1 : (tys n ⟨l, false⟩).2.short = false := ty1_keeps.back h
    have e1 := tys_ext n l m h1
    have e2 := ty1_ext.at ty1_keeps h (r' := (tys n ⟨l ++ m, false⟩).2) (by rw [e1])
    show ((tys n ⟨l ++ m, false⟩).1 ++ [_], _) = _
    rw [e2, e1]
    rfl
theorem chs_keeps : ∀ n, Keeps (chs n)
  | 0, l => rfl
  | n + 1, l => by
    have := chs_keeps n l
    show (if _ then _ else _ : List Ch × Rd).2.short = true
    rw [if_pos this]; exact this
theorem chs_ext : ∀ n, Ext (chs n)
  | 0, l, m, _ => rfl
  | n + 1, l, m, h => by
    have hs : chs (n + 1) ⟨l, false⟩ = if (chs n ⟨l, false⟩).2.short = true then chs n ⟨l, false⟩ else ((chs n ⟨l, false⟩).1 ++ [(ch1 (chs n ⟨l, false⟩).2).1], (ch1 (chs n ⟨l, false⟩).2).2) := rfl
    have hs' : chs (n + 1) ⟨l ++ m, false⟩ = if (chs n ⟨l ++ m, false⟩).2.short = true then chs n ⟨l ++ m, false⟩ else ((chs n ⟨l ++ m, false⟩).1 ++ [(ch1 (chs n ⟨l ++ m, false⟩).2).1], (ch1 (chs n ⟨l ++ m, false⟩).2).2) := rfl
    rw [hs] at h ⊢
    have h1 : (chs n ⟨l, false⟩).2.short = false := by
      cases e : (chs n ⟨l, false⟩).2.short
      · rfl
      · rw [if_pos e, e] at h; cases h
    rw [if_neg (by simp [h1])] at h ⊢
    have e1 := chs_ext n l m h1
    have e2 := ch1_ext.at ch1_keeps h (r' := (chs n ⟨l ++ m, false⟩).2) (by rw [e1])
    rw [hs', e1]
    simp only [Bool.false_eq_true, if_false]
    rw [e1] at e2
    simp only at e2
    rw [e2]

theorem pX_ext (l m : List Int) (hl : 4 ≤ l.length) (h : (pX l).2.short = false) : (pX (l ++ m)).2 = ⟨(pX l).2.rest ++ m, false⟩ := by
  have h4 : (pT l).2.short = false := (chs_keeps _).back h
  have h3 : (pC l).2.short = false := (tys_keeps _).back h4
  have h2 : (pF l).2.short = false := (numN_keeps 2).back h3
  have h1 : (pH l).2.short = false := (numN_keeps 1).back h2
  have e1 : pH (l ++ m) = ((pH l).1, ⟨(pH l).2.rest ++ m, false⟩) := by
    unfold pH
    rw [List.drop_append_of_le_length hl]
    exact numN_ext 1 _ m h1
  have e2 : pF (l ++ m) = ((pF l).1, ⟨(pF l).2.rest ++ m, false⟩) := (numN_ext 1).at (numN_keeps 1) h2 (by rw [e1])
  have e3 : pC (l ++ m) = ((pC l).1, ⟨(pC l).2.rest ++ m, false⟩) := (numN_ext 2).at (numN_keeps 2) h3 (by rw [e2])
  have e4 : pT (l ++ m) = ((pT l).1, ⟨(pT l).2.rest ++ m, false⟩) := by
    unfold pT; rw [e1]; exact (tys_ext _).at (tys_keeps _) h4 (by rw [e3])
  have e5 : pX (l ++ m) = ((pX l).1, ⟨(pX l).2.rest ++ m, false⟩) := by
    unfold pX; rw [e3]; exact (chs_ext _).at (chs_keeps _) h (by rw [e4])
  rw [e5]

/-! ### the laws -/
theorem name_small (x : Ty) (h : abbrB x.name = true) : x.name.size ≤ 8 := by
  unfold abbrB allB at h
  simp only [Bool.and_eq_true, decide_eq_true_eq] at h
  omega
theorem nameSum_le : ∀ (l : List Ty), (∀ x ∈ l, x.name.size ≤ 8) → nameSum l ≤ 8 * l.length
  | [], _ => by simp [nameSum]
  | x :: r, h => by
    have h1 := nameSum_le r fun y hy => h y (by simp [hy])
    have h2 := h x (by simp)
    simp only [nameSum, List.map_cons, List.sum_cons, List.length_cons] at h1 ⊢
    omega
theorem enc_small (t : Tab) (ok : OkTab t) : (enc t).length ≤ 20000 := by
  rw [enc_length]
  have h1 := nameSum_le t.types fun x hx => name_small x (ok.type x hx).2.2
  have := ok.many
  have := ok.chs
  omega
theorem enc_byte (t : Tab) (ok : OkTab t) : ∀ x ∈ enc t, 0 ≤ x ∧ x < 256 := by
  have k1 := ok.many
  have k3 := ok.first
  intro x hx
  simp only [enc, encHead, List.mem_append, List.mem_flatMap] at hx
  rcases hx with (hx | hx) | ⟨y, hy, hx⟩ | ⟨y, hy, hx⟩
  · simp at hx; omega
  · exact putN_byte _ _ x hx
  · have h1 := ok.type y hy
    have h2 := name_small y h1.2.2
    simp only [encTy, List.mem_append] at hx
    rcases hx with hx | hx | hx
    · exact putN_byte _ _ x hx
    · simp only [flag, List.mem_cons, List.not_mem_nil, or_false] at hx
      rcases hx with hx | hx
      · split at hx <;> omega
      · omega
    · exact strB_byte _ x hx
  · have h1 := ok.ch y hy
    simp only [encCh, List.mem_append] at hx
    rcases hx with hx | hx
    · exact putN_byte _ _ x hx
    · simp at hx; omega
theorem prsE_enc (t : Tab) (h : chk t = 0) : prsE (enc t) = 0 ∧ prs (enc t) = t := by
  have ok := chk_ok t h
  have h1 := prs_enc t ok []
  rw [List.append_nil] at h1
  have h2 := enc_small t ok
  have h3 := enc_length t
  refine ⟨?_, h1.1⟩
  unfold prsE
  rw [if_neg (by omega), if_neg (by omega), if_neg (by rw [h1.2]; simp), h1.1, if_pos ⟨h, rfl⟩]
theorem prsE_zero (l : List Int) (h : prsE l = 0) : chk (prs l) = 0 ∧ enc (prs l) = l := by
  unfold prsE at h
  split at h; · omega
  split at h; · omega
  split at h; · omega
  split at h
  · assumption
  · omega
theorem prsE_cut (t : Tab) (h : chk t = 0) (k : Nat) (hk : k < (enc t).length) : prsE ((enc t).take k) = 4 := by
  have ok := chk_ok t h
  have h2 := enc_small t ok
  have hl : ((enc t).take k).length = k := by simp; omega
  unfold prsE
  rw [hl, if_neg (by omega)]
  by_cases h8 : k < 8
  · rw [if_pos h8]
  · rw [if_neg h8]
    cases e : (pX ((enc t).take k)).2.short
    · have h3 := pX_ext ((enc t).take k) ((enc t).drop k) (by omega) e
      rw [List.take_append_drop] at h3
      have h4 := (prs_enc t ok []).2
      rw [List.append_nil] at h4
      rw [h4] at h3
      injection h3 with h5 h6
      have := congrArg List.length h5
      simp only [List.length_append, List.length_nil, List.length_drop] at this
      omega
    · simp
theorem prsE_more (t : Tab) (h : chk t = 0) (m : List Int) : prsE (enc t ++ m) = 0 ↔ m = [] := by
  have ok := chk_ok t h
  constructor
  · intro h0
    obtain ⟨_, h2⟩ := prsE_zero _ h0
    rw [(prs_enc t ok m).1] at h2
    exact (List.append_cancel_left (h2.symm.trans (List.append_nil _).symm) : m = [])
  · rintro rfl
    rw [List.append_nil]; exact (prsE_enc t h).1

end Go.Proofs.Ytddkedghpapepaa
