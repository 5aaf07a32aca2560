/- clock.Stamp: what it returns. Eras of a table: plain Lean, and in memory; back.era. rule.IsName; back.Book: its memory. back.Book: what it returns. day.Check and day.within: what each returns. rule: what Check returns: the plain mathematics. Numbers as digits, cuts and beginnings of texts: plain Lean. SpanOdd: its walk. SpanHours: its walk. -/
import Derived.Test.YtmhfhmhjaecoaaaGreatDoorQ02
import Derived.Test.YtmhfhmhjaecoaaaGreatDoorCiv3a
import Derived.BigQuiet
import Derived.Deep.DeepCutAuto
import Derived.Handy
import Derived.Test.YtmhfhmhjaecoaaaGreatDoorCiv0
import Derived.Lib.IndexMore
import Derived.Lib.Strings
namespace Go.Proofs.YtmhfhmhjaecoaaaGreatDoor
open Go.RowKit Go.Joins
set_option linter.unusedVariables false
set_option linter.unusedSimpArgs false

theorem cat9 (y m d p q r : List UInt8) : txt y ++ ⟨#[45]⟩ ++ txt m ++ ⟨#[45]⟩ ++ txt d ++ ⟨#[84]⟩ ++ txt p ++ ⟨#[58]⟩ ++ txt q ++ ⟨#[58]⟩ ++ txt r = txt (y ++ ([45] ++ (m ++ ([45] ++ (d ++ ([84] ++ (p ++ ([58] ++ (q ++ ([58] ++ r)))))))))) := by
  rw [show (⟨#[45]⟩ : ByteArray) = txt [45] from rfl, show (⟨#[58]⟩ : ByteArray) = txt [58] from rfl, show (⟨#[84]⟩ : ByteArray) = txt [84] from rfl]
  simp only [txt_append]
  simp

set_option maxRecDepth 100000 in
set_option maxHeartbeats 1000000 in
theorem Stamp_ok (t : Int) (w : World) (h1 : -135140 ≤ t / 86400) (h2 : t / 86400 ≤ 157053) (ht : Tab10 w) :
    Calls Tryz.prog 32 #[.int .i64 t] w fun e w' => e = .returned (.tuple #[.string (txt (stampT t)), .int .i64 0]) ∧ Below w.heap.size w w' := by
  have HT := Lib.hid ht
  clear ht
  have hn1 : -9223372036854775808 ≤ t := by omega
  have hn2 : t ≤ 9223372036854775807 := by omega
  have hF := fun W => Floor_any t 86400 W (by decide) (by decide) hn1 hn2
  clear hn1 hn2
  have hr0 : 0 ≤ t % 86400 := by omega
  have hr1 : t % 86400 < 86400 := by omega
  have hst : stampT t = dateT (t / 86400) ++ clockT (t % 86400) := stamp_two t
  obtain ⟨n, en⟩ : ∃ n, t / 86400 = n := ⟨_, rfl⟩
  obtain ⟨r, er⟩ : ∃ r, t % 86400 = r := ⟨_, rfl⟩
  simp only [en] at h1 h2 hF hst
  simp only [er] at hr0 hr1 hF hst
  have HST := Lib.hid hst
  have HF := Lib.hid hF
  clear hst en er hF
  obtain ⟨hv, -⟩ := Civ.date_valid n h1 h2
  have hb := Civ.mlen_bd (Civ.yy n) (Civ.mm n) hv.2.2.1 hv.2.2.2.1
  obtain ⟨v1, v2, v3, v4, v5, v6⟩ := hv
  have v7 : Civ.dd n ≤ 31 := by omega
  go_enter Tryz.func32, Tryz.ntmps32
  go_wp2_with fail
  refine (HF.out _).mono ?_
  rintro e w1 ⟨rfl, hb1⟩
  go_wp2_with fail
  refine (Date_ok n _ h1 h2).mono ?_
  rintro e w2 ⟨rfl, rfl⟩
  have b2 := hb1
  clear v6 hb
  go_wp2_with fail
  refine (itoa_text _ _ (by omega) (by omega) (HT.out.below b2)).mono ?_
  obtain ⟨Y, eY⟩ : ∃ Y, txt (Lib.itoa (Civ.yy n)) = Y := ⟨_, rfl⟩
  rw [eY]
  have hY : Y.size ≤ 4 := by rw [← eY, txt_size, Y4_length (by omega) (by omega)]; omega
  have EY := Lib.hid eY
  clear eY
  rintro e w3 ⟨rfl, hb3⟩
  have c0 := b2.trans (hb3.mono b2.size)
  go_wp2_with fail
  refine (two_any _ _ (by omega) (by omega)).mono ?_
  obtain ⟨M, eM⟩ : ∃ M, txt (T2 (Civ.mm n)) = M := ⟨_, rfl⟩
  rw [eM]
  have hM : M.size ≤ 2 := by rw [← eM, txt_size, T2_length]; omega
  have EM := Lib.hid eM
  clear eM
  rintro e x0 ⟨rfl, hx0⟩
  have c1 := c0.trans (hx0.mono c0.size)
  go_wp2_with fail
  refine (two_any _ _ (by omega) (by omega)).mono ?_
  obtain ⟨D, eD⟩ : ∃ D, txt (T2 (Civ.dd n)) = D := ⟨_, rfl⟩
  rw [eD]
  have hD : D.size ≤ 2 := by rw [← eD, txt_size, T2_length]; omega
  have ED := Lib.hid eD
  clear eD
  rintro e x1 ⟨rfl, hx1⟩
  have c2 := c1.trans (hx1.mono c1.size)
  go_wp2_with fail
  refine (two_any _ _ (by omega) (by omega)).mono ?_
  obtain ⟨P, eP⟩ : ∃ P, txt (T2 (r / 3600)) = P := ⟨_, rfl⟩
  rw [eP]
  have hP : P.size ≤ 2 := by rw [← eP, txt_size, T2_length]; omega
  have EP := Lib.hid eP
  clear eP
  rintro e x2 ⟨rfl, hx2⟩
  have c3 := c2.trans (hx2.mono c2.size)
  go_wp2_with fail
  refine (two_any _ _ (by omega) (by omega)).mono ?_
  obtain ⟨Q, eQ⟩ : ∃ Q, txt (T2 (r / 60 % 60)) = Q := ⟨_, rfl⟩
  rw [eQ]
  have hQ : Q.size ≤ 2 := by rw [← eQ, txt_size, T2_length]; omega
  have EQ := Lib.hid eQ
  clear eQ
  rintro e x3 ⟨rfl, hx3⟩
  have c4 := c3.trans (hx3.mono c3.size)
  go_wp2_with fail
  refine (two_any _ _ (by omega) (by omega)).mono ?_
  obtain ⟨R, eR⟩ : ∃ R, txt (T2 (r % 60)) = R := ⟨_, rfl⟩
  rw [eR]
  have hR : R.size ≤ 2 := by rw [← eR, txt_size, T2_length]; omega
  have ER := Lib.hid eR
  clear eR
  rintro e x4 ⟨rfl, hx4⟩
  have c5 := c4.trans (hx4.mono c4.size)
  go_wp2_with fail
  go_ret2
  refine ⟨?_, c5⟩
  show Ending.returned (.tuple #[.string (Y ++ ⟨#[45]⟩ ++ M ++ ⟨#[45]⟩ ++ D ++ ⟨#[84]⟩ ++ P ++ ⟨#[58]⟩ ++ Q ++ ⟨#[58]⟩ ++ R), .int .i64 0]) = _
  rw [← EY.out, ← EM.out, ← ED.out, ← EP.out, ← EQ.out, ← ER.out, cat9, HST.out]
  simp [dateT, clockT]

set_option maxHeartbeats 1000000 in
theorem Stamp_no (t : Int) (w : World) (h : t / 86400 < -135140 ∨ 157053 < t / 86400) (hn1 : -9223372036854775808 ≤ t) (hn2 : t ≤ 9223372036854775807) :
    Calls Tryz.prog 32 #[.int .i64 t] w fun e w' => e = .returned (.tuple #[.string ⟨#[]⟩, .int .i64 1]) ∧ Below w.heap.size w w' := by
  have HN1 := Lib.hid hn1
  have HN2 := Lib.hid hn2
  clear hn1 hn2
  go_enter Tryz.func32, Tryz.ntmps32
  go_wp2_with fail
  refine (Floor_any t 86400 _ (by decide) (by decide) HN1.out HN2.out).mono ?_
  rintro e w1 ⟨rfl, hb1⟩
  go_wp2_with fail
  refine (Date_no (t / 86400) _ h).mono ?_
  rintro e w2 ⟨rfl, rfl⟩
  go_wp2_with fail
  go_ret2
  exact ⟨rfl, hb1⟩

end Go.Proofs.YtmhfhmhjaecoaaaGreatDoor
namespace Go.Proofs.YtmhfhmhjaecoaaaGreatDoor.BB
open Go.RowKit Go.Joins
open Classical
set_option linter.unusedVariables false
set_option linter.unusedSimpArgs false

structure Er where
  (off : Int)
  (rul : ByteArray)
  (save : Int)
  (fmt : ByteArray)
  (til : Int)

def erOff (x : Ty) : Int := if x.save = true then x.off - 3600 else x.off
def erSave (x : Ty) : Int := if x.save = true then 3600 else 0
def erOk (x : Ty) : Bool := decide (-64800 ≤ erOff x ∧ erOff x ≤ 64800)
def erOf (x : Ty) (u : Int) : Er := ⟨erOff x, ⟨#[]⟩, erSave x, x.name, u⟩
/-- the type's number of a table's span -/
def segK (N : Tab) (i : Nat) : Int := if i = 0 then N.first else kAt N.chs (i - 1)
def segT (N : Tab) (i : Nat) : Ty := tyD N.types (segK N i)
def segU (N : Tab) (i : Nat) : Int := if i < N.chs.length then tAt N.chs i else 0
def erAt (N : Tab) (i : Nat) : Er := erOf (segT N i) (segU N i)
def ersUp (N : Tab) (k : Nat) : List Er := (List.range k).map (erAt N)
abbrev ersOf (N : Tab) : List Er := ersUp N (N.chs.length + 1)
theorem ersUp_snoc (N : Tab) (k : Nat) : ersUp N (k + 1) = ersUp N k ++ [erAt N k] := by simp [ersUp, List.range_succ]
theorem ersUp_length (N : Tab) (k : Nat) : (ersUp N k).length = k := by simp [ersUp]

def okSB (t : Int) : Bool := decide (-135140 ≤ t / 86400 ∧ t / 86400 ≤ 157053)
noncomputable def backC (t : Tab) (nm : ByteArray) : Int :=
  if chk t ≠ 0 then chk t else if nameB nm = false then 3 else if 700 ≤ (normT t).chs.length then 2 else
  if (∃ c ∈ (normT t).chs, okSB c.t = false) then 1 else if (∃ i, i ≤ (normT t).chs.length ∧ erOk (segT (normT t) i) = false) then 1 else 0
theorem backC_norm (t : Tab) (nm : ByteArray) (h : chk t = 0) : backC (normT t) nm = backC t nm := by
  unfold backC
  rw [normT_norm, norm_chk t h, h]

/-! in memory -/
def erC (x : Er) : List Value := [.int .i64 x.off, .string x.rul, .int .i64 x.save, .string x.fmt, .int .i64 x.til]
def erCells (l : List Er) : List Value := l.flatMap erC
theorem erCells_snoc (l : List Er) (x : Er) : erCells (l ++ [x]) = erCells l ++ erC x := by simp [erCells]
theorem erCells_get : ∀ (l : List Er) (i : Nat) (h : i < l.length), (erCells l)[i * 5]? = some (.int .i64 l[i].off) ∧ (erCells l)[i * 5 + 1]? = some (.string l[i].rul) ∧ (erCells l)[i * 5 + 2]? = some (.int .i64 l[i].save) ∧ (erCells l)[i * 5 + 3]? = some (.string l[i].fmt) ∧ (erCells l)[i * 5 + 4]? = some (.int .i64 l[i].til)
  | [], i, h => by simp at h
  | x :: r, 0, _ => by simp [erCells, erC]
  | x :: r, i + 1, h => by
    have := erCells_get r i (by simpa using h)
    have e : erCells (x :: r) = erC x ++ erCells r := by simp [erCells]
    rw [e]
    have e3 : (erC x).length = 5 := rfl
    rw [List.getElem?_append_right (by rw [e3]; omega), List.getElem?_append_right (by rw [e3]; omega), List.getElem?_append_right (by rw [e3]; omega), List.getElem?_append_right (by rw [e3]; omega), List.getElem?_append_right (by rw [e3]; omega), e3,
      show (i + 1) * 5 - 5 = i * 5 by omega, show (i + 1) * 5 + 1 - 5 = i * 5 + 1 by omega, show (i + 1) * 5 + 2 - 5 = i * 5 + 2 by omega, show (i + 1) * 5 + 3 - 5 = i * 5 + 3 by omega, show (i + 1) * 5 + 4 - 5 = i * 5 + 4 by omega]
    simpa using this
def erAtW (w : World) (b o : Nat) (x : Er) : Prop :=
  w.cell? ⟨b, o, none⟩ = some (.int .i64 x.off) ∧ w.cell? ⟨b, o + 1, none⟩ = some (.string x.rul) ∧ w.cell? ⟨b, o + 2, none⟩ = some (.int .i64 x.save) ∧ w.cell? ⟨b, o + 3, none⟩ = some (.string x.fmt) ∧ w.cell? ⟨b, o + 4, none⟩ = some (.int .i64 x.til)
theorem erAtW.below {w w' : World} {b o : Nat} {x : Er} (h : erAtW w b o x) (hb : Below w.heap.size w w') (hlt : b < w.heap.size) : erAtW w' b o x :=
  ⟨(hb.cell (p := ⟨b, o, none⟩) hlt).trans h.1, (hb.cell (p := ⟨b, o + 1, none⟩) hlt).trans h.2.1, (hb.cell (p := ⟨b, o + 2, none⟩) hlt).trans h.2.2.1, (hb.cell (p := ⟨b, o + 3, none⟩) hlt).trans h.2.2.2.1, (hb.cell (p := ⟨b, o + 4, none⟩) hlt).trans h.2.2.2.2⟩
structure SlEr (w : World) (v : Value) (l : List Er) : Prop where
  shape : ∃ p cap, v = .slice p l.length cap ∧ (l ≠ [] → ∃ b o, p = some ⟨b, o, none⟩ ∧ b < w.heap.size ∧ ∀ i (h : i < l.length), erAtW w b (o + i * 5) l[i])
  size : l.length ≤ maxLen
theorem SlEr.below {w w' : World} {v : Value} {l : List Er} (h : SlEr w v l) (hb : Below w.heap.size w w') : SlEr w' v l := by
  obtain ⟨⟨p, cap, hv, hc⟩, h2⟩ := h
  refine ⟨⟨p, cap, hv, fun hne => ?_⟩, h2⟩
  obtain ⟨b, o, hp, hlt, hat⟩ := hc hne
  exact ⟨b, o, hp, Nat.lt_of_lt_of_le hlt hb.size, fun i h => (hat i h).below hb hlt⟩
theorem own_ers {W : World} {B : Nat} {v : Value} {l : List Er} (h : W.ownsRow B 46 5 v l.length (erCells l)) (hl : l.length ≤ maxLen) : SlEr W v l := by
  refine ⟨?_, hl⟩
  rcases own_cells h with ⟨rfl, h0⟩ | ⟨g, cap, rfl, hb, hg, hc⟩
  · have : l = [] := List.eq_nil_of_length_eq_zero h0
    subst this
    exact ⟨none, 0, rfl, fun h => absurd rfl h⟩
  · refine ⟨_, cap, rfl, fun _ => ⟨g, 0, rfl, hg, fun i hi => ?_⟩⟩
    obtain ⟨k1, k2, k3, k4, k5⟩ := erCells_get l i hi
    exact ⟨by rw [Nat.zero_add]; exact hc _ _ k1, by rw [Nat.zero_add]; exact hc _ _ k2, by rw [Nat.zero_add]; exact hc _ _ k3, by rw [Nat.zero_add]; exact hc _ _ k4, by rw [Nat.zero_add]; exact hc _ _ k5⟩

/-- a book with one zone of eras -/
structure BkAt (W : World) (Z cz : Nat) (p : Option Addr) (ce : Nat) (nm : ByteArray) (L : List Er) : Prop where
  blk : W.heap[Z]? = some (.cells #[.string nm, .slice p L.length ce] 50 (0, 0))
  ers : SlEr W (.slice p L.length ce) L
  cap : L.length ≤ ce ∧ 1 ≤ cz
theorem own_cap {W : World} {B : Nat} {e : TypeId} {s n c : Nat} {A : Option Addr} {xs : List Value} (h : W.ownsRow B e s (.slice A n c) n xs) : n ≤ c := by
  rcases h.2 with ⟨_, h0⟩ | ⟨g, cap, cur, e, _, _, hn, _⟩
  · omega
  · rw [Value.slice.injEq] at e
    obtain ⟨_, _, rfl⟩ := e
    exact hn
theorem BkAt.below {W W' : World} {Z cz : Nat} {p : Option Addr} {ce : Nat} {nm : ByteArray} {L : List Er} (h : BkAt W Z cz p ce nm L) (hb : Below W.heap.size W W') : BkAt W' Z cz p ce nm L :=
  ⟨(hb.block _ (Array.getElem?_eq_some_iff.mp h.blk).1).trans h.blk, h.ers.below hb, h.cap⟩
theorem BkAt.cells {W : World} {Z cz : Nat} {p : Option Addr} {ce : Nat} {nm : ByteArray} {L : List Er} (h : BkAt W Z cz p ce nm L) :
    W.cell? ⟨Z, 0, none⟩ = some (.string nm) ∧ W.cell? ⟨Z, 1, none⟩ = some (.slice p L.length ce) ∧ Z < W.heap.size :=
  ⟨(cell_of_row W _ 0 _ _ _ h.blk).trans rfl, (cell_of_row W _ 1 _ _ _ h.blk).trans rfl, (Array.getElem?_eq_some_iff.mp h.blk).1⟩
abbrev bkNone : Value := .agg #[.slice none 0 0, .slice none 0 0, .slice none 0 0]
abbrev bkV (Z cz : Nat) : Value := .agg #[.slice none 0 0, .slice (some ⟨Z, 0, none⟩) 1 cz, .slice none 0 0]

abbrev erV (x : Er) : Value := .agg #[.int .i64 x.off, .string x.rul, .int .i64 x.save, .string x.fmt, .int .i64 x.til]
theorem three_alB {w W3 : World} {o1 o2 : Obj} {o3 : Array Value} {T : TypeId} (e : ((w.alloc o1).alloc o2).alloc (.cells o3 T) = W3) :
    W3.heap.size = w.heap.size + 3 ∧ W3.heap[w.heap.size + 1]? = some o2 ∧ W3.heap[w.heap.size + 1 + 1]? = some (.cells o3 T (0, 0)) ∧ Below w.heap.size w W3 := by
  subst e
  refine ⟨by simp, ?_, ?_, (((Below.refl _ _).alloc (Nat.le_refl _) _).alloc (by simp) _).alloc (by simp; omega) _⟩
  · rw [Below.heap_alloc _ _ _ (by simp)]
    have := heap_alloc_new (w.alloc o1) o2
    simpa using this
  · have := heap_alloc_new ((w.alloc o1).alloc o2) (.cells o3 T)
    simpa using this
theorem heap_setCB {w : World} {R i : Nat} {cs : Array Value} {T : TypeId} {f : Nat × Nat} (h : w.heap[R]? = some (.cells cs T f)) (v : Value) : (w.setCell ⟨R, i, none⟩ v).heap[R]? = some (.cells (cs.setIfInBounds i v) T f) := by
  simp [World.setCell, Array.getElem?_modify, h]
theorem cells5 {W : World} {B : Nat} {a b c d e : Value} {T : TypeId} (h : W.heap[B]? = some (.cells #[a, b, c, d, e] T (0, 0))) :
    W.cell? ⟨B, 0, none⟩ = some a ∧ W.cell? ⟨B, 1, none⟩ = some b ∧ W.cell? ⟨B, 2, none⟩ = some c ∧ W.cell? ⟨B, 3, none⟩ = some d ∧ W.cell? ⟨B, 4, none⟩ = some e ∧ ∀ o, W.frozen? ⟨B, o, none⟩ = false :=
  ⟨(cell_of_row W _ 0 _ _ _ h).trans rfl, (cell_of_row W _ 1 _ _ _ h).trans rfl, (cell_of_row W _ 2 _ _ _ h).trans rfl, (cell_of_row W _ 3 _ _ _ h).trans rfl, (cell_of_row W _ 4 _ _ _ h).trans rfl, fun o => by simp [World.frozen?, h]⟩
theorem end_cells5 {W : World} {g : Nat} {a b c d e : Value} {T : TypeId} (h : W.heap[g]? = some (.cells #[a, b, c, d, e] T (0, 0))) (x y z u v : Value) :
    ∃ W', ((((W.setCell ⟨g, 0, none⟩ x).setCell ⟨g, 1, none⟩ y).setCell ⟨g, 2, none⟩ z).setCell ⟨g, 3, none⟩ u).setCell ⟨g, 4, none⟩ v = W' ∧ (∀ B, B ≤ g → Below B W W') ∧ W'.heap[g]? = some (.cells #[x, y, z, u, v] T (0, 0)) := by
  refine ⟨_, rfl, fun B hB => (((((Below.refl _ _).setCell (by exact hB) _).setCell (by exact hB) _).setCell (by exact hB) _).setCell (by exact hB) _).setCell (by exact hB) _, ?_⟩
  rw [heap_setCB (heap_setCB (heap_setCB (heap_setCB (heap_setCB h x) y) z) u) v]
  rfl

set_option maxRecDepth 100000 in
set_option maxHeartbeats 4000000 in
theorem era_any (x : Ty) (w : World) (h1 : -75600 ≤ x.off) (h2 : x.off ≤ 75600) :
    Calls Tryz.prog 33 #[tyV x] w fun e w' => e = .returned (.tuple #[erV (erOf x 0), .bool (erOk x)]) ∧ Below w.heap.size w w' := by
  obtain ⟨off, sv, nm⟩ := x
  simp only at h1 h2
  have HR : Hid (∀ b : Bool, erOk ⟨off, sv, nm⟩ = b → Ending.returned (.tuple #[erV (erOf ⟨off, sv, nm⟩ 0), .bool b]) = Ending.returned (.tuple #[erV (erOf ⟨off, sv, nm⟩ 0), .bool (erOk ⟨off, sv, nm⟩)])) := by
    show ∀ b : Bool, _
    intro b h
    rw [h]
  cases sv
  · obtain ⟨W3, e3⟩ : ∃ W3, ((w.alloc (.cells #[.int .i64 off, .bool false, .string nm] 71)).alloc (.cells #[.int .i64 0, .string ⟨#[]⟩, .int .i64 0, .string ⟨#[]⟩, .int .i64 0] 46)).alloc (.cells #[.int .i64 off, .string ⟨#[]⟩, .int .i64 0, .string nm, .int .i64 0] 46) = W3 := ⟨_, rfl⟩
    obtain ⟨hz, g1, g2, hb⟩ := three_alB e3
    have E3 := Lib.hid e3
    obtain ⟨y0, y1, y2, y3, y4, -⟩ := cells5 g2
    obtain ⟨z0, z1, z2, z3, z4, zf⟩ := cells5 g1
    have G1 := Lib.hid g1
    have HB := Lib.hid hb
    have zf0 := zf 0
    have zf1 := zf 1
    have zf2 := zf 2
    have zf3 := zf 3
    have zf4 := zf 4
    clear e3 g1 g2 hb zf
    by_cases c1 : -64800 ≤ off
    · by_cases c2 : off ≤ 64800
      · have hI : erOk ⟨off, false, nm⟩ = true := by unfold erOk erOff; simp only [Bool.false_eq_true, if_false]; exact decide_eq_true (by omega)
        have HI := Lib.hid hI
        clear hI
        go_enter Tryz.func33, Tryz.ntmps33
        go_upto_region 4 with fail
        rw [E3.out]
        go_region
        go_wp2
        obtain ⟨W9, e9, hb9, g9⟩ := end_cells5 G1.out (.int .i64 (off)) (.string ⟨#[]⟩) (.int .i64 0) (.string nm) (.int .i64 0)
        rw [e9]
        obtain ⟨v0, v1, v2, v3, v4, -⟩ := cells5 (W := W9.drew) g9
        refine bodyPost_ret (v := .tuple #[erV (erOf ⟨off, false, nm⟩ 0), .bool true]) (by simp [results, Tryz.results33, go_sem, v0, v1, v2, v3, v4, erOf, erOff, erSave]) rfl ⟨HR.out true HI.out, ?_⟩
        exact (HB.out.trans (hb9 _ (by omega))).drew
      · have hI : erOk ⟨off, false, nm⟩ = false := by unfold erOk erOff; simp only [Bool.false_eq_true, if_false]; exact decide_eq_false (by omega)
        have HI := Lib.hid hI
        clear hI
        go_enter Tryz.func33, Tryz.ntmps33
        go_upto_region 4 with fail
        rw [E3.out]
        go_region
        go_wp2
        obtain ⟨W9, e9, hb9, g9⟩ := end_cells5 G1.out (.int .i64 (off)) (.string ⟨#[]⟩) (.int .i64 0) (.string nm) (.int .i64 0)
        rw [e9]
        obtain ⟨v0, v1, v2, v3, v4, -⟩ := cells5 (W := W9.drew) g9
        refine bodyPost_ret (v := .tuple #[erV (erOf ⟨off, false, nm⟩ 0), .bool false]) (by simp [results, Tryz.results33, go_sem, v0, v1, v2, v3, v4, erOf, erOff, erSave]) rfl ⟨HR.out false HI.out, ?_⟩
        exact (HB.out.trans (hb9 _ (by omega))).drew
    · have hI : erOk ⟨off, false, nm⟩ = false := by unfold erOk erOff; simp only [Bool.false_eq_true, if_false]; exact decide_eq_false (by omega)
      have HI := Lib.hid hI
      clear hI
      go_enter Tryz.func33, Tryz.ntmps33
      go_upto_region 4 with fail
      rw [E3.out]
      go_region
      go_wp2
      obtain ⟨W9, e9, hb9, g9⟩ := end_cells5 G1.out (.int .i64 (off)) (.string ⟨#[]⟩) (.int .i64 0) (.string nm) (.int .i64 0)
      rw [e9]
      obtain ⟨v0, v1, v2, v3, v4, -⟩ := cells5 (W := W9.drew) g9
      refine bodyPost_ret (v := .tuple #[erV (erOf ⟨off, false, nm⟩ 0), .bool false]) (by simp [results, Tryz.results33, go_sem, v0, v1, v2, v3, v4, erOf, erOff, erSave]) rfl ⟨HR.out false HI.out, ?_⟩
      exact (HB.out.trans (hb9 _ (by omega))).drew
  · obtain ⟨W3, e3⟩ : ∃ W3, ((w.alloc (.cells #[.int .i64 off, .bool true, .string nm] 71)).alloc (.cells #[.int .i64 0, .string ⟨#[]⟩, .int .i64 0, .string ⟨#[]⟩, .int .i64 0] 46)).alloc (.cells #[.int .i64 (off - 3600), .string ⟨#[]⟩, .int .i64 3600, .string nm, .int .i64 0] 46) = W3 := ⟨_, rfl⟩
    obtain ⟨hz, g1, g2, hb⟩ := three_alB e3
    have E3 := Lib.hid e3
    obtain ⟨y0, y1, y2, y3, y4, -⟩ := cells5 g2
    obtain ⟨z0, z1, z2, z3, z4, zf⟩ := cells5 g1
    have G1 := Lib.hid g1
    have HB := Lib.hid hb
    have zf0 := zf 0
    have zf1 := zf 1
    have zf2 := zf 2
    have zf3 := zf 3
    have zf4 := zf 4
    clear e3 g1 g2 hb zf
    by_cases c1 : -64800 ≤ off - 3600
    · by_cases c2 : off - 3600 ≤ 64800
      · have hI : erOk ⟨off, true, nm⟩ = true := by unfold erOk erOff; simp only [if_true]; exact decide_eq_true (by omega)
        have HI := Lib.hid hI
        clear hI
        go_enter Tryz.func33, Tryz.ntmps33
        go_upto_region 4 with fail
        rw [E3.out]
        go_region
        go_wp2
        obtain ⟨W9, e9, hb9, g9⟩ := end_cells5 G1.out (.int .i64 (off - 3600)) (.string ⟨#[]⟩) (.int .i64 3600) (.string nm) (.int .i64 0)
        rw [e9]
        obtain ⟨v0, v1, v2, v3, v4, -⟩ := cells5 (W := W9.drew) g9
        refine bodyPost_ret (v := .tuple #[erV (erOf ⟨off, true, nm⟩ 0), .bool true]) (by simp [results, Tryz.results33, go_sem, v0, v1, v2, v3, v4, erOf, erOff, erSave]) rfl ⟨HR.out true HI.out, ?_⟩
        exact (HB.out.trans (hb9 _ (by omega))).drew
      · have hI : erOk ⟨off, true, nm⟩ = false := by unfold erOk erOff; simp only [if_true]; exact decide_eq_false (by omega)
        have HI := Lib.hid hI
        clear hI
        go_enter Tryz.func33, Tryz.ntmps33
        go_upto_region 4 with fail
        rw [E3.out]
        go_region
        go_wp2
        obtain ⟨W9, e9, hb9, g9⟩ := end_cells5 G1.out (.int .i64 (off - 3600)) (.string ⟨#[]⟩) (.int .i64 3600) (.string nm) (.int .i64 0)
        rw [e9]
        obtain ⟨v0, v1, v2, v3, v4, -⟩ := cells5 (W := W9.drew) g9
        refine bodyPost_ret (v := .tuple #[erV (erOf ⟨off, true, nm⟩ 0), .bool false]) (by simp [results, Tryz.results33, go_sem, v0, v1, v2, v3, v4, erOf, erOff, erSave]) rfl ⟨HR.out false HI.out, ?_⟩
        exact (HB.out.trans (hb9 _ (by omega))).drew
    · have hI : erOk ⟨off, true, nm⟩ = false := by unfold erOk erOff; simp only [if_true]; exact decide_eq_false (by omega)
      have HI := Lib.hid hI
      clear hI
      go_enter Tryz.func33, Tryz.ntmps33
      go_upto_region 4 with fail
      rw [E3.out]
      go_region
      go_wp2
      obtain ⟨W9, e9, hb9, g9⟩ := end_cells5 G1.out (.int .i64 (off - 3600)) (.string ⟨#[]⟩) (.int .i64 3600) (.string nm) (.int .i64 0)
      rw [e9]
      obtain ⟨v0, v1, v2, v3, v4, -⟩ := cells5 (W := W9.drew) g9
      refine bodyPost_ret (v := .tuple #[erV (erOf ⟨off, true, nm⟩ 0), .bool false]) (by simp [results, Tryz.results33, go_sem, v0, v1, v2, v3, v4, erOf, erOff, erSave]) rfl ⟨HR.out false HI.out, ?_⟩
      exact (HB.out.trans (hb9 _ (by omega))).drew
end Go.Proofs.YtmhfhmhjaecoaaaGreatDoor.BB
namespace Go.Proofs.YtmhfhmhjaecoaaaGreatDoor.BB
open Go.RowKit Go.Joins
open Classical
set_option linter.unusedVariables false
set_option linter.unusedSimpArgs false

/-- what back.Book answers -/
def BkPost (t : Tab) (nm : ByteArray) (w : World) (e : Ending) (w' : World) : Prop :=
  Below w.heap.size w w' ∧ ((backC t nm ≠ 0 ∧ e = .returned (.tuple #[bkNone, .int .i64 (backC t nm)])) ∨
    (backC t nm = 0 ∧ ∃ Z cz p ce, e = .returned (.tuple #[bkV Z cz, .int .i64 0]) ∧ BkAt w' Z cz p ce nm (ersOf (normT t))))

theorem two_alB {w W : World} {o1 o2 : Obj} (e : (w.alloc o1).alloc o2 = W) : W.heap.size = w.heap.size + 2 ∧ W.heap[w.heap.size]? = some o1 ∧ W.heap[w.heap.size + 1]? = some o2 ∧ Below w.heap.size w W := by
  subst e
  refine ⟨by simp, ?_, ?_, ((Below.refl _ _).alloc (Nat.le_refl _) _).alloc (by simp) _⟩
  · rw [Below.heap_alloc _ _ _ (by simp)]; exact heap_alloc_new w o1
  · have := heap_alloc_new (w.alloc o1) o2
    simpa using this

/-- the memory of a call under way: the table's box, and the result's -/
structure BkM (w W : World) (p1 : Option Addr) (c1 : Nat) (p2 : Option Addr) (c2 : Nat) (t : Tab) : Prop where
  px : W.heap[w.heap.size]? = some (.cells #[.slice p1 t.types.length c1, .int .i64 t.first, .slice p2 t.chs.length c2] 25 (0, 0))
  r : W.heap[w.heap.size + 1]? = some (.cells #[.slice none 0 0, .slice none 0 0, .slice none 0 0] 31 (0, 0))
  tb : TabAt W (.agg #[.slice p1 t.types.length c1, .int .i64 t.first, .slice p2 t.chs.length c2]) t
  b : Below w.heap.size w W
theorem BkM.lt {w W : World} {p1 p2 : Option Addr} {c1 c2 : Nat} {t : Tab} (h : BkM w W p1 c1 p2 c2 t) : w.heap.size + 1 < W.heap.size := (Array.getElem?_eq_some_iff.mp h.r).1
theorem BkM.go {w W W' : World} {p1 p2 : Option Addr} {c1 c2 : Nat} {t : Tab} (h : BkM w W p1 c1 p2 c2 t) (hb : Below W.heap.size W W') : BkM w W' p1 c1 p2 c2 t :=
  ⟨(hb.block _ (Nat.lt_of_succ_lt h.lt)).trans h.px, (hb.block _ h.lt).trans h.r, h.tb.below hb, h.b.trans (hb.mono h.b.size)⟩
theorem BkM.cells {w W : World} {p1 p2 : Option Addr} {c1 c2 : Nat} {t : Tab} (h : BkM w W p1 c1 p2 c2 t) :
    W.cell? ⟨w.heap.size, 0, none⟩ = some (.slice p1 t.types.length c1) ∧ W.cell? ⟨w.heap.size, 1, none⟩ = some (.int .i64 t.first) ∧ W.cell? ⟨w.heap.size, 2, none⟩ = some (.slice p2 t.chs.length c2) ∧ W.frozen? ⟨w.heap.size, 0, none⟩ = false ∧ W.frozen? ⟨w.heap.size, 1, none⟩ = false ∧ W.frozen? ⟨w.heap.size, 2, none⟩ = false ∧ w.heap.size < W.heap.size :=
  ⟨(cell_of_row W _ 0 _ _ _ h.px).trans rfl, (cell_of_row W _ 1 _ _ _ h.px).trans rfl, (cell_of_row W _ 2 _ _ _ h.px).trans rfl, by simp [World.frozen?, h.px], by simp [World.frozen?, h.px], by simp [World.frozen?, h.px], Nat.lt_of_succ_lt h.lt⟩
theorem BkM.zero {w W : World} {p1 p2 : Option Addr} {c1 c2 : Nat} {t : Tab} (h : BkM w W p1 c1 p2 c2 t) :
    W.cell? ⟨w.heap.size + 1, 0, none⟩ = some (.slice none 0 0) ∧ W.cell? ⟨w.heap.size + 1, 1, none⟩ = some (.slice none 0 0) ∧ W.cell? ⟨w.heap.size + 1, 2, none⟩ = some (.slice none 0 0) ∧ W.frozen? ⟨w.heap.size + 1, 0, none⟩ = false ∧ W.frozen? ⟨w.heap.size + 1, 1, none⟩ = false ∧ W.frozen? ⟨w.heap.size + 1, 2, none⟩ = false :=
  ⟨(cell_of_row W _ 0 _ _ _ h.r).trans rfl, (cell_of_row W _ 1 _ _ _ h.r).trans rfl, (cell_of_row W _ 2 _ _ _ h.r).trans rfl, by simp [World.frozen?, h.r], by simp [World.frozen?, h.r], by simp [World.frozen?, h.r]⟩
theorem end_cells3 {W : World} {g : Nat} {a b c : Value} {T : TypeId} (h : W.heap[g]? = some (.cells #[a, b, c] T (0, 0))) (x y z : Value) :
    ∃ W', ((W.setCell ⟨g, 0, none⟩ x).setCell ⟨g, 1, none⟩ y).setCell ⟨g, 2, none⟩ z = W' ∧ (∀ B, B ≤ g → Below B W W') ∧ W'.heap[g]? = some (.cells #[x, y, z] T (0, 0)) ∧ ∀ b, b ≠ g → W'.heap[b]? = W.heap[b]? := by
  refine ⟨_, rfl, fun B hB => (((Below.refl _ _).setCell (by exact hB) _).setCell (by exact hB) _).setCell (by exact hB) _, ?_, fun b hb => (Below.heap_setCell _ _ _ _ hb).trans ((Below.heap_setCell _ _ _ _ hb).trans (Below.heap_setCell _ _ _ _ hb))⟩
  rw [heap_setCB (i := 2) (heap_setCB (i := 1) (heap_setCB (i := 0) h x) y) z]
  rfl
theorem BkM.out {w W : World} {p1 p2 : Option Addr} {c1 c2 : Nat} {t : Tab} (h : BkM w W p1 c1 p2 c2 t) (x y z : Value) :
    ∃ W', ((W.setCell ⟨w.heap.size + 1, 0, none⟩ x).setCell ⟨w.heap.size + 1, 1, none⟩ y).setCell ⟨w.heap.size + 1, 2, none⟩ z = W' ∧ Below w.heap.size w W' ∧
      W'.cell? ⟨w.heap.size + 1, 0, none⟩ = some x ∧ W'.cell? ⟨w.heap.size + 1, 1, none⟩ = some y ∧ W'.cell? ⟨w.heap.size + 1, 2, none⟩ = some z ∧ ∀ b, b ≠ w.heap.size + 1 → W'.heap[b]? = W.heap[b]? := by
  obtain ⟨W', e, hb, hr, ho⟩ := end_cells3 h.r x y z
  exact ⟨W', e, h.b.trans (hb _ (by omega)), (cell_of_row W' _ 0 _ _ _ hr).trans rfl, (cell_of_row W' _ 1 _ _ _ hr).trans rfl, (cell_of_row W' _ 2 _ _ _ hr).trans rfl, ho⟩
end Go.Proofs.YtmhfhmhjaecoaaaGreatDoor.BB
namespace Go.Proofs.YtmhfhmhjaecoaaaGreatDoor.BB
open Go.RowKit Go.Joins
open Classical
set_option linter.unusedVariables false
set_option linter.unusedSimpArgs false

theorem bk_no {t : Tab} {nm : ByteArray} {w w' : World} {c : Int} (h : backC t nm = c) (hc : c ≠ 0) (hb : Below w.heap.size w w') : BkPost t nm w (.returned (.tuple #[bkNone, .int .i64 c])) w' :=
  ⟨hb, Or.inl ⟨by rw [h]; exact hc, by rw [h]⟩⟩

theorem undErB : Tryz.prog.underlying 48 = some (.slice 46) := by kernel_rfl
theorem infoErB : (Tryz.prog.info? 46).map (fun i => (i.zero, i.size, i.bytes)) = some (some (.agg #[.int .i64 0, .string ⟨#[]⟩, .int .i64 0, .string ⟨#[]⟩, .int .i64 0]), 5, 56) := by kernel_rfl
/-- the zone under way, and its row of eras -/
structure Vz (W : World) (U : Nat) (nm : ByteArray) (cv : Value) (L : List Er) : Prop where
  blk : W.heap[U]? = some (.cells #[.string nm, cv] 50 (0, 0))
  row : W.ownsRow U 46 5 cv L.length (erCells L)
section
variable {W W' : World} {U : Nat} {nm : ByteArray} {cv : Value} {L : List Er}
theorem Vz.lt (h : Vz W U nm cv L) : U < W.heap.size := (Array.getElem?_eq_some_iff.mp h.blk).1
theorem Vz.ne (h : Vz W U nm cv L) : cv.ownBlock ≠ some U := by
  rcases h.row.2 with ⟨e, _⟩ | ⟨g, cap, cur, e, _, hg, _⟩
  · rw [e]; simp [Value.ownBlock]
  · rw [e]
    simp only [Value.ownBlock]
    intro e2
    injection e2 with e2
    subst e2
    rw [h.blk] at hg
    injection hg with hg
    injection hg with _ h2 _
    exact absurd h2 (by decide)
theorem Vz.keep (h : Vz W U nm cv L) (hk : ∀ b, b < W.heap.size → W'.heap[b]? = W.heap[b]?) : Vz W' U nm cv L :=
  ⟨(hk _ h.lt).trans h.blk, own_keep h.row fun g e => hk g (World.ownsRow.lt h.row g e).2⟩
theorem Vz.below (h : Vz W U nm cv L) (hb : Below W.heap.size W W') : Vz W' U nm cv L := h.keep fun b hlt => hb.block b hlt
theorem Vz.cells (h : Vz W U nm cv L) : W.cell? ⟨U, 0, none⟩ = some (.string nm) ∧ W.cell? ⟨U, 1, none⟩ = some cv ∧ (∀ o, W.frozen? ⟨U, o, none⟩ = false) :=
  ⟨(cell_of_row W _ 0 _ _ _ h.blk).trans rfl, (cell_of_row W _ 1 _ _ _ h.blk).trans rfl, fun o => by simp [World.frozen?, h.blk]⟩
end
theorem vz_old {W w6 : World} {U : Nat} {nm : ByteArray} {A : Option Addr} {cS : Nat} {L : List Er} {o : Obj} (h : Vz W U nm (.slice A L.length cS) L) (hg : (W.alloc o).grownBy w6 (Value.slice A L.length cS).ownBlock) :
    w6.heap[U]? = some (.cells #[.string nm, .slice A L.length cS] 50 (0, 0)) := by
  have := h.lt
  exact ((hg.block U (by simp; omega) (fun e => h.ne e.symm)).trans (Below.heap_alloc _ _ _ this)).trans h.blk
theorem vz_snoc {W w6 : World} {U : Nat} {nm : ByteArray} {A : Option Addr} {cS : Nat} {v' : Value} {L : List Er} {x : Er} {o : Obj} (h : Vz W U nm (.slice A L.length cS) L)
    (hown : w6.ownsRow U 46 5 v' (L.length + 1) (erCells L ++ erC x))
    (hg : (W.alloc o).grownBy w6 (Value.slice A L.length cS).ownBlock) (y6 : w6.heap[U]? = some (.cells #[.string nm, .slice A L.length cS] 50 (0, 0))) :
    Vz (w6.setCell ⟨U, 1, none⟩ v') U nm v' (L ++ [x]) ∧ Below U W (w6.setCell ⟨U, 1, none⟩ v') := by
  have hne : v'.ownBlock ≠ some U := by
    rcases hown.2 with ⟨e, _⟩ | ⟨g, cap, cur, e, _, hg, _⟩
    · rw [e]; simp [Value.ownBlock]
    · rw [e]
      simp only [Value.ownBlock]
      intro e2
      injection e2 with e2
      subst e2
      rw [y6] at hg
      injection hg with hg
      injection hg with _ h2 _
      exact absurd h2 (by decide)
  have hlt := h.lt
  refine ⟨⟨(heap_setCB y6 _).trans rfl, ?_⟩, ?_⟩
  · rw [erCells_snoc, List.length_append]
    exact own_keep hown fun g e => Below.heap_setCell _ _ _ _ (by show g ≠ U; exact fun e2 => hne (by rw [e, e2]))
  · exact (((Below.refl U W).alloc (by omega) _).grown hg (by simp; omega) (fun g e => (World.ownsRow.lt h.row g e).1)).setCell (Nat.le_refl _) _
theorem seg_in {N : Tab} (ok : OkTab N) (i : Nat) (hi : i ≤ N.chs.length) : 0 ≤ segK N i ∧ segK N i < N.types.length := by
  unfold segK
  split
  · exact ok.first
  · have h : i - 1 < N.chs.length := by omega
    have := ok.ch N.chs[i - 1] (List.getElem_mem h)
    unfold kAt
    rw [List.getElem?_eq_getElem h]
    simp only [Option.map_some, Option.getD_some]
    omega

set_option maxRecDepth 100000 in
set_option maxHeartbeats 16000000 in
theorem Book_any (t : Tab) (v : Value) (nm : ByteArray) (w : World) (hv : TabAt w v t) (hs : nm.size ≤ maxLen) (ht : Tab10 w) :
    Calls Tryz.prog 11 #[v, .string nm] w (BkPost t nm w) := by
  obtain ⟨p1, c1, p2, c2, rfl⟩ := tabForms hv
  obtain ⟨W0, eW⟩ : ∃ W0, (w.alloc (.cells #[.slice p1 t.types.length c1, .int .i64 t.first, .slice p2 t.chs.length c2] 25)).alloc (.cells #[.slice none 0 0, .slice none 0 0, .slice none 0 0] 31) = W0 := ⟨_, rfl⟩
  obtain ⟨hz, g0, g1, hb0⟩ := two_alB eW
  have HM : Hid (BkM w W0 p1 c1 p2 c2 t) := by show BkM _ _ _ _ _ _ _; exact ⟨g0, g1, hv.below hb0, hb0⟩
  have HEW := Lib.hid eW
  have HT := Lib.hid ht
  have HC := Lib.hid (fun W v (hb : TabAt W v t) => Check_any t v W hb)
  obtain ⟨C, eC⟩ : ∃ C, chk t = C := ⟨_, rfl⟩
  rw [eC] at HC
  have EC := Lib.hid eC
  have HNM := Lib.hid (fun W => isName_any nm W hs)
  obtain ⟨B, eB⟩ : ∃ B, nameB nm = B := ⟨_, rfl⟩
  rw [eB] at HNM
  have EB := Lib.hid eB
  obtain ⟨x0, x1, x2, xf0, xf1, xf2, hl0⟩ := HM.out.cells
  clear eW g0 g1 hb0 hv eC eB hs ht hz
  go_enter Tryz.func11, Tryz.ntmps11
  go_wp2_with fail
  rw [HEW.out]
  refine (HC.out _ _ HM.out.tb).mono ?_
  rintro e w1 ⟨rfl, hb1⟩
  have HM1 := Lib.hid (HM.out.go hb1)
  clear hb1 HM x0 x1 x2 xf0 xf1 xf2 hl0
  obtain ⟨x0, x1, x2, xf0, xf1, xf2, hl1⟩ := HM1.out.cells
  obtain ⟨z0, z1, z2, zf0, zf1, zf2⟩ := HM1.out.zero
  have hr1 := HM1.out.lt
  by_cases hc : C = 0
  · subst hc
    cases B with
    | false =>
      go_wp2_with fail
      refine (HNM.out _).mono ?_
      rintro e w' ⟨rfl, rfl⟩
      go_wp2
      obtain ⟨W9, e9, hb9, v0, v1, v2, -⟩ := HM1.out.out (.slice none 0 0) (.slice none 0 0) (.slice none 0 0)
      rw [e9]
      refine bodyPost_ret (v := .tuple #[bkNone, .int .i64 3]) (by simp [results, Tryz.results11, go_sem, v0, v1, v2]) rfl (bk_no ?_ (by decide) hb9)
      unfold backC
      rw [if_neg (by rw [EC.out]; simp), if_pos EB.out]
    | true =>
      have ok := chk_ok t EC.out
      have OK := Lib.hid ok
      have nok := norm_ok t ok
      have NOK := Lib.hid nok
      have HN := Lib.hid (fun W v (hb : TabAt W v t) => NOf_any t v W hb ok)
      have HP : Hid (∀ r : Int, (if 700 ≤ (normT t).chs.length then 2 else if (∃ c ∈ (normT t).chs, okSB c.t = false) then 1 else if (∃ i, i ≤ (normT t).chs.length ∧ erOk (segT (normT t) i) = false) then 1 else 0) = r → backC t nm = r) := by
        show ∀ r : Int, _ → _
        intro r h
        unfold backC
        rw [if_neg (by rw [EC.out]; simp), if_neg (by rw [EB.out]; simp)]
        exact h
      obtain ⟨N, eN⟩ : ∃ N, normT t = N := ⟨_, rfl⟩
      rw [eN] at HN HP NOK
      have HPO : Hid (∀ e w', BkPost t nm w e w' ↔ Below w.heap.size w w' ∧ ((backC t nm ≠ 0 ∧ e = .returned (.tuple #[bkNone, .int .i64 (backC t nm)])) ∨ (backC t nm = 0 ∧ ∃ Z cz p ce, e = .returned (.tuple #[bkV Z cz, .int .i64 0]) ∧ BkAt w' Z cz p ce nm (ersOf N)))) := by
        show ∀ e w', _ ↔ _
        intro e w'
        unfold BkPost
        rw [eN]
      clear ok nok eN
      go_wp2_with fail
      refine (HNM.out _).mono ?_
      rintro e w' ⟨rfl, rfl⟩
      go_wp2_with fail
      refine (HN.out _ _ HM1.out.tb).mono ?_
      rintro e w2 ⟨v2, rfl, hv2, hb2⟩
      obtain ⟨q1, d1, q2, d2, rfl⟩ := tabForms hv2
      have HM2 := Lib.hid (HM1.out.go hb2)
      have HV2 := Lib.hid hv2
      clear hb2 hv2 HM1 x0 x1 x2 xf0 xf1 xf2 hl1 z0 z1 z2 zf0 zf1 zf2 hr1
      obtain ⟨x0, x1, x2, xf0, xf1, xf2, hl2⟩ := HM2.out.cells
      go_upto_region 7 with fail
      obtain ⟨W3, e3, hB3, hh3, ho3⟩ := end_cells3 HM2.out.px (.slice q1 N.types.length d1) (.int .i64 N.first) (.slice q2 N.chs.length d2)
      rw [e3]
      have hsz3 : w2.heap.size ≤ W3.heap.size := (hB3 0 (Nat.zero_le _)).size
      have HM3 : Hid (BkM w W3 q1 d1 q2 d2 N) := by
        show BkM _ _ _ _ _ _ _
        exact ⟨hh3, (ho3 _ (by omega)).trans HM2.out.r, tab_far HV2.out HM2.out.px ho3 hsz3, HM2.out.b.trans (hB3 _ (Nat.le_refl _))⟩
      clear e3 hB3 hh3 ho3 HM2 HV2 x0 x1 x2 xf0 xf1 xf2 hl2 hsz3
      obtain ⟨x0, x1, x2, xf0, xf1, xf2, hl3⟩ := HM3.out.cells
      have hr3 := HM3.out.lt
      by_cases h7 : 700 ≤ N.chs.length
      · obtain ⟨z0, z1, z2, zf0, zf1, zf2⟩ := HM3.out.zero
        have H7 := Lib.hid h7
        have h7' : (700 : Int) ≤ (N.chs.length : Int) := by omega
        clear h7
        go_wp2
        obtain ⟨W9, e9, hb9, v0, v1, v2, -⟩ := HM3.out.out (.slice none 0 0) (.slice none 0 0) (.slice none 0 0)
        rw [e9]
        refine bodyPost_ret (v := .tuple #[bkNone, .int .i64 2]) (by simp [results, Tryz.results11, go_sem, v0, v1, v2]) rfl (bk_no (HP.out 2 (if_pos H7.out)) (by decide) hb9)
      have h7' : (N.chs.length : Int) < 700 := by omega
      have H7 := Lib.hid h7
      clear h7
      have hsc := (tabOf_slices HM3.out.tb).2.1
      have hst := (tabOf_slices HM3.out.tb).1
      obtain ⟨p, cap, he, hcc⟩ := hsc.shape
      injection he with he1 _ he2
      subst he1 he2
      obtain ⟨p, cap, he, htt⟩ := hst.shape
      injection he with he1 _ he2
      subst he1 he2
      have HCC := Lib.hid hcc
      have HTT := Lib.hid htt
      clear hsc hst hcc htt
      go_wp2_with fail
      go_loopw [36] (fun i wr => ∃ k : Nat, k ≤ N.chs.length ∧ i = .int .i64 k ∧ (∀ j (h : j < N.chs.length), j < k → okSB N.chs[j].t = true) ∧ Below W3.heap.size W3 wr) (fun i _ => N.chs.length - (intOf i).toNat)
      case atStart => exact ⟨0, Nat.zero_le _, rfl, fun j h h2 => absurd h2 (Nat.not_lt_zero _), Below.refl _ _⟩
      case round =>
        obtain ⟨k, hk, rfl, hall, hbr⟩ := hrel
        have HBR := Lib.hid hbr
        have HMR := Lib.hid (HM3.out.go hbr)
        have HAL := Lib.hid hall
        have hzr := hbr.size
        clear hbr hall x0 x1 x2 xf0 xf1 xf2 hl3
        obtain ⟨x0, x1, x2, xf0, xf1, xf2, hlr⟩ := HMR.out.cells
        by_cases hkn : k < N.chs.length
        · have hne : N.chs ≠ [] := fun e => by rw [e] at hkn; exact absurd hkn (Nat.not_lt_zero _)
          obtain ⟨cb, co, rfl, hcb, hat⟩ := HCC.out hne
          obtain ⟨c, ec⟩ : ∃ c, N.chs[k] = c := ⟨_, rfl⟩
          have h1 := (hat k hkn).below HBR.out hcb
          have hcin := NOK.out.ch N.chs[k] (List.getElem_mem hkn)
          rw [ec] at h1 hcin
          obtain ⟨a0, a1⟩ := h1
          have EC2 := Lib.hid ec
          obtain ⟨ci1, ci2, -, -⟩ := hcin
          clear hat hne ec
          by_cases hok : okSB c.t = true
          · have hok' := hok
            simp only [okSB, decide_eq_true_eq] at hok'
            have HSt := Lib.hid (fun W (hb : Tab10 W) => Stamp_ok c.t W hok'.1 hok'.2 hb)
            have HOK := Lib.hid hok
            clear hok hok'
            go_wp2_with fail
            refine (HSt.out _ (HT.out.below (HMR.out.b.alloc HMR.out.b.size _))).mono ?_
            rintro e w4 ⟨rfl, hb4⟩
            have HZ := Lib.hid (HBR.out.trans ((((Below.refl _ _).alloc (Nat.le_refl _) _).trans (hb4.mono (by simp))).mono HBR.out.size))
            clear hb4 a0 a1 x0 x1 x2 xf0 xf1 xf2
            go_wp2
            go_roundw
            case rel =>
              refine ⟨k + 1, hkn, by go_num, fun j h h2 => ?_, HZ.out⟩
              rcases Nat.lt_or_ge j k with h3 | h3
              · exact HAL.out j h h3
              · have : j = k := by omega
                subst this
                rw [EC2.out]; exact HOK.out
            case measure => simp [intOf]; omega
          · have HSt := Lib.hid (fun W => Stamp_no c.t W (by
              have : ¬ (-135140 ≤ c.t / 86400 ∧ c.t / 86400 ≤ 157053) := fun h => hok (by unfold okSB; exact decide_eq_true h)
              omega) (by omega) (by omega))
            have HOK := Lib.hid (eq_false_of_ne_true hok)
            clear hok
            go_wp2_with fail
            refine (HSt.out _).mono ?_
            rintro e w4 ⟨rfl, hb4⟩
            have HM5 := Lib.hid ((HMR.out.go ((Below.refl _ _).alloc (Nat.le_refl _) _)).go hb4)
            obtain ⟨z0, z1, z2, zf0, zf1, zf2⟩ := HM5.out.zero
            have hl5 := HM5.out.lt
            clear hb4 a0 a1 x0 x1 x2 xf0 xf1 xf2
            go_wp2
            obtain ⟨W9, e9, hb9, v0, v1, v2, -⟩ := HM5.out.out (.slice none 0 0) (.slice none 0 0) (.slice none 0 0)
            rw [e9]
            refine bodyPost_ret (v := .tuple #[bkNone, .int .i64 1]) (by simp [results, Tryz.results11, go_sem, v0, v1, v2]) rfl (bk_no (HP.out 1 ?_) (by decide) hb9)
            rw [if_neg H7.out, if_pos ⟨c, by rw [← EC2.out]; exact List.getElem_mem hkn, HOK.out⟩]
        · obtain rfl : k = N.chs.length := by omega
          have HAA : Hid (¬ ∃ c ∈ N.chs, okSB c.t = false) := by
            show ¬ _
            rintro ⟨c, hc, h⟩
            obtain ⟨j, hj, rfl⟩ := List.mem_iff_getElem.1 hc
            rw [HAL.out j hj hj] at h
            cases h
          clear HAL hk hkn
          go_upto_region 18 with fail
          obtain ⟨wq, rfl⟩ : ∃ wq, wq = wr := ⟨wr, rfl⟩
          obtain ⟨W5, e5⟩ : ∃ W5, wq.alloc (.cells #[.string nm, .slice none 0 0] 50) = W5 := ⟨_, rfl⟩
          rw [e5]
          have g5 : W5.heap[wq.heap.size]? = some (.cells #[.string nm, .slice none 0 0] 50 (0, 0)) := by rw [← e5]; exact heap_alloc_new wq _
          have hb5 : Below wq.heap.size wq W5 := by rw [← e5]; exact (Below.refl _ _).alloc (Nat.le_refl _) _
          have HV5 : Hid (Vz W5 wq.heap.size nm (.slice none 0 0) (ersUp N 0)) := by
            show Vz _ _ _ _ _
            exact ⟨g5, World.ownsRow_nil _ _ _ _⟩
          have HB5 := Lib.hid hb5
          obtain ⟨U, eU⟩ : ∃ U, wq.heap.size = U := ⟨_, rfl⟩
          have EU := Lib.hid eU
          rw [eU] at HV5 HB5 hlr ⊢
          have hz5 : U < W5.heap.size := by have := (Array.getElem?_eq_some_iff.mp g5).1; omega
          have hM5 := HMR.out.go (W' := W5) (by rw [eU]; exact HB5.out)
          clear x0 x1 x2 xf0 xf1 xf2
          obtain ⟨x0, x1, x2, xf0, xf1, xf2, hl5⟩ := hM5.cells
          obtain ⟨i1, hi1, hz10, hz11, hz12⟩ := info_parts infoErB
          clear e5 g5 hb5 eU hM5
          go_wp2_with fail
          go_loopw [12, 59] (fun f i wr => ∃ (k : Nat) (sv : Value) (fk : Int), k ≤ N.chs.length + 1 ∧ i = .int .i64 k ∧ f = .int .i64 fk ∧ (k ≤ N.chs.length → fk = segK N k) ∧ (∀ j, j < k → erOk (segT N j) = true) ∧ Vz wr U nm sv (ersUp N k) ∧ Below U wq wr) (fun _ i _ => N.chs.length + 1 - (intOf i).toNat)
          case atStart => exact ⟨0, _, _, Nat.zero_le _, rfl, rfl, fun _ => rfl, fun j h => absurd h (Nat.not_lt_zero _), HV5.out, HB5.out⟩
          case round =>
            obtain ⟨k, sv, fk, hk, rfl, rfl, hfk, hall, hvz, hbw⟩ := hrel
            have HVR := Lib.hid hvz
            have HBW := Lib.hid hbw
            have HMK := Lib.hid (HMR.out.go (W' := wr) (by rw [EU.out]; exact hbw))
            have HAL := Lib.hid hall
            clear hvz hbw hall x0 x1 x2 xf0 xf1 xf2 hl5
            obtain ⟨x0, x1, x2, xf0, xf1, xf2, hlk⟩ := HMK.out.cells
            have hUr := HVR.out.lt
            by_cases hkn : k ≤ N.chs.length
            · obtain rfl := hfk hkn
              have sg := seg_in NOK.out k hkn
              obtain ⟨K, eK⟩ : ∃ K, segK N k = K := ⟨_, rfl⟩
              rw [eK] at sg ⊢
              obtain ⟨sg1, sg2⟩ := sg
              have hKn : K.toNat < N.types.length := by omega
              have hne : N.types ≠ [] := NOK.out.ne
              obtain ⟨ub, uo, rfl, htb, hat⟩ := HTT.out hne
              have hb3k : Below W3.heap.size W3 wr := HBR.out.trans (HBW.out.mono (by rw [← EU.out]; exact HBR.out.size))
              have h1 := (hat K.toNat hKn).below hb3k htb
              have hxt : N.types[K.toNat] = segT N k := by unfold segT tyD; rw [eK, List.getElem?_eq_getElem hKn]; rfl
              have hxo := NOK.out.type _ (List.getElem_mem hKn)
              rw [hxt] at h1 hxo
              obtain ⟨x, ex⟩ : ∃ x, segT N k = x := ⟨_, rfl⟩
              rw [ex] at h1 hxo
              obtain ⟨a0, a1, a2⟩ := h1
              obtain ⟨o1, o2, -⟩ := hxo
              have HER := Lib.hid (fun W => era_any x W o1 o2)
              obtain ⟨O, eO⟩ : ∃ O, erOk x = O := ⟨_, rfl⟩
              rw [eO] at HER
              obtain ⟨E, eE⟩ : ∃ E, erOf x 0 = E := ⟨_, rfl⟩
              rw [eE] at HER
              have HEV : Hid (erAt N k = ⟨E.off, E.rul, E.save, E.fmt, segU N k⟩) := by
                show _ = _
                unfold erAt
                rw [ex, ← eE]
                rfl
              have hE0 : E.til = 0 := by rw [← eE]; rfl
              have EO := Lib.hid eO
              have EX := Lib.hid ex
              have EK := Lib.hid eK
              have htbr : ub < wr.heap.size := Nat.lt_of_lt_of_le htb hb3k.size
              clear hat hne hxt hb3k ex eO eK hfk o1 o2 eE
              have HE0 := Lib.hid hE0
              clear hE0
              go_wp2_with fail
              refine (HER.out _).mono ?_
              rintro e w6 ⟨rfl, hb6⟩
              have HV6 := Lib.hid (HVR.out.below hb6)
              have HB6 := Lib.hid (HBW.out.trans (hb6.mono (Nat.le_of_lt hUr)))
              have HM6 := Lib.hid (HMK.out.go hb6)
              have hz6 := hb6.size
              clear hb6 a0 a1 a2 x0 x1 x2 xf0 xf1 xf2 hlk HVR HBW HMK
              obtain ⟨x0, x1, x2, xf0, xf1, xf2, hl6⟩ := HM6.out.cells
              have hU6 := HV6.out.lt
              cases O with
              | false =>
                go_upto_region 22 with fail
                obtain ⟨W7, e7⟩ : ∃ W7, w6.alloc (.cells #[.int .i64 E.off, .string E.rul, .int .i64 E.save, .string E.fmt, .int .i64 E.til] 46) = W7 := ⟨_, rfl⟩
                rw [e7]
                have HM7 : Hid (BkM w W7 (some ⟨ub, uo, none⟩) d1 q2 d2 N) := by
                  show BkM _ _ _ _ _ _ _
                  rw [← e7]
                  exact HM6.out.go ((Below.refl _ _).alloc (Nat.le_refl _) _)
                clear e7 x0 x1 x2 xf0 xf1 xf2 hl6
                obtain ⟨z0, z1, z2, zf0, zf1, zf2⟩ := HM7.out.zero
                have hr7 := HM7.out.lt
                go_wp2
                obtain ⟨W9, e9, hb9, v0, v1, v2, -⟩ := HM7.out.out (.slice none 0 0) (.slice none 0 0) (.slice none 0 0)
                rw [e9]
                refine bodyPost_ret (v := .tuple #[bkNone, .int .i64 1]) (by simp [results, Tryz.results11, go_sem, v0, v1, v2]) rfl (bk_no (HP.out 1 ?_) (by decide) hb9)
                rw [if_neg H7.out, if_neg HAA.out, if_pos ⟨k, hkn, by rw [EX.out]; exact EO.out⟩]
              | true =>
                go_upto_if 78 with fail
                obtain ⟨W7, e7⟩ : ∃ W7, w6.alloc (.cells #[.int .i64 E.off, .string E.rul, .int .i64 E.save, .string E.fmt, .int .i64 E.til] 46) = W7 := ⟨_, rfl⟩
                rw [e7]
                have g7 : W7.heap[w6.heap.size]? = some (.cells #[.int .i64 E.off, .string E.rul, .int .i64 E.save, .string E.fmt, .int .i64 E.til] 46 (0, 0)) := by rw [← e7]; exact heap_alloc_new w6 _
                have hb7 : Below w6.heap.size w6 W7 := by rw [← e7]; exact (Below.refl _ _).alloc (Nat.le_refl _) _
                have HM7 := Lib.hid (HM6.out.go hb7)
                have HB7 := Lib.hid hb7
                have G7 := Lib.hid g7
                have hz7 : w6.heap.size < W7.heap.size := (Array.getElem?_eq_some_iff.mp g7).1
                clear e7 g7 hb7 x0 x1 x2 xf0 xf1 xf2 hl6
                go_cut [12] (fun s12 wx => ∃ fk2 : Int, s12 = .int .i64 fk2 ∧ (k + 1 ≤ N.chs.length → fk2 = segK N (k + 1)) ∧ wx.heap[w6.heap.size]? = some (.cells #[.int .i64 E.off, .string E.rul, .int .i64 E.save, .string E.fmt, .int .i64 (segU N k)] 46 (0, 0)) ∧ Below w6.heap.size w6 wx)
                case first =>
                  by_cases hlt : k < N.chs.length
                  · have hne : N.chs ≠ [] := fun e => by rw [e] at hlt; exact absurd hlt (Nat.not_lt_zero _)
                    obtain ⟨cb, co, rfl, hcb, hat⟩ := HCC.out hne
                    have hb37 : Below W3.heap.size W3 W7 := HBR.out.trans ((HB6.out.trans (HB7.out.mono (Nat.le_of_lt hU6))).mono (by rw [← EU.out]; exact HBR.out.size))
                    have h1 := (hat k hlt).below hb37 hcb
                    obtain ⟨a0, a1⟩ := h1
                    have hcb7 : cb < W7.heap.size := Nat.lt_of_lt_of_le hcb hb37.size
                    have hcbne : cb ≠ w6.heap.size := by
                      have := HBR.out.size
                      have := EU.out
                      omega
                    obtain ⟨c, ec⟩ : ∃ c, N.chs[k] = c := ⟨_, rfl⟩
                    rw [ec] at a0 a1
                    have HU : Hid (segU N k = c.t) := by
                      show _ = _
                      unfold segU tAt
                      rw [if_pos hlt, List.getElem?_eq_getElem hlt, ec]
                      rfl
                    have HK2 : Hid (c.k = segK N (k + 1)) := by
                      show _ = _
                      unfold segK kAt
                      rw [if_neg (by omega), show k + 1 - 1 = k by omega, List.getElem?_eq_getElem hlt, ec]
                      rfl
                    obtain ⟨x0, x1, x2, xf0, xf1, xf2, hl7⟩ := HM7.out.cells
                    obtain ⟨y0, y1, y2, y3, y4, yf⟩ := cells5 G7.out
                    have yf4 := yf 4
                    clear hat hne hb37 ec yf
                    go_upto_region 25 with fail
                    go_region
                    all_goals go_wp2_with fail
                    all_goals go_meet
                    all_goals refine ⟨_, rfl, fun _ => HK2.out, ?_, ?_⟩
                    · rw [HU.out]
                      exact (heap_setCB G7.out _).trans rfl
                    · have hq := HB7.out
                      repeat (first | (with_reducible exact hq) | (with_reducible refine Below.drew ?_) | (with_reducible refine Below.setCell ?_ (by simp only [Nat.le_refl]) _))
                  · have HU : Hid (segU N k = 0) := by show _ = _; unfold segU; rw [if_neg hlt]
                    have hlt' : ¬ ((k : Int) < (N.chs.length : Int)) := by omega
                    go_wp2_with fail
                    go_meet
                    exact ⟨_, rfl, fun h => absurd h (by omega), by rw [HU.out, ← HE0.out]; exact G7.out, HB7.out⟩
                case rest =>
                  obtain ⟨fk2, rfl, hfk2, hgc, hbc⟩ := hcut
                  have HVC := Lib.hid (HV6.out.below hbc)
                  have HBC := Lib.hid (HB6.out.trans (hbc.mono (Nat.le_of_lt hU6)))
                  have HF := Lib.hid hfk2
                  obtain ⟨A, cS, rfl⟩ := own_sliceN HVC.out.row
                  have hLn := ersUp_length N k
                  obtain ⟨L, eL⟩ : ∃ L, ersUp N k = L := ⟨_, rfl⟩
                  rw [eL] at HVC hLn
                  have hUc := HVC.out.lt
                  have hgl : w6.heap.size < wc.heap.size := (Array.getElem?_eq_some_iff.mp hgc).1
                  obtain ⟨y0, y1, y2, y3, y4, yf⟩ := cells5 hgc
                  obtain ⟨s0, s1, sf⟩ := HVC.out.cells
                  have sf1 := sf 1
                  obtain ⟨u, eu⟩ : ∃ u, segU N k = u := ⟨_, rfl⟩
                  rw [eu] at y4
                  have HML : L.length + 1 ≤ maxLen := by simp only [maxLen]; omega
                  have HMB : (L.length + 1) * 56 ≤ 140737488355328 := by omega
                  have HROWH := Lib.hid (World.ownsRow.alloc HVC.out.row (.cells #[.int .i64 E.off, .string E.rul, .int .i64 E.save, .string E.fmt, .int .i64 u] 46))
                  have HNEWH := Lib.hid (World.news_of_block (cs := #[.int .i64 E.off, .string E.rul, .int .i64 E.save, .string E.fmt, .int .i64 u]) (t := 46) (fr := (0, 0)) (heap_alloc_new wc (.cells #[.int .i64 E.off, .string E.rul, .int .i64 E.save, .string E.fmt, .int .i64 u] 46)))
                  have HSZ : U ≤ (wc.alloc (.cells #[.int .i64 E.off, .string E.rul, .int .i64 E.save, .string E.fmt, .int .i64 u] 46)).heap.size := by simp; omega
                  have HEV2 : Hid (ersUp N (k + 1) = L ++ [⟨E.off, E.rul, E.save, E.fmt, u⟩]) := by
                    show _ = _
                    rw [ersUp_snoc, HEV.out, eL, eu]
                  have hbc1 : ∀ v ∈ [Value.int .i64 E.off, .string E.rul, .int .i64 E.save, .string E.fmt, .int .i64 u], v.oneCell' = true := by
                    intro v hv
                    simp at hv
                    rcases hv with rfl | rfl | rfl | rfl | rfl <;> rfl
                  have HONE := Lib.hid hbc1
                  clear hfk2 hgc hbc eL yf sf eu hbc1 hLn
                  go_wp2_with (at_builtin; refine wpList_append_own _ rfl _ _ 48 rfl U 46 i1 (.agg #[.int .i64 0, .string ⟨#[]⟩, .int .i64 0, .string ⟨#[]⟩, .int .i64 0]) 5 56 undErB hi1 hz10 hz11 hz12 rfl (by decide) _ _ _ rfl HROWH.out ⟨wc.heap.size, 0, none⟩ 1 1 [.int .i64 E.off, .string E.rul, .int .i64 E.save, .string E.fmt, .int .i64 u] rfl rfl HNEWH.out HONE.out HML HMB HSZ ?_; intro v' w10 hown10 hgrow10 _; obtain ⟨A', c', rfl⟩ := own_sliceN hown10; have y6 := vz_old HVC.out hgrow10; have t2 := (cell_of_row w10 _ 1 _ _ _ y6).trans (show _ = some (Value.slice A L.length cS) from rfl); have tz : w10.frozen? ⟨U, 1, none⟩ = false := (by simp [World.frozen?, y6]))
                  have HR := Lib.hid (vz_snoc (x := ⟨E.off, E.rul, E.save, E.fmt, u⟩) HVC.out hown10 hgrow10 y6)
                  go_roundw
                  case rel =>
                    refine ⟨k + 1, _, fk2, by omega, by go_num, rfl, HF.out, fun j hj => ?_, by rw [HEV2.out]; exact HR.out.1, HBC.out.trans HR.out.2⟩
                    rcases Nat.lt_or_ge j k with h3 | h3
                    · exact HAL.out j h3
                    · have : j = k := by omega
                      subst this
                      rw [EX.out]; exact EO.out
                  case measure => simp [intOf]; omega
            · obtain rfl : k = N.chs.length + 1 := by omega
              have HBE : Hid (¬ ∃ i, i ≤ N.chs.length ∧ erOk (segT N i) = false) := by
                show ¬ _
                rintro ⟨i, hi, h⟩
                rw [HAL.out i (by omega)] at h
                cases h
              have HZ0 : Hid (backC t nm = 0) := by
                show _ = _
                exact HP.out 0 (by rw [if_neg H7.out, if_neg HAA.out, if_neg HBE.out])
              obtain ⟨A, cS, rfl⟩ := own_sliceN HVR.out.row
              have hLn := ersUp_length N (N.chs.length + 1)
              have hLm : (ersUp N (N.chs.length + 1)).length ≤ maxLen := by simp only [maxLen]; omega
              have HLM := Lib.hid hLm
              obtain ⟨L, eL⟩ : ∃ L, ersUp N (N.chs.length + 1) = L := ⟨_, rfl⟩
              rw [eL] at HVR HLM
              have EL := Lib.hid eL
              obtain ⟨s0, s1, -⟩ := HVR.out.cells
              have hRU : w.heap.size + 1 < U := by have := HMR.out.lt; have := EU.out; omega
              clear hLn hLm eL hfk x0 x1 x2 xf0 xf1 xf2 hlk
              obtain ⟨z0, z1, z2, zf0, zf1, zf2⟩ := HMK.out.zero
              have hr8 := HMK.out.lt
              go_wp2
              obtain ⟨W8, e8, hb8, v0, v1, v2, ho8⟩ := HMK.out.out (.slice none 0 0) (.slice (some ⟨wr.heap.size, 0, none⟩) 1 1) (.slice none 0 0)
              have hs8 : W8.heap.size = wr.heap.size := by rw [← e8]; simp
              rw [e8]
              obtain ⟨W9, e9⟩ : ∃ W9, W8.alloc (.cells #[.string nm, .slice A L.length cS] 50) = W9 := ⟨_, rfl⟩
              rw [e9]
              have hk9 : ∀ b, b < W8.heap.size → W9.heap[b]? = W8.heap[b]? := fun b hb => by rw [← e9]; exact Below.heap_alloc _ _ _ hb
              have hR8 : w.heap.size + 1 < W8.heap.size := by rw [hs8]; exact hr8
              have hc9 : ∀ o, W9.cell? ⟨w.heap.size + 1, o, none⟩ = W8.cell? ⟨w.heap.size + 1, o, none⟩ := fun o => World.cell?_of_block (a := ⟨w.heap.size + 1, o, none⟩) (hk9 _ hR8)
              have u0 := (hc9 0).trans v0
              have u1 := (hc9 1).trans v1
              have u2 := (hc9 2).trans v2
              have g9 : W9.heap[wr.heap.size]? = some (.cells #[.string nm, .slice A L.length cS] 50 (0, 0)) := by rw [← e9, ← hs8]; exact heap_alloc_new W8 _
              have hb9 : Below w.heap.size w W9 := by rw [← e9]; exact hb8.alloc (by rw [hs8]; omega) _
              have hown : W9.ownsRow U 46 5 (.slice A L.length cS) L.length (erCells L) := own_keep HVR.out.row fun g e => by
                have hg := World.ownsRow.lt HVR.out.row g e
                exact (hk9 g (by rw [hs8]; exact hg.2)).trans (ho8 g (by omega))
              have hbk : BkAt W9 wr.heap.size 1 A cS nm L := ⟨g9, own_ers hown HLM.out, own_cap hown, Nat.le_refl _⟩
              refine bodyPost_ret (v := .tuple #[bkV wr.heap.size 1, .int .i64 0]) (by simp [results, Tryz.results11, go_sem, u0, u1, u2]) rfl ((HPO.out _ _).2 ⟨hb9, Or.inr ⟨HZ0.out, wr.heap.size, 1, A, cS, rfl, by show BkAt _ _ _ _ _ _ (ersUp N (N.chs.length + 1)); rw [EL.out]; exact hbk⟩⟩)
  · have hc' : (C == 0) = false := by simpa using hc
    have hc'' : (C != 0) = true := by simpa using hc
    have HN := Lib.hid hc
    clear hc
    go_wp2
    obtain ⟨W9, e9, hb9, v0, v1, v2, -⟩ := HM1.out.out (.slice none 0 0) (.slice none 0 0) (.slice none 0 0)
    rw [e9]
    refine bodyPost_ret (v := .tuple #[bkNone, .int .i64 C]) (by simp [results, Tryz.results11, go_sem, v0, v1, v2]) rfl (bk_no ?_ HN.out hb9)
    unfold backC
    rw [if_pos (by rw [EC.out]; exact HN.out), EC.out]
end Go.Proofs.YtmhfhmhjaecoaaaGreatDoor.BB
namespace Go.Proofs.YtmhfhmhjaecoaaaGreatDoor
open Go.RowKit
set_option linter.unusedVariables false
set_option linter.unusedSimpArgs false

def withinB (n a b : Int) : Bool := decide (a ≤ n ∧ n ≤ b)
theorem withinB_t {n a b : Int} (h : a ≤ n ∧ n ≤ b) : withinB n a b = true := by simp [withinB, h]
theorem withinB_f {n a b : Int} (h : ¬ (a ≤ n ∧ n ≤ b)) : withinB n a b = false := by unfold withinB; exact decide_eq_false h
theorem withinB_iff {n a b : Int} : withinB n a b = true ↔ a ≤ n ∧ n ≤ b := by simp [withinB]

theorem day_within (n a b : Int) (w : World) :
    Calls Tryz.prog 136 #[.int .i64 n, .int .i64 a, .int .i64 b] w fun e w' => e = .returned (.bool (withinB n a b)) ∧ w = w' := by
  by_cases h1 : a ≤ n <;> by_cases h2 : n ≤ b <;>
  · go_enter Tryz.func136, Tryz.ntmps136
    go_wp2
    go_ret
    exact ⟨ret_bool (by simp [withinB, h1, h2]), rfl⟩

abbrev dayV (k wd n : Int) : Value := .agg #[.int .i64 k, .int .i64 wd, .int .i64 n]

def dayB (k wd n : Int) : Bool := decide ((k = 1 ∧ wd = 0 ∧ 1 ≤ n ∧ n ≤ 31) ∨ (k = 2 ∧ 0 ≤ wd ∧ wd ≤ 6 ∧ n = 0) ∨ ((k = 3 ∨ k = 4) ∧ 0 ≤ wd ∧ wd ≤ 6 ∧ 1 ≤ n ∧ n ≤ 31))

theorem quiet_left {P : Program} {f : FuncId} {args : Array Value} {w : World} {n : Nat} {v : Value}
    (h : Calls P f args (w.drewN n) fun e w' => e = .returned v ∧ w.drewN n = w') : Calls P f args (w.drewN n) fun e w'' => e = .returned v ∧ ∃ m, w'' = w.drewN m :=
  h.mono fun _ _ ⟨he, hm⟩ => ⟨he, n, hm.symm⟩

theorem below_drewN {B : Nat} {a w : World} (h : Below B a w) (n : Nat) : Below B a (w.drewN n) := ⟨h.os, h.tape, h.output, h.size, h.block⟩

set_option maxHeartbeats 2000000 in
theorem Check_ok (k wd n : Int) (w : World) (h0 : dayB k wd n = true) :
    Calls Tryz.prog 86 #[dayV k wd n] w fun e w' => e = .returned (.int .i64 0) ∧ Below w.heap.size w w' := by
  simp only [dayB, decide_eq_true_eq] at h0
  rcases h0 with ⟨rfl, rfl, h⟩ | ⟨rfl, h, h2, rfl⟩ | ⟨rfl | rfl, h⟩
  · have t0 : withinB 0 0 6 = true := by decide
    have t2 : withinB n 1 31 = true := withinB_t (by omega)
    clear h
    go_enter Tryz.func86, Tryz.ntmps86
    go_wp2
    go_quiet ((go_at_call 136; exact quiet_left (day_within _ _ _ _)))
    go_wp2
    go_ret
    exact ⟨rfl, below_drewN ((Below.refl _ _).alloc (Nat.le_refl _) _) _⟩
  · have t2 : withinB 0 1 31 = false := by decide
    have t1 : withinB wd 0 6 = true := withinB_t (by omega)
    clear h
    go_enter Tryz.func86, Tryz.ntmps86
    go_wp2
    go_quiet ((go_at_call 136; exact quiet_left (day_within _ _ _ _)))
    go_wp2
    go_ret
    exact ⟨rfl, below_drewN ((Below.refl _ _).alloc (Nat.le_refl _) _) _⟩
  · have t1 : withinB wd 0 6 = true := withinB_t (by omega)
    have t2 : withinB n 1 31 = true := withinB_t (by omega)
    clear h
    go_enter Tryz.func86, Tryz.ntmps86
    go_wp2
    go_quiet ((go_at_call 136; exact quiet_left (day_within _ _ _ _)))
    go_wp2
    go_ret
    exact ⟨rfl, below_drewN ((Below.refl _ _).alloc (Nat.le_refl _) _) _⟩
  · have t1 : withinB wd 0 6 = true := withinB_t (by omega)
    have t2 : withinB n 1 31 = true := withinB_t (by omega)
    clear h
    go_enter Tryz.func86, Tryz.ntmps86
    go_wp2
    go_quiet ((go_at_call 136; exact quiet_left (day_within _ _ _ _)))
    go_wp2
    go_ret
    exact ⟨rfl, below_drewN ((Below.refl _ _).alloc (Nat.le_refl _) _) _⟩
set_option maxHeartbeats 2000000 in
theorem Check_no (k wd n : Int) (w : World) (h0 : dayB k wd n = false) :
    Calls Tryz.prog 86 #[dayV k wd n] w fun e w' => e = .returned (.int .i64 1) ∧ Below w.heap.size w w' := by
  simp only [dayB, decide_eq_false_iff_not] at h0
  have h : (k = 1 ∧ wd ≠ 0) ∨ (k = 1 ∧ wd = 0 ∧ ¬ (1 ≤ n ∧ n ≤ 31)) ∨ (k = 2 ∧ ¬ (0 ≤ wd ∧ wd ≤ 6)) ∨ (k = 2 ∧ (0 ≤ wd ∧ wd ≤ 6) ∧ n ≠ 0) ∨ (k = 3 ∧ ¬ (0 ≤ wd ∧ wd ≤ 6)) ∨ (k = 3 ∧ (0 ≤ wd ∧ wd ≤ 6) ∧ ¬ (1 ≤ n ∧ n ≤ 31)) ∨
      (k = 4 ∧ ¬ (0 ≤ wd ∧ wd ≤ 6)) ∨ (k = 4 ∧ (0 ≤ wd ∧ wd ≤ 6) ∧ ¬ (1 ≤ n ∧ n ≤ 31)) ∨ (k ≠ 1 ∧ k ≠ 2 ∧ k ≠ 3 ∧ k ≠ 4) := by omega
  clear h0
  rcases h with ⟨rfl, h⟩ | ⟨rfl, rfl, h⟩ | ⟨rfl, h⟩ | ⟨rfl, h1, h⟩ | ⟨rfl, h⟩ | ⟨rfl, h1, h⟩ | ⟨rfl, h⟩ | ⟨rfl, h1, h⟩ | h
  · have t3 : (wd == 0) = false := by simp; omega
    clear h
    go_enter Tryz.func86, Tryz.ntmps86
    go_wp2
    go_quiet ((go_at_call 136; exact quiet_left (day_within _ _ _ _)))
    go_wp2
    go_ret
    exact ⟨rfl, below_drewN ((Below.refl _ _).alloc (Nat.le_refl _) _) _⟩
  · have t2 : withinB n 1 31 = false := withinB_f (by omega)
    clear h
    go_enter Tryz.func86, Tryz.ntmps86
    go_wp2
    go_quiet ((go_at_call 136; exact quiet_left (day_within _ _ _ _)))
    go_wp2
    go_ret
    exact ⟨rfl, below_drewN ((Below.refl _ _).alloc (Nat.le_refl _) _) _⟩
  · have t1 : withinB wd 0 6 = false := withinB_f (by omega)
    clear h
    go_enter Tryz.func86, Tryz.ntmps86
    go_wp2
    go_quiet ((go_at_call 136; exact quiet_left (day_within _ _ _ _)))
    go_wp2
    go_ret
    exact ⟨rfl, below_drewN ((Below.refl _ _).alloc (Nat.le_refl _) _) _⟩
  · have t1 : withinB wd 0 6 = true := withinB_t (by omega)
    have t4 : (n == 0) = false := by simp; omega
    clear h
    go_enter Tryz.func86, Tryz.ntmps86
    go_wp2
    go_quiet ((go_at_call 136; exact quiet_left (day_within _ _ _ _)))
    go_wp2
    go_ret
    exact ⟨rfl, below_drewN ((Below.refl _ _).alloc (Nat.le_refl _) _) _⟩
  · have t1 : withinB wd 0 6 = false := withinB_f (by omega)
    clear h
    go_enter Tryz.func86, Tryz.ntmps86
    go_wp2
    go_quiet ((go_at_call 136; exact quiet_left (day_within _ _ _ _)))
    go_wp2
    go_ret
    exact ⟨rfl, below_drewN ((Below.refl _ _).alloc (Nat.le_refl _) _) _⟩
  · have t1 : withinB wd 0 6 = true := withinB_t (by omega)
    have t2 : withinB n 1 31 = false := withinB_f (by omega)
    clear h
    go_enter Tryz.func86, Tryz.ntmps86
    go_wp2
    go_quiet ((go_at_call 136; exact quiet_left (day_within _ _ _ _)))
    go_wp2
    go_ret
    exact ⟨rfl, below_drewN ((Below.refl _ _).alloc (Nat.le_refl _) _) _⟩
  · have t1 : withinB wd 0 6 = false := withinB_f (by omega)
    clear h
    go_enter Tryz.func86, Tryz.ntmps86
    go_wp2
    go_quiet ((go_at_call 136; exact quiet_left (day_within _ _ _ _)))
    go_wp2
    go_ret
    exact ⟨rfl, below_drewN ((Below.refl _ _).alloc (Nat.le_refl _) _) _⟩
  · have t1 : withinB wd 0 6 = true := withinB_t (by omega)
    have t2 : withinB n 1 31 = false := withinB_f (by omega)
    clear h
    go_enter Tryz.func86, Tryz.ntmps86
    go_wp2
    go_quiet ((go_at_call 136; exact quiet_left (day_within _ _ _ _)))
    go_wp2
    go_ret
    exact ⟨rfl, below_drewN ((Below.refl _ _).alloc (Nat.le_refl _) _) _⟩
  · have t5 : (k == 1) = false := by simp; omega
    have t6 : (k == 2) = false := by simp; omega
    have t7 : (k == 3) = false := by simp; omega
    have t8 : (k == 4) = false := by simp; omega
    clear h
    go_enter Tryz.func86, Tryz.ntmps86
    go_wp2
    go_quiet ((go_at_call 136; exact quiet_left (day_within _ _ _ _)))
    go_wp2
    go_ret
    exact ⟨rfl, below_drewN ((Below.refl _ _).alloc (Nat.le_refl _) _) _⟩

end Go.Proofs.YtmhfhmhjaecoaaaGreatDoor
namespace Go.Proofs.YtmhfhmhjaecoaaaGreatDoor
open Go.RowKit Go.Joins
open Classical
set_option linter.unusedVariables false
set_option linter.unusedSimpArgs false

structure Ru where
  (nm : ByteArray)
  (yf yt mo dk dw dn tm ck sv : Int)
  (lt : ByteArray)

def ruChk (r : Ru) : Int :=
  if nameB r.nm = false then 3 else
  if r.lt.toList ≠ [45] ∧ abbrB r.lt = false then 3 else
  if ¬ (1900 ≤ r.yf ∧ r.yf ≤ 2100) then 1 else
  if ¬ (r.yf ≤ r.yt ∧ r.yt ≤ 2100) then 1 else
  if ¬ (1 ≤ r.mo ∧ r.mo ≤ 12) then 1 else
  if dayB r.dk r.dw r.dn = false then 1 else
  if Civ.mlen 1901 r.mo < r.dn then 1 else
  if ¬ (-604800 ≤ r.tm ∧ r.tm ≤ 604800) then 1 else
  if ¬ (0 ≤ r.ck ∧ r.ck ≤ 2) then 1 else
  if ¬ (0 ≤ r.sv ∧ r.sv ≤ 10800) then 1 else 0

structure OkRu (r : Ru) : Prop where
  nm : nameB r.nm = true
  lt : r.lt.toList = [45] ∨ abbrB r.lt = true
  f1 : 1900 ≤ r.yf
  f2 : r.yf ≤ 2100
  t1 : r.yf ≤ r.yt
  t2 : r.yt ≤ 2100
  m1 : 1 ≤ r.mo
  m2 : r.mo ≤ 12
  d : dayB r.dk r.dw r.dn = true
  n : r.dn ≤ Civ.mlen 1901 r.mo
  a1 : -604800 ≤ r.tm
  a2 : r.tm ≤ 604800
  c1 : 0 ≤ r.ck
  c2 : r.ck ≤ 2
  s1 : 0 ≤ r.sv
  s2 : r.sv ≤ 10800
theorem ru_ok {r : Ru} (h : ruChk r = 0) : OkRu r := by
  unfold ruChk at h
  split at h
  · omega
  rename_i h1
  split at h
  · omega
  rename_i h2
  split at h
  · omega
  rename_i h3
  split at h
  · omega
  rename_i h4
  split at h
  · omega
  rename_i h5
  split at h
  · omega
  rename_i h6
  split at h
  · omega
  rename_i h7
  split at h
  · omega
  rename_i h8
  split at h
  · omega
  rename_i h9
  split at h
  · omega
  rename_i h10
  refine ⟨by simpa using h1, ?_, by omega, by omega, by omega, by omega, by omega, by omega, by simpa using h6, by omega, by omega, by omega, by omega, by omega, by omega, by omega⟩
  by_cases hl : r.lt.toList = [45]
  · exact Or.inl hl
  · right
    cases ha : abbrB r.lt
    · exact absurd ⟨hl, ha⟩ h2
    · rfl
theorem ok_ru {r : Ru} (o : OkRu r) : ruChk r = 0 := by
  unfold ruChk
  rw [if_neg (by rw [o.nm]; simp), if_neg (fun h => by
    rcases o.lt with h1 | h1
    · exact h.1 h1
    · rw [h1] at h; exact absurd h.2 (by simp)), if_neg (fun h => h ⟨o.f1, o.f2⟩), if_neg (fun h => h ⟨o.t1, o.t2⟩), if_neg (fun h => h ⟨o.m1, o.m2⟩), if_neg (by rw [o.d]; simp), if_neg (by have := o.n; omega), if_neg (fun h => h ⟨o.a1, o.a2⟩), if_neg (fun h => h ⟨o.c1, o.c2⟩), if_neg (fun h => h ⟨o.s1, o.s2⟩)]

/-- RuleYears -/
theorem years_law (r : Ru) (o : OkRu r) (a b : Int) (ha : r.yf ≤ a ∧ a ≤ r.yt) (hb : r.yf ≤ b ∧ b ≤ r.yt) : ruChk { r with yf := min a b, yt := max a b } = 0 := by
  have h1 := o.f1; have h2 := o.f2; have h3 := o.t1; have h4 := o.t2
  refine ok_ru ⟨o.nm, o.lt, ?_, ?_, ?_, ?_, o.m1, o.m2, o.d, o.n, o.a1, o.a2, o.c1, o.c2, o.s1, o.s2⟩ <;> simp only <;> omega

end Go.Proofs.YtmhfhmhjaecoaaaGreatDoor
namespace Go.Proofs.YtmhfhmhjaecoaaaGreatDoor
open Go
set_option linter.unusedVariables false

def isDg (c : UInt8) : Prop := 48 ≤ c.toNat ∧ c.toNat ≤ 57
theorem dg_of {k : Nat} (h : k < 10) : isDg (UInt8.ofNat (48 + k)) := by
  unfold isDg
  simp only [UInt8.toNat_ofNat']
  omega
theorem dec_dg (u : Nat) : ∀ c ∈ Lib.decDigits u, isDg c := by
  induction u using Nat.strongRecOn with
  | _ u ih =>
    intro c hc
    rw [Lib.decDigits] at hc
    split at hc
    · next h =>
      simp only [List.mem_singleton] at hc
      subst hc
      exact dg_of h
    · next h =>
      rcases List.mem_append.1 hc with hc | hc
      · exact ih (u / 10) (by omega) c hc
      · simp only [List.mem_singleton] at hc
        subst hc
        exact dg_of (by omega)
theorem dec_ne (u : Nat) : Lib.decDigits u ≠ [] := by
  intro h
  have := Lib.decDigits_length u
  rw [h] at this
  have := Lib.nDigits_pos u
  simp at *
  omega
/-- what digits say -/
def numV (l : List UInt8) : Nat := l.foldl (fun a c => 10 * a + (c.toNat - 48)) 0
theorem numV_snoc (l : List UInt8) (c : UInt8) : numV (l ++ [c]) = 10 * numV l + (c.toNat - 48) := by simp [numV]
theorem numV_dec (u : Nat) : numV (Lib.decDigits u) = u := by
  induction u using Nat.strongRecOn with
  | _ u ih =>
    rw [Lib.decDigits]
    split
    · next h =>
      simp only [numV, List.foldl_cons, List.foldl_nil, UInt8.toNat_ofNat']
      omega
    · next h =>
      rw [numV_snoc, ih (u / 10) (by omega)]
      simp only [UInt8.toNat_ofNat']
      omega
theorem dec_inj {u v : Nat} (h : Lib.decDigits u = Lib.decDigits v) : u = v := by rw [← numV_dec u, ← numV_dec v, h]
theorem itoa_nn {n : Int} (h : 0 ≤ n) : Lib.itoa n = Lib.decDigits n.toNat := by unfold Lib.itoa; rw [if_neg (by omega)]
theorem itoa_inj {a b : Int} (h0 : 0 ≤ a) (h1 : 0 ≤ b) (h : Lib.itoa a = Lib.itoa b) : a = b := by
  rw [itoa_nn h0, itoa_nn h1] at h
  have := dec_inj h
  omega
theorem itoa_dg {n : Int} (h : 0 ≤ n) : ∀ c ∈ Lib.itoa n, isDg c := by rw [itoa_nn h]; exact dec_dg _
theorem itoa_ne {n : Int} (h : 0 ≤ n) : Lib.itoa n ≠ [] := by rw [itoa_nn h]; exact dec_ne _
theorem T2_dg {n : Int} (h0 : 0 ≤ n) (h1 : n < 100) : ∀ c ∈ T2 n, isDg c := by
  intro c hc
  simp only [T2, List.mem_cons, List.not_mem_nil, or_false] at hc
  rcases hc with rfl | rfl
  · exact dg_of (by omega)
  · exact dg_of (by omega)

/-- the first place of a letter that stands behind a text without it -/
theorem index_sep (l r : List UInt8) (s : UInt8) (h : ∀ c ∈ l, c ≠ s) : Lib.index (l ++ s :: r) [s] = l.length := by
  refine Lib.index_first (by simp) ?_ ?_
  · unfold Lib.occAt
    rw [List.drop_append_of_le_length (Nat.le_refl _), List.drop_length]
    simp
  · intro j hj
    unfold Lib.occAt
    have hj' : j < (l ++ s :: r).length := by simp; omega
    rw [List.drop_eq_getElem_cons hj']
    have hne : (l ++ s :: r)[j] ≠ s := by
      rw [List.getElem_append_left hj]
      exact h _ (List.getElem_mem _)
    simp only [List.isPrefixOf_cons_cons, Bool.and_eq_false_iff]
    left
    simpa using fun e => hne e.symm
theorem cut_sep (l r : List UInt8) (s : UInt8) (h : ∀ c ∈ l, c ≠ s) : Lib.cut (l ++ s :: r) [s] = (l, r, true) := by
  unfold Lib.cut
  rw [index_sep l r s h, if_pos (by omega)]
  simp
theorem dg_ne {c : UInt8} (h : isDg c) (s : UInt8) (hs : s.toNat < 48 ∨ 57 < s.toNat) : c ≠ s := by
  rintro rfl
  unfold isDg at h
  omega

/-! ### spans -/
/-- behind the hours -/
def spanR (n : Int) : List UInt8 := T2 (n / 60 % 60) ++ (if n % 60 = 0 then [] else [58] ++ T2 (n % 60))
theorem spanP_eq (n : Int) : spanP n = Lib.itoa (n / 3600) ++ 58 :: spanR n := rfl
theorem spanR_hour (n : Int) : spanR (n + 3600) = spanR n := by
  unfold spanR
  rw [show (n + 3600) / 60 % 60 = n / 60 % 60 by omega, show (n + 3600) % 60 = n % 60 by omega]
theorem cut_span {n : Int} (h : 0 ≤ n) : Lib.cut (spanP n) [58] = (Lib.itoa (n / 3600), spanR n, true) := by
  rw [spanP_eq]
  exact cut_sep _ _ _ fun c hc => dg_ne (itoa_dg (by omega) c hc) 58 (by decide)
theorem span_hour_ne {n : Int} (h : 0 ≤ n) : spanP n ≠ spanP (n + 3600) := by
  intro e
  have := congrArg (fun l => (Lib.cut l [58]).1) e
  simp only [cut_span h, cut_span (show 0 ≤ n + 3600 by omega)] at this
  have := itoa_inj (by omega) (by omega) this
  omega
theorem span_plus {n : Int} (h : 0 ≤ n) : Lib.hasPrefix (spanP n) [45] = false := by
  rw [spanP_eq]
  obtain ⟨c, r, e⟩ : ∃ c r, Lib.itoa (n / 3600) = c :: r := List.exists_cons_of_ne_nil (itoa_ne (by omega))
  have hc := dg_ne (itoa_dg (show 0 ≤ n / 3600 by omega) c (by rw [e]; simp)) 45 (by decide)
  rw [e]
  simp only [Lib.hasPrefix, List.cons_append, List.isPrefixOf_cons_cons, Bool.and_eq_false_iff]
  left
  simpa using fun e => hc e.symm
end Go.Proofs.YtmhfhmhjaecoaaaGreatDoor
namespace Go.Proofs.YtmhfhmhjaecoaaaGreatDoor
open Go.RowKit Go.Joins
set_option linter.unusedVariables false
set_option linter.unusedSimpArgs false

theorem txt_arr (l : List UInt8) : (⟨l.toArray⟩ : ByteArray) = txt l := rfl
theorem lit_txt1 (a : UInt8) : (⟨#[a]⟩ : ByteArray) = txt [a] := rfl
theorem bytes_toList_txt (l : List UInt8) : (txt l).toList = l := by rw [ByteArray.toList_eq, txt_data]

theorem spanP_len {n : Int} (h0 : 0 ≤ n) (h1 : n ≤ 604800) : (spanP n).length ≤ 9 := by
  unfold spanP
  have := itoa_len3 (n := n / 3600) (by omega) (by omega)
  simp only [List.length_append, T2_length, List.length_cons, List.length_nil]
  split <;> simp [T2_length] <;> omega

end Go.Proofs.YtmhfhmhjaecoaaaGreatDoor
namespace Go.Proofs.YtmhfhmhjaecoaaaGreatDoor
open Go.RowKit Go.Joins
set_option linter.unusedVariables false
set_option linter.unusedSimpArgs false

theorem lt_of_cellM {w : World} {p : Addr} {v : Value} (h : w.cell? p = some v) : p.block < w.heap.size := by
  unfold World.cell? at h
  cases hb : w.heap[p.block]? with
  | none => simp [hb] at h
  | some o => exact (Array.getElem?_eq_some_iff.1 hb).1
/-- internal/bytealg.MaxLen holds some number -/
def MaxLen (w : World) : Prop := ∃ m, w.cell? ⟨0, 0, none⟩ = some (.int .i64 m)
theorem MaxLen.below {w w' : World} (h : MaxLen w) (hb : Below w.heap.size w w') : MaxLen w' := by
  obtain ⟨m, hm⟩ := h
  exact ⟨m, (hb.cell (show (⟨0, 0, none⟩ : Addr).block < w.heap.size from lt_of_cellM hm)).trans hm⟩
theorem below_drewN0 (w : World) (n : Nat) : Below w.heap.size w (w.drewN n) := below_drewN' (Below.refl _ _) n
theorem cut_any (s p : List UInt8) (w : World) (hs : s.length < 4294967281) (hm : MaxLen w) :
    Calls Tryz.prog 82 #[.string (txt s), .string (txt p)] w fun e w' => e = .returned (.tuple #[.string (txt (Lib.cut s p).1), .string (txt (Lib.cut s p).2.1), .bool (Lib.cut s p).2.2]) ∧ Below w.heap.size w w' := by
  obtain ⟨m, hm⟩ := hm
  have := Tryz.strings_Cut (txt s) (txt p) m w (by rw [txt_size]; exact hs) hm
  rw [txt_data, txt_data] at this
  refine this.mono ?_
  rintro e w' ⟨rfl, n, rfl⟩
  exact ⟨rfl, below_drewN0 w n⟩

theorem txt_ne {a b : List UInt8} (h : a ≠ b) : ((txt a).toList == (txt b).toList) = false := by
  rw [bytes_toList_txt, bytes_toList_txt]; simpa using h

end Go.Proofs.YtmhfhmhjaecoaaaGreatDoor
