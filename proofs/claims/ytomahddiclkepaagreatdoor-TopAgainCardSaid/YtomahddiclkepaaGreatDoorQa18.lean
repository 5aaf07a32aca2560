/- state.Eras: eras with their turns. (Turned).Within: the turns of an era within a span. names.Resolve: the walk. state.At: which type it is at a time, by a book. table.Make: its error answer; what it returns. table.Make: what the maker has left to do; eras with turns in memory, in use. A loop's body out of a function's code. -/
import Derived.Test.YtomahddiclkepaaGreatDoorQa17
import Derived.Test.YtomahddiclkepaaGreatDoorQa09
import Derived.Test.YtomahddiclkepaaGreatDoorQa01
import Derived.Test.YtomahddiclkepaaGreatDoorQa02
import Derived.Test.YtomahddiclkepaaGreatDoorProg
namespace Go.Proofs.YtomahddiclkepaaGreatDoor
open Go.RowKit Go.Joins
open Classical
set_option linter.unusedVariables false
set_option linter.unusedSimpArgs false
structure TdM where
 td : Td
 tv : Value
abbrev tmL (m : TdM) : List Value := (tdCells m.td m.tv).toList
def tmFlat (l : List TdM) : List Value := l.flatMap tmL
theorem tmFlat_snoc (l : List TdM) (m : TdM) : tmFlat (l ++ [m]) = tmFlat l ++ (tdCells m.td m.tv).toList := by simp [tmFlat]
theorem infoTd : (Tryz.prog.info? 119).map (fun i => (i.zero, i.size, i.bytes)) = some (some (.agg #[.int .i64 0, .string ⟨#[]⟩, .int .i64 0, .string ⟨#[]⟩, .int .i64 0, .slice none 0 0, .string ⟨#[]⟩]), 7, 96) := by kernel_rfl
theorem undTd : Tryz.prog.underlying 115 = some (.slice 119) := by kernel_rfl
structure TdsAt (W : World) (B : Nat) (v : Value) (ms : List TdM) : Prop where
 row : W.ownsRow B 119 7 v ms.length (tmFlat ms)
 ts : ∀ m ∈ ms, W.ownsRow B 49 3 m.tv m.td.ts.length (tnCells m.td.ts)
def ErasPost (rules : List Ru) (l : List Er) (w : World) (e : Ending) (w' : World) : Prop :=
 Below w.heap.size w w' ∧ (firstE (tdE rules) l ≠ 0 → e = .returned (.tuple #[.slice none 0 0, .int .i64 (firstE (tdE rules) l)])) ∧
 (firstE (tdE rules) l = 0 → ∃ v ms, e = .returned (.tuple #[v, .int .i64 0]) ∧ ms.map (·.td) = l.map (tdR rules) ∧ TdsAt w' w.heap.size v ms)
theorem ErasPost.bad {rules : List Ru} {l : List Er} {w w' : World} {c : Int} (h : firstE (tdE rules) l = c) (hc : c ≠ 0) (hb : Below w.heap.size w w') : ErasPost rules l w (.returned (.tuple #[.slice none 0 0, .int .i64 c])) w' :=
 ⟨hb, fun _ => by rw [h], fun g => absurd (h.symm.trans g) hc⟩
theorem ErasPost.ok {rules : List Ru} {l : List Er} {w w' : World} {v : Value} {ms : List TdM} (h : firstE (tdE rules) l = 0) (hm : ms.map (·.td) = l.map (tdR rules)) (ht : TdsAt w' w.heap.size v ms) (hb : Below w.heap.size w w') : ErasPost rules l w (.returned (.tuple #[v, .int .i64 0])) w' :=
 ⟨hb, fun g => absurd h g, fun _ => ⟨v, ms, rfl, hm, ht⟩⟩
theorem heap_setSt {w : World} {R i : Nat} {cs : Array Value} {T : TypeId} {f : Nat × Nat} (h : w.heap[R]? = some (.cells cs T f)) (v : Value) : (w.setCell ⟨R, i, none⟩ v).heap[R]? = some (.cells (cs.setIfInBounds i v) T f) := by
 simp [World.setCell, Array.getElem?_modify, h]
theorem own_type {W : World} {B : Nat} {e T : TypeId} {s n R : Nat} {v : Value} {xs : List Value} {cs : Array Value} {f : Nat × Nat} (h : W.ownsRow B e s v n xs) (hR : W.heap[R]? = some (.cells cs T f)) (hne : e ≠ T) : v.ownBlock ≠ some R := by
 rcases h.2 with ⟨e1, _⟩ | ⟨g, cap, cur, e1, _, hg, _⟩
 ·rw [e1]; simp [Value.ownBlock]
 ·rw [e1]
  simp only [Value.ownBlock]
  intro e2
  injection e2 with e2
  subst e2
  rw [hR] at hg
  injection hg with hg
  injection hg with _ h2 _
  exact hne h2.symm
theorem own_grown {W W' : World} {B B' : Nat} {e e' : TypeId} {s s' n n' : Nat} {v v' : Value} {xs xs' : List Value} (h : W.ownsRow B e s v n xs) (h' : W.ownsRow B' e' s' v' n' xs') (hne : e ≠ e') (hg : W.grownBy W' v'.ownBlock) : W'.ownsRow B e s v n xs := by
 refine own_keep h fun g eg => hg.block g (World.ownsRow.lt h g eg).2 fun e2 => ?_
 rcases own_apart h h' hne with h3 | h3
 ·rw [h3] at eg; cases eg
 ·exact h3 (by rw [eg, e2])
theorem firstE_upto {α : Type} (f : α → Int) (l : List α) (k : Nat) (hk : k < l.length) (h : firstE f (l.take k) = 0) (h2 : f l[k] ≠ 0) : firstE f l = f l[k] := by
 have key : ∀ (a b : List α) (x : α), firstE f a = 0 → f x ≠ 0 → firstE f (a ++ x :: b) = f x := by
  intro a b x
  induction a with
  | nil => intro _ hx; show (if f x = 0 then firstE f b else f x) = f x; rw [if_neg hx]
  | cons y a ih =>
   intro ha hx
   have e : firstE f (y :: a) = if f y = 0 then firstE f a else f y := rfl
   rw [e] at ha
   show (if f y = 0 then firstE f (a ++ x :: b) else f y) = f x
   by_cases hy : f y = 0
   ·rw [if_pos hy] at ha ⊢; exact ih ha hx
   ·rw [if_neg hy] at ha; exact absurd ha hy
 have := key (l.take k) (l.drop (k + 1)) l[k] h h2
 rwa [← List.drop_eq_getElem_cons hk, List.take_append_drop] at this
theorem firstE_next {α : Type} (f : α → Int) (l : List α) (k : Nat) (hk : k < l.length) (h : firstE f (l.take k) = 0) (h2 : f l[k] = 0) : firstE f (l.take (k + 1)) = 0 := by
 rw [firstE_zero] at h ⊢
 intro x hx
 rw [List.take_succ_eq_append_getElem hk] at hx
 rcases List.mem_append.1 hx with hx | hx
 ·exact h x hx
 ·rw [List.mem_singleton.1 hx]; exact h2
theorem tdE_nil {rules : List Ru} {x : Er} (h : x.ru.data.toList = []) : tdE rules x = 0 ∧ tdR rules x = ⟨x, [], dashB⟩ := by
 unfold tdE tdR; rw [if_pos h, if_pos h]; exact ⟨rfl, rfl⟩
theorem tdE_go {rules : List Ru} {x : Er} (h : x.ru.data.toList ≠ []) : tdE rules x = (mkR rules x.ru x.off).1 ∧ tdR rules x = ⟨x, (mkR rules x.ru x.off).2, firstLt (mkR rules x.ru x.off).2⟩ := by
 unfold tdE tdR; rw [if_neg h, if_neg h]; exact ⟨rfl, rfl⟩
theorem firstLt_idx (l : List Tn) : (idxF (fun u : Tn => decide (u.s = 0)) l = -1 ∧ firstLt l = dashB) ∨ ∃ k, ∃ h : k < l.length, idxF (fun u : Tn => decide (u.s = 0)) l = (k : Nat) ∧ firstLt l = l[k].lt := by
 unfold idxF firstLt fstK
 by_cases h : (l.any fun u => decide (u.s = 0)) = true
 ·have hlt : (l.findIdx fun u => decide (u.s = 0)) < l.length := List.findIdx_lt_length.2 (by
   obtain ⟨x, hx, e⟩ := List.any_eq_true.1 h
   exact ⟨x, hx, e⟩)
  rw [if_pos h, List.getElem?_eq_getElem hlt]
  exact .inr ⟨_, hlt, rfl, rfl⟩
 ·have hno : (l.findIdx fun u => decide (u.s = 0)) = l.length := List.findIdx_eq_length.2 fun x hx => by
   cases e : decide (x.s = 0) with
   | false => rfl
   | true => exact absurd (List.any_eq_true.2 ⟨x, hx, e⟩) h
  rw [if_neg h, hno, List.getElem?_eq_none (Nat.le_refl _)]
  exact .inl ⟨rfl, rfl⟩
set_option maxRecDepth 100000 in
set_option maxHeartbeats 20000000 in
theorem Eras_any (MK : MakeSays) (rules : List Ru) (rv zv lv : Value) (nm : ByteArray) (l : List Er) (v : Value) (w : World) (hR : RowsAt (fun r : Ru => (ruCells r).toList) 11 w.heap.size w rv rules) (hro : ∀ r ∈ rules, OkRu r) (hr40 : rules.length ≤ 40)
  (hE : RowsAt (fun x : Er => (erCells x).toList) 5 w.heap.size w v l) (hoff : ∀ x ∈ l, -75600 ≤ x.off ∧ x.off ≤ 75600) (hl : l.length ≤ 1000) (hz : ∃ p n c, zv = .slice p n c) (hlv : ∃ p n c, lv = .slice p n c) :
  Calls Tryz.prog 48 #[.agg #[rv, zv, lv], .agg #[.string nm, v]] w (ErasPost rules l w) := by
 obtain ⟨zp, zn, zc, rfl⟩ := hz
 obtain ⟨lp, ln, lc, rfl⟩ := hlv
 have HRL := Lib.hid hR
 obtain ⟨p1, c1, rfl, -, -⟩ := hR
 obtain ⟨pv, cv, rfl, ⟨-, hlc⟩, hat⟩ := hE
 obtain ⟨W0, eW⟩ : ∃ W0, (w.alloc (.cells #[.slice p1 rules.length c1, .slice zp zn zc, .slice lp ln lc] 26)).alloc (.cells #[.string nm, .slice pv l.length cv] 46) = W0 := ⟨_, rfl⟩
 have hb0 : Below w.heap.size w W0 := by rw [← eW]; exact ((Below.refl _ _).alloc (Nat.le_refl _) _).alloc (by simp) _
 have hz0 : W0.heap.size = w.heap.size + 2 := by rw [← eW]; simp
 have hbx : W0.heap[w.heap.size]? = some (.cells #[.slice p1 rules.length c1, .slice zp zn zc, .slice lp ln lc] 26 (0, 0)) := by
  rw [← eW, Below.heap_alloc _ _ _ (by simp)]
  exact heap_alloc_new w _
 have hzx : W0.heap[w.heap.size + 1]? = some (.cells #[.string nm, .slice pv l.length cv] 46 (0, 0)) := by
  rw [← eW]
  exact alloc_at _ _ _ (by simp)
 have x1 := (cell_of_row W0 _ 1 _ _ _ hzx).trans rfl
 have HEW := Lib.hid eW
 have HB0 := Lib.hid hb0
 have HBX := Lib.hid hbx
 have HAT := Lib.hid hat
 have HOFF := Lib.hid hoff
 have HMK : Hid (∀ (W : World) (nm : ByteArray) (off : Int), Below w.heap.size w W → -75600 ≤ off → off ≤ 75600 → Calls Tryz.prog 41 #[.slice p1 rules.length c1, .string nm, .int .i64 off] W (MakePost rules nm off W)) := by
  show ∀ W nm off, _
  intro W nm off hb h1 h2
  exact MK rules nm off _ W ((HRL.out.below hb (Nat.le_refl _)).mono hb.size) hro hr40 h1 h2
 have HLEN : Hid (∀ nm off, (mkR rules nm off).2.length ≤ 1500) := fun nm off => (mkR_len hro nm off).1
 have HBAD := Lib.hid (fun k hk h1 h2 => firstE_upto (tdE rules) l k hk h1 h2)
 have HNXT := Lib.hid (fun k hk h1 h2 => firstE_next (tdE rules) l k hk h1 h2)
 obtain ⟨i1, hi1, hz10, hz11, hz12⟩ := info_parts infoTd
 clear eW hb0 hbx hzx hat hoff hro
 go_enter Tryz.func48, Tryz.ntmps48
 go_upto_region 2 with fail
 rw [HEW.out]
 go_wp2_with fail
 go_loopw [6, 16] (fun v6 i wr => ∃ (k : Nat) (ms : List TdM), k ≤ l.length ∧ i = .int .i64 k ∧ Hid (ms.map (·.td) = (l.take k).map (tdR rules)) ∧ Hid (firstE (tdE rules) (l.take k) = 0) ∧ Hid (TdsAt wr W0.heap.size v6 ms) ∧ Hid (Below W0.heap.size W0 wr)) (fun _ i _ => l.length - (intOf i).toNat)
 case atStart => exact ⟨0, [], Nat.zero_le _, rfl, rfl, rfl, ⟨World.ownsRow_nil _ _ _ _, fun m hm => absurd hm (List.not_mem_nil)⟩, Lib.hid (Below.refl _ _)⟩
 case round =>
  obtain ⟨k, ms, hk, rfl, HMS, HFE, HTD, HBR⟩ := hrel
  have hzr := HBR.out.size
  have hml : ms.length = k := by
   have := congrArg List.length HMS.out
   simpa [List.length_take, Nat.min_eq_left hk] using this
  have hmle : ms.length ≤ 1000 := by omega
  clear hml
  by_cases hkl : k < l.length
  ·obtain ⟨bb, o, rfl, hbl, hcs⟩ := HAT.out (List.ne_nil_of_length_pos (by omega))
   have hck := hcs k hkl
   have hoff := HOFF.out _ (List.getElem_mem hkl)
   have HB1 := Lib.hid (HBAD.out k hkl HFE.out)
   have HN1 := Lib.hid (HNXT.out k hkl HFE.out)
   have HSN : Hid (∀ m : TdM, m.td = tdR rules l[k] → (ms ++ [m]).map (·.td) = (l.take (k + 1)).map (tdR rules)) := by
    show ∀ m : TdM, _
    intro m hm
    rw [List.take_succ_eq_append_getElem hkl, List.map_append, List.map_append, HMS.out]
    simp [hm]
   have HBW := Lib.hid (HB0.out.trans (HBR.out.mono HB0.out.size))
   have up : ∀ j u, w.cell? ⟨bb, o + k * 5 + j, none⟩ = some u → wr.cell? ⟨bb, o + k * 5 + j, none⟩ = some u := fun j u h => (HBW.out.cell (p := ⟨bb, o + k * 5 + j, none⟩) hbl).trans h
   obtain ⟨q, eq⟩ : ∃ q, l[k] = q := ⟨_, rfl⟩
   rw [eq] at hck hoff HB1 HN1 HSN
   clear eq hcs
   have z0 := up 0 _ (hck 0 _ rfl)
   have z1 := up 1 _ (hck 1 _ rfl)
   have z2 := up 2 _ (hck 2 _ rfl)
   have z3 := up 3 _ (hck 3 _ rfl)
   have z4 := up 4 _ (hck 4 _ rfl)
   rw [Nat.add_zero] at z0
   clear up hck
   have HNIL := Lib.hid (fun h => tdE_nil (rules := rules) (x := q) h)
   have HGO := Lib.hid (fun h => tdE_go (rules := rules) (x := q) h)
   obtain ⟨off, ru, sv, fm, un⟩ := q
   simp only at hoff z0 z1 z2 z3 z4 HNIL HGO
   obtain ⟨W3, eW3⟩ : ∃ W3, (wr.alloc (.cells #[.int .i64 off, .string ru, .int .i64 sv, .string fm, .int .i64 un] 43)).alloc (.cells #[.int .i64 off, .string ru, .int .i64 sv, .string fm, .int .i64 un, .slice none 0 0, .string ⟨#[45]⟩] 119) = W3 := ⟨_, rfl⟩
   obtain ⟨eb, eeb⟩ : ∃ eb, wr.heap.size = eb := ⟨_, rfl⟩
   have hx3 : W3.heap[eb]? = some (.cells #[.int .i64 off, .string ru, .int .i64 sv, .string fm, .int .i64 un] 43 (0, 0)) := by
    rw [← eW3, Below.heap_alloc _ _ _ (by simp; omega)]
    exact alloc_at _ _ _ eeb.symm
   have ht3 : W3.heap[eb + 1]? = some (.cells #[.int .i64 off, .string ru, .int .i64 sv, .string fm, .int .i64 un, .slice none 0 0, .string ⟨#[45]⟩] 119 (0, 0)) := by
    rw [← eW3]
    exact alloc_at _ _ _ (by simp; omega)
   have hz3 : W3.heap.size = eb + 2 := by rw [← eW3]; simp; omega
   have hk3 : ∀ b, b < wr.heap.size → W3.heap[b]? = wr.heap[b]? := fun b hb => by rw [← eW3, Below.heap_alloc _ _ _ (by simp; omega), Below.heap_alloc _ _ _ hb]
   have hb3 : Below wr.heap.size wr W3 := by rw [← eW3]; exact ((Below.refl _ _).alloc (Nat.le_refl _) _).alloc (by simp) _
   have HBR3 := Lib.hid (HBR.out.trans (hb3.mono hzr))
   have HTD3 : Hid (TdsAt W3 W0.heap.size u6 ms) := ⟨own_keep HTD.out.row fun g e => hk3 g (World.ownsRow.lt HTD.out.row g e).2, fun m hm => own_keep (HTD.out.ts m hm) fun g e => hk3 g (World.ownsRow.lt (HTD.out.ts m hm) g e).2⟩
   have HGN : Hid (∀ g, u6.ownBlock = some g → g < eb) := fun g e => by have := (World.ownsRow.lt HTD.out.row g e).2; omega
   have HX3 := Lib.hid hx3
   have HT3 := Lib.hid ht3
   have HEW3 := Lib.hid eW3
   have HEB := Lib.hid eeb
   clear hk3 hb3 hx3 ht3 eW3 HTD
   go_upto_region 6 with fail
   rw [HEW3.out]
   have hebz : W0.heap.size ≤ eb := by have := HEB.out; omega
   have e0 : W3.cell? ⟨eb, 0, none⟩ = some (.int .i64 off) := (cell_of_row W3 _ 0 _ _ _ HX3.out).trans rfl
   have e1 : W3.cell? ⟨eb, 1, none⟩ = some (.string ru) := (cell_of_row W3 _ 1 _ _ _ HX3.out).trans rfl
   have hlt3 : eb + 1 < W3.heap.size := by omega
   have hge3 : W0.heap.size ≤ W3.heap.size := by omega
   clear hz3
   clear z0 z1 z2 z3 z4
   by_cases hru : ru.toList = []
   ·have b0 : ru.toList.isEmpty = true := by rw [hru]; rfl
    obtain ⟨n1, n2⟩ := HNIL.out (by rw [← ByteArray.toList_eq]; exact hru)
    have HS1 := Lib.hid (HSN.out ⟨⟨⟨off, ru, sv, fm, un⟩, [], dashB⟩, .slice none 0 0⟩ n2.symm)
    have HF1 := Lib.hid (HN1.out n1)
    have y0 : W3.cell? ⟨eb + 1, 0, none⟩ = some (.int .i64 off) := (cell_of_row W3 _ 0 _ _ _ HT3.out).trans rfl
    have y1 : W3.cell? ⟨eb + 1, 1, none⟩ = some (.string ru) := (cell_of_row W3 _ 1 _ _ _ HT3.out).trans rfl
    have y2 : W3.cell? ⟨eb + 1, 2, none⟩ = some (.int .i64 sv) := (cell_of_row W3 _ 2 _ _ _ HT3.out).trans rfl
    have y3 : W3.cell? ⟨eb + 1, 3, none⟩ = some (.string fm) := (cell_of_row W3 _ 3 _ _ _ HT3.out).trans rfl
    have y4 : W3.cell? ⟨eb + 1, 4, none⟩ = some (.int .i64 un) := (cell_of_row W3 _ 4 _ _ _ HT3.out).trans rfl
    have y5 : W3.cell? ⟨eb + 1, 5, none⟩ = some (.slice none 0 0) := (cell_of_row W3 _ 5 _ _ _ HT3.out).trans rfl
    have y6 : W3.cell? ⟨eb + 1, 6, none⟩ = some (.string ⟨#[45]⟩) := (cell_of_row W3 _ 6 _ _ _ HT3.out).trans rfl
    clear hru n1 n2 HNIL HGO HSN HN1 HB1 HMS HFE
    obtain ⟨A, cS, rfl⟩ := own_sliceN HTD3.out.row
    have HML : ms.length + 1 ≤ maxLen := by simp only [maxLen]; omega
    have HMB : (ms.length + 1) * 96 ≤ 140737488355328 := by omega
    have HROW := Lib.hid (World.ownsRow.alloc HTD3.out.row (.cells #[.int .i64 off, .string ru, .int .i64 sv, .string fm, .int .i64 un, .slice none 0 0, .string ⟨#[45]⟩] 119))
    have HNEW := Lib.hid (World.news_of_block (cs := #[.int .i64 off, .string ru, .int .i64 sv, .string fm, .int .i64 un, .slice none 0 0, .string ⟨#[45]⟩]) (t := 119) (fr := (0, 0)) (heap_alloc_new W3 (.cells #[.int .i64 off, .string ru, .int .i64 sv, .string fm, .int .i64 un, .slice none 0 0, .string ⟨#[45]⟩] 119)))
    have HSZ : W0.heap.size ≤ (W3.alloc (.cells #[.int .i64 off, .string ru, .int .i64 sv, .string fm, .int .i64 un, .slice none 0 0, .string ⟨#[45]⟩] 119)).heap.size := by have := HBR3.out.size; simp; omega
    go_wp2_with (at_builtin; refine wpList_append_own _ rfl _ _ 115 rfl W0.heap.size 119 i1 (.agg #[.int .i64 0, .string ⟨#[]⟩, .int .i64 0, .string ⟨#[]⟩, .int .i64 0, .slice none 0 0, .string ⟨#[]⟩]) 7 96 undTd hi1 hz10 hz11 hz12 rfl (by decide) _ _ _ rfl HROW.out ⟨W3.heap.size, 0, none⟩ 1 1 [.int .i64 off, .string ru, .int .i64 sv, .string fm, .int .i64 un, .slice none 0 0, .string ⟨#[45]⟩] rfl rfl HNEW.out (by simp [Value.oneCell']) HML HMB HSZ ?_; intro v' w10 hown10 hgrow10 _)
    go_roundw
    case rel =>
     refine ⟨k + 1, ms ++ [⟨⟨⟨off, ru, sv, fm, un⟩, [], dashB⟩, .slice none 0 0⟩], by omega, by go_num, HS1, HF1, ⟨?_, ?_⟩, ?_⟩
     ·show World.ownsRow _ _ _ _ _ _ _
      rw [tmFlat_snoc, List.length_append]
      exact hown10
     ·intro m hm
      rcases List.mem_append.1 hm with hm | hm
      ·exact own_grown (World.ownsRow.alloc (HTD3.out.ts m hm) _) HROW.out (by decide) hgrow10
      ·obtain rfl := List.mem_singleton.1 hm
       exact own_grown (World.ownsRow.alloc (World.ownsRow_nil _ _ _ _) _) HROW.out (by decide) hgrow10
     ·exact ((HBR3.out.alloc HBR3.out.size _).grown hgrow10 HSZ fun q hq => (World.ownsRow.lt HROW.out q hq).1)
    case measure => simp [intOf]; omega
   ·have b0 : ru.toList.isEmpty = false := by
     cases e : ru.toList with
     | nil => exact absurd e hru
     | cons c r => rfl
    obtain ⟨n1, n2⟩ := HGO.out (by rw [← ByteArray.toList_eq]; exact hru)
    rw [n1] at HB1 HN1
    have HSN2 : Hid (∀ m : TdM, m.td = ⟨⟨off, ru, sv, fm, un⟩, (mkR rules ru off).2, firstLt (mkR rules ru off).2⟩ → (ms ++ [m]).map (·.td) = (l.take (k + 1)).map (tdR rules)) := by
     show ∀ m : TdM, _
     intro m hm
     exact HSN.out m (by rw [n2]; exact hm)
    have HBW3 := Lib.hid (HB0.out.trans (HBR3.out.mono HB0.out.size))
    have g0 : W3.cell? ⟨w.heap.size, 0, none⟩ = some (.slice p1 rules.length c1) := (cell_of_row W3 _ 0 _ _ _ ((HBR3.out.block w.heap.size (by omega)).trans HBX.out)).trans rfl
    have HMK3 := Lib.hid (HMK.out W3 ru off HBW3.out hoff.1 hoff.2)
    have HLN := HLEN.out ru off
    clear hru n1 n2 HNIL HGO HSN HMS HFE
    go_wp2_with fail
    refine HMK3.out.mono ?_
    rintro e w4 ⟨vo, rfl, hrow4, hb4⟩
    obtain ⟨C, eC⟩ : ∃ C, (mkR rules ru off).1 = C := ⟨_, rfl⟩
    obtain ⟨L, eL⟩ : ∃ L, (mkR rules ru off).2 = L := ⟨_, rfl⟩
    rw [eC] at HB1 HN1 ⊢
    rw [eL] at HSN2 HLN hrow4
    have HBR4 := Lib.hid (HBR3.out.trans (hb4.mono HBR3.out.size))
    have ht4 := (hb4.block (eb + 1) hlt3).trans HT3.out
    have HT4 := Lib.hid ht4
    have hz4 : W3.heap.size ≤ w4.heap.size := hb4.size
    have HTD4 : Hid (TdsAt w4 W0.heap.size u6 ms) := ⟨own_keep HTD3.out.row fun g e => hb4.block g (World.ownsRow.lt HTD3.out.row g e).2, fun m hm => own_keep (HTD3.out.ts m hm) fun g e => hb4.block g (World.ownsRow.lt (HTD3.out.ts m hm) g e).2⟩
    have HR4 := Lib.hid (own_base hrow4 HBR3.out.size)
    obtain ⟨Av, cV, rfl⟩ := own_sliceN hrow4
    clear hb4 ht4 hrow4 HMK3 HTD3 HT3 eC eL e0 e1 g0
    by_cases hC : C = 0
    case neg =>
     have HBD := Lib.hid (HB1.out hC)
     have hz : (C == 0) = false := by simpa using hC
     have hz2 : (!C == 0) = true := by rw [hz]; rfl
     have HCN := Lib.hid hC
     clear hC
     go_wp2_with fail
     go_ret2
     exact ErasPost.bad HBD.out HCN.out (HB0.out.trans (HBR4.out.mono HB0.out.size))
    case pos =>
    subst hC
    have HF1 := Lib.hid (HN1.out rfl)
    obtain ⟨W5, e5⟩ : ∃ W5, w4.setCell ⟨eb + 1, 5, none⟩ (.slice Av L.length cV) = W5 := ⟨_, rfl⟩
    have hk5 : ∀ b, b ≠ eb + 1 → W5.heap[b]? = w4.heap[b]? := fun b hb => by rw [← e5]; exact Below.heap_setCell _ _ _ _ hb
    have hz5 : W5.heap.size = w4.heap.size := by rw [← e5]; simp [World.setCell]
    have ht5 : W5.heap[eb + 1]? = some (.cells #[.int .i64 off, .string ru, .int .i64 sv, .string fm, .int .i64 un, .slice Av L.length cV, .string ⟨#[45]⟩] 119 (0, 0)) := by
     rw [← e5]
     exact (heap_setSt HT4.out (i := 5) (.slice Av L.length cV)).trans rfl
    have hb5 : Below W0.heap.size w4 W5 := by rw [← e5]; exact (Below.refl _ _).setCell (by show W0.heap.size ≤ eb + 1; omega) _
    have HBR5 := Lib.hid (HBR4.out.trans hb5)
    have own5 : ∀ {e : TypeId} {s n : Nat} {v : Value} {xs : List Value}, e ≠ 119 → w4.ownsRow W0.heap.size e s v n xs → W5.ownsRow W0.heap.size e s v n xs := fun {e s n v xs} he h => own_keep h fun g eg => hk5 g fun e2 => own_type h HT4.out he (by rw [eg, e2])
    have hneR : ∀ g, u6.ownBlock = some g → g ≠ eb + 1 := fun g eg e2 => by have := HGN.out g eg; omega
    have HTD5 : Hid (TdsAt W5 W0.heap.size u6 ms) := ⟨own_keep HTD4.out.row fun g eg => hk5 g (hneR g eg), fun m hm => own5 (by decide) (HTD4.out.ts m hm)⟩
    have HR5 := Lib.hid (own5 (by decide) HR4.out)
    have HT5 := Lib.hid ht5
    have HE5 := Lib.hid e5
    have HIX := Lib.hid (IdxTn_any L _ W5 (own_rowsT HR5.out (by omega)))
    have y5w : w4.frozen? ⟨eb + 1, 5, none⟩ = false := by simp [World.frozen?, HT4.out]
    have y5c : w4.cell? ⟨eb + 1, 5, none⟩ = some (.slice none 0 0) := (cell_of_row w4 _ 5 _ _ _ HT4.out).trans rfl
    clear hk5 ht5 hb5 own5 hneR HTD4 HR4 HB1 HN1 e5
    go_upto_region 11 with fail
    rw [HE5.out]
    go_wp2_with fail
    refine HIX.out.mono ?_
    rintro e w6 ⟨rfl, hb6⟩
    have HBR6 := Lib.hid (HBR5.out.trans (hb6.mono HBR5.out.size))
    have hlt5 : eb + 1 < W5.heap.size := by omega
    have HT6 := Lib.hid ((hb6.block (eb + 1) hlt5).trans HT5.out)
    have HTD6 : Hid (TdsAt w6 W0.heap.size u6 ms) := ⟨own_keep HTD5.out.row fun g e => hb6.block g (World.ownsRow.lt HTD5.out.row g e).2, fun m hm => own_keep (HTD5.out.ts m hm) fun g e => hb6.block g (World.ownsRow.lt (HTD5.out.ts m hm) g e).2⟩
    have HR6 := Lib.hid (own_keep HR5.out fun g e => hb6.block g (World.ownsRow.lt HR5.out g e).2)
    have hz6 : W5.heap.size ≤ w6.heap.size := hb6.size
    have y0 : w6.cell? ⟨eb + 1, 0, none⟩ = some (.int .i64 off) := (cell_of_row w6 _ 0 _ _ _ HT6.out).trans rfl
    have y1 : w6.cell? ⟨eb + 1, 1, none⟩ = some (.string ru) := (cell_of_row w6 _ 1 _ _ _ HT6.out).trans rfl
    have y2 : w6.cell? ⟨eb + 1, 2, none⟩ = some (.int .i64 sv) := (cell_of_row w6 _ 2 _ _ _ HT6.out).trans rfl
    have y3 : w6.cell? ⟨eb + 1, 3, none⟩ = some (.string fm) := (cell_of_row w6 _ 3 _ _ _ HT6.out).trans rfl
    have y4 : w6.cell? ⟨eb + 1, 4, none⟩ = some (.int .i64 un) := (cell_of_row w6 _ 4 _ _ _ HT6.out).trans rfl
    have y5 : w6.cell? ⟨eb + 1, 5, none⟩ = some (.slice Av L.length cV) := (cell_of_row w6 _ 5 _ _ _ HT6.out).trans rfl
    have y6 : w6.cell? ⟨eb + 1, 6, none⟩ = some (.string ⟨#[45]⟩) := (cell_of_row w6 _ 6 _ _ _ HT6.out).trans rfl
    clear hb6 HTD5 HR5 HT5 HT4 HIX y5w y5c
    rcases firstLt_idx L with ⟨i1x, f1⟩ | ⟨j, hj, i1x, f1⟩
    ·rw [i1x]
     have HS1 := Lib.hid (HSN2.out ⟨⟨⟨off, ru, sv, fm, un⟩, L, dashB⟩, .slice Av L.length cV⟩ (by rw [← f1]))
     clear i1x f1 HSN2
     obtain ⟨A, cS, rfl⟩ := own_sliceN HTD6.out.row
     have HML : ms.length + 1 ≤ maxLen := by simp only [maxLen]; omega
     have HMB : (ms.length + 1) * 96 ≤ 140737488355328 := by omega
     have HROW := Lib.hid (World.ownsRow.alloc HTD6.out.row (.cells #[.int .i64 off, .string ru, .int .i64 sv, .string fm, .int .i64 un, .slice Av L.length cV, .string ⟨#[45]⟩] 119))
     have HNEW := Lib.hid (World.news_of_block (cs := #[.int .i64 off, .string ru, .int .i64 sv, .string fm, .int .i64 un, .slice Av L.length cV, .string ⟨#[45]⟩]) (t := 119) (fr := (0, 0)) (heap_alloc_new w6 (.cells #[.int .i64 off, .string ru, .int .i64 sv, .string fm, .int .i64 un, .slice Av L.length cV, .string ⟨#[45]⟩] 119)))
     have HSZ : W0.heap.size ≤ (w6.alloc (.cells #[.int .i64 off, .string ru, .int .i64 sv, .string fm, .int .i64 un, .slice Av L.length cV, .string ⟨#[45]⟩] 119)).heap.size := by have := HBR6.out.size; simp; omega
     go_wp2_with (at_builtin; refine wpList_append_own _ rfl _ _ 115 rfl W0.heap.size 119 i1 (.agg #[.int .i64 0, .string ⟨#[]⟩, .int .i64 0, .string ⟨#[]⟩, .int .i64 0, .slice none 0 0, .string ⟨#[]⟩]) 7 96 undTd hi1 hz10 hz11 hz12 rfl (by decide) _ _ _ rfl HROW.out ⟨w6.heap.size, 0, none⟩ 1 1 [.int .i64 off, .string ru, .int .i64 sv, .string fm, .int .i64 un, .slice Av L.length cV, .string ⟨#[45]⟩] rfl rfl HNEW.out (by simp [Value.oneCell']) HML HMB HSZ ?_; intro v' w10 hown10 hgrow10 _)
     go_roundw
     case rel =>
      refine ⟨k + 1, ms ++ [⟨⟨⟨off, ru, sv, fm, un⟩, L, dashB⟩, .slice Av L.length cV⟩], by omega, by go_num, HS1, HF1, ⟨?_, ?_⟩, ?_⟩
      ·show World.ownsRow _ _ _ _ _ _ _
       rw [tmFlat_snoc, List.length_append]
       exact hown10
      ·intro m hm
       rcases List.mem_append.1 hm with hm | hm
       ·exact own_grown (World.ownsRow.alloc (HTD6.out.ts m hm) _) HROW.out (by decide) hgrow10
       ·obtain rfl := List.mem_singleton.1 hm
        exact own_grown (World.ownsRow.alloc HR6.out _) HROW.out (by decide) hgrow10
      ·exact ((HBR6.out.alloc HBR6.out.size _).grown hgrow10 HSZ fun q hq => (World.ownsRow.lt HROW.out q hq).1)
     case measure => simp [intOf]; omega
    ·rw [i1x]
     obtain ⟨lt, elt⟩ : ∃ lt, L[j].lt = lt := ⟨_, rfl⟩
     have HS1 := Lib.hid (HSN2.out ⟨⟨⟨off, ru, sv, fm, un⟩, L, lt⟩, .slice Av L.length cV⟩ (by rw [← elt, ← f1]))
     obtain ⟨pt, ct, et, -, hrt⟩ := own_rowsT HR6.out (by omega)
     simp only [Value.slice.injEq, true_and] at et
     obtain ⟨rfl, rfl⟩ := et
     obtain ⟨bt, ot, rfl, hblt, hct⟩ := hrt (List.ne_nil_of_length_pos (by omega))
     have k2 := hct j hj 2 _ rfl
     rw [elt] at k2
     have hjz : (j : Int) < (L.length : Int) := by omega
     obtain ⟨W7, e7⟩ : ∃ W7, w6.setCell ⟨eb + 1, 6, none⟩ (.string lt) = W7 := ⟨_, rfl⟩
     have hk7 : ∀ b, b ≠ eb + 1 → W7.heap[b]? = w6.heap[b]? := fun b hb => by rw [← e7]; exact Below.heap_setCell _ _ _ _ hb
     have hz7 : W7.heap.size = w6.heap.size := by rw [← e7]; simp [World.setCell]
     have ht7 : W7.heap[eb + 1]? = some (.cells #[.int .i64 off, .string ru, .int .i64 sv, .string fm, .int .i64 un, .slice (some ⟨bt, ot, none⟩) L.length cV, .string lt] 119 (0, 0)) := by
      rw [← e7]
      exact (heap_setSt HT6.out (i := 6) (.string lt)).trans rfl
     have hb7 : Below W0.heap.size w6 W7 := by rw [← e7]; exact (Below.refl _ _).setCell (by show W0.heap.size ≤ eb + 1; omega) _
     have HBR7 := Lib.hid (HBR6.out.trans hb7)
     have own7 : ∀ {e : TypeId} {s n : Nat} {v : Value} {xs : List Value}, e ≠ 119 → w6.ownsRow W0.heap.size e s v n xs → W7.ownsRow W0.heap.size e s v n xs := fun {e s n v xs} he h => own_keep h fun g eg => hk7 g fun e2 => own_type h HT6.out he (by rw [eg, e2])
     have HTD7 : Hid (TdsAt W7 W0.heap.size u6 ms) := ⟨own_keep HTD6.out.row fun g eg => hk7 g fun e2 => by have := HGN.out g eg; omega, fun m hm => own7 (by decide) (HTD6.out.ts m hm)⟩
     have HR7 := Lib.hid (own7 (by decide) HR6.out)
     have HE7 := Lib.hid e7
     have y6f : w6.frozen? ⟨eb + 1, 6, none⟩ = false := by simp [World.frozen?, HT6.out]
     have HT7 := Lib.hid ht7
     clear i1x f1 HSN2 hct hrt hk7 ht7 hb7 own7 HTD6 HR6 HT6 e7 elt hz7
     go_upto_region 14 with fail
     rw [HE7.out]
     clear y0 y1 y2 y3 y4 y5 y6
     have y0 : W7.cell? ⟨eb + 1, 0, none⟩ = some (.int .i64 off) := (cell_of_row W7 _ 0 _ _ _ HT7.out).trans rfl
     have y1 : W7.cell? ⟨eb + 1, 1, none⟩ = some (.string ru) := (cell_of_row W7 _ 1 _ _ _ HT7.out).trans rfl
     have y2 : W7.cell? ⟨eb + 1, 2, none⟩ = some (.int .i64 sv) := (cell_of_row W7 _ 2 _ _ _ HT7.out).trans rfl
     have y3 : W7.cell? ⟨eb + 1, 3, none⟩ = some (.string fm) := (cell_of_row W7 _ 3 _ _ _ HT7.out).trans rfl
     have y4 : W7.cell? ⟨eb + 1, 4, none⟩ = some (.int .i64 un) := (cell_of_row W7 _ 4 _ _ _ HT7.out).trans rfl
     have y5 : W7.cell? ⟨eb + 1, 5, none⟩ = some (.slice (some ⟨bt, ot, none⟩) L.length cV) := (cell_of_row W7 _ 5 _ _ _ HT7.out).trans rfl
     have y6 : W7.cell? ⟨eb + 1, 6, none⟩ = some (.string lt) := (cell_of_row W7 _ 6 _ _ _ HT7.out).trans rfl
     obtain ⟨A, cS, rfl⟩ := own_sliceN HTD7.out.row
     have HML : ms.length + 1 ≤ maxLen := by simp only [maxLen]; omega
     have HMB : (ms.length + 1) * 96 ≤ 140737488355328 := by omega
     have HROW := Lib.hid (World.ownsRow.alloc HTD7.out.row (.cells #[.int .i64 off, .string ru, .int .i64 sv, .string fm, .int .i64 un, .slice (some ⟨bt, ot, none⟩) L.length cV, .string lt] 119))
     have HNEW := Lib.hid (World.news_of_block (cs := #[.int .i64 off, .string ru, .int .i64 sv, .string fm, .int .i64 un, .slice (some ⟨bt, ot, none⟩) L.length cV, .string lt]) (t := 119) (fr := (0, 0)) (heap_alloc_new W7 (.cells #[.int .i64 off, .string ru, .int .i64 sv, .string fm, .int .i64 un, .slice (some ⟨bt, ot, none⟩) L.length cV, .string lt] 119)))
     have HSZ : W0.heap.size ≤ (W7.alloc (.cells #[.int .i64 off, .string ru, .int .i64 sv, .string fm, .int .i64 un, .slice (some ⟨bt, ot, none⟩) L.length cV, .string lt] 119)).heap.size := by have := HBR7.out.size; simp; omega
     go_wp2_with (at_builtin; refine wpList_append_own _ rfl _ _ 115 rfl W0.heap.size 119 i1 (.agg #[.int .i64 0, .string ⟨#[]⟩, .int .i64 0, .string ⟨#[]⟩, .int .i64 0, .slice none 0 0, .string ⟨#[]⟩]) 7 96 undTd hi1 hz10 hz11 hz12 rfl (by decide) _ _ _ rfl HROW.out ⟨W7.heap.size, 0, none⟩ 1 1 [.int .i64 off, .string ru, .int .i64 sv, .string fm, .int .i64 un, .slice (some ⟨bt, ot, none⟩) L.length cV, .string lt] rfl rfl HNEW.out (by simp [Value.oneCell']) HML HMB HSZ ?_; intro v' w10 hown10 hgrow10 _)
     go_roundw
     case rel =>
      refine ⟨k + 1, ms ++ [⟨⟨⟨off, ru, sv, fm, un⟩, L, lt⟩, .slice (some ⟨bt, ot, none⟩) L.length cV⟩], by omega, by go_num, HS1, HF1, ⟨?_, ?_⟩, ?_⟩
      ·show World.ownsRow _ _ _ _ _ _ _
       rw [tmFlat_snoc, List.length_append]
       exact hown10
      ·intro m hm
       rcases List.mem_append.1 hm with hm | hm
       ·exact own_grown (World.ownsRow.alloc (HTD7.out.ts m hm) _) HROW.out (by decide) hgrow10
       ·obtain rfl := List.mem_singleton.1 hm
        exact own_grown (World.ownsRow.alloc HR7.out _) HROW.out (by decide) hgrow10
      ·exact ((HBR7.out.alloc HBR7.out.size _).grown hgrow10 HSZ fun q hq => (World.ownsRow.lt HROW.out q hq).1)
     case measure => simp [intOf]; omega
  ·obtain rfl : k = l.length := by omega
   have hms := HMS.out
   have hfe := HFE.out
   rw [List.take_length] at hms hfe
   have HEND := Lib.hid (ErasPost.ok (v := u6) hfe hms ⟨own_base HTD.out.row HB0.out.size, fun m hm => own_base (HTD.out.ts m hm) HB0.out.size⟩ (HB0.out.trans (HBR.out.mono HB0.out.size)))
   obtain ⟨A, cS, rfl⟩ := own_sliceN HTD.out.row
   clear hms hfe HMS HFE HTD
   go_wp2_with fail
   go_ret2
   exact HEND.out
theorem infoIntW : (Tryz.prog.info? 3).map (fun i => (i.zero, i.size, i.bytes)) = some (some (.int .i64 0), 1, 8) := by kernel_rfl
theorem undIntsW : Tryz.prog.underlying 127 = some (.slice 3) := by kernel_rfl
def winL (l : List Tn) (a c : Int) : List Int := (l.filter fun u => decide (a ≤ u.a ∧ u.a ≤ c)).map (·.a)
theorem winL_snoc (l : List Tn) (u : Tn) (a c : Int) : winL (l ++ [u]) a c = winL l a c ++ if a ≤ u.a ∧ u.a ≤ c then [u.a] else [] := by
 unfold winL
 rw [List.filter_append, List.map_append]
 by_cases h : a ≤ u.a ∧ u.a ≤ c
 ·rw [if_pos h]; congr 1; simp [h]
 ·rw [if_neg h]; congr 1; simp [h]
theorem winL_le (l : List Tn) (a c : Int) : (winL l a c).length ≤ l.length := by
 unfold winL
 rw [List.length_map]
 exact List.length_filter_le _ _
def WinPost (L : List Int) (w : World) (e : Ending) (w' : World) : Prop := ∃ vo, e = .returned vo ∧ w'.ownsRow w.heap.size 3 1 vo L.length (L.map (Value.int .i64)) ∧ Below w.heap.size w w'
set_option maxRecDepth 100000 in
set_option maxHeartbeats 8000000 in
theorem Within_any (x : Td) (tv : Value) (a c : Int) (w : World) (hr : RowsAt tnC 3 w.heap.size w tv x.ts) (hlen : x.ts.length ≤ 2000) :
  Calls Tryz.prog 56 #[.agg (tdCells x tv), .int .i64 a, .int .i64 c] w (WinPost (winL x.ts a c) w) := by
 obtain ⟨p, cap, rfl, -, hat⟩ := hr
 obtain ⟨W0, hW0⟩ : ∃ W0, w.alloc (.cells (tdCells x (.slice p x.ts.length cap)) 119) = W0 := ⟨_, rfl⟩
 have hB0 : Below w.heap.size w W0 := by rw [← hW0]; exact (Below.refl _ w).alloc (Nat.le_refl _) _
 have hS0 : w.heap.size < W0.heap.size := by rw [← hW0]; simp
 have hx0 : W0.heap[w.heap.size]? = some (.cells (tdCells x (.slice p x.ts.length cap)) 119 (0, 0)) := by
  rw [← hW0]
  exact heap_alloc_new w _
 obtain ⟨⟨off, ru, sv, fm, un⟩, ts, fst⟩ := x
 simp only at hlen hat hW0 hx0 ⊢
 have z5 : W0.cell? ⟨w.heap.size, 5, none⟩ = some (.slice p ts.length cap) := (cell_of_row W0 _ 5 _ _ _ hx0).trans rfl
 have HW0 := Lib.hid hW0
 have HB0 := Lib.hid hB0
 have HAT := Lib.hid hat
 obtain ⟨i1, hi1, hz10, hz11, hz12⟩ := info_parts infoIntW
 clear hW0 hB0 hx0 hat
 go_enter Tryz.func56, Tryz.ntmps56
 go_upto_region 1 with fail
 rw [HW0.out]
 go_wp2_with fail
 go_loopw [7, 13] (fun v7 i wr => ∃ k : Nat, k ≤ ts.length ∧ i = .int .i64 k ∧ Hid (wr.ownsRow W0.heap.size 3 1 v7 (winL (ts.take k) a c).length ((winL (ts.take k) a c).map (Value.int .i64))) ∧ Hid (Below W0.heap.size W0 wr)) (fun _ i _ => ts.length - (intOf i).toNat)
 case atStart => exact ⟨0, Nat.zero_le _, rfl, World.ownsRow_nil _ _ _ _, Lib.hid (Below.refl _ _)⟩
 case round =>
  obtain ⟨k, hk, rfl, HOW, HBR⟩ := hrel
  have hzr := HBR.out.size
  have hwl : (winL (ts.take k) a c).length ≤ k := Nat.le_trans (winL_le _ _ _) (by rw [List.length_take]; omega)
  by_cases hkl : k < ts.length
  ·obtain ⟨bb, o, rfl, hbl, hcs⟩ := HAT.out (List.ne_nil_of_length_pos (by omega))
   have hck := hcs k hkl
   have hsn := winL_snoc (ts.take k) ts[k] a c
   rw [← List.take_succ_eq_append_getElem hkl] at hsn
   obtain ⟨q, eq⟩ : ∃ q, ts[k] = q := ⟨_, rfl⟩
   rw [eq] at hck hsn
   obtain ⟨ta, tsv, tlt⟩ := q
   have up : ∀ m u, w.cell? ⟨bb, o + k * 3 + m, none⟩ = some u → wr.cell? ⟨bb, o + k * 3 + m, none⟩ = some u := fun m u h => (HBR.out.cell (p := ⟨bb, o + k * 3 + m, none⟩) (by show bb < _; omega)).trans ((HB0.out.cell (p := ⟨bb, o + k * 3 + m, none⟩) hbl).trans h)
   have z0 := up 0 _ (hck 0 _ rfl)
   have z1 := up 1 _ (hck 1 _ rfl)
   have z2 := up 2 _ (hck 2 _ rfl)
   rw [Nat.add_zero] at z0
   simp only at hsn z0 z1 z2
   have HSN := Lib.hid hsn
   obtain ⟨L, eL⟩ : ∃ L, winL (ts.take k) a c = L := ⟨_, rfl⟩
   rw [eL] at HSN HOW hwl
   obtain ⟨W3, e3⟩ : ∃ W3, wr.alloc (.cells #[.int .i64 ta, .int .i64 tsv, .string tlt] 49) = W3 := ⟨_, rfl⟩
   have HB3 : Hid (Below W0.heap.size W0 W3) := by rw [← e3]; exact HBR.out.alloc hzr _
   have HOW3 : Hid (W3.ownsRow W0.heap.size 3 1 u7 L.length (L.map (Value.int .i64))) := by rw [← e3]; exact World.ownsRow.alloc HOW.out _
   have y0 : W3.cell? ⟨wr.heap.size, 0, none⟩ = some (.int .i64 ta) := by rw [← e3]; exact (cell_of_row _ _ 0 _ _ _ (heap_alloc_new wr _)).trans rfl
   obtain ⟨tb, etb⟩ : ∃ tb, wr.heap.size = tb := ⟨_, rfl⟩
   have HTB := Lib.hid etb
   rw [etb] at y0
   have HE3 := Lib.hid e3
   clear hcs hck hsn eq up eL e3 etb HOW
   go_upto_region 5 with fail
   rw [HE3.out, HTB.out]
   clear z0 z1 z2
   by_cases h1 : a ≤ ta
   ·by_cases h2 : ta ≤ c
    ·have HN : Hid (winL (ts.take (k + 1)) a c = L ++ [ta]) := by show _ = _; rw [HSN.out, if_pos ⟨h1, h2⟩]
     clear HSN
     obtain ⟨A, cS, rfl⟩ := own_sliceN HOW3.out
     have HML : L.length + 1 ≤ maxLen := by simp only [maxLen]; omega
     have HMB : (L.length + 1) * 8 ≤ 140737488355328 := by omega
     have HROW := Lib.hid (World.ownsRow.alloc HOW3.out (.cells #[.int .i64 ta] 3))
     have HNEW := Lib.hid (World.news_of_block (cs := #[.int .i64 ta]) (t := 3) (fr := (0, 0)) (heap_alloc_new W3 (.cells #[.int .i64 ta] 3)))
     have HSZ : W0.heap.size ≤ (W3.alloc (.cells #[.int .i64 ta] 3)).heap.size := by have := HB3.out.size; simp; omega
     go_wp2_with (at_builtin; refine wpList_append_own _ rfl _ _ 127 rfl W0.heap.size 3 i1 (.int .i64 0) 1 8 undIntsW hi1 hz10 hz11 hz12 rfl (by decide) _ _ _ rfl HROW.out ⟨W3.heap.size, 0, none⟩ 1 1 [.int .i64 ta] rfl rfl HNEW.out (by simp [Value.oneCell']) HML HMB HSZ ?_; intro v' w10 hown10 hgrow10 _)
     go_roundw
     case rel =>
      refine ⟨k + 1, by omega, by go_num, ?_, Lib.hid ((HB3.out.alloc HB3.out.size _).grown hgrow10 HSZ fun q hq => (World.ownsRow.lt HROW.out q hq).1)⟩
      show World.ownsRow _ _ _ _ _ _ _
      rw [HN.out, List.length_append, List.map_append]
      exact hown10
     case measure => simp [intOf]; omega
    ·have HN : Hid (winL (ts.take (k + 1)) a c = L) := by show _ = _; rw [HSN.out, if_neg (fun g => h2 g.2), List.append_nil]
     clear HSN
     go_wp2_with fail
     go_roundw
     case rel => exact ⟨k + 1, by omega, by go_num, by rw [HN.out]; exact HOW3, HB3⟩
     case measure => simp [intOf]; omega
   ·have HN : Hid (winL (ts.take (k + 1)) a c = L) := by show _ = _; rw [HSN.out, if_neg (fun g => h1 g.1), List.append_nil]
    clear HSN
    go_wp2_with fail
    go_roundw
    case rel => exact ⟨k + 1, by omega, by go_num, by rw [HN.out]; exact HOW3, HB3⟩
    case measure => simp [intOf]; omega
  ·obtain rfl : k = ts.length := by omega
   rw [List.take_length] at HOW
   have HEND : Hid (WinPost (winL ts a c) w (.returned u7) wr) := ⟨_, rfl, own_base HOW.out (Nat.le_of_lt hS0), HB0.out.trans (HBR.out.mono HB0.out.size)⟩
   obtain ⟨A, cS, rfl⟩ := own_sliceN HOW.out
   clear HOW
   go_wp2_with fail
   go_ret
   exact HEND.out
end Go.Proofs.YtomahddiclkepaaGreatDoor
namespace Go.Proofs.YtomahddiclkepaaGreatDoor
open Go.RowKit Go.Joins Go.Maps
open Classical
set_option linter.unusedVariables false
set_option linter.unusedSimpArgs false
set_option maxRecDepth 100000 in
set_option maxHeartbeats 4000000 in
theorem Resolve_any (b : Bk) (rv zv lv : Value) (nm : ByteArray) (w : World) (hB : BookAt w.heap.size w rv zv lv b) (hn : nm.size ≤ 140737488351232) (hm : MaxLen w) (ht : Tab10 w) :
  Calls Tryz.prog 45 #[.agg #[rv, zv, lv], .string nm] w (RsvPost (rsv b nm) w) := by
 have hr := hB.r
 have hz := hB.z
 have hl := hB.l
 obtain ⟨p1, c1, rfl, hlen1, hrow1⟩ := hr
 obtain ⟨p2, c2, rfl, hlen2, hrow2⟩ := hz
 obtain ⟨p3, c3, rfl, hlen3, hrow3⟩ := hl
 obtain ⟨W0, eW⟩ : ∃ W0, (w.alloc (.cells #[.slice p1 b.rules.length c1, .slice p2 b.zones.length c2, .slice p3 b.links.length c3] 26)).alloc (.cells #[.string ⟨#[]⟩, .slice none 0 0] 46) = W0 := ⟨_, rfl⟩
 have hb0 : Below w.heap.size w W0 := by rw [← eW]; exact ((Below.refl _ _).alloc (Nat.le_refl _) _).alloc (by simp) _
 have hbx : W0.heap[w.heap.size]? = some (.cells #[.slice p1 b.rules.length c1, .slice p2 b.zones.length c2, .slice p3 b.links.length c3] 26 (0, 0)) := by
  rw [← eW]
  exact (Below.heap_alloc _ _ _ (by simp)).trans (heap_alloc_new w _)
 have hrb : W0.heap[w.heap.size + 1]? = some (.cells #[.string ⟨#[]⟩, .slice none 0 0] 46 (0, 0)) := by
  rw [← eW]
  exact alloc_at _ _ _ (by simp)
 have hl0 : w.heap.size + 1 < W0.heap.size := by rw [← eW]; simp
 have x0 := (cell_of_row W0 _ 0 _ _ _ hbx).trans rfl
 have x1 := (cell_of_row W0 _ 1 _ _ _ hbx).trans rfl
 have x2 := (cell_of_row W0 _ 2 _ _ _ hbx).trans rfl
 have HEW := Lib.hid eW
 have HB0 := Lib.hid hb0
 have HRB := Lib.hid hrb
 have HOF := Lib.hid (namesOf_any b _ _ _ W0 ((hB.below hb0 (Nat.le_refl _)).baseN (by omega)) (hm.below hb0) (ht.below hb0))
 have HEV := Lib.hid hB.e
 have HLS := Lib.hid hB.ls
 have HBD := Lib.hid (rsv_bad (b := b) (nm := nm))
 have HGO := Lib.hid (rsv_go (b := b) (nm := nm))
 have HER := Lib.hid (bk_er (b := b))
 obtain ⟨R, eR⟩ : ∃ R, rsv b nm = R := ⟨_, rfl⟩
 rw [eR] at HBD HGO ⊢
 clear eW hb0 hbx hrb hB hm ht hrow1 hrow2 hrow3 eR
 go_enter Tryz.func45, Tryz.ntmps45
 go_upto_region 1 with fail
 rw [HEW.out]
 go_wp2_with fail
 refine HOF.out.mono ?_
 rintro e w1 ⟨hb1, hbad, hgood⟩
 have HB1 := Lib.hid (HB0.out.trans (hb1.mono HB0.out.size))
 have hx1 := (hb1.block (w.heap.size + 1) hl0).trans HRB.out
 have HX1 := Lib.hid hx1
 have hl1 : w.heap.size + 1 < w1.heap.size := by have := hb1.size; omega
 have r0 : w1.cell? ⟨w.heap.size + 1, 0, none⟩ = some (.string ⟨#[]⟩) := (cell_of_row w1 _ 0 _ _ _ hx1).trans rfl
 have r1 : w1.cell? ⟨w.heap.size + 1, 1, none⟩ = some (.slice none 0 0) := (cell_of_row w1 _ 1 _ _ _ hx1).trans rfl
 have f0 : w1.frozen? ⟨w.heap.size + 1, 0, none⟩ = false := by simp [World.frozen?, hx1]
 have f1 : w1.frozen? ⟨w.heap.size + 1, 1, none⟩ = false := by simp [World.frozen?, hx1]
 have hs1 : W0.heap.size ≤ w1.heap.size := hb1.size
 by_cases hC : bkChk b = 0
 case neg =>
  have he := hbad hC
  subst he
  have HE := Lib.hid (HBD.out hC)
  have hz : (bkChk b == 0) = false := by simpa using hC
  have hz2 : (!bkChk b == 0) = true := by rw [hz]; rfl
  clear hb1 hbad hgood hx1 hC x0 x1 x2
  go_wp2_with fail
  obtain ⟨W9, e9, hh9, hb9⟩ := end_two HX1.out (.string ⟨#[]⟩) (.slice none 0 0)
  rw [e9]
  have v0 := (cell_of_row W9 _ 0 _ _ _ hh9).trans rfl
  have v1 := (cell_of_row W9 _ 1 _ _ _ hh9).trans rfl
  have HBF : Below w.heap.size w W9 := HB1.out.trans (hb9 _ (by omega))
  refine bodyPost_ret (v := .tuple #[.agg #[.string ⟨#[]⟩, .slice none 0 0], .int .i64 (bkChk b)]) (by simp [results, Tryz.results45, go_sem, v0, v1]) rfl ?_
  rw [HE.out]
  exact ⟨_, rfl, World.ownsRow_nil _ _ _ _, HBF⟩
 case pos =>
 obtain ⟨pb, bz, bl, nz, nl, he, hP, hnl, -⟩ := hgood hC
 subst he
 have hEv : EvOk b.zones := fun z hz => by
  obtain ⟨p, c, e, -⟩ := HEV.out z hz
  exact ⟨p, c, e⟩
 have HRE := Lib.hid (resolve_any _ pb bz bl nz nl b.zones b.links nm w1 hP hEv (fun x hx => (HLS.out x hx).2) hn hnl)
 have hgo := HGO.out hC
 rw [← hgo] at HRE
 have HER2 := Lib.hid (fun z hz => HER.out hC (z := z) hz)
 have hRin : ∀ z, R.1 = some z → z ∈ b.zones ∧ R.2 = 0 := by
  intro z hz
  obtain ⟨R1, R2⟩ := R
  simp only at hz
  subst hz
  exact resF_in hgo.symm
 have HRI := Lib.hid hRin
 have HP1 := Lib.hid hP
 clear hb1 hbad hgood hx1 hC x0 x1 x2 r0 r1 f0 f1 hP hEv hgo hRin HGO HBD HER HOF
 go_wp2_with fail
 refine HRE.out.mono ?_
 obtain ⟨Z, C⟩ := R
 rintro e w2 ⟨rfl, hb2⟩
 simp only at HRI ⊢
 have HB2 := Lib.hid (HB1.out.trans (hb2.mono HB1.out.size))
 have hx2 := (hb2.block (w.heap.size + 1) hl1).trans HX1.out
 have hs2 : w1.heap.size ≤ w2.heap.size := hb2.size
 have key : ∃ znm p c ers, zoVal Z = .agg #[.string znm, .slice p ers.length c] ∧ zNm Z = znm ∧ zEr Z = ers ∧ ers.length ≤ 1000 ∧ RowsAt erL 5 w.heap.size w2 (.slice p ers.length c) ers := by
  cases Z with
  | none => exact ⟨⟨#[]⟩, none, 0, [], rfl, rfl, rfl, by simp, ⟨none, 0, rfl, ⟨by simp, by simp⟩, fun h => absurd rfl h⟩⟩
  | some z =>
   obtain ⟨hz, -⟩ := HRI.out z rfl
   have h1 := (HEV.out z hz).below HB2.out (Nat.le_refl _)
   obtain ⟨p, c, e, r⟩ := h1
   refine ⟨z.nm, p, c, z.eras, ?_, rfl, rfl, by have := (HER2.out z hz).2; omega, ⟨p, c, rfl, r⟩⟩
   show Value.agg #[.string z.nm, z.ev] = _
   rw [e]
 obtain ⟨znm, p, c, ers, e1, e2, e3, hle, hrow⟩ := key
 rw [e1]
 have HE2 := Lib.hid e2
 have HE3 := Lib.hid e3
 obtain ⟨W3, eW3⟩ : ∃ W3, w2.alloc (.cells #[.string znm, .slice p ers.length c] 46) = W3 := ⟨_, rfl⟩
 have hb3 : Below w2.heap.size w2 W3 := by rw [← eW3]; exact (Below.refl _ _).alloc (Nat.le_refl _) _
 have hx3 : W3.heap[w2.heap.size]? = some (.cells #[.string znm, .slice p ers.length c] 46 (0, 0)) := by rw [← eW3]; exact heap_alloc_new w2 _
 have hz3 : W3.heap.size = w2.heap.size + 1 := by rw [← eW3]; simp
 have HB3 := Lib.hid (HB2.out.trans (hb3.mono HB2.out.size))
 have hr3 := (hb3.block (w.heap.size + 1) (by omega)).trans hx2
 have HR3 := Lib.hid hr3
 have HX3 := Lib.hid hx3
 have q1 := (cell_of_row W3 _ 1 _ _ _ hx3).trans rfl
 have HCL := Lib.hid (CloneEr_any ers _ w.heap.size W3 (hrow.below (hb3.mono HB2.out.size) (Nat.le_refl _)) hle)
 have HEW3 := Lib.hid eW3
 obtain ⟨tb, etb⟩ : ∃ tb, w2.heap.size = tb := ⟨_, rfl⟩
 rw [etb] at hz3 hs2 HX3 q1
 have HTB := Lib.hid etb
 clear hb2 hx2 e1 e2 e3 hrow eW3 hb3 hr3 HRI HRE HER2 HEV hx3 HX1 etb
 go_upto_region 5 with fail
 rw [HEW3.out, HTB.out]
 go_wp2_with fail
 refine HCL.out.mono ?_
 rintro e w4 ⟨vo, rfl, hrow4, hb4⟩
 obtain ⟨A, cA, rfl⟩ := own_sliceN hrow4
 have hs4 : W3.heap.size ≤ w4.heap.size := hb4.size
 have hx4 := (hb4.block tb (by omega)).trans HX3.out
 have hr4 := (hb4.block (w.heap.size + 1) (by omega)).trans HR3.out
 have HB4 := Lib.hid (HB3.out.trans (hb4.mono HB3.out.size))
 have HX4 := Lib.hid hx4
 have HR4 := Lib.hid hr4
 have HOW := Lib.hid hrow4
 have g0 : w4.cell? ⟨tb, 0, none⟩ = some (.string znm) := (cell_of_row w4 _ 0 _ _ _ hx4).trans rfl
 have g1 : w4.cell? ⟨tb, 1, none⟩ = some (.slice p ers.length c) := (cell_of_row w4 _ 1 _ _ _ hx4).trans rfl
 have gf : w4.frozen? ⟨tb, 1, none⟩ = false := by simp [World.frozen?, hx4]
 have r0 : w4.cell? ⟨w.heap.size + 1, 0, none⟩ = some (.string ⟨#[]⟩) := (cell_of_row w4 _ 0 _ _ _ hr4).trans rfl
 have r1 : w4.cell? ⟨w.heap.size + 1, 1, none⟩ = some (.slice none 0 0) := (cell_of_row w4 _ 1 _ _ _ hr4).trans rfl
 have f0 : w4.frozen? ⟨w.heap.size + 1, 0, none⟩ = false := by simp [World.frozen?, hr4]
 have f1 : w4.frozen? ⟨w.heap.size + 1, 1, none⟩ = false := by simp [World.frozen?, hr4]
 have htb : w.heap.size + 1 < tb := by omega
 have htb4 : tb < w4.heap.size := by omega
 clear hb4 hrow4 hx4 hr4 HCL q1
 go_wp2_with fail
 obtain ⟨W5, e5⟩ : ∃ W5, w4.setCell ⟨tb, 1, none⟩ (.slice A ers.length cA) = W5 := ⟨_, rfl⟩
 rw [e5]
 have hk5 : ∀ g, g ≠ tb → W5.heap[g]? = w4.heap[g]? := fun g hg => by rw [← e5]; exact Below.heap_setCell _ _ _ _ hg
 have hr5 : W5.heap[w.heap.size + 1]? = some (.cells #[.string ⟨#[]⟩, .slice none 0 0] 46 (0, 0)) := (hk5 _ (by omega)).trans HR4.out
 have hb5 : Below w.heap.size w W5 := by rw [← e5]; exact HB4.out.setCell (by show w.heap.size ≤ tb; omega) _
 obtain ⟨W9, e9, hh9, hb9⟩ := end_two hr5 (.string znm) (.slice A ers.length cA)
 rw [e9]
 have v0 := (cell_of_row W9 _ 0 _ _ _ hh9).trans rfl
 have v1 := (cell_of_row W9 _ 1 _ _ _ hh9).trans rfl
 have hk9 : ∀ g, g ≠ w.heap.size + 1 → W9.heap[g]? = W5.heap[g]? := fun g hg => by
  rw [← e9]
  exact (Below.heap_setCell _ _ _ _ hg).trans (Below.heap_setCell _ _ _ _ hg)
 have HBF : Below w.heap.size w W9 := hb5.trans (hb9 _ (by omega))
 have hown9 : W9.ownsRow w.heap.size 43 5 (.slice A ers.length cA) ers.length (erFlat ers) := by
  refine own_base (own_keep HOW.out fun g e => ?_) (show w.heap.size ≤ W3.heap.size by omega)
  have hg := (World.ownsRow.lt HOW.out g e).1
  exact (hk9 g (by omega)).trans (hk5 g (by omega))
 refine bodyPost_ret (v := .tuple #[.agg #[.string znm, .slice A ers.length cA], .int .i64 C]) (by simp [results, Tryz.results45, go_sem, v0, v1]) rfl ⟨.slice A ers.length cA, ?_, ?_, HBF⟩
 ·show _ = Ending.returned (.tuple #[.agg #[.string (zNm Z), .slice A ers.length cA], .int .i64 C])
  rw [HE2.out]
 ·show World.ownsRow _ _ _ _ _ (zEr Z).length (erFlat (zEr Z))
  rw [HE3.out]
  exact hown9
theorem abE_fm {f l : ByteArray} {s : Int} (h : abE f s l = 0) : f.size ≤ 140737488351232 := by
 have h1 := (abbrF_ok h).2.1
 unfold splitF at h1
 split at h1
 ·cases h1
 ·rename_i h2
  rw [Lib.size_eq]
  omega
theorem abbr_lt {f l : ByteArray} {s : Int} (h : abE f s l = 0) : l.size ≤ 140737488351232 := by
 have h1 := letter_len (abbrF_ok h).2.2.1
 rw [Lib.size_eq]
 omega
theorem tdR_len {rules : List Ru} (ho : ∀ r ∈ rules, OkRu r) (x : Er) : (tdR rules x).ts.length ≤ 1500 := by
 unfold tdR
 split
 ·exact Nat.zero_le _
 ·exact (mkR_len ho _ _).1
def MkTPost (R : Int × Tab) (w : World) (e : Ending) (w' : World) : Prop := ∃ sv cv, e = .returned (.tuple #[.agg #[sv, .int .i64 0, cv], .int .i64 R.1]) ∧ w'.ownsRow w.heap.size 51 3 sv R.2.types.length (tyCells R.2.types) ∧ w'.ownsRow w.heap.size 61 2 cv R.2.chs.length (chCells R.2.chs) ∧ Below w.heap.size w w'
theorem MkTPost.bad {R : Int × Tab} {c : Int} {w w' : World} (h : R = (c, zTab)) (hb : Below w.heap.size w w') : MkTPost R w (.returned (.tuple #[.agg #[.slice none 0 0, .int .i64 0, .slice none 0 0], .int .i64 c])) w' := by
 subst h
 exact ⟨_, _, rfl, World.ownsRow_nil _ _ _ _, World.ownsRow_nil _ _ _ _, hb⟩
set_option maxHeartbeats 2000000 in
theorem MakeNone_any (c : Int) (w : World) : Calls Tryz.prog 54 #[.int .i64 c] w fun e w' => e = .returned (.tuple #[.agg #[.slice none 0 0, .int .i64 0, .slice none 0 0], .int .i64 c]) ∧ Below w.heap.size w w' := by
 obtain ⟨W0, e0⟩ : ∃ W0, w.alloc (.cells #[.slice none 0 0, .int .i64 0, .slice none 0 0] 58) = W0 := ⟨_, rfl⟩
 have hx : W0.heap[w.heap.size]? = some (.cells #[.slice none 0 0, .int .i64 0, .slice none 0 0] 58 (0, 0)) := by rw [← e0]; exact heap_alloc_new w _
 have v0 : W0.cell? ⟨w.heap.size, 0, none⟩ = some (.slice none 0 0) := (cell_of_row W0 _ 0 _ _ _ hx).trans rfl
 have v1 : W0.cell? ⟨w.heap.size, 1, none⟩ = some (.int .i64 0) := (cell_of_row W0 _ 1 _ _ _ hx).trans rfl
 have v2 : W0.cell? ⟨w.heap.size, 2, none⟩ = some (.slice none 0 0) := (cell_of_row W0 _ 2 _ _ _ hx).trans rfl
 have HB : Hid (Below w.heap.size w W0) := by rw [← e0]; exact (Below.refl _ _).alloc (Nat.le_refl _) _
 have HE := Lib.hid e0
 clear hx e0
 go_enter Tryz.func54, Tryz.ntmps54
 go_wp2_with fail
 rw [HE.out]
 exact bodyPost_ret (v := .tuple #[.agg #[.slice none 0 0, .int .i64 0, .slice none 0 0], .int .i64 c]) (by simp [results, Tryz.results54, go_sem, v0, v1, v2]) rfl ⟨rfl, HB.out⟩
structure MInv (F s : NS) (L : List (Int × Ty)) : Prop where
 eq : L.foldl stepN s = F
 tl : s.types.length + L.length ≤ 2000000
 cl : s.chs.length + L.length ≤ 2000000
 pos : 0 < s.types.length
 nm : ∀ y ∈ s.types, y.name.size ≤ maxLen
 ln : ∀ c ∈ L, c.2.name.size ≤ maxLen
theorem MInv.small {F s : NS} {L : List (Int × Ty)} (h : MInv F s L) : NSm s := ⟨by have := h.tl; omega, by have := h.cl; omega, h.pos, h.nm⟩
theorem MInv.step {F s : NS} {c : Int × Ty} {L : List (Int × Ty)} (h : MInv F s (c :: L)) : MInv F (stepN s c) L := by
 have e := h.eq
 have h1 := h.tl
 have h2 := h.cl
 simp only [List.length_cons] at h1 h2
 have hp := h.pos
 have hln : ∀ d ∈ L, d.2.name.size ≤ maxLen := fun d hd => h.ln d (List.mem_cons_of_mem _ hd)
 rw [List.foldl_cons] at e
 refine ⟨e, ?_, ?_, ?_, ?_, hln⟩ <;> unfold stepN <;> by_cases hc : c.2 = s.last
 ·rw [if_pos hc]; omega
 ·rw [if_neg hc]
  simp only [addTy]
  split
  ·omega
  ·simp only [List.length_append, List.length_cons, List.length_nil]; omega
 ·rw [if_pos hc]; omega
 ·rw [if_neg hc]
  simp only [List.length_append, List.length_cons, List.length_nil]; omega
 ·rw [if_pos hc]; exact hp
 ·rw [if_neg hc]
  simp only [addTy]
  split
  ·exact hp
  ·simp only [List.length_append, List.length_cons, List.length_nil]; omega
 ·rw [if_pos hc]; exact h.nm
 ·rw [if_neg hc]
  simp only [addTy]
  split
  ·exact h.nm
  ·intro y hy
   rcases List.mem_append.1 hy with hy | hy
   ·exact h.nm y hy
   ·rw [List.mem_singleton.1 hy]; exact h.ln c List.mem_cons_self
theorem MInv.done {F s : NS} (h : MInv F s []) : s = F := h.eq
theorem cand_len {rules : List Ru} (ho : ∀ r ∈ rules, OkRu r) (l : List Er) (te : Int) : ∀ (n k : Nat) (fr : Int), (candF rules l te n fr k).length ≤ n * 1501
 | 0, _, _ => Nat.zero_le _
 | n + 1, k, fr => by
  have h1 : ∀ a c, (evF (tdA rules l k) a c).length ≤ 1500 := by
   intro a c
   unfold evF winF
   rw [List.length_map]
   exact Nat.le_trans (List.length_filter_le _ _) (tdR_len ho _)
  have h2 := cand_len ho l te n (k + 1) ((eraAt l k).un + 1)
  have h3 := h1 fr (lastF l k te)
  rw [candF]
  split
  ·omega
  ·simp only [List.length_append, List.length_cons]; omega
theorem minv_start {rules : List Ru} {l : List Er} (hok : TdsOk rules l) (ho : ∀ r ∈ rules, OkRu r) (hl : l.length ≤ 1000) (fr te : Int) : MInv (makeN (stF rules l fr) (candsF rules l fr te)) (begN (stF rules l fr)) (candF rules l te (l.length - whichF l fr) (fr + 1) (whichF l fr)) := by
 have hn := cand_len ho l te (l.length - whichF l fr) (whichF l fr) (fr + 1)
 have hsz : ∀ y, (stF rules l y).name.size ≤ maxLen := fun y => by
  have := abbr_sizeT _ (stF_ok hok y).2.2
  simp only [maxLen]; omega
 refine ⟨rfl, ?_, ?_, ?_, ?_, ?_⟩
 ·simp only [begN, List.length_cons, List.length_nil]; omega
 ·simp only [begN, List.length_nil]; omega
 ·simp [begN]
 ·intro y hy
  simp only [begN, List.mem_singleton] at hy
  rw [hy]; exact hsz _
 ·intro c hc
  rw [((cands_spec hok fr te).2.1 c hc).2.2.1]
  exact hsz _
theorem ev_win (x : Td) (a c : Int) : evF x a c = (winL x.ts a c).map fun t => (t, tdTy x t) := by
 unfold evF winF winL
 rw [List.map_map]
 rfl
theorem tmFlat_at : ∀ (ms : List TdM) (k : Nat) (hk : k < ms.length) (j : Nat) (u : Value), (tdCells ms[k].td ms[k].tv)[j]? = some u → (tmFlat ms)[k * 7 + j]? = some u
 | m :: r, 0, _, j, u, h => by
  have hj : j < 7 := (Array.getElem?_eq_some_iff.mp h).1
  show (tmL m ++ tmFlat r)[0 * 7 + j]? = some u
  rw [Nat.zero_mul, Nat.zero_add, List.getElem?_append_left (by exact hj)]
  simpa using h
 | m :: r, k + 1, hk, j, u, h => by
  have := tmFlat_at r k (by simpa using hk) j u (by simpa using h)
  show (tmL m ++ tmFlat r)[(k + 1) * 7 + j]? = some u
  rw [List.getElem?_append_right (by show 7 ≤ _; omega)]
  show (tmFlat r)[(k + 1) * 7 + j - 7]? = some u
  rw [show (k + 1) * 7 + j - 7 = k * 7 + j by omega]
  exact this
structure EraUse (rules : List Ru) (l : List Er) (W : World) (g k : Nat) (p : Option Addr) (n c : Nat) : Prop where
 c0 : W.cell? ⟨g, k * 7, none⟩ = some (.int .i64 (tdA rules l k).er.off)
 c1 : W.cell? ⟨g, k * 7 + 1, none⟩ = some (.string (tdA rules l k).er.ru)
 c2 : W.cell? ⟨g, k * 7 + 2, none⟩ = some (.int .i64 (tdA rules l k).er.sv)
 c3 : W.cell? ⟨g, k * 7 + 3, none⟩ = some (.string (tdA rules l k).er.fm)
 c4 : W.cell? ⟨g, k * 7 + 4, none⟩ = some (.int .i64 (tdA rules l k).er.un)
 c5 : W.cell? ⟨g, k * 7 + 5, none⟩ = some (.slice p n c)
 c6 : W.cell? ⟨g, k * 7 + 6, none⟩ = some (.string (tdA rules l k).fst)
 tdat : ∀ t, Calls Tryz.prog 49 #[.agg (tdCells (tdA rules l k) (.slice p n c)), .int .i64 t] W fun e w' => e = .returned (tyV (tdTy (tdA rules l k) t)) ∧ Below W.heap.size W w'
 len : (tdA rules l k).ts.length ≤ 1500
 win : ∀ a z, Calls Tryz.prog 56 #[.agg (tdCells (tdA rules l k) (.slice p n c)), .int .i64 a, .int .i64 z] W (WinPost (winL (tdA rules l k).ts a z) W)
theorem tds_use {rules : List Ru} {l : List Er} {ms : List TdM} {v : Value} {W : World} {B : Nat} (hok : TdsOk rules l) (ho : ∀ r ∈ rules, OkRu r) (hms : ms.map (·.td) = l.map (tdR rules)) (hts : TdsAt W B v ms) (hne : 0 < l.length) (hm : MaxLen W) :
  ∃ g cap, ∃ P : Nat → Option Addr × Nat × Nat, v = .slice (some ⟨g, 0, none⟩) l.length cap ∧ l.length ≤ cap ∧ g < W.heap.size ∧ ∀ W', Below W.heap.size W W' → ∀ k, k < l.length → EraUse rules l W' g k (P k).1 (P k).2.1 (P k).2.2 := by
 have hlen : ms.length = l.length := by have := congrArg List.length hms; simpa using this
 rcases own_cells hts.row with ⟨-, h0⟩ | ⟨g, cap, hv, hb, hg, hc⟩
 ·omega
 obtain ⟨hcap, -⟩ : ms.length ≤ cap ∧ True := by
  rcases hts.row.2 with ⟨-, h0⟩ | ⟨g2, cap2, cur, e, -, -, h3, -⟩
  ·omega
  ·rw [hv] at e
   simp only [Value.slice.injEq, true_and] at e
   obtain ⟨-, rfl⟩ := e
   exact ⟨h3, trivial⟩
 have hex : ∀ k, ∃ t : Option Addr × Nat × Nat, ∀ hk : k < ms.length, ms[k].tv = .slice t.1 t.2.1 t.2.2 ∧ t.2.1 = ms[k].td.ts.length := by
  intro k
  by_cases hk : k < ms.length
  ·obtain ⟨p, c, e⟩ := own_sliceN (hts.ts ms[k] (List.getElem_mem hk))
   exact ⟨(p, _, c), fun _ => ⟨e, rfl⟩⟩
  ·exact ⟨(none, 0, 0), fun h => absurd h hk⟩
 obtain ⟨P, hP⟩ := Classical.axiomOfChoice hex
 refine ⟨g, cap, P, by rw [hv, hlen], by omega, hg, fun W' hb' k hk => ?_⟩
 have hkm : k < ms.length := by omega
 have etd : ms[k].td = tdA rules l k := by
  unfold tdA
  rw [eraAt_in _ _ hk]
  have : (ms.map (·.td))[k]'(by simpa using hkm) = (l.map (tdR rules))[k]'(by simpa using hk) := by congr 1
  simpa using this
 have hrow := hts.ts ms[k] (List.getElem_mem hkm)
 rw [etd] at hrow
 have hcl : ∀ j u, (tdCells (tdA rules l k) ms[k].tv)[j]? = some u → W'.cell? ⟨g, k * 7 + j, none⟩ = some u := by
  intro j u hu
  rw [← etd] at hu
  exact (hb'.cell (p := ⟨g, k * 7 + j, none⟩) hg).trans (hc _ _ (tmFlat_at ms k hkm j u hu))
 obtain ⟨hp1, hp2⟩ := hP k hkm
 rw [etd] at hp2
 rw [hp1] at hrow hcl
 generalize P k = t at hrow hcl hp2
 obtain ⟨p, n, c⟩ := t
 dsimp only at hrow hcl hp2 ⊢
 subst hp2
 have hx : EraOk rules (eraAt l k) := by rw [eraAt_in _ _ hk]; exact hok.o.ok _ (List.getElem_mem hk)
 have hlen5 : (tdA rules l k).ts.length ≤ 1500 := tdR_len ho _
 have hrows : RowsAt tnC 3 W'.heap.size W' (.slice p (tdA rules l k).ts.length c) (tdA rules l k).ts := by
  have h1 := own_rowsT hrow (by omega)
  exact (RowsAt.below (h1.mono (Nat.le_refl _)) hb' (Nat.le_refl _)).mono hb'.size
 have he : (tdA rules l k).er = eraAt l k := tdR_er _ _
 refine ⟨hcl 0 _ rfl, hcl 1 _ rfl, hcl 2 _ rfl, hcl 3 _ rfl, hcl 4 _ rfl, hcl 5 _ rfl, hcl 6 _ rfl, fun t => ?_, hlen5, fun a z => Within_any _ _ a z W' hrows (by omega)⟩
 obtain ⟨s1, s2, s3, -⟩ := sv_ok hx t
 have ho1 := hx.o1
 have ho2 := hx.o2
 refine TdAt_any _ _ t W' hrows (hok.r k hk) (by rw [he]; omega) (by rw [he]; omega) (by rw [he]; exact abE_fm s1) (abbr_lt s1) s2 s3 (hm.below hb') (by omega)
theorem minv_in {rules : List Ru} {l : List Er} {te f : Int} {k : Nat} {F s : NS} (hk : k < l.length) (h : MInv F s (candF rules l te (l.length - k) f k)) :
  ∃ R, MInv F s (((winL (tdA rules l k).ts f (lastF l k te)).drop 0).map (fun t => (t, tdTy (tdA rules l k) t)) ++ R) ∧ (k + 1 = l.length ∨ te ≤ (eraAt l k).un → R = []) ∧
   (¬ (k + 1 = l.length ∨ te ≤ (eraAt l k).un) → R = ((eraAt l k).un, tdTy (tdA rules l (k + 1)) (eraAt l k).un) :: candF rules l te (l.length - (k + 1)) ((eraAt l k).un + 1) (k + 1)) := by
 rw [show l.length - k = (l.length - (k + 1)) + 1 by omega] at h
 rw [List.drop_zero, ← ev_win]
 by_cases c : k + 1 = l.length ∨ te ≤ (eraAt l k).un
 ·rw [cand_end c] at h
  exact ⟨[], by rw [List.append_nil]; exact h, fun _ => rfl, fun g => absurd c g⟩
 ·rw [cand_go c] at h
  exact ⟨_, h, fun g => absurd g c, fun _ => rfl⟩
theorem minv_next {X : Int → Ty} {F s : NS} {W : List Int} {R : List (Int × Ty)} {j : Nat} (hj : j < W.length) (h : MInv F s ((W.drop j).map (fun t => (t, X t)) ++ R)) : NSm s ∧ MInv F (stepN s (W[j], X W[j])) ((W.drop (j + 1)).map (fun t => (t, X t)) ++ R) := by
 rw [List.drop_eq_getElem_cons hj, List.map_cons, List.cons_append] at h
 exact ⟨h.small, h.step⟩
theorem minv_rest {X : Int → Ty} {F s : NS} {W : List Int} {R : List (Int × Ty)} {j : Nat} (hj : ¬ j < W.length) (h : MInv F s ((W.drop j).map (fun t => (t, X t)) ++ R)) : MInv F s R := by
 rw [List.drop_eq_nil_of_le (by omega)] at h
 exact h
def KeepI (w w' : World) : Prop := ∀ (b : Nat) (cs : Array Value) (f : Nat × Nat), w.heap[b]? = some (Obj.cells cs 3 f) → w'.heap[b]? = some (Obj.cells cs 3 f)
theorem KeepI.refl (w : World) : KeepI w w := fun _ _ _ h => h
theorem KeepI.trans {a b c : World} (h : KeepI a b) (g : KeepI b c) : KeepI a c := fun x cs f e => g x cs f (h x cs f e)
theorem KeepI.below {w w' : World} (h : Below w.heap.size w w') : KeepI w w' := fun b cs f e => (h.block b (Array.getElem?_eq_some_iff.mp e).1).trans e
theorem change_int {w w' : World} {M b0 : Nat} {sv cv : Value} {s : NS} (hm : Mk w M b0 sv cv s) (hk : ∀ b, b < w.heap.size → b ≠ M → sv.ownBlock ≠ some b → cv.ownBlock ≠ some b → w'.heap[b]? = w.heap[b]?) : KeepI w w' := by
 intro b cs f e
 refine (hk b (Array.getElem?_eq_some_iff.mp e).1 (fun g => ?_) (own_type hm.rowT e (by decide)) (own_type hm.rowC e (by decide))).trans e
 have h2 := hm.blk
 rw [← g, e] at h2
 injection h2 with h2
 injection h2 with _ h3 _
 exact absurd h3 (by decide)
theorem int_row {w w' : World} {B : Nat} {v : Value} {L : List Int} (h : w.ownsRow B 3 1 v L.length (L.map (Value.int .i64))) (hk : KeepI w w') : w'.ownsRow B 3 1 v L.length (L.map (Value.int .i64)) := by
 refine own_keep h fun g e => ?_
 rcases h.2 with ⟨e1, _⟩ | ⟨g2, cap, cur, e1, _, hg, _⟩
 ·rw [e1] at e; cases e
 ·rw [e1] at e
  simp only [Value.ownBlock] at e
  injection e with e
  subst e
  rw [hg]
  exact hk _ _ _ hg
theorem int_cell {w : World} {B : Nat} {A : Option Addr} {c : Nat} {L : List Int} (h : w.ownsRow B 3 1 (.slice A L.length c) L.length (L.map (Value.int .i64))) {j : Nat} (hj : j < L.length) : ∃ g, A = some ⟨g, 0, none⟩ ∧ L.length ≤ c ∧ g < w.heap.size ∧ w.cell? ⟨g, j, none⟩ = some (.int .i64 L[j]) := by
 rcases own_cells h with ⟨e, h0⟩ | ⟨g, cap, e, hb, hg, hc⟩
 ·omega
 ·simp only [Value.slice.injEq, true_and] at e
  obtain ⟨rfl, rfl⟩ := e
  refine ⟨g, rfl, ?_, hg, hc j _ (by simp [hj])⟩
  rcases h.2 with ⟨e1, _⟩ | ⟨g2, cap, cur, e1, _, hg, h3, _⟩
  ·cases e1
  ·simp only [Value.slice.injEq, true_and] at e1
   obtain ⟨-, rfl⟩ := e1
   exact h3
end Go.Proofs.YtomahddiclkepaaGreatDoor
namespace Go.Proofs.YtomahddiclkepaaGreatDoor
def loopsIn : Code → List Code
 | .loop c => c :: loopsIn c
 | .seq a b => loopsIn a ++ loopsIn b
 | .block _ c => loopsIn c
 | .scope c => loopsIn c
 | .cond _ a b => loopsIn a ++ loopsIn b
 | _ => []
def loopAt (f : Func) (n : Nat) : Code := ((f.body.map loopsIn).getD []).getD n .skip
end Go.Proofs.YtomahddiclkepaaGreatDoor
