/- state.Eras: eras with their turns. names.Resolve: the walk. state.At: which type it is at a time, by a book. The reference's days, and dates that a law draws: what each returns. The reference's days of a date. A type's comparison. -/
import Derived.Test.YtacogloheiendaaGreatDoorS10
import Derived.Test.YtacogloheiendaaGreatDoorS07
import Derived.Test.YtacogloheiendaaGreatDoorS03
import Derived.Test.YtacogloheiendaaGreatDoorCiv3
import Derived.WalkKit
import Derived.Laws.StructEq
namespace Go.Proofs.YtacogloheiendaaGreatDoor
open Go.RowKit Go.Joins
open Classical
set_option linter.unusedVariables false
set_option linter.unusedSimpArgs false

structure TdM where
  td : Td
  tv : Value
abbrev tmL (m : TdM) : List Value := (tdCells m.td m.tv).toList
def tmFlat (l : List TdM) : List Value := l.flatMap tmL
theorem tmFlat_snoc (l : List TdM) (m : TdM) : tmFlat (l ++ [m]) = tmFlat l ++ (tdCells m.td m.tv).toList := by simp [tmFlat]
theorem infoTd : (Tryz.prog.info? 86).map (fun i => (i.zero, i.size, i.bytes)) = some (some (.agg #[.int .i64 0, .string ⟨#[]⟩, .int .i64 0, .string ⟨#[]⟩, .int .i64 0, .slice none 0 0, .string ⟨#[]⟩]), 7, 96) := by kernel_rfl
theorem undTd : Tryz.prog.underlying 81 = some (.slice 86) := by kernel_rfl
/-- eras with turns in memory of one's own -/
structure TdsAt (W : World) (B : Nat) (v : Value) (ms : List TdM) : Prop where
  row : W.ownsRow B 86 7 v ms.length (tmFlat ms)
  ts : ∀ m ∈ ms, W.ownsRow B 113 3 m.tv m.td.ts.length (tnCells m.td.ts)
def ErasPost (rules : List Ru) (l : List Er) (w : World) (e : Ending) (w' : World) : Prop :=
  Below w.heap.size w w' ∧ (firstE (tdE rules) l ≠ 0 → e = .returned (.tuple #[.slice none 0 0, .int .i64 (firstE (tdE rules) l)])) ∧
  (firstE (tdE rules) l = 0 → ∃ v ms, e = .returned (.tuple #[v, .int .i64 0]) ∧ ms.map (·.td) = l.map (tdR rules) ∧ TdsAt w' w.heap.size v ms)
theorem ErasPost.bad {rules : List Ru} {l : List Er} {w w' : World} {c : Int} (h : firstE (tdE rules) l = c) (hc : c ≠ 0) (hb : Below w.heap.size w w') : ErasPost rules l w (.returned (.tuple #[.slice none 0 0, .int .i64 c])) w' :=
  ⟨hb, fun _ => by rw [h], fun g => absurd (h.symm.trans g) hc⟩
theorem ErasPost.ok {rules : List Ru} {l : List Er} {w w' : World} {v : Value} {ms : List TdM} (h : firstE (tdE rules) l = 0) (hm : ms.map (·.td) = l.map (tdR rules)) (ht : TdsAt w' w.heap.size v ms) (hb : Below w.heap.size w w') : ErasPost rules l w (.returned (.tuple #[v, .int .i64 0])) w' :=
  ⟨hb, fun g => absurd h g, fun _ => ⟨v, ms, rfl, hm, ht⟩⟩
theorem heap_setSt {w : World} {R i : Nat} {cs : Array Value} {T : TypeId} {f : Nat × Nat} (h : w.heap[R]? = some (.cells cs T f)) (v : Value) : (w.setCell ⟨R, i, none⟩ v).heap[R]? = some (.cells (cs.setIfInBounds i v) T f) := by
  simp [World.setCell, Array.getElem?_modify, h]
/-- a row of one's own is no block of another type -/
theorem own_type {W : World} {B : Nat} {e T : TypeId} {s n R : Nat} {v : Value} {xs : List Value} {cs : Array Value} {f : Nat × Nat} (h : W.ownsRow B e s v n xs) (hR : W.heap[R]? = some (.cells cs T f)) (hne : e ≠ T) : v.ownBlock ≠ some R := by
  rcases h.2 with ⟨e1, _⟩ | ⟨g, cap, cur, e1, _, hg, _⟩
  · rw [e1]; simp [Value.ownBlock]
  · rw [e1]
    simp only [Value.ownBlock]
    intro e2
    injection e2 with e2
    subst e2
    rw [hR] at hg
    injection hg with hg
    injection hg with _ h2 _
    exact hne h2.symm
/-- a row of one's own lies on behind a growth of another type's row -/
theorem own_grown {W W' : World} {B B' : Nat} {e e' : TypeId} {s s' n n' : Nat} {v v' : Value} {xs xs' : List Value} (h : W.ownsRow B e s v n xs) (h' : W.ownsRow B' e' s' v' n' xs') (hne : e ≠ e') (hg : W.grownBy W' v'.ownBlock) : W'.ownsRow B e s v n xs := by
  refine own_keep h fun g eg => hg.block g (World.ownsRow.lt h g eg).2 fun e2 => ?_
  rcases own_apart h h' hne with h3 | h3
  · rw [h3] at eg; cases eg
  · exact h3 (by rw [eg, e2])
theorem firstE_upto {α : Type} (f : α → Int) (l : List α) (k : Nat) (hk : k < l.length) (h : firstE f (l.take k) = 0) (h2 : f l[k] ≠ 0) : firstE f l = f l[k] := by
  have key : ∀ (a b : List α) (x : α), firstE f a = 0 → f x ≠ 0 → firstE f (a ++ x :: b) = f x := by
    intro a b x
    induction a with
    | nil => intro _ hx; show (if f x = 0 then firstE f b else f x) = f x; rw [if_neg hx]
    | cons y a ih =>
      intro ha hx
      have e : firstE f (y :: a) = if f y = 0 then firstE f a else f y := rfl
      rw [e] at ha
      show (if f y = 0 then firstE f (a ++ x :: b) else f y) = f x
      by_cases hy : f y = 0
      · rw [if_pos hy] at ha ⊢; exact ih ha hx
      · rw [if_neg hy] at ha; exact absurd ha hy
  have := key (l.take k) (l.drop (k + 1)) l[k] h h2
  rwa [← List.drop_eq_getElem_cons hk, List.take_append_drop] at this
theorem firstE_next {α : Type} (f : α → Int) (l : List α) (k : Nat) (hk : k < l.length) (h : firstE f (l.take k) = 0) (h2 : f l[k] = 0) : firstE f (l.take (k + 1)) = 0 := by
  rw [firstE_zero] at h ⊢
  intro x hx
  rw [List.take_succ_eq_append_getElem hk] at hx
  rcases List.mem_append.1 hx with hx | hx
  · exact h x hx
  · rw [List.mem_singleton.1 hx]; exact h2
theorem tdE_nil {rules : List Ru} {x : Er} (h : x.ru.data.toList = []) : tdE rules x = 0 ∧ tdR rules x = ⟨x, [], dashB⟩ := by
  unfold tdE tdR; rw [if_pos h, if_pos h]; exact ⟨rfl, rfl⟩
theorem tdE_go {rules : List Ru} {x : Er} (h : x.ru.data.toList ≠ []) : tdE rules x = (mkR rules x.ru x.off).1 ∧ tdR rules x = ⟨x, (mkR rules x.ru x.off).2, firstLt (mkR rules x.ru x.off).2⟩ := by
  unfold tdE tdR; rw [if_neg h, if_neg h]; exact ⟨rfl, rfl⟩
theorem firstLt_idx (l : List Tn) : (idxF (fun u : Tn => decide (u.s = 0)) l = -1 ∧ firstLt l = dashB) ∨ ∃ k, ∃ h : k < l.length, idxF (fun u : Tn => decide (u.s = 0)) l = (k : Nat) ∧ firstLt l = l[k].lt := by
  unfold idxF firstLt fstK
  by_cases h : (l.any fun u => decide (u.s = 0)) = true
  · have hlt : (l.findIdx fun u => decide (u.s = 0)) < l.length := List.findIdx_lt_length.2 (by
      obtain ⟨x, hx, e⟩ := List.any_eq_true.1 h
      exact ⟨x, hx, e⟩)
    rw [if_pos h, List.getElem?_eq_getElem hlt]
    exact .inr ⟨_, hlt, rfl, rfl⟩
  · have hno : (l.findIdx fun u => decide (u.s = 0)) = l.length := List.findIdx_eq_length.2 fun x hx => by
      cases e : decide (x.s = 0) with
      | false => rfl
      | true => exact absurd (List.any_eq_true.2 ⟨x, hx, e⟩) h
    rw [if_neg h, hno, List.getElem?_eq_none (Nat.le_refl _)]
    exact .inl ⟨rfl, rfl⟩

set_option maxRecDepth 100000 in
set_option maxHeartbeats 20000000 in
theorem Eras_any (MK : MakeSays) (rules : List Ru) (rv zv lv : Value) (nm : ByteArray) (l : List Er) (v : Value) (w : World) (hR : RowsAt (fun r : Ru => (ruCells r).toList) 11 w.heap.size w rv rules) (hro : ∀ r ∈ rules, OkRu r) (hr40 : rules.length ≤ 40)
    (hE : RowsAt (fun x : Er => (erCells x).toList) 5 w.heap.size w v l) (hoff : ∀ x ∈ l, -75600 ≤ x.off ∧ x.off ≤ 75600) (hl : l.length ≤ 1000) (hz : ∃ p n c, zv = .slice p n c) (hlv : ∃ p n c, lv = .slice p n c) :
    Calls Tryz.prog 30 #[.agg #[rv, zv, lv], .agg #[.string nm, v]] w (ErasPost rules l w) := by
  obtain ⟨zp, zn, zc, rfl⟩ := hz
  obtain ⟨lp, ln, lc, rfl⟩ := hlv
  have HRL := Lib.hid hR
  obtain ⟨p1, c1, rfl, -, -⟩ := hR
  obtain ⟨pv, cv, rfl, ⟨-, hlc⟩, hat⟩ := hE
  obtain ⟨W0, eW⟩ : ∃ W0, (w.alloc (.cells #[.slice p1 rules.length c1, .slice zp zn zc, .slice lp ln lc] 32)).alloc (.cells #[.string nm, .slice pv l.length cv] 62) = W0 := ⟨_, rfl⟩
  have hb0 : Below w.heap.size w W0 := by rw [← eW]; exact ((Below.refl _ _).alloc (Nat.le_refl _) _).alloc (by simp) _
  have hz0 : W0.heap.size = w.heap.size + 2 := by rw [← eW]; simp
  have hbx : W0.heap[w.heap.size]? = some (.cells #[.slice p1 rules.length c1, .slice zp zn zc, .slice lp ln lc] 32 (0, 0)) := by
    rw [← eW, Below.heap_alloc _ _ _ (by simp)]
    exact heap_alloc_new w _
  have hzx : W0.heap[w.heap.size + 1]? = some (.cells #[.string nm, .slice pv l.length cv] 62 (0, 0)) := by
    rw [← eW]
    exact alloc_at _ _ _ (by simp)
  have x1 := (cell_of_row W0 _ 1 _ _ _ hzx).trans rfl
  have HEW := Lib.hid eW
  have HB0 := Lib.hid hb0
  have HBX := Lib.hid hbx
  have HAT := Lib.hid hat
  have HOFF := Lib.hid hoff
  have HMK : Hid (∀ (W : World) (nm : ByteArray) (off : Int), Below w.heap.size w W → -75600 ≤ off → off ≤ 75600 → Calls Tryz.prog 52 #[.slice p1 rules.length c1, .string nm, .int .i64 off] W (MakePost rules nm off W)) := by
    show ∀ W nm off, _
    intro W nm off hb h1 h2
    exact MK rules nm off _ W ((HRL.out.below hb (Nat.le_refl _)).mono hb.size) hro hr40 h1 h2
  have HLEN : Hid (∀ nm off, (mkR rules nm off).2.length ≤ 1500) := fun nm off => (mkR_len hro nm off).1
  have HBAD := Lib.hid (fun k hk h1 h2 => firstE_upto (tdE rules) l k hk h1 h2)
  have HNXT := Lib.hid (fun k hk h1 h2 => firstE_next (tdE rules) l k hk h1 h2)
  obtain ⟨i1, hi1, hz10, hz11, hz12⟩ := info_parts infoTd
  clear eW hb0 hbx hzx hat hoff hro
  go_enter Tryz.func30, Tryz.ntmps30
  go_upto_region 2 with fail
  rw [HEW.out]
  go_wp2_with fail
  go_loopw [6, 16] (fun v6 i wr => ∃ (k : Nat) (ms : List TdM), k ≤ l.length ∧ i = .int .i64 k ∧ Hid (ms.map (·.td) = (l.take k).map (tdR rules)) ∧ Hid (firstE (tdE rules) (l.take k) = 0) ∧ Hid (TdsAt wr W0.heap.size v6 ms) ∧ Hid (Below W0.heap.size W0 wr)) (fun _ i _ => l.length - (intOf i).toNat)
  case atStart => exact ⟨0, [], Nat.zero_le _, rfl, rfl, rfl, ⟨World.ownsRow_nil _ _ _ _, fun m hm => absurd hm (List.not_mem_nil)⟩, Lib.hid (Below.refl _ _)⟩
  case round =>
    obtain ⟨k, ms, hk, rfl, HMS, HFE, HTD, HBR⟩ := hrel
    have hzr := HBR.out.size
    have hml : ms.length = k := by
      have := congrArg List.length HMS.out
      simpa [List.length_take, Nat.min_eq_left hk] using this
    have hmle : ms.length ≤ 1000 := by omega
    clear hml
    by_cases hkl : k < l.length
    · obtain ⟨bb, o, rfl, hbl, hcs⟩ := HAT.out (List.ne_nil_of_length_pos (by omega))
      have hck := hcs k hkl
      have hoff := HOFF.out _ (List.getElem_mem hkl)
      have HB1 := Lib.hid (HBAD.out k hkl HFE.out)
      have HN1 := Lib.hid (HNXT.out k hkl HFE.out)
      have HSN : Hid (∀ m : TdM, m.td = tdR rules l[k] → (ms ++ [m]).map (·.td) = (l.take (k + 1)).map (tdR rules)) := by
        show ∀ m : TdM, _
        intro m hm
        rw [List.take_succ_eq_append_getElem hkl, List.map_append, List.map_append, HMS.out]
        simp [hm]
      have HBW := Lib.hid (HB0.out.trans (HBR.out.mono HB0.out.size))
      have up : ∀ j u, w.cell? ⟨bb, o + k * 5 + j, none⟩ = some u → wr.cell? ⟨bb, o + k * 5 + j, none⟩ = some u := fun j u h => (HBW.out.cell (p := ⟨bb, o + k * 5 + j, none⟩) hbl).trans h
      obtain ⟨q, eq⟩ : ∃ q, l[k] = q := ⟨_, rfl⟩
      rw [eq] at hck hoff HB1 HN1 HSN
      clear eq hcs
      have z0 := up 0 _ (hck 0 _ rfl)
      have z1 := up 1 _ (hck 1 _ rfl)
      have z2 := up 2 _ (hck 2 _ rfl)
      have z3 := up 3 _ (hck 3 _ rfl)
      have z4 := up 4 _ (hck 4 _ rfl)
      rw [Nat.add_zero] at z0
      clear up hck
      have HNIL := Lib.hid (fun h => tdE_nil (rules := rules) (x := q) h)
      have HGO := Lib.hid (fun h => tdE_go (rules := rules) (x := q) h)
      obtain ⟨off, ru, sv, fm, un⟩ := q
      simp only at hoff z0 z1 z2 z3 z4 HNIL HGO
      obtain ⟨W3, eW3⟩ : ∃ W3, (wr.alloc (.cells #[.int .i64 off, .string ru, .int .i64 sv, .string fm, .int .i64 un] 54)).alloc (.cells #[.int .i64 off, .string ru, .int .i64 sv, .string fm, .int .i64 un, .slice none 0 0, .string ⟨#[45]⟩] 86) = W3 := ⟨_, rfl⟩
      obtain ⟨eb, eeb⟩ : ∃ eb, wr.heap.size = eb := ⟨_, rfl⟩
      have hx3 : W3.heap[eb]? = some (.cells #[.int .i64 off, .string ru, .int .i64 sv, .string fm, .int .i64 un] 54 (0, 0)) := by
        rw [← eW3, Below.heap_alloc _ _ _ (by simp; omega)]
        exact alloc_at _ _ _ eeb.symm
      have ht3 : W3.heap[eb + 1]? = some (.cells #[.int .i64 off, .string ru, .int .i64 sv, .string fm, .int .i64 un, .slice none 0 0, .string ⟨#[45]⟩] 86 (0, 0)) := by
        rw [← eW3]
        exact alloc_at _ _ _ (by simp; omega)
      have hz3 : W3.heap.size = eb + 2 := by rw [← eW3]; simp; omega
      have hk3 : ∀ b, b < wr.heap.size → W3.heap[b]? = wr.heap[b]? := fun b hb => by rw [← eW3, Below.heap_alloc _ _ _ (by simp; omega), Below.heap_alloc _ _ _ hb]
      have hb3 : Below wr.heap.size wr W3 := by rw [← eW3]; exact ((Below.refl _ _).alloc (Nat.le_refl _) _).alloc (by simp) _
      have HBR3 := Lib.hid (HBR.out.trans (hb3.mono hzr))
      have HTD3 : Hid (TdsAt W3 W0.heap.size u6 ms) := ⟨own_keep HTD.out.row fun g e => hk3 g (World.ownsRow.lt HTD.out.row g e).2, fun m hm => own_keep (HTD.out.ts m hm) fun g e => hk3 g (World.ownsRow.lt (HTD.out.ts m hm) g e).2⟩
      have HGN : Hid (∀ g, u6.ownBlock = some g → g < eb) := fun g e => by have := (World.ownsRow.lt HTD.out.row g e).2; omega
      have HX3 := Lib.hid hx3
      have HT3 := Lib.hid ht3
      have HEW3 := Lib.hid eW3
      have HEB := Lib.hid eeb
      clear hk3 hb3 hx3 ht3 eW3 HTD
      go_upto_region 6 with fail
      rw [HEW3.out]
      have hebz : W0.heap.size ≤ eb := by have := HEB.out; omega
      have e0 : W3.cell? ⟨eb, 0, none⟩ = some (.int .i64 off) := (cell_of_row W3 _ 0 _ _ _ HX3.out).trans rfl
      have e1 : W3.cell? ⟨eb, 1, none⟩ = some (.string ru) := (cell_of_row W3 _ 1 _ _ _ HX3.out).trans rfl
      have hlt3 : eb + 1 < W3.heap.size := by omega
      have hge3 : W0.heap.size ≤ W3.heap.size := by omega
      clear hz3
      clear z0 z1 z2 z3 z4
      by_cases hru : ru.toList = []
      · have b0 : ru.toList.isEmpty = true := by rw [hru]; rfl
        obtain ⟨n1, n2⟩ := HNIL.out (by rw [← ByteArray.toList_eq]; exact hru)
        have HS1 := Lib.hid (HSN.out ⟨⟨⟨off, ru, sv, fm, un⟩, [], dashB⟩, .slice none 0 0⟩ n2.symm)
        have HF1 := Lib.hid (HN1.out n1)
        have y0 : W3.cell? ⟨eb + 1, 0, none⟩ = some (.int .i64 off) := (cell_of_row W3 _ 0 _ _ _ HT3.out).trans rfl
        have y1 : W3.cell? ⟨eb + 1, 1, none⟩ = some (.string ru) := (cell_of_row W3 _ 1 _ _ _ HT3.out).trans rfl
        have y2 : W3.cell? ⟨eb + 1, 2, none⟩ = some (.int .i64 sv) := (cell_of_row W3 _ 2 _ _ _ HT3.out).trans rfl
        have y3 : W3.cell? ⟨eb + 1, 3, none⟩ = some (.string fm) := (cell_of_row W3 _ 3 _ _ _ HT3.out).trans rfl
        have y4 : W3.cell? ⟨eb + 1, 4, none⟩ = some (.int .i64 un) := (cell_of_row W3 _ 4 _ _ _ HT3.out).trans rfl
        have y5 : W3.cell? ⟨eb + 1, 5, none⟩ = some (.slice none 0 0) := (cell_of_row W3 _ 5 _ _ _ HT3.out).trans rfl
        have y6 : W3.cell? ⟨eb + 1, 6, none⟩ = some (.string ⟨#[45]⟩) := (cell_of_row W3 _ 6 _ _ _ HT3.out).trans rfl
        clear hru n1 n2 HNIL HGO HSN HN1 HB1 HMS HFE
        obtain ⟨A, cS, rfl⟩ := own_sliceN HTD3.out.row
        have HML : ms.length + 1 ≤ maxLen := by simp only [maxLen]; omega
        have HMB : (ms.length + 1) * 96 ≤ 140737488355328 := by omega
        have HROW := Lib.hid (World.ownsRow.alloc HTD3.out.row (.cells #[.int .i64 off, .string ru, .int .i64 sv, .string fm, .int .i64 un, .slice none 0 0, .string ⟨#[45]⟩] 86))
        have HNEW := Lib.hid (World.news_of_block (cs := #[.int .i64 off, .string ru, .int .i64 sv, .string fm, .int .i64 un, .slice none 0 0, .string ⟨#[45]⟩]) (t := 86) (fr := (0, 0)) (heap_alloc_new W3 (.cells #[.int .i64 off, .string ru, .int .i64 sv, .string fm, .int .i64 un, .slice none 0 0, .string ⟨#[45]⟩] 86)))
        have HSZ : W0.heap.size ≤ (W3.alloc (.cells #[.int .i64 off, .string ru, .int .i64 sv, .string fm, .int .i64 un, .slice none 0 0, .string ⟨#[45]⟩] 86)).heap.size := by have := HBR3.out.size; simp; omega
        go_wp2_with (at_builtin; refine wpList_append_own _ rfl _ _ 81 rfl W0.heap.size 86 i1 (.agg #[.int .i64 0, .string ⟨#[]⟩, .int .i64 0, .string ⟨#[]⟩, .int .i64 0, .slice none 0 0, .string ⟨#[]⟩]) 7 96 undTd hi1 hz10 hz11 hz12 rfl (by decide) _ _ _ rfl HROW.out ⟨W3.heap.size, 0, none⟩ 1 1 [.int .i64 off, .string ru, .int .i64 sv, .string fm, .int .i64 un, .slice none 0 0, .string ⟨#[45]⟩] rfl rfl HNEW.out (by simp [Value.oneCell']) HML HMB HSZ ?_; intro v' w10 hown10 hgrow10 _)
        go_roundw
        case rel =>
          refine ⟨k + 1, ms ++ [⟨⟨⟨off, ru, sv, fm, un⟩, [], dashB⟩, .slice none 0 0⟩], by omega, by go_num, HS1, HF1, ⟨?_, ?_⟩, ?_⟩
          · show World.ownsRow _ _ _ _ _ _ _
            rw [tmFlat_snoc, List.length_append]
            exact hown10
          · intro m hm
            rcases List.mem_append.1 hm with hm | hm
            · exact own_grown (World.ownsRow.alloc (HTD3.out.ts m hm) _) HROW.out (by decide) hgrow10
            · obtain rfl := List.mem_singleton.1 hm
              exact own_grown (World.ownsRow.alloc (World.ownsRow_nil _ _ _ _) _) HROW.out (by decide) hgrow10
          · exact ((HBR3.out.alloc HBR3.out.size _).grown hgrow10 HSZ fun q hq => (World.ownsRow.lt HROW.out q hq).1)
        case measure => simp [intOf]; omega
      · have b0 : ru.toList.isEmpty = false := by
          cases e : ru.toList with
          | nil => exact absurd e hru
          | cons c r => rfl
        obtain ⟨n1, n2⟩ := HGO.out (by rw [← ByteArray.toList_eq]; exact hru)
        rw [n1] at HB1 HN1
        have HSN2 : Hid (∀ m : TdM, m.td = ⟨⟨off, ru, sv, fm, un⟩, (mkR rules ru off).2, firstLt (mkR rules ru off).2⟩ → (ms ++ [m]).map (·.td) = (l.take (k + 1)).map (tdR rules)) := by
          show ∀ m : TdM, _
          intro m hm
          exact HSN.out m (by rw [n2]; exact hm)
        have HBW3 := Lib.hid (HB0.out.trans (HBR3.out.mono HB0.out.size))
        have g0 : W3.cell? ⟨w.heap.size, 0, none⟩ = some (.slice p1 rules.length c1) := (cell_of_row W3 _ 0 _ _ _ ((HBR3.out.block w.heap.size (by omega)).trans HBX.out)).trans rfl
        have HMK3 := Lib.hid (HMK.out W3 ru off HBW3.out hoff.1 hoff.2)
        have HLN := HLEN.out ru off
        clear hru n1 n2 HNIL HGO HSN HMS HFE
        go_wp2_with fail
        refine HMK3.out.mono ?_
        rintro e w4 ⟨vo, rfl, hrow4, hb4⟩
        obtain ⟨C, eC⟩ : ∃ C, (mkR rules ru off).1 = C := ⟨_, rfl⟩
        obtain ⟨L, eL⟩ : ∃ L, (mkR rules ru off).2 = L := ⟨_, rfl⟩
        rw [eC] at HB1 HN1 ⊢
        rw [eL] at HSN2 HLN hrow4
        have HBR4 := Lib.hid (HBR3.out.trans (hb4.mono HBR3.out.size))
        have ht4 := (hb4.block (eb + 1) hlt3).trans HT3.out
        have HT4 := Lib.hid ht4
        have hz4 : W3.heap.size ≤ w4.heap.size := hb4.size
        have HTD4 : Hid (TdsAt w4 W0.heap.size u6 ms) := ⟨own_keep HTD3.out.row fun g e => hb4.block g (World.ownsRow.lt HTD3.out.row g e).2, fun m hm => own_keep (HTD3.out.ts m hm) fun g e => hb4.block g (World.ownsRow.lt (HTD3.out.ts m hm) g e).2⟩
        have HR4 := Lib.hid (own_base hrow4 HBR3.out.size)
        obtain ⟨Av, cV, rfl⟩ := own_sliceN hrow4
        clear hb4 ht4 hrow4 HMK3 HTD3 HT3 eC eL e0 e1 g0
        by_cases hC : C = 0
        case neg =>
          have HBD := Lib.hid (HB1.out hC)
          have hz : (C == 0) = false := by simpa using hC
          have hz2 : (!C == 0) = true := by rw [hz]; rfl
          have HCN := Lib.hid hC
          clear hC
          go_wp2_with fail
          go_ret2
          exact ErasPost.bad HBD.out HCN.out (HB0.out.trans (HBR4.out.mono HB0.out.size))
        case pos =>
        subst hC
        have HF1 := Lib.hid (HN1.out rfl)
        obtain ⟨W5, e5⟩ : ∃ W5, w4.setCell ⟨eb + 1, 5, none⟩ (.slice Av L.length cV) = W5 := ⟨_, rfl⟩
        have hk5 : ∀ b, b ≠ eb + 1 → W5.heap[b]? = w4.heap[b]? := fun b hb => by rw [← e5]; exact Below.heap_setCell _ _ _ _ hb
        have hz5 : W5.heap.size = w4.heap.size := by rw [← e5]; simp [World.setCell]
        have ht5 : W5.heap[eb + 1]? = some (.cells #[.int .i64 off, .string ru, .int .i64 sv, .string fm, .int .i64 un, .slice Av L.length cV, .string ⟨#[45]⟩] 86 (0, 0)) := by
          rw [← e5]
          exact (heap_setSt HT4.out (i := 5) (.slice Av L.length cV)).trans rfl
        have hb5 : Below W0.heap.size w4 W5 := by rw [← e5]; exact (Below.refl _ _).setCell (by show W0.heap.size ≤ eb + 1; omega) _
        have HBR5 := Lib.hid (HBR4.out.trans hb5)
        have own5 : ∀ {e : TypeId} {s n : Nat} {v : Value} {xs : List Value}, e ≠ 86 → w4.ownsRow W0.heap.size e s v n xs → W5.ownsRow W0.heap.size e s v n xs := fun {e s n v xs} he h => own_keep h fun g eg => hk5 g fun e2 => own_type h HT4.out he (by rw [eg, e2])
        have hneR : ∀ g, u6.ownBlock = some g → g ≠ eb + 1 := fun g eg e2 => by have := HGN.out g eg; omega
        have HTD5 : Hid (TdsAt W5 W0.heap.size u6 ms) := ⟨own_keep HTD4.out.row fun g eg => hk5 g (hneR g eg), fun m hm => own5 (by decide) (HTD4.out.ts m hm)⟩
        have HR5 := Lib.hid (own5 (by decide) HR4.out)
        have HT5 := Lib.hid ht5
        have HE5 := Lib.hid e5
        have HIX := Lib.hid (IdxTn_any L _ W5 (own_rowsT HR5.out (by omega)))
        have y5w : w4.frozen? ⟨eb + 1, 5, none⟩ = false := by simp [World.frozen?, HT4.out]
        have y5c : w4.cell? ⟨eb + 1, 5, none⟩ = some (.slice none 0 0) := (cell_of_row w4 _ 5 _ _ _ HT4.out).trans rfl
        clear hk5 ht5 hb5 own5 hneR HTD4 HR4 HB1 HN1 e5
        go_upto_region 11 with fail
        rw [HE5.out]
        go_wp2_with fail
        refine HIX.out.mono ?_
        rintro e w6 ⟨rfl, hb6⟩
        have HBR6 := Lib.hid (HBR5.out.trans (hb6.mono HBR5.out.size))
        have hlt5 : eb + 1 < W5.heap.size := by omega
        have HT6 := Lib.hid ((hb6.block (eb + 1) hlt5).trans HT5.out)
        have HTD6 : Hid (TdsAt w6 W0.heap.size u6 ms) := ⟨own_keep HTD5.out.row fun g e => hb6.block g (World.ownsRow.lt HTD5.out.row g e).2, fun m hm => own_keep (HTD5.out.ts m hm) fun g e => hb6.block g (World.ownsRow.lt (HTD5.out.ts m hm) g e).2⟩
        have HR6 := Lib.hid (own_keep HR5.out fun g e => hb6.block g (World.ownsRow.lt HR5.out g e).2)
        have hz6 : W5.heap.size ≤ w6.heap.size := hb6.size
        have y0 : w6.cell? ⟨eb + 1, 0, none⟩ = some (.int .i64 off) := (cell_of_row w6 _ 0 _ _ _ HT6.out).trans rfl
        have y1 : w6.cell? ⟨eb + 1, 1, none⟩ = some (.string ru) := (cell_of_row w6 _ 1 _ _ _ HT6.out).trans rfl
        have y2 : w6.cell? ⟨eb + 1, 2, none⟩ = some (.int .i64 sv) := (cell_of_row w6 _ 2 _ _ _ HT6.out).trans rfl
        have y3 : w6.cell? ⟨eb + 1, 3, none⟩ = some (.string fm) := (cell_of_row w6 _ 3 _ _ _ HT6.out).trans rfl
        have y4 : w6.cell? ⟨eb + 1, 4, none⟩ = some (.int .i64 un) := (cell_of_row w6 _ 4 _ _ _ HT6.out).trans rfl
        have y5 : w6.cell? ⟨eb + 1, 5, none⟩ = some (.slice Av L.length cV) := (cell_of_row w6 _ 5 _ _ _ HT6.out).trans rfl
        have y6 : w6.cell? ⟨eb + 1, 6, none⟩ = some (.string ⟨#[45]⟩) := (cell_of_row w6 _ 6 _ _ _ HT6.out).trans rfl
        clear hb6 HTD5 HR5 HT5 HT4 HIX y5w y5c
        rcases firstLt_idx L with ⟨i1x, f1⟩ | ⟨j, hj, i1x, f1⟩
        · rw [i1x]
          have HS1 := Lib.hid (HSN2.out ⟨⟨⟨off, ru, sv, fm, un⟩, L, dashB⟩, .slice Av L.length cV⟩ (by rw [← f1]))
          clear i1x f1 HSN2
          obtain ⟨A, cS, rfl⟩ := own_sliceN HTD6.out.row
          have HML : ms.length + 1 ≤ maxLen := by simp only [maxLen]; omega
          have HMB : (ms.length + 1) * 96 ≤ 140737488355328 := by omega
          have HROW := Lib.hid (World.ownsRow.alloc HTD6.out.row (.cells #[.int .i64 off, .string ru, .int .i64 sv, .string fm, .int .i64 un, .slice Av L.length cV, .string ⟨#[45]⟩] 86))
          have HNEW := Lib.hid (World.news_of_block (cs := #[.int .i64 off, .string ru, .int .i64 sv, .string fm, .int .i64 un, .slice Av L.length cV, .string ⟨#[45]⟩]) (t := 86) (fr := (0, 0)) (heap_alloc_new w6 (.cells #[.int .i64 off, .string ru, .int .i64 sv, .string fm, .int .i64 un, .slice Av L.length cV, .string ⟨#[45]⟩] 86)))
          have HSZ : W0.heap.size ≤ (w6.alloc (.cells #[.int .i64 off, .string ru, .int .i64 sv, .string fm, .int .i64 un, .slice Av L.length cV, .string ⟨#[45]⟩] 86)).heap.size := by have := HBR6.out.size; simp; omega
          go_wp2_with (at_builtin; refine wpList_append_own _ rfl _ _ 81 rfl W0.heap.size 86 i1 (.agg #[.int .i64 0, .string ⟨#[]⟩, .int .i64 0, .string ⟨#[]⟩, .int .i64 0, .slice none 0 0, .string ⟨#[]⟩]) 7 96 undTd hi1 hz10 hz11 hz12 rfl (by decide) _ _ _ rfl HROW.out ⟨w6.heap.size, 0, none⟩ 1 1 [.int .i64 off, .string ru, .int .i64 sv, .string fm, .int .i64 un, .slice Av L.length cV, .string ⟨#[45]⟩] rfl rfl HNEW.out (by simp [Value.oneCell']) HML HMB HSZ ?_; intro v' w10 hown10 hgrow10 _)
          go_roundw
          case rel =>
            refine ⟨k + 1, ms ++ [⟨⟨⟨off, ru, sv, fm, un⟩, L, dashB⟩, .slice Av L.length cV⟩], by omega, by go_num, HS1, HF1, ⟨?_, ?_⟩, ?_⟩
            · show World.ownsRow _ _ _ _ _ _ _
              rw [tmFlat_snoc, List.length_append]
              exact hown10
            · intro m hm
              rcases List.mem_append.1 hm with hm | hm
              · exact own_grown (World.ownsRow.alloc (HTD6.out.ts m hm) _) HROW.out (by decide) hgrow10
              · obtain rfl := List.mem_singleton.1 hm
                exact own_grown (World.ownsRow.alloc HR6.out _) HROW.out (by decide) hgrow10
            · exact ((HBR6.out.alloc HBR6.out.size _).grown hgrow10 HSZ fun q hq => (World.ownsRow.lt HROW.out q hq).1)
          case measure => simp [intOf]; omega
        · rw [i1x]
          obtain ⟨lt, elt⟩ : ∃ lt, L[j].lt = lt := ⟨_, rfl⟩
          have HS1 := Lib.hid (HSN2.out ⟨⟨⟨off, ru, sv, fm, un⟩, L, lt⟩, .slice Av L.length cV⟩ (by rw [← elt, ← f1]))
          obtain ⟨pt, ct, et, -, hrt⟩ := own_rowsT HR6.out (by omega)
          simp only [Value.slice.injEq, true_and] at et
          obtain ⟨rfl, rfl⟩ := et
          obtain ⟨bt, ot, rfl, hblt, hct⟩ := hrt (List.ne_nil_of_length_pos (by omega))
          have k2 := hct j hj 2 _ rfl
          rw [elt] at k2
          have hjz : (j : Int) < (L.length : Int) := by omega
          obtain ⟨W7, e7⟩ : ∃ W7, w6.setCell ⟨eb + 1, 6, none⟩ (.string lt) = W7 := ⟨_, rfl⟩
          have hk7 : ∀ b, b ≠ eb + 1 → W7.heap[b]? = w6.heap[b]? := fun b hb => by rw [← e7]; exact Below.heap_setCell _ _ _ _ hb
          have hz7 : W7.heap.size = w6.heap.size := by rw [← e7]; simp [World.setCell]
          have ht7 : W7.heap[eb + 1]? = some (.cells #[.int .i64 off, .string ru, .int .i64 sv, .string fm, .int .i64 un, .slice (some ⟨bt, ot, none⟩) L.length cV, .string lt] 86 (0, 0)) := by
            rw [← e7]
            exact (heap_setSt HT6.out (i := 6) (.string lt)).trans rfl
          have hb7 : Below W0.heap.size w6 W7 := by rw [← e7]; exact (Below.refl _ _).setCell (by show W0.heap.size ≤ eb + 1; omega) _
          have HBR7 := Lib.hid (HBR6.out.trans hb7)
          have own7 : ∀ {e : TypeId} {s n : Nat} {v : Value} {xs : List Value}, e ≠ 86 → w6.ownsRow W0.heap.size e s v n xs → W7.ownsRow W0.heap.size e s v n xs := fun {e s n v xs} he h => own_keep h fun g eg => hk7 g fun e2 => own_type h HT6.out he (by rw [eg, e2])
          have HTD7 : Hid (TdsAt W7 W0.heap.size u6 ms) := ⟨own_keep HTD6.out.row fun g eg => hk7 g fun e2 => by have := HGN.out g eg; omega, fun m hm => own7 (by decide) (HTD6.out.ts m hm)⟩
          have HR7 := Lib.hid (own7 (by decide) HR6.out)
          have HE7 := Lib.hid e7
          have y6f : w6.frozen? ⟨eb + 1, 6, none⟩ = false := by simp [World.frozen?, HT6.out]
          have HT7 := Lib.hid ht7
          clear i1x f1 HSN2 hct hrt hk7 ht7 hb7 own7 HTD6 HR6 HT6 e7 elt hz7
          go_upto_region 14 with fail
          rw [HE7.out]
          clear y0 y1 y2 y3 y4 y5 y6
          have y0 : W7.cell? ⟨eb + 1, 0, none⟩ = some (.int .i64 off) := (cell_of_row W7 _ 0 _ _ _ HT7.out).trans rfl
          have y1 : W7.cell? ⟨eb + 1, 1, none⟩ = some (.string ru) := (cell_of_row W7 _ 1 _ _ _ HT7.out).trans rfl
          have y2 : W7.cell? ⟨eb + 1, 2, none⟩ = some (.int .i64 sv) := (cell_of_row W7 _ 2 _ _ _ HT7.out).trans rfl
          have y3 : W7.cell? ⟨eb + 1, 3, none⟩ = some (.string fm) := (cell_of_row W7 _ 3 _ _ _ HT7.out).trans rfl
          have y4 : W7.cell? ⟨eb + 1, 4, none⟩ = some (.int .i64 un) := (cell_of_row W7 _ 4 _ _ _ HT7.out).trans rfl
          have y5 : W7.cell? ⟨eb + 1, 5, none⟩ = some (.slice (some ⟨bt, ot, none⟩) L.length cV) := (cell_of_row W7 _ 5 _ _ _ HT7.out).trans rfl
          have y6 : W7.cell? ⟨eb + 1, 6, none⟩ = some (.string lt) := (cell_of_row W7 _ 6 _ _ _ HT7.out).trans rfl
          obtain ⟨A, cS, rfl⟩ := own_sliceN HTD7.out.row
          have HML : ms.length + 1 ≤ maxLen := by simp only [maxLen]; omega
          have HMB : (ms.length + 1) * 96 ≤ 140737488355328 := by omega
          have HROW := Lib.hid (World.ownsRow.alloc HTD7.out.row (.cells #[.int .i64 off, .string ru, .int .i64 sv, .string fm, .int .i64 un, .slice (some ⟨bt, ot, none⟩) L.length cV, .string lt] 86))
          have HNEW := Lib.hid (World.news_of_block (cs := #[.int .i64 off, .string ru, .int .i64 sv, .string fm, .int .i64 un, .slice (some ⟨bt, ot, none⟩) L.length cV, .string lt]) (t := 86) (fr := (0, 0)) (heap_alloc_new W7 (.cells #[.int .i64 off, .string ru, .int .i64 sv, .string fm, .int .i64 un, .slice (some ⟨bt, ot, none⟩) L.length cV, .string lt] 86)))
          have HSZ : W0.heap.size ≤ (W7.alloc (.cells #[.int .i64 off, .string ru, .int .i64 sv, .string fm, .int .i64 un, .slice (some ⟨bt, ot, none⟩) L.length cV, .string lt] 86)).heap.size := by have := HBR7.out.size; simp; omega
          go_wp2_with (at_builtin; refine wpList_append_own _ rfl _ _ 81 rfl W0.heap.size 86 i1 (.agg #[.int .i64 0, .string ⟨#[]⟩, .int .i64 0, .string ⟨#[]⟩, .int .i64 0, .slice none 0 0, .string ⟨#[]⟩]) 7 96 undTd hi1 hz10 hz11 hz12 rfl (by decide) _ _ _ rfl HROW.out ⟨W7.heap.size, 0, none⟩ 1 1 [.int .i64 off, .string ru, .int .i64 sv, .string fm, .int .i64 un, .slice (some ⟨bt, ot, none⟩) L.length cV, .string lt] rfl rfl HNEW.out (by simp [Value.oneCell']) HML HMB HSZ ?_; intro v' w10 hown10 hgrow10 _)
          go_roundw
          case rel =>
            refine ⟨k + 1, ms ++ [⟨⟨⟨off, ru, sv, fm, un⟩, L, lt⟩, .slice (some ⟨bt, ot, none⟩) L.length cV⟩], by omega, by go_num, HS1, HF1, ⟨?_, ?_⟩, ?_⟩
            · show World.ownsRow _ _ _ _ _ _ _
              rw [tmFlat_snoc, List.length_append]
              exact hown10
            · intro m hm
              rcases List.mem_append.1 hm with hm | hm
              · exact own_grown (World.ownsRow.alloc (HTD7.out.ts m hm) _) HROW.out (by decide) hgrow10
              · obtain rfl := List.mem_singleton.1 hm
                exact own_grown (World.ownsRow.alloc HR7.out _) HROW.out (by decide) hgrow10
            · exact ((HBR7.out.alloc HBR7.out.size _).grown hgrow10 HSZ fun q hq => (World.ownsRow.lt HROW.out q hq).1)
          case measure => simp [intOf]; omega
    · obtain rfl : k = l.length := by omega
      have hms := HMS.out
      have hfe := HFE.out
      rw [List.take_length] at hms hfe
      have HEND := Lib.hid (ErasPost.ok (v := u6) hfe hms ⟨own_base HTD.out.row HB0.out.size, fun m hm => own_base (HTD.out.ts m hm) HB0.out.size⟩ (HB0.out.trans (HBR.out.mono HB0.out.size)))
      obtain ⟨A, cS, rfl⟩ := own_sliceN HTD.out.row
      clear hms hfe HMS HFE HTD
      go_wp2_with fail
      go_ret2
      exact HEND.out
end Go.Proofs.YtacogloheiendaaGreatDoor
namespace Go.Proofs.YtacogloheiendaaGreatDoor
open Go.RowKit Go.Joins Go.Maps
open Classical
set_option linter.unusedVariables false
set_option linter.unusedSimpArgs false

set_option maxRecDepth 100000 in
set_option maxHeartbeats 4000000 in
theorem Resolve_any (b : Bk) (rv zv lv : Value) (nm : ByteArray) (w : World) (hB : BookAt w.heap.size w rv zv lv b) (hn : nm.size ≤ 140737488351232) (hm : MaxLen w) (ht : Tab10 w) :
    Calls Tryz.prog 28 #[.agg #[rv, zv, lv], .string nm] w (RsvPost (rsv b nm) w) := by
  have hr := hB.r
  have hz := hB.z
  have hl := hB.l
  obtain ⟨p1, c1, rfl, hlen1, hrow1⟩ := hr
  obtain ⟨p2, c2, rfl, hlen2, hrow2⟩ := hz
  obtain ⟨p3, c3, rfl, hlen3, hrow3⟩ := hl
  obtain ⟨W0, eW⟩ : ∃ W0, (w.alloc (.cells #[.slice p1 b.rules.length c1, .slice p2 b.zones.length c2, .slice p3 b.links.length c3] 32)).alloc (.cells #[.string ⟨#[]⟩, .slice none 0 0] 62) = W0 := ⟨_, rfl⟩
  have hb0 : Below w.heap.size w W0 := by rw [← eW]; exact ((Below.refl _ _).alloc (Nat.le_refl _) _).alloc (by simp) _
  have hbx : W0.heap[w.heap.size]? = some (.cells #[.slice p1 b.rules.length c1, .slice p2 b.zones.length c2, .slice p3 b.links.length c3] 32 (0, 0)) := by
    rw [← eW]
    exact (Below.heap_alloc _ _ _ (by simp)).trans (heap_alloc_new w _)
  have hrb : W0.heap[w.heap.size + 1]? = some (.cells #[.string ⟨#[]⟩, .slice none 0 0] 62 (0, 0)) := by
    rw [← eW]
    exact alloc_at _ _ _ (by simp)
  have hl0 : w.heap.size + 1 < W0.heap.size := by rw [← eW]; simp
  have x0 := (cell_of_row W0 _ 0 _ _ _ hbx).trans rfl
  have x1 := (cell_of_row W0 _ 1 _ _ _ hbx).trans rfl
  have x2 := (cell_of_row W0 _ 2 _ _ _ hbx).trans rfl
  have HEW := Lib.hid eW
  have HB0 := Lib.hid hb0
  have HRB := Lib.hid hrb
  have HOF := Lib.hid (namesOf_any b _ _ _ W0 ((hB.below hb0 (Nat.le_refl _)).baseN (by omega)) (hm.below hb0) (ht.below hb0))
  have HEV := Lib.hid hB.e
  have HLS := Lib.hid hB.ls
  have HBD := Lib.hid (rsv_bad (b := b) (nm := nm))
  have HGO := Lib.hid (rsv_go (b := b) (nm := nm))
  have HER := Lib.hid (bk_er (b := b))
  obtain ⟨R, eR⟩ : ∃ R, rsv b nm = R := ⟨_, rfl⟩
  rw [eR] at HBD HGO ⊢
  clear eW hb0 hbx hrb hB hm ht hrow1 hrow2 hrow3 eR
  go_enter Tryz.func28, Tryz.ntmps28
  go_upto_region 1 with fail
  rw [HEW.out]
  go_wp2_with fail
  refine HOF.out.mono ?_
  rintro e w1 ⟨hb1, hbad, hgood⟩
  have HB1 := Lib.hid (HB0.out.trans (hb1.mono HB0.out.size))
  have hx1 := (hb1.block (w.heap.size + 1) hl0).trans HRB.out
  have HX1 := Lib.hid hx1
  have hl1 : w.heap.size + 1 < w1.heap.size := by have := hb1.size; omega
  have r0 : w1.cell? ⟨w.heap.size + 1, 0, none⟩ = some (.string ⟨#[]⟩) := (cell_of_row w1 _ 0 _ _ _ hx1).trans rfl
  have r1 : w1.cell? ⟨w.heap.size + 1, 1, none⟩ = some (.slice none 0 0) := (cell_of_row w1 _ 1 _ _ _ hx1).trans rfl
  have f0 : w1.frozen? ⟨w.heap.size + 1, 0, none⟩ = false := by simp [World.frozen?, hx1]
  have f1 : w1.frozen? ⟨w.heap.size + 1, 1, none⟩ = false := by simp [World.frozen?, hx1]
  have hs1 : W0.heap.size ≤ w1.heap.size := hb1.size
  by_cases hC : bkChk b = 0
  case neg =>
    have he := hbad hC
    subst he
    have HE := Lib.hid (HBD.out hC)
    have hz : (bkChk b == 0) = false := by simpa using hC
    have hz2 : (!bkChk b == 0) = true := by rw [hz]; rfl
    clear hb1 hbad hgood hx1 hC x0 x1 x2
    go_wp2_with fail
    obtain ⟨W9, e9, hh9, hb9⟩ := end_two HX1.out (.string ⟨#[]⟩) (.slice none 0 0)
    rw [e9]
    have v0 := (cell_of_row W9 _ 0 _ _ _ hh9).trans rfl
    have v1 := (cell_of_row W9 _ 1 _ _ _ hh9).trans rfl
    have HBF : Below w.heap.size w W9 := HB1.out.trans (hb9 _ (by omega))
    refine bodyPost_ret (v := .tuple #[.agg #[.string ⟨#[]⟩, .slice none 0 0], .int .i64 (bkChk b)]) (by simp [results, Tryz.results28, go_sem, v0, v1]) rfl ?_
    rw [HE.out]
    exact ⟨_, rfl, World.ownsRow_nil _ _ _ _, HBF⟩
  case pos =>
  obtain ⟨pb, bz, bl, nz, nl, he, hP, hnl, -⟩ := hgood hC
  subst he
  have hEv : EvOk b.zones := fun z hz => by
    obtain ⟨p, c, e, -⟩ := HEV.out z hz
    exact ⟨p, c, e⟩
  have HRE := Lib.hid (resolve_any _ pb bz bl nz nl b.zones b.links nm w1 hP hEv (fun x hx => (HLS.out x hx).2) hn hnl)
  have hgo := HGO.out hC
  rw [← hgo] at HRE
  have HER2 := Lib.hid (fun z hz => HER.out hC (z := z) hz)
  have hRin : ∀ z, R.1 = some z → z ∈ b.zones ∧ R.2 = 0 := by
    intro z hz
    obtain ⟨R1, R2⟩ := R
    simp only at hz
    subst hz
    exact resF_in hgo.symm
  have HRI := Lib.hid hRin
  have HP1 := Lib.hid hP
  clear hb1 hbad hgood hx1 hC x0 x1 x2 r0 r1 f0 f1 hP hEv hgo hRin HGO HBD HER HOF
  go_wp2_with fail
  refine HRE.out.mono ?_
  obtain ⟨Z, C⟩ := R
  rintro e w2 ⟨rfl, hb2⟩
  simp only at HRI ⊢
  have HB2 := Lib.hid (HB1.out.trans (hb2.mono HB1.out.size))
  have hx2 := (hb2.block (w.heap.size + 1) hl1).trans HX1.out
  have hs2 : w1.heap.size ≤ w2.heap.size := hb2.size
  have key : ∃ znm p c ers, zoVal Z = .agg #[.string znm, .slice p ers.length c] ∧ zNm Z = znm ∧ zEr Z = ers ∧ ers.length ≤ 1000 ∧ RowsAt erL 5 w.heap.size w2 (.slice p ers.length c) ers := by
    cases Z with
    | none => exact ⟨⟨#[]⟩, none, 0, [], rfl, rfl, rfl, by simp, ⟨none, 0, rfl, ⟨by simp, by simp⟩, fun h => absurd rfl h⟩⟩
    | some z =>
      obtain ⟨hz, -⟩ := HRI.out z rfl
      have h1 := (HEV.out z hz).below HB2.out (Nat.le_refl _)
      obtain ⟨p, c, e, r⟩ := h1
      refine ⟨z.nm, p, c, z.eras, ?_, rfl, rfl, by have := (HER2.out z hz).2; omega, ⟨p, c, rfl, r⟩⟩
      show Value.agg #[.string z.nm, z.ev] = _
      rw [e]
  obtain ⟨znm, p, c, ers, e1, e2, e3, hle, hrow⟩ := key
  rw [e1]
  have HE2 := Lib.hid e2
  have HE3 := Lib.hid e3
  obtain ⟨W3, eW3⟩ : ∃ W3, w2.alloc (.cells #[.string znm, .slice p ers.length c] 62) = W3 := ⟨_, rfl⟩
  have hb3 : Below w2.heap.size w2 W3 := by rw [← eW3]; exact (Below.refl _ _).alloc (Nat.le_refl _) _
  have hx3 : W3.heap[w2.heap.size]? = some (.cells #[.string znm, .slice p ers.length c] 62 (0, 0)) := by rw [← eW3]; exact heap_alloc_new w2 _
  have hz3 : W3.heap.size = w2.heap.size + 1 := by rw [← eW3]; simp
  have HB3 := Lib.hid (HB2.out.trans (hb3.mono HB2.out.size))
  have hr3 := (hb3.block (w.heap.size + 1) (by omega)).trans hx2
  have HR3 := Lib.hid hr3
  have HX3 := Lib.hid hx3
  have q1 := (cell_of_row W3 _ 1 _ _ _ hx3).trans rfl
  have HCL := Lib.hid (CloneEr_any ers _ w.heap.size W3 (hrow.below (hb3.mono HB2.out.size) (Nat.le_refl _)) hle)
  have HEW3 := Lib.hid eW3
  obtain ⟨tb, etb⟩ : ∃ tb, w2.heap.size = tb := ⟨_, rfl⟩
  rw [etb] at hz3 hs2 HX3 q1
  have HTB := Lib.hid etb
  clear hb2 hx2 e1 e2 e3 hrow eW3 hb3 hr3 HRI HRE HER2 HEV hx3 HX1 etb
  go_upto_region 5 with fail
  rw [HEW3.out, HTB.out]
  go_wp2_with fail
  refine HCL.out.mono ?_
  rintro e w4 ⟨vo, rfl, hrow4, hb4⟩
  obtain ⟨A, cA, rfl⟩ := own_sliceN hrow4
  have hs4 : W3.heap.size ≤ w4.heap.size := hb4.size
  have hx4 := (hb4.block tb (by omega)).trans HX3.out
  have hr4 := (hb4.block (w.heap.size + 1) (by omega)).trans HR3.out
  have HB4 := Lib.hid (HB3.out.trans (hb4.mono HB3.out.size))
  have HX4 := Lib.hid hx4
  have HR4 := Lib.hid hr4
  have HOW := Lib.hid hrow4
  have g0 : w4.cell? ⟨tb, 0, none⟩ = some (.string znm) := (cell_of_row w4 _ 0 _ _ _ hx4).trans rfl
  have g1 : w4.cell? ⟨tb, 1, none⟩ = some (.slice p ers.length c) := (cell_of_row w4 _ 1 _ _ _ hx4).trans rfl
  have gf : w4.frozen? ⟨tb, 1, none⟩ = false := by simp [World.frozen?, hx4]
  have r0 : w4.cell? ⟨w.heap.size + 1, 0, none⟩ = some (.string ⟨#[]⟩) := (cell_of_row w4 _ 0 _ _ _ hr4).trans rfl
  have r1 : w4.cell? ⟨w.heap.size + 1, 1, none⟩ = some (.slice none 0 0) := (cell_of_row w4 _ 1 _ _ _ hr4).trans rfl
  have f0 : w4.frozen? ⟨w.heap.size + 1, 0, none⟩ = false := by simp [World.frozen?, hr4]
  have f1 : w4.frozen? ⟨w.heap.size + 1, 1, none⟩ = false := by simp [World.frozen?, hr4]
  have htb : w.heap.size + 1 < tb := by omega
  have htb4 : tb < w4.heap.size := by omega
  clear hb4 hrow4 hx4 hr4 HCL q1
  go_wp2_with fail
  obtain ⟨W5, e5⟩ : ∃ W5, w4.setCell ⟨tb, 1, none⟩ (.slice A ers.length cA) = W5 := ⟨_, rfl⟩
  rw [e5]
  have hk5 : ∀ g, g ≠ tb → W5.heap[g]? = w4.heap[g]? := fun g hg => by rw [← e5]; exact Below.heap_setCell _ _ _ _ hg
  have hr5 : W5.heap[w.heap.size + 1]? = some (.cells #[.string ⟨#[]⟩, .slice none 0 0] 62 (0, 0)) := (hk5 _ (by omega)).trans HR4.out
  have hb5 : Below w.heap.size w W5 := by rw [← e5]; exact HB4.out.setCell (by show w.heap.size ≤ tb; omega) _
  obtain ⟨W9, e9, hh9, hb9⟩ := end_two hr5 (.string znm) (.slice A ers.length cA)
  rw [e9]
  have v0 := (cell_of_row W9 _ 0 _ _ _ hh9).trans rfl
  have v1 := (cell_of_row W9 _ 1 _ _ _ hh9).trans rfl
  have hk9 : ∀ g, g ≠ w.heap.size + 1 → W9.heap[g]? = W5.heap[g]? := fun g hg => by
    rw [← e9]
    exact (Below.heap_setCell _ _ _ _ hg).trans (Below.heap_setCell _ _ _ _ hg)
  have HBF : Below w.heap.size w W9 := hb5.trans (hb9 _ (by omega))
  have hown9 : W9.ownsRow w.heap.size 54 5 (.slice A ers.length cA) ers.length (erFlat ers) := by
    refine own_base (own_keep HOW.out fun g e => ?_) (show w.heap.size ≤ W3.heap.size by omega)
    have hg := (World.ownsRow.lt HOW.out g e).1
    exact (hk9 g (by omega)).trans (hk5 g (by omega))
  refine bodyPost_ret (v := .tuple #[.agg #[.string znm, .slice A ers.length cA], .int .i64 C]) (by simp [results, Tryz.results28, go_sem, v0, v1]) rfl ⟨.slice A ers.length cA, ?_, ?_, HBF⟩
  · show _ = Ending.returned (.tuple #[.agg #[.string (zNm Z), .slice A ers.length cA], .int .i64 C])
    rw [HE2.out]
  · show World.ownsRow _ _ _ _ _ (zEr Z).length (erFlat (zEr Z))
    rw [HE3.out]
    exact hown9
end Go.Proofs.YtacogloheiendaaGreatDoor
namespace Go.Proofs.YtacogloheiendaaGreatDoor
open Go.RowKit Go.Joins Go.Maps
open Classical
set_option linter.unusedVariables false
set_option linter.unusedSimpArgs false

def StPost (S : Int × Ty) (w : World) (e : Ending) (w' : World) : Prop := e = .returned (.tuple #[tyV S.2, .int .i64 S.1]) ∧ Below w.heap.size w w'
theorem StPost.mk {S : Int × Ty} {c : Int} {T : Ty} {w w' : World} (h : S = (c, T)) (hb : Below w.heap.size w w') : StPost S w (.returned (.tuple #[.agg #[.int .i64 T.off, .bool T.save, .string T.name], .int .i64 c])) w' := by
  subst h
  exact ⟨rfl, hb⟩
/-- a part of a row: one of its members -/
theorem rows_at {α : Type} {cells : α → List Value} {k B : Nat} {W : World} {p : Option Addr} {c : Nat} {l : List α} (h : RowsAt cells k B W (.slice p l.length c) l) (i : Nat) (hi : i < l.length) : ∃ b o, p = some ⟨b, o, none⟩ ∧ RowsAt cells k B W (.slice (some ⟨b, o + i * k, none⟩) 1 (c - i)) [l[i]] := by
  obtain ⟨p2, c2, e, ⟨h1, h2⟩, hat⟩ := h
  simp only [Value.slice.injEq, true_and] at e
  obtain ⟨rfl, rfl⟩ := e
  obtain ⟨b, o, rfl, hb, hc⟩ := hat (List.ne_nil_of_length_pos (by omega))
  refine ⟨b, o, rfl, _, _, rfl, ⟨by simp, by simp; omega⟩, fun _ => ⟨b, o + i * k, rfl, hb, fun j hj m u hu => ?_⟩⟩
  obtain rfl : j = 0 := by simpa using hj
  rw [Nat.zero_mul, Nat.add_zero]
  exact hc i hi m u hu
theorem tds_one {W : World} {B : Nat} {v : Value} {ms : List TdM} {x : Td} (h : TdsAt W B v ms) (hm : ms.map (·.td) = [x]) : ∃ g cap tv, v = .slice (some ⟨g, 0, none⟩) 1 cap ∧ B ≤ g ∧ g < W.heap.size ∧ (∀ j u, (tdCells x tv)[j]? = some u → W.cell? ⟨g, j, none⟩ = some u) ∧ W.ownsRow B 113 3 tv x.ts.length (tnCells x.ts) := by
  cases ms with
  | nil => cases hm
  | cons m r =>
    cases r with
    | cons a r => cases hm
    | nil =>
      simp only [List.map_cons, List.map_nil, List.cons.injEq, and_true] at hm
      subst hm
      rcases own_cells h.row with ⟨-, h0⟩ | ⟨g, cap, rfl, hb, hg, hc⟩
      · cases h0
      · refine ⟨g, cap, m.tv, rfl, hb, hg, fun j u hu => ?_, h.ts m (List.mem_singleton.2 rfl)⟩
        refine hc j u ?_
        show (tmL m ++ [])[j]? = some u
        rw [List.append_nil]
        simpa using hu

theorem abE_fm {f l : ByteArray} {s : Int} (h : abE f s l = 0) : f.size ≤ 140737488351232 := by
  have h1 := (abbrF_ok h).2.1
  unfold splitF at h1
  split at h1
  · cases h1
  · rename_i h2
    rw [Lib.size_eq]
    omega
theorem abbr_lt {f l : ByteArray} {s : Int} (h : abE f s l = 0) : l.size ≤ 140737488351232 := by
  have h1 := letter_len (abbrF_ok h).2.2.1
  rw [Lib.size_eq]
  omega
theorem tdR_len {rules : List Ru} (ho : ∀ r ∈ rules, OkRu r) (x : Er) : (tdR rules x).ts.length ≤ 1500 := by
  unfold tdR
  split
  · exact Nat.zero_le _
  · exact (mkR_len ho _ _).1

set_option maxRecDepth 100000 in
set_option maxHeartbeats 20000000 in
theorem StAt_any (MK : MakeSays) (b : Bk) (rv zv lv : Value) (nm : ByteArray) (t : Int) (w : World) (hB : BookAt w.heap.size w rv zv lv b) (hn : nm.size ≤ 140737488351232) (ht1 : -9223372036854775808 ≤ t) (ht2 : t ≤ 9223372036854775807) (hm : MaxLen w) (ht : Tab10 w) :
    Calls Tryz.prog 10 #[.agg #[rv, zv, lv], .string nm, .int .i64 t] w (StPost (stR b nm t) w) := by
  have HBK := Lib.hid hB
  obtain ⟨p1, c1, rfl, -, -⟩ := hB.r
  obtain ⟨p2, c2, rfl, -, -⟩ := hB.z
  obtain ⟨p3, c3, rfl, -, -⟩ := hB.l
  obtain ⟨W0, eW⟩ : ∃ W0, (w.alloc (.cells #[.slice p1 b.rules.length c1, .slice p2 b.zones.length c2, .slice p3 b.links.length c3] 32)).alloc (.cells #[.int .i64 0, .bool false, .string ⟨#[]⟩] 41) = W0 := ⟨_, rfl⟩
  have hb0 : Below w.heap.size w W0 := by rw [← eW]; exact ((Below.refl _ _).alloc (Nat.le_refl _) _).alloc (by simp) _
  have hbx : W0.heap[w.heap.size]? = some (.cells #[.slice p1 b.rules.length c1, .slice p2 b.zones.length c2, .slice p3 b.links.length c3] 32 (0, 0)) := by
    rw [← eW]
    exact (Below.heap_alloc _ _ _ (by simp)).trans (heap_alloc_new w _)
  have hrb : W0.heap[w.heap.size + 1]? = some (.cells #[.int .i64 0, .bool false, .string ⟨#[]⟩] 41 (0, 0)) := by
    rw [← eW]
    exact alloc_at _ _ _ (by simp)
  have hl0 : w.heap.size + 1 < W0.heap.size := by rw [← eW]; simp
  have x0 := (cell_of_row W0 _ 0 _ _ _ hbx).trans rfl
  have x1 := (cell_of_row W0 _ 1 _ _ _ hbx).trans rfl
  have x2 := (cell_of_row W0 _ 2 _ _ _ hbx).trans rfl
  have HEW := Lib.hid eW
  have HB0 := Lib.hid hb0
  have HBX := Lib.hid hbx
  have HRB := Lib.hid hrb
  have HM := Lib.hid hm
  have HT := Lib.hid ht
  have HRS := Lib.hid (Resolve_any b _ _ _ nm W0 ((hB.below hb0 (Nat.le_refl _)).baseN (by omega)) hn (hm.below hb0) (ht.below hb0))
  have HNO := Lib.hid (fun c h => stR_none (b := b) (nm := nm) (c := c) h t)
  have HSO := Lib.hid (fun z c h => stR_some (b := b) (nm := nm) (z := z) (c := c) h t)
  have HRV := Lib.hid (fun z c h => rsv_zero (b := b) (nm := nm) (z := z) (c := c) h)
  have HRN := Lib.hid (fun c h => rsv_not0 (b := b) (nm := nm) (c := c) h)
  obtain ⟨S, eS⟩ : ∃ S, stR b nm t = S := ⟨_, rfl⟩
  rw [eS] at HNO HSO ⊢
  obtain ⟨R, eR⟩ : ∃ R, rsv b nm = R := ⟨_, rfl⟩
  rw [eR] at HRS HNO HSO HRV HRN
  clear eW hb0 hbx hrb hB hm ht eS eR
  -- the end: the result's cells
  have FIN : Hid (∀ (W' : World) (c : Int) (T : Ty), Below W0.heap.size W0 W' → S = (c, T) → ∃ W9, ((W'.setCell ⟨w.heap.size + 1, 0, none⟩ (.int .i64 T.off)).setCell ⟨w.heap.size + 1, 1, none⟩ (.bool T.save)).setCell ⟨w.heap.size + 1, 2, none⟩ (.string T.name) = W9 ∧ W9.cell? ⟨w.heap.size + 1, 0, none⟩ = some (.int .i64 T.off) ∧ W9.cell? ⟨w.heap.size + 1, 1, none⟩ = some (.bool T.save) ∧ W9.cell? ⟨w.heap.size + 1, 2, none⟩ = some (.string T.name) ∧ StPost S w (.returned (.tuple #[.agg #[.int .i64 T.off, .bool T.save, .string T.name], .int .i64 c])) W9) := by
    show ∀ W' c T, _
    intro W' c T hb hS
    obtain ⟨W9, e9, hh9, hb9⟩ := end_three ((hb.block (w.heap.size + 1) hl0).trans HRB.out) (.int .i64 T.off) (.bool T.save) (.string T.name)
    exact ⟨W9, e9, (cell_of_row W9 _ 0 _ _ _ hh9).trans rfl, (cell_of_row W9 _ 1 _ _ _ hh9).trans rfl, (cell_of_row W9 _ 2 _ _ _ hh9).trans rfl, StPost.mk hS ((HB0.out.trans (hb.mono HB0.out.size)).trans (hb9 _ (by omega)))⟩
  have RES : Hid (∀ (W' : World), Below W0.heap.size W0 W' → W'.cell? ⟨w.heap.size + 1, 0, none⟩ = some (.int .i64 0) ∧ W'.cell? ⟨w.heap.size + 1, 1, none⟩ = some (.bool false) ∧ W'.cell? ⟨w.heap.size + 1, 2, none⟩ = some (.string ⟨#[]⟩) ∧ W'.frozen? ⟨w.heap.size + 1, 0, none⟩ = false ∧ W'.frozen? ⟨w.heap.size + 1, 1, none⟩ = false ∧ W'.frozen? ⟨w.heap.size + 1, 2, none⟩ = false) := by
    show ∀ W', _
    intro W' hb
    have h2 := (hb.block (w.heap.size + 1) hl0).trans HRB.out
    exact ⟨(cell_of_row W' _ 0 _ _ _ h2).trans rfl, (cell_of_row W' _ 1 _ _ _ h2).trans rfl, (cell_of_row W' _ 2 _ _ _ h2).trans rfl, by simp [World.frozen?, h2], by simp [World.frozen?, h2], by simp [World.frozen?, h2]⟩
  have BOX : Hid (∀ (W' : World), Below W0.heap.size W0 W' → W'.cell? ⟨w.heap.size, 0, none⟩ = some (.slice p1 b.rules.length c1) ∧ W'.cell? ⟨w.heap.size, 1, none⟩ = some (.slice p2 b.zones.length c2) ∧ W'.cell? ⟨w.heap.size, 2, none⟩ = some (.slice p3 b.links.length c3)) := by
    show ∀ W', _
    intro W' hb
    have h2 := (hb.block w.heap.size (by omega)).trans HBX.out
    exact ⟨(cell_of_row W' _ 0 _ _ _ h2).trans rfl, (cell_of_row W' _ 1 _ _ _ h2).trans rfl, (cell_of_row W' _ 2 _ _ _ h2).trans rfl⟩
  go_enter Tryz.func10, Tryz.ntmps10
  go_upto_region 1 with fail
  rw [HEW.out]
  go_wp2_with fail
  refine HRS.out.mono ?_
  obtain ⟨Z, C⟩ := R
  rintro e w1 ⟨vo, rfl, hrow, hb1⟩
  simp only at hrow ⊢
  have HB1 := Lib.hid hb1
  have HRW := Lib.hid hrow
  obtain ⟨A, cA, rfl⟩ := own_sliceN hrow
  obtain ⟨W2, e2⟩ : ∃ W2, w1.alloc (.cells #[.string (zNm Z), .slice A (zEr Z).length cA] 62) = W2 := ⟨_, rfl⟩
  obtain ⟨zb, ezb⟩ : ∃ zb, w1.heap.size = zb := ⟨_, rfl⟩
  have hzb : W0.heap.size ≤ zb := by rw [← ezb]; exact hb1.size
  have hx2 : W2.heap[zb]? = some (.cells #[.string (zNm Z), .slice A (zEr Z).length cA] 62 (0, 0)) := by rw [← e2]; exact alloc_at _ _ _ ezb.symm
  have hb2 : Below w1.heap.size w1 W2 := by rw [← e2]; exact (Below.refl _ _).alloc (Nat.le_refl _) _
  have hz2 : zb < W2.heap.size := by rw [← e2]; simp; omega
  have HB2 := Lib.hid (hb1.trans (hb2.mono hb1.size))
  have HX2 := Lib.hid hx2
  have HE2 := Lib.hid e2
  have HRW2 := Lib.hid (own_keep hrow fun g e => hb2.block g (World.ownsRow.lt hrow g e).2)
  clear hrow hb1 hb2 hx2 HRS HRW x0 x1 x2 e2
  go_upto_region 2 with fail
  rw [HE2.out]
  obtain ⟨r0, r1, r2, f0, f1, f2⟩ := RES.out W2 HB2.out
  cases Z with
  | none =>
    have hC := HRN.out C rfl
    have hS := HNO.out C rfl
    have hz : (C == 0) = false := by simpa using hC
    have hz2 : (!C == 0) = true := by rw [hz]; rfl
    have HF := Lib.hid (FIN.out W2 C ty0 HB2.out hS)
    clear hC hS HNO HSO HRV HRN FIN RES BOX HRW2 HX2
    go_wp2_with fail
    obtain ⟨W9, e9, v0, v1, v2, hP⟩ := HF.out
    simp only [ty0] at e9 v0 v1 v2 hP
    rw [e9]
    exact bodyPost_ret (v := .tuple #[.agg #[.int .i64 0, .bool false, .string ⟨#[]⟩], .int .i64 C]) (by simp [results, Tryz.results10, go_sem, v0, v1, v2]) rfl hP
  | some z =>
    obtain ⟨hC, hzz, hbk⟩ := HRV.out z C rfl
    subst hC
    have hS := HSO.out z 0 rfl
    have HST := Lib.hid (Stamp_any t W2 ht1 ht2 (HT.out.below (HB0.out.trans (HB2.out.mono HB0.out.size))))
    have hE0 := bk_eras hbk hzz
    have HE0 := Lib.hid hE0
    have HBKC := Lib.hid hbk
    have HSS := Lib.hid hS
    have hel := hE0.le
    have HROWE : Hid (RowsAt (fun x : Er => (erCells x).toList) 5 W2.heap.size W2 (.slice A z.eras.length cA) z.eras) := own_rowsG (cells := fun x : Er => (erCells x).toList) (k := 5) (fun _ => rfl) HRW2.out (by show z.eras.length ≤ 100000; omega)
    clear hS hzz hbk HNO HSO HRV HRN HRW2 hE0
    simp only [zNm, zEr] at HX2 HE2 ⊢
    have HROWA : Hid (∃ b o, A = some ⟨b, o, none⟩ ∧ RowsAt (fun x : Er => (erCells x).toList) 5 W2.heap.size W2 (.slice (some ⟨b, o + (whichF z.eras t) * 5, none⟩) 1 (cA - whichF z.eras t)) [eraAt z.eras (whichF z.eras t)]) := by
      show ∃ b o, _
      obtain ⟨hk, e⟩ := era_in HE0.out t
      rw [e]
      exact rows_at HROWE.out _ hk
    have hkl := (era_in HE0.out t).1
    have HXO := Lib.hid (HE0.out.ok _ (List.getElem_mem hkl))
    rw [← eraAt_in _ _ hkl] at HXO
    have hcap : z.eras.length ≤ cA := by
      obtain ⟨pp, cc, e, ⟨-, h2⟩, -⟩ := HROWE.out
      simp only [Value.slice.injEq, true_and] at e
      obtain ⟨-, rfl⟩ := e
      exact h2
    obtain ⟨E1, eE1⟩ : ∃ E1, stampE t = E1 := ⟨_, rfl⟩
    rw [eE1] at HST HSS
    obtain ⟨k, ek⟩ : ∃ k, whichF z.eras t = k := ⟨_, rfl⟩
    have HWH : Hid (∀ W, Below W2.heap.size W2 W → Calls Tryz.prog 29 #[.slice A z.eras.length cA, .int .i64 t] W fun e w' => e = .returned (.int .i64 (k : Nat)) ∧ Below W.heap.size W w') := by
      show ∀ W, _
      intro W hb
      have := Which_any (rules := b.rules) z.eras (.slice A z.eras.length cA) t W2.heap.size W (HROWE.out.below hb (Nat.le_refl _)) hb.size HE0.out
      rwa [ek] at this
    rw [ek] at HSS HROWA HXO hkl
    have hSF : stF b.rules z.eras t = tdTy (tdR b.rules (eraAt z.eras k)) t := by unfold stF tdA; rw [ek]
    rw [hSF] at HSS
    obtain ⟨x, ex⟩ : ∃ x, eraAt z.eras k = x := ⟨_, rfl⟩
    rw [ex] at HSS HROWA HXO
    clear eE1 ek hSF ex HROWE HE0
    obtain ⟨eb, eo, rfl, hrowx⟩ := HROWA.out
    have HRX := Lib.hid hrowx
    clear hrowx HROWA
    go_wp2_with fail
    refine HST.out.mono ?_
    rintro e w3 ⟨⟨s3, rfl⟩, hb3⟩
    have HB3 := Lib.hid (HB2.out.trans (hb3.mono HB2.out.size))
    have hx3 := (hb3.block zb hz2).trans HX2.out
    have q1 : w3.cell? ⟨zb, 1, none⟩ = some (.slice (some ⟨eb, eo, none⟩) z.eras.length cA) := (cell_of_row w3 _ 1 _ _ _ hx3).trans rfl
    have HBZ := Lib.hid hb3
    obtain ⟨r0, r1, r2, f0, f1, f2⟩ := RES.out w3 HB3.out
    clear hb3 HST
    by_cases hE1 : E1 = 0
    case neg =>
      have hS := HSS.out
      rw [if_pos hE1] at hS
      have hz : (E1 == 0) = false := by simpa using hE1
      have hz2 : (!E1 == 0) = true := by rw [hz]; rfl
      have HF := Lib.hid (FIN.out w3 E1 ty0 HB3.out hS)
      clear hE1 hS HSS FIN RES BOX HX2 HWH q1 hx3
      go_wp2_with fail
      obtain ⟨W9, e9, v0, v1, v2, hP⟩ := HF.out
      simp only [ty0] at e9 v0 v1 v2 hP
      rw [e9]
      exact bodyPost_ret (v := .tuple #[.agg #[.int .i64 0, .bool false, .string ⟨#[]⟩], .int .i64 E1]) (by simp [results, Tryz.results10, go_sem, v0, v1, v2]) rfl hP
    case pos =>
    subst hE1
    have HX3 := Lib.hid hx3
    have HW3 := Lib.hid (HWH.out w3 HBZ.out)
    clear hx3 HWH HX2
    go_wp2_with fail
    refine HW3.out.mono ?_
    rintro e w4 ⟨rfl, hb4⟩
    have HBZ4 := Lib.hid (HBZ.out.trans (hb4.mono HBZ.out.size))
    have HB4 := Lib.hid (HB3.out.trans (hb4.mono HB3.out.size))
    have hzb3 : zb < w3.heap.size := by have := HBZ.out.size; omega
    have hx4 := (hb4.block zb hzb3).trans HX3.out
    have q1 : w4.cell? ⟨zb, 1, none⟩ = some (.slice (some ⟨eb, eo, none⟩) z.eras.length cA) := (cell_of_row w4 _ 1 _ _ _ hx4).trans rfl
    obtain ⟨g0, g1, g2⟩ := BOX.out w4 HB4.out
    have HRU := Lib.hid (bk_rules HBKC.out)
    have HER : Hid (∀ W, Below w4.heap.size w4 W → Calls Tryz.prog 30 #[.agg #[.slice p1 b.rules.length c1, .slice p2 b.zones.length c2, .slice p3 b.links.length c3], .agg #[.string ⟨#[]⟩, .slice (some ⟨eb, eo + k * 5, none⟩) 1 (cA - k)]] W (ErasPost b.rules [x] W)) := by
      show ∀ W, _
      intro W hb
      have hbw := HB0.out.trans ((HB4.out.trans (hb.mono HB4.out.size)).mono HB0.out.size)
      have hbz := HBZ4.out.trans (hb.mono HBZ4.out.size)
      refine Eras_any MK b.rules _ _ _ ⟨#[]⟩ [x] _ W ((HBK.out.r.below hbw (Nat.le_refl _)).mono hbw.size) HRU.out.2 HRU.out.1 ((HRX.out.below hbz (Nat.le_refl _)).mono hbz.size) (fun y hy => ?_) (by simp) ⟨_, _, _, rfl⟩ ⟨_, _, _, rfl⟩
      obtain rfl := List.mem_singleton.1 hy
      have h1 := HXO.out.o1
      have h2 := HXO.out.o2
      omega
    have hkz0 : (0 : Int) ≤ (k : Int) := Int.natCast_nonneg _
    have hkz1 : (k : Int) ≤ (k : Int) + 1 := by omega
    have hkz2 : (k : Int) + 1 ≤ (cA : Int) := by omega
    have hckz : ¬ cA = k := by omega
    have hkz3 : IntKind.i64.wrap ((k : Int) + 1) = (k : Int) + 1 := IntWalk.i64_in _ (by omega)
    have hzb4 : zb < w4.heap.size := by have := hb4.size; omega
    have hw04 : W0.heap.size ≤ w4.heap.size := HB4.out.size
    have HX4 := Lib.hid hx4
    have KS : Hid (∀ wx, Below w4.heap.size w4 wx → Below w4.heap.size w4 wx ∧ wx.cell? ⟨w.heap.size, 0, none⟩ = some (.slice p1 b.rules.length c1) ∧ wx.cell? ⟨w.heap.size, 1, none⟩ = some (.slice p2 b.zones.length c2) ∧ wx.cell? ⟨w.heap.size, 2, none⟩ = some (.slice p3 b.links.length c3) ∧ wx.cell? ⟨zb, 1, none⟩ = some (.slice (some ⟨eb, eo, none⟩) z.eras.length cA)) := by
      show ∀ wx, _
      intro wx hb
      obtain ⟨a0, a1, a2⟩ := BOX.out wx (HB4.out.trans (hb.mono hw04))
      exact ⟨hb, a0, a1, a2, (hb.cell (p := ⟨zb, 1, none⟩) hzb4).trans ((cell_of_row w4 _ 1 _ _ _ HX4.out).trans rfl)⟩
    have KR : Hid (∀ wx,  Below w4.heap.size w4 wx ∧ wx.cell? ⟨w.heap.size, 0, none⟩ = some (.slice p1 b.rules.length c1) ∧ wx.cell? ⟨w.heap.size, 1, none⟩ = some (.slice p2 b.zones.length c2) ∧ wx.cell? ⟨w.heap.size, 2, none⟩ = some (.slice p3 b.links.length c3) ∧ wx.cell? ⟨zb, 1, none⟩ = some (.slice (some ⟨eb, eo, none⟩) z.eras.length cA) → Below w4.heap.size w4 wx) := fun wx h => h.1
    have eE2 : firstE (tdE b.rules) [x] = tdE b.rules x := by
      show (if tdE b.rules x = 0 then 0 else tdE b.rules x) = _
      split
      · rename_i h; exact h.symm
      · rfl
    by_cases hE2 : tdE b.rules x = 0
    case neg =>
      have HEB : Hid (∀ W, Below w4.heap.size w4 W → Calls Tryz.prog 30 #[.agg #[.slice p1 b.rules.length c1, .slice p2 b.zones.length c2, .slice p3 b.links.length c3], .agg #[.string ⟨#[]⟩, .slice (some ⟨eb, eo + k * 5, none⟩) 1 (cA - k)]] W fun e w' => e = .returned (.tuple #[.slice none 0 0, .int .i64 (tdE b.rules x)]) ∧ Below W.heap.size W w') := by
        show ∀ W, _
        intro W hb
        refine (HER.out W hb).mono fun e w' ⟨h1, h2, _⟩ => ⟨?_, h1⟩
        rw [eE2] at h2
        exact h2 hE2
      have hS := HSS.out
      rw [if_neg (by simp), if_pos hE2] at hS
      obtain ⟨E2, e2⟩ : ∃ E2, tdE b.rules x = E2 := ⟨_, rfl⟩
      rw [e2] at HEB hS hE2
      have hz : (E2 == 0) = false := by simpa using hE2
      have hzz2 : (!E2 == 0) = true := by rw [hz]; rfl
      have HSF := Lib.hid hS
      clear hb4 HX3 hx4 HW3 HER e2 eE2 hS HSS hE2
      go_wp2_with fail
      go_region_held3 (fun wx => Below w4.heap.size w4 wx ∧ wx.cell? ⟨w.heap.size, 0, none⟩ = some (.slice p1 b.rules.length c1) ∧ wx.cell? ⟨w.heap.size, 1, none⟩ = some (.slice p2 b.zones.length c2) ∧ wx.cell? ⟨w.heap.size, 2, none⟩ = some (.slice p3 b.links.length c3) ∧ wx.cell? ⟨zb, 1, none⟩ = some (.slice (some ⟨eb, eo, none⟩) z.eras.length cA)) ((refine KS.out _ ?_; repeat (first | (with_reducible assumption) | (with_reducible exact Below.refl _ _) | (with_reducible refine Below.drew ?_)))) (first | (go_at_call 30; refine (HEB.out _ (KR.out _ (by assumption))).mono ?_; rintro e w5 ⟨rfl, hb5⟩; have hB5 := ((KR.out _ (by assumption)).trans (hb5.mono (KR.out _ (by assumption)).size)); clear hb5))
      obtain ⟨r0, r1, r2, f0, f1, f2⟩ := RES.out w5 (HB4.out.trans (hB5.mono hw04))
      have HF := Lib.hid (FIN.out w5 E2 ty0 (HB4.out.trans (hB5.mono hw04)) HSF.out)
      clear hB5 HEB KS KR FIN RES BOX HX4 g0 g1 g2 q1 HSF
      go_wp2_with fail
      obtain ⟨W9, e9, v0, v1, v2, hP⟩ := HF.out
      simp only [ty0] at e9 v0 v1 v2 hP
      rw [e9]
      exact bodyPost_ret (v := .tuple #[.agg #[.int .i64 0, .bool false, .string ⟨#[]⟩], .int .i64 E2]) (by simp [results, Tryz.results10, go_sem, v0, v1, v2]) rfl hP
    case pos =>
      have hS := HSS.out
      rw [if_neg (by simp), if_neg (fun g => g hE2)] at hS
      have hXr := tdR_rises hE2
      have hXe : (tdR b.rules x).er = x := tdR_er _ _
      obtain ⟨s1, s2, s3', -⟩ := sv_ok HXO.out t
      have hfm := abE_fm s1
      have hlt := abbr_lt s1
      have HO := Lib.hid (And.intro HXO.out.o1 HXO.out.o2)
      have hXl : (tdR b.rules x).ts.length ≤ 1500 := tdR_len HRU.out.2 x
      obtain ⟨X, eX⟩ : ∃ X, tdR b.rules x = X := ⟨_, rfl⟩
      have HEG : Hid (∀ W, Below w4.heap.size w4 W → Calls Tryz.prog 30 #[.agg #[.slice p1 b.rules.length c1, .slice p2 b.zones.length c2, .slice p3 b.links.length c3], .agg #[.string ⟨#[]⟩, .slice (some ⟨eb, eo + k * 5, none⟩) 1 (cA - k)]] W fun e w' => ∃ g cap tv, e = .returned (.tuple #[.slice (some ⟨g, 0, none⟩) 1 cap, .int .i64 0]) ∧ Hid (g < w'.heap.size ∧ (∀ j u, (tdCells X tv)[j]? = some u → w'.cell? ⟨g, j, none⟩ = some u) ∧ w'.ownsRow W.heap.size 113 3 tv X.ts.length (tnCells X.ts)) ∧ Below W.heap.size W w') := by
        show ∀ W, _
        intro W hb
        refine (HER.out W hb).mono fun e w' ⟨h1, _, h2⟩ => ?_
        obtain ⟨v, ms, he, hms, htd⟩ := h2 (by rw [eE2]; exact hE2)
        rw [List.map_cons, List.map_nil, eX] at hms
        obtain ⟨g, cap, tv, rfl, -, q2, q3, q4⟩ := tds_one htd hms
        exact ⟨g, cap, tv, he, ⟨q2, q3, q4⟩, h1⟩
      rw [eX] at hS hXr hXe s2 s3' hlt hXl
      have HSF := Lib.hid hS
      have HXR := Lib.hid hXr
      have HXE := Lib.hid hXe
      have HS2 := Lib.hid (And.intro s2 s3')
      have HFM := Lib.hid hfm
      have HLT := Lib.hid hlt
      clear hb4 HX3 hx4 HW3 HER eE2 hS HSS hE2 eX hXr hXe s1 s2 s3' hfm hlt
      go_wp2_with fail
      go_region_held3 (fun wx => Below w4.heap.size w4 wx ∧ wx.cell? ⟨w.heap.size, 0, none⟩ = some (.slice p1 b.rules.length c1) ∧ wx.cell? ⟨w.heap.size, 1, none⟩ = some (.slice p2 b.zones.length c2) ∧ wx.cell? ⟨w.heap.size, 2, none⟩ = some (.slice p3 b.links.length c3) ∧ wx.cell? ⟨zb, 1, none⟩ = some (.slice (some ⟨eb, eo, none⟩) z.eras.length cA)) ((refine KS.out _ ?_; repeat (first | (with_reducible assumption) | (with_reducible exact Below.refl _ _) | (with_reducible refine Below.drew ?_)))) (first | (go_at_call 30; refine (HEG.out _ (KR.out _ (by assumption))).mono ?_; rintro e w5 ⟨g, cap, tv, rfl, hg5, hb5⟩; have hB5 := ((KR.out _ (by assumption)).trans (hb5.mono (KR.out _ (by assumption)).size)); clear hb5))
      obtain ⟨r0, r1, r2, f0, f1, f2⟩ := RES.out w5 (HB4.out.trans (hB5.mono hw04))
      have HB5 := Lib.hid (HB4.out.trans (hB5.mono hw04))
      obtain ⟨hg, hgc, hgt⟩ := hg5.out
      obtain ⟨At, cAt, rfl⟩ := own_sliceN hgt
      have y0 := hgc 0 _ rfl
      have y1 := hgc 1 _ rfl
      have y2 := hgc 2 _ rfl
      have y3 := hgc 3 _ rfl
      have y4 := hgc 4 _ rfl
      have y5 := hgc 5 _ rfl
      have y6 := hgc 6 _ rfl
      have HTA : Hid (Calls Tryz.prog 31 #[.agg (tdCells X (.slice At X.ts.length cAt)), .int .i64 t] w5 fun e w' => e = .returned (tyV (tdTy X t)) ∧ Below w5.heap.size w5 w') := by
        have ho := HO.out
        refine TdAt_any X _ t w5 ((own_rowsT hgt (by omega)).mono (Nat.le_refl _)) HXR.out (by rw [HXE.out]; omega) (by rw [HXE.out]; omega) (by rw [HXE.out]; exact HFM.out) HLT.out HS2.out.1 HS2.out.2 (HM.out.below (HB0.out.trans (HB5.out.mono HB0.out.size))) (by omega)
      have hw05 : W0.heap.size ≤ w5.heap.size := HB5.out.size
      clear hB5 HEG KS KR BOX HX4 g0 g1 g2 q1 hg5 hgc hgt HXR HS2 HFM HLT HO
      go_wp2_with fail
      refine HTA.out.mono ?_
      rintro e w6 ⟨rfl, hb6⟩
      have HB6 := Lib.hid (HB5.out.trans (hb6.mono hw05))
      obtain ⟨r0, r1, r2, f0, f1, f2⟩ := RES.out w6 HB6.out
      have HF := Lib.hid (FIN.out w6 0 (tdTy X t) HB6.out HSF.out)
      obtain ⟨T, eT⟩ : ∃ T, tdTy X t = T := ⟨_, rfl⟩
      rw [eT] at HF ⊢
      obtain ⟨tof, ts, tn⟩ := T
      clear hb6 HTA FIN RES HSF eT y0 y1 y2 y3 y4 y5 y6
      go_wp2_with fail
      obtain ⟨W9, e9, v0, v1, v2, hP⟩ := HF.out
      rw [e9]
      exact bodyPost_ret (v := .tuple #[.agg #[.int .i64 tof, .bool ts, .string tn], .int .i64 0]) (by simp [results, Tryz.results10, go_sem, v0, v1, v2]) rfl hP
end Go.Proofs.YtacogloheiendaaGreatDoor
namespace Go.Proofs.YtacogloheiendaaGreatDoor
open Go.RowKit
set_option linter.unusedVariables false
set_option linter.unusedSimpArgs false

theorem dby_step_up (k : Int) : Civ.jan1 (k + 1) = Civ.jan1 k + 365 + (if longB k = true then 1 else 0) := by
  rw [← lp_of]; exact Civ.jan1_succ k

theorem jan1_bd (k : Int) (h0 : 0 ≤ k) (h1 : k ≤ 10000) : -1000000 ≤ Civ.jan1 k ∧ Civ.jan1 k ≤ 4000000 := by unfold Civ.jan1; omega


theorem jan1_1970 : Civ.jan1 1970 = 0 := by decide

set_option maxHeartbeats 1000000 in
theorem yearDay_any (y : Int) (w : World) (h0 : 1600 ≤ y) (h1 : y ≤ 2400) :
    Calls Tryz.prog 23 #[.int .i64 y] w fun e w' => e = .returned (.int .i64 (Civ.jan1 y)) ∧ w = w' := by
  have h70 := Lib.hid jan1_1970
  by_cases hy : 1970 ≤ y
  · go_enter Tryz.func23, Tryz.ntmps23
    go_wp2
    go_loop [3, 4] (fun n k => ∃ i : Int, 1970 ≤ i ∧ i ≤ y ∧ k = .int .i64 i ∧ n = .int .i64 (Civ.jan1 i)) (fun _ k => (y - intOf k).toNat)
    case atStart => exact ⟨1970, by omega, by omega, rfl, by rw [h70.out]⟩
    case round =>
      obtain ⟨i, hi1, hi2, rfl, rfl⟩ := hrel
      have hb := jan1_bd i (by omega) (by omega)
      by_cases hlt : i < y
      · have HS := Lib.hid (dby_step_up i)
        go_wp2_with (go_at_call 42; refine (rLong_any _ _ (by omega) (by omega)).mono ?_; rintro e w' ⟨rfl, rfl⟩)
        all_goals
          go_round
          case rel => exact ⟨i + 1, by omega, by omega, rfl, by rw [HS.out]; simp [*]⟩
          case measure => simp [intOf]; omega
      · have e : i = y := by omega
        subst e
        go_wp2
        go_loop [3, 5] (fun n k => k = .int .i64 i ∧ n = .int .i64 (Civ.jan1 i)) (fun _ k => 0)
        case atStart => exact ⟨rfl, rfl⟩
        case round =>
          obtain ⟨rfl, rfl⟩ := hrel
          go_wp2
          go_ret
          exact ⟨rfl, rfl⟩
  · go_enter Tryz.func23, Tryz.ntmps23
    go_wp2
    go_loop [3, 4] (fun n k => k = .int .i64 1970 ∧ n = .int .i64 0) (fun _ k => 0)
    case atStart => exact ⟨rfl, rfl⟩
    case round =>
      obtain ⟨rfl, rfl⟩ := hrel
      go_wp2
      go_loop [3, 5] (fun n k => ∃ i : Int, y ≤ i ∧ i ≤ 1970 ∧ k = .int .i64 i ∧ n = .int .i64 (Civ.jan1 y - Civ.jan1 i)) (fun _ k => (1970 - intOf k).toNat)
      case atStart => exact ⟨y, by omega, by omega, rfl, by simp⟩
      case round =>
        obtain ⟨i, hi1, hi2, rfl, rfl⟩ := hrel
        have hb := jan1_bd i (by omega) (by omega)
        have hc := jan1_bd y (by omega) (by omega)
        by_cases hlt : i < 1970
        · have HS := Lib.hid (dby_step_up i)
          go_wp2_with (go_at_call 42; refine (rLong_any _ _ (by omega) (by omega)).mono ?_; rintro e w' ⟨rfl, rfl⟩)
          all_goals
            go_round
            case rel => exact ⟨i + 1, by omega, by omega, rfl, by rw [HS.out]; simp [*]; omega⟩
            case measure => simp [intOf]; omega
        · have e : i = 1970 := by omega
          subst e
          go_wp2
          go_ret
          exact ⟨ret_int (by rw [h70.out]; omega), rfl⟩

end Go.Proofs.YtacogloheiendaaGreatDoor
namespace Go.Proofs.YtacogloheiendaaGreatDoor
open Go.RowKit
set_option linter.unusedVariables false
set_option linter.unusedSimpArgs false

theorem RDays_jan1 (y : Int) (w : World) (h0 : 1600 ≤ y) (h1 : y ≤ 2399) :
    Calls Tryz.prog 8 #[.int .i64 y, .int .i64 1, .int .i64 1] w fun e w' => e = .returned (.tuple #[.int .i64 (Civ.jan1 y), .int .i64 0]) ∧ Below w.heap.size w w' := by
  have hb := jan1_bd y (by omega) (by omega)
  have hm : Hid (Civ.mlen y 1 = 31) := by show Civ.mlen y 1 = 31; simp [Civ.mlen]
  go_enter Tryz.func8, Tryz.ntmps8
  go_wp2_with fail
  refine (rLength_ok _ _ _ (by omega) (by omega) (by omega) (by omega)).mono ?_
  rintro e w1 ⟨rfl, hb1⟩
  rw [hm.out]
  go_wp2_with (first | (go_at_call 22; refine (outside_any _ _ _ _).mono ?_; rintro e w' ⟨rfl, rfl⟩) | (go_at_call 23; refine (yearDay_any _ _ (by omega) (by omega)).mono ?_; rintro e w' ⟨rfl, rfl⟩))
  go_loop [10, 11] (fun n k => k = .int .i64 1 ∧ n = .int .i64 (Civ.jan1 y)) (fun _ k => 0)
  case atStart => exact ⟨rfl, by go_num⟩
  case round =>
    obtain ⟨rfl, rfl⟩ := hrel
    go_wp2
    go_ret2
    exact ⟨rfl, hb1⟩

end Go.Proofs.YtacogloheiendaaGreatDoor
namespace Go.Proofs.YtacogloheiendaaGreatDoor
open Go.RowKit
open Classical
set_option linter.unusedVariables false
set_option linter.unusedSimpArgs false

theorem fieldsTyN : (Tryz.prog.fieldsOf 41).toList = [{ name := "Offset", type := 3, offset := 0, embedded := false, tag := "", pkgPath := "", byteOffset := 0 }, { name := "Save", type := 4, offset := 1, embedded := false, tag := "", pkgPath := "", byteOffset := 8 }, { name := "Name", type := 9, offset := 2, embedded := false, tag := "", pkgPath := "", byteOffset := 16 }] := by kernel_rfl
theorem agg_tyN : Tryz.prog.underlying 41 = some (.struct (Tryz.prog.fieldsOf 41)) := by kernel_rfl
theorem stood_tyN : Tryz.prog.stoodInHeld 41 = false := by kernel_rfl
theorem ty_eq {x y : Ty} : x = y ↔ x.off = y.off ∧ x.save = y.save ∧ x.name = y.name := by
  cases x; cases y; simp
theorem bytes_ne {a b : ByteArray} (h : a ≠ b) : (a.toList == b.toList) = false := by
  cases he : a.toList == b.toList
  · rfl
  · have : a.toList = b.toList := by simpa using he
    rw [ByteArray.toList_eq, ByteArray.toList_eq] at this
    exact absurd (by cases a; cases b; simp_all) h
theorem eql_ty (x y : Ty) (W : World) : (binOp .eql 41 (.agg #[.int .i64 x.off, .bool x.save, .string x.name]) (.agg #[.int .i64 y.off, .bool y.save, .string y.name])).run Tryz.prog W = .ok (.bool (decide (x = y))) W := by
  rw [run_eql_struct, run_equalIn_agg W 9999 _ _ _ agg_tyN stood_tyN, fieldsTyN]
  by_cases h1 : x.off = y.off
  · by_cases h2 : x.save = y.save
    · by_cases h3 : x.name = y.name
      · have e : x = y := ty_eq.2 ⟨h1, h2, h3⟩
        simp [go_sem, Op.eqFields, Tryz.underlying3, Tryz.underlying4, Tryz.underlying9, e]
      · have e : ¬ x = y := fun e => h3 (by rw [e])
        simp [go_sem, Op.eqFields, Tryz.underlying3, Tryz.underlying4, Tryz.underlying9, e, h1, h2, bytes_ne h3]
    · have e : ¬ x = y := fun e => h2 (by rw [e])
      simp [go_sem, Op.eqFields, Tryz.underlying3, Tryz.underlying4, Tryz.underlying9, e, h1, h2]
  · have e : ¬ x = y := fun e => h1 (by rw [e])
    simp [go_sem, Op.eqFields, Tryz.underlying3, Tryz.underlying4, Tryz.underlying9, e, h1]
theorem eql_tySelf (o : Int) (s : Bool) (n : ByteArray) (W : World) : (binOp .eql 41 (.agg #[.int .i64 o, .bool s, .string n]) (.agg #[.int .i64 o, .bool s, .string n])).run Tryz.prog W = .ok (.bool true) W := by
  have := eql_ty ⟨o, s, n⟩ ⟨o, s, n⟩ W
  rwa [decide_eq_true rfl] at this
end Go.Proofs.YtacogloheiendaaGreatDoor
