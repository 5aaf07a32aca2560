/- BookBack in plain Lean: the text of what was parsed is the text. BookBack in plain Lean: the parse of a text is the book. BookBack in plain Lean: the lines of a book hold no newline; the parse of a book's text is the book. R.Eq at strings: the walk. -/
import Derived.Test.YtomahddiclkepaaGreatDoorQb10
import Derived.Test.YtomahddiclkepaaGreatDoorQb08
import Derived.Test.YtomahddiclkepaaGreatDoorQb03
namespace Go.Proofs.YtomahddiclkepaaGreatDoor
open Go.RowKit Go.Joins
open Classical
set_option linter.unusedVariables false
set_option linter.unusedSimpArgs false

/-- a zone's lines; 'op': an era must follow -/
def zlO (z : ByteArray × List Er) (op : Bool) : List (List UInt8) := zoH z.1 :: (List.range z.2.length).map fun i => eraT (eraAt z.2 i) (decide (i + 1 = z.2.length) && !op)
def zP (zs : List (ByteArray × List Er)) (op : Bool) : List (List UInt8) := zs.dropLast.flatMap (zlO · false) ++ (match zs.getLast? with | none => [] | some z => zlO z op)
noncomputable def stP (st : RdS) : List (List UInt8) := st.rules.map ruText ++ zP st.zones (decide (st.stage = 2)) ++ st.links.map lkL
structure Good (st : RdS) : Prop where
  z0 : st.stage = 0 → st.zones = []
  l0 : st.stage ≤ 2 → st.links = []
  n2 : st.stage = 2 → st.zones ≠ []
  hi : st.stage = 0 ∨ st.stage = 1 ∨ st.stage = 2 ∨ st.stage = 3
theorem zP_snoc (f : List (ByteArray × List Er)) (z : ByteArray × List Er) (op : Bool) : zP (f ++ [z]) op = f.flatMap (zlO · false) ++ zlO z op := by unfold zP; simp
theorem snoc_of {α : Type} {l : List α} (h : l ≠ []) : ∃ f z, l = f ++ [z] := ⟨l.dropLast, l.getLast h, (List.dropLast_concat_getLast h).symm⟩
theorem zP_closed (zs : List (ByteArray × List Er)) : zP zs false = zs.flatMap (zlO · false) := by
  by_cases h : zs = []
  · subst h; rfl
  · obtain ⟨f, z, rfl⟩ := snoc_of h
    rw [zP_snoc, List.flatMap_append]; simp
theorem addEra_s (f : List (ByteArray × List Er)) (z : ByteArray × List Er) (x : Er) : addEra (f ++ [z]) x = f ++ [(z.1, z.2 ++ [x])] := by
  unfold addEra zD
  simp [List.set_append]
theorem zlO_era (z : ByteArray × List Er) (x : Er) (op : Bool) : zlO (z.1, z.2 ++ [x]) op = zlO z true ++ [eraT x (!op)] := by
  unfold zlO
  simp only [List.length_append, List.length_singleton, List.range_succ, List.map_append, List.map_cons, List.map_nil, List.cons_append]
  congr 1
  congr 1
  · apply List.map_congr_left
    intro i hi
    have hi := List.mem_range.1 hi
    have e : eraAt (z.2 ++ [x]) i = eraAt z.2 i := by unfold eraAt; rw [List.getElem?_append_left hi]
    rw [e, decide_eq_false (by omega : ¬ i + 1 = z.2.length + 1)]
    simp
  · have e : eraAt (z.2 ++ [x]) z.2.length = x := by unfold eraAt; simp
    rw [e]
    simp
theorem joinC (c : UInt8) : ∀ l : List UInt8, Lib.join (splitC c l) [c] = l
  | [] => rfl
  | x :: r => by
    have ih := joinC c r
    have hne := splitC_ne c r
    unfold splitC
    obtain ⟨a, t, e⟩ : ∃ a t, splitC c r = a :: t := List.exists_cons_of_ne_nil hne
    rw [e] at ih ⊢
    split
    · rename_i h; subst h
      have : Lib.join ([] :: a :: t) [x] = x :: Lib.join (a :: t) [x] := by simp [Lib.join, List.intercalate]
      rw [this, ih]
    · have : Lib.join (consHd x (a :: t)) [c] = x :: Lib.join (a :: t) [c] := by cases t <;> simp [consHd, Lib.join, List.intercalate]
      rw [this, ih]
theorem w2 {l a b : List UInt8} (h : splitC 32 l = [a, b]) : l = a ++ 32 :: b := by have := joinC 32 l; rw [h] at this; rw [← this]; simp [Lib.join, List.intercalate]
theorem w3 {l a b c : List UInt8} (h : splitC 32 l = [a, b, c]) : l = a ++ 32 :: (b ++ 32 :: c) := by have := joinC 32 l; rw [h] at this; rw [← this]; simp [Lib.join, List.intercalate]
theorem w4 {l a b c d : List UInt8} (h : splitC 32 l = [a, b, c, d]) : l = a ++ 32 :: (b ++ 32 :: (c ++ 32 :: d)) := by have := joinC 32 l; rw [h] at this; rw [← this]; simp [Lib.join, List.intercalate]
theorem w5 {l a b c d e : List UInt8} (h : splitC 32 l = [a, b, c, d, e]) : l = a ++ 32 :: (b ++ 32 :: (c ++ 32 :: (d ++ 32 :: e))) := by have := joinC 32 l; rw [h] at this; rw [← this]; simp [Lib.join, List.intercalate]
theorem len2 {α : Type} {l : List α} (h : l.length = 2) : ∃ a b, l = [a, b] := by match l, h with | [a, b], _ => exact ⟨a, b, rfl⟩
theorem len3 {α : Type} {l : List α} (h : l.length = 3) : ∃ a b c, l = [a, b, c] := by match l, h with | [a, b, c], _ => exact ⟨a, b, c, rfl⟩
theorem len4 {α : Type} {l : List α} (h : l.length = 4) : ∃ a b c d, l = [a, b, c, d] := by match l, h with | [a, b, c, d], _ => exact ⟨a, b, c, d, rfl⟩
theorem len5 {α : Type} {l : List α} (h : l.length = 5) : ∃ a b c d e, l = [a, b, c, d, e] := by match l, h with | [a, b, c, d, e], _ => exact ⟨a, b, c, d, e, rfl⟩
theorem era_core {a b c : List UInt8} {u : Int × Int} {x : Er} {tl : List UInt8} (last : Bool) (hu : u.2 = 0 → (if last = true then [] else 32 :: stampT u.1 : List UInt8) = tl)
    (h : (if (rdSpan a).2 ≠ 0 then none else
      if Lib.hasPrefix b [45] = true then (if (rdSpan (Lib.trimPrefix b [45])).2 ≠ 0 ∨ u.2 ≠ 0 then none else some ⟨(rdSpan a).1, ⟨#[]⟩, (rdSpan (Lib.trimPrefix b [45])).1, txt c, u.1⟩) else
      if nameB (txt b) = false ∨ u.2 ≠ 0 then none else some ⟨(rdSpan a).1, txt b, 0, txt c, u.1⟩) = some x) :
    eraT x last = [101, 114, 97, 32] ++ a ++ [32] ++ b ++ [32] ++ c ++ tl := by
  by_cases h1 : (rdSpan a).2 = 0
  · rw [if_neg (fun g => g h1)] at h
    have h1 := (rdSpan_ok h1).2
    by_cases hp : Lib.hasPrefix b [45] = true
    · rw [if_pos hp] at h
      by_cases h2 : (rdSpan (Lib.trimPrefix b [45])).2 ≠ 0 ∨ u.2 ≠ 0
      · rw [if_pos h2] at h; cases h
      · rw [if_neg h2] at h
        have h3 : (rdSpan (Lib.trimPrefix b [45])).2 = 0 := Classical.byContradiction fun g => h2 (.inl g)
        have h4 := hu (Classical.byContradiction fun g => h2 (.inr g))
        have h5 := (rdSpan_ok h3).2
        injection h with h
        subst h
        have hb : b = 45 :: Lib.trimPrefix b [45] := by
          unfold Lib.trimPrefix
          rw [if_pos hp]
          cases b with
          | nil => simp [Lib.hasPrefix] at hp
          | cons y r => simp [Lib.hasPrefix] at hp; simp [hp]
        have e2 : 45 :: spanT (rdSpan (Lib.trimPrefix b [45])).1 = b := by rw [h5]; exact hb.symm
        unfold eraT eraR
        dsimp only
        rw [h4, h1, if_pos rfl, e2, txt_data]
    · rw [if_neg hp] at h
      by_cases h2 : nameB (txt b) = false ∨ u.2 ≠ 0
      · rw [if_pos h2] at h; cases h
      · rw [if_neg h2] at h
        have h4 := hu (Classical.byContradiction fun g => h2 (.inr g))
        injection h with h
        subst h
        have hn : nameB (txt b) = true := by cases e : nameB (txt b) with | true => rfl | false => exact absurd (.inl e) h2
        have hne : b ≠ [] := by rintro rfl; revert hn; decide
        unfold eraT eraR
        dsimp only
        rw [h4, h1, if_neg (by rw [txt_data]; exact hne), txt_data, txt_data]
  · rw [if_pos h1] at h; cases h
/-- the text of an era that was read of its words -/
theorem era_back4 {a b c : List UInt8} {x : Er} (h : eraL a b c none = some x) : eraT x true = [101, 114, 97, 32] ++ a ++ [32] ++ b ++ [32] ++ c ++ [] := era_core true (fun _ => rfl) h
theorem era_back5 {a b c d : List UInt8} {x : Er} (h : eraL a b c (some d) = some x) : eraT x false = [101, 114, 97, 32] ++ a ++ [32] ++ b ++ [32] ++ c ++ (32 :: d) := era_core false (fun h0 => by rw [if_neg (by decide), (rdStamp_ok h0).2]) h
theorem step_B {st st' : RdS} {l : List UInt8} (h : lineF st l = some st') (g : Good st) : Good st' ∧ stP st' = stP st ++ [l] := by
  obtain ⟨rs, zs, ls, sg⟩ := st
  obtain ⟨g1, g2, g3, g4⟩ := g
  dsimp only at g1 g2 g3 g4
  unfold lineF at h
  dsimp only at h
  by_cases c1 : (splitC 32 l).getD 0 [] = ruleW ∧ sg = 0
  · rw [if_pos c1] at h
    obtain ⟨-, rfl⟩ := c1
    by_cases c2 : (rdRule l).2 = 0
    · rw [if_pos c2] at h
      injection h with h
      subst h
      obtain rfl := g1 rfl
      obtain rfl := g2 (by decide)
      refine ⟨⟨fun _ => rfl, fun _ => rfl, g3, g4⟩, ?_⟩
      unfold stP zP
      simp [(rdRule_ok c2).2]
    · rw [if_neg c2] at h; cases h
  · rw [if_neg c1] at h
    by_cases c2 : (splitC 32 l).getD 0 [] = zoneW ∧ sg ≤ 1 ∧ (splitC 32 l).length = 2
    · rw [if_pos c2] at h
      injection h with h
      subst h
      obtain ⟨e1, e2, e3⟩ := c2
      obtain ⟨a, b, e⟩ := len2 e3
      rw [e] at e1 ⊢
      have e1 : a = zoneW := e1
      have el := w2 e
      subst e1
      obtain rfl := g2 (by omega)
      refine ⟨⟨fun h => by simp at h, fun _ => rfl, fun _ => by simp, .inr (.inr (.inl rfl))⟩, ?_⟩
      unfold stP
      dsimp only
      rw [decide_eq_false (by omega : ¬ sg = 2), zP_closed, zP_snoc]
      have : zlO (txt b, []) (decide ((2 : Int) = 2)) = [l] := by
        rw [el]
        unfold zlO zoH
        rw [txt_data]
        rfl
      show _ ++ (_ ++ zlO (txt b, []) (decide ((2 : Int) = 2))) ++ _ = _
      rw [this]
      simp
    · rw [if_neg c2] at h
      by_cases c3 : (splitC 32 l).getD 0 [] = eraW
      · rw [if_pos c3] at h
        unfold eraF at h
        dsimp only at h
        by_cases c4 : sg ≠ 2 ∨ ((splitC 32 l).length ≠ 4 ∧ (splitC 32 l).length ≠ 5)
        · rw [if_pos c4] at h; cases h
        · rw [if_neg c4] at h
          have c5 : sg = 2 := Classical.byContradiction fun g => c4 (.inl g)
          subst c5
          obtain rfl := g2 (by decide)
          obtain ⟨f, z, rfl⟩ := snoc_of (g3 rfl)
          have c6 : (splitC 32 l).length = 4 ∨ (splitC 32 l).length = 5 := by omega
          rcases c6 with c6 | c6
          · obtain ⟨a, b, c, d, e⟩ := len4 c6
            have el := w4 e
            rw [e] at h c3
            have c3 : a = eraW := c3
            subst c3
            change (match eraL b c d none with | none => none | some x => some (⟨rs, addEra (f ++ [z]) x, [], 1⟩ : RdS)) = some st' at h
            cases hx : eraL b c d none with
            | none => rw [hx] at h; cases h
            | some x =>
              rw [hx] at h
              injection h with h
              subst h
              rw [addEra_s]
              refine ⟨⟨fun h => by simp at h, fun _ => rfl, fun h => by simp at h, .inr (.inl rfl)⟩, ?_⟩
              have hb := era_back4 hx
              unfold stP
              dsimp only
              rw [zP_snoc, zP_snoc, decide_eq_false (by decide : ¬ (1 : Int) = 2), decide_eq_true (rfl : (2 : Int) = 2), zlO_era]
              rw [show (!false) = true from rfl, hb, el]
              simp [eraW]
          · obtain ⟨a, b, c, d, d2, e⟩ := len5 c6
            have el := w5 e
            rw [e] at h c3
            have c3 : a = eraW := c3
            subst c3
            change (match eraL b c d (some d2) with | none => none | some x => some (⟨rs, addEra (f ++ [z]) x, [], 2⟩ : RdS)) = some st' at h
            cases hx : eraL b c d (some d2) with
            | none => rw [hx] at h; cases h
            | some x =>
              rw [hx] at h
              injection h with h
              subst h
              rw [addEra_s]
              refine ⟨⟨fun h => by simp at h, fun _ => rfl, fun _ => by simp, .inr (.inr (.inl rfl))⟩, ?_⟩
              have hb := era_back5 hx
              unfold stP
              dsimp only
              rw [zP_snoc, zP_snoc, decide_eq_true (rfl : (2 : Int) = 2), zlO_era]
              rw [show (!true) = false from rfl, hb, el]
              simp [eraW]
      · rw [if_neg c3] at h
        by_cases c4 : (splitC 32 l).getD 0 [] = linkW ∧ sg ≠ 2 ∧ (splitC 32 l).length = 3
        · rw [if_pos c4] at h
          injection h with h
          subst h
          obtain ⟨e1, e2, e3⟩ := c4
          obtain ⟨a, b, c, e⟩ := len3 e3
          have el := w3 e
          rw [e] at e1 ⊢
          have e1 : a = linkW := e1
          subst e1
          refine ⟨⟨fun h => by simp at h, fun h => by simp at h, fun h => by simp at h, .inr (.inr (.inr rfl))⟩, ?_⟩
          unfold stP
          dsimp only
          rw [decide_eq_false e2, decide_eq_false (by decide : ¬ (3 : Int) = 2), List.map_append]
          have : lkL ⟨txt b, txt c⟩ = l := by
            rw [el]
            unfold lkL
            rw [txt_data, txt_data]
            simp [linkW]
          show _ ++ (_ ++ [lkL ⟨txt b, txt c⟩]) = _
          rw [this]
          simp
        · rw [if_neg c4] at h; cases h
theorem lines_B : ∀ (r : List (List UInt8)) (st st' : RdS) (k k' : Nat), linesF st k r = (some st', k') → Good st → Good st' ∧ stP st' = stP st ++ r
  | [], st, st', k, k', h, g => by
    unfold linesF at h
    injection h with h _
    injection h with h
    subst h
    exact ⟨g, (List.append_nil _).symm⟩
  | l :: r, st, st', k, k', h, g => by
    unfold linesF at h
    cases e : lineF st l with
    | none => rw [e] at h; injection h with h _; cases h
    | some s2 =>
      rw [e] at h
      obtain ⟨g2, h2⟩ := step_B e g
      obtain ⟨g3, h3⟩ := lines_B r s2 st' _ _ h g2
      exact ⟨g3, by rw [h3, h2]; simp⟩
theorem zl_zo (nm : ByteArray) (ev : Value) (l : List Er) : zlO (nm, l) false = zoLs ⟨nm, ev, l⟩ := by
  unfold zlO zoLs erLs
  simp
theorem zs_flat (ev : Nat → Value) : ∀ (zs : List (ByteArray × List Er)) (n : Nat), ((zs.zipIdx n).map fun z => (⟨z.1.1, ev z.2, z.1.2⟩ : Zo)).flatMap zoLs = zs.flatMap (zlO · false)
  | [], _ => rfl
  | z :: r, n => by
    rw [List.zipIdx_cons, List.map_cons, List.flatMap_cons, List.flatMap_cons, zs_flat ev r (n + 1)]
    rw [← zl_zo z.1 (ev n) z.2]
theorem stP_bk {st : RdS} (h : st.stage ≠ 2) (ev : Nat → Value) : stP st = bkLs (bkS st ev) := by
  unfold stP bkLs bkS
  dsimp only
  rw [decide_eq_false h, zP_closed, zs_flat]
theorem good0 : Good rd0 := ⟨fun _ => rfl, fun _ => rfl, fun h => by simp [rd0] at h, .inl rfl⟩
/-- LAW B: the text of what was parsed is the text -/
theorem text_back {s : List UInt8} {st : RdS} {k : Nat} (h : parseF s = (st, k, 0)) (ev : Nat → Value) : bkText (bkS st ev) = s ∧ k = 0 ∧ bkChk (bkS st fun _ => undef) = 0 := by
  unfold parseF at h
  split at h
  · injection h with _ h; injection h with _ h; cases h
  split at h
  · rename_i hs
    injection h with h1 h; injection h with h2 h
    subst hs h1 h2
    exact ⟨rfl, rfl, by kernel_rfl⟩
  split at h
  · injection h with _ h; injection h with _ h; cases h
  rename_i st2 k2 e
  split at h
  · injection h with _ h; injection h with _ h; cases h
  rename_i hs
  split at h
  · rename_i hc
    injection h with _ h; injection h with _ h; exact absurd h hc
  rename_i hc
  injection h with h1 h; injection h with h2 h
  subst h1 h2
  obtain ⟨g, e2⟩ := lines_B _ _ _ _ _ e good0
  refine ⟨?_, rfl, Classical.not_not.1 hc⟩
  unfold bkText
  rw [← stP_bk hs ev, e2]
  have e3 : stP rd0 = [] := rfl
  rw [e3, List.nil_append]
  exact joinC 10 s
end Go.Proofs.YtomahddiclkepaaGreatDoor
namespace Go.Proofs.YtomahddiclkepaaGreatDoor
open Go.RowKit Go.Joins
open Classical
set_option linter.unusedVariables false
set_option linter.unusedSimpArgs false

theorem rdRule_eq {r : Ru} (o : OkRu r) (w : World) (ht : Tab10 w) (ha : AscTab w) (hn : NumErrs w) (hm : MaxLen w) : rdRule (ruText r) = (r, 0) := by
  have hl := ruText_len o
  obtain ⟨q, R, RE, -, hu, -⟩ := Parse_nine (ruText r) _ _ _ _ _ _ _ _ _ (ru_split o) (ck_of ⟨o.a1, o.a2⟩ o.c1 o.c2).2.2 w (by omega) ht ha hn hm
  have hx : ∃ q, OkRu q ∧ ruText q = ruText r := ⟨r, o, rfl⟩
  unfold rdRule
  rw [dif_pos hx]
  obtain ⟨h1, h2⟩ := Classical.choose_spec hx
  exact Prod.ext ((hu _ h1 h2).symm.trans (hu r o rfl)) rfl
/-- lines behind lines -/
theorem linesF_app : ∀ (a b : List (List UInt8)) (st st' : RdS) (k k' : Nat), linesF st k a = (some st', k') → linesF st k (a ++ b) = linesF st' k' b
  | [], b, st, st', k, k', h => by
    unfold linesF at h
    injection h with h h2
    injection h with h
    subst h h2
    rfl
  | l :: a, b, st, st', k, k', h => by
    unfold linesF at h
    show linesF st k (l :: (a ++ b)) = _
    conv => lhs; unfold linesF
    cases e : lineF st l with
    | none => rw [e] at h; injection h with h _; cases h
    | some s2 =>
      rw [e] at h
      exact linesF_app a b s2 st' _ k' h
theorem stampT_inj {t u : Int} (h1 : inT t) (h2 : inT u) (e : stampT t = stampT u) : t = u := by
  have a := h1.1; have b := h1.2; have c := h2.1; have d := h2.2
  rcases Int.lt_trichotomy t u with h | h | h
  · have := (stampT_lt t u (by omega) (by omega) (by omega) (by omega)).2 h
    rw [e] at this
    exact absurd this (List.lt_irrefl _)
  · exact h
  · have := (stampT_lt u t (by omega) (by omega) (by omega) (by omega)).2 h
    rw [e] at this
    exact absurd this (List.lt_irrefl _)
theorem rdStamp_eq {t : Int} (h : inT t) : rdStamp (stampT t) = (t, 0) := by
  have hx : ∃ n, inT n ∧ stampT n = stampT t := ⟨t, h, rfl⟩
  unfold rdStamp
  rw [dif_pos hx]
  obtain ⟨h1, h2⟩ := Classical.choose_spec hx
  exact Prod.ext (stampT_inj h1 h h2) rfl
theorem line_ru {r : Ru} (o : OkRu r) (e : rdRule (ruText r) = (r, 0)) (rs : List Ru) : lineF ⟨rs, [], [], 0⟩ (ruText r) = some ⟨rs ++ [r], [], [], 0⟩ := by
  unfold lineF
  rw [if_pos ⟨by rw [ru_split o]; rfl, rfl⟩, e, if_pos rfl]
theorem lines_ru : ∀ (l rs : List Ru) (k : Nat), (∀ r ∈ l, OkRu r ∧ rdRule (ruText r) = (r, 0)) → linesF ⟨rs, [], [], 0⟩ k (l.map ruText) = (some ⟨rs ++ l, [], [], 0⟩, k + l.length)
  | [], rs, k, _ => by simp [linesF]
  | r :: l, rs, k, h => by
    have h1 := h r List.mem_cons_self
    have ih := lines_ru l (rs ++ [r]) (k + 1) fun x hx => h x (List.mem_cons_of_mem _ hx)
    rw [List.map_cons]
    unfold linesF
    rw [line_ru h1.1 h1.2]
    dsimp only
    rw [ih, List.append_assoc, List.length_cons]
    simp only [List.singleton_append, Nat.add_assoc, Nat.add_comm 1]
theorem zo_split {nm : ByteArray} (h : ∀ x ∈ nm.data.toList, x ≠ 32) : splitC 32 (zoH nm) = [zoneW, nm.data.toList] := by
  have : zoH nm = zoneW ++ 32 :: nm.data.toList := rfl
  rw [this, splitC_head 32 zoneW _ (by decide), splitC_last 32 _ h]
theorem lk_split {x : Lk} (h : ∀ c ∈ x.nm.data.toList, c ≠ 32) (h2 : ∀ c ∈ x.tg.data.toList, c ≠ 32) : splitC 32 (lkL x) = [linkW, x.nm.data.toList, x.tg.data.toList] := by
  have : lkL x = linkW ++ 32 :: (x.nm.data.toList ++ 32 :: x.tg.data.toList) := by unfold lkL; simp [linkW]
  rw [this, splitC_head 32 linkW _ (by decide), splitC_head 32 _ _ h, splitC_last 32 _ h2]
theorem line_zo {nm : ByteArray} (h : ∀ x ∈ nm.data.toList, x ≠ 32) (rs : List Ru) (zs : List (ByteArray × List Er)) (sg : Int) (hs : sg ≤ 1) : lineF ⟨rs, zs, [], sg⟩ (zoH nm) = some ⟨rs, zs ++ [(nm, [])], [], 2⟩ := by
  unfold lineF
  rw [zo_split h]
  dsimp only
  rw [if_neg (fun h => absurd (show zoneW = ruleW from h.1) (by decide)), if_pos ⟨rfl, hs, rfl⟩]
  rfl
theorem line_lk {x : Lk} (h : ∀ c ∈ x.nm.data.toList, c ≠ 32) (h2 : ∀ c ∈ x.tg.data.toList, c ≠ 32) (rs : List Ru) (zs : List (ByteArray × List Er)) (ls : List Lk) (sg : Int) (hs : sg ≠ 2) : lineF ⟨rs, zs, ls, sg⟩ (lkL x) = some ⟨rs, zs, ls ++ [x], 3⟩ := by
  unfold lineF
  rw [lk_split h h2]
  dsimp only
  rw [if_neg (fun h => absurd (show linkW = ruleW from h.1) (by decide)), if_neg (fun h => absurd (show linkW = zoneW from h.1) (by decide)), if_neg (show ¬ ([linkW, x.nm.data.toList, x.tg.data.toList] : List (List UInt8)).getD 0 [] = eraW from fun h => absurd (show linkW = eraW from h) (by decide)), if_pos ⟨rfl, hs, rfl⟩]
  rfl
theorem lines_lk : ∀ (l : List Lk) (rs : List Ru) (zs : List (ByteArray × List Er)) (ls : List Lk) (sg : Int) (k : Nat), sg ≠ 2 → (∀ x ∈ l, (∀ c ∈ x.nm.data.toList, c ≠ 32) ∧ ∀ c ∈ x.tg.data.toList, c ≠ 32) → ∃ sg' k', sg' ≠ 2 ∧ linesF ⟨rs, zs, ls, sg⟩ k (l.map lkL) = (some ⟨rs, zs, ls ++ l, sg'⟩, k')
  | [], rs, zs, ls, sg, k, hs, _ => ⟨sg, k, hs, by simp [linesF]⟩
  | x :: l, rs, zs, ls, sg, k, hs, h => by
    have h1 := h x List.mem_cons_self
    obtain ⟨s2, k2, hs2, ih⟩ := lines_lk l rs zs (ls ++ [x]) 3 (k + 1) (by decide) fun y hy => h y (List.mem_cons_of_mem _ hy)
    refine ⟨s2, k2, hs2, ?_⟩
    rw [List.map_cons]
    unfold linesF
    rw [line_lk h1.1 h1.2 rs zs ls sg hs]
    dsimp only
    rw [ih, List.append_assoc]
    rfl
theorem era_split {x : Er} {last : Bool} (h1 : ∀ c ∈ spanT x.off, c ≠ 32) (h2 : ∀ c ∈ eraR x, c ≠ 32) (h3 : ∀ c ∈ x.fm.data.toList, c ≠ 32) (h4 : last = false → ∀ c ∈ stampT x.un, c ≠ 32) : splitC 32 (eraT x last) = [eraW, spanT x.off, eraR x, x.fm.data.toList] ++ (if last = true then [] else [stampT x.un]) := by
  cases last with
  | true =>
    have : eraT x true = eraW ++ 32 :: (spanT x.off ++ 32 :: (eraR x ++ 32 :: x.fm.data.toList)) := by unfold eraT; simp [eraW]
    rw [this, splitC_head 32 eraW _ (by decide), splitC_head 32 _ _ h1, splitC_head 32 _ _ h2, splitC_last 32 _ h3]
    rfl
  | false =>
    have : eraT x false = eraW ++ 32 :: (spanT x.off ++ 32 :: (eraR x ++ 32 :: (x.fm.data.toList ++ 32 :: stampT x.un))) := by unfold eraT; simp [eraW]
    rw [this, splitC_head 32 eraW _ (by decide), splitC_head 32 _ _ h1, splitC_head 32 _ _ h2, splitC_head 32 _ _ h3, splitC_last 32 _ (h4 rfl)]
    rfl
theorem split_join : ∀ l : List (List UInt8), l ≠ [] → (∀ x ∈ l, ∀ c ∈ x, c ≠ 10) → splitC 10 (Lib.join l [10]) = l
  | [], h, _ => absurd rfl h
  | [x], _, h => by
    have e : Lib.join [x] [10] = x := by simp [Lib.join]
    rw [e]
    exact splitC_last 10 x (h x List.mem_cons_self)
  | x :: y :: r, _, h => by
    have e : Lib.join (x :: y :: r) [10] = x ++ 10 :: Lib.join (y :: r) [10] := by unfold Lib.join; simp [List.intercalate]
    rw [e, splitC_head 10 x _ (h x List.mem_cons_self), split_join (y :: r) (by simp) fun z hz => h z (List.mem_cons_of_mem _ hz)]
end Go.Proofs.YtomahddiclkepaaGreatDoor
namespace Go.Proofs.YtomahddiclkepaaGreatDoor
open Go.RowKit Go.Joins
open Classical
set_option linter.unusedVariables false
set_option linter.unusedSimpArgs false

/-- signs that are no blank -/
def Gs (l : List UInt8) : Prop := ∀ c ∈ l, 32 < c.toNat
theorem Gs_ne {l : List UInt8} (h : Gs l) (k : UInt8) (hk : k.toNat ≤ 32) : ∀ c ∈ l, c ≠ k := by
  rintro c hc rfl
  have := h c hc
  omega
theorem Gs_app {a b : List UInt8} (h : Gs a) (h2 : Gs b) : Gs (a ++ b) := fun c hc => (List.mem_append.1 hc).elim (h c) (h2 c)
theorem Gs_dg {l : List UInt8} (h : ∀ c ∈ l, isDg c) : Gs l := fun c hc => by have := h c hc; unfold isDg at this; omega
theorem Gs_one {k : UInt8} (h : 32 < k.toNat) : Gs [k] := fun c hc => by rw [List.mem_singleton.1 hc]; exact h
theorem Gs_itoa {n : Int} (h : 0 ≤ n) : Gs (Lib.itoa n) := Gs_dg (itoa_dg h)
theorem Gs_T2 {n : Int} (h : 0 ≤ n) (h1 : n < 100) : Gs (T2 n) := Gs_dg (T2_dg h h1)
theorem Gs_span {n : Int} (h : inS n) : Gs (spanT n) := fun c hc => by
  rcases spanT_mem h c hc with h | rfl | rfl
  · unfold isDg at h; omega
  · decide
  · decide
theorem Gs_stamp {t : Int} (h : inT t) : Gs (stampT t) := by
  obtain ⟨h1, h2⟩ := h
  obtain ⟨hv, _⟩ := Civ.date_valid (t / 86400) h1 h2
  obtain ⟨y1, y2, m1, m2, d1, d2⟩ := hv
  have hm : Civ.mlen (Civ.yy (t / 86400)) (Civ.mm (t / 86400)) ≤ 31 := (Civ.mlen_bd _ _ m1 m2).2
  unfold stampT
  refine Gs_app (Gs_itoa (by omega)) (Gs_app (Gs_one (by decide)) (Gs_app (Gs_T2 (by omega) (by omega)) (Gs_app (Gs_one (by decide)) (Gs_app (Gs_T2 (by omega) (by omega)) (Gs_app (Gs_one (by decide)) (Gs_app (Gs_T2 (by omega) (by omega)) (Gs_app (Gs_one (by decide)) (Gs_app (Gs_T2 (by omega) (by omega)) (Gs_app (Gs_one (by decide)) (Gs_T2 (by omega) (by omega)))))))))))
theorem Gs_all {s : ByteArray} {most : Int} {o : ByteArray} (h : allB s most o = true) (ho : Gs o.data.toList) : Gs s.data.toList := by
  unfold allB at h
  simp only [Bool.and_eq_true, List.all_eq_true] at h
  intro c hc
  have := h.1.1 c hc
  unfold signB letterB digitB at this
  simp only [Bool.or_eq_true, decide_eq_true_eq, List.contains_iff_mem] at this
  rcases this with (h | h) | h
  · omega
  · omega
  · exact ho _ h
theorem Gs_name {s : ByteArray} (h : nameB s = true) : Gs s.data.toList := by
  unfold nameB at h
  simp only [Bool.and_eq_true] at h
  exact Gs_all h.1 (by unfold Gs; decide)
theorem Gs_abbr {s : ByteArray} (h : abbrB s = true) : Gs s.data.toList := Gs_all (show allB s 8 _ = true from h) (by unfold Gs; decide)
theorem Gs_lt {l : List UInt8} (h : ∀ c ∈ l, isLt c) : Gs l := fun c hc => by have := h c hc; unfold isLt at this; omega
theorem Gs_day {k wd n : Int} (h : dayB k wd n = true) : Gs (dayT k wd n) := by
  simp only [dayB, decide_eq_true_eq] at h
  unfold dayT
  rcases h with ⟨rfl, rfl, h1, h2⟩ | ⟨rfl, h1, h2, rfl⟩ | ⟨rfl | rfl, h1, h2, h3, h4⟩
  · rw [if_neg (by decide), if_neg (by decide), if_neg (by decide)]
    exact Gs_itoa (by omega)
  · rw [if_pos rfl]
    exact Gs_app (Gs_lt last_letters) (Gs_lt (word_letters h1 h2))
  · rw [if_neg (by decide), if_pos rfl]
    exact Gs_app (Gs_lt (word_letters h1 h2)) (Gs_app (by unfold Gs; decide) (Gs_itoa (by omega)))
  · rw [if_neg (by decide), if_neg (by decide), if_pos rfl]
    exact Gs_app (Gs_lt (word_letters h1 h2)) (Gs_app (by unfold Gs; decide) (Gs_itoa (by omega)))
theorem Gs_ruW {r : Ru} (o : OkRu r) : ∀ x ∈ ruW r, Gs x := by
  have f1 := o.f1; have t1 := o.t1; have m1 := o.m1; have s1 := o.s1; have s2 := o.s2
  intro x hx
  simp only [ruW, List.mem_cons, List.not_mem_nil, or_false] at hx
  rcases hx with rfl | rfl | rfl | rfl | rfl | rfl | rfl | rfl | rfl
  · unfold Gs; decide
  · exact Gs_name o.nm
  · exact Gs_itoa (by omega)
  · exact Gs_itoa (by omega)
  · exact Gs_itoa (by omega)
  · exact Gs_day o.d
  · refine Gs_app (Gs_span ⟨o.a1, o.a2⟩) ?_
    unfold ckT
    split
    · unfold Gs; decide
    · split
      · unfold Gs; decide
      · intro c hc; cases hc
  · exact Gs_span ⟨by omega, by omega⟩
  · rcases o.lt with h | h
    · rw [← ByteArray.toList_eq, h]; unfold Gs; decide
    · exact Gs_abbr h
theorem glue_no : ∀ (ws : List (List UInt8)), (∀ x ∈ ws, Gs x) → ∀ c ∈ glue ws, c ≠ 10
  | [], _ => fun c hc => by cases hc
  | [x], h => Gs_ne (h x List.mem_cons_self) 10 (by decide)
  | x :: y :: r, h => fun c hc => by
    have hc : c ∈ x ++ 32 :: glue (y :: r) := hc
    rcases List.mem_append.1 hc with hc | hc
    · exact Gs_ne (h x List.mem_cons_self) 10 (by decide) c hc
    · rcases List.mem_cons.1 hc with rfl | hc
      · decide
      · exact glue_no (y :: r) (fun z hz => h z (List.mem_cons_of_mem _ hz)) c hc
/-- the letters of a format -/
theorem cut_parts (l : List UInt8) (k : UInt8) (h : (Lib.cut l [k]).2.2 = true) : l = (Lib.cut l [k]).1 ++ k :: (Lib.cut l [k]).2.1 := by
  by_cases hm : k ∈ l
  · obtain ⟨a, b, e, hn⟩ := List.eq_append_cons_of_mem hm
    have := cut_sep a b k fun c hc e => hn (e ▸ hc)
    rw [e, this]
  · rw [cut_noA hm] at h; cases h
theorem Gs_fm {f : List UInt8} (h : (splitF f).2.2.2 = true) : Gs f := by
  have ok : ∀ l : List UInt8, abbrB (txt l) = true → Gs l := fun l h => by have := Gs_abbr h; rwa [txt_data] at this
  unfold splitF at h
  by_cases g1 : 12 < f.length
  · rw [if_pos g1] at h; cases h
  · rw [if_neg g1] at h
    by_cases g2 : (Lib.cut f [47]).2.2 = true
    · rw [if_pos g2] at h
      dsimp only at h
      rw [Bool.and_eq_true] at h
      rw [cut_parts f 47 g2]
      exact Gs_app (ok _ h.1) (Gs_app (Gs_one (by decide)) (ok _ h.2) : Gs ([47] ++ _))
    · rw [if_neg g2] at h
      by_cases g3 : (Lib.cut f [37]).2.2 = true
      · rw [if_pos g3] at h
        dsimp only at h
        have hab : Gs ((Lib.cut f [37]).1 ++ (Lib.cut f [37]).2.1) := by
          rw [Bool.or_eq_true] at h
          rcases h with h | h
          · rw [of_decide_eq_true h]; intro c hc; cases hc
          · rw [Bool.and_eq_true] at h
            exact ok _ h.2
        rw [cut_parts f 37 g3]
        exact Gs_app (fun c hc => hab c (List.mem_append_left _ hc)) (Gs_app (Gs_one (by decide)) (fun c hc => hab c (List.mem_append_right _ hc)) : Gs ([37] ++ _))
      · rw [if_neg g3] at h
        exact ok _ h
/-- what an era that may be says beyond er_P -/
theorem er_Q {rules : List Ru} {l : List Er} {k : Nat} (hr : ∀ r ∈ rules, OkRu r) (h : eraChk rules l k = 0) :
    ((eraAt l k).ru.data.toList ≠ [] → (eraAt l k).sv = 0 ∧ nameB (eraAt l k).ru = true) ∧ (k + 1 = l.length → (eraAt l k).un = 0) ∧ Gs (eraAt l k).fm.data.toList := by
  unfold eraChk at h
  dsimp only at h
  split at h
  · cases h
  rename_i h1
  split at h
  · cases h
  rename_i h2
  split at h
  · cases h
  rename_i h3
  split at h
  · rename_i g; exact absurd h g
  rename_i h4
  have h4 := Classical.not_not.1 h4
  refine ⟨fun g => ⟨Classical.byContradiction fun e => h2 ⟨e, g⟩, ?_⟩, fun g => ?_, ?_⟩
  · have g2 : (rules.any fun r => decide (r.nm = (eraAt l k).ru)) = true := by
      cases e : (rules.any fun r => decide (r.nm = (eraAt l k).ru)) with
      | true => rfl
      | false => exact absurd ⟨g, e⟩ h3
    obtain ⟨r, hm, e⟩ := List.any_eq_true.1 g2
    have e := of_decide_eq_true e
    rw [← e]
    exact (hr r hm).nm
  · rw [if_pos g] at h
    split at h
    · cases h
    · rename_i e; exact Classical.not_not.1 e
  · have hf : ∀ {s : Int} {lt : ByteArray}, abE (eraAt l k).fm s lt = 0 → Gs (eraAt l k).fm.data.toList := fun {s lt} e => Gs_fm (abbrF_ok (show (abbrF (eraAt l k).fm.data.toList s lt.data.toList).2 = 0 from e)).2.1
    unfold abbrsChk at h4
    split at h4
    · exact hf h4
    · split at h4
      · exact hf h4
      · rename_i g; exact absurd h4 g
theorem eraL_core {x : Er} {u : Int × Int} (ho : inS x.off) (hs : inS x.sv) (hn : x.ru.data.toList ≠ [] → x.sv = 0 ∧ nameB x.ru = true) (hu : u = (x.un, 0)) :
    (if (rdSpan (spanT x.off)).2 ≠ 0 then none else
      if Lib.hasPrefix (eraR x) [45] = true then (if (rdSpan (Lib.trimPrefix (eraR x) [45])).2 ≠ 0 ∨ u.2 ≠ 0 then none else some ⟨(rdSpan (spanT x.off)).1, ⟨#[]⟩, (rdSpan (Lib.trimPrefix (eraR x) [45])).1, txt x.fm.data.toList, u.1⟩) else
      if nameB (txt (eraR x)) = false ∨ u.2 ≠ 0 then none else some ⟨(rdSpan (spanT x.off)).1, txt (eraR x), 0, txt x.fm.data.toList, u.1⟩) = some x := by
  subst hu
  obtain ⟨off, ru, sv, fm, un⟩ := x
  dsimp only at ho hs hn ⊢
  rw [rdSpan_eq ho rfl, if_neg (fun h => h rfl)]
  by_cases g : ru.data.toList = []
  · have er : eraR ⟨off, ru, sv, fm, un⟩ = 45 :: spanT sv := by unfold eraR; rw [if_pos g]
    have t1 : Lib.hasPrefix (45 :: spanT sv) [45] = true := by simp [Lib.hasPrefix]
    have t2 : Lib.trimPrefix (45 :: spanT sv) [45] = spanT sv := by unfold Lib.trimPrefix; rw [if_pos t1]; rfl
    rw [er, if_pos t1, t2, rdSpan_eq hs rfl, if_neg (by rintro (h | h); exact h rfl; exact h rfl)]
    have e : ru = ⟨#[]⟩ := by
      have : ru = txt ru.data.toList := rfl
      rw [this, g]; rfl
    rw [e]
    rfl
  · obtain ⟨h1, h2⟩ := hn g
    have er : eraR ⟨off, ru, sv, fm, un⟩ = ru.data.toList := by unfold eraR; rw [if_neg g]
    have t1 : ¬ Lib.hasPrefix ru.data.toList [45] = true := by
      unfold nameB at h2
      simp only [Bool.and_eq_true, decide_eq_true_eq] at h2
      obtain ⟨-, c, hc, hl⟩ := h2
      intro hp
      cases hz : ru.data.toList with
      | nil => exact g hz
      | cons y r =>
        rw [hz] at hp hc
        injection hc with hc
        subst hc
        simp [Lib.hasPrefix] at hp
        subst hp
        revert hl
        decide
    rw [er, if_neg t1, txt_data', if_neg (by rintro (h | h); rw [h2] at h; cases h; exact h rfl), h1]
    rfl
theorem line_er {rules : List Ru} {l : List Er} {k : Nat} (hr : ∀ r ∈ rules, OkRu r) (h : eraChk rules l k = 0) (rs : List Ru) (f : List (ByteArray × List Er)) (nm : ByteArray) (d : List Er) :
    lineF ⟨rs, f ++ [(nm, d)], [], 2⟩ (eraT (eraAt l k) (decide (k + 1 = l.length))) = some ⟨rs, f ++ [(nm, d ++ [eraAt l k])], [], if k + 1 = l.length then 1 else 2⟩ := by
  obtain ⟨p, -, -⟩ := er_P hr h
  obtain ⟨q1, q2, q3⟩ := er_Q hr h
  have n1 : ∀ c ∈ spanT (eraAt l k).off, c ≠ 32 := spanT_ne32 p.o
  have n2 : ∀ c ∈ eraR (eraAt l k), c ≠ 32 := by
    unfold eraR
    split
    · intro c hc
      rcases List.mem_cons.1 hc with rfl | hc
      · decide
      · exact spanT_ne32 p.s c hc
    · rename_i g
      exact Gs_ne (Gs_name (q1 g).2) 32 (by decide)
  have n3 := Gs_ne q3 32 (by decide)
  have n4 : decide (k + 1 = l.length) = false → ∀ c ∈ stampT (eraAt l k).un, c ≠ 32 := fun hl => Gs_ne (Gs_stamp (p.u hl)) 32 (by decide)
  unfold lineF
  rw [era_split n1 n2 n3 n4]
  generalize eraAt l k = x at *
  by_cases g : k + 1 = l.length
  · rw [decide_eq_true g] at *
    have hx : eraL (spanT x.off) (eraR x) x.fm.data.toList none = some x := eraL_core (u := (0, 0)) p.o p.s q1 (by rw [q2 g])
    rw [if_pos g, if_pos rfl, List.append_nil]
    dsimp only
    rw [if_neg (fun h => absurd (show eraW = ruleW from h.1) (by decide)), if_neg (fun h => absurd (show eraW = zoneW from h.1) (by decide)), if_pos (show ([eraW, spanT x.off, eraR x, x.fm.data.toList] : List (List UInt8)).getD 0 [] = eraW from rfl)]
    show (match eraL (spanT x.off) (eraR x) x.fm.data.toList none with | none => none | some y => some (⟨rs, addEra (f ++ [(nm, d)]) y, [], 1⟩ : RdS)) = _
    rw [hx]
    dsimp only
    rw [addEra_s]
  · rw [decide_eq_false g] at *
    have hx : eraL (spanT x.off) (eraR x) x.fm.data.toList (some (stampT x.un)) = some x := eraL_core (u := rdStamp (stampT x.un)) p.o p.s q1 (rdStamp_eq (p.u rfl))
    have hl : ([eraW, spanT x.off, eraR x, x.fm.data.toList] ++ (if false = true then [] else [stampT x.un]) : List (List UInt8)) = [eraW, spanT x.off, eraR x, x.fm.data.toList, stampT x.un] := rfl
    rw [if_neg g, hl]
    dsimp only
    rw [if_neg (fun h => absurd (show eraW = ruleW from h.1) (by decide)), if_neg (fun h => absurd (show eraW = zoneW from h.1) (by decide)), if_pos (show ([eraW, spanT x.off, eraR x, x.fm.data.toList, stampT x.un] : List (List UInt8)).getD 0 [] = eraW from rfl)]
    show (match eraL (spanT x.off) (eraR x) x.fm.data.toList (some (stampT x.un)) with | none => none | some y => some (⟨rs, addEra (f ++ [(nm, d)]) y, [], 2⟩ : RdS)) = _
    rw [hx]
    dsimp only
    rw [addEra_s]
theorem lines_er {rules : List Ru} {l : List Er} (hr : ∀ r ∈ rules, OkRu r) (h : ∀ k, k < l.length → eraChk rules l k = 0) (hne : l ≠ []) (rs : List Ru) (f : List (ByteArray × List Er)) (nm : ByteArray) (k0 : Nat) :
    ∀ j, j ≤ l.length → linesF ⟨rs, f ++ [(nm, [])], [], 2⟩ k0 ((List.range j).map fun i => eraT (eraAt l i) (decide (i + 1 = l.length))) = (some ⟨rs, f ++ [(nm, l.take j)], [], if j = l.length then 1 else 2⟩, k0 + j)
  | 0, _ => by
    have : ¬ 0 = l.length := fun e => hne (List.eq_nil_of_length_eq_zero e.symm)
    rw [if_neg this]
    rfl
  | j + 1, hj => by
    have ih := lines_er hr h hne rs f nm k0 j (by omega)
    rw [if_neg (by omega : ¬ j = l.length)] at ih
    rw [List.range_succ, List.map_append, linesF_app _ _ _ _ _ _ ih]
    show (match lineF ⟨rs, f ++ [(nm, l.take j)], [], 2⟩ (eraT (eraAt l j) (decide (j + 1 = l.length))) with | none => ((none : Option RdS), k0 + j + 1) | some st' => (some st', k0 + j + 1)) = _
    rw [line_er hr (h j (by omega))]
    dsimp only
    have e : l.take (j + 1) = l.take j ++ [eraAt l j] := by
      rw [List.take_add_one]
      unfold eraAt
      rw [List.getElem?_eq_getElem (by omega)]
      rfl
    rw [e]
    rfl
theorem lines_zo {rules : List Ru} (hr : ∀ r ∈ rules, OkRu r) : ∀ (l : List Zo) (rs : List Ru) (zs : List (ByteArray × List Er)) (sg : Int) (k : Nat), sg ≤ 1 → (∀ z ∈ l, nameB z.nm = true ∧ z.eras ≠ [] ∧ ∀ k, k < z.eras.length → eraChk rules z.eras k = 0) →
    ∃ sg' k', sg' ≤ 1 ∧ linesF ⟨rs, zs, [], sg⟩ k (l.flatMap zoLs) = (some ⟨rs, zs ++ l.map (fun z => (z.nm, z.eras)), [], sg'⟩, k')
  | [], rs, zs, sg, k, hs, _ => ⟨sg, k, hs, by simp [linesF]⟩
  | z :: l, rs, zs, sg, k, hs, h => by
    obtain ⟨h1, h2, h3⟩ := h z List.mem_cons_self
    have e1 : linesF ⟨rs, zs, [], sg⟩ k (zoLs z) = (some ⟨rs, zs ++ [(z.nm, z.eras)], [], 1⟩, k + 1 + z.eras.length) := by
      unfold zoLs erLs
      unfold linesF
      rw [line_zo (Gs_ne (Gs_name h1) 32 (by decide)) rs zs sg hs]
      dsimp only
      have := lines_er hr h3 h2 rs zs z.nm (k + 1) z.eras.length (Nat.le_refl _)
      rw [this, if_pos rfl, List.take_length]
    obtain ⟨s2, k2, hs2, ih⟩ := lines_zo hr l rs (zs ++ [(z.nm, z.eras)]) 1 (k + 1 + z.eras.length) (by decide) fun y hy => h y (List.mem_cons_of_mem _ hy)
    refine ⟨s2, k2, hs2, ?_⟩
    rw [List.flatMap_cons, linesF_app _ _ _ _ _ _ e1, ih, List.map_cons, List.append_assoc]
    rfl
theorem nameZ {b : Bk} (h : bkChk b = 0) : ∀ z ∈ b.zones, nameB z.nm = true ∧ z.eras ≠ [] ∧ ∀ k, k < z.eras.length → eraChk b.rules z.eras k = 0 := by
  intro z hz
  obtain ⟨i, hi, rfl⟩ := List.mem_iff_getElem.1 hz
  have ho := bk_zone h i hi
  exact ⟨ho.nm, ho.ne, fun k hk => (firstE_zero _ _).1 ho.er k (List.mem_range.2 hk)⟩
theorem nameL {b : Bk} (h : bkChk b = 0) : ∀ x ∈ b.links, nameB x.nm = true ∧ nameB x.tg = true := by
  intro x hx
  obtain ⟨i, hi, rfl⟩ := List.mem_iff_getElem.1 hx
  have ho := (bk_parts h).2 i hi
  unfold linkChk at ho
  split at ho
  · cases ho
  · rename_i hn
    exact ⟨by cases e : nameB b.links[i].nm with | true => rfl | false => exact absurd (.inl e) hn, by cases e : nameB b.links[i].tg with | true => rfl | false => exact absurd (.inr e) hn⟩
theorem line_no {b : Bk} (h : bkChk b = 0) : ∀ x ∈ bkLs b, (∀ c ∈ x, c ≠ 10) ∧ x ≠ [] := by
  intro x hx
  have hr := (bk_rules h).2
  unfold bkLs at hx
  rcases List.mem_append.1 hx with hx | hx
  · rcases List.mem_append.1 hx with hx | hx
    · obtain ⟨r, hm, rfl⟩ := List.mem_map.1 hx
      exact ⟨glue_no _ (Gs_ruW (hr r hm)), by unfold ruText ruW glue; simp⟩
    · obtain ⟨z, hz, hx⟩ := List.mem_flatMap.1 hx
      obtain ⟨h1, h2, h3⟩ := nameZ h z hz
      rcases List.mem_cons.1 hx with rfl | hx
      · refine ⟨fun c hc => ?_, by unfold zoH; simp⟩
        rcases List.mem_append.1 hc with hc | hc
        · exact (show ∀ c ∈ ([122, 111, 110, 101, 32] : List UInt8), c ≠ 10 by decide) c hc
        · exact Gs_ne (Gs_name h1) 10 (by decide) c hc
      · obtain ⟨k, hk, rfl⟩ := List.mem_map.1 hx
        have hk := h3 k (List.mem_range.1 hk)
        obtain ⟨p, -, -⟩ := er_P hr hk
        obtain ⟨q1, q2, q3⟩ := er_Q hr hk
        have n2 : Gs (eraR (eraAt z.eras k)) := by
          unfold eraR
          split
          · exact Gs_app (Gs_one (k := 45) (by decide)) (Gs_span p.s)
          · rename_i g
            exact Gs_name (q1 g).2
        have g10 : ∀ {l : List UInt8}, Gs l → ∀ c ∈ l, c ≠ 10 := fun h => Gs_ne h 10 (by decide)
        have app : ∀ {a b : List UInt8}, (∀ c ∈ a, c ≠ 10) → (∀ c ∈ b, c ≠ 10) → ∀ c ∈ a ++ b, c ≠ 10 := fun h1 h2 c hc => (List.mem_append.1 hc).elim (h1 c) (h2 c)
        have sp : ∀ c ∈ ([32] : List UInt8), c ≠ 10 := by decide
        refine ⟨?_, by unfold eraT; simp⟩
        unfold eraT
        refine app (app (app (app (app (app (by decide) (g10 (Gs_span p.o))) sp) (g10 n2)) sp) (g10 q3)) ?_
        split
        · intro c hc; cases hc
        · rename_i g
          exact app sp (g10 (Gs_stamp (p.u (by cases e : decide (k + 1 = z.eras.length) with | true => exact absurd e g | false => rfl))))
  · obtain ⟨l, hm, rfl⟩ := List.mem_map.1 hx
    obtain ⟨h1, h2⟩ := nameL h l hm
    have g10 : ∀ {l : List UInt8}, Gs l → ∀ c ∈ l, c ≠ 10 := fun h => Gs_ne h 10 (by decide)
    have app : ∀ {a b : List UInt8}, (∀ c ∈ a, c ≠ 10) → (∀ c ∈ b, c ≠ 10) → ∀ c ∈ a ++ b, c ≠ 10 := fun h1 h2 c hc => (List.mem_append.1 hc).elim (h1 c) (h2 c)
    refine ⟨?_, by unfold lkL; simp⟩
    unfold lkL
    exact app (app (app (by decide) (g10 (Gs_name h1))) (by decide)) (g10 (Gs_name h2))
/-- LAW A: the parse of a book's text is the book -/
theorem parse_text {b : Bk} (h : bkChk b = 0) (hl : (bkText b).length ≤ 60000) (w : World) (ht : Tab10 w) (ha : AscTab w) (hn : NumErrs w) (hm : MaxLen w) :
    ∃ sg, parseF (bkText b) = (⟨b.rules, b.zones.map fun z => (z.nm, z.eras), b.links, sg⟩, 0, 0) := by
  have hr := (bk_rules h).2
  by_cases e0 : bkLs b = []
  · have h1 : b.rules = [] := by
      cases e : b.rules with
      | nil => rfl
      | cons x r => unfold bkLs at e0; rw [e] at e0; simp at e0
    have h2 : b.zones = [] := by
      cases e : b.zones with
      | nil => rfl
      | cons x r => unfold bkLs at e0; rw [e] at e0; simp [zoLs] at e0
    have h3 : b.links = [] := by
      cases e : b.links with
      | nil => rfl
      | cons x r => unfold bkLs at e0; rw [e] at e0; simp at e0
    have e1 : bkText b = [] := by unfold bkText; rw [e0]; rfl
    refine ⟨0, ?_⟩
    rw [e1, h1, h2, h3]
    unfold parseF
    rw [if_neg (by decide), if_pos rfl]
    rfl
  · have hs : splitC 10 (bkText b) = bkLs b := split_join _ e0 fun x hx => (line_no h x hx).1
    have hne : bkText b ≠ [] := by
      intro e
      rw [e] at hs
      have : splitC 10 [] = [[]] := rfl
      rw [this] at hs
      exact (line_no h [] (by rw [← hs]; simp)).2 rfl
    obtain ⟨s2, k2, hs2, e2⟩ := lines_zo hr b.zones b.rules [] 0 (0 + b.rules.length) (by decide) (nameZ h)
    obtain ⟨s3, k3, hs3, e3⟩ := lines_lk b.links b.rules ([] ++ b.zones.map fun z => (z.nm, z.eras)) [] s2 k2 (by omega) fun x hx => ⟨Gs_ne (Gs_name (nameL h x hx).1) 32 (by decide), Gs_ne (Gs_name (nameL h x hx).2) 32 (by decide)⟩
    have e1 := lines_ru b.rules [] 0 fun r hm' => ⟨hr r hm', rdRule_eq (hr r hm') w ht ha hn hm⟩
    have e4 : linesF rd0 0 (splitC 10 (bkText b)) = (some ⟨b.rules, b.zones.map fun z => (z.nm, z.eras), b.links, s3⟩, k3) := by
      rw [hs]
      unfold bkLs
      rw [List.append_assoc, linesF_app _ _ _ _ _ _ (show linesF rd0 0 (b.rules.map ruText) = (some ⟨[] ++ b.rules, [], [], 0⟩, 0 + b.rules.length) from e1)]
      rw [linesF_app _ _ _ _ _ _ (show linesF ⟨[] ++ b.rules, [], [], 0⟩ (0 + b.rules.length) (b.zones.flatMap zoLs) = _ from e2), e3]
      rfl
    refine ⟨s3, ?_⟩
    unfold parseF
    rw [if_neg (by omega), if_neg hne, e4]
    dsimp only
    have hc : bkChk (bkS ⟨b.rules, b.zones.map fun z => (z.nm, z.eras), b.links, s3⟩ fun _ => undef) = 0 := by
      have e5 : bkS ⟨b.rules, b.zones.map fun z => (z.nm, z.eras), b.links, s3⟩ (fun _ => undef) = ⟨b.rules, b.zones.map clrZ, b.links⟩ := by
        unfold bkS
        dsimp only
        congr 1
        refine List.ext_getElem (by simp) fun i h1 h2 => ?_
        simp [clrZ]
      rw [e5, bkChk_clr]
      exact h
    rw [if_neg hs3, if_neg (fun g => g hc)]
end Go.Proofs.YtomahddiclkepaaGreatDoor
namespace Go.Proofs.YtomahddiclkepaaGreatDoor
open Go.RowKit Go.Joins
set_option linter.unusedVariables false
set_option linter.unusedSimpArgs false
open Classical

abbrev stL (s : ByteArray) : List Value := [.string s]
theorem stL_at {W : World} {b o : Nat} {l : List ByteArray} (h : ∀ i (h : i < l.length) (j : Nat) (u : Value), (stL l[i])[j]? = some u → W.cell? ⟨b, o + i * 1 + j, none⟩ = some u) (i : Nat) (hi : i < l.length) : W.cell? ⟨b, o + i, none⟩ = some (.string l[i]) := by
  have := h i hi 0 _ rfl
  simpa using this

end Go.Proofs.YtomahddiclkepaaGreatDoor
