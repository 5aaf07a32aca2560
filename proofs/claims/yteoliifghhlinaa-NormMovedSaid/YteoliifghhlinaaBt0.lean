/- norm.isTime; slices.Grow of nil; slices.Concat of two slices of changes. -/
import Derived.Test.YteoliifghhlinaaMk7
import Derived.Lib.SliceRun
import Derived.Lib.AppendZerosOnto
import Derived.Laws.AppendOwnNone
namespace Go.Proofs.Yteoliifghhlinaa
open Go.RowKit Go.Joins
open Classical
set_option linter.unusedVariables false
set_option linter.unusedSimpArgs false

theorem isTime_any (x : Int) (w : World) : Calls Try.prog 27 #[.int .i64 x] w fun e w' => e = .returned (.bool (okTime x)) ∧ w = w' := by
  go_enter Try.func27, Try.ntmps27
  go_wp2
  all_goals (go_ret; refine ⟨ret_bool' ?_, rfl⟩; simp only [okTime]; simp; try omega)

theorem undChsB : Try.prog.underlying 23 = some (.slice 42) := by kernel_rfl
theorem undIntB : Try.prog.underlying 3 = some (.int .i64) := by kernel_rfl
theorem infoChB : (Try.prog.info? 42).map (fun i => (i.zero, i.size, i.bytes)) = some (some (.agg #[.int .i64 0, .int .i64 0]), 2, 16) := by kernel_rfl

set_option maxHeartbeats 4000000 in
set_option maxRecDepth 100000 in
theorem Grow_nil (n : Nat) (w : World) (hn : n ≤ 2000) :
    Calls Try.prog 41 #[.slice none 0 0, .int .i64 n] w fun e w' => ∃ v, e = .returned v ∧ w'.ownsRow w.heap.size 42 2 v 0 [] ∧ Below w.heap.size w w' := by
  obtain ⟨i0, hi0, hz0, hz1, hz2⟩ := info_parts infoChB
  by_cases h0 : n = 0
  · subst h0
    go_enter Try.func41, Try.ntmps41
    go_wp2
    go_ret
    exact ⟨_, rfl, World.ownsRow_nil _ _ _ _, Below.refl _ _⟩
  · have h1 : ¬ ((n : Int) < 0) := by omega
    have h3 : wrap64 (n : Int) = (n : Int) := by unfold wrap64; omega
    have h4 : (0 : Int) < (n : Int) := by omega
    have hold : (Builtin.firstCells i0.size 0 (.slice none 0 0)).run Try.prog w.drew = .ok ([] : List Value).toArray w.drew := run_firstCells_none w.drew i0.size 0 0 0
    have hrz : ∀ ty, (Builtin.append_ #[23, 3] ty #[.slice none 0 0, .int .i64 (n : Int)]).run Try.prog w = _ := fun ty =>
      Lib.run_append_grow_zeros w 23 3 ty 42 i0 (.agg #[.int .i64 0, .int .i64 0]) .i64 .i64 undChsB undIntB hi0 hz0 none 0 0 [] hold n (by omega) (by omega) (by omega) (by omega) (by rw [hz2]; omega)
        (by rw [Nat.zero_add]; exact growslice_fits (by omega) (by rw [hz2]; omega))
    rw [Nat.zero_add] at hrz
    obtain ⟨G, hG⟩ : ∃ G, G = grownCap w n 0 42 := ⟨_, rfl⟩
    have hGn : n ≤ G := by rw [hG]; exact grownCap_ge w _ _ _
    have hGm : G ≤ maxLen := by rw [hG]; exact grownCap_le_maxLen w _ _ _ (by unfold maxLen; omega)
    rw [← hG] at hrz
    have hG63 : G ≤ 9223372036854775807 := by unfold maxLen at hGm; omega
    clear hold hG
    go_enter Try.func41, Try.ntmps41
    go_wp2_with (at_builtin; refine Lib.wpList_append_run _ rfl _ _ _ _ rfl _ _ rfl rfl _ _ (hrz _) ?_)
    go_ret
    refine ⟨_, rfl, ⟨rfl, .inr ⟨w.heap.size, G, _, rfl, Nat.le_refl _, heap_alloc_new w.drew _, Nat.zero_le _, hGm, ?_, rfl⟩⟩, (Below.refl _ w).drew.alloc (Nat.le_refl _) _⟩
    simp [size_zeroCells, Value.cells]
    omega

theorem chCells_len (l : List Ch) : (chCells l).length = l.length * 2 := by
  induction l with
  | nil => rfl
  | cons x r ih =>
    have e : chCells (x :: r) = chC x ++ chCells r := by simp [chCells]
    rw [e, List.length_append, ih]
    simp [chC]
    omega
theorem addr_add (b o j : Nat) : (⟨b, o, none⟩ : Addr).add j = ⟨b, o + j, none⟩ := by unfold Addr.add; split <;> simp_all
theorem chs_news {w : World} {b o : Nat} {l : List Ch} (hat : ∀ i (h : i < l.length), chAt w b (o + i * 2) l[i]) : ∀ j u, (chCells l)[j]? = some u → w.cell? ((⟨b, o, none⟩ : Addr).add j) = some u := by
  intro j u hu
  have hj : j < l.length * 2 := by
    rcases Nat.lt_or_ge j (l.length * 2) with h | h
    · exact h
    · rw [List.getElem?_eq_none (by rw [chCells_len]; exact h)] at hu; cases hu
  have hi : j / 2 < l.length := by omega
  obtain ⟨g0, g1⟩ := chCells_get l (j / 2) hi
  obtain ⟨a0, a1⟩ := hat (j / 2) hi
  rw [addr_add]
  rcases (show j = j / 2 * 2 ∨ j = j / 2 * 2 + 1 by omega) with e | e
  · rw [← e] at g0 a0
    rw [g0] at hu
    injection hu with hu
    rw [a0, hu]
  · rw [← e] at g1
    rw [show o + j / 2 * 2 + 1 = o + j by omega] at a1
    rw [g1] at hu
    injection hu with hu
    rw [a1, hu]
theorem chs_one (l : List Ch) : ∀ u ∈ chCells l, u.oneCell' = true := by
  intro u hu
  simp only [chCells, List.mem_flatMap, chC, List.mem_cons, List.not_mem_nil, or_false] at hu
  obtain ⟨x, -, rfl | rfl⟩ := hu <;> rfl

set_option maxRecDepth 100000 in
/-- append of a slice of changes onto a row of the call's own -/
theorem wpList_append_chs (w : World) {ops : Array Oper} {rest : List Oper} {o : Oper} {a : Act} {Q : Exit → Act → World → Prop} (hgd : o.guard = none) (s x : Operand)
    (ho : o.op = .call { callee := .builtin .append, args := #[s, x], argTypes := #[23, 23] })
    (B : Nat) (v : Value) (l : List Ch) (hs : a.eval s = v) (hown : w.ownsRow B 42 2 v l.length (chCells l)) (vx : Value) (news : List Ch) (hx : a.eval x = vx) (hnews : SlCh w vx news)
    (h1 : l.length ≤ 2000) (h2 : news.length ≤ 2000) (hB : B ≤ w.heap.size)
    (h : ∀ v' w', w'.ownsRow B 42 2 v' (l ++ news).length (chCells (l ++ news)) → w.grownBy w' v.ownBlock → wpList Try.prog ops Q rest (a.put o.dst v') w') : wpList Try.prog ops Q (o :: rest) a w := by
  obtain ⟨i0, hi, hz0, hz1, hz2⟩ := info_parts infoChB
  obtain ⟨A, c, rfl, hat⟩ := hnews.shape
  have e : (l ++ news).length = l.length + news.length := List.length_append
  have ec : chCells (l ++ news) = chCells l ++ chCells news := by simp [chCells]
  have key : ∃ v' w', (Builtin.append_ #[23, 23] o.type #[v, .slice A news.length c]).run Try.prog w = .ok v' w' ∧ w'.ownsRow B 42 2 v' (l ++ news).length (chCells (l ++ news)) ∧ w.grownBy w' v.ownBlock := by
    cases A with
    | some ad =>
      have hn : ∀ j u, (chCells news)[j]? = some u → w.cell? (ad.add j) = some u := by
        intro j u hu
        by_cases hne : news = []
        · subst hne; simp [chCells] at hu
        · obtain ⟨b, off, e, hb, hc⟩ := hat hne
          injection e with e
          subst e
          exact chs_news hc j u hu
      obtain ⟨v', w', hr, k1, k2, _⟩ := run_append_own (P := Try.prog) w B 23 o.type 42 i0 (.agg #[.int .i64 0, .int .i64 0]) 2 16 undChsB hi hz0 hz1 hz2 rfl (by decide) v l.length (chCells l) hown ad news.length c (chCells news) (chCells_len _) hn (chs_one _) (by simp only [maxLen]; omega) (by omega) hB
      exact ⟨v', w', hr, by rw [e, ec]; exact k1, k2⟩
    | none =>
      have hn : news = [] := by
        cases news with
        | nil => rfl
        | cons y r =>
          obtain ⟨b, off, e, _⟩ := hat (by simp)
          cases e
      subst hn
      refine ⟨v, w, ?_, by rw [List.append_nil]; exact hown, ⟨rfl, rfl, rfl, Nat.le_refl _, fun _ _ _ => rfl⟩⟩
      rcases hown.2 with ⟨rfl, h0⟩ | ⟨g, cap, cur, rfl, _, _, hnc, _⟩
      · simp [Builtin.append_, run_underlying undChsB, sizeOf, typeInfo, hi, Builtin.lenOf, Builtin.firstCells]
      · simp [Builtin.append_, run_underlying undChsB, sizeOf, typeInfo, hi, Builtin.lenOf, Builtin.firstCells, hnc, storeCells]
  obtain ⟨v', w', hr, k1, k2⟩ := key
  refine wpList_plain hgd fun K hK => ?_
  unfold Oper.wp execOp
  simp only [ho, resolve, invoke, builtin, Sem.run_bind, Sem.run_pure, Result.andThen_ok, List.map_toArray, List.map_cons, List.map_nil, hs, hx, hr]
  exact hK _ _ (h v' w' k1 k2)

def two (A B : List Ch) : Nat → List Ch
  | 0 => []
  | 1 => A
  | _ => A ++ B

set_option maxHeartbeats 4000000 in
set_option maxRecDepth 100000 in
theorem Concat_any (A B : List Ch) (va vb : Value) (g c : Nat) (w : World) (ha : SlCh w va A) (hb : SlCh w vb B) (hA : A.length ≤ 1000) (hB : B.length ≤ 1000)
    (hc0 : w.cell? ⟨g, 0, none⟩ = some va) (hc1 : w.cell? ⟨g, 1, none⟩ = some vb) :
    Calls Try.prog 28 #[.slice (some ⟨g, 0, none⟩) 2 c] w fun e w' => ∃ v, e = .returned v ∧ w'.ownsRow w.heap.size 42 2 v (A ++ B).length (chCells (A ++ B)) ∧ Below w.heap.size w w' := by
  obtain ⟨i0, hi0, hz0, hz1, hz2⟩ := info_parts infoChB
  obtain ⟨⟨pa, ca, rfl, ha1⟩, -⟩ := ha
  obtain ⟨⟨pb, cb, rfl, hb1⟩, -⟩ := hb
  have hg := World.block_lt_of_cell? _ _ hc0
  have HA := Lib.hid ha1
  have HB := Lib.hid hb1
  clear ha1 hb1
  go_enter Try.func28, Try.ntmps28
  go_wp2_with fail
  go_loopw [3, 11] (fun s3 s11 wr => ∃ k : Nat, k ≤ 2 ∧ s11 = .int .i64 k ∧ s3 = .int .i64 (two A B k).length ∧ w = wr) (fun _ s11 _ => 2 - (intOf s11).toNat)
  case atStart => exact ⟨0, by omega, rfl, rfl, rfl⟩
  case round =>
    obtain ⟨k, hk, rfl, rfl, rfl⟩ := hrel
    rcases (show k = 0 ∨ k = 1 ∨ k = 2 by omega) with rfl | rfl | rfl
    · have e0 : (two A B 0).length = 0 := rfl
      have h63 : wrap64 (A.length : Int) = (A.length : Int) := by unfold wrap64; omega
      have hneg : ¬ ((A.length : Int) < 0) := by omega
      rw [e0]
      clear e0
      go_wp2
      go_roundw
      case rel => exact ⟨1, by omega, rfl, by simp [two], trivial⟩
      case measure => simp [intOf]
    · have e1 : (two A B 1).length = A.length := rfl
      have h63 : wrap64 ((A.length : Int) + (B.length : Int)) = (A.length : Int) + (B.length : Int) := by unfold wrap64; omega
      have hneg : ¬ ((A.length : Int) + (B.length : Int) < 0) := by omega
      rw [e1]
      clear e1
      go_wp2
      go_roundw
      case rel => exact ⟨2, by omega, rfl, by simp [two], trivial⟩
      case measure => simp [intOf]
    · have e2 : (two A B 2).length = A.length + B.length := by simp [two]
      rw [e2]
      clear e2
      have HGR := Lib.hid (Grow_nil (A.length + B.length) w (by omega))
      have ecast : ((A.length + B.length : Nat) : Int) = (A.length : Int) + (B.length : Int) := Int.natCast_add _ _
      rw [ecast] at HGR ⊢
      clear ecast
      go_wp2_with fail
      refine HGR.out.mono ?_
      rintro e w1 ⟨v1, rfl, hown, hbel⟩
      have h1c0 := (hbel.cell (p := ⟨g, 0, none⟩) hg).trans hc0
      have h1c1 := (hbel.cell (p := ⟨g, 1, none⟩) hg).trans hc1
      have hg1 : g < w1.heap.size := Nat.lt_of_lt_of_le hg hbel.size
      have HO := Lib.hid hown
      have HBL := Lib.hid hbel
      clear hown hbel HGR
      go_wp2_with fail
      go_loopw [6, 27] (fun s6 s27 wr => ∃ k : Nat, k ≤ 2 ∧ s27 = .int .i64 k ∧ wr.ownsRow w.heap.size 42 2 s6 (two A B k).length (chCells (two A B k)) ∧ Below w.heap.size w wr) (fun _ s27 _ => 2 - (intOf s27).toNat)
      case atStart => exact ⟨0, by omega, rfl, HO.out, HBL.out⟩
      case round =>
        obtain ⟨k, hk, rfl, hown, hbel⟩ := hrel
        have c0 := (hbel.cell (p := ⟨g, 0, none⟩) hg).trans hc0
        have c1 := (hbel.cell (p := ⟨g, 1, none⟩) hg).trans hc1
        have hgr : g < wr.heap.size := Nat.lt_of_lt_of_le hg hbel.size
        have HOR := Lib.hid hown
        have HBR := Lib.hid hbel
        clear hown hbel
        have hbr := HBR.out
        have hsz := hbr.size
        have HSA := Lib.hid (SlCh.below (w := w) (w' := wr) (v := .slice pa A.length ca) (l := A) ⟨⟨_, _, rfl, HA.out⟩, by simp only [maxLen]; omega⟩ hbr)
        have HSB := Lib.hid (SlCh.below (w := w) (w' := wr) (v := .slice pb B.length cb) (l := B) ⟨⟨_, _, rfl, HB.out⟩, by simp only [maxLen]; omega⟩ hbr)
        have grown : Hid (∀ (l : List Ch), wr.ownsRow w.heap.size 42 2 u6 l.length (chCells l) → ∀ (w' : World), wr.grownBy w' u6.ownBlock → Below w.heap.size w w') := fun l hl w' hgr => HBR.out.grown hgr HBR.out.size fun q hq => (World.ownsRow.lt hl q hq).1
        clear hbr
        rcases (show k = 0 ∨ k = 1 ∨ k = 2 by omega) with rfl | rfl | rfl
        · go_wp2_with (at_builtin; refine wpList_append_chs wr rfl _ _ rfl w.heap.size _ (two A B 0) rfl HOR.out _ A rfl HSA.out (by simp [two]) (by omega) hsz ?_; intro v' w2 hown2 hgrow2)
          go_roundw
          case rel => exact ⟨1, by omega, rfl, hown2, grown.out _ HOR.out _ hgrow2⟩
          case measure => simp [intOf]
        · go_wp2_with (at_builtin; refine wpList_append_chs wr rfl _ _ rfl w.heap.size _ (two A B 1) rfl HOR.out _ B rfl HSB.out (by show A.length ≤ _; omega) (by omega) hsz ?_; intro v' w2 hown2 hgrow2)
          go_roundw
          case rel => exact ⟨2, by omega, rfl, hown2, grown.out _ HOR.out _ hgrow2⟩
          case measure => simp [intOf]
        · go_wp2_with fail
          go_ret
          exact ⟨_, rfl, HOR.out, HBR.out⟩
end Go.Proofs.Yteoliifghhlinaa
