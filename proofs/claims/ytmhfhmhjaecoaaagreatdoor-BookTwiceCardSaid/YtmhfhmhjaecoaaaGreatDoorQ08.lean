/- book.Parse: the book under way in memory. book.Parse: a line that is an era. -/
import Derived.Test.YtmhfhmhjaecoaaaGreatDoorQ07
import Derived.Laws.OwnMore
import Derived.Deep.RegionLaw
import Derived.Deep.RegionHeld3
import Derived.Deep.AppendLies
import Derived.Deep.DeepCutAuto
import Derived.BigQuiet
import Derived.Handy
namespace Go.Proofs.YtmhfhmhjaecoaaaGreatDoor
open Go.RowKit Go.Joins
open Classical
set_option linter.unusedVariables false
set_option linter.unusedSimpArgs false

def erCs (l : List Er) : List Value := l.flatMap fun x => (erCells x).toList
def ruCs (l : List Ru) : List Value := l.flatMap fun r => (ruCells r).toList
def lkCs (l : List Lk) : List Value := l.flatMap lkCells
def zoCs : List (ByteArray × List Er) → List Value → List Value
  | z :: zs, e :: es => .string z.1 :: e :: zoCs zs es
  | _, _ => []
theorem zoCs_snoc : ∀ (zs : List (ByteArray × List Er)) (es : List Value), zs.length = es.length → ∀ (nm : ByteArray) (l : List Er) (e : Value), zoCs (zs ++ [(nm, l)]) (es ++ [e]) = zoCs zs es ++ [.string nm, e]
  | [], [], _, _, _, _ => rfl
  | [], _ :: _, h, _, _, _ => by cases h
  | _ :: _, [], h, _, _, _ => by cases h
  | z :: zs, e :: es, h, nm, l, e' => by
    have h : zs.length = es.length := by simpa using h
    show .string z.1 :: e :: zoCs (zs ++ [(nm, l)]) (es ++ [e']) = .string z.1 :: e :: (zoCs zs es ++ _)
    rw [zoCs_snoc zs es h]
theorem zoCs_set : ∀ (zs : List (ByteArray × List Er)) (es : List Value), zs.length = es.length → ∀ (k : Nat) (z : ByteArray × List Er) (e : Value), k < zs.length → z.1 = (zD zs k).1 → zoCs (zs.set k z) (es.set k e) = (zoCs zs es).set (k * 2 + 1) e
  | [], _, _, _, _, _, h, _ => absurd h (Nat.not_lt_zero _)
  | _ :: _, [], h, _, _, _, _, _ => by cases h
  | y :: zs, e :: es, _, 0, z, e', _, hz => by
    have hz : z.1 = y.1 := hz
    show .string z.1 :: e' :: zoCs zs es = _
    rw [hz]; rfl
  | y :: zs, e :: es, h, k + 1, z, e', hk, hz => by
    have h : zs.length = es.length := by simpa using h
    have hk : k < zs.length := by simpa using hk
    show .string y.1 :: e :: zoCs (zs.set k z) (es.set k e') = (.string y.1 :: e :: zoCs zs es).set ((k + 1) * 2 + 1) e'
    rw [zoCs_set zs es h k z e' hk hz, show (k + 1) * 2 + 1 = (k * 2 + 1) + 1 + 1 by omega]
    rfl
theorem zoCs_get : ∀ (zs : List (ByteArray × List Er)) (es : List Value), zs.length = es.length → ∀ (k : Nat) (hk : k < es.length), (zoCs zs es)[k * 2]? = some (.string (zD zs k).1) ∧ (zoCs zs es)[k * 2 + 1]? = some es[k]
  | _, [], _, _, h => absurd h (Nat.not_lt_zero _)
  | [], _ :: _, h, _, _ => by cases h
  | y :: zs, e :: es, _, 0, _ => ⟨rfl, rfl⟩
  | y :: zs, e :: es, h, k + 1, hk => by
    have h : zs.length = es.length := by simpa using h
    have hk : k < es.length := by simpa using hk
    have := zoCs_get zs es h k hk
    rw [show (k + 1) * 2 = k * 2 + 1 + 1 by omega]
    exact this
/-- a book under way: the reader's block, and rows of one's own -/
structure RdM (B : Nat) (W : World) (R : Nat) (rv zv lv : Value) (evs : List Value) (st : RdS) : Prop where
  hR : B ≤ R
  blk : W.heap[R]? = some (.cells #[rv, zv, lv, .int .i64 st.stage] 114 (0, 0))
  rr : W.ownsRow B 105 11 rv st.rules.length (ruCs st.rules)
  zr : W.ownsRow B 50 2 zv st.zones.length (zoCs st.zones evs)
  el : st.zones.length = evs.length
  er : ∀ (i : Nat) (h : i < evs.length), W.ownsRow B 46 5 evs[i] (zD st.zones i).2.length (erCs (zD st.zones i).2)
  ed : ∀ (i j : Nat) (hi : i < evs.length) (hj : j < evs.length), i ≠ j → evs[i].ownBlock = none ∨ evs[i].ownBlock ≠ evs[j].ownBlock
  lr : W.ownsRow B 52 2 lv st.links.length (lkCs st.links)
theorem own_neT {W : World} {B R : Nat} {e T : TypeId} {s n : Nat} {v : Value} {xs : List Value} {cs : Array Value} (h : W.ownsRow B e s v n xs) (hb : W.heap[R]? = some (.cells cs T (0, 0))) (hne : e ≠ T) : v.ownBlock ≠ some R := by
  rcases h.2 with ⟨rfl, _⟩ | ⟨g, cap, cur, rfl, _, hg, _⟩
  · simp [Value.ownBlock]
  · simp only [Value.ownBlock]
    intro e0
    injection e0 with e0
    subst e0
    rw [hb] at hg
    injection hg with hg
    injection hg with _ h2 _
    exact hne h2.symm
section
variable {B R : Nat} {W W' W1 w6 : World} {rv zv lv : Value} {evs : List Value} {st : RdS}
theorem RdM.lt (h : RdM B W R rv zv lv evs st) : R < W.heap.size := (Array.getElem?_eq_some_iff.mp h.blk).1
theorem RdM.keep (h : RdM B W R rv zv lv evs st) (hk : ∀ b, b < W.heap.size → W'.heap[b]? = W.heap[b]?) : RdM B W' R rv zv lv evs st :=
  ⟨h.hR, (hk R h.lt).trans h.blk, own_keep h.rr fun g e => hk g (World.ownsRow.lt h.rr g e).2, own_keep h.zr fun g e => hk g (World.ownsRow.lt h.zr g e).2, h.el,
    fun i hi => own_keep (h.er i hi) fun g e => hk g (World.ownsRow.lt (h.er i hi) g e).2, h.ed, own_keep h.lr fun g e => hk g (World.ownsRow.lt h.lr g e).2⟩
theorem RdM.below (h : RdM B W R rv zv lv evs st) (hb : Below W.heap.size W W') : RdM B W' R rv zv lv evs st := h.keep fun b hl => hb.block b hl
theorem RdM.cells (h : RdM B W R rv zv lv evs st) : W.cell? ⟨R, 0, none⟩ = some rv ∧ W.cell? ⟨R, 1, none⟩ = some zv ∧ W.cell? ⟨R, 2, none⟩ = some lv ∧ W.cell? ⟨R, 3, none⟩ = some (.int .i64 st.stage) ∧ ∀ o, W.frozen? ⟨R, o, none⟩ = false :=
  ⟨(cell_of_row W _ 0 _ _ _ h.blk).trans rfl, (cell_of_row W _ 1 _ _ _ h.blk).trans rfl, (cell_of_row W _ 2 _ _ _ h.blk).trans rfl, (cell_of_row W _ 3 _ _ _ h.blk).trans rfl, fun o => by simp [World.frozen?, h.blk]⟩
/-- what is another row's stays, where one row grows and the reader's block is written -/
theorem RdM.other (h : RdM B W R rv zv lv evs st) {W7 : World} {v : Value} {e e1 : TypeId} {s n s1 n1 : Nat} {v1 : Value} {xs xs1 : List Value} (hv : W.ownsRow B e1 s1 v1 n1 xs1) (ho : W.ownsRow B e s v n xs) (h1 : e ≠ e1) (h2 : e ≠ 114)
    (h6 : ∀ b, b < W.heap.size → v1.ownBlock ≠ some b → b ≠ R → W7.heap[b]? = W.heap[b]?) : W7.ownsRow B e s v n xs := own_keep ho fun g eg => by
  have hgl := (World.ownsRow.lt ho g eg).2
  refine h6 g hgl (fun e0 => ?_) (fun e0 => own_neT ho h.blk h2 (by rw [eg, e0]))
  rcases own_apart ho hv h1 with e2 | e2
  · rw [eg] at e2; cases e2
  · exact e2 (by rw [eg, e0])
/-- a rule more -/
theorem RdM.rule (h : RdM B W R rv zv lv evs st) {W7 : World} {r : Ru} {rv' : Value} (h6 : ∀ b, b < W.heap.size → rv.ownBlock ≠ some b → b ≠ R → W7.heap[b]? = W.heap[b]?)
    (hR : W7.heap[R]? = some (.cells #[rv', zv, lv, .int .i64 st.stage] 114 (0, 0)))
    (hown : W7.ownsRow B 105 11 rv' (st.rules.length + 1) (ruCs st.rules ++ (ruCells r).toList)) : RdM B W7 R rv' zv lv evs ⟨st.rules ++ [r], st.zones, st.links, st.stage⟩ := by
  refine ⟨h.hR, hR, ?_, h.other h.rr h.zr (by decide) (by decide) h6, h.el, fun i hi => h.other h.rr (h.er i hi) (by decide) (by decide) h6, h.ed, h.other h.rr h.lr (by decide) (by decide) h6⟩
  show W7.ownsRow B _ 11 rv' (st.rules ++ [r]).length (ruCs (st.rules ++ [r]))
  have e : ruCs (st.rules ++ [r]) = ruCs st.rules ++ (ruCells r).toList := by unfold ruCs; simp
  rw [e, List.length_append]
  exact hown
/-- a link more -/
theorem RdM.link (h : RdM B W R rv zv lv evs st) {W7 : World} {x : Lk} {lv' : Value} {s : Int} (h6 : ∀ b, b < W.heap.size → lv.ownBlock ≠ some b → b ≠ R → W7.heap[b]? = W.heap[b]?)
    (hR : W7.heap[R]? = some (.cells #[rv, zv, lv', .int .i64 s] 114 (0, 0)))
    (hown : W7.ownsRow B 52 2 lv' (st.links.length + 1) (lkCs st.links ++ lkCells x)) : RdM B W7 R rv zv lv' evs ⟨st.rules, st.zones, st.links ++ [x], s⟩ := by
  refine ⟨h.hR, hR, h.other h.lr h.rr (by decide) (by decide) h6, h.other h.lr h.zr (by decide) (by decide) h6, h.el, fun i hi => h.other h.lr (h.er i hi) (by decide) (by decide) h6, h.ed, ?_⟩
  show W7.ownsRow B _ 2 lv' (st.links ++ [x]).length (lkCs (st.links ++ [x]))
  have e : lkCs (st.links ++ [x]) = lkCs st.links ++ lkCells x := by unfold lkCs; simp
  rw [e, List.length_append]
  exact hown
theorem zD_snoc (zs : List (ByteArray × List Er)) (z : ByteArray × List Er) (i : Nat) : (i < zs.length → zD (zs ++ [z]) i = zD zs i) ∧ (i = zs.length → zD (zs ++ [z]) i = z) := by
  unfold zD
  refine ⟨fun h => ?_, fun h => ?_⟩
  · simp [List.getElem?_append_left h]
  · subst h; simp
/-- a zone more -/
theorem RdM.zone (h : RdM B W R rv zv lv evs st) {W7 : World} {nm : ByteArray} {zv' : Value} (h6 : ∀ b, b < W.heap.size → zv.ownBlock ≠ some b → b ≠ R → W7.heap[b]? = W.heap[b]?)
    (hR : W7.heap[R]? = some (.cells #[rv, zv', lv, .int .i64 2] 114 (0, 0)))
    (hown : W7.ownsRow B 50 2 zv' (st.zones.length + 1) (zoCs st.zones evs ++ [.string nm, .slice none 0 0])) : RdM B W7 R rv zv' lv (evs ++ [.slice none 0 0]) ⟨st.rules, st.zones ++ [(nm, [])], st.links, 2⟩ := by
  have el := h.el
  refine ⟨h.hR, hR, h.other h.zr h.rr (by decide) (by decide) h6, ?_, by simp [el], fun i hi => ?_, fun i j hi hj hij => ?_, h.other h.zr h.lr (by decide) (by decide) h6⟩
  · show W7.ownsRow B _ 2 zv' (st.zones ++ [(nm, [])]).length (zoCs (st.zones ++ [(nm, [])]) (evs ++ [.slice none 0 0]))
    rw [zoCs_snoc _ _ el, List.length_append]
    exact hown
  · have hi' : i < evs.length + 1 := by simpa using hi
    show W7.ownsRow B _ 5 (evs ++ [Value.slice none 0 0])[i] (zD (st.zones ++ [(nm, [])]) i).2.length (erCs (zD (st.zones ++ [(nm, [])]) i).2)
    by_cases g : i < evs.length
    · rw [(zD_snoc st.zones (nm, []) i).1 (by omega), List.getElem_append_left g]
      exact h.other h.zr (h.er i g) (by decide) (by decide) h6
    · rw [(zD_snoc st.zones (nm, []) i).2 (by omega), List.getElem_append_right (by omega)]
      have : (0 : Nat) < 1 := by decide
      simp only [List.getElem_singleton]
      exact World.ownsRow_nil _ _ _ _
  · by_cases g : i < evs.length
    · by_cases g2 : j < evs.length
      · rw [List.getElem_append_left g, List.getElem_append_left g2]
        exact h.ed i j g g2 hij
      · rw [List.getElem_append_right (show evs.length ≤ j by omega)]
        simp only [List.getElem_singleton]
        cases e : ((evs ++ [Value.slice none 0 0])[i]).ownBlock with
        | none => exact .inl rfl
        | some b => exact .inr (by simp [Value.ownBlock])
    · left
      rw [List.getElem_append_right (show evs.length ≤ i by omega)]
      simp only [List.getElem_singleton]
      rfl
/-- the stage -/
theorem RdM.stage (h : RdM B W R rv zv lv evs st) (s : Int) : RdM B (W.setCell ⟨R, 3, none⟩ (.int .i64 s)) R rv zv lv evs ⟨st.rules, st.zones, st.links, s⟩ := by
  have k7 : ∀ b, b ≠ R → (W.setCell ⟨R, 3, none⟩ (.int .i64 s)).heap[b]? = W.heap[b]? := fun b hb => Below.heap_setCell _ _ _ _ hb
  have kk : ∀ {e : TypeId} {s1 n : Nat} {v : Value} {xs : List Value}, W.ownsRow B e s1 v n xs → e ≠ 114 → (W.setCell ⟨R, 3, none⟩ (.int .i64 s)).ownsRow B e s1 v n xs := fun ho h2 => own_keep ho fun g eg => k7 g fun e0 => own_neT ho h.blk h2 (by rw [eg, e0])
  refine ⟨h.hR, ?_, kk h.rr (by decide), kk h.zr (by decide), h.el, fun i hi => kk (h.er i hi) (by decide), h.ed, kk h.lr (by decide)⟩
  rw [heap_setCell_same W R 3 _ _ _ h.blk]; rfl
theorem zD_set (zs : List (ByteArray × List Er)) (k : Nat) (z : ByteArray × List Er) (i : Nat) (hk : k < zs.length) : zD (zs.set k z) i = if i = k then z else zD zs i := by
  unfold zD
  rw [List.getD_eq_getElem?_getD, List.getElem?_set]
  by_cases h : k = i
  · subst h; simp [hk]
  · rw [if_neg h, if_neg (fun e => h e.symm), List.getD_eq_getElem?_getD]
/-- an era more of the last zone: its row grows, the zone's cell is written -/
theorem RdM.era (h : RdM B W R rv zv lv evs st) {W7 : World} {x : Er} {e e' : Value} {k g cap : Nat} (hk : k < evs.length) (hkl : k = st.zones.length - 1) (he : evs[k] = e) (hz : zv = .slice (some ⟨g, 0, none⟩) st.zones.length cap)
    (h6 : ∀ b, b < W.heap.size → e.ownBlock ≠ some b → b ≠ g → W7.heap[b]? = W.heap[b]?)
    (hzr : W7.ownsRow B 50 2 zv st.zones.length ((zoCs st.zones evs).set (k * 2 + 1) e'))
    (hown : W7.ownsRow B 46 5 e' ((zD st.zones k).2.length + 1) (erCs (zD st.zones k).2 ++ (erCells x).toList))
    (hfr : e'.ownBlock = e.ownBlock ∨ ∀ b, e'.ownBlock = some b → W.heap.size ≤ b) : RdM B W7 R rv zv lv (evs.set k e') ⟨st.rules, addEra st.zones x, st.links, st.stage⟩ := by
  have el := h.el
  subst hz
  subst he
  have hgz : (Value.slice (some ⟨g, 0, none⟩) st.zones.length cap).ownBlock = some g := rfl
  have keepT : ∀ {t : TypeId} {s n : Nat} {v : Value} {xs : List Value}, W.ownsRow B t s v n xs → t ≠ 46 → t ≠ 50 → W7.ownsRow B t s v n xs := fun ho h1 h2 => own_keep ho fun b eb => by
    refine h6 b (World.ownsRow.lt ho b eb).2 (fun e0 => ?_) (fun e0 => ?_)
    · rcases own_apart ho (h.er k hk) h1 with e2 | e2
      · rw [eb] at e2; cases e2
      · exact e2 (by rw [eb, e0])
    · rcases own_apart ho h.zr h2 with e2 | e2
      · rw [eb] at e2; cases e2
      · exact e2 (by rw [eb, e0, hgz])
  have hblk : W7.heap[R]? = some (.cells #[rv, .slice (some ⟨g, 0, none⟩) st.zones.length cap, lv, .int .i64 st.stage] 114 (0, 0)) :=
    (h6 R h.lt (own_neT (h.er k hk) h.blk (by decide)) (fun e0 => own_neT h.zr h.blk (by decide) (by rw [hgz, e0]))).trans h.blk
  have hadd : addEra st.zones x = st.zones.set k ((zD st.zones k).1, (zD st.zones k).2 ++ [x]) := by unfold addEra; rw [hkl]
  have hkz : k < st.zones.length := by omega
  refine ⟨h.hR, hblk, keepT h.rr (by decide) (by decide), ?_, by rw [addEra_length, List.length_set]; exact el, fun i hi => ?_, fun i j hi hj hij => ?_, keepT h.lr (by decide) (by decide)⟩
  · show W7.ownsRow B _ 2 _ (addEra st.zones x).length (zoCs (addEra st.zones x) (evs.set k e'))
    rw [addEra_length, hadd, zoCs_set _ _ el k ((zD st.zones k).1, (zD st.zones k).2 ++ [x]) e' hkz rfl]
    exact hzr
  · have hi' : i < evs.length := by simpa using hi
    show W7.ownsRow B _ 5 (evs.set k e')[i] (zD (addEra st.zones x) i).2.length (erCs (zD (addEra st.zones x) i).2)
    rw [hadd, zD_set _ _ _ _ hkz, List.getElem_set]
    by_cases g1 : k = i
    · subst g1
      rw [if_pos rfl, if_pos rfl]
      have e1 : erCs ((zD st.zones k).2 ++ [x]) = erCs (zD st.zones k).2 ++ (erCells x).toList := by unfold erCs; simp
      show W7.ownsRow B _ 5 e' ((zD st.zones k).2 ++ [x]).length (erCs ((zD st.zones k).2 ++ [x]))
      rw [e1, List.length_append]
      exact hown
    · rw [if_neg g1, if_neg (fun e0 => g1 e0.symm)]
      refine own_keep (h.er i hi') fun b eb => ?_
      have hb := (World.ownsRow.lt (h.er i hi') b eb).2
      refine h6 b hb (fun e0 => ?_) (fun e0 => ?_)
      · rcases h.ed k i hk hi' g1 with e2 | e2
        · rw [e2] at e0; cases e0
        · exact e2 (by rw [e0, eb])
      · rcases own_apart (h.er i hi') h.zr (by decide) with e2 | e2
        · rw [eb] at e2; cases e2
        · exact e2 (by rw [eb, e0, hgz])
  · have hi' : i < evs.length := by simpa using hi
    have hj' : j < evs.length := by simpa using hj
    rw [List.getElem_set, List.getElem_set]
    have fresh : ∀ m (hm : m < evs.length), k ≠ m → e'.ownBlock = none ∨ e'.ownBlock ≠ evs[m].ownBlock := fun m hm hkm => by
      rcases hfr with h1 | h1
      · rw [h1]; exact h.ed k m hk hm hkm
      · cases e0 : e'.ownBlock with
        | none => exact .inl rfl
        | some b =>
          right
          intro e2
          have := (World.ownsRow.lt (h.er m hm) b e2.symm).2
          have := h1 b e0
          omega
    by_cases g1 : k = i
    · subst g1
      rw [if_pos rfl, if_neg hij]
      exact fresh j hj' hij
    · rw [if_neg g1]
      by_cases g2 : k = j
      · subst g2
        rw [if_pos rfl]
        rcases fresh i hi' g1 with e2 | e2
        · cases e3 : evs[i].ownBlock with
          | none => exact .inl rfl
          | some b => right; rw [e2]; simp
        · exact .inr fun e3 => e2 e3.symm
      · rw [if_neg g2]
        exact h.ed i j hi' hj' hij
end
end Go.Proofs.YtmhfhmhjaecoaaaGreatDoor
namespace Go.Proofs.YtmhfhmhjaecoaaaGreatDoor
open Go.RowKit Go.Joins
open Classical
set_option linter.unusedVariables false
set_option linter.unusedSimpArgs false

/-- rows of strings stay -/
def StrKeep (w w' : World) : Prop := ∀ (K : Nat) (cs : Array Value) (fr : Nat × Nat), w.heap[K]? = some (.cells cs 9 fr) → w'.heap[K]? = w.heap[K]?
theorem StrKeep.of {w w' : World} (h : ∀ b, b < w.heap.size → w'.heap[b]? = w.heap[b]?) : StrKeep w w' := fun K cs fr hk => h K (Array.getElem?_eq_some_iff.mp hk).1
theorem StrKeep.below {w w' : World} (h : Below w.heap.size w w') : StrKeep w w' := StrKeep.of fun b hb => h.block b hb
theorem StrKeep.trans {a b c : World} (h1 : StrKeep a b) (h2 : StrKeep b c) : StrKeep a c := fun K cs fr hk => (h2 K cs fr ((h1 K cs fr hk).trans hk)).trans (h1 K cs fr hk)
theorem StrKeep.set {w : World} {R : Nat} {cs : Array Value} {T : TypeId} {fr : Nat × Nat} (h : w.heap[R]? = some (.cells cs T fr)) (hT : T ≠ 9) (i : Nat) (v : Value) : StrKeep w (w.setCell ⟨R, i, none⟩ v) := fun K cs' fr' hk =>
  Below.heap_setCell _ _ _ _ (fun e => by
    have e : K = R := e
    subst e
    rw [h] at hk
    injection hk with hk
    injection hk with _ h2 _
    exact hT h2)
theorem StrKeep.row {B : Nat} {W w6 : World} {v : Value} {e : TypeId} {s n : Nat} {xs : List Value} {o : Obj} (ho : W.ownsRow B e s v n xs) (hne : e ≠ 9) (hg : (W.drew.alloc o).grownBy w6 v.ownBlock) : StrKeep W w6 := fun K cs fr hk => by
  have hl := (Array.getElem?_eq_some_iff.mp hk).1
  refine (hg.block K (by simp; omega) (fun e0 => ?_)).trans (Below.heap_alloc W.drew _ K hl)
  rcases ho.2 with ⟨rfl, _⟩ | ⟨g, cap, cur, rfl, _, hgg, _⟩
  · simp [Value.ownBlock] at e0
  · simp only [Value.ownBlock] at e0
    injection e0 with e0
    subst e0
    rw [hk] at hgg
    injection hgg with hgg
    injection hgg with _ h2 _
    exact hne h2.symm
def LnPost (B R : Nat) (res : Option RdS) (w : World) (e : Ending) (w' : World) : Prop := e = .returned (.bool res.isSome) ∧ Below B w w' ∧ StrKeep w w' ∧ ∀ st', res = some st' → ∃ rv zv lv evs, RdM B w' R rv zv lv evs st'
/-- what is small of a book under way -/
structure RdSz (st : RdS) : Prop where
  r : st.rules.length ≤ 100000
  z : st.zones.length ≤ 100000
  l : st.links.length ≤ 100000
  e : ∀ i, (zD st.zones i).2.length ≤ 100000
  n : st.stage = 2 → st.zones ≠ []
theorem getD_in (l : List (List UInt8)) (k : Nat) (h : k < l.length) : l.getD k [] = l[k] := by simp [h]
theorem getD_out (l : List (List UInt8)) (k : Nat) (h : l.length ≤ k) : l.getD k [] = [] := by simp [h]
/-- a store into a block -/
theorem set_erE {W : World} {eb : Nat} {cs : Array Value} {T : TypeId} (h : W.heap[eb]? = some (.cells cs T (0, 0))) (i : Nat) (hi : i < cs.size) (v : Value) : ∃ W', W.setCell ⟨eb, i, none⟩ v = W' ∧ W'.heap[eb]? = some (.cells (cs.setIfInBounds i v) T (0, 0)) ∧ ∀ B, B ≤ eb → Below B W W' :=
  ⟨_, rfl, heap_setCell_same W eb i _ _ v h, fun B hB => (Below.refl _ _).setCell hB _⟩
theorem alB (w : World) (o : Obj) : Below w.heap.size w (w.alloc o) := (Below.refl _ _).alloc (Nat.le_refl _) _
theorem undErP : Tryz.prog.underlying 48 = some (.slice 46) := by kernel_rfl
theorem infoErP : (Tryz.prog.info? 46).map (fun i => (i.zero, i.size, i.bytes)) = some (some (.agg #[.int .i64 0, .string ⟨#[]⟩, .int .i64 0, .string ⟨#[]⟩, .int .i64 0]), 5, 56) := by kernel_rfl
noncomputable def uOf (w4 : Option (List UInt8)) : Int × Int := match w4 with | none => (0, 0) | some x => rdStamp x
noncomputable def eraU (w1 w2 w3 : List UInt8) (u : Int × Int) : Option Er :=
  if (rdSpan w1).2 ≠ 0 then none else
  if Lib.hasPrefix w2 [45] = true then (if (rdSpan (Lib.trimPrefix w2 [45])).2 ≠ 0 ∨ u.2 ≠ 0 then none else some ⟨(rdSpan w1).1, ⟨#[]⟩, (rdSpan (Lib.trimPrefix w2 [45])).1, txt w3, u.1⟩) else
  if nameB (txt w2) = false ∨ u.2 ≠ 0 then none else some ⟨(rdSpan w1).1, txt w2, 0, txt w3, u.1⟩
/-- what the parts of an era's line come to -/
theorem eraL_res {x1 x2 x3 : List UInt8} {w4 : Option (List UInt8)} {o1 f1 o2 f2 un f3 : Int} {ru : ByteArray} {D : Bool} (h1 : (rdSpan x1).1 = o1) (h2 : (rdSpan x1).2 = f1) (hD : Lib.hasPrefix x2 [45] = D)
    (hu : uOf w4 = (un, f3)) (hr : (D = true → ru = ⟨#[]⟩ ∧ rdSpan (Lib.trimPrefix x2 [45]) = (o2, f2)) ∧ (D = false → ru = txt x2 ∧ nameB (txt x2) = true ∧ o2 = 0 ∧ f2 = 0)) :
    eraL x1 x2 x3 w4 = if f1 = 0 ∧ f2 = 0 ∧ f3 = 0 then some ⟨o1, ru, o2, txt x3, un⟩ else none := by
  have e0 : eraL x1 x2 x3 w4 = eraU x1 x2 x3 (uOf w4) := rfl
  rw [e0, hu]
  unfold eraU
  rw [h1, h2, hD]
  try dsimp only
  by_cases g1 : f1 = 0
  · rw [if_neg (fun h => h g1)]
    cases D with
    | true =>
      obtain ⟨hr1, hr2⟩ := hr.1 rfl
      rw [if_pos rfl, hr2, hr1]
      try dsimp only
      by_cases g : f2 ≠ 0 ∨ f3 ≠ 0
      · rw [if_pos g, if_neg (by omega)]
      · rw [if_neg g, if_pos (by omega)]
    | false =>
      obtain ⟨hr1, hr2, hr3, hr4⟩ := hr.2 rfl
      rw [if_neg (by decide), hr2, hr1, hr3, hr4]
      try dsimp only
      by_cases g : f3 = 0
      · rw [if_neg (by simp [g]), if_pos ⟨g1, rfl, g⟩]
      · rw [if_pos (.inr g), if_neg (fun h => g h.2.2)]
  · rw [if_pos g1, if_neg (fun h => g1 h.1)]
theorem RdM.bel {B R : Nat} {W W' : World} {rv zv lv : Value} {evs : List Value} {st : RdS} (h : RdM B W R rv zv lv evs st) : B ≤ R := h.hR
set_option maxRecDepth 100000 in
set_option maxHeartbeats 20000000 in
theorem rdEra_any (B R A : Nat) (rv zv lv : Value) (evs : List Value) (st : RdS) (ws : List (List UInt8)) (w : World) (h : RdM B w R rv zv lv evs st) (hs : RdSz st) (hA : A < w.heap.size) (hB : B ≤ w.heap.size)
    (hc : ∀ j (hj : j < ws.length), w.cell? ⟨A, j, none⟩ = some (.string (txt ws[j]))) (hw : ∀ x ∈ ws, x.length ≤ 60000) (hn : ws.length ≤ 100000) (ht : Tab10 w) (he : NumErrs w) (hm : MaxLen w) :
    Calls Tryz.prog 98 #[.pointer (some ⟨R, 0, none⟩), .slice (some ⟨A, 0, none⟩) ws.length ws.length] w (LnPost B R (eraF st ws) w) := by
  obtain ⟨c0, c1, c2, c3, cf⟩ := h.cells
  have hlt := h.lt
  have HM := Lib.hid h
  have HSZ := Lib.hid hs
  have HT := Lib.hid ht
  have HE := Lib.hid he
  have HX := Lib.hid hm
  have HC := Lib.hid hc
  have HW := Lib.hid hw
  clear h hs ht he hm hc hw
  by_cases hst : st.stage = 2
  case neg =>
    have hsb : (st.stage != 2) = true := by simpa using hst
    have hsc : (st.stage == 2) = false := by simpa using hst
    have er : eraF st ws = none := by unfold eraF; rw [if_pos (.inl hst)]
    rw [er]
    go_enter Tryz.func98, Tryz.ntmps98
    go_wp2_with fail
    go_ret
    exact ⟨rfl, Below.refl _ _, StrKeep.of fun _ _ => rfl, fun st' e => by cases e⟩
  by_cases h45 : ws.length = 4 ∨ ws.length = 5
  case neg =>
    have h4 : ¬ (ws.length : Int) = 4 := by omega
    have h5 : ¬ (ws.length : Int) = 5 := by omega
    have h4b : ((ws.length : Int) != 4) = true := by simpa using h4
    have h5b : ((ws.length : Int) != 5) = true := by simpa using h5
    have er : eraF st ws = none := by unfold eraF; rw [if_pos (.inr ⟨fun e => h45 (.inl e), fun e => h45 (.inr e)⟩)]
    rw [er]
    rw [hst] at c3
    go_enter Tryz.func98, Tryz.ntmps98
    go_wp2_with fail
    go_ret
    exact ⟨rfl, Below.refl _ _, StrKeep.of fun _ _ => rfl, fun st' e => by cases e⟩
  have hl1 : (1 : Int) < (ws.length : Int) := by omega
  have hl2 : (2 : Int) < (ws.length : Int) := by omega
  have hl3 : (3 : Int) < (ws.length : Int) := by omega
  have g1 : w.cell? ⟨A, 1, none⟩ = some (.string (txt (ws.getD 1 []))) := by rw [getD_in _ _ (by omega)]; exact HC.out 1 (by omega)
  have g2 : w.cell? ⟨A, 2, none⟩ = some (.string (txt (ws.getD 2 []))) := by rw [getD_in _ _ (by omega)]; exact HC.out 2 (by omega)
  have g3 : w.cell? ⟨A, 3, none⟩ = some (.string (txt (ws.getD 3 []))) := by rw [getD_in _ _ (by omega)]; exact HC.out 3 (by omega)
  have g4 : ws.length = 5 → w.cell? ⟨A, 4, none⟩ = some (.string (txt (ws.getD 4 []))) := fun g => by rw [getD_in _ _ (by omega)]; exact HC.out 4 (by omega)
  have sm : ∀ k, (ws.getD k []).length ≤ 60000 := fun k => by
    by_cases g : k < ws.length
    · rw [getD_in _ _ g]; exact HW.out _ (List.getElem_mem g)
    · rw [getD_out _ _ (by omega)]; exact Nat.zero_le _
  have s1 := sm 1
  have s2 := sm 2
  have s3 := sm 3
  have s4 := sm 4
  have HER : Hid (eraF st ws = match eraL (ws.getD 1 []) (ws.getD 2 []) (ws.getD 3 []) (if ws.length = 5 then some (ws.getD 4 []) else none) with
      | none => none
      | some x => some ⟨st.rules, addEra st.zones x, st.links, if ws.length = 5 then 2 else 1⟩) := by
    show _ = _
    unfold eraF
    rw [if_neg (by rintro (g | g) <;> omega)]
    rfl
  obtain ⟨x1, e1⟩ : ∃ x, ws.getD 1 [] = x := ⟨_, rfl⟩
  obtain ⟨x2, e2⟩ : ∃ x, ws.getD 2 [] = x := ⟨_, rfl⟩
  obtain ⟨x3, e3⟩ : ∃ x, ws.getD 3 [] = x := ⟨_, rfl⟩
  obtain ⟨x4, e4⟩ : ∃ x, ws.getD 4 [] = x := ⟨_, rfl⟩
  rw [e1] at g1 s1 HER
  rw [e2] at g2 s2 HER
  rw [e3] at g3 s3 HER
  rw [e4] at g4 s4 HER
  have HG4 := Lib.hid g4
  obtain ⟨RES, eres⟩ : ∃ R, eraF st ws = R := ⟨_, rfl⟩
  rw [eres] at HER ⊢
  rw [hst] at c3
  obtain ⟨n, en⟩ : ∃ n, ws.length = n := ⟨_, rfl⟩
  rw [en] at hl1 hl2 hl3 HER HG4 h45 ⊢
  clear e1 e2 e3 e4 eres sm HC HW hn g4 en
  obtain ⟨W0, e0⟩ : ∃ W0, w.alloc (.cells #[.int .i64 0, .string ⟨#[]⟩, .int .i64 0, .string ⟨#[]⟩, .int .i64 0] 46) = W0 := ⟨_, rfl⟩
  obtain ⟨eb, eeb⟩ : ∃ eb, w.heap.size = eb := ⟨_, rfl⟩
  have hx0 : W0.heap[eb]? = some (.cells #[.int .i64 0, .string ⟨#[]⟩, .int .i64 0, .string ⟨#[]⟩, .int .i64 0] 46 (0, 0)) := by rw [← e0]; exact alloc_at _ _ _ eeb.symm
  have hb0 : Below eb w W0 := by rw [← e0, ← eeb]; exact alB _ _
  have hz0 : eb < W0.heap.size := (Array.getElem?_eq_some_iff.mp hx0).1
  rw [eeb] at hA hlt hB
  have HOLD : Hid (∀ W, Below eb w W → W.cell? ⟨A, 1, none⟩ = some (.string (txt x1)) ∧ W.cell? ⟨A, 2, none⟩ = some (.string (txt x2)) ∧ W.cell? ⟨A, 3, none⟩ = some (.string (txt x3)) ∧ (n = 5 → W.cell? ⟨A, 4, none⟩ = some (.string (txt x4))) ∧ MaxLen W ∧ Tab10 W ∧ NumErrs W ∧ RdM B W R rv zv lv evs st) := by
    show ∀ W, _
    intro W hb
    exact ⟨(hb.cell (p := ⟨A, 1, none⟩) hA).trans g1, (hb.cell (p := ⟨A, 2, none⟩) hA).trans g2, (hb.cell (p := ⟨A, 3, none⟩) hA).trans g3, fun g => (hb.cell (p := ⟨A, 4, none⟩) hA).trans (HG4.out g),
      HX.out.below (by rw [eeb]; exact hb), HT.out.below (by rw [eeb]; exact hb), HE.out.below (by rw [eeb]; exact hb), HM.out.below (by rw [eeb]; exact hb)⟩
  have HE0 := Lib.hid e0
  have HB0 := Lib.hid hb0
  have HX0 := Lib.hid hx0
  have HR1 := Lib.hid (rdSpan_any x1 W0 (by omega) (HOLD.out W0 hb0).2.2.2.2.2.1 (HOLD.out W0 hb0).2.2.2.2.2.2.1 (HOLD.out W0 hb0).2.2.2.2.1)
  obtain ⟨o1, eo1⟩ : ∃ o, (rdSpan x1).1 = o := ⟨_, rfl⟩
  obtain ⟨f1, ef1⟩ : ∃ o, (rdSpan x1).2 = o := ⟨_, rfl⟩
  rw [eo1, ef1] at HR1
  have EO1 := Lib.hid eo1
  have EF1 := Lib.hid ef1
  clear eo1 ef1 g1 g2 g3 c0 c1 c2 e0 hb0 hx0
  go_enter Tryz.func98, Tryz.ntmps98
  go_upto_region 1 with fail
  go_cut [26] from 12 to 25 (fun s26 wx => s26 = .bool false ∧ wx = w)
  case first =>
    rcases h45 with rfl | rfl
    all_goals
      go_wp2_with fail
      go_meet
      exact ⟨rfl, rfl⟩
  case rest =>
  obtain ⟨rfl, hwc⟩ := hcut
  rw [hwc]
  clear hwc wc
  go_upto_region 5 with fail
  rw [HE0.out]
  obtain ⟨g1, -, -, -, -, -, -, -⟩ := HOLD.out W0 HB0.out
  have hA0 : A < W0.heap.size := by omega
  go_wp2_with fail
  refine HR1.out.mono ?_
  rintro e w1 ⟨rfl, hb1⟩
  have hx1 := (hb1.block eb hz0).trans HX0.out
  have HB1 := Lib.hid (HB0.out.trans (hb1.mono (by omega)))
  obtain ⟨W2, e2, hx2, hb2⟩ := set_erE hx1 0 (by decide) (.int .i64 o1)
  have HB2 := Lib.hid (HB1.out.trans (hb2 eb (Nat.le_refl _)))
  have HE2 := Lib.hid e2
  have HX2 := Lib.hid hx2
  have y0 : w1.cell? ⟨eb, 0, none⟩ = some (.int .i64 0) := (cell_of_row w1 _ 0 _ _ _ hx1).trans rfl
  have y1 : w1.frozen? ⟨eb, 0, none⟩ = false := by simp [World.frozen?, hx1]
  clear hb1 hx1 e2 hx2 hb2 HR1 g1 hA0
  go_upto_region 6 with fail
  rw [HE2.out]
  obtain ⟨g1, g2, g3, g4, gm, gt, gn, gr⟩ := HOLD.out W2 HB2.out
  have hz2 : eb < W2.heap.size := (Array.getElem?_eq_some_iff.mp HX2.out).1
  have hA2 : A < W2.heap.size := by omega
  have hx2 := HX2.out
  have t1 : W2.cell? ⟨eb, 1, none⟩ = some (.string ⟨#[]⟩) := (cell_of_row W2 _ 1 _ _ _ hx2).trans rfl
  have t3 : W2.cell? ⟨eb, 3, none⟩ = some (.string ⟨#[]⟩) := (cell_of_row W2 _ 3 _ _ _ hx2).trans rfl
  have tf1 : W2.frozen? ⟨eb, 1, none⟩ = false := by simp [World.frozen?, hx2]
  have tf3 : W2.frozen? ⟨eb, 3, none⟩ = false := by simp [World.frozen?, hx2]
  obtain ⟨W3, e3, hx3, hb3⟩ := set_erE hx2 1 (by simp) (.string (txt x2))
  obtain ⟨W4, e4, hx4, hb4⟩ := set_erE hx3 3 (by simp) (.string (txt x3))
  rw [← e3] at e4
  have HE4 := Lib.hid e4
  have HX4 := Lib.hid hx4
  have HB4 := Lib.hid ((HB2.out.trans (hb3 eb (Nat.le_refl _) |>.mono (Nat.le_refl _))).trans (hb4 eb (Nat.le_refl _)))
  clear e3 e4 hx3 hx4 hb3 hb4 hx2
  go_cut [] from 35 to 42 (fun wx => Hid (wx.heap[eb]? = some (.cells #[.int .i64 o1, .string (txt x2), .int .i64 0, .string (txt x3), .int .i64 0] 46 (0, 0))) ∧ Hid (Below eb w wx))
  case first =>
    go_region_law (fail)
    all_goals rw [HE4.out]
    all_goals go_wp2_with fail
    all_goals go_meet
    all_goals exact ⟨HX4, Lib.hid HB4.out.drew⟩
  case rest =>
  obtain ⟨HX5, HB5⟩ := hcut
  obtain ⟨W5, eW5⟩ : ∃ W5, wc = W5 := ⟨_, rfl⟩
  rw [eW5] at HX5 HB5 ⊢
  clear eW5 wc HX4 HB4 HE4 HX2 HB2 HE2 t1 t3 tf1 tf3 g1 g2 g3 g4 gm gt gn gr hz2 hA2 y0 y1
  obtain ⟨g1, g2, g3, g4, gm, gt, gn, gr⟩ := HOLD.out W5 HB5.out
  have hz5 : eb < W5.heap.size := (Array.getElem?_eq_some_iff.mp HX5.out).1
  have hA5 : A < W5.heap.size := by omega
  obtain ⟨D, eD⟩ : ∃ D, Lib.hasPrefix x2 [45] = D := ⟨_, rfl⟩
  have HCP := Lib.hid (cutPrefix_any x2 [45] W5)
  rw [eD] at HCP
  have HDD := Lib.hid eD
  clear eD
  go_step
  go_step
  go_cut [7, 9, 10] from 43 to 62 (fun s7 s9 s10 wx => ∃ (ru : ByteArray) (o2 f2 : Int), s7 = .int .i64 f2 ∧ Hid (wx.heap[eb]? = some (.cells #[.int .i64 o1, .string ru, .int .i64 o2, .string (txt x3), .int .i64 0] 46 (0, 0))) ∧ Hid (Below eb w wx) ∧ Hid ((D = true → ru = ⟨#[]⟩ ∧ rdSpan (Lib.trimPrefix x2 [45]) = (o2, f2)) ∧ (D = false → ru = txt x2 ∧ nameB (txt x2) = true ∧ o2 = 0 ∧ f2 = 0)))
  case first =>
    go_wp2_with fail
    refine HCP.out.mono ?_
    rintro e w' ⟨rfl, hw'⟩
    rw [hw']
    clear hw' w'
    have hx5 := HX5.out
    cases D with
    | true =>
      have t1 : W5.cell? ⟨eb, 1, none⟩ = some (.string (txt x2)) := (cell_of_row W5 _ 1 _ _ _ hx5).trans rfl
      have tf1 : W5.frozen? ⟨eb, 1, none⟩ = false := by simp [World.frozen?, hx5]
      obtain ⟨W6, e6, hx6, hb6⟩ := set_erE hx5 1 (by simp) (.string ⟨#[]⟩)
      have HE6 := Lib.hid e6
      have HB6 := Lib.hid (HB5.out.trans (hb6 eb (Nat.le_refl _)))
      have hz6 : eb < W6.heap.size := (Array.getElem?_eq_some_iff.mp hx6).1
      obtain ⟨-, -, -, -, gm, gt, gn, -⟩ := HOLD.out W6 HB6.out
      have htl : (Lib.trimPrefix x2 [45]).length ≤ x2.length := by unfold Lib.trimPrefix; split <;> simp
      have HR2 := Lib.hid (rdSpan_any (Lib.trimPrefix x2 [45]) W6 (by omega) gt gn gm)
      obtain ⟨o2, eo2⟩ : ∃ o, (rdSpan (Lib.trimPrefix x2 [45])).1 = o := ⟨_, rfl⟩
      obtain ⟨f2, ef2⟩ : ∃ o, (rdSpan (Lib.trimPrefix x2 [45])).2 = o := ⟨_, rfl⟩
      rw [eo2, ef2] at HR2
      have HX6 := Lib.hid hx6
      have ER2 : Hid (rdSpan (Lib.trimPrefix x2 [45]) = (o2, f2)) := by show _ = _; rw [← eo2, ← ef2]
      obtain ⟨tr, etr⟩ : ∃ tr, Lib.trimPrefix x2 [45] = tr := ⟨_, rfl⟩
      rw [etr] at HR2 ⊢
      clear e6 hb6 gm gt gn eo2 ef2 hx6 htl etr
      go_upto_region 10 with fail
      rw [HE6.out]
      go_wp2_with fail
      refine HR2.out.mono ?_
      rintro e w7 ⟨rfl, hb7⟩
      have hx7 := (hb7.block eb hz6).trans HX6.out
      have t2 : w7.cell? ⟨eb, 2, none⟩ = some (.int .i64 0) := (cell_of_row w7 _ 2 _ _ _ hx7).trans rfl
      have tf2 : w7.frozen? ⟨eb, 2, none⟩ = false := by simp [World.frozen?, hx7]
      obtain ⟨W8, e8, hx8, hb8⟩ := set_erE hx7 2 (by simp) (.int .i64 o2)
      have HE8 := Lib.hid e8
      have HX8 := Lib.hid hx8
      have HB8 := Lib.hid ((HB6.out.trans (hb7.mono (by omega))).trans (hb8 eb (Nat.le_refl _)))
      clear hb7 e8 hx8 hb8 hx7
      go_wp2_with fail
      rw [HE8.out]
      go_meet
      exact ⟨_, o2, f2, rfl, HX8, HB8, Lib.hid ⟨fun _ => ⟨rfl, ER2.out⟩, fun e => by cases e⟩⟩
    | false =>
      have HNM := Lib.hid (isName_any (txt x2) W5 (by rw [txt_size]; simp only [maxLen]; omega))
      cases hnm : nameB (txt x2) with
      | true =>
        rw [hnm] at HNM
        go_wp2_with fail
        refine HNM.out.mono ?_
        rintro e w' ⟨rfl, rfl⟩
        go_wp2_with fail
        go_meet
        exact ⟨_, 0, 0, rfl, HX5, HB5, Lib.hid ⟨(fun e => by cases e), fun _ => ⟨rfl, hnm, rfl, rfl⟩⟩⟩
      | false =>
        rw [hnm] at HNM
        have hno : RES = none := by
          have e : ∀ u, eraL x1 x2 x3 u = none := fun u => by
            unfold eraL
            dsimp only
            split
            · rfl
            · rw [HDD.out, if_neg (by decide), if_pos (.inl hnm)]
          rw [HER.out, e]
        subst hno
        go_wp2_with fail
        refine HNM.out.mono ?_
        rintro e w' ⟨rfl, rfl⟩
        go_wp2_with fail
        go_ret
        exact ⟨rfl, HB5.out.mono hB, StrKeep.below (by rw [eeb]; exact HB5.out), fun st' e => by cases e⟩
  case rest =>
  obtain ⟨ru, o2, f2, rfl, HX8, HB8, HRU⟩ := hcut
  obtain ⟨W8, eW8⟩ : ∃ W8, wc = W8 := ⟨_, rfl⟩
  rw [eW8] at HX8 HB8 ⊢
  clear eW8 wc HX5 HB5 HCP g1 g2 g3 g4 gm gt gn gr hz5 hA5
  obtain ⟨g1, g2, g3, g4, gm, gt, gn, gr⟩ := HOLD.out W8 HB8.out
  have hz8 : eb < W8.heap.size := (Array.getElem?_eq_some_iff.mp HX8.out).1
  have hA8 : A < W8.heap.size := by omega
  have hR8 : R < W8.heap.size := by omega
  have HU : Hid (∃ un f3 : Int, (match (if n = 5 then some x4 else none : Option (List UInt8)) with | none => ((0 : Int), (0 : Int)) | some x => rdStamp x) = (un, f3)) := ⟨_, _, rfl⟩
  go_step
  go_step
  go_cut [8] from 63 to 76 (fun s8 wx => ∃ un f3 : Int, s8 = .int .i64 f3 ∧ Hid ((match (if n = 5 then some x4 else none : Option (List UInt8)) with | none => ((0 : Int), (0 : Int)) | some x => rdStamp x) = (un, f3)) ∧ Hid (wx.heap[eb]? = some (.cells #[.int .i64 o1, .string ru, .int .i64 o2, .string (txt x3), .int .i64 un] 46 (0, 0))) ∧ Hid (Below B w wx ∧ StrKeep w wx) ∧ Hid (RdM B wx R rv zv lv evs ⟨st.rules, st.zones, st.links, if n = 5 then 2 else 1⟩))
  case first =>
    have hBR : B ≤ R := gr.hR
    have hx8 := HX8.out
    obtain ⟨-, -, -, r3, rf⟩ := gr.cells
    rw [hst] at r3
    rcases h45 with rfl | rfl
    · have rf3 := rf 3
      have hs1 := gr.stage 1
      have hxe : (W8.setCell ⟨R, 3, none⟩ (.int .i64 1)).heap[eb]? = some (.cells #[.int .i64 o1, .string ru, .int .i64 o2, .string (txt x3), .int .i64 0] 46 (0, 0)) := (Below.heap_setCell _ _ _ _ (by show eb ≠ R; omega)).trans hx8
      have hbb : Below B w (W8.setCell ⟨R, 3, none⟩ (.int .i64 1)) ∧ StrKeep w (W8.setCell ⟨R, 3, none⟩ (.int .i64 1)) := ⟨(HB8.out.mono hB).setCell hBR _, (StrKeep.below (by rw [eeb]; exact HB8.out)).trans (StrKeep.set gr.blk (by decide) 3 _)⟩
      obtain ⟨W9, e9⟩ : ∃ W9, W8.setCell ⟨R, 3, none⟩ (.int .i64 1) = W9 := ⟨_, rfl⟩
      rw [e9] at hs1 hxe hbb
      have HE9 := Lib.hid e9
      have HS1 := Lib.hid hs1
      have HXE := Lib.hid hxe
      have HBB := Lib.hid hbb
      clear hs1 hxe hbb e9 hx8 gr rf
      go_wp2_with fail
      rw [HE9.out]
      go_meet
      exact ⟨0, 0, rfl, Lib.hid rfl, HXE, HBB, HS1⟩
    · have z4 := g4 rfl
      have HR4 := Lib.hid (rdStamp_any x4 W8 (by omega) gt gn)
      have hl4 : (4 : Int) < (5 : Int) := by decide
      clear hx8 gr rf gm gt gn g1 g2 g3 g4
      go_wp2_with fail
      refine HR4.out.mono ?_
      rintro e w9 ⟨rfl, hb9⟩
      have hx9 := (hb9.block eb hz8).trans HX8.out
      have t4 : w9.cell? ⟨eb, 4, none⟩ = some (.int .i64 0) := (cell_of_row w9 _ 4 _ _ _ hx9).trans rfl
      have tf4 : w9.frozen? ⟨eb, 4, none⟩ = false := by simp [World.frozen?, hx9]
      obtain ⟨W10, e10, hx10, hb10⟩ := set_erE hx9 4 (by simp) (.int .i64 (rdStamp x4).1)
      have HE10 := Lib.hid e10
      have HX10 := Lib.hid hx10
      have HB10 := Lib.hid ((HB8.out.trans (hb9.mono (by omega))).trans (hb10 eb (Nat.le_refl _)))
      have hrd := (HOLD.out W10 HB10.out).2.2.2.2.2.2.2
      have est : st = ⟨st.rules, st.zones, st.links, 2⟩ := by cases st; simp only at hst; subst hst; rfl
      rw [est] at hrd
      have HRD := Lib.hid hrd
      clear hb9 hx9 e10 hx10 hb10 hrd est HR4
      go_wp2_with fail
      rw [HE10.out]
      go_meet
      exact ⟨(rdStamp x4).1, (rdStamp x4).2, rfl, Lib.hid rfl, HX10, Lib.hid ⟨HB10.out.mono hB, StrKeep.below (by rw [eeb]; exact HB10.out)⟩, HRD⟩
  case rest =>
  obtain ⟨un, f3, rfl, HUN, HX11, HBS11, HRD⟩ := hcut
  have HB11 := Lib.hid HBS11.out.1
  have HSK11 := Lib.hid HBS11.out.2
  obtain ⟨W11, eW11⟩ : ∃ W11, wc = W11 := ⟨_, rfl⟩
  rw [eW11] at HX11 HB11 HSK11 HRD ⊢
  clear HBS11
  clear eW11 wc HX8 HB8 gr gm gt gn g1 g2 g3 g4 hz8 hA8 hR8 HU
  have hrd := HRD.out
  have hnz : 0 < st.zones.length := List.length_pos_iff.2 (HSZ.out.n hst)
  have hnz2 := HSZ.out.z
  have hek := HSZ.out.e (st.zones.length - 1)
  have hel := hrd.el
  simp only at hel
  obtain ⟨nz, enz⟩ : ∃ nz, st.zones.length = nz := ⟨_, rfl⟩
  have ENZ := Lib.hid enz
  have hzr := hrd.zr
  simp only at hzr
  rcases own_cells hzr with ⟨-, h0⟩ | ⟨g, cap, rfl, hgB, hgl, hgc⟩
  · omega
  have hkk : nz - 1 < evs.length := by omega
  have her := hrd.er (nz - 1) hkk
  simp only at her
  obtain ⟨ev, eev⟩ : ∃ ev, evs[nz - 1]'hkk = ev := ⟨_, rfl⟩
  have EEV := Lib.hid eev
  rw [eev] at her
  obtain ⟨A17, c17, rfl⟩ := own_sliceN her
  have z17 := hgc ((nz - 1) * 2 + 1) (.slice A17 (zD st.zones (nz - 1)).2.length c17) (by rw [(zoCs_get st.zones evs hel (nz - 1) hkk).2, eev])
  have HER2 := Lib.hid her
  obtain ⟨-, c1, -, -, -⟩ := hrd.cells
  have hR11 := hrd.lt
  have hw16 : IntKind.i64.wrap ((nz : Int) - 1) = (nz : Int) - 1 := IntWalk.i64_in _ (by omega)
  have hi0 : (0 : Int) ≤ (nz : Int) - 1 := by omega
  have hi1 : (nz : Int) - 1 < (nz : Int) := by omega
  have hi2 : ((nz : Int) - 1).toNat = nz - 1 := by omega
  have hi4 : (1 : Int) ≤ (nz : Int) := by omega
  have hi5 : (nz : Int) < (nz : Int) + 1 := by omega
  have hi6 : 1 ≤ nz := by omega
  simp only [enz] at c1
  clear hrd hzr her hgc eev enz hel
  go_upto_region 16 with fail
  go_quiet (fail)
  go_upto_region 17 with fail
  obtain ⟨W12, e12⟩ : ∃ W12, W11.drewN nq = W12 := ⟨_, rfl⟩
  have hb12 : ∀ b : Nat, W12.heap[b]? = W11.heap[b]? := fun b => by rw [← e12]; rfl
  have hs12 : W12.heap.size = W11.heap.size := by rw [← e12]; rfl
  have hbl12 : Below B w W12 := by rw [← e12]; exact below_drewN' HB11.out nq
  rw [e12]
  have HSK12 := Lib.hid (HSK11.out.trans (StrKeep.of (w' := W12) fun b _ => hb12 b))
  have HRD12 := Lib.hid (HRD.out.keep (W' := W12) fun b _ => hb12 b)
  have HX12 := Lib.hid ((hb12 eb).trans HX11.out)
  have HER12 := Lib.hid (own_keep HER2.out fun b _ => hb12 b)
  have HBL12 := Lib.hid hbl12
  have hg12 : g < W12.heap.size := by rw [hs12]; exact hgl
  have z17' : W12.cell? ⟨g, (nz - 1) * 2 + 1, none⟩ = some (.slice A17 (zD st.zones (nz - 1)).2.length c17) := (World.cell?_of_block (a := ⟨g, (nz - 1) * 2 + 1, none⟩) (hb12 g)).trans z17
  clear e12 hb12 hs12 hbl12 HRD HX11 HER2 HB11 z17 c1 hR11 hgl
  have hx12 := HX12.out
  have q0 : W12.cell? ⟨eb, 0, none⟩ = some (.int .i64 o1) := (cell_of_row W12 _ 0 _ _ _ hx12).trans rfl
  have q1 : W12.cell? ⟨eb, 1, none⟩ = some (.string ru) := (cell_of_row W12 _ 1 _ _ _ hx12).trans rfl
  have q2 : W12.cell? ⟨eb, 2, none⟩ = some (.int .i64 o2) := (cell_of_row W12 _ 2 _ _ _ hx12).trans rfl
  have q3 : W12.cell? ⟨eb, 3, none⟩ = some (.string (txt x3)) := (cell_of_row W12 _ 3 _ _ _ hx12).trans rfl
  have q4 : W12.cell? ⟨eb, 4, none⟩ = some (.int .i64 un) := (cell_of_row W12 _ 4 _ _ _ hx12).trans rfl
  have hez : eb < W12.heap.size := (Array.getElem?_eq_some_iff.mp hx12).1
  obtain ⟨i1, hi1, hz10, hz11, hz12⟩ := info_parts infoErP
  obtain ⟨L, eL⟩ : ∃ L, (zD st.zones (nz - 1)).2 = L := ⟨_, rfl⟩
  have HLn : L.length ≤ 100000 := by
    have := HSZ.out.e (nz - 1)
    rw [eL] at this
    exact this
  have EL := Lib.hid eL
  rw [eL] at z17' HER12
  have HEO := Lib.hid (World.ownsRow.drew HER12.out)
  have HL1 : Hid (L.length + 1 ≤ maxLen) := by show _ ≤ _; simp only [maxLen]; omega
  have HL2 : Hid ((L.length + 1) * 56 ≤ 140737488355328) := by show _ ≤ _; omega
  have H1 : Hid (∀ u ∈ [Value.int .i64 o1, .string ru, .int .i64 o2, .string (txt x3), .int .i64 un], u.oneCell' = true) := by intro u hu; simp at hu; rcases hu with rfl | rfl | rfl | rfl | rfl <;> rfl
  have HBS : Hid (∀ o : Obj, B ≤ (W12.drew.alloc o).heap.size) := by
    show ∀ o : Obj, _
    intro o
    have : B ≤ W12.heap.size := by omega
    simp; omega
  have hgne : (Value.slice A17 L.length c17).ownBlock ≠ some g := fun e => by
    rcases own_apart HER12.out HRD12.out.zr (by decide) with e2 | e2
    · rw [e] at e2; cases e2
    · exact e2 (by rw [e]; rfl)
  have HGN := Lib.hid hgne
  have HQ4 : Hid (un = un) := rfl
  clear eL hx12 hgne
  have KG : Hid (∀ (o : Obj) (w6 : World), (W12.drew.alloc o).grownBy w6 (Value.slice A17 L.length c17).ownBlock → (∀ b, b < W12.heap.size → (Value.slice A17 L.length c17).ownBlock ≠ some b → w6.heap[b]? = W12.heap[b]?) ∧ w6.cell? ⟨g, (nz - 1) * 2 + 1, none⟩ = some (.slice A17 L.length c17) ∧ w6.frozen? ⟨g, (nz - 1) * 2 + 1, none⟩ = false ∧ g < w6.heap.size) := by
    show ∀ o w6, _
    intro o w6 hg
    have hk : ∀ b, b < W12.heap.size → (Value.slice A17 L.length c17).ownBlock ≠ some b → w6.heap[b]? = W12.heap[b]? := fun b hb hne => (hg.block b (by simp; omega) (fun e => hne e.symm)).trans (Below.heap_alloc W12.drew _ b hb)
    have hgb := hk g hg12 HGN.out
    obtain ⟨cur, hcur⟩ : ∃ cur, W12.heap[g]? = some (.cells cur 50 (0, 0)) := by
      have hzr := HRD12.out.zr
      rcases hzr.2 with ⟨h', _⟩ | ⟨g', cap', cur, h', _, hg', _⟩
      · simp at h'
      · simp only [Value.slice.injEq, Option.some.injEq, Addr.mk.injEq, and_true, true_and] at h'
        obtain ⟨rfl, rfl⟩ := h'
        exact ⟨cur, hg'⟩
    exact ⟨hk, (World.cell?_of_block (a := ⟨g, (nz - 1) * 2 + 1, none⟩) hgb).trans z17', by simp [World.frozen?, hgb, hcur], (Array.getElem?_eq_some_iff.mp (hgb.trans hcur)).1⟩
  go_region_law (first
    | (refine step_append_lies _ (by rfl) _ _ _ (by rfl) B 46 i1 _ 5 56 undErP hi1 hz10 hz11 hz12 rfl (by omega) (.slice A17 L.length c17) L.length (erCs L) (by rfl) (World.ownsRow.alloc HEO.out _) ⟨W12.heap.size, 0, none⟩ 1 1 [.int .i64 o1, .string ru, .int .i64 o2, .string (txt x3), .int .i64 un] (by rfl) (by rfl) (World.news_of_block (cs := #[.int .i64 o1, .string ru, .int .i64 o2, .string (txt x3), .int .i64 un]) (t := 46) (fr := (0, 0)) (heap_alloc_new W12.drew _)) H1.out Nat.one_pos HL1.out HL2.out (HBS.out _) (W12.heap.size + 1) (by simp) ?_; intro g6 cap6 w6 hown6 hg6 hat6 hlt6; obtain ⟨hk6, t6c, t6f, t6l⟩ := KG.out _ _ hg6))
  all_goals
    obtain ⟨W7, e7⟩ : ∃ W7, w6.setCell ⟨g, (nz - 1) * 2 + 1, none⟩ (.slice (some ⟨g6, 0, none⟩) (L.length + 1) cap6) = W7 := ⟨_, rfl⟩
    rw [e7]
    have hb6 : Below B w w6 := (HBL12.out.drew.alloc (by have := hgB; have := hg12; simp; omega) _).grown hg6 (HBS.out _) (fun q hq => (World.ownsRow.lt HER12.out q hq).1)
    have hb7 : Below B w W7 := by rw [← e7]; exact hb6.setCell hgB _
    have hgg : g6 ≠ g := by
      rcases hat6 with e | e
      · intro e2; exact HGN.out (by rw [e, e2])
      · omega
    have hzr6 := own_keep (W' := w6) HRD12.out.zr fun b e => by
      simp only [Value.ownBlock] at e
      injection e with e
      subst e
      exact hk6 _ hg12 HGN.out
    have hst := (hzr6.stored ((nz - 1) * 2 + 1) (.slice (some ⟨g6, 0, none⟩) (L.length + 1) cap6)).1
    have hset : ∀ b, b ≠ g → W7.heap[b]? = w6.heap[b]? := fun b hb => by rw [← e7]; exact Below.heap_setCell _ _ _ _ hb
    have hown7 := own_keep (W' := W7) hown6 fun b e => hset b (by simp only [Value.ownBlock] at e; injection e with e; omega)
    rw [e7] at hst
    have hrd := RdM.era (W7 := W7) (x := ⟨o1, ru, o2, txt x3, un⟩) (e' := .slice (some ⟨g6, 0, none⟩) (L.length + 1) cap6) HRD12.out hkk (by have := ENZ.out; show nz - 1 = st.zones.length - 1; omega) EEV.out rfl
      (fun b hb h1 h2 => (hset b h2).trans (hk6 b hb (by rw [EL.out] at h1; exact h1))) hst (by show World.ownsRow _ _ _ _ _ ((zD st.zones (nz - 1)).2.length + 1) (erCs (zD st.zones (nz - 1)).2 ++ _); rw [EL.out]; exact hown7)
      (by
        rcases hat6 with e | e
        · exact .inl (by rw [EL.out]; exact e.symm)
        · exact .inr fun b eb => by simp only [Value.ownBlock] at eb; injection eb with eb; omega)
    have HRD7 := Lib.hid hrd
    have HB7 := Lib.hid hb7
    have hzb6 : ∃ cur, w6.heap[g]? = some (.cells cur 50 (0, 0)) := by
      rcases hzr6.2 with ⟨h', _⟩ | ⟨g', cap', cur, h', _, hg', _⟩
      · simp at h'
      · simp only [Value.slice.injEq, Option.some.injEq, Addr.mk.injEq, and_true, true_and] at h'
        obtain ⟨rfl, rfl⟩ := h'
        exact ⟨cur, hg'⟩
    obtain ⟨cur6, hcur6⟩ := hzb6
    have HSK7 : Hid (StrKeep w W7) := by
      show StrKeep w W7
      rw [← e7]
      exact (HSK12.out.trans (StrKeep.row HER12.out (by decide) hg6)).trans (StrKeep.set hcur6 (by decide) _ _)
    clear hcur6
    have hres := HER.out.trans (by rw [eraL_res EO1.out EF1.out HDD.out HUN.out HRU.out])
    have HRES := Lib.hid hres
    obtain ⟨sgn, esgn⟩ : ∃ s : Int, (if n = 5 then (2 : Int) else 1) = s := ⟨_, rfl⟩
    rw [esgn] at HRES HRD7
    clear hrd hb7 hb6 hst hset hown7 hzr6 e7 hk6 t6c t6f t6l hown6 hg6 hat6 hlt6 hres esgn
    by_cases hf1 : f1 = 0
    case neg =>
      have hno : RES = none := by rw [HRES.out, if_neg (fun h => hf1 h.1)]
      have hfb : (f1 == 0) = false := by simpa using hf1
      rw [hno]
      clear hf1
      go_wp2_with fail
      go_ret
      exact ⟨rfl, HB7.out, HSK7.out, fun st' e => by cases e⟩
    by_cases hf2 : f2 = 0
    case neg =>
      have hno : RES = none := by rw [HRES.out, if_neg (fun h => hf2 h.2.1)]
      have hfb : (f2 == 0) = false := by simpa using hf2
      subst hf1
      rw [hno]
      clear hf2
      go_wp2_with fail
      go_ret
      exact ⟨rfl, HB7.out, HSK7.out, fun st' e => by cases e⟩
    by_cases hf3 : f3 = 0
    case neg =>
      have hno : RES = none := by rw [HRES.out, if_neg (fun h => hf3 h.2.2)]
      have hfb : (f3 == 0) = false := by simpa using hf3
      subst hf1
      subst hf2
      rw [hno]
      clear hf3
      go_wp2_with fail
      go_ret
      exact ⟨rfl, HB7.out, HSK7.out, fun st' e => by cases e⟩
    have hyes : RES = some ⟨st.rules, addEra st.zones ⟨o1, ru, o2, txt x3, un⟩, st.links, sgn⟩ := by rw [HRES.out, if_pos ⟨hf1, hf2, hf3⟩]
    subst hf1
    subst hf2
    subst hf3
    rw [hyes]
    go_wp2_with fail
    go_ret
    exact ⟨rfl, HB7.out, HSK7.out, fun st' e => by injection e with e; subst e; exact ⟨_, _, _, _, HRD7.out⟩⟩
end Go.Proofs.YtmhfhmhjaecoaaaGreatDoor
