/- The last step of a law's row where of the new world 'Below' alone is known. (A lemma that the guide gives to copy.) All arguments of a law read behind the call as before it, where of old memory nothing has turned. What a row's list of package-level variables gives: strconv's table of powers of ten. What a row's list of package-level variables gives, and bytealg's MaxLen. What a row's list of package-level variables gives: strconv's two errors lie there. What a row's list of package-level variables gives: strings' table of white space. names.of: the places of names. (places).resolve: what it returns. names.Resolve: what it returns. BookTwice, BookMore: the plain laws. append onto a row of one's own, at a step of a region that draws: what is appended may be nothing. timeballref.Rest. Abbreviations that come of a format are abbreviations: plain. -/
import Derived.Test.YtmhfhmhjaecoaaaGreatDoorRows
import Derived.WalkKit
import Derived.ProofKit
import Derived.OpenShut
import Derived.Below
import Derived.ChangeSame
import Derived.Carry
import Derived.Lib.SmallJoins
import Derived.Test.YtmhfhmhjaecoaaaGreatDoorCards
import Derived.Test.YtmhfhmhjaecoaaaGreatDoorTie
import Derived.Test.YtmhfhmhjaecoaaaGreatDoorQ01
import Derived.LaidMore
import Derived.Deep.DeepHandedRow
import Derived.Deep.DeepWitnessRowRef
import Derived.Lib.LaidTab
import Derived.Stop.LaidErr
import Derived.Test.YtmhfhmhjaecoaaaGreatDoorQ02
import Derived.Lay
import Derived.Test.YtmhfhmhjaecoaaaGreatDoorQ03
import Derived.Test.YtmhfhmhjaecoaaaGreatDoorQ07
import Derived.Maps.Own
import Derived.Maps.OwnOps
import Derived.Maps.OwnSet
import Derived.Maps.Views
import Derived.StringKeys
import Derived.StillTailTactics
import Derived.Deep.AppendLies
import Derived.Laws.AppendOwn
import Derived.Laws.OwnMore
import Derived.Lib.SliceRun
import Derived.Maps.AppendAt
import Derived.RegionTactic
import Derived.Test.YtmhfhmhjaecoaaaGreatDoorQ06
namespace Go.Proofs.YtmhfhmhjaecoaaaGreatDoor
open Go.ChangeShapes Go.WideShapes Go.ChangeAt Go.RowKit
set_option linter.unusedVariables false

theorem own : ownKnob Tryz.prog.godebug = none := by kernel_rfl

section
variable {H : Type} {enc : TypeId × Value → H} {P : Program}
theorem post_of_below {f : Func} {s : ChangeSpec} {apart fresh handsOn again : Bool} {W W' : World} {args : Array Value} {v : Value} {ds gs : List (DataW H)} {before pa pv : List MemPlace}
    (hW : DataW.Whole enc P f.params.toList s.vars apart W args.toList ds gs before)
    (hres : ∀ (b : Nat) (sp : Nat → Bool) (hd : Bool), DataW.TrodAll enc P W' b sp hd f.resultTypes.toList (v.resultList f.resultTypes.size) (s.fn H (ds ++ gs)).results [])
    (hargs : ∀ sp : Nat → Bool, (∀ p ∈ before, sp p.block = true) → DataW.TrodAll enc P W' 0 sp true f.params.toList args.toList (s.fn H (ds ++ gs)).args pa)
    (hvars : ∀ sp : Nat → Bool, (∀ p ∈ before, sp p.block = true) → DataW.TrodVars enc P W' sp s.vars (s.fn H (ds ++ gs)).vars pv)
    (hps : before = pa ++ pv) (hb : Below W.heap.size W W')
    (hok : ∀ (j : Nat) (t : TypeId) (r : Value), f.resultTypes[j]? = some t → (v.resultList f.resultTypes.size)[j]? = some r → Value.okWide P W' .any 0 t r) :
    s.post enc P f apart fresh handsOn again W args v W' := by
  have hlt : ∀ p ∈ before, p.block < W.heap.size := fun p hp => hW.lt p hp
  have hold : ∀ p ∈ before, (fun b => decide (b < W.heap.size)) p.block = true := fun p hp => by simpa using hlt p hp
  refine ⟨ds, gs, before, [], pa, pv, hW, hres _ _ _, hargs _ hold, hvars _ hold, World.keptBut_mono (fun p hp => ⟨hp, ?_⟩) (hb.frame (· ∈ before)), fun _ => ?_⟩
  · rw [hps, List.mem_append] at hp
    exact Or.inr hp
  · obtain ⟨_, _, _, _, _, hz, hn⟩ := hW
    refine ⟨hok, _, _, ([] ++ pa) ++ pv, ⟨[] ++ pa, pv, trodAll_append (hargs _ (fun _ _ => rfl)) (hres _ _ _), hvars _ (fun _ _ => rfl), rfl, ?_, ?_⟩, ?_⟩
    · intro b off hp
      have hin : MemPlace.cell b off ∈ before := by rw [hps]; simpa using hp
      rw [hb.frozen (hlt _ hin)]
      exact hz b off hin
    · intro ha
      have := hn ha
      rw [hps] at this
      simpa using this
    · intro p hp _
      rw [hps]
      simpa using hp
end

end Go.Proofs.YtmhfhmhjaecoaaaGreatDoor
namespace Go.Proofs.YtmhfhmhjaecoaaaGreatDoor
open Go.ChangeShapes Go.WideShapes Go.ChangeAt Go.RowKit
set_option linter.unusedVariables false

theorem laidOut : laidOutB Tryz.prog = true := by kernel_rfl

theorem trodAll_stays {H : Type} {enc : TypeId × Value → H} {P : Program} {W W' : World} {sp : Nat → Bool} (hl : laidOutB P = true) (hb : Below W.heap.size W W') :
    ∀ (ts : List TypeId) (vs : List Value) (ds : List (DataW H)) (ps : List MemPlace), (ts.all fun t => P.readableRec t && decide (t < P.types.size)) = true → (∀ p ∈ ps, p.block < W.heap.size) → (∀ p ∈ ps, sp p.block = true) →
      DataW.TrodAll enc P W 0 (fun _ => true) true ts vs ds ps → DataW.TrodAll enc P W' 0 sp true ts vs ds ps
  | [], [], [], _, _, _, _, h => h
  | t :: ts, v :: vs, d :: ds, ps, hts, hlt, hsp, ⟨p, q, h1, h2, e⟩ => by
    simp only [List.all_cons, Bool.and_eq_true, decide_eq_true_eq] at hts
    refine ⟨p, q, ?_, trodAll_stays hl hb ts vs ds q hts.2 (fun x hx => hlt x (by rw [e]; exact List.mem_append_right _ hx)) (fun x hx => hsp x (by rw [e]; exact List.mem_append_right _ hx)) h2, e⟩
    exact WideElems.Trod_stays hl hts.1.1 hts.1.2 h1 (fun x hx => hb.same (hlt x (by rw [e]; exact List.mem_append_left _ hx))) (fun x hx => hsp x (by rw [e]; exact List.mem_append_left _ hx))
  | [], [], _ :: _, _, _, _, _, h => h.elim
  | [], _ :: _, _, _, _, _, _, h => h.elim
  | _ :: _, [], _, _, _, _, _, h => h.elim
  | _ :: _, _ :: _, [], _, _, _, _, h => h.elim

end Go.Proofs.YtmhfhmhjaecoaaaGreatDoor
namespace Go.Proofs.YtmhfhmhjaecoaaaGreatDoor
open Go.ChangeShapes Go.WideShapes Go.ChangeAt Go.RowKit
set_option linter.unusedVariables false

theorem gPow : Tryz.prog.globalNamed "internal/strconv.uint64pow10" = some 3 := by kernel_rfl
theorem gPowType : (Tryz.prog.globals[3]?).map (·.type) = some 294 := by kernel_rfl
theorem tab10_of {W : World} {a b : String × DataW Unit} {rest : List (String × DataW Unit)} (h : laidMet Tryz.prog (a :: b :: ("internal/strconv.uint64pow10", Rows.laid_internal_strconv_uint64pow10) :: rest) W) : Tab10 W :=
  Lib.tabIs_of_head (rest := rest) gPow gPowType Tryz.underlying294 Tryz.underlying210 (by kernel_rfl) (by kernel_rfl) h.tail.tail
end Go.Proofs.YtmhfhmhjaecoaaaGreatDoor
namespace Go.Proofs.YtmhfhmhjaecoaaaGreatDoor
open Go.ChangeShapes Go.WideShapes Go.ChangeAt Go.RowKit
set_option linter.unusedVariables false

theorem maxLen_of {W : World} (h : W.ShapedOpen Tryz.prog) : MaxLen W :=
  Go.Proofs.cell_of_shapedOpen_int (zero := #[.int .i64 0]) (t := 3) h (of_decide_eq_true (by kernel_rfl)) (by kernel_rfl) rfl (by kernel_rfl) (by kernel_rfl) Tryz.underlying3
end Go.Proofs.YtmhfhmhjaecoaaaGreatDoor
namespace Go.Proofs.YtmhfhmhjaecoaaaGreatDoor
open Go.ChangeShapes Go.WideShapes Go.ChangeAt Go.RowKit
set_option linter.unusedVariables false

theorem star : "*" ++ "errors.errorString" = "*errors.errorString" := by decide
theorem rowErr (u : TypeId) (h : Tryz.prog.typeName? 3 u = some "*errors.errorString") : u = 308 :=
  typeName_ptr_named (nm := "errors.errorString") (by rw [star]; kernel_rfl) (by kernel_rfl) (by decide) u (by rw [star]; exact h)
theorem gSyn : Tryz.prog.globalNamed "strconv.ErrSyntax" = some 6 := by kernel_rfl
theorem gRan : Tryz.prog.globalNamed "strconv.ErrRange" = some 7 := by kernel_rfl
theorem gSynType : (Tryz.prog.globals[6]?).map (·.type) = some 178 := by kernel_rfl
theorem gRanType : (Tryz.prog.globals[7]?).map (·.type) = some 178 := by kernel_rfl
theorem cellsES : Tryz.prog.cellsOf 310 = 1 := by kernel_rfl
theorem cellsStr : Tryz.prog.cellsOf 9 = 1 := by kernel_rfl
theorem ifaceV_of {W : World} {n : String} {g : Nat} {p : Value} {tp : TypeId} (hg : Tryz.prog.globalNamed n = some g) (h : W.var? Tryz.prog n = some #[.iface tp p]) : IfaceV W g :=
  ⟨_, by have h0 := World.var?_cell hg h 0; simpa using h0, .inr ⟨_, _, rfl⟩⟩
theorem numErrs_of {W : World} {rest : List (String × DataW Unit)} (h : laidMet Tryz.prog (("strconv.ErrRange", Rows.laid_strconv_ErrRange) :: ("strconv.ErrSyntax", Rows.laid_strconv_ErrSyntax) :: rest) W) : NumErrs W := by
  obtain ⟨a0, s0, hv0, _⟩ := laid_sentinel h gRan gRanType Tryz.underlying178 rowErr Tryz.underlying308 Tryz.underlying310 rfl rfl Tryz.underlying9 cellsES cellsStr
  obtain ⟨a1, s1, hv1, _⟩ := laid_sentinel h.tail gSyn gSynType Tryz.underlying178 rowErr Tryz.underlying308 Tryz.underlying310 rfl rfl Tryz.underlying9 cellsES cellsStr
  exact ⟨ifaceV_of gSyn hv1, ifaceV_of gRan hv0⟩

section
variable {H : Type} {enc : TypeId × Value → H}
theorem witness_row_lay {C : Checked} {os : Os} {f : FuncId} {fn : Func} {s : OpenSpec} {conds : List PathCond} {apart : Bool} {laid : List (String × DataW Unit)} (modest : Bool) (w0 : World) (args : Array Value) (hos : w0.os = os)
    (hsh : (w0.forCall (fun _ _ => 0) ⟨#[], args, []⟩).Shaped C.prog)
    (hok : Input.okWideB C.prog (w0.forCall (fun _ _ => 0) ⟨#[], args, []⟩) f ⟨#[], args, []⟩ = true)
    (hrow : s.preRow enc C.prog fn conds apart laid (w0.forCall (fun _ _ => 0) ⟨#[], args, []⟩).memory args) :
    ∃ (w : World) (tape : Tape) (i : Input), w.os = os ∧ (w.forCall tape i).Shaped C.prog ∧ i.vars = [] ∧ Input.okWide C.prog (w.forCall tape i) .any w.heap.size f i ∧
      s.preRow enc C.prog fn conds apart laid (w.forCall tape i).memory i.args ∧ ({ modest := modest } : Assume).holds C.prog (lone (Frame.enter C.prog f i.args .normal) [] (w.forCall tape i)) :=
  ⟨w0, fun _ _ => 0, ⟨#[], args, []⟩, hos, hsh, (Input.okWide_of_okWideB (base := 0) hok).1, (Input.okWide_of_okWideB hok).2, hrow, by
    simp only [Assume.holds]
    exact ⟨by simp, by simp, fun _ => Modest.zero, by simp, by simp⟩⟩
end
end Go.Proofs.YtmhfhmhjaecoaaaGreatDoor
namespace Go.Proofs.YtmhfhmhjaecoaaaGreatDoor
open Go.ChangeShapes Go.WideShapes Go.ChangeAt Go.RowKit
set_option linter.unusedVariables false

theorem gAsc : Tryz.prog.globalNamed "strings.asciiSpace" = some 1 := by kernel_rfl
theorem gAscType : (Tryz.prog.globals[1]?).map (·.type) = some 227 := by kernel_rfl
theorem laidAsc : (Rows.laid_strings_asciiSpace : DataW Unit) = Lib.tabData .u8 Lib.asciiSpaceTab := by kernel_rfl
theorem ascTab_of {W : World} {rest : List (String × DataW Unit)} (h : laidMet Tryz.prog (("strings.asciiSpace", Rows.laid_strings_asciiSpace) :: rest) W) : AscTab W := by
  rw [laidAsc] at h
  exact Lib.tabIs_of_head (rest := rest) gAsc gAscType Tryz.underlying227 Tryz.underlying5 (by kernel_rfl) (by kernel_rfl) h
end Go.Proofs.YtmhfhmhjaecoaaaGreatDoor
namespace Go.Proofs.YtmhfhmhjaecoaaaGreatDoor
open Go.RowKit Go.Joins Go.Maps
open Classical
set_option linter.unusedVariables false
set_option linter.unusedSimpArgs false

theorem keyS : Keyed Tryz.prog 9 := string_keyed Tryz.underlying9
/-- an element of a map reads as itself -/
def heldV (v : Value) : Option (DataW Value × List MemPlace) := some (.held v, [])
abbrev zoV (z : Zo) : Value := .agg #[.string z.nm, z.ev]
abbrev kyS (s : ByteArray) : Lit := .string s.data.toList
def DZ (l : List Zo) : DataW Value := l.foldl (fun D z => D.put (kyS z.nm) (.held (zoV z))) (.map [])
def DL (l : List Lk) : DataW Value := l.foldl (fun D x => D.put (kyS x.nm) (.held (.string x.tg))) (.map [])
theorem DZ_snoc (l : List Zo) (z : Zo) : DZ (l ++ [z]) = (DZ l).put (kyS z.nm) (.held (zoV z)) := by unfold DZ; rw [List.foldl_append]; rfl
theorem DL_snoc (l : List Lk) (x : Lk) : DL (l ++ [x]) = (DL l).put (kyS x.nm) (.held (.string x.tg)) := by unfold DL; rw [List.foldl_append]; rfl
theorem ownsMap_keep {W W' : World} {b n : Nat} {D : DataW Value} (h : W.ownsMap Tryz.prog 9 heldV b n D) (hk : W'.heap[b]? = W.heap[b]?) : W'.ownsMap Tryz.prog 9 heldV b n D := by
  obtain ⟨es, clock, hb, r⟩ := h
  exact ⟨es, clock, hk.trans hb, r⟩
/-- the places: two maps behind a box -/
structure PlAt (B : Nat) (W : World) (pb bz bl nz nl : Nat) (zs : List Zo) (ls : List Lk) : Prop where
  bx : W.heap[pb]? = some (.cells #[.map (some bz), .map (some bl)] 94 (0, 0))
  z : W.ownsMap Tryz.prog 9 heldV bz nz (DZ zs)
  l : W.ownsMap Tryz.prog 9 heldV bl nl (DL ls)
  hp : B ≤ pb
  hz : B ≤ bz
  hl : B ≤ bl
theorem PlAt.below {B B' : Nat} {W W' : World} {pb bz bl nz nl : Nat} {zs : List Zo} {ls : List Lk} (h : PlAt B W pb bz bl nz nl zs ls) (hb : Below B' W W') (hB : W.heap.size ≤ B') : PlAt B W' pb bz bl nz nl zs ls := by
  have h1 : pb < W.heap.size := (Array.getElem?_eq_some_iff.mp h.bx).1
  exact ⟨(hb.block pb (by omega)).trans h.bx, ownsMap_keep h.z (hb.block bz (by have := h.z.lt; omega)), ownsMap_keep h.l (hb.block bl (by have := h.l.lt; omega)), h.hp, h.hz, h.hl⟩
theorem PlAt.cells {B : Nat} {W : World} {pb bz bl nz nl : Nat} {zs : List Zo} {ls : List Lk} (h : PlAt B W pb bz bl nz nl zs ls) : W.cell? ⟨pb, 0, none⟩ = some (.map (some bz)) ∧ W.cell? ⟨pb, 1, none⟩ = some (.map (some bl)) ∧ pb < W.heap.size :=
  ⟨(cell_of_row W _ 0 _ _ _ h.bx).trans rfl, (cell_of_row W _ 1 _ _ _ h.bx).trans rfl, (Array.getElem?_eq_some_iff.mp h.bx).1⟩
def OfPost (b : Bk) (w : World) (e : Ending) (w' : World) : Prop :=
  Below w.heap.size w w' ∧ (bkChk b ≠ 0 → e = .returned (.tuple #[.pointer none, .int .i64 (bkChk b)])) ∧
  (bkChk b = 0 → ∃ pb bz bl nz nl, e = .returned (.tuple #[.pointer (some ⟨pb, 0, none⟩), .int .i64 0]) ∧ PlAt w.heap.size w' pb bz bl nz nl b.zones b.links ∧ nl ≤ 1000 ∧ nz ≤ 1000)
theorem BookAt.baseN {B B' : Nat} {W : World} {rv zv lv : Value} {b : Bk} (h : BookAt B W rv zv lv b) (hB : B ≤ B') : BookAt B' W rv zv lv b :=
  ⟨h.r.mono hB, h.z.mono hB, fun z hz => (h.e z hz).mono hB, h.l.mono hB, h.rs, h.zs, h.ls⟩
theorem take_succN {α : Type} (l : List α) (k : Nat) (h : k < l.length) : l.take (k + 1) = l.take k ++ [l[k]] := List.take_succ_eq_append_getElem h
theorem bk_len {b : Bk} (h : bkChk b = 0) : b.rules.length ≤ 40 ∧ b.zones.length ≤ 20 ∧ b.links.length ≤ 20 := by
  unfold bkChk at h
  split at h
  · cases h
  · omega

set_option maxRecDepth 100000 in
set_option maxHeartbeats 4000000 in
theorem namesOf_any (b : Bk) (rv zv lv : Value) (w : World) (hB : BookAt w.heap.size w rv zv lv b) (hm : MaxLen w) (ht : Tab10 w) :
    Calls Tryz.prog 34 #[.agg #[rv, zv, lv]] w (OfPost b w) := by
  have hr := hB.r
  have hz := hB.z
  have hl := hB.l
  obtain ⟨p1, c1, rfl, hlen1, hrow1⟩ := hr
  obtain ⟨p2, c2, rfl, hlen2, hrow2⟩ := hz
  obtain ⟨p3, c3, rfl, hlen3, hrow3⟩ := hl
  obtain ⟨W0, eW⟩ : ∃ W0, w.alloc (.cells #[.slice p1 b.rules.length c1, .slice p2 b.zones.length c2, .slice p3 b.links.length c3] 31) = W0 := ⟨_, rfl⟩
  have hb0 : Below w.heap.size w W0 := by rw [← eW]; exact (Below.refl _ _).alloc (Nat.le_refl _) _
  have hbx : W0.heap[w.heap.size]? = some (.cells #[.slice p1 b.rules.length c1, .slice p2 b.zones.length c2, .slice p3 b.links.length c3] 31 (0, 0)) := by rw [← eW]; exact heap_alloc_new w _
  have hl0 : w.heap.size < W0.heap.size := by rw [← eW]; simp
  have x0 := (cell_of_row W0 _ 0 _ _ _ hbx).trans rfl
  have x1 := (cell_of_row W0 _ 1 _ _ _ hbx).trans rfl
  have x2 := (cell_of_row W0 _ 2 _ _ _ hbx).trans rfl
  have HEW := Lib.hid eW
  have HB0 := Lib.hid hb0
  have HBX := Lib.hid hbx
  have HBK := Lib.hid hB
  have HCK := Lib.hid (bkCheck_any b _ _ _ W0 ((hB.below hb0 (Nat.le_refl _)).baseN (Nat.le_of_lt hl0)) (hm.below hb0) (ht.below hb0))
  have HLN := Lib.hid (bk_len (b := b))
  have HRZ := Lib.hid hB.z
  have HRL := Lib.hid hB.l
  have HSZ := Lib.hid hB.zs
  have HSL := Lib.hid hB.ls
  have HEV := Lib.hid hB.e
  have HPOST : Hid (∀ e w', OfPost b w e w' = (Below w.heap.size w w' ∧ (bkChk b ≠ 0 → e = .returned (.tuple #[.pointer none, .int .i64 (bkChk b)])) ∧ (bkChk b = 0 → ∃ pb bz bl nz nl, e = .returned (.tuple #[.pointer (some ⟨pb, 0, none⟩), .int .i64 0]) ∧ PlAt w.heap.size w' pb bz bl nz nl b.zones b.links ∧ nl ≤ 1000 ∧ nz ≤ 1000))) := fun e w' => rfl
  obtain ⟨C, eC⟩ : ∃ C, bkChk b = C := ⟨_, rfl⟩
  rw [eC] at HCK HLN HPOST
  clear eW hb0 hbx hB hm ht hrow1 hrow2 hrow3 eC
  go_enter Tryz.func34, Tryz.ntmps34
  go_upto_region 1 with fail
  rw [HEW.out]
  go_wp2_with fail
  refine HCK.out.mono ?_
  rintro e w1 ⟨rfl, hb1⟩
  have HB1 := Lib.hid (HB0.out.trans (hb1.mono HB0.out.size))
  have hx1 := (hb1.block w.heap.size hl0).trans HBX.out
  have HBX1 := Lib.hid hx1
  have hl1 : w.heap.size < w1.heap.size := by have := hb1.size; omega
  clear hb1 hx1 x0 x1 x2 HCK HBX
  by_cases hC : C = 0
  case neg =>
    have hz : (C == 0) = false := by simpa using hC
    have hz2 : (!C == 0) = true := by rw [hz]; rfl
    have HC := Lib.hid hC
    clear hC
    go_wp2_with fail
    go_ret2
    rw [HPOST.out]
    exact ⟨HB1.out, fun _ => rfl, fun h => absurd h HC.out⟩
  case pos =>
  subst hC
  obtain ⟨hr40, hz20, hl20⟩ := HLN.out rfl
  have hmk : ∀ (ty : TypeId) (W : World), (Instr.makeMap ty none).run Tryz.prog W = .ok (.map (some W.heap.size)) (W.alloc (.map #[] 0)) := fun ty W => run_makeMap ty W
  obtain ⟨W4, e4⟩ : ∃ W4, ((w1.alloc (.map #[] 0)).alloc (.map #[] 0)).alloc (.cells #[.map (some w1.heap.size), .map (some (w1.heap.size + 1))] 94) = W4 := ⟨_, rfl⟩
  have hP4 : PlAt w.heap.size W4 (w1.heap.size + 1 + 1) w1.heap.size (w1.heap.size + 1) 0 0 [] [] := by
    rw [← e4]
    refine ⟨alloc_at _ _ _ (by simp), ?_, ?_, by omega, by omega, by omega⟩
    · exact ownsMap_keep (World.ownsMap_made w1 Tryz.prog 9 heldV) (by rw [Below.heap_alloc _ _ _ (by simp; omega), Below.heap_alloc _ _ _ (by simp)])
    · have := World.ownsMap_made (w1.alloc (.map #[] 0)) Tryz.prog 9 heldV
      rw [show (w1.alloc (.map #[] 0)).heap.size = w1.heap.size + 1 by simp] at this
      exact ownsMap_keep this (by rw [Below.heap_alloc _ _ _ (by simp)])
  have hb4 : Below w1.heap.size w1 W4 := by rw [← e4]; exact (((Below.refl _ _).alloc (Nat.le_refl _) _).alloc (by simp) _).alloc (by simp; omega) _
  have hz4 : W4.heap.size = w1.heap.size + 3 := by rw [← e4]; simp
  have HP4 := Lib.hid hP4
  have HB4 := Lib.hid (HB1.out.trans (hb4.mono (Nat.le_of_lt hl1)))
  have HE4 := Lib.hid e4
  have hx4 := (hb4.block w.heap.size hl1).trans HBX1.out
  have HX4 := Lib.hid hx4
  have hl4 : w.heap.size < W4.heap.size := by omega
  have y1 := (cell_of_row W4 _ 1 _ _ _ hx4).trans rfl
  obtain ⟨pz, cz, ez, -, hrw⟩ := (HRZ.out.below HB4.out (Nat.le_refl _))
  simp only [Value.slice.injEq, true_and] at ez
  obtain ⟨rfl, rfl⟩ := ez
  have HRWZ := Lib.hid hrw
  clear hP4 hb4 e4 hx4 hrw
  go_upto_region 5 with fail
  rw [HE4.out]
  obtain ⟨bz, ebz⟩ : ∃ bz, w1.heap.size = bz := ⟨_, rfl⟩
  rw [ebz] at HP4 hz4 hl1 ⊢
  have HBZ := Lib.hid ebz
  clear ebz
  go_wp2_with fail
  go_loopw [22] (fun i wr => ∃ k : Nat, k ≤ b.zones.length ∧ i = .int .i64 k ∧ Hid (PlAt w.heap.size wr (bz + 1 + 1) bz (bz + 1) k 0 (b.zones.take k) []) ∧ Hid (Below bz W4 wr) ∧ W4.heap.size ≤ wr.heap.size) (fun i _ => b.zones.length - (intOf i).toNat)
  case atStart => exact ⟨0, Nat.zero_le _, rfl, HP4, Lib.hid (Below.refl _ _), Nat.le_refl _⟩
  case round =>
    obtain ⟨k, hk, rfl, HPR, HBR, hzr⟩ := hrel
    by_cases hkl : k < b.zones.length
    · obtain ⟨bb, o, rfl, hbl, hcs⟩ := HRWZ.out (List.ne_nil_of_length_pos (by omega))
      have hck := hcs k hkl
      have hsz := HSZ.out b.zones[k] (List.getElem_mem hkl)
      have hev := HEV.out b.zones[k] (List.getElem_mem hkl)
      have HTK : Hid (b.zones.take (k + 1) = b.zones.take k ++ [b.zones[k]]) := take_succN _ _ hkl
      obtain ⟨q, eq⟩ : ∃ q, b.zones[k] = q := ⟨_, rfl⟩
      rw [eq] at hck hsz HTK hev
      obtain ⟨nm, ev, er⟩ := q
      simp only at hev
      obtain ⟨pe, ce, rfl, -, -⟩ := hev
      have hnm := hsz.1
      have hbb : bb < bz := by omega
      have z0 := (HBR.out.cell (p := ⟨bb, o + k * 2 + 0, none⟩) hbb).trans (hck 0 _ rfl)
      have z1 := (HBR.out.cell (p := ⟨bb, o + k * 2 + 1, none⟩) hbb).trans (hck 1 _ rfl)
      simp only at hnm z0 z1
      rw [Nat.add_zero] at z0
      obtain ⟨W5, e5⟩ : ∃ W5, wr.alloc (.cells #[.string nm, .slice pe er.length ce] 50) = W5 := ⟨_, rfl⟩
      have hx5 : W5.heap[wr.heap.size]? = some (.cells #[.string nm, .slice pe er.length ce] 50 (0, 0)) := by rw [← e5]; exact heap_alloc_new wr _
      have hb5 : Below wr.heap.size wr W5 := by rw [← e5]; exact (Below.refl _ _).alloc (Nat.le_refl _) _
      have hz5 : W5.heap.size = wr.heap.size + 1 := by rw [← e5]; simp
      have HP5 := Lib.hid (HPR.out.below hb5 (Nat.le_refl _))
      have HB5 : Hid (Below bz W4 W5) := HBR.out.trans (hb5.mono (by omega))
      have q0 := (cell_of_row W5 _ 0 _ _ _ hx5).trans rfl
      have q1 := (cell_of_row W5 _ 1 _ _ _ hx5).trans rfl
      obtain ⟨q2, q3, hpb⟩ := HP5.out.cells
      have HE5 := Lib.hid e5
      clear e5 hx5 eq hcs hck hsz
      go_upto_region 8 with fail
      rw [HE5.out]
      go_still_tail 7, (by kernel_rfl)
      change wpList _ _ _ _ _ W5.drew
      refine wpList_mapUpdate_own _ rfl _ _ _ 91 rfl 9 50 keyS Tryz.underlying91 heldV bz k (DZ (b.zones.take k)) rfl HP5.out.z (by unfold maxLen; omega) (.string nm) (.agg #[.string nm, .slice pe er.length ce]) (kyS nm) rfl rfl (Go.WideMaps.keyOf_string_mk Tryz.underlying9 (by unfold maxLen; omega)) (.held (.agg #[.string nm, .slice pe er.length ce])) [] rfl ?_
      intro w6 hown6 hgrow6
      have HP6 : Hid (PlAt w.heap.size w6 (bz + 1 + 1) bz (bz + 1) (k + 1) 0 (b.zones.take (k + 1)) []) := by
        have h5 := HP5.out
        refine ⟨(hgrow6.block (bz + 1 + 1) hpb (by simp; omega)).trans h5.bx, ?_, (World.ownsMap.drew h5.l).kept hgrow6 (by simp), h5.hp, h5.hz, h5.hl⟩
        rw [HTK.out, DZ_snoc]
        exact hown6
      have HB6 : Hid (Below bz W4 w6) := HB5.out.drew.grown hgrow6 (by show bz ≤ W5.heap.size; omega) (fun q hq => by injection hq with hq; omega)
      have hz6 : W4.heap.size ≤ w6.heap.size := by have := hgrow6.size; have h2 : W5.drew.heap.size = W5.heap.size := rfl; omega
      go_wp2_with fail
      go_roundw
      case rel => exact ⟨k + 1, by omega, by go_num, HP6, HB6, hz6⟩
      case measure => simp [intOf]; omega
    · obtain rfl : k = b.zones.length := by omega
      rw [List.take_length] at HPR
      have hbW := HB4.out.trans (HBR.out.mono (by omega))
      obtain ⟨W6, e6⟩ : ∃ W6, wr = W6 := ⟨_, rfl⟩
      rw [e6] at HPR hbW hzr ⊢
      have hx6 := (HBR.out.block w.heap.size hl1).trans HX4.out
      rw [e6] at hx6
      have y2 := (cell_of_row W6 _ 2 _ _ _ hx6).trans rfl
      have hl6 : w.heap.size < W6.heap.size := by omega
      obtain ⟨pz, cz, ez, -, hrw⟩ := (HRL.out.below hbW (Nat.le_refl _))
      simp only [Value.slice.injEq, true_and] at ez
      obtain ⟨rfl, rfl⟩ := ez
      have HRWL := Lib.hid hrw
      have HBW := Lib.hid hbW
      clear hrw hbW hx6 e6 HBR HRL HEV HSZ y1 HX4
      go_wp2_with fail
      go_loopw [37] (fun i wr => ∃ k : Nat, k ≤ b.links.length ∧ i = .int .i64 k ∧ Hid (PlAt w.heap.size wr (bz + 1 + 1) bz (bz + 1) b.zones.length k b.zones (b.links.take k)) ∧ Hid (Below bz W6 wr) ∧ W6.heap.size ≤ wr.heap.size) (fun i _ => b.links.length - (intOf i).toNat)
      case atStart => exact ⟨0, Nat.zero_le _, rfl, HPR, Lib.hid (Below.refl _ _), Nat.le_refl _⟩
      case round =>
        obtain ⟨k, hk, rfl, HPR, HBR, hzr2⟩ := hrel
        by_cases hkl : k < b.links.length
        · obtain ⟨bb, o, rfl, hbl, hcs⟩ := HRWL.out (List.ne_nil_of_length_pos (by omega))
          have hck := hcs k hkl
          have hsz := HSL.out b.links[k] (List.getElem_mem hkl)
          have HTK : Hid (b.links.take (k + 1) = b.links.take k ++ [b.links[k]]) := take_succN _ _ hkl
          obtain ⟨q, eq⟩ : ∃ q, b.links[k] = q := ⟨_, rfl⟩
          rw [eq] at hck hsz HTK
          obtain ⟨nm, tt⟩ := q
          obtain ⟨hnm, htt⟩ := hsz
          have hbb : bb < bz := by omega
          have z0 := (HBR.out.cell (p := ⟨bb, o + k * 2 + 0, none⟩) hbb).trans (hck 0 _ rfl)
          have z1 := (HBR.out.cell (p := ⟨bb, o + k * 2 + 1, none⟩) hbb).trans (hck 1 _ rfl)
          simp only at hnm htt z0 z1
          rw [Nat.add_zero] at z0
          obtain ⟨W5, e5⟩ : ∃ W5, wr.alloc (.cells #[.string nm, .string tt] 52) = W5 := ⟨_, rfl⟩
          have hx5 : W5.heap[wr.heap.size]? = some (.cells #[.string nm, .string tt] 52 (0, 0)) := by rw [← e5]; exact heap_alloc_new wr _
          have hb5 : Below wr.heap.size wr W5 := by rw [← e5]; exact (Below.refl _ _).alloc (Nat.le_refl _) _
          have hz5 : W5.heap.size = wr.heap.size + 1 := by rw [← e5]; simp
          have HP5 := Lib.hid (HPR.out.below hb5 (Nat.le_refl _))
          have HB5 : Hid (Below bz W6 W5) := HBR.out.trans (hb5.mono (by omega))
          have q0 := (cell_of_row W5 _ 0 _ _ _ hx5).trans rfl
          have q1 := (cell_of_row W5 _ 1 _ _ _ hx5).trans rfl
          obtain ⟨q2, q3, hpb⟩ := HP5.out.cells
          have HE5 := Lib.hid e5
          clear e5 hx5 eq hcs hck
          go_upto_region 13 with fail
          rw [HE5.out]
          go_still_tail 8, (by kernel_rfl)
          change wpList _ _ _ _ _ W5.drew
          refine wpList_mapUpdate_own _ rfl _ _ _ 92 rfl 9 9 keyS Tryz.underlying92 heldV (bz + 1) k (DL (b.links.take k)) rfl HP5.out.l (by unfold maxLen; omega) (.string nm) (.string tt) (kyS nm) rfl rfl (Go.WideMaps.keyOf_string_mk Tryz.underlying9 (by unfold maxLen; omega)) (.held (.string tt)) [] rfl ?_
          intro w6 hown6 hgrow6
          have HP6 : Hid (PlAt w.heap.size w6 (bz + 1 + 1) bz (bz + 1) b.zones.length (k + 1) b.zones (b.links.take (k + 1))) := by
            have h5 := HP5.out
            refine ⟨(hgrow6.block (bz + 1 + 1) hpb (by simp)).trans h5.bx, (World.ownsMap.drew h5.z).kept hgrow6 (by simp), ?_, h5.hp, h5.hz, h5.hl⟩
            rw [HTK.out, DL_snoc]
            exact hown6
          have HB6 : Hid (Below bz W6 w6) := HB5.out.drew.grown hgrow6 (by show bz ≤ W5.heap.size; omega) (fun q hq => by injection hq with hq; omega)
          have hz6 : W6.heap.size ≤ w6.heap.size := by have := hgrow6.size; have h2 : W5.drew.heap.size = W5.heap.size := rfl; omega
          go_wp2_with fail
          go_roundw
          case rel => exact ⟨k + 1, by omega, by go_num, HP6, HB6, hz6⟩
          case measure => simp [intOf]; omega
        · obtain rfl : k = b.links.length := by omega
          rw [List.take_length] at HPR
          have HBD := Lib.hid (HBW.out.trans (HBR.out.mono (by omega)))
          go_wp2_with fail
          go_ret2
          rw [HPOST.out]
          exact ⟨HBD.out, fun h => absurd rfl h, fun _ => ⟨_, _, _, _, _, rfl, HPR.out, by omega, by omega⟩⟩
end Go.Proofs.YtmhfhmhjaecoaaaGreatDoor
namespace Go.Proofs.YtmhfhmhjaecoaaaGreatDoor
open Go.RowKit Go.Joins Go.Maps
open Classical
set_option linter.unusedVariables false
set_option linter.unusedSimpArgs false

def lookF {α : Type} (key : α → ByteArray) (l : List α) (k : ByteArray) : Option α := l.foldl (fun acc x => if key x = k then some x else acc) none
def Dof {α : Type} (key : α → ByteArray) (val : α → Value) (l : List α) : DataW Value := l.foldl (fun D x => D.put (kyS (key x)) (.held (val x))) (.map [])
theorem kyS_inj {a b : ByteArray} (h : a ≠ b) : kyS a ≠ kyS b := fun e => h (by
  injection e with e
  cases a; cases b; simp_all [Array.toList_inj])
theorem Dof_look {α : Type} (key : α → ByteArray) (val : α → Value) (k : ByteArray) : ∀ (l : List α) (D : DataW Value) (acc : Option α), IsMap D → (has D (kyS k) = acc.isSome ∧ ∀ zd, D.atKey (kyS k) zd = (match acc with | some x => .held (val x) | none => zd)) →
    (has (l.foldl (fun D x => D.put (kyS (key x)) (.held (val x))) D) (kyS k) = (l.foldl (fun acc x => if key x = k then some x else acc) acc).isSome ∧ ∀ zd, (l.foldl (fun D x => D.put (kyS (key x)) (.held (val x))) D).atKey (kyS k) zd = (match l.foldl (fun acc x => if key x = k then some x else acc) acc with | some x => .held (val x) | none => zd)) := by
  intro l
  induction l with
  | nil => intro D acc _ h; exact h
  | cons x r ih =>
    intro D acc hD h
    refine ih _ _ (hD.put _ _) ?_
    dsimp only
    by_cases e : key x = k
    · rw [if_pos e, e]
      exact ⟨has_put_same hD (show WideAt.IsKeyLit (kyS k) from trivial) _, fun zd => atKey_put_same hD (show WideAt.IsKeyLit (kyS k) from trivial) _ _⟩
    · rw [if_neg e]
      have hne : kyS k ≠ kyS (key x) := kyS_inj (fun h => e h.symm)
      refine ⟨(has_put_other hne _).trans h.1, fun zd => (atKey_put_other hne _ _).trans (h.2 zd)⟩
theorem Dof_has {α : Type} (key : α → ByteArray) (val : α → Value) (l : List α) (k : ByteArray) : has (Dof key val l) (kyS k) = (lookF key l k).isSome ∧ ∀ zd, (Dof key val l).atKey (kyS k) zd = (match lookF key l k with | some x => .held (val x) | none => zd) :=
  Dof_look key val k l (.map []) none isMap_empty ⟨rfl, fun zd => rfl⟩
theorem lookF_mem {α : Type} {key : α → ByteArray} {k : ByteArray} : ∀ {l : List α} {acc : Option α} {x : α}, l.foldl (fun acc x => if key x = k then some x else acc) acc = some x → (x ∈ l ∧ key x = k) ∨ acc = some x := by
  intro l
  induction l with
  | nil => intro acc x h; exact .inr h
  | cons y r ih =>
    intro acc x h
    rcases ih h with ⟨h1, h2⟩ | h1
    · exact .inl ⟨List.mem_cons_of_mem _ h1, h2⟩
    · dsimp only at h1
      by_cases e : key y = k
      · rw [if_pos e] at h1
        injection h1 with h1
        subst h1
        exact .inl ⟨List.mem_cons_self .., e⟩
      · rw [if_neg e] at h1; exact .inr h1
theorem lookF_in {α : Type} {key : α → ByteArray} {k : ByteArray} {l : List α} {x : α} (h : lookF key l k = some x) : x ∈ l ∧ key x = k := by
  rcases lookF_mem h with h | h
  · exact h
  · cases h
/-- a name, followed -/
def resF (zs : List Zo) (ls : List Lk) : Nat → ByteArray → Option Zo × Int
  | 0, _ => (none, 8)
  | n + 1, k => match lookF (·.nm) zs k with
    | some z => (some z, 0)
    | none => match lookF (·.nm) ls k with
      | none => (none, 6)
      | some x => resF zs ls n x.tg
def zoVal (z : Option Zo) : Value := match z with | some z => zoV z | none => .agg #[.string ⟨#[]⟩, .slice none 0 0]
theorem zeroZo (W : World) : (zeroValue 50).run Tryz.prog W = .ok (.agg #[.string ⟨#[]⟩, .slice none 0 0]) W := by kernel_rfl
theorem zeroStr (W : World) : (zeroValue 9).run Tryz.prog W = .ok (.string ⟨#[]⟩) W := by kernel_rfl
theorem look_zone {B : Nat} {W : World} {pb bz bl nz nl : Nat} {zs : List Zo} {ls : List Lk} (h : PlAt B W pb bz bl nz nl zs ls) (k : ByteArray) (hk : k.size ≤ maxLen) :
    (Instr.lookup 91 (.map (some bz)) (.string k) true).run Tryz.prog W = .ok (.tuple #[zoVal (lookF (·.nm) zs k), .bool (lookF (·.nm) zs k).isSome]) W := by
  obtain ⟨v, ps, hrun, hv⟩ := h.z.look_ok keyS Tryz.underlying91 (zeroZo W) (zd := .held (.agg #[.string ⟨#[]⟩, .slice none 0 0])) (zp := []) rfl (Go.WideMaps.keyOf_string_mk Tryz.underlying9 hk)
  have hd := Dof_has (·.nm) zoV zs k
  have e : DZ zs = Dof (·.nm) zoV zs := rfl
  rw [e] at hrun hv
  have hv2 : DataW.held v = _ := (congrArg Prod.fst (Option.some.inj hv)).trans (hd.2 _)
  rw [hrun, hd.1]
  clear hrun hv hd e
  cases hl : lookF (·.nm) zs k with
  | none => rw [hl] at hv2; rw [DataW.held.inj hv2]; rfl
  | some z => rw [hl] at hv2; rw [DataW.held.inj hv2]; rfl
theorem look_link {B : Nat} {W : World} {pb bz bl nz nl : Nat} {zs : List Zo} {ls : List Lk} (h : PlAt B W pb bz bl nz nl zs ls) (k : ByteArray) (hk : k.size ≤ maxLen) :
    (Instr.lookup 92 (.map (some bl)) (.string k) true).run Tryz.prog W = .ok (.tuple #[.string (match lookF (·.nm) ls k with | some x => x.tg | none => ⟨#[]⟩), .bool (lookF (·.nm) ls k).isSome]) W := by
  obtain ⟨v, ps, hrun, hv⟩ := h.l.look_ok keyS Tryz.underlying92 (zeroStr W) (zd := .held (.string ⟨#[]⟩)) (zp := []) rfl (Go.WideMaps.keyOf_string_mk Tryz.underlying9 hk)
  have hd := Dof_has (·.nm) (fun x : Lk => .string x.tg) ls k
  have e : DL ls = Dof (·.nm) (fun x : Lk => .string x.tg) ls := rfl
  rw [e] at hrun hv
  have hv2 : DataW.held v = _ := (congrArg Prod.fst (Option.some.inj hv)).trans (hd.2 _)
  rw [hrun, hd.1]
  clear hrun hv hd e
  cases hl : lookF (·.nm) ls k with
  | none => rw [hl] at hv2; rw [DataW.held.inj hv2]
  | some z => rw [hl] at hv2; rw [DataW.held.inj hv2]
theorem resF_z {zs : List Zo} {ls : List Lk} {n : Nat} {k : ByteArray} {z : Zo} (h : lookF (·.nm) zs k = some z) : resF zs ls (n + 1) k = (some z, 0) := by
  rw [resF, h]
theorem resF_none {zs : List Zo} {ls : List Lk} {n : Nat} {k : ByteArray} (h : lookF (·.nm) zs k = none) (h2 : lookF (·.nm) ls k = none) : resF zs ls (n + 1) k = (none, 6) := by
  rw [resF, h, h2]
theorem resF_go {zs : List Zo} {ls : List Lk} {n : Nat} {k : ByteArray} {x : Lk} (h : lookF (·.nm) zs k = none) (h2 : lookF (·.nm) ls k = some x) : resF zs ls (n + 1) k = resF zs ls n x.tg := by
  rw [resF, h, h2]
/-- all zones' eras are slices -/
def EvOk (zs : List Zo) : Prop := ∀ z ∈ zs, ∃ p c, z.ev = .slice p z.eras.length c
def ResPost (R : Option Zo × Int) (w : World) (e : Ending) (w' : World) : Prop := e = .returned (.tuple #[zoVal R.1, .int .i64 R.2]) ∧ Below w.heap.size w w'

theorem end_two {W : World} {rb : Nat} {a b : Value} {T : TypeId} (h : W.heap[rb]? = some (.cells #[a, b] T (0, 0))) (c d : Value) :
    ∃ W', (W.setCell ⟨rb, 0, none⟩ c).setCell ⟨rb, 1, none⟩ d = W' ∧ W'.heap[rb]? = some (.cells #[c, d] T (0, 0)) ∧ ∀ B, B ≤ rb → Below B W W' := by
  refine ⟨_, rfl, ?_, fun B hB => ((Below.refl _ _).setCell hB _).setCell hB _⟩
  simp [World.setCell, Array.getElem?_modify, h]
theorem ResPost.mk {R : Option Zo × Int} {z : Option Zo} {c : Int} {v : Value} {w w' : World} (h : (z, c) = R) (hv : zoVal z = v) (hb : Below w.heap.size w w') : ResPost R w (.returned (.tuple #[v, .int .i64 c])) w' := by
  subst h
  subst hv
  exact ⟨rfl, hb⟩

set_option maxRecDepth 100000 in
set_option maxHeartbeats 4000000 in
theorem resolve_any (B pb bz bl nz nl : Nat) (zs : List Zo) (ls : List Lk) (nm : ByteArray) (w : World) (hP : PlAt B w pb bz bl nz nl zs ls) (hz : EvOk zs) (hs : ∀ x ∈ ls, x.tg.size ≤ 140737488351232) (hn : nm.size ≤ 140737488351232) (hnl : nl ≤ 1000) :
    Calls Tryz.prog 37 #[.pointer (some ⟨pb, 0, none⟩), .string nm] w (ResPost (resF zs ls (Maps.size (DL ls) + 1) nm) w) := by
  obtain ⟨N, eN⟩ : ∃ N, Maps.size (DL ls) = N := ⟨_, rfl⟩
  have hN : N ≤ 1000 := by rw [← eN]; exact Nat.le_trans hP.l.size_le hnl
  rw [eN]
  obtain ⟨R, eR⟩ : ∃ R, resF zs ls (N + 1) nm = R := ⟨_, rfl⟩
  rw [eR]
  have HR := Lib.hid eR
  have hlen : ∀ {B : Nat} {W : World} {pb bz bl nz nl : Nat}, PlAt B W pb bz bl nz nl zs ls → (Builtin.len_ #[92] 3 #[.map (some bl)]).run Tryz.prog W = .ok (.int .i64 N) W := fun h => by rw [← eN]; exact h.l.len Tryz.underlying92 _
  have HLEN := Lib.hid (fun W h => hlen (B := B) (W := W) (pb := pb) (bz := bz) (bl := bl) (nz := nz) (nl := nl) h)
  have HLZ := Lib.hid (fun W k h hk => look_zone (B := B) (W := W) (pb := pb) (bz := bz) (bl := bl) (nz := nz) (nl := nl) (zs := zs) (ls := ls) h k hk)
  have HLL := Lib.hid (fun W k h hk => look_link (B := B) (W := W) (pb := pb) (bz := bz) (bl := bl) (nz := nz) (nl := nl) (zs := zs) (ls := ls) h k hk)
  obtain ⟨W0, eW⟩ : ∃ W0, w.alloc (.cells #[.string ⟨#[]⟩, .slice none 0 0] 50) = W0 := ⟨_, rfl⟩
  have hb0 : Below w.heap.size w W0 := by rw [← eW]; exact (Below.refl _ _).alloc (Nat.le_refl _) _
  have hbx : W0.heap[w.heap.size]? = some (.cells #[.string ⟨#[]⟩, .slice none 0 0] 50 (0, 0)) := by rw [← eW]; exact heap_alloc_new w _
  have hl0 : w.heap.size < W0.heap.size := by rw [← eW]; simp
  have HP0 := Lib.hid (hP.below hb0 (Nat.le_refl _))
  have HEW := Lib.hid eW
  have HB0 := Lib.hid hb0
  have HBX := Lib.hid hbx
  have HZ := Lib.hid hz
  have HS := Lib.hid hs
  have hpw : pb < w.heap.size := hP.cells.2.2
  obtain ⟨rb, erb⟩ : ∃ rb, w.heap.size = rb := ⟨_, rfl⟩
  rw [erb] at hpw hl0 HBX
  have HERB := Lib.hid erb
  clear eW hb0 hbx hP hz hs eR eN hlen erb
  go_enter Tryz.func37, Tryz.ntmps37
  go_upto_region 1 with fail
  rw [HEW.out, HERB.out]
  obtain ⟨m0, m1, mp⟩ := HP0.out.cells
  have hl := HLEN.out W0 HP0.out
  go_wp2_with fail
  go_loopw [1, 16] (fun v1 i wr => ∃ (k : Nat) (nm' : ByteArray), k ≤ N + 1 ∧ i = .int .i64 k ∧ v1 = .string nm' ∧ nm'.size ≤ 140737488351232 ∧ Hid (resF zs ls (N + 1 - k) nm' = R) ∧ Hid (Below W0.heap.size W0 wr)) (fun _ i _ => N + 1 - (intOf i).toNat)
  case atStart => exact ⟨0, nm, Nat.zero_le _, rfl, rfl, hn, HR, Lib.hid (Below.refl _ _)⟩
  case round =>
    obtain ⟨k, nm1, hk, rfl, rfl, hn1, HRR, HBR⟩ := hrel
    have hzr := HBR.out.size
    have hrb : rb < wr.heap.size := by omega
    have HPW := Lib.hid (HP0.out.below HBR.out (Nat.le_refl _))
    have HXR := Lib.hid ((HBR.out.block rb hl0).trans HBX.out)
    obtain ⟨m0, m1, mp⟩ := HPW.out.cells
    have r0 : wr.cell? ⟨rb, 0, none⟩ = some (.string ⟨#[]⟩) := (cell_of_row wr _ 0 _ _ _ HXR.out).trans rfl
    have r1 : wr.cell? ⟨rb, 1, none⟩ = some (.slice none 0 0) := (cell_of_row wr _ 1 _ _ _ HXR.out).trans rfl
    have f0 : wr.frozen? ⟨rb, 0, none⟩ = false := by simp [World.frozen?, HXR.out]
    have f1 : wr.frozen? ⟨rb, 1, none⟩ = false := by simp [World.frozen?, HXR.out]
    by_cases hkn : k < N + 1
    · obtain ⟨n, en⟩ : ∃ n, N + 1 - k = n + 1 := ⟨N - k, by omega⟩
      have hrr := HRR.out
      rw [en] at hrr
      have hkz : (k : Int) < (N : Int) + 1 := by omega
      have lz := HLZ.out wr nm1 HPW.out (by unfold maxLen; omega)
      have ll := HLL.out (wr.alloc (.cells #[.string ⟨#[]⟩, .slice none 0 0] 50)) nm1 (HPW.out.below ((Below.refl _ _).alloc (Nat.le_refl _) _) (Nat.le_refl _)) (by unfold maxLen; omega)
      cases hlz : lookF (·.nm) zs nm1 with
      | some z =>
        rw [hlz] at lz
        rw [resF_z hlz] at hrr
        obtain ⟨pe, ce, hev⟩ := HZ.out z (lookF_in hlz).1
        obtain ⟨znm, zev, zer⟩ := z
        simp only at hev
        subst hev
        change _ = Result.ok (Value.tuple #[Value.agg #[Value.string znm, Value.slice pe zer.length ce], Value.bool true]) wr at lz
        have HRE := Lib.hid hrr
        clear hlz hrr ll en
        go_wp2_with fail
        obtain ⟨W9, e9, hh9, hb9⟩ := end_two HXR.out (.string znm) (.slice pe zer.length ce)
        rw [e9]
        obtain ⟨W10, e10⟩ : ∃ W10, W9.alloc (.cells #[(.string znm), (.slice pe zer.length ce)] 50) = W10 := ⟨_, rfl⟩
        rw [e10]
        have hs9 : wr.heap.size ≤ W9.heap.size := (hb9 0 (Nat.zero_le _)).size
        have hh10 : W10.heap[rb]? = some (.cells #[(.string znm), (.slice pe zer.length ce)] 50 (0, 0)) := by rw [← e10, Below.heap_alloc _ _ _ (by omega)]; exact hh9
        have v0 := (cell_of_row W10 _ 0 _ _ _ hh10).trans rfl
        have v1 := (cell_of_row W10 _ 1 _ _ _ hh10).trans rfl
        have HBD : Below w.heap.size w W10 := by
          rw [← e10]
          exact (HB0.out.trans ((HBR.out.mono HB0.out.size).trans (hb9 _ (by have := HERB.out; omega)))).alloc (by have := HERB.out; omega) _
        exact bodyPost_ret (v := .tuple #[.agg #[(.string znm), (.slice pe zer.length ce)], .int .i64 0]) (by simp [results, Tryz.results37, go_sem, v0, v1]) rfl (ResPost.mk (z := some ⟨znm, .slice pe zer.length ce, zer⟩) HRE.out rfl HBD)
      | none =>
        rw [hlz] at lz
        change _ = Result.ok (Value.tuple #[Value.agg #[Value.string ⟨#[]⟩, Value.slice none 0 0], Value.bool false]) wr at lz
        cases hll : lookF (·.nm) ls nm1 with
        | none =>
          rw [hll] at ll
          rw [resF_none hlz hll] at hrr
          have HRE := Lib.hid hrr
          clear hlz hll hrr en
          go_wp2_with fail
          obtain ⟨W9, e9, hh9, hb9⟩ := end_two HXR.out (.string ⟨#[]⟩) (.slice none 0 0)
          rw [e9]
          obtain ⟨W10, e10⟩ : ∃ W10, W9.alloc (.cells #[(.string ⟨#[]⟩), (.slice none 0 0)] 50) = W10 := ⟨_, rfl⟩
          rw [e10]
          have hs9 : wr.heap.size ≤ W9.heap.size := (hb9 0 (Nat.zero_le _)).size
          have hh10 : W10.heap[rb]? = some (.cells #[(.string ⟨#[]⟩), (.slice none 0 0)] 50 (0, 0)) := by rw [← e10, Below.heap_alloc _ _ _ (by omega)]; exact hh9
          have v0 := (cell_of_row W10 _ 0 _ _ _ hh10).trans rfl
          have v1 := (cell_of_row W10 _ 1 _ _ _ hh10).trans rfl
          have HBD : Below w.heap.size w W10 := by
            rw [← e10]
            exact (HB0.out.trans ((HBR.out.mono HB0.out.size).trans (hb9 _ (by have := HERB.out; omega)))).alloc (by have := HERB.out; omega) _
          exact bodyPost_ret (v := .tuple #[.agg #[(.string ⟨#[]⟩), (.slice none 0 0)], .int .i64 6]) (by simp [results, Tryz.results37, go_sem, v0, v1]) rfl (ResPost.mk (z := none) HRE.out rfl HBD)
        | some x =>
          rw [hll] at ll
          rw [resF_go hlz hll] at hrr
          have hxs := HS.out x (lookF_in hll).1
          have en2 : N + 1 - (k + 1) = n := by omega
          rw [← en2] at hrr
          have HRE := Lib.hid hrr
          clear hlz hll hrr en en2
          go_wp2_with fail
          go_roundw
          case rel => exact ⟨k + 1, x.tg, by omega, by go_num, rfl, hxs, HRE, Lib.hid (HBR.out.alloc hzr _)⟩
          case measure => simp [intOf]; omega
    · have en : N + 1 - k = 0 := by omega
      have hrr := HRR.out
      rw [en] at hrr
      have HRE := Lib.hid hrr
      have hkz : ¬ (k : Int) < (N : Int) + 1 := by omega
      clear hrr en
      go_wp2_with fail
      obtain ⟨W9, e9, hh9, hb9⟩ := end_two HXR.out (.string ⟨#[]⟩) (.slice none 0 0)
      rw [e9]
      have v0 : W9.cell? ⟨rb, 0, none⟩ = some (.string ⟨#[]⟩) := (cell_of_row W9 _ 0 _ _ _ hh9).trans rfl
      have v1 : W9.cell? ⟨rb, 1, none⟩ = some (.slice none 0 0) := (cell_of_row W9 _ 1 _ _ _ hh9).trans rfl
      have HBD : Below w.heap.size w W9 := HB0.out.trans ((HBR.out.mono HB0.out.size).trans (hb9 _ (by have := HERB.out; omega)))
      exact bodyPost_ret (v := .tuple #[.agg #[.string ⟨#[]⟩, .slice none 0 0], .int .i64 8]) (by simp [results, Tryz.results37, go_sem, v0, v1]) rfl (ResPost.mk (z := none) HRE.out rfl HBD)
end Go.Proofs.YtmhfhmhjaecoaaaGreatDoor
namespace Go.Proofs.YtmhfhmhjaecoaaaGreatDoor
open Go.RowKit Go.Joins Go.Maps
open Classical
set_option linter.unusedVariables false
set_option linter.unusedSimpArgs false

abbrev erL (x : Er) : List Value := (erCells x).toList
def erFlat (l : List Er) : List Value := l.flatMap erL
theorem infoEr : (Tryz.prog.info? 46).map (fun i => (i.zero, i.size, i.bytes)) = some (some (.agg #[.int .i64 0, .string ⟨#[]⟩, .int .i64 0, .string ⟨#[]⟩, .int .i64 0]), 5, 56) := by kernel_rfl
theorem undErS : Tryz.prog.underlying 48 = some (.slice 46) := by kernel_rfl
theorem erFlat_len (l : List Er) : (erFlat l).length = l.length * 5 := by
  induction l with
  | nil => rfl
  | cons x r ih =>
    have e : erFlat (x :: r) = erL x ++ erFlat r := by simp [erFlat]
    rw [e, List.length_append, ih]
    simp
    omega
theorem erFlat_get : ∀ (l : List Er) (j : Nat) (u : Value), (erFlat l)[j]? = some u → ∃ i, ∃ h : i < l.length, ∃ m, j = i * 5 + m ∧ (erL l[i])[m]? = some u
  | [], j, u, h => by simp [erFlat] at h
  | x :: r, j, u, h => by
    have e : erFlat (x :: r) = erL x ++ erFlat r := by simp [erFlat]
    rw [e] at h
    by_cases hj : j < 5
    · rw [List.getElem?_append_left (by simpa using hj)] at h
      exact ⟨0, by simp, j, by omega, h⟩
    · rw [List.getElem?_append_right (by simpa using Nat.le_of_not_lt hj)] at h
      obtain ⟨i, hi, m, e1, e2⟩ := erFlat_get r _ u h
      have e3 : (erL x).length = 5 := rfl
      rw [e3] at e1
      exact ⟨i + 1, by simpa using hi, m, by omega, e2⟩
theorem erFlat_one (l : List Er) : ∀ u ∈ erFlat l, u.oneCell' = true := by
  intro u hu
  obtain ⟨x, -, hx⟩ := List.mem_flatMap.1 hu
  simp at hx
  rcases hx with rfl | rfl | rfl | rfl | rfl <;> rfl

set_option maxRecDepth 100000 in
set_option maxHeartbeats 1000000 in
theorem CloneEr_any (l : List Er) (v : Value) (B : Nat) (w : World) (h : RowsAt erL 5 B w v l) (hl : l.length ≤ 1000) :
    Calls Tryz.prog 114 #[v] w fun e w' => ∃ vo, e = .returned vo ∧ w'.ownsRow w.heap.size 46 5 vo l.length (erFlat l) ∧ Below w.heap.size w w' := by
  obtain ⟨p, cap, rfl, hlen, hrow⟩ := h
  have qT : ∀ (W : World) (a : Option Addr) (n c n' c' : Nat), (binOp .eql 48 (.slice a n c) (.slice none n' c')).run Tryz.prog W = .ok (.bool a.isNone) W := fun W a n c n' c' => Lib.run_eql_slice_nil W _ _ a n c n' c' undErS
  cases p with
  | none =>
    have : l = [] := by
      by_cases hn : l = []
      · exact hn
      · obtain ⟨b, o, e, -⟩ := hrow hn; cases e
    subst this
    clear hrow
    go_enter Tryz.func114, Tryz.ntmps114
    go_wp2_with fail
    go_ret
    exact ⟨_, rfl, World.ownsRow_nil _ _ _ _, Below.refl _ _⟩
  | some ad =>
    have hnews : ∀ j u, (erFlat l)[j]? = some u → w.cell? (ad.add j) = some u := by
      intro j u hu
      obtain ⟨i, hi, m, rfl, hm⟩ := erFlat_get l j u hu
      obtain ⟨b, o, e, hlt, hc⟩ := hrow (List.ne_nil_of_length_pos (by omega))
      injection e with e
      subst e
      have := hc i hi m u hm
      rw [Nat.add_assoc] at this
      have e2 : (⟨b, o, none⟩ : Addr).add (i * 5 + m) = ⟨b, o + (i * 5 + m), none⟩ := by
        unfold Addr.add
        split
        · rename_i h0; rw [h0]; rfl
        · rfl
      rw [e2]
      exact this
    have HNW := Lib.hid hnews
    have HFL := Lib.hid (erFlat_len l)
    have HFO := Lib.hid (erFlat_one l)
    obtain ⟨i1, hi1, hz10, hz11, hz12⟩ := info_parts infoEr
    obtain ⟨n, en⟩ : ∃ n, l.length = n := ⟨_, rfl⟩
    rw [en] at hl HFL ⊢
    clear hnews hrow hlen
    go_enter Tryz.func114, Tryz.ntmps114
    have hROW := World.ownsRow_lit (base := w.heap.size) (e := 46) (size := 5) w #[] 0 (Nat.le_refl _) (by decide) rfl
    have HROW := Lib.hid hROW
    have HNEW : Hid (∀ j u, (erFlat l)[j]? = some u → (w.alloc (.cells #[] 46)).cell? (ad.add j) = some u) := by
      show ∀ j u, _
      intro j u hu
      have h1 := HNW.out j u hu
      exact (((Below.refl w.heap.size w).alloc (Nat.le_refl _) (.cells #[] 46)).cell (p := ad.add j) (World.block_lt_of_cell? _ _ h1)).trans h1
    have HML : 0 + n ≤ maxLen := by simp only [maxLen]; omega
    have HMB : (0 + n) * 56 ≤ 140737488355328 := by omega
    have HSZ : w.heap.size ≤ (w.alloc (.cells #[] 46)).heap.size := by simp
    clear hROW
    go_wp2_with (at_builtin; refine wpList_append_own _ rfl _ _ 48 rfl w.heap.size 46 i1 (.agg #[.int .i64 0, .string ⟨#[]⟩, .int .i64 0, .string ⟨#[]⟩, .int .i64 0]) 5 56 undErS hi1 hz10 hz11 hz12 rfl (by decide) _ _ _ rfl HROW.out ad n cap (erFlat l) rfl HFL.out HNEW.out HFO.out HML HMB HSZ ?_; intro v' w10 hown10 hgrow10 _)
    go_ret
    refine ⟨_, rfl, ?_, (((Below.refl _ _).alloc (Nat.le_refl _) _).grown hgrow10 HSZ (fun q hq => (World.ownsRow.lt HROW.out q hq).1))⟩
    have := hown10
    simp only [Nat.zero_add] at this
    exact this
theorem bk_parts {b : Bk} (h : bkChk b = 0) : (∀ i (hi : i < b.zones.length), zoneChk b.rules (b.zones.take i) b.zones[i] = 0) ∧ ∀ i (hi : i < b.links.length), linkChk b (b.links.take i) b.links[i] = 0 := by
  by_cases h0 : 40 < b.rules.length ∨ 20 < b.zones.length ∨ 20 < b.links.length
  · rw [bkChk_2 b h0] at h; cases h
  · by_cases h1 : firstE ruChk b.rules = 0
    · by_cases h2 : firstE (chkZ b) (List.range b.zones.length) = 0
      · rw [bkChk_l b h0 h1 h2] at h
        exact ⟨fun i hi => by rw [← chkZ_at b i hi]; exact (firstE_zero _ _).1 h2 i (List.mem_range.2 hi), fun i hi => by rw [← chkL_at b i hi]; exact (firstE_zero _ _).1 h i (List.mem_range.2 hi)⟩
      · rw [bkChk_z b h0 h1 h2] at h; exact absurd h h2
    · rw [bkChk_r b h0 h1] at h; exact absurd h h1
structure ZoneOk (b : Bk) (i : Nat) (z : Zo) : Prop where
  nm : nameB z.nm = true
  fresh : ∀ y ∈ b.zones.take i, y.nm ≠ z.nm
  ne : z.eras ≠ []
  le : z.eras.length ≤ 700
  er : firstE (eraChk b.rules z.eras) (List.range z.eras.length) = 0
theorem bk_zone {b : Bk} (h : bkChk b = 0) (i : Nat) (hi : i < b.zones.length) : ZoneOk b i b.zones[i] := by
  have hz := (bk_parts h).1 i hi
  unfold zoneChk at hz
  split at hz
  · cases hz
  · rename_i h1
    split at hz
    · cases hz
    · rename_i h2
      split at hz
      · cases hz
      · rename_i h3
        split at hz
        · cases hz
        · rename_i h4
          refine ⟨by simpa using h1, fun y hy e => h2 (List.any_eq_true.2 ⟨y, hy, by simpa using e⟩), h3, by omega, hz⟩
theorem bk_er {b : Bk} (h : bkChk b = 0) {z : Zo} (hz : z ∈ b.zones) : z.eras ≠ [] ∧ z.eras.length ≤ 700 := by
  obtain ⟨i, hi, rfl⟩ := List.mem_iff_getElem.1 hz
  exact ⟨(bk_zone h i hi).ne, (bk_zone h i hi).le⟩

/-- what names.Resolve answers -/
def rsv (b : Bk) (nm : ByteArray) : Option Zo × Int := if bkChk b ≠ 0 then (none, bkChk b) else resF b.zones b.links (Maps.size (DL b.links) + 1) nm
def zNm (z : Option Zo) : ByteArray := match z with | some z => z.nm | none => ⟨#[]⟩
def zEr (z : Option Zo) : List Er := match z with | some z => z.eras | none => []
def RsvPost (R : Option Zo × Int) (w : World) (e : Ending) (w' : World) : Prop :=
  ∃ vo, e = .returned (.tuple #[.agg #[.string (zNm R.1), vo], .int .i64 R.2]) ∧ w'.ownsRow w.heap.size 46 5 vo (zEr R.1).length (erFlat (zEr R.1)) ∧ Below w.heap.size w w'
theorem rsv_bad {b : Bk} {nm : ByteArray} (h : bkChk b ≠ 0) : rsv b nm = (none, bkChk b) := by unfold rsv; rw [if_pos h]
theorem rsv_go {b : Bk} {nm : ByteArray} (h : bkChk b = 0) : rsv b nm = resF b.zones b.links (Maps.size (DL b.links) + 1) nm := by unfold rsv; rw [if_neg (fun g => g h)]
theorem resF_in {zs : List Zo} {ls : List Lk} : ∀ {n : Nat} {k : ByteArray} {z : Zo} {c : Int}, resF zs ls n k = (some z, c) → z ∈ zs ∧ c = 0 := by
  intro n
  induction n with
  | zero => intro k z c h; cases h
  | succ n ih =>
    intro k z c h
    rw [resF] at h
    split at h
    · rename_i z2 e
      cases h
      exact ⟨(lookF_in e).1, rfl⟩
    · split at h
      · cases h
      · exact ih h
end Go.Proofs.YtmhfhmhjaecoaaaGreatDoor
namespace Go.Proofs.YtmhfhmhjaecoaaaGreatDoor
open Go.RowKit Go.Joins
open Classical
set_option linter.unusedVariables false
set_option linter.unusedSimpArgs false

/-- the first error of a list with one more behind it -/
theorem firstE_snoc {α : Type} (f : α → Int) (l : List α) (x : α) (h : firstE f l = 0) : firstE f (l ++ [x]) = f x := by
  induction l with
  | nil => show (if f x = 0 then (0 : Int) else f x) = f x; split <;> omega
  | cons a r ih =>
    have h0 := (firstE_zero f (a :: r)).1 h
    have ha : f a = 0 := h0 a List.mem_cons_self
    show (if f a = 0 then firstE f (r ++ [x]) else f a) = f x
    rw [if_pos ha]
    exact ih ((firstE_zero f r).2 fun y hy => h0 y (List.mem_cons_of_mem _ hy))
theorem bk_ru0 {b : Bk} (h : bkChk b = 0) : firstE ruChk b.rules = 0 := by
  have hl := bk_len h
  have h0 : ¬ (40 < b.rules.length ∨ 20 < b.zones.length ∨ 20 < b.links.length) := by omega
  apply Classical.byContradiction
  intro h1
  rw [bkChk_r b h0 h1] at h
  exact h1 h
/-- a zone more: what the zones' checks say -/
theorem zones_snoc {b : Bk} (h : bkChk b = 0) (z : Zo) (ls : List Lk) : firstE (chkZ ⟨b.rules, b.zones ++ [z], ls⟩) (List.range (b.zones ++ [z]).length) = zoneChk b.rules b.zones z := by
  have hp := (bk_parts h).1
  rw [List.length_append, List.length_singleton, List.range_succ]
  rw [firstE_snoc]
  · have e := chkZ_at (⟨b.rules, b.zones ++ [z], ls⟩ : Bk) b.zones.length (by simp)
    rw [e]
    show zoneChk b.rules ((b.zones ++ [z]).take b.zones.length) ((b.zones ++ [z])[b.zones.length]'(by simp)) = _
    rw [List.take_left' rfl]
    congr 1
    simp
  · refine (firstE_zero _ _).2 fun i hi => ?_
    have hi := List.mem_range.1 hi
    rw [chkZ_at (⟨b.rules, b.zones ++ [z], ls⟩ : Bk) i (by simp; omega)]
    show zoneChk b.rules ((b.zones ++ [z]).take i) ((b.zones ++ [z])[i]'(by simp; omega)) = 0
    rw [List.take_append_of_le_length (by omega), List.getElem_append_left hi]
    exact hp i hi
theorem twice_zone {b : Bk} (h : bkChk b = 0) (h19 : b.zones.length ≤ 19) {z : Zo} (hz : z ∈ b.zones) : bkChk ⟨b.rules, b.zones ++ [z], b.links⟩ = 7 := by
  have hl := bk_len h
  obtain ⟨i, hi, rfl⟩ := List.mem_iff_getElem.1 hz
  have hn := (bk_zone h i hi).nm
  have hc : zoneChk b.rules b.zones b.zones[i] = 7 := by
    unfold zoneChk
    rw [if_neg (by rw [hn]; decide), if_pos (List.any_eq_true.2 ⟨b.zones[i], List.getElem_mem hi, decide_eq_true rfl⟩)]
  have e := zones_snoc h b.zones[i] b.links
  rw [hc] at e
  have n1 : ¬ (40 < b.rules.length ∨ 20 < (b.zones ++ [b.zones[i]]).length ∨ 20 < b.links.length) := by rw [List.length_append, List.length_singleton]; omega
  have hh := bkChk_z (⟨b.rules, b.zones ++ [b.zones[i]], b.links⟩ : Bk) n1 (bk_ru0 (b := b) h) (by show firstE (chkZ ⟨b.rules, b.zones ++ [b.zones[i]], b.links⟩) (List.range (b.zones ++ [b.zones[i]]).length) ≠ 0; rw [e]; decide)
  exact hh.trans e
/-- a link's check in a book with a link more -/
theorem links_keep {b : Bk} (h : bkChk b = 0) (zs : List Zo) (ls : List Lk) (hz : ∀ n, isZone ⟨b.rules, zs, ls⟩ n = true → isZone b n = true ∨ ∀ y ∈ b.links, y.nm ≠ n) (hz2 : ∀ n, isZone b n = true → isZone ⟨b.rules, zs, ls⟩ n = true) (hl2 : ∀ n, isLink b.links n = true → isLink ls n = true)
    (i : Nat) (hi : i < b.links.length) : linkChk ⟨b.rules, zs, ls⟩ (b.links.take i) b.links[i] = 0 := by
  have h0 := (bk_parts h).2 i hi
  unfold linkChk at h0 ⊢
  split at h0
  · cases h0
  rename_i h1
  split at h0
  · cases h0
  rename_i h2
  split at h0
  · cases h0
  rename_i h3
  rw [if_neg h1, if_neg, if_neg]
  · rintro ⟨a, c⟩
    refine h3 ⟨?_, ?_⟩
    · cases e : isZone b b.links[i].tg with
      | false => rfl
      | true => rw [hz2 _ e] at a; cases a
    · cases e : isLink b.links b.links[i].tg with
      | false => rfl
      | true =>
        have c : isLink ls b.links[i].tg = false := c
        rw [hl2 _ e] at c; cases c
  · rintro (a | a)
    · rcases hz _ a with g | g
      · exact h2 (.inl g)
      · exact g _ (List.getElem_mem hi) rfl
    · exact h2 (.inr a)
theorem twice_link {b : Bk} (h : bkChk b = 0) (h19 : b.links.length ≤ 19) {z : Zo} (hz : z ∈ b.zones) : bkChk ⟨b.rules, b.zones, b.links ++ [⟨z.nm, z.nm⟩]⟩ = 7 := by
  have hl := bk_len h
  obtain ⟨i, hi, rfl⟩ := List.mem_iff_getElem.1 hz
  have hn := (bk_zone h i hi).nm
  have hzz : firstE (chkZ ⟨b.rules, b.zones, b.links ++ [⟨b.zones[i].nm, b.zones[i].nm⟩]⟩) (List.range b.zones.length) = 0 := by
    refine (firstE_zero _ _).2 fun j hj => ?_
    have hj := List.mem_range.1 hj
    have e0 := chkZ_at (⟨b.rules, b.zones, b.links ++ [⟨b.zones[i].nm, b.zones[i].nm⟩]⟩ : Bk) j hj
    refine e0.trans ?_
    exact (bk_parts h).1 j hj
  have n1 : ¬ (40 < b.rules.length ∨ 20 < b.zones.length ∨ 20 < (b.links ++ [(⟨b.zones[i].nm, b.zones[i].nm⟩ : Lk)]).length) := by rw [List.length_append, List.length_singleton]; omega
  have hh := bkChk_l (⟨b.rules, b.zones, b.links ++ [⟨b.zones[i].nm, b.zones[i].nm⟩]⟩ : Bk) n1 (bk_ru0 (b := b) h) hzz
  refine hh.trans ?_
  show firstE (chkL ⟨b.rules, b.zones, b.links ++ [⟨b.zones[i].nm, b.zones[i].nm⟩]⟩) (List.range (b.links ++ [(⟨b.zones[i].nm, b.zones[i].nm⟩ : Lk)]).length) = 7
  rw [List.length_append, List.length_singleton, List.range_succ, firstE_snoc]
  · have e0 := chkL_at (⟨b.rules, b.zones, b.links ++ [⟨b.zones[i].nm, b.zones[i].nm⟩]⟩ : Bk) b.links.length (by simp)
    refine e0.trans ?_
    have e : (b.links ++ [(⟨b.zones[i].nm, b.zones[i].nm⟩ : Lk)])[b.links.length]'(by simp) = ⟨b.zones[i].nm, b.zones[i].nm⟩ := by simp
    show linkChk _ _ ((b.links ++ [(⟨b.zones[i].nm, b.zones[i].nm⟩ : Lk)])[b.links.length]'(by simp)) = 7
    rw [e]
    unfold linkChk
    rw [if_neg (by show ¬ (nameB b.zones[i].nm = false ∨ nameB b.zones[i].nm = false); rw [hn]; decide), if_pos (.inl (List.any_eq_true.2 ⟨b.zones[i], List.getElem_mem hi, decide_eq_true rfl⟩))]
  · refine (firstE_zero _ _).2 fun j hj => ?_
    have hj := List.mem_range.1 hj
    have e0 := chkL_at (⟨b.rules, b.zones, b.links ++ [⟨b.zones[i].nm, b.zones[i].nm⟩]⟩ : Bk) j (by simp; omega)
    refine e0.trans ?_
    show linkChk _ ((b.links ++ [(⟨b.zones[i].nm, b.zones[i].nm⟩ : Lk)]).take j) ((b.links ++ [(⟨b.zones[i].nm, b.zones[i].nm⟩ : Lk)])[j]'(by simp; omega)) = 0
    rw [List.take_append_of_le_length (by omega), List.getElem_append_left hj]
    refine links_keep h b.zones (b.links ++ [⟨b.zones[i].nm, b.zones[i].nm⟩]) (fun n a => .inl a) (fun n a => a) (fun n a => ?_) j hj
    unfold isLink at a ⊢
    rw [List.any_append, a]; rfl
/-- a zone of another name: its own checks, and nothing else -/
theorem more_law {b : Bk} (h : bkChk b = 0) (h19 : b.zones.length ≤ 19) (z : Zo) (hz : ∀ y ∈ b.zones, y.nm ≠ z.nm) (hl : ∀ y ∈ b.links, y.nm ≠ z.nm) : bkChk ⟨b.rules, b.zones ++ [z], b.links⟩ = bkChk ⟨b.rules, [z], []⟩ := by
  have hk := bk_len h
  have h0 := bk_ru0 h
  have hc : zoneChk b.rules b.zones z = zoneChk b.rules [] z := by
    unfold zoneChk
    have e1 : (b.zones.any fun y => decide (y.nm = z.nm)) = false := by
      rw [List.any_eq_false]
      intro y hy
      simpa using hz y hy
    have e2 : (([] : List Zo).any fun y => decide (y.nm = z.nm)) = false := rfl
    rw [e1, e2]
  have e := zones_snoc h z b.links
  rw [hc] at e
  have n1 : ¬ (40 < (⟨b.rules, b.zones ++ [z], b.links⟩ : Bk).rules.length ∨ 20 < (⟨b.rules, b.zones ++ [z], b.links⟩ : Bk).zones.length ∨ 20 < (⟨b.rules, b.zones ++ [z], b.links⟩ : Bk).links.length) := by
    show ¬ (40 < b.rules.length ∨ 20 < (b.zones ++ [z]).length ∨ 20 < b.links.length)
    rw [List.length_append, List.length_singleton]; omega
  have n2 : ¬ (40 < (⟨b.rules, [z], []⟩ : Bk).rules.length ∨ 20 < (⟨b.rules, [z], []⟩ : Bk).zones.length ∨ 20 < (⟨b.rules, [z], []⟩ : Bk).links.length) := by
    show ¬ (40 < b.rules.length ∨ 20 < 1 ∨ 20 < 0)
    omega
  have e2 : firstE (chkZ ⟨b.rules, [z], []⟩) (List.range 1) = zoneChk b.rules [] z := by
    show (if chkZ ⟨b.rules, [z], []⟩ 0 = 0 then (0 : Int) else chkZ ⟨b.rules, [z], []⟩ 0) = _
    have : chkZ ⟨b.rules, [z], []⟩ 0 = zoneChk b.rules [] z := rfl
    rw [this]
    split <;> omega
  by_cases g : zoneChk b.rules [] z = 0
  · rw [g] at e e2
    rw [bkChk_l _ n1 h0 e, bkChk_l _ n2 h0 e2]
    show firstE (chkL ⟨b.rules, b.zones ++ [z], b.links⟩) (List.range b.links.length) = 0
    refine (firstE_zero _ _).2 fun j hj => ?_
    have hj := List.mem_range.1 hj
    rw [chkL_at (⟨b.rules, b.zones ++ [z], b.links⟩ : Bk) j hj]
    refine links_keep h (b.zones ++ [z]) b.links (fun n a => ?_) (fun n a => ?_) (fun n a => a) j hj
    · have a : ((b.zones ++ [z]).any fun y => decide (y.nm = n)) = true := a
      rw [List.any_append, Bool.or_eq_true] at a
      rcases a with a | a
      · exact .inl a
      · right
        have a : decide (z.nm = n) = true := by simpa using a
        have a := of_decide_eq_true a
        subst a
        exact hl
    · show ((b.zones ++ [z]).any fun y => decide (y.nm = n)) = true
      have a : (b.zones.any fun y => decide (y.nm = n)) = true := a
      rw [List.any_append, a]; rfl
  · rw [bkChk_z _ n1 h0 (by show firstE _ (List.range (b.zones ++ [z]).length) ≠ 0; rw [e]; exact g), bkChk_z _ n2 h0 (by show firstE _ (List.range 1) ≠ 0; rw [e2]; exact g)]
    show firstE _ (List.range (b.zones ++ [z]).length) = firstE _ (List.range 1)
    rw [e, e2]
end Go.Proofs.YtmhfhmhjaecoaaaGreatDoor
namespace Go.Proofs.YtmhfhmhjaecoaaaGreatDoor
set_option linter.unusedVariables false
set_option linter.unusedSimpArgs false

theorem wp_append_ownA {P : Program} (w : World) {o : Oper} {a : Act} {K : Act → World → Prop} {Q : Exit → Act → World → Prop} (s x : Operand) (t : TypeId)
    (ho : o.op = .call { callee := .builtin .append, args := #[s, x], argTypes := #[t, t] })
    (base : Nat) (e : TypeId) (i : TypeInfo) (z : Value) (size bytes : Nat) (ht : P.underlying t = some (.slice e)) (hi : P.info? e = some i) (hz : i.zero = some z)
    (hsize : i.size = size) (hby : i.bytes = bytes) (hzs : z.cells.size = size) (hsz : 0 < size)
    (v : Value) (n : Nat) (xs : List Value) (hs : a.eval s = v) (hown : w.ownsRow base e size v n xs)
    (ad : Addr) (m c : Nat) (news : List Value) (hx : a.eval x = .slice (some ad) m c) (hl : news.length = m * size) (hnews : ∀ j u, news[j]? = some u → w.cell? (ad.add j) = some u) (h1 : ∀ u ∈ news, u.oneCell' = true)
    (h63 : n + m ≤ maxLen) (hbytes : (n + m) * bytes ≤ 140737488355328) (hbase : base ≤ w.heap.size)
    (h : ∀ v' w', w'.ownsRow base e size v' (n + m) (xs ++ news) → w.grownBy w' v.ownBlock → (v'.ownBlock = v.ownBlock ∨ v'.ownBlock = some w.heap.size) → K (a.put o.dst v') w') : o.wp P a w K Q := by
  obtain ⟨v', w', hr, h2, h3, _, h5⟩ := run_append_own_at (P := P) w base t o.type e i z size bytes ht hi hz hsize hby hzs hsz v n xs hown ad m c news hl hnews h1 h63 hbytes hbase
  unfold Oper.wp execOp
  simp only [ho, resolve, invoke, builtin, Sem.run_bind, Sem.run_pure, Result.andThen_ok, List.map_toArray, List.map_cons, List.map_nil, hs, hx, hr]
  exact h v' w' h2 h3 h5
theorem step_append_ownA {P : Program} (w : World) {ops : Array Oper} {o : Oper} {a : Act} {K : Act → World → Prop} {Q : Exit → Act → World → Prop} {E : Prop} (hgd : o.guard = none) (s x : Operand) (t : TypeId)
    (ho : o.op = .call { callee := .builtin .append, args := #[s, x], argTypes := #[t, t] })
    (base : Nat) (e : TypeId) (i : TypeInfo) (z : Value) (size bytes : Nat) (ht : P.underlying t = some (.slice e)) (hi : P.info? e = some i) (hz : i.zero = some z)
    (hsize : i.size = size) (hby : i.bytes = bytes) (hzs : z.cells.size = size) (hsz : 0 < size)
    (v : Value) (n : Nat) (xs : List Value) (hs : a.eval s = v) (hown : w.ownsRow base e size v n xs)
    (ad : Addr) (m c : Nat) (news : List Value) (hx : a.eval x = .slice (some ad) m c) (hl : news.length = m * size) (hnews : ∀ j u, news[j]? = some u → w.cell? (ad.add j) = some u) (h1 : ∀ u ∈ news, u.oneCell' = true)
    (h63 : n + m ≤ maxLen) (hbytes : (n + m) * bytes ≤ 140737488355328) (hbase : base ≤ w.heap.size)
    (h : ∀ v' w', w'.ownsRow base e size v' (n + m) (xs ++ news) → w.grownBy w' v.ownBlock → (v'.ownBlock = v.ownBlock ∨ v'.ownBlock = some w.heap.size) → K (a.put o.dst v') w') :
    if Region.wanted o (yielded ops a.tmps) = true then Oper.wp P o a w K Q else E := by
  have hw : Region.wanted o (yielded ops a.tmps) = true := by simp [Region.wanted, hgd]
  rw [if_pos hw]
  exact wp_append_ownA w s x t ho base e i z size bytes ht hi hz hsize hby hzs hsz v n xs hs hown ad m c news hx hl hnews h1 h63 hbytes hbase h
theorem step_append_ownO {P : Program} (w : World) {ops : Array Oper} {o : Oper} {a : Act} {K : Act → World → Prop} {Q : Exit → Act → World → Prop} {E : Prop} (hgd : o.guard = none) (s x : Operand) (t : TypeId)
    (ho : o.op = .call { callee := .builtin .append, args := #[s, x], argTypes := #[t, t] })
    (base : Nat) (e : TypeId) (i : TypeInfo) (z : Value) (size bytes : Nat) (ht : P.underlying t = some (.slice e)) (hi : P.info? e = some i) (hz : i.zero = some z)
    (hsize : i.size = size) (hby : i.bytes = bytes) (hzs : z.cells.size = size) (hsz : 0 < size)
    (v : Value) (n : Nat) (xs : List Value) (hs : a.eval s = v) (hown : w.ownsRow base e size v n xs)
    (po : Option Addr) (m c : Nat) (hx : a.eval x = .slice po m c) (ad : Addr) (hpo : po = some ad) (news : List Value) (hl : news.length = m * size) (hnews : ∀ j u, news[j]? = some u → w.cell? (ad.add j) = some u) (h1 : ∀ u ∈ news, u.oneCell' = true)
    (h63 : n + m ≤ maxLen) (hbytes : (n + m) * bytes ≤ 140737488355328) (hbase : base ≤ w.heap.size)
    (h : ∀ v' w', w'.ownsRow base e size v' (n + m) (xs ++ news) → w.grownBy w' v.ownBlock → (v'.ownBlock = v.ownBlock ∨ v'.ownBlock = some w.heap.size) → K (a.put o.dst v') w') :
    if Region.wanted o (yielded ops a.tmps) = true then Oper.wp P o a w K Q else E := by
  have hw : Region.wanted o (yielded ops a.tmps) = true := by simp [Region.wanted, hgd]
  rw [if_pos hw]
  subst hpo
  exact wp_append_ownA w s x t ho base e i z size bytes ht hi hz hsize hby hzs hsz v n xs hs hown ad m c news hx hl hnews h1 h63 hbytes hbase h
end Go.Proofs.YtmhfhmhjaecoaaaGreatDoor
namespace Go.Proofs.YtmhfhmhjaecoaaaGreatDoor
open Go.RowKit
set_option linter.unusedVariables false
set_option linter.unusedSimpArgs false

theorem rest0_neg (n m : Int) (h0 : 0 < m) (h1 : m ≤ 4611686018427387904) (h : n.tmod m < 0) : wrap64 (n.tmod m + m) = n % m := by
  have q := Int.tmod_eq_emod (a := n) (b := m)
  have := Int.emod_nonneg n (show m ≠ 0 by omega)
  have := Int.emod_lt_of_pos n h0
  have e : n.tmod m + m = n % m := by
    split at q
    · omega
    · have : (m.natAbs : Int) = m := by omega
      omega
  rw [e]
  exact IntWalk.wrap64_in _ ⟨by omega, by omega⟩

theorem rest0_pos (n m : Int) (h0 : 0 < m) (h : 0 ≤ n.tmod m) : n.tmod m = n % m := by
  have q := Int.tmod_eq_emod (a := n) (b := m)
  have := Int.emod_lt_of_pos n h0
  split at q
  · omega
  · have : (m.natAbs : Int) = m := by omega
    omega
theorem ret_int0 {k : IntKind} {a b : Int} (h : a = b) : Ending.returned (.int k a) = .returned (.int k b) := by rw [h]
theorem Rest0_any (n m : Int) (w : World) (h0 : 0 < m) (h1 : m ≤ 1099511627776) :
    Calls Tryz.prog 15 #[.int .i64 n, .int .i64 m] w fun e w' => e = .returned (.int .i64 (n % m)) ∧ w = w' := by
  have hh : m ≤ 4611686018427387904 := by omega
  go_enter Tryz.func15, Tryz.ntmps15
  go_wp2
  · go_ret
    exact ⟨ret_int0 (rest0_neg n m h0 hh (by assumption)), rfl⟩
  · go_ret
    exact ⟨ret_int0 (rest0_pos n m h0 (by assumption)), rfl⟩
end Go.Proofs.YtmhfhmhjaecoaaaGreatDoor
namespace Go.Proofs.YtmhfhmhjaecoaaaGreatDoor
open Go.RowKit Go.Joins
open Classical
set_option linter.unusedVariables false
set_option linter.unusedSimpArgs false

def okL (l : List UInt8) : Bool := l.all (signB [43, 45])
theorem abbrB_iff (l : List UInt8) : abbrB (txt l) = true ↔ okL l = true ∧ l ≠ [] ∧ l.length ≤ 8 := by
  unfold abbrB allB okL
  rw [Bool.and_eq_true, Bool.and_eq_true, decide_eq_true_eq]
  have e : (txt l).data.toList = l := txt_data l
  have e2 : (txt l).size = l.length := by
    show (txt l).data.size = _
    rw [← Array.length_toList, e]
  rw [e, e2]
  have e3 : (⟨#[43, 45]⟩ : ByteArray).data.toList = [43, 45] := rfl
  rw [e3]
  constructor
  · rintro ⟨⟨h1, h2⟩, h3⟩
    exact ⟨h1, by simpa using h2, by omega⟩
  · rintro ⟨h1, h2, h3⟩
    exact ⟨⟨h1, by simpa using h2⟩, by omega⟩
theorem okL_app (a c : List UInt8) : okL (a ++ c) = true ↔ okL a = true ∧ okL c = true := by unfold okL; rw [List.all_append, Bool.and_eq_true]
/-- what is right of an abbreviation that was made -/
theorem abbrF_ok {f l : List UInt8} {s : Int} (h : (abbrF f s l).2 = 0) : (abbrF f s l).1 = abbrN f s l ∧ (splitF f).2.2.2 = true ∧ letterOk l = true ∧ 0 ≤ s ∧ s ≤ 10800 ∧ (abbrN f s l).length ≤ 8 ∧ abbrN f s l ≠ [] := by
  unfold abbrF at h ⊢
  by_cases h1 : (splitF f).2.2.2 = false ∨ letterOk l = false
  · rw [if_pos h1] at h; cases h
  · rw [if_neg h1] at h ⊢
    by_cases h2 : ¬ (0 ≤ s ∧ s ≤ 10800)
    · rw [if_pos h2] at h; cases h
    · rw [if_neg h2] at h ⊢
      by_cases h3 : 8 < (abbrN f s l).length
      · rw [if_pos h3] at h; cases h
      · rw [if_neg h3] at h ⊢
        by_cases h4 : abbrN f s l = []
        · rw [if_pos h4] at h; cases h
        · rw [if_neg h4]
          rw [not_or] at h1
          exact ⟨rfl, by simpa using h1.1, by simpa using h1.2, by omega, by omega, by omega, h4⟩
theorem abbrN_okL {f l : List UInt8} {s : Int} (h1 : (splitF f).2.2.2 = true) (h2 : letterOk l = true) : okL (abbrN f s l) = true := by
  have hl : okL (if l = [45] then [] else l) = true := by
    by_cases e : l = [45]
    · rw [if_pos e]; rfl
    · rw [if_neg e]
      unfold letterOk at h2
      rw [Bool.or_eq_true] at h2
      rcases h2 with h2 | h2
      · exact absurd (of_decide_eq_true h2) e
      · exact ((abbrB_iff l).1 h2).1
  unfold splitF at h1
  unfold abbrN splitF
  by_cases g1 : 12 < f.length
  · rw [if_pos g1] at h1; cases h1
  · rw [if_neg g1] at h1
    rw [if_neg g1]
    by_cases g2 : (Lib.cut f [47]).2.2 = true
    · rw [if_pos g2] at h1
      rw [if_pos g2]
      dsimp only at h1 ⊢
      rw [Bool.and_eq_true] at h1
      rw [if_pos rfl]
      split
      · exact ((abbrB_iff _).1 h1.1).1
      · exact ((abbrB_iff _).1 h1.2).1
    · rw [if_neg g2] at h1
      rw [if_neg g2]
      by_cases g3 : (Lib.cut f [37]).2.2 = true
      · rw [if_pos g3] at h1
        rw [if_pos g3]
        dsimp only at h1 ⊢
        rw [if_neg (by decide), if_pos rfl]
        have hab : okL ((Lib.cut f [37]).1 ++ (Lib.cut f [37]).2.1) = true := by
          rw [Bool.or_eq_true] at h1
          rcases h1 with h1 | h1
          · rw [of_decide_eq_true h1]; rfl
          · rw [Bool.and_eq_true] at h1
            exact ((abbrB_iff _).1 h1.2).1
        rw [okL_app] at hab
        rw [okL_app, okL_app]
        exact ⟨hab.1, hl, hab.2⟩
      · rw [if_neg g3] at h1
        rw [if_neg g3]
        dsimp only at h1 ⊢
        rw [if_neg (by decide), if_neg (by decide)]
        exact ((abbrB_iff _).1 h1).1
/-- a resulting abbreviation is one -/
theorem abbrF_abbr {f l : List UInt8} {s : Int} (h : (abbrF f s l).2 = 0) : abbrB (txt (abbrF f s l).1) = true := by
  obtain ⟨e, h1, h2, -, -, h3, h4⟩ := abbrF_ok h
  rw [e, abbrB_iff]
  exact ⟨abbrN_okL h1 h2, h4, h3⟩
theorem cut_noA {l : List UInt8} {c : UInt8} (h : c ∉ l) : (Lib.cut l [c]).2.2 = false := by
  have hi : Lib.index l [c] = -1 := Lib.index_none fun j hj => by
    cases ho : Lib.occAt l [c] j
    · rfl
    · exact absurd (List.mem_of_getElem? (Lib.occAt_head rfl ho)) h
  unfold Lib.cut
  rw [hi, if_neg (by omega)]
theorem okL_no {l : List UInt8} (h : okL l = true) : (47 : UInt8) ∉ l ∧ (37 : UInt8) ∉ l := by
  unfold okL at h
  rw [List.all_eq_true] at h
  refine ⟨fun g => ?_, fun g => ?_⟩
  · have := h _ g; revert this; decide
  · have := h _ g; revert this; decide
/-- an abbreviation as a format stands for itself -/
theorem abbrF_self {f : List UInt8} {s : Int} (h : abbrB (txt f) = true) (h0 : 0 ≤ s) (h1 : s ≤ 10800) : abbrF f s [45] = (f, 0) := by
  obtain ⟨h2, h3, h4⟩ := (abbrB_iff f).1 h
  obtain ⟨n1, n2⟩ := okL_no h2
  have e : splitF f = (f, [], [], true) := by
    unfold splitF
    rw [if_neg (by omega), cut_noA n1, cut_noA n2, if_neg (by decide), if_neg (by decide), h]
  have e2 : abbrN f s [45] = f := by unfold abbrN; rw [e]; rfl
  unfold abbrF
  rw [e, e2, if_neg (by simp [letterOk]), if_neg (by omega), if_neg (by omega), if_neg h3]
end Go.Proofs.YtmhfhmhjaecoaaaGreatDoor
