/- NormTypes: the table under way, and the law's walk. -/
import Derived.Test.YteoliifghhlinaaN2
import Derived.Test.YteoliifghhlinaaRotMath
import Derived.Deep.DeepCutAuto
import Derived.Handy
namespace Go.Proofs.Yteoliifghhlinaa
open Go.RowKit Go.Joins
open Classical
set_option linter.unusedVariables false
set_option linter.unusedSimpArgs false

/-- a table under way: its block, and its rows of own memory -/
structure Ub (W : World) (U b0 : Nat) (F : Int) (sv cv : Value) (T : List Ty) (C : List Ch) : Prop where
  blk : W.heap[U]? = some (.cells #[sv, .int .i64 F, cv] 25 (0, 0))
  hU : b0 ≤ U
  rowT : W.ownsRow b0 46 3 sv T.length (tyCells T)
  rowC : W.ownsRow b0 42 2 cv C.length (chCells C)

section
variable {W W' : World} {U b0 : Nat} {F : Int} {sv cv : Value} {T : List Ty} {C : List Ch}
theorem Ub.lt (h : Ub W U b0 F sv cv T C) : U < W.heap.size := (Array.getElem?_eq_some_iff.mp h.blk).1
theorem Ub.neT (h : Ub W U b0 F sv cv T C) : sv.ownBlock ≠ some U := by
  rcases h.rowT.2 with ⟨e, _⟩ | ⟨g, cap, cur, e, _, hg, _⟩
  · rw [e]; simp [Value.ownBlock]
  · rw [e]
    simp only [Value.ownBlock]
    intro e2
    injection e2 with e2
    subst e2
    rw [h.blk] at hg
    injection hg with hg
    injection hg with _ h2 _
    exact absurd h2 (by decide)
theorem Ub.neC (h : Ub W U b0 F sv cv T C) : cv.ownBlock ≠ some U := by
  rcases h.rowC.2 with ⟨e, _⟩ | ⟨g, cap, cur, e, _, hg, _⟩
  · rw [e]; simp [Value.ownBlock]
  · rw [e]
    simp only [Value.ownBlock]
    intro e2
    injection e2 with e2
    subst e2
    rw [h.blk] at hg
    injection hg with hg
    injection hg with _ h2 _
    exact absurd h2 (by decide)
theorem Ub.keep (h : Ub W U b0 F sv cv T C) (hk : ∀ b, b < W.heap.size → W'.heap[b]? = W.heap[b]?) : Ub W' U b0 F sv cv T C :=
  ⟨(hk _ h.lt).trans h.blk, h.hU, own_keep h.rowT fun g e => hk g (World.ownsRow.lt h.rowT g e).2, own_keep h.rowC fun g e => hk g (World.ownsRow.lt h.rowC g e).2⟩
theorem Ub.below (h : Ub W U b0 F sv cv T C) (hb : Below W.heap.size W W') : Ub W' U b0 F sv cv T C := h.keep hb.block
theorem Ub.cells (h : Ub W U b0 F sv cv T C) : W.cell? ⟨U, 0, none⟩ = some sv ∧ W.cell? ⟨U, 1, none⟩ = some (.int .i64 F) ∧ W.cell? ⟨U, 2, none⟩ = some cv ∧ (∀ o, W.frozen? ⟨U, o, none⟩ = false) :=
  ⟨(cell_of_row W _ 0 _ _ _ h.blk).trans rfl, (cell_of_row W _ 1 _ _ _ h.blk).trans rfl, (cell_of_row W _ 2 _ _ _ h.blk).trans rfl, fun o => by simp [World.frozen?, h.blk]⟩
/-- it is a table as it stands -/
theorem Ub.tab (h : Ub W U b0 F sv cv T C) (h1 : T.length ≤ 100000) (hn : ∀ x ∈ T, x.name.size ≤ maxLen) (h2 : C.length ≤ 100000) : TabAt W (.agg #[sv, .int .i64 F, cv]) ⟨T, F, C⟩ :=
  ⟨_, _, rfl, own_types h.rowT h1 hn, own_chs h.rowC h2⟩
end

noncomputable def rots (T : List Ty) (k r : Nat) : List Ty := (List.replicate r (rotL T k T.length)).flatten
theorem rots_two (T : List Ty) (k : Nat) : rots T k 2 = rotL T k T.length ++ rotL T k T.length := by simp [rots, List.replicate_succ]
theorem rots_succ (T : List Ty) (k r : Nat) : rots T k r ++ rotL T k T.length = rots T k (r + 1) := by
  unfold rots
  rw [List.replicate_succ', List.flatten_append]
  simp
theorem rots_len (T : List Ty) (k r : Nat) : (rots T k r).length = r * T.length := by simp [rots, rotL_len]
theorem rots_mem (T : List Ty) (k r : Nat) (h : 0 < T.length) : ∀ x ∈ rots T k r, x ∈ T := by
  intro x hx
  unfold rots at hx
  rw [List.mem_flatten] at hx
  obtain ⟨l, hl, hx⟩ := hx
  rw [List.eq_of_mem_replicate hl] at hx
  exact rotL_mem T k _ h x hx

theorem rot_w1 {j n : Nat} (h : j < n) (h1 : n ≤ 100) : IntKind.i64.wrap ((j : Int) + (n : Int)) = (j : Int) + (n : Int) := by rw [IntKind.wrap_i64]; omega
theorem rot_w2 {j n k : Nat} (h : j < n) (h1 : n ≤ 100) (hk : k < n) : IntKind.i64.wrap ((j : Int) + (n : Int) - (k : Int)) = (j : Int) + (n : Int) - (k : Int) := by rw [IntKind.wrap_i64]; omega
theorem rot_at {T : List Ty} {k j : Nat} (h : (j + T.length - k) % T.length < T.length) : rotF T k j = T[(j + T.length - k) % T.length] := by
  unfold rotF tyD
  rw [show (((j + T.length - k) % T.length : Nat) : Int).toNat = (j + T.length - k) % T.length by omega, List.getElem?_eq_getElem h]
  rfl

theorem rots_room (T : List Ty) (k r j : Nat) (hr : r < 2) (hj : j < T.length) (h : T.length ≤ 100) : (rots T k r ++ rotL T k j).length ≤ 199 := by
  rw [List.length_append, rots_len, rotL_len]
  have : r = 0 ∨ r = 1 := by omega
  rcases this with rfl | rfl <;> omega

/-- one more type -/
theorem ub_types {W w6 : World} {U b0 : Nat} {F : Int} {A : Option Addr} {cS cap6 g6 : Nat} {cv : Value} {T : List Ty} {C : List Ch} {x : Ty} {o : Obj} (h : Ub W U b0 F (.slice A T.length cS) cv T C) (hb : b0 ≤ W.heap.size)
    (hown : w6.ownsRow b0 46 3 (.slice (some ⟨g6, 0, none⟩) (T.length + 1) cap6) (T.length + 1) (tyCells T ++ [.int .i64 x.off, .bool x.save, .string x.name]))
    (hg : (W.drew.alloc o).grownBy w6 (Value.slice A T.length cS).ownBlock) (hat : (Value.slice A T.length cS).ownBlock = some g6 ∨ g6 = W.heap.size + 1) (y6 : w6.heap[U]? = some (.cells #[.slice A T.length cS, .int .i64 F, cv] 25 (0, 0))) :
    Ub (w6.setCell ⟨U, 0, none⟩ (.slice (some ⟨g6, 0, none⟩) (T.length + 1) cap6)) U b0 F (.slice (some ⟨g6, 0, none⟩) (T.length + 1) cap6) cv (T ++ [x]) C ∧ Below b0 W (w6.setCell ⟨U, 0, none⟩ (.slice (some ⟨g6, 0, none⟩) (T.length + 1) cap6)) := by
  have hgU : g6 ≠ U := by
    intro e
    rcases hat with h1 | h1
    · exact h.neT (by rw [h1, e])
    · have := h.lt; omega
  have hs : ∀ g, (Value.slice A T.length cS).ownBlock = some g → g < (W.drew.alloc o).heap.size := fun g e => by
    have := (World.ownsRow.lt h.rowT g e).2
    simp; omega
  refine ⟨⟨(heap_setCm y6 _).trans rfl, h.hU, ?_, ?_⟩, ?_⟩
  · rw [tyCells_snoc, List.length_append]
    exact own_keep hown fun g e => Below.heap_setCell _ _ _ _ (by simp only [Value.ownBlock] at e; injection e with e; show g ≠ U; omega)
  · refine own_keep h.rowC fun g e => (Below.heap_setCell _ _ _ _ (by show g ≠ U; exact fun e2 => h.neC (by rw [e, e2]))).trans ((hg.block g (by have := (World.ownsRow.lt h.rowC g e).2; simp; omega) ?_).trans (Below.heap_alloc W.drew _ g (World.ownsRow.lt h.rowC g e).2))
    intro e2
    rcases own_apart h.rowT h.rowC (by decide) with h1 | h1
    · rw [h1] at e2; cases e2
    · exact h1 (by rw [e, e2])
  · exact ((((Below.refl b0 W).drew).alloc hb _).grown hg (by simp; omega) (fun g e => (World.ownsRow.lt h.rowT g e).1)).setCell (by exact h.hU) _

theorem rots_two200 (T : List Ty) (k : Nat) (h : T.length ≤ 100) : (rots T k 2).length ≤ 200 := by rw [rots_len]; omega
theorem rot_c1 {c : Int} {n k : Nat} (h : 0 ≤ c) (h1 : c < n) (hk : k < n) (hn : n ≤ 100) : IntKind.i64.wrap (c + (k : Int)) = c + (k : Int) := by rw [IntKind.wrap_i64]; omega
theorem rot_c4 {B n : Nat} (h : B < 2) (hn : n ≤ 100) : IntKind.i64.wrap ((n : Int) * (B : Int)) = (n : Int) * (B : Int) := by
  rw [IntKind.wrap_i64]
  obtain rfl | rfl : B = 0 ∨ B = 1 := by omega
  · simp
  · simp; omega
theorem rot_c5 {I B n : Nat} (hI : I < n) (h : B < 2) (hn : n ≤ 100) : IntKind.i64.wrap ((I : Int) + (n : Int) * (B : Int)) = (I : Int) + (n : Int) * (B : Int) := by
  rw [IntKind.wrap_i64]
  obtain rfl | rfl : B = 0 ∨ B = 1 := by omega
  · simp; omega
  · simp; omega
/-- one more change -/
theorem ub_chs {W w6 : World} {U b0 : Nat} {F : Int} {A : Option Addr} {cS cap6 g6 : Nat} {sv : Value} {T : List Ty} {C : List Ch} {x : Ch} {o : Obj} (h : Ub W U b0 F sv (.slice A C.length cS) T C) (hb : b0 ≤ W.heap.size)
    (hown : w6.ownsRow b0 42 2 (.slice (some ⟨g6, 0, none⟩) (C.length + 1) cap6) (C.length + 1) (chCells C ++ [.int .i64 x.t, .int .i64 x.k]))
    (hg : (W.drew.alloc o).grownBy w6 (Value.slice A C.length cS).ownBlock) (hat : (Value.slice A C.length cS).ownBlock = some g6 ∨ g6 = W.heap.size + 1) (y6 : w6.heap[U]? = some (.cells #[sv, .int .i64 F, .slice A C.length cS] 25 (0, 0))) :
    Ub (w6.setCell ⟨U, 2, none⟩ (.slice (some ⟨g6, 0, none⟩) (C.length + 1) cap6)) U b0 F sv (.slice (some ⟨g6, 0, none⟩) (C.length + 1) cap6) T (C ++ [x]) ∧ Below b0 W (w6.setCell ⟨U, 2, none⟩ (.slice (some ⟨g6, 0, none⟩) (C.length + 1) cap6)) := by
  have hgU : g6 ≠ U := by
    intro e
    rcases hat with h1 | h1
    · exact h.neC (by rw [h1, e])
    · have := h.lt; omega
  refine ⟨⟨(heap_setCm y6 _).trans rfl, h.hU, ?_, ?_⟩, ?_⟩
  · refine own_keep h.rowT fun g e => (Below.heap_setCell _ _ _ _ (by show g ≠ U; exact fun e2 => h.neT (by rw [e, e2]))).trans ((hg.block g (by have := (World.ownsRow.lt h.rowT g e).2; simp; omega) ?_).trans (Below.heap_alloc W.drew _ g (World.ownsRow.lt h.rowT g e).2))
    intro e2
    rcases own_apart h.rowC h.rowT (by decide) with h1 | h1
    · rw [h1] at e2; cases e2
    · exact h1 (by rw [e, e2])
  · rw [chCells_snoc, List.length_append]
    exact own_keep hown fun g e => Below.heap_setCell _ _ _ _ (by simp only [Value.ownBlock] at e; injection e with e; show g ≠ U; omega)
  · exact ((((Below.refl b0 W).drew).alloc hb _).grown hg (by simp; omega) (fun g e => (World.ownsRow.lt h.rowC g e).1)).setCell (by exact h.hU) _

/-- a boxed table's rows -/
theorem tab_rows {w : World} {p1 p2 : Option Addr} {c1 c2 n m : Nat} {f : Int} {t : Tab} (h : TabAt w (.agg #[.slice p1 n c1, .int .i64 f, .slice p2 m c2]) t) :
    (t.types ≠ [] → ∃ b o, p1 = some ⟨b, o, none⟩ ∧ b < w.heap.size ∧ ∀ i (h : i < t.types.length), tyAt w b (o + i * 3) t.types[i]) ∧
    (t.chs ≠ [] → ∃ b o, p2 = some ⟨b, o, none⟩ ∧ b < w.heap.size ∧ ∀ i (h : i < t.chs.length), chAt w b (o + i * 2) t.chs[i]) := by
  obtain ⟨h1, h2, -⟩ := tabOf_slices h
  obtain ⟨⟨q, c, e, g1⟩, -, -⟩ := h1
  obtain ⟨⟨q', c', e', g2⟩, -⟩ := h2
  injection e with e _ _
  injection e' with e' _ _
  subst e e'
  exact ⟨g1, g2⟩

set_option maxRecDepth 100000 in
set_option maxHeartbeats 8000000 in
theorem NormTypes_walk (t : Tab) (v : Value) (a1 : Int) (w : World) (hv : TabAt w v t) :
    Calls Try.prog 7 #[v, .int .i64 a1] w fun e w' => e = .returned (.bool true) ∧ Below w.heap.size w w' := by
  obtain ⟨p1, c1, p2, c2, rfl⟩ := tabForms hv
  obtain ⟨W0, eW⟩ : ∃ W0, w.alloc (.cells #[.slice p1 t.types.length c1, .int .i64 t.first, .slice p2 t.chs.length c2] 25) = W0 := ⟨_, rfl⟩
  have HX : Hid (TBx W0 w.heap.size p1 c1 p2 c2 t) := by show TBx _ _ _ _ _ _ _; rw [← eW]; exact TBx.box hv
  have HB : Hid (Below w.heap.size w W0) := by show Below _ _ _; rw [← eW]; exact below_al _ _
  have HEW := Lib.hid eW
  clear hv eW
  go_enter Try.func7, Try.ntmps7
  go_wp2_with fail
  rw [HEW.out]
  refine (normed_any _).mono ?_
  rintro e w1 ⟨rfl, hb1⟩
  have HX1 := Lib.hid (HX.out.below hb1)
  have HB1 := Lib.hid (HB.out.trans (hb1.mono HB.out.size))
  obtain ⟨x0, x1, x2⟩ := HX1.out.cells
  have hl1 := HX1.out.lt
  clear hb1 HX HB
  go_wp2_with fail
  refine (Check_any t _ w1 HX1.out.2).mono ?_
  rintro e w2 ⟨rfl, hb2⟩
  have HX2 := Lib.hid (HX1.out.below hb2)
  have HB2 := Lib.hid (HB1.out.trans (hb2.mono HB1.out.size))
  obtain ⟨y0, y1, y2⟩ := HX2.out.cells
  have hl2 := HX2.out.lt
  clear hb2 HX1 HB1 x0 x1 x2 hl1
  by_cases hk : chk t = 0
  · have HK := Lib.hid hk
    rw [hk]
    by_cases h100 : t.types.length ≤ 100
    · have ok := Lib.hid (chk_ok t hk)
      have hn0 : 0 < t.types.length := List.length_pos_iff.2 ok.out.ne
      have HF := Lib.hid (fun W => Rest_any a1 (t.types.length : Int) W (by omega) (by omega))
      have hpos : (0 : Int) < t.types.length := by omega
      obtain ⟨k, ek⟩ : ∃ k : Nat, a1 % (t.types.length : Int) = k := ⟨(a1 % (t.types.length : Int)).toNat, (Int.toNat_of_nonneg (Int.emod_nonneg _ (by omega))).symm⟩
      have hkn : k < t.types.length := by
        have := Int.emod_lt_of_pos a1 hpos
        omega
      rw [ek] at HF
      have hg : decide (100 < (t.types.length : Int)) = false := by simp; omega
      clear hk ek
      go_wp2_with fail
      refine (HF.out _).mono ?_
      rintro e w' ⟨rfl, rfl⟩
      go_upto_region 9 with fail
      have okf := ok.out.first
      have hw1 : wrap64 (t.first + (k : Int)) = t.first + k := by unfold wrap64; omega
      have hw2 := rot_new t.first t.types.length k okf.1
      have hmod : (t.first.toNat + k) % t.types.length < t.types.length := Nat.mod_lt _ hn0
      obtain ⟨F0, eF0⟩ : ∃ F0, (t.first.toNat + k) % t.types.length = F0 := ⟨_, rfl⟩
      rw [eF0] at hw2 hmod
      have hw3 : wrap64 ((F0 : Int) + (t.types.length : Int)) = ((F0 + t.types.length : Nat) : Int) := by unfold wrap64; omega
      rw [hw1, hw2, hw3]
      obtain ⟨F, eF⟩ : ∃ F : Int, ((F0 + t.types.length : Nat) : Int) = F := ⟨_, rfl⟩
      rw [eF]
      have HEF : Hid (rotT t k = ⟨rots t.types k 2, F, rotCs t.types.length k t.chs⟩) := by
        show _ = _
        unfold rotT
        rw [rots_two, eF0, eF]
      obtain ⟨W3, e3⟩ : ∃ W3, w2.alloc (.cells #[.slice none 0 0, .int .i64 F, .slice none 0 0] 25) = W3 := ⟨_, rfl⟩
      have HU : Hid (Ub W3 w2.heap.size w2.heap.size F (.slice none 0 0) (.slice none 0 0) [] []) := by
        show Ub _ _ _ _ _ _ _ _
        rw [← e3]
        exact ⟨heap_alloc_new _ _, Nat.le_refl _, World.ownsRow_nil _ _ _ _, World.ownsRow_nil _ _ _ _⟩
      have HBU : Hid (Below w2.heap.size w2 W3) := by show Below _ _ _; rw [← e3]; exact below_al _ _
      rw [e3]
      obtain ⟨hty, hch⟩ := tab_rows HX2.out.2
      obtain ⟨b, o, rfl, hb, hty⟩ := hty ok.out.ne
      have HTY := Lib.hid hty
      have HCH := Lib.hid hch
      obtain ⟨iT, hiT, hT0, hT1, hT2⟩ := info_parts infoTyN
      obtain ⟨iC, hiC, hC0, hC1, hC2⟩ := info_parts infoChN
      clear hw1 hw2 hw3 hmod eF0 eF e3 hty hch okf y0 y1 y2
      go_loopw [42] (fun i wr => ∃ (r : Nat) (sv : Value), r ≤ 2 ∧ i = .int .i64 r ∧ Ub wr w2.heap.size w2.heap.size F sv (.slice none 0 0) (rots t.types k r) [] ∧ Below w2.heap.size w2 wr) (fun i _ => 2 - (intOf i).toNat)
      case atStart => exact ⟨0, .slice none 0 0, by omega, rfl, HU.out, HBU.out⟩
      case round =>
        obtain ⟨r, sv, hr, rfl, hu, hbr⟩ := hrel
        have HUR := Lib.hid hu
        have HBR := Lib.hid hbr
        have hwr : w2.heap.size ≤ wr.heap.size := hbr.size
        have HXR := Lib.hid (HX2.out.below hbr)
        obtain ⟨y0, y1, y2⟩ := HXR.out.cells
        have hlr := HXR.out.lt
        clear hu hbr
        by_cases hr2 : r < 2
        · have hrb : decide ((r : Int) < 2) = true := by simp; omega
          go_wp2_with fail
          go_loopw [47] (fun i wr => ∃ (j : Nat) (sv : Value), j ≤ t.types.length ∧ i = .int .i64 j ∧ Ub wr w2.heap.size w2.heap.size F sv (.slice none 0 0) (rots t.types k r ++ rotL t.types k j) [] ∧ Below w2.heap.size w2 wr) (fun i _ => t.types.length - (intOf i).toNat)
          case atStart => exact ⟨0, sv, by omega, rfl, by simpa [rotL] using HUR.out, HBR.out⟩
          case round =>
            clear HUR HBR HXR y0 y1 y2 hlr hwr
            obtain ⟨j, sv, hj, rfl, hu, hbr⟩ := hrel
            have HUR := Lib.hid hu
            have HBR := Lib.hid hbr
            have hwr : w2.heap.size ≤ wr.heap.size := hbr.size
            have HXR := Lib.hid (HX2.out.below hbr)
            obtain ⟨y0, y1, y2⟩ := HXR.out.cells
            obtain ⟨s0, s1, s2, s3⟩ := HUR.out.cells
            have hlr := HXR.out.lt
            have hlu := HUR.out.lt
            clear hu hbr
            by_cases hjn : j < t.types.length
            · have hw1 := rot_w1 hjn h100
              have hne : t.types ≠ [] := ok.out.ne
              have hw2 := rot_w2 hjn h100 hkn
              have hw3 := rot_idx j t.types.length k (Nat.le_of_lt hkn)
              have hmod : (j + t.types.length - k) % t.types.length < t.types.length := Nat.mod_lt _ hn0
              have hx := Lib.hid (rot_at hmod)
              have h1 := (HTY.out _ hmod).below HBR.out hb
              rw [← hx.out] at h1
              obtain ⟨x, ex⟩ : ∃ x, rotF t.types k j = x := ⟨_, rfl⟩
              rw [ex] at h1
              clear hx
              obtain ⟨I, eI⟩ : ∃ I, (j + t.types.length - k) % t.types.length = I := ⟨_, rfl⟩
              rw [eI] at h1 hw3 hmod
              obtain ⟨d0, d1, d2⟩ := h1
              have EX := Lib.hid ex
              clear ex eI
              obtain ⟨L, eL⟩ : ∃ L, rots t.types k r ++ rotL t.types k j = L := ⟨_, rfl⟩
              have hLn := rots_room t.types k r j hr2 hjn h100
              rw [eL] at HUR hLn
              have EL := Lib.hid eL
              obtain ⟨A, cS, rfl⟩ := own_sliceN HUR.out.rowT
              have HL1 : Hid (L.length + 1 ≤ maxLen) := by show _ ≤ _; simp only [maxLen]; omega
              have HL2 : Hid ((L.length + 1) * 32 ≤ 140737488355328) := by show _ ≤ _; omega
              have H1 : Hid (∀ u ∈ [Value.int .i64 x.off, .bool x.save, .string x.name], u.oneCell' = true) := by intro u hu; simp at hu; rcases hu with rfl | rfl | rfl <;> rfl
              have HB4 : Hid (∀ o : Obj, w2.heap.size ≤ (wr.drew.alloc o).heap.size) := fun o => by simp; omega
              clear eL
              go_upto_region 13 with fail
              go_region_law (first
                | (refine step_append_lies _ (by rfl) _ _ _ (by rfl) w2.heap.size 46 iT _ 3 32 undTypesN hiT hT0 hT1 hT2 rfl (by decide) (.slice A L.length cS) L.length (tyCells L) (by rfl) (World.ownsRow.alloc (World.ownsRow.drew HUR.out.rowT) _) ⟨wr.heap.size, 0, none⟩ 1 1 [.int .i64 x.off, .bool x.save, .string x.name] (by rfl) (by rfl) (World.news_of_block (cs := #[.int .i64 x.off, .bool x.save, .string x.name]) (t := 46) (fr := (0, 0)) (heap_alloc_new wr.drew _)) H1.out Nat.one_pos HL1.out HL2.out (HB4.out _) (wr.heap.size + 1) (by simp) ?_; intro g6 cap6 w6 hown6 hg6 hat6 hlt6; have hk6 : ∀ b, b < wr.heap.size → (Value.slice A L.length cS).ownBlock ≠ some b → w6.heap[b]? = wr.heap[b]? := (fun b hb hne => (hg6.block b (by simp; omega) (fun e => hne e.symm)).trans (Below.heap_alloc wr.drew _ b hb)); have y6 := (hk6 w2.heap.size hlu HUR.out.neT).trans HUR.out.blk; have t2 := (cell_of_row w6 _ 0 _ _ _ y6).trans (show _ = some (Value.slice A L.length cS) from rfl); have tz : w6.frozen? ⟨w2.heap.size, 0, none⟩ = false := (by simp [World.frozen?, y6])))
              all_goals
                have HR := Lib.hid (ub_types HUR.out hwr hown6 hg6 hat6 y6)
                go_wp2
                go_roundw
                case rel => exact ⟨j + 1, .slice (some ⟨g6, 0, none⟩) (L.length + 1) cap6, hjn, by go_num, by rw [rotL_succ, ← List.append_assoc, EL.out, EX.out]; exact HR.out.1, HBR.out.trans HR.out.2⟩
                case measure => simp [intOf]; omega
            · obtain rfl : j = t.types.length := by omega
              rw [rots_succ] at HUR
              go_wp2_with fail
              go_roundw
              case rel => exact ⟨r + 1, sv, by omega, by go_num, HUR.out, HBR.out⟩
              case measure => simp [intOf]; omega
        · have hr3 : r = 2 := by omega
          rw [hr3] at HUR
          have hrb : decide ((r : Int) < 2) = false := by simp; omega
          have hT2 := rots_two200 t.types k h100
          have hnm : ∀ x ∈ rots t.types k 2, x.name.size ≤ maxLen := fun x hx => (tabOf_slices HX2.out.2).1.names x (rots_mem _ _ _ hn0 x hx)
          obtain ⟨T2, eT2⟩ : ∃ T2, rots t.types k 2 = T2 := ⟨_, rfl⟩
          rw [eT2] at HUR hT2 hnm HEF
          have HNM := Lib.hid hnm
          clear eT2 hr hr2 hr3 hnm
          go_upto_region 16 with fail
          go_wp2_with fail
          go_loopw [71] (fun i wr => ∃ (j : Nat) (cv : Value), j ≤ t.chs.length ∧ i = .int .i64 j ∧ Ub wr w2.heap.size w2.heap.size F sv cv T2 (rotCs t.types.length k (t.chs.take j)) ∧ Below w2.heap.size w2 wr) (fun i _ => t.chs.length - (intOf i).toNat)
          case atStart => exact ⟨0, _, Nat.zero_le _, rfl, HUR.out, HBR.out⟩
          case round =>
            clear HUR HBR HXR y0 y1 y2 hlr hwr
            obtain ⟨j, cv, hj, rfl, hu, hbr⟩ := hrel
            have HUR := Lib.hid hu
            have HBR := Lib.hid hbr
            have hwr : w2.heap.size ≤ wr.heap.size := hbr.size
            have HXR := Lib.hid (HX2.out.below hbr)
            have hchs := ok.out.chs
            clear hu hbr
            by_cases hjn : j < t.chs.length
            · have hne : t.chs ≠ [] := fun e => by rw [e] at hjn; exact absurd hjn (Nat.not_lt_zero _)
              obtain ⟨cb, co, rfl, hcb, hat⟩ := HCH.out hne
              obtain ⟨c, ec⟩ : ∃ c, t.chs[j] = c := ⟨_, rfl⟩
              have h1 := (hat j hjn).below HBR.out hcb
              have hck := ok.out.ch c (by rw [← ec]; exact List.getElem_mem _)
              rw [ec] at h1
              obtain ⟨d0, d1⟩ := h1
              have hs : Hid (rotCs t.types.length k (t.chs.take (j + 1)) = rotCs t.types.length k (t.chs.take j) ++ [rotC t.types.length k j c]) := by
                show _ = _
                rw [List.take_succ_eq_append_getElem hjn, ec, rotCs_snoc, List.length_take, Nat.min_eq_left (Nat.le_of_lt hjn)]
              have hLn : (rotCs t.types.length k (t.chs.take j)).length = j := by rw [rotCs_len, List.length_take, Nat.min_eq_left (Nat.le_of_lt hjn)]
              obtain ⟨L, eL⟩ : ∃ L, rotCs t.types.length k (t.chs.take j) = L := ⟨_, rfl⟩
              rw [eL] at HUR hs hLn
              have e1 := rot_c1 hck.2.2.1 hck.2.2.2 hkn h100
              have e2 := rot_new c.k t.types.length k hck.2.2.1
              have e3 := two_idx j
              obtain ⟨I, eI⟩ : ∃ I, (c.k.toNat + k) % t.types.length = I := ⟨_, rfl⟩
              have hI : I < t.types.length := by rw [← eI]; exact Nat.mod_lt _ hn0
              obtain ⟨B, eB⟩ : ∃ B, j % 2 = B := ⟨_, rfl⟩
              have hB : B < 2 := by rw [← eB]; exact Nat.mod_lt _ (by decide)
              have HRC : Hid (rotC t.types.length k j c = ⟨c.t, (I : Int) + (t.types.length : Int) * (B : Int)⟩) := by
                show _ = _
                unfold rotC
                rw [eI, eB, Int.natCast_add, Int.natCast_mul]
              rw [eI] at e2
              rw [eB] at e3
              have e4 := rot_c4 hB h100
              have e5 := rot_c5 hI hB h100
              obtain ⟨A, cS, rfl⟩ := own_sliceN HUR.out.rowC
              have hLn2 : L.length ≤ 2000 := by omega
              have HL1 : Hid (L.length + 1 ≤ maxLen) := by show _ ≤ _; simp only [maxLen]; omega
              have HL2 : Hid ((L.length + 1) * 16 ≤ 140737488355328) := by show _ ≤ _; omega
              have H1 : Hid (∀ u ∈ [Value.int .i64 c.t, .int .i64 ((I : Int) + (t.types.length : Int) * (B : Int))], u.oneCell' = true) := by intro u hu; simp at hu; rcases hu with rfl | rfl <;> rfl
              have HUA : Hid (Ub (wr.alloc (.cells #[.int .i64 c.t, .int .i64 c.k] 42)) w2.heap.size w2.heap.size F sv (.slice A L.length cS) T2 L) := by
                show Ub _ _ _ _ _ _ _ _
                exact HUR.out.keep fun b hb => Below.heap_alloc _ _ _ hb
              obtain ⟨WC, eW⟩ : ∃ WC, wr.alloc (.cells #[.int .i64 c.t, .int .i64 c.k] 42) = WC := ⟨_, rfl⟩
              have hzC : WC.heap.size = wr.heap.size + 1 := by rw [← eW]; simp
              have hc0 : WC.cell? ⟨wr.heap.size, 0, none⟩ = some (.int .i64 c.t) := by rw [← eW]; exact (cell_of_row _ _ 0 _ _ _ (heap_alloc_new wr _)).trans rfl
              have hc1 : WC.cell? ⟨wr.heap.size, 1, none⟩ = some (.int .i64 c.k) := by rw [← eW]; exact (cell_of_row _ _ 1 _ _ _ (heap_alloc_new wr _)).trans rfl
              have HBC : Hid (Below w2.heap.size wr WC) := by show Below _ _ _; rw [← eW]; exact (Below.refl _ _).alloc hwr _
              rw [eW] at HUA
              have HB4 : Hid (∀ o : Obj, w2.heap.size ≤ (WC.drew.alloc o).heap.size) := fun o => by simp; omega
              obtain ⟨s0, s1, s2, s3⟩ := HUA.out.cells
              have hlu := HUA.out.lt
              have hcl : wr.heap.size < WC.heap.size := by omega
              have EW := Lib.hid eW
              have hne2 : t.types ≠ [] := ok.out.ne
              have HZC := Lib.hid hzC
              clear eL ec eI eB hat hne hck eW hzC hLn
              go_upto_region 19 with fail
              rw [EW.out]
              go_region_law (first
                | (refine step_append_lies _ (by rfl) _ _ _ (by rfl) w2.heap.size 42 iC _ 2 16 undChsN hiC hC0 hC1 hC2 rfl (by decide) (.slice A L.length cS) L.length (chCells L) (by rfl) (World.ownsRow.alloc (World.ownsRow.drew HUA.out.rowC) _) ⟨WC.heap.size, 0, none⟩ 1 1 [.int .i64 c.t, .int .i64 ((I : Int) + (t.types.length : Int) * (B : Int))] (by rfl) (by rfl) (World.news_of_block (cs := #[.int .i64 c.t, .int .i64 ((I : Int) + (t.types.length : Int) * (B : Int))]) (t := 42) (fr := (0, 0)) (heap_alloc_new WC.drew _)) H1.out Nat.one_pos HL1.out HL2.out (HB4.out _) (WC.heap.size + 1) (by simp) ?_; intro g6 cap6 w6 hown6 hg6 hat6 hlt6; have hk6 : ∀ b, b < WC.heap.size → (Value.slice A L.length cS).ownBlock ≠ some b → w6.heap[b]? = WC.heap[b]? := (fun b hb hne => (hg6.block b (by simp; omega) (fun e => hne e.symm)).trans (Below.heap_alloc WC.drew _ b hb)); have y6 := (hk6 w2.heap.size hlu HUA.out.neC).trans HUA.out.blk; have t2 := (cell_of_row w6 _ 2 _ _ _ y6).trans (show _ = some (Value.slice A L.length cS) from rfl); have tz : w6.frozen? ⟨w2.heap.size, 2, none⟩ = false := (by simp [World.frozen?, y6])))
              all_goals
                have HR := Lib.hid (ub_chs (x := ⟨c.t, (I : Int) + (t.types.length : Int) * (B : Int)⟩) HUA.out (Nat.le_trans hwr HBC.out.size) hown6 hg6 hat6 y6)
                go_wp2
                go_roundw
                case rel => exact ⟨j + 1, .slice (some ⟨g6, 0, none⟩) (L.length + 1) cap6, hjn, by go_num, by rw [hs.out, HRC.out]; exact HR.out.1, HBR.out.trans (HBC.out.trans HR.out.2)⟩
                case measure => simp [intOf]; omega
            · obtain rfl : j = t.chs.length := by omega
              rw [List.take_length] at HUR
              have hul : (rotCs t.types.length k t.chs).length ≤ 100000 := by rw [rotCs_len]; omega
              have htu := HUR.out.tab (by omega) HNM.out hul
              rw [← HEF.out] at htu
              obtain ⟨q1, d1, q2, d2, e⟩ := tabForms htu
              simp only [Value.agg.injEq, Array.mk.injEq, List.cons.injEq, Value.int.injEq, and_true] at e
              obtain ⟨rfl, ⟨-, eF⟩, rfl⟩ := e
              have HXU : Hid (TBx wr w2.heap.size q1 d1 q2 d2 (rotT t k)) := by
                show TBx _ _ _ _ _ _ _
                refine ⟨?_, by rw [eF] at htu; exact htu⟩
                rw [HUR.out.blk, eF]
              have hcu : chk (rotT t k) = 0 := ok_chk _ (rot_ok t ok.out k hkn h100)
              have hnu : normT (rotT t k) = normT t := rot_norm t ok.out k hkn
              obtain ⟨u, eu⟩ : ∃ u, rotT t k = u := ⟨_, rfl⟩
              rw [eu] at HXU hcu hnu
              have HS := Lib.hid (Same_ok t u _ _ wr HXR.out.2 HXU.out.2 HK.out hcu)
              rw [hnu, decide_eq_true (rfl : normT t = normT t)] at HS
              have HN1 := Lib.hid (fun W (hb : Below wr.heap.size wr W) => Norm_ok t _ W (HXR.out.2.below hb) HK.out)
              have HN2 := Lib.hid (fun W (hb : Below wr.heap.size wr W) => Norm_ok u _ W (HXU.out.2.below hb) hcu)
              rw [hnu] at HN2
              have HBA := Lib.hid (HB2.out.trans (HBR.out.mono HB2.out.size))
              obtain ⟨y0, y1, y2⟩ := HXR.out.cells
              obtain ⟨s0, s1, s2⟩ := HXU.out.cells
              clear htu eF hcu hnu eu hul
              go_wp2_with fail
              refine HS.out.mono ?_
              rintro e w3 ⟨rfl, hb3⟩
              have HB3 := Lib.hid hb3
              obtain ⟨y0, y1, y2⟩ := (HXR.out.below hb3).cells
              clear hb3 s0 s1 s2
              go_wp2_with fail
              refine (HN1.out _ HB3.out).mono ?_
              rintro e w4 ⟨v4, rfl, hv4, hb4⟩
              obtain ⟨r1, g1, r2, g2, rfl⟩ := tabForms hv4
              obtain ⟨WA, eA⟩ : ∃ WA, w4.alloc (.cells #[.slice r1 (normT t).types.length g1, .int .i64 (normT t).first, .slice r2 (normT t).chs.length g2] 25) = WA := ⟨_, rfl⟩
              have HPA := Lib.hid (TBx.box hv4)
              have hba := below_al w4 (.cells #[.slice r1 (normT t).types.length g1, .int .i64 (normT t).first, .slice r2 (normT t).chs.length g2] 25)
              rw [eA] at HPA hba
              have HB4 := Lib.hid (HB3.out.trans (hb4.mono HB3.out.size))
              have HBW := Lib.hid (HB4.out.trans (hba.mono HB4.out.size))
              obtain ⟨s0, s1, s2⟩ := (HXU.out.below HB4.out).cells
              have EA := Lib.hid eA
              obtain ⟨N, eN⟩ : ∃ N, normT t = N := ⟨_, rfl⟩
              have HN2' := Lib.hid (HN2.out WA HBW.out)
              rw [eN] at HPA EA HN2'
              rw [eN]
              have hl4 := (HXU.out.below HB4.out).lt
              clear hv4 hb4 hba eA y0 y1 y2 eN
              go_wp2_with fail
              rw [EA.out]
              refine HN2'.out.mono ?_
              rintro e w5 ⟨v5, rfl, hv5, hb5⟩
              obtain ⟨r3, g3, r4, g4, rfl⟩ := tabForms hv5
              obtain ⟨WB, eB⟩ : ∃ WB, w5.alloc (.cells #[.slice r3 N.types.length g3, .int .i64 N.first, .slice r4 N.chs.length g4] 25) = WB := ⟨_, rfl⟩
              have HQB := Lib.hid (TBx.box hv5)
              have hbb := below_al w5 (.cells #[.slice r3 N.types.length g3, .int .i64 N.first, .slice r4 N.chs.length g4] 25)
              rw [eB] at HQB hbb
              have HPB := Lib.hid ((HPA.out.below hb5).below hbb)
              have HTE := Lib.hid (TableEq_any N N _ _ WB HPB.out.2 HQB.out.2)
              rw [decide_eq_true (rfl : N = N)] at HTE
              have HB5 := Lib.hid (HBW.out.trans ((hb5.trans (hbb.mono hb5.size)).mono HBW.out.size))
              obtain ⟨s0, s1, s2⟩ := (HPA.out.below hb5).cells
              have hl5 := (HPA.out.below hb5).lt
              have EB := Lib.hid eB
              clear hv5 hb5 hbb eB
              go_wp2_with fail
              rw [EB.out]
              refine HTE.out.mono ?_
              rintro e w6 ⟨rfl, hb6⟩
              go_wp2
              go_ret
              exact ⟨rfl, HBA.out.trans ((HB5.out.trans (hb6.mono HB5.out.size)).mono HBA.out.size)⟩
    · have hg : decide (100 < (t.types.length : Int)) = true := by simp; omega
      clear hk HK
      go_wp2
      go_ret
      exact ⟨rfl, HB2.out⟩
  · obtain ⟨K, eK⟩ : ∃ K, chk t = K := ⟨_, rfl⟩
    rw [eK] at hk ⊢
    have hk' : (K == 0) = false := by simpa using hk
    have hk2 : (K != 0) = true := by simpa using hk
    clear hk eK
    go_wp2
    go_ret
    exact ⟨rfl, HB2.out⟩
end Go.Proofs.Yteoliifghhlinaa
