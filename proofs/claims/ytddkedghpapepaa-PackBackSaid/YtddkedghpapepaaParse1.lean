/- pack.Parse: the walk of bytes that are neither too many nor too few at once. -/
import Derived.Test.YtddkedghpapepaaParse0
import Derived.Deep.Cut
import Derived.Deep.AppendLies
namespace Go.Proofs.Ytddkedghpapepaa
open Go.RowKit Go.Joins
set_option linter.unusedVariables false
set_option linter.unusedSimpArgs false

theorem infoTy : (Try.prog.info? 32).map (fun i => (i.zero, i.size, i.bytes)) = some (some (.agg #[.int .i64 0, .bool false, .string ⟨#[]⟩]), 3, 32) := by kernel_rfl
theorem undTypes : Try.prog.underlying 22 = some (.slice 32) := by kernel_rfl
theorem undString : Try.prog.underlying 9 = some .string := by kernel_rfl

theorem ty1_q {r ra rb rc rd : Rd} {a s k : Nat} {m : List Int} (h1 : numN 4 r = (a, ra)) (h2 : numN 1 ra = (s, rb)) (h3 : numN 1 rb = (k, rc)) (h4 : takeN k rc = (m, rd)) : ty1 r = (⟨(a : Int) - 2147483648, s == 1, strOfNums m⟩, rd) := by
  simp only [ty1, h1, h2, h3, h4]
theorem tys_q {r r' rd : Rd} {k : Nat} {xs : List Ty} {x : Ty} (h1 : tys k r = (xs, r')) (h2 : ty1 r' = (x, rd)) : tys (k + 1) r = (xs ++ [x], rd) := by
  show ((tys k r).1 ++ [(ty1 (tys k r).2).1], (ty1 (tys k r).2).2) = _
  rw [h1]; simp only; rw [h2]

theorem infoCh : (Try.prog.info? 36).map (fun i => (i.zero, i.size, i.bytes)) = some (some (.agg #[.int .i64 0, .int .i64 0]), 2, 16) := by kernel_rfl
theorem undChs : Try.prog.underlying 23 = some (.slice 36) := by kernel_rfl
theorem px_q {l : List Int} {N F M : Nat} {r1 r2 r3 r : Rd} {xs : List Ty} (q1 : pH l = (N, r1)) (q2 : numN 1 r1 = (F, r2)) (q3 : numN 2 r2 = (M, r3)) (h : tys N r3 = (xs, r)) : pX l = chs M r := by
  have e2 : pF l = (F, r2) := by unfold pF; rw [q1]; exact q2
  have e3 : pC l = (M, r3) := by unfold pC; rw [e2]; exact q3
  unfold pX pT; rw [q1, e3]; simp only; rw [h]
theorem prs_q {l : List Int} {N F M : Nat} {r1 r2 r3 r : Rd} {xs : List Ty} (q1 : pH l = (N, r1)) (q2 : numN 1 r1 = (F, r2)) (q3 : numN 2 r2 = (M, r3)) (h : tys N r3 = (xs, r)) : prs l = ⟨xs, F, (chs M r).1⟩ := by
  have e1 := px_q q1 q2 q3 h
  have e2 : pF l = (F, r2) := by unfold pF; rw [q1]; exact q2
  have e3 : pC l = (M, r3) := by unfold pC; rw [e2]; exact q3
  unfold prs pT; rw [e1, q1, e2, e3]; simp only; rw [h]

theorem ch1_q {r ra rd : Rd} {a k : Nat} (h1 : numN 8 r = (a, ra)) (h2 : numN 1 ra = (k, rd)) : ch1 r = (⟨(a : Int) - 9223372036854775808, (k : Int)⟩, rd) := by
  simp only [ch1, h1, h2]
theorem chs_q {r r' rd : Rd} {k : Nat} {ys : List Ch} {y : Ch} (h1 : chs k r = (ys, r')) (hs : r'.short = false) (h2 : ch1 r' = (y, rd)) : chs (k + 1) r = (ys ++ [y], rd) := by
  show (if (chs k r).2.short = true then chs k r else ((chs k r).1 ++ [(ch1 (chs k r).2).1], (ch1 (chs k r).2).2)) = _
  rw [h1, if_neg (by simp [hs])]; simp only; rw [h2]
theorem chs_len_eq {r : Rd} : ∀ (k : Nat) {r' : Rd} {ys : List Ch}, chs k r = (ys, r') → r'.short = false → ys.length = k
  | 0, r', ys, h, _ => by
    have : ys = [] := (congrArg Prod.fst h).symm
    rw [this]; rfl
  | k + 1, r', ys, h, hs => by
    have h' : (if (chs k r).2.short = true then chs k r else ((chs k r).1 ++ [(ch1 (chs k r).2).1], (ch1 (chs k r).2).2)) = (ys, r') := h
    split at h'
    · rename_i h1
      rw [h'] at h1
      simp only at h1
      rw [hs] at h1; cases h1
    · rename_i h1
      have ih := chs_len_eq k (r' := (chs k r).2) (ys := (chs k r).1) rfl (by simpa using h1)
      have : ys = (chs k r).1 ++ [(ch1 (chs k r).2).1] := (congrArg Prod.fst h').symm
      rw [this, List.length_append, ih]; rfl
theorem at_wrap (a : Nat) (h : a < 256 ^ 8) : IntKind.i64.wrap (IntKind.u64.wrap ((a : Int) - 9223372036854775808)) = (a : Int) - 9223372036854775808 := by
  rw [IntKind.wrap_i64, IntKind.wrap_u64]; simp only [Nat.reducePow] at h; omega

theorem own_slice {W : World} {B : Nat} {e : TypeId} {s n : Nat} {v : Value} {xs : List Value} (h : W.ownsRow B e s v n xs) : ∃ A m c, v = .slice A m c := by
  rcases h.2 with ⟨rfl, _⟩ | ⟨g, cap, cur, rfl, _⟩
  · exact ⟨_, _, _, rfl⟩
  · exact ⟨_, _, _, rfl⟩
theorem one2i (x y : Int) : ∀ u ∈ [Value.int .i64 x, .int .i64 y], u.oneCell' = true := by simp [Value.oneCell']
section
variable {w W w6 : World} {T B : Nat} {r : Rd} {sv cv : Value} {f : Int} {xs : List Ty} {ys : List Ch}
theorem PL.rowC_at (h : PL w W T B r sv cv f xs ys) {j : Nat} (hl : ys.length = j) (o : Obj) : (W.alloc o).ownsRow B 36 2 cv j (chCells ys) := by
  rw [← hl]; exact World.ownsRow.alloc h.rowC o
theorem PL.after (h : PL w W T B r sv cv f xs ys) {o : Obj} (hg : (W.alloc o).grownBy w6 cv.ownBlock) :
    w6.cell? ⟨T, 2, none⟩ = some cv ∧ w6.frozen? ⟨T, 2, none⟩ = false ∧ Below B W w6 ∧ w6.ownsRow B 32 3 sv xs.length (tyCells xs) := by
  have a1 := h.hB
  have a2 := h.hS
  have e : w6.heap[T]? = _ := (hg.block T (by simp; omega) (fun e => by have := (World.ownsRow.lt h.rowC _ e.symm).1; omega)).trans ((Below.heap_alloc W o T (by omega)).trans h.tb)
  refine ⟨(cellsX e).2.2, by simp [World.frozen?, e], ((Below.refl _ _).alloc h.hS _).grown hg (by simp; omega) (fun q hq => (World.ownsRow.lt h.rowC q hq).1), ?_⟩
  exact World.ownsRow.kept (World.ownsRow.alloc h.rowT o) hg (own_apart h.rowT h.rowC (by decide))
end

theorem prsE_short {l : List Int} (h1 : l.length ≤ 20000) (h2 : 8 ≤ l.length) (h : (pX l).2.short = true) : prsE l = 4 := by
  unfold prsE; rw [if_neg (by omega), if_neg (by omega), if_pos h]

theorem prsE_long {l : List Int} (h1 : l.length ≤ 20000) (h2 : 8 ≤ l.length) (h : (pX l).2.short = false) : prsE l = if chk (prs l) = 0 ∧ enc (prs l) = l then 0 else 5 := by
  unfold prsE; rw [if_neg (by omega), if_neg (by omega), if_neg (by simp [h])]
theorem end_cells {W : World} {g : Nat} {a b c : Value} {T : TypeId} (h : W.heap[g]? = some (.cells #[a, b, c] T (0, 0))) (x y z : Value) :
    ∃ W', ((W.setCell ⟨g, 0, none⟩ x).setCell ⟨g, 1, none⟩ y).setCell ⟨g, 2, none⟩ z = W' ∧ (∀ B, B ≤ g → Below B W W') ∧ W'.heap[g]? = some (.cells #[x, y, z] T (0, 0)) ∧ ∀ b, b ≠ g → W'.heap[b]? = W.heap[b]? := by
  refine ⟨_, rfl, fun B hB => (((Below.refl _ _).setCell (by exact hB) _).setCell (by exact hB) _).setCell (by exact hB) _, ?_, fun b hb => (Below.heap_setCell _ _ _ _ hb).trans ((Below.heap_setCell _ _ _ _ hb).trans (Below.heap_setCell _ _ _ _ hb))⟩
  rw [heap_setCell_same (i := 2) (heap_setCell_same (i := 1) (heap_setCell_same (i := 0) h x) y) z]
  rfl

theorem BRow.bytes {w : World} {B n cap : Nat} {p : Option Addr} {l : List Int} (h : BRow w B (.slice p l.length cap) l) (hn : n = l.length) : Lib.BytesIn w p n l := fun h0 => by
  subst hn
  obtain ⟨p', cap', e, hp⟩ := h.form
  injection e with e1 e2 e3
  subst e1
  obtain ⟨g, rfl, _, _, hc⟩ := hp (by intro e; rw [e] at h0; simp at h0)
  refine ⟨g, 0, rfl, fun i hi => ?_⟩
  rw [Nat.zero_add, hc i hi]
  simp [List.getD_eq_getElem?_getD, hi]
theorem bytesOf_beq {xs ys : List Int} (hx : ∀ x ∈ xs, 0 ≤ x ∧ x < 256) (hy : ∀ x ∈ ys, 0 ≤ x ∧ x < 256) : (Lib.bytesOf xs == Lib.bytesOf ys) = decide (xs = ys) := by
  have key : ∀ (xs ys : List Int), (∀ x ∈ xs, 0 ≤ x ∧ x < 256) → (∀ x ∈ ys, 0 ≤ x ∧ x < 256) → Lib.bytesOf xs = Lib.bytesOf ys → xs = ys := by
    intro xs
    induction xs with
    | nil => intro ys _ _ h; cases ys with
      | nil => rfl
      | cons y r => cases h
    | cons x r ih =>
      intro ys hx hy h
      cases ys with
      | nil => cases h
      | cons y r' =>
        have h' : UInt8.ofNat x.toNat :: Lib.bytesOf r = UInt8.ofNat y.toNat :: Lib.bytesOf r' := h
        injection h' with h1 h2
        have a1 := hx x (by simp)
        have a2 := hy y (by simp)
        have h3 := congrArg UInt8.toNat h1
        simp only [UInt8.toNat_ofNat'] at h3
        rw [ih r' (fun z hz => hx z (by simp [hz])) (fun z hz => hy z (by simp [hz])) h2]
        congr 1
        omega
  by_cases h : xs = ys
  · subst h; simp
  · have : Lib.bytesOf xs ≠ Lib.bytesOf ys := fun e => h (key xs ys hx hy e)
    simp [h, this]

def ParsePost (l : List Int) (w : World) (e : Ending) (w' : World) : Prop :=
  ∃ v, e = .returned (.tuple #[v, .int .i64 (prsE l)]) ∧ TabAt w' v (if prsE l = 0 then prs l else zeroTab) ∧ Below w.heap.size w w'

set_option maxRecDepth 100000 in
set_option maxHeartbeats 1000000 in
theorem Parse_go (A : Option Addr) (c : Nat) (l : List Int) (w : World) (hA : BytesBelow w w.heap.size A l.length l) (hc : l.length ≤ c) (hby : ∀ x ∈ l, 0 ≤ x ∧ x < 256) (h1 : l.length ≤ 20000) (h2 : 8 ≤ l.length) :
    Calls Try.prog 24 #[.slice A l.length c] w (ParsePost l w) := by
  obtain ⟨b, o, rfl, hbl, -⟩ := hA (by omega)
  have HR0 := Lib.hid (rd_start hA hc h2 (.cells #[.slice none 0 0, .int .i64 0, .slice none 0 0] 25))
  have HA := Lib.hid hA
  have HBY := Lib.hid hby
  have hc4 : (c == 4) = false := by simp; omega
  have hc4' : ¬ c = 4 := by omega
  clear hA hby
  have h0 : decide ((20000 : Int) < (l.length : Int)) = false := by simp; omega
  have h8 : decide ((l.length : Int) < 8) = false := by simp; omega
  go_enter Try.func24, Try.ntmps24
  go_wp2_with fail
  obtain ⟨N, r1, q1⟩ : ∃ N r1, pH l = (N, r1) := ⟨_, _, rfl⟩
  obtain ⟨F, r2, q2⟩ : ∃ F r2, numN 1 r1 = (F, r2) := ⟨_, _, rfl⟩
  obtain ⟨M, r3, q3⟩ : ∃ M r3, numN 2 r2 = (M, r3) := ⟨_, _, rfl⟩
  obtain ⟨hN, y1⟩ := numN_q q1 (fun x hx => HBY.out x (List.mem_of_mem_drop hx))
  obtain ⟨hF, y2⟩ := numN_q q2 y1
  obtain ⟨hM, y3⟩ := numN_q q3 y2
  have Q1 := Lib.hid q1
  have Q2 := Lib.hid q2
  have Q3 := Lib.hid q3
  have Y1 := Lib.hid y1
  have Y2 := Lib.hid y2
  have Y3 := Lib.hid y3
  clear q1 q2 q3 y1 y2 y3
  simp only [Nat.pow_one, Nat.reducePow] at hN hF hM
  refine (number_at _ 1 _ _ N r1 Q1.out HR0.out (by decide) (fun x hx => HBY.out x (List.mem_of_mem_drop hx))).mono ?_
  rintro e w1 ⟨rfl, hr1, hg1⟩
  obtain ⟨s1, s2, s3⟩ := start_facts w _ _ hg1
  have HR1 := Lib.hid hr1
  have S1 := Lib.hid s1
  have S2 := Lib.hid s2
  clear hr1 s1 s2 hg1 HR0
  go_wp2_with fail
  refine (number_at _ 1 _ _ F r2 Q2.out HR1.out (by decide) Y1.out).mono ?_
  rintro e w2 ⟨rfl, hr2, hg2⟩
  have hz2 : w.heap.size + 1 < w2.heap.size := Nat.lt_of_lt_of_le s3 hg2.size
  have HP := Lib.hid (PL_start (f := (F : Int)) (S1.out.trans (grown_R hg2 (by omega) S1.out.size)) ((hg2.block _ (by omega) (by simp)).trans S2.out) hr2 Y2.out hz2)
  clear hr2 hg2 HR1 S1 S2
  go_wp2_with fail
  refine (number_at _ 2 _ _ M r3 Q3.out HP.out.rd (by decide) Y2.out).mono ?_
  rintro e w3 ⟨rfl, hr3, hg3⟩
  have HQ := Lib.hid (HP.out.read hr3 hg3 Y3.out)
  clear hr3 hg3 HP
  obtain ⟨T, eT⟩ : ∃ T, w2.heap.size = T := ⟨_, rfl⟩
  rw [eT] at HQ ⊢
  clear eT
  go_wp2_with fail
  obtain ⟨i0, hi, hz0, hz1, hz2⟩ := info_parts infoTy
  go_loopw [36] (fun s36 wr => ∃ (k : Nat) (xs : List Ty) (r : Rd) (sv : Value), k ≤ N ∧ s36 = .int .i64 k ∧ tys k r3 = (xs, r) ∧ PL w wr T (T + 1) r sv (.slice none 0 0) F xs []) (fun s36 _ => N - (intOf s36).toNat)
  case atStart => exact ⟨0, [], r3, _, Nat.zero_le _, rfl, rfl, HQ.out⟩
  case round =>
    obtain ⟨k, xs, r, sv, hk, rfl, htys, hp⟩ := hrel
    have HTY := Lib.hid htys
    have HP := Lib.hid hp
    clear htys hp
    by_cases hlt : k < N
    · obtain ⟨a, ra, q1⟩ : ∃ a ra, numN 4 r = (a, ra) := ⟨_, _, rfl⟩
      obtain ⟨s, rb, q2⟩ : ∃ s rb, numN 1 ra = (s, rb) := ⟨_, _, rfl⟩
      obtain ⟨kk, rc, q3⟩ : ∃ kk rc, numN 1 rb = (kk, rc) := ⟨_, _, rfl⟩
      obtain ⟨m, rd, q4⟩ : ∃ m rd, takeN kk rc = (m, rd) := ⟨_, _, rfl⟩
      obtain ⟨ha, y1⟩ := numN_q q1 HP.out.byte
      obtain ⟨hs, y2⟩ := numN_q q2 y1
      obtain ⟨hkk, y3⟩ := numN_q q3 y2
      obtain ⟨hm, y4⟩ := takeN_q q4 y3
      have HX := Lib.hid (tys_q HTY.out (ty1_q q1 q2 q3 q4))
      have G1 := Lib.hid q1
      have G2 := Lib.hid q2
      have G3 := Lib.hid q3
      have G4 := Lib.hid q4
      have Z1 := Lib.hid y1
      have Z2 := Lib.hid y2
      have Z3 := Lib.hid y3
      have Z4 := Lib.hid y4
      have HM := Lib.hid hm
      clear q1 q2 q3 q4 y1 y2 y3 y4 hm
      simp only [Nat.pow_one, Nat.reducePow] at ha hs hkk
      go_wp2_with fail
      refine (number_at _ 4 _ _ a ra G1.out HP.out.rd (by decide) HP.out.byte).mono ?_
      rintro e w4 ⟨rfl, hr4, hg4⟩
      have P4 := Lib.hid (HP.out.read hr4 hg4 Z1.out)
      clear hr4 hg4 HP
      go_wp2_with fail
      refine (number_at _ 1 _ _ s rb G2.out P4.out.rd (by decide) Z1.out).mono ?_
      rintro e w5 ⟨rfl, hr5, hg5⟩
      have P5 := Lib.hid (P4.out.read hr5 hg5 Z2.out)
      clear hr5 hg5 P4
      go_wp2_with fail
      have hsq : ((s : Int) == 1) = (s == 1) := by
        rw [Bool.eq_iff_iff]; simp; omega
      rw [hsq]
      clear hsq
      obtain ⟨sb, hsb⟩ : ∃ sb, (s == 1) = sb := ⟨_, rfl⟩
      rw [hsb] at HX ⊢
      obtain ⟨off, hoff⟩ : ∃ off : Int, (a : Int) - 2147483648 = off := ⟨_, rfl⟩
      rw [hoff] at HX ⊢
      clear hsb hoff ha hs
      have P6 := Lib.hid (P5.out.alloc (Obj.cells #[Value.int .i64 off, Value.bool sb, Value.string ⟨#[]⟩] 32))
      have hX0 : Hid ((w5.alloc (Obj.cells #[Value.int .i64 off, Value.bool sb, Value.string ⟨#[]⟩] 32)).heap[w5.heap.size]? = some (Obj.cells #[Value.int .i64 off, Value.bool sb, Value.string ⟨#[]⟩] 32 (0, 0))) := heap_alloc_new w5 _
      have hXT : T < w5.heap.size := by have := P5.out.hS; have := P5.out.hB; omega
      have hXR : w.heap.size + 1 < w5.heap.size := by have := P5.out.hT; omega
      have hXl : Hid (w5.heap.size < (w5.alloc (Obj.cells #[Value.int .i64 off, Value.bool sb, Value.string ⟨#[]⟩] 32)).heap.size) := by show _ < _; simp
      have hU1 : Hid (sv.ownBlock ≠ some w5.heap.size) := fun e => by have := (World.ownsRow.lt P5.out.rowT _ e).2; omega
      obtain ⟨W6, hW6⟩ : ∃ W6, w5.alloc (Obj.cells #[Value.int .i64 off, Value.bool sb, Value.string ⟨#[]⟩] 32) = W6 := ⟨_, rfl⟩
      rw [hW6] at P6 hX0 hXl ⊢
      obtain ⟨X, eX⟩ : ∃ X, w5.heap.size = X := ⟨_, rfl⟩
      rw [eX] at hX0 hXT hXR hXl hU1 ⊢
      clear eX hW6 P5
      refine (number_at _ 1 _ _ kk rc G3.out P6.out.rd (by decide) Z2.out).mono ?_
      rintro e w7 ⟨rfl, hr7, hg7⟩
      have P7 := Lib.hid (P6.out.read hr7 hg7 Z3.out)
      have hX7 := Lib.hid ((hg7.block X hXl.out (by intro e; injection e with e; omega)).trans hX0.out)
      clear hr7 hg7 P6 hX0 hXl
      go_wp2_with fail
      refine (bytes_at _ kk _ _ m rd G4.out P7.out.rd (by omega)).mono ?_
      rintro e w8 ⟨A8, c8, rfl, hc8, hbb, hr8, hg8⟩
      have P8 := Lib.hid (P7.out.read hr8 hg8 Z4.out)
      have hX8 := (hg8.block X (Array.getElem?_eq_some_iff.1 hX7.out).1 (by intro e; injection e with e; omega)).trans hX7.out
      have hcv := hbb.bytes.convert (P := Try.prog) HM.out c8 27 5 9 undBytes Try.underlying5 undString
      obtain ⟨x0, x1, x2⟩ := cellsX hX8
      have fx : w8.frozen? ⟨X, 2, none⟩ = false := by simp [World.frozen?, hX8]
      have hX9 := heap_setCell_same (i := 2) hX8 (.string (strOfNums m))
      have P9 := Lib.hid (P8.out.far (X := X) (i := 2) (by omega) hU1.out (by simp [Value.ownBlock]) (.string (strOfNums m)))
      have HX9 := Lib.hid hX9
      clear hr8 hg8 P7 hX7 hbb hX8 P8 hX9
      go_upto_region 13 with (fail)
      obtain ⟨W9, hW9⟩ : ∃ W9, w8.setCell ⟨X, 2, none⟩ (.string (strOfNums m)) = W9 := ⟨_, rfl⟩
      rw [hW9] at P9 HX9 ⊢
      clear hW9 hcv x0 x1 x2 fx hc8
      have hx9 : W9.heap[X]? = some (.cells #[Value.int .i64 off, Value.bool sb, Value.string (strOfNums m)] 32 (0, 0)) := HX9.out
      obtain ⟨x0, x1, x2⟩ := cellsX hx9
      obtain ⟨t0, -, -⟩ := cellsX P9.out.tb
      have hlen : xs.length = k := by have := tys_len r3 k; rw [HTY.out] at this; exact this
      have HOW : Hid ((W9.alloc (Obj.cells #[Value.int .i64 off, Value.bool sb, Value.string (strOfNums m)] 32)).ownsRow (T + 1) 32 3 sv k (tyCells xs)) := by
        have := World.ownsRow.alloc P9.out.rowT (Obj.cells #[Value.int .i64 off, Value.bool sb, Value.string (strOfNums m)] 32)
        rw [hlen] at this
        exact this
      have HLEN := Lib.hid hlen
      have HN0 : Hid (∀ (j : Nat) (u : Value), [Value.int .i64 off, Value.bool sb, Value.string (strOfNums m)][j]? = some u → (W9.alloc (Obj.cells #[Value.int .i64 off, Value.bool sb, Value.string (strOfNums m)] 32)).cell? ((⟨W9.heap.size, 0, none⟩ : Addr).add j) = some u) :=
        World.news_of_block (cs := #[Value.int .i64 off, Value.bool sb, Value.string (strOfNums m)]) (t := 32) (fr := (0, 0)) (heap_alloc_new W9 _)
      have HN1 : Hid (∀ u ∈ [Value.int .i64 off, Value.bool sb, Value.string (strOfNums m)], u.oneCell' = true) := by intro u hu; simp at hu; rcases hu with rfl | rfl | rfl <;> rfl
      have HN2 : Hid (k + 1 ≤ maxLen) := by show _ ≤ _; simp only [maxLen]; omega
      have HN3 : Hid ((k + 1) * 32 ≤ 140737488355328) := by show _ ≤ _; omega
      have HN4 : Hid (T + 1 ≤ (W9.alloc (Obj.cells #[Value.int .i64 off, Value.bool sb, Value.string (strOfNums m)] 32)).heap.size) := by have := P9.out.hS; show _ ≤ _; simp; omega
      have hTl : T < W9.heap.size := P9.out.hS
      have HTS : Hid (sv.ownBlock ≠ some T) := fun e => by have := (World.ownsRow.lt P9.out.rowT _ e).1; omega
      clear hlen hx9
      go_wp2_with (first
        | (at_builtin
           refine wpList_append_own_at _ rfl _ _ 22 rfl (T + 1) 32 i0 _ 3 32 undTypes hi hz0 hz1 hz2 rfl (by decide) _ _ _ rfl HOW.out ⟨W9.heap.size, 0, none⟩ 1 1 [.int .i64 off, .bool sb, .string (strOfNums m)] rfl rfl HN0.out HN1.out HN2.out HN3.out HN4.out ?_
           intro v' w10 hown10 hg10 _ hat10
           obtain ⟨g10, cap10, rfl⟩ := ownsRow_form hown10 (by omega)
           have htb10 := (hg10.block T (by simp; omega) (fun e => HTS.out e.symm)).trans ((Below.heap_alloc W9 _ T hTl).trans P9.out.tb)
           obtain ⟨t10, -, -⟩ := cellsX htb10
           have f10 : w10.frozen? ⟨T, 0, none⟩ = false := by simp [World.frozen?, htb10]
           clear htb10))
      go_roundw
      case rel =>
        refine ⟨k + 1, xs ++ [⟨off, sb, strOfNums m⟩], rd, _, by omega, by go_num, HX.out, P9.out.put0 (((Below.refl _ _).alloc P9.out.hS _).grown hg10 HN4.out (fun q hq => (World.ownsRow.lt P9.out.rowT q hq).1)) ?_ (World.ownsRow_nil _ _ _ _)⟩
        rw [tyCells_snoc, List.length_append, HLEN.out]
        exact hown10
      case measure => simp [intOf]; omega
    · obtain rfl : k = N := by omega
      have PX := Lib.hid (px_q Q1.out Q2.out Q3.out HTY.out)
      have PR := Lib.hid (prs_q Q1.out Q2.out Q3.out HTY.out)
      have HNM : Hid (∀ x ∈ xs, x.name.size ≤ maxLen) := by
        intro x hx
        have := tys_names r3 Y3.out k x (by rw [HTY.out]; exact hx)
        simp only [maxLen]; omega
      have HLX : Hid (xs.length ≤ 300) := by
        have := tys_len r3 k
        rw [HTY.out] at this
        show xs.length ≤ 300
        have e : xs.length = k := this
        omega
      clear Q1 Q2 Q3 HTY
      go_wp2_with fail
      obtain ⟨W0, eW0⟩ : ∃ W0, wr = W0 := ⟨_, rfl⟩
      obtain ⟨r4, er4⟩ : ∃ r4, r = r4 := ⟨_, rfl⟩
      rw [eW0] at HP ⊢
      rw [er4] at HP PX PR
      clear eW0 er4
      obtain ⟨i1, hi1, hz10, hz11, hz12⟩ := info_parts infoCh
      go_loopw [61] (fun s61 wr => ∃ (j : Nat) (ys : List Ch) (r : Rd) (cv : Value), j ≤ M ∧ s61 = .int .i64 j ∧ chs j r4 = (ys, r) ∧ PL w wr T (T + 1) r sv cv F xs ys) (fun s61 _ => M - (intOf s61).toNat)
      case atStart => exact ⟨0, [], r4, _, Nat.zero_le _, rfl, rfl, HP.out⟩
      case round =>
        obtain ⟨j, ys, r, cv, hj, rfl, hchs, hp⟩ := hrel
        have HCH := Lib.hid hchs
        have HPP := Lib.hid hp
        clear hchs hp
        obtain ⟨Ar, cr, hcr, hheap, hbb⟩ := HPP.out.rd
        obtain ⟨-, z1⟩ := cellsX2 hheap
        clear hheap hbb hcr
        obtain ⟨k0, k1, k2⟩ := cellsX HPP.out.res
        have fk0 : wr.frozen? ⟨w.heap.size, 0, none⟩ = false := by simp [World.frozen?, HPP.out.res]
        have fk1 : wr.frozen? ⟨w.heap.size, 1, none⟩ = false := by simp [World.frozen?, HPP.out.res]
        have fk2 : wr.frozen? ⟨w.heap.size, 2, none⟩ = false := by simp [World.frozen?, HPP.out.res]
        have hzl : w.heap.size < wr.heap.size := by have := HPP.out.hT; have := HPP.out.hB; have := HPP.out.hS; omega
        by_cases hlt2 : j < M
        · cases hsh : r.short
          · rw [hsh] at z1
            have HSH := Lib.hid hsh
            clear hsh
            go_wp2_with fail
            obtain ⟨a, ra, q1⟩ : ∃ a ra, numN 8 r = (a, ra) := ⟨_, _, rfl⟩
            obtain ⟨kk, rd, q2⟩ : ∃ kk rd, numN 1 ra = (kk, rd) := ⟨_, _, rfl⟩
            obtain ⟨ha, y1⟩ := numN_q q1 HPP.out.byte
            obtain ⟨hkk, y2⟩ := numN_q q2 y1
            have HX := Lib.hid (chs_q HCH.out HSH.out (ch1_q q1 q2))
            have HLY := Lib.hid (chs_len_eq j HCH.out HSH.out)
            have HWA := Lib.hid (at_wrap a ha)
            have G1 := Lib.hid q1
            have G2 := Lib.hid q2
            have Z1 := Lib.hid y1
            have Z2 := Lib.hid y2
            clear q1 q2 y1 y2 ha
            simp only [Nat.pow_one, Nat.reducePow] at hkk
            obtain ⟨-, -, t0⟩ := cellsX HPP.out.tb
            have HJ2 : Hid (j + 1 ≤ maxLen) := by show _ ≤ _; simp only [maxLen]; omega
            have HJ3 : Hid ((j + 1) * 16 ≤ 140737488355328) := by show _ ≤ _; omega
            go_region_law (first
              | (refine step_append_lies _ (by rfl) _ _ _ (by rfl) (T + 1) 36 i1 (.agg #[.int .i64 0, .int .i64 0]) 2 16 undChs hi1 hz10 hz11 hz12 rfl (by omega) cv j (chCells ys) (by rfl) (P5.out.rowC_at HLY.out _) ⟨w5.heap.size, 0, none⟩ 1 1 [.int .i64 _, .int .i64 _] (by rfl) (by rfl) (World.news_of_block (cs := #[.int .i64 _, .int .i64 _]) (t := 36) (fr := (0, 0)) (heap_alloc_new w5 _)) (one2i _ _) Nat.one_pos HJ2.out HJ3.out (Nat.le_trans P5.out.hS (by simp)) (w5.heap.size + 1) (by simp) ?_; intro g6 cap6 w6 hown6 hg6 hat6 hlt6; obtain ⟨t6, f6, hb6, ho6⟩ := P5.out.after hg6)
              | (go_simp; go_at_call 35; refine (number_at _ 1 _ _ kk rd G2.out P4.out.rd (by decide) Z1.out).mono ?_; rintro e w5 ⟨rfl, hr5, hg5⟩; have P5 := Lib.hid (P4.out.read hr5 hg5 Z2.out); obtain ⟨-, -, t5⟩ := cellsX P5.out.tb; have ht5 : T < w5.heap.size := P5.out.hS; clear hr5 hg5)
              | (go_simp; go_at_call 35; refine (number_at _ 8 _ _ a ra G1.out HPP.out.drew.rd (by decide) HPP.out.byte).mono ?_; rintro e w4 ⟨rfl, hr4, hg4⟩; have P4 := Lib.hid (HPP.out.drew.read hr4 hg4 Z1.out); obtain ⟨-, -, t4⟩ := cellsX P4.out.tb; clear hr4 hg4))
            all_goals
              go_wp2
              go_roundw
              case rel =>
                refine ⟨j + 1, ys ++ [⟨(a : Int) - 9223372036854775808, (kk : Int)⟩], rd, _, by omega, by go_num, HX.out, P5.out.put2 hb6 ho6 ?_⟩
                rw [chCells_snoc, List.length_append, HLY.out]
                have e : (kk : Int) = IntKind.i64.wrap (kk : Int) := by rw [IntKind.wrap_i64]; omega
                rw [HWA.out, ← e] at hown6
                exact hown6
              case measure => simp [intOf]; omega
          · have PE : Hid (prsE l = 4) := by
              have e : chs M r4 = (ys, r) := by rw [show M = j + (M - j) by omega, chs_stop r4 j (by rw [HCH.out]; exact hsh), HCH.out]
              exact prsE_short h1 h2 (by rw [PX.out, e]; exact hsh)
            rw [hsh] at z1
            clear hsh
            go_wp2_with fail
            obtain ⟨W', hW', hB', hH', hO'⟩ := end_cells HPP.out.res (.slice none 0 0) (.int .i64 0) (.slice none 0 0)
            rw [hW']
            obtain ⟨m0, m1, m2⟩ := cellsX hH'
            exact bodyPost_ret (v := .tuple #[zeroTV, .int .i64 4]) (by simp [results, Try.results24, go_sem, zeroTV, m0, m1, m2]) rfl ⟨zeroTV, by rw [PE.out], by rw [PE.out]; exact zero_at _, HPP.out.base.trans (hB' _ (Nat.le_refl _))⟩
        · obtain rfl : j = M := by omega
          cases hsh : r.short
          · rw [hsh] at z1
            have PY : Hid (prs l = ⟨xs, F, ys⟩) := by show _ = _; rw [PR.out, HCH.out]
            have PE := Lib.hid (prsE_long h1 h2 (show (pX l).2.short = false by rw [PX.out, HCH.out]; exact hsh))
            obtain ⟨t0, t1, t2⟩ := cellsX HPP.out.tb
            clear hsh
            go_wp2_with fail
            have HTV : Hid (TabAt wr (.agg #[sv, .int .i64 F, cv]) (prs l)) := by
              show TabAt _ _ _
              rw [PY.out]
              have hly : ys.length ≤ j := by have := chs_len r4 j; rw [HCH.out] at this; exact this
              exact ⟨sv, cv, rfl, own_types HPP.out.rowT (Nat.le_trans HLX.out (by decide)) HNM.out, own_chs HPP.out.rowC (show ys.length ≤ 100000 by omega)⟩
            by_cases hchk : chk (prs l) = 0
            · refine (Pack_ok (prs l) _ wr HTV.out hchk).mono ?_
              rintro e w8 ⟨u, rfl, hr8, hb8⟩
              obtain ⟨p8, cap8, rfl, hp8⟩ := hr8.form
              have hby8 : Lib.BytesIn w8 p8 (enc (prs l)).length (enc (prs l)) := BRow.bytes hr8 rfl
              have hbyl : Lib.BytesIn w8 (some ⟨b, o, none⟩) l.length l := ((HA.out.keep fun b' o' hb' => (HPP.out.base.trans (hb8.mono (by omega))).cell (p := ⟨b', o', none⟩) hb').bytes)
              have HEQ := Lib.hid (Try.bytes_Equal_all p8 (some ⟨b, o, none⟩) (enc (prs l)).length cap8 l.length c (enc (prs l)) l w8 rfl rfl hby8 hbyl)
              have hok := enc_byte (prs l) (chk_ok _ hchk)
              have hbeq := bytesOf_beq hok HBY.out
              obtain ⟨NE, eNE⟩ : ∃ NE, (enc (prs l)).length = NE := ⟨_, rfl⟩
              rw [eNE] at HEQ ⊢
              have hres8 := (hb8.block _ hzl).trans HPP.out.res
              have hTl : T < wr.heap.size := HPP.out.hS
              have htb8 := (hb8.block _ hTl).trans HPP.out.tb
              obtain ⟨n0, n1, n2⟩ := cellsX hres8
              obtain ⟨tt0, tt1, tt2⟩ := cellsX htb8
              have gn0 : w8.frozen? ⟨w.heap.size, 0, none⟩ = false := by simp [World.frozen?, hres8]
              have gn1 : w8.frozen? ⟨w.heap.size, 1, none⟩ = false := by simp [World.frozen?, hres8]
              have gn2 : w8.frozen? ⟨w.heap.size, 2, none⟩ = false := by simp [World.frozen?, hres8]
              have HB8 := Lib.hid (HPP.out.base.trans (hb8.mono (by omega)))
              have HR8 := Lib.hid hres8
              have H88 := Lib.hid hb8
              by_cases henc : enc (prs l) = l
              · have PE0 : Hid (prsE l = 0) := by show _ = _; rw [PE.out, if_pos ⟨hchk, henc⟩]
                obtain ⟨As, ns, cs, rfl⟩ := own_slice HPP.out.rowT
                obtain ⟨Ac, nc, cc, rfl⟩ := own_slice HPP.out.rowC
                have hbt : (Lib.bytesOf (enc (prs l)) == Lib.bytesOf l) = true := by rw [hbeq]; simpa using henc
                rw [hbt] at HEQ
                clear hb8 hres8 htb8 eNE hby8 hbyl hok hbeq hr8 hp8 hbt henc
                go_wp2_with fail
                refine HEQ.out.mono ?_
                rintro e w9 ⟨rfl, rfl⟩
                go_wp2_with fail
                obtain ⟨W', hW', hB', hH', hO'⟩ := end_cells HR8.out (.slice As ns cs) (.int .i64 F) (.slice Ac nc cc)
                rw [hW']
                obtain ⟨m0, m1, m2⟩ := cellsX hH'
                have a1 := HPP.out.hT
                have a2 := HPP.out.hB
                have hk : ∀ g, T + 1 ≤ g → g < wr.heap.size → W'.heap[g]? = wr.heap[g]? := fun g h1 h2 => (hO' g (by omega)).trans (H88.out.block g h2)
                refine bodyPost_ret (v := .tuple #[.agg #[.slice As ns cs, .int .i64 F, .slice Ac nc cc], .int .i64 0]) (by simp [results, Try.results24, go_sem, m0, m1, m2]) rfl ⟨.agg #[.slice As ns cs, .int .i64 F, .slice Ac nc cc], by rw [PE0.out], ?_, HB8.out.trans (hB' _ (Nat.le_refl _))⟩
                rw [PE0.out, if_pos rfl, PY.out]
                have hly : ys.length ≤ j := by have := chs_len r4 j; rw [HCH.out] at this; exact this
                refine ⟨_, _, rfl, own_types (own_keep HPP.out.rowT fun g e => hk g (World.ownsRow.lt HPP.out.rowT g e).1 (World.ownsRow.lt HPP.out.rowT g e).2) (Nat.le_trans HLX.out (by decide)) HNM.out,
                  own_chs (own_keep HPP.out.rowC fun g e => hk g (World.ownsRow.lt HPP.out.rowC g e).1 (World.ownsRow.lt HPP.out.rowC g e).2) (show ys.length ≤ 100000 by omega)⟩
              · have PE5 : Hid (prsE l = 5) := by show _ = _; rw [PE.out, if_neg (fun h => henc h.2)]
                have hbt : (Lib.bytesOf (enc (prs l)) == Lib.bytesOf l) = false := by rw [hbeq]; simpa using henc
                rw [hbt] at HEQ
                clear hb8 hres8 htb8 eNE hby8 hbyl hok hbeq hr8 hp8 hbt henc
                go_wp2_with fail
                refine HEQ.out.mono ?_
                rintro e w9 ⟨rfl, rfl⟩
                go_wp2_with fail
                obtain ⟨W', hW', hB', hH', hO'⟩ := end_cells HR8.out (.slice none 0 0) (.int .i64 0) (.slice none 0 0)
                rw [hW']
                obtain ⟨m0, m1, m2⟩ := cellsX hH'
                exact bodyPost_ret (v := .tuple #[zeroTV, .int .i64 5]) (by simp [results, Try.results24, go_sem, zeroTV, m0, m1, m2]) rfl ⟨zeroTV, by rw [PE5.out], by rw [PE5.out]; exact zero_at _, HB8.out.trans (hB' _ (Nat.le_refl _))⟩
            · refine (Pack_bad (prs l) _ wr HTV.out hchk).mono ?_
              have PE5 : Hid (prsE l = 5) := by show _ = _; rw [PE.out, if_neg (by simp [hchk])]
              obtain ⟨C, eC⟩ : ∃ C, chk (prs l) = C := ⟨_, rfl⟩
              rw [eC] at hchk ⊢
              have hne : (C == 0) = false := by simpa using hchk
              have hne2 : (C != 0) = true := by simpa using hchk
              rintro e w8 ⟨rfl, hb8⟩
              have hres8 := (hb8.block _ hzl).trans HPP.out.res
              obtain ⟨n0, n1, n2⟩ := cellsX hres8
              have gn0 : w8.frozen? ⟨w.heap.size, 0, none⟩ = false := by simp [World.frozen?, hres8]
              have gn1 : w8.frozen? ⟨w.heap.size, 1, none⟩ = false := by simp [World.frozen?, hres8]
              have gn2 : w8.frozen? ⟨w.heap.size, 2, none⟩ = false := by simp [World.frozen?, hres8]
              have HB8 := Lib.hid (HPP.out.base.trans (hb8.mono (by omega)))
              have HR8 := Lib.hid hres8
              clear hb8 hres8 eC hchk
              go_wp2_with fail
              obtain ⟨W', hW', hB', hH', hO'⟩ := end_cells HR8.out (.slice none 0 0) (.int .i64 0) (.slice none 0 0)
              rw [hW']
              obtain ⟨m0, m1, m2⟩ := cellsX hH'
              exact bodyPost_ret (v := .tuple #[zeroTV, .int .i64 5]) (by simp [results, Try.results24, go_sem, zeroTV, m0, m1, m2]) rfl ⟨zeroTV, by rw [PE5.out], by rw [PE5.out]; exact zero_at _, HB8.out.trans (hB' _ (Nat.le_refl _))⟩
          · have PE : Hid (prsE l = 4) := prsE_short h1 h2 (by rw [PX.out, HCH.out]; exact hsh)
            rw [hsh] at z1
            clear hsh
            go_wp2_with fail
            obtain ⟨W', hW', hB', hH', hO'⟩ := end_cells HPP.out.res (.slice none 0 0) (.int .i64 0) (.slice none 0 0)
            rw [hW']
            obtain ⟨m0, m1, m2⟩ := cellsX hH'
            exact bodyPost_ret (v := .tuple #[zeroTV, .int .i64 4]) (by simp [results, Try.results24, go_sem, zeroTV, m0, m1, m2]) rfl ⟨zeroTV, by rw [PE.out], by rw [PE.out]; exact zero_at _, HPP.out.base.trans (hB' _ (Nat.le_refl _))⟩
end Go.Proofs.Ytddkedghpapepaa
