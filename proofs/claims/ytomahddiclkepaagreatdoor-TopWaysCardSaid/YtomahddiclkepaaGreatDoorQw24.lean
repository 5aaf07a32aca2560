/- Part of the proof. -/
import Derived.Test.YtomahddiclkepaaGreatDoorQw00
import Derived.Test.YtomahddiclkepaaGreatDoorQw23
import Derived.Deep.Cut
import Derived.Deep.AppendLies
import Derived.RangeFuncRecord
import Derived.Test.YtomahddiclkepaaGreatDoorQw16
import Derived.Test.YtomahddiclkepaaGreatDoorQw19
import Derived.Laws.StructEq
import Derived.Deep.DeepCutAuto
import Derived.Deep.RegionHeld3
import Derived.Test.YtomahddiclkepaaGreatDoorQw15
import Derived.Test.YtomahddiclkepaaGreatDoorQw17
import Derived.Test.YtomahddiclkepaaGreatDoorQw21
import Derived.Test.YtomahddiclkepaaGreatDoorQw22
import Derived.Test.YtomahddiclkepaaGreatDoorCards
import Derived.Test.YtomahddiclkepaaGreatDoorTie
import Derived.Test.YtomahddiclkepaaGreatDoorQw01
import Derived.LaidMore
import Derived.Deep.DeepHandedRow
import Derived.Deep.DeepWitnessRowRef
import Derived.Lib.LaidTab
import Derived.Stop.LaidErr
import Derived.Test.YtomahddiclkepaaGreatDoorQw02
import Derived.Test.YtomahddiclkepaaGreatDoorQw10
import Derived.Lay
import Derived.Test.YtomahddiclkepaaGreatDoorQw12
import Derived.Test.YtomahddiclkepaaGreatDoorQw03
import Derived.Deep.Slices
import Derived.Deep.Fields
import Derived.ChangeSame
import Derived.Lib.SmallJoins
set_option maxHeartbeats 20000000
set_option maxRecDepth 1000000
set_option linter.unusedVariables false
set_option linter.unusedSimpArgs false
namespace Go.Proofs.YtomahddiclkepaaGreatDoor
open Go.RowKit Go.Joins
theorem infoTy : (Tryz.prog.info? 51).map (fun i => (i.zero, i.size, i.bytes)) = some (some (.agg #[.int .i64 0, .bool false, .string ⟨#[]⟩]), 3, 32) := by kernel_rfl
theorem undTypes : Tryz.prog.underlying 55 = some (.slice 51) := by kernel_rfl
theorem undString : Tryz.prog.underlying 9 = some .string := by kernel_rfl
theorem ty1_q {r ra rb rc rd : Rd} {a s k : Nat} {m : List Int} (h1 : numN 4 r = (a, ra)) (h2 : numN 1 ra = (s, rb)) (h3 : numN 1 rb = (k, rc)) (h4 : takeN k rc = (m, rd)) : ty1 r = (⟨(a : Int) - 2147483648, s == 1, strOfNums m⟩, rd) := by
 simp only [ty1, h1, h2, h3, h4]
theorem tys_q {r r' rd : Rd} {k : Nat} {xs : List Ty} {x : Ty} (h1 : tys k r = (xs, r')) (h2 : ty1 r' = (x, rd)) : tys (k + 1) r = (xs ++ [x], rd) := by
 show ((tys k r).1 ++ [(ty1 (tys k r).2).1], (ty1 (tys k r).2).2) = _
 rw [h1]; simp only; rw [h2]
theorem infoCh : (Tryz.prog.info? 61).map (fun i => (i.zero, i.size, i.bytes)) = some (some (.agg #[.int .i64 0, .int .i64 0]), 2, 16) := by kernel_rfl
theorem undChs : Tryz.prog.underlying 56 = some (.slice 61) := by kernel_rfl
theorem px_q {l : List Int} {N F M : Nat} {r1 r2 r3 r : Rd} {xs : List Ty} (q1 : pH l = (N, r1)) (q2 : numN 1 r1 = (F, r2)) (q3 : numN 2 r2 = (M, r3)) (h : tys N r3 = (xs, r)) : pX l = chs M r := by
 have e2 : pF l = (F, r2) := by unfold pF; rw [q1]; exact q2
 have e3 : pC l = (M, r3) := by unfold pC; rw [e2]; exact q3
 unfold pX pT; rw [q1, e3]; simp only; rw [h]
theorem prs_q {l : List Int} {N F M : Nat} {r1 r2 r3 r : Rd} {xs : List Ty} (q1 : pH l = (N, r1)) (q2 : numN 1 r1 = (F, r2)) (q3 : numN 2 r2 = (M, r3)) (h : tys N r3 = (xs, r)) : prs l = ⟨xs, F, (chs M r).1⟩ := by
 have e1 := px_q q1 q2 q3 h
 have e2 : pF l = (F, r2) := by unfold pF; rw [q1]; exact q2
 have e3 : pC l = (M, r3) := by unfold pC; rw [e2]; exact q3
 unfold prs pT; rw [e1, q1, e2, e3]; simp only; rw [h]
theorem ch1_q {r ra rd : Rd} {a k : Nat} (h1 : numN 8 r = (a, ra)) (h2 : numN 1 ra = (k, rd)) : ch1 r = (⟨(a : Int) - 9223372036854775808, (k : Int)⟩, rd) := by
 simp only [ch1, h1, h2]
theorem chs_q {r r' rd : Rd} {k : Nat} {ys : List Ch} {y : Ch} (h1 : chs k r = (ys, r')) (hs : r'.short = false) (h2 : ch1 r' = (y, rd)) : chs (k + 1) r = (ys ++ [y], rd) := by
 show (if (chs k r).2.short = true then chs k r else ((chs k r).1 ++ [(ch1 (chs k r).2).1], (ch1 (chs k r).2).2)) = _
 rw [h1, if_neg (by simp [hs])]; simp only; rw [h2]
theorem chs_len_eq {r : Rd} : ∀ (k : Nat) {r' : Rd} {ys : List Ch}, chs k r = (ys, r') -> r'.short = false -> ys.length = k
 | 0, r', ys, h, _ => by
  have : ys = [] := (congrArg Prod.fst h).symm
  rw [this]; rfl
 | k + 1, r', ys, h, hs => by
  have h' : (if (chs k r).2.short = true then chs k r else ((chs k r).1 ++ [(ch1 (chs k r).2).1], (ch1 (chs k r).2).2)) = (ys, r') := h
  split at h'
  ·rename_i h1
   rw [h'] at h1
   simp only at h1
   rw [hs] at h1; cases h1
  ·rename_i h1
   have ih := chs_len_eq k (r' := (chs k r).2) (ys := (chs k r).1) rfl (by simpa using h1)
   have : ys = (chs k r).1 ++ [(ch1 (chs k r).2).1] := (congrArg Prod.fst h').symm
   rw [this, List.length_append, ih]; rfl
theorem at_wrap (a : Nat) (h : a < 256 ^ 8) : IntKind.i64.wrap (IntKind.u64.wrap ((a : Int) - 9223372036854775808)) = (a : Int) - 9223372036854775808 := by
 rw [IntKind.wrap_i64, IntKind.wrap_u64]; simp only [Nat.reducePow] at h; omega
theorem own_slice {W : World} {B : Nat} {e : TypeId} {s n : Nat} {v : Value} {xs : List Value} (h : W.ownsRow B e s v n xs) : ∃ A m c, v = .slice A m c := by
 rcases h.2 with ⟨rfl, _⟩ | ⟨g, cap, cur, rfl, _⟩
 ·exact ⟨_, _, _, rfl⟩
 ·exact ⟨_, _, _, rfl⟩
theorem one2i (x y : Int) : ∀ u ∈ [Value.int .i64 x, .int .i64 y], u.oneCell' = true := by simp [Value.oneCell']
section
variable {w W w6 : World} {T B : Nat} {r : Rd} {sv cv : Value} {f : Int} {xs : List Ty} {ys : List Ch}
theorem PL.rowC_at (h : PL w W T B r sv cv f xs ys) {j : Nat} (hl : ys.length = j) (o : Obj) : (W.alloc o).ownsRow B 61 2 cv j (chCells ys) := by
 rw [<- hl]; exact World.ownsRow.alloc h.rowC o
theorem PL.after (h : PL w W T B r sv cv f xs ys) {o : Obj} (hg : (W.alloc o).grownBy w6 cv.ownBlock) :
 w6.cell? ⟨T, 2, none⟩ = some cv /\ w6.frozen? ⟨T, 2, none⟩ = false /\ Below B W w6 /\ w6.ownsRow B 51 3 sv xs.length (tyCells xs) := by
 have a1 := h.hB
 have a2 := h.hS
 have e : w6.heap[T]? = _ := (hg.block T (by simp; omega) (fun e => by have := (World.ownsRow.lt h.rowC _ e.symm).1; omega)).trans ((Below.heap_alloc W o T (by omega)).trans h.tb)
 refine ⟨(cellsX e).2.2, by simp [World.frozen?, e], ((Below.refl _ _).alloc h.hS _).grown hg (by simp; omega) (fun q hq => (World.ownsRow.lt h.rowC q hq).1), ?_⟩
 exact World.ownsRow.kept (World.ownsRow.alloc h.rowT o) hg (own_apart h.rowT h.rowC (by decide))
end
theorem prsE_short {l : List Int} (h1 : l.length <= 20000) (h2 : 8 <= l.length) (h : (pX l).2.short = true) : prsE l = 4 := by
 unfold prsE; rw [if_neg (by omega), if_neg (by omega), if_pos h]
theorem prsE_long {l : List Int} (h1 : l.length <= 20000) (h2 : 8 <= l.length) (h : (pX l).2.short = false) : prsE l = if chk (prs l) = 0 /\ enc (prs l) = l then 0 else 5 := by
 unfold prsE; rw [if_neg (by omega), if_neg (by omega), if_neg (by simp [h])]
theorem end_cells {W : World} {g : Nat} {a b c : Value} {T : TypeId} (h : W.heap[g]? = some (.cells #[a, b, c] T (0, 0))) (x y z : Value) :
 ∃ W', ((W.setCell ⟨g, 0, none⟩ x).setCell ⟨g, 1, none⟩ y).setCell ⟨g, 2, none⟩ z = W' /\ (∀ B, B <= g -> Below B W W') /\ W'.heap[g]? = some (.cells #[x, y, z] T (0, 0)) /\ ∀ b, b ≠ g -> W'.heap[b]? = W.heap[b]? := by
 refine ⟨_, rfl, fun B hB => (((Below.refl _ _).setCell (by exact hB) _).setCell (by exact hB) _).setCell (by exact hB) _, ?_, fun b hb => (Below.heap_setCell _ _ _ _ hb).trans ((Below.heap_setCell _ _ _ _ hb).trans (Below.heap_setCell _ _ _ _ hb))⟩
 rw [heap_setCell_same (i := 2) (heap_setCell_same (i := 1) (heap_setCell_same (i := 0) h x) y) z]
 rfl
theorem BRow.bytes {w : World} {B n cap : Nat} {p : Option Addr} {l : List Int} (h : BRow w B (.slice p l.length cap) l) (hn : n = l.length) : Lib.BytesIn w p n l := fun h0 => by
 subst hn
 obtain ⟨p', cap', e, hp⟩ := h.form
 injection e with e1 e2 e3
 subst e1
 obtain ⟨g, rfl, _, _, hc⟩ := hp (by intro e; rw [e] at h0; simp at h0)
 refine ⟨g, 0, rfl, fun i hi => ?_⟩
 rw [Nat.zero_add, hc i hi]
 simp [List.getD_eq_getElem?_getD, hi]
theorem bytesOf_beq {xs ys : List Int} (hx : ∀ x ∈ xs, 0 <= x /\ x < 256) (hy : ∀ x ∈ ys, 0 <= x /\ x < 256) : (Lib.bytesOf xs == Lib.bytesOf ys) = decide (xs = ys) := by
 have key : ∀ (xs ys : List Int), (∀ x ∈ xs, 0 <= x /\ x < 256) -> (∀ x ∈ ys, 0 <= x /\ x < 256) -> Lib.bytesOf xs = Lib.bytesOf ys -> xs = ys := by
  intro xs
  induction xs with
  | nil => intro ys _ _ h; cases ys with
   | nil => rfl
   | cons y r => cases h
  | cons x r ih =>
   intro ys hx hy h
   cases ys with
   | nil => cases h
   | cons y r' =>
    have h' : UInt8.ofNat x.toNat :: Lib.bytesOf r = UInt8.ofNat y.toNat :: Lib.bytesOf r' := h
    injection h' with h1 h2
    have a1 := hx x (by simp)
    have a2 := hy y (by simp)
    have h3 := congrArg UInt8.toNat h1
    simp only [UInt8.toNat_ofNat'] at h3
    rw [ih r' (fun z hz => hx z (by simp [hz])) (fun z hz => hy z (by simp [hz])) h2]
    congr 1
    omega
 by_cases h : xs = ys
 ·subst h; simp
 ·have : Lib.bytesOf xs ≠ Lib.bytesOf ys := fun e => h (key xs ys hx hy e)
  simp [h, this]
def ParsePost (l : List Int) (w : World) (e : Ending) (w' : World) : Prop :=
 ∃ v, e = .returned (.tuple #[v, .int .i64 (prsE l)]) /\ TabAt w' v (if prsE l = 0 then prs l else zeroTab) /\ Below w.heap.size w w'
theorem Parse_go (A : Option Addr) (c : Nat) (l : List Int) (w : World) (hA : BytesBelow w w.heap.size A l.length l) (hc : l.length <= c) (hby : ∀ x ∈ l, 0 <= x /\ x < 256) (h1 : l.length <= 20000) (h2 : 8 <= l.length) :
 Calls Tryz.prog 27 #[.slice A l.length c] w (ParsePost l w) := by
 obtain ⟨b, o, rfl, hbl, -⟩ := hA (by omega)
 have HR0 := qH (rd_start hA hc h2 (.cells #[.slice none 0 0, .int .i64 0, .slice none 0 0] 58))
 have HA := qH hA
 have HBY := qH hby
 have hc4 : (c == 4) = false := by simp; omega
 have hc4' : ¬ c = 4 := by omega
 clear hA hby
 have h0 : decide ((20000 : Int) < (l.length : Int)) = false := by simp; omega
 have h8 : decide ((l.length : Int) < 8) = false := by simp; omega
 go_enter Tryz.func27, Tryz.ntmps27
 go_wp2_with fail
 obtain ⟨N, r1, q1⟩ : ∃ N r1, pH l = (N, r1) := ⟨_, _, rfl⟩
 obtain ⟨F, r2, q2⟩ : ∃ F r2, numN 1 r1 = (F, r2) := ⟨_, _, rfl⟩
 obtain ⟨M, r3, q3⟩ : ∃ M r3, numN 2 r2 = (M, r3) := ⟨_, _, rfl⟩
 obtain ⟨hN, y1⟩ := numN_q q1 (fun x hx => HBY.out x (List.mem_of_mem_drop hx))
 obtain ⟨hF, y2⟩ := numN_q q2 y1
 obtain ⟨hM, y3⟩ := numN_q q3 y2
 have Q1 := qH q1
 have Q2 := qH q2
 have Q3 := qH q3
 have Y1 := qH y1
 have Y2 := qH y2
 have Y3 := qH y3
 clear q1 q2 q3 y1 y2 y3
 simp only [Nat.pow_one, Nat.reducePow] at hN hF hM
 refine (number_at _ 1 _ _ N r1 Q1.out HR0.out (by decide) (fun x hx => HBY.out x (List.mem_of_mem_drop hx))).mono ?_
 rintro e w1 ⟨rfl, hr1, hg1⟩
 obtain ⟨s1, s2, s3⟩ := start_facts w _ _ hg1
 have HR1 := qH hr1
 have S1 := qH s1
 have S2 := qH s2
 clear hr1 s1 s2 hg1 HR0
 go_wp2_with fail
 refine (number_at _ 1 _ _ F r2 Q2.out HR1.out (by decide) Y1.out).mono ?_
 rintro e w2 ⟨rfl, hr2, hg2⟩
 have hz2 : w.heap.size + 1 < w2.heap.size := Nat.lt_of_lt_of_le s3 hg2.size
 have HP := qH (PL_start (f := (F : Int)) (S1.out.trans (grown_R hg2 (by omega) S1.out.size)) ((hg2.block _ (by omega) (by simp)).trans S2.out) hr2 Y2.out hz2)
 clear hr2 hg2 HR1 S1 S2
 go_wp2_with fail
 refine (number_at _ 2 _ _ M r3 Q3.out HP.out.rd (by decide) Y2.out).mono ?_
 rintro e w3 ⟨rfl, hr3, hg3⟩
 have HQ := qH (HP.out.read hr3 hg3 Y3.out)
 clear hr3 hg3 HP
 obtain ⟨T, eT⟩ : ∃ T, w2.heap.size = T := ⟨_, rfl⟩
 rw [eT] at HQ ⊢
 clear eT
 go_wp2_with fail
 obtain ⟨i0, hi, hz0, hz1, hz2⟩ := info_parts infoTy
 go_loopw [36] (fun s36 wr => ∃ (k : Nat) (xs : List Ty) (r : Rd) (sv : Value), k <= N /\ s36 = .int .i64 k /\ tys k r3 = (xs, r) /\ PL w wr T (T + 1) r sv (.slice none 0 0) F xs []) (fun s36 _ => N - (intOf s36).toNat)
 case atStart => exact ⟨0, [], r3, _, Nat.zero_le _, rfl, rfl, HQ.out⟩
 case round =>
  obtain ⟨k, xs, r, sv, hk, rfl, htys, hp⟩ := hrel
  have HTY := qH htys
  have HP := qH hp
  clear htys hp
  by_cases hlt : k < N
  ·obtain ⟨a, ra, q1⟩ : ∃ a ra, numN 4 r = (a, ra) := ⟨_, _, rfl⟩
   obtain ⟨s, rb, q2⟩ : ∃ s rb, numN 1 ra = (s, rb) := ⟨_, _, rfl⟩
   obtain ⟨kk, rc, q3⟩ : ∃ kk rc, numN 1 rb = (kk, rc) := ⟨_, _, rfl⟩
   obtain ⟨m, rd, q4⟩ : ∃ m rd, takeN kk rc = (m, rd) := ⟨_, _, rfl⟩
   obtain ⟨ha, y1⟩ := numN_q q1 HP.out.byte
   obtain ⟨hs, y2⟩ := numN_q q2 y1
   obtain ⟨hkk, y3⟩ := numN_q q3 y2
   obtain ⟨hm, y4⟩ := takeN_q q4 y3
   have HX := qH (tys_q HTY.out (ty1_q q1 q2 q3 q4))
   have G1 := qH q1
   have G2 := qH q2
   have G3 := qH q3
   have G4 := qH q4
   have Z1 := qH y1
   have Z2 := qH y2
   have Z3 := qH y3
   have Z4 := qH y4
   have HM := qH hm
   clear q1 q2 q3 q4 y1 y2 y3 y4 hm
   simp only [Nat.pow_one, Nat.reducePow] at ha hs hkk
   go_wp2_with fail
   refine (number_at _ 4 _ _ a ra G1.out HP.out.rd (by decide) HP.out.byte).mono ?_
   rintro e w4 ⟨rfl, hr4, hg4⟩
   have P4 := qH (HP.out.read hr4 hg4 Z1.out)
   clear hr4 hg4 HP
   go_wp2_with fail
   refine (number_at _ 1 _ _ s rb G2.out P4.out.rd (by decide) Z1.out).mono ?_
   rintro e w5 ⟨rfl, hr5, hg5⟩
   have P5 := qH (P4.out.read hr5 hg5 Z2.out)
   clear hr5 hg5 P4
   go_wp2_with fail
   have hsq : ((s : Int) == 1) = (s == 1) := by
    rw [Bool.eq_iff_iff]; simp; omega
   rw [hsq]
   clear hsq
   obtain ⟨sb, hsb⟩ : ∃ sb, (s == 1) = sb := ⟨_, rfl⟩
   rw [hsb] at HX ⊢
   obtain ⟨off, hoff⟩ : ∃ off : Int, (a : Int) - 2147483648 = off := ⟨_, rfl⟩
   rw [hoff] at HX ⊢
   clear hsb hoff ha hs
   have P6 := qH (P5.out.alloc (Obj.cells #[Value.int .i64 off, Value.bool sb, Value.string ⟨#[]⟩] 51))
   have hX0 : Hid ((w5.alloc (Obj.cells #[Value.int .i64 off, Value.bool sb, Value.string ⟨#[]⟩] 51)).heap[w5.heap.size]? = some (Obj.cells #[Value.int .i64 off, Value.bool sb, Value.string ⟨#[]⟩] 51 (0, 0))) := heap_alloc_new w5 _
   have hXT : T < w5.heap.size := by have := P5.out.hS; have := P5.out.hB; omega
   have hXR : w.heap.size + 1 < w5.heap.size := by have := P5.out.hT; omega
   have hXl : Hid (w5.heap.size < (w5.alloc (Obj.cells #[Value.int .i64 off, Value.bool sb, Value.string ⟨#[]⟩] 51)).heap.size) := by show _ < _; simp
   have hU1 : Hid (sv.ownBlock ≠ some w5.heap.size) := fun e => by have := (World.ownsRow.lt P5.out.rowT _ e).2; omega
   obtain ⟨W6, hW6⟩ : ∃ W6, w5.alloc (Obj.cells #[Value.int .i64 off, Value.bool sb, Value.string ⟨#[]⟩] 51) = W6 := ⟨_, rfl⟩
   rw [hW6] at P6 hX0 hXl ⊢
   obtain ⟨X, eX⟩ : ∃ X, w5.heap.size = X := ⟨_, rfl⟩
   rw [eX] at hX0 hXT hXR hXl hU1 ⊢
   clear eX hW6 P5
   refine (number_at _ 1 _ _ kk rc G3.out P6.out.rd (by decide) Z2.out).mono ?_
   rintro e w7 ⟨rfl, hr7, hg7⟩
   have P7 := qH (P6.out.read hr7 hg7 Z3.out)
   have hX7 := qH ((hg7.block X hXl.out (by intro e; injection e with e; omega)).trans hX0.out)
   clear hr7 hg7 P6 hX0 hXl
   go_wp2_with fail
   refine (bytes_at _ kk _ _ m rd G4.out P7.out.rd (by omega)).mono ?_
   rintro e w8 ⟨A8, c8, rfl, hc8, hbb, hr8, hg8⟩
   have P8 := qH (P7.out.read hr8 hg8 Z4.out)
   have hX8 := (hg8.block X (Array.getElem?_eq_some_iff.1 hX7.out).1 (by intro e; injection e with e; omega)).trans hX7.out
   have hcv := hbb.bytes.convert (P := Tryz.prog) HM.out c8 73 5 9 undBytes Tryz.underlying5 undString
   obtain ⟨x0, x1, x2⟩ := cellsX hX8
   have fx : w8.frozen? ⟨X, 2, none⟩ = false := by simp [World.frozen?, hX8]
   have hX9 := heap_setCell_same (i := 2) hX8 (.string (strOfNums m))
   have P9 := qH (P8.out.far (X := X) (i := 2) (by omega) hU1.out (by simp [Value.ownBlock]) (.string (strOfNums m)))
   have HX9 := qH hX9
   clear hr8 hg8 P7 hX7 hbb hX8 P8 hX9
   go_upto_region 13 with (fail)
   obtain ⟨W9, hW9⟩ : ∃ W9, w8.setCell ⟨X, 2, none⟩ (.string (strOfNums m)) = W9 := ⟨_, rfl⟩
   rw [hW9] at P9 HX9 ⊢
   clear hW9 hcv x0 x1 x2 fx hc8
   have hx9 : W9.heap[X]? = some (.cells #[Value.int .i64 off, Value.bool sb, Value.string (strOfNums m)] 51 (0, 0)) := HX9.out
   obtain ⟨x0, x1, x2⟩ := cellsX hx9
   obtain ⟨t0, -, -⟩ := cellsX P9.out.tb
   have hlen : xs.length = k := by have := tys_len r3 k; rw [HTY.out] at this; exact this
   have HOW : Hid ((W9.alloc (Obj.cells #[Value.int .i64 off, Value.bool sb, Value.string (strOfNums m)] 51)).ownsRow (T + 1) 51 3 sv k (tyCells xs)) := by
    have := World.ownsRow.alloc P9.out.rowT (Obj.cells #[Value.int .i64 off, Value.bool sb, Value.string (strOfNums m)] 51)
    rw [hlen] at this
    exact this
   have HLEN := qH hlen
   have HN0 : Hid (∀ (j : Nat) (u : Value), [Value.int .i64 off, Value.bool sb, Value.string (strOfNums m)][j]? = some u -> (W9.alloc (Obj.cells #[Value.int .i64 off, Value.bool sb, Value.string (strOfNums m)] 51)).cell? ((⟨W9.heap.size, 0, none⟩ : Addr).add j) = some u) :=
    World.news_of_block (cs := #[Value.int .i64 off, Value.bool sb, Value.string (strOfNums m)]) (t := 51) (fr := (0, 0)) (heap_alloc_new W9 _)
   have HN1 : Hid (∀ u ∈ [Value.int .i64 off, Value.bool sb, Value.string (strOfNums m)], u.oneCell' = true) := by intro u hu; simp at hu; rcases hu with rfl | rfl | rfl <;> rfl
   have HN2 : Hid (k + 1 <= maxLen) := by show _ <= _; simp only [maxLen]; omega
   have HN3 : Hid ((k + 1) * 32 <= 140737488355328) := by show _ <= _; omega
   have HN4 : Hid (T + 1 <= (W9.alloc (Obj.cells #[Value.int .i64 off, Value.bool sb, Value.string (strOfNums m)] 51)).heap.size) := by have := P9.out.hS; show _ <= _; simp; omega
   have hTl : T < W9.heap.size := P9.out.hS
   have HTS : Hid (sv.ownBlock ≠ some T) := fun e => by have := (World.ownsRow.lt P9.out.rowT _ e).1; omega
   clear hlen hx9
   go_wp2_with (first
    | (at_builtin
       refine wpList_append_own_at _ rfl _ _ 55 rfl (T + 1) 51 i0 _ 3 32 undTypes hi hz0 hz1 hz2 rfl (by decide) _ _ _ rfl HOW.out ⟨W9.heap.size, 0, none⟩ 1 1 [.int .i64 off, .bool sb, .string (strOfNums m)] rfl rfl HN0.out HN1.out HN2.out HN3.out HN4.out ?_
       intro v' w10 hown10 hg10 _ hat10
       obtain ⟨g10, cap10, rfl⟩ := ownsRow_form hown10 (by omega)
       have htb10 := (hg10.block T (by simp; omega) (fun e => HTS.out e.symm)).trans ((Below.heap_alloc W9 _ T hTl).trans P9.out.tb)
       obtain ⟨t10, -, -⟩ := cellsX htb10
       have f10 : w10.frozen? ⟨T, 0, none⟩ = false := by simp [World.frozen?, htb10]
       clear htb10))
   go_roundw
   case rel =>
    refine ⟨k + 1, xs ++ [⟨off, sb, strOfNums m⟩], rd, _, by omega, by go_num, HX.out, P9.out.put0 (((Below.refl _ _).alloc P9.out.hS _).grown hg10 HN4.out (fun q hq => (World.ownsRow.lt P9.out.rowT q hq).1)) ?_ (World.ownsRow_nil _ _ _ _)⟩
    rw [tyCells_snoc, List.length_append, HLEN.out]
    exact hown10
   case measure => simp [intOf]; omega
  ·obtain rfl : k = N := by omega
   have PX := qH (px_q Q1.out Q2.out Q3.out HTY.out)
   have PR := qH (prs_q Q1.out Q2.out Q3.out HTY.out)
   have HNM : Hid (∀ x ∈ xs, x.name.size <= maxLen) := by
    intro x hx
    have := tys_names r3 Y3.out k x (by rw [HTY.out]; exact hx)
    simp only [maxLen]; omega
   have HLX : Hid (xs.length <= 300) := by
    have := tys_len r3 k
    rw [HTY.out] at this
    show xs.length <= 300
    have e : xs.length = k := this
    omega
   clear Q1 Q2 Q3 HTY
   go_wp2_with fail
   obtain ⟨W0, eW0⟩ : ∃ W0, wr = W0 := ⟨_, rfl⟩
   obtain ⟨r4, er4⟩ : ∃ r4, r = r4 := ⟨_, rfl⟩
   rw [eW0] at HP ⊢
   rw [er4] at HP PX PR
   clear eW0 er4
   obtain ⟨i1, hi1, hz10, hz11, hz12⟩ := info_parts infoCh
   go_loopw [61] (fun s61 wr => ∃ (j : Nat) (ys : List Ch) (r : Rd) (cv : Value), j <= M /\ s61 = .int .i64 j /\ chs j r4 = (ys, r) /\ PL w wr T (T + 1) r sv cv F xs ys) (fun s61 _ => M - (intOf s61).toNat)
   case atStart => exact ⟨0, [], r4, _, Nat.zero_le _, rfl, rfl, HP.out⟩
   case round =>
    obtain ⟨j, ys, r, cv, hj, rfl, hchs, hp⟩ := hrel
    have HCH := qH hchs
    have HPP := qH hp
    clear hchs hp
    obtain ⟨Ar, cr, hcr, hheap, hbb⟩ := HPP.out.rd
    obtain ⟨-, z1⟩ := cellsX2 hheap
    clear hheap hbb hcr
    obtain ⟨k0, k1, k2⟩ := cellsX HPP.out.res
    have fk0 : wr.frozen? ⟨w.heap.size, 0, none⟩ = false := by simp [World.frozen?, HPP.out.res]
    have fk1 : wr.frozen? ⟨w.heap.size, 1, none⟩ = false := by simp [World.frozen?, HPP.out.res]
    have fk2 : wr.frozen? ⟨w.heap.size, 2, none⟩ = false := by simp [World.frozen?, HPP.out.res]
    have hzl : w.heap.size < wr.heap.size := by have := HPP.out.hT; have := HPP.out.hB; have := HPP.out.hS; omega
    by_cases hlt2 : j < M
    ·cases hsh : r.short
     ·rw [hsh] at z1
      have HSH := qH hsh
      clear hsh
      go_wp2_with fail
      obtain ⟨a, ra, q1⟩ : ∃ a ra, numN 8 r = (a, ra) := ⟨_, _, rfl⟩
      obtain ⟨kk, rd, q2⟩ : ∃ kk rd, numN 1 ra = (kk, rd) := ⟨_, _, rfl⟩
      obtain ⟨ha, y1⟩ := numN_q q1 HPP.out.byte
      obtain ⟨hkk, y2⟩ := numN_q q2 y1
      have HX := qH (chs_q HCH.out HSH.out (ch1_q q1 q2))
      have HLY := qH (chs_len_eq j HCH.out HSH.out)
      have HWA := qH (at_wrap a ha)
      have G1 := qH q1
      have G2 := qH q2
      have Z1 := qH y1
      have Z2 := qH y2
      clear q1 q2 y1 y2 ha
      simp only [Nat.pow_one, Nat.reducePow] at hkk
      obtain ⟨-, -, t0⟩ := cellsX HPP.out.tb
      have HJ2 : Hid (j + 1 <= maxLen) := by show _ <= _; simp only [maxLen]; omega
      have HJ3 : Hid ((j + 1) * 16 <= 140737488355328) := by show _ <= _; omega
      go_region_law (first
       | (refine step_append_lies _ (by rfl) _ _ _ (by rfl) (T + 1) 61 i1 (.agg #[.int .i64 0, .int .i64 0]) 2 16 undChs hi1 hz10 hz11 hz12 rfl (by omega) cv j (chCells ys) (by rfl) (P5.out.rowC_at HLY.out _) ⟨w5.heap.size, 0, none⟩ 1 1 [.int .i64 _, .int .i64 _] (by rfl) (by rfl) (World.news_of_block (cs := #[.int .i64 _, .int .i64 _]) (t := 61) (fr := (0, 0)) (heap_alloc_new w5 _)) (one2i _ _) Nat.one_pos HJ2.out HJ3.out (Nat.le_trans P5.out.hS (by simp)) (w5.heap.size + 1) (by simp) ?_; intro g6 cap6 w6 hown6 hg6 hat6 hlt6; obtain ⟨t6, f6, hb6, ho6⟩ := P5.out.after hg6)
       | (go_simp; go_at_call 61; refine (number_at _ 1 _ _ kk rd G2.out P4.out.rd (by decide) Z1.out).mono ?_; rintro e w5 ⟨rfl, hr5, hg5⟩; have P5 := qH (P4.out.read hr5 hg5 Z2.out); obtain ⟨-, -, t5⟩ := cellsX P5.out.tb; have ht5 : T < w5.heap.size := P5.out.hS; clear hr5 hg5)
       | (go_simp; go_at_call 61; refine (number_at _ 8 _ _ a ra G1.out HPP.out.drew.rd (by decide) HPP.out.byte).mono ?_; rintro e w4 ⟨rfl, hr4, hg4⟩; have P4 := qH (HPP.out.drew.read hr4 hg4 Z1.out); obtain ⟨-, -, t4⟩ := cellsX P4.out.tb; clear hr4 hg4))
      all_goals
       go_wp2
       go_roundw
       case rel =>
        refine ⟨j + 1, ys ++ [⟨(a : Int) - 9223372036854775808, (kk : Int)⟩], rd, _, by omega, by go_num, HX.out, P5.out.put2 hb6 ho6 ?_⟩
        rw [chCells_snoc, List.length_append, HLY.out]
        have e : (kk : Int) = IntKind.i64.wrap (kk : Int) := by rw [IntKind.wrap_i64]; omega
        rw [HWA.out, <- e] at hown6
        exact hown6
       case measure => simp [intOf]; omega
     ·have PE : Hid (prsE l = 4) := by
       have e : chs M r4 = (ys, r) := by rw [show M = j + (M - j) by omega, chs_stop r4 j (by rw [HCH.out]; exact hsh), HCH.out]
       exact prsE_short h1 h2 (by rw [PX.out, e]; exact hsh)
      rw [hsh] at z1
      clear hsh
      go_wp2_with fail
      obtain ⟨W', hW', hB', hH', hO'⟩ := end_cells HPP.out.res (.slice none 0 0) (.int .i64 0) (.slice none 0 0)
      rw [hW']
      obtain ⟨m0, m1, m2⟩ := cellsX hH'
      exact bodyPost_ret (v := .tuple #[zeroTV, .int .i64 4]) (by simp [results, Tryz.results27, go_sem, zeroTV, m0, m1, m2]) rfl ⟨zeroTV, by rw [PE.out], by rw [PE.out]; exact zero_at _, HPP.out.base.trans (hB' _ (Nat.le_refl _))⟩
    ·obtain rfl : j = M := by omega
     cases hsh : r.short
     ·rw [hsh] at z1
      have PY : Hid (prs l = ⟨xs, F, ys⟩) := by show _ = _; rw [PR.out, HCH.out]
      have PE := qH (prsE_long h1 h2 (show (pX l).2.short = false by rw [PX.out, HCH.out]; exact hsh))
      obtain ⟨t0, t1, t2⟩ := cellsX HPP.out.tb
      clear hsh
      go_wp2_with fail
      have HTV : Hid (TabAt wr (.agg #[sv, .int .i64 F, cv]) (prs l)) := by
       show TabAt _ _ _
       rw [PY.out]
       have hly : ys.length <= j := by have := chs_len r4 j; rw [HCH.out] at this; exact this
       exact ⟨sv, cv, rfl, own_types HPP.out.rowT (Nat.le_trans HLX.out (by decide)) HNM.out, own_chs HPP.out.rowC (show ys.length <= 100000000 by omega)⟩
      by_cases hchk : chk (prs l) = 0
      ·refine (Pack_ok (prs l) _ wr HTV.out hchk).mono ?_
       rintro e w8 ⟨u, rfl, hr8, hb8⟩
       obtain ⟨p8, cap8, rfl, hp8⟩ := hr8.form
       have hby8 : Lib.BytesIn w8 p8 (enc (prs l)).length (enc (prs l)) := BRow.bytes hr8 rfl
       have hbyl : Lib.BytesIn w8 (some ⟨b, o, none⟩) l.length l := ((HA.out.keep fun b' o' hb' => (HPP.out.base.trans (hb8.mono (by omega))).cell (p := ⟨b', o', none⟩) hb').bytes)
       have HEQ := qH (Tryz.bytes_Equal_all p8 (some ⟨b, o, none⟩) (enc (prs l)).length cap8 l.length c (enc (prs l)) l w8 rfl rfl hby8 hbyl)
       have hok := enc_byte (prs l) (chk_ok _ hchk)
       have hbeq := bytesOf_beq hok HBY.out
       obtain ⟨NE, eNE⟩ : ∃ NE, (enc (prs l)).length = NE := ⟨_, rfl⟩
       rw [eNE] at HEQ ⊢
       have hres8 := (hb8.block _ hzl).trans HPP.out.res
       have hTl : T < wr.heap.size := HPP.out.hS
       have htb8 := (hb8.block _ hTl).trans HPP.out.tb
       obtain ⟨n0, n1, n2⟩ := cellsX hres8
       obtain ⟨tt0, tt1, tt2⟩ := cellsX htb8
       have gn0 : w8.frozen? ⟨w.heap.size, 0, none⟩ = false := by simp [World.frozen?, hres8]
       have gn1 : w8.frozen? ⟨w.heap.size, 1, none⟩ = false := by simp [World.frozen?, hres8]
       have gn2 : w8.frozen? ⟨w.heap.size, 2, none⟩ = false := by simp [World.frozen?, hres8]
       have HB8 := qH (HPP.out.base.trans (hb8.mono (by omega)))
       have HR8 := qH hres8
       have H88 := qH hb8
       by_cases henc : enc (prs l) = l
       ·have PE0 : Hid (prsE l = 0) := by show _ = _; rw [PE.out, if_pos ⟨hchk, henc⟩]
        obtain ⟨As, ns, cs, rfl⟩ := own_slice HPP.out.rowT
        obtain ⟨Ac, nc, cc, rfl⟩ := own_slice HPP.out.rowC
        have hbt : (Lib.bytesOf (enc (prs l)) == Lib.bytesOf l) = true := by rw [hbeq]; simpa using henc
        rw [hbt] at HEQ
        clear hb8 hres8 htb8 eNE hby8 hbyl hok hbeq hr8 hp8 hbt henc
        go_wp2_with fail
        refine HEQ.out.mono ?_
        rintro e w9 ⟨rfl, rfl⟩
        go_wp2_with fail
        obtain ⟨W', hW', hB', hH', hO'⟩ := end_cells HR8.out (.slice As ns cs) (.int .i64 F) (.slice Ac nc cc)
        rw [hW']
        obtain ⟨m0, m1, m2⟩ := cellsX hH'
        have a1 := HPP.out.hT
        have a2 := HPP.out.hB
        have hk : ∀ g, T + 1 <= g -> g < wr.heap.size -> W'.heap[g]? = wr.heap[g]? := fun g h1 h2 => (hO' g (by omega)).trans (H88.out.block g h2)
        refine bodyPost_ret (v := .tuple #[.agg #[.slice As ns cs, .int .i64 F, .slice Ac nc cc], .int .i64 0]) (by simp [results, Tryz.results27, go_sem, m0, m1, m2]) rfl ⟨.agg #[.slice As ns cs, .int .i64 F, .slice Ac nc cc], by rw [PE0.out], ?_, HB8.out.trans (hB' _ (Nat.le_refl _))⟩
        rw [PE0.out, if_pos rfl, PY.out]
        have hly : ys.length <= j := by have := chs_len r4 j; rw [HCH.out] at this; exact this
        refine ⟨_, _, rfl, own_types (own_keep HPP.out.rowT fun g e => hk g (World.ownsRow.lt HPP.out.rowT g e).1 (World.ownsRow.lt HPP.out.rowT g e).2) (Nat.le_trans HLX.out (by decide)) HNM.out,
         own_chs (own_keep HPP.out.rowC fun g e => hk g (World.ownsRow.lt HPP.out.rowC g e).1 (World.ownsRow.lt HPP.out.rowC g e).2) (show ys.length <= 100000000 by omega)⟩
       ·have PE5 : Hid (prsE l = 5) := by show _ = _; rw [PE.out, if_neg (fun h => henc h.2)]
        have hbt : (Lib.bytesOf (enc (prs l)) == Lib.bytesOf l) = false := by rw [hbeq]; simpa using henc
        rw [hbt] at HEQ
        clear hb8 hres8 htb8 eNE hby8 hbyl hok hbeq hr8 hp8 hbt henc
        go_wp2_with fail
        refine HEQ.out.mono ?_
        rintro e w9 ⟨rfl, rfl⟩
        go_wp2_with fail
        obtain ⟨W', hW', hB', hH', hO'⟩ := end_cells HR8.out (.slice none 0 0) (.int .i64 0) (.slice none 0 0)
        rw [hW']
        obtain ⟨m0, m1, m2⟩ := cellsX hH'
        exact bodyPost_ret (v := .tuple #[zeroTV, .int .i64 5]) (by simp [results, Tryz.results27, go_sem, zeroTV, m0, m1, m2]) rfl ⟨zeroTV, by rw [PE5.out], by rw [PE5.out]; exact zero_at _, HB8.out.trans (hB' _ (Nat.le_refl _))⟩
      ·refine (Pack_bad (prs l) _ wr HTV.out hchk).mono ?_
       have PE5 : Hid (prsE l = 5) := by show _ = _; rw [PE.out, if_neg (by simp [hchk])]
       obtain ⟨C, eC⟩ : ∃ C, chk (prs l) = C := ⟨_, rfl⟩
       rw [eC] at hchk ⊢
       have hne : (C == 0) = false := by simpa using hchk
       have hne2 : (C != 0) = true := by simpa using hchk
       rintro e w8 ⟨rfl, hb8⟩
       have hres8 := (hb8.block _ hzl).trans HPP.out.res
       obtain ⟨n0, n1, n2⟩ := cellsX hres8
       have gn0 : w8.frozen? ⟨w.heap.size, 0, none⟩ = false := by simp [World.frozen?, hres8]
       have gn1 : w8.frozen? ⟨w.heap.size, 1, none⟩ = false := by simp [World.frozen?, hres8]
       have gn2 : w8.frozen? ⟨w.heap.size, 2, none⟩ = false := by simp [World.frozen?, hres8]
       have HB8 := qH (HPP.out.base.trans (hb8.mono (by omega)))
       have HR8 := qH hres8
       clear hb8 hres8 eC hchk
       go_wp2_with fail
       obtain ⟨W', hW', hB', hH', hO'⟩ := end_cells HR8.out (.slice none 0 0) (.int .i64 0) (.slice none 0 0)
       rw [hW']
       obtain ⟨m0, m1, m2⟩ := cellsX hH'
       exact bodyPost_ret (v := .tuple #[zeroTV, .int .i64 5]) (by simp [results, Tryz.results27, go_sem, zeroTV, m0, m1, m2]) rfl ⟨zeroTV, by rw [PE5.out], by rw [PE5.out]; exact zero_at _, HB8.out.trans (hB' _ (Nat.le_refl _))⟩
     ·have PE : Hid (prsE l = 4) := prsE_short h1 h2 (by rw [PX.out, HCH.out]; exact hsh)
      rw [hsh] at z1
      clear hsh
      go_wp2_with fail
      obtain ⟨W', hW', hB', hH', hO'⟩ := end_cells HPP.out.res (.slice none 0 0) (.int .i64 0) (.slice none 0 0)
      rw [hW']
      obtain ⟨m0, m1, m2⟩ := cellsX hH'
      exact bodyPost_ret (v := .tuple #[zeroTV, .int .i64 4]) (by simp [results, Tryz.results27, go_sem, zeroTV, m0, m1, m2]) rfl ⟨zeroTV, by rw [PE.out], by rw [PE.out]; exact zero_at _, HPP.out.base.trans (hB' _ (Nat.le_refl _))⟩
end Go.Proofs.YtomahddiclkepaaGreatDoor
namespace Go.Proofs.YtomahddiclkepaaGreatDoor
open Go.RowKit Go.Joins
theorem Parse_any (A : Option Addr) (c : Nat) (l : List Int) (w : World) (hA : BytesBelow w w.heap.size A l.length l) (hc : l.length <= c) (hby : ∀ x ∈ l, 0 <= x /\ x < 256) :
 Calls Tryz.prog 27 #[.slice A l.length c] w (ParsePost l w) := by
 by_cases h1 : 20000 < l.length
 ·have e : prsE l = 2 := by unfold prsE; rw [if_pos h1]
  refine (Parse_large A l.length c w h1).mono ?_
  rintro e' w' ⟨rfl, hb⟩
  exact ⟨zeroTV, by rw [e], by rw [e]; exact zero_at _, hb⟩
 ·by_cases h2 : l.length < 8
  ·have e : prsE l = 4 := by unfold prsE; rw [if_neg h1, if_pos h2]
   refine (PkParse_short A l.length c w h2).mono ?_
   rintro e' w' ⟨rfl, hb⟩
   exact ⟨zeroTV, by rw [e], by rw [e]; exact zero_at _, hb⟩
  ·exact Parse_go A c l w hA hc hby (by omega) (by omega)
theorem BRow.below {w : World} {B n cap : Nat} {p : Option Addr} {l : List Int} (h : BRow w B (.slice p n cap) l) : n = l.length /\ n <= cap /\ BytesBelow w w.heap.size p n l := by
 obtain ⟨p', cap', e, hp⟩ := h.form
 injection e with e1 e2 e3
 subst e1; subst e2; subst e3
 refine ⟨rfl, ?_, fun h0 => ?_⟩
 ·rcases h.2 with ⟨e, h0⟩ | ⟨g, cap', cur, e, _, _, hn, _⟩
  ·rw [h0]; exact Nat.zero_le _
  ·injection e with _ _ e3; omega
 ·obtain ⟨g, rfl, hg, _, hc⟩ := hp (by intro e; rw [e] at h0; simp at h0)
  refine ⟨g, 0, rfl, hg, fun i hi => ?_⟩
  rw [Nat.zero_add, hc i hi]
  simp [List.getD_eq_getElem?_getD, hi]
end Go.Proofs.YtomahddiclkepaaGreatDoor
namespace Go.Proofs.YtomahddiclkepaaGreatDoor
open Go.RowKit Go.Shelf
theorem cells3A {W : World} {B : Nat} {a b c : Value} {T : TypeId} (h : W.heap[B]? = some (.cells #[a, b, c] T (0, 0))) : W.cell? ⟨B, 0, none⟩ = some a /\ W.cell? ⟨B, 1, none⟩ = some b /\ W.cell? ⟨B, 2, none⟩ = some c := by
 refine ⟨?_, ?_, ?_⟩ <;> simp [World.cell?, h]
theorem froz {W : World} {B : Nat} {cs : Array Value} {T : TypeId} (h : W.heap[B]? = some (Obj.cells cs T (0, 0))) (i : Nat) : W.frozen? ⟨B, i, none⟩ = false := by simp [World.frozen?, h]
theorem At_ok (t : Tab) (v : Value) (x : Int) (w : World) (hv : TabAt w v t) (h0 : chk t = 0) :
 Calls Tryz.prog 22 #[v, .int .i64 x] w fun e w' => e = .returned (.tuple #[tyV (tyOf t x), .int .i64 0]) /\ Below w.heap.size w w' := by
 obtain ⟨sv, cv, rfl⟩ := hv.parts
 obtain ⟨W0, hW0⟩ : ∃ W0, w.alloc (.cells #[sv, .int .i64 t.first, cv] 58) = W0 := ⟨_, rfl⟩
 obtain ⟨hB, hS, q0, q1, q2⟩ := box3 hW0
 obtain ⟨W1, hW1⟩ : ∃ W1, W0.alloc (.cells #[.int .i64 0, .bool false, .string ⟨#[]⟩] 51) = W1 := ⟨_, rfl⟩
 have n1 := World.alloc_heap_new W0 (.cells #[.int .i64 0, .bool false, .string ⟨#[]⟩] 51)
 have b1 : Below w.heap.size w W1 := by rw [<- hW1]; exact hB.alloc (by omega) _
 have bb1 : Below W0.heap.size W0 W1 := by rw [<- hW1]; exact (Below.refl _ _).alloc (Nat.le_refl _) _
 have s1 : W1.heap.size = w.heap.size + 2 := by rw [<- hW1]; simp; omega
 rw [hW1, hS] at n1
 have HCC := Check_any t _ _ (hv.below b1)
 rw [h0] at HCC
 have HO := qH (fun W (hb : Below w.heap.size w W) => Of_any t _ x W (hv.below hb) h0)
 obtain ⟨T, eT⟩ : ∃ T, tyOf t x = T := ⟨_, rfl⟩
 rw [eT] at HO
 rw [eT]
 have HC := qH HCC
 have HW0 := qH hW0
 have HW1 := qH hW1
 have HB1 := qH b1
 have N1 := qH n1
 have Q0 := qH ((bb1.cell (p := ⟨w.heap.size, 0, none⟩) (by show w.heap.size < _; omega)).trans q0)
 have Q1 := qH ((bb1.cell (p := ⟨w.heap.size, 1, none⟩) (by show w.heap.size < _; omega)).trans q1)
 have Q2 := qH ((bb1.cell (p := ⟨w.heap.size, 2, none⟩) (by show w.heap.size < _; omega)).trans q2)
 have S1 := qH s1
 clear hv h0 hW0 hW1 hB hS q0 q1 q2 n1 b1 bb1 s1 HCC eT
 go_enter Tryz.func22, Tryz.ntmps22
 go_wp2_with fail
 rw [HW0.out, HW1.out]
 refine HC.out.mono ?_
 rintro e w1 ⟨rfl, hb1⟩
 rw [S1.out] at hb1
 have q0 := (hb1.cell (p := ⟨w.heap.size, 0, none⟩) (by show w.heap.size < _; omega)).trans Q0.out
 have q1 := (hb1.cell (p := ⟨w.heap.size, 1, none⟩) (by show w.heap.size < _; omega)).trans Q1.out
 have q2 := (hb1.cell (p := ⟨w.heap.size, 2, none⟩) (by show w.heap.size < _; omega)).trans Q2.out
 have bw1 := HB1.out.trans (hb1.mono (by omega))
 go_wp2_with fail
 refine (HO.out _ bw1).mono ?_
 rintro e w2 ⟨rfl, hb2⟩
 have hs1 : w.heap.size + 2 <= w1.heap.size := by have := hb1.size; have := S1.out; omega
 have n2 := (hb2.block (w.heap.size + 1) (by omega)).trans ((hb1.block (w.heap.size + 1) (by omega)).trans N1.out)
 obtain ⟨r0, r1, r2⟩ := cells3A n2
 have f0 := froz n2 0
 have f1 := froz n2 1
 have f2 := froz n2 2
 have HB2 := qH (bw1.trans (hb2.mono bw1.size))
 have hlt2 : w.heap.size + 1 < w2.heap.size := by have := hb2.size; omega
 clear n2 hb1 hb2 bw1 q0 q1 q2
 simp only [tyV]
 go_wp2
 refine bodyPost_ret (v := .tuple #[tyV T, .int .i64 0]) (by simp [results, Tryz.results22, go_sem, r0, r1, r2]) rfl ⟨rfl, ?_⟩
 exact ((HB2.out.setCell (by simp) _).setCell (by simp) _).setCell (by simp) _
end Go.Proofs.YtomahddiclkepaaGreatDoor
namespace Go.Proofs.YtomahddiclkepaaGreatDoor
open Go.RowKit Go.Joins Go.Maps
open Classical
theorem zosE_mapY : ∀ (zs : List (ByteArray × List Er)) (evs : List Value), zs.length = evs.length -> (zosE zs evs).map (fun z => (z.nm, z.eras)) = zs := by
 intro zs evs h
 refine List.ext_getElem (by rw [List.length_map, zosE_len _ _ h]) fun i h1 h2 => ?_
 rw [List.getElem_map, zosE_get _ _ h i (by rw [zosE_len _ _ h]; exact h2) (by omega)]
 unfold zD
 rw [List.getD_eq_getElem?_getD, List.getElem?_eq_getElem h2]
 rfl
theorem ps_openY {rs : List Ru} {zs : List (ByteArray × List Er)} {ls : List Lk} {sg : Int} {w w' : World} {e : Ending} (h : PsPost (⟨rs, zs, ls, sg⟩, 0, 0) w e w') : Below w.heap.size w w' /\ ∃ p1 n1 c1 p2 n2 c2 p3 n3 c3 c, e = .returned (.tuple #[.agg #[.slice p1 n1 c1, .slice p2 n2 c2, .slice p3 n3 c3], .int .i64 0, .int .i64 0]) /\ BookAt w'.heap.size w' (.slice p1 n1 c1) (.slice p2 n2 c2) (.slice p3 n3 c3) c /\ c.rules = rs /\ c.links = ls /\ c.zones.map (fun z => (z.nm, z.eras)) = zs := by
 obtain ⟨hb, rv, zv, lv, evs, rfl, hel, hbk⟩ := h
 obtain ⟨p1, c1, e1, -, -⟩ := hbk.r
 obtain ⟨p2, c2, e2, -, -⟩ := hbk.z
 obtain ⟨p3, c3, e3, -, -⟩ := hbk.l
 subst e1; subst e2; subst e3
 exact ⟨hb, _, _, _, _, _, _, _, _, _, _, rfl, hbk, rfl, rfl, zosE_mapY _ _ hel⟩
theorem bk3_boxY {w W : World} {x y z : Value} (e : w.alloc (.cells #[x, y, z] 26) = W) {bb : Nat} (eb : w.heap.size = bb) : Below w.heap.size w W /\ bb < W.heap.size /\ ∀ W', Below W.heap.size W W' -> W'.cell? ⟨bb, 0, none⟩ = some x /\ W'.cell? ⟨bb, 1, none⟩ = some y /\ W'.cell? ⟨bb, 2, none⟩ = some z := by
 subst e
 subst eb
 refine ⟨alBelow _ _, by simp, fun W' hb => ?_⟩
 have hx := (hb.block w.heap.size (by simp)).trans (heap_alloc_new w _)
 exact ⟨(cell_of_row W' _ 0 _ _ _ hx).trans rfl, (cell_of_row W' _ 1 _ _ _ hx).trans rfl, (cell_of_row W' _ 2 _ _ _ hx).trans rfl⟩
theorem tb3_boxY {w W : World} {x y z : Value} (e : w.alloc (.cells #[x, y, z] 58) = W) {bb : Nat} (eb : w.heap.size = bb) : Below w.heap.size w W /\ bb < W.heap.size /\ ∀ W', Below W.heap.size W W' -> W'.cell? ⟨bb, 0, none⟩ = some x /\ W'.cell? ⟨bb, 1, none⟩ = some y /\ W'.cell? ⟨bb, 2, none⟩ = some z := by
 subst e
 subst eb
 refine ⟨alBelow _ _, by simp, fun W' hb => ?_⟩
 have hx := (hb.block w.heap.size (by simp)).trans (heap_alloc_new w _)
 exact ⟨(cell_of_row W' _ 0 _ _ _ hx).trans rfl, (cell_of_row W' _ 1 _ _ _ hx).trans rfl, (cell_of_row W' _ 2 _ _ _ hx).trans rfl⟩
theorem ty3_boxY {w W : World} {x y z : Value} (e : w.alloc (.cells #[x, y, z] 51) = W) {bb : Nat} (eb : w.heap.size = bb) : Below w.heap.size w W /\ bb < W.heap.size /\ ∀ W', Below W.heap.size W W' -> W'.cell? ⟨bb, 0, none⟩ = some x /\ W'.cell? ⟨bb, 1, none⟩ = some y /\ W'.cell? ⟨bb, 2, none⟩ = some z := by
 subst e
 subst eb
 refine ⟨alBelow _ _, by simp, fun W' hb => ?_⟩
 have hx := (hb.block w.heap.size (by simp)).trans (heap_alloc_new w _)
 exact ⟨(cell_of_row W' _ 0 _ _ _ hx).trans rfl, (cell_of_row W' _ 1 _ _ _ hx).trans rfl, (cell_of_row W' _ 2 _ _ _ hx).trans rfl⟩
theorem ps_badY {C : Int} {w w' : World} {e : Ending} (h : PsPost (rd0, 0, C) w e w') : Below w.heap.size w w' /\ ∃ p1 c1 p2 c2 p3 c3, e = .returned (.tuple #[.agg #[.slice p1 0 c1, .slice p2 0 c2, .slice p3 0 c3], .int .i64 0, .int .i64 C]) /\ BookAt w'.heap.size w' (.slice p1 0 c1) (.slice p2 0 c2) (.slice p3 0 c3) ⟨[], [], []⟩ := by
 obtain ⟨hb, rv, zv, lv, evs, rfl, hel, hbk⟩ := h
 obtain rfl : evs = [] := List.eq_nil_of_length_eq_zero hel.symm
 obtain ⟨p1, c1, e1, -, -⟩ := hbk.r
 obtain ⟨p2, c2, e2, -, -⟩ := hbk.z
 obtain ⟨p3, c3, e3, -, -⟩ := hbk.l
 subst e1; subst e2; subst e3
 exact ⟨hb, p1, c1, p2, c2, p3, c3, rfl, hbk⟩
theorem tb_badY {c : Int} {w w' : World} {e : Ending} (h : TbV (c, zTab) w e w') : Below w.heap.size w w' /\ ∃ p1 c1 p2 c2, e = .returned (.tuple #[.agg #[.slice p1 0 c1, .int .i64 0, .slice p2 0 c2], .int .i64 c]) /\ TabAt w' (.agg #[.slice p1 0 c1, .int .i64 0, .slice p2 0 c2]) zTab := by
 obtain ⟨p1, c1, p2, c2, rfl, htb, hb⟩ := h
 exact ⟨hb, p1, c1, p2, c2, rfl, htb⟩
theorem mkT_empty (nm : ByteArray) (fr te : Int) : ∃ c, c ≠ 0 /\ mkT ⟨[], [], []⟩ nm fr te = (c, zTab) := by
 have h : bkChk ⟨[], [], []⟩ = 0 := by kernel_rfl
 refine ⟨6, by decide, mkT_none (c := 6) ?_ fr te⟩
 rw [rsv_go h]
 exact resF_none rfl rfl
theorem zTab_chk : chk zTab ≠ 0 := by decide
theorem TopWays_walk (MK : MakeSays) (b : Bk) (rv zv lv : Value) (nm : ByteArray) (a1 a2 a3 : Int) (w : World) (hB : BookAt w.heap.size w rv zv lv b) (hn : nm.size <= 140737488351232) (ht : Tab10 w) (ha : AscTab w) (he : NumErrs w) (hm : MaxLen w) :
 Calls Tryz.prog 6 #[.agg #[rv, zv, lv], .string nm, .int .i64 a1, .int .i64 a2, .int .i64 a3] w fun e w' => e = .returned (.bool true) /\ Below w.heap.size w w' := by
 have HWK := qH (fun W (h : Below w.heap.size w W) => works_any MK W (ht.below h) (ha.below h) (he.below h) (hm.below h))
 have HFA := qH (fun W (h : Below w.heap.size w W) => And.intro (ht.below h) (And.intro (ha.below h) (And.intro (he.below h) (hm.below h))))
 have HSP := qH (fun W => spanT_any a1 a2 W)
 have HPT := qH (fun h1 h2 => parse_text (b := b) h1 h2 w ht ha he hm)
 obtain ⟨p1, c1, p2, c2, p3, c3, W0, rfl, rfl, rfl, eW, hbx⟩ := bk_box hB hm ht
 have HBX := qH hbx
 have HEW := qH eW
 have hz0 := hbx.lt
 have HB0 := qH hbx.hb
 clear hB hm ht ha he hbx eW
 go_enter Tryz.func6, Tryz.ntmps6
 go_upto_region 1 with fail
 rw [HEW.out]
 go_wp2_with fail
 refine (HWK.out W0 HB0.out).mono ?_
 rintro e w1 ⟨rfl, hb1⟩
 have HA1 := qH hb1
 clear hb1 HWK
 go_wp2_with fail
 refine (HSP.out w1).mono ?_
 rintro e w2 ⟨rfl, hb2⟩
 obtain ⟨hs1, hs2, hs3⟩ := s_bd a1 a2
 obtain ⟨hs4, hs5⟩ := s_stamp a1 a2
 generalize sF a1 = fr at *
 generalize sE a1 a2 = te at *
 obtain ⟨W3, e3⟩ : ∃ W3, w2.alloc (.cells #[.int .i64 fr, .int .i64 te] 68) = W3 := ⟨_, rfl⟩
 obtain ⟨hb3, hz3, hx3⟩ := sp_box e3
 obtain ⟨sb, esb⟩ : ∃ sb, w2.heap.size = sb := ⟨_, rfl⟩
 rw [esb] at hz3 hx3
 have HA3 := qH (HA1.out.trans ((hb2.trans (hb3.mono hb2.size)).mono HA1.out.size))
 have HX3 := qH hx3
 obtain ⟨s0, s1⟩ := hx3 W3 (Below.refl _ _)
 obtain ⟨x0, x1, x2⟩ := HBX.out.cells HA3.out
 have hmk := HBX.out.make MK nm hn fr te HA3.out (by omega) (by omega) (by omega) (by omega)
 have HCH := qH (fun T h => mk_chg (b := b) (nm := nm) (fr := fr) (te := te) (T := T) h)
 have HMD := qH (fun T h => mk_made (b := b) (nm := nm) (fr := fr) (te := te) (T := T) h)
 have HNO := qH (fun C T h hc => mk_none (b := b) (nm := nm) (fr := fr) (te := te) (T := T) (C := C) h hc)
 have HSY := qH (fun T y h h1 h2 => mk_says (b := b) (nm := nm) (fr := fr) (te := te) (T := T) (y := y) h h1 h2)
 have HSM := qH (fun c h1 h2 h3 => mkT_same (b := b) (c := c) h1 h2 h3 nm fr te)
 obtain ⟨R, eR⟩ : ∃ R, mkT b nm fr te = R := ⟨_, rfl⟩
 rw [eR] at hmk
 have HER := qH eR
 have HMK := qH hmk
 have HE3 := qH e3
 have HSB := qH esb
 clear hb2 hb3 hx3 e3 esb hmk eR HSP
 go_upto_region 4 with fail
 rw [HSB.out, HE3.out]
 go_wp2_with fail
 refine HMK.out.mono ?_
 rintro e w4 ⟨r1, l1, r2, l2, rfl, htb, hb4⟩
 obtain ⟨C, T⟩ := R
 simp only at htb ⊢
 obtain ⟨W5, e5⟩ : ∃ W5, w4.alloc (.cells #[.slice r1 T.types.length l1, .int .i64 0, .slice r2 T.chs.length l2] 58) = W5 := ⟨_, rfl⟩
 obtain ⟨tb, etb⟩ : ∃ tb, w4.heap.size = tb := ⟨_, rfl⟩
 obtain ⟨hb5, hz5, hx5⟩ := tb3_boxY e5 etb
 have HA5 := qH (HA3.out.trans ((hb4.trans (hb5.mono hb4.size)).mono HA3.out.size))
 have HS5 := qH (fun W (h : Below W5.heap.size W5 W) => HX3.out W ((hb4.trans (hb5.mono hb4.size)).trans (h.mono (hb4.trans (hb5.mono hb4.size)).size)))
 have HT5 := qH (fun W (h : Below W5.heap.size W5 W) => (htb.below hb5).below h)
 have HX5 := qH hx5
 obtain ⟨t0, t1, t2⟩ := hx5 W5 (Below.refl _ _)
 have HE5 := qH e5
 have HTB := qH etb
 clear hb4 hb5 hx5 e5 etb HMK s0 s1 x0 x1 x2 HX3
 go_upto_region 5 with fail
 rw [HTB.out, HE5.out]
 by_cases hC : C = 0
 case neg =>
  have hz : (C == 0) = false := by simpa using hC
  have hzn : (C != 0) = true := by simpa using hC
  obtain rfl : T = zTab := HNO.out C T HER.out hC
  have HEQ := qH (TableEq_any zTab zTab _ _ W5 (HT5.out W5 (Below.refl _ _)) (zTab_at W5))
  rw [decide_eq_true rfl] at HEQ
  clear hC
  go_wp2_with fail
  refine HEQ.out.mono ?_
  rintro e w6 ⟨rfl, hb6⟩
  have HA6 := qH (HA5.out.trans (hb6.mono HA5.out.size))
  go_wp2_with fail
  go_ret
  exact ⟨rfl, HB0.out.trans (HA6.out.mono HB0.out.size)⟩
 subst hC
 obtain ⟨-, -, -, hbc, -⟩ := HMD.out T HER.out
 obtain ⟨hnT, hcT, -, -⟩ := HCH.out T HER.out
 obtain ⟨x0, x1, x2⟩ := HBX.out.cells HA5.out
 have hA5w := HB0.out.trans (HA5.out.mono HB0.out.size)
 have htx := bookText_any b _ _ _ W5 ((HBX.out.hB.below hA5w (Nat.le_refl _)).baseN hA5w.size) (HFA.out W5 hA5w).1 (HFA.out W5 hA5w).2.1 (HFA.out W5 hA5w).2.2.2
 rw [hbc, if_pos rfl] at htx
 obtain ⟨X, eX⟩ : ∃ X, bkText b = X := ⟨_, rfl⟩
 rw [eX] at htx
 have HPF := qH (fun h2 => HPT.out hbc h2)
 rw [eX] at HPF
 have hXs := txt_size X
 have hXl : X.length <= 140737488351232 := by
  have h1 := join_len (bkLs b) 600 (line_le hbc)
  have h2 := bkLs_len hbc
  have h3 : 601 * (bkLs b).length <= 601 * 15020 := Nat.mul_le_mul_left _ h2
  rw [<- eX]
  unfold bkText
  omega
 have HTXT := qH htx
 have HCT := qH hcT
 have HNT := qH hnT
 clear hbc hcT hnT hA5w htx eX HPT HMD HCH HNO
 go_wp2_with fail
 refine HTXT.out.mono ?_
 rintro e w6 ⟨rfl, hb6⟩
 have HA6 := qH (HA5.out.trans (hb6.mono HA5.out.size))
 have HD6 := qH hb6
 have hA6w := HB0.out.trans (HA6.out.mono HB0.out.size)
 have hps := bookParse_any X w6 hXl (HFA.out w6 hA6w).1 (HFA.out w6 hA6w).2.1 (HFA.out w6 hA6w).2.2.1 (HFA.out w6 hA6w).2.2.2
 clear hb6 hA6w HTXT x0 x1 x2 t0 t1 t2
 by_cases hl : X.length <= 60000
 case neg =>
  have hpf : parseF X = (rd0, 0, 2) := by unfold parseF; rw [if_pos (by omega)]
  rw [hpf] at hps
  have HPS := qH hps
  have hl1 : (60000 : Int) < ((txt X).size : Int) := by omega
  clear hps hpf HPF
  go_wp2_with fail
  refine HPS.out.mono ?_
  intro e w7 hpost
  obtain ⟨hb7, q1, d1, q2, d2, q3, d3, rfl, hbk7⟩ := ps_badY hpost
  obtain ⟨W8, e8⟩ : ∃ W8, w7.alloc (.cells #[.slice q1 0 d1, .slice q2 0 d2, .slice q3 0 d3] 26) = W8 := ⟨_, rfl⟩
  obtain ⟨cb, ecb⟩ : ∃ cb, w7.heap.size = cb := ⟨_, rfl⟩
  obtain ⟨hb8, hz8, hx8⟩ := bk3_boxY e8 ecb
  have hb68 := hb7.trans (hb8.mono hb7.size)
  have HA8 := qH (HA6.out.trans (hb68.mono HA6.out.size))
  have hA8w := HB0.out.trans (HA8.out.mono HB0.out.size)
  obtain ⟨x0, x1, x2⟩ := hx8 W8 (Below.refl _ _)
  obtain ⟨s0, s1⟩ := HS5.out W8 (HD6.out.trans (hb68.mono HD6.out.size))
  obtain ⟨cc, hcc, hmt⟩ := mkT_empty nm fr te
  have hmk := Make_tab MK _ _ _ _ nm fr te W8 ((hbk7.below hb8 (Nat.le_refl _)).baseN hb8.size) hn (by omega) (by omega) (by omega) (by omega) (HFA.out W8 hA8w).2.2.2 (HFA.out W8 hA8w).1
  rw [hmt] at hmk
  have HMK := qH hmk
  have HE8 := qH e8
  have HCB := qH ecb
  clear hpost hb7 hbk7 hb8 hx8 e8 ecb hb68 hA8w hmt hmk hcc HPS HX5 HT5 HS5
  go_upto_region 9 with fail
  rw [HCB.out, HE8.out]
  go_wp2_with fail
  refine HMK.out.mono ?_
  intro e w9 hpost
  obtain ⟨hb9, r3, l3, r4, l4, rfl, htz⟩ := tb_badY hpost
  obtain ⟨W10, e10⟩ : ∃ W10, w9.alloc (.cells #[.slice r3 0 l3, .int .i64 0, .slice r4 0 l4] 58) = W10 := ⟨_, rfl⟩
  obtain ⟨ub, eub⟩ : ∃ ub, w9.heap.size = ub := ⟨_, rfl⟩
  obtain ⟨hb10, hz10, hx10⟩ := tb3_boxY e10 eub
  have HA10 := qH (HA8.out.trans ((hb9.trans (hb10.mono hb9.size)).mono HA8.out.size))
  obtain ⟨u0, u1, u2⟩ := hx10 W10 (Below.refl _ _)
  have HPK := qH (Pack_bad zTab _ W10 (htz.below hb10) zTab_chk)
  have HE10 := qH e10
  have HUB := qH eub
  clear hpost hb9 htz hb10 hx10 e10 eub HMK x0 x1 x2 s0 s1
  go_upto_region 10 with fail
  rw [HUB.out, HE10.out]
  go_wp2_with fail
  refine HPK.out.mono ?_
  rintro e w11 ⟨rfl, hb11⟩
  have HA11 := qH (HA10.out.trans (hb11.mono HA10.out.size))
  have HPR := qH (Parse_any none 0 [] w11 (fun h => absurd h (by decide)) (Nat.le_refl _) (fun x hx => by cases hx))
  clear hb11 HPK u0 u1 u2
  go_wp2_with fail
  refine HPR.out.mono ?_
  rintro e w12 ⟨v12, rfl, ht12, hb12⟩
  obtain ⟨f1, g1, f2, g2, rfl⟩ := tabForms ht12
  generalize (if prsE [] = 0 then prs [] else zeroTab) = V at *
  have HA12 := qH (HA11.out.trans (hb12.mono HA11.out.size))
  have HA13 := qH (HA12.out.alloc HA12.out.size (.cells #[.slice f1 V.types.length g1, .int .i64 V.first, .slice f2 V.chs.length g2] 58))
  clear ht12 hb12 HPR
  go_wp2_with fail
  go_ret
  exact ⟨rfl, HB0.out.trans (HA13.out.mono HB0.out.size)⟩
 obtain ⟨sg, hpf⟩ := HPF.out hl
 rw [hpf] at hps
 have HPS := qH hps
 clear hps hpf HPF
 go_wp2_with fail
 refine HPS.out.mono ?_
 intro e w7 hpost
 obtain ⟨hb7, q1, n1, d1, q2, n2, d2, q3, n3, d3, c, rfl, hbk7, hc1, hc2, hc3⟩ := ps_openY hpost
 obtain ⟨W8, e8⟩ : ∃ W8, w7.alloc (.cells #[.slice q1 n1 d1, .slice q2 n2 d2, .slice q3 n3 d3] 26) = W8 := ⟨_, rfl⟩
 obtain ⟨cb, ecb⟩ : ∃ cb, w7.heap.size = cb := ⟨_, rfl⟩
 obtain ⟨hb8, hz8, hx8⟩ := bk3_boxY e8 ecb
 have hb68 := hb7.trans (hb8.mono hb7.size)
 have HA8 := qH (HA6.out.trans (hb68.mono HA6.out.size))
 have HD8 := qH (HD6.out.trans (hb68.mono HD6.out.size))
 have hA8w := HB0.out.trans (HA8.out.mono HB0.out.size)
 obtain ⟨x0, x1, x2⟩ := hx8 W8 (Below.refl _ _)
 obtain ⟨s0, s1⟩ := HS5.out W8 HD8.out
 have hmk := Make_tab MK _ _ _ _ nm fr te W8 ((hbk7.below hb8 (Nat.le_refl _)).baseN hb8.size) hn (by omega) (by omega) (by omega) (by omega) (HFA.out W8 hA8w).2.2.2 (HFA.out W8 hA8w).1
 rw [HSM.out c hc1 hc2 hc3, HER.out] at hmk
 have HMK := qH hmk
 have HE8 := qH e8
 have HCB := qH ecb
 clear hpost hb7 hbk7 hb8 hx8 e8 ecb hb68 hA8w hmk hc1 hc2 hc3 HPS HSM
 go_upto_region 9 with fail
 rw [HCB.out, HE8.out]
 go_wp2_with fail
 refine HMK.out.mono ?_
 rintro e w9 ⟨r3, l3, r4, l4, rfl, htu, hb9⟩
 simp only at htu ⊢
 obtain ⟨W10, e10⟩ : ∃ W10, w9.alloc (.cells #[.slice r3 T.types.length l3, .int .i64 0, .slice r4 T.chs.length l4] 58) = W10 := ⟨_, rfl⟩
 obtain ⟨ub, eub⟩ : ∃ ub, w9.heap.size = ub := ⟨_, rfl⟩
 obtain ⟨hb10, hz10, hx10⟩ := tb3_boxY e10 eub
 have hb810 := hb9.trans (hb10.mono hb9.size)
 have HA10 := qH (HA8.out.trans (hb810.mono HA8.out.size))
 have HD10 := qH (HD8.out.trans (hb810.mono HD8.out.size))
 obtain ⟨u0, u1, u2⟩ := hx10 W10 (Below.refl _ _)
 have HPK := qH (Pack_ok T _ W10 (htu.below hb10) HCT.out)
 have HE10 := qH e10
 have HUB := qH eub
 clear hb9 htu hb10 hx10 e10 eub hb810 HMK x0 x1 x2 s0 s1
 go_upto_region 10 with fail
 rw [HUB.out, HE10.out]
 go_wp2_with fail
 refine HPK.out.mono ?_
 rintro e w11 ⟨u, rfl, hr, hb11⟩
 obtain ⟨pp, cap, rfl, -⟩ := hr.form
 obtain ⟨-, hcap, hbb⟩ := hr.below
 have HA11 := qH (HA10.out.trans (hb11.mono HA10.out.size))
 have HD11 := qH (HD10.out.trans (hb11.mono HD10.out.size))
 have HPR := qH (Parse_any pp cap (enc T) w11 hbb hcap (enc_byte T (chk_ok T HCT.out)))
 have HPE := qH (prsE_enc T HCT.out)
 generalize (enc T).length = NL at *
 clear hb11 hr hcap hbb HPK u0 u1 u2
 go_wp2_with fail
 refine HPR.out.mono ?_
 rintro e w12 ⟨v12, rfl, ht12, hb12⟩
 rw [HPE.out.1, if_pos rfl, HPE.out.2] at ht12
 rw [HPE.out.1]
 obtain ⟨f1, j1, f2, j2, rfl⟩ := tabForms ht12
 obtain ⟨W13, e13⟩ : ∃ W13, w12.alloc (.cells #[.slice f1 T.types.length j1, .int .i64 T.first, .slice f2 T.chs.length j2] 58) = W13 := ⟨_, rfl⟩
 obtain ⟨vb, evb⟩ : ∃ vb, w12.heap.size = vb := ⟨_, rfl⟩
 obtain ⟨hb13, hz13, hx13⟩ := tb3_boxY e13 evb
 have hb1113 := hb12.trans (hb13.mono hb12.size)
 have HA13 := qH (HA11.out.trans (hb1113.mono HA11.out.size))
 have HD13 := qH (HD11.out.trans (hb1113.mono HD11.out.size))
 obtain ⟨v0, v1, v2⟩ := hx13 W13 (Below.refl _ _)
 obtain ⟨t0, t1, t2⟩ := HX5.out W13 HD13.out
 have HV13 := qH (fun W (h : Below W13.heap.size W13 W) => (ht12.below hb13).below h)
 have HX13 := qH hx13
 have hzt13 : tb < W13.heap.size := by have := HD13.out.size; omega
 have HEQ := qH (TableEq_any T T _ _ W13 (HT5.out W13 HD13.out) (HV13.out W13 (Below.refl _ _)))
 rw [decide_eq_true rfl] at HEQ
 have HE13 := qH e13
 have HVB := qH evb
 clear ht12 hb12 hb13 hx13 e13 evb hb1113 HPR HPE
 go_upto_region 12 with fail
 rw [HVB.out, HE13.out]
 go_wp2_with fail
 refine HEQ.out.mono ?_
 rintro e w14 ⟨rfl, hb14⟩
 have HA14 := qH (HA13.out.trans (hb14.mono HA13.out.size))
 have HD14 := qH (HD13.out.trans (hb14.mono HD13.out.size))
 have HV14 := qH hb14
 obtain ⟨s0, s1⟩ := HS5.out w14 HD14.out
 clear hb14 HEQ t0 t1 t2 v0 v1 v2
 have h1 := Int.emod_nonneg a3 (show te - fr ≠ 0 by omega)
 have h2 := Int.emod_lt_of_pos a3 (show 0 < te - fr by omega)
 have HR := qH (fun W => Rest0_any a3 (te - fr) W (by omega) (by omega))
 obtain ⟨y, ey⟩ : ∃ y, fr + a3 % (te - fr) = y := ⟨_, rfl⟩
 have hw1 : IntKind.i64.wrap (te - fr) = te - fr := IntWalk.i64_in _ (by omega)
 have hw2 : IntKind.i64.wrap (fr + a3 % (te - fr)) = y := by rw [ey]; exact IntWalk.i64_in _ (by omega)
 have hy1 : fr <= y := by omega
 have hy2 : y < te := by omega
 have s0d : w14.drew.cell? ⟨sb, 0, none⟩ = some (.int .i64 fr) := s0
 have s1d : w14.drew.cell? ⟨sb, 1, none⟩ = some (.int .i64 te) := s1
 have hzs14 : sb < w14.heap.size := World.block_lt_of_cell? _ _ s0
 clear h1 h2 ey
 go_upto_region 14 with fail
 go_cut [4] (fun s4 wx => s4 = .int .i64 y /\ Below w14.heap.size w14 wx)
 case first =>
  go_region_law (first
   | (go_simp; go_at_call 14; refine (HR.out _).mono ?_; rintro e w' ⟨rfl, rfl⟩))
  all_goals go_wp2_with fail
  all_goals go_meet
  all_goals exact ⟨rfl, (Below.refl _ _).drew⟩
 case rest =>
 obtain ⟨rfl, hbc⟩ := hcut
 have HAC := qH (HA14.out.trans (hbc.mono HA14.out.size))
 have HVC := qH (HV14.out.trans (hbc.mono HV14.out.size))
 clear hbc s0 s1 s0d s1d
 have hAcw := HB0.out.trans (HAC.out.mono HB0.out.size)
 obtain ⟨x0, x1, x2⟩ := HBX.out.cells HAC.out
 have hst := HBX.out.at MK nm hn y HAC.out (by omega) (by omega)
 have hsy := HSY.out T y HER.out hy1 hy2
 rw [hsy] at hst
 have hsn := norm_says T (chk_ok T HCT.out) y
 rw [HNT.out] at hsn
 obtain ⟨Q, eQ⟩ : ∃ Q, tyOf T y = Q := ⟨_, rfl⟩
 rw [eQ] at hst
 have HAT := qH (fun W (h : Below W13.heap.size W13 W) => At_ok T _ y W (HV13.out W h) HCT.out)
 rw [eQ] at HAT
 have HST := qH hst
 have HBS := qH (fun (ev : Value) (hk : Bkd T zB) => back_state hk ev (y := y) (stampE_mid hs4 hs5 hy1 (by omega)))
 rw [eQ] at HBS
 obtain ⟨o1, s1, m1⟩ := Q
 clear hst hsy hsn eQ hAcw HSY
 go_wp2_with fail
 refine HST.out.mono ?_
 rintro e w15 ⟨rfl, hb15⟩
 simp only [tyV]
 obtain ⟨W16, e16⟩ : ∃ W16, w15.alloc (.cells #[.int .i64 o1, .bool s1, .string m1] 51) = W16 := ⟨_, rfl⟩
 obtain ⟨xb, exb⟩ : ∃ xb, w15.heap.size = xb := ⟨_, rfl⟩
 obtain ⟨hb16, hz16, hx16⟩ := ty3_boxY e16 exb
 have hbc16 := hb15.trans (hb16.mono hb15.size)
 have HA16 := qH (HAC.out.trans (hbc16.mono HAC.out.size))
 have HV16 := qH (HVC.out.trans (hbc16.mono HVC.out.size))
 have HX16 := qH hx16
 obtain ⟨v0, v1, v2⟩ := HX13.out W16 HV16.out
 have HAT16 := qH (HAT.out W16 HV16.out)
 have HE16 := qH e16
 have HXB := qH exb
 clear hb15 hb16 hx16 e16 exb hbc16 HST HAT x0 x1 x2
 go_upto_region 16 with fail
 rw [HXB.out, HE16.out]
 go_wp2_with fail
 refine HAT16.out.mono ?_
 rintro e w17 ⟨rfl, hb17⟩
 simp only [tyV]
 obtain ⟨W18, e18⟩ : ∃ W18, w17.alloc (.cells #[.int .i64 o1, .bool s1, .string m1] 51) = W18 := ⟨_, rfl⟩
 obtain ⟨yb, eyb⟩ : ∃ yb, w17.heap.size = yb := ⟨_, rfl⟩
 obtain ⟨hb18, hz18, hx18⟩ := ty3_boxY e18 eyb
 have hb1618 := hb17.trans (hb18.mono hb17.size)
 have HA18 := qH (HA16.out.trans (hb1618.mono HA16.out.size))
 have HV18 := qH (HV16.out.trans (hb1618.mono HV16.out.size))
 have HW18 := qH hb1618
 have hz1618 : xb < W18.heap.size := by have := hb1618.size; omega
 obtain ⟨g0, g1, g2⟩ := HX16.out W18 hb1618
 obtain ⟨k0, k1, k2⟩ := hx18 W18 (Below.refl _ _)
 clear v0 v1 v2
 obtain ⟨v0, v1, v2⟩ := HX13.out W18 HV18.out
 have hne := fun W => neq_tySelf o1 s1 m1 W
 have hzv18 : vb < W18.heap.size := by have := HV18.out.size; omega
 have hA18w := HB0.out.trans (HA18.out.mono HB0.out.size)
 have HBK18 : Hid (Calls Tryz.prog 28 #[.agg #[.slice f1 T.types.length j1, .int .i64 T.first, .slice f2 T.chs.length j2], .string ⟨#[90]⟩] W18 (BB.BkPost T zB W18)) := qH (BB.Book_any T _ zB W18 (HV13.out W18 HV18.out) (by decide) (HFA.out W18 hA18w).1)
 have HE18 := qH e18
 have HYB := qH eyb
 clear hb17 hb18 hx18 e18 eyb hb1618 hA18w HAT16
 go_upto_region 17 with fail
 rw [HYB.out, HE18.out]
 go_wp2_with fail
 refine HBK18.out.mono ?_
 rintro e w19 ⟨hb19, ⟨hC, rfl⟩ | ⟨hC, Z, cz, p, ce, rfl, hbk⟩⟩
 ·obtain ⟨C, eC⟩ : ∃ C, BB.backC T zB = C := ⟨_, rfl⟩
  rw [eC] at hC ⊢
  have hz : (C == 0) = false := by simpa using hC
  have hzn : (C != 0) = true := by simpa using hC
  have HA19 := qH (HA18.out.trans (hb19.mono HA18.out.size))
  have HA20 := qH (HA19.out.alloc HA19.out.size (.cells #[.slice none 0 0, .slice none 0 0, .slice none 0 0] 26))
  clear hb19 eC hC HBK18 g0 g1 g2 k0 k1 k2 v0 v1 v2
  go_wp2_with fail
  go_ret
  exact ⟨rfl, HB0.out.trans (HA20.out.mono HB0.out.size)⟩
 obtain ⟨hkd, -⟩ := bkd_of hC
 rw [HNT.out] at hkd hbk
 have hba := bBookAt hbk hkd (by decide)
 obtain ⟨W20, e20⟩ : ∃ W20, w19.alloc (.cells #[.slice none 0 0, .slice (some ⟨Z, 0, none⟩) 1 cz, .slice none 0 0] 26) = W20 := ⟨_, rfl⟩
 obtain ⟨db, edb⟩ : ∃ db, w19.heap.size = db := ⟨_, rfl⟩
 obtain ⟨hb20, hz20, hx20⟩ := bk3_boxY e20 edb
 have hb1820 := hb19.trans (hb20.mono hb19.size)
 have HA20 := qH (HA18.out.trans (hb1820.mono HA18.out.size))
 have hA20w := HB0.out.trans (HA20.out.mono HB0.out.size)
 have hst := StAt_any MK _ _ _ _ zB y W20 ((hba.below hb20 (Nat.le_refl _)).baseN hb20.size) (by decide) (by omega) (by omega) (HFA.out W20 hA20w).2.2.2 (HFA.out W20 hA20w).1
 rw [HBS.out _ hkd] at hst
 have HST : Hid (Calls Tryz.prog 18 #[.agg #[.slice none 0 0, .slice (some ⟨Z, 0, none⟩) 1 cz, .slice none 0 0], .string ⟨#[90]⟩, .int .i64 y] W20 (StPost (0, ⟨o1, s1, m1⟩) W20)) := hst
 obtain ⟨x0, x1, x2⟩ := hx20 W20 (Below.refl _ _)
 have HW20 := qH (HW18.out.trans (hb1820.mono HW18.out.size))
 have HE20 := qH e20
 have HDB := qH edb
 clear hb19 hC hbk hkd hba hb20 hx20 e20 edb hb1820 hA20w hst HBK18 g0 g1 g2 k0 k1 k2 v0 v1 v2 HBS
 go_upto_region 20 with fail
 rw [HDB.out, HE20.out]
 go_wp2_with fail
 refine HST.out.mono ?_
 rintro e w21 ⟨rfl, hb21⟩
 simp only [tyV]
 obtain ⟨W22, e22⟩ : ∃ W22, w21.alloc (.cells #[.int .i64 o1, .bool s1, .string m1] 51) = W22 := ⟨_, rfl⟩
 obtain ⟨zb, ezb⟩ : ∃ zb, w21.heap.size = zb := ⟨_, rfl⟩
 obtain ⟨hb22, hz22, hx22⟩ := ty3_boxY e22 ezb
 have hb2022 := hb21.trans (hb22.mono hb21.size)
 have HA22 := qH (HA20.out.trans (hb2022.mono HA20.out.size))
 have HW22 := qH (HW20.out.trans (hb2022.mono HW20.out.size))
 obtain ⟨g0, g1, g2⟩ := HX16.out W22 HW22.out
 obtain ⟨k0, k1, k2⟩ := hx22 W22 (Below.refl _ _)
 have hzx : xb < W22.heap.size := by have := HW22.out.size; omega
 have hqq := fun W => eql_tySelf o1 s1 m1 W
 have HE22 := qH e22
 have HZB := qH ezb
 clear hb21 hb22 hx22 e22 ezb hb2022 HST x0 x1 x2
 go_upto_region 23 with fail
 rw [HZB.out, HE22.out]
 go_wp2_with fail
 go_ret
 exact ⟨rfl, HB0.out.trans (HA22.out.mono HB0.out.size)⟩
end Go.Proofs.YtomahddiclkepaaGreatDoor
namespace Go.Proofs.YtomahddiclkepaaGreatDoor
open Go.ChangeShapes Go.WideShapes Go.ChangeAt Go.RowKit
theorem gPow : Tryz.prog.globalNamed "internal/strconv.uint64pow10" = some 3 := by kernel_rfl
theorem gPowType : (Tryz.prog.globals[3]?).map (·.type) = some 297 := by kernel_rfl
theorem tab10_of {W : World} {a b : String × DataW Unit} {rest : List (String × DataW Unit)} (h : laidMet Tryz.prog (a :: b :: ("internal/strconv.uint64pow10", Rows.laid_internal_strconv_uint64pow10) :: rest) W) : Tab10 W :=
 Lib.tabIs_of_head (rest := rest) gPow gPowType Tryz.underlying297 Tryz.underlying137 (by kernel_rfl) (by kernel_rfl) h.tail.tail
theorem maxLen_of {W : World} (h : W.ShapedOpen Tryz.prog) : MaxLen W :=
 Go.Proofs.cell_of_shapedOpen_int (zero := #[.int .i64 0]) (t := 3) h (of_decide_eq_true (by kernel_rfl)) (by kernel_rfl) rfl (by kernel_rfl) (by kernel_rfl) Tryz.underlying3
theorem star : "*" ++ "errors.errorString" = "*errors.errorString" := by decide
theorem rowErr (u : TypeId) (h : Tryz.prog.typeName? 3 u = some "*errors.errorString") : u = 312 :=
 typeName_ptr_named (nm := "errors.errorString") (by rw [star]; kernel_rfl) (by kernel_rfl) (by decide) u (by rw [star]; exact h)
theorem gSyn : Tryz.prog.globalNamed "strconv.ErrSyntax" = some 6 := by kernel_rfl
theorem gRan : Tryz.prog.globalNamed "strconv.ErrRange" = some 7 := by kernel_rfl
theorem gSynType : (Tryz.prog.globals[6]?).map (·.type) = some 159 := by kernel_rfl
theorem gRanType : (Tryz.prog.globals[7]?).map (·.type) = some 159 := by kernel_rfl
theorem cellsES : Tryz.prog.cellsOf 314 = 1 := by kernel_rfl
theorem cellsStr : Tryz.prog.cellsOf 9 = 1 := by kernel_rfl
theorem ifaceV_of {W : World} {n : String} {g : Nat} {p : Value} {tp : TypeId} (hg : Tryz.prog.globalNamed n = some g) (h : W.var? Tryz.prog n = some #[.iface tp p]) : IfaceV W g :=
 ⟨_, by have h0 := World.var?_cell hg h 0; simpa using h0, .inr ⟨_, _, rfl⟩⟩
theorem numErrs_of {W : World} {rest : List (String × DataW Unit)} (h : laidMet Tryz.prog (("strconv.ErrRange", Rows.laid_strconv_ErrRange) :: ("strconv.ErrSyntax", Rows.laid_strconv_ErrSyntax) :: rest) W) : NumErrs W := by
 obtain ⟨a0, s0, hv0, _⟩ := laid_sentinel h gRan gRanType Tryz.underlying159 rowErr Tryz.underlying312 Tryz.underlying314 rfl rfl Tryz.underlying9 cellsES cellsStr
 obtain ⟨a1, s1, hv1, _⟩ := laid_sentinel h.tail gSyn gSynType Tryz.underlying159 rowErr Tryz.underlying312 Tryz.underlying314 rfl rfl Tryz.underlying9 cellsES cellsStr
 exact ⟨ifaceV_of gSyn hv1, ifaceV_of gRan hv0⟩
section
variable {H : Type} {enc : TypeId × Value -> H}
theorem witness_row_lay {C : Checked} {os : Os} {f : FuncId} {fn : Func} {s : OpenSpec} {conds : List PathCond} {apart : Bool} {laid : List (String × DataW Unit)} (modest : Bool) (w0 : World) (args : Array Value) (hos : w0.os = os)
 (hsh : (w0.forCall (fun _ _ => 0) ⟨#[], args, []⟩).Shaped C.prog)
 (hok : Input.okWideB C.prog (w0.forCall (fun _ _ => 0) ⟨#[], args, []⟩) f ⟨#[], args, []⟩ = true)
 (hrow : s.preRow enc C.prog fn conds apart laid (w0.forCall (fun _ _ => 0) ⟨#[], args, []⟩).memory args) :
 ∃ (w : World) (tape : Tape) (i : Input), w.os = os /\ (w.forCall tape i).Shaped C.prog /\ i.vars = [] /\ Input.okWide C.prog (w.forCall tape i) .any w.heap.size f i /\
  s.preRow enc C.prog fn conds apart laid (w.forCall tape i).memory i.args /\ ({ modest := modest } : Assume).holds C.prog (lone (Frame.enter C.prog f i.args .normal) [] (w.forCall tape i)) :=
 ⟨w0, fun _ _ => 0, ⟨#[], args, []⟩, hos, hsh, (Input.okWide_of_okWideB (base := 0) hok).1, (Input.okWide_of_okWideB hok).2, hrow, by
  simp only [Assume.holds]
  exact ⟨by simp, by simp, fun _ => Modest.zero, by simp, by simp⟩⟩
end
end Go.Proofs.YtomahddiclkepaaGreatDoor
namespace Go.Proofs.YtomahddiclkepaaGreatDoor
open Go.ChangeShapes Go.WideShapes Go.ChangeAt Go.RowKit
theorem gAsc : Tryz.prog.globalNamed "strings.asciiSpace" = some 0 := by kernel_rfl
theorem gAscType : (Tryz.prog.globals[0]?).map (·.type) = some 205 := by kernel_rfl
theorem laidAsc : (Rows.laid_strings_asciiSpace : DataW Unit) = Lib.tabData .u8 Lib.asciiSpaceTab := by kernel_rfl
theorem ascTab_of {W : World} {rest : List (String × DataW Unit)} (h : laidMet Tryz.prog (("strings.asciiSpace", Rows.laid_strings_asciiSpace) :: rest) W) : AscTab W := by
 rw [laidAsc] at h
 exact Lib.tabIs_of_head (rest := rest) gAsc gAscType Tryz.underlying205 Tryz.underlying5 (by kernel_rfl) (by kernel_rfl) h
end Go.Proofs.YtomahddiclkepaaGreatDoor
namespace Go.Proofs.YtomahddiclkepaaGreatDoor
open Go.ChangeShapes Go.WideShapes Go.Deep Go.RowKit Go.Joins
theorem list11 {α : Type} (l : List α) (h : l.length = 11) : ∃ a b c d e f g h' i j k, l = [a, b, c, d, e, f, g, h', i, j, k] := by
 match l, h with
 | [a, b, c, d, e, f, g, h', i, j, k], _ => exact ⟨a, b, c, d, e, f, g, h', i, j, k, rfl⟩
section
variable {H : Type} {enc : TypeId × Value -> H} {w : World} {base : Nat} {spare : Nat -> Bool} {held : Bool}
theorem trod_iR {fuel : Nat} {v : Value} {x : DataW H × List MemPlace} (h : DataW.trod enc Tryz.prog w base spare held fuel 3 [v] = some x) : ∃ n, v = .int .i64 n := by
 obtain ⟨b, e, _, _⟩ := DataW.trod_int Tryz.underlying3 h
 simp only [List.cons.injEq, and_true] at e
 exact ⟨b, e⟩
theorem trod_sR {fuel : Nat} {v : Value} {x : DataW H × List MemPlace} (h : DataW.trod enc Tryz.prog w base spare held fuel 9 [v] = some x) : ∃ s, v = .string s /\ s.size <= maxLen := by
 obtain ⟨b, e, _, hs⟩ := DataW.trod_string Tryz.underlying9 h
 simp only [List.cons.injEq, and_true] at e
 exact ⟨b, e, hs⟩
theorem Dy_open {fuel : Nat} {a b c : Value} {x : DataW H × List MemPlace} (h : DataW.trod enc Tryz.prog w base spare held fuel 85 [a, b, c] = some x) : ∃ k wd n : Int, a = .int .i64 k /\ b = .int .i64 wd /\ c = .int .i64 n := by
 obtain ⟨xs, n, _, _, _, hl, hf⟩ := DataW.trod_struct Tryz.underlying85 h
 have hl3 : xs.length = 3 := hl
 have h0 := hf 0 _ rfl
 have h1 := hf 1 _ rfl
 have h2 := hf 2 _ rfl
 rw [List.getElem?_eq_getElem (by omega)] at h0 h1 h2
 obtain ⟨m, rfl⟩ := trod_iR (v := a) h0
 obtain ⟨k, rfl⟩ := trod_iR (v := b) h1
 obtain ⟨e, rfl⟩ := trod_iR (v := c) h2
 exact ⟨m, k, e, rfl, rfl, rfl⟩
theorem cellsRu : Tryz.prog.cellsOf 87 = 11 := by kernel_rfl
theorem Ru_trod {fuel : Nat} {l : List Value} {x : DataW H × List MemPlace} (hl : l.length = 11) (h : DataW.trod enc Tryz.prog w base spare held fuel 87 l = some x) :
 ∃ q : Ru, l = (ruCells q).toList /\ q.nm.size <= maxLen /\ q.lt.size <= maxLen := by
 obtain ⟨c0, c1, c2, c3, c4, c5, c6, c7, c8, c9, c10, rfl⟩ := list11 l hl
 obtain ⟨xs, n, _, _, _, hl, hf⟩ := DataW.trod_struct Tryz.underlying87 h
 have hl9 : xs.length = 9 := hl
 have h0 := hf 0 _ rfl
 have h1 := hf 1 _ rfl
 have h2 := hf 2 _ rfl
 have h3 := hf 3 _ rfl
 have h4 := hf 4 _ rfl
 have h5 := hf 5 _ rfl
 have h6 := hf 6 _ rfl
 have h7 := hf 7 _ rfl
 have h8 := hf 8 _ rfl
 rw [List.getElem?_eq_getElem (by omega)] at h0 h1 h2 h3 h4 h5 h6 h7 h8
 obtain ⟨nm, rfl, s1⟩ := trod_sR (v := c0) h0
 obtain ⟨yf, rfl⟩ := trod_iR (v := c1) h1
 obtain ⟨yt, rfl⟩ := trod_iR (v := c2) h2
 obtain ⟨mo, rfl⟩ := trod_iR (v := c3) h3
 obtain ⟨dk, dw, dn, rfl, rfl, rfl⟩ := Dy_open (a := c4) (b := c5) (c := c6) (h4 : DataW.trod enc Tryz.prog w base spare held n 85 [c4, c5, c6] = _)
 obtain ⟨tm, rfl⟩ := trod_iR (v := c7) h5
 obtain ⟨ck, rfl⟩ := trod_iR (v := c8) h6
 obtain ⟨sv, rfl⟩ := trod_iR (v := c9) h7
 obtain ⟨lt, rfl, s2⟩ := trod_sR (v := c10) h8
 exact ⟨⟨nm, yf, yt, mo, dk, dw, dn, tm, ck, sv, lt⟩, rfl, s1, s2⟩
end
end Go.Proofs.YtomahddiclkepaaGreatDoor
