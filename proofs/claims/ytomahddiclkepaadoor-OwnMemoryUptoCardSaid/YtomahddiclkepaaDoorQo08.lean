/- pack.Pack of a table that may be: the bytes of the table. wall.pieces: the pieces of a table that may be, one behind the other. wall.pieces: the pieces of a table without changes; and of whatever table that may be. wall.Find: the times at which clocks show a local time. pack.Pack of any table; packed(); PackSize: its walk. -/
import Derived.Test.YtomahddiclkepaaDoorQo07
import Derived.Deep.RegionHeld3
import Derived.Deep.AppendLies
import Derived.StillTactics
import Derived.Lib.SlBytesConst
import Derived.ArgAppend
import Derived.Lib.SmallJoins
import Derived.RangeFuncNested
import Derived.RangeFuncBox
import Derived.RangeFuncBound
import Derived.RangeFuncCalls
import Derived.RangeFuncLeaves
import Derived.Shelf.Abstract
import Derived.OwnWalkIn
import Derived.TacticsInMore
import Derived.LoopNIn
import Derived.LoopIn
import Derived.BigRegionIn
import Derived.Sort.QuietIn
import Derived.Maps.AppendAt
import Derived.Test.YtomahddiclkepaaDoorCiv3a
import Derived.Test.YtomahddiclkepaaDoorQo04
import Derived.Test.YtomahddiclkepaaDoorQo02
import Derived.Test.YtomahddiclkepaaDoorQo01
namespace Go.Proofs.YtomahddiclkepaaDoor
open Go.RowKit Go.Joins
set_option linter.unusedVariables false
set_option linter.unusedSimpArgs false
theorem cellsX {W : World} {B : Nat} {a b c : Value} {T : TypeId} (h : W.heap[B]? = some (.cells #[a, b, c] T (0, 0))) : W.cell? ⟨B, 0, none⟩ = some a ∧ W.cell? ⟨B, 1, none⟩ = some b ∧ W.cell? ⟨B, 2, none⟩ = some c := by
 refine ⟨?_, ?_, ?_⟩ <;> simp [World.cell?, h]
theorem gg_ne {v : Value} {X gg H : Nat} (h : v.ownBlock ≠ some X) (hat : v.ownBlock = some gg ∨ gg = H + 1) (hX : X < H) {n c : Nat} (e : some X = (Value.slice (some ⟨gg, 0, none⟩) n c).ownBlock) : False := by
 simp only [Value.ownBlock] at e
 injection e with e
 subst e
 rcases hat with h1 | h1
 ·exact h h1
 ·omega
theorem one2 (x y : Int) : ∀ u ∈ [Value.int .u8 x, .int .u8 y], u.oneCell' = true := by simp [Value.oneCell']
theorem strCells_eq (s : ByteArray) : Lib.strCells s = bts (strB s) := by simp [Lib.strCells, bts, strB]
theorem ty_row (A : List Int) (l : List Ty) (k : Nat) (hlt : k < l.length) (x : Ty) (ex : l[k] = x) (fl : Int) (hfl : fl = flag x.save) {w : World} {B n : Nat} {v : Value}
 (h : w.ownsRow B 5 1 v n (bts (A ++ (l.take k).flatMap encTy ++ putN 4 (x.off + 2147483648).toNat) ++ [.int .u8 fl, .int .u8 x.name.size] ++ Lib.strCells x.name)) :
 BRow w B v (A ++ (l.take (k + 1)).flatMap encTy) := by
 have e : bts (A ++ (l.take k).flatMap encTy ++ putN 4 (x.off + 2147483648).toNat) ++ [.int .u8 fl, .int .u8 x.name.size] ++ Lib.strCells x.name = bts (A ++ (l.take (k + 1)).flatMap encTy) := by
  rw [List.take_succ_eq_append_getElem hlt, ex, hfl]
  simp [bts, strCells_eq, encTy, strB, Lib.strCells, List.flatMap_append]
 rw [e] at h
 have hn : n = (A ++ (l.take (k + 1)).flatMap encTy).length := by
  have := h.1
  rw [bts_length] at this
  omega
 subst hn
 exact h
theorem ch_row (A : List Int) (l : List Ch) (k : Nat) (hlt : k < l.length) (x : Ch) (ex : l[k] = x) {w : World} {B n : Nat} {v : Value}
 (h : w.ownsRow B 5 1 v n (bts (A ++ (l.take k).flatMap encCh ++ putN 8 (x.t + 9223372036854775808).toNat) ++ [.int .u8 x.k])) :
 BRow w B v (A ++ (l.take (k + 1)).flatMap encCh) := by
 have e : bts (A ++ (l.take k).flatMap encCh ++ putN 8 (x.t + 9223372036854775808).toNat) ++ [.int .u8 x.k] = bts (A ++ (l.take (k + 1)).flatMap encCh) := by
  rw [List.take_succ_eq_append_getElem hlt, ex]
  simp [bts, encCh, List.flatMap_append]
 rw [e] at h
 have hn : n = (A ++ (l.take (k + 1)).flatMap encCh).length := by
  have := h.1
  rw [bts_length] at this
  omega
 subst hn
 exact h
theorem u64_shift (x : Int) (h1 : -1099511627776 ≤ x) (h2 : x ≤ 1099511627776) : IntKind.u64.wrap (IntKind.u64.wrap x + 9223372036854775808) = (((x + 9223372036854775808).toNat : Nat) : Int) := by
 rw [IntKind.wrap_u64, IntKind.wrap_u64]; omega
theorem one1 (x : Int) : ∀ u ∈ [Value.int .u8 x], u.oneCell' = true := by simp [Value.oneCell']
theorem step_append_str {P : Program} (w : World) {ops : Array Oper} {o : Oper} {a : Act} {K : Act → World → Prop} {Q : Exit → Act → World → Prop} {E : Prop} (hgd : o.guard = none) (sl x : Operand) (t u : TypeId)
 (ho : o.op = .call { callee := .builtin .append, args := #[sl, x], argTypes := #[t, u] })
 (base : Nat) (e : TypeId) (i : TypeInfo) (ht : P.underlying t = some (.slice e)) (hu : P.underlying u = some .string) (hi : P.info? e = some i) (hz : i.zero = some (.int .u8 0))
 (hsize : i.size = 1) (hby : i.bytes = 1)
 (v : Value) (n : Nat) (xs : List Value) (hs : a.eval sl = v) (hown : w.ownsRow base e 1 v n xs) (s : ByteArray) (hx : a.eval x = .string s)
 (h63 : n + s.size ≤ maxLen) (hbytes : n + s.size ≤ 140737488355328) (hbase : base ≤ w.heap.size)
 (h : ∀ v' w', w'.ownsRow base e 1 v' (n + s.size) (xs ++ Lib.strCells s) → w.grownBy w' v.ownBlock → K (a.put o.dst v') w') :
 if Region.wanted o (yielded ops a.tmps) = true then Oper.wp P o a w K Q else E := by
 have hw : Region.wanted o (yielded ops a.tmps) = true := by simp [Region.wanted, hgd]
 rw [if_pos hw]
 obtain ⟨v', w', hr, h2, h3, _⟩ := Lib.run_append_own_string (P := P) w base t u o.type e i ht hu hi hz hsize hby v n xs hown s h63 hbytes hbase
 unfold Oper.wp execOp
 simp only [ho, resolve, invoke, builtin, Sem.run_bind, Sem.run_pure, Result.andThen_ok, List.map_toArray, List.map_cons, List.map_nil, hs, hx, hr]
 exact h v' w' h2 h3
theorem u64_in (n : Int) (h0 : 0 ≤ n) (h1 : n < 9223372036854775808) : IntKind.u64.wrap n = n := by
 rw [IntKind.wrap_u64]; exact Int.emod_eq_of_lt h0 (by omega)
theorem head_old (w1 : World) (x y : Int) : ∀ j u, [Value.int .u8 84, .int .u8 90, .int .u8 98, .int .u8 49][j]? = some u →
 ((w1.alloc (.cells #[.int .u8 84, .int .u8 90, .int .u8 98, .int .u8 49] 5 (4, 5))).alloc (.cells #[.int .u8 x, .int .u8 y] 5)).cell? ((⟨w1.heap.size, 0, none⟩ : Addr).add j) = some u :=
 World.news_of_block (cs := #[.int .u8 84, .int .u8 90, .int .u8 98, .int .u8 49]) (t := 5) (fr := (4, 5)) (B := w1.heap.size) ((Below.heap_alloc _ _ _ (by simp)).trans (heap_alloc_new w1 _))
theorem head_new (w1 : World) (x y : Int) : ∀ j u, [Value.int .u8 x, .int .u8 y][j]? = some u →
 ((w1.alloc (.cells #[.int .u8 84, .int .u8 90, .int .u8 98, .int .u8 49] 5 (4, 5))).alloc (.cells #[.int .u8 x, .int .u8 y] 5)).cell? ((⟨w1.heap.size + 1, 0, none⟩ : Addr).add j) = some u :=
 World.news_of_block (cs := #[.int .u8 x, .int .u8 y]) (t := 5) (fr := (0, 0)) (B := w1.heap.size + 1) (by have := heap_alloc_new (w1.alloc (.cells #[.int .u8 84, .int .u8 90, .int .u8 98, .int .u8 49] 5 (4, 5))) (.cells #[.int .u8 x, .int .u8 y] 5); simpa using this)
theorem head_grow {w w1 w2 : World} {x y : Int} {n : Nat} {v2 : Value} (hl0 : w.heap.size < w1.heap.size)
 (hown2 : w2.ownsRow ((w1.alloc (.cells #[.int .u8 84, .int .u8 90, .int .u8 98, .int .u8 49] 5 (4, 5))).alloc (.cells #[.int .u8 x, .int .u8 y] 5)).heap.size 5 1 v2 n (bts [84, 90, 98, 49, x, y])) (hn : n = 6)
 (hg2 : ((w1.alloc (.cells #[.int .u8 84, .int .u8 90, .int .u8 98, .int .u8 49] 5 (4, 5))).alloc (.cells #[.int .u8 x, .int .u8 y] 5)).grownBy w2 none) :
 w1.heap.size < w2.heap.size ∧ Below w1.heap.size w1 w2 ∧ BRow w2 w1.heap.size v2 [84, 90, 98, 49, x, y] := by
 subst hn
 refine ⟨by have := hg2.size; simp at this; omega, (((Below.refl _ _).alloc (Nat.le_refl _) _).alloc (by simp) _).grown hg2 (by simp; omega) (fun _ e => by cases e), ownsRow_le hown2 (by simp; omega)⟩
set_option maxRecDepth 100000 in
set_option maxHeartbeats 600000 in
theorem Pack_ok (t : Tab) (v : Value) (w : World) (hv : TabAt w v t) (h : chk t = 0) :
 Calls Tryd.prog 13 #[v] w fun e w' => ∃ u, e = .returned (.tuple #[u, .int .i64 0]) ∧ BRow w' w.heap.size u (enc t) ∧ Below w.heap.size w w' := by
 have ok := chk_ok t h
 obtain ⟨sv, cv, rfl, hsv, hcv⟩ := hv.val
 obtain ⟨ps, caps, rfl, hs⟩ := hsv.shape
 obtain ⟨pc, capc, rfl, hc⟩ := hcv.shape
 obtain ⟨b, o, rfl, hbl, hty⟩ := hs ok.ne
 obtain ⟨i0, hi, hz0, hz1, hz2⟩ := info_parts infoByte
 have hB : Below w.heap.size w (w.alloc (.cells #[.slice (some ⟨b, o, none⟩) t.types.length caps, .int .i64 t.first, .slice pc t.chs.length capc] 30)) := (Below.refl _ _).alloc (Nat.le_refl _) _
 have HCC := Lib.hid (Check_any t _ _ (hv.below hB))
 have OK := Lib.hid ok
 have H0 := Lib.hid h
 have HB := Lib.hid hB
 have HTY := Lib.hid hty
 have HC := Lib.hid hc
 clear hv h hB ok hsv hcv hs hc hty
 have HWC : Hid (IntKind.u64.wrap (t.chs.length : Int) = (t.chs.length : Int)) := u64_in _ (by omega) (by have := OK.out.chs; omega)
 have kc := fun (w : World) (C : Array Value) (n c : Nat) => Lib.run_convert_bytes_const (P := Tryd.prog) w 52 5 C n c Tryd.underlying52 Tryd.underlying5
 have hl1 : (t.types.length : Int) < 256 := by have := OK.out.many; omega
 have hf1 : t.first < 256 := by have := OK.out.many; have := OK.out.first; omega
 have hf0 : 0 ≤ t.first := OK.out.first.1
 go_enter Tryd.func13, Tryd.ntmps13
 go_wp2_with (first
  | (go_at_call 18; refine HCC.out.mono ?_; rw [H0.out]; rintro e w1 ⟨rfl, hb1⟩; rw [World.size_alloc] at hb1; have c0 := (hb1.cell (p := ⟨w.heap.size, 0, none⟩) (by show w.heap.size < _; omega)); have c1 := (hb1.cell (p := ⟨w.heap.size, 1, none⟩) (by show w.heap.size < _; omega)); have c2 := (hb1.cell (p := ⟨w.heap.size, 2, none⟩) (by show w.heap.size < _; omega)); simp [go_sem] at c0 c1 c2; have HC2 := Lib.hid c2; have HB1 := Lib.hid hb1; have hl0 : w.heap.size < w1.heap.size := (by have := hb1.size; simp at this; omega); clear hb1)
  | (at_builtin
     refine wpList_append_grows _ rfl (.tmp 17) (.tmp 25) 52 rfl 5 i0 (.int .u8 0) 1 1 undBytes hi hz0 hz1 hz2 rfl (by decide) (some ⟨w1.heap.size, 0, none⟩) 4 4 [.int .u8 84, .int .u8 90, .int .u8 98, .int .u8 49] rfl (fun h => by cases h) rfl (fun _ h => by cases h; exact head_old _ _ _) ⟨w1.heap.size + 1, 0, none⟩ 2 2 [.int .u8 t.types.length, .int .u8 t.first] rfl rfl (head_new _ _ _) (by simp [Value.oneCell']) (by decide) (by decide) (by decide) ?_
     intro v2 w2 hown2 hg2
     obtain ⟨hl2, hb2, hr2⟩ := head_grow hl0 hown2 rfl hg2
     have HR2 := Lib.hid hr2
     have HB2 := Lib.hid hb2
     have d0 := (hb2.cell (p := ⟨w.heap.size, 0, none⟩) hl0).trans c0
     have d1 := (hb2.cell (p := ⟨w.heap.size, 1, none⟩) hl0).trans c1
     have d2 := (hb2.cell (p := ⟨w.heap.size, 2, none⟩) hl0).trans c2
     clear hown2 hg2 hb2 c0 c1 c2 hr2))
 rw [HWC.out]
 refine (put_any w1.heap.size v2 [84, 90, 98, 49, (t.types.length : Int), t.first] t.chs.length 2 _ HR2.out (by omega) (by decide) (by simp)).mono ?_
 rintro e w3 ⟨v3, rfl, hr3, hg3⟩
 have hb3 := hg3.below HR2.out (by omega)
 have HR3 := Lib.hid hr3
 have HB3 := Lib.hid (HB2.out.trans hb3)
 have e0 := (hb3.cell (p := ⟨w.heap.size, 0, none⟩) hl0).trans d0
 have e1 := (hb3.cell (p := ⟨w.heap.size, 1, none⟩) hl0).trans d1
 have e2 := (hb3.cell (p := ⟨w.heap.size, 2, none⟩) hl0).trans d2
 clear hr3 hg3 hb3 d0 d1 d2
 go_wp2
 have HH : Hid (∀ x ∈ t.types, -75600 ≤ x.off ∧ x.off ≤ 75600 ∧ x.name.size ≤ 8) := fun x hx => ⟨(OK.out.type x hx).1, (OK.out.type x hx).2.1, name_small x (OK.out.type x hx).2.2⟩
 have hmany := OK.out.many
 have hchs := OK.out.chs
 have hll : ∀ k, (encHead t ++ (t.types.take k).flatMap encTy).length ≤ 5000 := by
  intro k
  have h1 := nameSum_le (t.types.take k) fun x hx => (HH.out x (List.mem_of_mem_take hx)).2.2
  have h2 : (t.types.take k).length ≤ t.types.length := by rw [List.length_take]; omega
  rw [List.length_append, encHead_length, tys_length]
  omega
 have HLL := Lib.hid hll
 clear hll
 have HR3' : Hid (BRow w3 w1.heap.size v3 (encHead t ++ (t.types.take 0).flatMap encTy)) := by
  show BRow _ _ _ _
  rw [List.take_zero, List.flatMap_nil, List.append_nil]; exact HR3.out
 go_loopw [5, 36] (fun s5 s36 wr => ∃ k : Nat, k ≤ t.types.length ∧ s36 = .int .i64 k ∧ BRow wr w1.heap.size s5 (encHead t ++ (t.types.take k).flatMap encTy) ∧ Below w1.heap.size w1 wr) (fun _ s36 _ => t.types.length - (intOf s36).toNat)
 case atStart => exact ⟨0, Nat.zero_le _, rfl, HR3'.out, HB3.out⟩
 case round =>
  obtain ⟨k, hk, rfl, hrow, hb⟩ := hrel
  have HR := Lib.hid hrow
  have HBK := Lib.hid hb
  clear hrow hb
  by_cases hlt : k < t.types.length
  ·obtain ⟨x, ex⟩ : ∃ x, t.types[k] = x := ⟨_, rfl⟩
   have hx := HH.out _ (List.getElem_mem hlt)
   have hat := ((HTY.out k hlt).mono (B := w.heap.size) (HB.out.trans (HB1.out.mono (by omega))) hbl).mono HBK.out (by omega)
   rw [ex] at hat hx
   have EX := Lib.hid ex
   clear ex
   obtain ⟨c0, c1, c2⟩ := hat
   obtain ⟨hx1, hx2, hx3⟩ := hx
   have HWO : Hid (x.off + 2147483648 = (((x.off + 2147483648).toNat : Nat) : Int)) := by
    show _ = _
    omega
   go_wp2_with (fail)
   rw [HWO.out]
   have hw1 : w1.heap.size ≤ wr.heap.size := HBK.out.size
   have hle := HLL.out k
   have HRA : Hid (BRow (wr.alloc (Obj.cells #[Value.int .i64 x.off, Value.bool x.save, Value.string x.name] 37)) w1.heap.size u5 (encHead t ++ (t.types.take k).flatMap encTy)) := World.ownsRow.alloc HR.out _
   refine (put_any w1.heap.size u5 (encHead t ++ (t.types.take k).flatMap encTy) (x.off + 2147483648).toNat 4 _ HRA.out (by simp; omega) (by decide) (by omega)).mono ?_
   rintro e w4 ⟨v4, rfl, hr4, hg4⟩
   have hu5 : u5.ownBlock ≠ some wr.heap.size := fun e => by have := (World.ownsRow.lt HR.out _ e).2; omega
   have hX : w4.heap[wr.heap.size]? = some (.cells #[Value.int .i64 x.off, Value.bool x.save, Value.string x.name] 37 (0, 0)) := (hg4.far (by simp) hu5).trans (heap_alloc_new wr _)
   have hv4 : v4.ownBlock ≠ some wr.heap.size := hg4.ne (by simp) hu5
   have hb4 : Below w1.heap.size w1 w4 := (HBK.out.alloc hw1 _).trans (hg4.below HRA.out (by simp; omega))
   have hX4 : wr.heap.size < w4.heap.size := (Array.getElem?_eq_some_iff.1 hX).1
   obtain ⟨x0, x1, x2⟩ := cellsX hX
   have HR4 := Lib.hid hr4
   have HB4 := Lib.hid hb4
   have HV4 := Lib.hid hv4
   have HX := Lib.hid hX
   have hle4 : (encHead t ++ (t.types.take k).flatMap encTy ++ putN 4 (x.off + 2147483648).toNat).length ≤ 5004 := by rw [List.length_append, putN_length]; omega
   have HLE := Lib.hid hle4
   have HB5 : Hid (∀ o : Obj, w1.heap.size ≤ ((w4.alloc o).drew).heap.size) := fun o => by have := hb4.size; simp; omega
   have HH5 : Hid (∀ o : Obj, w4.heap.size ≤ ((w4.alloc o).drew).heap.size) := fun o => by simp
   have HS5 : Hid (∀ o : Obj, ((w4.alloc o).drew).heap.size = w4.heap.size + 1) := fun o => by simp
   have HLE1 : Hid ((encHead t ++ (t.types.take k).flatMap encTy ++ putN 4 (x.off + 2147483648).toNat).length + 2 ≤ maxLen) := by show _ ≤ _; simp only [maxLen]; omega
   have HLE2 : Hid (((encHead t ++ (t.types.take k).flatMap encTy ++ putN 4 (x.off + 2147483648).toNat).length + 2) * 1 ≤ 140737488355328) := by show _ ≤ _; omega
   have HLE3 : Hid ((encHead t ++ (t.types.take k).flatMap encTy ++ putN 4 (x.off + 2147483648).toNat).length + 2 + x.name.size ≤ maxLen) := by show _ ≤ _; simp only [maxLen]; omega
   have HLE4 : Hid ((encHead t ++ (t.types.take k).flatMap encTy ++ putN 4 (x.off + 2147483648).toNat).length + 2 + x.name.size ≤ 140737488355328) := by show _ ≤ _; omega
   clear hr4 hg4 hu5 hX hv4 hb4 c0 c1 c2 hle4
   cases hsv : x.save
   ·rw [hsv] at x1 HX
    have HSV := Lib.hid hsv
    clear hsv
    go_wp2
    have hwn : IntKind.u8.wrap (x.name.size : Int) = (x.name.size : Int) := by rw [IntKind.wrap_u8']; omega
    go_region_held3 (fun w' => w'.cell? ⟨wr.heap.size, 2, none⟩ = some (.string x.name))
     (first
       | go_keep
       | (rw [hg6.cell_far ⟨wr.heap.size, 2, none⟩ hX5 (fun e => gg_ne HV4.out hat5 hX4 e)]; assumption)
       | (rw [hg5.cell_far _ (by simp; omega) (fun e => HV4.out e.symm)]; first | assumption | go_keep))
     (first
       | (refine step_append_lies _ (by rfl) _ _ _ (by rfl) w1.heap.size 5 i0 (.int .u8 0) 1 1 undBytes hi hz0 hz1 hz2 rfl (by omega) v4 (encHead t ++ (t.types.take k).flatMap encTy ++ putN 4 (x.off + 2147483648).toNat).length (bts (encHead t ++ (t.types.take k).flatMap encTy ++ putN 4 (x.off + 2147483648).toNat)) (by rfl) (World.ownsRow.drew (World.ownsRow.alloc HR4.out _)) ⟨w4.heap.size, 0, none⟩ 2 2 [.int .u8 0, .int .u8 x.name.size] (by rfl) (by rfl) (World.news_of_block (cs := #[.int .u8 0, .int .u8 x.name.size]) (t := 5) (fr := (0, 0)) (heap_alloc_new w4 _)) (one2 _ _) Nat.two_pos HLE1.out HLE2.out (HB5.out _) (w4.heap.size + 1) (HS5.out _) ?_; intro gg cap w5 hown5 hg5 hat5 hlt5; have hX5 : wr.heap.size < w5.heap.size := Nat.lt_of_lt_of_le hX4 (Nat.le_trans (HH5.out _) hg5.size))
       | (refine step_append_str _ (by rfl) _ _ _ _ (by rfl) w1.heap.size 5 i0 undBytes Tryd.underlying9 hi hz0 hz1 hz2 _ _ _ (by rfl) hown5 x.name (by rfl) HLE3.out HLE4.out (Nat.le_trans (HB5.out _) hg5.size) ?_; intro v6 w6 hown6 hg6))
    go_wp2
    go_roundw
    case rel =>
     refine ⟨k + 1, by omega, by go_num, ty_row _ _ k hlt x EX.out _ (by rw [HSV.out]; rfl) hown6, ?_⟩
     exact (((HB4.out.alloc HB4.out.size _).drew).grown hg5 (HB5.out _) (fun q hq => (World.ownsRow.lt HR4.out q hq).1)).grown hg6 (Nat.le_trans (HB5.out _) hg5.size) (fun q hq => (World.ownsRow.lt hown5 q hq).1)
    case measure => simp [intOf]; omega
   ·rw [hsv] at x1 HX
    have HSV := Lib.hid hsv
    clear hsv
    go_wp2
    have hwn : IntKind.u8.wrap (x.name.size : Int) = (x.name.size : Int) := by rw [IntKind.wrap_u8']; omega
    go_region_held3 (fun w' => w'.cell? ⟨wr.heap.size, 2, none⟩ = some (.string x.name))
     (first
       | go_keep
       | (rw [hg6.cell_far ⟨wr.heap.size, 2, none⟩ hX5 (fun e => gg_ne HV4.out hat5 hX4 e)]; assumption)
       | (rw [hg5.cell_far _ (by simp; omega) (fun e => HV4.out e.symm)]; first | assumption | go_keep))
     (first
       | (refine step_append_lies _ (by rfl) _ _ _ (by rfl) w1.heap.size 5 i0 (.int .u8 0) 1 1 undBytes hi hz0 hz1 hz2 rfl (by omega) v4 (encHead t ++ (t.types.take k).flatMap encTy ++ putN 4 (x.off + 2147483648).toNat).length (bts (encHead t ++ (t.types.take k).flatMap encTy ++ putN 4 (x.off + 2147483648).toNat)) (by rfl) (World.ownsRow.drew (World.ownsRow.alloc HR4.out _)) ⟨w4.heap.size, 0, none⟩ 2 2 [.int .u8 1, .int .u8 x.name.size] (by rfl) (by rfl) (World.news_of_block (cs := #[.int .u8 1, .int .u8 x.name.size]) (t := 5) (fr := (0, 0)) (heap_alloc_new w4 _)) (one2 _ _) Nat.two_pos HLE1.out HLE2.out (HB5.out _) (w4.heap.size + 1) (HS5.out _) ?_; intro gg cap w5 hown5 hg5 hat5 hlt5; have hX5 : wr.heap.size < w5.heap.size := Nat.lt_of_lt_of_le hX4 (Nat.le_trans (HH5.out _) hg5.size))
       | (refine step_append_str _ (by rfl) _ _ _ _ (by rfl) w1.heap.size 5 i0 undBytes Tryd.underlying9 hi hz0 hz1 hz2 _ _ _ (by rfl) hown5 x.name (by rfl) HLE3.out HLE4.out (Nat.le_trans (HB5.out _) hg5.size) ?_; intro v6 w6 hown6 hg6))
    go_wp2
    go_roundw
    case rel =>
     refine ⟨k + 1, by omega, by go_num, ty_row _ _ k hlt x EX.out _ (by rw [HSV.out]; rfl) hown6, ?_⟩
     exact (((HB4.out.alloc HB4.out.size _).drew).grown hg5 (HB5.out _) (fun q hq => (World.ownsRow.lt HR4.out q hq).1)).grown hg6 (Nat.le_trans (HB5.out _) hg5.size) (fun q hq => (World.ownsRow.lt hown5 q hq).1)
    case measure => simp [intOf]; omega
  ·obtain rfl : k = t.types.length := by omega
   rw [List.take_length] at HR
   have f2 := (HBK.out.cell (p := ⟨w.heap.size, 2, none⟩) hl0).trans HC2.out
   go_wp2
   have hl2 : ∀ k, (encHead t ++ t.types.flatMap encTy ++ (t.chs.take k).flatMap encCh).length ≤ 15000 := by
    intro k
    have h1 := HLL.out t.types.length
    rw [List.take_length] at h1
    rw [List.length_append, chs_length, List.length_take]
    omega
   have HL2 := Lib.hid hl2
   have HR3 : Hid (BRow wr w1.heap.size u5 (encHead t ++ t.types.flatMap encTy ++ (t.chs.take 0).flatMap encCh)) := by
    show BRow _ _ _ _
    rw [List.take_zero, List.flatMap_nil, List.append_nil]; exact HR.out
   obtain ⟨w0, hw0⟩ : ∃ w0 : World, w0 = wr := ⟨_, rfl⟩
   rw [← hw0] at HR3 HBK HR
   rw [← hw0]
   clear hl2 hw0
   go_loopw [5, 63] (fun s5 s63 wr => ∃ k : Nat, k ≤ t.chs.length ∧ s63 = .int .i64 k ∧ BRow wr w1.heap.size s5 (encHead t ++ t.types.flatMap encTy ++ (t.chs.take k).flatMap encCh) ∧ Below w1.heap.size w1 wr) (fun _ s63 _ => t.chs.length - (intOf s63).toNat)
   case atStart => exact ⟨0, Nat.zero_le _, rfl, HR3.out, HBK.out⟩
   case round =>
    obtain ⟨k, hk, rfl, hrow, hb⟩ := hrel
    have HRK := Lib.hid hrow
    have HBJ := Lib.hid hb
    clear hrow hb
    by_cases hlt : k < t.chs.length
    ·obtain ⟨b2, o2, rfl, hb2, hch⟩ := HC.out (by intro e; rw [e] at hlt; simp at hlt)
     obtain ⟨x, ex⟩ : ∃ x, t.chs[k] = x := ⟨_, rfl⟩
     have hx := OK.out.ch _ (List.getElem_mem hlt)
     have hat := ((hch k hlt).mono (B := w.heap.size) (HB.out.trans (HB1.out.mono (by omega))) hb2).mono HBJ.out (by omega)
     rw [ex] at hat hx
     have EX := Lib.hid ex
     clear ex hch
     obtain ⟨c0, c1⟩ := hat
     obtain ⟨hx1, hx2, hx3, hx4⟩ := hx
     have HWA := Lib.hid (u64_shift x.t hx1 hx2)
     have hwk : IntKind.u8.wrap x.k = x.k := by rw [IntKind.wrap_u8']; omega
     go_wp2_with (fail)
     have hw1 : w1.heap.size ≤ wr.heap.size := HBJ.out.size
     have hle := HL2.out k
     have hu5 : u5.ownBlock ≠ some wr.heap.size := fun e => by have := (World.ownsRow.lt HRK.out _ e).2; omega
     have HU5 := Lib.hid hu5
     have HRA : Hid (BRow ((wr.alloc (Obj.cells #[Value.int .i64 x.t, Value.int .i64 x.k] 40)).drew) w1.heap.size u5 (encHead t ++ t.types.flatMap encTy ++ (t.chs.take k).flatMap encCh)) := World.ownsRow.drew (World.ownsRow.alloc HRK.out _)
     have HSA : Hid (w1.heap.size ≤ ((wr.alloc (Obj.cells #[Value.int .i64 x.t, Value.int .i64 x.k] 40)).drew).heap.size) := by show _ ≤ _; simp; omega
     have HXA : Hid (wr.heap.size < ((wr.alloc (Obj.cells #[Value.int .i64 x.t, Value.int .i64 x.k] 40)).drew).heap.size) := by show _ < _; simp
     have HBA : Hid (Below w1.heap.size w1 ((wr.alloc (Obj.cells #[Value.int .i64 x.t, Value.int .i64 x.k] 40)).drew)) := (HBJ.out.alloc hw1 _).drew
     have HRB : Hid (BRow (((wr.alloc (Obj.cells #[Value.int .i64 x.t, Value.int .i64 x.k] 40)).drew).alloc (Obj.cells #[Value.int .u8 x.k] 5)) w1.heap.size u5 (encHead t ++ t.types.flatMap encTy ++ (t.chs.take k).flatMap encCh)) := World.ownsRow.alloc HRA.out _
     have HSB : Hid (w1.heap.size ≤ (((wr.alloc (Obj.cells #[Value.int .i64 x.t, Value.int .i64 x.k] 40)).drew).alloc (Obj.cells #[Value.int .u8 x.k] 5)).heap.size) := by show _ ≤ _; simp; omega
     have HXB : Hid (wr.heap.size < (((wr.alloc (Obj.cells #[Value.int .i64 x.t, Value.int .i64 x.k] 40)).drew).alloc (Obj.cells #[Value.int .u8 x.k] 5)).heap.size) := by show _ < _; simp; omega
     have HXC : Hid (wr.heap.size + 1 < (((wr.alloc (Obj.cells #[Value.int .i64 x.t, Value.int .i64 x.k] 40)).drew).alloc (Obj.cells #[Value.int .u8 x.k] 5)).heap.size) := by show _ < _; simp
     have HBB : Hid (Below w1.heap.size w1 (((wr.alloc (Obj.cells #[Value.int .i64 x.t, Value.int .i64 x.k] 40)).drew).alloc (Obj.cells #[Value.int .u8 x.k] 5))) := HBA.out.alloc HSA.out _
     have HUC : Hid (u5.ownBlock ≠ some (wr.heap.size + 1)) := fun e => by have := (World.ownsRow.lt HRK.out _ e).2; omega
     have HNB : Hid ((((wr.alloc (Obj.cells #[Value.int .i64 x.t, Value.int .i64 x.k] 40)).drew).alloc (Obj.cells #[Value.int .u8 x.k] 5)).heap[wr.heap.size + 1]? = some (Obj.cells #[Value.int .u8 x.k] 5 (0, 0))) := by
      have := heap_alloc_new ((wr.alloc (Obj.cells #[Value.int .i64 x.t, Value.int .i64 x.k] 40)).drew) (Obj.cells #[Value.int .u8 x.k] 5)
      have e : ((wr.alloc (Obj.cells #[Value.int .i64 x.t, Value.int .i64 x.k] 40)).drew).heap.size = wr.heap.size + 1 := by simp
      rw [e] at this
      exact this
     have HLE0 : Hid ((encHead t ++ t.types.flatMap encTy ++ (t.chs.take k).flatMap encCh).length ≤ 100000) := by show _ ≤ _; omega
     have HLE : Hid ((encHead t ++ t.types.flatMap encTy ++ (t.chs.take k).flatMap encCh ++ putN 8 (x.t + 9223372036854775808).toNat).length ≤ 20000) := by show _ ≤ _; rw [List.length_append, putN_length]; omega
     obtain ⟨NL, hNL⟩ : ∃ NL : Nat, (encHead t ++ t.types.flatMap encTy ++ (t.chs.take k).flatMap encCh ++ putN 8 (x.t + 9223372036854775808).toNat).length = NL := ⟨_, rfl⟩
     have hNL2 : NL ≤ 20000 := by rw [← hNL]; exact HLE.out
     have HNL := Lib.hid hNL
     have HLE1 : Hid (NL + 1 ≤ maxLen) := by show _ ≤ _; simp only [maxLen]; omega
     have HLE2 : Hid ((NL + 1) * 1 ≤ 140737488355328) := by show _ ≤ _; omega
     clear hNL
     clear hu5 hle
     go_region_held3 (fun w' => w'.cell? ⟨wr.heap.size, 0, none⟩ = some (.int .i64 x.t) ∧ w'.cell? ⟨wr.heap.size, 1, none⟩ = some (.int .i64 x.k))
      (first
        | go_keep
        | (go_split_ands
           refine ⟨?_, ?_⟩
           ·(rw [hg5.cell_far ⟨wr.heap.size, 0, none⟩ hX5 (fun e => HV4.out e.symm)]; assumption)
           ·(rw [hg5.cell_far ⟨wr.heap.size, 1, none⟩ hX5 (fun e => HV4.out e.symm)]; assumption))
        | (go_split_ands
           refine ⟨?_, ?_⟩
           ·(rw [hg4.1.cell_far ⟨wr.heap.size, 0, none⟩ HXQ.out (fun e => HU5.out e.symm)]; assumption)
           ·(rw [hg4.1.cell_far ⟨wr.heap.size, 1, none⟩ HXQ.out (fun e => HU5.out e.symm)]; assumption)))
      (first
        | (go_at_call 20; rw [HWA.out]; refine (put_any w1.heap.size u5 (encHead t ++ t.types.flatMap encTy ++ (t.chs.take k).flatMap encCh) (x.t + 9223372036854775808).toNat 8 _ HRA.out HSA.out (by decide) HLE0.out).mono ?_; rintro e w4 ⟨v4, rfl, hr4, hg4⟩; have HR4 : Hid (w4.ownsRow w1.heap.size 5 1 v4 NL (bts (encHead t ++ t.types.flatMap encTy ++ (t.chs.take k).flatMap encCh ++ putN 8 (x.t + 9223372036854775808).toNat))) := (by show World.ownsRow _ _ _ _ _ _ _; rw [← HNL.out]; exact hr4); have HV4 := Lib.hid (hg4.ne HXA.out HU5.out); have hX4 : wr.heap.size < w4.heap.size := (Nat.lt_of_lt_of_le HXA.out hg4.1.size); have HS4 : Hid (w1.heap.size ≤ w4.heap.size) := (Nat.le_trans HSA.out hg4.1.size); have HXQ := HXA; have HB4 := Lib.hid (HBA.out.trans (hg4.below HRA.out HSA.out)); clear hr4)
        | (go_at_call 20; rw [HWA.out]; refine (put_any w1.heap.size u5 (encHead t ++ t.types.flatMap encTy ++ (t.chs.take k).flatMap encCh) (x.t + 9223372036854775808).toNat 8 _ HRB.out HSB.out (by decide) HLE0.out).mono ?_; rintro e w4 ⟨v4, rfl, hr4, hg4⟩; have HR4 : Hid (w4.ownsRow w1.heap.size 5 1 v4 NL (bts (encHead t ++ t.types.flatMap encTy ++ (t.chs.take k).flatMap encCh ++ putN 8 (x.t + 9223372036854775808).toNat))) := (by show World.ownsRow _ _ _ _ _ _ _; rw [← HNL.out]; exact hr4); have HV4 := Lib.hid (hg4.ne HXB.out HU5.out); have hX4 : wr.heap.size < w4.heap.size := (Nat.lt_of_lt_of_le HXB.out hg4.1.size); have HS4 : Hid (w1.heap.size ≤ w4.heap.size) := (Nat.le_trans HSB.out hg4.1.size); have HXQ := HXB; have HB4 := Lib.hid (HBB.out.trans (hg4.below HRB.out HSB.out)); have HN4 := Lib.hid ((hg4.far HXC.out HUC.out).trans HNB.out); clear hr4)
        | (refine step_append_lies _ (by rfl) _ _ _ (by rfl) w1.heap.size 5 i0 (.int .u8 0) 1 1 undBytes hi hz0 hz1 hz2 rfl (by omega) v4 NL (bts (encHead t ++ t.types.flatMap encTy ++ (t.chs.take k).flatMap encCh ++ putN 8 (x.t + 9223372036854775808).toNat)) (by rfl) HR4.out ⟨wr.heap.size + 1, 0, none⟩ 1 1 [.int .u8 x.k] (by rfl) (by rfl) (World.news_of_block (cs := #[.int .u8 x.k]) (t := 5) (fr := (0, 0)) HN4.out) (one1 _) Nat.one_pos HLE1.out HLE2.out HS4.out w4.heap.size rfl ?_; intro gg cap w5 hown5 hg5 hat5 hlt5; have hX5 : wr.heap.size < w4.heap.size := hX4; have HB5 := Lib.hid (HB4.out.grown hg5 HS4.out (fun q hq => (World.ownsRow.lt HR4.out q hq).1)))
        | (refine step_append_lies _ (by rfl) _ _ _ (by rfl) w1.heap.size 5 i0 (.int .u8 0) 1 1 undBytes hi hz0 hz1 hz2 rfl (by omega) v4 NL (bts (encHead t ++ t.types.flatMap encTy ++ (t.chs.take k).flatMap encCh ++ putN 8 (x.t + 9223372036854775808).toNat)) (by rfl) (World.ownsRow.alloc HR4.out _) ⟨w4.heap.size, 0, none⟩ 1 1 [.int .u8 x.k] (by rfl) (by rfl) (World.news_of_block (cs := #[.int .u8 x.k]) (t := 5) (fr := (0, 0)) (heap_alloc_new w4 _)) (one1 _) Nat.one_pos HLE1.out HLE2.out (Nat.le_trans HS4.out (by simp)) (w4.heap.size + 1) (by simp) ?_; intro gg cap w5 hown5 hg5 hat5 hlt5; have hX5 : wr.heap.size < (w4.alloc (Obj.cells #[Value.int .u8 x.k] 5)).heap.size := (by simp; omega); have HB5 := Lib.hid ((HB4.out.alloc HS4.out _).grown hg5 (Nat.le_trans HS4.out (by simp)) (fun q hq => (World.ownsRow.lt HR4.out q hq).1))))
     all_goals
      go_wp2
      go_roundw
      case rel => exact ⟨k + 1, by omega, by go_num, ch_row _ _ k hlt x EX.out hown5, HB5.out⟩
      case measure => simp [intOf]; omega
    ·obtain rfl : k = t.chs.length := by omega
     rw [List.take_length] at HRK
     go_wp2
     go_ret2
     refine ⟨_, rfl, ?_, ?_⟩
     ·have e : enc t = encHead t ++ t.types.flatMap encTy ++ t.chs.flatMap encCh := (List.append_assoc _ _ _).symm
      rw [e]
      exact ownsRow_le HRK.out (by omega)
     ·exact (HB.out.trans (HB1.out.mono (by omega))).trans (HBJ.out.mono (by omega))
end Go.Proofs.YtomahddiclkepaaDoor
namespace Go.Proofs.YtomahddiclkepaaDoor
open Go.RowKit Go.Shelf
set_option linter.unusedVariables false
set_option linter.unusedSimpArgs false
attribute [local go_sem] Oper.semAt_some
attribute [local go_sem] Oper.semAt_some
attribute [local go_sem] Oper.semAt_some
end Go.Proofs.YtomahddiclkepaaDoor
namespace Go.Proofs.YtomahddiclkepaaDoor
open Go.RowKit
set_option linter.unusedVariables false
set_option linter.unusedSimpArgs false
theorem samT_enc : enc samT = [84, 90, 98, 49, 2, 0, 0, 2, 128, 0, 0, 0, 0, 1, 65, 128, 0, 14, 16, 0, 1, 66, 128, 0, 0, 0, 0, 0, 39, 16, 1, 128, 0, 0, 0, 0, 0, 78, 32, 0] := by decide +kernel
theorem samT_chk : chk samT = 0 := by decide
theorem BRow.form {w : World} {B : Nat} {v : Value} {l : List Int} (h : BRow w B v l) : ∃ p cap, v = .slice p l.length cap ∧ (l ≠ [] → ∃ g, p = some ⟨g, 0, none⟩ ∧ g < w.heap.size ∧ B ≤ g ∧ ∀ i (hi : i < l.length), w.cell? ⟨g, i, none⟩ = some (.int .u8 l[i])) := by
 rcases h.2 with ⟨rfl, h0⟩ | ⟨g, cap, cur, rfl, hb, hg, hn, hm, hs, ht⟩
 ·have : l = [] := List.eq_nil_of_length_eq_zero h0
  subst this
  exact ⟨none, 0, rfl, fun h => absurd rfl h⟩
 ·refine ⟨_, cap, rfl, fun _ => ⟨g, rfl, (Array.getElem?_eq_some_iff.1 hg).1, hb, fun i hi => ?_⟩⟩
  rw [cell_of_row w g i cur _ (0, 0) hg]
  have e : (cur.toList.take (l.length * 1))[i]? = (bts l)[i]? := by rw [ht]
  rw [List.getElem?_take] at e
  rw [if_pos (by omega)] at e
  simp only [Array.getElem?_toList] at e
  rw [e]
  simp [bts, hi]
set_option maxRecDepth 100000 in
set_option maxHeartbeats 1000000 in
theorem packed_any (w : World) :
 Calls Tryd.prog 4 #[] w fun e w' => e = .returned (.bool true) ∧ Below w.heap.size w w' := by
 go_enter Tryd.func4, Tryd.ntmps4
 go_wp2_with fail
 refine (sample_any _).mono ?_
 rintro e w1 ⟨v1, rfl, ht1, hb1⟩
 go_wp2_with fail
 refine (Pack_ok samT v1 w1 ht1 samT_chk).mono ?_
 rintro e w2 ⟨u, rfl, hr, hb2⟩
 obtain ⟨p, cap, rfl, hp⟩ := hr.form
 obtain ⟨g, rfl, hg, _, hc⟩ := hp (by rw [samT_enc]; simp)
 have h4 := hc 4 (by rw [samT_enc]; decide)
 have e4 : (enc samT)[4]'(by rw [samT_enc]; decide) = 2 := by simp [samT_enc]
 rw [e4] at h4
 have el : (enc samT).length = 40 := by rw [samT_enc]; rfl
 rw [el]
 have HB := Lib.hid (hb1.trans (hb2.mono hb1.size))
 clear hc hp hr ht1 hb1 hb2 e4 el
 go_wp2
 go_ret
 exact ⟨rfl, HB.out⟩
end Go.Proofs.YtomahddiclkepaaDoor
