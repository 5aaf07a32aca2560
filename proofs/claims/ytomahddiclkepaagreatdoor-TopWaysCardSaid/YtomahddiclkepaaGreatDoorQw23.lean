/- Part of the proof. -/
import Derived.Test.YtomahddiclkepaaGreatDoorQw00
import Derived.Test.YtomahddiclkepaaGreatDoorQw22
import Derived.Test.YtomahddiclkepaaGreatDoorQw16
import Derived.Deep.RegionHeld3
import Derived.Deep.AppendLies
import Derived.StillTactics
import Derived.Lib.SlBytesConst
import Derived.ArgAppend
import Derived.Lib.SmallJoins
import Derived.Test.YtomahddiclkepaaGreatDoorCiv3a
import Derived.Test.YtomahddiclkepaaGreatDoorCiv3
import Derived.Test.YtomahddiclkepaaGreatDoorQw03
import Derived.Test.YtomahddiclkepaaGreatDoorQw01
import Derived.Test.YtomahddiclkepaaGreatDoorQw09
import Derived.Shelf.Bytes.SlEqualAll
import Derived.Laws.BitsAllLaws
import Derived.Test.YtomahddiclkepaaGreatDoorQw15
import Derived.Deep.RegionLaw
import Derived.Laws.NewBlocks
set_option maxHeartbeats 20000000
set_option maxRecDepth 1000000
set_option linter.unusedVariables false
set_option linter.unusedSimpArgs false
namespace Go.Proofs.YtomahddiclkepaaGreatDoor
open Go.RowKit Go.Joins
theorem cellsX {W : World} {B : Nat} {a b c : Value} {T : TypeId} (h : W.heap[B]? = some (.cells #[a, b, c] T (0, 0))) : W.cell? ⟨B, 0, none⟩ = some a /\ W.cell? ⟨B, 1, none⟩ = some b /\ W.cell? ⟨B, 2, none⟩ = some c := by
 refine ⟨?_, ?_, ?_⟩ <;> simp [World.cell?, h]
theorem gg_ne {v : Value} {X gg H : Nat} (h : v.ownBlock ≠ some X) (hat : v.ownBlock = some gg \/ gg = H + 1) (hX : X < H) {n c : Nat} (e : some X = (Value.slice (some ⟨gg, 0, none⟩) n c).ownBlock) : False := by
 simp only [Value.ownBlock] at e
 injection e with e
 subst e
 rcases hat with h1 | h1
 ·exact h h1
 ·omega
theorem one2 (x y : Int) : ∀ u ∈ [Value.int .u8 x, .int .u8 y], u.oneCell' = true := by simp [Value.oneCell']
theorem strCells_eq (s : ByteArray) : Lib.strCells s = bts (strB s) := by simp [Lib.strCells, bts, strB]
theorem ty_row (A : List Int) (l : List Ty) (k : Nat) (hlt : k < l.length) (x : Ty) (ex : l[k] = x) (fl : Int) (hfl : fl = flag x.save) {w : World} {B n : Nat} {v : Value}
 (h : w.ownsRow B 5 1 v n (bts (A ++ (l.take k).flatMap encTy ++ putN 4 (x.off + 2147483648).toNat) ++ [.int .u8 fl, .int .u8 x.name.size] ++ Lib.strCells x.name)) :
 BRow w B v (A ++ (l.take (k + 1)).flatMap encTy) := by
 have e : bts (A ++ (l.take k).flatMap encTy ++ putN 4 (x.off + 2147483648).toNat) ++ [.int .u8 fl, .int .u8 x.name.size] ++ Lib.strCells x.name = bts (A ++ (l.take (k + 1)).flatMap encTy) := by
  rw [List.take_succ_eq_append_getElem hlt, ex, hfl]
  simp [bts, strCells_eq, encTy, strB, Lib.strCells, List.flatMap_append]
 rw [e] at h
 have hn : n = (A ++ (l.take (k + 1)).flatMap encTy).length := by
  have := h.1
  rw [bts_length] at this
  omega
 subst hn
 exact h
theorem ch_row (A : List Int) (l : List Ch) (k : Nat) (hlt : k < l.length) (x : Ch) (ex : l[k] = x) {w : World} {B n : Nat} {v : Value}
 (h : w.ownsRow B 5 1 v n (bts (A ++ (l.take k).flatMap encCh ++ putN 8 (x.t + 9223372036854775808).toNat) ++ [.int .u8 x.k])) :
 BRow w B v (A ++ (l.take (k + 1)).flatMap encCh) := by
 have e : bts (A ++ (l.take k).flatMap encCh ++ putN 8 (x.t + 9223372036854775808).toNat) ++ [.int .u8 x.k] = bts (A ++ (l.take (k + 1)).flatMap encCh) := by
  rw [List.take_succ_eq_append_getElem hlt, ex]
  simp [bts, encCh, List.flatMap_append]
 rw [e] at h
 have hn : n = (A ++ (l.take (k + 1)).flatMap encCh).length := by
  have := h.1
  rw [bts_length] at this
  omega
 subst hn
 exact h
theorem u64_shift (x : Int) (h1 : -1099511627776 <= x) (h2 : x <= 1099511627776) : IntKind.u64.wrap (IntKind.u64.wrap x + 9223372036854775808) = (((x + 9223372036854775808).toNat : Nat) : Int) := by
 rw [IntKind.wrap_u64, IntKind.wrap_u64]; omega
theorem cellsX2 {W : World} {B : Nat} {a b : Value} {T : TypeId} (h : W.heap[B]? = some (.cells #[a, b] T (0, 0))) : W.cell? ⟨B, 0, none⟩ = some a /\ W.cell? ⟨B, 1, none⟩ = some b := by
 refine ⟨?_, ?_⟩ <;> simp [World.cell?, h]
theorem one1 (x : Int) : ∀ u ∈ [Value.int .u8 x], u.oneCell' = true := by simp [Value.oneCell']
theorem step_append_str {P : Program} (w : World) {ops : Array Oper} {o : Oper} {a : Act} {K : Act -> World -> Prop} {Q : Exit -> Act -> World -> Prop} {E : Prop} (hgd : o.guard = none) (sl x : Operand) (t u : TypeId)
 (ho : o.op = .call { callee := .builtin .append, args := #[sl, x], argTypes := #[t, u] })
 (base : Nat) (e : TypeId) (i : TypeInfo) (ht : P.underlying t = some (.slice e)) (hu : P.underlying u = some .string) (hi : P.info? e = some i) (hz : i.zero = some (.int .u8 0))
 (hsize : i.size = 1) (hby : i.bytes = 1)
 (v : Value) (n : Nat) (xs : List Value) (hs : a.eval sl = v) (hown : w.ownsRow base e 1 v n xs) (s : ByteArray) (hx : a.eval x = .string s)
 (h63 : n + s.size <= maxLen) (hbytes : n + s.size <= 140737488355328) (hbase : base <= w.heap.size)
 (h : ∀ v' w', w'.ownsRow base e 1 v' (n + s.size) (xs ++ Lib.strCells s) -> w.grownBy w' v.ownBlock -> K (a.put o.dst v') w') :
 if Region.wanted o (yielded ops a.tmps) = true then Oper.wp P o a w K Q else E := by
 have hw : Region.wanted o (yielded ops a.tmps) = true := by simp [Region.wanted, hgd]
 rw [if_pos hw]
 obtain ⟨v', w', hr, h2, h3, _⟩ := Lib.run_append_own_string (P := P) w base t u o.type e i ht hu hi hz hsize hby v n xs hown s h63 hbytes hbase
 unfold Oper.wp execOp
 simp only [ho, resolve, invoke, builtin, Sem.run_bind, Sem.run_pure, Result.andThen_ok, List.map_toArray, List.map_cons, List.map_nil, hs, hx, hr]
 exact h v' w' h2 h3
theorem u64_in (n : Int) (h0 : 0 <= n) (h1 : n < 9223372036854775808) : IntKind.u64.wrap n = n := by
 rw [IntKind.wrap_u64]; exact Int.emod_eq_of_lt h0 (by omega)
theorem head_old (w1 : World) (x y : Int) : ∀ j u, [Value.int .u8 84, .int .u8 90, .int .u8 98, .int .u8 49][j]? = some u ->
 ((w1.alloc (.cells #[.int .u8 84, .int .u8 90, .int .u8 98, .int .u8 49] 5 (4, 5))).alloc (.cells #[.int .u8 x, .int .u8 y] 5)).cell? ((⟨w1.heap.size, 0, none⟩ : Addr).add j) = some u :=
 World.news_of_block (cs := #[.int .u8 84, .int .u8 90, .int .u8 98, .int .u8 49]) (t := 5) (fr := (4, 5)) (B := w1.heap.size) ((Below.heap_alloc _ _ _ (by simp)).trans (heap_alloc_new w1 _))
theorem head_new (w1 : World) (x y : Int) : ∀ j u, [Value.int .u8 x, .int .u8 y][j]? = some u ->
 ((w1.alloc (.cells #[.int .u8 84, .int .u8 90, .int .u8 98, .int .u8 49] 5 (4, 5))).alloc (.cells #[.int .u8 x, .int .u8 y] 5)).cell? ((⟨w1.heap.size + 1, 0, none⟩ : Addr).add j) = some u :=
 World.news_of_block (cs := #[.int .u8 x, .int .u8 y]) (t := 5) (fr := (0, 0)) (B := w1.heap.size + 1) (by have := heap_alloc_new (w1.alloc (.cells #[.int .u8 84, .int .u8 90, .int .u8 98, .int .u8 49] 5 (4, 5))) (.cells #[.int .u8 x, .int .u8 y] 5); simpa using this)
theorem head_grow {w w1 w2 : World} {x y : Int} {n : Nat} {v2 : Value} (hl0 : w.heap.size < w1.heap.size)
 (hown2 : w2.ownsRow ((w1.alloc (.cells #[.int .u8 84, .int .u8 90, .int .u8 98, .int .u8 49] 5 (4, 5))).alloc (.cells #[.int .u8 x, .int .u8 y] 5)).heap.size 5 1 v2 n (bts [84, 90, 98, 49, x, y])) (hn : n = 6)
 (hg2 : ((w1.alloc (.cells #[.int .u8 84, .int .u8 90, .int .u8 98, .int .u8 49] 5 (4, 5))).alloc (.cells #[.int .u8 x, .int .u8 y] 5)).grownBy w2 none) :
 w1.heap.size < w2.heap.size /\ Below w1.heap.size w1 w2 /\ BRow w2 w1.heap.size v2 [84, 90, 98, 49, x, y] := by
 subst hn
 refine ⟨by have := hg2.size; simp at this; omega, (((Below.refl _ _).alloc (Nat.le_refl _) _).alloc (by simp) _).grown hg2 (by simp; omega) (fun _ e => by cases e), ownsRow_le hown2 (by simp; omega)⟩
theorem Pack_ok (t : Tab) (v : Value) (w : World) (hv : TabAt w v t) (h : chk t = 0) :
 Calls Tryz.prog 26 #[v] w fun e w' => ∃ u, e = .returned (.tuple #[u, .int .i64 0]) /\ BRow w' w.heap.size u (enc t) /\ Below w.heap.size w w' := by
 have ok := chk_ok t h
 obtain ⟨sv, cv, rfl, hsv, hcv⟩ := hv.val
 obtain ⟨ps, caps, rfl, hs⟩ := hsv.shape
 obtain ⟨pc, capc, rfl, hc⟩ := hcv.shape
 obtain ⟨b, o, rfl, hbl, hty⟩ := hs ok.ne
 obtain ⟨i0, hi, hz0, hz1, hz2⟩ := info_parts infoByte
 have hB : Below w.heap.size w (w.alloc (.cells #[.slice (some ⟨b, o, none⟩) t.types.length caps, .int .i64 t.first, .slice pc t.chs.length capc] 58)) := (Below.refl _ _).alloc (Nat.le_refl _) _
 have HCC := qH (Check_any t _ _ (hv.below hB))
 have OK := qH ok
 have H0 := qH h
 have HB := qH hB
 have HTY := qH hty
 have HC := qH hc
 clear hv h hB ok hsv hcv hs hc hty
 have HWC : Hid (IntKind.u64.wrap (t.chs.length : Int) = (t.chs.length : Int)) := u64_in _ (by omega) (by have := OK.out.chs; omega)
 have kc := fun (w : World) (C : Array Value) (n c : Nat) => Lib.run_convert_bytes_const (P := Tryz.prog) w 73 5 C n c Tryz.underlying73 Tryz.underlying5
 have hl1 : (t.types.length : Int) < 256 := by have := OK.out.many; omega
 have hf1 : t.first < 256 := by have := OK.out.many; have := OK.out.first; omega
 have hf0 : 0 <= t.first := OK.out.first.1
 go_enter Tryz.func26, Tryz.ntmps26
 go_wp2_with (first
  | (go_at_call 19; refine HCC.out.mono ?_; rw [H0.out]; rintro e w1 ⟨rfl, hb1⟩; rw [World.size_alloc] at hb1; have c0 := (hb1.cell (p := ⟨w.heap.size, 0, none⟩) (by show w.heap.size < _; omega)); have c1 := (hb1.cell (p := ⟨w.heap.size, 1, none⟩) (by show w.heap.size < _; omega)); have c2 := (hb1.cell (p := ⟨w.heap.size, 2, none⟩) (by show w.heap.size < _; omega)); simp [go_sem] at c0 c1 c2; have HC2 := qH c2; have HB1 := qH hb1; have hl0 : w.heap.size < w1.heap.size := (by have := hb1.size; simp at this; omega); clear hb1)
  | (at_builtin
     refine wpList_append_grows _ rfl (.tmp 17) (.tmp 25) 73 rfl 5 i0 (.int .u8 0) 1 1 undBytes hi hz0 hz1 hz2 rfl (by decide) (some ⟨w1.heap.size, 0, none⟩) 4 4 [.int .u8 84, .int .u8 90, .int .u8 98, .int .u8 49] rfl (fun h => by cases h) rfl (fun _ h => by cases h; exact head_old _ _ _) ⟨w1.heap.size + 1, 0, none⟩ 2 2 [.int .u8 t.types.length, .int .u8 t.first] rfl rfl (head_new _ _ _) (by simp [Value.oneCell']) (by decide) (by decide) (by decide) ?_
     intro v2 w2 hown2 hg2
     obtain ⟨hl2, hb2, hr2⟩ := head_grow hl0 hown2 rfl hg2
     have HR2 := qH hr2
     have HB2 := qH hb2
     have d0 := (hb2.cell (p := ⟨w.heap.size, 0, none⟩) hl0).trans c0
     have d1 := (hb2.cell (p := ⟨w.heap.size, 1, none⟩) hl0).trans c1
     have d2 := (hb2.cell (p := ⟨w.heap.size, 2, none⟩) hl0).trans c2
     clear hown2 hg2 hb2 c0 c1 c2 hr2))
 rw [HWC.out]
 refine (put_any w1.heap.size v2 [84, 90, 98, 49, (t.types.length : Int), t.first] t.chs.length 2 _ HR2.out (by omega) (by decide) (by simp)).mono ?_
 rintro e w3 ⟨v3, rfl, hr3, hg3⟩
 have hb3 := hg3.below HR2.out (by omega)
 have HR3 := qH hr3
 have HB3 := qH (HB2.out.trans hb3)
 have e0 := (hb3.cell (p := ⟨w.heap.size, 0, none⟩) hl0).trans d0
 have e1 := (hb3.cell (p := ⟨w.heap.size, 1, none⟩) hl0).trans d1
 have e2 := (hb3.cell (p := ⟨w.heap.size, 2, none⟩) hl0).trans d2
 clear hr3 hg3 hb3 d0 d1 d2
 go_wp2
 have HH : Hid (∀ x ∈ t.types, -75600 <= x.off /\ x.off <= 75600 /\ x.name.size <= 8) := fun x hx => ⟨(OK.out.type x hx).1, (OK.out.type x hx).2.1, name_small x (OK.out.type x hx).2.2⟩
 have hmany := OK.out.many
 have hchs := OK.out.chs
 have hll : ∀ k, (encHead t ++ (t.types.take k).flatMap encTy).length <= 5000 := by
  intro k
  have h1 := nameSum_le (t.types.take k) fun x hx => (HH.out x (List.mem_of_mem_take hx)).2.2
  have h2 : (t.types.take k).length <= t.types.length := by rw [List.length_take]; omega
  rw [List.length_append, encHead_length, tys_length]
  omega
 have HLL := qH hll
 clear hll
 have HR3' : Hid (BRow w3 w1.heap.size v3 (encHead t ++ (t.types.take 0).flatMap encTy)) := by
  show BRow _ _ _ _
  rw [List.take_zero, List.flatMap_nil, List.append_nil]; exact HR3.out
 go_loopw [5, 36] (fun s5 s36 wr => ∃ k : Nat, k <= t.types.length /\ s36 = .int .i64 k /\ BRow wr w1.heap.size s5 (encHead t ++ (t.types.take k).flatMap encTy) /\ Below w1.heap.size w1 wr) (fun _ s36 _ => t.types.length - (intOf s36).toNat)
 case atStart => exact ⟨0, Nat.zero_le _, rfl, HR3'.out, HB3.out⟩
 case round =>
  obtain ⟨k, hk, rfl, hrow, hb⟩ := hrel
  have HR := qH hrow
  have HBK := qH hb
  clear hrow hb
  by_cases hlt : k < t.types.length
  ·obtain ⟨x, ex⟩ : ∃ x, t.types[k] = x := ⟨_, rfl⟩
   have hx := HH.out _ (List.getElem_mem hlt)
   have hat := ((HTY.out k hlt).mono (B := w.heap.size) (HB.out.trans (HB1.out.mono (by omega))) hbl).mono HBK.out (by omega)
   rw [ex] at hat hx
   have EX := qH ex
   clear ex
   obtain ⟨c0, c1, c2⟩ := hat
   obtain ⟨hx1, hx2, hx3⟩ := hx
   have HWO : Hid (x.off + 2147483648 = (((x.off + 2147483648).toNat : Nat) : Int)) := by
    show _ = _
    omega
   go_wp2_with (fail)
   rw [HWO.out]
   have hw1 : w1.heap.size <= wr.heap.size := HBK.out.size
   have hle := HLL.out k
   have HRA : Hid (BRow (wr.alloc (Obj.cells #[Value.int .i64 x.off, Value.bool x.save, Value.string x.name] 51)) w1.heap.size u5 (encHead t ++ (t.types.take k).flatMap encTy)) := World.ownsRow.alloc HR.out _
   refine (put_any w1.heap.size u5 (encHead t ++ (t.types.take k).flatMap encTy) (x.off + 2147483648).toNat 4 _ HRA.out (by simp; omega) (by decide) (by omega)).mono ?_
   rintro e w4 ⟨v4, rfl, hr4, hg4⟩
   have hu5 : u5.ownBlock ≠ some wr.heap.size := fun e => by have := (World.ownsRow.lt HR.out _ e).2; omega
   have hX : w4.heap[wr.heap.size]? = some (.cells #[Value.int .i64 x.off, Value.bool x.save, Value.string x.name] 51 (0, 0)) := (hg4.far (by simp) hu5).trans (heap_alloc_new wr _)
   have hv4 : v4.ownBlock ≠ some wr.heap.size := hg4.ne (by simp) hu5
   have hb4 : Below w1.heap.size w1 w4 := (HBK.out.alloc hw1 _).trans (hg4.below HRA.out (by simp; omega))
   have hX4 : wr.heap.size < w4.heap.size := (Array.getElem?_eq_some_iff.1 hX).1
   obtain ⟨x0, x1, x2⟩ := cellsX hX
   have HR4 := qH hr4
   have HB4 := qH hb4
   have HV4 := qH hv4
   have HX := qH hX
   have hle4 : (encHead t ++ (t.types.take k).flatMap encTy ++ putN 4 (x.off + 2147483648).toNat).length <= 5004 := by rw [List.length_append, putN_length]; omega
   have HLE := qH hle4
   have HB5 : Hid (∀ o : Obj, w1.heap.size <= ((w4.alloc o).drew).heap.size) := fun o => by have := hb4.size; simp; omega
   have HH5 : Hid (∀ o : Obj, w4.heap.size <= ((w4.alloc o).drew).heap.size) := fun o => by simp
   have HS5 : Hid (∀ o : Obj, ((w4.alloc o).drew).heap.size = w4.heap.size + 1) := fun o => by simp
   have HLE1 : Hid ((encHead t ++ (t.types.take k).flatMap encTy ++ putN 4 (x.off + 2147483648).toNat).length + 2 <= maxLen) := by show _ <= _; simp only [maxLen]; omega
   have HLE2 : Hid (((encHead t ++ (t.types.take k).flatMap encTy ++ putN 4 (x.off + 2147483648).toNat).length + 2) * 1 <= 140737488355328) := by show _ <= _; omega
   have HLE3 : Hid ((encHead t ++ (t.types.take k).flatMap encTy ++ putN 4 (x.off + 2147483648).toNat).length + 2 + x.name.size <= maxLen) := by show _ <= _; simp only [maxLen]; omega
   have HLE4 : Hid ((encHead t ++ (t.types.take k).flatMap encTy ++ putN 4 (x.off + 2147483648).toNat).length + 2 + x.name.size <= 140737488355328) := by show _ <= _; omega
   clear hr4 hg4 hu5 hX hv4 hb4 c0 c1 c2 hle4
   cases hsv : x.save
   ·rw [hsv] at x1 HX
    have HSV := qH hsv
    clear hsv
    go_wp2
    have hwn : IntKind.u8.wrap (x.name.size : Int) = (x.name.size : Int) := by rw [IntKind.wrap_u8']; omega
    go_region_held3 (fun w' => w'.cell? ⟨wr.heap.size, 2, none⟩ = some (.string x.name))
     (first
       | go_keep
       | (rw [hg6.cell_far ⟨wr.heap.size, 2, none⟩ hX5 (fun e => gg_ne HV4.out hat5 hX4 e)]; assumption)
       | (rw [hg5.cell_far _ (by simp; omega) (fun e => HV4.out e.symm)]; first | assumption | go_keep))
     (first
       | (refine step_append_lies _ (by rfl) _ _ _ (by rfl) w1.heap.size 5 i0 (.int .u8 0) 1 1 undBytes hi hz0 hz1 hz2 rfl (by omega) v4 (encHead t ++ (t.types.take k).flatMap encTy ++ putN 4 (x.off + 2147483648).toNat).length (bts (encHead t ++ (t.types.take k).flatMap encTy ++ putN 4 (x.off + 2147483648).toNat)) (by rfl) (World.ownsRow.drew (World.ownsRow.alloc HR4.out _)) ⟨w4.heap.size, 0, none⟩ 2 2 [.int .u8 0, .int .u8 x.name.size] (by rfl) (by rfl) (World.news_of_block (cs := #[.int .u8 0, .int .u8 x.name.size]) (t := 5) (fr := (0, 0)) (heap_alloc_new w4 _)) (one2 _ _) Nat.two_pos HLE1.out HLE2.out (HB5.out _) (w4.heap.size + 1) (HS5.out _) ?_; intro gg cap w5 hown5 hg5 hat5 hlt5; have hX5 : wr.heap.size < w5.heap.size := Nat.lt_of_lt_of_le hX4 (Nat.le_trans (HH5.out _) hg5.size))
       | (refine step_append_str _ (by rfl) _ _ _ _ (by rfl) w1.heap.size 5 i0 undBytes Tryz.underlying9 hi hz0 hz1 hz2 _ _ _ (by rfl) hown5 x.name (by rfl) HLE3.out HLE4.out (Nat.le_trans (HB5.out _) hg5.size) ?_; intro v6 w6 hown6 hg6))
    go_wp2
    go_roundw
    case rel =>
     refine ⟨k + 1, by omega, by go_num, ty_row _ _ k hlt x EX.out _ (by rw [HSV.out]; rfl) hown6, ?_⟩
     exact (((HB4.out.alloc HB4.out.size _).drew).grown hg5 (HB5.out _) (fun q hq => (World.ownsRow.lt HR4.out q hq).1)).grown hg6 (Nat.le_trans (HB5.out _) hg5.size) (fun q hq => (World.ownsRow.lt hown5 q hq).1)
    case measure => simp [intOf]; omega
   ·rw [hsv] at x1 HX
    have HSV := qH hsv
    clear hsv
    go_wp2
    have hwn : IntKind.u8.wrap (x.name.size : Int) = (x.name.size : Int) := by rw [IntKind.wrap_u8']; omega
    go_region_held3 (fun w' => w'.cell? ⟨wr.heap.size, 2, none⟩ = some (.string x.name))
     (first
       | go_keep
       | (rw [hg6.cell_far ⟨wr.heap.size, 2, none⟩ hX5 (fun e => gg_ne HV4.out hat5 hX4 e)]; assumption)
       | (rw [hg5.cell_far _ (by simp; omega) (fun e => HV4.out e.symm)]; first | assumption | go_keep))
     (first
       | (refine step_append_lies _ (by rfl) _ _ _ (by rfl) w1.heap.size 5 i0 (.int .u8 0) 1 1 undBytes hi hz0 hz1 hz2 rfl (by omega) v4 (encHead t ++ (t.types.take k).flatMap encTy ++ putN 4 (x.off + 2147483648).toNat).length (bts (encHead t ++ (t.types.take k).flatMap encTy ++ putN 4 (x.off + 2147483648).toNat)) (by rfl) (World.ownsRow.drew (World.ownsRow.alloc HR4.out _)) ⟨w4.heap.size, 0, none⟩ 2 2 [.int .u8 1, .int .u8 x.name.size] (by rfl) (by rfl) (World.news_of_block (cs := #[.int .u8 1, .int .u8 x.name.size]) (t := 5) (fr := (0, 0)) (heap_alloc_new w4 _)) (one2 _ _) Nat.two_pos HLE1.out HLE2.out (HB5.out _) (w4.heap.size + 1) (HS5.out _) ?_; intro gg cap w5 hown5 hg5 hat5 hlt5; have hX5 : wr.heap.size < w5.heap.size := Nat.lt_of_lt_of_le hX4 (Nat.le_trans (HH5.out _) hg5.size))
       | (refine step_append_str _ (by rfl) _ _ _ _ (by rfl) w1.heap.size 5 i0 undBytes Tryz.underlying9 hi hz0 hz1 hz2 _ _ _ (by rfl) hown5 x.name (by rfl) HLE3.out HLE4.out (Nat.le_trans (HB5.out _) hg5.size) ?_; intro v6 w6 hown6 hg6))
    go_wp2
    go_roundw
    case rel =>
     refine ⟨k + 1, by omega, by go_num, ty_row _ _ k hlt x EX.out _ (by rw [HSV.out]; rfl) hown6, ?_⟩
     exact (((HB4.out.alloc HB4.out.size _).drew).grown hg5 (HB5.out _) (fun q hq => (World.ownsRow.lt HR4.out q hq).1)).grown hg6 (Nat.le_trans (HB5.out _) hg5.size) (fun q hq => (World.ownsRow.lt hown5 q hq).1)
    case measure => simp [intOf]; omega
  ·obtain rfl : k = t.types.length := by omega
   rw [List.take_length] at HR
   have f2 := (HBK.out.cell (p := ⟨w.heap.size, 2, none⟩) hl0).trans HC2.out
   go_wp2
   have hl2 : ∀ k, (encHead t ++ t.types.flatMap encTy ++ (t.chs.take k).flatMap encCh).length <= 15000 := by
    intro k
    have h1 := HLL.out t.types.length
    rw [List.take_length] at h1
    rw [List.length_append, chs_length, List.length_take]
    omega
   have HL2 := qH hl2
   have HR3 : Hid (BRow wr w1.heap.size u5 (encHead t ++ t.types.flatMap encTy ++ (t.chs.take 0).flatMap encCh)) := by
    show BRow _ _ _ _
    rw [List.take_zero, List.flatMap_nil, List.append_nil]; exact HR.out
   obtain ⟨w0, hw0⟩ : ∃ w0 : World, w0 = wr := ⟨_, rfl⟩
   rw [<- hw0] at HR3 HBK HR
   rw [<- hw0]
   clear hl2 hw0
   go_loopw [5, 63] (fun s5 s63 wr => ∃ k : Nat, k <= t.chs.length /\ s63 = .int .i64 k /\ BRow wr w1.heap.size s5 (encHead t ++ t.types.flatMap encTy ++ (t.chs.take k).flatMap encCh) /\ Below w1.heap.size w1 wr) (fun _ s63 _ => t.chs.length - (intOf s63).toNat)
   case atStart => exact ⟨0, Nat.zero_le _, rfl, HR3.out, HBK.out⟩
   case round =>
    obtain ⟨k, hk, rfl, hrow, hb⟩ := hrel
    have HRK := qH hrow
    have HBJ := qH hb
    clear hrow hb
    by_cases hlt : k < t.chs.length
    ·obtain ⟨b2, o2, rfl, hb2, hch⟩ := HC.out (by intro e; rw [e] at hlt; simp at hlt)
     obtain ⟨x, ex⟩ : ∃ x, t.chs[k] = x := ⟨_, rfl⟩
     have hx := OK.out.ch _ (List.getElem_mem hlt)
     have hat := ((hch k hlt).mono (B := w.heap.size) (HB.out.trans (HB1.out.mono (by omega))) hb2).mono HBJ.out (by omega)
     rw [ex] at hat hx
     have EX := qH ex
     clear ex hch
     obtain ⟨c0, c1⟩ := hat
     obtain ⟨hx1, hx2, hx3, hx4⟩ := hx
     have HWA := qH (u64_shift x.t hx1 hx2)
     have hwk : IntKind.u8.wrap x.k = x.k := by rw [IntKind.wrap_u8']; omega
     go_wp2_with (fail)
     have hw1 : w1.heap.size <= wr.heap.size := HBJ.out.size
     have hle := HL2.out k
     have hu5 : u5.ownBlock ≠ some wr.heap.size := fun e => by have := (World.ownsRow.lt HRK.out _ e).2; omega
     have HU5 := qH hu5
     have HRA : Hid (BRow ((wr.alloc (Obj.cells #[Value.int .i64 x.t, Value.int .i64 x.k] 61)).drew) w1.heap.size u5 (encHead t ++ t.types.flatMap encTy ++ (t.chs.take k).flatMap encCh)) := World.ownsRow.drew (World.ownsRow.alloc HRK.out _)
     have HSA : Hid (w1.heap.size <= ((wr.alloc (Obj.cells #[Value.int .i64 x.t, Value.int .i64 x.k] 61)).drew).heap.size) := by show _ <= _; simp; omega
     have HXA : Hid (wr.heap.size < ((wr.alloc (Obj.cells #[Value.int .i64 x.t, Value.int .i64 x.k] 61)).drew).heap.size) := by show _ < _; simp
     have HBA : Hid (Below w1.heap.size w1 ((wr.alloc (Obj.cells #[Value.int .i64 x.t, Value.int .i64 x.k] 61)).drew)) := (HBJ.out.alloc hw1 _).drew
     have HRB : Hid (BRow (((wr.alloc (Obj.cells #[Value.int .i64 x.t, Value.int .i64 x.k] 61)).drew).alloc (Obj.cells #[Value.int .u8 x.k] 5)) w1.heap.size u5 (encHead t ++ t.types.flatMap encTy ++ (t.chs.take k).flatMap encCh)) := World.ownsRow.alloc HRA.out _
     have HSB : Hid (w1.heap.size <= (((wr.alloc (Obj.cells #[Value.int .i64 x.t, Value.int .i64 x.k] 61)).drew).alloc (Obj.cells #[Value.int .u8 x.k] 5)).heap.size) := by show _ <= _; simp; omega
     have HXB : Hid (wr.heap.size < (((wr.alloc (Obj.cells #[Value.int .i64 x.t, Value.int .i64 x.k] 61)).drew).alloc (Obj.cells #[Value.int .u8 x.k] 5)).heap.size) := by show _ < _; simp; omega
     have HXC : Hid (wr.heap.size + 1 < (((wr.alloc (Obj.cells #[Value.int .i64 x.t, Value.int .i64 x.k] 61)).drew).alloc (Obj.cells #[Value.int .u8 x.k] 5)).heap.size) := by show _ < _; simp
     have HBB : Hid (Below w1.heap.size w1 (((wr.alloc (Obj.cells #[Value.int .i64 x.t, Value.int .i64 x.k] 61)).drew).alloc (Obj.cells #[Value.int .u8 x.k] 5))) := HBA.out.alloc HSA.out _
     have HUC : Hid (u5.ownBlock ≠ some (wr.heap.size + 1)) := fun e => by have := (World.ownsRow.lt HRK.out _ e).2; omega
     have HNB : Hid ((((wr.alloc (Obj.cells #[Value.int .i64 x.t, Value.int .i64 x.k] 61)).drew).alloc (Obj.cells #[Value.int .u8 x.k] 5)).heap[wr.heap.size + 1]? = some (Obj.cells #[Value.int .u8 x.k] 5 (0, 0))) := by
      have := heap_alloc_new ((wr.alloc (Obj.cells #[Value.int .i64 x.t, Value.int .i64 x.k] 61)).drew) (Obj.cells #[Value.int .u8 x.k] 5)
      have e : ((wr.alloc (Obj.cells #[Value.int .i64 x.t, Value.int .i64 x.k] 61)).drew).heap.size = wr.heap.size + 1 := by simp
      rw [e] at this
      exact this
     have HLE0 : Hid ((encHead t ++ t.types.flatMap encTy ++ (t.chs.take k).flatMap encCh).length <= 100000) := by show _ <= _; omega
     have HLE : Hid ((encHead t ++ t.types.flatMap encTy ++ (t.chs.take k).flatMap encCh ++ putN 8 (x.t + 9223372036854775808).toNat).length <= 20000) := by show _ <= _; rw [List.length_append, putN_length]; omega
     obtain ⟨NL, hNL⟩ : ∃ NL : Nat, (encHead t ++ t.types.flatMap encTy ++ (t.chs.take k).flatMap encCh ++ putN 8 (x.t + 9223372036854775808).toNat).length = NL := ⟨_, rfl⟩
     have hNL2 : NL <= 20000 := by rw [<- hNL]; exact HLE.out
     have HNL := qH hNL
     have HLE1 : Hid (NL + 1 <= maxLen) := by show _ <= _; simp only [maxLen]; omega
     have HLE2 : Hid ((NL + 1) * 1 <= 140737488355328) := by show _ <= _; omega
     clear hNL
     clear hu5 hle
     go_region_held3 (fun w' => w'.cell? ⟨wr.heap.size, 0, none⟩ = some (.int .i64 x.t) /\ w'.cell? ⟨wr.heap.size, 1, none⟩ = some (.int .i64 x.k))
      (first
        | go_keep
        | (go_split_ands
           refine ⟨?_, ?_⟩
           ·(rw [hg5.cell_far ⟨wr.heap.size, 0, none⟩ hX5 (fun e => HV4.out e.symm)]; assumption)
           ·(rw [hg5.cell_far ⟨wr.heap.size, 1, none⟩ hX5 (fun e => HV4.out e.symm)]; assumption))
        | (go_split_ands
           refine ⟨?_, ?_⟩
           ·(rw [hg4.1.cell_far ⟨wr.heap.size, 0, none⟩ HXQ.out (fun e => HU5.out e.symm)]; assumption)
           ·(rw [hg4.1.cell_far ⟨wr.heap.size, 1, none⟩ HXQ.out (fun e => HU5.out e.symm)]; assumption)))
      (first
        | (go_at_call 60; rw [HWA.out]; refine (put_any w1.heap.size u5 (encHead t ++ t.types.flatMap encTy ++ (t.chs.take k).flatMap encCh) (x.t + 9223372036854775808).toNat 8 _ HRA.out HSA.out (by decide) HLE0.out).mono ?_; rintro e w4 ⟨v4, rfl, hr4, hg4⟩; have HR4 : Hid (w4.ownsRow w1.heap.size 5 1 v4 NL (bts (encHead t ++ t.types.flatMap encTy ++ (t.chs.take k).flatMap encCh ++ putN 8 (x.t + 9223372036854775808).toNat))) := (by show World.ownsRow _ _ _ _ _ _ _; rw [<- HNL.out]; exact hr4); have HV4 := qH (hg4.ne HXA.out HU5.out); have hX4 : wr.heap.size < w4.heap.size := (Nat.lt_of_lt_of_le HXA.out hg4.1.size); have HS4 : Hid (w1.heap.size <= w4.heap.size) := (Nat.le_trans HSA.out hg4.1.size); have HXQ := HXA; have HB4 := qH (HBA.out.trans (hg4.below HRA.out HSA.out)); clear hr4)
        | (go_at_call 60; rw [HWA.out]; refine (put_any w1.heap.size u5 (encHead t ++ t.types.flatMap encTy ++ (t.chs.take k).flatMap encCh) (x.t + 9223372036854775808).toNat 8 _ HRB.out HSB.out (by decide) HLE0.out).mono ?_; rintro e w4 ⟨v4, rfl, hr4, hg4⟩; have HR4 : Hid (w4.ownsRow w1.heap.size 5 1 v4 NL (bts (encHead t ++ t.types.flatMap encTy ++ (t.chs.take k).flatMap encCh ++ putN 8 (x.t + 9223372036854775808).toNat))) := (by show World.ownsRow _ _ _ _ _ _ _; rw [<- HNL.out]; exact hr4); have HV4 := qH (hg4.ne HXB.out HU5.out); have hX4 : wr.heap.size < w4.heap.size := (Nat.lt_of_lt_of_le HXB.out hg4.1.size); have HS4 : Hid (w1.heap.size <= w4.heap.size) := (Nat.le_trans HSB.out hg4.1.size); have HXQ := HXB; have HB4 := qH (HBB.out.trans (hg4.below HRB.out HSB.out)); have HN4 := qH ((hg4.far HXC.out HUC.out).trans HNB.out); clear hr4)
        | (refine step_append_lies _ (by rfl) _ _ _ (by rfl) w1.heap.size 5 i0 (.int .u8 0) 1 1 undBytes hi hz0 hz1 hz2 rfl (by omega) v4 NL (bts (encHead t ++ t.types.flatMap encTy ++ (t.chs.take k).flatMap encCh ++ putN 8 (x.t + 9223372036854775808).toNat)) (by rfl) HR4.out ⟨wr.heap.size + 1, 0, none⟩ 1 1 [.int .u8 x.k] (by rfl) (by rfl) (World.news_of_block (cs := #[.int .u8 x.k]) (t := 5) (fr := (0, 0)) HN4.out) (one1 _) Nat.one_pos HLE1.out HLE2.out HS4.out w4.heap.size rfl ?_; intro gg cap w5 hown5 hg5 hat5 hlt5; have hX5 : wr.heap.size < w4.heap.size := hX4; have HB5 := qH (HB4.out.grown hg5 HS4.out (fun q hq => (World.ownsRow.lt HR4.out q hq).1)))
        | (refine step_append_lies _ (by rfl) _ _ _ (by rfl) w1.heap.size 5 i0 (.int .u8 0) 1 1 undBytes hi hz0 hz1 hz2 rfl (by omega) v4 NL (bts (encHead t ++ t.types.flatMap encTy ++ (t.chs.take k).flatMap encCh ++ putN 8 (x.t + 9223372036854775808).toNat)) (by rfl) (World.ownsRow.alloc HR4.out _) ⟨w4.heap.size, 0, none⟩ 1 1 [.int .u8 x.k] (by rfl) (by rfl) (World.news_of_block (cs := #[.int .u8 x.k]) (t := 5) (fr := (0, 0)) (heap_alloc_new w4 _)) (one1 _) Nat.one_pos HLE1.out HLE2.out (Nat.le_trans HS4.out (by simp)) (w4.heap.size + 1) (by simp) ?_; intro gg cap w5 hown5 hg5 hat5 hlt5; have hX5 : wr.heap.size < (w4.alloc (Obj.cells #[Value.int .u8 x.k] 5)).heap.size := (by simp; omega); have HB5 := qH ((HB4.out.alloc HS4.out _).grown hg5 (Nat.le_trans HS4.out (by simp)) (fun q hq => (World.ownsRow.lt HR4.out q hq).1))))
     all_goals
      go_wp2
      go_roundw
      case rel => exact ⟨k + 1, by omega, by go_num, ch_row _ _ k hlt x EX.out hown5, HB5.out⟩
      case measure => simp [intOf]; omega
    ·obtain rfl : k = t.chs.length := by omega
     rw [List.take_length] at HRK
     go_wp2
     go_ret2
     refine ⟨_, rfl, ?_, ?_⟩
     ·have e : enc t = encHead t ++ t.types.flatMap encTy ++ t.chs.flatMap encCh := (List.append_assoc _ _ _).symm
      rw [e]
      exact ownsRow_le HRK.out (by omega)
     ·exact (HB.out.trans (HB1.out.mono (by omega))).trans (HBJ.out.mono (by omega))
end Go.Proofs.YtomahddiclkepaaGreatDoor
namespace Go.Proofs.YtomahddiclkepaaGreatDoor
open Go.RowKit
theorem Pack_bad (t : Tab) (v : Value) (w : World) (hv : TabAt w v t) (h : chk t ≠ 0) :
 Calls Tryz.prog 26 #[v] w fun e w' => e = .returned (.tuple #[.slice none 0 0, .int .i64 (chk t)]) /\ Below w.heap.size w w' := by
 obtain ⟨sv, cv, rfl⟩ := hv.parts
 have hB : Below w.heap.size w (w.alloc (.cells #[sv, .int .i64 t.first, cv] 58)) := (Below.refl _ _).alloc (Nat.le_refl _) _
 have HCC := qH (Check_any t _ _ (hv.below hB))
 have HB := qH hB
 obtain ⟨R, eR⟩ : ∃ R : Int, chk t = R := ⟨_, rfl⟩
 rw [eR] at HCC h ⊢
 have hne : (R == 0) = false := by simpa using h
 clear hv hB eR h
 go_enter Tryz.func26, Tryz.ntmps26
 go_wp2_with fail
 refine HCC.out.mono ?_
 rintro e w1 ⟨rfl, hb1⟩
 go_wp2
 go_ret2
 exact ⟨rfl, HB.out.trans (hb1.mono HB.out.size)⟩
theorem BRow.form {w : World} {B : Nat} {v : Value} {l : List Int} (h : BRow w B v l) : ∃ p cap, v = .slice p l.length cap /\ (l ≠ [] -> ∃ g, p = some ⟨g, 0, none⟩ /\ g < w.heap.size /\ B <= g /\ ∀ i (hi : i < l.length), w.cell? ⟨g, i, none⟩ = some (.int .u8 l[i])) := by
 rcases h.2 with ⟨rfl, h0⟩ | ⟨g, cap, cur, rfl, hb, hg, hn, hm, hs, ht⟩
 ·have : l = [] := List.eq_nil_of_length_eq_zero h0
  subst this
  exact ⟨none, 0, rfl, fun h => absurd rfl h⟩
 ·refine ⟨_, cap, rfl, fun _ => ⟨g, rfl, (Array.getElem?_eq_some_iff.1 hg).1, hb, fun i hi => ?_⟩⟩
  rw [cell_of_row w g i cur _ (0, 0) hg]
  have e : (cur.toList.take (l.length * 1))[i]? = (bts l)[i]? := by rw [ht]
  rw [List.getElem?_take] at e
  rw [if_pos (by omega)] at e
  simp only [Array.getElem?_toList] at e
  rw [e]
  simp [bts, hi]
def BytesBelow (w : World) (B : Nat) (A : Option Addr) (n : Nat) (xs : List Int) : Prop :=
 0 < n -> ∃ b o, A = some ⟨b, o, none⟩ /\ b < B /\ ∀ i, i < n -> w.cell? ⟨b, o + i, none⟩ = some (.int .u8 (xs.getD i 0))
theorem BytesBelow.bytes {w : World} {B : Nat} {A : Option Addr} {n : Nat} {xs : List Int} (h : BytesBelow w B A n xs) : Lib.BytesIn w A n xs := fun hn => by
 obtain ⟨b, o, h1, _, h2⟩ := h hn
 exact ⟨b, o, h1, h2⟩
theorem BytesBelow.keep {w w' : World} {B : Nat} {A : Option Addr} {n : Nat} {xs : List Int} (h : BytesBelow w B A n xs) (hk : ∀ b o, b < B -> w'.cell? ⟨b, o, none⟩ = w.cell? ⟨b, o, none⟩) : BytesBelow w' B A n xs := fun hn => by
 obtain ⟨b, o, h1, h2, h3⟩ := h hn
 exact ⟨b, o, h1, h2, fun i hi => (hk b _ h2).trans (h3 i hi)⟩
def RdAt (w : World) (R : Nat) (r : Rd) : Prop := ∃ A c, r.rest.length <= c /\ w.heap[R]? = some (.cells #[.slice A r.rest.length c, .bool r.short] 140 (0, 0)) /\ BytesBelow w R A r.rest.length r.rest
theorem RdAt.keep {w w' : World} {R : Nat} {r : Rd} (h : RdAt w R r) (hk : ∀ b, b <= R -> w'.heap[b]? = w.heap[b]?) : RdAt w' R r := by
 obtain ⟨A, c, h1, h2, h3⟩ := h
 refine ⟨A, c, h1, (hk R (Nat.le_refl _)).trans h2, h3.keep fun b o hb => ?_⟩
 simp only [World.cell?, hk b (by omega)]
theorem heap_setCell_same {w : World} {R i : Nat} {cs : Array Value} {T : TypeId} {f : Nat × Nat} (h : w.heap[R]? = some (.cells cs T f)) (v : Value) : (w.setCell ⟨R, i, none⟩ v).heap[R]? = some (.cells (cs.setIfInBounds i v) T f) := by
 simp [World.setCell, Array.getElem?_modify, h]
theorem made_bytes (n : Nat) (hn : n <= 255) (W : World) : (Instr.makeSlice 73 (.int .i64 (n : Int)) (.int .i64 (n : Int))).run Tryz.prog W = .ok (.slice (some ⟨W.heap.size, 0, none⟩) n n) (W.alloc (.cells (madeCells #[.int .u8 0] n) 5)) := by
 obtain ⟨i0, hi, hz0, hz1, hz2⟩ := info_parts infoByte
 have h := run_make (P := Tryz.prog) W 73 5 i0 (.int .u8 0) undBytes hi hz0 .i64 .i64 (n : Int) (n : Int) (by omega) (by omega) (by rw [hz2]; omega) (by omega)
 rw [hz1] at h
 simpa [Value.cells] using h
theorem rd_short {w : World} {R n : Nat} {A : Option Addr} {m c : Nat} {s : Bool} (h2 : w.heap[R]? = some (.cells #[.slice A m c, .bool s] 140 (0, 0))) (hn : 0 < n) :
 let W := ((w.setCell ⟨R, 1, none⟩ (.bool true)).setCell ⟨R, 0, none⟩ (.slice none 0 0)).alloc (.cells (madeCells #[.int .u8 0] n) 5)
 BytesBelow W W.heap.size (some ⟨w.heap.size, 0, none⟩) n (List.replicate n 0) /\ RdAt W R ⟨[], true⟩ /\ w.grownBy W (some R) := by
 intro W
 have hlt : R < w.heap.size := (Array.getElem?_eq_some_iff.1 h2).1
 have e1 := heap_setCell_same (i := 1) h2 (.bool true)
 have e2 := heap_setCell_same (i := 0) e1 (.slice none 0 0)
 have hz : ((w.setCell ⟨R, 1, none⟩ (.bool true)).setCell ⟨R, 0, none⟩ (.slice none 0 0)).heap.size = w.heap.size := by simp [World.setCell]
 refine ⟨fun _ => ⟨w.heap.size, 0, rfl, by show _ < W.heap.size; simp [W, hz], fun i hi => ?_⟩, ⟨none, 0, Nat.le_refl _, ?_, fun h => by simp at h⟩, ⟨rfl, rfl, rfl, by simp [W, hz], fun i hi hne => ?_⟩⟩
 ·have e := heap_alloc_new ((w.setCell ⟨R, 1, none⟩ (.bool true)).setCell ⟨R, 0, none⟩ (.slice none 0 0)) (.cells (madeCells #[.int .u8 0] n) 5)
  rw [hz] at e
  rw [cell_of_row _ _ _ _ _ _ e]
  rw [Nat.zero_add, <- Array.getElem?_toList, toList_madeCells_one]
  simp [hi]
 ·refine (Below.heap_alloc _ _ _ (by omega)).trans ?_
  rw [e2]; rfl
 ·have hne' : i ≠ R := fun e => hne (by rw [e])
  exact (Below.heap_alloc _ _ _ (by omega)).trans ((Below.heap_setCell _ _ _ _ hne').trans (Below.heap_setCell _ _ _ _ hne'))
theorem rd_long {w : World} {R n : Nat} {r : Rd} {A : Option Addr} {c : Nat} (h1 : r.rest.length <= c) (h2 : w.heap[R]? = some (.cells #[.slice A r.rest.length c, .bool r.short] 140 (0, 0))) (h3 : BytesBelow w R A r.rest.length r.rest) (hs : n <= r.rest.length)
 (A' : Option Addr) (hA : n < r.rest.length -> A' = A.map (·.add n)) :
 BytesBelow (w.setCell ⟨R, 0, none⟩ (.slice A' (r.rest.length - n) (c - n))) (w.setCell ⟨R, 0, none⟩ (.slice A' (r.rest.length - n) (c - n))).heap.size A n (r.rest.take n) /\
  RdAt (w.setCell ⟨R, 0, none⟩ (.slice A' (r.rest.length - n) (c - n))) R ⟨r.rest.drop n, r.short⟩ /\ w.grownBy (w.setCell ⟨R, 0, none⟩ (.slice A' (r.rest.length - n) (c - n))) (some R) := by
 have hlt : R < w.heap.size := (Array.getElem?_eq_some_iff.1 h2).1
 have e2 := heap_setCell_same (i := 0) h2 (.slice A' (r.rest.length - n) (c - n))
 have hk : ∀ b o, b < R -> (w.setCell ⟨R, 0, none⟩ (.slice A' (r.rest.length - n) (c - n))).cell? ⟨b, o, none⟩ = w.cell? ⟨b, o, none⟩ := fun b o hb => by
  simp only [World.cell?, Below.heap_setCell w ⟨R, 0, none⟩ (.slice A' (r.rest.length - n) (c - n)) b (show b ≠ R by omega)]
 refine ⟨fun hn => ?_, ⟨A', c - n, by simp; omega, ?_, fun hn => ?_⟩, ⟨rfl, rfl, rfl, by simp [World.setCell], fun i hi hne => Below.heap_setCell _ _ _ _ (fun e => hne (by rw [e]))⟩⟩
 ·obtain ⟨b, o, rfl, hb, hc⟩ := h3 (by omega)
  refine ⟨b, o, rfl, by simp [World.setCell]; omega, fun i hi => ?_⟩
  rw [hk b _ hb, hc i (by omega)]
  simp only [List.getD_eq_getElem?_getD, List.getElem?_take, hi, if_true]
 ·rw [e2]; simp [List.length_drop]
 ·simp only [List.length_drop] at hn
  obtain ⟨b, o, rfl, hb, hc⟩ := h3 (by omega)
  refine ⟨b, o + n, by rw [hA (by omega)]; simp [Addr.add], hb, fun i hi => ?_⟩
  simp only [List.length_drop] at hi
  rw [hk b _ hb, Nat.add_assoc, hc (n + i) (by omega)]
  simp only [List.getD_eq_getElem?_getD, List.getElem?_drop]
theorem bytes_short (R n : Nat) (r : Rd) (w : World) (hr : RdAt w R r) (hn : n <= 255) (hs : r.rest.length < n) :
 Calls Tryz.prog 62 #[.pointer (some ⟨R, 0, none⟩), .int .i64 n] w fun e w' => ∃ A c, e = .returned (.slice A n c) /\ n <= c /\ BytesBelow w' w'.heap.size A n (List.replicate n 0) /\ RdAt w' R ⟨[], true⟩ /\ w.grownBy w' (some R) := by
 obtain ⟨A, c, h1, h2, h3⟩ := hr
 obtain ⟨c0, c1⟩ := cellsX2 h2
 have hlt : R < w.heap.size := (Array.getElem?_eq_some_iff.1 h2).1
 have f0 : w.frozen? ⟨R, 0, none⟩ = false := by simp [World.frozen?, h2]
 have f1 : w.frozen? ⟨R, 1, none⟩ = false := by simp [World.frozen?, h2]
 have hmk := made_bytes n hn
 have H2 := qH h2
 clear h2 h3
 go_enter Tryz.func62, Tryz.ntmps62
 go_wp2
 go_ret
 obtain ⟨k1, k2, k3⟩ := rd_short (n := n) H2.out (by omega)
 exact ⟨_, _, rfl, Nat.le_refl _, k1, k2, k3⟩
theorem bytes_long (R n : Nat) (r : Rd) (w : World) (hr : RdAt w R r) (hn : n <= 255) (hs : n <= r.rest.length) :
 Calls Tryz.prog 62 #[.pointer (some ⟨R, 0, none⟩), .int .i64 n] w fun e w' => ∃ A c, e = .returned (.slice A n c) /\ n <= c /\ BytesBelow w' w'.heap.size A n (r.rest.take n) /\ RdAt w' R ⟨r.rest.drop n, r.short⟩ /\ w.grownBy w' (some R) := by
 obtain ⟨A, c, h1, h2, h3⟩ := hr
 obtain ⟨c0, c1⟩ := cellsX2 h2
 have hlt : R < w.heap.size := (Array.getElem?_eq_some_iff.1 h2).1
 have f0 : w.frozen? ⟨R, 0, none⟩ = false := by simp [World.frozen?, h2]
 have f1 : w.frozen? ⟨R, 1, none⟩ = false := by simp [World.frozen?, h2]
 have H2 := qH h2
 have H3 := qH h3
 clear h2 h3
 go_enter Tryz.func62, Tryz.ntmps62
 go_wp2
 ·have hc : c = n := by assumption
  subst hc
  go_ret
  obtain ⟨k1, k2, k3⟩ := rd_long h1 H2.out H3.out hs A (by omega)
  exact ⟨_, _, rfl, Nat.le_refl _, by simpa using k1, by simpa using k2, by simpa using k3⟩
 ·go_ret
  obtain ⟨k1, k2, k3⟩ := rd_long h1 H2.out H3.out hs (A.map (·.add n)) (fun _ => rfl)
  exact ⟨_, _, rfl, by omega, k1, k2, k3⟩
theorem bytes_any (R n : Nat) (r : Rd) (w : World) (hr : RdAt w R r) (hn : n <= 255) :
 Calls Tryz.prog 62 #[.pointer (some ⟨R, 0, none⟩), .int .i64 n] w fun e w' => ∃ A c, e = .returned (.slice A n c) /\ n <= c /\ BytesBelow w' w'.heap.size A n (takeN n r).1 /\ RdAt w' R (takeN n r).2 /\ w.grownBy w' (some R) := by
 unfold takeN
 by_cases hs : n <= r.rest.length
 ·simp only [hs, if_true]; exact bytes_long R n r w hr hn hs
 ·simp only [hs, if_false]; exact bytes_short R n r w hr hn (by omega)
theorem u64_or256 (a c : Nat) (ha : a < 72057594037927936) (hc : c < 256) : bits .or .u64 (IntKind.u64.wrap ((a : Int) * 256)) (c : Int) = ((a * 256 + c : Nat) : Int) := by
 have e : IntKind.u64.wrap ((a : Int) * 256) = ((a * 256 : Nat) : Int) := by rw [IntKind.wrap_u64]; omega
 rw [e, u64_or_nat _ _ (by omega) (by omega)]
 congr 1
 have := Nat.shiftLeft_add_eq_or_of_lt (a := a) (i := 8) (b := c) (by omega)
 rw [Nat.shiftLeft_eq] at this
 exact this.symm
theorem numL_take (l : List Int) (k : Nat) (h : k < l.length) : numL (l.take (k + 1)) = numL (l.take k) * 256 + l[k].toNat := by
 rw [List.take_succ_eq_append_getElem h, numL_snoc]
theorem pkNumber_any (R n : Nat) (r : Rd) (w : World) (hr : RdAt w R r) (hn : n <= 8) (hby : ∀ x ∈ r.rest, 0 <= x /\ x < 256) :
 Calls Tryz.prog 61 #[.pointer (some ⟨R, 0, none⟩), .int .i64 n] w fun e w' => e = .returned (.int .u64 (numN n r).1) /\ RdAt w' R (numN n r).2 /\ w.grownBy w' (some R) := by
 have HB := qH (bytes_any R n r w hr (by omega))
 have hlen := takeN_length n r
 have hbt := takeN_byte n r hby
 have e2 : numN n r = (numL (takeN n r).1, (takeN n r).2) := rfl
 obtain ⟨L, eL⟩ : ∃ L, (takeN n r).1 = L := ⟨_, rfl⟩
 obtain ⟨Q, eQ⟩ : ∃ Q, (takeN n r).2 = Q := ⟨_, rfl⟩
 rw [eL, eQ] at HB e2
 rw [eL] at hlen hbt
 rw [e2]
 have HBT := qH hbt
 have HLEN := qH hlen
 clear hr hby eL eQ e2 hbt hlen
 go_enter Tryz.func61, Tryz.ntmps61
 go_wp2_with fail
 refine HB.out.mono ?_
 rintro e w1 ⟨A, c, rfl, hc, hbb, hrd, hgr⟩
 have HRD := qH hrd
 have HGR := qH hgr
 have HBB := qH hbb
 clear hrd hgr hbb
 go_wp2
 go_loop [4, 11] (fun s4 s11 => ∃ k : Nat, k <= n /\ s11 = .int .i64 k /\ s4 = .int .u64 (numL (L.take k))) (fun _ s11 => n - (intOf s11).toNat)
 case atStart => exact ⟨0, Nat.zero_le _, rfl, rfl⟩
 case round =>
  obtain ⟨k, hk, rfl, rfl⟩ := hrel
  by_cases hlt : k < n
  ·obtain ⟨b, o, rfl, hb, hcell⟩ := HBB.out (by omega)
   have hkl : k < L.length := by have := HLEN.out; omega
   have hx := HBT.out _ (List.getElem_mem hkl)
   have hs := numL_take L k hkl
   have hbd := numL_lt (L.take k) fun x hx => HBT.out x (List.mem_of_mem_take hx)
   have hpow : numL (L.take k) < 72057594037927936 := by
    refine Nat.lt_of_lt_of_le hbd ?_
    rw [List.length_take]
    exact Nat.pow_le_pow_right (by decide) (show min k L.length <= 7 by omega)
   have hck := hcell k hlt
   rw [List.getD_eq_getElem?_getD, List.getElem?_eq_getElem hkl, Option.getD_some] at hck
   obtain ⟨x, hxe⟩ := Int.eq_ofNat_of_zero_le hx.1
   rw [hxe] at hck hs
   have hx2 : x < 256 := by rw [hxe] at hx; omega
   obtain ⟨a, ea⟩ : ∃ a, numL (L.take k) = a := ⟨_, rfl⟩
   rw [ea] at hs hpow ⊢
   have HOR := qH (u64_or256 a x hpow hx2)
   have HS : Hid (numL (L.take (k + 1)) = a * 256 + x) := by show _ = _; rw [hs]; rfl
   clear hs hpow ea hbd hx hxe hcell
   go_wp2
   go_round
   case rel => exact ⟨k + 1, by omega, by go_num, by rw [HS.out, HOR.out]⟩
   case measure => simp [intOf]; omega
  ·obtain rfl : k = n := by omega
   have e : L.take k = L := List.take_of_length_le (by have := HLEN.out; omega)
   rw [e]
   go_wp2
   go_ret
   exact ⟨rfl, HRD.out, HGR.out⟩
end Go.Proofs.YtomahddiclkepaaGreatDoor
namespace Go.Proofs.YtomahddiclkepaaGreatDoor
open Go.RowKit Go.Joins
def zeroTab : Tab := ⟨[], 0, []⟩
def zeroTV : Value := .agg #[.slice none 0 0, .int .i64 0, .slice none 0 0]
theorem zero_at (w : World) : TabAt w zeroTV zeroTab := ⟨_, _, rfl, ⟨⟨none, 0, rfl, fun h => absurd rfl h⟩, by decide, by intro x hx; cases hx⟩, ⟨⟨none, 0, rfl, fun h => absurd rfl h⟩, by decide⟩⟩
structure PL (w W : World) (T B : Nat) (r : Rd) (sv cv : Value) (f : Int) (xs : List Ty) (ys : List Ch) : Prop where
 base : Below w.heap.size w W
 res : W.heap[w.heap.size]? = some (.cells #[.slice none 0 0, .int .i64 0, .slice none 0 0] 58 (0, 0))
 rd : RdAt W (w.heap.size + 1) r
 byte : ∀ x ∈ r.rest, 0 <= x /\ x < 256
 tb : W.heap[T]? = some (.cells #[sv, .int .i64 f, cv] 58 (0, 0))
 hT : w.heap.size + 1 < T
 hB : T < B
 hS : B <= W.heap.size
 rowT : W.ownsRow B 51 3 sv xs.length (tyCells xs)
 rowC : W.ownsRow B 61 2 cv ys.length (chCells ys)
theorem grown_R {w W W' : World} {R : Nat} (hg : W.grownBy W' (some R)) (hR : w.heap.size <= R) (hw : w.heap.size <= W.heap.size) : Below w.heap.size W W' :=
 (Below.refl _ W).grown hg hw fun k e => by injection e with e; omega
section
variable {w W W' : World} {T B : Nat} {r r' : Rd} {sv cv : Value} {f : Int} {xs : List Ty} {ys : List Ch}
theorem PL.below (h : PL w W T B r sv cv f xs ys) (hb : Below B W W') (h1 : W'.ownsRow B 51 3 sv xs.length (tyCells xs)) (h2 : W'.ownsRow B 61 2 cv ys.length (chCells ys)) : PL w W' T B r sv cv f xs ys := by
 have a1 := h.hT
 have a2 := h.hB
 exact ⟨h.base.trans (hb.mono (by omega)), (hb.block _ (by omega)).trans h.res, h.rd.keep fun b hb' => hb.block _ (by omega), h.byte, (hb.block _ (by omega)).trans h.tb, h.hT, h.hB, Nat.le_trans h.hS hb.size, h1, h2⟩
theorem PL.read (h : PL w W T B r sv cv f xs ys) (hr : RdAt W' (w.heap.size + 1) r') (hg : W.grownBy W' (some (w.heap.size + 1))) (hby : ∀ x ∈ r'.rest, 0 <= x /\ x < 256) : PL w W' T B r' sv cv f xs ys := by
 have a1 := h.hT
 have a2 := h.hB
 have a3 := h.hS
 have hk : ∀ b, b < W.heap.size -> b ≠ w.heap.size + 1 -> W'.heap[b]? = W.heap[b]? := fun b hb hne => hg.block b hb (fun e => by injection e with e; exact hne e)
 exact ⟨h.base.trans (grown_R hg (by omega) (by omega)), (hk _ (by omega) (by omega)).trans h.res, hr, hby, (hk _ (by omega) (by omega)).trans h.tb, h.hT, h.hB, Nat.le_trans h.hS hg.size,
  own_keep h.rowT fun g e => hk g ((World.ownsRow.lt h.rowT g e).2) (by have := (World.ownsRow.lt h.rowT g e).1; omega),
  own_keep h.rowC fun g e => hk g ((World.ownsRow.lt h.rowC g e).2) (by have := (World.ownsRow.lt h.rowC g e).1; omega)⟩
theorem PL.alloc (h : PL w W T B r sv cv f xs ys) (o : Obj) : PL w (W.alloc o) T B r sv cv f xs ys :=
 h.below ((Below.refl _ _).alloc h.hS _) (World.ownsRow.alloc h.rowT _) (World.ownsRow.alloc h.rowC _)
theorem PL.drew (h : PL w W T B r sv cv f xs ys) : PL w W.drew T B r sv cv f xs ys :=
 h.below ((Below.refl _ _).drew) (World.ownsRow.drew h.rowT) (World.ownsRow.drew h.rowC)
theorem PL.far (h : PL w W T B r sv cv f xs ys) {X i : Nat} (hX : B <= X) (h1 : sv.ownBlock ≠ some X) (h2 : cv.ownBlock ≠ some X) (v : Value) : PL w (W.setCell ⟨X, i, none⟩ v) T B r sv cv f xs ys :=
 h.below ((Below.refl _ _).setCell (by show B <= X; exact hX) _) (own_keep h.rowT fun g e => Below.heap_setCell _ _ _ _ (fun e2 => h1 (by rw [e, e2]))) (own_keep h.rowC fun g e => Below.heap_setCell _ _ _ _ (fun e2 => h2 (by rw [e, e2])))
theorem PL.put0 (h : PL w W T B r sv cv f xs ys) (hb : Below B W W') {sv' : Value} {xs' : List Ty} (h1 : W'.ownsRow B 51 3 sv' xs'.length (tyCells xs')) (h2 : W'.ownsRow B 61 2 cv ys.length (chCells ys)) :
 PL w (W'.setCell ⟨T, 0, none⟩ sv') T B r sv' cv f xs' ys := by
 have a1 := h.hT
 have a2 := h.hB
 have hk : ∀ b, b ≠ T -> (W'.setCell ⟨T, 0, none⟩ sv').heap[b]? = W'.heap[b]? := fun b hne => Below.heap_setCell _ _ _ _ hne
 have ht := heap_setCell_same (i := 0) ((hb.block _ (by omega)).trans h.tb) sv'
 refine ⟨(h.base.trans (hb.mono (by omega))).setCell (by show w.heap.size <= T; omega) _, (hk _ (by omega)).trans ((hb.block _ (by omega)).trans h.res), h.rd.keep fun b hb' => (hk _ (by omega)).trans (hb.block _ (by omega)), h.byte, by rw [ht]; rfl, h.hT, h.hB,
  by have := Nat.le_trans h.hS hb.size; simpa [World.setCell] using this,
  own_keep h1 fun g e => hk g (by have := (World.ownsRow.lt h1 g e).1; omega), own_keep h2 fun g e => hk g (by have := (World.ownsRow.lt h2 g e).1; omega)⟩
theorem PL.put2 (h : PL w W T B r sv cv f xs ys) (hb : Below B W W') {cv' : Value} {ys' : List Ch} (h1 : W'.ownsRow B 51 3 sv xs.length (tyCells xs)) (h2 : W'.ownsRow B 61 2 cv' ys'.length (chCells ys')) :
 PL w (W'.setCell ⟨T, 2, none⟩ cv') T B r sv cv' f xs ys' := by
 have a1 := h.hT
 have a2 := h.hB
 have hk : ∀ b, b ≠ T -> (W'.setCell ⟨T, 2, none⟩ cv').heap[b]? = W'.heap[b]? := fun b hne => Below.heap_setCell _ _ _ _ hne
 have ht := heap_setCell_same (i := 2) ((hb.block _ (by omega)).trans h.tb) cv'
 refine ⟨(h.base.trans (hb.mono (by omega))).setCell (by show w.heap.size <= T; omega) _, (hk _ (by omega)).trans ((hb.block _ (by omega)).trans h.res), h.rd.keep fun b hb' => (hk _ (by omega)).trans (hb.block _ (by omega)), h.byte, by rw [ht]; rfl, h.hT, h.hB,
  by have := Nat.le_trans h.hS hb.size; simpa [World.setCell] using this,
  own_keep h1 fun g e => hk g (by have := (World.ownsRow.lt h1 g e).1; omega), own_keep h2 fun g e => hk g (by have := (World.ownsRow.lt h2 g e).1; omega)⟩
end
theorem Parse_large (A : Option Addr) (n c : Nat) (w : World) (h : 20000 < n) :
 Calls Tryz.prog 27 #[.slice A n c] w fun e w' => e = .returned (.tuple #[zeroTV, .int .i64 2]) /\ Below w.heap.size w w' := by
 have h' : (20000 : Int) < (n : Int) := by omega
 go_enter Tryz.func27, Tryz.ntmps27
 go_wp2
 exact bodyPost_ret (v := .tuple #[zeroTV, .int .i64 2]) (by simp [results, Tryz.results27, go_sem, zeroTV]) rfl ⟨rfl, (Below.refl _ _).alloc (Nat.le_refl _) _⟩
theorem PkParse_short (A : Option Addr) (n c : Nat) (w : World) (h : n < 8) :
 Calls Tryz.prog 27 #[.slice A n c] w fun e w' => e = .returned (.tuple #[zeroTV, .int .i64 4]) /\ Below w.heap.size w w' := by
 have h0 : decide ((20000 : Int) < (n : Int)) = false := by simp; omega
 have h1 : decide ((n : Int) < 8) = true := by simp; omega
 go_enter Tryz.func27, Tryz.ntmps27
 go_wp2
 exact bodyPost_ret (v := .tuple #[zeroTV, .int .i64 4]) (by simp [results, Tryz.results27, go_sem, zeroTV]) rfl ⟨rfl, (Below.refl _ _).alloc (Nat.le_refl _) _⟩
theorem rd_start {w : World} {b o c : Nat} {l : List Int} (h : BytesBelow w w.heap.size (some ⟨b, o, none⟩) l.length l) (hc : l.length <= c) (h8 : 8 <= l.length) (x : Obj) :
 RdAt ((w.alloc x).alloc (.cells #[.slice (some ⟨b, o + 4, none⟩) (l.length - 4) (c - 4), .bool false] 140)) (w.heap.size + 1) ⟨l.drop 4, false⟩ := by
 have e := heap_alloc_new (w.alloc x) (.cells #[.slice (some ⟨b, o + 4, none⟩) (l.length - 4) (c - 4), .bool false] 140)
 have hz : (w.alloc x).heap.size = w.heap.size + 1 := by simp
 rw [hz] at e
 refine ⟨some ⟨b, o + 4, none⟩, c - 4, by simp; omega, by rw [e]; simp, fun hn => ?_⟩
 simp only [List.length_drop] at hn
 obtain ⟨b', o', e1, hb, hcell⟩ := h (by omega)
 obtain ⟨rfl, rfl⟩ : b = b' /\ o = o' := by simpa using e1
 refine ⟨b, o + 4, rfl, by omega, fun i hi => ?_⟩
 simp only [List.length_drop] at hi
 have h1 := hcell (4 + i) (by omega)
 rw [World.cell?_alloc_lt _ _ _ (by show b < _; omega), World.cell?_alloc_lt _ _ _ (by show b < _; omega), Nat.add_assoc, h1]
 simp only [List.getD_eq_getElem?_getD, List.getElem?_drop]
theorem PL_start {w W : World} {r : Rd} {f : Int} (hb : Below w.heap.size w W) (hres : W.heap[w.heap.size]? = some (.cells #[.slice none 0 0, .int .i64 0, .slice none 0 0] 58 (0, 0)))
 (hr : RdAt W (w.heap.size + 1) r) (hby : ∀ x ∈ r.rest, 0 <= x /\ x < 256) (hz : w.heap.size + 1 < W.heap.size) :
 PL w (W.alloc (.cells #[.slice none 0 0, .int .i64 f, .slice none 0 0] 58)) W.heap.size (W.heap.size + 1) r (.slice none 0 0) (.slice none 0 0) f [] [] :=
 ⟨hb.alloc (by omega) _, (Below.heap_alloc _ _ _ (by omega)).trans hres, hr.keep fun b hb' => Below.heap_alloc _ _ _ (by omega), hby, heap_alloc_new W _, hz, by omega, by simp, World.ownsRow_nil _ _ _ _, World.ownsRow_nil _ _ _ _⟩
theorem tys_len (r : Rd) : ∀ k, (tys k r).1.length = k
 | 0 => rfl
 | k + 1 => by
  show ((tys k r).1 ++ [_]).length = k + 1
  rw [List.length_append, tys_len r k]; rfl
theorem chs_len (r : Rd) : ∀ k, (chs k r).1.length <= k
 | 0 => Nat.le_refl _
 | k + 1 => by
  have := chs_len r k
  show (if _ then _ else _ : List Ch × Rd).1.length <= k + 1
  split
  ·omega
  ·rw [List.length_append]; simpa using this
theorem ty1_name (r : Rd) (h : ∀ x ∈ r.rest, 0 <= x /\ x < 256) : (ty1 r).1.name.size <= 255 := by
 show (strOfNums _).size <= 255
 rw [strOfNums_size, takeN_length]
 have h2 := numN_lt 1 (numN 1 (numN 4 r).2).2 (takeN_rest _ _ (takeN_rest _ _ h))
 omega
theorem ty1_rest (r : Rd) (h : ∀ x ∈ r.rest, 0 <= x /\ x < 256) : ∀ x ∈ (ty1 r).2.rest, 0 <= x /\ x < 256 := takeN_rest _ _ (takeN_rest _ _ (takeN_rest _ _ (takeN_rest _ _ h)))
theorem tys_rest (r : Rd) (h : ∀ x ∈ r.rest, 0 <= x /\ x < 256) : ∀ k, ∀ x ∈ (tys k r).2.rest, 0 <= x /\ x < 256
 | 0 => h
 | k + 1 => ty1_rest _ (tys_rest r h k)
theorem tys_names (r : Rd) (h : ∀ x ∈ r.rest, 0 <= x /\ x < 256) : ∀ k, ∀ x ∈ (tys k r).1, x.name.size <= 255
 | 0, x, hx => by cases hx
 | k + 1, x, hx => by
  have hx' : x ∈ (tys k r).1 ++ [(ty1 (tys k r).2).1] := hx
  rcases List.mem_append.1 hx' with hx | hx
  ·exact tys_names r h k x hx
  ·obtain rfl := List.mem_singleton.1 hx
   exact ty1_name _ (tys_rest r h k)
theorem number_at (R n : Nat) (r : Rd) (w : World) (N : Nat) (r' : Rd) (hq : numN n r = (N, r')) (hr : RdAt w R r) (hn : n <= 8) (hby : ∀ x ∈ r.rest, 0 <= x /\ x < 256) :
 Calls Tryz.prog 61 #[.pointer (some ⟨R, 0, none⟩), .int .i64 n] w fun e w' => e = .returned (.int .u64 N) /\ RdAt w' R r' /\ w.grownBy w' (some R) := by
 have := pkNumber_any R n r w hr hn hby
 rw [hq] at this
 exact this
theorem bytes_at (R n : Nat) (r : Rd) (w : World) (m : List Int) (r' : Rd) (hq : takeN n r = (m, r')) (hr : RdAt w R r) (hn : n <= 255) :
 Calls Tryz.prog 62 #[.pointer (some ⟨R, 0, none⟩), .int .i64 n] w fun e w' => ∃ A c, e = .returned (.slice A n c) /\ n <= c /\ BytesBelow w' w'.heap.size A n m /\ RdAt w' R r' /\ w.grownBy w' (some R) := by
 have := bytes_any R n r w hr hn
 rw [hq] at this
 exact this
theorem numN_q {n : Nat} {r : Rd} {N : Nat} {r' : Rd} (hq : numN n r = (N, r')) (h : ∀ x ∈ r.rest, 0 <= x /\ x < 256) : N < 256 ^ n /\ ∀ x ∈ r'.rest, 0 <= x /\ x < 256 := by
 have h1 := numN_lt n r h
 have h2 : ∀ x ∈ (numN n r).2.rest, 0 <= x /\ x < 256 := takeN_rest n r h
 rw [hq] at h1 h2
 exact ⟨h1, h2⟩
theorem takeN_q {n : Nat} {r : Rd} {m : List Int} {r' : Rd} (hq : takeN n r = (m, r')) (h : ∀ x ∈ r.rest, 0 <= x /\ x < 256) : m.length = n /\ ∀ x ∈ r'.rest, 0 <= x /\ x < 256 := by
 have h1 := takeN_length n r
 have h2 := takeN_rest n r h
 rw [hq] at h1 h2
 exact ⟨h1, h2⟩
theorem start_facts (w : World) (x y : Obj) {w1 : World} (hg : ((w.alloc x).alloc y).grownBy w1 (some (w.heap.size + 1))) :
 Below w.heap.size w w1 /\ w1.heap[w.heap.size]? = some x /\ w.heap.size + 1 < w1.heap.size := by
 have h1 : Below w.heap.size w ((w.alloc x).alloc y) := ((Below.refl _ _).alloc (Nat.le_refl _) _).alloc (by simp) _
 refine ⟨h1.trans (grown_R hg (by omega) (by simp; omega)), ?_, by have := hg.size; simp at this; omega⟩
 rw [hg.block _ (by simp; omega) (by simp), Below.heap_alloc _ _ _ (by simp)]
 exact heap_alloc_new w x
end Go.Proofs.YtomahddiclkepaaGreatDoor
