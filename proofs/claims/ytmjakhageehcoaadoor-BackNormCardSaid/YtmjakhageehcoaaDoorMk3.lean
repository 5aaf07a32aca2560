/- table.Begin; norm.Of: a table's normal form. -/
import Derived.Test.YtmjakhageehcoaaDoorMk2
namespace Go.Proofs.YtmjakhageehcoaaDoor
open Go.RowKit Go.Joins
open Classical
set_option linter.unusedVariables false
set_option linter.unusedSimpArgs false

theorem mk_begin (W0 : World) (x : Ty) (b0 : Nat) (hb : b0 ≤ W0.heap.size) :
    Mk ((W0.alloc (.cells #[.int .i64 x.off, .bool x.save, .string x.name] 45)).alloc (.cells #[.slice (some ⟨W0.heap.size, 0, none⟩) 1 1, .int .i64 0, .slice none 0 0, .int .i64 x.off, .bool x.save, .string x.name] 100))
      (W0.heap.size + 1) b0 (.slice (some ⟨W0.heap.size, 0, none⟩) 1 1) (.slice none 0 0) (begN x) := by
  refine ⟨?_, by omega, ⟨rfl, .inr ⟨W0.heap.size, 1, _, rfl, hb, (Below.heap_alloc _ _ _ (by simp)).trans (heap_alloc_new W0 _), Nat.le_refl _, by decide, rfl, rfl⟩⟩, World.ownsRow_nil _ _ _ _⟩
  have := heap_alloc_new (W0.alloc (.cells #[.int .i64 x.off, .bool x.save, .string x.name] 45)) (.cells #[.slice (some ⟨W0.heap.size, 0, none⟩) 1 1, .int .i64 0, .slice none 0 0, .int .i64 x.off, .bool x.save, .string x.name] 100)
  simpa [begN] using this

set_option maxHeartbeats 1000000 in
theorem Begin_any (x : Ty) (w : World) :
    Calls Tryd.prog 46 #[tyV x] w fun e w' => ∃ M sv cv, e = .returned (.pointer (some ⟨M, 0, none⟩)) ∧ Mk w' M w.heap.size sv cv (begN x) ∧ Below w.heap.size w w' := by
  go_enter Tryd.func46, Tryd.ntmps46
  go_wp2
  go_ret
  obtain ⟨W0, e0⟩ : ∃ W0, w.alloc (.cells #[.int .i64 x.off, .bool x.save, .string x.name] 45) = W0 := ⟨_, rfl⟩
  have hz0 : W0.heap.size = w.heap.size + 1 := by rw [← e0]; simp
  have hb0 : Below w.heap.size w W0 := by rw [← e0]; exact (Below.refl _ _).alloc (Nat.le_refl _) _
  have h := mk_begin W0 x w.heap.size (by omega)
  rw [hz0, ← e0] at h
  refine ⟨_, _, _, rfl, h, ?_⟩
  exact (((Below.refl _ _).alloc (Nat.le_refl _) _).alloc (by simp) _).alloc (by simp; omega) _

theorem abbr_sizeT (x : Ty) (h : abbrB x.name = true) : x.name.size ≤ 8 := by
  unfold abbrB allB at h
  simp only [Bool.and_eq_true, decide_eq_true_eq] at h
  omega
theorem end_cellsM {W : World} {g : Nat} {a b c : Value} {T : TypeId} (h : W.heap[g]? = some (.cells #[a, b, c] T (0, 0))) (x y z : Value) :
    ∃ W', ((W.setCell ⟨g, 0, none⟩ x).setCell ⟨g, 1, none⟩ y).setCell ⟨g, 2, none⟩ z = W' ∧ (∀ B, B ≤ g → Below B W W') ∧ W'.heap[g]? = some (.cells #[x, y, z] T (0, 0)) ∧ ∀ b, b ≠ g → W'.heap[b]? = W.heap[b]? := by
  refine ⟨_, rfl, fun B hB => (((Below.refl _ _).setCell (by exact hB) _).setCell (by exact hB) _).setCell (by exact hB) _, ?_, fun b hb => (Below.heap_setCell _ _ _ _ hb).trans ((Below.heap_setCell _ _ _ _ hb).trans (Below.heap_setCell _ _ _ _ hb))⟩
  rw [heap_setCm (i := 2) (heap_setCm (i := 1) (heap_setCm (i := 0) h x) y) z]
  rfl
theorem squ_len (l : List (Int × Ty)) (x : Ty) : (squ x l).length ≤ l.length := (squ_sub l x).length_le
theorem make_small (t : Tab) (ok : OkTab t) (k : Nat) : NSm (((resL t).take k).foldl stepN (begN (resH t))) := by
  have inv := makeN_inv ((resL t).take k) (begN (resH t)) (begN_inv (resH t))
  have hty : ∀ y ∈ (((resL t).take k).foldl stepN (begN (resH t))).types, y ∈ t.types := by
    intro y hy
    rcases makeN_types (x := resH t) ((resL t).take k) (begN (resH t)) y hy with h | ⟨c, hc, rfl⟩
    · simp only [begN, List.mem_singleton] at h
      subst h
      exact tyD_mem _ _ ok.first.1 ok.first.2
    · obtain ⟨d, hd, rfl⟩ := List.mem_map.1 (List.mem_of_mem_take hc)
      have := ok.ch d hd
      exact tyD_mem _ _ this.2.2.1 this.2.2.2
  have hlen : (((resL t).take k).foldl stepN (begN (resH t))).types.length ≤ t.types.length := length_sub _ _ inv.nodup hty
  have hch : (((resL t).take k).foldl stepN (begN (resH t))).chs.length ≤ t.chs.length := by
    have h := makeN_res ((resL t).take k) (begN (resH t)) (begN_inv (resH t))
    have h2 := congrArg List.length h
    unfold resS at h2
    simp only [List.length_map, List.length_append] at h2
    have h3 := squ_len ((resL t).take k) (begN (resH t)).last
    have h4 : ((resL t).take k).length ≤ t.chs.length := by simp [resL]; omega
    have h5 : (begN (resH t)).chs.length = 0 := rfl
    omega
  refine ⟨by have := ok.many; omega, by have := ok.chs; omega, inv.pos, fun y hy => ?_⟩
  have h := (ok.type y (hty y hy)).2.2
  have := abbr_sizeT y h
  unfold maxLen; omega

set_option maxRecDepth 100000 in
set_option maxHeartbeats 4000000 in
theorem NOf_any (t : Tab) (v : Value) (w : World) (hv : TabAt w v t) (ok : OkTab t) :
    Calls Tryd.prog 25 #[v] w fun e w' => ∃ v', e = .returned v' ∧ TabAt w' v' (normT t) ∧ Below w.heap.size w w' := by
  obtain ⟨sv, cv, rfl, ⟨⟨p, cap, rfl, hs⟩, hl1, hnm⟩, ⟨⟨p2, cap2, rfl, hc⟩, hl2⟩⟩ := hv.val
  obtain ⟨b, o, rfl, hb, hty⟩ := hs ok.ne
  have hmany := ok.many
  have hchs := ok.chs
  have hf0 := ok.first.1
  have hf1 := ok.first.2
  have hMS := Lib.hid (make_small t ok)
  have HCH := Lib.hid ok.ch
  have HTY := Lib.hid hty
  have HCC := Lib.hid hc
  -- the first type
  have hfn : t.first.toNat < t.types.length := by omega
  have hH : Hid (t.types[t.first.toNat] = resH t) := by show _ = _; unfold resH tyD; rw [List.getElem?_eq_getElem hfn]; rfl
  have a0 := (hty t.first.toNat hfn)
  obtain ⟨H, eH⟩ : ∃ H, resH t = H := ⟨_, rfl⟩
  have HEH := Lib.hid eH
  rw [hH.out, eH] at a0
  obtain ⟨a1, a2, a3⟩ := a0
  clear hs hc hty hnm ok hl1 hl2 eH
  go_enter Tryd.func25, Tryd.ntmps25
  go_wp2_with fail
  obtain ⟨W0, eW⟩ : ∃ W0, (w.alloc (.cells #[.slice (some ⟨b, o, none⟩) t.types.length cap, .int .i64 t.first, .slice p2 t.chs.length cap2] 25)).alloc (.cells #[.slice none 0 0, .int .i64 0, .slice none 0 0] 25) = W0 := ⟨_, rfl⟩
  rw [eW]
  have hW0 : W0.heap.size = w.heap.size + 2 := by rw [← eW]; simp
  have hbW : Below w.heap.size w W0 := by rw [← eW]; exact ((Below.refl _ _).alloc (Nat.le_refl _) _).alloc (by simp) _
  have hX : W0.heap[w.heap.size]? = some (.cells #[.slice (some ⟨b, o, none⟩) t.types.length cap, .int .i64 t.first, .slice p2 t.chs.length cap2] 25 (0, 0)) := by
    rw [← eW, Below.heap_alloc _ _ _ (by simp)]; exact heap_alloc_new w _
  have hR : W0.heap[w.heap.size + 1]? = some (.cells #[.slice none 0 0, .int .i64 0, .slice none 0 0] 25 (0, 0)) := by
    rw [← eW]
    have := heap_alloc_new (w.alloc (.cells #[.slice (some ⟨b, o, none⟩) t.types.length cap, .int .i64 t.first, .slice p2 t.chs.length cap2] 25)) (.cells #[.slice none 0 0, .int .i64 0, .slice none 0 0] 25)
    simpa using this
  have HX := Lib.hid hX
  have HR := Lib.hid hR
  have HBW := Lib.hid hbW
  clear eW hX hR hbW a1 a2 a3
  refine (Begin_any H W0).mono ?_
  rintro e w1 ⟨M, sv0, cv0, rfl, hmk, hb1⟩
  have HMK := Lib.hid hmk
  have HB1 := Lib.hid hb1
  have hX1 := (hb1.block w.heap.size (by omega)).trans HX.out
  have x1 : w1.cell? ⟨w.heap.size, 2, none⟩ = some (.slice p2 t.chs.length cap2) := (cell_of_row w1 _ 2 _ _ _ hX1).trans rfl
  have hw1 : W0.heap.size ≤ w1.heap.size := hb1.size
  clear hmk hb1 hX1
  go_wp2_with fail
  go_loopw [16] (fun i wr => ∃ (k : Nat) (sv cv : Value), k ≤ t.chs.length ∧ i = .int .i64 k ∧ Mk wr M W0.heap.size sv cv (((resL t).take k).foldl stepN (begN (resH t))) ∧ Below W0.heap.size w1 wr) (fun i _ => t.chs.length - (intOf i).toNat)
  case atStart => exact ⟨0, sv0, cv0, Nat.zero_le _, rfl, by rw [HEH.out]; exact HMK.out, Below.refl _ _⟩
  case round =>
    obtain ⟨k, sv, cv, hk, rfl, hmk, hbr⟩ := hrel
    have HMR := Lib.hid hmk
    have HBR := Lib.hid hbr
    have hwr : w1.heap.size ≤ wr.heap.size := hbr.size
    have hball := HBW.out.trans (((HB1.out.trans hbr)).mono (by omega))
    have HBA := Lib.hid hball
    have hXr : wr.heap[w.heap.size]? = _ := (((HB1.out.trans hbr).block w.heap.size (by omega))).trans HX.out
    have hRr : wr.heap[w.heap.size + 1]? = _ := (((HB1.out.trans hbr).block (w.heap.size + 1) (by omega))).trans HR.out
    have y0 : wr.cell? ⟨w.heap.size, 0, none⟩ = some (.slice (some ⟨b, o, none⟩) t.types.length cap) := (cell_of_row wr _ 0 _ _ _ hXr).trans rfl
    have HRR := Lib.hid hRr
    have hlt0 : w.heap.size < wr.heap.size := by omega
    clear hmk hbr hball hXr hRr x1
    by_cases hkL : k < t.chs.length
    · have hne : t.chs ≠ [] := by intro e; rw [e] at hkL; simp at hkL
      obtain ⟨cb, co, rfl, hcb, hat⟩ := HCC.out hne
      obtain ⟨c, ec⟩ : ∃ c, t.chs[k] = c := ⟨_, rfl⟩
      have h1 := (hat k hkL).below HBA.out hcb
      have hck := HCH.out c (by rw [← ec]; exact List.getElem_mem _)
      rw [ec] at h1
      obtain ⟨c0, c1⟩ := h1
      have hkn : c.k.toNat < t.types.length := by omega
      have h2 := (HTY.out c.k.toNat hkn).below HBA.out hb
      have hT : Hid (t.types[c.k.toNat] = tyD t.types c.k) := by show _ = _; unfold tyD; rw [List.getElem?_eq_getElem hkn]; rfl
      obtain ⟨y, ey⟩ : ∃ y, tyD t.types c.k = y := ⟨_, rfl⟩
      rw [hT.out, ey] at h2
      obtain ⟨d0, d1, d2⟩ := h2
      have hck1 := hck.2.2.1
      have hck2 := hck.2.2.2
      have HEC : Hid ((((resL t).take (k + 1)).foldl stepN (begN (resH t))) = stepN (((resL t).take k).foldl stepN (begN (resH t))) (c.t, y)) := by
        show _ = _
        have hkr : k < (resL t).length := by simp [resL]; exact hkL
        rw [List.take_succ_eq_append_getElem hkr, List.foldl_append]
        have : (resL t)[k] = (c.t, y) := by simp [resL, ec, ey]
        rw [this]; rfl
      have hcbl := World.block_lt_of_cell? _ _ c0
      have hbl := World.block_lt_of_cell? _ _ d0
      have hMS1 := Lib.hid (hMS.out k)
      generalize ((resL t).take k).foldl stepN (begN (resH t)) = st at HMR HEC hMS1
      have HMA := Lib.hid ((HMR.out.alloc (.cells #[.int .i64 c.t, .int .i64 c.k] 43)).keep (W' := (wr.alloc (.cells #[.int .i64 c.t, .int .i64 c.k] 43)).drew) fun b hb => rfl)
      clear hat hne hck ec ey hT hMS
      go_wp2_with fail
      go_region_law (first
        | (go_simp; go_at_call 47; refine (Change_any M W0.heap.size sv cv st c.t y _ HMA.out (by simp; omega) hMS1.out).mono ?_; rintro e w5 ⟨rfl, ⟨sv5, cv5, hm5⟩, hb5⟩; have HM5 := Lib.hid hm5; have HB5 := Lib.hid hb5))
      all_goals
        go_wp2
        go_roundw
        case rel => exact ⟨k + 1, sv5, cv5, by omega, by go_num, by rw [HEC.out]; exact HM5.out, HBR.out.trans ((((Below.refl W0.heap.size wr).alloc (by omega) _).drew).trans HB5.out)⟩
        case measure => simp [intOf]; omega
    · obtain rfl : k = t.chs.length := by omega
      have hall : (resL t).take t.chs.length = resL t := List.take_of_length_le (by simp [resL])
      rw [hall] at HMR
      have hms := hMS.out t.chs.length
      rw [hall] at hms
      have hN1 : ((resL t).foldl stepN (begN (resH t))).types = (normT t).types := rfl
      have hN2 : ((resL t).foldl stepN (begN (resH t))).chs = (normT t).chs := rfl
      have HMSS := Lib.hid hms
      obtain ⟨A1, c1, rfl⟩ := own_sliceN HMR.out.rowT
      obtain ⟨A2, c2, rfl⟩ := own_sliceN HMR.out.rowC
      obtain ⟨u0, u1, u2, -, -, -, -⟩ := mkCells HMR.out.blk
      rw [hN1] at u0
      rw [hN2] at u2
      have hMl := HMR.out.lt
      have g0 : wr.cell? ⟨w.heap.size + 1, 0, none⟩ = some (.slice none 0 0) := (cell_of_row wr _ 0 _ _ _ HRR.out).trans rfl
      have g1 : wr.cell? ⟨w.heap.size + 1, 1, none⟩ = some (.int .i64 0) := (cell_of_row wr _ 1 _ _ _ HRR.out).trans rfl
      have g2 : wr.cell? ⟨w.heap.size + 1, 2, none⟩ = some (.slice none 0 0) := (cell_of_row wr _ 2 _ _ _ HRR.out).trans rfl
      have z0 : wr.frozen? ⟨w.heap.size + 1, 0, none⟩ = false := by simp [World.frozen?, HRR.out]
      have z1 : wr.frozen? ⟨w.heap.size + 1, 1, none⟩ = false := by simp [World.frozen?, HRR.out]
      have z2 : wr.frozen? ⟨w.heap.size + 1, 2, none⟩ = false := by simp [World.frozen?, HRR.out]
      clear hN1 hN2 hms hall
      go_wp2
      obtain ⟨W9, e9, hB9, hh9, ho9⟩ := end_cellsM HRR.out (.slice A1 (normT t).types.length c1) (.int .i64 0) (.slice A2 (normT t).chs.length c2)
      rw [e9]
      have v0 : W9.cell? ⟨w.heap.size + 1, 0, none⟩ = some (.slice A1 (normT t).types.length c1) := (cell_of_row W9 _ 0 _ _ _ hh9).trans rfl
      have v1 : W9.cell? ⟨w.heap.size + 1, 1, none⟩ = some (.int .i64 0) := (cell_of_row W9 _ 1 _ _ _ hh9).trans rfl
      have v2 : W9.cell? ⟨w.heap.size + 1, 2, none⟩ = some (.slice A2 (normT t).chs.length c2) := (cell_of_row W9 _ 2 _ _ _ hh9).trans rfl
      refine bodyPost_ret (v := .agg #[.slice A1 (normT t).types.length c1, .int .i64 0, .slice A2 (normT t).chs.length c2]) (by simp [results, Tryd.results25, go_sem, v0, v1, v2]) rfl ⟨_, rfl, ⟨_, _, rfl, ?_, ?_⟩, HBA.out.trans (hB9 _ (by omega))⟩
      · exact own_types (l := (normT t).types) (own_keep HMR.out.rowT fun g e => ho9 g (by have := (World.ownsRow.lt HMR.out.rowT g e).1; omega)) (by have := HMSS.out.tl; exact Nat.le_trans this (by decide)) HMSS.out.nm
      · exact own_chs (l := (normT t).chs) (own_keep HMR.out.rowC fun g e => ho9 g (by have := (World.ownsRow.lt HMR.out.rowC g e).1; omega)) (by have := HMSS.out.cl; exact Nat.le_trans this (by decide))
end Go.Proofs.YtmjakhageehcoaaDoor
