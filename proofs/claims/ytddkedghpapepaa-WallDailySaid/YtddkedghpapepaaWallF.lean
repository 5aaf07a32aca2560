/- WallDaily: its walk. -/
import Derived.Test.YtddkedghpapepaaWallD
import Derived.Test.YtddkedghpapepaaNext
namespace Go.Proofs.Ytddkedghpapepaa
open Go.RowKit Go.Shelf
set_option linter.unusedVariables false
set_option linter.unusedSimpArgs false

abbrev tabD (off : Int) : Tab := ⟨[⟨off, false, ⟨#[65]⟩⟩], 0, []⟩
def nvD (off af sec : Int) : Int := af + 1 + (sec - (af + 1 + off) % 86400) % 86400

theorem tabD_chk (off l : Int) (h1 : -75600 ≤ off) (h2 : off ≤ 75600) (h5 : -100000000000 ≤ l) (h6 : l ≤ 100000000000) : chkW (tabD off) l = 0 := by
  rw [chkW_small _ _ (by omega) (by omega)]
  have a1 : abbrB ⟨#[65]⟩ = true := by decide
  have e1 : okOff off = true := by simp [okOff]; omega
  have e3 : okIdx 0 0 = true := by decide
  simp [chk, big, chkTypes, chkChs, before, a1, e1, e3]

theorem tabD_pc (off : Int) : pcAt (tabD off) 0 = ⟨-4611686018427387904, 4611686018427387903, off⟩ := by
  simp [pcAt, frAt, toAt, idAt, tyD]

theorem tabD_nval (off af sec : Int) (h1 : -75600 ≤ off) (h2 : off ≤ 75600) (h3 : -100000000000 ≤ af) (h4 : af ≤ 100000000000) : nval af sec (pcAt (tabD off) 0) = nvD off af sec := by
  rw [tabD_pc]
  have e1 : nfr af ⟨-4611686018427387904, 4611686018427387903, off⟩ = af + 1 := by unfold nfr; dsimp only; omega
  have e2 : wrap64 (af + 1 + off) = af + 1 + off := IntWalk.wrap64_in _ ⟨by omega, by omega⟩
  unfold nval nwt
  rw [e1]
  dsimp only
  rw [e2]
  exact IntWalk.wrap64_in _ ⟨by omega, by omega⟩

theorem Next_D (off af sec : Int) (v : Value) (w : World) (hv : TabAt w v (tabD off)) (h1 : -75600 ≤ off) (h2 : off ≤ 75600) (h3 : -100000000000 ≤ af) (h4 : af ≤ 100000000000) (hs1 : 0 ≤ sec) (hs2 : sec < 86400) :
    Calls Try.prog 20 #[v, .int .i64 af, .int .i64 sec] w fun e w' => e = .returned (.tuple #[.int .i64 (nvD off af sec), .int .i64 0]) ∧ Below w.heap.size w w' := by
  refine (Next_ok (tabD off) v af sec w hv (tabD_chk off af h1 h2 (by omega) (by omega)) hs1 hs2).mono ?_
  rintro e w' ⟨⟨k, hk, _, _, rfl⟩, hb⟩
  obtain rfl : k = 0 := Nat.le_zero.1 hk
  rw [tabD_nval off af sec h1 h2 h3 h4]
  exact ⟨rfl, hb⟩

theorem Long_D (off d : Int) (v : Value) (w : World) (hv : TabAt w v (tabD off)) (h1 : -75600 ≤ off) (h2 : off ≤ 75600) (h3 : -100000 ≤ d) (h4 : d ≤ 100000) :
    Calls Try.prog 21 #[v, .int .i64 d] w fun e w' => e = .returned (.tuple #[.int .i64 86400, .int .i64 0]) ∧ Below w.heap.size w w' := by
  have hc := (chkW_zero (tabD_chk off 0 h1 h2 (by omega) (by omega))).1
  refine (Long_ok (tabD off) v d w hv hc (by omega) (by omega)).mono ?_
  have e := lngT_eq (tabD off) (chk_ok _ hc) d (by omega) (by omega)
  unfold lngT at e
  rw [e]
  have e2 : giveAll (86400 * d) (86400 * (d + 1)) (uptoP (tabD off) ((tabD off).chs.length + 1)) = 86400 := by
    have e3 : uptoP (tabD off) ((tabD off).chs.length + 1) = [pcAt (tabD off) 0] := rfl
    rw [e3, tabD_pc]
    simp only [giveAll, List.map_cons, List.map_nil, List.sum_cons, List.sum_nil, give, seg]
    omega
  rw [e2]
  exact fun _ _ h => h

structure DMem (w1 W : World) (off : Int) : Prop where
  tab : TabAt W (.agg #[.slice (some ⟨w1.heap.size, 0, none⟩) 1 1, .int .i64 0, .slice none 0 0]) (tabD off)
  size : W.heap.size = w1.heap.size + 2
  c0 : W.cell? ⟨w1.heap.size + 1, 0, none⟩ = some (.slice (some ⟨w1.heap.size, 0, none⟩) 1 1)
  c1 : W.cell? ⟨w1.heap.size + 1, 1, none⟩ = some (.int .i64 0)
  c2 : W.cell? ⟨w1.heap.size + 1, 2, none⟩ = some (.slice none 0 0)
  below : Below w1.heap.size w1 W

theorem DMem.mk' (w1 : World) (off : Int) : DMem w1 ((w1.alloc (Obj.cells #[.int .i64 off, .bool false, .string ⟨#[65]⟩] 32)).alloc (Obj.cells #[.slice (some ⟨w1.heap.size, 0, none⟩) 1 1, .int .i64 0, .slice none 0 0] 25)) off := by
  obtain ⟨wa, ha⟩ : ∃ wa, w1.alloc (Obj.cells #[.int .i64 off, .bool false, .string ⟨#[65]⟩] 32) = wa := ⟨_, rfl⟩
  have na := World.alloc_heap_new w1 (Obj.cells #[.int .i64 off, .bool false, .string ⟨#[65]⟩] 32)
  have ba : Below w1.heap.size w1 wa := by rw [← ha]; exact (Below.refl _ _).alloc (Nat.le_refl _) _
  have sa : wa.heap.size = w1.heap.size + 1 := by rw [← ha]; simp
  rw [ha] at na ⊢
  obtain ⟨wb, hb⟩ : ∃ wb, wa.alloc (Obj.cells #[.slice (some ⟨w1.heap.size, 0, none⟩) 1 1, .int .i64 0, .slice none 0 0] 25) = wb := ⟨_, rfl⟩
  have nb := World.alloc_heap_new wa (Obj.cells #[.slice (some ⟨w1.heap.size, 0, none⟩) 1 1, .int .i64 0, .slice none 0 0] 25)
  have bb : Below wa.heap.size wa wb := by rw [← hb]; exact (Below.refl _ _).alloc (Nat.le_refl _) _
  have sb : wb.heap.size = w1.heap.size + 2 := by rw [← hb]; simp; omega
  rw [hb, sa] at nb
  rw [hb]
  obtain ⟨k0, k1, k2⟩ := cells3 nb
  have n0 := (bb.block w1.heap.size (by omega)).trans na
  refine ⟨⟨_, _, rfl, ⟨⟨_, 1, rfl, fun _ => ⟨_, _, rfl, by omega, fun i hi => ?_⟩⟩, by show 1 ≤ maxLen; decide, by intro x hx; simp only [List.mem_cons, List.not_mem_nil, or_false] at hx; subst hx; show 1 ≤ maxLen; decide⟩, ⟨⟨none, 0, rfl, fun h => absurd rfl h⟩, by show 0 ≤ maxLen; decide⟩⟩, sb, k0, k1, k2, ba.trans (bb.mono ba.size)⟩
  have : i < 1 := hi
  obtain rfl : i = 0 := by omega
  refine ⟨?_, ?_, ?_⟩ <;> simp [World.cell?, n0]

theorem DMem.step {w1 W W' : World} {off : Int} (h : DMem w1 W off) (hb : Below W.heap.size W W') : TabAt W' (.agg #[.slice (some ⟨w1.heap.size, 0, none⟩) 1 1, .int .i64 0, .slice none 0 0]) (tabD off) ∧
    W'.cell? ⟨w1.heap.size + 1, 0, none⟩ = some (.slice (some ⟨w1.heap.size, 0, none⟩) 1 1) ∧ W'.cell? ⟨w1.heap.size + 1, 1, none⟩ = some (.int .i64 0) ∧ W'.cell? ⟨w1.heap.size + 1, 2, none⟩ = some (.slice none 0 0) := by
  have hs := h.size
  exact ⟨h.tab.below hb, (hb.cell (p := ⟨w1.heap.size + 1, 0, none⟩) (by show w1.heap.size + 1 < _; omega)).trans h.c0, (hb.cell (p := ⟨w1.heap.size + 1, 1, none⟩) (by show w1.heap.size + 1 < _; omega)).trans h.c1, (hb.cell (p := ⟨w1.heap.size + 1, 2, none⟩) (by show w1.heap.size + 1 < _; omega)).trans h.c2⟩

theorem day_small (n : Int) (h1 : -2000000000 ≤ n) (h2 : n ≤ 2000000000) : -100000 ≤ n.tdiv 86400 ∧ n.tdiv 86400 ≤ 100000 := by
  have e3 : (n.tdiv 86400).natAbs = n.natAbs / (86400 : Int).natAbs := Int.natAbs_tdiv n 86400
  have e4 : n.natAbs / (86400 : Int).natAbs ≤ 2000000000 / 86400 := Nat.div_le_div_right (by omega)
  omega

set_option maxRecDepth 100000 in
set_option maxHeartbeats 8000000 in
theorem WallDaily_walk (a0 a1 a2 : Int) (w : World) :
    Calls Try.prog 7 #[.int .i64 a0, .int .i64 a1, .int .i64 a2] w fun e w' => e = .returned (.bool true) ∧ Below w.heap.size w w' := by
  have hx1 : (0 : Int) ≤ a0 % 151201 := by omega
  have hx2 : a0 % 151201 < 151201 := by omega
  have hy1 : (0 : Int) ≤ a1 % 4000000000 := by omega
  have hy2 : a1 % 4000000000 < 4000000000 := by omega
  have hz1 : (0 : Int) ≤ a2 % 86400 := by omega
  have hz2 : a2 % 86400 < 86400 := by omega
  go_enter Try.func7, Try.ntmps7
  go_wp2_with fail
  refine (walled_any _).mono ?_
  rintro e w1 ⟨rfl, hb1⟩
  go_wp2_with fail
  refine (Rest_any _ _ _ (by omega) (by omega)).mono ?_
  rintro e w' ⟨rfl, rfl⟩
  go_wp2_with fail
  refine (Rest_any _ _ _ (by omega) (by omega)).mono ?_
  rintro e w' ⟨rfl, rfl⟩
  go_wp2_with fail
  refine (Rest_any _ _ _ (by omega) (by omega)).mono ?_
  rintro e w' ⟨rfl, rfl⟩
  obtain ⟨O, eO⟩ : ∃ O, a0 % 151201 = O := ⟨_, rfl⟩
  obtain ⟨A, eA⟩ : ∃ A, a1 % 4000000000 = A := ⟨_, rfl⟩
  obtain ⟨S, eS⟩ : ∃ S, a2 % 86400 = S := ⟨_, rfl⟩
  rw [eO] at hx1 hx2 ⊢
  rw [eA] at hy1 hy2 ⊢
  rw [eS] at hz1 hz2 ⊢
  clear eO eA eS
  go_wp2_with fail
  have hm := DMem.mk' w1 (O - 75600)
  obtain ⟨W, hW⟩ : ∃ W, ((w1.alloc (Obj.cells #[.int .i64 (O - 75600), .bool false, .string ⟨#[65]⟩] 32)).alloc (Obj.cells #[.slice (some ⟨w1.heap.size, 0, none⟩) 1 1, .int .i64 0, .slice none 0 0] 25)) = W := ⟨_, rfl⟩
  rw [hW] at hm ⊢
  clear hW
  have hbW : Below w.heap.size w W := hb1.trans (hm.below.mono hb1.size)
  have HM := Lib.hid hm
  obtain ⟨ht0, c0, c1, c2⟩ := hm.step (Below.refl _ _)
  clear hm
  have hd := day_small (A - 2000000000) (by omega) (by omega)
  refine (Next_D (O - 75600) _ _ _ _ ht0 (by omega) (by omega) (by omega) (by omega) hz1 hz2).mono ?_
  have hv1 : A - 2000000000 + 1 ≤ nvD (O - 75600) (A - 2000000000) S ∧ nvD (O - 75600) (A - 2000000000) S ≤ A - 2000000000 + 86400 := by unfold nvD; omega
  have hv2 : nvD (O - 75600) (nvD (O - 75600) (A - 2000000000) S) S = nvD (O - 75600) (A - 2000000000) S + 86400 := by unfold nvD; omega
  obtain ⟨N, eN⟩ : ∃ N, nvD (O - 75600) (A - 2000000000) S = N := ⟨_, rfl⟩
  rw [eN] at hv1 hv2 ⊢
  have HV2 := Lib.hid hv2
  clear eN hv2
  rintro e w2 ⟨rfl, hb2⟩
  obtain ⟨ht2, d0, d1, d2⟩ := HM.out.step hb2
  go_wp2_with fail
  refine (Next_D (O - 75600) _ _ _ _ ht2 (by omega) (by omega) (by omega) (by omega) hz1 hz2).mono ?_
  rw [HV2.out]
  rintro e w3 ⟨rfl, hb3⟩
  have b3 := hb2.trans (hb3.mono hb2.size)
  obtain ⟨ht3, f0, f1, f2⟩ := HM.out.step b3
  go_wp2_with fail
  refine (Long_D (O - 75600) _ _ _ ht3 (by omega) (by omega) hd.1 hd.2).mono ?_
  rintro e w4 ⟨rfl, hb4⟩
  have b4 := b3.trans (hb4.mono b3.size)
  have HB4 := Lib.hid (hbW.trans (b4.mono hbW.size))
  clear b3 b4 hb2 hb3 hb4 ht0 ht2 ht3 c0 c1 c2 d0 d1 d2 f0 f1 f2
  go_wp2
  go_ret
  exact ⟨rfl, HB4.out⟩

end Go.Proofs.Ytddkedghpapepaa
