/- BetweenThree: the closure. -/
import Derived.Test.YteoliifghhlinaaN2
import Derived.Deep.DeepCutAuto
import Derived.Handy
namespace Go.Proofs.Yteoliifghhlinaa
open Go.RowKit Go.Joins
open Classical
set_option linter.unusedVariables false
set_option linter.unusedSimpArgs false

def inC (X : Int) (c : Ch) : Bool := decide (c.t ≤ X ∧ X < c.k)
theorem outB_facts (a b : Tab) (f t : Int) (hft : f ≤ t) (oka : OkTab a) (okb : OkTab b) :
    (∀ c ∈ spL (outB a b f t), f ≤ c.t ∧ c.t < c.k ∧ c.k ≤ t) ∧ (spL (outB a b f t)).Pairwise (fun c d => c.k < d.t) ∧ ∀ y, f ≤ y → y < t → (spL (outB a b f t)).any (inC y) = !eqB a b y := by
  have h := outB_inv a b f t hft oka okb
  refine ⟨fun c hc => ?_, ?_, fun y h1 h2 => ?_⟩
  · obtain ⟨p, hp, rfl⟩ := List.mem_map.1 hc
    exact h.proper p hp
  · unfold spL
    rw [List.pairwise_map]
    exact h.apart
  · have hc := h.cover y h1 h2
    rw [Bool.eq_iff_iff]
    simp only [List.any_eq_true, spL, List.mem_map, inC, decide_eq_true_eq, Bool.not_eq_true']
    rw [← hc]
    constructor
    · rintro ⟨c, ⟨p, hp, rfl⟩, h3⟩
      exact ⟨p, hp, h3⟩
    · rintro ⟨p, hp, h3⟩
      exact ⟨_, ⟨p, hp, rfl⟩, h3⟩
theorem any_take (M : List Ch) (X : Int) (k : Nat) (hk : k < M.length) : (M.take (k + 1)).any (inC X) = ((M.take k).any (inC X) || inC X M[k]) := by
  rw [List.take_succ_eq_append_getElem hk, List.any_append]
  simp
theorem any_at {M : List Ch} {X : Int} {k : Nat} (hk : k < M.length) (h : inC X M[k] = true) : M.any (inC X) = true := List.any_eq_true.2 ⟨_, List.getElem_mem hk, h⟩

set_option maxRecDepth 100000 in
set_option maxHeartbeats 4000000 in
theorem inside_any (a b : Tab) (va vb : Value) (P Q X : Int) (S A : Nat) (w : World) (hv : TabAt w va a) (hu : TabAt w vb b) (ha : chk a = 0) (hb : chk b = 0) (hok : okSpan P Q = true) (hP : P ≤ X) (hQ : X < Q)
    (hS : w.heap[S]? = some (.cells #[.int .i64 P, .int .i64 Q] 29 (0, 0))) (hA : w.heap[A]? = some (.cells #[.int .i64 X] 3 (0, 0))) :
    Calls Try.prog 13 #[va, vb, .pointer (some ⟨S, 0, none⟩), .pointer (some ⟨A, 0, none⟩)] w fun e w' => e = .returned (.bool (!decide (tyOf a X = tyOf b X))) ∧ Below w.heap.size w w' := by
  obtain ⟨p1, c1, p2, c2, rfl⟩ := tabForms hv
  obtain ⟨p3, c3, p4, c4, rfl⟩ := tabForms hu
  obtain ⟨W0, eW⟩ : ∃ W0, (w.alloc (.cells #[.slice p1 a.types.length c1, .int .i64 a.first, .slice p2 a.chs.length c2] 25)).alloc (.cells #[.slice p3 b.types.length c3, .int .i64 b.first, .slice p4 b.chs.length c4] 25) = W0 := ⟨_, rfl⟩
  obtain ⟨hX, hY, hB⟩ := box_two eW hv hu
  have lS := (Array.getElem?_eq_some_iff.mp hS).1
  have lA := (Array.getElem?_eq_some_iff.mp hA).1
  have hS0 := (hB.block S lS).trans hS
  have hA0 := (hB.block A lA).trans hA
  have hsz : w.heap.size + 2 = W0.heap.size := by rw [← eW]; simp
  obtain ⟨x0, x1, x2⟩ := hX.cells
  obtain ⟨y0, y1, y2⟩ := hY.cells
  have hl1 := hX.lt
  have hl2 := hY.lt
  have s0 : W0.cell? ⟨S, 0, none⟩ = some (.int .i64 P) := (cell_of_row W0 _ 0 _ _ _ hS0).trans rfl
  have s1 : W0.cell? ⟨S, 1, none⟩ = some (.int .i64 Q) := (cell_of_row W0 _ 1 _ _ _ hS0).trans rfl
  have hlS : S < W0.heap.size := by omega
  have hlA : A < W0.heap.size := by omega
  have HA0 := Lib.hid hA0
  have HLA := Lib.hid hlA
  have HBW := Lib.hid hB
  have oka := chk_ok a ha
  have okb := chk_ok b hb
  have hPQ : P ≤ Q := by omega
  have HBT := Lib.hid (Between_ok a b _ _ P Q W0 hX.2 hY.2 ha hb hok)
  obtain ⟨hm1, hm2, hm3⟩ := outB_facts a b P Q hPQ oka okb
  have hlen := outB_len a b P Q oka okb
  have hsl2 := spL_len (outB a b P Q)
  have HOS1 := Lib.hid (fun (W : World) (B : Nat) (v : Value) (h : W.ownsRow B 29 2 v (outB a b P Q).length (spCells (outB a b P Q))) => own_sp h (Nat.le_trans hlen (by decide)))
  have h3 := hm3 X hP hQ
  have hml : (spL (outB a b P Q)).length ≤ 2002 := by omega
  unfold eqB at h3
  rw [← h3]
  obtain ⟨L, eL⟩ : ∃ L, outB a b P Q = L := ⟨_, rfl⟩
  rw [eL] at HBT hml ⊢
  simp only [eL] at HOS1
  obtain ⟨M, eM⟩ : ∃ M, spL L = M := ⟨_, rfl⟩
  rw [eM] at hml ⊢
  simp only [eM] at HOS1
  have HEW := Lib.hid eW
  clear hv hu ha hb hok hX hY hB lS lA hS hA hS0 hA0 hsz oka okb hPQ hm1 hm2 hm3 hlen hsl2 h3 eL eM eW hP hQ
  go_enter Try.func13, Try.ntmps13
  go_upto_region 1 with fail
  rw [HEW.out]
  go_wp2_with fail
  refine HBT.out.mono ?_
  rintro e w3 ⟨vo, rfl, hvo, hb3⟩
  have hso := HOS1.out _ _ _ hvo
  obtain ⟨pl, kl, rfl, hat⟩ := hso.shape
  have HAT := Lib.hid hat
  have HB3 := Lib.hid hb3
  have HA3 := Lib.hid ((hb3.block A HLA.out).trans HA0.out)
  clear hb3 hvo hso hat x0 x1 x2 y0 y1 y2 s0 s1 hl1 hl2 hlS
  go_wp2_with fail
  go_loopw [20] (fun s20 wr => ∃ k : Nat, k ≤ M.length ∧ s20 = .int .i64 k ∧ (M.take k).any (inC X) = false ∧ Below w3.heap.size w3 wr) (fun s20 _ => M.length - (intOf s20).toNat)
  case atStart => exact ⟨0, Nat.zero_le _, rfl, rfl, Below.refl _ _⟩
  case round =>
    obtain ⟨k, hk, rfl, hno, hbr⟩ := hrel
    have HBR := Lib.hid hbr
    have HNO := Lib.hid hno
    have hA := (hbr.block A (Nat.lt_of_lt_of_le HLA.out HB3.out.size)).trans HA3.out
    have a0 : wr.cell? ⟨A, 0, none⟩ = some (.int .i64 X) := (cell_of_row wr _ 0 _ _ _ hA).trans rfl
    have hlA2 : A < wr.heap.size := (Array.getElem?_eq_some_iff.mp hA).1
    clear hA hno
    by_cases hkL : k < M.length
    · obtain ⟨cb, co, rfl, hcb, hcat⟩ := HAT.out (by intro e; rw [e] at hkL; simp at hkL)
      have h1 := (hcat k hkL).below hbr hcb
      have hIN := any_take M X k hkL
      have HONE := Lib.hid (fun h => any_at (X := X) hkL h)
      obtain ⟨c, ec⟩ : ∃ c, M[k] = c := ⟨_, rfl⟩
      rw [ec] at h1 hIN HONE
      obtain ⟨g0, g1⟩ := h1
      rw [HNO.out, Bool.false_or] at hIN
      have HIN := Lib.hid hIN
      have hcw : cb < wr.heap.size := World.block_lt_of_cell? _ _ g0
      clear hIN ec hcat hcb hbr
      by_cases q1 : c.t ≤ X
      · by_cases q2 : X < c.k
        · have hic : inC X c = true := by unfold inC; exact decide_eq_true ⟨q1, q2⟩
          have hR := Lib.hid (HONE.out hic)
          go_wp2
          go_ret
          exact ⟨ret_bool' hR.out.symm, HBW.out.trans ((HB3.out.trans ((HBR.out.alloc HBR.out.size _).mono HB3.out.size)).mono HBW.out.size)⟩
        · have hic : inC X c = false := by unfold inC; exact decide_eq_false (fun h => q2 h.2)
          go_wp2
          go_roundw
          case rel => exact ⟨k + 1, hkL, by go_num, by rw [HIN.out, hic], HBR.out.alloc HBR.out.size _⟩
          case measure => simp [intOf]; omega
      · have hic : inC X c = false := by unfold inC; exact decide_eq_false (fun h => q1 h.1)
        go_wp2
        go_roundw
        case rel => exact ⟨k + 1, hkL, by go_num, by rw [HIN.out, hic], HBR.out.alloc HBR.out.size _⟩
        case measure => simp [intOf]; omega
    · obtain rfl : k = M.length := by omega
      have hno := HNO.out
      rw [List.take_length] at hno
      have HNN := Lib.hid hno
      clear hno
      go_wp2
      go_ret
      exact ⟨ret_bool' HNN.out.symm, HBW.out.trans ((HB3.out.trans (HBR.out.mono HB3.out.size)).mono HBW.out.size)⟩
end Go.Proofs.Yteoliifghhlinaa
