/- slices.SortStableFunc at the rules' nominal times: symMerge. -/
import Derived.Test.YtlgdilpmdoofiaaDoorSo6c
namespace Go.Proofs.YtlgdilpmdoofiaaDoor
open Go.RowKit Go.Sort
set_option linter.unusedVariables false
set_option linter.unusedSimpArgs false

set_option maxRecDepth 100000 in
set_option maxHeartbeats 8000000 in
theorem symM3 (pt : Nat → Nat) (w0 : World) (blk cap a m b : Nat) (d : Array El) (W : World) (hS : SoW pt w0 blk d W) (hsz : d.size ≤ 4000000) (ham : a + 1 < m) (hmb : m + 1 < b) (hb : b ≤ d.size) (hs1 : SoIn a m d) (hs2 : SoIn m b d) (ht : TagLt a m b d)
    (ih : ∀ (a' m' b' : Nat) (d' : Array El) (W' : World), b' - a' < b - a → SoW pt w0 blk d' W' → d'.size = d.size → a' < m' → m' < b' → b' ≤ d.size → SoIn a' m' d' → SoIn m' b' d' → TagLt a' m' b' d' →
      Calls Tryd.prog 113 #[.slice (some ⟨blk, 0, none⟩) d.size cap, .int .i64 a', .int .i64 m', .int .i64 b', .func (.func 61) #[] #[]] W' fun e w' => e = .returned (.tuple #[]) ∧ ∃ d'', SoW pt w0 blk d'' w' ∧ d''.size = d.size ∧ PermIn a' b' d' d'' ∧ SoIn a' b' d'') :
    Calls Tryd.prog 113 #[.slice (some ⟨blk, 0, none⟩) d.size cap, .int .i64 a, .int .i64 m, .int .i64 b, .func (.func 61) #[] #[]] W fun e w' => e = .returned (.tuple #[]) ∧
      ∃ d', SoW pt w0 blk d' w' ∧ d'.size = d.size ∧ PermIn a b d d' ∧ SoIn a b d' := by
  have HS := Lib.hid hS
  have mixed := mixedO
  have HCM := Lib.hid cmp_grow
  have HS1 := Lib.hid hs1
  have HS2 := Lib.hid hs2
  have HT := Lib.hid ht
  have IH := Lib.hid ih
  obtain ⟨mid, n, lo, r0, P, hf⟩ := symF_mk a m b (by omega) (by omega)
  have HF := Lib.hid hf
  have hz : ((m : Int) - (a : Int) == 1) = false := by simp; omega
  have hz1 : ¬ (m : Int) - (a : Int) = 1 := by omega
  have hz2 : ((b : Int) - (m : Int) == 1) = false := by simp; omega
  have hz3 : ¬ (b : Int) - (m : Int) = 1 := by omega
  have q1 : 2 * mid ≤ a + b := hf.m1
  have q2 : a + b ≤ 2 * mid + 1 := hf.m2
  have q3 : n ≤ mid + m := by have := hf.n1; omega
  have q4 : mid + m ≤ n := by have := hf.n1; omega
  clear hS hs1 hs2 ht ih hf
  go_enter Tryd.func113, Tryd.ntmps113
  go_upto_if 140 with fail
  go_cut [18, 19, 20, 21] (fun s18 s19 s20 s21 wx => s18 = .int .i64 mid ∧ s19 = .int .i64 n ∧ s20 = .int .i64 lo ∧ s21 = .int .i64 r0 ∧ wx = W)
  case first =>
    have emid : Hid (((a : Int) + (b : Int)) / 2 = (mid : Int)) := by show _ = _; omega
    go_wp2_with fail
    all_goals go_meet
    all_goals
      rw [emid.out]
      have hc := HF.out.c
      have e := emid.out
      refine ⟨rfl, ?_, ?_, ?_, rfl⟩
      · congr 1; omega
      · congr 1; omega
      · congr 1; omega
  case rest =>
    obtain ⟨rfl, rfl, rfl, rfl, rfl⟩ := hcut
    go_upto_region 32 with fail
    have ep : Hid ((n : Int) - 1 = (P : Int)) := by show _ = _; have := HF.out.p1; omega
    go_cut [22] (fun s22 wx => s22 = .int .i64 P ∧ wx = wc)
    case first =>
      go_wp2_with fail
      go_meet
      exact ⟨by rw [← ep.out], rfl⟩
    case rest =>
      obtain ⟨rfl, rfl⟩ := hcut
      go_wp2_with fail
      go_loopg [20, 21] (r0 - lo) (fun kx vi vj wr => ∃ (s r : Nat), vi = .int .i64 s ∧ vj = .int .i64 r ∧ lo ≤ s ∧ s ≤ r ∧ r ≤ r0 ∧ r - s ≤ kx ∧ Hid (SoW pt w0 blk d wr) ∧ Hid ((∀ q, lo ≤ q → q < s → ¬ d[P - q]!.1 < d[q]!.1) ∧ (∀ q, r ≤ q → q < r0 → d[P - q]!.1 < d[q]!.1)))
      case atStart => exact ⟨lo, r0, rfl, rfl, Nat.le_refl _, by have := HF.out.c; omega, Nat.le_refl _, Nat.le_refl _, HS, Lib.hid ⟨fun q q1 q2 => by omega, fun q q1 q2 => by omega⟩⟩
      case round =>
        obtain ⟨s, r, rfl, rfl, hls, hsr, hr0, hk, HW, HI⟩ := hrel
        by_cases hlt : s < r
        · obtain ⟨c, ec⟩ : ∃ c, (s + r) / 2 = c := ⟨_, rfl⟩
          have hb1 : a ≤ c ∧ c < m ∧ m ≤ P - c ∧ P - c < b ∧ c ≤ P := by
            obtain ⟨_, _, _, _, h5⟩ := HF.out
            omega
          obtain ⟨hb1, hb2, hb3, hb4, hb5⟩ := hb1
          have h1 : s ≤ c := by omega
          have h2 : c < r := by omega
          obtain ⟨u, eu⟩ : ∃ u, P - c = u := ⟨_, rfl⟩
          have HM := Lib.hid (sym_mono HF.out (by omega) (by omega) HS1.out HS2.out c (by omega) (by omega))
          rw [eu] at HM hb3 hb4
          have zc : (((s : Int) + (r : Int)) / 2).toNat = c := by omega
          have pc : (0 : Int) ≤ ((s : Int) + (r : Int)) / 2 := by omega
          have bc : ((s : Int) + (r : Int)) / 2 < (d.size : Int) := by omega
          have zu : ((P : Int) - ((s : Int) + (r : Int)) / 2).toNat = u := by omega
          have pu : (0 : Int) ≤ (P : Int) - ((s : Int) + (r : Int)) / 2 := by omega
          have pu2 : ((s : Int) + (r : Int)) / 2 ≤ (P : Int) := by omega
          have bu2 : (P : Int) < (d.size : Int) + ((s : Int) + (r : Int)) / 2 := by omega
          have bu : (P : Int) - ((s : Int) + (r : Int)) / 2 < (d.size : Int) := by omega
          have wu : IntKind.i64.wrap ((P : Int) - ((s : Int) + (r : Int)) / 2) = (P : Int) - ((s : Int) + (r : Int)) / 2 := by rw [IntKind.wrap_i64]; omega
          have EC : Hid (((s : Int) + (r : Int)) / 2 = (c : Int)) := by show _ = _; omega
          have g1 := HW.out.kG c (by omega)
          have g2 := HW.out.pG c (by omega)
          have g3 := HW.out.kG u (by omega)
          have g4 := HW.out.pG u (by omega)
          obtain ⟨x, ex⟩ : ∃ x, d[c]! = x := ⟨_, rfl⟩
          obtain ⟨y, ey⟩ : ∃ x, d[u]! = x := ⟨_, rfl⟩
          rw [ex] at g1 g2 HM
          rw [ey] at g3 g4 HM
          clear ex ey ec eu
          by_cases hlv : cmpI y.1 x.1 < 0
          · have hd : decide (cmpI y.1 x.1 < 0) = true := decide_eq_true hlv
            go_wp2_with fail
            go_quiet_grown (first | (go_at_call 61; refine Calls.grown_of (HCM.out _ _ _ _ _)))
            clear g1 g2 g3 g4
            go_wp2_with fail
            go_roundg (c - s)
            case measure => omega
            case rel =>
              have hq : y.1 < x.1 := (cmpI_neg y.1 x.1).1 hlv
              exact ⟨s, c, rfl, by rw [EC.out], hls, by omega, by omega, Nat.le_refl _, Lib.hid (HW.out.grown nq osq), Lib.hid ⟨HI.out.1, HM.out.2 hq⟩⟩
          · have hd : decide (cmpI y.1 x.1 < 0) = false := decide_eq_false hlv
            go_wp2_with fail
            go_quiet_grown (first | (go_at_call 61; refine Calls.grown_of (HCM.out _ _ _ _ _)))
            clear g1 g2 g3 g4
            go_wp2_with fail
            go_roundg (r - (c + 1))
            case measure => omega
            case rel =>
              have hq : ¬ y.1 < x.1 := fun h' => by have := (cmpI_neg y.1 x.1).2 h'; omega
              exact ⟨c + 1, r, by rw [EC.out]; go_num, rfl, by omega, by omega, hr0, Nat.le_refl _, Lib.hid (HW.out.grown nq osq), Lib.hid ⟨HM.out.1 (by omega), HI.out.2⟩⟩
        · obtain rfl : r = s := by omega
          obtain ⟨em, hsp⟩ := sym_split HF.out (by omega) (by omega) hls hr0 HI.out.1 HI.out.2
          obtain ⟨E, eE⟩ : ∃ E, mid + m - r = E := ⟨_, rfl⟩
          have HH := Lib.hid (fun (d1 : Array El) (hr : RotIs r m E d d1) => split_halves em eE.symm hsp HS1.out HS2.out HT.out hr)
          have k1 := hsp.s1; have k2 := hsp.s2; have k3 := hsp.s3; have k4 := hsp.s4
          rw [← em] at k3 k4
          have zE : Hid ((n : Int) - (r : Int) = (E : Int)) := by show _ = _; omega
          have E1 : E + r = mid + m := by omega
          have E2 : E ≤ b := by omega
          have E3 : mid ≤ E := by omega
          clear em hsp eE
          go_upto_region 38 with fail
          go_cut [24] (fun s24 wx => s24 = .int .i64 E ∧ wx = wr)
          case first =>
            go_wp2_with fail
            go_meet
            exact ⟨by rw [← zE.out], rfl⟩
          case rest =>
          obtain ⟨rfl, rfl⟩ := hcut
          go_step
          have M1 : a < mid := by omega
          have M2 : mid < b := by omega
          exact symT1 pt w0 blk cap a m b mid r E d _ hsz ham hmb hb k1 k2 k3 (by omega) (by omega) E2 E3 M1 M2 IH.out HW.out HH.out _ _ _ _ _ _ _ _ _ _ _ _ _ _ _ _ _ _ _ _ _ _ _ _ _ _ _ _ _ _ _ _ _ _ _ _ _ _ _ _ _ _ _ _ _ _ _ _ _ _ _ _ _ _ _ _ _ _ _ _ _ _ _ _ _ _ _ _ _ _ _ _ _ _ _ _ _ _ _ _ _ _ _ _ _ _ _ _ _ _ _ _ _ _ _ _ _ _ _ _ _ _ _ _ _ _ _ _ _ _ _ _ _ _ _ _ _ _ _ _ _ _ _ _ _ _ _ _ _ _ _ _ _ _ _ _ _ _ _ _ _ _ _ _ _ _ _ _ _ _ _ _ _ _ _ _ _ _ _ _ _ _ _ _ _ _ _ _ _ _ _ _ _ _ _ _ _ _ _ _ _ _ _ _ _ _ _ _ _ _ _ _ _ _ _ _ _ _ _ _ _ _ _ _ _ _ _ _ _ _ _ _

theorem symMerge_any (pt : Nat → Nat) (w0 : World) (blk cap n : Nat) (hsz : n ≤ 4000000) : ∀ (N a m b : Nat) (d : Array El) (W : World), b - a < N → SoW pt w0 blk d W → d.size = n → a < m → m < b → b ≤ n → SoIn a m d → SoIn m b d → TagLt a m b d →
    Calls Tryd.prog 113 #[.slice (some ⟨blk, 0, none⟩) n cap, .int .i64 a, .int .i64 m, .int .i64 b, .func (.func 61) #[] #[]] W fun e w' => e = .returned (.tuple #[]) ∧ ∃ d', SoW pt w0 blk d' w' ∧ d'.size = n ∧ PermIn a b d d' ∧ SoIn a b d'
  | 0, a, m, b, d, W, h, _, _, _, _, _, _, _, _ => absurd h (Nat.not_lt_zero _)
  | N + 1, a, m, b, d, W, h, hS, hn, ham, hmb, hb, hs1, hs2, ht => by
    subst hn
    by_cases e1 : m = a + 1
    · subst e1
      exact symM1 pt w0 blk cap a b d W hS hsz hmb hb hs2 ht
    · by_cases e2 : b = m + 1
      · subst e2
        exact symM2 pt w0 blk cap a m d W hS hsz (by omega) hb hs1 ht
      · exact symM3 pt w0 blk cap a m b d W hS hsz (by omega) (by omega) hb hs1 hs2 ht (fun a' m' b' d' W' hlt hS' hn' h1 h2 h3 h4 h5 h6 => symMerge_any pt w0 blk cap d.size hsz N a' m' b' d' W' (by omega) hS' hn' h1 h2 h3 h4 h5 h6)
end Go.Proofs.YtlgdilpmdoofiaaDoor
