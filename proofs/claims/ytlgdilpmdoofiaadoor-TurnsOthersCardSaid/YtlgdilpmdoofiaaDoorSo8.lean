/- slices.SortStableFunc at the rules' nominal times: whole. -/
import Derived.Test.YtlgdilpmdoofiaaDoorSo7
namespace Go.Proofs.YtlgdilpmdoofiaaDoor
open Go.RowKit Go.Sort
set_option linter.unusedVariables false
set_option linter.unusedSimpArgs false

set_option maxRecDepth 100000 in
set_option maxHeartbeats 4000000 in
theorem stable_any (pt : Nat → Nat) (w0 : World) (blk cap n : Nat) (hsz : n ≤ 4000000) (d : Array El) (W : World) (hS : SoW pt w0 blk d W) (hn : d.size = n) (ht : ∀ p q, 0 ≤ p → p < q → q < n → d[p]!.2 < d[q]!.2) :
    Calls Tryd.prog 87 #[.slice (some ⟨blk, 0, none⟩) n cap, .int .i64 n, .func (.func 61) #[] #[]] W fun e w' => e = .returned (.tuple #[]) ∧ ∃ d', SoW pt w0 blk d' w' ∧ d'.size = n ∧ PermIn 0 n d d' ∧ SoIn 0 n d' := by
  have HS := Lib.hid hS
  have HT := Lib.hid ht
  have HI := Lib.hid (fun a b dk wr => insertion_any pt w0 blk cap a b dk wr)
  have HM := Lib.hid (fun a m b dk wr => symMerge_any pt w0 blk cap n hsz (b - a + 1) a m b dk wr (by omega))
  clear hS ht
  go_enter Tryd.func87, Tryd.ntmps87
  go_wp2_with fail
  go_loopg [7, 8] n (fun kx vi vj wr => ∃ (t a b : Nat) (dk : Array El), vi = .int .i64 a ∧ vj = .int .i64 b ∧ a ≤ t * 20 ∧ t * 20 ≤ a ∧ b ≤ a + 20 ∧ a + 20 ≤ b ∧ a ≤ n ∧ n - a ≤ kx ∧ dk.size = n ∧ Hid (SoW pt w0 blk dk wr) ∧ Hid (PermIn 0 n d dk) ∧ Hid (BlkR 20 0 a n dk) ∧ Hid (∀ p q, a ≤ p → p < q → q < n → dk[p]!.2 < dk[q]!.2))
  case atStart => exact ⟨0, 0, 20, d, rfl, rfl, by omega, by omega, by omega, by omega, Nat.zero_le _, by omega, hn, HS, Lib.hid (permIn_refl _ _ _), Lib.hid (fun k hk => by omega), HT⟩
  case round =>
    obtain ⟨t, a, b, dk, rfl, rfl, t1, t2, b1, b2, han, hk, hsk, HW, HP, HB, HG⟩ := hrel
    by_cases hlt : b ≤ n
    · have hc := HI.out a b dk wr HW.out (by omega) (by omega) (by omega)
      rw [hsk] at hc
      have HC := Lib.hid hc
      clear hc
      go_wp2_with (first | (go_at_call 112; refine HC.out.mono ?_; rintro e w' ⟨rfl, hS1, hz1⟩; have HQ := Lib.hid (And.intro hS1 hz1); clear hS1 hz1))
      go_roundg (n - b)
      case measure => omega
      case rel =>
        have g := ins_so a b dk (by omega) (by omega) (fun p q h1 h2 h3 => HG.out p q h1 h2 (by omega))
        have g2 := blk_ins (n := n) hsk.symm (by omega) (by omega) t (by omega) (Or.inl (by omega)) HB.out HG.out g.1 g.2
        exact ⟨t + 1, b, b + 20, _, rfl, by go_num, by omega, by omega, by omega, by omega, hlt, Nat.le_refl _, HQ.out.2, Lib.hid HQ.out.1, Lib.hid (permIn_trans _ _ _ _ _ HP.out (permIn_mono _ _ _ _ _ _ (Nat.zero_le _) hlt (by omega) g.1)), Lib.hid g2.1, Lib.hid g2.2⟩
    · have hc := HI.out a n dk wr HW.out (by omega) (by omega) (by omega)
      rw [hsk] at hc
      have HC := Lib.hid hc
      have g := ins_so a n dk (by omega) (by omega) (fun p q h1 h2 h3 => HG.out p q h1 h2 (by omega))
      have g2 := blk_ins (n := n) hsk.symm (by omega) (Nat.le_refl _) t (by omega) (Or.inr ⟨rfl, by omega⟩) HB.out HG.out g.1 g.2
      have hp1 := permIn_trans _ _ _ _ _ HP.out (permIn_mono _ _ _ _ _ _ (Nat.zero_le _) (Nat.le_refl _) (by omega) g.1)
      obtain ⟨d1, e1⟩ : ∃ d1, insertionSort elK dk a n = d1 := ⟨_, rfl⟩
      rw [e1] at HC hp1 g2
      have HP1 := Lib.hid hp1
      have HB1 := Lib.hid g2.1
      clear hc g g2 hp1 e1 HP HB HG HW
      go_wp2_with (first | (go_at_call 112; refine HC.out.mono ?_; rintro e w' ⟨rfl, hS1, hz1⟩; have HQ := Lib.hid (And.intro hS1 hz1); clear hS1 hz1))
      clear HC
      go_loopg [6] n (fun kx vb wr2 => ∃ (bs : Nat) (dk : Array El), vb = .int .i64 bs ∧ 20 ≤ bs ∧ n - bs ≤ kx ∧ dk.size = n ∧ Hid (SoW pt w0 blk dk wr2) ∧ Hid (PermIn 0 n d dk) ∧ Hid (BlkR bs 0 n n dk))
      case atStart => exact ⟨20, d1, rfl, Nat.le_refl _, by omega, HQ.out.2, Lib.hid HQ.out.1, HP1, HB1⟩
      case round =>
        obtain ⟨bs, dk, rfl, hbs, hk2, hsk2, HW, HP, HB⟩ := hrel
        by_cases hbn : bs < n
        · go_wp2_with fail
          go_loopg [7, 8] n (fun kx vi vj wr3 => ∃ (t a b : Nat) (dk : Array El), vi = .int .i64 a ∧ vj = .int .i64 b ∧ Hid (a = t * (2 * bs)) ∧ b ≤ a + 2 * bs ∧ a + 2 * bs ≤ b ∧ a ≤ n ∧ n - a ≤ kx ∧ dk.size = n ∧ Hid (SoW pt w0 blk dk wr3) ∧ Hid (PermIn 0 n d dk) ∧ Hid (BlkR (2 * bs) 0 a n dk) ∧ Hid (BlkR bs a n n dk))
          case atStart => exact ⟨0, 0, 2 * bs, dk, rfl, by go_num, Lib.hid (by simp), by omega, by omega, Nat.zero_le _, by omega, hsk2, HW, HP, Lib.hid (fun k hk => by omega), HB⟩
          case round =>
            obtain ⟨t, a2, b2, dk2, rfl, rfl, ta, c1, c2, ha2, hk3, hsk3, HW3, HP3, HB3, HR3⟩ := hrel
            by_cases hb2 : b2 ≤ n
            · have hz : 0 < 2 * bs := by omega
              obtain ⟨g1, g2, g3⟩ := blk_two (bs := bs) (n := n) (a := a2) (d := dk2) (by omega) HR3.out
              have emin : min (a2 + 2 * bs) n = b2 := by omega
              rw [emin] at g2 g3
              have hr := HM.out a2 (a2 + bs) b2 dk2 wr HW3.out hsk3 (by omega) (by omega) hb2 g1 g2 g3
              rw [show ((a2 + bs : Nat) : Int) = (a2 : Int) + (bs : Int) from by omega] at hr
              have HC := Lib.hid hr
              clear hr g1 g2 g3 emin
              go_wp2_with (first | (go_at_call 113; refine HC.out.mono ?_; rintro e w' ⟨rfl, d', hS1, hz1, hp1, hs1⟩; have HQ2 := Lib.hid (And.intro hS1 (And.intro hz1 (And.intro hp1 hs1))); clear hS1 hz1 hp1 hs1))
              go_roundg (n - b2)
              case measure => omega
              case rel =>
                obtain ⟨hS1, hz1, hp1, hs1⟩ := HQ2.out
                have g := blk_merge (n := n) (t := t) (b := b2) hsk3.symm (by omega) ta.out (by omega) (by omega) HB3.out HR3.out hp1 hs1
                exact ⟨t + 1, b2, b2 + 2 * bs, d', rfl, by go_num, Lib.hid (by have := ta.out; rw [Nat.add_mul, Nat.one_mul]; omega), by omega, by omega, hb2, Nat.le_refl _, hz1, Lib.hid hS1, Lib.hid (permIn_trans _ _ _ _ _ HP3.out (permIn_mono _ _ _ _ _ _ (Nat.zero_le _) hb2 (by omega) hp1)), Lib.hid g.1, Lib.hid g.2⟩
            · by_cases hm : a2 + bs < n
              · obtain ⟨g1, g2, g3⟩ := blk_two (bs := bs) (n := n) (a := a2) (d := dk2) hm HR3.out
                have emin : min (a2 + 2 * bs) n = n := by omega
                rw [emin] at g2 g3
                have hr := HM.out a2 (a2 + bs) n dk2 wr HW3.out hsk3 (by omega) hm (Nat.le_refl _) g1 g2 g3
                rw [show ((a2 + bs : Nat) : Int) = (a2 : Int) + (bs : Int) from by omega] at hr
                have HC := Lib.hid hr
                have hz : (a2 : Int) + (bs : Int) < (n : Int) := by omega
                clear hr g1 g2 g3 emin
                go_wp2_with (first | (go_at_call 113; refine HC.out.mono ?_; rintro e w' ⟨rfl, d', hS1, hz1, hp1, hs1⟩; have HQ2 := Lib.hid (And.intro hS1 (And.intro hz1 (And.intro hp1 hs1))); clear hS1 hz1 hp1 hs1))
                go_roundg (n - 2 * bs)
                case measure => omega
                case rel =>
                  obtain ⟨hS1, hz1, hp1, hs1⟩ := HQ2.out
                  have g := blk_merge (n := n) (t := t) (b := n) hsk3.symm (by omega) ta.out (by omega) ha2 HB3.out HR3.out hp1 hs1
                  exact ⟨2 * bs, d', by go_num, by omega, Nat.le_refl _, hz1, Lib.hid hS1, Lib.hid (permIn_trans _ _ _ _ _ HP3.out (permIn_mono _ _ _ _ _ _ (Nat.zero_le _) (Nat.le_refl _) (by omega) hp1)), Lib.hid g.1⟩
              · have hz : ¬ (a2 : Int) + (bs : Int) < (n : Int) := by omega
                go_wp2_with fail
                go_roundg (n - 2 * bs)
                case measure => omega
                case rel =>
                  have g := blk_last (n := n) (t := t) (by omega) ta.out ha2 (by omega) HB3.out HR3.out
                  exact ⟨2 * bs, dk2, by go_num, by omega, Nat.le_refl _, hsk3, HW3, HP3, Lib.hid g⟩
        · go_wp2_with fail
          go_end0
          exact ⟨rfl, dk, HW.out, hsk2, HP.out, blk_end HB.out (by omega)⟩

set_option maxHeartbeats 1000000 in
theorem SortStable_any (pt : Nat → Nat) (w0 : World) (blk cap n : Nat) (hsz : n ≤ 4000000) (d : Array El) (W : World) (hS : SoW pt w0 blk d W) (hn : d.size = n) (ht : ∀ p q, 0 ≤ p → p < q → q < n → d[p]!.2 < d[q]!.2) :
    Calls Tryd.prog 60 #[.slice (some ⟨blk, 0, none⟩) n cap, .func (.func 61) #[] #[]] W fun e w' => e = .returned (.tuple #[]) ∧ ∃ d', SoW pt w0 blk d' w' ∧ d'.size = n ∧ PermIn 0 n d d' ∧ SoIn 0 n d' := by
  have HC := Lib.hid (stable_any pt w0 blk cap n hsz d W hS hn ht)
  clear hS ht hn
  go_enter Tryd.func60, Tryd.ntmps60
  go_wp2_with (first | (go_at_call 87; refine HC.out.mono ?_; rintro e w' ⟨rfl, d', hq⟩; have HQ := Lib.hid hq; clear hq))
  go_end0
  exact ⟨rfl, d', HQ.out⟩
end Go.Proofs.YtlgdilpmdoofiaaDoor
