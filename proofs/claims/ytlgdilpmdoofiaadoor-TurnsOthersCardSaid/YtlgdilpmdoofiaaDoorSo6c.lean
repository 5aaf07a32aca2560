/- slices.SortStableFunc at the rules' nominal times: symMerge. -/
import Derived.Test.YtlgdilpmdoofiaaDoorSo6b
namespace Go.Proofs.YtlgdilpmdoofiaaDoor
open Go.RowKit Go.Sort
set_option linter.unusedVariables false
set_option linter.unusedSimpArgs false

set_option maxRecDepth 1000000 in
set_option maxHeartbeats 8000000 in
theorem symT1 (pt : Nat → Nat) (w0 : World) (blk cap a m b mid r E : Nat) (d : Array El) (wr : World) (hsz : d.size ≤ 4000000) (ham : a + 1 < m) (hmb : m + 1 < b) (hb : b ≤ d.size) (k1 : a ≤ r) (k2 : r ≤ m) (k3 : r ≤ mid) (E1 : E + r ≤ mid + m) (E1p : mid + m ≤ E + r) (E2 : E ≤ b) (E3 : mid ≤ E) (M1 : a < mid) (M2 : mid < b) (hih : SymIH pt w0 blk cap a b d.size) (hW : SoW pt w0 blk d wr) (hH : ∀ (d1 : Array El), RotIs r m E d d1 → Halves a mid b r E d1)
    (u5 u6 u7 u8 u9 u10 u11 u12 u13 u14 u15 u16 u17 u19 u21 u22 u23 u25 u26 u27 u28 u29 u30 u31 u32 u33 u34 u35 u36 u37 u38 u39 u40 u41 u42 u43 u44 u45 u46 u47 u48 u49 u50 u51 u52 u53 u54 u55 u56 u57 u58 u59 u60 u61 u62 u63 u64 u65 u66 u67 u68 u69 u70 u71 u72 u73 u74 u75 u76 u77 u78 u79 u80 u81 u82 u83 u84 u85 u86 u87 u88 u89 u90 u91 u92 u93 u94 u95 u96 u97 u98 u99 u100 u101 u102 u103 u104 u105 u106 u107 u108 u109 u110 u111 u112 u113 u114 u115 u116 u117 u118 u119 u120 u121 u122 u123 u124 u125 u126 u127 u128 u129 u130 u131 u132 u133 u134 u135 u136 u137 u138 u139 u140 u141 u142 u143 u144 u145 u146 u147 u148 u149 u150 u151 u152 u153 u154 u155 u156 u157 u158 u159 u160 u161 u162 u163 u164 u165 u166 u167 u168 u169 u170 u171 u172 u173 u174 u175 u176 u177 u178 u179 u180 u181 u182 u183 u184 u185 u186 u187 u188 u189 u190 u191 u192 u193 u194 u195 u196 u197 u198 u199 u200 u201 u202 u203 u204 u205 u206 u207 u208 u209 u210 u211 u212 u213 u214 u215 u216 u217 u218 u219 : Value) :
    Code.wp Tryd.prog symE1 (bodyPost Tryd.prog Tryd.f113 fun e w' => e = .returned (.tuple #[]) ∧ ∃ d', SoW pt w0 blk d' w' ∧ d'.size = d.size ∧ PermIn a b d d' ∧ SoIn a b d') ⟨List.toArray ((.slice (some ⟨blk, 0, none⟩) d.size cap) :: (.int .i64 a) :: (.int .i64 m) :: (.int .i64 b) :: (.func (.func 61) #[] #[]) :: u5 :: u6 :: u7 :: u8 :: u9 :: u10 :: u11 :: u12 :: u13 :: u14 :: u15 :: u16 :: u17 :: (.int .i64 mid) :: u19 :: (.int .i64 r) :: u21 :: u22 :: u23 :: (.int .i64 E) :: u25 :: u26 :: u27 :: u28 :: u29 :: u30 :: u31 :: u32 :: u33 :: u34 :: u35 :: u36 :: u37 :: u38 :: u39 :: u40 :: u41 :: u42 :: u43 :: u44 :: u45 :: u46 :: u47 :: u48 :: u49 :: u50 :: u51 :: u52 :: u53 :: u54 :: u55 :: u56 :: u57 :: u58 :: u59 :: u60 :: u61 :: u62 :: u63 :: u64 :: u65 :: u66 :: u67 :: u68 :: u69 :: u70 :: u71 :: u72 :: u73 :: u74 :: u75 :: u76 :: u77 :: u78 :: u79 :: u80 :: u81 :: u82 :: u83 :: u84 :: u85 :: u86 :: u87 :: u88 :: u89 :: u90 :: u91 :: u92 :: u93 :: u94 :: u95 :: u96 :: u97 :: u98 :: u99 :: u100 :: u101 :: u102 :: u103 :: u104 :: u105 :: u106 :: u107 :: u108 :: u109 :: u110 :: u111 :: u112 :: u113 :: u114 :: u115 :: u116 :: u117 :: u118 :: u119 :: u120 :: u121 :: u122 :: u123 :: u124 :: u125 :: u126 :: u127 :: u128 :: u129 :: u130 :: u131 :: u132 :: u133 :: u134 :: u135 :: u136 :: u137 :: u138 :: u139 :: u140 :: u141 :: u142 :: u143 :: u144 :: u145 :: u146 :: u147 :: u148 :: u149 :: u150 :: u151 :: u152 :: u153 :: u154 :: u155 :: u156 :: u157 :: u158 :: u159 :: u160 :: u161 :: u162 :: u163 :: u164 :: u165 :: u166 :: u167 :: u168 :: u169 :: u170 :: u171 :: u172 :: u173 :: u174 :: u175 :: u176 :: u177 :: u178 :: u179 :: u180 :: u181 :: u182 :: u183 :: u184 :: u185 :: u186 :: u187 :: u188 :: u189 :: u190 :: u191 :: u192 :: u193 :: u194 :: u195 :: u196 :: u197 :: u198 :: u199 :: u200 :: u201 :: u202 :: u203 :: u204 :: u205 :: u206 :: u207 :: u208 :: u209 :: u210 :: u211 :: u212 :: u213 :: u214 :: u215 :: u216 :: u217 :: u218 :: u219 :: []), []⟩ wr := by
  have HW := Lib.hid hW
  have HH := Lib.hid hH
  have IH := Lib.hid hih
  clear hW hH hih
  conv => arg 2; whnf
  go_upto_region 39 with fail
  go_cut [185] (fun sx wx => sx = .bool (decide (r < m ∧ m < E)) ∧ wx = wr)
  case first =>
    by_cases d1 : r < m
    · have z1 : (r : Int) < (m : Int) := by omega
      by_cases d2 : m < E
      · have z2 : (m : Int) < (E : Int) := by omega
        go_wp2_with fail
        go_meet
        exact ⟨by simp [d1, d2], rfl⟩
      · have z2 : ¬ (m : Int) < (E : Int) := by omega
        go_wp2_with fail
        go_meet
        exact ⟨by simp [d1, d2], rfl⟩
    · have z1 : ¬ (r : Int) < (m : Int) := by omega
      go_wp2_with fail
      go_meet
      exact ⟨by simp [d1], rfl⟩
  case rest =>
  obtain ⟨rfl, rfl⟩ := hcut
  go_upto_if 185 with fail
  go_cut [24] (fun s24 wx => s24 = .int .i64 E ∧ ∃ d1, Hid (SoW pt w0 blk d1 wx ∧ d1.size = d.size ∧ PermIn a b d d1 ∧ RotIs r m E d d1))
  case first =>
    by_cases dd : r < m ∧ m < E
    · have hr := rotate_any pt w0 blk cap r m E d wc HW.out hsz dd.1 dd.2 (by omega)
      have HR := Lib.hid hr
      clear hr
      have zd : decide (r < m ∧ m < E) = true := decide_eq_true dd
      rw [zd]
      clear zd
      go_wp2_with (first | (go_at_call 125; refine HR.out.mono ?_; rintro e w' ⟨rfl, d1, hS1, hz1, hp1, hr1⟩; have HQ := Lib.hid (And.intro hS1 (And.intro hz1 (And.intro hp1 hr1))); clear hS1 hz1 hp1 hr1))
      go_meet
      obtain ⟨hS1, hz1, hp1, hr1⟩ := HQ.out
      exact ⟨rfl, d1, Lib.hid ⟨hS1, hz1, permIn_mono _ _ _ _ _ _ (by omega) (by omega) (by omega) hp1, hr1⟩⟩
    · have zd : decide (r < m ∧ m < E) = false := decide_eq_false dd
      rw [zd]
      clear zd
      go_wp2_with fail
      go_meet
      refine ⟨rfl, d, Lib.hid ⟨HW.out, rfl, permIn_refl _ _ _, ?_⟩⟩
      by_cases e1 : r = m
      · rw [e1]; exact rot_left m E d (by omega)
      · rw [show E = m from by omega]; exact rot_right r m d (by omega)
  case rest =>
  obtain ⟨rfl, d1, H1⟩ := hcut
  go_step
  exact symT2 pt w0 blk cap a m b mid r E d d1 _ hsz ham hmb hb k1 k2 k3 E1 E1p E2 E3 M1 M2 IH.out ⟨H1.out.1, H1.out.2.1, H1.out.2.2.1⟩ (HH.out d1 H1.out.2.2.2) _ _ _ _ _ _ _ _ _ _ _ _ _ _ _ _ _ _ _ _ _ _ _ _ _ _ _ _ _ _ _ _ _ _ _ _ _ _ _ _ _ _ _ _ _ _ _ _ _ _ _ _ _ _ _ _ _ _ _ _ _ _ _ _ _ _ _ _ _ _ _ _ _ _ _ _ _ _ _ _ _ _ _ _ _ _ _ _ _ _ _ _ _ _ _ _ _ _ _ _ _ _ _ _ _ _ _ _ _ _ _ _ _ _ _ _ _ _ _ _ _ _ _ _ _ _ _ _ _ _ _ _ _ _ _ _ _ _ _ _ _ _ _ _ _ _ _ _ _ _ _ _ _ _ _ _ _ _ _ _ _ _ _ _ _ _ _ _ _ _ _ _ _ _ _ _ _ _ _ _ _ _ _ _ _ _ _ _ _ _ _ _ _ _ _ _ _ _ _ _ _ _ _ _ _ _ _ _ _ _ _ _
end Go.Proofs.YtlgdilpmdoofiaaDoor
