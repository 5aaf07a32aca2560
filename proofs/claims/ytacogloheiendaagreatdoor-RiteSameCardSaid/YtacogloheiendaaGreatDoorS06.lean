/- slices.SortStableFunc at the rules' nominal times: symMerge. slices.SortStableFunc at the rules' nominal times: symMerge. slices.SortStableFunc at the rules' nominal times: symMerge. slices.SortStableFunc at the rules' nominal times: whole. turns: what Make makes: the plain mathematics. turns: a rule's day in a year. turns.Make: the list of a rule's moments in memory. turns.Make: sums and lists over a prefix of the rules. turns.Make: the loops over rules and years. turns.Make: the sorted list of moments, in plain terms and in memory. turns: what Make and Of answer, in plain words; rows of turns. -/
import Derived.Test.YtacogloheiendaaGreatDoorS05
import Derived.Test.YtacogloheiendaaGreatDoorS04
import Derived.Test.YtacogloheiendaaGreatDoorS01
import Derived.OwnWalk
import Derived.Test.YtacogloheiendaaGreatDoorS03
import Derived.Deep.AppendLies
import Derived.Laws.AppendOwn
import Derived.Laws.StructEq
namespace Go.Proofs.YtacogloheiendaaGreatDoor
open Go.RowKit Go.Sort
set_option linter.unusedVariables false
set_option linter.unusedSimpArgs false

set_option maxRecDepth 1000000 in
set_option maxHeartbeats 8000000 in
theorem symT2 (pt : Nat → Nat) (w0 : World) (blk cap a m b mid r E : Nat) (d d1 : Array El) (wr : World) (hsz : d.size ≤ 4000000) (ham : a + 1 < m) (hmb : m + 1 < b) (hb : b ≤ d.size) (k1 : a ≤ r) (k2 : r ≤ m) (k3 : r ≤ mid) (E1 : E + r ≤ mid + m) (E1p : mid + m ≤ E + r) (E2 : E ≤ b) (E3 : mid ≤ E) (M1 : a < mid) (M2 : mid < b) (hih : SymIH pt w0 blk cap a b d.size) (h1 : SoW pt w0 blk d1 wr ∧ d1.size = d.size ∧ PermIn a b d d1) (hv : Halves a mid b r E d1)
    (u5 u6 u7 u8 u9 u10 u11 u12 u13 u14 u15 u16 u17 u19 u21 u22 u23 u25 u26 u27 u28 u29 u30 u31 u32 u33 u34 u35 u36 u37 u38 u39 u40 u41 u42 u43 u44 u45 u46 u47 u48 u49 u50 u51 u52 u53 u54 u55 u56 u57 u58 u59 u60 u61 u62 u63 u64 u65 u66 u67 u68 u69 u70 u71 u72 u73 u74 u75 u76 u77 u78 u79 u80 u81 u82 u83 u84 u85 u86 u87 u88 u89 u90 u91 u92 u93 u94 u95 u96 u97 u98 u99 u100 u101 u102 u103 u104 u105 u106 u107 u108 u109 u110 u111 u112 u113 u114 u115 u116 u117 u118 u119 u120 u121 u122 u123 u124 u125 u126 u127 u128 u129 u130 u131 u132 u133 u134 u135 u136 u137 u138 u139 u140 u141 u142 u143 u144 u145 u146 u147 u148 u149 u150 u151 u152 u153 u154 u155 u156 u157 u158 u159 u160 u161 u162 u163 u164 u165 u166 u167 u168 u169 u170 u171 u172 u173 u174 u175 u176 u177 u178 u179 u180 u181 u182 u183 u184 u185 u186 u187 u188 u189 u190 u191 u192 u193 u194 u195 u196 u197 u198 u199 u200 u201 u202 u203 u204 u205 u206 u207 u208 u209 u210 u211 u212 u213 u214 u215 u216 u217 u218 u219 : Value) :
    Code.wp Tryz.prog symE2 (bodyPost Tryz.prog Tryz.f108 fun e w' => e = .returned (.tuple #[]) ∧ ∃ d', SoW pt w0 blk d' w' ∧ d'.size = d.size ∧ PermIn a b d d' ∧ SoIn a b d') ⟨List.toArray ((.slice (some ⟨blk, 0, none⟩) d.size cap) :: (.int .i64 a) :: (.int .i64 m) :: (.int .i64 b) :: (.func (.func 77) #[] #[]) :: u5 :: u6 :: u7 :: u8 :: u9 :: u10 :: u11 :: u12 :: u13 :: u14 :: u15 :: u16 :: u17 :: (.int .i64 mid) :: u19 :: (.int .i64 r) :: u21 :: u22 :: u23 :: (.int .i64 E) :: u25 :: u26 :: u27 :: u28 :: u29 :: u30 :: u31 :: u32 :: u33 :: u34 :: u35 :: u36 :: u37 :: u38 :: u39 :: u40 :: u41 :: u42 :: u43 :: u44 :: u45 :: u46 :: u47 :: u48 :: u49 :: u50 :: u51 :: u52 :: u53 :: u54 :: u55 :: u56 :: u57 :: u58 :: u59 :: u60 :: u61 :: u62 :: u63 :: u64 :: u65 :: u66 :: u67 :: u68 :: u69 :: u70 :: u71 :: u72 :: u73 :: u74 :: u75 :: u76 :: u77 :: u78 :: u79 :: u80 :: u81 :: u82 :: u83 :: u84 :: u85 :: u86 :: u87 :: u88 :: u89 :: u90 :: u91 :: u92 :: u93 :: u94 :: u95 :: u96 :: u97 :: u98 :: u99 :: u100 :: u101 :: u102 :: u103 :: u104 :: u105 :: u106 :: u107 :: u108 :: u109 :: u110 :: u111 :: u112 :: u113 :: u114 :: u115 :: u116 :: u117 :: u118 :: u119 :: u120 :: u121 :: u122 :: u123 :: u124 :: u125 :: u126 :: u127 :: u128 :: u129 :: u130 :: u131 :: u132 :: u133 :: u134 :: u135 :: u136 :: u137 :: u138 :: u139 :: u140 :: u141 :: u142 :: u143 :: u144 :: u145 :: u146 :: u147 :: u148 :: u149 :: u150 :: u151 :: u152 :: u153 :: u154 :: u155 :: u156 :: u157 :: u158 :: u159 :: u160 :: u161 :: u162 :: u163 :: u164 :: u165 :: u166 :: u167 :: u168 :: u169 :: u170 :: u171 :: u172 :: u173 :: u174 :: u175 :: u176 :: u177 :: u178 :: u179 :: u180 :: u181 :: u182 :: u183 :: u184 :: u185 :: u186 :: u187 :: u188 :: u189 :: u190 :: u191 :: u192 :: u193 :: u194 :: u195 :: u196 :: u197 :: u198 :: u199 :: u200 :: u201 :: u202 :: u203 :: u204 :: u205 :: u206 :: u207 :: u208 :: u209 :: u210 :: u211 :: u212 :: u213 :: u214 :: u215 :: u216 :: u217 :: u218 :: u219 :: []), []⟩ wr := by
  have IH := Lib.hid hih
  have H1 := Lib.hid h1
  have HV := Lib.hid hv
  clear h1 hv hih
  conv => arg 2; whnf
  go_upto_region 41 with fail
  go_cut [199] (fun sx wx => sx = .bool (decide (a < r ∧ r < mid)) ∧ wx = wr)
  case first =>
    by_cases d1 : a < r
    · have z1 : (a : Int) < (r : Int) := by omega
      by_cases d2 : r < mid
      · have z2 : (r : Int) < (mid : Int) := by omega
        go_wp2_with fail
        go_meet
        exact ⟨by simp [d1, d2], rfl⟩
      · have z2 : ¬ (r : Int) < (mid : Int) := by omega
        go_wp2_with fail
        go_meet
        exact ⟨by simp [d1, d2], rfl⟩
    · have z1 : ¬ (a : Int) < (r : Int) := by omega
      go_wp2_with fail
      go_meet
      exact ⟨by simp [d1], rfl⟩
  case rest =>
  obtain ⟨rfl, rfl⟩ := hcut
  go_upto_if 199 with fail
  go_cut [24] (fun s24 wx => s24 = .int .i64 E ∧ ∃ d2, Hid (SoW pt w0 blk d2 wx ∧ d2.size = d.size ∧ PermIn a mid d1 d2 ∧ SoIn a mid d2))
  case first =>
    by_cases dd : a < r ∧ r < mid
    · have hr := IH.out a r mid d1 wc (by omega) H1.out.1 H1.out.2.1 dd.1 dd.2 (by omega) HV.out.l1 HV.out.l2 HV.out.lt
      have HR := Lib.hid hr
      clear hr
      have zd : decide (a < r ∧ r < mid) = true := decide_eq_true dd
      rw [zd]
      clear zd
      go_wp2_with (first | (go_at_call 108; refine HR.out.mono ?_; rintro e w' ⟨rfl, d2, hS1, hz1, hp1, hr1⟩; have HQ := Lib.hid (And.intro hS1 (And.intro hz1 (And.intro hp1 hr1))); clear hS1 hz1 hp1 hr1))
      go_meet
      exact ⟨rfl, d2, HQ⟩
    · have zd : decide (a < r ∧ r < mid) = false := decide_eq_false dd
      rw [zd]
      clear zd
      go_wp2_with fail
      go_meet
      refine ⟨rfl, d1, Lib.hid ⟨H1.out.1, H1.out.2.1, permIn_refl _ _ _, ?_⟩⟩
      by_cases e1 : a = r
      · have := HV.out.l2; rwa [← e1] at this
      · have := HV.out.l1; rwa [show r = mid from by omega] at this
  case rest =>
  obtain ⟨rfl, d2, H2⟩ := hcut
  go_step
  exact symT3 pt w0 blk cap a m b mid r E d d1 d2 _ hsz ham hmb hb k1 k2 k3 E1 E1p E2 E3 M1 M2 IH.out ⟨H1.out.2.1, H1.out.2.2⟩ HV.out H2.out _ _ _ _ _ _ _ _ _ _ _ _ _ _ _ _ _ _ _ _ _ _ _ _ _ _ _ _ _ _ _ _ _ _ _ _ _ _ _ _ _ _ _ _ _ _ _ _ _ _ _ _ _ _ _ _ _ _ _ _ _ _ _ _ _ _ _ _ _ _ _ _ _ _ _ _ _ _ _ _ _ _ _ _ _ _ _ _ _ _ _ _ _ _ _ _ _ _ _ _ _ _ _ _ _ _ _ _ _ _ _ _ _ _ _ _ _ _ _ _ _ _ _ _ _ _ _ _ _ _ _ _ _ _ _ _ _ _ _ _ _ _ _ _ _ _ _ _ _ _ _ _ _ _ _ _ _ _ _ _ _ _ _ _ _ _ _ _ _ _ _ _ _ _ _ _ _ _ _ _ _ _ _ _ _ _ _ _ _ _ _ _ _ _ _ _ _ _ _ _ _ _ _ _ _ _ _ _ _ _ _ _
end Go.Proofs.YtacogloheiendaaGreatDoor
namespace Go.Proofs.YtacogloheiendaaGreatDoor
open Go.RowKit Go.Sort
set_option linter.unusedVariables false
set_option linter.unusedSimpArgs false

set_option maxRecDepth 1000000 in
set_option maxHeartbeats 8000000 in
theorem symT1 (pt : Nat → Nat) (w0 : World) (blk cap a m b mid r E : Nat) (d : Array El) (wr : World) (hsz : d.size ≤ 4000000) (ham : a + 1 < m) (hmb : m + 1 < b) (hb : b ≤ d.size) (k1 : a ≤ r) (k2 : r ≤ m) (k3 : r ≤ mid) (E1 : E + r ≤ mid + m) (E1p : mid + m ≤ E + r) (E2 : E ≤ b) (E3 : mid ≤ E) (M1 : a < mid) (M2 : mid < b) (hih : SymIH pt w0 blk cap a b d.size) (hW : SoW pt w0 blk d wr) (hH : ∀ (d1 : Array El), RotIs r m E d d1 → Halves a mid b r E d1)
    (u5 u6 u7 u8 u9 u10 u11 u12 u13 u14 u15 u16 u17 u19 u21 u22 u23 u25 u26 u27 u28 u29 u30 u31 u32 u33 u34 u35 u36 u37 u38 u39 u40 u41 u42 u43 u44 u45 u46 u47 u48 u49 u50 u51 u52 u53 u54 u55 u56 u57 u58 u59 u60 u61 u62 u63 u64 u65 u66 u67 u68 u69 u70 u71 u72 u73 u74 u75 u76 u77 u78 u79 u80 u81 u82 u83 u84 u85 u86 u87 u88 u89 u90 u91 u92 u93 u94 u95 u96 u97 u98 u99 u100 u101 u102 u103 u104 u105 u106 u107 u108 u109 u110 u111 u112 u113 u114 u115 u116 u117 u118 u119 u120 u121 u122 u123 u124 u125 u126 u127 u128 u129 u130 u131 u132 u133 u134 u135 u136 u137 u138 u139 u140 u141 u142 u143 u144 u145 u146 u147 u148 u149 u150 u151 u152 u153 u154 u155 u156 u157 u158 u159 u160 u161 u162 u163 u164 u165 u166 u167 u168 u169 u170 u171 u172 u173 u174 u175 u176 u177 u178 u179 u180 u181 u182 u183 u184 u185 u186 u187 u188 u189 u190 u191 u192 u193 u194 u195 u196 u197 u198 u199 u200 u201 u202 u203 u204 u205 u206 u207 u208 u209 u210 u211 u212 u213 u214 u215 u216 u217 u218 u219 : Value) :
    Code.wp Tryz.prog symE1 (bodyPost Tryz.prog Tryz.f108 fun e w' => e = .returned (.tuple #[]) ∧ ∃ d', SoW pt w0 blk d' w' ∧ d'.size = d.size ∧ PermIn a b d d' ∧ SoIn a b d') ⟨List.toArray ((.slice (some ⟨blk, 0, none⟩) d.size cap) :: (.int .i64 a) :: (.int .i64 m) :: (.int .i64 b) :: (.func (.func 77) #[] #[]) :: u5 :: u6 :: u7 :: u8 :: u9 :: u10 :: u11 :: u12 :: u13 :: u14 :: u15 :: u16 :: u17 :: (.int .i64 mid) :: u19 :: (.int .i64 r) :: u21 :: u22 :: u23 :: (.int .i64 E) :: u25 :: u26 :: u27 :: u28 :: u29 :: u30 :: u31 :: u32 :: u33 :: u34 :: u35 :: u36 :: u37 :: u38 :: u39 :: u40 :: u41 :: u42 :: u43 :: u44 :: u45 :: u46 :: u47 :: u48 :: u49 :: u50 :: u51 :: u52 :: u53 :: u54 :: u55 :: u56 :: u57 :: u58 :: u59 :: u60 :: u61 :: u62 :: u63 :: u64 :: u65 :: u66 :: u67 :: u68 :: u69 :: u70 :: u71 :: u72 :: u73 :: u74 :: u75 :: u76 :: u77 :: u78 :: u79 :: u80 :: u81 :: u82 :: u83 :: u84 :: u85 :: u86 :: u87 :: u88 :: u89 :: u90 :: u91 :: u92 :: u93 :: u94 :: u95 :: u96 :: u97 :: u98 :: u99 :: u100 :: u101 :: u102 :: u103 :: u104 :: u105 :: u106 :: u107 :: u108 :: u109 :: u110 :: u111 :: u112 :: u113 :: u114 :: u115 :: u116 :: u117 :: u118 :: u119 :: u120 :: u121 :: u122 :: u123 :: u124 :: u125 :: u126 :: u127 :: u128 :: u129 :: u130 :: u131 :: u132 :: u133 :: u134 :: u135 :: u136 :: u137 :: u138 :: u139 :: u140 :: u141 :: u142 :: u143 :: u144 :: u145 :: u146 :: u147 :: u148 :: u149 :: u150 :: u151 :: u152 :: u153 :: u154 :: u155 :: u156 :: u157 :: u158 :: u159 :: u160 :: u161 :: u162 :: u163 :: u164 :: u165 :: u166 :: u167 :: u168 :: u169 :: u170 :: u171 :: u172 :: u173 :: u174 :: u175 :: u176 :: u177 :: u178 :: u179 :: u180 :: u181 :: u182 :: u183 :: u184 :: u185 :: u186 :: u187 :: u188 :: u189 :: u190 :: u191 :: u192 :: u193 :: u194 :: u195 :: u196 :: u197 :: u198 :: u199 :: u200 :: u201 :: u202 :: u203 :: u204 :: u205 :: u206 :: u207 :: u208 :: u209 :: u210 :: u211 :: u212 :: u213 :: u214 :: u215 :: u216 :: u217 :: u218 :: u219 :: []), []⟩ wr := by
  have HW := Lib.hid hW
  have HH := Lib.hid hH
  have IH := Lib.hid hih
  clear hW hH hih
  conv => arg 2; whnf
  go_upto_region 39 with fail
  go_cut [185] (fun sx wx => sx = .bool (decide (r < m ∧ m < E)) ∧ wx = wr)
  case first =>
    by_cases d1 : r < m
    · have z1 : (r : Int) < (m : Int) := by omega
      by_cases d2 : m < E
      · have z2 : (m : Int) < (E : Int) := by omega
        go_wp2_with fail
        go_meet
        exact ⟨by simp [d1, d2], rfl⟩
      · have z2 : ¬ (m : Int) < (E : Int) := by omega
        go_wp2_with fail
        go_meet
        exact ⟨by simp [d1, d2], rfl⟩
    · have z1 : ¬ (r : Int) < (m : Int) := by omega
      go_wp2_with fail
      go_meet
      exact ⟨by simp [d1], rfl⟩
  case rest =>
  obtain ⟨rfl, rfl⟩ := hcut
  go_upto_if 185 with fail
  go_cut [24] (fun s24 wx => s24 = .int .i64 E ∧ ∃ d1, Hid (SoW pt w0 blk d1 wx ∧ d1.size = d.size ∧ PermIn a b d d1 ∧ RotIs r m E d d1))
  case first =>
    by_cases dd : r < m ∧ m < E
    · have hr := rotate_any pt w0 blk cap r m E d wc HW.out hsz dd.1 dd.2 (by omega)
      have HR := Lib.hid hr
      clear hr
      have zd : decide (r < m ∧ m < E) = true := decide_eq_true dd
      rw [zd]
      clear zd
      go_wp2_with (first | (go_at_call 121; refine HR.out.mono ?_; rintro e w' ⟨rfl, d1, hS1, hz1, hp1, hr1⟩; have HQ := Lib.hid (And.intro hS1 (And.intro hz1 (And.intro hp1 hr1))); clear hS1 hz1 hp1 hr1))
      go_meet
      obtain ⟨hS1, hz1, hp1, hr1⟩ := HQ.out
      exact ⟨rfl, d1, Lib.hid ⟨hS1, hz1, permIn_mono _ _ _ _ _ _ (by omega) (by omega) (by omega) hp1, hr1⟩⟩
    · have zd : decide (r < m ∧ m < E) = false := decide_eq_false dd
      rw [zd]
      clear zd
      go_wp2_with fail
      go_meet
      refine ⟨rfl, d, Lib.hid ⟨HW.out, rfl, permIn_refl _ _ _, ?_⟩⟩
      by_cases e1 : r = m
      · rw [e1]; exact rot_left m E d (by omega)
      · rw [show E = m from by omega]; exact rot_right r m d (by omega)
  case rest =>
  obtain ⟨rfl, d1, H1⟩ := hcut
  go_step
  exact symT2 pt w0 blk cap a m b mid r E d d1 _ hsz ham hmb hb k1 k2 k3 E1 E1p E2 E3 M1 M2 IH.out ⟨H1.out.1, H1.out.2.1, H1.out.2.2.1⟩ (HH.out d1 H1.out.2.2.2) _ _ _ _ _ _ _ _ _ _ _ _ _ _ _ _ _ _ _ _ _ _ _ _ _ _ _ _ _ _ _ _ _ _ _ _ _ _ _ _ _ _ _ _ _ _ _ _ _ _ _ _ _ _ _ _ _ _ _ _ _ _ _ _ _ _ _ _ _ _ _ _ _ _ _ _ _ _ _ _ _ _ _ _ _ _ _ _ _ _ _ _ _ _ _ _ _ _ _ _ _ _ _ _ _ _ _ _ _ _ _ _ _ _ _ _ _ _ _ _ _ _ _ _ _ _ _ _ _ _ _ _ _ _ _ _ _ _ _ _ _ _ _ _ _ _ _ _ _ _ _ _ _ _ _ _ _ _ _ _ _ _ _ _ _ _ _ _ _ _ _ _ _ _ _ _ _ _ _ _ _ _ _ _ _ _ _ _ _ _ _ _ _ _ _ _ _ _ _ _ _ _ _ _ _ _ _ _ _ _ _ _
end Go.Proofs.YtacogloheiendaaGreatDoor
namespace Go.Proofs.YtacogloheiendaaGreatDoor
open Go.RowKit Go.Sort
set_option linter.unusedVariables false
set_option linter.unusedSimpArgs false

set_option maxRecDepth 100000 in
set_option maxHeartbeats 8000000 in
theorem symM3 (pt : Nat → Nat) (w0 : World) (blk cap a m b : Nat) (d : Array El) (W : World) (hS : SoW pt w0 blk d W) (hsz : d.size ≤ 4000000) (ham : a + 1 < m) (hmb : m + 1 < b) (hb : b ≤ d.size) (hs1 : SoIn a m d) (hs2 : SoIn m b d) (ht : TagLt a m b d)
    (ih : ∀ (a' m' b' : Nat) (d' : Array El) (W' : World), b' - a' < b - a → SoW pt w0 blk d' W' → d'.size = d.size → a' < m' → m' < b' → b' ≤ d.size → SoIn a' m' d' → SoIn m' b' d' → TagLt a' m' b' d' →
      Calls Tryz.prog 108 #[.slice (some ⟨blk, 0, none⟩) d.size cap, .int .i64 a', .int .i64 m', .int .i64 b', .func (.func 77) #[] #[]] W' fun e w' => e = .returned (.tuple #[]) ∧ ∃ d'', SoW pt w0 blk d'' w' ∧ d''.size = d.size ∧ PermIn a' b' d' d'' ∧ SoIn a' b' d'') :
    Calls Tryz.prog 108 #[.slice (some ⟨blk, 0, none⟩) d.size cap, .int .i64 a, .int .i64 m, .int .i64 b, .func (.func 77) #[] #[]] W fun e w' => e = .returned (.tuple #[]) ∧
      ∃ d', SoW pt w0 blk d' w' ∧ d'.size = d.size ∧ PermIn a b d d' ∧ SoIn a b d' := by
  have HS := Lib.hid hS
  have mixed := mixedO
  have HCM := Lib.hid cmp_grow
  have HS1 := Lib.hid hs1
  have HS2 := Lib.hid hs2
  have HT := Lib.hid ht
  have IH := Lib.hid ih
  obtain ⟨mid, n, lo, r0, P, hf⟩ := symF_mk a m b (by omega) (by omega)
  have HF := Lib.hid hf
  have hz : ((m : Int) - (a : Int) == 1) = false := by simp; omega
  have hz1 : ¬ (m : Int) - (a : Int) = 1 := by omega
  have hz2 : ((b : Int) - (m : Int) == 1) = false := by simp; omega
  have hz3 : ¬ (b : Int) - (m : Int) = 1 := by omega
  have q1 : 2 * mid ≤ a + b := hf.m1
  have q2 : a + b ≤ 2 * mid + 1 := hf.m2
  have q3 : n ≤ mid + m := by have := hf.n1; omega
  have q4 : mid + m ≤ n := by have := hf.n1; omega
  clear hS hs1 hs2 ht ih hf
  go_enter Tryz.func108, Tryz.ntmps108
  go_upto_if 140 with fail
  go_cut [18, 19, 20, 21] (fun s18 s19 s20 s21 wx => s18 = .int .i64 mid ∧ s19 = .int .i64 n ∧ s20 = .int .i64 lo ∧ s21 = .int .i64 r0 ∧ wx = W)
  case first =>
    have emid : Hid (((a : Int) + (b : Int)) / 2 = (mid : Int)) := by show _ = _; omega
    go_wp2_with fail
    all_goals go_meet
    all_goals
      rw [emid.out]
      have hc := HF.out.c
      have e := emid.out
      refine ⟨rfl, ?_, ?_, ?_, rfl⟩
      · congr 1; omega
      · congr 1; omega
      · congr 1; omega
  case rest =>
    obtain ⟨rfl, rfl, rfl, rfl, rfl⟩ := hcut
    go_upto_region 32 with fail
    have ep : Hid ((n : Int) - 1 = (P : Int)) := by show _ = _; have := HF.out.p1; omega
    go_cut [22] (fun s22 wx => s22 = .int .i64 P ∧ wx = wc)
    case first =>
      go_wp2_with fail
      go_meet
      exact ⟨by rw [← ep.out], rfl⟩
    case rest =>
      obtain ⟨rfl, rfl⟩ := hcut
      go_wp2_with fail
      go_loopg [20, 21] (r0 - lo) (fun kx vi vj wr => ∃ (s r : Nat), vi = .int .i64 s ∧ vj = .int .i64 r ∧ lo ≤ s ∧ s ≤ r ∧ r ≤ r0 ∧ r - s ≤ kx ∧ Hid (SoW pt w0 blk d wr) ∧ Hid ((∀ q, lo ≤ q → q < s → ¬ d[P - q]!.1 < d[q]!.1) ∧ (∀ q, r ≤ q → q < r0 → d[P - q]!.1 < d[q]!.1)))
      case atStart => exact ⟨lo, r0, rfl, rfl, Nat.le_refl _, by have := HF.out.c; omega, Nat.le_refl _, Nat.le_refl _, HS, Lib.hid ⟨fun q q1 q2 => by omega, fun q q1 q2 => by omega⟩⟩
      case round =>
        obtain ⟨s, r, rfl, rfl, hls, hsr, hr0, hk, HW, HI⟩ := hrel
        by_cases hlt : s < r
        · obtain ⟨c, ec⟩ : ∃ c, (s + r) / 2 = c := ⟨_, rfl⟩
          have hb1 : a ≤ c ∧ c < m ∧ m ≤ P - c ∧ P - c < b ∧ c ≤ P := by
            obtain ⟨_, _, _, _, h5⟩ := HF.out
            omega
          obtain ⟨hb1, hb2, hb3, hb4, hb5⟩ := hb1
          have h1 : s ≤ c := by omega
          have h2 : c < r := by omega
          obtain ⟨u, eu⟩ : ∃ u, P - c = u := ⟨_, rfl⟩
          have HM := Lib.hid (sym_mono HF.out (by omega) (by omega) HS1.out HS2.out c (by omega) (by omega))
          rw [eu] at HM hb3 hb4
          have zc : (((s : Int) + (r : Int)) / 2).toNat = c := by omega
          have pc : (0 : Int) ≤ ((s : Int) + (r : Int)) / 2 := by omega
          have bc : ((s : Int) + (r : Int)) / 2 < (d.size : Int) := by omega
          have zu : ((P : Int) - ((s : Int) + (r : Int)) / 2).toNat = u := by omega
          have pu : (0 : Int) ≤ (P : Int) - ((s : Int) + (r : Int)) / 2 := by omega
          have pu2 : ((s : Int) + (r : Int)) / 2 ≤ (P : Int) := by omega
          have bu2 : (P : Int) < (d.size : Int) + ((s : Int) + (r : Int)) / 2 := by omega
          have bu : (P : Int) - ((s : Int) + (r : Int)) / 2 < (d.size : Int) := by omega
          have wu : IntKind.i64.wrap ((P : Int) - ((s : Int) + (r : Int)) / 2) = (P : Int) - ((s : Int) + (r : Int)) / 2 := by rw [IntKind.wrap_i64]; omega
          have EC : Hid (((s : Int) + (r : Int)) / 2 = (c : Int)) := by show _ = _; omega
          have g1 := HW.out.kG c (by omega)
          have g2 := HW.out.pG c (by omega)
          have g3 := HW.out.kG u (by omega)
          have g4 := HW.out.pG u (by omega)
          obtain ⟨x, ex⟩ : ∃ x, d[c]! = x := ⟨_, rfl⟩
          obtain ⟨y, ey⟩ : ∃ x, d[u]! = x := ⟨_, rfl⟩
          rw [ex] at g1 g2 HM
          rw [ey] at g3 g4 HM
          clear ex ey ec eu
          by_cases hlv : cmpI y.1 x.1 < 0
          · have hd : decide (cmpI y.1 x.1 < 0) = true := decide_eq_true hlv
            go_wp2_with fail
            go_quiet_grown (first | (go_at_call 77; refine Calls.grown_of (HCM.out _ _ _ _ _)))
            clear g1 g2 g3 g4
            go_wp2_with fail
            go_roundg (c - s)
            case measure => omega
            case rel =>
              have hq : y.1 < x.1 := (cmpI_neg y.1 x.1).1 hlv
              exact ⟨s, c, rfl, by rw [EC.out], hls, by omega, by omega, Nat.le_refl _, Lib.hid (HW.out.grown nq osq), Lib.hid ⟨HI.out.1, HM.out.2 hq⟩⟩
          · have hd : decide (cmpI y.1 x.1 < 0) = false := decide_eq_false hlv
            go_wp2_with fail
            go_quiet_grown (first | (go_at_call 77; refine Calls.grown_of (HCM.out _ _ _ _ _)))
            clear g1 g2 g3 g4
            go_wp2_with fail
            go_roundg (r - (c + 1))
            case measure => omega
            case rel =>
              have hq : ¬ y.1 < x.1 := fun h' => by have := (cmpI_neg y.1 x.1).2 h'; omega
              exact ⟨c + 1, r, by rw [EC.out]; go_num, rfl, by omega, by omega, hr0, Nat.le_refl _, Lib.hid (HW.out.grown nq osq), Lib.hid ⟨HM.out.1 (by omega), HI.out.2⟩⟩
        · obtain rfl : r = s := by omega
          obtain ⟨em, hsp⟩ := sym_split HF.out (by omega) (by omega) hls hr0 HI.out.1 HI.out.2
          obtain ⟨E, eE⟩ : ∃ E, mid + m - r = E := ⟨_, rfl⟩
          have HH := Lib.hid (fun (d1 : Array El) (hr : RotIs r m E d d1) => split_halves em eE.symm hsp HS1.out HS2.out HT.out hr)
          have k1 := hsp.s1; have k2 := hsp.s2; have k3 := hsp.s3; have k4 := hsp.s4
          rw [← em] at k3 k4
          have zE : Hid ((n : Int) - (r : Int) = (E : Int)) := by show _ = _; omega
          have E1 : E + r = mid + m := by omega
          have E2 : E ≤ b := by omega
          have E3 : mid ≤ E := by omega
          clear em hsp eE
          go_upto_region 38 with fail
          go_cut [24] (fun s24 wx => s24 = .int .i64 E ∧ wx = wr)
          case first =>
            go_wp2_with fail
            go_meet
            exact ⟨by rw [← zE.out], rfl⟩
          case rest =>
          obtain ⟨rfl, rfl⟩ := hcut
          go_step
          have M1 : a < mid := by omega
          have M2 : mid < b := by omega
          exact symT1 pt w0 blk cap a m b mid r E d _ hsz ham hmb hb k1 k2 k3 (by omega) (by omega) E2 E3 M1 M2 IH.out HW.out HH.out _ _ _ _ _ _ _ _ _ _ _ _ _ _ _ _ _ _ _ _ _ _ _ _ _ _ _ _ _ _ _ _ _ _ _ _ _ _ _ _ _ _ _ _ _ _ _ _ _ _ _ _ _ _ _ _ _ _ _ _ _ _ _ _ _ _ _ _ _ _ _ _ _ _ _ _ _ _ _ _ _ _ _ _ _ _ _ _ _ _ _ _ _ _ _ _ _ _ _ _ _ _ _ _ _ _ _ _ _ _ _ _ _ _ _ _ _ _ _ _ _ _ _ _ _ _ _ _ _ _ _ _ _ _ _ _ _ _ _ _ _ _ _ _ _ _ _ _ _ _ _ _ _ _ _ _ _ _ _ _ _ _ _ _ _ _ _ _ _ _ _ _ _ _ _ _ _ _ _ _ _ _ _ _ _ _ _ _ _ _ _ _ _ _ _ _ _ _ _ _ _ _ _ _ _ _ _ _ _ _ _ _

theorem symMerge_any (pt : Nat → Nat) (w0 : World) (blk cap n : Nat) (hsz : n ≤ 4000000) : ∀ (N a m b : Nat) (d : Array El) (W : World), b - a < N → SoW pt w0 blk d W → d.size = n → a < m → m < b → b ≤ n → SoIn a m d → SoIn m b d → TagLt a m b d →
    Calls Tryz.prog 108 #[.slice (some ⟨blk, 0, none⟩) n cap, .int .i64 a, .int .i64 m, .int .i64 b, .func (.func 77) #[] #[]] W fun e w' => e = .returned (.tuple #[]) ∧ ∃ d', SoW pt w0 blk d' w' ∧ d'.size = n ∧ PermIn a b d d' ∧ SoIn a b d'
  | 0, a, m, b, d, W, h, _, _, _, _, _, _, _, _ => absurd h (Nat.not_lt_zero _)
  | N + 1, a, m, b, d, W, h, hS, hn, ham, hmb, hb, hs1, hs2, ht => by
    subst hn
    by_cases e1 : m = a + 1
    · subst e1
      exact symM1 pt w0 blk cap a b d W hS hsz hmb hb hs2 ht
    · by_cases e2 : b = m + 1
      · subst e2
        exact symM2 pt w0 blk cap a m d W hS hsz (by omega) hb hs1 ht
      · exact symM3 pt w0 blk cap a m b d W hS hsz (by omega) (by omega) hb hs1 hs2 ht (fun a' m' b' d' W' hlt hS' hn' h1 h2 h3 h4 h5 h6 => symMerge_any pt w0 blk cap d.size hsz N a' m' b' d' W' (by omega) hS' hn' h1 h2 h3 h4 h5 h6)
end Go.Proofs.YtacogloheiendaaGreatDoor
namespace Go.Proofs.YtacogloheiendaaGreatDoor
open Go.RowKit Go.Sort
set_option linter.unusedVariables false
set_option linter.unusedSimpArgs false

set_option maxRecDepth 100000 in
set_option maxHeartbeats 4000000 in
theorem stable_any (pt : Nat → Nat) (w0 : World) (blk cap n : Nat) (hsz : n ≤ 4000000) (d : Array El) (W : World) (hS : SoW pt w0 blk d W) (hn : d.size = n) (ht : ∀ p q, 0 ≤ p → p < q → q < n → d[p]!.2 < d[q]!.2) :
    Calls Tryz.prog 93 #[.slice (some ⟨blk, 0, none⟩) n cap, .int .i64 n, .func (.func 77) #[] #[]] W fun e w' => e = .returned (.tuple #[]) ∧ ∃ d', SoW pt w0 blk d' w' ∧ d'.size = n ∧ PermIn 0 n d d' ∧ SoIn 0 n d' := by
  have HS := Lib.hid hS
  have HT := Lib.hid ht
  have HI := Lib.hid (fun a b dk wr => insertion_any pt w0 blk cap a b dk wr)
  have HM := Lib.hid (fun a m b dk wr => symMerge_any pt w0 blk cap n hsz (b - a + 1) a m b dk wr (by omega))
  clear hS ht
  go_enter Tryz.func93, Tryz.ntmps93
  go_wp2_with fail
  go_loopg [7, 8] n (fun kx vi vj wr => ∃ (t a b : Nat) (dk : Array El), vi = .int .i64 a ∧ vj = .int .i64 b ∧ a ≤ t * 20 ∧ t * 20 ≤ a ∧ b ≤ a + 20 ∧ a + 20 ≤ b ∧ a ≤ n ∧ n - a ≤ kx ∧ dk.size = n ∧ Hid (SoW pt w0 blk dk wr) ∧ Hid (PermIn 0 n d dk) ∧ Hid (BlkR 20 0 a n dk) ∧ Hid (∀ p q, a ≤ p → p < q → q < n → dk[p]!.2 < dk[q]!.2))
  case atStart => exact ⟨0, 0, 20, d, rfl, rfl, by omega, by omega, by omega, by omega, Nat.zero_le _, by omega, hn, HS, Lib.hid (permIn_refl _ _ _), Lib.hid (fun k hk => by omega), HT⟩
  case round =>
    obtain ⟨t, a, b, dk, rfl, rfl, t1, t2, b1, b2, han, hk, hsk, HW, HP, HB, HG⟩ := hrel
    by_cases hlt : b ≤ n
    · have hc := HI.out a b dk wr HW.out (by omega) (by omega) (by omega)
      rw [hsk] at hc
      have HC := Lib.hid hc
      clear hc
      go_wp2_with (first | (go_at_call 107; refine HC.out.mono ?_; rintro e w' ⟨rfl, hS1, hz1⟩; have HQ := Lib.hid (And.intro hS1 hz1); clear hS1 hz1))
      go_roundg (n - b)
      case measure => omega
      case rel =>
        have g := ins_so a b dk (by omega) (by omega) (fun p q h1 h2 h3 => HG.out p q h1 h2 (by omega))
        have g2 := blk_ins (n := n) hsk.symm (by omega) (by omega) t (by omega) (Or.inl (by omega)) HB.out HG.out g.1 g.2
        exact ⟨t + 1, b, b + 20, _, rfl, by go_num, by omega, by omega, by omega, by omega, hlt, Nat.le_refl _, HQ.out.2, Lib.hid HQ.out.1, Lib.hid (permIn_trans _ _ _ _ _ HP.out (permIn_mono _ _ _ _ _ _ (Nat.zero_le _) hlt (by omega) g.1)), Lib.hid g2.1, Lib.hid g2.2⟩
    · have hc := HI.out a n dk wr HW.out (by omega) (by omega) (by omega)
      rw [hsk] at hc
      have HC := Lib.hid hc
      have g := ins_so a n dk (by omega) (by omega) (fun p q h1 h2 h3 => HG.out p q h1 h2 (by omega))
      have g2 := blk_ins (n := n) hsk.symm (by omega) (Nat.le_refl _) t (by omega) (Or.inr ⟨rfl, by omega⟩) HB.out HG.out g.1 g.2
      have hp1 := permIn_trans _ _ _ _ _ HP.out (permIn_mono _ _ _ _ _ _ (Nat.zero_le _) (Nat.le_refl _) (by omega) g.1)
      obtain ⟨d1, e1⟩ : ∃ d1, insertionSort elK dk a n = d1 := ⟨_, rfl⟩
      rw [e1] at HC hp1 g2
      have HP1 := Lib.hid hp1
      have HB1 := Lib.hid g2.1
      clear hc g g2 hp1 e1 HP HB HG HW
      go_wp2_with (first | (go_at_call 107; refine HC.out.mono ?_; rintro e w' ⟨rfl, hS1, hz1⟩; have HQ := Lib.hid (And.intro hS1 hz1); clear hS1 hz1))
      clear HC
      go_loopg [6] n (fun kx vb wr2 => ∃ (bs : Nat) (dk : Array El), vb = .int .i64 bs ∧ 20 ≤ bs ∧ n - bs ≤ kx ∧ dk.size = n ∧ Hid (SoW pt w0 blk dk wr2) ∧ Hid (PermIn 0 n d dk) ∧ Hid (BlkR bs 0 n n dk))
      case atStart => exact ⟨20, d1, rfl, Nat.le_refl _, by omega, HQ.out.2, Lib.hid HQ.out.1, HP1, HB1⟩
      case round =>
        obtain ⟨bs, dk, rfl, hbs, hk2, hsk2, HW, HP, HB⟩ := hrel
        by_cases hbn : bs < n
        · go_wp2_with fail
          go_loopg [7, 8] n (fun kx vi vj wr3 => ∃ (t a b : Nat) (dk : Array El), vi = .int .i64 a ∧ vj = .int .i64 b ∧ Hid (a = t * (2 * bs)) ∧ b ≤ a + 2 * bs ∧ a + 2 * bs ≤ b ∧ a ≤ n ∧ n - a ≤ kx ∧ dk.size = n ∧ Hid (SoW pt w0 blk dk wr3) ∧ Hid (PermIn 0 n d dk) ∧ Hid (BlkR (2 * bs) 0 a n dk) ∧ Hid (BlkR bs a n n dk))
          case atStart => exact ⟨0, 0, 2 * bs, dk, rfl, by go_num, Lib.hid (by simp), by omega, by omega, Nat.zero_le _, by omega, hsk2, HW, HP, Lib.hid (fun k hk => by omega), HB⟩
          case round =>
            obtain ⟨t, a2, b2, dk2, rfl, rfl, ta, c1, c2, ha2, hk3, hsk3, HW3, HP3, HB3, HR3⟩ := hrel
            by_cases hb2 : b2 ≤ n
            · have hz : 0 < 2 * bs := by omega
              obtain ⟨g1, g2, g3⟩ := blk_two (bs := bs) (n := n) (a := a2) (d := dk2) (by omega) HR3.out
              have emin : min (a2 + 2 * bs) n = b2 := by omega
              rw [emin] at g2 g3
              have hr := HM.out a2 (a2 + bs) b2 dk2 wr HW3.out hsk3 (by omega) (by omega) hb2 g1 g2 g3
              rw [show ((a2 + bs : Nat) : Int) = (a2 : Int) + (bs : Int) from by omega] at hr
              have HC := Lib.hid hr
              clear hr g1 g2 g3 emin
              go_wp2_with (first | (go_at_call 108; refine HC.out.mono ?_; rintro e w' ⟨rfl, d', hS1, hz1, hp1, hs1⟩; have HQ2 := Lib.hid (And.intro hS1 (And.intro hz1 (And.intro hp1 hs1))); clear hS1 hz1 hp1 hs1))
              go_roundg (n - b2)
              case measure => omega
              case rel =>
                obtain ⟨hS1, hz1, hp1, hs1⟩ := HQ2.out
                have g := blk_merge (n := n) (t := t) (b := b2) hsk3.symm (by omega) ta.out (by omega) (by omega) HB3.out HR3.out hp1 hs1
                exact ⟨t + 1, b2, b2 + 2 * bs, d', rfl, by go_num, Lib.hid (by have := ta.out; rw [Nat.add_mul, Nat.one_mul]; omega), by omega, by omega, hb2, Nat.le_refl _, hz1, Lib.hid hS1, Lib.hid (permIn_trans _ _ _ _ _ HP3.out (permIn_mono _ _ _ _ _ _ (Nat.zero_le _) hb2 (by omega) hp1)), Lib.hid g.1, Lib.hid g.2⟩
            · by_cases hm : a2 + bs < n
              · obtain ⟨g1, g2, g3⟩ := blk_two (bs := bs) (n := n) (a := a2) (d := dk2) hm HR3.out
                have emin : min (a2 + 2 * bs) n = n := by omega
                rw [emin] at g2 g3
                have hr := HM.out a2 (a2 + bs) n dk2 wr HW3.out hsk3 (by omega) hm (Nat.le_refl _) g1 g2 g3
                rw [show ((a2 + bs : Nat) : Int) = (a2 : Int) + (bs : Int) from by omega] at hr
                have HC := Lib.hid hr
                have hz : (a2 : Int) + (bs : Int) < (n : Int) := by omega
                clear hr g1 g2 g3 emin
                go_wp2_with (first | (go_at_call 108; refine HC.out.mono ?_; rintro e w' ⟨rfl, d', hS1, hz1, hp1, hs1⟩; have HQ2 := Lib.hid (And.intro hS1 (And.intro hz1 (And.intro hp1 hs1))); clear hS1 hz1 hp1 hs1))
                go_roundg (n - 2 * bs)
                case measure => omega
                case rel =>
                  obtain ⟨hS1, hz1, hp1, hs1⟩ := HQ2.out
                  have g := blk_merge (n := n) (t := t) (b := n) hsk3.symm (by omega) ta.out (by omega) ha2 HB3.out HR3.out hp1 hs1
                  exact ⟨2 * bs, d', by go_num, by omega, Nat.le_refl _, hz1, Lib.hid hS1, Lib.hid (permIn_trans _ _ _ _ _ HP3.out (permIn_mono _ _ _ _ _ _ (Nat.zero_le _) (Nat.le_refl _) (by omega) hp1)), Lib.hid g.1⟩
              · have hz : ¬ (a2 : Int) + (bs : Int) < (n : Int) := by omega
                go_wp2_with fail
                go_roundg (n - 2 * bs)
                case measure => omega
                case rel =>
                  have g := blk_last (n := n) (t := t) (by omega) ta.out ha2 (by omega) HB3.out HR3.out
                  exact ⟨2 * bs, dk2, by go_num, by omega, Nat.le_refl _, hsk3, HW3, HP3, Lib.hid g⟩
        · go_wp2_with fail
          go_end0
          exact ⟨rfl, dk, HW.out, hsk2, HP.out, blk_end HB.out (by omega)⟩

set_option maxHeartbeats 1000000 in
theorem SortStable_any (pt : Nat → Nat) (w0 : World) (blk cap n : Nat) (hsz : n ≤ 4000000) (d : Array El) (W : World) (hS : SoW pt w0 blk d W) (hn : d.size = n) (ht : ∀ p q, 0 ≤ p → p < q → q < n → d[p]!.2 < d[q]!.2) :
    Calls Tryz.prog 76 #[.slice (some ⟨blk, 0, none⟩) n cap, .func (.func 77) #[] #[]] W fun e w' => e = .returned (.tuple #[]) ∧ ∃ d', SoW pt w0 blk d' w' ∧ d'.size = n ∧ PermIn 0 n d d' ∧ SoIn 0 n d' := by
  have HC := Lib.hid (stable_any pt w0 blk cap n hsz d W hS hn ht)
  clear hS ht hn
  go_enter Tryz.func76, Tryz.ntmps76
  go_wp2_with (first | (go_at_call 93; refine HC.out.mono ?_; rintro e w' ⟨rfl, d', hq⟩; have HQ := Lib.hid hq; clear hq))
  go_end0
  exact ⟨rfl, d', HQ.out⟩
end Go.Proofs.YtacogloheiendaaGreatDoor
namespace Go.Proofs.YtacogloheiendaaGreatDoor
open Go.RowKit Go.Joins
open Classical
set_option linter.unusedVariables false
set_option linter.unusedSimpArgs false

structure Tn where
  (a s : Int)
  (lt : ByteArray)
/-- a rule's moments by its own clock (D: the day of a year) -/
def nomOf (D : Ru → Int → Int) (r : Ru) : List (Int × Ru) := (List.range (r.yt - r.yf + 1).toNat).map fun (i : Nat) => (86400 * D r (r.yf + (i : Int)) + r.tm, r)
def nomsOf (D : Ru → Int → Int) (rules : List Ru) (nm : ByteArray) : List (Int × Ru) := (rules.filter fun r => decide (r.nm = nm)).flatMap (nomOf D)
def yearsOf (rules : List Ru) (nm : ByteArray) : Int := ((rules.filter fun r => decide (r.nm = nm)).map fun r => r.yt - r.yf + 1).sum
def clkT (off save : Int) (x : Int × Ru) : Int := if x.2.ck = 0 then x.1 - (off + save) else if x.2.ck = 1 then x.1 - off else x.1
/-- the last loop: 'none' where the moments do not rise -/
def outF (off : Int) : Int → Option Int → List (Int × Ru) → Option (List Tn)
  | _, _, [] => some []
  | save, last, x :: r =>
    if (match last with | none => false | some m => decide (clkT off save x ≤ m)) = true then none
    else (outF off x.2.sv (some (clkT off save x)) r).map fun l => ⟨clkT off save x, x.2.sv, x.2.lt⟩ :: l
end Go.Proofs.YtacogloheiendaaGreatDoor
namespace Go.Proofs.YtacogloheiendaaGreatDoor
open Go.RowKit Go.Joins
open Classical
set_option linter.unusedVariables false
set_option linter.unusedSimpArgs false

def dayN (r : Ru) (y : Int) : Int :=
  if r.dk = 1 then Civ.days y r.mo r.dn else
  if r.dk = 2 then downTo (Civ.days y r.mo (Civ.mlen y r.mo)) r.dw else
  if r.dk = 3 then upTo (Civ.days y r.mo r.dn) r.dw else downTo (Civ.days y r.mo r.dn) r.dw
theorem mlen_ge (y m : Int) : Civ.mlen 1901 m ≤ Civ.mlen y m := by
  unfold Civ.mlen
  by_cases h : m = 2
  · rw [if_pos h, if_pos h]
    have : Civ.lp 1901 = 0 := by decide
    have h2 : 0 ≤ Civ.lp y := by unfold Civ.lp; split <;> omega
    omega
  · rw [if_neg h, if_neg h]
    exact Int.le_refl _
theorem days_1900 {y m d : Int} (hv : Civ.valid y m d) (h1 : 1900 ≤ y) (h2 : y ≤ 2100) : -25600 ≤ Civ.days y m d ∧ Civ.days y m d ≤ 47900 := by
  have v1 : Civ.valid 1899 12 31 := ⟨by omega, by omega, by omega, by omega, by omega, by unfold Civ.mlen; simp⟩
  have v2 : Civ.valid 2101 1 1 := ⟨by omega, by omega, by omega, by omega, by omega, by unfold Civ.mlen; simp⟩
  have a := Civ.days_lt (y := 1899) (m := 12) (d := 31) (a := y) (b := m) (c := d) v1 hv (Or.inl (by omega))
  have b := Civ.days_lt (y := y) (m := m) (d := d) (a := 2101) (b := 1) (c := 1) hv v2 (Or.inl (by omega))
  have e1 : Civ.days 1899 12 31 = -25568 := by decide
  have e2 : Civ.days 2101 1 1 = 47847 := by decide
  omega
set_option maxHeartbeats 1000000 in
theorem Of_ru (r : Ru) (o : OkRu r) (y : Int) (h1 : r.yf ≤ y) (h2 : y ≤ r.yt) (w : World) :
    Calls Tryz.prog 46 #[.int .i64 y, .int .i64 r.mo, dayV r.dk r.dw r.dn] w fun e w' => e = .returned (.tuple #[.int .i64 (dayN r y), .int .i64 0]) ∧ Below w.heap.size w w' := by
  have a1 : 1900 ≤ y := by have := o.f1; omega
  have a2 : y ≤ 2100 := by have := o.t2; omega
  have hm := mlen_ge y r.mo
  have hn := o.n
  have hb := Civ.mlen_bd y r.mo o.m1 o.m2
  have hd := o.d
  have hd2 := o.d
  unfold dayB at hd2
  simp only [decide_eq_true_eq] at hd2
  rcases hd2 with ⟨k, b1, b2, b3⟩ | ⟨k, b1, b2, b3⟩ | ⟨k | k, b1, b2, b3, b4⟩
  · rw [k] at hd ⊢
    have e : dayN r y = Civ.days y r.mo r.dn := by unfold dayN; rw [if_pos k]
    rw [e]
    exact Of_num y r.mo r.dw r.dn w hd (by omega) (by omega) o.m1 o.m2 (by omega)
  · rw [k] at hd ⊢
    have e : dayN r y = downTo (Civ.days y r.mo (Civ.mlen y r.mo)) r.dw := by unfold dayN; rw [if_neg (by omega), if_pos k]
    rw [e]
    exact Of_last y r.mo r.dw r.dn w hd (by omega) (by omega) o.m1 o.m2
  · rw [k] at hd ⊢
    have hv := days_1900 (y := y) (m := r.mo) (d := r.dn) ⟨by omega, by omega, o.m1, o.m2, b3, by omega⟩ a1 a2
    have e : dayN r y = upTo (Civ.days y r.mo r.dn) r.dw := by unfold dayN; rw [if_neg (by omega), if_neg (by omega), if_pos k]
    rw [e]
    exact Of_up y r.mo r.dw r.dn w hd (by omega) (by omega) o.m1 o.m2 (by omega) (by have := upTo_bd (Civ.days y r.mo r.dn) r.dw b1 b2; omega)
  · rw [k] at hd ⊢
    have hv := days_1900 (y := y) (m := r.mo) (d := r.dn) ⟨by omega, by omega, o.m1, o.m2, b3, by omega⟩ a1 a2
    have e : dayN r y = downTo (Civ.days y r.mo r.dn) r.dw := by unfold dayN; rw [if_neg (by omega), if_neg (by omega), if_neg (by omega)]
    rw [e]
    exact Of_down y r.mo r.dw r.dn w hd (by omega) (by omega) o.m1 o.m2 (by omega) (by have := downTo_bd (Civ.days y r.mo r.dn) r.dw b1 b2; omega)
end Go.Proofs.YtacogloheiendaaGreatDoor
namespace Go.Proofs.YtacogloheiendaaGreatDoor
open Go.RowKit Go.Joins
open Classical
set_option linter.unusedVariables false
set_option linter.unusedSimpArgs false

theorem box_kept {W W' : World} {B : Nat} {e t : TypeId} {sz n g : Nat} {v : Value} {xs : List Value} {cs : Array Value} {fr : Nat × Nat} (h : W.ownsRow B e sz v n xs) (hb : W.heap[g]? = some (.cells cs t fr)) (hne : t ≠ e) (hg : W.grownBy W' v.ownBlock) : W'.heap[g]? = some (.cells cs t fr) := by
  have hlt : g < W.heap.size := (Array.getElem?_eq_some_iff.mp hb).1
  rw [hg.block g hlt ?_, hb]
  intro e2
  obtain ⟨-, h | ⟨k, cap, cur, rfl, hk, hc, -⟩⟩ := h
  · rw [h.1] at e2
    cases e2
  · injection e2 with e3
    subst e3
    have hc' : W.heap[g]? = some (.cells cur e (0, 0)) := hc
    rw [hb] at hc'
    injection hc' with e4
    injection e4 with e5 e6 e7
    exact hne e6
/-- a moment: when, its rule, the block of the rule's box -/
abbrev Nb := Int × Ru × Nat
def nbCells (l : List Nb) : List Value := l.flatMap fun x => [.int .i64 x.1, .pointer (some ⟨x.2.2, 0, none⟩)]
structure NbAt (W : World) (base : Nat) (v : Value) (l : List Nb) : Prop where
  row : W.ownsRow base 136 2 v l.length (nbCells l)
  bx : ∀ x ∈ l, RuBx W x.2.2 x.2.1
end Go.Proofs.YtacogloheiendaaGreatDoor
namespace Go.Proofs.YtacogloheiendaaGreatDoor
open Go.RowKit Go.Joins
open Classical
set_option linter.unusedVariables false
set_option linter.unusedSimpArgs false

theorem take_succ' {α : Type} (l : List α) (k : Nat) (h : k < l.length) : l.take (k + 1) = l.take k ++ [l[k]] := List.take_succ_eq_append_getElem h
theorem yearsOf_snoc (l : List Ru) (x : Ru) (nm : ByteArray) : yearsOf (l ++ [x]) nm = yearsOf l nm + if x.nm = nm then x.yt - x.yf + 1 else 0 := by
  unfold yearsOf
  rw [List.filter_append, List.map_append, List.sum_append]
  by_cases h : x.nm = nm
  · rw [if_pos h, List.filter_cons_of_pos (by simpa using h)]
    simp
  · rw [if_neg h, List.filter_cons_of_neg (by simpa using h)]
    simp
theorem nomsOf_snoc (D : Ru → Int → Int) (l : List Ru) (x : Ru) (nm : ByteArray) : nomsOf D (l ++ [x]) nm = nomsOf D l nm ++ if x.nm = nm then nomOf D x else [] := by
  unfold nomsOf
  rw [List.filter_append, List.flatMap_append]
  by_cases h : x.nm = nm
  · rw [if_pos h, List.filter_cons_of_pos (by simpa using h)]
    simp
  · rw [if_neg h, List.filter_cons_of_neg (by simpa using h)]
    simp
theorem nomOf_len (D : Ru → Int → Int) (r : Ru) (h : r.yf ≤ r.yt) : ((nomOf D r).length : Int) = r.yt - r.yf + 1 := by
  unfold nomOf
  rw [List.length_map, List.length_range]
  omega
theorem nomsOf_len (D : Ru → Int → Int) (nm : ByteArray) : ∀ l : List Ru, (∀ r ∈ l, r.yf ≤ r.yt) → ((nomsOf D l nm).length : Int) = yearsOf l nm := by
  intro l
  induction l with
  | nil => intro _; rfl
  | cons x r ih =>
    intro h
    have e := ih fun y hy => h y (List.mem_cons_of_mem _ hy)
    have hx := nomOf_len D x (h x (List.mem_cons_self ..))
    unfold nomsOf yearsOf at *
    by_cases hn : x.nm = nm
    · rw [List.filter_cons_of_pos (by simpa using hn)]
      simp only [List.flatMap_cons, List.length_append, List.map_cons, List.sum_cons]
      push_cast
      omega
    · rw [List.filter_cons_of_neg (by simpa using hn)]
      exact e
theorem yearsOf_bd (nm : ByteArray) : ∀ l : List Ru, (∀ r ∈ l, 1900 ≤ r.yf ∧ r.yf ≤ r.yt ∧ r.yt ≤ 2100) → 0 ≤ yearsOf l nm ∧ yearsOf l nm ≤ 201 * l.length := by
  intro l
  induction l with
  | nil => intro _; exact ⟨Int.le_refl _, Int.le_refl _⟩
  | cons x r ih =>
    intro h
    have e := ih fun y hy => h y (List.mem_cons_of_mem _ hy)
    have hx := h x (List.mem_cons_self ..)
    unfold yearsOf at *
    by_cases hn : x.nm = nm
    · rw [List.filter_cons_of_pos (by simpa using hn)]
      simp only [List.map_cons, List.sum_cons, List.length_cons]
      push_cast
      omega
    · rw [List.filter_cons_of_neg (by simpa using hn)]
      simp only [List.length_cons]
      push_cast
      omega
end Go.Proofs.YtacogloheiendaaGreatDoor
namespace Go.Proofs.YtacogloheiendaaGreatDoor
open Go.RowKit Go.Joins
open Classical
set_option linter.unusedVariables false
set_option linter.unusedSimpArgs false

theorem infoNb : (Tryz.prog.info? 136).map (fun i => (i.zero, i.size, i.bytes)) = some (some (.agg #[.int .i64 0, .pointer none]), 2, 16) := by kernel_rfl
theorem undNb : Tryz.prog.underlying 133 = some (.slice 136) := by kernel_rfl
def nomB (r : Ru) (b j : Nat) : List Nb := (List.range j).map fun (i : Nat) => (86400 * dayN r (r.yf + (i : Int)) + r.tm, r, b)
theorem nomB_snoc (r : Ru) (b j : Nat) : nomB r b (j + 1) = nomB r b j ++ [(86400 * dayN r (r.yf + (j : Int)) + r.tm, r, b)] := by
  unfold nomB
  rw [List.range_succ, List.map_append]
  rfl
theorem nomB_len (r : Ru) (b j : Nat) : (nomB r b j).length = j := by simp [nomB]
theorem nomB_map (r : Ru) (b C : Nat) (h : (C : Int) = r.yt - r.yf + 1) : (nomB r b C).map (fun x => (x.1, x.2.1)) = nomOf dayN r := by
  unfold nomB nomOf
  rw [List.map_map, ← h, Int.toNat_natCast]
  rfl
theorem nbCells_snoc (l : List Nb) (x : Nb) : nbCells (l ++ [x]) = nbCells l ++ [.int .i64 x.1, .pointer (some ⟨x.2.2, 0, none⟩)] := by simp [nbCells]
theorem dayN_bd {r : Ru} (o : OkRu r) {y : Int} (h1 : r.yf ≤ y) (h2 : y ≤ r.yt) : -30000 ≤ dayN r y ∧ dayN r y ≤ 50000 := by
  have a1 : 1900 ≤ y := by have := o.f1; omega
  have a2 : y ≤ 2100 := by have := o.t2; omega
  have hm := mlen_ge y r.mo
  have hn := o.n
  have hb := Civ.mlen_bd y r.mo o.m1 o.m2
  have hd2 := o.d
  unfold dayB at hd2
  simp only [decide_eq_true_eq] at hd2
  have hlast := days_1900 (y := y) (m := r.mo) (d := Civ.mlen y r.mo) ⟨by omega, by omega, o.m1, o.m2, by omega, by omega⟩ a1 a2
  unfold dayN
  rcases hd2 with ⟨k, b1, b2, b3⟩ | ⟨k, b1, b2, b3⟩ | ⟨k | k, b1, b2, b3, b4⟩
  · have hv := days_1900 (y := y) (m := r.mo) (d := r.dn) ⟨by omega, by omega, o.m1, o.m2, by omega, by omega⟩ a1 a2
    rw [if_pos k]; omega
  · rw [if_neg (by omega), if_pos k]
    have := downTo_bd (Civ.days y r.mo (Civ.mlen y r.mo)) r.dw (by omega) (by omega); omega
  · have hv := days_1900 (y := y) (m := r.mo) (d := r.dn) ⟨by omega, by omega, o.m1, o.m2, by omega, by omega⟩ a1 a2
    rw [if_neg (by omega), if_neg (by omega), if_pos k]
    have := upTo_bd (Civ.days y r.mo r.dn) r.dw b1 b2; omega
  · have hv := days_1900 (y := y) (m := r.mo) (d := r.dn) ⟨by omega, by omega, o.m1, o.m2, by omega, by omega⟩ a1 a2
    rw [if_neg (by omega), if_neg (by omega), if_neg (by omega)]
    have := downTo_bd (Civ.days y r.mo r.dn) r.dw b1 b2; omega

theorem RuBx.alloc {W : World} {B : Nat} {r : Ru} (h : RuBx W B r) (o : Obj) : RuBx (W.alloc o) B r := (Below.heap_alloc _ _ _ h.lt).trans h
theorem NbAt.alloc {W : World} {base : Nat} {v : Value} {l : List Nb} (h : NbAt W base v l) (o : Obj) : NbAt (W.alloc o) base v l := ⟨World.ownsRow.alloc h.row o, fun x hx => (h.bx x hx).alloc o⟩
theorem NbAt.below {W W' : World} {base : Nat} {v : Value} {l : List Nb} (h : NbAt W base v l) (hb : Below W.heap.size W W') : NbAt W' base v l :=
  ⟨own_keep h.row fun g e => hb.block g (World.ownsRow.lt h.row g e).2, fun x hx => (h.bx x hx).below hb⟩
/-- one moment more, of the rule of box b -/
theorem NbAt.snoc {W W' : World} {base : Nat} {v v' : Value} {l : List Nb} {x : Nb} {o : Obj} (h : NbAt W base v l) (hb : RuBx W x.2.2 x.2.1) (hown : W'.ownsRow base 136 2 v' (l.length + 1) (nbCells l ++ [.int .i64 x.1, .pointer (some ⟨x.2.2, 0, none⟩)])) (hg : (W.alloc o).grownBy W' v.ownBlock) : NbAt W' base v' (l ++ [x]) := by
  have hr := World.ownsRow.alloc h.row o
  have kp : ∀ b r, RuBx W b r → RuBx W' b r := fun b r hb => box_kept hr (hb.alloc o) (by decide) hg
  refine ⟨by rw [nbCells_snoc, List.length_append]; exact hown, fun y hy => ?_⟩
  rcases List.mem_append.1 hy with hy | hy
  · exact kp _ _ (h.bx y hy)
  · rw [List.mem_singleton.1 hy]; exact kp _ _ hb
structure MkR (rules : List Ru) (nm : ByteArray) (k : Nat) (Y : Int) (is : Bool) (l : List Nb) : Prop where
  y : Y = yearsOf (rules.take k) nm
  s : is = (rules.take k).any fun r => decide (r.nm = nm)
  l : Y ≤ 1500 → l.map (fun x => (x.1, x.2.1)) = nomsOf dayN (rules.take k) nm
theorem MkR.zero (rules : List Ru) (nm : ByteArray) : MkR rules nm 0 0 false [] := ⟨rfl, rfl, fun _ => rfl⟩
theorem MkR.skip {rules : List Ru} {nm : ByteArray} {k : Nat} {Y : Int} {is : Bool} {l : List Nb} (h : MkR rules nm k Y is l) (hk : k < rules.length) (hn : rules[k].nm ≠ nm) : MkR rules nm (k + 1) Y is l := by
  refine ⟨?_, ?_, fun hy => ?_⟩
  · rw [take_succ' _ _ hk, yearsOf_snoc, if_neg hn, Int.add_zero]; exact h.y
  · rw [take_succ' _ _ hk, List.any_append, ← h.s]; simp [hn]
  · rw [take_succ' _ _ hk, nomsOf_snoc, if_neg hn, List.append_nil]; exact h.l hy
theorem MkR.large {rules : List Ru} {nm : ByteArray} {k : Nat} {Y : Int} {is : Bool} {l : List Nb} (h : MkR rules nm k Y is l) (hk : k < rules.length) (hn : rules[k].nm = nm) (hy : 1500 < Y + (rules[k].yt - rules[k].yf + 1)) : MkR rules nm (k + 1) (Y + (rules[k].yt - rules[k].yf + 1)) true l := by
  refine ⟨?_, ?_, fun hy => by omega⟩
  · rw [take_succ' _ _ hk, yearsOf_snoc, if_pos hn, ← h.y]
  · rw [take_succ' _ _ hk, List.any_append]; simp [hn]
theorem MkR.more {rules : List Ru} {nm : ByteArray} {k : Nat} {Y : Int} {is : Bool} {l : List Nb} (h : MkR rules nm k Y is l) (hk : k < rules.length) (hn : rules[k].nm = nm) (hle : rules[k].yf ≤ rules[k].yt) (b C : Nat) (hC : (C : Int) = rules[k].yt - rules[k].yf + 1) : MkR rules nm (k + 1) (Y + (rules[k].yt - rules[k].yf + 1)) true (l ++ nomB rules[k] b C) := by
  refine ⟨?_, ?_, fun hy => ?_⟩
  · rw [take_succ' _ _ hk, yearsOf_snoc, if_pos hn, ← h.y]
  · rw [take_succ' _ _ hk, List.any_append]; simp [hn]
  · rw [take_succ' _ _ hk, nomsOf_snoc, if_pos hn, List.map_append, nomB_map _ _ _ hC, h.l (by omega)]
theorem MkR.len {rules : List Ru} {nm : ByteArray} {k : Nat} {Y : Int} {is : Bool} {l : List Nb} (h : MkR rules nm k Y is l) (ho : ∀ r ∈ rules, OkRu r) (hy : Y ≤ 1500) : (l.length : Int) = Y := by
  have e := congrArg List.length (h.l hy)
  rw [List.length_map] at e
  rw [e, h.y]
  exact nomsOf_len _ _ _ fun r hr => (ho r (List.mem_of_mem_take hr)).t1
end Go.Proofs.YtacogloheiendaaGreatDoor
namespace Go.Proofs.YtacogloheiendaaGreatDoor
open Go.RowKit Go.Joins Go.Sort
open Classical
set_option linter.unusedVariables false
set_option linter.unusedSimpArgs false

abbrev nle (x y : Int × Ru) : Bool := decide (x.1 ≤ y.1)
def srt (m : List (Int × Ru)) : List (Int × Ru) := m.mergeSort nle
def srtZ (m : List (Int × Ru)) : List ((Int × Ru) × Nat) := m.zipIdx.mergeSort (List.zipIdxLE nle)
theorem srtZ_fst (m : List (Int × Ru)) : (srtZ m).map (·.1) = srt m := List.mergeSort_zipIdx
theorem soList_map (m : List (Int × Ru)) : soList (m.map (·.1)) = (srtZ m).map fun p => (p.1.1, p.2) := by
  unfold soList tagged srtZ
  rw [List.zipIdx_map, List.map_mergeSort]
  · rfl
  · intro a _ b _
    show (if decide (a.1.1 ≤ b.1.1) then (if decide (b.1.1 ≤ a.1.1) then decide (a.2 ≤ b.2) else true) else false) = !elL (b.1.1, b.2) (a.1.1, a.2)
    unfold elL
    by_cases h1 : a.1.1 ≤ b.1.1
    · by_cases h2 : b.1.1 ≤ a.1.1
      · have e : a.1.1 = b.1.1 := by omega
        by_cases h3 : a.2 ≤ b.2
        · simp [e, h3]
        · simp [e, h3]; omega
      · simp [h1, h2]; omega
    · simp [h1]
def ptL (l : List Nb) (t : Nat) : Nat := (l[t]?.map (·.2.2)).getD 0
def nbM (l : List Nb) : List (Int × Ru) := l.map fun x => (x.1, x.2.1)
def nbT (l : List Nb) : List Nb := (srtZ (nbM l)).map fun p => (p.1.1, p.1.2, ptL l p.2)
theorem nbT_M (l : List Nb) : nbM (nbT l) = srt (nbM l) := by
  rw [← srtZ_fst]
  unfold nbT nbM
  rw [List.map_map]
  rfl
theorem nbT_len (l : List Nb) : (nbT l).length = l.length := by
  have e := congrArg List.length (nbT_M l)
  unfold srt at e
  rw [List.length_mergeSort] at e
  unfold nbM at e
  simpa using e
theorem srtZ_mem {m : List (Int × Ru)} {p : (Int × Ru) × Nat} (h : p ∈ srtZ m) : m[p.2]? = some p.1 := by
  have := (List.mem_mergeSort.1 h)
  exact List.mem_zipIdx_iff_getElem?.1 this
theorem nbT_mem {l : List Nb} {x : Nb} (h : x ∈ nbT l) : x ∈ l := by
  obtain ⟨p, hp, rfl⟩ := List.mem_map.1 h
  have e := srtZ_mem hp
  unfold nbM at e
  rw [List.getElem?_map] at e
  unfold ptL
  cases e2 : l[p.2]? with
  | none => rw [e2] at e; cases e
  | some y =>
    rw [e2] at e
    injection e with e
    rw [← e]
    exact List.mem_of_getElem? e2
/-- moments in a row, each with its rule's box -/
structure NbRd (W : World) (blk : Nat) (T : List Nb) : Prop where
  lt : blk < W.heap.size
  k : ∀ i (h : i < T.length), W.cell? ⟨blk, i * 2, none⟩ = some (.int .i64 T[i].1)
  p : ∀ i (h : i < T.length), W.cell? ⟨blk, i * 2 + 1, none⟩ = some (.pointer (some ⟨T[i].2.2, 0, none⟩))
  bx : ∀ x ∈ T, RuBx W x.2.2 x.2.1
theorem NbRd.below {W W' : World} {blk : Nat} {T : List Nb} (h : NbRd W blk T) (hb : Below W.heap.size W W') : NbRd W' blk T :=
  ⟨Nat.lt_of_lt_of_le h.lt hb.size, fun i hi => (hb.cell (p := ⟨blk, i * 2, none⟩) h.lt).trans (h.k i hi), fun i hi => (hb.cell (p := ⟨blk, i * 2 + 1, none⟩) h.lt).trans (h.p i hi), fun x hx => (h.bx x hx).below hb⟩
theorem nbCells_get : ∀ (l : List Nb) (i : Nat) (h : i < l.length), (nbCells l)[i * 2]? = some (.int .i64 l[i].1) ∧ (nbCells l)[i * 2 + 1]? = some (.pointer (some ⟨l[i].2.2, 0, none⟩))
  | [], i, h => by simp at h
  | x :: r, 0, _ => by simp [nbCells]
  | x :: r, i + 1, h => by
    have := nbCells_get r i (by simpa using h)
    have e : nbCells (x :: r) = [.int .i64 x.1, .pointer (some ⟨x.2.2, 0, none⟩)] ++ nbCells r := by simp [nbCells]
    rw [e]
    rw [List.getElem?_append_right (by simp; omega), List.getElem?_append_right (by simp; omega)]
    rw [show (i + 1) * 2 - [Value.int .i64 x.1, .pointer (some ⟨x.2.2, 0, none⟩)].length = i * 2 by simp; omega, show (i + 1) * 2 + 1 - [Value.int .i64 x.1, .pointer (some ⟨x.2.2, 0, none⟩)].length = i * 2 + 1 by simp; omega]
    simpa using this
theorem nbAt_so {W : World} {base g cap : Nat} {l : List Nb} (h : NbAt W base (.slice (some ⟨g, 0, none⟩) l.length cap) l) : SoW (ptL l) W g (tagged (l.map (·.1))).toArray W := by
  obtain ⟨h1, h2⟩ := h.row
  rcases h2 with ⟨h2, _⟩ | ⟨g', cap', cur, e2, hb, hg, hnc, hcm, hcs, htake⟩
  · cases h2
  · simp only [Value.slice.injEq, Option.some.injEq, Addr.mk.injEq, and_true, true_and] at e2
    obtain ⟨rfl, rfl⟩ := e2
    have hc : ∀ i u, (nbCells l)[i]? = some u → W.cell? ⟨g, i, none⟩ = some u := by
      intro i u hu
      rw [cell_of_row W g i cur _ (0, 0) hg]
      rw [← htake, List.getElem?_take] at hu
      split at hu
      · simpa using hu
      · cases hu
    have es : (tagged (l.map (·.1))).toArray.size = l.length := by simp [tagged]
    refine ⟨World.grownBy.refl _ _, ⟨fun i hi => ?_, fun i hi => ?_, fun i hi => by simp [World.frozen?, hg]⟩, (Array.getElem?_eq_some_iff.1 hg).1⟩
    · rw [hc _ _ (nbCells_get l i (by omega)).1, getElem!_pos _ i hi]
      simp [tagged]
    · rw [hc _ _ (nbCells_get l i (by omega)).2, getElem!_pos _ i hi]
      have : i < l.length := by omega
      simp [tagged, ptL, this]
theorem so_nbRd {W W' : World} {base g cap : Nat} {l : List Nb} {d' : Array El} (h : NbAt W base (.slice (some ⟨g, 0, none⟩) l.length cap) l) (hs : SoW (ptL l) W g d' W') (hp : PermIn 0 l.length (tagged (l.map (·.1))).toArray d') (ho : SoIn 0 l.length d') : NbRd W' g (nbT l) := by
  have e := so_list (l.map (·.1)) d' (by rw [List.length_map]; exact hp) (by rw [List.length_map]; exact ho)
  have em : l.map (·.1) = (nbM l).map (·.1) := by unfold nbM; rw [List.map_map]; rfl
  rw [em, soList_map] at e
  have es : d'.size = l.length := by
    have := congrArg List.length e
    rw [List.length_map, ← List.length_map (f := fun p : (Int × Ru) × Nat => ((p.1.1, p.1.2, ptL l p.2) : Nb))] at this
    have e2 := nbT_len l
    unfold nbT at e2
    rw [e2] at this
    simpa using this
  have hi : ∀ i (h : i < (nbT l).length), d'[i]!.1 = (nbT l)[i].1 ∧ ptL l d'[i]!.2 = (nbT l)[i].2.2 := by
    intro i hi
    have hil : i < d'.size := by rw [es, ← nbT_len]; exact hi
    have e3 : d'.toList[i]? = ((srtZ (nbM l)).map fun p => ((p.1.1, p.2) : El))[i]? := by rw [e]
    rw [List.getElem?_map] at e3
    have hz : i < (srtZ (nbM l)).length := by unfold nbT at hi; rwa [List.length_map] at hi
    have e4 : (nbT l)[i]? = some ((srtZ (nbM l))[i].1.1, (srtZ (nbM l))[i].1.2, ptL l (srtZ (nbM l))[i].2) := by
      unfold nbT
      rw [List.getElem?_map, List.getElem?_eq_getElem hz]
      rfl
    rw [List.getElem?_eq_getElem hi] at e4
    injection e4 with e4
    rw [List.getElem?_eq_getElem hz, Array.getElem?_toList, Array.getElem?_eq_getElem hil] at e3
    injection e3 with e3
    rw [e4]
    rw [getElem!_pos _ i hil, e3]
    exact ⟨rfl, rfl⟩
  refine ⟨hs.lt, fun i hi2 => ?_, fun i hi2 => ?_, fun x hx => ?_⟩
  · rw [← (hi i hi2).1]; exact hs.h.k i (by rw [es, ← nbT_len]; exact hi2)
  · rw [← (hi i hi2).2]; exact hs.h.p i (by rw [es, ← nbT_len]; exact hi2)
  · exact box_kept h.row (h.bx x (nbT_mem hx)) (by decide) hs.g
def tnC (x : Tn) : List Value := [.int .i64 x.a, .int .i64 x.s, .string x.lt]
def tnCells (l : List Tn) : List Value := l.flatMap tnC
theorem tnCells_snoc (l : List Tn) (x : Tn) : tnCells (l ++ [x]) = tnCells l ++ [.int .i64 x.a, .int .i64 x.s, .string x.lt] := by simp [tnCells, tnC]
theorem tnCells_get : ∀ (l : List Tn) (i : Nat) (h : i < l.length), (tnCells l)[i * 3]? = some (.int .i64 l[i].a) ∧ (tnCells l)[i * 3 + 1]? = some (.int .i64 l[i].s) ∧ (tnCells l)[i * 3 + 2]? = some (.string l[i].lt)
  | [], i, h => by simp at h
  | x :: r, 0, _ => by simp [tnCells, tnC]
  | x :: r, i + 1, h => by
    have := tnCells_get r i (by simpa using h)
    have e : tnCells (x :: r) = tnC x ++ tnCells r := by simp [tnCells]
    rw [e]
    have e3 : (tnC x).length = 3 := rfl
    rw [List.getElem?_append_right (by rw [e3]; omega), List.getElem?_append_right (by rw [e3]; omega), List.getElem?_append_right (by rw [e3]; omega), e3,
      show (i + 1) * 3 - 3 = i * 3 by omega, show (i + 1) * 3 + 1 - 3 = i * 3 + 1 by omega, show (i + 1) * 3 + 2 - 3 = i * 3 + 2 by omega]
    simpa using this
theorem infoTn : (Tryz.prog.info? 113).map (fun i => (i.zero, i.size, i.bytes)) = some (some (.agg #[.int .i64 0, .int .i64 0, .string ⟨#[]⟩]), 3, 32) := by kernel_rfl
theorem undTn : Tryz.prog.underlying 84 = some (.slice 113) := by kernel_rfl
/-- what turns.Make answers -/
def mkR (rules : List Ru) (nm : ByteArray) (off : Int) : Int × List Tn :=
  if (rules.any fun r => decide (r.nm = nm)) = false then (6, []) else if 1500 < yearsOf rules nm then (2, []) else
  match outF off 0 none (srt (nomsOf dayN rules nm)) with
  | none => (5, [])
  | some l => (0, l)
def MakePost (rules : List Ru) (nm : ByteArray) (off : Int) (w : World) (e : Ending) (w' : World) : Prop :=
  ∃ vo, e = .returned (.tuple #[vo, .int .i64 (mkR rules nm off).1]) ∧ w'.ownsRow w.heap.size 113 3 vo (mkR rules nm off).2.length (tnCells (mkR rules nm off).2) ∧ Below w.heap.size w w'
theorem MakePost.bad {rules : List Ru} {nm : ByteArray} {off : Int} {w w' : World} {c : Int} (h : mkR rules nm off = (c, [])) (hb : Below w.heap.size w w') : MakePost rules nm off w (.returned (.tuple #[.slice none 0 0, .int .i64 c])) w' := by
  refine ⟨_, by rw [h], by rw [h]; exact World.ownsRow_nil _ _ _ _, hb⟩
theorem MakePost.ok {rules : List Ru} {nm : ByteArray} {off : Int} {w w' : World} {l : List Tn} {vo : Value} (h : mkR rules nm off = (0, l)) (hr : w'.ownsRow w.heap.size 113 3 vo l.length (tnCells l)) (hb : Below w.heap.size w w') : MakePost rules nm off w (.returned (.tuple #[vo, .int .i64 0])) w' := by
  refine ⟨vo, by rw [h], by rw [h]; exact hr, hb⟩
theorem mkR_6 {rules : List Ru} {nm : ByteArray} {off : Int} (h : (rules.any fun r => decide (r.nm = nm)) = false) : mkR rules nm off = (6, []) := by unfold mkR; rw [if_pos h]
theorem mkR_2 {rules : List Ru} {nm : ByteArray} {off : Int} (h : (rules.any fun r => decide (r.nm = nm)) = true) (hy : 1500 < yearsOf rules nm) : mkR rules nm off = (2, []) := by unfold mkR; rw [if_neg (by rw [h]; simp), if_pos hy]
theorem mkR_5 {rules : List Ru} {nm : ByteArray} {off : Int} (h : (rules.any fun r => decide (r.nm = nm)) = true) (hy : ¬ 1500 < yearsOf rules nm) (ho : outF off 0 none (srt (nomsOf dayN rules nm)) = none) : mkR rules nm off = (5, []) := by unfold mkR; rw [if_neg (by rw [h]; simp), if_neg hy, ho]
theorem mkR_0 {rules : List Ru} {nm : ByteArray} {off : Int} {l : List Tn} (h : (rules.any fun r => decide (r.nm = nm)) = true) (hy : ¬ 1500 < yearsOf rules nm) (ho : outF off 0 none (srt (nomsOf dayN rules nm)) = some l) : mkR rules nm off = (0, l) := by unfold mkR; rw [if_neg (by rw [h]; simp), if_neg hy, ho]
theorem yearsOf_pos (nm : ByteArray) (rules : List Ru) (ho : ∀ r ∈ rules, OkRu r) (h : (rules.any fun r => decide (r.nm = nm)) = true) : 1 ≤ yearsOf rules nm := by
  induction rules with
  | nil => simp at h
  | cons x r ih =>
    have hx := ho x (List.mem_cons_self ..)
    have h0 := (yearsOf_bd nm r fun y hy => by have o := ho y (List.mem_cons_of_mem _ hy); exact ⟨o.f1, o.t1, o.t2⟩).1
    have t1 := hx.t1
    unfold yearsOf at *
    by_cases hn : x.nm = nm
    · rw [List.filter_cons_of_pos (by simpa using hn)]
      simp only [List.map_cons, List.sum_cons]
      omega
    · rw [List.filter_cons_of_neg (by simpa using hn)]
      exact ih (fun y hy => ho y (List.mem_cons_of_mem _ hy)) (by simpa [hn] using h)
/-- the last loop: what is still to come, and what there is -/
def OutR (off : Int) (S : List (Int × Ru)) (k : Nat) (save : Int) (out : List Tn) : Prop :=
  out.length = k ∧ outF off 0 none S = (outF off save (out.getLast?.map (·.a)) (S.drop k)).map (out ++ ·)
theorem OutR.zero (off : Int) (S : List (Int × Ru)) : OutR off S 0 0 [] := by
  refine ⟨rfl, ?_⟩
  show outF off 0 none S = (outF off 0 none S).map ([] ++ ·)
  cases outF off 0 none S <;> rfl
theorem OutR.done {off : Int} {S : List (Int × Ru)} {k : Nat} {save : Int} {out : List Tn} (h : OutR off S k save out) (hk : S.length ≤ k) : outF off 0 none S = some out := by
  rw [h.2, List.drop_eq_nil_of_le hk]
  show some (out ++ []) = _
  rw [List.append_nil]
theorem outF_cons (off save : Int) (last : Option Int) (x : Int × Ru) (r : List (Int × Ru)) : outF off save last (x :: r) = if (match last with | none => false | some m => decide (clkT off save x ≤ m)) = true then none else (outF off x.2.sv (some (clkT off save x)) r).map fun l => ⟨clkT off save x, x.2.sv, x.2.lt⟩ :: l := by
  cases last <;> rfl
theorem OutR.bad {off : Int} {S : List (Int × Ru)} {k : Nat} {save : Int} {out : List Tn} (h : OutR off S k save out) (hk : k < S.length) (h0 : 0 < k) (m : Tn) (hm : out[k - 1]? = some m) (hb : clkT off save S[k] ≤ m.a) : outF off 0 none S = none := by
  rw [h.2, List.drop_eq_getElem_cons hk]
  have e : out.getLast? = some m := by rw [List.getLast?_eq_getElem?, h.1]; exact hm
  rw [e]
  unfold outF
  simp [hb]
theorem OutR.more {off : Int} {S : List (Int × Ru)} {k : Nat} {save : Int} {out : List Tn} (h : OutR off S k save out) (hk : k < S.length) (hb : ∀ m, 0 < k → out[k - 1]? = some m → m.a < clkT off save S[k]) : OutR off S (k + 1) S[k].2.sv (out ++ [⟨clkT off save S[k], S[k].2.sv, S[k].2.lt⟩]) := by
  refine ⟨by rw [List.length_append, h.1]; rfl, ?_⟩
  rw [h.2, List.drop_eq_getElem_cons hk, List.getLast?_append]
  have hno : (match out.getLast?.map (·.a) with | none => false | some m => decide (clkT off save S[k] ≤ m)) = false := by
    by_cases h0 : 0 < k
    · have hl : k - 1 < out.length := by rw [h.1]; omega
      have hm : out[k - 1]? = some out[k - 1] := List.getElem?_eq_getElem hl
      have e : out.getLast? = some out[k - 1] := by rw [List.getLast?_eq_getElem?, show out.length - 1 = k - 1 by rw [h.1]]; exact hm
      rw [e]
      have := hb _ h0 hm
      simp
      omega
    · have : out = [] := List.eq_nil_of_length_eq_zero (by rw [h.1]; omega)
      subst this
      rfl
  have e1 : outF off save (out.getLast?.map (·.a)) (S[k] :: S.drop (k + 1)) = (outF off S[k].2.sv (some (clkT off save S[k])) (S.drop (k + 1))).map fun l => ⟨clkT off save S[k], S[k].2.sv, S[k].2.lt⟩ :: l := by
    rw [outF_cons, hno]
    simp
  rw [e1, Option.map_map]
  show _ = (outF off S[k].2.sv (some (clkT off save S[k])) (S.drop (k + 1))).map _
  congr 1
  funext l
  simp
theorem nomsOf_bd {rules : List Ru} (ho : ∀ r ∈ rules, OkRu r) (nm : ByteArray) : ∀ x ∈ nomsOf dayN rules nm, OkRu x.2 ∧ -3000000000 ≤ x.1 ∧ x.1 ≤ 5000000000 := by
  intro x hx
  unfold nomsOf at hx
  obtain ⟨r, hr, hx⟩ := List.mem_flatMap.1 hx
  have o := ho r (List.mem_filter.1 hr).1
  unfold nomOf at hx
  obtain ⟨i, hi, rfl⟩ := List.mem_map.1 hx
  have hi := List.mem_range.1 hi
  have hb := dayN_bd o (y := r.yf + (i : Int)) (by omega) (by omega)
  have a1 := o.a1
  have a2 := o.a2
  refine ⟨o, ?_, ?_⟩
  · show _ ≤ 86400 * _ + r.tm; omega
  · show 86400 * _ + r.tm ≤ _; omega
end Go.Proofs.YtacogloheiendaaGreatDoor
namespace Go.Proofs.YtacogloheiendaaGreatDoor
open Go.RowKit Go.Joins
open Classical
set_option linter.unusedVariables false
set_option linter.unusedSimpArgs false

def MakeSays : Prop := ∀ (rules : List Ru) (nm : ByteArray) (off : Int) (rv : Value) (w : World) (hR : RowsAt (fun r : Ru => (ruCells r).toList) 11 w.heap.size w rv rules) (ho : ∀ r ∈ rules, OkRu r) (hl : rules.length ≤ 40) (hf1 : -75600 ≤ off) (hf2 : off ≤ 75600),
    Calls Tryz.prog 52 #[rv, .string nm, .int .i64 off] w (MakePost rules nm off w)
/-- a book that may be: its rules may be -/
theorem bk_rules {b : Bk} (h : bkChk b = 0) : b.rules.length ≤ 40 ∧ ∀ r ∈ b.rules, OkRu r := by
  unfold bkChk at h
  split at h
  · cases h
  · rename_i h1
    split at h
    · exact absurd h (by assumption)
    · rename_i h2
      refine ⟨by omega, fun r hr => ru_ok ?_⟩
      exact (firstE_zero ruChk b.rules).1 (Classical.not_not.1 h2) r hr

theorem BookAt.base {B B' : Nat} {W : World} {rv zv lv : Value} {b : Bk} (h : BookAt B W rv zv lv b) (hB : B ≤ B') : BookAt B' W rv zv lv b :=
  ⟨h.r.mono hB, h.z.mono hB, fun z hz => (h.e z hz).mono hB, h.l.mono hB, h.rs, h.zs, h.ls⟩

theorem own_rowsT {W : World} {B : Nat} {v : Value} {l : List Tn} (h : W.ownsRow B 113 3 v l.length (tnCells l)) (hl : l.length ≤ 100000) : RowsAt tnC 3 W.heap.size W v l := by
  rcases h.2 with ⟨rfl, h0⟩ | ⟨g, cap, cur, rfl, hb, hg, hnc, hcm, hcs, htake⟩
  · have : l = [] := List.eq_nil_of_length_eq_zero h0
    subst this
    exact ⟨none, 0, rfl, ⟨by simp, by simp⟩, fun h => absurd rfl h⟩
  · have hc : ∀ i u, (tnCells l)[i]? = some u → W.cell? ⟨g, i, none⟩ = some u := by
      intro i u hu
      rw [cell_of_row W g i cur _ (0, 0) hg]
      rw [← htake, List.getElem?_take] at hu
      split at hu
      · simpa using hu
      · cases hu
    refine ⟨_, cap, rfl, ⟨by omega, hnc⟩, fun _ => ⟨g, 0, rfl, (Array.getElem?_eq_some_iff.1 hg).1, fun i hi j u hu => ?_⟩⟩
    obtain ⟨k1, k2, k3⟩ := tnCells_get l i hi
    rw [Nat.zero_add]
    match j, hu with
    | 0, hu => injection hu with hu; subst hu; exact hc _ _ k1
    | 1, hu => injection hu with hu; subst hu; exact hc _ _ k2
    | 2, hu => injection hu with hu; subst hu; exact hc _ _ k3
def lastB (off save : Int) (x : Int × Ru) (last : Option Int) : Bool := match last with | none => false | some m => decide (clkT off save x ≤ m)
theorem outF_some {off save : Int} {last : Option Int} {x : Int × Ru} {r : List (Int × Ru)} {l : List Tn} (h : outF off save last (x :: r) = some l) : lastB off save x last = false ∧ ∃ t, outF off x.2.sv (some (clkT off save x)) r = some t ∧ l = ⟨clkT off save x, x.2.sv, x.2.lt⟩ :: t := by
  have e : outF off save last (x :: r) = if lastB off save x last = true then none else (outF off x.2.sv (some (clkT off save x)) r).map fun l => ⟨clkT off save x, x.2.sv, x.2.lt⟩ :: l := outF_cons ..
  rw [e] at h
  by_cases hb : lastB off save x last = true
  · rw [if_pos hb] at h; cases h
  · rw [if_neg hb] at h
    cases e2 : outF off x.2.sv (some (clkT off save x)) r with
    | none => rw [e2] at h; cases h
    | some t =>
      rw [e2] at h
      simp only [Option.map_some, Option.some.injEq] at h
      exact ⟨by simpa using hb, t, rfl, h.symm⟩
theorem outF_len (off : Int) : ∀ (S : List (Int × Ru)) (save : Int) (last : Option Int) (l : List Tn), outF off save last S = some l → l.length = S.length := by
  intro S
  induction S with
  | nil => intro save last l h; unfold outF at h; injection h with h; subst h; rfl
  | cons x r ih =>
    intro save last l h
    obtain ⟨-, t, e, rfl⟩ := outF_some h
    simp [ih _ _ _ e]
theorem outF_rise (off : Int) : ∀ (S : List (Int × Ru)) (save : Int) (last : Option Int) (l : List Tn), outF off save last S = some l → (∀ m, last = some m → ∀ h : 0 < l.length, m < l[0].a) ∧ ∀ i (h : i + 1 < l.length), l[i].a < l[i + 1].a := by
  intro S
  induction S with
  | nil =>
    intro save last l h
    unfold outF at h
    injection h with h
    subst h
    exact ⟨fun m _ h => absurd h (by simp), fun i h => absurd h (by simp)⟩
  | cons x r ih =>
    intro save last l h
    obtain ⟨hno, t, e, rfl⟩ := outF_some h
    obtain ⟨h1, h2⟩ := ih _ _ _ e
    refine ⟨fun m hm _ => ?_, fun i hi => ?_⟩
    · subst hm
      simp [lastB] at hno
      simpa using hno
    · cases i with
      | zero => exact h1 _ rfl (by simpa using hi)
      | succ i => exact h2 i (by simpa using hi)
theorem srt_len (m : List (Int × Ru)) : (srt m).length = m.length := List.length_mergeSort ..
theorem mkR_len {rules : List Ru} (ho : ∀ r ∈ rules, OkRu r) (nm : ByteArray) (off : Int) : (mkR rules nm off).2.length ≤ 1500 ∧ ((mkR rules nm off).1 = 0 → ((mkR rules nm off).2.length : Int) = yearsOf rules nm) ∧ ((mkR rules nm off).1 ≠ 0 → (mkR rules nm off).2 = []) := by
  unfold mkR
  split
  · exact ⟨by simp, (fun h => by cases h), fun _ => rfl⟩
  · split
    · exact ⟨by simp, (fun h => by cases h), fun _ => rfl⟩
    · rename_i hy
      cases e : outF off 0 none (srt (nomsOf dayN rules nm)) with
      | none => exact ⟨by simp, (fun h => by cases h), fun _ => rfl⟩
      | some l =>
        have h1 := outF_len _ _ _ _ _ e
        rw [srt_len] at h1
        have h2 := nomsOf_len dayN nm rules fun r hr => (ho r hr).t1
        have h3 := (yearsOf_bd nm rules fun r hr => by have o := ho r hr; exact ⟨o.f1, o.t1, o.t2⟩).1
        exact ⟨by show l.length ≤ 1500; omega, fun _ => by show (l.length : Int) = _; omega, fun h => absurd rfl h⟩
theorem mkR_ok {rules : List Ru} {nm : ByteArray} {off : Int} (h : (mkR rules nm off).1 = 0) : outF off 0 none (srt (nomsOf dayN rules nm)) = some (mkR rules nm off).2 := by
  unfold mkR at h ⊢
  by_cases h1 : (rules.any fun r => decide (r.nm = nm)) = false
  · rw [if_pos h1] at h; cases h
  · rw [if_neg h1] at h ⊢
    by_cases h2 : 1500 < yearsOf rules nm
    · rw [if_pos h2] at h; cases h
    · rw [if_neg h2] at h ⊢
      cases e : outF off 0 none (srt (nomsOf dayN rules nm)) with
      | none => rw [e] at h; cases h
      | some l => rfl
def Rises (l : List Tn) : Prop := ∀ i (h : i + 1 < l.length), l[i].a < l[i + 1].a
theorem flat_get {α : Type} {cells : α → List Value} {k : Nat} (hk : ∀ x, (cells x).length = k) : ∀ (l : List α) (i : Nat) (h : i < l.length) (j : Nat), j < k → (l.flatMap cells)[i * k + j]? = (cells l[i])[j]?
  | [], i, h, _, _ => absurd h (by simp)
  | x :: r, 0, _, j, hj => by
    rw [List.flatMap_cons, Nat.zero_mul, Nat.zero_add, List.getElem?_append_left (by rw [hk]; exact hj)]
    rfl
  | x :: r, i + 1, h, j, hj => by
    have := flat_get hk r i (by simpa using h) j hj
    rw [List.flatMap_cons, List.getElem?_append_right (by rw [hk, Nat.add_mul]; omega), hk, show (i + 1) * k + j - k = i * k + j by rw [Nat.add_mul]; omega, this]
    rfl
theorem own_rowsG {α : Type} {cells : α → List Value} {k : Nat} (hk : ∀ x, (cells x).length = k) {W : World} {B : Nat} {T : TypeId} {v : Value} {l : List α} (h : W.ownsRow B T k v l.length (l.flatMap cells)) (hl : l.length ≤ 100000) : RowsAt cells k W.heap.size W v l := by
  rcases h.2 with ⟨rfl, h0⟩ | ⟨g, cap, cur, rfl, hb, hg, hnc, hcm, hcs, htake⟩
  · have : l = [] := List.eq_nil_of_length_eq_zero h0
    subst this
    exact ⟨none, 0, rfl, ⟨by simp, by simp⟩, fun h => absurd rfl h⟩
  · have hc : ∀ i u, (l.flatMap cells)[i]? = some u → W.cell? ⟨g, i, none⟩ = some u := by
      intro i u hu
      rw [cell_of_row W g i cur _ (0, 0) hg]
      rw [← htake, List.getElem?_take] at hu
      split at hu
      · simpa using hu
      · cases hu
    refine ⟨_, cap, rfl, ⟨by omega, hnc⟩, fun _ => ⟨g, 0, rfl, (Array.getElem?_eq_some_iff.1 hg).1, fun i hi j u hu => ?_⟩⟩
    rw [Nat.zero_add]
    have hj : j < k := by rw [← hk l[i]]; exact (List.getElem?_eq_some_iff.1 hu).1
    exact hc _ _ ((flat_get hk l i hi j hj).trans hu)

end Go.Proofs.YtacogloheiendaaGreatDoor
