/- slices.SortStableFunc at the rules' nominal times: symMerge. -/
import Derived.Test.YtlgdilpmdoofiaaDoorSoB
import Derived.Deep.DeepCutAuto
namespace Go.Proofs.YtlgdilpmdoofiaaDoor
open Go.RowKit Go.Sort
set_option linter.unusedVariables false
set_option linter.unusedSimpArgs false

structure SymF (a m b mid n lo r0 P : Nat) : Prop where
  m1 : 2 * mid ≤ a + b
  m2 : a + b ≤ 2 * mid + 1
  n1 : n = mid + m
  p1 : P + 1 = n
  c : (mid < m ∧ lo + b = n ∧ r0 = mid) ∨ (m ≤ mid ∧ lo = a ∧ r0 = m)
theorem symF_mk (a m b : Nat) (h1 : a < m) (h2 : m < b) : ∃ mid n lo r0 P, SymF a m b mid n lo r0 P := by
  by_cases h : (a + b) / 2 < m
  · exact ⟨(a + b) / 2, (a + b) / 2 + m, (a + b) / 2 + m - b, (a + b) / 2, (a + b) / 2 + m - 1, by omega, by omega, rfl, by omega, Or.inl ⟨h, by omega, rfl⟩⟩
  · exact ⟨(a + b) / 2, (a + b) / 2 + m, a, m, (a + b) / 2 + m - 1, by omega, by omega, rfl, by omega, Or.inr ⟨by omega, rfl, rfl⟩⟩
theorem sym_mono {a m b mid n lo r0 P : Nat} (hf : SymF a m b mid n lo r0 P) (h1 : a < m) (h2 : m < b) {d : Array El} (hs1 : SoIn a m d) (hs2 : SoIn m b d) (c : Nat) (c1 : lo ≤ c) (c2 : c < r0) :
    (¬ d[P - c]!.1 < d[c]!.1 → ∀ q, lo ≤ q → q < c + 1 → ¬ d[P - q]!.1 < d[q]!.1) ∧ (d[P - c]!.1 < d[c]!.1 → ∀ q, c ≤ q → q < r0 → d[P - q]!.1 < d[q]!.1) := by
  obtain ⟨g1, g2, g3, g4, g5⟩ := hf
  refine ⟨fun h q q1 q2 => ?_, fun h q q1 q2 => ?_⟩
  · have e1 := so_le hs1 (i := q) (j := c) (by omega) (by omega) (by omega)
    have e2 := so_le hs2 (i := P - c) (j := P - q) (by omega) (by omega) (by omega)
    unfold elLe at e1 e2; omega
  · have e1 := so_le hs1 (i := c) (j := q) (by omega) (by omega) (by omega)
    have e2 := so_le hs2 (i := P - q) (j := P - c) (by omega) (by omega) (by omega)
    unfold elLe at e1 e2; omega
theorem sym_split {a m b mid n lo r0 P s : Nat} (hf : SymF a m b mid n lo r0 P) (h1 : a < m) (h2 : m < b) {d : Array El} (s1 : lo ≤ s) (s2 : s ≤ r0) (hlo : ∀ q, lo ≤ q → q < s → ¬ d[P - q]!.1 < d[q]!.1) (hhi : ∀ q, s ≤ q → q < r0 → d[P - q]!.1 < d[q]!.1) : mid = (a + b) / 2 ∧ Split a m b s d := by
  obtain ⟨g1, g2, g3, g4, g5⟩ := hf
  have em : mid = (a + b) / 2 := by omega
  refine ⟨em, h1, h2, by omega, by omega, by omega, by omega, fun k1 k2 => ?_, fun k1 k2 => ?_⟩
  · have := hlo (s - 1) (by omega) (by omega)
    rw [show P - (s - 1) = (a + b) / 2 + m - s from by omega] at this
    omega
  · have := hhi s (Nat.le_refl _) (by omega)
    rwa [show P - s = (a + b) / 2 + m - 1 - s from by omega] at this

def afterReg (n : Nat) : Code → Option Code
  | .seq a b => match a with
    | .region k _ _ => if k = n then some b else afterReg n b
    | _ => match afterReg n a with
      | some c => some c
      | none => afterReg n b
  | .block _ c => afterReg n c
  | .loop c => afterReg n c
  | .scope c => afterReg n c
  | .cond _ a b => match afterReg n a with
    | some c => some c
    | none => afterReg n b
  | _ => none
def headIf : Code → Nat
  | .seq (.region k _ _) (.cond _ _ _) => k
  | _ => 0
def afterIf (n : Nat) : Code → Option Code
  | .seq a b => if headIf a = n then some b else match afterIf n a with
      | some c => some c
      | none => afterIf n b
  | .block _ c => afterIf n c
  | .loop c => afterIf n c
  | .scope c => afterIf n c
  | .cond _ a b => match afterIf n a with
    | some c => some c
    | none => afterIf n b
  | _ => none
noncomputable def symE1 : Code := (Tryd.f113.body.bind (afterReg 38)).getD .skip
noncomputable def symE2 : Code := (Tryd.f113.body.bind (afterIf 39)).getD .skip
noncomputable def symE3 : Code := (Tryd.f113.body.bind (afterIf 41)).getD .skip
def SymIH (pt : Nat → Nat) (w0 : World) (blk cap a b n : Nat) : Prop := ∀ (a' m' b' : Nat) (d' : Array El) (W' : World), b' - a' < b - a → SoW pt w0 blk d' W' → d'.size = n → a' < m' → m' < b' → b' ≤ n → SoIn a' m' d' → SoIn m' b' d' → TagLt a' m' b' d' →
      Calls Tryd.prog 113 #[.slice (some ⟨blk, 0, none⟩) n cap, .int .i64 a', .int .i64 m', .int .i64 b', .func (.func 61) #[] #[]] W' fun e w' => e = .returned (.tuple #[]) ∧ ∃ d'', SoW pt w0 blk d'' w' ∧ d''.size = n ∧ PermIn a' b' d' d'' ∧ SoIn a' b' d''

set_option maxRecDepth 1000000 in
set_option maxHeartbeats 8000000 in
theorem symT3 (pt : Nat → Nat) (w0 : World) (blk cap a m b mid r E : Nat) (d d1 d2 : Array El) (wr : World) (hsz : d.size ≤ 4000000) (ham : a + 1 < m) (hmb : m + 1 < b) (hb : b ≤ d.size) (k1 : a ≤ r) (k2 : r ≤ m) (k3 : r ≤ mid) (E1 : E + r ≤ mid + m) (E1p : mid + m ≤ E + r) (E2 : E ≤ b) (E3 : mid ≤ E) (M1 : a < mid) (M2 : mid < b) (hih : SymIH pt w0 blk cap a b d.size) (h1 : d1.size = d.size ∧ PermIn a b d d1) (hv : Halves a mid b r E d1) (h2 : SoW pt w0 blk d2 wr ∧ d2.size = d.size ∧ PermIn a mid d1 d2 ∧ SoIn a mid d2)
    (u5 u6 u7 u8 u9 u10 u11 u12 u13 u14 u15 u16 u17 u19 u21 u22 u23 u25 u26 u27 u28 u29 u30 u31 u32 u33 u34 u35 u36 u37 u38 u39 u40 u41 u42 u43 u44 u45 u46 u47 u48 u49 u50 u51 u52 u53 u54 u55 u56 u57 u58 u59 u60 u61 u62 u63 u64 u65 u66 u67 u68 u69 u70 u71 u72 u73 u74 u75 u76 u77 u78 u79 u80 u81 u82 u83 u84 u85 u86 u87 u88 u89 u90 u91 u92 u93 u94 u95 u96 u97 u98 u99 u100 u101 u102 u103 u104 u105 u106 u107 u108 u109 u110 u111 u112 u113 u114 u115 u116 u117 u118 u119 u120 u121 u122 u123 u124 u125 u126 u127 u128 u129 u130 u131 u132 u133 u134 u135 u136 u137 u138 u139 u140 u141 u142 u143 u144 u145 u146 u147 u148 u149 u150 u151 u152 u153 u154 u155 u156 u157 u158 u159 u160 u161 u162 u163 u164 u165 u166 u167 u168 u169 u170 u171 u172 u173 u174 u175 u176 u177 u178 u179 u180 u181 u182 u183 u184 u185 u186 u187 u188 u189 u190 u191 u192 u193 u194 u195 u196 u197 u198 u199 u200 u201 u202 u203 u204 u205 u206 u207 u208 u209 u210 u211 u212 u213 u214 u215 u216 u217 u218 u219 : Value) :
    Code.wp Tryd.prog symE3 (bodyPost Tryd.prog Tryd.f113 fun e w' => e = .returned (.tuple #[]) ∧ ∃ d', SoW pt w0 blk d' w' ∧ d'.size = d.size ∧ PermIn a b d d' ∧ SoIn a b d') ⟨List.toArray ((.slice (some ⟨blk, 0, none⟩) d.size cap) :: (.int .i64 a) :: (.int .i64 m) :: (.int .i64 b) :: (.func (.func 61) #[] #[]) :: u5 :: u6 :: u7 :: u8 :: u9 :: u10 :: u11 :: u12 :: u13 :: u14 :: u15 :: u16 :: u17 :: (.int .i64 mid) :: u19 :: (.int .i64 r) :: u21 :: u22 :: u23 :: (.int .i64 E) :: u25 :: u26 :: u27 :: u28 :: u29 :: u30 :: u31 :: u32 :: u33 :: u34 :: u35 :: u36 :: u37 :: u38 :: u39 :: u40 :: u41 :: u42 :: u43 :: u44 :: u45 :: u46 :: u47 :: u48 :: u49 :: u50 :: u51 :: u52 :: u53 :: u54 :: u55 :: u56 :: u57 :: u58 :: u59 :: u60 :: u61 :: u62 :: u63 :: u64 :: u65 :: u66 :: u67 :: u68 :: u69 :: u70 :: u71 :: u72 :: u73 :: u74 :: u75 :: u76 :: u77 :: u78 :: u79 :: u80 :: u81 :: u82 :: u83 :: u84 :: u85 :: u86 :: u87 :: u88 :: u89 :: u90 :: u91 :: u92 :: u93 :: u94 :: u95 :: u96 :: u97 :: u98 :: u99 :: u100 :: u101 :: u102 :: u103 :: u104 :: u105 :: u106 :: u107 :: u108 :: u109 :: u110 :: u111 :: u112 :: u113 :: u114 :: u115 :: u116 :: u117 :: u118 :: u119 :: u120 :: u121 :: u122 :: u123 :: u124 :: u125 :: u126 :: u127 :: u128 :: u129 :: u130 :: u131 :: u132 :: u133 :: u134 :: u135 :: u136 :: u137 :: u138 :: u139 :: u140 :: u141 :: u142 :: u143 :: u144 :: u145 :: u146 :: u147 :: u148 :: u149 :: u150 :: u151 :: u152 :: u153 :: u154 :: u155 :: u156 :: u157 :: u158 :: u159 :: u160 :: u161 :: u162 :: u163 :: u164 :: u165 :: u166 :: u167 :: u168 :: u169 :: u170 :: u171 :: u172 :: u173 :: u174 :: u175 :: u176 :: u177 :: u178 :: u179 :: u180 :: u181 :: u182 :: u183 :: u184 :: u185 :: u186 :: u187 :: u188 :: u189 :: u190 :: u191 :: u192 :: u193 :: u194 :: u195 :: u196 :: u197 :: u198 :: u199 :: u200 :: u201 :: u202 :: u203 :: u204 :: u205 :: u206 :: u207 :: u208 :: u209 :: u210 :: u211 :: u212 :: u213 :: u214 :: u215 :: u216 :: u217 :: u218 :: u219 :: []), []⟩ wr := by
  have IH := Lib.hid hih
  have fin : Hid (∀ d3 w', SoW pt w0 blk d3 w' → PermIn mid b d2 d3 → SoIn mid b d3 → ∃ d', SoW pt w0 blk d' w' ∧ d'.size = d.size ∧ PermIn a b d d' ∧ SoIn a b d') := by
    show ∀ d3 w', _
    intro d3 w' g1 g2 g3
    have hj := so_join (d := d1) (by omega) (by omega) (by rw [h1.1]; exact hb) hv.x h2.2.2.1 h2.2.2.2 g2 g3
    exact ⟨d3, g1, g2.1.trans h2.2.1, permIn_trans _ _ _ _ _ h1.2 hj.2, hj.1⟩
  have hmr : SoIn mid E d2 ∧ SoIn E b d2 ∧ TagLt mid E b d2 :=
    ⟨perm_so h2.2.2.1 (by omega) hv.r1, perm_so h2.2.2.1 (by omega) hv.r2, perm_tag h2.2.2.1 (by rw [h1.1]; omega) (by omega) hv.rt⟩
  have HMR := Lib.hid hmr
  have H2 := Lib.hid h2
  clear hmr h1 hv h2 hih
  conv => arg 2; whnf
  go_upto_region 43 with fail
  go_cut [213] (fun sx wx => sx = .bool (decide (mid < E ∧ E < b)) ∧ wx = wr)
  case first =>
    by_cases d1 : mid < E
    · have z1 : (mid : Int) < (E : Int) := by omega
      by_cases d2 : E < b
      · have z2 : (E : Int) < (b : Int) := by omega
        go_wp2_with fail
        go_meet
        exact ⟨by simp [d1, d2], rfl⟩
      · have z2 : ¬ (E : Int) < (b : Int) := by omega
        go_wp2_with fail
        go_meet
        exact ⟨by simp [d1, d2], rfl⟩
    · have z1 : ¬ (mid : Int) < (E : Int) := by omega
      go_wp2_with fail
      go_meet
      exact ⟨by simp [d1], rfl⟩
  case rest =>
  obtain ⟨rfl, rfl⟩ := hcut
  by_cases dd : mid < E ∧ E < b
  · have hr := IH.out mid E b d2 wc (by omega) H2.out.1 H2.out.2.1 dd.1 dd.2 (by omega) HMR.out.1 HMR.out.2.1 HMR.out.2.2
    have HR := Lib.hid hr
    clear hr
    have zd : decide (mid < E ∧ E < b) = true := decide_eq_true dd
    rw [zd]
    clear zd
    go_wp2_with (first | (go_at_call 113; refine HR.out.mono ?_; rintro e w' ⟨rfl, d3, hS1, hz1, hp1, hr1⟩; have HQ := Lib.hid (And.intro hS1 (And.intro hz1 (And.intro hp1 hr1))); clear hS1 hz1 hp1 hr1))
    go_end0
    exact ⟨rfl, fin.out d3 w' HQ.out.1 HQ.out.2.2.1 HQ.out.2.2.2⟩
  · have zd : decide (mid < E ∧ E < b) = false := decide_eq_false dd
    rw [zd]
    clear zd
    go_wp2_with fail
    go_end0
    refine ⟨rfl, fin.out d2 wc H2.out.1 (permIn_refl _ _ _) ?_⟩
    by_cases e1 : mid = E
    · have := HMR.out.2.1; rwa [← e1] at this
    · have := HMR.out.1; rwa [show E = b from by omega] at this
end Go.Proofs.YtlgdilpmdoofiaaDoor
