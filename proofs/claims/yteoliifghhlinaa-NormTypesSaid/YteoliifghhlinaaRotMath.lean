/- NormTypes: plain Lean. A table whose types stand twice over and turned says the same. -/
import Derived.Test.YteoliifghhlinaaNormMath
namespace Go.Proofs.Yteoliifghhlinaa
open Classical
set_option linter.unusedVariables false
set_option linter.unusedSimpArgs false

/-- type i of the turned ones -/
noncomputable def rotF (T : List Ty) (k i : Nat) : Ty := tyD T (((i + T.length - k) % T.length : Nat) : Int)
noncomputable def rotL (T : List Ty) (k m : Nat) : List Ty := (List.range m).map (rotF T k)
def rotC (n k : Nat) (i : Nat) (c : Ch) : Ch := ⟨c.t, (((c.k.toNat + k) % n + n * (i % 2) : Nat) : Int)⟩
def rotCs (n k : Nat) (l : List Ch) : List Ch := l.mapIdx (rotC n k)
noncomputable def rotT (t : Tab) (k : Nat) : Tab :=
  ⟨rotL t.types k t.types.length ++ rotL t.types k t.types.length, (((t.first.toNat + k) % t.types.length + t.types.length : Nat) : Int), rotCs t.types.length k t.chs⟩

theorem rotL_len (T : List Ty) (k m : Nat) : (rotL T k m).length = m := by simp [rotL]
theorem rotL_succ (T : List Ty) (k m : Nat) : rotL T k (m + 1) = rotL T k m ++ [rotF T k m] := by simp [rotL, List.range_succ]
theorem rotCs_len (n k : Nat) (l : List Ch) : (rotCs n k l).length = l.length := by simp [rotCs]
theorem rotCs_snoc (n k : Nat) (l : List Ch) (c : Ch) : rotCs n k (l ++ [c]) = rotCs n k l ++ [rotC n k l.length c] := by simp [rotCs]
theorem rot_back (n k c : Nat) (hk : k < n) (hc : c < n) : ((c + k) % n + n - k) % n = c := by
  by_cases h : c + k < n
  · rw [Nat.mod_eq_of_lt h, show c + k + n - k = c + n by omega, Nat.add_mod_right, Nat.mod_eq_of_lt hc]
  · have h2 : (c + k) % n = c + k - n := by rw [Nat.mod_eq_sub_mod (by omega), Nat.mod_eq_of_lt (by omega)]
    rw [h2, show c + k - n + n - k = c by omega, Nat.mod_eq_of_lt hc]
theorem rotL_get (T : List Ty) (k m i : Nat) (h : i < m) : (rotL T k m)[i]? = some (rotF T k i) := by
  simp [rotL, List.getElem?_map, List.getElem?_range, h]
theorem rot_ty (t : Tab) (k c b : Nat) (hk : k < t.types.length) (hc : c < t.types.length) (hb : b < 2) :
    tyD (rotT t k).types (((c + k) % t.types.length + t.types.length * b : Nat) : Int) = tyD t.types (c : Int) := by
  have hm : (c + k) % t.types.length < t.types.length := Nat.mod_lt _ (by omega)
  have hb' : (rotL t.types k t.types.length).length = t.types.length := rotL_len _ _ _
  have hf : rotF t.types k ((c + k) % t.types.length) = tyD t.types (c : Int) := by
    unfold rotF
    rw [rot_back _ _ _ hk hc]
  show tyD (rotL t.types k t.types.length ++ rotL t.types k t.types.length) _ = _
  rw [← hf]
  unfold tyD
  rw [show (((c + k) % t.types.length + t.types.length * b : Nat) : Int).toNat = (c + k) % t.types.length + t.types.length * b by omega]
  obtain rfl | rfl : b = 0 ∨ b = 1 := by omega
  · rw [Nat.mul_zero, Nat.add_zero, List.getElem?_append_left (by omega), rotL_get _ _ _ _ hm]; rfl
  · rw [Nat.mul_one, List.getElem?_append_right (by omega), hb', Nat.add_sub_cancel, rotL_get _ _ _ _ hm]; rfl
theorem rot_resH (t : Tab) (ok : OkTab t) (k : Nat) (hk : k < t.types.length) : resH (rotT t k) = resH t := by
  have h := ok.first
  have := rot_ty t k t.first.toNat 1 hk (by omega) (by omega)
  rw [Nat.mul_one, show ((t.first.toNat : Nat) : Int) = t.first by omega] at this
  exact this
theorem rot_resL (t : Tab) (ok : OkTab t) (k : Nat) (hk : k < t.types.length) : resL (rotT t k) = resL t := by
  unfold resL
  refine List.ext_getElem (by simp [rotT, rotCs]) fun i h1 h2 => ?_
  have hi : i < t.chs.length := by simpa using h2
  have hc := ok.ch t.chs[i] (List.getElem_mem _)
  have h := rot_ty t k t.chs[i].k.toNat (i % 2) hk (by omega) (by omega)
  rw [show ((t.chs[i].k.toNat : Nat) : Int) = t.chs[i].k by omega] at h
  have e : (rotT t k).chs[i]'(by simpa using h1) = rotC t.types.length k i t.chs[i] := by simp [rotT, rotCs]
  rw [List.getElem_map, List.getElem_map, e]
  show (t.chs[i].t, _) = _
  rw [← h]; rfl
theorem rot_norm (t : Tab) (ok : OkTab t) (k : Nat) (hk : k < t.types.length) : normT (rotT t k) = normT t :=
  normT_res (rot_resH t ok k hk) (rot_resL t ok k hk)
theorem rotF_mem (T : List Ty) (k i : Nat) (h : 0 < T.length) : rotF T k i ∈ T :=
  tyD_mem _ _ (by omega) (by have := Nat.mod_lt (i + T.length - k) h; omega)
theorem rotL_mem (T : List Ty) (k m : Nat) (h : 0 < T.length) : ∀ x ∈ rotL T k m, x ∈ T := by
  intro x hx
  obtain ⟨i, -, rfl⟩ := List.mem_map.1 hx
  exact rotF_mem T k i h
theorem rot_ok (t : Tab) (ok : OkTab t) (k : Nat) (hk : k < t.types.length) (h100 : t.types.length ≤ 100) : OkTab (rotT t k) := by
  have hl : (rotT t k).types.length = t.types.length + t.types.length := by simp [rotT, rotL_len]
  have hcl : (rotT t k).chs.length = t.chs.length := rotCs_len _ _ _
  have hm : ∀ c, (c + k) % t.types.length < t.types.length := fun c => Nat.mod_lt _ (by omega)
  have hget : ∀ (i : Nat) (h : i < (rotT t k).chs.length), (rotT t k).chs[i] = rotC t.types.length k i (t.chs[i]'(by omega)) := by
    intro i h; simp [rotT, rotCs]
  refine ⟨fun e => ?_, by omega, by have := ok.chs; omega, fun x hx => ok.type x ?_, ⟨Int.natCast_nonneg _, ?_⟩, fun c hc => ?_, ?_⟩
  · rw [e] at hl; simp at hl; omega
  · rcases List.mem_append.1 hx with h | h <;> exact rotL_mem _ _ _ (by omega) x h
  · have := hm t.first.toNat
    rw [hl]
    show (((t.first.toNat + k) % t.types.length + t.types.length : Nat) : Int) < _
    omega
  · obtain ⟨i, hi, rfl⟩ := List.getElem_of_mem hc
    rw [hget i hi]
    have h := ok.ch (t.chs[i]'(by omega)) (List.getElem_mem _)
    refine ⟨h.1, h.2.1, Int.natCast_nonneg _, ?_⟩
    rw [hl]
    have := hm (t.chs[i]'(by omega)).k.toNat
    show ((((t.chs[i]'(by omega)).k.toNat + k) % t.types.length + t.types.length * (i % 2) : Nat) : Int) < _
    have hb : i % 2 = 0 ∨ i % 2 = 1 := by omega
    rcases hb with hb | hb <;> rw [hb] <;> omega
  · rw [List.pairwise_iff_getElem]
    intro i j hi hj hij
    rw [hget i hi, hget j hj]
    exact List.pairwise_iff_getElem.1 ok.rise i j (by omega) (by omega) hij

/-- what Go's '%' gives there -/
theorem rot_idx (i n k : Nat) (hk : k ≤ n) : ((i : Int) + n - k).tmod n = (((i + n - k) % n : Nat) : Int) := by
  rw [show (i : Int) + n - k = ((i + n - k : Nat) : Int) by omega]
  exact (Int.ofNat_tmod _ _).symm
theorem rot_new (c : Int) (n k : Nat) (hc : 0 ≤ c) : (c + k).tmod n = (((c.toNat + k) % n : Nat) : Int) := by
  rw [show c + (k : Int) = ((c.toNat + k : Nat) : Int) by omega]
  exact (Int.ofNat_tmod _ _).symm
theorem two_idx (i : Nat) : ((i : Int)).tmod 2 = ((i % 2 : Nat) : Int) := (Int.ofNat_tmod _ _).symm
end Go.Proofs.Yteoliifghhlinaa
