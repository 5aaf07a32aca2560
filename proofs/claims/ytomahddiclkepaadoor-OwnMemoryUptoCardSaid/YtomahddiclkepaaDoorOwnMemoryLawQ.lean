/- OwnMemory: the given statement, out of its walk. No condition. -/
import Derived.Test.YtomahddiclkepaaDoorQo01
import Derived.Test.YtomahddiclkepaaDoorQo09
import Derived.Test.YtomahddiclkepaaDoorQo10
namespace Go.Proofs.YtomahddiclkepaaDoor.ownMemory
open Go.ChangeShapes Go.WideShapes Go.ChangeAt Go.RowKit Go.Joins
open Go.ChangeMaps (setBlock shut_map_nil open_string shut_string keptBut_setBlock frozen?_setBlock heap_setBlock_same)
set_option linter.unusedVariables false

theorem laid_met (os : Os) (args : Array Value) : laidMetH Tryd.prog Rows.ownMemoryUptoRow.laid ((World.doorLaid Tryd.prog 72 os).forCall (fun _ _ => 0) ⟨#[], args, []⟩).memory :=
  laidMetH_of_parts3 (fuel := 8) (laidMet_of_run' 8 (by kernel_rfl) (by kernel_rfl)) (by kernel_rfl) (by kernel_rfl)
theorem reads (os : Os) {H : Type} (enc : TypeId × Value → H) : ∃ places, DataW.whole enc Tryd.prog ((World.doorLaid Tryd.prog 72 os).forCall (fun _ _ => 0) ⟨#[], #[.agg #[.slice none 0 0, .slice none 0 0, .slice none 0 0], .agg #[.slice none 0 0, .int .i64 0, .slice none 0 0], .string ByteArray.empty], []⟩).memory Tryd.f3.params.toList Rows.ownMemorySpec.vars false #[(.agg #[.slice none 0 0, .slice none 0 0, .slice none 0 0] : Value), (.agg #[.slice none 0 0, .int .i64 0, .slice none 0 0] : Value), (.string ByteArray.empty : Value)].toList 8 = some ([.agg [.nil, .nil, .nil], .agg [.nil, .lit (.int .i64 0), .nil], .lit (.string [])], [], places) := ⟨[], by kernel_rfl⟩
set_option maxRecDepth 100000 in
theorem lifted (os : Os) (started : os.Started) (H : Type) (enc : TypeId × Value → H) (F : Stop.Interp) :
    ReturnsInHanded {} Tryd.checked os 3 .any ((Rows.OpenSpec.upto Rows.ownMemorySpec).preRow enc Tryd.prog Tryd.f3 Rows.ownMemoryUptoRow.domain false Rows.ownMemoryUptoRow.laid) (((Rows.OpenSpec.upto Rows.ownMemorySpec).at F).post enc Tryd.prog Tryd.f3 false true false false) := by
  obtain ⟨x, hx⟩ := reads os enc
  refine returnsInHanded_of_row (C := Tryd.checked) (s := Rows.OpenSpec.upto Rows.ownMemorySpec) own started (by kernel_rfl) Tryd.func3
    (witness_row_atRef (enc := enc) (C := Tryd.checked) false (World.doorLaid Tryd.prog 72 os) #[.agg #[.slice none 0 0, .slice none 0 0, .slice none 0 0], .agg #[.slice none 0 0, .int .i64 0, .slice none 0 0], .string ByteArray.empty] rfl (by kernel_rfl) (by kernel_rfl) (by kernel_rfl)
      (OpenSpec.preRow_of_cond 8 hx (by kernel_rfl) (fun k hk => by cases hk; kernel_rfl) (by kernel_rfl) (laid_met os _))) ?_
  intro W base args ds gs before hval0 hW hcnd hcond hsz hLH hshape _
  have hL : laidMet Tryd.prog Rows.ownMemoryUptoRow.laid W := by rw [← MakeChecks.laidMetH_plain _ _ _ (by kernel_rfl)]; exact hLH
  clear hLH
  have hbk := bulks.bound (hcond _ rfl)
  have hval : ∀ (j : Nat) t v, Tryd.f3.params[j]? = some t → args[j]? = some v → Value.okWide Tryd.prog W .any base t v := hval0
  have hW' := hW
  obtain ⟨p, q, hA0, hV, rfl, hfz, hnd⟩ := hW
  have hA : DataW.TrodAll enc Tryd.prog W 0 (fun _ => true) true Tryd.f3.params.toList args.toList ds p := hA0
  have hAk := hA
  have hlt : ∀ x ∈ p, x.block < W.heap.size := fun x hx => hW'.lt x (List.mem_append_left _ hx)
  rw [Tryd.params3] at hA hval
  obtain ⟨v0, vs0, d0, ds0, p0, q0, hargs, rfl, hp0, h0, r0⟩ := trodAll_cons hA
  obtain ⟨v1, vs1, d1, ds1, p1, q1, rfl, rfl, hp1, h1, r1⟩ := trodAll_cons r0
  obtain ⟨v2, vs2, d2, ds2, p2, q2, rfl, rfl, hp2, h2, r2⟩ := trodAll_cons r1
  obtain ⟨rfl, rfl, hpe⟩ := trodAll_nil r2
  obtain rfl : args = #[v0, v1, v2] := by cases args; simp_all
  obtain ⟨rfl, rfl⟩ := trodVars_none hV
  obtain ⟨b0, rv0, zv0, lv0, rfl, m0, u0⟩ := Bk_openU (hval 0 26 v0 rfl rfl) h0 (szd_at hsz (j := 0) (t := 26) (by rw [Tryd.params3]; rfl) rfl)
  obtain ⟨t1, m1, u1, x1⟩ := TabAt_openU (hval 1 30 v1 rfl rfl) h1
  obtain ⟨a2, rfl, f2, _, w2⟩ := open_string Tryd.underlying9 (hval 2 9 v2 rfl rfl) h2
  have k2 : a2.size ≤ 1048576 := by
    have hm : DataW.lit (H := H) (.string a2.data.toList) ∈ [d0, d1, d2] := by rw [f2]; simp
    have h1 := bulks.part_le hm
    simp only [List.append_nil] at hbk
    rw [bulks.string_eq] at h1
    rw [Lib.size_eq]
    omega
  have q0 : (wasK b0.zones b0.zones.length).length ≤ 1048576 := by
    unfold wasK
    rw [List.take_length, List.length_flatMap]
    have := bulks.part_le (show d0 ∈ [d0, d1, d2] by simp)
    simp only [List.append_nil] at hbk
    omega
  have q1 : t1.types.length ≤ 1048576 ∧ t1.chs.length ≤ 1048576 := by
    have := bulks.part_le (show d1 ∈ [d0, d1, d2] by simp)
    simp only [List.append_nil] at hbk
    omega
  clear hval0 hA0
  refine (OwnMemory_walk b0 rv0 zv0 lv0 t1 v1 a2 W m0 q0 m1 q1 (Nat.le_trans k2 (by decide)) (maxLen_of hshape) (tab10_of hL)).mono fun e W' ⟨he, hg⟩ => ?_
  subst he
  exact ⟨_, rfl, post_of_below (pa := p) (pv := []) hW' (fun _ _ _ => (trodAll_cons_mk (shut_bool Tryd.underlying4 _) trodAll_mk0)) (fun sp hsp => trodAll_stays laidOut hg _ _ _ _ (by kernel_rfl) hlt (fun x hx => hsp x (List.mem_append_left _ hx)) hAk) (fun _ _ => rfl) rfl
    hg (ok_one (by kernel_rfl) rfl (okWide_bool_mk Tryd.underlying4 _))⟩

theorem over : Rows.OwnMemoryUptoSaid :=
  OpenClaim.holds_of_cond 3 Tryd.f3 rfl rfl rfl rfl rfl rfl rfl ⟨rfl, rfl, rfl, rfl, rfl⟩ rfl rfl rfl rfl rfl (by kernel_rfl) Tryd.func3 (by kernel_rfl)
    (of_decide_eq_true (by kernel_rfl)) (by unfold Func.isWrapper; first | (rw [if_pos (by decide +kernel)]; kernel_rfl) | (rw [if_neg (by decide +kernel)]; exact ⟨rfl, rfl⟩))
    (fun os started H enc _ F => by rw [OpenClaim.pre_eq_preRow]; exact lifted os started H enc F)

theorem plain (f : FuncId) (fn : Func) (hf : Tryd.pinned.checked.prog.funcNamed "timeball/timeballkeep.OwnMemory" = some f) (hfn : Tryd.pinned.checked.prog.funcs[f]? = some fn) :
    Rows.ownMemoryUptoCard.stood.looks = Tryd.pinned.checked.prog.looks [] ∧ ∀ (j : Nat) t, fn.params[j]? = some t → Tryd.pinned.checked.prog.wantsStandIn t = false := by
  obtain rfl : f = 3 := Option.some.inj ((show Tryd.prog.funcNamed "timeball/timeballkeep.OwnMemory" = some 3 by kernel_rfl).symm.trans hf) |>.symm
  obtain rfl : fn = Tryd.f3 := (Option.some.inj (Tryd.func3.symm.trans hfn)).symm
  refine ⟨by kernel_rfl, fun j t ht => ?_⟩
  have hall : (Tryd.f3.params.all fun t => Tryd.prog.wantsStandIn t == false) = true := by kernel_rfl
  have := Array.all_eq_true_iff_forall_mem.1 hall t (Array.mem_of_getElem? ht)
  exact eq_of_beq this

/-- THE STATEMENT: THE CARD -/
theorem proved : Rows.OwnMemoryUptoCardSaid :=
  Claim7.holds_tied_plain_at .later [] _ _ _ _ over (fun _ h => by cases h) (by kernel_rfl) (fun _ h => by cases h) ownMemoryUpto_row_tie rfl ⟨rfl, rfl⟩ (by kernel_rfl) rfl plain (by kernel_rfl)
#print axioms proved
end Go.Proofs.YtomahddiclkepaaDoor.ownMemory
