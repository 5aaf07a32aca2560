/- clock.ReadStamp: what it returns. -/
import Derived.Test.YtomijglabjficaaDoorAtoi
import Derived.Test.YtomijglabjficaaDoorClk3
import Derived.Test.YtomijglabjficaaDoorClk5
import Derived.Laws.OwnMore
namespace Go.Proofs.YtomijglabjficaaDoor
open Go.RowKit Go.Joins
set_option linter.unusedVariables false
set_option linter.unusedSimpArgs false

theorem sep_walk (W : World) (x : Nat) : FnGives Tryd.prog 39 #[] #[encR x] (.bool (sepP x)) W := by
  unfold FnGives
  show Calls Tryd.prog _ #[.int .i32 (x : Int)] W _
  by_cases h : x < 48
  · have e : sepP x = true := by unfold sepP; simp; omega
    have E := Lib.hid e
    clear e
    go_enter Tryd.func39, Tryd.ntmps39
    go_wp2
    go_ret
    exact ⟨ret_bool E.out.symm, 0, rfl⟩
  · by_cases h2 : 57 < x
    · have e : sepP x = true := by unfold sepP; simp; omega
      have E := Lib.hid e
      clear e
      go_enter Tryd.func39, Tryd.ntmps39
      go_wp2
      go_ret
      exact ⟨ret_bool (by rw [E.out]; simp; omega), 0, rfl⟩
    · have e : sepP x = false := by unfold sepP; simp; omega
      have E := Lib.hid e
      clear e
      go_enter Tryd.func39, Tryd.ntmps39
      go_wp2
      go_ret
      exact ⟨ret_bool (by rw [E.out]; simp; omega), 0, rfl⟩

theorem eg_sep : ∀ args w, (callFunc 39 args).run Tryd.prog w = .ok (.enter 39 args) w := enters_of Tryd.func39 (by kernel_rfl) rfl

/-- the pieces, as texts -/
def piecesT (l : List UInt8) : List (List UInt8) := (Lib.goFieldsP sepP (txt l)).map fun x => x.data.toList
theorem txt_of (s : ByteArray) : txt s.data.toList = s := rfl
theorem fields_any (l : List UInt8) (w : World) (hl : l.length ≤ 4294967296) :
    Calls Tryd.prog 38 #[.string (txt l), .func (.func 39) #[] #[]] w fun e w' => ∃ A, e = .returned (.slice (some ⟨A, 0, none⟩) (piecesT l).length (piecesT l).length) ∧ w.heap.size ≤ A ∧ A < w'.heap.size ∧
      (∀ j (h : j < (piecesT l).length), w'.cell? ⟨A, j, none⟩ = some (.string (txt ((piecesT l)[j]'h)))) ∧ Below w.heap.size w w' := by
  have hn : (piecesT l).length = (Lib.goFieldsP sepP (txt l)).length := by unfold piecesT; simp
  refine (Tryd.strings_FieldsFunc 39 #[] eg_sep sepP (txt l) w (by rw [txt_size]; exact hl) (fun W x _ => sep_walk W x)).mono ?_
  rintro e w' ⟨A, rfl, hA, hown, hb⟩
  refine ⟨A, by rw [hn], hA, ?_, ?_, hb⟩
  · rcases hown.2 with ⟨h, _⟩ | ⟨g, cap, cur, hv, _, hg, _⟩
    · cases h
    · cases hv
      exact (Array.getElem?_eq_some_iff.mp hg).1
  · intro j h
    have := hown.cellAt j (by omega)
    rw [this]
    simp [piecesT, txt_of]

theorem ReadStamp_len (l : List UInt8) (w : World) (hl : l.length ≤ 4294967296) (h6 : (piecesT l).length ≠ 6) :
    Calls Tryd.prog 21 #[.string (txt l)] w fun e w' => e = .returned (.tuple #[.int .i64 0, .int .i64 3]) ∧ Below w.heap.size w w' := by
  have HF := Lib.hid (fun W => fields_any l W hl)
  generalize txt l = S at HF
  generalize piecesT l = L at HF h6
  go_enter Tryd.func21, Tryd.ntmps21
  go_wp2_with fail
  refine (HF.out _).mono ?_
  rintro e w1 ⟨A, rfl, hA, hA2, hc, hb⟩
  have h6' : ¬ (L.length : Int) = 6 := by omega
  clear hc
  go_wp2
  go_ret2
  exact ⟨rfl, hb⟩

theorem heap_setC {w : World} {R i : Nat} {cs : Array Value} {T : TypeId} {f : Nat × Nat} (h : w.heap[R]? = some (.cells cs T f)) (v : Value) : (w.setCell ⟨R, i, none⟩ v).heap[R]? = some (.cells (cs.setIfInBounds i v) T f) := by
  simp [World.setCell, Array.getElem?_modify, h]
def arrV (V : Nat → Int) (k : Nat) : Array Value := #[.int .i64 (if 0 < k then V 0 else 0), .int .i64 (if 1 < k then V 1 else 0), .int .i64 (if 2 < k then V 2 else 0), .int .i64 (if 3 < k then V 3 else 0), .int .i64 (if 4 < k then V 4 else 0), .int .i64 (if 5 < k then V 5 else 0)]

theorem wrap64_bd (n : Int) : -9223372036854775808 ≤ wrap64 n ∧ wrap64 n ≤ 9223372036854775807 := by unfold wrap64; omega
/-- what six numbers give -/
def RdRes (l : List UInt8) (V : Nat → Int) (R : Int × Int) : Prop :=
  (validB (V 0) (V 1) (V 2) = false ∧ R = (0, 3)) ∨
  (Civ.valid (V 0) (V 1) (V 2) ∧ (60 < V 3 ∨ 60 < V 4 ∨ 60 < V 5) ∧ R = (0, 3)) ∨
  (Civ.valid (V 0) (V 1) (V 2) ∧ V 3 ≤ 60 ∧ V 4 ≤ 60 ∧ V 5 ≤ 60 ∧
    ∃ T : Int, T = wrap64 (wrap64 (wrap64 (86400 * Civ.days (V 0) (V 1) (V 2) + wrap64 (3600 * V 3)) + wrap64 (60 * V 4)) + V 5) ∧
      ((-135140 ≤ T / 86400 ∧ T / 86400 ≤ 157053 ∧ stampT T = l ∧ R = (T, 0)) ∨
       (-135140 ≤ T / 86400 ∧ T / 86400 ≤ 157053 ∧ stampT T ≠ l ∧ R = (0, 3)) ∨
       ((T / 86400 < -135140 ∨ 157053 < T / 86400) ∧ R = (0, 3))))

set_option maxRecDepth 100000 in
set_option maxHeartbeats 2000000 in
theorem ReadStamp_six (l : List UInt8) (R : Int × Int) (w : World) (hres : RdRes l (fun j => atoiV ((piecesT l).getD j [])) R) (hl : l.length ≤ 4294967296) (h6 : (piecesT l).length = 6) (hsm : ∀ x ∈ piecesT l, x.length ≤ 281474976710656) (ht : Tab10 w) (hn : NumErrs w) :
    Calls Tryd.prog 21 #[.string (txt l)] w fun e w' => e = .returned (.tuple #[.int .i64 R.1, .int .i64 R.2]) ∧ Below w.heap.size w w' := by
  have HF := Lib.hid (fun W => fields_any l W hl)
  have HT := Lib.hid ht
  have HN := Lib.hid hn
  clear ht hn
  unfold RdRes at hres
  obtain ⟨S, eS⟩ : ∃ S, txt l = S := ⟨_, rfl⟩
  rw [eS] at HF ⊢
  have ES := Lib.hid eS
  clear eS
  generalize piecesT l = L at HF h6 hsm hres
  simp only at hres
  go_enter Tryd.func21, Tryd.ntmps21
  go_wp2_with fail
  refine (HF.out _).mono ?_
  rintro e w1 ⟨A, rfl, hA, hA2, hc, hb⟩
  rw [h6]
  have HC := Lib.hid hc
  clear hc
  go_wp2_with fail
  go_loopw [20] (fun i wr => ∃ k : Nat, k ≤ 6 ∧ i = .int .i64 k ∧ wr.heap[w1.heap.size]? = some (.cells (arrV (fun j => atoiV (L.getD j [])) k) 57 (0, 0)) ∧ Below w1.heap.size w1 wr) (fun i _ => 6 - (intOf i).toNat)
  case atStart => exact ⟨0, by omega, by go_num, heap_alloc_new _ _, (Below.refl _ _).alloc (Nat.le_refl _) _⟩
  case round =>
    obtain ⟨k, hk, rfl, hB, hbw⟩ := hrel
    have HBW := Lib.hid hbw
    have hsz : w1.heap.size < wr.heap.size := (Array.getElem?_eq_some_iff.mp hB).1
    have hA3 : A < wr.heap.size := by omega
    clear hbw
    by_cases h6k : k = 6
    · subst h6k
      have q0 : wr.cell? ⟨w1.heap.size, 0, none⟩ = some (.int .i64 (atoiV (L.getD 0 []))) := (cell_of_row wr _ 0 _ _ _ hB).trans rfl
      have q1 : wr.cell? ⟨w1.heap.size, 1, none⟩ = some (.int .i64 (atoiV (L.getD 1 []))) := (cell_of_row wr _ 1 _ _ _ hB).trans rfl
      have q2 : wr.cell? ⟨w1.heap.size, 2, none⟩ = some (.int .i64 (atoiV (L.getD 2 []))) := (cell_of_row wr _ 2 _ _ _ hB).trans rfl
      have q3 : wr.cell? ⟨w1.heap.size, 3, none⟩ = some (.int .i64 (atoiV (L.getD 3 []))) := (cell_of_row wr _ 3 _ _ _ hB).trans rfl
      have q4 : wr.cell? ⟨w1.heap.size, 4, none⟩ = some (.int .i64 (atoiV (L.getD 4 []))) := (cell_of_row wr _ 4 _ _ _ hB).trans rfl
      have q5 : wr.cell? ⟨w1.heap.size, 5, none⟩ = some (.int .i64 (atoiV (L.getD 5 []))) := (cell_of_row wr _ 5 _ _ _ hB).trans rfl
      have B0 := atoiV_bd (L.getD 0 [])
      have B1 := atoiV_bd (L.getD 1 [])
      have B2 := atoiV_bd (L.getD 2 [])
      have B3 := atoiV_bd (L.getD 3 [])
      have B4 := atoiV_bd (L.getD 4 [])
      have B5 := atoiV_bd (L.getD 5 [])
      generalize atoiV (L.getD 0 []) = v0 at q0 B0 hres
      generalize atoiV (L.getD 1 []) = v1 at q1 B1 hres
      generalize atoiV (L.getD 2 []) = v2 at q2 B2 hres
      generalize atoiV (L.getD 3 []) = v3 at q3 B3 hres
      generalize atoiV (L.getD 4 []) = v4 at q4 B4 hres
      generalize atoiV (L.getD 5 []) = v5 at q5 B5 hres
      clear hB
      have HBA := Lib.hid (hb.trans (HBW.out.mono hb.size))
      rcases hres with ⟨hv, rfl⟩ | ⟨hv, hm, rfl⟩ | ⟨hv, hm3, hm4, hm5, hr⟩
      · go_wp2_with fail
        refine (Days_no v0 v1 v2 _ hv).mono ?_
        rintro e w2 ⟨rfl, rfl⟩
        clear hv
        go_wp2
        go_ret2
        exact ⟨rfl, HBA.out⟩
      · go_wp2_with fail
        refine (Days_ok v0 v1 v2 _ hv).mono ?_
        rintro e w2 ⟨rfl, rfl⟩
        generalize Civ.days v0 v1 v2 = D
        clear hv
        go_wp2_with fail
        all_goals first
          | omega
          | (go_ret2; exact ⟨rfl, HBA.out⟩)
      · have hdb := Civ.days_bd hv
        go_wp2_with fail
        refine (Days_ok v0 v1 v2 _ hv).mono ?_
        rintro e w2 ⟨rfl, rfl⟩
        generalize Civ.days v0 v1 v2 = D at hdb hr
        clear hv
        obtain ⟨T, eT, hr⟩ := hr
        have ET := Lib.hid eT.symm
        have hTb : -9223372036854775808 ≤ T ∧ T ≤ 9223372036854775807 := by rw [eT]; exact wrap64_bd _
        clear eT
        go_wp2_with fail
        all_goals rw [ET.out]
        all_goals (
          rcases hr with ⟨t1, t2, t3, rfl⟩ | ⟨t1, t2, t3, rfl⟩ | ⟨t1, rfl⟩
          · refine (Stamp_ok T _ t1 t2 (HT.out.below HBA.out)).mono ?_
            rw [t3, ES.out]
            rintro e w3 ⟨rfl, hb3⟩
            clear t3
            go_wp2
            go_ret2
            exact ⟨rfl, HBA.out.trans (hb3.mono HBA.out.size)⟩
          · refine (Stamp_ok T _ t1 t2 (HT.out.below HBA.out)).mono ?_
            have hne : ((txt (stampT T)).toList == S.toList) = false := by
              rw [← ES.out]; exact txt_ne t3
            generalize txt (stampT T) = U at hne
            rintro e w3 ⟨rfl, hb3⟩
            clear t3
            go_wp2
            go_ret2
            exact ⟨rfl, HBA.out.trans (hb3.mono HBA.out.size)⟩
          · refine (Stamp_no T _ t1 hTb.1 hTb.2).mono ?_
            rintro e w3 ⟨rfl, hb3⟩
            clear t1
            go_wp2
            go_ret2
            exact ⟨rfl, HBA.out.trans (hb3.mono HBA.out.size)⟩)
    · rcases (by omega : k = 0 ∨ k = 1 ∨ k = 2 ∨ k = 3 ∨ k = 4 ∨ k = 5) with rfl | rfl | rfl | rfl | rfl | rfl
      · have cA := (HBW.out.cell (p := ⟨A, 0, none⟩) hA2).trans (HC.out 0 (by omega))
        have hsk := hsm (L[0]'(by omega)) (List.getElem_mem _)
        have ex0 : L.getD 0 [] = L[0]'(by omega) := by rw [List.getD_eq_getElem?_getD, List.getElem?_eq_getElem (by omega)]; rfl
        obtain ⟨x, ex⟩ : ∃ x, L[0]'(by omega) = x := ⟨_, rfl⟩
        rw [ex] at cA hsk ex0
        have EX0 := Lib.hid ex0
        clear ex ex0 hres
        go_wp2_with fail
        refine (Atoi_any x _ hsk (HN.out.below (hb.trans (HBW.out.mono hb.size)))).mono ?_
        rintro e w2 ⟨ev, rfl, hb2, -⟩
        have hB2 := (hb2.block _ hsz).trans hB
        have cB : w2.cell? ⟨w1.heap.size, 0, none⟩ = some (.int .i64 0) := (cell_of_row w2 _ 0 _ _ _ hB2).trans rfl
        have hsz2 : w1.heap.size < w2.heap.size := (Array.getElem?_eq_some_iff.mp hB2).1
        have hfz : w2.frozen? ⟨w1.heap.size, 0, none⟩ = false := by simp [World.frozen?, hB2]
        go_wp2
        refine ⟨⟨1, by omega, by go_num, (heap_setC hB2 _).trans ?_, (HBW.out.trans (hb2.mono HBW.out.size)).setCell (Nat.le_refl _) _⟩, by simp [intOf]⟩
        rw [← EX0.out]
        rfl
      · have cA := (HBW.out.cell (p := ⟨A, 1, none⟩) hA2).trans (HC.out 1 (by omega))
        have hsk := hsm (L[1]'(by omega)) (List.getElem_mem _)
        have ex0 : L.getD 1 [] = L[1]'(by omega) := by rw [List.getD_eq_getElem?_getD, List.getElem?_eq_getElem (by omega)]; rfl
        obtain ⟨x, ex⟩ : ∃ x, L[1]'(by omega) = x := ⟨_, rfl⟩
        rw [ex] at cA hsk ex0
        have EX0 := Lib.hid ex0
        clear ex ex0 hres
        go_wp2_with fail
        refine (Atoi_any x _ hsk (HN.out.below (hb.trans (HBW.out.mono hb.size)))).mono ?_
        rintro e w2 ⟨ev, rfl, hb2, -⟩
        have hB2 := (hb2.block _ hsz).trans hB
        have cB : w2.cell? ⟨w1.heap.size, 1, none⟩ = some (.int .i64 0) := (cell_of_row w2 _ 1 _ _ _ hB2).trans rfl
        have hsz2 : w1.heap.size < w2.heap.size := (Array.getElem?_eq_some_iff.mp hB2).1
        have hfz : w2.frozen? ⟨w1.heap.size, 1, none⟩ = false := by simp [World.frozen?, hB2]
        go_wp2
        refine ⟨⟨2, by omega, by go_num, (heap_setC hB2 _).trans ?_, (HBW.out.trans (hb2.mono HBW.out.size)).setCell (Nat.le_refl _) _⟩, by simp [intOf]⟩
        rw [← EX0.out]
        rfl
      · have cA := (HBW.out.cell (p := ⟨A, 2, none⟩) hA2).trans (HC.out 2 (by omega))
        have hsk := hsm (L[2]'(by omega)) (List.getElem_mem _)
        have ex0 : L.getD 2 [] = L[2]'(by omega) := by rw [List.getD_eq_getElem?_getD, List.getElem?_eq_getElem (by omega)]; rfl
        obtain ⟨x, ex⟩ : ∃ x, L[2]'(by omega) = x := ⟨_, rfl⟩
        rw [ex] at cA hsk ex0
        have EX0 := Lib.hid ex0
        clear ex ex0 hres
        go_wp2_with fail
        refine (Atoi_any x _ hsk (HN.out.below (hb.trans (HBW.out.mono hb.size)))).mono ?_
        rintro e w2 ⟨ev, rfl, hb2, -⟩
        have hB2 := (hb2.block _ hsz).trans hB
        have cB : w2.cell? ⟨w1.heap.size, 2, none⟩ = some (.int .i64 0) := (cell_of_row w2 _ 2 _ _ _ hB2).trans rfl
        have hsz2 : w1.heap.size < w2.heap.size := (Array.getElem?_eq_some_iff.mp hB2).1
        have hfz : w2.frozen? ⟨w1.heap.size, 2, none⟩ = false := by simp [World.frozen?, hB2]
        go_wp2
        refine ⟨⟨3, by omega, by go_num, (heap_setC hB2 _).trans ?_, (HBW.out.trans (hb2.mono HBW.out.size)).setCell (Nat.le_refl _) _⟩, by simp [intOf]⟩
        rw [← EX0.out]
        rfl
      · have cA := (HBW.out.cell (p := ⟨A, 3, none⟩) hA2).trans (HC.out 3 (by omega))
        have hsk := hsm (L[3]'(by omega)) (List.getElem_mem _)
        have ex0 : L.getD 3 [] = L[3]'(by omega) := by rw [List.getD_eq_getElem?_getD, List.getElem?_eq_getElem (by omega)]; rfl
        obtain ⟨x, ex⟩ : ∃ x, L[3]'(by omega) = x := ⟨_, rfl⟩
        rw [ex] at cA hsk ex0
        have EX0 := Lib.hid ex0
        clear ex ex0 hres
        go_wp2_with fail
        refine (Atoi_any x _ hsk (HN.out.below (hb.trans (HBW.out.mono hb.size)))).mono ?_
        rintro e w2 ⟨ev, rfl, hb2, -⟩
        have hB2 := (hb2.block _ hsz).trans hB
        have cB : w2.cell? ⟨w1.heap.size, 3, none⟩ = some (.int .i64 0) := (cell_of_row w2 _ 3 _ _ _ hB2).trans rfl
        have hsz2 : w1.heap.size < w2.heap.size := (Array.getElem?_eq_some_iff.mp hB2).1
        have hfz : w2.frozen? ⟨w1.heap.size, 3, none⟩ = false := by simp [World.frozen?, hB2]
        go_wp2
        refine ⟨⟨4, by omega, by go_num, (heap_setC hB2 _).trans ?_, (HBW.out.trans (hb2.mono HBW.out.size)).setCell (Nat.le_refl _) _⟩, by simp [intOf]⟩
        rw [← EX0.out]
        rfl
      · have cA := (HBW.out.cell (p := ⟨A, 4, none⟩) hA2).trans (HC.out 4 (by omega))
        have hsk := hsm (L[4]'(by omega)) (List.getElem_mem _)
        have ex0 : L.getD 4 [] = L[4]'(by omega) := by rw [List.getD_eq_getElem?_getD, List.getElem?_eq_getElem (by omega)]; rfl
        obtain ⟨x, ex⟩ : ∃ x, L[4]'(by omega) = x := ⟨_, rfl⟩
        rw [ex] at cA hsk ex0
        have EX0 := Lib.hid ex0
        clear ex ex0 hres
        go_wp2_with fail
        refine (Atoi_any x _ hsk (HN.out.below (hb.trans (HBW.out.mono hb.size)))).mono ?_
        rintro e w2 ⟨ev, rfl, hb2, -⟩
        have hB2 := (hb2.block _ hsz).trans hB
        have cB : w2.cell? ⟨w1.heap.size, 4, none⟩ = some (.int .i64 0) := (cell_of_row w2 _ 4 _ _ _ hB2).trans rfl
        have hsz2 : w1.heap.size < w2.heap.size := (Array.getElem?_eq_some_iff.mp hB2).1
        have hfz : w2.frozen? ⟨w1.heap.size, 4, none⟩ = false := by simp [World.frozen?, hB2]
        go_wp2
        refine ⟨⟨5, by omega, by go_num, (heap_setC hB2 _).trans ?_, (HBW.out.trans (hb2.mono HBW.out.size)).setCell (Nat.le_refl _) _⟩, by simp [intOf]⟩
        rw [← EX0.out]
        rfl
      · have cA := (HBW.out.cell (p := ⟨A, 5, none⟩) hA2).trans (HC.out 5 (by omega))
        have hsk := hsm (L[5]'(by omega)) (List.getElem_mem _)
        have ex0 : L.getD 5 [] = L[5]'(by omega) := by rw [List.getD_eq_getElem?_getD, List.getElem?_eq_getElem (by omega)]; rfl
        obtain ⟨x, ex⟩ : ∃ x, L[5]'(by omega) = x := ⟨_, rfl⟩
        rw [ex] at cA hsk ex0
        have EX0 := Lib.hid ex0
        clear ex ex0 hres
        go_wp2_with fail
        refine (Atoi_any x _ hsk (HN.out.below (hb.trans (HBW.out.mono hb.size)))).mono ?_
        rintro e w2 ⟨ev, rfl, hb2, -⟩
        have hB2 := (hb2.block _ hsz).trans hB
        have cB : w2.cell? ⟨w1.heap.size, 5, none⟩ = some (.int .i64 0) := (cell_of_row w2 _ 5 _ _ _ hB2).trans rfl
        have hsz2 : w1.heap.size < w2.heap.size := (Array.getElem?_eq_some_iff.mp hB2).1
        have hfz : w2.frozen? ⟨w1.heap.size, 5, none⟩ = false := by simp [World.frozen?, hB2]
        go_wp2
        refine ⟨⟨6, by omega, by go_num, (heap_setC hB2 _).trans ?_, (HBW.out.trans (hb2.mono HBW.out.size)).setCell (Nat.le_refl _) _⟩, by simp [intOf]⟩
        rw [← EX0.out]
        rfl

theorem pieces_small (l : List UInt8) : ∀ x ∈ piecesT l, x.length ≤ l.length := by
  intro x hx
  unfold piecesT Lib.goFieldsP at hx
  simp only [List.map_map, List.mem_map, Function.comp] at hx
  obtain ⟨p, -, rfl⟩ := hx
  rw [Lib.extract_data, txt_data]
  simp only [List.length_take, List.length_drop]
  omega
def inT (t : Int) : Prop := -135140 ≤ t / 86400 ∧ t / 86400 ≤ 157053
theorem ReadStamp_no (l : List UInt8) (w : World) (hl : l.length ≤ 4294967296) (hno : ∀ t, inT t → stampT t ≠ l) (ht : Tab10 w) (hn : NumErrs w) :
    Calls Tryd.prog 21 #[.string (txt l)] w fun e w' => e = .returned (.tuple #[.int .i64 0, .int .i64 3]) ∧ Below w.heap.size w w' := by
  by_cases h6 : (piecesT l).length = 6
  · refine ReadStamp_six l (0, 3) w ?_ hl h6 (fun x hx => Nat.le_trans (pieces_small l x hx) (by omega)) ht hn
    unfold RdRes
    generalize (fun j => atoiV ((piecesT l).getD j [])) = V
    by_cases hv : validB (V 0) (V 1) (V 2) = true
    · have hv' := validB_iff.1 hv
      by_cases hm : 60 < V 3 ∨ 60 < V 4 ∨ 60 < V 5
      · exact .inr (.inl ⟨hv', hm, rfl⟩)
      · refine .inr (.inr ⟨hv', by omega, by omega, by omega, _, rfl, ?_⟩)
        generalize wrap64 _ = T
        by_cases hT : inT T
        · exact .inr (.inl ⟨hT.1, hT.2, hno T hT, rfl⟩)
        · exact .inr (.inr ⟨by unfold inT at hT; omega, rfl⟩)
    · exact .inl ⟨by simpa using hv, rfl⟩
  · exact ReadStamp_len l w hl h6
theorem pieces_stamp (t : Int) (h : inT t) : piecesT (stampT t) = [Lib.itoa (Civ.yy (t / 86400)), T2 (Civ.mm (t / 86400)), T2 (Civ.dd (t / 86400)), T2 (t % 86400 / 3600), T2 (t % 86400 / 60 % 60), T2 (t % 86400 % 60)] := by
  unfold piecesT
  rw [fields_stamp t h.1 h.2]
  simp [txt_data]
theorem ReadStamp_ok (t : Int) (w : World) (h : inT t) (ht : Tab10 w) (hn : NumErrs w) :
    Calls Tryd.prog 21 #[.string (txt (stampT t))] w fun e w' => e = .returned (.tuple #[.int .i64 t, .int .i64 0]) ∧ Below w.heap.size w w' := by
  have hp := pieces_stamp t h
  have hlen := stamp_length t h.1 h.2
  refine ReadStamp_six (stampT t) (t, 0) w ?_ (by omega) (by rw [hp]; rfl) (fun x hx => Nat.le_trans (pieces_small _ x hx) (by omega)) ht hn
  obtain ⟨hv, hd⟩ := Civ.date_valid (t / 86400) h.1 h.2
  have hb := Civ.mlen_bd (Civ.yy (t / 86400)) (Civ.mm (t / 86400)) hv.2.2.1 hv.2.2.2.1
  unfold RdRes
  rw [hp]
  have e0 : atoiV (Lib.itoa (Civ.yy (t / 86400))) = Civ.yy (t / 86400) := atoiV_itoa (by have := hv.1; omega) (by have := hv.2.1; omega)
  have e1 : atoiV (T2 (Civ.mm (t / 86400))) = Civ.mm (t / 86400) := atoiV_T2 (by have := hv.2.2.1; omega) (by have := hv.2.2.2.1; omega)
  have e2 : atoiV (T2 (Civ.dd (t / 86400))) = Civ.dd (t / 86400) := atoiV_T2 (by have := hv.2.2.2.2.1; omega) (by have := hv.2.2.2.2.2; omega)
  have e3 : atoiV (T2 (t % 86400 / 3600)) = t % 86400 / 3600 := atoiV_T2 (by omega) (by omega)
  have e4 : atoiV (T2 (t % 86400 / 60 % 60)) = t % 86400 / 60 % 60 := atoiV_T2 (by omega) (by omega)
  have e5 : atoiV (T2 (t % 86400 % 60)) = t % 86400 % 60 := atoiV_T2 (by omega) (by omega)
  simp only [List.getD_cons_zero, List.getD_cons_succ, e0, e1, e2, e3, e4, e5]
  refine .inr (.inr ⟨hv, by omega, by omega, by omega, _, rfl, .inl ?_⟩)
  rw [hd]
  have hh1 := h.1
  have hh2 := h.2
  rw [IntWalk.wrap64_in (3600 * (t % 86400 / 3600)) (by omega), IntWalk.wrap64_in (60 * (t % 86400 / 60 % 60)) (by omega), IntWalk.wrap64_in (86400 * (t / 86400) + 3600 * (t % 86400 / 3600)) (by omega),
    IntWalk.wrap64_in (86400 * (t / 86400) + 3600 * (t % 86400 / 3600) + 60 * (t % 86400 / 60 % 60)) (by omega), IntWalk.wrap64_in _ (by omega),
    show 86400 * (t / 86400) + 3600 * (t % 86400 / 3600) + 60 * (t % 86400 / 60 % 60) + t % 86400 % 60 = t by omega]
  exact ⟨h.1, h.2, rfl, rfl⟩
end Go.Proofs.YtomijglabjficaaDoor
