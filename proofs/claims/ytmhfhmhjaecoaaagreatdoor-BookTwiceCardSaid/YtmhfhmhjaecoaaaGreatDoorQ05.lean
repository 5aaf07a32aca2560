/- StampOrder, StampNext, SpanOdd, SpanHours: their walks. clock.ReadStamp: what it returns. book: what Abbr and Check return: plain functions. book.within, isLetter, split: what each returns. book.split: what it returns. -/
import Derived.Test.YtmhfhmhjaecoaaaGreatDoorQ04
import Derived.Test.YtmhfhmhjaecoaaaGreatDoorQ01
import Derived.Test.YtmhfhmhjaecoaaaGreatDoorQ02
import Derived.Laws.OwnMore
import Derived.Test.YtmhfhmhjaecoaaaGreatDoorCiv2
import Derived.Handy
namespace Go.Proofs.YtmhfhmhjaecoaaaGreatDoor
open Go.RowKit Go.Joins
set_option linter.unusedVariables false
set_option linter.unusedSimpArgs false

theorem bytesLess_eq : ∀ (a b : List UInt8), Op.bytesLess a b = decide (a < b)
  | [], [] => by simp [Op.bytesLess]
  | [], y :: s => by simp [Op.bytesLess]
  | x :: r, [] => by simp [Op.bytesLess]
  | x :: r, y :: s => by
    have ih := bytesLess_eq r s
    simp only [Op.bytesLess, ih]
    rw [Bool.eq_iff_iff]
    simp [List.cons_lt_cons_iff]
theorem txt_toList (l : List UInt8) : (txt l).toList = l := by rw [ByteArray.toList_eq, txt_data]
theorem less_txt (a b : List UInt8) : Op.bytesLess (txt a).toList (txt b).toList = decide (a < b) := by rw [txt_toList, txt_toList, bytesLess_eq]

theorem ext_txt (l : List UInt8) (i j : Nat) : ((txt l).extract i j).toList = (l.drop i).take (j - i) := by
  rw [ByteArray.toList_eq, Lib.extract_data, txt_data]
theorem stamp_tail (t : Int) (h1 : -135140 ≤ t / 86400) (h2 : t / 86400 ≤ 157053) : ((txt (stampT t)).extract 10 19).toList = clockT (t % 86400) := by
  have hd := dateT_length _ h1 h2
  rw [ext_txt, stamp_two, List.drop_append_of_le_length (by omega), List.drop_of_length_le (by omega), List.nil_append]
  exact List.take_of_length_le (by simp [clockT, T2_length])
theorem stamp_head (t : Int) (h1 : -135140 ≤ t / 86400) (h2 : t / 86400 ≤ 157053) : ((txt (stampT t)).extract 0 10).toList = dateT (t / 86400) := by
  have hd := dateT_length _ h1 h2
  rw [ext_txt, stamp_two, List.drop_zero, List.take_append_of_le_length (by omega), List.take_of_length_le (by omega)]

end Go.Proofs.YtmhfhmhjaecoaaaGreatDoor
namespace Go.Proofs.YtmhfhmhjaecoaaaGreatDoor
open Go.RowKit Go.Joins
set_option linter.unusedVariables false
set_option linter.unusedSimpArgs false

theorem sep_walk (W : World) (x : Nat) : FnGives Tryz.prog 182 #[] #[encR x] (.bool (sepP x)) W := by
  unfold FnGives
  show Calls Tryz.prog _ #[.int .i32 (x : Int)] W _
  by_cases h : x < 48
  · have e : sepP x = true := by unfold sepP; simp; omega
    have E := Lib.hid e
    clear e
    go_enter Tryz.func182, Tryz.ntmps182
    go_wp2
    go_ret
    exact ⟨ret_bool E.out.symm, 0, rfl⟩
  · by_cases h2 : 57 < x
    · have e : sepP x = true := by unfold sepP; simp; omega
      have E := Lib.hid e
      clear e
      go_enter Tryz.func182, Tryz.ntmps182
      go_wp2
      go_ret
      exact ⟨ret_bool (by rw [E.out]; simp; omega), 0, rfl⟩
    · have e : sepP x = false := by unfold sepP; simp; omega
      have E := Lib.hid e
      clear e
      go_enter Tryz.func182, Tryz.ntmps182
      go_wp2
      go_ret
      exact ⟨ret_bool (by rw [E.out]; simp; omega), 0, rfl⟩

theorem eg_sep : ∀ args w, (callFunc 182 args).run Tryz.prog w = .ok (.enter 182 args) w := enters_of Tryz.func182 (by kernel_rfl) rfl

/-- the pieces, as texts -/
def piecesT (l : List UInt8) : List (List UInt8) := (Lib.goFieldsP sepP (txt l)).map fun x => x.data.toList
theorem txt_of (s : ByteArray) : txt s.data.toList = s := rfl
theorem fields_any (l : List UInt8) (w : World) (hl : l.length ≤ 4294967296) :
    Calls Tryz.prog 181 #[.string (txt l), .func (.func 182) #[] #[]] w fun e w' => ∃ A, e = .returned (.slice (some ⟨A, 0, none⟩) (piecesT l).length (piecesT l).length) ∧ w.heap.size ≤ A ∧ A < w'.heap.size ∧
      (∀ j (h : j < (piecesT l).length), w'.cell? ⟨A, j, none⟩ = some (.string (txt ((piecesT l)[j]'h)))) ∧ Below w.heap.size w w' := by
  have hn : (piecesT l).length = (Lib.goFieldsP sepP (txt l)).length := by unfold piecesT; simp
  refine (Tryz.strings_FieldsFunc 182 #[] eg_sep sepP (txt l) w (by rw [txt_size]; exact hl) (fun W x _ => sep_walk W x)).mono ?_
  rintro e w' ⟨A, rfl, hA, hown, hb⟩
  refine ⟨A, by rw [hn], hA, ?_, ?_, hb⟩
  · rcases hown.2 with ⟨h, _⟩ | ⟨g, cap, cur, hv, _, hg, _⟩
    · cases h
    · cases hv
      exact (Array.getElem?_eq_some_iff.mp hg).1
  · intro j h
    have := hown.cellAt j (by omega)
    rw [this]
    simp [piecesT, txt_of]

theorem ReadStamp_len (l : List UInt8) (w : World) (hl : l.length ≤ 4294967296) (h6 : (piecesT l).length ≠ 6) :
    Calls Tryz.prog 150 #[.string (txt l)] w fun e w' => e = .returned (.tuple #[.int .i64 0, .int .i64 3]) ∧ Below w.heap.size w w' := by
  have HF := Lib.hid (fun W => fields_any l W hl)
  generalize txt l = S at HF
  generalize piecesT l = L at HF h6
  go_enter Tryz.func150, Tryz.ntmps150
  go_wp2_with fail
  refine (HF.out _).mono ?_
  rintro e w1 ⟨A, rfl, hA, hA2, hc, hb⟩
  have h6' : ¬ (L.length : Int) = 6 := by omega
  clear hc
  go_wp2
  go_ret2
  exact ⟨rfl, hb⟩

theorem heap_setC {w : World} {R i : Nat} {cs : Array Value} {T : TypeId} {f : Nat × Nat} (h : w.heap[R]? = some (.cells cs T f)) (v : Value) : (w.setCell ⟨R, i, none⟩ v).heap[R]? = some (.cells (cs.setIfInBounds i v) T f) := by
  simp [World.setCell, Array.getElem?_modify, h]
def arrV (V : Nat → Int) (k : Nat) : Array Value := #[.int .i64 (if 0 < k then V 0 else 0), .int .i64 (if 1 < k then V 1 else 0), .int .i64 (if 2 < k then V 2 else 0), .int .i64 (if 3 < k then V 3 else 0), .int .i64 (if 4 < k then V 4 else 0), .int .i64 (if 5 < k then V 5 else 0)]

theorem wrap64_bd (n : Int) : -9223372036854775808 ≤ wrap64 n ∧ wrap64 n ≤ 9223372036854775807 := by unfold wrap64; omega
/-- what six numbers give -/
def RdRes (l : List UInt8) (V : Nat → Int) (R : Int × Int) : Prop :=
  (validB (V 0) (V 1) (V 2) = false ∧ R = (0, 3)) ∨
  (Civ.valid (V 0) (V 1) (V 2) ∧ (60 < V 3 ∨ 60 < V 4 ∨ 60 < V 5) ∧ R = (0, 3)) ∨
  (Civ.valid (V 0) (V 1) (V 2) ∧ V 3 ≤ 60 ∧ V 4 ≤ 60 ∧ V 5 ≤ 60 ∧
    ∃ T : Int, T = wrap64 (wrap64 (wrap64 (86400 * Civ.days (V 0) (V 1) (V 2) + wrap64 (3600 * V 3)) + wrap64 (60 * V 4)) + V 5) ∧
      ((-135140 ≤ T / 86400 ∧ T / 86400 ≤ 157053 ∧ stampT T = l ∧ R = (T, 0)) ∨
       (-135140 ≤ T / 86400 ∧ T / 86400 ≤ 157053 ∧ stampT T ≠ l ∧ R = (0, 3)) ∨
       ((T / 86400 < -135140 ∨ 157053 < T / 86400) ∧ R = (0, 3))))

set_option maxRecDepth 100000 in
set_option maxHeartbeats 2000000 in
theorem ReadStamp_six (l : List UInt8) (R : Int × Int) (w : World) (hres : RdRes l (fun j => atoiV ((piecesT l).getD j [])) R) (hl : l.length ≤ 4294967296) (h6 : (piecesT l).length = 6) (hsm : ∀ x ∈ piecesT l, x.length ≤ 281474976710656) (ht : Tab10 w) (hn : NumErrs w) :
    Calls Tryz.prog 150 #[.string (txt l)] w fun e w' => e = .returned (.tuple #[.int .i64 R.1, .int .i64 R.2]) ∧ Below w.heap.size w w' := by
  have HF := Lib.hid (fun W => fields_any l W hl)
  have HT := Lib.hid ht
  have HN := Lib.hid hn
  clear ht hn
  unfold RdRes at hres
  obtain ⟨S, eS⟩ : ∃ S, txt l = S := ⟨_, rfl⟩
  rw [eS] at HF ⊢
  have ES := Lib.hid eS
  clear eS
  generalize piecesT l = L at HF h6 hsm hres
  simp only at hres
  go_enter Tryz.func150, Tryz.ntmps150
  go_wp2_with fail
  refine (HF.out _).mono ?_
  rintro e w1 ⟨A, rfl, hA, hA2, hc, hb⟩
  rw [h6]
  have HC := Lib.hid hc
  clear hc
  go_wp2_with fail
  go_loopw [20] (fun i wr => ∃ k : Nat, k ≤ 6 ∧ i = .int .i64 k ∧ wr.heap[w1.heap.size]? = some (.cells (arrV (fun j => atoiV (L.getD j [])) k) 249 (0, 0)) ∧ Below w1.heap.size w1 wr) (fun i _ => 6 - (intOf i).toNat)
  case atStart => exact ⟨0, by omega, by go_num, heap_alloc_new _ _, (Below.refl _ _).alloc (Nat.le_refl _) _⟩
  case round =>
    obtain ⟨k, hk, rfl, hB, hbw⟩ := hrel
    have HBW := Lib.hid hbw
    have hsz : w1.heap.size < wr.heap.size := (Array.getElem?_eq_some_iff.mp hB).1
    have hA3 : A < wr.heap.size := by omega
    clear hbw
    by_cases h6k : k = 6
    · subst h6k
      have q0 : wr.cell? ⟨w1.heap.size, 0, none⟩ = some (.int .i64 (atoiV (L.getD 0 []))) := (cell_of_row wr _ 0 _ _ _ hB).trans rfl
      have q1 : wr.cell? ⟨w1.heap.size, 1, none⟩ = some (.int .i64 (atoiV (L.getD 1 []))) := (cell_of_row wr _ 1 _ _ _ hB).trans rfl
      have q2 : wr.cell? ⟨w1.heap.size, 2, none⟩ = some (.int .i64 (atoiV (L.getD 2 []))) := (cell_of_row wr _ 2 _ _ _ hB).trans rfl
      have q3 : wr.cell? ⟨w1.heap.size, 3, none⟩ = some (.int .i64 (atoiV (L.getD 3 []))) := (cell_of_row wr _ 3 _ _ _ hB).trans rfl
      have q4 : wr.cell? ⟨w1.heap.size, 4, none⟩ = some (.int .i64 (atoiV (L.getD 4 []))) := (cell_of_row wr _ 4 _ _ _ hB).trans rfl
      have q5 : wr.cell? ⟨w1.heap.size, 5, none⟩ = some (.int .i64 (atoiV (L.getD 5 []))) := (cell_of_row wr _ 5 _ _ _ hB).trans rfl
      have B0 := atoiV_bd (L.getD 0 [])
      have B1 := atoiV_bd (L.getD 1 [])
      have B2 := atoiV_bd (L.getD 2 [])
      have B3 := atoiV_bd (L.getD 3 [])
      have B4 := atoiV_bd (L.getD 4 [])
      have B5 := atoiV_bd (L.getD 5 [])
      generalize atoiV (L.getD 0 []) = v0 at q0 B0 hres
      generalize atoiV (L.getD 1 []) = v1 at q1 B1 hres
      generalize atoiV (L.getD 2 []) = v2 at q2 B2 hres
      generalize atoiV (L.getD 3 []) = v3 at q3 B3 hres
      generalize atoiV (L.getD 4 []) = v4 at q4 B4 hres
      generalize atoiV (L.getD 5 []) = v5 at q5 B5 hres
      clear hB
      have HBA := Lib.hid (hb.trans (HBW.out.mono hb.size))
      rcases hres with ⟨hv, rfl⟩ | ⟨hv, hm, rfl⟩ | ⟨hv, hm3, hm4, hm5, hr⟩
      · go_wp2_with fail
        refine (Days_no v0 v1 v2 _ hv).mono ?_
        rintro e w2 ⟨rfl, rfl⟩
        clear hv
        go_wp2
        go_ret2
        exact ⟨rfl, HBA.out⟩
      · go_wp2_with fail
        refine (Days_ok v0 v1 v2 _ hv).mono ?_
        rintro e w2 ⟨rfl, rfl⟩
        generalize Civ.days v0 v1 v2 = D
        clear hv
        go_wp2_with fail
        all_goals first
          | omega
          | (go_ret2; exact ⟨rfl, HBA.out⟩)
      · have hdb := Civ.days_bd hv
        go_wp2_with fail
        refine (Days_ok v0 v1 v2 _ hv).mono ?_
        rintro e w2 ⟨rfl, rfl⟩
        generalize Civ.days v0 v1 v2 = D at hdb hr
        clear hv
        obtain ⟨T, eT, hr⟩ := hr
        have ET := Lib.hid eT.symm
        have hTb : -9223372036854775808 ≤ T ∧ T ≤ 9223372036854775807 := by rw [eT]; exact wrap64_bd _
        clear eT
        go_wp2_with fail
        all_goals rw [ET.out]
        all_goals (
          rcases hr with ⟨t1, t2, t3, rfl⟩ | ⟨t1, t2, t3, rfl⟩ | ⟨t1, rfl⟩
          · refine (Stamp_ok T _ t1 t2 (HT.out.below HBA.out)).mono ?_
            rw [t3, ES.out]
            rintro e w3 ⟨rfl, hb3⟩
            clear t3
            go_wp2
            go_ret2
            exact ⟨rfl, HBA.out.trans (hb3.mono HBA.out.size)⟩
          · refine (Stamp_ok T _ t1 t2 (HT.out.below HBA.out)).mono ?_
            have hne : ((txt (stampT T)).toList == S.toList) = false := by
              rw [← ES.out]; exact txt_ne t3
            generalize txt (stampT T) = U at hne
            rintro e w3 ⟨rfl, hb3⟩
            clear t3
            go_wp2
            go_ret2
            exact ⟨rfl, HBA.out.trans (hb3.mono HBA.out.size)⟩
          · refine (Stamp_no T _ t1 hTb.1 hTb.2).mono ?_
            rintro e w3 ⟨rfl, hb3⟩
            clear t1
            go_wp2
            go_ret2
            exact ⟨rfl, HBA.out.trans (hb3.mono HBA.out.size)⟩)
    · rcases (by omega : k = 0 ∨ k = 1 ∨ k = 2 ∨ k = 3 ∨ k = 4 ∨ k = 5) with rfl | rfl | rfl | rfl | rfl | rfl
      · have cA := (HBW.out.cell (p := ⟨A, 0, none⟩) hA2).trans (HC.out 0 (by omega))
        have hsk := hsm (L[0]'(by omega)) (List.getElem_mem _)
        have ex0 : L.getD 0 [] = L[0]'(by omega) := by rw [List.getD_eq_getElem?_getD, List.getElem?_eq_getElem (by omega)]; rfl
        obtain ⟨x, ex⟩ : ∃ x, L[0]'(by omega) = x := ⟨_, rfl⟩
        rw [ex] at cA hsk ex0
        have EX0 := Lib.hid ex0
        clear ex ex0 hres
        go_wp2_with fail
        refine (Atoi_any x _ hsk (HN.out.below (hb.trans (HBW.out.mono hb.size)))).mono ?_
        rintro e w2 ⟨ev, rfl, hb2, -⟩
        have hB2 := (hb2.block _ hsz).trans hB
        have cB : w2.cell? ⟨w1.heap.size, 0, none⟩ = some (.int .i64 0) := (cell_of_row w2 _ 0 _ _ _ hB2).trans rfl
        have hsz2 : w1.heap.size < w2.heap.size := (Array.getElem?_eq_some_iff.mp hB2).1
        have hfz : w2.frozen? ⟨w1.heap.size, 0, none⟩ = false := by simp [World.frozen?, hB2]
        go_wp2
        refine ⟨⟨1, by omega, by go_num, (heap_setC hB2 _).trans ?_, (HBW.out.trans (hb2.mono HBW.out.size)).setCell (Nat.le_refl _) _⟩, by simp [intOf]⟩
        rw [← EX0.out]
        rfl
      · have cA := (HBW.out.cell (p := ⟨A, 1, none⟩) hA2).trans (HC.out 1 (by omega))
        have hsk := hsm (L[1]'(by omega)) (List.getElem_mem _)
        have ex0 : L.getD 1 [] = L[1]'(by omega) := by rw [List.getD_eq_getElem?_getD, List.getElem?_eq_getElem (by omega)]; rfl
        obtain ⟨x, ex⟩ : ∃ x, L[1]'(by omega) = x := ⟨_, rfl⟩
        rw [ex] at cA hsk ex0
        have EX0 := Lib.hid ex0
        clear ex ex0 hres
        go_wp2_with fail
        refine (Atoi_any x _ hsk (HN.out.below (hb.trans (HBW.out.mono hb.size)))).mono ?_
        rintro e w2 ⟨ev, rfl, hb2, -⟩
        have hB2 := (hb2.block _ hsz).trans hB
        have cB : w2.cell? ⟨w1.heap.size, 1, none⟩ = some (.int .i64 0) := (cell_of_row w2 _ 1 _ _ _ hB2).trans rfl
        have hsz2 : w1.heap.size < w2.heap.size := (Array.getElem?_eq_some_iff.mp hB2).1
        have hfz : w2.frozen? ⟨w1.heap.size, 1, none⟩ = false := by simp [World.frozen?, hB2]
        go_wp2
        refine ⟨⟨2, by omega, by go_num, (heap_setC hB2 _).trans ?_, (HBW.out.trans (hb2.mono HBW.out.size)).setCell (Nat.le_refl _) _⟩, by simp [intOf]⟩
        rw [← EX0.out]
        rfl
      · have cA := (HBW.out.cell (p := ⟨A, 2, none⟩) hA2).trans (HC.out 2 (by omega))
        have hsk := hsm (L[2]'(by omega)) (List.getElem_mem _)
        have ex0 : L.getD 2 [] = L[2]'(by omega) := by rw [List.getD_eq_getElem?_getD, List.getElem?_eq_getElem (by omega)]; rfl
        obtain ⟨x, ex⟩ : ∃ x, L[2]'(by omega) = x := ⟨_, rfl⟩
        rw [ex] at cA hsk ex0
        have EX0 := Lib.hid ex0
        clear ex ex0 hres
        go_wp2_with fail
        refine (Atoi_any x _ hsk (HN.out.below (hb.trans (HBW.out.mono hb.size)))).mono ?_
        rintro e w2 ⟨ev, rfl, hb2, -⟩
        have hB2 := (hb2.block _ hsz).trans hB
        have cB : w2.cell? ⟨w1.heap.size, 2, none⟩ = some (.int .i64 0) := (cell_of_row w2 _ 2 _ _ _ hB2).trans rfl
        have hsz2 : w1.heap.size < w2.heap.size := (Array.getElem?_eq_some_iff.mp hB2).1
        have hfz : w2.frozen? ⟨w1.heap.size, 2, none⟩ = false := by simp [World.frozen?, hB2]
        go_wp2
        refine ⟨⟨3, by omega, by go_num, (heap_setC hB2 _).trans ?_, (HBW.out.trans (hb2.mono HBW.out.size)).setCell (Nat.le_refl _) _⟩, by simp [intOf]⟩
        rw [← EX0.out]
        rfl
      · have cA := (HBW.out.cell (p := ⟨A, 3, none⟩) hA2).trans (HC.out 3 (by omega))
        have hsk := hsm (L[3]'(by omega)) (List.getElem_mem _)
        have ex0 : L.getD 3 [] = L[3]'(by omega) := by rw [List.getD_eq_getElem?_getD, List.getElem?_eq_getElem (by omega)]; rfl
        obtain ⟨x, ex⟩ : ∃ x, L[3]'(by omega) = x := ⟨_, rfl⟩
        rw [ex] at cA hsk ex0
        have EX0 := Lib.hid ex0
        clear ex ex0 hres
        go_wp2_with fail
        refine (Atoi_any x _ hsk (HN.out.below (hb.trans (HBW.out.mono hb.size)))).mono ?_
        rintro e w2 ⟨ev, rfl, hb2, -⟩
        have hB2 := (hb2.block _ hsz).trans hB
        have cB : w2.cell? ⟨w1.heap.size, 3, none⟩ = some (.int .i64 0) := (cell_of_row w2 _ 3 _ _ _ hB2).trans rfl
        have hsz2 : w1.heap.size < w2.heap.size := (Array.getElem?_eq_some_iff.mp hB2).1
        have hfz : w2.frozen? ⟨w1.heap.size, 3, none⟩ = false := by simp [World.frozen?, hB2]
        go_wp2
        refine ⟨⟨4, by omega, by go_num, (heap_setC hB2 _).trans ?_, (HBW.out.trans (hb2.mono HBW.out.size)).setCell (Nat.le_refl _) _⟩, by simp [intOf]⟩
        rw [← EX0.out]
        rfl
      · have cA := (HBW.out.cell (p := ⟨A, 4, none⟩) hA2).trans (HC.out 4 (by omega))
        have hsk := hsm (L[4]'(by omega)) (List.getElem_mem _)
        have ex0 : L.getD 4 [] = L[4]'(by omega) := by rw [List.getD_eq_getElem?_getD, List.getElem?_eq_getElem (by omega)]; rfl
        obtain ⟨x, ex⟩ : ∃ x, L[4]'(by omega) = x := ⟨_, rfl⟩
        rw [ex] at cA hsk ex0
        have EX0 := Lib.hid ex0
        clear ex ex0 hres
        go_wp2_with fail
        refine (Atoi_any x _ hsk (HN.out.below (hb.trans (HBW.out.mono hb.size)))).mono ?_
        rintro e w2 ⟨ev, rfl, hb2, -⟩
        have hB2 := (hb2.block _ hsz).trans hB
        have cB : w2.cell? ⟨w1.heap.size, 4, none⟩ = some (.int .i64 0) := (cell_of_row w2 _ 4 _ _ _ hB2).trans rfl
        have hsz2 : w1.heap.size < w2.heap.size := (Array.getElem?_eq_some_iff.mp hB2).1
        have hfz : w2.frozen? ⟨w1.heap.size, 4, none⟩ = false := by simp [World.frozen?, hB2]
        go_wp2
        refine ⟨⟨5, by omega, by go_num, (heap_setC hB2 _).trans ?_, (HBW.out.trans (hb2.mono HBW.out.size)).setCell (Nat.le_refl _) _⟩, by simp [intOf]⟩
        rw [← EX0.out]
        rfl
      · have cA := (HBW.out.cell (p := ⟨A, 5, none⟩) hA2).trans (HC.out 5 (by omega))
        have hsk := hsm (L[5]'(by omega)) (List.getElem_mem _)
        have ex0 : L.getD 5 [] = L[5]'(by omega) := by rw [List.getD_eq_getElem?_getD, List.getElem?_eq_getElem (by omega)]; rfl
        obtain ⟨x, ex⟩ : ∃ x, L[5]'(by omega) = x := ⟨_, rfl⟩
        rw [ex] at cA hsk ex0
        have EX0 := Lib.hid ex0
        clear ex ex0 hres
        go_wp2_with fail
        refine (Atoi_any x _ hsk (HN.out.below (hb.trans (HBW.out.mono hb.size)))).mono ?_
        rintro e w2 ⟨ev, rfl, hb2, -⟩
        have hB2 := (hb2.block _ hsz).trans hB
        have cB : w2.cell? ⟨w1.heap.size, 5, none⟩ = some (.int .i64 0) := (cell_of_row w2 _ 5 _ _ _ hB2).trans rfl
        have hsz2 : w1.heap.size < w2.heap.size := (Array.getElem?_eq_some_iff.mp hB2).1
        have hfz : w2.frozen? ⟨w1.heap.size, 5, none⟩ = false := by simp [World.frozen?, hB2]
        go_wp2
        refine ⟨⟨6, by omega, by go_num, (heap_setC hB2 _).trans ?_, (HBW.out.trans (hb2.mono HBW.out.size)).setCell (Nat.le_refl _) _⟩, by simp [intOf]⟩
        rw [← EX0.out]
        rfl

theorem pieces_small (l : List UInt8) : ∀ x ∈ piecesT l, x.length ≤ l.length := by
  intro x hx
  unfold piecesT Lib.goFieldsP at hx
  simp only [List.map_map, List.mem_map, Function.comp] at hx
  obtain ⟨p, -, rfl⟩ := hx
  rw [Lib.extract_data, txt_data]
  simp only [List.length_take, List.length_drop]
  omega
def inT (t : Int) : Prop := -135140 ≤ t / 86400 ∧ t / 86400 ≤ 157053
theorem ReadStamp_no (l : List UInt8) (w : World) (hl : l.length ≤ 4294967296) (hno : ∀ t, inT t → stampT t ≠ l) (ht : Tab10 w) (hn : NumErrs w) :
    Calls Tryz.prog 150 #[.string (txt l)] w fun e w' => e = .returned (.tuple #[.int .i64 0, .int .i64 3]) ∧ Below w.heap.size w w' := by
  by_cases h6 : (piecesT l).length = 6
  · refine ReadStamp_six l (0, 3) w ?_ hl h6 (fun x hx => Nat.le_trans (pieces_small l x hx) (by omega)) ht hn
    unfold RdRes
    generalize (fun j => atoiV ((piecesT l).getD j [])) = V
    by_cases hv : validB (V 0) (V 1) (V 2) = true
    · have hv' := validB_iff.1 hv
      by_cases hm : 60 < V 3 ∨ 60 < V 4 ∨ 60 < V 5
      · exact .inr (.inl ⟨hv', hm, rfl⟩)
      · refine .inr (.inr ⟨hv', by omega, by omega, by omega, _, rfl, ?_⟩)
        generalize wrap64 _ = T
        by_cases hT : inT T
        · exact .inr (.inl ⟨hT.1, hT.2, hno T hT, rfl⟩)
        · exact .inr (.inr ⟨by unfold inT at hT; omega, rfl⟩)
    · exact .inl ⟨by simpa using hv, rfl⟩
  · exact ReadStamp_len l w hl h6
theorem pieces_stamp (t : Int) (h : inT t) : piecesT (stampT t) = [Lib.itoa (Civ.yy (t / 86400)), T2 (Civ.mm (t / 86400)), T2 (Civ.dd (t / 86400)), T2 (t % 86400 / 3600), T2 (t % 86400 / 60 % 60), T2 (t % 86400 % 60)] := by
  unfold piecesT
  rw [fields_stamp t h.1 h.2]
  simp [txt_data]
theorem ReadStamp_ok (t : Int) (w : World) (h : inT t) (ht : Tab10 w) (hn : NumErrs w) :
    Calls Tryz.prog 150 #[.string (txt (stampT t))] w fun e w' => e = .returned (.tuple #[.int .i64 t, .int .i64 0]) ∧ Below w.heap.size w w' := by
  have hp := pieces_stamp t h
  have hlen := stamp_length t h.1 h.2
  refine ReadStamp_six (stampT t) (t, 0) w ?_ (by omega) (by rw [hp]; rfl) (fun x hx => Nat.le_trans (pieces_small _ x hx) (by omega)) ht hn
  obtain ⟨hv, hd⟩ := Civ.date_valid (t / 86400) h.1 h.2
  have hb := Civ.mlen_bd (Civ.yy (t / 86400)) (Civ.mm (t / 86400)) hv.2.2.1 hv.2.2.2.1
  unfold RdRes
  rw [hp]
  have e0 : atoiV (Lib.itoa (Civ.yy (t / 86400))) = Civ.yy (t / 86400) := atoiV_itoa (by have := hv.1; omega) (by have := hv.2.1; omega)
  have e1 : atoiV (T2 (Civ.mm (t / 86400))) = Civ.mm (t / 86400) := atoiV_T2 (by have := hv.2.2.1; omega) (by have := hv.2.2.2.1; omega)
  have e2 : atoiV (T2 (Civ.dd (t / 86400))) = Civ.dd (t / 86400) := atoiV_T2 (by have := hv.2.2.2.2.1; omega) (by have := hv.2.2.2.2.2; omega)
  have e3 : atoiV (T2 (t % 86400 / 3600)) = t % 86400 / 3600 := atoiV_T2 (by omega) (by omega)
  have e4 : atoiV (T2 (t % 86400 / 60 % 60)) = t % 86400 / 60 % 60 := atoiV_T2 (by omega) (by omega)
  have e5 : atoiV (T2 (t % 86400 % 60)) = t % 86400 % 60 := atoiV_T2 (by omega) (by omega)
  simp only [List.getD_cons_zero, List.getD_cons_succ, e0, e1, e2, e3, e4, e5]
  refine .inr (.inr ⟨hv, by omega, by omega, by omega, _, rfl, .inl ?_⟩)
  rw [hd]
  have hh1 := h.1
  have hh2 := h.2
  rw [IntWalk.wrap64_in (3600 * (t % 86400 / 3600)) (by omega), IntWalk.wrap64_in (60 * (t % 86400 / 60 % 60)) (by omega), IntWalk.wrap64_in (86400 * (t / 86400) + 3600 * (t % 86400 / 3600)) (by omega),
    IntWalk.wrap64_in (86400 * (t / 86400) + 3600 * (t % 86400 / 3600) + 60 * (t % 86400 / 60 % 60)) (by omega), IntWalk.wrap64_in _ (by omega),
    show 86400 * (t / 86400) + 3600 * (t % 86400 / 3600) + 60 * (t % 86400 / 60 % 60) + t % 86400 % 60 = t by omega]
  exact ⟨h.1, h.2, rfl, rfl⟩
end Go.Proofs.YtmhfhmhjaecoaaaGreatDoor
namespace Go.Proofs.YtmhfhmhjaecoaaaGreatDoor
open Go.RowKit Go.Joins
open Classical
set_option linter.unusedVariables false
set_option linter.unusedSimpArgs false

structure Er where
  (off : Int)
  (ru : ByteArray)
  (sv : Int)
  (fm : ByteArray)
  (un : Int)
structure Zo where
  (nm : ByteArray)
  (ev : Value)
  (eras : List Er)
structure Lk where
  (nm tg : ByteArray)
structure Bk where
  (rules : List Ru)
  (zones : List Zo)
  (links : List Lk)

/-- a format, split: two of them (sign /), or one with a place for a letter (sign %) -/
def splitF (f : List UInt8) : List UInt8 × List UInt8 × List UInt8 × Bool :=
  if 12 < f.length then ([], [], [], false) else
  if (Lib.cut f [47]).2.2 = true then ((Lib.cut f [47]).1, (Lib.cut f [47]).2.1, [47], abbrB (txt (Lib.cut f [47]).1) && abbrB (txt (Lib.cut f [47]).2.1)) else
  if (Lib.cut f [37]).2.2 = true then ((Lib.cut f [37]).1, (Lib.cut f [37]).2.1, [37], decide ((Lib.cut f [37]).1 ++ (Lib.cut f [37]).2.1 = []) || (decide (((Lib.cut f [37]).1 ++ (Lib.cut f [37]).2.1).length ≤ 8) && abbrB (txt ((Lib.cut f [37]).1 ++ (Lib.cut f [37]).2.1)))) else
  (f, [], [], abbrB (txt f))
def letterOk (l : List UInt8) : Bool := decide (l = [45]) || abbrB (txt l)
/-- the name, ahead of the last tests -/
def abbrN (f : List UInt8) (save : Int) (l : List UInt8) : List UInt8 :=
  let s := splitF f
  if s.2.2.1 = [47] then (if save = 0 then s.1 else s.2.1) else
  if s.2.2.1 = [37] then s.1 ++ ((if l = [45] then [] else l) ++ s.2.1) else s.1
def abbrF (f : List UInt8) (save : Int) (l : List UInt8) : List UInt8 × Int :=
  if (splitF f).2.2.2 = false ∨ letterOk l = false then ([], 3) else
  if ¬ (0 ≤ save ∧ save ≤ 10800) then ([], 1) else
  if 8 < (abbrN f save l).length then ([], 2) else
  if abbrN f save l = [] then ([], 5) else (abbrN f save l, 0)
def abE (f : ByteArray) (save : Int) (l : ByteArray) : Int := (abbrF f.data.toList save l.data.toList).2

/-- the first error of a list -/
def firstE {α : Type} (f : α → Int) : List α → Int
  | [] => 0
  | x :: r => if f x = 0 then firstE f r else f x

def abbrsChk (rules : List Ru) (x : Er) : Int :=
  if x.ru.data.toList = [] then abE x.fm x.sv ⟨#[45]⟩ else
  if firstE (fun r : Ru => if r.nm = x.ru then abE x.fm r.sv r.lt else 0) rules = 0 then abE x.fm 0 ⟨#[45]⟩ else firstE (fun r : Ru => if r.nm = x.ru then abE x.fm r.sv r.lt else 0) rules
def stampE (t : Int) : Int := if -135140 ≤ t / 86400 ∧ t / 86400 ≤ 157053 then 0 else 1
def erD : Er := ⟨0, ⟨#[]⟩, 0, ⟨#[]⟩, 0⟩
def eraAt (l : List Er) (k : Nat) : Er := l[k]?.getD erD
def eraChk (rules : List Ru) (l : List Er) (k : Nat) : Int :=
  let x := eraAt l k
  if ¬ (-64800 ≤ x.off ∧ x.off ≤ 64800) ∨ ¬ (0 ≤ x.sv ∧ x.sv ≤ 10800) then 1 else
  if x.sv ≠ 0 ∧ x.ru.data.toList ≠ [] then 5 else
  if x.ru.data.toList ≠ [] ∧ (rules.any fun r => decide (r.nm = x.ru)) = false then 6 else
  if abbrsChk rules x ≠ 0 then abbrsChk rules x else
  if k + 1 = l.length then (if x.un ≠ 0 then 5 else 0) else
  if ¬ (-1099511627776 ≤ x.un ∧ x.un ≤ 1099511627776) then 1 else
  if stampE x.un ≠ 0 then stampE x.un else
  if 0 < k ∧ x.un ≤ (eraAt l (k - 1)).un then 5 else 0
def zoneChk (rules : List Ru) (before : List Zo) (z : Zo) : Int :=
  if nameB z.nm = false then 3 else
  if (before.any fun y => decide (y.nm = z.nm)) = true then 7 else
  if z.eras = [] then 5 else
  if 700 < z.eras.length then 2 else firstE (eraChk rules z.eras) (List.range z.eras.length)
def isZone (b : Bk) (n : ByteArray) : Bool := b.zones.any fun z => decide (z.nm = n)
def isLink (l : List Lk) (n : ByteArray) : Bool := l.any fun y => decide (y.nm = n)
def linkChk (b : Bk) (before : List Lk) (x : Lk) : Int :=
  if nameB x.nm = false ∨ nameB x.tg = false then 3 else
  if isZone b x.nm = true ∨ isLink before x.nm = true then 7 else
  if isZone b x.tg = false ∧ isLink b.links x.tg = false then 6 else 0
def bkChk (b : Bk) : Int :=
  if 40 < b.rules.length ∨ 20 < b.zones.length ∨ 20 < b.links.length then 2 else
  if firstE ruChk b.rules ≠ 0 then firstE ruChk b.rules else
  if firstE (fun k => zoneChk b.rules (b.zones.take k) (b.zones[k]?.getD ⟨⟨#[]⟩, undef, []⟩)) (List.range b.zones.length) ≠ 0 then firstE (fun k => zoneChk b.rules (b.zones.take k) (b.zones[k]?.getD ⟨⟨#[]⟩, undef, []⟩)) (List.range b.zones.length) else
  firstE (fun k => linkChk b (b.links.take k) (b.links[k]?.getD ⟨⟨#[]⟩, ⟨#[]⟩⟩)) (List.range b.links.length)

/-! first errors -/
theorem firstE_drop {α : Type} (f : α → Int) (l : List α) (k : Nat) (hk : k < l.length) (h : f l[k] = 0) (e : firstE f l = firstE f (l.drop k)) : firstE f l = firstE f (l.drop (k + 1)) := by
  rw [e, List.drop_eq_getElem_cons hk]
  show (if f l[k] = 0 then firstE f (l.drop (k + 1)) else f l[k]) = _
  rw [if_pos h]
theorem firstE_hit {α : Type} (f : α → Int) (l : List α) (k : Nat) (hk : k < l.length) (h : f l[k] ≠ 0) (e : firstE f l = firstE f (l.drop k)) : firstE f l = f l[k] := by
  rw [e, List.drop_eq_getElem_cons hk]
  show (if f l[k] = 0 then firstE f (l.drop (k + 1)) else f l[k]) = _
  rw [if_neg h]
theorem firstE_end {α : Type} (f : α → Int) (l : List α) (k : Nat) (hk : l.length ≤ k) (e : firstE f l = firstE f (l.drop k)) : firstE f l = 0 := by
  rw [e, List.drop_of_length_le hk]; rfl
theorem firstE_zero {α : Type} (f : α → Int) : ∀ (l : List α), firstE f l = 0 ↔ ∀ x ∈ l, f x = 0
  | [] => by simp [firstE]
  | x :: r => by
    unfold firstE
    split
    · rename_i h
      rw [firstE_zero f r]
      simp [h]
    · rename_i h
      simp [h]
end Go.Proofs.YtmhfhmhjaecoaaaGreatDoor
namespace Go.Proofs.YtmhfhmhjaecoaaaGreatDoor
open Go.RowKit Go.Joins
open Classical
set_option linter.unusedVariables false
set_option linter.unusedSimpArgs false

theorem book_within (n a b : Int) (w : World) :
    Calls Tryz.prog 41 #[.int .i64 n, .int .i64 a, .int .i64 b] w fun e w' => e = .returned (.bool (withinB n a b)) ∧ w = w' := by
  by_cases h1 : a ≤ n <;> by_cases h2 : n ≤ b <;>
  · go_enter Tryz.func41, Tryz.ntmps41
    go_wp2
    go_ret
    exact ⟨ret_bool (by simp [withinB, h1, h2]), rfl⟩
theorem txt_data' (s : ByteArray) : txt s.data.toList = s := rfl
theorem bookLetter_any (s : ByteArray) (w : World) (hs : s.size ≤ maxLen) :
    Calls Tryz.prog 40 #[.string s] w fun e w' => e = .returned (.bool (letterOk s.data.toList)) ∧ w = w' := by
  by_cases hL : s.toList = [45]
  · have hL2 : (s.toList == [45]) = true := by rw [hL]; rfl
    have HK : Hid (letterOk s.data.toList = true) := by show _ = _; unfold letterOk; rw [← ByteArray.toList_eq, hL]; rfl
    clear hL
    go_enter Tryz.func40, Tryz.ntmps40
    go_wp2
    go_ret
    exact ⟨ret_bool' HK.out.symm, rfl⟩
  · have hL2 : (s.toList == [45]) = false := by simpa using hL
    have HK : Hid (letterOk s.data.toList = abbrB s) := by show _ = _; unfold letterOk; rw [← ByteArray.toList_eq, decide_eq_false hL, Bool.false_or]; rw [ByteArray.toList_eq]; rfl
    clear hL
    go_enter Tryz.func40, Tryz.ntmps40
    go_wp2_with fail
    refine (isAbbr_any _ _ hs).mono ?_
    rintro e w' ⟨rfl, rfl⟩
    go_wp2
    go_ret
    exact ⟨ret_bool' HK.out.symm, rfl⟩
theorem ret_split {a b c a' b' c' : List UInt8} {x x' : Bool} (h : (a, b, c, x) = (a', b', c', x')) : Ending.returned (.tuple #[.string (txt a), .string (txt b), .string (txt c), .bool x]) = .returned (.tuple #[.string (txt a'), .string (txt b'), .string (txt c'), .bool x']) := by
  injection h with h1 h; injection h with h2 h; injection h with h3 h4
  rw [h1, h2, h3, h4]
end Go.Proofs.YtmhfhmhjaecoaaaGreatDoor
namespace Go.Proofs.YtmhfhmhjaecoaaaGreatDoor
open Go.RowKit Go.Joins
open Classical
set_option linter.unusedVariables false
set_option linter.unusedSimpArgs false

theorem cut_le (l sg : List UInt8) : (Lib.cut l sg).1.length ≤ l.length ∧ (Lib.cut l sg).2.1.length ≤ l.length := by
  unfold Lib.cut
  split
  · simp; omega
  · simp
def SplitR (f : List UInt8) (e : Ending) : Prop := ∃ a b c x, splitF f = (a, b, c, x) ∧ e = .returned (.tuple #[.string (txt a), .string (txt b), .string (txt c), .bool x])
theorem splitR_mk {f a b c : List UInt8} {x : Bool} {e : Ending} (h : splitF f = (a, b, c, x)) (he : e = .returned (.tuple #[.string (txt a), .string (txt b), .string (txt c), .bool x])) : SplitR f e := ⟨a, b, c, x, h, he⟩

set_option maxRecDepth 100000 in
set_option maxHeartbeats 4000000 in
theorem split_any (f : List UInt8) (w : World) (hf : f.length ≤ 9223372036854775807) (hm : MaxLen w) :
    Calls Tryz.prog 39 #[.string (txt f)] w fun e w' => SplitR f e ∧ Below w.heap.size w w' := by
  have hsz : (txt f).size = f.length := txt_size f
  by_cases hlong : 12 < f.length
  · have HK : Hid (splitF f = ([], [], [], false)) := by show _ = _; unfold splitF; rw [if_pos hlong]
    have z1 : (12 : Int) < ((txt f).size : Int) := by omega
    clear hlong
    go_enter Tryz.func39, Tryz.ntmps39
    go_wp2_with fail
    refine bodyPost_ret (results_tmp4 rfl _ _ _) rfl ?_
    exact ⟨splitR_mk HK.out rfl, Below.refl _ _⟩
  · have z1 : ¬ (12 : Int) < ((txt f).size : Int) := by omega
    have HM := Lib.hid hm
    have l1 := cut_le f [47]
    have l2 := cut_le f [37]
    have HC1 := Lib.hid (fun W (h : MaxLen W) => cut_any f [47] W (by omega) h)
    have HC2 := Lib.hid (fun W (h : MaxLen W) => cut_any f [37] W (by omega) h)
    have HF := Lib.hid (show splitF f = if (Lib.cut f [47]).2.2 = true then ((Lib.cut f [47]).1, (Lib.cut f [47]).2.1, [47], abbrB (txt (Lib.cut f [47]).1) && abbrB (txt (Lib.cut f [47]).2.1)) else
      if (Lib.cut f [37]).2.2 = true then ((Lib.cut f [37]).1, (Lib.cut f [37]).2.1, [37], decide ((Lib.cut f [37]).1 ++ (Lib.cut f [37]).2.1 = []) || (decide (((Lib.cut f [37]).1 ++ (Lib.cut f [37]).2.1).length ≤ 8) && abbrB (txt ((Lib.cut f [37]).1 ++ (Lib.cut f [37]).2.1)))) else
      (f, [], [], abbrB (txt f)) from by unfold splitF; rw [if_neg hlong])
    obtain ⟨a1, ea1⟩ : ∃ x, (Lib.cut f [47]).1 = x := ⟨_, rfl⟩
    obtain ⟨b1, eb1⟩ : ∃ x, (Lib.cut f [47]).2.1 = x := ⟨_, rfl⟩
    obtain ⟨i1, ei1⟩ : ∃ x, (Lib.cut f [47]).2.2 = x := ⟨_, rfl⟩
    obtain ⟨a2, ea2⟩ : ∃ x, (Lib.cut f [37]).1 = x := ⟨_, rfl⟩
    obtain ⟨b2, eb2⟩ : ∃ x, (Lib.cut f [37]).2.1 = x := ⟨_, rfl⟩
    obtain ⟨i2, ei2⟩ : ∃ x, (Lib.cut f [37]).2.2 = x := ⟨_, rfl⟩
    rw [ea1, eb1, ei1] at HC1
    rw [ea2, eb2, ei2] at HC2
    rw [ea1, eb1, ei1, ea2, eb2, ei2] at HF
    rw [ea1, eb1] at l1
    rw [ea2, eb2] at l2
    have HA1 := Lib.hid (fun W => isAbbr_any (txt a1) W (by rw [txt_size]; unfold maxLen; omega))
    have HA2 := Lib.hid (fun W => isAbbr_any (txt b1) W (by rw [txt_size]; unfold maxLen; omega))
    have HA3 := Lib.hid (fun W => isAbbr_any (txt (a2 ++ b2)) W (by rw [txt_size, List.length_append]; unfold maxLen; omega))
    have HA4 := Lib.hid (fun W => isAbbr_any (txt f) W (by rw [txt_size]; unfold maxLen; omega))
    have radd := fun W => run_string_add_sum (P := Tryz.prog) W (txt a2) (txt b2) (by rw [txt_size, txt_size]; omega)
    have s12 : (txt (a2 ++ b2)).size ≤ 100 := by rw [txt_size, List.length_append]; omega
    rw [show txt a2 ++ txt b2 = txt (a2 ++ b2) from txt_append a2 b2] at radd
    have HL1 := Lib.hid l1
    clear ea1 eb1 ei1 ea2 eb2 ei2 l1 l2 hlong hm
    go_enter Tryz.func39, Tryz.ntmps39
    go_wp2_with fail
    obtain ⟨W0, eW⟩ : ∃ W0, w.alloc (.cells #[.string ⟨#[47]⟩, .string ⟨#[37]⟩] 9) = W0 := ⟨_, rfl⟩
    have hb0 : Below w.heap.size w W0 := by rw [← eW]; exact (Below.refl _ _).alloc (Nat.le_refl _) _
    have x0 : W0.cell? ⟨w.heap.size, 0, none⟩ = some (.string ⟨#[47]⟩) := by rw [← eW]; exact (cell_of_row _ _ 0 _ _ _ (heap_alloc_new w _)).trans rfl
    have x1 : W0.cell? ⟨w.heap.size, 1, none⟩ = some (.string ⟨#[37]⟩) := by rw [← eW]; exact (cell_of_row _ _ 1 _ _ _ (heap_alloc_new w _)).trans rfl
    have hl0 : w.heap.size < W0.heap.size := by rw [← eW]; simp
    rw [eW]
    have HB0 := Lib.hid hb0
    have HX1 := Lib.hid x1
    have HL0 := Lib.hid hl0
    clear eW hb0 x1 hl0
    refine wp_loop_rounds 3 ?_
    rw [rounds_succ]
    go_wp2_with fail
    refine (HC1.out _ (HM.out.below HB0.out)).mono ?_
    rintro e w1 ⟨rfl, hb1⟩
    have y1 : w1.cell? ⟨w.heap.size, 1, none⟩ = some (.string ⟨#[37]⟩) := (hb1.cell (p := ⟨w.heap.size, 1, none⟩) HL0.out).trans HX1.out
    have HB1 := Lib.hid (HB0.out.trans (hb1.mono HB0.out.size))
    clear hb1 x0
    cases i1 with
    | true =>
      have hres := HF.out
      rw [if_pos rfl] at hres
      have HR := Lib.hid hres
      clear hres
      cases hA : abbrB (txt a1) with
      | false =>
        rw [hA] at HA1 HR
        clear hA
        go_wp2_with fail
        refine (HA1.out _).mono ?_
        rintro e w' ⟨rfl, rfl⟩
        go_wp2_with fail
        refine bodyPost_ret (results_tmp4 rfl _ _ _) rfl ?_
        exact ⟨splitR_mk HR.out rfl, HB1.out⟩
      | true =>
        rw [hA] at HA1 HR
        clear hA
        go_wp2_with fail
        refine (HA1.out _).mono ?_
        rintro e w' ⟨rfl, rfl⟩
        go_wp2_with fail
        refine (HA2.out _).mono ?_
        rintro e w' ⟨rfl, rfl⟩
        go_wp2_with fail
        refine bodyPost_ret (results_tmp4 rfl _ _ _) rfl ?_
        exact ⟨splitR_mk HR.out rfl, HB1.out⟩
    | false =>
      have hres := HF.out
      rw [if_neg (by simp)] at hres
      have HR := Lib.hid hres
      clear hres HF
      go_wp2_with fail
      rw [rounds_succ]
      go_wp2_with fail
      refine (HC2.out _ (HM.out.below HB1.out)).mono ?_
      rintro e w2 ⟨rfl, hb2⟩
      have HB2 := Lib.hid (HB1.out.trans (hb2.mono HB1.out.size))
      clear hb2 y1 HB1
      cases i2 with
      | true =>
        have hres := HR.out
        rw [if_pos rfl] at hres
        have HR2 := Lib.hid hres
        clear hres HR
        obtain ⟨S, eS⟩ : ∃ S, a2 ++ b2 = S := ⟨_, rfl⟩
        rw [eS] at HR2 HA3 radd s12
        clear eS
        by_cases h0 : S = []
        · have b0 : (txt S).toList.isEmpty = true := by rw [h0, bytes_toList_txt]; rfl
          rw [decide_eq_true h0, Bool.true_or] at HR2
          clear h0
          go_wp2_with fail
          refine bodyPost_ret (results_tmp4 rfl _ _ _) rfl ?_
          exact ⟨splitR_mk HR2.out rfl, HB2.out⟩
        · have b0 : (txt S).toList.isEmpty = false := by
            rw [bytes_toList_txt]
            cases S with
            | nil => exact absurd rfl h0
            | cons c r => rfl
          rw [decide_eq_false h0, Bool.false_or] at HR2
          clear h0
          by_cases h8 : S.length ≤ 8
          · have z8 : ((txt S).size : Int) ≤ 8 := by rw [txt_size]; omega
            rw [decide_eq_true h8, Bool.true_and] at HR2
            have hs : (txt S).size = S.length := txt_size S
            clear h8
            go_wp2_with fail
            refine (HA3.out _).mono ?_
            rintro e w' ⟨rfl, rfl⟩
            go_wp2_with fail
            refine bodyPost_ret (results_tmp4 rfl _ _ _) rfl ?_
            exact ⟨splitR_mk HR2.out rfl, HB2.out⟩
          · have z8 : ¬ ((txt S).size : Int) ≤ 8 := by rw [txt_size]; omega
            have z9 : ¬ (S.length : Int) ≤ 8 := by omega
            rw [decide_eq_false h8, Bool.false_and] at HR2
            clear h8
            go_wp2_with fail
            refine bodyPost_ret (results_tmp4 rfl _ _ _) rfl ?_
            exact ⟨splitR_mk HR2.out rfl, HB2.out⟩
      | false =>
        have hres := HR.out
        rw [if_neg (by simp)] at hres
        have HR2 := Lib.hid hres
        clear hres HR
        go_wp2_with fail
        rw [rounds_succ]
        go_wp2_with fail
        refine (HA4.out _).mono ?_
        rintro e w' ⟨rfl, rfl⟩
        go_wp2_with fail
        refine bodyPost_ret (results_tmp4 rfl _ _ _) rfl ?_
        exact ⟨splitR_mk HR2.out rfl, HB2.out⟩
end Go.Proofs.YtmhfhmhjaecoaaaGreatDoor
