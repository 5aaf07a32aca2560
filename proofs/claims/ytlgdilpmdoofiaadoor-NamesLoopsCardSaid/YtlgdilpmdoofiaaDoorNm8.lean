/- What the library says of slices.Sort at strings and of slices.Sorted(maps.Keys(m)), and names.All over it. -/
import Derived.Test.YtlgdilpmdoofiaaDoorIter
import Derived.Test.YtlgdilpmdoofiaaDoorNm7
namespace Go.Proofs.YtlgdilpmdoofiaaDoor
open Go.RowKit Go.Joins Go.Maps Go.Sort
set_option linter.unusedVariables false

theorem sortStr_says : SortStrSays := by
  intro ns v base W hown hlen
  rcases hown.2 with ⟨rfl, h0⟩ | ⟨g, cap, cur, rfl, hbase, hb, h1, h2, h3, h4⟩
  · have hns : ns = [] := by
      have := h0
      cases ns with
      | nil => rfl
      | cons a l => simp at this
    subst hns
    refine (AnyM.slices_Sort_string_none Tryd.sort54 Option.none 0 W).mono ?_
    rintro e w' ⟨rfl, rfl⟩
    exact ⟨rfl, by simpa using hown, ⟨rfl, rfl, rfl, Nat.le_refl _, fun k _ _ => rfl⟩⟩
  · have hb' := hb
    refine (AnyM.slices_Sort_string Tryd.sort54 g 0 cap ns W (holds_of_block hb (by simpa using h4)) (Array.getElem?_eq_some_iff.1 hb).1 (by omega)).mono ?_
    rintro e w' ⟨rfl, n, os, rfl⟩
    exact ⟨rfl, ownsRow_sorted (ts := ns.mergeSort leB) (by simp) hbase hb h1 h2 h3, grownBy_sorted _⟩

theorem keys_says : KeysSays := by
  intro b n D w h hn
  have hsz : Maps.size D ≤ n := h.size_le
  refine ⟨callsIn_wide.1 (Tryd.maps_Keys_53 (some b) w), ?_⟩
  refine (callsIn_wide.1 (Tryd.slices_Sorted_keys_52_53 b n D heldV w h (by simp only [maxLen]; omega) (by omega))).mono ?_
  rintro e w' ⟨v, ss, rfl, hp, hr, -, hb⟩
  exact ⟨v, ss, rfl, hp, hr, hb⟩

theorem All_go (b : Bk) (rv zv lv : Value) (w : World) (hB : BookAt w.heap.size w rv zv lv b) (hm : MaxLen w) (ht : Tab10 w) :
    Calls Tryd.prog 25 #[.agg #[rv, zv, lv]] w (AllPost b w) := All_any keys_says sortStr_says b rv zv lv w hB hm ht
end Go.Proofs.YtlgdilpmdoofiaaDoor
