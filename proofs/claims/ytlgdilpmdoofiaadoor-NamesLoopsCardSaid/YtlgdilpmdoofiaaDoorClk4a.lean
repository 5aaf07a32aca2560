/- SpanOdd: its walk. -/
import Derived.Test.YtlgdilpmdoofiaaDoorClk00
import Derived.Test.YtlgdilpmdoofiaaDoorTxtMath
namespace Go.Proofs.YtlgdilpmdoofiaaDoor
open Go.RowKit Go.Joins
set_option linter.unusedVariables false
set_option linter.unusedSimpArgs false

theorem txt_arr (l : List UInt8) : (⟨l.toArray⟩ : ByteArray) = txt l := rfl
theorem lit_txt1 (a : UInt8) : (⟨#[a]⟩ : ByteArray) = txt [a] := rfl
theorem bytes_toList_txt (l : List UInt8) : (txt l).toList = l := by rw [ByteArray.toList_eq, txt_data]

theorem spanP_len {n : Int} (h0 : 0 ≤ n) (h1 : n ≤ 604800) : (spanP n).length ≤ 9 := by
  unfold spanP
  have := itoa_len3 (n := n / 3600) (by omega) (by omega)
  simp only [List.length_append, T2_length, List.length_cons, List.length_nil]
  split <;> simp [T2_length] <;> omega

end Go.Proofs.YtlgdilpmdoofiaaDoor
