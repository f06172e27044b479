/- How the laws draw a call's text, and a call of whatever make. -/
import Derived.Test.YtaieopdfkapgdaaDoorDrawCall
import Derived.Test.YtaieopdfkapgdaaDoorRdBend
import Derived.Test.YtaieopdfkapgdaaDoorCallW
namespace Go.Proofs.YtaieopdfkapgdaaDoor
open Go.RowKit
set_option linter.unusedSimpArgs false
set_option linter.unusedVariables false

theorem callText_len {n : Int} {xs : List Int} (h : callOk n xs) : (callText n xs).length ≤ 54 := by
  have h1 := argText_len xs h.2.2
  have h2 : (Lib.itoa n).length ≤ 10 := by rw [itoa_val n h.1.1]; exact decDigits_le 9 _ (by have := h.1; omega)
  have h3 := h.2.1
  unfold callText
  simp
  omega

end Go.Proofs.YtaieopdfkapgdaaDoor
