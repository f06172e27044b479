/- How the laws draw a call of whatever make. -/
import Derived.Test.YtccklepidlddcaaDrawCall
import Derived.Test.YtccklepidlddcaaLawCall
import Derived.Test.YtccklepidlddcaaWgCode
namespace Go.Proofs.Ytccklepidlddcaa
open Go.RowKit
set_option linter.unusedSimpArgs false
set_option linter.unusedVariables false

/-- A slice without its first element. -/
theorem SlA.tail {w : World} {b off n c : Nat} {x : Int} {xs : List Int} (h : SlA w 1 (some ⟨b, off, none⟩) (n + 1) c (ints (x :: xs))) : SlA w 1 (some ⟨b, off + 1, none⟩) n (c - 1) (ints xs) := by
  have hl := h.len
  have hc := h.cap
  have hm := h.max
  refine ⟨by simp [ints] at hl ⊢; omega, by omega, by omega, fun hn => ?_⟩
  obtain ⟨b', off', e, hb, he⟩ := h.at_ (by omega)
  simp only [Option.some.injEq, Addr.mk.injEq] at e
  obtain ⟨rfl, rfl, _⟩ := e
  refine ⟨b, off + 1, rfl, hb, fun k r hr j v hv => ?_⟩
  have := he (k + 1) r (by simpa [ints] using hr) j v hv
  rw [show off + (k + 1) * 1 + j = off + 1 + k * 1 + j by omega] at this
  exact this


end Go.Proofs.Ytccklepidlddcaa
