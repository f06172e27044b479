/- The laws' helpers on calls: eqCall, markCall, heldCall. -/
import Derived.Test.YtccklepidlddcaaLawA
namespace Go.Proofs.Ytccklepidlddcaa
open Go.RowKit
set_option linter.unusedSimpArgs false
set_option linter.unusedVariables false

def callEq (n n' : Int) (xs ys : List Int) : Bool := decide (n = n' ∧ xs = ys)
theorem callEq_iff {n n' : Int} {xs ys : List Int} : callEq n n' xs ys = true ↔ n = n' ∧ xs = ys := by simp [callEq]
theorem callEq_of {n n' : Int} {xs ys : List Int} {b : Bool} (e : b = true ↔ n = n' ∧ xs = ys) : b = callEq n n' xs ys := by rw [Bool.eq_iff_iff, e, callEq_iff]

/-- Blocks but for one are as they were, and what is below a place is as it was. -/
theorem grown_alloc_then {w w' : World} {o : Obj} {r : Option Nat} (h : (w.alloc o).grownBy w' r) : w.grownBy w' r := (World.grownBy_alloc w o r).trans h

end Go.Proofs.Ytccklepidlddcaa
