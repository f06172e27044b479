/- The laws' helpers on calls: eqCall, markCall, heldCall. -/
import Derived.Test.YtkiacbfpnidjlaaDoorLawA
namespace Go.Proofs.YtkiacbfpnidjlaaDoor
open Go.RowKit
set_option linter.unusedSimpArgs false
set_option linter.unusedVariables false

def callEq (n n' : Int) (xs ys : List Int) : Bool := decide (n = n' ∧ xs = ys)
theorem callEq_iff {n n' : Int} {xs ys : List Int} : callEq n n' xs ys = true ↔ n = n' ∧ xs = ys := by simp [callEq]
theorem callEq_of {n n' : Int} {xs ys : List Int} {b : Bool} (e : b = true ↔ n = n' ∧ xs = ys) : b = callEq n n' xs ys := by rw [Bool.eq_iff_iff, e, callEq_iff]

theorem eqCall_any (n n' : Int) (u v : Value) (g h : List Int) (w : World) (hu : Sl w 1 u (ints g)) (hv : Sl w 1 v (ints h)) :
    Calls Tryd.prog 34 #[.agg #[.int .i64 n, u], .agg #[.int .i64 n', v]] w fun e w' => e = .returned (.bool (callEq n n' g h)) ∧ Below w.heap.size w w' := by
  have hu0 := hu; have hv0 := hv
  obtain ⟨A, k, c, rfl, hA⟩ := hu
  obtain ⟨A', k', c', rfl, hA'⟩ := hv
  clear hA hA'
  by_cases e : n = n'
  · have hd : (n != n') = false := by simp [e]
    go_enter Tryd.func34, Tryd.ntmps34
    go_wp2_with (go_at_call 69; refine (eqIntS_any _ _ g h _ (hu0.below (by go_grown)) (hv0.below (by go_grown))).mono ?_; rintro e1 w1 ⟨rfl, hb1⟩)
    all_goals
      go_ret
      refine ⟨ret_bool (callEq_of ?_), below_then (by go_grown) hb1⟩
      have := @intsEq_iff g h
      cases hx : intsEq g h <;> simp_all
  · have hd : (n != n') = true := by simp [e]
    go_enter Tryd.func34, Tryd.ntmps34
    go_wp2
    go_ret
    exact ⟨ret_bool (callEq_of (by simp [e])), by go_grown⟩

/-- Blocks but for one are as they were, and what is below a place is as it was. -/
theorem grown_alloc_then {w w' : World} {o : Obj} {r : Option Nat} (h : (w.alloc o).grownBy w' r) : w.grownBy w' r := (World.grownBy_alloc w o r).trans h

end Go.Proofs.YtkiacbfpnidjlaaDoor
