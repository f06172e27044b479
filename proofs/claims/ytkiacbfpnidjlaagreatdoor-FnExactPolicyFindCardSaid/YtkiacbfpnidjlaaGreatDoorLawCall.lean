/- The laws' helpers on calls: eqCall, markCall, heldCall. -/
import Derived.Test.YtkiacbfpnidjlaaGreatDoorLawA
namespace Go.Proofs.YtkiacbfpnidjlaaGreatDoor
open Go.RowKit
set_option linter.unusedSimpArgs false
set_option linter.unusedVariables false

def callEq (n n' : Int) (xs ys : List Int) : Bool := decide (n = n' ∧ xs = ys)
theorem callEq_iff {n n' : Int} {xs ys : List Int} : callEq n n' xs ys = true ↔ n = n' ∧ xs = ys := by simp [callEq]
theorem callEq_of {n n' : Int} {xs ys : List Int} {b : Bool} (e : b = true ↔ n = n' ∧ xs = ys) : b = callEq n n' xs ys := by rw [Bool.eq_iff_iff, e, callEq_iff]

theorem eqCall_any (n n' : Int) (u v : Value) (g h : List Int) (w : World) (hu : Sl w 1 u (ints g)) (hv : Sl w 1 v (ints h)) :
    Calls Tryz.prog 8 #[.agg #[.int .i64 n, u], .agg #[.int .i64 n', v]] w fun e w' => e = .returned (.bool (callEq n n' g h)) ∧ Below w.heap.size w w' := by
  have hu0 := hu; have hv0 := hv
  obtain ⟨A, k, c, rfl, hA⟩ := hu
  obtain ⟨A', k', c', rfl, hA'⟩ := hv
  clear hA hA'
  by_cases e : n = n'
  · have hd : (n != n') = false := by simp [e]
    go_enter Tryz.func8, Tryz.ntmps8
    go_wp2_with (go_at_call 21; refine (eqIntS_any _ _ g h _ (hu0.below (by go_grown)) (hv0.below (by go_grown))).mono ?_; rintro e1 w1 ⟨rfl, hb1⟩)
    all_goals
      go_ret
      refine ⟨ret_bool (callEq_of ?_), below_then (by go_grown) hb1⟩
      have := @intsEq_iff g h
      cases hx : intsEq g h <;> simp_all
  · have hd : (n != n') = true := by simp [e]
    go_enter Tryz.func8, Tryz.ntmps8
    go_wp2
    go_ret
    exact ⟨ret_bool (callEq_of (by simp [e])), by go_grown⟩

/-- Blocks but for one are as they were, and what is below a place is as it was. -/
theorem grown_alloc_then {w w' : World} {o : Obj} {r : Option Nat} (h : (w.alloc o).grownBy w' r) : w.grownBy w' r := (World.grownBy_alloc w o r).trans h

theorem markCall_own (base : Nat) (c : Int) (v : Value) (xs : List Int) (n : Nat) (m : Int) (w : World) (hn : xs.length = n) (h : w.ownsRow base 3 1 v n (ints xs).flatten) (hn2 : n ≤ 2305843009213693952) (hm : -4611686018427387904 ≤ m) (hm2 : m ≤ 4611686018427387904) :
    Calls Tryz.prog 11 #[.agg #[.int .i64 c, v], .int .i64 m] w fun e w' =>
      e = .returned (.int .i64 (m + n)) ∧ w.grownBy w' v.ownBlock ∧ w'.ownsRow base 3 1 v n (ints (marks m n)).flatten := by
  have h0 := h
  obtain ⟨A, n', c', rfl, hA⟩ := SlA.of_own h ((ints_len xs).trans hn) (ints_rows xs)
  clear hA h
  go_enter Tryz.func11, Tryz.ntmps11
  go_wp2_with (go_at_call 24; refine (markIntS_own base _ xs n m _ hn (h0.alloc _) hn2 hm hm2).mono ?_; rintro e1 w1 ⟨rfl, hg1, ho1⟩)
  all_goals
    go_ret
    exact ⟨rfl, grown_alloc_then hg1, ho1⟩

theorem heldCall_marks (c : Int) (v : Value) (n : Nat) (m : Int) (w : World) (h : Sl w 1 v (ints (marks m n))) (hn2 : n ≤ 2305843009213693952) (hm : 0 ≤ m) (hm2 : m ≤ 4611686018427387904) :
    Calls Tryz.prog 12 #[.agg #[.int .i64 c, v], .int .i64 m] w fun e w' => e = .returned (.int .i64 (m + n)) ∧ Below w.heap.size w w' := by
  have h0 := h
  obtain ⟨A, n', c', rfl, hA⟩ := h
  clear hA
  have hd : ¬ m + n < 0 := by omega
  go_enter Tryz.func12, Tryz.ntmps12
  go_wp2_with (go_at_call 25; refine (heldIntS_marks _ n m _ (h0.below (by go_grown)) hn2 (by omega) hm2).mono ?_; rintro e1 w1 ⟨rfl, rfl⟩)
  all_goals
    go_ret
    exact ⟨rfl, by go_grown⟩
end Go.Proofs.YtkiacbfpnidjlaaGreatDoor
