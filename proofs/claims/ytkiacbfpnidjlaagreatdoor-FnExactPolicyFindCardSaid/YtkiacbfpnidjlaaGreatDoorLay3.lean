/- How the points of a graph are laid: l5Point: a point's places. -/
import Derived.Test.YtkiacbfpnidjlaaGreatDoorLay2
import Derived.Test.YtkiacbfpnidjlaaGreatDoorKit
import Derived.StillTailTactics
import Derived.Deep.CutBlock
import Derived.Deep.RegionHeld3
namespace Go.Proofs.YtkiacbfpnidjlaaGreatDoor
open Go.RowKit
set_option linter.unusedSimpArgs false
set_option linter.unusedVariables false

theorem ins_one (g : List In4) : ∀ u ∈ (insR g).flatten, u.oneCell' = true := by
  intro u hu
  simp only [insR, List.mem_flatten, List.mem_map] at hu
  obtain ⟨r, ⟨p, _, rfl⟩, hu⟩ := hu
  simp [In4.cells] at hu
  rcases hu with rfl | rfl | rfl | rfl <;> rfl
theorem insR_app (g g' : List In4) : insR (g ++ g') = insR g ++ insR g' := by simp [insR]

theorem own_apart_l {V R : World} {b1 b2 s1 s2 n1 n2 : Nat} {e1 e2 : TypeId} {v1 v2 : Value} {x1 x2 : List Value} (h1 : V.ownsRow b1 e1 s1 v1 n1 x1) (h2 : R.ownsRow b2 e2 s2 v2 n2 x2) (hb : V.heap.size ≤ b2) : v2.ownBlock = none ∨ v2.ownBlock ≠ v1.ownBlock := by
  cases h : v2.ownBlock with
  | none => exact .inl rfl
  | some k =>
    refine .inr fun e => ?_
    have a := (h2.lt k h).1
    have b := (h1.lt k e.symm).2
    omega
theorem own_eq {w : World} {b s n n' : Nat} {e : TypeId} {v : Value} {xs xs' : List Value} (h : w.ownsRow b e s v n xs) (hn : n = n') (hx : xs = xs') : w.ownsRow b e s v n' xs' := by subst hn; subst hx; exact h

theorem Starts.get {g : List Pt} {ys ns : List Bool} {ps : List Nat} (h : Starts g ys ns ps) {j n : Nat} (hl : g.length = n) (hj : j < n) : ps[j]? = some (stAt g ys ns j) := h j (by omega)

end Go.Proofs.YtkiacbfpnidjlaaGreatDoor
