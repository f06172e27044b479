/- How impl lays the points of a graph: block.write puts a point's places behind a program. -/
import Derived.Test.YtkiacbfpnidjlaaGreatDoorBlkA
import Derived.Test.YtkiacbfpnidjlaaGreatDoorKit
import Derived.Test.YtkiacbfpnidjlaaGreatDoorLay3
import Derived.Deep.RegionHeld3
import Derived.Deep.CutBlock
namespace Go.Proofs.YtkiacbfpnidjlaaGreatDoor
open Go.RowKit
set_option linter.unusedSimpArgs false
set_option linter.unusedVariables false

theorem own_lt {w : World} {base n s : Nat} {e : TypeId} {v : Value} {xs : List Value} (h : w.ownsRow base e s v n xs) {k : Nat} (hk : w.heap.size ≤ k) : some k ≠ v.ownBlock := by
  intro e2
  have := (h.lt k e2.symm).2
  omega
theorem own_grown_below {w w' : World} {base n : Nat} {e : TypeId} {size : Nat} {v : Value} {xs : List Value} (h : w.ownsRow base e size v n xs) (hg : w.grownBy w' v.ownBlock) (hb : base ≤ w.heap.size) : Below base w w' :=
  (Below.refl base w).grown hg hb (fun k hk => (h.lt k hk).1)

end Go.Proofs.YtkiacbfpnidjlaaGreatDoor
