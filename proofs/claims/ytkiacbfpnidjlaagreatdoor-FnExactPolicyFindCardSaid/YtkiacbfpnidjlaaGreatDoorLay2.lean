/- How the points of a graph are laid: l5Lay.place. -/
import Derived.Test.YtkiacbfpnidjlaaGreatDoorPts
import Derived.Deep.QuietTactic
import Derived.BigQuiet
import Derived.IntWalk
namespace Go.Proofs.YtkiacbfpnidjlaaGreatDoor
open Go.RowKit
set_option linter.unusedSimpArgs false
set_option linter.unusedVariables false

/-- What a point that is ok leads to. -/
theorem look_ways {g : List Pt} (hg : graphOk g) {k : Nat} {p : Pt} (hp : g[k]? = some p) (h0 : p.op ≠ 0) : ∃ y n : Nat, p.yes = y ∧ p.no = n ∧ y < k ∧ n < k := by
  have := hg.2 k p hp
  unfold ptOk at this
  refine ⟨p.yes.toNat, p.no.toNat, ?_, ?_, ?_, ?_⟩ <;> omega
theorem drewN_below (w : World) (m : Nat) : Below w.heap.size w (w.drewN m) := ⟨rfl, rfl, rfl, Nat.le_refl _, fun _ _ => rfl⟩
def Starts (g : List Pt) (ys ns : List Bool) (ps : List Nat) : Prop := ∀ j : Nat, j < g.length → ps[j]? = some (stAt g ys ns j)

end Go.Proofs.YtkiacbfpnidjlaaGreatDoor
