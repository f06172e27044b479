/- What every law's last step shares where its row lists tables of integers: the world that holds them, and what the row's list gives. -/
import Derived.Test.YtkiacbfpnidjlaaGreatDoorFrame
import Derived.Test.YtkiacbfpnidjlaaGreatDoorLinesI
import Derived.Test.YtkiacbfpnidjlaaGreatDoorCards
import Derived.Test.YtkiacbfpnidjlaaGreatDoorTie
import Derived.Deep.DeepHandedRow
import Derived.LaidSub
import Derived.MakeChecks
namespace Go.Proofs.YtkiacbfpnidjlaaGreatDoor
open Go.RowKit Go.WideShapes Go.ChangeShapes Go.ChangeAt
set_option linter.unusedSimpArgs false
set_option linter.unusedVariables false

def datCells : DataW Unit → Array Value
  | .agg ds => (ds.filterMap fun | .lit (.int k z) => some (Value.int k z) | _ => none).toArray
  | _ => #[]
/-- A world that holds the listed tables. -/
noncomputable def laidWorld (os : Os) (l : List (String × DataW Unit)) : World :=
  l.foldl (fun W x => { W with heap := W.heap.modify ((Tryz.prog.globalNamed x.1).getD 0) fun | .cells _ t fr => .cells (datCells x.2) t fr | o => o }) (World.holding Tryz.prog os ⟨#[], #[], []⟩)

theorem pow_of_laid {l : List (String × DataW Unit)} {W : World} (h : laidMetH Tryz.prog l W) (hh : (l.all fun x => x.2.handleName?.isNone) = true)
    (hf : l.filter (fun x => x.1 == "internal/strconv.uint64pow10") = [("internal/strconv.uint64pow10", Lib.tabData .u64 Lib.pow10Tab)]) : Pow W := by
  rw [MakeChecks.laidMetH_plain _ _ _ hh] at h
  have h1 := h.filter (fun x => x.1 == "internal/strconv.uint64pow10")
  rw [hf] at h1
  exact Lib.tabIs_of_head (g := 0) (n := 20) (rest := []) (by kernel_rfl) (by kernel_rfl) Tryz.underlying139 Tryz.underlying120 (by kernel_rfl) (by kernel_rfl) h1
end Go.Proofs.YtkiacbfpnidjlaaGreatDoor
