/- What a law's row gives where it lists the table of the hash's words. -/
import Derived.Test.YtcomdkmglihdbaaGreatDoorDoor
import Derived.Test.YtcomdkmglihdbaaGreatDoorHashNA
namespace Go.Proofs.YtcomdkmglihdbaaGreatDoor
open Go.RowKit Go.WideShapes Go.ChangeShapes Go.ChangeAt
set_option linter.unusedSimpArgs false
set_option linter.unusedVariables false

theorem kww_of_laid {l : List (String × DataW Unit)} {W : World} (h : laidMetH Tryz.prog l W) (hh : (l.all fun x => x.2.handleName?.isNone) = true)
    (hf : l.filter (fun x => x.1 == "loop.example/gatelodge/impl.hashWords") = [("loop.example/gatelodge/impl.hashWords", Lib.tabData .u32 kW)]) : Kww W := by
  rw [MakeChecks.laidMetH_plain _ _ _ hh] at h
  have h1 := h.filter (fun x => x.1 == "loop.example/gatelodge/impl.hashWords")
  rw [hf] at h1
  exact Lib.tabIs_of_head (g := 3) (n := 64) (rest := []) (by kernel_rfl) (by kernel_rfl) Tryz.underlying170 Tryz.underlying73 (by kernel_rfl) (by kernel_rfl) h1
end Go.Proofs.YtcomdkmglihdbaaGreatDoor
