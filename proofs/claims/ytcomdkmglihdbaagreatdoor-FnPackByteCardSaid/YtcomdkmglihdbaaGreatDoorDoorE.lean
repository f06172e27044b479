/- What a law's row gives where it lists the hash's words, the library's tables and the handle errors.errorType; and a world that holds them. -/
import Derived.Test.YtcomdkmglihdbaaGreatDoorDoorH
import Derived.Test.YtcomdkmglihdbaaGreatDoorPackO
import Derived.LaidHandle
namespace Go.Proofs.YtcomdkmglihdbaaGreatDoor
open Go.RowKit Go.WideShapes Go.ChangeShapes Go.ChangeAt
set_option linter.unusedSimpArgs false
set_option linter.unusedVariables false

theorem laidMetH_split {P : Program} {l hs : List (String × DataW Unit)} {W : World} {x : String × DataW Unit} (h : laidMetH P l W) (hf : (l.filter fun x => x.2.handleName?.isSome) = x :: hs) :
    laidMet P (l.filter fun x => x.2.handleName?.isNone) W ∧ handlesMet P (x :: hs) W := by
  unfold laidMetH at h
  rw [hf] at h
  exact h
theorem pow_of_laidE {l : List (String × DataW Unit)} {W : World} (h : laidMet Tryz.prog l W)
    (hf : l.filter (fun x => x.1 == "internal/strconv.uint64pow10") = [("internal/strconv.uint64pow10", Lib.tabData .u64 Lib.pow10Tab)]) : Pow W := by
  have h1 := h.filter (fun x => x.1 == "internal/strconv.uint64pow10")
  rw [hf] at h1
  exact Lib.tabIs_of_head (g := 2) (n := 20) (rest := []) (by kernel_rfl) (by kernel_rfl) Tryz.underlying164 Tryz.underlying130 (by kernel_rfl) (by kernel_rfl) h1
theorem kww_of_laidE {l : List (String × DataW Unit)} {W : World} (h : laidMet Tryz.prog l W)
    (hf : l.filter (fun x => x.1 == "loop.example/gatelodge/impl.hashWords") = [("loop.example/gatelodge/impl.hashWords", Lib.tabData .u32 kW)]) : Kww W := by
  have h1 := h.filter (fun x => x.1 == "loop.example/gatelodge/impl.hashWords")
  rw [hf] at h1
  exact Lib.tabIs_of_head (g := 3) (n := 64) (rest := []) (by kernel_rfl) (by kernel_rfl) Tryz.underlying170 Tryz.underlying73 (by kernel_rfl) (by kernel_rfl) h1
theorem etGlob : Tryz.prog.globalNamed "errors.errorType" = some 1 := by kernel_rfl
theorem etRt : (Tryz.prog.cutTypes.find? (·.1 == "internal/reflectlite.rtype")).map (·.2) = some 141 := by kernel_rfl
theorem etSize : Tryz.prog.types.size = 244 := by kernel_rfl
theorem etRow : ((List.range 244).filter fun t => Tryz.prog.rowNamed t [101, 114, 114, 111, 114]) = [45] := by kernel_rfl
theorem et_of_handles {W : World} {hs : List (String × DataW Unit)} (h : handlesMet Tryz.prog (("errors.errorType", .iface "internal/reflectlite.rtype" (.agg [.ptr (.lit (.string [101, 114, 114, 111, 114]))])) :: hs) W) : EtIs W := by
  obtain ⟨name, u, ty, e1, e2, e3, e4, e5⟩ := h _ (List.mem_cons_self)
  have en : name = [101, 114, 114, 111, 114] := (Option.some.inj e1).symm
  subst en
  obtain rfl := Option.some.inj (etRt.symm.trans e2)
  have hm : ty ∈ (List.range 244).filter fun t => Tryz.prog.rowNamed t [101, 114, 114, 111, 114] := List.mem_filter.2 ⟨List.mem_range.2 (by rw [← etSize]; exact e3), e4⟩
  rw [etRow] at hm
  obtain rfl := List.mem_singleton.1 hm
  have hh : typeHandle Tryz.prog 45 = .pointer (some ⟨6, 45, none⟩) := by kernel_rfl
  rw [hh] at e5
  have := World.var?_cell etGlob e5 0
  unfold EtIs
  simpa using this

def datCellsE : DataW Unit → Array Value
  | .iface _ _ => #[.iface 141 (.agg #[.pointer (some ⟨6, 45, none⟩)])]
  | d => datCells d
/-- A world that holds the listed tables and the handle. -/
noncomputable def laidWorldE (os : Os) (l : List (String × DataW Unit)) : World :=
  l.foldl (fun W x => { W with heap := W.heap.modify ((Tryz.prog.globalNamed x.1).getD 0) fun | .cells _ t fr => .cells (datCellsE x.2) t fr | o => o }) (World.holding Tryz.prog os ⟨#[], #[], []⟩)
end Go.Proofs.YtcomdkmglihdbaaGreatDoor
