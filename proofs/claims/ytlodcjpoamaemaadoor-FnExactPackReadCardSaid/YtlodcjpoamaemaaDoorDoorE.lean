/- What a law's row gives where it lists the hash's words, the library's tables and the handle errors.errorType; and a world that holds them. -/
import Derived.Test.YtlodcjpoamaemaaDoorDoorH
import Derived.Test.YtlodcjpoamaemaaDoorPackO
import Derived.LaidHandle
namespace Go.Proofs.YtlodcjpoamaemaaDoor
open Go.RowKit Go.WideShapes Go.ChangeShapes Go.ChangeAt
set_option linter.unusedSimpArgs false
set_option linter.unusedVariables false

theorem laidMetH_split {P : Program} {l hs : List (String × DataW Unit)} {W : World} {x : String × DataW Unit} (h : laidMetH P l W) (hf : (l.filter fun x => x.2.handleName?.isSome) = x :: hs) :
    laidMet P (l.filter fun x => x.2.handleName?.isNone) W ∧ handlesMet P (x :: hs) W := by
  unfold laidMetH at h
  rw [hf] at h
  exact h
theorem pow_of_laidE {l : List (String × DataW Unit)} {W : World} (h : laidMet Tryd.prog l W)
    (hf : l.filter (fun x => x.1 == "internal/strconv.uint64pow10") = [("internal/strconv.uint64pow10", Lib.tabData .u64 Lib.pow10Tab)]) : Pow W := by
  have h1 := h.filter (fun x => x.1 == "internal/strconv.uint64pow10")
  rw [hf] at h1
  exact Lib.tabIs_of_head (g := 2) (n := 20) (rest := []) (by kernel_rfl) (by kernel_rfl) Tryd.underlying123 Tryd.underlying112 (by kernel_rfl) (by kernel_rfl) h1
theorem kww_of_laidE {l : List (String × DataW Unit)} {W : World} (h : laidMet Tryd.prog l W)
    (hf : l.filter (fun x => x.1 == "loop.example/gatelodge/impl.hashWords") = [("loop.example/gatelodge/impl.hashWords", Lib.tabData .u32 kW)]) : Kww W := by
  have h1 := h.filter (fun x => x.1 == "loop.example/gatelodge/impl.hashWords")
  rw [hf] at h1
  exact Lib.tabIs_of_head (g := 3) (n := 64) (rest := []) (by kernel_rfl) (by kernel_rfl) Tryd.underlying129 Tryd.underlying78 (by kernel_rfl) (by kernel_rfl) h1
theorem etGlob : Tryd.prog.globalNamed "errors.errorType" = some 0 := by kernel_rfl
theorem etRt : (Tryd.prog.cutTypes.find? (·.1 == "internal/reflectlite.rtype")).map (·.2) = some 90 := by kernel_rfl
theorem etSize : Tryd.prog.types.size = 160 := by kernel_rfl
theorem etRow : ((List.range 160).filter fun t => Tryd.prog.rowNamed t [101, 114, 114, 111, 114]) = [35] := by kernel_rfl
theorem et_of_handles {W : World} {hs : List (String × DataW Unit)} (h : handlesMet Tryd.prog (("errors.errorType", .iface "internal/reflectlite.rtype" (.agg [.ptr (.lit (.string [101, 114, 114, 111, 114]))])) :: hs) W) : EtIs W := by
  obtain ⟨name, u, ty, e1, e2, e3, e4, e5⟩ := h _ (List.mem_cons_self)
  have en : name = [101, 114, 114, 111, 114] := (Option.some.inj e1).symm
  subst en
  obtain rfl := Option.some.inj (etRt.symm.trans e2)
  have hm : ty ∈ (List.range 160).filter fun t => Tryd.prog.rowNamed t [101, 114, 114, 111, 114] := List.mem_filter.2 ⟨List.mem_range.2 (by rw [← etSize]; exact e3), e4⟩
  rw [etRow] at hm
  obtain rfl := List.mem_singleton.1 hm
  have hh : typeHandle Tryd.prog 35 = .pointer (some ⟨6, 35, none⟩) := by kernel_rfl
  rw [hh] at e5
  have := World.var?_cell etGlob e5 0
  unfold EtIs
  simpa using this

def datCellsE : DataW Unit → Array Value
  | .iface _ _ => #[.iface 90 (.agg #[.pointer (some ⟨6, 35, none⟩)])]
  | d => datCells d
/-- A world that holds the listed tables and the handle. -/
noncomputable def laidWorldE (os : Os) (l : List (String × DataW Unit)) : World :=
  l.foldl (fun W x => { W with heap := W.heap.modify ((Tryd.prog.globalNamed x.1).getD 0) fun | .cells _ t fr => .cells (datCellsE x.2) t fr | o => o }) (World.holding Tryd.prog os ⟨#[], #[], []⟩)
end Go.Proofs.YtlodcjpoamaemaaDoor
