/- laws.eqPack of two packs that are the same. -/
import Derived.Test.YtlodcjpoamaemaaDoorPackP
namespace Go.Proofs.YtlodcjpoamaemaaDoor
open Go.RowKit
set_option linter.unusedSimpArgs false
set_option linter.unusedVariables false

theorem eqPack_same (e : Int) (r c : List UInt8) (w : World) :
    Calls Tryd.prog 6 #[.agg #[.int .i64 e, .string ⟨r.toArray⟩, .string ⟨c.toArray⟩], .agg #[.int .i64 e, .string ⟨r.toArray⟩, .string ⟨c.toArray⟩]] w fun e' w' => e' = .returned (.bool true) ∧ Below w.heap.size w w' := by
  have q0 : (e != e) = false := by simp
  have q1 : (r != r) = false := by simp
  have q2 : (c != c) = false := by simp
  go_enter Tryd.func6, Tryd.ntmps6
  go_wp2
  go_ret
  exact ⟨rfl, by go_grown⟩
end Go.Proofs.YtlodcjpoamaemaaDoor
