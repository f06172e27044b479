/- impl's programs: doingOf, codeWays. -/
import Derived.Test.YtoibocaaeimplaaDoorCodeT
namespace Go.Proofs.YtoibocaaeimplaaDoor
open Go.RowKit
set_option linter.unusedSimpArgs false
set_option linter.unusedVariables false

/-- What is done at a place, as a value. -/
noncomputable def actOf (x : In4) : Value :=
  if x.op = 1 then .iface 124 (.agg #[.int .i64 x.k]) else if x.op = 2 then .iface 126 (.agg #[.int .i64 x.k]) else
  if x.op = 3 then .iface 129 (.agg #[.int .i64 1, .int .i64 x.k, .int .i64 x.yes, .int .i64 x.no]) else if x.op = 4 then .iface 129 (.agg #[.int .i64 3, .int .i64 x.k, .int .i64 x.yes, .int .i64 x.no]) else
  if x.op = 5 then .iface 131 (.agg #[.int .i64 x.k]) else if x.op = 6 then .iface 133 (.agg #[.int .i64 x.k]) else .nilIface
def knownOf (x : In4) : Bool := if x.op = 3 ∨ x.op = 4 then true else if 1 ≤ x.op ∧ x.op ≤ 6 then decide (x.yes = 0 ∧ x.no = 0) else false

set_option maxHeartbeats 1000000 in
theorem doingOf_any (x : In4) (w : World) :
    Calls Tryd.prog 59 #[.agg #[.int .i64 x.op, .int .i64 x.k, .int .i64 x.yes, .int .i64 x.no]] w fun e w' => e = .returned (.tuple #[actOf x, .bool (knownOf x)]) ∧ Below w.heap.size w w' := by
  obtain ⟨op, k, yes, no⟩ := x
  have ho : (op = 1 ∨ op = 2 ∨ op = 3 ∨ op = 4 ∨ op = 5 ∨ op = 6) ∨ ¬ (1 ≤ op ∧ op ≤ 6) := by omega
  have hf : ∀ c : Bool, c = true ∨ c = false := fun c => by cases c <;> simp
  have hy : (yes == 0) = true ∧ yes = 0 ∨ (yes == 0) = false ∧ ¬ yes = 0 := by by_cases h : yes = 0 <;> simp [h]
  have hn : (no == 0) = true ∧ no = 0 ∨ (no == 0) = false ∧ ¬ no = 0 := by by_cases h : no = 0 <;> simp [h]
  rcases ho with (rfl | rfl | rfl | rfl | rfl | rfl) | ho
  case inr =>
    have e1 : (op == 1) = false := by simp; omega
    have e2 : (op == 2) = false := by simp; omega
    have e3 : (op == 3) = false := by simp; omega
    have e4 : (op == 4) = false := by simp; omega
    have e5 : (op == 5) = false := by simp; omega
    have e6 : (op == 6) = false := by simp; omega
    obtain ⟨y1, y2⟩ | ⟨y1, y2⟩ := hy <;> obtain ⟨n1, n2⟩ | ⟨n1, n2⟩ := hn
    all_goals
      go_enter Tryd.func59, Tryd.ntmps59
      go_wp2
      all_goals
        go_ret2
        refine ⟨?_, by go_grown⟩
        have a1 : ¬ op = 1 := by omega
        have a2 : ¬ op = 2 := by omega
        have a3 : ¬ op = 3 := by omega
        have a4 : ¬ op = 4 := by omega
        have a5 : ¬ op = 5 := by omega
        have a6 : ¬ op = 6 := by omega
        simp [actOf, knownOf, a1, a2, a3, a4, a5, a6, ho]
  all_goals
    obtain ⟨y1, y2⟩ | ⟨y1, y2⟩ := hy <;> obtain ⟨n1, n2⟩ | ⟨n1, n2⟩ := hn
    all_goals
      go_enter Tryd.func59, Tryd.ntmps59
      go_wp2
      all_goals
        go_ret2
        refine ⟨?_, by go_grown⟩
        simp [actOf, knownOf, y2, n2]
end Go.Proofs.YtoibocaaeimplaaDoor
