/- Turning words: spec.l1Turn and math/bits.RotateLeft32. -/
import Derived.Test.YtaieopdfkapgdaaDoorHashP
namespace Go.Proofs.YtaieopdfkapgdaaDoor
open Go.RowKit
set_option linter.unusedSimpArgs false
set_option linter.unusedVariables false

theorem bits_or_comm (a b : Int) : bits .or .u32 a b = bits .or .u32 b a := by
  unfold bits
  simp only [BitVec.or_comm]
theorem ret_u32 {a b : Int} (h : a = b) : Ending.returned (.int .u32 a) = .returned (.int .u32 b) := by rw [h]

theorem l1Turn_any (x : Int) (n : Nat) (w : World) (hn : n ≤ 32) :
    Calls Tryd.prog 79 #[.int .u32 x, .int .i64 n] w fun e w' => e = .returned (.int .u32 (rotI x n)) ∧ ∃ k, w' = w.drewN k := by
  go_enter Tryd.func79, Tryd.ntmps79
  go_wp2
  go_quiet (fail)
  go_wp2
  go_ret
  exact ⟨rfl, _, rfl⟩
theorem rotl_any (x k : Int) (n m : Nat) (w : World) (hm : bits .and .u64 (IntKind.u64.wrap k) 31 = (m : Int)) (h32 : n + m = 32) :
    Calls Tryd.prog 93 #[.int .u32 x, .int .i64 k] w fun e w' => e = .returned (.int .u32 (rotI x n)) ∧ w = w' := by
  obtain rfl : m = 32 - n := by omega
  have hn : n ≤ 32 := by omega
  have e1 : (((32 - n : Nat) : Int)).toNat = 32 - n := by omega
  have e2 : IntKind.u64.wrap (32 - ((32 - n : Nat) : Int)) = (n : Int) := by
    rw [show (32 : Int) - ((32 - n : Nat) : Int) = (n : Int) by omega]
    simp [IntKind.wrap, IntKind.bits, IntKind.signed]; omega
  go_enter Tryd.func93, Tryd.ntmps93
  go_wp2
  go_ret
  refine ⟨ret_u32 ?_, rfl⟩
  unfold rotI
  rw [bits_or_comm]
theorem rotl7 (x : Int) (w : World) : Calls Tryd.prog 93 #[.int .u32 x, .int .i64 (-7)] w fun e w' => e = .returned (.int .u32 (rotI x 7)) ∧ w = w' := rotl_any x (-7) 7 25 w (by decide) rfl
theorem rotl18 (x : Int) (w : World) : Calls Tryd.prog 93 #[.int .u32 x, .int .i64 (-18)] w fun e w' => e = .returned (.int .u32 (rotI x 18)) ∧ w = w' := rotl_any x (-18) 18 14 w (by decide) rfl
theorem rotl17 (x : Int) (w : World) : Calls Tryd.prog 93 #[.int .u32 x, .int .i64 (-17)] w fun e w' => e = .returned (.int .u32 (rotI x 17)) ∧ w = w' := rotl_any x (-17) 17 15 w (by decide) rfl
theorem rotl19 (x : Int) (w : World) : Calls Tryd.prog 93 #[.int .u32 x, .int .i64 (-19)] w fun e w' => e = .returned (.int .u32 (rotI x 19)) ∧ w = w' := rotl_any x (-19) 19 13 w (by decide) rfl
theorem rotl6 (x : Int) (w : World) : Calls Tryd.prog 93 #[.int .u32 x, .int .i64 (-6)] w fun e w' => e = .returned (.int .u32 (rotI x 6)) ∧ w = w' := rotl_any x (-6) 6 26 w (by decide) rfl
theorem rotl11 (x : Int) (w : World) : Calls Tryd.prog 93 #[.int .u32 x, .int .i64 (-11)] w fun e w' => e = .returned (.int .u32 (rotI x 11)) ∧ w = w' := rotl_any x (-11) 11 21 w (by decide) rfl
theorem rotl25 (x : Int) (w : World) : Calls Tryd.prog 93 #[.int .u32 x, .int .i64 (-25)] w fun e w' => e = .returned (.int .u32 (rotI x 25)) ∧ w = w' := rotl_any x (-25) 25 7 w (by decide) rfl
theorem rotl2 (x : Int) (w : World) : Calls Tryd.prog 93 #[.int .u32 x, .int .i64 (-2)] w fun e w' => e = .returned (.int .u32 (rotI x 2)) ∧ w = w' := rotl_any x (-2) 2 30 w (by decide) rfl
theorem rotl13 (x : Int) (w : World) : Calls Tryd.prog 93 #[.int .u32 x, .int .i64 (-13)] w fun e w' => e = .returned (.int .u32 (rotI x 13)) ∧ w = w' := rotl_any x (-13) 13 19 w (by decide) rfl
theorem rotl22 (x : Int) (w : World) : Calls Tryd.prog 93 #[.int .u32 x, .int .i64 (-22)] w fun e w' => e = .returned (.int .u32 (rotI x 22)) ∧ w = w' := rotl_any x (-22) 22 10 w (by decide) rfl
theorem l1Turn_i (x n : Int) (w : World) (h0 : 0 ≤ n) (hn : n ≤ 32) :
    Calls Tryd.prog 79 #[.int .u32 x, .int .i64 n] w fun e w' => e = .returned (.int .u32 (rotI x n.toNat)) ∧ ∃ k, w' = w.drewN k := by
  obtain ⟨m, rfl⟩ := Int.eq_ofNat_of_zero_le h0
  exact l1Turn_any x m w (by omega)
end Go.Proofs.YtaieopdfkapgdaaDoor
