/- impl.CodeRun: how a program runs on a call. -/
import Derived.Test.YtbbhilhckbdgjaaDoorRunS
import Derived.Test.YtbbhilhckbdgjaaDoorCodeW
import Derived.Test.YtbbhilhckbdgjaaDoorGrown
namespace Go.Proofs.YtbbhilhckbdgjaaDoor
open Go.RowKit
set_option linter.unusedSimpArgs false
set_option linter.unusedVariables false

theorem callField_any (n : Int) (A : Option Addr) (c : Nat) (xs : List Int) (k : Int) (w : World) (hA : SlA w 1 A 4 c (ints xs)) (hk : 0 ≤ k ∧ k ≤ 4) :
    Calls Tryd.prog 72 #[.agg #[.int .i64 n, .slice A 4 c], .int .i64 k] w fun e w' => e = .returned (.int .i64 (fieldOf n xs k)) ∧ Below w.heap.size w w' := by
  have hm := hA.max
  unfold maxLen at hm
  by_cases h0 : k = 0
  · subst h0
    rw [fieldOf_zero]
    go_enter Tryd.func72, Tryd.ntmps72
    go_wp2
    go_ret
    exact ⟨rfl, by go_grown⟩
  · obtain ⟨j, rfl⟩ : ∃ j : Nat, k = j + 1 := ⟨(k - 1).toNat, by omega⟩
    have hj4 : j < 4 := by omega
    have hji : (j : Int) < 4 := by omega
    have hf : fieldOf n xs ((j : Int) + 1) = (xs[j]?).getD 0 := by unfold fieldOf; rw [if_neg h0, show (((j : Int) + 1 - 1).toNat) = j by omega]
    rw [hf]
    obtain ⟨b, off, rfl, hb, hcell⟩ := intsCellR hA hj4
    have c0 := hcell _ _ ((Below.refl w.heap.size w).alloc (Nat.le_refl _) (.cells #[.int .i64 n, .slice (some ⟨b, off, none⟩) 4 c] 32)) hb
    have h0' : ((j : Int) + 1 == 0) = false := by simp; omega
    have HF := Lib.hid hf; clear hf hcell
    go_enter Tryd.func72, Tryd.ntmps72
    go_wp2
    go_ret
    exact ⟨rfl, by go_grown⟩

theorem loading_do (k hand n : Int) (A : Option Addr) (c : Nat) (xs : List Int) (w : World) (hA : SlA w 1 A 4 c (ints xs)) (hk : 0 ≤ k ∧ k ≤ 4) :
    Calls Tryd.prog 69 #[.agg #[.int .i64 k], .int .i64 hand, .agg #[.int .i64 n, .slice A 4 c]] w fun e w' => e = .returned (.tuple #[.int .i64 (fieldOf n xs k), .int .i64 0]) ∧ Below w.heap.size w w' := by
  have HA := Lib.hid hA; clear hA
  go_enter Tryd.func69, Tryd.ntmps69
  go_wp2_with fail
  refine (callField_any n A c xs k _ (HA.out.below (by go_grown)) hk).mono ?_; rintro e w1 ⟨rfl, hb1⟩
  go_wp2
  go_ret2
  exact ⟨rfl, below_then (by go_grown) hb1⟩
theorem masking_do (k hand : Int) (u : Value) (n : Int) (w : World) :
    Calls Tryd.prog 73 #[.agg #[.int .i64 k], .int .i64 hand, .agg #[.int .i64 n, u]] w fun e w' => e = .returned (.tuple #[.int .i64 (Go.bits BinOp.and IntKind.i64 hand k), .int .i64 0]) ∧ Below w.heap.size w w' := by
  go_enter Tryd.func73, Tryd.ntmps73
  go_wp2
  go_ret2
  exact ⟨rfl, by go_grown⟩
theorem jumping_do (k hand : Int) (A : Option Addr) (c : Nat) (n : Int) (w : World) :
    Calls Tryd.prog 81 #[.agg #[.int .i64 k], .int .i64 hand, .agg #[.int .i64 n, .slice A 4 c]] w fun e w' => e = .returned (.tuple #[.int .i64 hand, .int .i64 k]) ∧ Below w.heap.size w w' := by
  go_enter Tryd.func81, Tryd.ntmps81
  go_wp2
  go_region
  all_goals go_wp2
  all_goals
    go_ret2
    exact ⟨rfl, by go_grown⟩
theorem holds_eq (a b : Int) (w : World) :
    Calls Tryd.prog 80 #[.int .i64 1, .int .i64 a, .int .i64 b] w fun e w' => e = .returned (.bool (a == b)) ∧ w = w' := by
  go_enter Tryd.func80, Tryd.ntmps80
  go_wp2
  go_ret
  exact ⟨rfl, rfl⟩
theorem holds_gt (a b : Int) (w : World) :
    Calls Tryd.prog 80 #[.int .i64 3, .int .i64 a, .int .i64 b] w fun e w' => e = .returned (.bool (decide (b < a))) ∧ w = w' := by
  go_enter Tryd.func80, Tryd.ntmps80
  go_wp2
  all_goals
    go_ret
    exact ⟨ret_bool (by first | rfl | simp; omega), rfl⟩

theorem looking_do (op k yes no hand : Int) (A : Option Addr) (c : Nat) (n : Int) (w : World) (hop : op = 3 ∨ op = 4) :
    Calls Tryd.prog 77 #[.agg #[.int .i64 (if op = 3 then 1 else 3), .int .i64 k, .int .i64 yes, .int .i64 no], .int .i64 hand, .agg #[.int .i64 n, .slice A 4 c]] w fun e w' => e = .returned (.tuple #[.int .i64 hand, .int .i64 (leftOf ⟨op, k, yes, no⟩ hand)]) ∧ Below w.heap.size w w' := by
  rcases hop with rfl | rfl
  · by_cases h : hand = k
    · have hd : (hand == k) = true := by simp [h]
      have HL := Lib.hid (show leftOf ⟨3, k, yes, no⟩ hand = yes by simp [leftOf, h]); clear h
      rw [if_pos rfl]
      go_enter Tryd.func77, Tryd.ntmps77
      go_wp2_with fail
      refine (holds_eq hand k _).mono ?_; rintro e w1 ⟨rfl, rfl⟩
      rw [hd]
      go_wp2
      go_region
      all_goals go_wp2
      all_goals
        go_ret2
        exact ⟨by rw [HL.out]; rfl, by go_grown⟩
    · have hd : (hand == k) = false := by simp [h]
      have HL := Lib.hid (show leftOf ⟨3, k, yes, no⟩ hand = no by simp [leftOf, h]); clear h
      rw [if_pos rfl]
      go_enter Tryd.func77, Tryd.ntmps77
      go_wp2_with fail
      refine (holds_eq hand k _).mono ?_; rintro e w1 ⟨rfl, rfl⟩
      rw [hd]
      go_wp2
      go_region
      all_goals go_wp2
      all_goals
        go_ret2
        exact ⟨by rw [HL.out]; rfl, by go_grown⟩
  · by_cases h : k < hand
    · have hd : decide (k < hand) = true := by simp [h]
      have HL := Lib.hid (show leftOf ⟨4, k, yes, no⟩ hand = yes by simp [leftOf, h]); clear h
      rw [if_neg (by omega)]
      go_enter Tryd.func77, Tryd.ntmps77
      go_wp2_with fail
      refine (holds_gt hand k _).mono ?_; rintro e w1 ⟨rfl, rfl⟩
      rw [hd]
      go_wp2
      go_region
      all_goals go_wp2
      all_goals
        go_ret2
        exact ⟨by rw [HL.out]; rfl, by go_grown⟩
    · have hd : decide (k < hand) = false := by simp; omega
      have HL := Lib.hid (show leftOf ⟨4, k, yes, no⟩ hand = no by simp [leftOf, h]); clear h
      rw [if_neg (by omega)]
      go_enter Tryd.func77, Tryd.ntmps77
      go_wp2_with fail
      refine (holds_gt hand k _).mono ?_; rintro e w1 ⟨rfl, rfl⟩
      rw [hd]
      go_wp2
      go_region
      all_goals go_wp2
      all_goals
        go_ret2
        exact ⟨by rw [HL.out]; rfl, by go_grown⟩
end Go.Proofs.YtbbhilhckbdgjaaDoor
