/- The pads of a key as the program makes them: a row of 64 bytes, turned byte by byte. No program in sight. -/
import Derived.Test.YtlodcjpoamaemaaDoorPackP
namespace Go.Proofs.YtlodcjpoamaemaaDoor
open Go.RowKit
set_option linter.unusedSimpArgs false
set_option linter.unusedVariables false

def pad0 (k : List UInt8) : List UInt8 := (List.range 64).map fun i => k.getD i 0
theorem pad0_len (k : List UInt8) : (pad0 k).length = 64 := by simp [pad0]
/-- The row after i rounds. -/
def padTo (k : List UInt8) (b : UInt8) (i : Nat) : List UInt8 := (padK k b).take i ++ (pad0 k).drop i
theorem padTo_zero (k : List UInt8) (b : UInt8) : padTo k b 0 = pad0 k := by simp [padTo]
theorem padTo_all (k : List UInt8) (b : UInt8) : padTo k b 64 = padK k b := by
  unfold padTo
  rw [List.take_of_length_le (by rw [padK_len]; omega), List.drop_of_length_le (by rw [pad0_len]; omega), List.append_nil]
theorem padTo_len (k : List UInt8) (b : UInt8) {i : Nat} (h : i ≤ 64) : (padTo k b i).length = 64 := by
  unfold padTo
  rw [List.length_append, List.length_take, List.length_drop, padK_len, pad0_len]
  omega
theorem padTo_at (k : List UInt8) (b : UInt8) {i : Nat} (h : i < 64) : (padTo k b i)[i]? = some (k.getD i 0) := by
  unfold padTo
  rw [List.getElem?_append_right (by rw [List.length_take, padK_len]; omega), List.length_take, padK_len, List.getElem?_drop, show min i 64 = i by omega]
  simp [pad0, h]
theorem padTo_next (k : List UInt8) (b : UInt8) {i : Nat} (h : i < 64) : (padTo k b i).set i (k.getD i 0 ^^^ b) = padTo k b (i + 1) := by
  apply List.ext_getElem?
  intro j
  rw [List.getElem?_set]
  have hl := padTo_len k b (Nat.le_of_lt h)
  unfold padTo at hl ⊢
  by_cases e : i = j
  · subst e
    rw [if_pos rfl, if_pos (by rw [hl]; exact h), List.getElem?_append_left (by rw [List.length_take, padK_len]; omega), List.getElem?_take, if_pos (by omega)]
    simp [padK, h]
  · rw [if_neg e]
    by_cases hj : j < i
    · rw [List.getElem?_append_left (by rw [List.length_take, padK_len]; omega), List.getElem?_append_left (by rw [List.length_take, padK_len]; omega), List.getElem?_take, List.getElem?_take, if_pos hj, if_pos (by omega)]
    · rw [List.getElem?_append_right (by rw [List.length_take, padK_len]; omega), List.getElem?_append_right (by rw [List.length_take, padK_len]; omega), List.getElem?_drop, List.getElem?_drop, List.length_take, List.length_take, padK_len]
      congr 1
      omega
end Go.Proofs.YtlodcjpoamaemaaDoor
