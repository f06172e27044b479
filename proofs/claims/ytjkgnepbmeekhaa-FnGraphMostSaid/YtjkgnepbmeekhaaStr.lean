/- Texts as lists of bytes: spec.l2Cut cuts a text at each byte; spec.l2Num reads a number; spec.l1Dec writes one. -/
import Derived.Test.YtjkgnepbmeekhaaBase
import Derived.Lib.ItoaNum
import Derived.Lib.Strings
import Derived.Deep.DeepMust
namespace Go.Proofs.Ytjkgnepbmeekhaa
open Go.RowKit
set_option linter.unusedSimpArgs false
set_option linter.unusedVariables false

/-- A text cut at each byte 'at_'; 'cur' is what stands since the last cut. -/
def cutGo (b : UInt8) (cur : List UInt8) : List UInt8 → List (List UInt8)
  | [] => [cur]
  | x :: l => if x = b then cur :: cutGo b [] l else cutGo b (cur ++ [x]) l
def cut (b : UInt8) (l : List UInt8) : List (List UInt8) := cutGo b [] l
theorem cutGo_hit (b : UInt8) (cur l : List UInt8) : cutGo b cur (b :: l) = cur :: cutGo b [] l := by simp [cutGo]
theorem cutGo_miss {b x : UInt8} (h : ¬ x = b) (cur l : List UInt8) : cutGo b cur (x :: l) = cutGo b (cur ++ [x]) l := by simp [cutGo, h]
theorem cutGo_len (b : UInt8) : ∀ (l cur : List UInt8), (cutGo b cur l).length ≤ l.length + 1
  | [], cur => by simp [cutGo]
  | x :: l, cur => by
    unfold cutGo
    split
    · simp; exact cutGo_len b l []
    · have := cutGo_len b l (cur ++ [x]); simp; omega
theorem cut_len (b : UInt8) (l : List UInt8) : (cut b l).length ≤ l.length + 1 := cutGo_len b l []
theorem cutGo_ne (b : UInt8) : ∀ (l cur : List UInt8), cutGo b cur l ≠ []
  | [], cur => by simp [cutGo]
  | x :: l, cur => by
    unfold cutGo
    split
    · simp
    · exact cutGo_ne b l _
theorem cut_ne (b : UInt8) (l : List UInt8) : cut b l ≠ [] := cutGo_ne b l []

/-- The cells of texts. -/
def strs (ls : List (List UInt8)) : List (List Value) := ls.map fun l => [.string ⟨l.toArray⟩]
theorem strs_rows (ls : List (List UInt8)) : ∀ r ∈ strs ls, r.length = 1 := by simp [strs]
theorem strs_len (ls : List (List UInt8)) : (strs ls).length = ls.length := by simp [strs]
theorem strs_flat (ls : List (List UInt8)) : (strs ls).flatten = ls.map fun l => Value.string ⟨l.toArray⟩ := by
  induction ls with
  | nil => rfl
  | cons x xs ih => simp [strs] at ih ⊢; exact ih

theorem info_string : (Try.prog.info? 9).map (fun i => (i.zero, i.size, i.bytes)) = some (some (.string ByteArray.empty), 1, 16) := by kernel_rfl

theorem byteEq {a b : UInt8} : ((a.toNat : Int) == (b.toNat : Int)) = decide (a = b) := by
  rw [Bool.eq_iff_iff]
  simp only [beq_iff_eq, decide_eq_true_eq]
  exact ⟨fun h => UInt8.toNat_inj.1 (by omega), fun h => by rw [h]⟩
theorem drop_cons {l : List UInt8} {k : Nat} (h : k < l.length) : l.drop k = l[k] :: l.drop (k + 1) := List.drop_eq_getElem_cons h
theorem take_more {l : List UInt8} {f k : Nat} (hf : f ≤ k) (h : k < l.length) : (l.drop f).take (k + 1 - f) = (l.drop f).take (k - f) ++ [l[k]] := by
  rw [show k + 1 - f = (k - f) + 1 by omega, List.take_succ_eq_append_getElem (by simp; omega)]
  congr 2
  simp [show f + (k - f) = k by omega]

/-! ### spec.l2Num -/
def isDig (x : UInt8) : Bool := 48 ≤ x && x ≤ 57
/-- The number that figures write, onto what stands ahead. -/
def valOn (v : Int) : List UInt8 → Int
  | [] => v
  | x :: l => valOn (v * 10 + ((x.toNat : Int) - 48)) l
theorem valOn_snoc : ∀ (l : List UInt8) (v : Int) (x : UInt8), valOn v (l ++ [x]) = valOn v l * 10 + ((x.toNat : Int) - 48)
  | [], v, x => rfl
  | y :: l, v, x => valOn_snoc l _ x
theorem isDig_iff {x : UInt8} : isDig x = true ↔ 48 ≤ x.toNat ∧ x.toNat ≤ 57 := by
  simp [isDig, UInt8.le_iff_toNat_le]
theorem valOn_bd : ∀ (l : List UInt8) (v : Int), 0 ≤ v → (∀ x ∈ l, isDig x = true) → v ≤ valOn v l ∧ valOn v l < (v + 1) * 10 ^ l.length
  | [], v, _, _ => by simp [valOn]; omega
  | x :: l, v, h0, h => by
    have hx := isDig_iff.1 (h x (by simp))
    have ih := valOn_bd l (v * 10 + ((x.toNat : Int) - 48)) (by omega) (fun y hy => h y (by simp [hy]))
    simp only [valOn, List.length_cons, Int.pow_succ]
    have hp : (0 : Int) < 10 ^ l.length := Int.pow_pos (by omega)
    have h2 : (v * 10 + ((x.toNat : Int) - 48) + 1) * 10 ^ l.length ≤ ((v + 1) * 10) * 10 ^ l.length := Int.mul_le_mul_of_nonneg_right (by omega) (by omega)
    refine ⟨by omega, ?_⟩
    rw [show (v + 1) * ((10 : Int) ^ l.length * 10) = ((v + 1) * 10) * 10 ^ l.length by rw [Int.mul_comm (10 ^ l.length) 10, Int.mul_assoc]]
    omega

/-- The number of at most ten figures without noughts ahead, up to the greatest word; -1 of any other text. -/
def numOf (l : List UInt8) : Int :=
  if l.length = 0 ∨ 10 < l.length ∨ (1 < l.length ∧ l[0]? = some 48) then -1
  else if l.all isDig then (if valOn 0 l ≤ 4294967295 then valOn 0 l else -1) else -1

theorem numOf_no1 {l : List UInt8} (h : ¬ (1 ≤ l.length ∧ l.length ≤ 10)) : numOf l = -1 := by unfold numOf; rw [if_pos (by omega)]
theorem numOf_no2 {l : List UInt8} (h : 1 < l.length ∧ l[0]? = some 48) : numOf l = -1 := by unfold numOf; rw [if_pos (by right; right; exact h)]
theorem numOf_no3 {l : List UInt8} {x : UInt8} (hx : x ∈ l) (h : isDig x = false) : numOf l = -1 := by
  unfold numOf
  split
  · rfl
  · rw [if_neg]
    intro ha
    have := List.all_eq_true.1 ha x hx
    rw [h] at this; cases this
theorem numOf_yes {l : List UInt8} (h1 : 1 ≤ l.length ∧ l.length ≤ 10) (h2 : ¬ (1 < l.length ∧ l[0]? = some 48)) (h3 : ∀ x ∈ l, isDig x = true) : numOf l = if valOn 0 l ≤ 4294967295 then valOn 0 l else -1 := by
  unfold numOf
  rw [if_neg (by intro h; rcases h with h | h | h <;> first | omega | exact h2 h), if_pos (List.all_eq_true.2 h3)]

end Go.Proofs.Ytjkgnepbmeekhaa
