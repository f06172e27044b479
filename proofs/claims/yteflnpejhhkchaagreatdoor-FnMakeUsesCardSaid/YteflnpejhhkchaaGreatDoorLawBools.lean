/- The laws' helpers on rows of bools: eqBoolS, markBoolS, heldBoolS. -/
import Derived.Test.YteflnpejhhkchaaGreatDoorLawA
import Derived.Deep.OwnRows
namespace Go.Proofs.YteflnpejhhkchaaGreatDoor
open Go.RowKit
set_option linter.unusedSimpArgs false
set_option linter.unusedVariables false

/-- The cells of bools. -/
def bools (xs : List Bool) : List (List Value) := xs.map fun x => [.bool x]
theorem bools_rows (xs : List Bool) : ∀ r ∈ bools xs, r.length = 1 := fun r hr => by
  obtain ⟨x, _, rfl⟩ := List.mem_map.1 hr
  rfl
theorem bools_len (xs : List Bool) : (bools xs).length = xs.length := by simp [bools]
theorem bools_flat (xs : List Bool) : (bools xs).flatten = xs.map Value.bool := by
  induction xs with
  | nil => rfl
  | cons x xs ih => simp [bools] at ih ⊢; exact ih
theorem boolsGet {w : World} {A : Option Addr} {n c : Nat} {xs : List Bool} (h : SlA w 1 A n c (bools xs)) {k : Nat} (hk : k < n) :
    ∃ b off x, A = some ⟨b, off, none⟩ ∧ b < w.heap.size ∧ xs[k]? = some x ∧ (∀ (w' : World) (B : Nat), Below B w w' → b < B → w'.cell? ⟨b, off + k, none⟩ = some (.bool x)) := by
  have hl := h.len
  rw [bools_len] at hl
  obtain ⟨b, o, e, hb, hc⟩ := h.get hk
  have hk' : k < xs.length := by omega
  refine ⟨b, o, xs[k], e, hb, List.getElem?_eq_getElem hk', fun w' B hw hB => ?_⟩
  have hr : (bools xs)[k]? = some [.bool xs[k]] := by simp [bools, hk']
  have f := hc _ hr 0 _ rfl
  rw [Nat.mul_one, Nat.add_zero] at f
  exact cellAt hw hB f
def boolsEq (g h : List Bool) : Bool := decide (g = h)
theorem boolsEq_iff {g h : List Bool} : boolsEq g h = true ↔ g = h := by simp [boolsEq]
theorem boolsEq_of {g h : List Bool} {b : Bool} (e : b = true ↔ g = h) : b = boolsEq g h := by rw [Bool.eq_iff_iff, e, boolsEq_iff]

/-- What markBoolS writes: whether the running number is divided by three. -/
def marksB (m : Int) : Nat → List Bool
  | 0 => []
  | n + 1 => (m % 3 == 0) :: marksB (m + 1) n
theorem marksB_len : ∀ (n : Nat) (m : Int), (marksB m n).length = n
  | 0, _ => rfl
  | n + 1, m => by simp [marksB, marksB_len n]
theorem marksB_get : ∀ (n : Nat) (m : Int) (k : Nat), k < n → (marksB m n)[k]? = some ((m + k) % 3 == 0)
  | 0, _, _, h => absurd h (by omega)
  | n + 1, m, 0, _ => by simp [marksB]
  | n + 1, m, k + 1, h => by
    simp only [marksB, List.getElem?_cons_succ]
    rw [marksB_get n (m + 1) k (by omega), show m + 1 + (k : Int) = m + ((k + 1 : Nat) : Int) by omega]
theorem marksB_set {m : Int} {k n : Nat} {ys : List Bool} (hy : ys.length = n) (hk : k < n) : (marksB m k ++ ys.drop k).set k ((m + k) % 3 == 0) = marksB m (k + 1) ++ ys.drop (k + 1) := by
  apply List.ext_getElem?
  intro j
  rw [List.getElem?_set]
  have hl := marksB_len k m
  have hl1 := marksB_len (k + 1) m
  by_cases e : k = j
  · subst e
    rw [if_pos rfl, if_pos (by simp; omega), List.getElem?_append_left (by omega), marksB_get _ _ _ (by omega)]
  · rw [if_neg e]
    by_cases hj : j < k
    · rw [List.getElem?_append_left (by omega), List.getElem?_append_left (by omega), marksB_get _ _ _ hj, marksB_get _ _ _ (by omega)]
    · rw [List.getElem?_append_right (by omega), List.getElem?_append_right (by omega), List.getElem?_drop, List.getElem?_drop, hl, hl1]
      congr 1
      omega

end Go.Proofs.YteflnpejhhkchaaGreatDoor
