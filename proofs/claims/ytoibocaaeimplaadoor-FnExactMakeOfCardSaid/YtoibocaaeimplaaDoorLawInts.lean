/- The laws' helpers on rows of ints: eqIntS, markIntS, heldIntS. -/
import Derived.Test.YtoibocaaeimplaaDoorBase
import Derived.BigRegion
import Derived.Deep.OwnRows
namespace Go.Proofs.YtoibocaaeimplaaDoor
open Go.RowKit
set_option linter.unusedSimpArgs false
set_option linter.unusedVariables false

theorem intsGet {w : World} {A : Option Addr} {n c : Nat} {xs : List Int} (h : SlA w 1 A n c (ints xs)) {k : Nat} (hk : k < n) :
    ∃ b off x, A = some ⟨b, off, none⟩ ∧ b < w.heap.size ∧ xs[k]? = some x ∧ (∀ (w' : World) (B : Nat), Below B w w' → b < B → w'.cell? ⟨b, off + k, none⟩ = some (.int .i64 x)) := by
  have hl := h.len
  rw [ints_len] at hl
  obtain ⟨b, o, e, hb, hc⟩ := h.get hk
  have hk' : k < xs.length := by omega
  refine ⟨b, o, xs[k], e, hb, List.getElem?_eq_getElem hk', fun w' B hw hB => ?_⟩
  have hr : (ints xs)[k]? = some [.int .i64 xs[k]] := by simp [ints, hk']
  have f := hc _ hr 0 _ rfl
  rw [Nat.mul_one, Nat.add_zero] at f
  exact cellAt hw hB f

/-- Two lists are the same, up to a place. -/
def sameTo {α : Type} (g h : List α) (k : Nat) : Prop := ∀ j : Nat, j < k → g[j]? = h[j]?
theorem sameTo_zero {α : Type} (g h : List α) : sameTo g h 0 := fun j hj => absurd hj (by omega)
theorem sameTo_succ {α : Type} {g h : List α} {k : Nat} {p q : α} (h0 : sameTo g h k) (hg : g[k]? = some p) (hh : h[k]? = some q) (e : p = q) : sameTo g h (k + 1) := fun j hj => by
  by_cases hjk : j = k
  · subst hjk; rw [hg, hh, e]
  · exact h0 j (by omega)
theorem sameTo_all {α : Type} {g h : List α} {n : Nat} (h0 : sameTo g h n) (hg : g.length = n) (hh : h.length = n) : g = h := by
  apply List.ext_getElem?
  intro j
  by_cases hj : j < n
  · exact h0 j hj
  · rw [List.getElem?_eq_none (by omega), List.getElem?_eq_none (by omega)]

def intsEq (g h : List Int) : Bool := decide (g = h)
theorem intsEq_iff {g h : List Int} : intsEq g h = true ↔ g = h := by simp [intsEq]
theorem intsEq_of {g h : List Int} {b : Bool} (e : b = true ↔ g = h) : b = intsEq g h := by rw [Bool.eq_iff_iff, e, intsEq_iff]

def natOf : Value → Nat
  | .int _ n => n.toNat
  | _ => 0
theorem natOf_int (k : IntKind) (n : Int) : natOf (.int k n) = n.toNat := rfl

/-- What marks are set: m, m + 1, and so on. -/
def marks (m : Int) : Nat → List Int
  | 0 => []
  | n + 1 => m :: marks (m + 1) n
theorem marks_len : ∀ (n : Nat) (m : Int), (marks m n).length = n
  | 0, _ => rfl
  | n + 1, m => by simp [marks, marks_len n]
theorem marks_get : ∀ (n : Nat) (m : Int) (k : Nat), k < n → (marks m n)[k]? = some (m + k)
  | n + 1, m, 0, _ => by simp [marks]
  | n + 1, m, k + 1, h => by
    rw [marks, List.getElem?_cons_succ, marks_get n (m + 1) k (by omega)]
    congr 1; omega
theorem marks_snoc : ∀ (n : Nat) (m : Int), marks m (n + 1) = marks m n ++ [m + n]
  | 0, m => by simp [marks]
  | n + 1, m => by
    rw [marks, marks_snoc n (m + 1), marks]
    simp; omega

theorem Only.size {w w' : World} {r : Option Nat} (h : w.grownBy w' r) : w.heap.size ≤ w'.heap.size := h.size
/-- Marks fill a row step by step. -/
theorem marks_set {m : Int} {k : Nat} {xs : List Int} (hk : k < xs.length) :
    (ints (marks m k ++ xs.drop k)).flatten.set k (.int .i64 (m + k)) = (ints (marks m (k + 1) ++ xs.drop (k + 1))).flatten := by
  rw [ints_flat, ints_flat, marks_snoc, List.drop_eq_getElem_cons hk, List.map_append, List.set_append_right _ _ (by simp [marks_len])]
  simp only [List.map_cons, List.length_map, marks_len, Nat.sub_self, List.set_cons_zero, List.map_append, List.append_assoc, List.map_nil, List.cons_append, List.nil_append]

end Go.Proofs.YtoibocaaeimplaaDoor
