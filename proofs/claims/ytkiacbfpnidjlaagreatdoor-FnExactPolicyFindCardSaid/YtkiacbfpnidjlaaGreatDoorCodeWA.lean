/- Joined texts: CodeW CodeW2. -/
import Derived.Test.YtkiacbfpnidjlaaGreatDoorTxt
-- impl's programs: doingOf, codeWays.
namespace Go.Proofs.YtkiacbfpnidjlaaGreatDoor
open Go.RowKit
set_option linter.unusedSimpArgs false
set_option linter.unusedVariables false

def knownOf (x : In4) : Bool := if x.op = 3 ∨ x.op = 4 then true else if 1 ≤ x.op ∧ x.op ≤ 6 then decide (x.yes = 0 ∧ x.no = 0) else false

end Go.Proofs.YtkiacbfpnidjlaaGreatDoor

-- impl's programs: what is done at a place, codeWays.
namespace Go.Proofs.YtkiacbfpnidjlaaGreatDoor
open Go.RowKit
set_option linter.unusedSimpArgs false
set_option linter.unusedVariables false

theorem wordOkC_any (n : Int) (w : World) :
    Calls Tryz.prog 49 #[.int .i64 n] w fun e w' => e = .returned (.bool (inB n 0 4294967295)) ∧ w = w' := by
  go_enter Tryz.func49, Tryz.ntmps49
  go_wp2
  all_goals (go_ret; exact ⟨ret_bool (by simp [inB]; omega), rfl⟩)
theorem verdictOkC_any (n : Int) (w : World) :
    Calls Tryz.prog 57 #[.int .i64 n] w fun e w' => e = .returned (.bool (inB n 1 4)) ∧ w = w' := by
  go_enter Tryz.func57, Tryz.ntmps57
  go_wp2
  all_goals (go_ret; exact ⟨ret_bool (by simp [inB]; omega), rfl⟩)

def fitsLook (k yes no : Int) : Bool := decide ((0 ≤ k ∧ k ≤ 4294967295) ∧ (0 ≤ yes ∧ yes ≤ 6) ∧ (0 ≤ no ∧ no ≤ 6))
noncomputable def fitsB (x : In4) : Bool := @decide ((x.op = 1 ∧ 0 ≤ x.k ∧ x.k ≤ 4) ∨ (x.op = 2 ∧ 0 ≤ x.k ∧ x.k ≤ 4294967295) ∨ ((x.op = 3 ∨ x.op = 4) ∧ fitsLook x.k x.yes x.no = true) ∨ (x.op = 5 ∧ 0 ≤ x.k) ∨ (x.op = 6 ∧ 1 ≤ x.k ∧ x.k ≤ 4)) (Classical.propDecidable _)
def waysL (x : In4) : List Int := if x.op = 1 ∨ x.op = 2 then [0] else if x.op = 3 ∨ x.op = 4 then [x.yes, x.no] else if x.op = 5 then [x.k] else []
theorem fitsB_iff {x : In4} : fitsB x = true ↔ ((x.op = 1 ∧ 0 ≤ x.k ∧ x.k ≤ 4) ∨ (x.op = 2 ∧ 0 ≤ x.k ∧ x.k ≤ 4294967295) ∨ ((x.op = 3 ∨ x.op = 4) ∧ fitsLook x.k x.yes x.no = true) ∨ (x.op = 5 ∧ 0 ≤ x.k) ∨ (x.op = 6 ∧ 1 ≤ x.k ∧ x.k ≤ 4)) := by simp [fitsB]
theorem fitsEq_1 (k yes no : Int) : fitsB ⟨1, k, yes, no⟩ = inB k 0 4 := by rw [Bool.eq_iff_iff, fitsB_iff, inB_iff]; simp
theorem fitsEq_2 (k yes no : Int) : fitsB ⟨2, k, yes, no⟩ = inB k 0 4294967295 := by rw [Bool.eq_iff_iff, fitsB_iff, inB_iff]; simp
theorem fitsEq_3 (k yes no : Int) : fitsB ⟨3, k, yes, no⟩ = fitsLook k yes no := by rw [Bool.eq_iff_iff, fitsB_iff]; simp
theorem fitsEq_4 (k yes no : Int) : fitsB ⟨4, k, yes, no⟩ = fitsLook k yes no := by rw [Bool.eq_iff_iff, fitsB_iff]; simp
theorem fitsEq_5 (k yes no : Int) : fitsB ⟨5, k, yes, no⟩ = decide (0 ≤ k) := by rw [Bool.eq_iff_iff, fitsB_iff]; simp
theorem fitsEq_6 (k yes no : Int) : fitsB ⟨6, k, yes, no⟩ = inB k 1 4 := by rw [Bool.eq_iff_iff, fitsB_iff, inB_iff]; simp

theorem insOk_iff {x : In4} {left : Int} (ho : 1 ≤ x.op ∧ x.op ≤ 6) : insOk x left ↔ knownOf x = true ∧ fitsB x = true ∧ ∀ y ∈ waysL x, y ≤ left := by
  rw [fitsB_iff]
  obtain ⟨op, k, yes, no⟩ := x
  simp only at ho
  obtain rfl | rfl | rfl | rfl | rfl | rfl : op = 1 ∨ op = 2 ∨ op = 3 ∨ op = 4 ∨ op = 5 ∨ op = 6 := by omega
  all_goals (simp [insOk, knownOf, fitsLook, waysL]; try omega)
theorem own_lit1 {w : World} {t : TypeId} {base g : Nat} (a : Int) (hb : base ≤ w.heap.size) (hg : g = w.heap.size) : (w.alloc (.cells #[.int .i64 a] t)).ownsRow base t 1 (.slice (some ⟨g, 0, none⟩) 1 1) 1 (ints [a]).flatten := by
  subst hg
  exact ⟨by simp [ints], .inr ⟨_, 1, #[.int .i64 a], rfl, hb, Blk.new w _ _, by omega, by simp [maxLen], rfl, by simp [ints]⟩⟩
theorem own_lit2 {w : World} {t : TypeId} {base g : Nat} (a b : Int) (hb : base ≤ w.heap.size) (hg : g = w.heap.size) : (w.alloc (.cells #[.int .i64 a, .int .i64 b] t)).ownsRow base t 1 (.slice (some ⟨g, 0, none⟩) 2 2) 2 (ints [a, b]).flatten := by
  subst hg
  exact ⟨by simp [ints], .inr ⟨_, 2, #[.int .i64 a, .int .i64 b], rfl, hb, Blk.new w _ _, by omega, by simp [maxLen], rfl, by simp [ints]⟩⟩

def WaysPost (L : List Int) (w : World) (e : Ending) (w' : World) : Prop := ∃ v, e = .returned v ∧ w'.ownsRow w.heap.size 3 1 v L.length (ints L).flatten ∧ Below w.heap.size w w'
noncomputable def waysB (g : List In4) : Bool := @decide (waysOk g) (Classical.propDecidable _)
theorem waysB_iff {g : List In4} : waysB g = true ↔ waysOk g := by simp [waysB]
theorem waysB_of {g : List In4} {b : Bool} (h : b = true ↔ waysOk g) : b = waysB g := by rw [Bool.eq_iff_iff, h, waysB_iff]
theorem waysB_no {g : List In4} (h : ¬ waysOk g) : waysB g = false := by rw [← Bool.not_eq_true, waysB_iff]; exact h
theorem not_waysOk {g : List In4} {k : Nat} {x : In4} (hx : g[k]? = some x) (h : ¬ insOk x ((g.length : Int) - k - 2)) : ¬ waysOk g := fun ho =>
  h (ho.2.2 k x (List.getElem?_eq_some_iff.1 hx).1 hx)
theorem all_to {L : List Int} {y left : Int} {j : Nat} (h : ∀ i z, i < j → L[i]? = some z → z ≤ left) (hy : L[j]? = some y) (h' : y ≤ left) : ∀ i z, i < j + 1 → L[i]? = some z → z ≤ left := fun i z hi hz => by
  by_cases e : i = j
  · subst e; rw [hy] at hz; cases hz; exact h'
  · exact h i z (by omega) hz
theorem intsAt {w : World} {A : Option Addr} {n c : Nat} {xs : List Int} (h : SlA w 1 A n c (ints xs)) {k : Nat} (hk : k < n) :
    ∃ b off x, A = some ⟨b, off, none⟩ ∧ b < w.heap.size ∧ xs[k]? = some x ∧ (∀ (w' : World) (B : Nat), Below B w w' → b < B → w'.cell? ⟨b, off + k, none⟩ = some (.int .i64 x)) := ints_get h hk

end Go.Proofs.YtkiacbfpnidjlaaGreatDoor
