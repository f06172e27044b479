/- How a program runs on a call: plain; no Go function is walked here. -/
import Derived.Test.YtbbhilhckbdgjaaDoorCodeT
namespace Go.Proofs.YtbbhilhckbdgjaaDoor
open Go.RowKit
set_option linter.unusedSimpArgs false
set_option linter.unusedVariables false

/-- A field of a call. -/
def fieldOf (n : Int) (xs : List Int) (k : Int) : Int := if k = 0 then n else (xs[(k - 1).toNat]?).getD 0
/-- The number at hand behind a place. -/
def handOf (n : Int) (xs : List Int) (x : In4) (hand : Int) : Int :=
  if x.op = 1 then fieldOf n xs x.k else if x.op = 2 then Go.bits BinOp.and IntKind.i64 hand x.k else hand
/-- How many places a place leaves out. -/
def leftOf (x : In4) (hand : Int) : Int :=
  if x.op = 3 then (if hand = x.k then x.yes else x.no) else if x.op = 4 then (if x.k < hand then x.yes else x.no) else if x.op = 5 then x.k else 0
/-- Place and number at hand behind one place more. -/
def stepOf (g : List In4) (n : Int) (xs : List Int) (s : Nat × Int) : Nat × Int :=
  match g[s.1]? with
  | some x => (s.1 + 1 + (leftOf x s.2).toNat, handOf n xs x s.2)
  | none => s
def runSt (g : List In4) (n : Int) (xs : List Int) : Nat → Nat × Int
  | 0 => (0, 0)
  | m + 1 => stepOf g n xs (runSt g n xs m)
theorem runSt_succ {g : List In4} {n : Int} {xs : List Int} {m : Nat} {x : In4} (hx : g[(runSt g n xs m).1]? = some x) :
    runSt g n xs (m + 1) = ((runSt g n xs m).1 + 1 + (leftOf x (runSt g n xs m).2).toNat, handOf n xs x (runSt g n xs m).2) := by
  simp only [runSt, stepOf, hx]
theorem run_next {g : List In4} {n : Int} {xs : List Int} {j at_ : Nat} {hand : Int} {x : In4} (h : runSt g n xs j = (at_, hand)) (hx : g[at_]? = some x) : runSt g n xs (j + 1) = (at_ + 1 + (leftOf x hand).toNat, handOf n xs x hand) := by
  have := runSt_succ (g := g) (n := n) (xs := xs) (m := j) (x := x) (by rw [h]; exact hx)
  rw [this, h]
def Going (g : List In4) (n : Int) (xs : List Int) (j : Nat) : Prop := ∀ (i : Nat) (y : In4), i < j → g[(runSt g n xs i).1]? = some y → y.op ≠ 6
theorem Going.next {g : List In4} {n : Int} {xs : List Int} {j at_ : Nat} {hand : Int} {x : In4} (h : Going g n xs j) (hr : runSt g n xs j = (at_, hand)) (hx : g[at_]? = some x) (h6 : x.op ≠ 6) : Going g n xs (j + 1) := fun i y hi hy => by
  by_cases e : i = j
  · subst e
    rw [hr] at hy
    rw [hx] at hy; cases hy; exact h6
  · exact h i y (by omega) hy
theorem leftOf_in {g : List In4} (hg : waysOk g) {i : Nat} {x : In4} (hx : g[i]? = some x) (h6 : x.op ≠ 6) (hand : Int) : 0 ≤ leftOf x hand ∧ i + 1 + (leftOf x hand).toNat < g.length := by
  have hi := (List.getElem?_eq_some_iff.1 hx).1
  have ho := hg.2.2 i x hi hx
  unfold insOk at ho
  unfold leftOf
  split
  · split <;> omega
  split
  · split <;> omega
  split <;> omega

/-- The run ends at step m. -/
def EndsAt (g : List In4) (n : Int) (xs : List Int) (m : Nat) (x : In4) : Prop := g[(runSt g n xs m).1]? = some x ∧ x.op = 6 ∧ ∀ (j : Nat) (y : In4), j < m → g[(runSt g n xs j).1]? = some y → y.op ≠ 6
theorem ends_one {g : List In4} {n : Int} {xs : List Int} {m m' : Nat} {x x' : In4} (h : EndsAt g n xs m x) (h' : EndsAt g n xs m' x') : m = m' ∧ x = x' := by
  obtain ⟨h1, h2, h3⟩ := h
  obtain ⟨h1', h2', h3'⟩ := h'
  have e : m = m' := by
    rcases Nat.lt_trichotomy m m' with hl | hl | hl
    · exact absurd h2 (h3' m x hl h1)
    · exact hl
    · exact absurd h2' (h3 m' x' hl h1')
  subst e
  rw [h1] at h1'
  exact ⟨rfl, Option.some.inj h1'⟩

/-- What a run comes to. -/
noncomputable def runOf (g : List In4) (n : Int) (xs : List Int) : Int × Int :=
  @dite _ (∃ m x, EndsAt g n xs m x) (Classical.propDecidable _) (fun h => ((Classical.choose (Classical.choose_spec h)).k, ((Classical.choose h : Nat) : Int) + 1)) (fun _ => (4, 0))
theorem runOf_eq {g : List In4} {n : Int} {xs : List Int} {m : Nat} {x : In4} (h : EndsAt g n xs m x) : runOf g n xs = (x.k, (m : Int) + 1) := by
  have he : ∃ m x, EndsAt g n xs m x := ⟨m, x, h⟩
  unfold runOf
  rw [dif_pos he]
  obtain ⟨e1, e2⟩ := ends_one h (Classical.choose_spec (Classical.choose_spec he))
  exact Prod.ext (congrArg In4.k e2.symm) (congrArg (fun t : Nat => (t : Int) + 1) e1.symm)
/-- What both CodeRun return. -/
noncomputable def runBoth (g : List In4) (n : Int) (xs : List Int) : Int × Int := if codeOkB g && callOkB n xs then runOf g n xs else (4, 0)
end Go.Proofs.YtbbhilhckbdgjaaDoor
