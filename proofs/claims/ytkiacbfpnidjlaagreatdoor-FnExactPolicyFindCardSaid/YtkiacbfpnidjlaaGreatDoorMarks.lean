/- A function that ranges over functions, in a loop or not, leaves with a mark for each such range: no Go function is walked here. -/
import Derived.RangeFuncNested
import Derived.RangeFuncBound
import Derived.RangeFuncCalls
import Derived.RangeFuncLeaves
import Derived.Shelf.Abstract
import Derived.OwnWalkIn
import Derived.TacticsInMore
import Derived.LoopNIn
import Derived.LoopIn
import Derived.Test.YtkiacbfpnidjlaaGreatDoorKit
namespace Go.Proofs.YtkiacbfpnidjlaaGreatDoor
open Go.RowKit
set_option linter.unusedSimpArgs false
set_option linter.unusedVariables false

def mark (D : Nat) : Deferred := { target := .collected D, args := #[] }
/-- The world when all marks have been taken. -/
def shutAll : List Nat → World → World
  | [], w => w
  | D :: Ds, w => shutAll Ds (w.putObj D (.deferred none))
/-- The blocks of marks, as a loop leaves them. -/
def Marks (w : World) (base : Nat) (Ds : List Nat) : Prop := Ds.Nodup ∧ ∀ D ∈ Ds, base ≤ D ∧ w.heap[D]? = some (.deferred (some []))

theorem putObj_other {w : World} {D k : Nat} {o : Obj} (h : k ≠ D) : (w.putObj D o).heap[k]? = w.heap[k]? := by
  by_cases hk : k < w.heap.size
  · exact (grownBy_putObj' w D o).block k hk (by intro e; cases e; exact h rfl)
  · have h1 : (w.putObj D o).heap.size = w.heap.size := by simp [World.putObj]
    rw [Array.getElem?_eq_none (by omega), Array.getElem?_eq_none (by omega)]

theorem leaves_marks {F : Fence} {n : Nat} {P : Program} {fn : Func} {tmps : Array Value} {R : Ending → World → Prop} {u : FrameMode} {base : Nat} (hu : u ≠ .run) : ∀ (Ds : List Nat) (w : World), Marks w base Ds →
    LeavesInM F n P fn tmps R [] u (shutAll Ds w) → LeavesInM F n P fn tmps R (Ds.map mark) u w
  | [], w, _, h => h
  | D :: Ds, w, ⟨hn, hm⟩, h => by
    rw [List.nodup_cons] at hn
    refine ⟨hu, .inl ⟨D, _, rfl, run_takeDeferred (hm D (by simp)).2, ?_⟩⟩
    refine leaves_marks hu Ds _ ⟨hn.2, fun E hE => ⟨(hm E (by simp [hE])).1, ?_⟩⟩ h
    rw [putObj_other (k := E) (fun e => hn.1 (by rw [← e]; exact hE))]
    exact (hm E (by simp [hE])).2

theorem shut_below {base : Nat} : ∀ (Ds : List Nat) (w : World), Marks w base Ds → Below base w (shutAll Ds w)
  | [], w, _ => Below.refl _ _
  | D :: Ds, w, ⟨hn, hm⟩ => by
    rw [List.nodup_cons] at hn
    have hD := hm D (by simp)
    have hlt := (Array.getElem?_eq_some_iff.1 hD.2).1
    have h1 : Below base w (w.putObj D (.deferred none)) := (Below.refl base w).grown (grownBy_putObj' w D _) (by omega) (fun k e => by cases e; exact hD.1)
    exact h1.trans (shut_below Ds _ ⟨hn.2, fun E hE => ⟨(hm E (by simp [hE])).1, by rw [putObj_other (k := E) (fun e => hn.1 (by rw [← e]; exact hE))]; exact (hm E (by simp [hE])).2⟩⟩)

theorem shut_block {base : Nat} : ∀ (Ds : List Nat) (w : World) (k : Nat), k ∉ Ds → (shutAll Ds w).heap[k]? = w.heap[k]?
  | [], w, _, _ => rfl
  | D :: Ds, w, k, h => by
    simp at h
    rw [shutAll, shut_block (base := base) Ds _ k h.2, putObj_other h.1]

theorem Marks.cons {w : World} {base D : Nat} {Ds : List Nat} (h : Marks w base Ds) (hb : base ≤ D) (hD : w.heap[D]? = some (.deferred (some []))) (hne : D ∉ Ds) : Marks w base (D :: Ds) :=
  ⟨List.nodup_cons.2 ⟨hne, h.1⟩, fun E hE => by
    simp at hE
    rcases hE with rfl | hE
    · exact ⟨hb, hD⟩
    · exact h.2 E hE⟩
theorem Marks.nil (w : World) (base : Nat) : Marks w base [] := ⟨List.nodup_nil, fun _ h => by cases h⟩
theorem Marks.same {w w' : World} {base : Nat} {Ds : List Nat} (h : Marks w base Ds) (hs : ∀ D ∈ Ds, w.heap[D]? = some (.deferred (some [])) → w'.heap[D]? = w.heap[D]?) : Marks w' base Ds :=
  ⟨h.1, fun D hD => ⟨(h.2 D hD).1, (hs D hD (h.2 D hD).2).trans (h.2 D hD).2⟩⟩
theorem Marks.below {w w' : World} {base : Nat} {Ds : List Nat} (h : Marks w base Ds) (hb : Below w.heap.size w w') : Marks w' base Ds :=
  h.same (fun D _ hD => hb.block D (Array.getElem?_eq_some_iff.1 hD).1)
theorem Marks.cells {w w' : World} {base : Nat} {Ds : List Nat} (h : Marks w base Ds) (hb : KeepsOthers w w') : Marks w' base Ds :=
  h.same (fun D _ hD => (hb.same D _ hD rfl).trans hD.symm)
theorem Marks.ne_cells {w : World} {base : Nat} {Ds : List Nat} {k : Nat} {t : TypeId} {cs : Array Value} (h : Marks w base Ds) (hk : Blk w k t cs) : k ∉ Ds := fun e => by
  have := (h.2 k e).2
  rw [show w.heap[k]? = _ from hk] at this
  cases this
end Go.Proofs.YtkiacbfpnidjlaaGreatDoor
