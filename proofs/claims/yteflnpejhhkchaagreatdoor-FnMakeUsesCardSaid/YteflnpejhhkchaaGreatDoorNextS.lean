/- spec's programs: l14Next, l14Live, CodeMost, CodeLive. -/
import Derived.Test.YteflnpejhhkchaaGreatDoorNextP
import Derived.Test.YteflnpejhhkchaaGreatDoorKit
import Derived.Test.YteflnpejhhkchaaGreatDoorCodeSA
import Derived.Deep.OwnRows
namespace Go.Proofs.YteflnpejhhkchaaGreatDoor
open Go.RowKit
set_option linter.unusedSimpArgs false
set_option linter.unusedVariables false

theorem SlA.ints_block {w : World} {b : Nat} {t : TypeId} {xs : List Int} (h : Blk w b t (xs.map (Value.int .i64)).toArray) (hm : xs.length ≤ maxLen) : SlA w 1 (some ⟨b, 0, none⟩) xs.length xs.length (ints xs) :=
  SlA.of_block h (ints_len xs) (Nat.le_refl _) hm (fun k r hr j v hv => by
    have hk : k < xs.length := by have := (List.getElem?_eq_some_iff.1 hr).1; rwa [ints_len] at this
    have hr' : r = [.int .i64 xs[k]] := by simp [ints, hk] at hr; exact hr.symm
    subst hr'
    cases j with
    | zero => simp at hv; subst hv; simp [hk]
    | succ j => simp at hv)
theorem Blk.second (w : World) (o : Obj) (t : TypeId) (cs : Array Value) : Blk ((w.alloc o).alloc (.cells cs t)) (w.heap.size + 1) t cs := by
  have h := Blk.new (w.alloc o) t cs
  rwa [World.size_alloc] at h
/-- A row that lies behind what was there. -/
def FarZ (w : World) (base : Nat) (v : Value) (xs : List Int) : Prop := ∃ A c, v = .slice A xs.length c ∧ SlA w 1 A xs.length c (ints xs) ∧ ∀ b off, A = some ⟨b, off, none⟩ → base ≤ b
theorem FarZ.of {w0 w : World} {t : TypeId} {xs : List Int} (h : Blk w (w0.heap.size + 1) t (xs.map (Value.int .i64)).toArray) (hm : xs.length ≤ 100) : FarZ w w0.heap.size (.slice (some ⟨w0.heap.size + 1, 0, none⟩) xs.length xs.length) xs :=
  ⟨_, _, rfl, SlA.ints_block h (by unfold maxLen; omega), fun b off e => by cases e; omega⟩
def nextI (x : In4) (i : Nat) : List Int := (nexts x i).map fun (j : Nat) => (j : Int)
theorem nextI_len (x : In4) (i : Nat) : (nextI x i).length = (nexts x i).length := by simp [nextI]

end Go.Proofs.YteflnpejhhkchaaGreatDoor
