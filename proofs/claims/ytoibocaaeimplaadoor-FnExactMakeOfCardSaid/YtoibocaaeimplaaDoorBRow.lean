/- Rows of bools and of numbers as blocks: no Go function is walked here. -/
import Derived.Test.YtoibocaaeimplaaDoorPolT
import Derived.BigRegion
import Derived.Deep.OwnRows
namespace Go.Proofs.YtoibocaaeimplaaDoor
open Go.RowKit
set_option linter.unusedSimpArgs false
set_option linter.unusedVariables false

theorem info_boolR : (Tryd.prog.info? 4).map (fun i => (i.zero, i.size, i.bytes)) = some (some (.bool false), 1, 1) := by kernel_rfl
theorem info_intR : (Tryd.prog.info? 3).map (fun i => (i.zero, i.size, i.bytes)) = some (some (.int .i64 0), 1, 8) := by kernel_rfl
/-- The cells of bools, as a block. -/
def bRow (rs : List Bool) : Array Value := (rs.map Value.bool).toArray
theorem bRow_zero (n : Nat) : madeCells #[.bool false] n = bRow (List.replicate n false) := by
  apply Array.ext'
  rw [toList_madeCells_one]
  simp [bRow]
theorem bRow_get (rs : List Bool) (k : Nat) : (bRow rs)[k]? = rs[k]?.map Value.bool := by simp [bRow]
theorem bRow_set (rs : List Bool) (k : Nat) (b : Bool) : (bRow rs).setIfInBounds k (.bool b) = bRow (rs.set k b) := by
  apply Array.ext'
  simp [bRow, List.map_set]
theorem bRow_cell {w : World} {h k : Nat} {t : TypeId} {rs : List Bool} {b : Bool} (hb : Blk w h t (bRow rs)) (hk : rs[k]? = some b) : w.cell? ⟨h, k, none⟩ = some (.bool b) := (hb.cell k).trans (by rw [bRow_get, hk]; rfl)
theorem bRow_some {rs : List Bool} {n k : Nat} (hl : rs.length = n) (hk : k < n) : ∃ b, rs[k]? = some b := ⟨_, List.getElem?_eq_getElem (by omega)⟩
/-- The cells of numbers, as a block. -/
def nRow (rs : List Nat) : Array Value := (rs.map fun n => Value.int .i64 ((n : Nat) : Int)).toArray
theorem nRow_zero (n : Nat) : madeCells #[.int .i64 0] n = nRow (List.replicate n 0) := by
  apply Array.ext'
  rw [toList_madeCells_one]
  simp [nRow]
theorem nRow_get (rs : List Nat) (k : Nat) : (nRow rs)[k]? = rs[k]?.map fun n => Value.int .i64 ((n : Nat) : Int) := by simp [nRow]
theorem nRow_set (rs : List Nat) (k b : Nat) : (nRow rs).setIfInBounds k (.int .i64 (b : Int)) = nRow (rs.set k b) := by
  apply Array.ext'
  simp [nRow, List.map_set]
theorem nRow_cell {w : World} {h k : Nat} {t : TypeId} {rs : List Nat} {b : Nat} (hb : Blk w h t (nRow rs)) (hk : rs[k]? = some b) : w.cell? ⟨h, k, none⟩ = some (.int .i64 (b : Int)) := (hb.cell k).trans (by rw [nRow_get, hk]; rfl)
theorem nRow_some {rs : List Nat} {n k : Nat} (hl : rs.length = n) (hk : k < n) : ∃ b, rs[k]? = some b := ⟨_, List.getElem?_eq_getElem (by omega)⟩
theorem set_true_keep {rs : List Bool} {j y : Nat} (h : rs[j]? = some true) : (rs.set y true)[j]? = some true := by
  rw [List.getElem?_set]
  have := (List.getElem?_eq_some_iff.1 h).1
  by_cases e : y = j
  · subst e; simp [this]
  · simp [e, h]
end Go.Proofs.YtoibocaaeimplaaDoor
