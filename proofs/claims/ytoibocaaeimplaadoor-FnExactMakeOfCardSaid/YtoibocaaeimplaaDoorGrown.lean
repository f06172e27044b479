/- Worlds in which one block has turned and others are as they were. -/
import Derived.Test.YtoibocaaeimplaaDoorBase
import Derived.Maps.Range
import Derived.Maps.AppendAt
namespace Go.Proofs.YtoibocaaeimplaaDoor
open Go.RowKit
set_option linter.unusedSimpArgs false
set_option linter.unusedVariables false

theorem grown_set (w : World) (g i : Nat) (v : Value) : w.grownBy (w.setCell ⟨g, i, none⟩ v) (some g) :=
  ⟨rfl, rfl, rfl, by simp, fun k _ hk => heap_setCell_other w ⟨g, i, none⟩ k v (fun e => hk (by simp [e]))⟩
theorem grown_drew (w : World) (r : Option Nat) : w.grownBy w.drew r := ⟨rfl, rfl, rfl, Nat.le_refl _, fun _ _ _ => rfl⟩
theorem grown_of_below {w w' : World} (h : Below w.heap.size w w') (r : Option Nat) : w.grownBy w' r := ⟨h.os, h.tape, h.output, h.size, fun k hk _ => h.block k hk⟩
theorem grown_then {a w w' : World} {B : Nat} {r : Option Nat} (h : a.grownBy w r) (hb : Below B w w') (hB : a.heap.size ≤ B) : a.grownBy w' r :=
  ⟨hb.os.trans h.os, hb.tape.trans h.tape, hb.output.trans h.output, Nat.le_trans h.size hb.size, fun k hk hr => (hb.block k (Nat.lt_of_lt_of_le hk hB)).trans (h.block k hk hr)⟩
theorem grown_new {a w : World} {g i : Nat} {r : Option Nat} (h : a.grownBy w r) (hg : a.heap.size ≤ g) (v : Value) : a.grownBy (w.setCell ⟨g, i, none⟩ v) r :=
  grown_then h ((Below.refl a.heap.size w).setCell (p := ⟨g, i, none⟩) hg v) (Nat.le_refl _)
theorem below_of_grown {a w : World} {g B : Nat} (h : a.grownBy w (some g)) (hB : B ≤ g) (hg : g < a.heap.size) : Below B a w :=
  ⟨h.os, h.tape, h.output, h.size, fun k hk => h.block k (by omega) (by intro e; cases e; omega)⟩
theorem Blk.grown {w w' : World} {g : Nat} {r : Option Nat} {t : TypeId} {cs : Array Value} (h : Blk w g t cs) (hg : w.grownBy w' r) (hne : some g ≠ r) : Blk w' g t cs := (hg.block g h.lt hne).trans h
theorem SlA.grown {w w' : World} {size g : Nat} {A : Option Addr} {n c : Nat} {cs : List (List Value)} (h : SlA w size A n c cs) (hg : w.grownBy w' (some g)) (hA : ∀ b off, A = some ⟨b, off, none⟩ → b ≠ g) : SlA w' size A n c cs :=
  ⟨h.len, h.cap, h.max, fun hn => let ⟨b, off, e, hl, he⟩ := h.at_ hn
    ⟨b, off, e, Nat.lt_of_lt_of_le hl hg.size, fun k r hr j v hv => hg.cell (he k r hr j v hv) (fun e2 => hA b off e (by cases e2; rfl))⟩⟩
end Go.Proofs.YtoibocaaeimplaaDoor
