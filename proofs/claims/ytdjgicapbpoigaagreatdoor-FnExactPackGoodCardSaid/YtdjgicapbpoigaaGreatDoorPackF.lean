/- Whether an error is a pack's fault. -/
import Derived.Test.YtdjgicapbpoigaaGreatDoorErrAs
namespace Go.Proofs.YtdjgicapbpoigaaGreatDoor
open Go.RowKit
set_option linter.unusedSimpArgs false
set_option linter.unusedVariables false

/-- The variable errors.errorType holds what its initialiser lays. -/
def EtIs (w : World) : Prop := w.cell? ⟨0, 0, none⟩ = some (.iface 174 (.agg #[.pointer (some ⟨7, 48, none⟩)]))
theorem EtIs.lt {w : World} (h : EtIs w) : 0 < w.heap.size := by
  rcases Nat.lt_or_ge 0 w.heap.size with h0 | h0
  · exact h0
  · unfold EtIs at h; simp [World.cell?, Array.getElem?_eq_none h0] at h
theorem EtIs.below {w w' : World} (h : EtIs w) (hb : Below w.heap.size w w') : EtIs w' := (hb.cell (p := ⟨0, 0, none⟩) h.lt).trans h
theorem EtIs.below2 {w w' : World} {B : Nat} (h : EtIs w) (hb : Below B w w') (hB : w.heap.size ≤ B) : EtIs w' := (hb.cell (p := ⟨0, 0, none⟩) (Nat.lt_of_lt_of_le h.lt hB)).trans h

set_option maxHeartbeats 1000000 in
theorem packFaulty_nil (w : World) :
    Calls Tryz.prog 17 #[.nilIface] w fun e w' => e = .returned (.bool false) ∧ Below w.heap.size w w' := by
  go_enter Tryz.func17, Tryz.ntmps17
  go_wp2_with fail
  refine (as_nil _ _).mono ?_; rintro e w' ⟨rfl, rfl⟩
  go_wp2
  go_ret
  exact ⟨rfl, by go_grown⟩
set_option maxHeartbeats 1000000 in
theorem packFaulty_hit (a : Addr) (w : World) (he : EtIs w) :
    Calls Tryz.prog 17 #[.iface 71 (.pointer (some a))] w fun e w' => e = .returned (.bool true) ∧ Below w.heap.size w w' := by
  obtain ⟨W1, hW1⟩ : ∃ W, W = w.alloc (.cells #[.pointer none] 71) := ⟨_, rfl⟩
  have B1 : Hid (Blk W1 w.heap.size 71 #[.pointer none]) := by rw [hW1]; exact Lib.hid (Blk.new _ _ _)
  have b1 : Hid (Below w.heap.size w W1) := by rw [hW1]; exact Lib.hid (by go_grown)
  have HE := Lib.hid (he.below2 b1.out (Nat.le_refl _))
  have HW1 := Lib.hid hW1
  clear hW1 he
  go_enter Tryz.func17, Tryz.ntmps17
  go_wp2_with fail
  rw [← HW1.out]
  refine (as_hit a ⟨w.heap.size, 0, none⟩ (.pointer none) W1 HE.out (B1.out.cell 0) (B1.out.frozen 0)).mono ?_; rintro e w' ⟨rfl, hw'⟩
  have HB : Hid (Below w.heap.size w w') := by
    rw [hw']
    have hs := b1.out.size
    exact Lib.hid (((((b1.out.alloc hs _).alloc (by simp; omega) _).alloc (by simp; omega) _).alloc (by simp; omega) _).setCell (p := ⟨w.heap.size, 0, none⟩) (Nat.le_refl _) _)
  clear hw'
  go_wp2
  go_ret
  exact ⟨rfl, HB.out⟩

end Go.Proofs.YtdjgicapbpoigaaGreatDoor

