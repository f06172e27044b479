/- spec.CodeLive: to which places a run can come. -/
import Derived.Test.YteflnpejhhkchaaGreatDoorNextS
import Derived.Test.YteflnpejhhkchaaGreatDoorLawBools
import Derived.BigRegion
namespace Go.Proofs.YteflnpejhhkchaaGreatDoor
open Go.RowKit
set_option linter.unusedSimpArgs false
set_option linter.unusedVariables false

theorem info_bool : (Tryz.prog.info? 4).map (fun i => (i.zero, i.size, i.bytes)) = some (some (.bool false), 1, 1) := by kernel_rfl
theorem bRow_own {w : World} {b base n : Nat} {rs : List Bool} (h : Blk w b 4 (bRow rs)) (hb : base ≤ b) (hl : rs.length = n) (hm : n ≤ 1000) : w.ownsRow base 4 1 (.slice (some ⟨b, 0, none⟩) n n) n (bools rs).flatten := by
  refine ⟨by rw [bools_flat]; simp [hl], .inr ⟨b, n, _, rfl, hb, h, Nat.le_refl _, by unfold maxLen; omega, by simp [bRow, hl], ?_⟩⟩
  rw [bools_flat]
  simp [bRow]
  rw [List.take_of_length_le (by simp [hl])]

/-- What is marked in the end. -/
noncomputable def liveRow (g : List In4) : List Bool := @dite _ (∃ rs, LiveTo g g.length rs) (Classical.propDecidable _) (fun h => Classical.choose h) (fun _ => [])
theorem liveRow_eq {g : List In4} {rs : List Bool} (hg : waysOk g) (h : LiveTo g g.length rs) : rs = liveRow g := by
  have he : ∃ rs, LiveTo g g.length rs := ⟨rs, h⟩
  unfold liveRow
  rw [dif_pos he]
  exact live_one hg h (Classical.choose_spec he)
/-- What both CodeLive return. -/
noncomputable def liveOf (g : List In4) : List Bool := if codeOkB g then liveRow g else []
def LivePost (g : List In4) (w : World) (e : Ending) (w' : World) : Prop := ∃ v, e = .returned v ∧ w'.ownsRow w.heap.size 4 1 v (liveOf g).length (bools (liveOf g)).flatten ∧ Below w.heap.size w w'

end Go.Proofs.YteflnpejhhkchaaGreatDoor
