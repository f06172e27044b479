/- spec's graphs of policies, exactly: l4Used, l4Trim, GraphMake. -/
import Derived.Test.YtkiacbfpnidjlaaGreatDoorGmX
import Derived.Test.YtkiacbfpnidjlaaGreatDoorMak
import Derived.Test.YtkiacbfpnidjlaaGreatDoorPolSA
import Derived.Deep.RegionHeld3
namespace Go.Proofs.YtkiacbfpnidjlaaGreatDoor
open Go.RowKit
set_option linter.unusedSimpArgs false
set_option linter.unusedVariables false

theorem Sl.empty0 (w : World) (size : Nat) (t : TypeId) : Sl (w.alloc (.cells #[] t)) size (.slice (some ⟨w.heap.size, 0, none⟩) 0 0) [] := by
  have h : (w.alloc (.cells #[] t)).ownsRow 0 t size (.slice (some ⟨w.heap.size, 0, none⟩) 0 0) ([] : List (List Value)).length ([] : List (List Value)).flatten := World.ownsRow_lit (base := 0) (e := t) (size := size) w #[] 0 (Nat.zero_le _) (by unfold maxLen; omega) (by simp)
  obtain ⟨A, n, c, e, hA⟩ := SlA.of_own h rfl (fun r hr => by cases hr)
  exact ⟨A, n, c, e, hA⟩

end Go.Proofs.YtkiacbfpnidjlaaGreatDoor
