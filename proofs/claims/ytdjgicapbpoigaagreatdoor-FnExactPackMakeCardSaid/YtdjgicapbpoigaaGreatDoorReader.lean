/- impl's reader of texts: skip, number (ReaderN), done. -/
import Derived.Test.YtdjgicapbpoigaaGreatDoorReaderN
namespace Go.Proofs.YtdjgicapbpoigaaGreatDoor
open Go.RowKit
set_option linter.unusedSimpArgs false
set_option linter.unusedVariables false

theorem done_any (s : ByteArray) (g o : Nat) (w : World) (hc : w.cell? ⟨g, o, none⟩ = some (.string s)) :
   Calls Tryz.prog 45 #[.pointer (some ⟨g, o, none⟩)] w fun e w' =>
     e = .returned (.bool s.data.toList.isEmpty) ∧ w' = w := by
 go_enter Tryz.func45, Tryz.ntmps45
 go_wp2
 go_ret
 exact ⟨by rw [← ByteArray.toList_eq]; rfl, rfl⟩
end Go.Proofs.YtdjgicapbpoigaaGreatDoor
