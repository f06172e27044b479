/- The reader by which the laws draw their inputs: what it gives is in its bounds, and what is changed is its own place. -/
import Derived.Test.YtdjgicapbpoigaaGreatDoorKit
import Derived.BigRegion
import Derived.Laws.BitsLemmas
import Derived.Laws.Runes
namespace Go.Proofs.YtdjgicapbpoigaaGreatDoor
open Go.RowKit
set_option linter.unusedSimpArgs false
set_option linter.unusedVariables false

end Go.Proofs.YtdjgicapbpoigaaGreatDoor
