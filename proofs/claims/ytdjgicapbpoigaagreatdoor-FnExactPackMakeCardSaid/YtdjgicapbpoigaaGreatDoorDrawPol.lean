/- How the laws draw tests: no bounds are asked. -/
import Derived.Test.YtdjgicapbpoigaaGreatDoorRd
import Derived.Test.YtdjgicapbpoigaaGreatDoorKit
import Derived.Test.YtdjgicapbpoigaaGreatDoorTxt
import Derived.Laws.Runes
import Derived.BigRegion
namespace Go.Proofs.YtdjgicapbpoigaaGreatDoor
open Go.RowKit
set_option linter.unusedSimpArgs false
set_option linter.unusedVariables false

end Go.Proofs.YtdjgicapbpoigaaGreatDoor
