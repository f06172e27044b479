/- How the laws bend a text that they draw. -/
import Derived.Test.YtaieopdfkapgdaaDoorTxt
import Derived.Test.YtaieopdfkapgdaaDoorRdOpen
namespace Go.Proofs.YtaieopdfkapgdaaDoor
open Go.RowKit
set_option linter.unusedSimpArgs false
set_option linter.unusedVariables false

end Go.Proofs.YtaieopdfkapgdaaDoor
