/- The walks of package random and of its reference: each function returns what the plain functions of the text RandPlain compute. -/
import Derived.Test.YtflegfoalkkkdaaDoorRows
import Derived.Test.YtflegfoalkkkdaaDoorKit
import Derived.Test.YtflegfoalkkkdaaDoorRandPlain
namespace Go.Proofs.YtflegfoalkkkdaaDoor
open Go.RowKit
set_option linter.unusedVariables false
end Go.Proofs.YtflegfoalkkkdaaDoor
