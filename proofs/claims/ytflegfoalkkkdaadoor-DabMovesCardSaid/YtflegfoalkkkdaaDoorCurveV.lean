/- The walks of package curve, continued: value, At. -/
import Derived.Test.YtflegfoalkkkdaaDoorCurve
import Derived.Deep.RegionHeld3
namespace Go.Proofs.YtflegfoalkkkdaaDoor
open Go.RowKit
set_option linter.unusedVariables false
attribute [local go_sem] Oper.gAt gUponK
end Go.Proofs.YtflegfoalkkkdaaDoor
