/- Plain laws of floats: what is finite, two ways told. -/
import Derived.Test.YthdnepjajhjmlaaDoorCn9
namespace Go.Proofs.YthdnepjajhjmlaaDoor
set_option linter.unusedSimpArgs false
set_option linter.unusedVariables false
open Go Cn

end Go.Proofs.YthdnepjajhjmlaaDoor
