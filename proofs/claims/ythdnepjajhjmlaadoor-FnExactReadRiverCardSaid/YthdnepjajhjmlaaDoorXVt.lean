/- strings.Repeat's contract of the kit's shelf, laid at this program in plain words by the kit's own commands. -/
import Derived.Shelf.Strings.Repeat
import Derived.Test.YthdnepjajhjmlaaDoorProg
namespace Go.Proofs
set_option linter.unusedSimpArgs false
set_option linter.unusedVariables false
open Go.Shelf
end Go.Proofs
