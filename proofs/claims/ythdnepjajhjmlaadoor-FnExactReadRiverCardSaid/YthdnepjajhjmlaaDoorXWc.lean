/- Numbers as texts of digits, both ways. -/
import Derived.Test.YthdnepjajhjmlaaDoorXWb
import Derived.Test.YthdnepjajhjmlaaDoorXVt
import Derived.Test.YthdnepjajhjmlaaDoorXVa
namespace Go.Proofs.YthdnepjajhjmlaaDoor
set_option linter.unusedSimpArgs false
set_option linter.unusedVariables false
open Go Cn Go.RowKit
def wd (x : Nat) : Nat := (wordOf x).toNat
section
variable {B : Nat} {A W W' : World} {L L' : List Res}
end
end Go.Proofs.YthdnepjajhjmlaaDoor
