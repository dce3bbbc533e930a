/- Dams and rivers in laws. -/
import Derived.Test.YthdnepjajhjmlaaGreatDoorXRb
namespace Go.Proofs.YthdnepjajhjmlaaGreatDoor
set_option linter.unusedSimpArgs false
set_option linter.unusedVariables false
open Go Cn Go.RowKit
section
variable {B : Nat} {A W W' : World} {L L' : List Res}
end
end Go.Proofs.YthdnepjajhjmlaaGreatDoor
