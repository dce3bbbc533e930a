/- Which rivers are good. -/
import Derived.Test.YthdnepjajhjmlaaGreatDoorXRd
namespace Go.Proofs.YthdnepjajhjmlaaGreatDoor
set_option linter.unusedSimpArgs false
set_option linter.unusedVariables false
open Go Cn Go.RowKit
section
variable {B : Nat} {A W W' : World} {L L' : List Res} {p1 p2 p3 : Option Addr} {k1 k2 k3 : Nat} {r : Riv}
end
end Go.Proofs.YthdnepjajhjmlaaGreatDoor
