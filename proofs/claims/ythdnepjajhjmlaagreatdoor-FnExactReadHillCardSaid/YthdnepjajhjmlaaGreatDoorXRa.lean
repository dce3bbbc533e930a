/- Lists of whole numbers: looked through, copied, compared, marked. -/
import Derived.Test.YthdnepjajhjmlaaGreatDoorFz
import Derived.Test.YthdnepjajhjmlaaGreatDoorHr
namespace Go.Proofs.YthdnepjajhjmlaaGreatDoor
set_option linter.unusedSimpArgs false
set_option linter.unusedVariables false
open Go Cn Go.RowKit
section
variable {B : Nat} {A W W' : World} {L L' : List Res}
/-! ### laws: sizes, copies, comparison, marks -/
/-! ### marks -/
end
end Go.Proofs.YthdnepjajhjmlaaGreatDoor
