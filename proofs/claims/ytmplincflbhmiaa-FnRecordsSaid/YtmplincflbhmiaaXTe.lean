/- Lists of records in laws: comparison, marks. -/
import Derived.Test.YtmplincflbhmiaaXTa
import Derived.Test.YtmplincflbhmiaaXSd
import Derived.Test.YtmplincflbhmiaaXCt
namespace Go.Proofs.Ytmplincflbhmiaa
set_option linter.unusedSimpArgs false
set_option linter.unusedVariables false
open Go Cn Go.RowKit
section
variable {B : Nat} {A W W' : World} {L L' : List Res}
/-! ### marks -/
end
end Go.Proofs.Ytmplincflbhmiaa
