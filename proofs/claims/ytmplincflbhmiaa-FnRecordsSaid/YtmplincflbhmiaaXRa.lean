/- Lists of whole numbers: looked through, copied, compared, marked. -/
import Derived.Test.YtmplincflbhmiaaXFz
import Derived.Test.YtmplincflbhmiaaHr
namespace Go.Proofs.Ytmplincflbhmiaa
set_option linter.unusedSimpArgs false
set_option linter.unusedVariables false
open Go Cn Go.RowKit
section
variable {B : Nat} {A W W' : World} {L L' : List Res}
/-! ### laws: sizes, copies, comparison, marks -/
/-! ### marks -/
def mkI (n : Int) (i : Nat) : List Int := (List.range i).map fun j : Nat => n + (j : Int)
theorem mkI_len (n : Int) (i : Nat) : (mkI n i).length = i := by simp [mkI]
theorem mkI_succ (n : Int) (i : Nat) : mkI n (i + 1) = mkI n i ++ [n + i] := by simp [mkI, List.range_succ]
end
end Go.Proofs.Ytmplincflbhmiaa
