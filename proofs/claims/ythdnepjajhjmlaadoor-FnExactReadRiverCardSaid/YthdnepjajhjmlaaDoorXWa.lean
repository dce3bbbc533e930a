/- Arrays: an element's address, a slice of one, bytes of a slice made a text. -/
import Derived.Test.YthdnepjajhjmlaaDoorXFq
import Derived.Test.YthdnepjajhjmlaaDoorXHm
namespace Go.Proofs.YthdnepjajhjmlaaDoor
set_option linter.unusedSimpArgs false
set_option linter.unusedVariables false
open Go Cn Go.RowKit
section
variable {P : Program} {N B : Nat} {E : Env} {W : World} {ops : Array Oper} {K : Exit → Env → World → Prop} {T : Tab} {o : Oper} {i : Nat} {rest : List Nat} {d : Nat} {op : Op} {ty : TypeId} {pos : String} {aft : Array Edge} {g : Option (Nat × Bool)}
end
end Go.Proofs.YthdnepjajhjmlaaDoor
