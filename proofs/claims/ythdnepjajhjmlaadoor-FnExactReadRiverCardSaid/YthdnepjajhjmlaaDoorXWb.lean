/- Words as eight digits, both ways. -/
import Derived.Test.YthdnepjajhjmlaaDoorXWa
import Derived.Test.YthdnepjajhjmlaaDoorXVa
import Derived.Test.YthdnepjajhjmlaaDoorXFb
namespace Go.Proofs.YthdnepjajhjmlaaDoor
set_option linter.unusedSimpArgs false
set_option linter.unusedVariables false
open Go Cn Go.RowKit
section
variable {B : Nat} {A W W' : World} {L L' : List Res}
/-- the library's table of trailing zeros, at 16 -/
def DbG (W : World) : Prop := W.cell? ⟨8, 15, none⟩ = some (.int .u8 4)
theorem DbG.below {A W : World} (h : DbG A) (hb : Below A.heap.size A W) : DbG W := (hb.cell (World.block_lt_of_cell? _ _ h)).trans h
theorem DbG.hp {A : World} {l : List Res} (h : DbG A) (H : Hp B A W l) : DbG W := h.below H.below
end
end Go.Proofs.YthdnepjajhjmlaaDoor
