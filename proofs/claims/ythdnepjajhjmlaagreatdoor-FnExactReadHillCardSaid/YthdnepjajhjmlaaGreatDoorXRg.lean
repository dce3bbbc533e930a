/- Rivers in laws: sizes, copies, comparison, marks. -/
import Derived.Test.YthdnepjajhjmlaaGreatDoorXGq
import Derived.Test.YthdnepjajhjmlaaGreatDoorXRe
namespace Go.Proofs.YthdnepjajhjmlaaGreatDoor
set_option linter.unusedSimpArgs false
set_option linter.unusedVariables false
open Go Cn Go.RowKit
section
variable {B : Nat} {A W W' : World} {L L' : List Res} {p1 p2 p3 p4 p5 p6 : Option Addr} {k1 k2 k3 k4 k5 k6 : Nat} {r s : Riv}
theorem RivA.below {v : Value} (h : RivA A v r) (hb : Below A.heap.size A W) : RivA W v r := by
  obtain ⟨p1, k1, p2, k2, p3, k3, h1, h2⟩ := h
  exact ⟨p1, k1, p2, k2, p3, k3, h1, h2.below hb⟩
end
end Go.Proofs.YthdnepjajhjmlaaGreatDoor
