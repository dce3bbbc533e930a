/- Rivers copied. -/
import Derived.Test.YthdnepjajhjmlaaGreatDoorXRc
namespace Go.Proofs.YthdnepjajhjmlaaGreatDoor
set_option linter.unusedSimpArgs false
set_option linter.unusedVariables false
open Go Cn Go.RowKit
structure Riv where
  ds : List Int
  dm : List Dm
  ws : List Int
abbrev rvV (p1 : Option Addr) (k1 : Nat) (p2 : Option Addr) (k2 : Nat) (p3 : Option Addr) (k3 : Nat) (r : Riv) : Value := .agg #[.slice p1 r.ds.length k1, .slice p2 r.dm.length k2, .slice p3 r.ws.length k3]
/-- what is read of a river -/
structure RvS (W : World) (p1 : Option Addr) (k1 : Nat) (p2 : Option Addr) (k2 : Nat) (p3 : Option Addr) (k3 : Nat) (r : Riv) : Prop where
  d : SlI W (.slice p1 r.ds.length k1) r.ds
  m : SlD W (.slice p2 r.dm.length k2) r.dm
  w : SlI W (.slice p3 r.ws.length k3) r.ws
def Riv.small (r : Riv) : Prop := r.ds.length ≤ 1048576 ∧ r.dm.length ≤ 1048576 ∧ r.ws.length ≤ 1048576
section
variable {B : Nat} {A W W' : World} {L L' : List Res} {p1 p2 p3 : Option Addr} {k1 k2 k3 : Nat} {r : Riv}
theorem RvS.below (h : RvS A p1 k1 p2 k2 p3 k3 r) (hb : Below A.heap.size A W) : RvS W p1 k1 p2 k2 p3 k3 r := ⟨h.d.below hb, SlD.below h.m hb, h.w.below hb⟩
end
end Go.Proofs.YthdnepjajhjmlaaGreatDoor
