/-
  DERIVED. GIVEN WITH THE SEED: THE CARDS: each row of YthdnepjajhjmlaaGreatDoorRows.lean that lists a variable, with what it lists TIED to the program's text (the seventh form; the later family's looks); each row that meets fmt, with fmt's text TOLD by the authors' own Lean function (tested against real Go, not proved from fmt's source: count such statements apart). THE CARD IS WHAT COUNTS. Prove the row's statement (the work); the ties are given (YthdnepjajhjmlaaGreatDoorTie.lean); close each card by the builder's one call (the guide's Derived/Test/ToyasCard.lean, 'card_holds'). Laid BY PROGRAM, IN A SANDBOX (cutbox-door.mjs). By AI agents, Wed Nov 11 2026. No macro, syntax, notation, axiom, sorry.
-/
import Derived.Test.YthdnepjajhjmlaaGreatDoorRows
import GoSem.ClaimSeven
namespace Go.Proofs.YthdnepjajhjmlaaGreatDoor
namespace Rows

/-- THE TIED CARD OF 'laws.FnExactReadHill'. -/
def fnExactReadHillCard : Claim7 := { stood := { row := fnExactReadHillRow, standIns := [], harness := (true, "682cb86cd13fb104c2ab939387d82ae1b86e711efa01fb8ce12951e3db47f829"), looks := true }, kinds := [], alts := [], laidByText := true, laidKinds := [.data, .data, .data, .data, .sentinel, .sentinel, .pinned], laidTests := true, laidLooks := .later }
def FnExactReadHillCardSaid : Prop := Claim7.holds Tryz.pinned (.plain (OpenSpec.ofChange fnExactReadHillSpec)) fnExactReadHillCard

/-- THE SECOND FORM's CARD OF 'laws.FnExactReadHill'. -/
def fnExactReadHillUptoCard : Claim7 := { stood := { row := fnExactReadHillUptoRow, standIns := [], harness := (true, "682cb86cd13fb104c2ab939387d82ae1b86e711efa01fb8ce12951e3db47f829"), looks := true }, kinds := [], alts := [], laidByText := true, laidKinds := [.data, .data, .data, .data, .sentinel, .sentinel, .pinned], laidTests := true, laidLooks := .later }
def FnExactReadHillUptoCardSaid : Prop := Claim7.holds Tryz.pinned (.plain (OpenSpec.upto fnExactReadHillSpec)) fnExactReadHillUptoCard
end Rows
end Go.Proofs.YthdnepjajhjmlaaGreatDoor
