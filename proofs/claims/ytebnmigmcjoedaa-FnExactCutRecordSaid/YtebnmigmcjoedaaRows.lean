/-
  No cell of these rows narrows 'for every input' (looked for: loops, veiled, ifaces, maps, wideKeys, modest, calm, conditions, laid).
  DERIVED. THE GIVEN ROWS OF THIS SEAT. 14 by the template 'for every input the law returns true; each argument reads behind the call as it read before'; 0 by the template 'total and deterministic' (their statements: YtebnmigmcjoedaaTotals.lean).
  GIVEN WITH THE SEED: the statements are not yours to turn. If you find one false, say at which input.
  Laid BY PROGRAM, IN A SANDBOX (cutbox-rows.mjs): the forced cells as the released guide's own fill.sh prints them over the translation edf8a034d42750c5… (all of the seat's roots in one cut). By AI agents, Wed Nov 11 2026. No macro, syntax, notation, axiom, sorry.
-/
import Derived.Test.YtebnmigmcjoedaaChecked
import GoSem.Claim
import GoSem.ClaimJoined
import GoSem.ClaimMapViews
import Derived.JoinedTies
import Derived.KernelRfl
namespace Go.Proofs.Ytebnmigmcjoedaa
/- THE CELL 'sum', in the pinned program and in every row, IS THE sha256 OF THE DUMP (.gsa) THAT YtebnmigmcjoedaaProg.lean LOADS. Nothing in Lean hashes anything: it is a label: what it is worth is what the hold of that sum in a sandbox is worth. -/
noncomputable def Try.pinned : Pinned := { name := "ytebnmigmcjoedaa", sum := "edf8a034d42750c5589e5bedf93804415d4dd58a7f095071b07325f4a466d0c3", checked := Try.checked }
namespace Rows
def none {H : Type} : Left H := { results := [], args := [] }

/-- 'laws.FnExactIsGauge': WHATEVER THE INPUT: true; the input reads as it did. -/
def fnExactIsGaugeSpec : ChangeSpec := { name := "fnExactIsGauge", fn := fun _ => fun
  | [d] => { results := [.lit (.bool true)], args := [d] }
  | _ => none }
def fnExactIsGaugeRow : OpenClaim := { program := "ytebnmigmcjoedaa", sum := "edf8a034d42750c5589e5bedf93804415d4dd58a7f095071b07325f4a466d0c3", func := "loop.example/g01302/laws.FnExactIsGauge", spec := "fnExactIsGauge", inPlace := ["math.Float64bits", "math.Float64frombits"], unfollowed := true, recurses := true, apart := false }
def FnExactIsGaugeSaid : Prop := fnExactIsGaugeRow.holds Try.pinned (OpenSpec.ofChange fnExactIsGaugeSpec)

/-- ITS FALSE NEIGHBOUR: 'it returns false'. Refute it at one input. -/
def fnExactIsGaugeWrong : ChangeSpec := { name := "fnExactIsGauge", fn := fun _ => fun
  | [d] => { results := [.lit (.bool false)], args := [d] }
  | _ => none }
def FnExactIsGaugeWrongFalsely : Prop := fnExactIsGaugeRow.holds Try.pinned (OpenSpec.ofChange fnExactIsGaugeWrong)

/-- 'laws.FnExactValidRecord': WHATEVER THE INPUT: true; the input reads as it did. -/
def fnExactValidRecordSpec : ChangeSpec := { name := "fnExactValidRecord", fn := fun _ => fun
  | [d] => { results := [.lit (.bool true)], args := [d] }
  | _ => none }
def fnExactValidRecordRow : OpenClaim := { program := "ytebnmigmcjoedaa", sum := "edf8a034d42750c5589e5bedf93804415d4dd58a7f095071b07325f4a466d0c3", func := "loop.example/g01302/laws.FnExactValidRecord", spec := "fnExactValidRecord", apart := false }
def FnExactValidRecordSaid : Prop := fnExactValidRecordRow.holds Try.pinned (OpenSpec.ofChange fnExactValidRecordSpec)

/-- ITS FALSE NEIGHBOUR: 'it returns false'. Refute it at one input. -/
def fnExactValidRecordWrong : ChangeSpec := { name := "fnExactValidRecord", fn := fun _ => fun
  | [d] => { results := [.lit (.bool false)], args := [d] }
  | _ => none }
def FnExactValidRecordWrongFalsely : Prop := fnExactValidRecordRow.holds Try.pinned (OpenSpec.ofChange fnExactValidRecordWrong)

/-- 'laws.FnExactPackRecord': WHATEVER THE INPUT: true; the input reads as it did. -/
def fnExactPackRecordSpec : ChangeSpec := { name := "fnExactPackRecord", fn := fun _ => fun
  | [d] => { results := [.lit (.bool true)], args := [d] }
  | _ => none }
def fnExactPackRecordRow : OpenClaim := { program := "ytebnmigmcjoedaa", sum := "edf8a034d42750c5589e5bedf93804415d4dd58a7f095071b07325f4a466d0c3", func := "loop.example/g01302/laws.FnExactPackRecord", spec := "fnExactPackRecord", inPlace := ["math.Float32bits"], apart := false }
def FnExactPackRecordSaid : Prop := fnExactPackRecordRow.holds Try.pinned (OpenSpec.ofChange fnExactPackRecordSpec)

/-- ITS FALSE NEIGHBOUR: 'it returns false'. Refute it at one input. -/
def fnExactPackRecordWrong : ChangeSpec := { name := "fnExactPackRecord", fn := fun _ => fun
  | [d] => { results := [.lit (.bool false)], args := [d] }
  | _ => none }
def FnExactPackRecordWrongFalsely : Prop := fnExactPackRecordRow.holds Try.pinned (OpenSpec.ofChange fnExactPackRecordWrong)

/-- 'laws.FnExactYearsOf': WHATEVER THE INPUT: true; the input reads as it did. -/
def fnExactYearsOfSpec : ChangeSpec := { name := "fnExactYearsOf", fn := fun _ => fun
  | [d1, d2, d3] => { results := [.lit (.bool true)], args := [d1, d2, d3] }
  | _ => none }
def fnExactYearsOfRow : OpenClaim := { program := "ytebnmigmcjoedaa", sum := "edf8a034d42750c5589e5bedf93804415d4dd58a7f095071b07325f4a466d0c3", func := "loop.example/g01302/laws.FnExactYearsOf", spec := "fnExactYearsOf", inPlace := ["math.Float64frombits", "math.Float64bits"], unfollowed := true, recurses := true, apart := false }
def FnExactYearsOfSaid : Prop := fnExactYearsOfRow.holds Try.pinned (OpenSpec.ofChange fnExactYearsOfSpec)

/-- ITS FALSE NEIGHBOUR: 'it returns false'. Refute it at one input. -/
def fnExactYearsOfWrong : ChangeSpec := { name := "fnExactYearsOf", fn := fun _ => fun
  | [d1, d2, d3] => { results := [.lit (.bool false)], args := [d1, d2, d3] }
  | _ => none }
def FnExactYearsOfWrongFalsely : Prop := fnExactYearsOfRow.holds Try.pinned (OpenSpec.ofChange fnExactYearsOfWrong)

/-- 'laws.FnExactBestLag': WHATEVER THE INPUT: true; the input reads as it did. -/
def fnExactBestLagSpec : ChangeSpec := { name := "fnExactBestLag", fn := fun _ => fun
  | [d1, d2, d3] => { results := [.lit (.bool true)], args := [d1, d2, d3] }
  | _ => none }
def fnExactBestLagRow : OpenClaim := { program := "ytebnmigmcjoedaa", sum := "edf8a034d42750c5589e5bedf93804415d4dd58a7f095071b07325f4a466d0c3", func := "loop.example/g01302/laws.FnExactBestLag", spec := "fnExactBestLag", inPlace := ["math.Float64bits", "math.Float64frombits"], unfollowed := true, recurses := true, apart := false }
def FnExactBestLagSaid : Prop := fnExactBestLagRow.holds Try.pinned (OpenSpec.ofChange fnExactBestLagSpec)

/-- ITS FALSE NEIGHBOUR: 'it returns false'. Refute it at one input. -/
def fnExactBestLagWrong : ChangeSpec := { name := "fnExactBestLag", fn := fun _ => fun
  | [d1, d2, d3] => { results := [.lit (.bool false)], args := [d1, d2, d3] }
  | _ => none }
def FnExactBestLagWrongFalsely : Prop := fnExactBestLagRow.holds Try.pinned (OpenSpec.ofChange fnExactBestLagWrong)

/-- 'laws.FnExactDroughtsIn': WHATEVER THE INPUT: true; the input reads as it did. -/
def fnExactDroughtsInSpec : ChangeSpec := { name := "fnExactDroughtsIn", fn := fun _ => fun
  | [d1, d2] => { results := [.lit (.bool true)], args := [d1, d2] }
  | _ => none }
def fnExactDroughtsInRow : OpenClaim := { program := "ytebnmigmcjoedaa", sum := "edf8a034d42750c5589e5bedf93804415d4dd58a7f095071b07325f4a466d0c3", func := "loop.example/g01302/laws.FnExactDroughtsIn", spec := "fnExactDroughtsIn", inPlace := ["math.Float64bits", "math.Float64frombits"], unfollowed := true, recurses := true, apart := false }
def FnExactDroughtsInSaid : Prop := fnExactDroughtsInRow.holds Try.pinned (OpenSpec.ofChange fnExactDroughtsInSpec)

/-- ITS FALSE NEIGHBOUR: 'it returns false'. Refute it at one input. -/
def fnExactDroughtsInWrong : ChangeSpec := { name := "fnExactDroughtsIn", fn := fun _ => fun
  | [d1, d2] => { results := [.lit (.bool false)], args := [d1, d2] }
  | _ => none }
def FnExactDroughtsInWrongFalsely : Prop := fnExactDroughtsInRow.holds Try.pinned (OpenSpec.ofChange fnExactDroughtsInWrong)

/-- 'laws.FnExactFloodOf': WHATEVER THE INPUT: true; the input reads as it did. -/
def fnExactFloodOfSpec : ChangeSpec := { name := "fnExactFloodOf", fn := fun _ => fun
  | [d1, d2, d3] => { results := [.lit (.bool true)], args := [d1, d2, d3] }
  | _ => none }
def fnExactFloodOfRow : OpenClaim := { program := "ytebnmigmcjoedaa", sum := "edf8a034d42750c5589e5bedf93804415d4dd58a7f095071b07325f4a466d0c3", func := "loop.example/g01302/laws.FnExactFloodOf", spec := "fnExactFloodOf", inPlace := ["math.Float64frombits", "math.Float64bits"], unfollowed := true, recurses := true, apart := false }
def FnExactFloodOfSaid : Prop := fnExactFloodOfRow.holds Try.pinned (OpenSpec.ofChange fnExactFloodOfSpec)

/-- ITS FALSE NEIGHBOUR: 'it returns false'. Refute it at one input. -/
def fnExactFloodOfWrong : ChangeSpec := { name := "fnExactFloodOf", fn := fun _ => fun
  | [d1, d2, d3] => { results := [.lit (.bool false)], args := [d1, d2, d3] }
  | _ => none }
def FnExactFloodOfWrongFalsely : Prop := fnExactFloodOfRow.holds Try.pinned (OpenSpec.ofChange fnExactFloodOfWrong)

/-- 'laws.FnSeparated': WHATEVER THE INPUT: true; the input reads as it did. -/
def fnSeparatedSpec : ChangeSpec := { name := "fnSeparated", fn := fun _ => fun
  | [d1, d2] => { results := [.lit (.bool true)], args := [d1, d2] }
  | _ => none }
def fnSeparatedRow : OpenClaim := { program := "ytebnmigmcjoedaa", sum := "edf8a034d42750c5589e5bedf93804415d4dd58a7f095071b07325f4a466d0c3", func := "loop.example/g01302/laws.FnSeparated", spec := "fnSeparated", inPlace := ["math.Float64bits", "math.Float64frombits"], unfollowed := true, recurses := true, apart := false }
def FnSeparatedSaid : Prop := fnSeparatedRow.holds Try.pinned (OpenSpec.ofChange fnSeparatedSpec)

/-- ITS FALSE NEIGHBOUR: 'it returns false'. Refute it at one input. -/
def fnSeparatedWrong : ChangeSpec := { name := "fnSeparated", fn := fun _ => fun
  | [d1, d2] => { results := [.lit (.bool false)], args := [d1, d2] }
  | _ => none }
def FnSeparatedWrongFalsely : Prop := fnSeparatedRow.holds Try.pinned (OpenSpec.ofChange fnSeparatedWrong)

/-- 'laws.FnExactScoreOf': WHATEVER THE INPUT: true; the input reads as it did. -/
def fnExactScoreOfSpec : ChangeSpec := { name := "fnExactScoreOf", fn := fun _ => fun
  | [d1, d2] => { results := [.lit (.bool true)], args := [d1, d2] }
  | _ => none }
def fnExactScoreOfRow : OpenClaim := { program := "ytebnmigmcjoedaa", sum := "edf8a034d42750c5589e5bedf93804415d4dd58a7f095071b07325f4a466d0c3", func := "loop.example/g01302/laws.FnExactScoreOf", spec := "fnExactScoreOf", inPlace := ["math.Float64bits", "math.Float64frombits"], unfollowed := true, recurses := true, apart := false }
def FnExactScoreOfSaid : Prop := fnExactScoreOfRow.holds Try.pinned (OpenSpec.ofChange fnExactScoreOfSpec)

/-- ITS FALSE NEIGHBOUR: 'it returns false'. Refute it at one input. -/
def fnExactScoreOfWrong : ChangeSpec := { name := "fnExactScoreOf", fn := fun _ => fun
  | [d1, d2] => { results := [.lit (.bool false)], args := [d1, d2] }
  | _ => none }
def FnExactScoreOfWrongFalsely : Prop := fnExactScoreOfRow.holds Try.pinned (OpenSpec.ofChange fnExactScoreOfWrong)

/-- 'laws.FnExactCutRecord': WHATEVER THE INPUT: true; the input reads as it did. -/
def fnExactCutRecordSpec : ChangeSpec := { name := "fnExactCutRecord", fn := fun _ => fun
  | [d1, d2, d3] => { results := [.lit (.bool true)], args := [d1, d2, d3] }
  | _ => none }
def fnExactCutRecordRow : OpenClaim := { program := "ytebnmigmcjoedaa", sum := "edf8a034d42750c5589e5bedf93804415d4dd58a7f095071b07325f4a466d0c3", func := "loop.example/g01302/laws.FnExactCutRecord", spec := "fnExactCutRecord", apart := false }
def FnExactCutRecordSaid : Prop := fnExactCutRecordRow.holds Try.pinned (OpenSpec.ofChange fnExactCutRecordSpec)

/-- ITS FALSE NEIGHBOUR: 'it returns false'. Refute it at one input. -/
def fnExactCutRecordWrong : ChangeSpec := { name := "fnExactCutRecord", fn := fun _ => fun
  | [d1, d2, d3] => { results := [.lit (.bool false)], args := [d1, d2, d3] }
  | _ => none }
def FnExactCutRecordWrongFalsely : Prop := fnExactCutRecordRow.holds Try.pinned (OpenSpec.ofChange fnExactCutRecordWrong)

/-- 'laws.FnExactUnpackRecord': WHATEVER THE INPUT: true; the input reads as it did. -/
def fnExactUnpackRecordSpec : ChangeSpec := { name := "fnExactUnpackRecord", fn := fun _ => fun
  | [d] => { results := [.lit (.bool true)], args := [d] }
  | _ => none }
def fnExactUnpackRecordRow : OpenClaim := { program := "ytebnmigmcjoedaa", sum := "edf8a034d42750c5589e5bedf93804415d4dd58a7f095071b07325f4a466d0c3", func := "loop.example/g01302/laws.FnExactUnpackRecord", spec := "fnExactUnpackRecord", inPlace := ["math.Float32frombits", "math.Float32bits"], apart := false }
def FnExactUnpackRecordSaid : Prop := fnExactUnpackRecordRow.holds Try.pinned (OpenSpec.ofChange fnExactUnpackRecordSpec)

/-- ITS FALSE NEIGHBOUR: 'it returns false'. Refute it at one input. -/
def fnExactUnpackRecordWrong : ChangeSpec := { name := "fnExactUnpackRecord", fn := fun _ => fun
  | [d] => { results := [.lit (.bool false)], args := [d] }
  | _ => none }
def FnExactUnpackRecordWrongFalsely : Prop := fnExactUnpackRecordRow.holds Try.pinned (OpenSpec.ofChange fnExactUnpackRecordWrong)

/-- 'laws.FnExactBaseFlow': WHATEVER THE INPUT: true; the input reads as it did. -/
def fnExactBaseFlowSpec : ChangeSpec := { name := "fnExactBaseFlow", fn := fun _ => fun
  | [d1, d2] => { results := [.lit (.bool true)], args := [d1, d2] }
  | _ => none }
def fnExactBaseFlowRow : OpenClaim := { program := "ytebnmigmcjoedaa", sum := "edf8a034d42750c5589e5bedf93804415d4dd58a7f095071b07325f4a466d0c3", func := "loop.example/g01302/laws.FnExactBaseFlow", spec := "fnExactBaseFlow", inPlace := ["math.Float64bits", "math.Float64frombits"], unfollowed := true, recurses := true, apart := false }
def FnExactBaseFlowSaid : Prop := fnExactBaseFlowRow.holds Try.pinned (OpenSpec.ofChange fnExactBaseFlowSpec)

/-- ITS FALSE NEIGHBOUR: 'it returns false'. Refute it at one input. -/
def fnExactBaseFlowWrong : ChangeSpec := { name := "fnExactBaseFlow", fn := fun _ => fun
  | [d1, d2] => { results := [.lit (.bool false)], args := [d1, d2] }
  | _ => none }
def FnExactBaseFlowWrongFalsely : Prop := fnExactBaseFlowRow.holds Try.pinned (OpenSpec.ofChange fnExactBaseFlowWrong)

/-- 'laws.FnExactSameRecords': WHATEVER THE INPUT: true; the input reads as it did. -/
def fnExactSameRecordsSpec : ChangeSpec := { name := "fnExactSameRecords", fn := fun _ => fun
  | [d1, d2] => { results := [.lit (.bool true)], args := [d1, d2] }
  | _ => none }
def fnExactSameRecordsRow : OpenClaim := { program := "ytebnmigmcjoedaa", sum := "edf8a034d42750c5589e5bedf93804415d4dd58a7f095071b07325f4a466d0c3", func := "loop.example/g01302/laws.FnExactSameRecords", spec := "fnExactSameRecords", inPlace := ["math.Float32bits", "math.Float64bits"], unfollowed := true, recurses := true, apart := false }
def FnExactSameRecordsSaid : Prop := fnExactSameRecordsRow.holds Try.pinned (OpenSpec.ofChange fnExactSameRecordsSpec)

/-- ITS FALSE NEIGHBOUR: 'it returns false'. Refute it at one input. -/
def fnExactSameRecordsWrong : ChangeSpec := { name := "fnExactSameRecords", fn := fun _ => fun
  | [d1, d2] => { results := [.lit (.bool false)], args := [d1, d2] }
  | _ => none }
def FnExactSameRecordsWrongFalsely : Prop := fnExactSameRecordsRow.holds Try.pinned (OpenSpec.ofChange fnExactSameRecordsWrong)

/-- 'laws.FnExactJoinRecords': WHATEVER THE INPUT: true; the input reads as it did. -/
def fnExactJoinRecordsSpec : ChangeSpec := { name := "fnExactJoinRecords", fn := fun _ => fun
  | [d1, d2] => { results := [.lit (.bool true)], args := [d1, d2] }
  | _ => none }
def fnExactJoinRecordsRow : OpenClaim := { program := "ytebnmigmcjoedaa", sum := "edf8a034d42750c5589e5bedf93804415d4dd58a7f095071b07325f4a466d0c3", func := "loop.example/g01302/laws.FnExactJoinRecords", spec := "fnExactJoinRecords", apart := false }
def FnExactJoinRecordsSaid : Prop := fnExactJoinRecordsRow.holds Try.pinned (OpenSpec.ofChange fnExactJoinRecordsSpec)

/-- ITS FALSE NEIGHBOUR: 'it returns false'. Refute it at one input. -/
def fnExactJoinRecordsWrong : ChangeSpec := { name := "fnExactJoinRecords", fn := fun _ => fun
  | [d1, d2] => { results := [.lit (.bool false)], args := [d1, d2] }
  | _ => none }
def FnExactJoinRecordsWrongFalsely : Prop := fnExactJoinRecordsRow.holds Try.pinned (OpenSpec.ofChange fnExactJoinRecordsWrong)

/- THE SECOND FORM. 'bulk': how many values and letters a reading holds, each counted each time it is reached (what is shared counts as often as it is met; a slice's spare places count too). A statement '..UptoSaid' is the law's where the arguments, and the package variables that the reading takes, are together of bulk at most 1048576: NARROWER than '..Said'. Prove '..Said' where nothing that the law and all that it calls make is longer than what came in: it says more and counts as full. Else prove '..UptoSaid'. A law counts once. -/
mutual
def uptoBulk {H : Type} : DataW H → Nat
  | .lit (.string bytes) => bytes.length + 1
  | .lit _ => 1
  | .nil => 1
  | .ptr d => uptoBulk d + 1
  | .slice elems spare => uptoBulkAll elems + uptoBulkAll spare + 1
  | .agg parts => uptoBulkAll parts + 1
  | .iface _ d => uptoBulk d + 1
  | .map entries => uptoBulkEntries entries + 1
  | .held _ => 1
def uptoBulkAll {H : Type} : List (DataW H) → Nat
  | [] => 0
  | d :: r => uptoBulk d + uptoBulkAll r
def uptoBulkEntries {H : Type} : List (Lit × DataW H) → Nat
  | [] => 0
  | x :: r => uptoBulkEntry x + uptoBulkEntries r
def uptoBulkEntry {H : Type} : Lit × DataW H → Nat
  | (.string bytes, d) => bytes.length + uptoBulk d + 1
  | (_, d) => uptoBulk d + 1
 end
def uptoSmall : (H : Type) → List (DataW H) → Bool := fun _ ds => decide (uptoBulkAll ds ≤ 1048576)
def OpenSpec.upto (s : _root_.Go.ChangeSpec) : _root_.Go.OpenSpec := { _root_.Go.OpenSpec.ofChange s with cond := some uptoSmall }

/-- 'laws.FnExactIsGauge', WHERE WHAT IT READS IS OF BULK AT MOST 1048576: true; the input reads as it did. -/
def fnExactIsGaugeUptoRow : OpenClaim := { program := "ytebnmigmcjoedaa", sum := "edf8a034d42750c5589e5bedf93804415d4dd58a7f095071b07325f4a466d0c3", func := "loop.example/g01302/laws.FnExactIsGauge", spec := "fnExactIsGauge", inPlace := ["math.Float64bits", "math.Float64frombits"], unfollowed := true, recurses := true, apart := false, narrowed := true }
def FnExactIsGaugeUptoSaid : Prop := fnExactIsGaugeUptoRow.holds Try.pinned (OpenSpec.upto fnExactIsGaugeSpec)

/-- 'laws.FnExactValidRecord', WHERE WHAT IT READS IS OF BULK AT MOST 1048576: true; the input reads as it did. -/
def fnExactValidRecordUptoRow : OpenClaim := { program := "ytebnmigmcjoedaa", sum := "edf8a034d42750c5589e5bedf93804415d4dd58a7f095071b07325f4a466d0c3", func := "loop.example/g01302/laws.FnExactValidRecord", spec := "fnExactValidRecord", apart := false, narrowed := true }
def FnExactValidRecordUptoSaid : Prop := fnExactValidRecordUptoRow.holds Try.pinned (OpenSpec.upto fnExactValidRecordSpec)

/-- 'laws.FnExactPackRecord', WHERE WHAT IT READS IS OF BULK AT MOST 1048576: true; the input reads as it did. -/
def fnExactPackRecordUptoRow : OpenClaim := { program := "ytebnmigmcjoedaa", sum := "edf8a034d42750c5589e5bedf93804415d4dd58a7f095071b07325f4a466d0c3", func := "loop.example/g01302/laws.FnExactPackRecord", spec := "fnExactPackRecord", inPlace := ["math.Float32bits"], apart := false, narrowed := true }
def FnExactPackRecordUptoSaid : Prop := fnExactPackRecordUptoRow.holds Try.pinned (OpenSpec.upto fnExactPackRecordSpec)

/-- 'laws.FnExactYearsOf', WHERE WHAT IT READS IS OF BULK AT MOST 1048576: true; the input reads as it did. -/
def fnExactYearsOfUptoRow : OpenClaim := { program := "ytebnmigmcjoedaa", sum := "edf8a034d42750c5589e5bedf93804415d4dd58a7f095071b07325f4a466d0c3", func := "loop.example/g01302/laws.FnExactYearsOf", spec := "fnExactYearsOf", inPlace := ["math.Float64frombits", "math.Float64bits"], unfollowed := true, recurses := true, apart := false, narrowed := true }
def FnExactYearsOfUptoSaid : Prop := fnExactYearsOfUptoRow.holds Try.pinned (OpenSpec.upto fnExactYearsOfSpec)

/-- 'laws.FnExactBestLag', WHERE WHAT IT READS IS OF BULK AT MOST 1048576: true; the input reads as it did. -/
def fnExactBestLagUptoRow : OpenClaim := { program := "ytebnmigmcjoedaa", sum := "edf8a034d42750c5589e5bedf93804415d4dd58a7f095071b07325f4a466d0c3", func := "loop.example/g01302/laws.FnExactBestLag", spec := "fnExactBestLag", inPlace := ["math.Float64bits", "math.Float64frombits"], unfollowed := true, recurses := true, apart := false, narrowed := true }
def FnExactBestLagUptoSaid : Prop := fnExactBestLagUptoRow.holds Try.pinned (OpenSpec.upto fnExactBestLagSpec)

/-- 'laws.FnExactDroughtsIn', WHERE WHAT IT READS IS OF BULK AT MOST 1048576: true; the input reads as it did. -/
def fnExactDroughtsInUptoRow : OpenClaim := { program := "ytebnmigmcjoedaa", sum := "edf8a034d42750c5589e5bedf93804415d4dd58a7f095071b07325f4a466d0c3", func := "loop.example/g01302/laws.FnExactDroughtsIn", spec := "fnExactDroughtsIn", inPlace := ["math.Float64bits", "math.Float64frombits"], unfollowed := true, recurses := true, apart := false, narrowed := true }
def FnExactDroughtsInUptoSaid : Prop := fnExactDroughtsInUptoRow.holds Try.pinned (OpenSpec.upto fnExactDroughtsInSpec)

/-- 'laws.FnExactFloodOf', WHERE WHAT IT READS IS OF BULK AT MOST 1048576: true; the input reads as it did. -/
def fnExactFloodOfUptoRow : OpenClaim := { program := "ytebnmigmcjoedaa", sum := "edf8a034d42750c5589e5bedf93804415d4dd58a7f095071b07325f4a466d0c3", func := "loop.example/g01302/laws.FnExactFloodOf", spec := "fnExactFloodOf", inPlace := ["math.Float64frombits", "math.Float64bits"], unfollowed := true, recurses := true, apart := false, narrowed := true }
def FnExactFloodOfUptoSaid : Prop := fnExactFloodOfUptoRow.holds Try.pinned (OpenSpec.upto fnExactFloodOfSpec)

/-- 'laws.FnSeparated', WHERE WHAT IT READS IS OF BULK AT MOST 1048576: true; the input reads as it did. -/
def fnSeparatedUptoRow : OpenClaim := { program := "ytebnmigmcjoedaa", sum := "edf8a034d42750c5589e5bedf93804415d4dd58a7f095071b07325f4a466d0c3", func := "loop.example/g01302/laws.FnSeparated", spec := "fnSeparated", inPlace := ["math.Float64bits", "math.Float64frombits"], unfollowed := true, recurses := true, apart := false, narrowed := true }
def FnSeparatedUptoSaid : Prop := fnSeparatedUptoRow.holds Try.pinned (OpenSpec.upto fnSeparatedSpec)

/-- 'laws.FnExactScoreOf', WHERE WHAT IT READS IS OF BULK AT MOST 1048576: true; the input reads as it did. -/
def fnExactScoreOfUptoRow : OpenClaim := { program := "ytebnmigmcjoedaa", sum := "edf8a034d42750c5589e5bedf93804415d4dd58a7f095071b07325f4a466d0c3", func := "loop.example/g01302/laws.FnExactScoreOf", spec := "fnExactScoreOf", inPlace := ["math.Float64bits", "math.Float64frombits"], unfollowed := true, recurses := true, apart := false, narrowed := true }
def FnExactScoreOfUptoSaid : Prop := fnExactScoreOfUptoRow.holds Try.pinned (OpenSpec.upto fnExactScoreOfSpec)

/-- 'laws.FnExactCutRecord', WHERE WHAT IT READS IS OF BULK AT MOST 1048576: true; the input reads as it did. -/
def fnExactCutRecordUptoRow : OpenClaim := { program := "ytebnmigmcjoedaa", sum := "edf8a034d42750c5589e5bedf93804415d4dd58a7f095071b07325f4a466d0c3", func := "loop.example/g01302/laws.FnExactCutRecord", spec := "fnExactCutRecord", apart := false, narrowed := true }
def FnExactCutRecordUptoSaid : Prop := fnExactCutRecordUptoRow.holds Try.pinned (OpenSpec.upto fnExactCutRecordSpec)

/-- 'laws.FnExactUnpackRecord', WHERE WHAT IT READS IS OF BULK AT MOST 1048576: true; the input reads as it did. -/
def fnExactUnpackRecordUptoRow : OpenClaim := { program := "ytebnmigmcjoedaa", sum := "edf8a034d42750c5589e5bedf93804415d4dd58a7f095071b07325f4a466d0c3", func := "loop.example/g01302/laws.FnExactUnpackRecord", spec := "fnExactUnpackRecord", inPlace := ["math.Float32frombits", "math.Float32bits"], apart := false, narrowed := true }
def FnExactUnpackRecordUptoSaid : Prop := fnExactUnpackRecordUptoRow.holds Try.pinned (OpenSpec.upto fnExactUnpackRecordSpec)

/-- 'laws.FnExactBaseFlow', WHERE WHAT IT READS IS OF BULK AT MOST 1048576: true; the input reads as it did. -/
def fnExactBaseFlowUptoRow : OpenClaim := { program := "ytebnmigmcjoedaa", sum := "edf8a034d42750c5589e5bedf93804415d4dd58a7f095071b07325f4a466d0c3", func := "loop.example/g01302/laws.FnExactBaseFlow", spec := "fnExactBaseFlow", inPlace := ["math.Float64bits", "math.Float64frombits"], unfollowed := true, recurses := true, apart := false, narrowed := true }
def FnExactBaseFlowUptoSaid : Prop := fnExactBaseFlowUptoRow.holds Try.pinned (OpenSpec.upto fnExactBaseFlowSpec)

/-- 'laws.FnExactSameRecords', WHERE WHAT IT READS IS OF BULK AT MOST 1048576: true; the input reads as it did. -/
def fnExactSameRecordsUptoRow : OpenClaim := { program := "ytebnmigmcjoedaa", sum := "edf8a034d42750c5589e5bedf93804415d4dd58a7f095071b07325f4a466d0c3", func := "loop.example/g01302/laws.FnExactSameRecords", spec := "fnExactSameRecords", inPlace := ["math.Float32bits", "math.Float64bits"], unfollowed := true, recurses := true, apart := false, narrowed := true }
def FnExactSameRecordsUptoSaid : Prop := fnExactSameRecordsUptoRow.holds Try.pinned (OpenSpec.upto fnExactSameRecordsSpec)

/-- 'laws.FnExactJoinRecords', WHERE WHAT IT READS IS OF BULK AT MOST 1048576: true; the input reads as it did. -/
def fnExactJoinRecordsUptoRow : OpenClaim := { program := "ytebnmigmcjoedaa", sum := "edf8a034d42750c5589e5bedf93804415d4dd58a7f095071b07325f4a466d0c3", func := "loop.example/g01302/laws.FnExactJoinRecords", spec := "fnExactJoinRecords", apart := false, narrowed := true }
def FnExactJoinRecordsUptoSaid : Prop := fnExactJoinRecordsUptoRow.holds Try.pinned (OpenSpec.upto fnExactJoinRecordsSpec)

end Rows
end Go.Proofs.Ytebnmigmcjoedaa
