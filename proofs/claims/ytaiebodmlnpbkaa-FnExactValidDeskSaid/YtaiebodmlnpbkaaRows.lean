/-
  No cell of these rows narrows 'for every input' (looked for: loops, veiled, ifaces, maps, wideKeys, modest, calm, conditions, laid).
  DERIVED. THE GIVEN ROWS OF THIS SEAT. 7 by the template 'for every input the law returns true; each argument reads behind the call as it read before'; 0 by the template 'total and deterministic' (their statements: YtaiebodmlnpbkaaTotals.lean).
  GIVEN WITH THE SEED: the statements are not yours to turn. If you find one false, say at which input.
  Laid BY PROGRAM, IN A SANDBOX (cutbox-rows.mjs): the forced cells as the released guide's own fill.sh prints them over the translation 073c315f4ffc2ebd… (all of the seat's roots in one cut). By AI agents, Wed Nov 11 2026. No macro, syntax, notation, axiom, sorry.
-/
import Derived.Test.YtaiebodmlnpbkaaChecked
import GoSem.Claim
import GoSem.ClaimJoined
import GoSem.ClaimMapViews
import Derived.JoinedTies
import Derived.KernelRfl
namespace Go.Proofs.Ytaiebodmlnpbkaa
/- THE CELL 'sum', in the pinned program and in every row, IS THE sha256 OF THE DUMP (.gsa) THAT YtaiebodmlnpbkaaProg.lean LOADS. Nothing in Lean hashes anything: it is a label: what it is worth is what the hold of that sum in a sandbox is worth. -/
noncomputable def Try.pinned : Pinned := { name := "ytaiebodmlnpbkaa", sum := "073c315f4ffc2ebd7e7c9147df7f1179eab8de2ba8539cb9dadb0a42d62f7dae", checked := Try.checked }
namespace Rows
def none {H : Type} : Left H := { results := [], args := [] }

/-- 'laws.FnExactFillGaps': WHATEVER THE INPUT: true; the input reads as it did. -/
def fnExactFillGapsSpec : ChangeSpec := { name := "fnExactFillGaps", fn := fun _ => fun
  | [d1, d2] => { results := [.lit (.bool true)], args := [d1, d2] }
  | _ => none }
def fnExactFillGapsRow : OpenClaim := { program := "ytaiebodmlnpbkaa", sum := "073c315f4ffc2ebd7e7c9147df7f1179eab8de2ba8539cb9dadb0a42d62f7dae", func := "loop.example/g01302/laws.FnExactFillGaps", spec := "fnExactFillGaps", inPlace := ["math.Float64bits", "math.Float64frombits"], unfollowed := true, recurses := true, apart := false }
def FnExactFillGapsSaid : Prop := fnExactFillGapsRow.holds Try.pinned (OpenSpec.ofChange fnExactFillGapsSpec)

/-- ITS FALSE NEIGHBOUR: 'it returns false'. Refute it at one input. -/
def fnExactFillGapsWrong : ChangeSpec := { name := "fnExactFillGaps", fn := fun _ => fun
  | [d1, d2] => { results := [.lit (.bool false)], args := [d1, d2] }
  | _ => none }
def FnExactFillGapsWrongFalsely : Prop := fnExactFillGapsRow.holds Try.pinned (OpenSpec.ofChange fnExactFillGapsWrong)

/-- 'laws.FnExactFitFloods': WHATEVER THE INPUT: true; the input reads as it did. -/
def fnExactFitFloodsSpec : ChangeSpec := { name := "fnExactFitFloods", fn := fun _ => fun
  | [d] => { results := [.lit (.bool true)], args := [d] }
  | _ => none }
def fnExactFitFloodsRow : OpenClaim := { program := "ytaiebodmlnpbkaa", sum := "073c315f4ffc2ebd7e7c9147df7f1179eab8de2ba8539cb9dadb0a42d62f7dae", func := "loop.example/g01302/laws.FnExactFitFloods", spec := "fnExactFitFloods", inPlace := ["math.sqrt", "math.Float64bits", "math.Float64frombits"], unfollowed := true, recurses := true, apart := false }
def FnExactFitFloodsSaid : Prop := fnExactFitFloodsRow.holds Try.pinned (OpenSpec.ofChange fnExactFitFloodsSpec)

/-- ITS FALSE NEIGHBOUR: 'it returns false'. Refute it at one input. -/
def fnExactFitFloodsWrong : ChangeSpec := { name := "fnExactFitFloods", fn := fun _ => fun
  | [d] => { results := [.lit (.bool false)], args := [d] }
  | _ => none }
def FnExactFitFloodsWrongFalsely : Prop := fnExactFitFloodsRow.holds Try.pinned (OpenSpec.ofChange fnExactFitFloodsWrong)

/-- 'laws.FnExactRecedeRate': WHATEVER THE INPUT: true; the input reads as it did. -/
def fnExactRecedeRateSpec : ChangeSpec := { name := "fnExactRecedeRate", fn := fun _ => fun
  | [d] => { results := [.lit (.bool true)], args := [d] }
  | _ => none }
def fnExactRecedeRateRow : OpenClaim := { program := "ytaiebodmlnpbkaa", sum := "073c315f4ffc2ebd7e7c9147df7f1179eab8de2ba8539cb9dadb0a42d62f7dae", func := "loop.example/g01302/laws.FnExactRecedeRate", spec := "fnExactRecedeRate", inPlace := ["math.Float64frombits", "math.Float64bits"], unfollowed := true, recurses := true, apart := false }
def FnExactRecedeRateSaid : Prop := fnExactRecedeRateRow.holds Try.pinned (OpenSpec.ofChange fnExactRecedeRateSpec)

/-- ITS FALSE NEIGHBOUR: 'it returns false'. Refute it at one input. -/
def fnExactRecedeRateWrong : ChangeSpec := { name := "fnExactRecedeRate", fn := fun _ => fun
  | [d] => { results := [.lit (.bool false)], args := [d] }
  | _ => none }
def FnExactRecedeRateWrongFalsely : Prop := fnExactRecedeRateRow.holds Try.pinned (OpenSpec.ofChange fnExactRecedeRateWrong)

/-- 'laws.FnExactFloodOf': WHATEVER THE INPUT: true; the input reads as it did. -/
def fnExactFloodOfSpec : ChangeSpec := { name := "fnExactFloodOf", fn := fun _ => fun
  | [d1, d2, d3] => { results := [.lit (.bool true)], args := [d1, d2, d3] }
  | _ => none }
def fnExactFloodOfRow : OpenClaim := { program := "ytaiebodmlnpbkaa", sum := "073c315f4ffc2ebd7e7c9147df7f1179eab8de2ba8539cb9dadb0a42d62f7dae", func := "loop.example/g01302/laws.FnExactFloodOf", spec := "fnExactFloodOf", inPlace := ["math.Float64frombits", "math.Float64bits"], unfollowed := true, recurses := true, apart := false }
def FnExactFloodOfSaid : Prop := fnExactFloodOfRow.holds Try.pinned (OpenSpec.ofChange fnExactFloodOfSpec)

/-- ITS FALSE NEIGHBOUR: 'it returns false'. Refute it at one input. -/
def fnExactFloodOfWrong : ChangeSpec := { name := "fnExactFloodOf", fn := fun _ => fun
  | [d1, d2, d3] => { results := [.lit (.bool false)], args := [d1, d2, d3] }
  | _ => none }
def FnExactFloodOfWrongFalsely : Prop := fnExactFloodOfRow.holds Try.pinned (OpenSpec.ofChange fnExactFloodOfWrong)

/-- 'laws.FnExactNewDesk': WHATEVER THE INPUT: true; the input reads as it did. -/
def fnExactNewDeskSpec : ChangeSpec := { name := "fnExactNewDesk", fn := fun _ => fun
  | [] => { results := [.lit (.bool true)], args := [] }
  | _ => none }
def fnExactNewDeskRow : OpenClaim := { program := "ytaiebodmlnpbkaa", sum := "073c315f4ffc2ebd7e7c9147df7f1179eab8de2ba8539cb9dadb0a42d62f7dae", func := "loop.example/g01302/laws.FnExactNewDesk", spec := "fnExactNewDesk", inPlace := ["math.Float64bits", "math.Float64frombits"], unfollowed := true, recurses := true, apart := false }
def FnExactNewDeskSaid : Prop := fnExactNewDeskRow.holds Try.pinned (OpenSpec.ofChange fnExactNewDeskSpec)

/-- ITS FALSE NEIGHBOUR: 'it returns false'. Refute it at one input. -/
def fnExactNewDeskWrong : ChangeSpec := { name := "fnExactNewDesk", fn := fun _ => fun
  | [] => { results := [.lit (.bool false)], args := [] }
  | _ => none }
def FnExactNewDeskWrongFalsely : Prop := fnExactNewDeskRow.holds Try.pinned (OpenSpec.ofChange fnExactNewDeskWrong)

/-- 'laws.FnExactSameDesk': WHATEVER THE INPUT: true; the input reads as it did. -/
def fnExactSameDeskSpec : ChangeSpec := { name := "fnExactSameDesk", fn := fun _ => fun
  | [d1, d2] => { results := [.lit (.bool true)], args := [d1, d2] }
  | _ => none }
def fnExactSameDeskRow : OpenClaim := { program := "ytaiebodmlnpbkaa", sum := "073c315f4ffc2ebd7e7c9147df7f1179eab8de2ba8539cb9dadb0a42d62f7dae", func := "loop.example/g01302/laws.FnExactSameDesk", spec := "fnExactSameDesk", inPlace := ["math.Float32bits", "math.Float64bits"], unfollowed := true, recurses := true, apart := false }
def FnExactSameDeskSaid : Prop := fnExactSameDeskRow.holds Try.pinned (OpenSpec.ofChange fnExactSameDeskSpec)

/-- ITS FALSE NEIGHBOUR: 'it returns false'. Refute it at one input. -/
def fnExactSameDeskWrong : ChangeSpec := { name := "fnExactSameDesk", fn := fun _ => fun
  | [d1, d2] => { results := [.lit (.bool false)], args := [d1, d2] }
  | _ => none }
def FnExactSameDeskWrongFalsely : Prop := fnExactSameDeskRow.holds Try.pinned (OpenSpec.ofChange fnExactSameDeskWrong)

/-- 'laws.FnExactValidDesk': WHATEVER THE INPUT: true; the input reads as it did. -/
def fnExactValidDeskSpec : ChangeSpec := { name := "fnExactValidDesk", fn := fun _ => fun
  | [d] => { results := [.lit (.bool true)], args := [d] }
  | _ => none }
def fnExactValidDeskRow : OpenClaim := { program := "ytaiebodmlnpbkaa", sum := "073c315f4ffc2ebd7e7c9147df7f1179eab8de2ba8539cb9dadb0a42d62f7dae", func := "loop.example/g01302/laws.FnExactValidDesk", spec := "fnExactValidDesk", inPlace := ["math.Float64bits", "math.Float64frombits"], unfollowed := true, recurses := true, apart := false }
def FnExactValidDeskSaid : Prop := fnExactValidDeskRow.holds Try.pinned (OpenSpec.ofChange fnExactValidDeskSpec)

/-- ITS FALSE NEIGHBOUR: 'it returns false'. Refute it at one input. -/
def fnExactValidDeskWrong : ChangeSpec := { name := "fnExactValidDesk", fn := fun _ => fun
  | [d] => { results := [.lit (.bool false)], args := [d] }
  | _ => none }
def FnExactValidDeskWrongFalsely : Prop := fnExactValidDeskRow.holds Try.pinned (OpenSpec.ofChange fnExactValidDeskWrong)

/- THE SECOND FORM. 'bulk': how many values and letters a reading holds, each counted each time it is reached (what is shared counts as often as it is met; a slice's spare places count too). A statement '..UptoSaid' is the law's where the arguments, and the package variables that the reading takes, are together of bulk at most 1048576: NARROWER than '..Said'. Prove '..Said' where nothing that the law and all that it calls make is longer than what came in: it says more and counts as full. Else prove '..UptoSaid'. A law counts once. -/
mutual
def uptoBulk {H : Type} : DataW H → Nat
  | .lit (.string bytes) => bytes.length + 1
  | .lit _ => 1
  | .nil => 1
  | .ptr d => uptoBulk d + 1
  | .slice elems spare => uptoBulkAll elems + uptoBulkAll spare + 1
  | .agg parts => uptoBulkAll parts + 1
  | .iface _ d => uptoBulk d + 1
  | .map entries => uptoBulkEntries entries + 1
  | .held _ => 1
def uptoBulkAll {H : Type} : List (DataW H) → Nat
  | [] => 0
  | d :: r => uptoBulk d + uptoBulkAll r
def uptoBulkEntries {H : Type} : List (Lit × DataW H) → Nat
  | [] => 0
  | x :: r => uptoBulkEntry x + uptoBulkEntries r
def uptoBulkEntry {H : Type} : Lit × DataW H → Nat
  | (.string bytes, d) => bytes.length + uptoBulk d + 1
  | (_, d) => uptoBulk d + 1
 end
def uptoSmall : (H : Type) → List (DataW H) → Bool := fun _ ds => decide (uptoBulkAll ds ≤ 1048576)
def OpenSpec.upto (s : _root_.Go.ChangeSpec) : _root_.Go.OpenSpec := { _root_.Go.OpenSpec.ofChange s with cond := some uptoSmall }

/-- 'laws.FnExactFillGaps', WHERE WHAT IT READS IS OF BULK AT MOST 1048576: true; the input reads as it did. -/
def fnExactFillGapsUptoRow : OpenClaim := { program := "ytaiebodmlnpbkaa", sum := "073c315f4ffc2ebd7e7c9147df7f1179eab8de2ba8539cb9dadb0a42d62f7dae", func := "loop.example/g01302/laws.FnExactFillGaps", spec := "fnExactFillGaps", inPlace := ["math.Float64bits", "math.Float64frombits"], unfollowed := true, recurses := true, apart := false, narrowed := true }
def FnExactFillGapsUptoSaid : Prop := fnExactFillGapsUptoRow.holds Try.pinned (OpenSpec.upto fnExactFillGapsSpec)

/-- 'laws.FnExactFitFloods', WHERE WHAT IT READS IS OF BULK AT MOST 1048576: true; the input reads as it did. -/
def fnExactFitFloodsUptoRow : OpenClaim := { program := "ytaiebodmlnpbkaa", sum := "073c315f4ffc2ebd7e7c9147df7f1179eab8de2ba8539cb9dadb0a42d62f7dae", func := "loop.example/g01302/laws.FnExactFitFloods", spec := "fnExactFitFloods", inPlace := ["math.sqrt", "math.Float64bits", "math.Float64frombits"], unfollowed := true, recurses := true, apart := false, narrowed := true }
def FnExactFitFloodsUptoSaid : Prop := fnExactFitFloodsUptoRow.holds Try.pinned (OpenSpec.upto fnExactFitFloodsSpec)

/-- 'laws.FnExactRecedeRate', WHERE WHAT IT READS IS OF BULK AT MOST 1048576: true; the input reads as it did. -/
def fnExactRecedeRateUptoRow : OpenClaim := { program := "ytaiebodmlnpbkaa", sum := "073c315f4ffc2ebd7e7c9147df7f1179eab8de2ba8539cb9dadb0a42d62f7dae", func := "loop.example/g01302/laws.FnExactRecedeRate", spec := "fnExactRecedeRate", inPlace := ["math.Float64frombits", "math.Float64bits"], unfollowed := true, recurses := true, apart := false, narrowed := true }
def FnExactRecedeRateUptoSaid : Prop := fnExactRecedeRateUptoRow.holds Try.pinned (OpenSpec.upto fnExactRecedeRateSpec)

/-- 'laws.FnExactFloodOf', WHERE WHAT IT READS IS OF BULK AT MOST 1048576: true; the input reads as it did. -/
def fnExactFloodOfUptoRow : OpenClaim := { program := "ytaiebodmlnpbkaa", sum := "073c315f4ffc2ebd7e7c9147df7f1179eab8de2ba8539cb9dadb0a42d62f7dae", func := "loop.example/g01302/laws.FnExactFloodOf", spec := "fnExactFloodOf", inPlace := ["math.Float64frombits", "math.Float64bits"], unfollowed := true, recurses := true, apart := false, narrowed := true }
def FnExactFloodOfUptoSaid : Prop := fnExactFloodOfUptoRow.holds Try.pinned (OpenSpec.upto fnExactFloodOfSpec)

/-- 'laws.FnExactNewDesk', WHERE WHAT IT READS IS OF BULK AT MOST 1048576: true; the input reads as it did. -/
def fnExactNewDeskUptoRow : OpenClaim := { program := "ytaiebodmlnpbkaa", sum := "073c315f4ffc2ebd7e7c9147df7f1179eab8de2ba8539cb9dadb0a42d62f7dae", func := "loop.example/g01302/laws.FnExactNewDesk", spec := "fnExactNewDesk", inPlace := ["math.Float64bits", "math.Float64frombits"], unfollowed := true, recurses := true, apart := false, narrowed := true }
def FnExactNewDeskUptoSaid : Prop := fnExactNewDeskUptoRow.holds Try.pinned (OpenSpec.upto fnExactNewDeskSpec)

/-- 'laws.FnExactSameDesk', WHERE WHAT IT READS IS OF BULK AT MOST 1048576: true; the input reads as it did. -/
def fnExactSameDeskUptoRow : OpenClaim := { program := "ytaiebodmlnpbkaa", sum := "073c315f4ffc2ebd7e7c9147df7f1179eab8de2ba8539cb9dadb0a42d62f7dae", func := "loop.example/g01302/laws.FnExactSameDesk", spec := "fnExactSameDesk", inPlace := ["math.Float32bits", "math.Float64bits"], unfollowed := true, recurses := true, apart := false, narrowed := true }
def FnExactSameDeskUptoSaid : Prop := fnExactSameDeskUptoRow.holds Try.pinned (OpenSpec.upto fnExactSameDeskSpec)

/-- 'laws.FnExactValidDesk', WHERE WHAT IT READS IS OF BULK AT MOST 1048576: true; the input reads as it did. -/
def fnExactValidDeskUptoRow : OpenClaim := { program := "ytaiebodmlnpbkaa", sum := "073c315f4ffc2ebd7e7c9147df7f1179eab8de2ba8539cb9dadb0a42d62f7dae", func := "loop.example/g01302/laws.FnExactValidDesk", spec := "fnExactValidDesk", inPlace := ["math.Float64bits", "math.Float64frombits"], unfollowed := true, recurses := true, apart := false, narrowed := true }
def FnExactValidDeskUptoSaid : Prop := fnExactValidDeskUptoRow.holds Try.pinned (OpenSpec.upto fnExactValidDeskSpec)

end Rows
end Go.Proofs.Ytaiebodmlnpbkaa
