/-
  No cell of these rows narrows 'for every input' (looked for: loops, veiled, ifaces, maps, wideKeys, modest, calm, conditions, laid).
  DERIVED. THE GIVEN ROWS OF THIS SEAT. 8 by the template 'for every input the law returns true; each argument reads behind the call as it read before'; 0 by the template 'total and deterministic' (their statements: YtkbcbbcacabelaaTotals.lean).
  GIVEN WITH THE SEED: the statements are not yours to turn. If you find one false, say at which input.
  Laid BY PROGRAM, IN A SANDBOX (cutbox-rows.mjs): the forced cells as the released guide's own fill.sh prints them over the translation 729c51e748f6e256… (all of the seat's roots in one cut). By AI agents, Wed Nov 11 2026. No macro, syntax, notation, axiom, sorry.
-/
import Derived.Test.YtkbcbbcacabelaaChecked
import GoSem.Claim
import GoSem.ClaimJoined
import GoSem.ClaimMapViews
import Derived.JoinedTies
import Derived.KernelRfl
namespace Go.Proofs.Ytkbcbbcacabelaa
/- THE CELL 'sum', in the pinned program and in every row, IS THE sha256 OF THE DUMP (.gsa) THAT YtkbcbbcacabelaaProg.lean LOADS. Nothing in Lean hashes anything: it is a label: what it is worth is what the hold of that sum in a sandbox is worth. -/
noncomputable def Try.pinned : Pinned := { name := "ytkbcbbcacabelaa", sum := "729c51e748f6e25632a92c2c17fbf91bf906fea23e7bd6248ecd43cd31640d2b", checked := Try.checked }
namespace Rows
def none {H : Type} : Left H := { results := [], args := [] }

/-- 'laws.FnExactUnpackRecord': WHATEVER THE INPUT: true; the input reads as it did. -/
def fnExactUnpackRecordSpec : ChangeSpec := { name := "fnExactUnpackRecord", fn := fun _ => fun
  | [d] => { results := [.lit (.bool true)], args := [d] }
  | _ => none }
def fnExactUnpackRecordRow : OpenClaim := { program := "ytkbcbbcacabelaa", sum := "729c51e748f6e25632a92c2c17fbf91bf906fea23e7bd6248ecd43cd31640d2b", func := "loop.example/g01302/laws.FnExactUnpackRecord", spec := "fnExactUnpackRecord", inPlace := ["math.Float32frombits", "math.Float32bits"], apart := false }
def FnExactUnpackRecordSaid : Prop := fnExactUnpackRecordRow.holds Try.pinned (OpenSpec.ofChange fnExactUnpackRecordSpec)

/-- ITS FALSE NEIGHBOUR: 'it returns false'. Refute it at one input. -/
def fnExactUnpackRecordWrong : ChangeSpec := { name := "fnExactUnpackRecord", fn := fun _ => fun
  | [d] => { results := [.lit (.bool false)], args := [d] }
  | _ => none }
def FnExactUnpackRecordWrongFalsely : Prop := fnExactUnpackRecordRow.holds Try.pinned (OpenSpec.ofChange fnExactUnpackRecordWrong)

/-- 'laws.FnExactSameRecords': WHATEVER THE INPUT: true; the input reads as it did. -/
def fnExactSameRecordsSpec : ChangeSpec := { name := "fnExactSameRecords", fn := fun _ => fun
  | [d1, d2] => { results := [.lit (.bool true)], args := [d1, d2] }
  | _ => none }
def fnExactSameRecordsRow : OpenClaim := { program := "ytkbcbbcacabelaa", sum := "729c51e748f6e25632a92c2c17fbf91bf906fea23e7bd6248ecd43cd31640d2b", func := "loop.example/g01302/laws.FnExactSameRecords", spec := "fnExactSameRecords", inPlace := ["math.Float32bits", "math.Float64bits"], unfollowed := true, recurses := true, apart := false }
def FnExactSameRecordsSaid : Prop := fnExactSameRecordsRow.holds Try.pinned (OpenSpec.ofChange fnExactSameRecordsSpec)

/-- ITS FALSE NEIGHBOUR: 'it returns false'. Refute it at one input. -/
def fnExactSameRecordsWrong : ChangeSpec := { name := "fnExactSameRecords", fn := fun _ => fun
  | [d1, d2] => { results := [.lit (.bool false)], args := [d1, d2] }
  | _ => none }
def FnExactSameRecordsWrongFalsely : Prop := fnExactSameRecordsRow.holds Try.pinned (OpenSpec.ofChange fnExactSameRecordsWrong)

/-- 'laws.FnExactJoinRecords': WHATEVER THE INPUT: true; the input reads as it did. -/
def fnExactJoinRecordsSpec : ChangeSpec := { name := "fnExactJoinRecords", fn := fun _ => fun
  | [d1, d2] => { results := [.lit (.bool true)], args := [d1, d2] }
  | _ => none }
def fnExactJoinRecordsRow : OpenClaim := { program := "ytkbcbbcacabelaa", sum := "729c51e748f6e25632a92c2c17fbf91bf906fea23e7bd6248ecd43cd31640d2b", func := "loop.example/g01302/laws.FnExactJoinRecords", spec := "fnExactJoinRecords", apart := false }
def FnExactJoinRecordsSaid : Prop := fnExactJoinRecordsRow.holds Try.pinned (OpenSpec.ofChange fnExactJoinRecordsSpec)

/-- ITS FALSE NEIGHBOUR: 'it returns false'. Refute it at one input. -/
def fnExactJoinRecordsWrong : ChangeSpec := { name := "fnExactJoinRecords", fn := fun _ => fun
  | [d1, d2] => { results := [.lit (.bool false)], args := [d1, d2] }
  | _ => none }
def FnExactJoinRecordsWrongFalsely : Prop := fnExactJoinRecordsRow.holds Try.pinned (OpenSpec.ofChange fnExactJoinRecordsWrong)

/-- 'laws.FnExactStoreRecord': WHATEVER THE INPUT: true; the input reads as it did. -/
def fnExactStoreRecordSpec : ChangeSpec := { name := "fnExactStoreRecord", fn := fun _ => fun
  | [d] => { results := [.lit (.bool true)], args := [d] }
  | _ => none }
def fnExactStoreRecordRow : OpenClaim := { program := "ytkbcbbcacabelaa", sum := "729c51e748f6e25632a92c2c17fbf91bf906fea23e7bd6248ecd43cd31640d2b", func := "loop.example/g01302/laws.FnExactStoreRecord", spec := "fnExactStoreRecord", inPlace := ["math.Float32bits"], apart := false }
def FnExactStoreRecordSaid : Prop := fnExactStoreRecordRow.holds Try.pinned (OpenSpec.ofChange fnExactStoreRecordSpec)

/-- ITS FALSE NEIGHBOUR: 'it returns false'. Refute it at one input. -/
def fnExactStoreRecordWrong : ChangeSpec := { name := "fnExactStoreRecord", fn := fun _ => fun
  | [d] => { results := [.lit (.bool false)], args := [d] }
  | _ => none }
def FnExactStoreRecordWrongFalsely : Prop := fnExactStoreRecordRow.holds Try.pinned (OpenSpec.ofChange fnExactStoreRecordWrong)

/-- 'laws.FnExactLoadRecord': WHATEVER THE INPUT: true; the input reads as it did. -/
def fnExactLoadRecordSpec : ChangeSpec := { name := "fnExactLoadRecord", fn := fun _ => fun
  | [d] => { results := [.lit (.bool true)], args := [d] }
  | _ => none }
def fnExactLoadRecordRow : OpenClaim := { program := "ytkbcbbcacabelaa", sum := "729c51e748f6e25632a92c2c17fbf91bf906fea23e7bd6248ecd43cd31640d2b", func := "loop.example/g01302/laws.FnExactLoadRecord", spec := "fnExactLoadRecord", inPlace := ["math.Float32frombits", "math.Float32bits"], apart := false }
def FnExactLoadRecordSaid : Prop := fnExactLoadRecordRow.holds Try.pinned (OpenSpec.ofChange fnExactLoadRecordSpec)

/-- ITS FALSE NEIGHBOUR: 'it returns false'. Refute it at one input. -/
def fnExactLoadRecordWrong : ChangeSpec := { name := "fnExactLoadRecord", fn := fun _ => fun
  | [d] => { results := [.lit (.bool false)], args := [d] }
  | _ => none }
def FnExactLoadRecordWrongFalsely : Prop := fnExactLoadRecordRow.holds Try.pinned (OpenSpec.ofChange fnExactLoadRecordWrong)

/-- 'laws.FnExactStoreRecords': WHATEVER THE INPUT: true; the input reads as it did. -/
def fnExactStoreRecordsSpec : ChangeSpec := { name := "fnExactStoreRecords", fn := fun _ => fun
  | [d] => { results := [.lit (.bool true)], args := [d] }
  | _ => none }
def fnExactStoreRecordsRow : OpenClaim := { program := "ytkbcbbcacabelaa", sum := "729c51e748f6e25632a92c2c17fbf91bf906fea23e7bd6248ecd43cd31640d2b", func := "loop.example/g01302/laws.FnExactStoreRecords", spec := "fnExactStoreRecords", inPlace := ["math.Float32bits"], unfollowed := true, recurses := true, apart := false }
def FnExactStoreRecordsSaid : Prop := fnExactStoreRecordsRow.holds Try.pinned (OpenSpec.ofChange fnExactStoreRecordsSpec)

/-- ITS FALSE NEIGHBOUR: 'it returns false'. Refute it at one input. -/
def fnExactStoreRecordsWrong : ChangeSpec := { name := "fnExactStoreRecords", fn := fun _ => fun
  | [d] => { results := [.lit (.bool false)], args := [d] }
  | _ => none }
def FnExactStoreRecordsWrongFalsely : Prop := fnExactStoreRecordsRow.holds Try.pinned (OpenSpec.ofChange fnExactStoreRecordsWrong)

/-- 'laws.FnExactRecoverRecords': WHATEVER THE INPUT: true; the input reads as it did. -/
def fnExactRecoverRecordsSpec : ChangeSpec := { name := "fnExactRecoverRecords", fn := fun _ => fun
  | [d] => { results := [.lit (.bool true)], args := [d] }
  | _ => none }
def fnExactRecoverRecordsRow : OpenClaim := { program := "ytkbcbbcacabelaa", sum := "729c51e748f6e25632a92c2c17fbf91bf906fea23e7bd6248ecd43cd31640d2b", func := "loop.example/g01302/laws.FnExactRecoverRecords", spec := "fnExactRecoverRecords", inPlace := ["math.Float32frombits", "math.Float32bits"], apart := false }
def FnExactRecoverRecordsSaid : Prop := fnExactRecoverRecordsRow.holds Try.pinned (OpenSpec.ofChange fnExactRecoverRecordsSpec)

/-- ITS FALSE NEIGHBOUR: 'it returns false'. Refute it at one input. -/
def fnExactRecoverRecordsWrong : ChangeSpec := { name := "fnExactRecoverRecords", fn := fun _ => fun
  | [d] => { results := [.lit (.bool false)], args := [d] }
  | _ => none }
def FnExactRecoverRecordsWrongFalsely : Prop := fnExactRecoverRecordsRow.holds Try.pinned (OpenSpec.ofChange fnExactRecoverRecordsWrong)

/-- 'laws.FnRecords': WHATEVER THE INPUT: true; the input reads as it did. -/
def fnRecordsSpec : ChangeSpec := { name := "fnRecords", fn := fun _ => fun
  | [d1, d2] => { results := [.lit (.bool true)], args := [d1, d2] }
  | _ => none }
def fnRecordsRow : OpenClaim := { program := "ytkbcbbcacabelaa", sum := "729c51e748f6e25632a92c2c17fbf91bf906fea23e7bd6248ecd43cd31640d2b", func := "loop.example/g01302/laws.FnRecords", spec := "fnRecords", inPlace := ["math.Float32frombits", "math.Float32bits", "math.Float64bits"], unfollowed := true, recurses := true, apart := false }
def FnRecordsSaid : Prop := fnRecordsRow.holds Try.pinned (OpenSpec.ofChange fnRecordsSpec)

/-- ITS FALSE NEIGHBOUR: 'it returns false'. Refute it at one input. -/
def fnRecordsWrong : ChangeSpec := { name := "fnRecords", fn := fun _ => fun
  | [d1, d2] => { results := [.lit (.bool false)], args := [d1, d2] }
  | _ => none }
def FnRecordsWrongFalsely : Prop := fnRecordsRow.holds Try.pinned (OpenSpec.ofChange fnRecordsWrong)

/- THE SECOND FORM. 'bulk': how many values and letters a reading holds, each counted each time it is reached (what is shared counts as often as it is met; a slice's spare places count too). A statement '..UptoSaid' is the law's where the arguments, and the package variables that the reading takes, are together of bulk at most 1048576: NARROWER than '..Said'. Prove '..Said' where nothing that the law and all that it calls make is longer than what came in: it says more and counts as full. Else prove '..UptoSaid'. A law counts once. -/
mutual
def uptoBulk {H : Type} : DataW H → Nat
  | .lit (.string bytes) => bytes.length + 1
  | .lit _ => 1
  | .nil => 1
  | .ptr d => uptoBulk d + 1
  | .slice elems spare => uptoBulkAll elems + uptoBulkAll spare + 1
  | .agg parts => uptoBulkAll parts + 1
  | .iface _ d => uptoBulk d + 1
  | .map entries => uptoBulkEntries entries + 1
  | .held _ => 1
def uptoBulkAll {H : Type} : List (DataW H) → Nat
  | [] => 0
  | d :: r => uptoBulk d + uptoBulkAll r
def uptoBulkEntries {H : Type} : List (Lit × DataW H) → Nat
  | [] => 0
  | x :: r => uptoBulkEntry x + uptoBulkEntries r
def uptoBulkEntry {H : Type} : Lit × DataW H → Nat
  | (.string bytes, d) => bytes.length + uptoBulk d + 1
  | (_, d) => uptoBulk d + 1
 end
def uptoSmall : (H : Type) → List (DataW H) → Bool := fun _ ds => decide (uptoBulkAll ds ≤ 1048576)
def OpenSpec.upto (s : _root_.Go.ChangeSpec) : _root_.Go.OpenSpec := { _root_.Go.OpenSpec.ofChange s with cond := some uptoSmall }

/-- 'laws.FnExactUnpackRecord', WHERE WHAT IT READS IS OF BULK AT MOST 1048576: true; the input reads as it did. -/
def fnExactUnpackRecordUptoRow : OpenClaim := { program := "ytkbcbbcacabelaa", sum := "729c51e748f6e25632a92c2c17fbf91bf906fea23e7bd6248ecd43cd31640d2b", func := "loop.example/g01302/laws.FnExactUnpackRecord", spec := "fnExactUnpackRecord", inPlace := ["math.Float32frombits", "math.Float32bits"], apart := false, narrowed := true }
def FnExactUnpackRecordUptoSaid : Prop := fnExactUnpackRecordUptoRow.holds Try.pinned (OpenSpec.upto fnExactUnpackRecordSpec)

/-- 'laws.FnExactSameRecords', WHERE WHAT IT READS IS OF BULK AT MOST 1048576: true; the input reads as it did. -/
def fnExactSameRecordsUptoRow : OpenClaim := { program := "ytkbcbbcacabelaa", sum := "729c51e748f6e25632a92c2c17fbf91bf906fea23e7bd6248ecd43cd31640d2b", func := "loop.example/g01302/laws.FnExactSameRecords", spec := "fnExactSameRecords", inPlace := ["math.Float32bits", "math.Float64bits"], unfollowed := true, recurses := true, apart := false, narrowed := true }
def FnExactSameRecordsUptoSaid : Prop := fnExactSameRecordsUptoRow.holds Try.pinned (OpenSpec.upto fnExactSameRecordsSpec)

/-- 'laws.FnExactJoinRecords', WHERE WHAT IT READS IS OF BULK AT MOST 1048576: true; the input reads as it did. -/
def fnExactJoinRecordsUptoRow : OpenClaim := { program := "ytkbcbbcacabelaa", sum := "729c51e748f6e25632a92c2c17fbf91bf906fea23e7bd6248ecd43cd31640d2b", func := "loop.example/g01302/laws.FnExactJoinRecords", spec := "fnExactJoinRecords", apart := false, narrowed := true }
def FnExactJoinRecordsUptoSaid : Prop := fnExactJoinRecordsUptoRow.holds Try.pinned (OpenSpec.upto fnExactJoinRecordsSpec)

/-- 'laws.FnExactStoreRecord', WHERE WHAT IT READS IS OF BULK AT MOST 1048576: true; the input reads as it did. -/
def fnExactStoreRecordUptoRow : OpenClaim := { program := "ytkbcbbcacabelaa", sum := "729c51e748f6e25632a92c2c17fbf91bf906fea23e7bd6248ecd43cd31640d2b", func := "loop.example/g01302/laws.FnExactStoreRecord", spec := "fnExactStoreRecord", inPlace := ["math.Float32bits"], apart := false, narrowed := true }
def FnExactStoreRecordUptoSaid : Prop := fnExactStoreRecordUptoRow.holds Try.pinned (OpenSpec.upto fnExactStoreRecordSpec)

/-- 'laws.FnExactLoadRecord', WHERE WHAT IT READS IS OF BULK AT MOST 1048576: true; the input reads as it did. -/
def fnExactLoadRecordUptoRow : OpenClaim := { program := "ytkbcbbcacabelaa", sum := "729c51e748f6e25632a92c2c17fbf91bf906fea23e7bd6248ecd43cd31640d2b", func := "loop.example/g01302/laws.FnExactLoadRecord", spec := "fnExactLoadRecord", inPlace := ["math.Float32frombits", "math.Float32bits"], apart := false, narrowed := true }
def FnExactLoadRecordUptoSaid : Prop := fnExactLoadRecordUptoRow.holds Try.pinned (OpenSpec.upto fnExactLoadRecordSpec)

/-- 'laws.FnExactStoreRecords', WHERE WHAT IT READS IS OF BULK AT MOST 1048576: true; the input reads as it did. -/
def fnExactStoreRecordsUptoRow : OpenClaim := { program := "ytkbcbbcacabelaa", sum := "729c51e748f6e25632a92c2c17fbf91bf906fea23e7bd6248ecd43cd31640d2b", func := "loop.example/g01302/laws.FnExactStoreRecords", spec := "fnExactStoreRecords", inPlace := ["math.Float32bits"], unfollowed := true, recurses := true, apart := false, narrowed := true }
def FnExactStoreRecordsUptoSaid : Prop := fnExactStoreRecordsUptoRow.holds Try.pinned (OpenSpec.upto fnExactStoreRecordsSpec)

/-- 'laws.FnExactRecoverRecords', WHERE WHAT IT READS IS OF BULK AT MOST 1048576: true; the input reads as it did. -/
def fnExactRecoverRecordsUptoRow : OpenClaim := { program := "ytkbcbbcacabelaa", sum := "729c51e748f6e25632a92c2c17fbf91bf906fea23e7bd6248ecd43cd31640d2b", func := "loop.example/g01302/laws.FnExactRecoverRecords", spec := "fnExactRecoverRecords", inPlace := ["math.Float32frombits", "math.Float32bits"], apart := false, narrowed := true }
def FnExactRecoverRecordsUptoSaid : Prop := fnExactRecoverRecordsUptoRow.holds Try.pinned (OpenSpec.upto fnExactRecoverRecordsSpec)

/-- 'laws.FnRecords', WHERE WHAT IT READS IS OF BULK AT MOST 1048576: true; the input reads as it did. -/
def fnRecordsUptoRow : OpenClaim := { program := "ytkbcbbcacabelaa", sum := "729c51e748f6e25632a92c2c17fbf91bf906fea23e7bd6248ecd43cd31640d2b", func := "loop.example/g01302/laws.FnRecords", spec := "fnRecords", inPlace := ["math.Float32frombits", "math.Float32bits", "math.Float64bits"], unfollowed := true, recurses := true, apart := false, narrowed := true }
def FnRecordsUptoSaid : Prop := fnRecordsUptoRow.holds Try.pinned (OpenSpec.upto fnRecordsSpec)

end Rows
end Go.Proofs.Ytkbcbbcacabelaa
