/-
  No cell of these rows narrows 'for every input' (looked for: loops, veiled, ifaces, maps, wideKeys, modest, calm, conditions, laid).
  DERIVED. THE GIVEN ROWS OF THIS SEAT. 8 by the template 'for every input the law returns true; each argument reads behind the call as it read before'; 0 by the template 'total and deterministic' (their statements: YtgkmonllkfgbdaaTotals.lean).
  GIVEN WITH THE SEED: the statements are not yours to turn. If you find one false, say at which input.
  Laid BY PROGRAM, IN A SANDBOX (cutbox-rows.mjs): the forced cells as the released guide's own fill.sh prints them over the translation abcc7fec68997e76… (all of the seat's roots in one cut). By AI agents, Wed Nov 11 2026. No macro, syntax, notation, axiom, sorry.
-/
import Derived.Test.YtgkmonllkfgbdaaChecked
import GoSem.Claim
import GoSem.ClaimJoined
import GoSem.ClaimMapViews
import Derived.JoinedTies
import Derived.KernelRfl
namespace Go.Proofs.Ytgkmonllkfgbdaa
/- THE CELL 'sum', in the pinned program and in every row, IS THE sha256 OF THE DUMP (.gsa) THAT YtgkmonllkfgbdaaProg.lean LOADS. Nothing in Lean hashes anything: it is a label: what it is worth is what the hold of that sum in a sandbox is worth. -/
noncomputable def Try.pinned : Pinned := { name := "ytgkmonllkfgbdaa", sum := "abcc7fec68997e76b944dcb5ece389be2ab32f60017d971b881774287ed24917", checked := Try.checked }
namespace Rows
def none {H : Type} : Left H := { results := [], args := [] }

/-- 'laws.FnExactJoinRivers': WHATEVER THE INPUT: true; the input reads as it did. -/
def fnExactJoinRiversSpec : ChangeSpec := { name := "fnExactJoinRivers", fn := fun _ => fun
  | [d1, d2, d3] => { results := [.lit (.bool true)], args := [d1, d2, d3] }
  | _ => none }
def fnExactJoinRiversRow : OpenClaim := { program := "ytgkmonllkfgbdaa", sum := "abcc7fec68997e76b944dcb5ece389be2ab32f60017d971b881774287ed24917", func := "loop.example/g01302/laws.FnExactJoinRivers", spec := "fnExactJoinRivers", unfollowed := true, recurses := true, apart := false }
def FnExactJoinRiversSaid : Prop := fnExactJoinRiversRow.holds Try.pinned (OpenSpec.ofChange fnExactJoinRiversSpec)

/-- ITS FALSE NEIGHBOUR: 'it returns false'. Refute it at one input. -/
def fnExactJoinRiversWrong : ChangeSpec := { name := "fnExactJoinRivers", fn := fun _ => fun
  | [d1, d2, d3] => { results := [.lit (.bool false)], args := [d1, d2, d3] }
  | _ => none }
def FnExactJoinRiversWrongFalsely : Prop := fnExactJoinRiversRow.holds Try.pinned (OpenSpec.ofChange fnExactJoinRiversWrong)

/-- 'laws.FnExactDayOf': WHATEVER THE INPUT: true; the input reads as it did. -/
def fnExactDayOfSpec : ChangeSpec := { name := "fnExactDayOf", fn := fun _ => fun
  | [d1, d2] => { results := [.lit (.bool true)], args := [d1, d2] }
  | _ => none }
def fnExactDayOfRow : OpenClaim := { program := "ytgkmonllkfgbdaa", sum := "abcc7fec68997e76b944dcb5ece389be2ab32f60017d971b881774287ed24917", func := "loop.example/g01302/laws.FnExactDayOf", spec := "fnExactDayOf", unfollowed := true, recurses := true, apart := false }
def FnExactDayOfSaid : Prop := fnExactDayOfRow.holds Try.pinned (OpenSpec.ofChange fnExactDayOfSpec)

/-- ITS FALSE NEIGHBOUR: 'it returns false'. Refute it at one input. -/
def fnExactDayOfWrong : ChangeSpec := { name := "fnExactDayOf", fn := fun _ => fun
  | [d1, d2] => { results := [.lit (.bool false)], args := [d1, d2] }
  | _ => none }
def FnExactDayOfWrongFalsely : Prop := fnExactDayOfRow.holds Try.pinned (OpenSpec.ofChange fnExactDayOfWrong)

/-- 'laws.FnExactRunDays': WHATEVER THE INPUT: true; the input reads as it did. -/
def fnExactRunDaysSpec : ChangeSpec := { name := "fnExactRunDays", fn := fun _ => fun
  | [d1, d2] => { results := [.lit (.bool true)], args := [d1, d2] }
  | _ => none }
def fnExactRunDaysRow : OpenClaim := { program := "ytgkmonllkfgbdaa", sum := "abcc7fec68997e76b944dcb5ece389be2ab32f60017d971b881774287ed24917", func := "loop.example/g01302/laws.FnExactRunDays", spec := "fnExactRunDays", unfollowed := true, recurses := true, apart := false }
def FnExactRunDaysSaid : Prop := fnExactRunDaysRow.holds Try.pinned (OpenSpec.ofChange fnExactRunDaysSpec)

/-- ITS FALSE NEIGHBOUR: 'it returns false'. Refute it at one input. -/
def fnExactRunDaysWrong : ChangeSpec := { name := "fnExactRunDays", fn := fun _ => fun
  | [d1, d2] => { results := [.lit (.bool false)], args := [d1, d2] }
  | _ => none }
def FnExactRunDaysWrongFalsely : Prop := fnExactRunDaysRow.holds Try.pinned (OpenSpec.ofChange fnExactRunDaysWrong)

/-- 'laws.FnExactLedgerOf': WHATEVER THE INPUT: true; the input reads as it did. -/
def fnExactLedgerOfSpec : ChangeSpec := { name := "fnExactLedgerOf", fn := fun _ => fun
  | [d1, d2] => { results := [.lit (.bool true)], args := [d1, d2] }
  | _ => none }
def fnExactLedgerOfRow : OpenClaim := { program := "ytgkmonllkfgbdaa", sum := "abcc7fec68997e76b944dcb5ece389be2ab32f60017d971b881774287ed24917", func := "loop.example/g01302/laws.FnExactLedgerOf", spec := "fnExactLedgerOf", unfollowed := true, recurses := true, apart := false }
def FnExactLedgerOfSaid : Prop := fnExactLedgerOfRow.holds Try.pinned (OpenSpec.ofChange fnExactLedgerOfSpec)

/-- ITS FALSE NEIGHBOUR: 'it returns false'. Refute it at one input. -/
def fnExactLedgerOfWrong : ChangeSpec := { name := "fnExactLedgerOf", fn := fun _ => fun
  | [d1, d2] => { results := [.lit (.bool false)], args := [d1, d2] }
  | _ => none }
def FnExactLedgerOfWrongFalsely : Prop := fnExactLedgerOfRow.holds Try.pinned (OpenSpec.ofChange fnExactLedgerOfWrong)

/-- 'laws.FnExactShortDays': WHATEVER THE INPUT: true; the input reads as it did. -/
def fnExactShortDaysSpec : ChangeSpec := { name := "fnExactShortDays", fn := fun _ => fun
  | [d1, d2] => { results := [.lit (.bool true)], args := [d1, d2] }
  | _ => none }
def fnExactShortDaysRow : OpenClaim := { program := "ytgkmonllkfgbdaa", sum := "abcc7fec68997e76b944dcb5ece389be2ab32f60017d971b881774287ed24917", func := "loop.example/g01302/laws.FnExactShortDays", spec := "fnExactShortDays", unfollowed := true, recurses := true, apart := false }
def FnExactShortDaysSaid : Prop := fnExactShortDaysRow.holds Try.pinned (OpenSpec.ofChange fnExactShortDaysSpec)

/-- ITS FALSE NEIGHBOUR: 'it returns false'. Refute it at one input. -/
def fnExactShortDaysWrong : ChangeSpec := { name := "fnExactShortDays", fn := fun _ => fun
  | [d1, d2] => { results := [.lit (.bool false)], args := [d1, d2] }
  | _ => none }
def FnExactShortDaysWrongFalsely : Prop := fnExactShortDaysRow.holds Try.pinned (OpenSpec.ofChange fnExactShortDaysWrong)

/-- 'laws.FnExactRunManyDays': WHATEVER THE INPUT: true; the input reads as it did. -/
def fnExactRunManyDaysSpec : ChangeSpec := { name := "fnExactRunManyDays", fn := fun _ => fun
  | [d1, d2, d3] => { results := [.lit (.bool true)], args := [d1, d2, d3] }
  | _ => none }
def fnExactRunManyDaysRow : OpenClaim := { program := "ytgkmonllkfgbdaa", sum := "abcc7fec68997e76b944dcb5ece389be2ab32f60017d971b881774287ed24917", func := "loop.example/g01302/laws.FnExactRunManyDays", spec := "fnExactRunManyDays", unfollowed := true, recurses := true, apart := false }
def FnExactRunManyDaysSaid : Prop := fnExactRunManyDaysRow.holds Try.pinned (OpenSpec.ofChange fnExactRunManyDaysSpec)

/-- ITS FALSE NEIGHBOUR: 'it returns false'. Refute it at one input. -/
def fnExactRunManyDaysWrong : ChangeSpec := { name := "fnExactRunManyDays", fn := fun _ => fun
  | [d1, d2, d3] => { results := [.lit (.bool false)], args := [d1, d2, d3] }
  | _ => none }
def FnExactRunManyDaysWrongFalsely : Prop := fnExactRunManyDaysRow.holds Try.pinned (OpenSpec.ofChange fnExactRunManyDaysWrong)

/-- 'laws.FnExactLeastSize': WHATEVER THE INPUT: true; the input reads as it did. -/
def fnExactLeastSizeSpec : ChangeSpec := { name := "fnExactLeastSize", fn := fun _ => fun
  | [d1, d2, d3, d4] => { results := [.lit (.bool true)], args := [d1, d2, d3, d4] }
  | _ => none }
def fnExactLeastSizeRow : OpenClaim := { program := "ytgkmonllkfgbdaa", sum := "abcc7fec68997e76b944dcb5ece389be2ab32f60017d971b881774287ed24917", func := "loop.example/g01302/laws.FnExactLeastSize", spec := "fnExactLeastSize", unfollowed := true, recurses := true, apart := false }
def FnExactLeastSizeSaid : Prop := fnExactLeastSizeRow.holds Try.pinned (OpenSpec.ofChange fnExactLeastSizeSpec)

/-- ITS FALSE NEIGHBOUR: 'it returns false'. Refute it at one input. -/
def fnExactLeastSizeWrong : ChangeSpec := { name := "fnExactLeastSize", fn := fun _ => fun
  | [d1, d2, d3, d4] => { results := [.lit (.bool false)], args := [d1, d2, d3, d4] }
  | _ => none }
def FnExactLeastSizeWrongFalsely : Prop := fnExactLeastSizeRow.holds Try.pinned (OpenSpec.ofChange fnExactLeastSizeWrong)

/-- 'laws.FnTrees': WHATEVER THE INPUT: true; the input reads as it did. -/
def fnTreesSpec : ChangeSpec := { name := "fnTrees", fn := fun _ => fun
  | [d1, d2] => { results := [.lit (.bool true)], args := [d1, d2] }
  | _ => none }
def fnTreesRow : OpenClaim := { program := "ytgkmonllkfgbdaa", sum := "abcc7fec68997e76b944dcb5ece389be2ab32f60017d971b881774287ed24917", func := "loop.example/g01302/laws.FnTrees", spec := "fnTrees", unfollowed := true, recurses := true, apart := false }
def FnTreesSaid : Prop := fnTreesRow.holds Try.pinned (OpenSpec.ofChange fnTreesSpec)

/-- ITS FALSE NEIGHBOUR: 'it returns false'. Refute it at one input. -/
def fnTreesWrong : ChangeSpec := { name := "fnTrees", fn := fun _ => fun
  | [d1, d2] => { results := [.lit (.bool false)], args := [d1, d2] }
  | _ => none }
def FnTreesWrongFalsely : Prop := fnTreesRow.holds Try.pinned (OpenSpec.ofChange fnTreesWrong)

/- THE SECOND FORM. 'bulk': how many values and letters a reading holds, each counted each time it is reached (what is shared counts as often as it is met; a slice's spare places count too). A statement '..UptoSaid' is the law's where the arguments, and the package variables that the reading takes, are together of bulk at most 1048576: NARROWER than '..Said'. Prove '..Said' where nothing that the law and all that it calls make is longer than what came in: it says more and counts as full. Else prove '..UptoSaid'. A law counts once. -/
mutual
def uptoBulk {H : Type} : DataW H → Nat
  | .lit (.string bytes) => bytes.length + 1
  | .lit _ => 1
  | .nil => 1
  | .ptr d => uptoBulk d + 1
  | .slice elems spare => uptoBulkAll elems + uptoBulkAll spare + 1
  | .agg parts => uptoBulkAll parts + 1
  | .iface _ d => uptoBulk d + 1
  | .map entries => uptoBulkEntries entries + 1
  | .held _ => 1
def uptoBulkAll {H : Type} : List (DataW H) → Nat
  | [] => 0
  | d :: r => uptoBulk d + uptoBulkAll r
def uptoBulkEntries {H : Type} : List (Lit × DataW H) → Nat
  | [] => 0
  | x :: r => uptoBulkEntry x + uptoBulkEntries r
def uptoBulkEntry {H : Type} : Lit × DataW H → Nat
  | (.string bytes, d) => bytes.length + uptoBulk d + 1
  | (_, d) => uptoBulk d + 1
 end
def uptoSmall : (H : Type) → List (DataW H) → Bool := fun _ ds => decide (uptoBulkAll ds ≤ 1048576)
def OpenSpec.upto (s : _root_.Go.ChangeSpec) : _root_.Go.OpenSpec := { _root_.Go.OpenSpec.ofChange s with cond := some uptoSmall }

/-- 'laws.FnExactJoinRivers', WHERE WHAT IT READS IS OF BULK AT MOST 1048576: true; the input reads as it did. -/
def fnExactJoinRiversUptoRow : OpenClaim := { program := "ytgkmonllkfgbdaa", sum := "abcc7fec68997e76b944dcb5ece389be2ab32f60017d971b881774287ed24917", func := "loop.example/g01302/laws.FnExactJoinRivers", spec := "fnExactJoinRivers", unfollowed := true, recurses := true, apart := false, narrowed := true }
def FnExactJoinRiversUptoSaid : Prop := fnExactJoinRiversUptoRow.holds Try.pinned (OpenSpec.upto fnExactJoinRiversSpec)

/-- 'laws.FnExactDayOf', WHERE WHAT IT READS IS OF BULK AT MOST 1048576: true; the input reads as it did. -/
def fnExactDayOfUptoRow : OpenClaim := { program := "ytgkmonllkfgbdaa", sum := "abcc7fec68997e76b944dcb5ece389be2ab32f60017d971b881774287ed24917", func := "loop.example/g01302/laws.FnExactDayOf", spec := "fnExactDayOf", unfollowed := true, recurses := true, apart := false, narrowed := true }
def FnExactDayOfUptoSaid : Prop := fnExactDayOfUptoRow.holds Try.pinned (OpenSpec.upto fnExactDayOfSpec)

/-- 'laws.FnExactRunDays', WHERE WHAT IT READS IS OF BULK AT MOST 1048576: true; the input reads as it did. -/
def fnExactRunDaysUptoRow : OpenClaim := { program := "ytgkmonllkfgbdaa", sum := "abcc7fec68997e76b944dcb5ece389be2ab32f60017d971b881774287ed24917", func := "loop.example/g01302/laws.FnExactRunDays", spec := "fnExactRunDays", unfollowed := true, recurses := true, apart := false, narrowed := true }
def FnExactRunDaysUptoSaid : Prop := fnExactRunDaysUptoRow.holds Try.pinned (OpenSpec.upto fnExactRunDaysSpec)

/-- 'laws.FnExactLedgerOf', WHERE WHAT IT READS IS OF BULK AT MOST 1048576: true; the input reads as it did. -/
def fnExactLedgerOfUptoRow : OpenClaim := { program := "ytgkmonllkfgbdaa", sum := "abcc7fec68997e76b944dcb5ece389be2ab32f60017d971b881774287ed24917", func := "loop.example/g01302/laws.FnExactLedgerOf", spec := "fnExactLedgerOf", unfollowed := true, recurses := true, apart := false, narrowed := true }
def FnExactLedgerOfUptoSaid : Prop := fnExactLedgerOfUptoRow.holds Try.pinned (OpenSpec.upto fnExactLedgerOfSpec)

/-- 'laws.FnExactShortDays', WHERE WHAT IT READS IS OF BULK AT MOST 1048576: true; the input reads as it did. -/
def fnExactShortDaysUptoRow : OpenClaim := { program := "ytgkmonllkfgbdaa", sum := "abcc7fec68997e76b944dcb5ece389be2ab32f60017d971b881774287ed24917", func := "loop.example/g01302/laws.FnExactShortDays", spec := "fnExactShortDays", unfollowed := true, recurses := true, apart := false, narrowed := true }
def FnExactShortDaysUptoSaid : Prop := fnExactShortDaysUptoRow.holds Try.pinned (OpenSpec.upto fnExactShortDaysSpec)

/-- 'laws.FnExactRunManyDays', WHERE WHAT IT READS IS OF BULK AT MOST 1048576: true; the input reads as it did. -/
def fnExactRunManyDaysUptoRow : OpenClaim := { program := "ytgkmonllkfgbdaa", sum := "abcc7fec68997e76b944dcb5ece389be2ab32f60017d971b881774287ed24917", func := "loop.example/g01302/laws.FnExactRunManyDays", spec := "fnExactRunManyDays", unfollowed := true, recurses := true, apart := false, narrowed := true }
def FnExactRunManyDaysUptoSaid : Prop := fnExactRunManyDaysUptoRow.holds Try.pinned (OpenSpec.upto fnExactRunManyDaysSpec)

/-- 'laws.FnExactLeastSize', WHERE WHAT IT READS IS OF BULK AT MOST 1048576: true; the input reads as it did. -/
def fnExactLeastSizeUptoRow : OpenClaim := { program := "ytgkmonllkfgbdaa", sum := "abcc7fec68997e76b944dcb5ece389be2ab32f60017d971b881774287ed24917", func := "loop.example/g01302/laws.FnExactLeastSize", spec := "fnExactLeastSize", unfollowed := true, recurses := true, apart := false, narrowed := true }
def FnExactLeastSizeUptoSaid : Prop := fnExactLeastSizeUptoRow.holds Try.pinned (OpenSpec.upto fnExactLeastSizeSpec)

/-- 'laws.FnTrees', WHERE WHAT IT READS IS OF BULK AT MOST 1048576: true; the input reads as it did. -/
def fnTreesUptoRow : OpenClaim := { program := "ytgkmonllkfgbdaa", sum := "abcc7fec68997e76b944dcb5ece389be2ab32f60017d971b881774287ed24917", func := "loop.example/g01302/laws.FnTrees", spec := "fnTrees", unfollowed := true, recurses := true, apart := false, narrowed := true }
def FnTreesUptoSaid : Prop := fnTreesUptoRow.holds Try.pinned (OpenSpec.upto fnTreesSpec)

end Rows
end Go.Proofs.Ytgkmonllkfgbdaa
