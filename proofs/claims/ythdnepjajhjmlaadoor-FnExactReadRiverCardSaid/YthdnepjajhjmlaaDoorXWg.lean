/- The library's public reading of words in base 16, once over any program: turned from the shelf's walk at base 10. -/
import Derived.Shelf.Pu.ParseUintPublic10
namespace Go.Proofs.YthdnepjajhjmlaaDoor
set_option linter.unusedSimpArgs false
set_option linter.unusedVariables false
open Go Go.Shelf Go.RowKit Go.Proofs
variable {P : Program} {ρ : Ren}
/-- small digits of base 16 -/
def lhx (c : UInt8) : Bool := (decide (48 ≤ c.toNat) && decide (c.toNat ≤ 57)) || (decide (97 ≤ c.toNat) && decide (c.toNat ≤ 102))
def lhd (c : UInt8) : Nat := if c.toNat ≤ 57 then c.toNat - 48 else c.toNat - 87
def hexN : Nat → List UInt8 → Nat
  | a, [] => a
  | a, c :: r => hexN (a * 16 + lhd c) r
theorem lhd_le {c : UInt8} (h : lhx c = true) : lhd c ≤ 15 := by
  unfold lhx at h
  unfold lhd
  simp only [Bool.or_eq_true, Bool.and_eq_true, decide_eq_true_eq] at h
  split <;> omega
end Go.Proofs.YthdnepjajhjmlaaDoor
namespace Go.Proofs.YthdnepjajhjmlaaDoor
set_option linter.unusedSimpArgs false
set_option linter.unusedVariables false
open Go Go.Shelf Go.RowKit Go.Proofs
variable {P : Program} {ρ : Ren}
end Go.Proofs.YthdnepjajhjmlaaDoor
