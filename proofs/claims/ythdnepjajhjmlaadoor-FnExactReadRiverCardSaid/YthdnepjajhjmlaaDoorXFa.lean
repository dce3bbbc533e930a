/- Lists of floats in memory; whether numbers are finite; lists looked through. -/
import Derived.Test.YthdnepjajhjmlaaDoorTb
import Derived.Test.YthdnepjajhjmlaaDoorXFp
namespace Go.Proofs.YthdnepjajhjmlaaDoor
set_option linter.unusedSimpArgs false
set_option linter.unusedVariables false
open Go Cn

/-- a row of 32-bit numbers, by their canonical words -/
def RdF (W : World) (b off : Nat) (xs : List Nat) : Prop := ∀ i, i < xs.length → ∃ y, W.cell? ⟨b, off + i, none⟩ = some (.float .f32 y) ∧ cb .f32 y = xs.getD i 0
def SlF (W : World) (v : Value) (xs : List Nat) : Prop := (v = .slice none 0 0 ∧ xs = []) ∨ ∃ b off c, v = .slice (some ⟨b, off, none⟩) xs.length c ∧ RdF W b off xs
theorem RdF.canon {W : World} {b off : Nat} {xs : List Nat} (h : RdF W b off xs) {i : Nat} (hi : i < xs.length) : cb .f32 (xs.getD i 0) = xs.getD i 0 := by
  obtain ⟨y, -, e⟩ := h i hi
  rw [← e, cb_cb]
/-! ### numbers -/
section
variable {B : Nat} {W : World}
/-! ### lists looked through -/
end
end Go.Proofs.YthdnepjajhjmlaaDoor
