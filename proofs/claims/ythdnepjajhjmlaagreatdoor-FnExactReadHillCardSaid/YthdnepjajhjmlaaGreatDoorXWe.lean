/- The listed table of places of a bit, as a row of this seat gives it. -/
import Derived.Test.YthdnepjajhjmlaaGreatDoorXVa
import Derived.Test.YthdnepjajhjmlaaGreatDoorXWb
namespace Go.Proofs.YthdnepjajhjmlaaGreatDoor
set_option linter.unusedSimpArgs false
set_option linter.unusedVariables false
open Go Cn Go.RowKit
def dbL : List Int := [0, 1, 56, 2, 57, 49, 28, 3, 61, 58, 42, 50, 38, 29, 17, 4, 62, 47, 59, 36, 45, 43, 51, 22, 53, 39, 33, 30, 24, 18, 12, 5, 63, 55, 48, 27, 60, 41, 37, 16, 46, 35, 44, 21, 52, 32, 23, 11, 54, 26, 40, 15, 34, 20, 31, 10, 25, 14, 19, 9, 13, 8, 7, 6]
theorem db_dat : (Rows.laid_math_bits_deBruijn64tab : DataW Unit) = Lib.tabData .u8 dbL := by kernel_rfl
theorem dbG_of {W : World} {n1 : String} {d1 : DataW Unit} {rest : List (String × DataW Unit)} (h : laidMet Tryz.prog ((n1, d1) :: ("math/bits.deBruijn64tab", Rows.laid_math_bits_deBruijn64tab) :: rest) W) : DbG (cw W.heap.size W) := by
  rw [db_dat] at h
  have hT := Lib.tabIs_of_head (g := (Tryz.prog.globalNamed "math/bits.deBruijn64tab").getD 0) (t := 143) (e := 5) (n := 64) (by kernel_rfl) (by kernel_rfl) Tryz.underlying143 Tryz.underlying5 (by kernel_rfl) (by kernel_rfl) h.tail
  have hc := Lib.TabIs.cell hT (g := 8) (by kernel_rfl) 15 (by decide)
  have hD : DbG W := hc
  refine hD.below ⟨rfl, rfl, rfl, by rw [cw_size]; exact Nat.le_refl _, fun k hk => ?_⟩
  exact cw_heap_lt hk
end Go.Proofs.YthdnepjajhjmlaaGreatDoor
