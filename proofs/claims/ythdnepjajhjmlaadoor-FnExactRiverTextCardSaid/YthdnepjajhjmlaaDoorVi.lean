/- The listed table of powers, as a row of this seat gives it. -/
import Derived.Test.YthdnepjajhjmlaaDoorRows
import Derived.Test.YthdnepjajhjmlaaDoorVe
import Derived.Lib.LaidTab
import Derived.Stop.LaidErr
namespace Go.Proofs.YthdnepjajhjmlaaDoor
set_option linter.unusedSimpArgs false
set_option linter.unusedVariables false
open Go Cn Go.RowKit
theorem pow_dat : (Rows.laid_internal_strconv_uint64pow10 : DataW Unit) = Lib.tabData .u64 Lib.pow10Tab := by kernel_rfl
theorem tabG_of {W : World} {n1 n2 : String} {d1 d2 : DataW Unit} (h : laidMet Tryd.prog [(n1, d1), (n2, d2), ("internal/strconv.uint64pow10", Rows.laid_internal_strconv_uint64pow10)] W) : TabG (cw W.heap.size W) := by
  rw [pow_dat] at h
  have h3 := h.tail.tail
  have hT : TabG W := Lib.tabIs_of_head (g := (Tryd.prog.globalNamed "internal/strconv.uint64pow10").getD 0) (t := 208) (e := 182) (n := 20) (by kernel_rfl) (by kernel_rfl) Tryd.underlying208 Tryd.underlying182 (by kernel_rfl) (by kernel_rfl) h3
  refine hT.below ⟨rfl, rfl, rfl, by rw [cw_size]; exact Nat.le_refl _, fun k hk => ?_⟩
  exact cw_heap_lt hk
end Go.Proofs.YthdnepjajhjmlaaDoor
