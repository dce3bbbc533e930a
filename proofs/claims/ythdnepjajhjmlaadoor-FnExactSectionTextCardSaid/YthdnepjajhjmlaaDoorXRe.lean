/- Which rivers are good. -/
import Derived.Test.YthdnepjajhjmlaaDoorXRd
namespace Go.Proofs.YthdnepjajhjmlaaDoor
set_option linter.unusedSimpArgs false
set_option linter.unusedVariables false
open Go Cn Go.RowKit
theorem inAll_get {lo hi : Int} {xs : List Int} (h : inAll lo hi xs = true) {i : Nat} (hi' : i < xs.length) : lo ≤ xs.getD i 0 ∧ xs.getD i 0 ≤ hi := by
  unfold inAll at h
  rw [List.all_eq_true] at h
  have := h xs[i] (List.getElem_mem hi')
  simpa [List.getD_eq_getElem?_getD, hi'] using this
theorem inAll_yes {lo hi : Int} {xs : List Int} (h : ∀ i, i < xs.length → lo ≤ xs.getD i 0 ∧ xs.getD i 0 ≤ hi) : inAll lo hi xs = true := by
  unfold inAll
  rw [List.all_eq_true]
  intro x hx
  obtain ⟨i, hi', rfl⟩ := List.getElem_of_mem hx
  have := h i hi'
  simpa [List.getD_eq_getElem?_getD, hi'] using this
section
variable {B : Nat} {A W W' : World} {L L' : List Res} {p1 p2 p3 : Option Addr} {k1 k2 k3 : Nat} {r : Riv}
end
end Go.Proofs.YthdnepjajhjmlaaDoor
