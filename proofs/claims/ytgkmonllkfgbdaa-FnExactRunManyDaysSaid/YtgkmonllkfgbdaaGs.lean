/- Arguments that are lists of lists of whole numbers, opened. -/
import Derived.Test.YtgkmonllkfgbdaaGz
import Derived.Test.YtgkmonllkfgbdaaHm
namespace Go.Proofs.Ytgkmonllkfgbdaa
set_option linter.unusedSimpArgs false
set_option linter.unusedVariables false
open Go Cn Go.ChangeShapes Go.WideShapes Go.ChangeAt Go.RowKit
theorem get_map {α β : Type} (f : α → β) (xs : List α) (d : α) (e : β) {j : Nat} (h : j < xs.length) : (xs.map f).getD j e = f (xs.getD j d) := by simp [List.getD_eq_getElem?_getD, h]
theorem getD_mem {α : Type} {xs : List α} {j : Nat} (d : α) (h : j < xs.length) : xs.getD j d ∈ xs := by
  rw [List.getD_eq_getElem?_getD, List.getElem?_eq_getElem h]; exact List.getElem_mem h
def fitsSS (xss : List (List Int)) : Prop := xss.length ≤ 9223372036854775807 ∧ ∀ j, j < xss.length → (xss.getD j []).length ≤ 9223372036854775807
set_option maxRecDepth 100000 in
theorem open_i64ss {H : Type} {enc : TypeId × Value → H} {W : World} {fuel : Nat} {v : Value} {x : DataW H × List MemPlace} (hv : ∃ a n c, v = .slice a n c) (h : DataW.trod enc Try.prog W 0 (fun _ => true) true fuel 42 v.cells.toList = some x) :
    ∃ xss, SlII (cw W.heap.size W) v xss ∧ fitsSS xss := by
  have w1 : Try.prog.cellsOf 22 = 1 := by kernel_rfl
  have : Inhabited (Sv × List Int) := ⟨(sv0, [])⟩
  obtain ⟨ys, h1, h2, h3⟩ := open_slV (P := Try.prog) (k := 1) (α := Sv × List Int) (by decide) w1 Try.underlying42 (fun y => [slV y.1]) (fun _ => rfl) (fun y => SlI (cw W.heap.size W) (slV y.1) y.2 ∧ y.2.length ≤ 9223372036854775807) (fun n cs d hcs hd => by
    match cs, hcs with
    | [c], _ =>
      have sl : (∃ a n k, c = .slice a n k) ∧ c.cells.toList = [c] := by
        rcases Deep.open_slice Try.underlying22 hd with ⟨h1, -⟩ | ⟨a, len, cap, m, n, D, Pl, h1, -⟩
        · cases h1; exact ⟨⟨_, _, _, rfl⟩, rfl⟩
        · cases h1; exact ⟨⟨_, _, _, rfl⟩, rfl⟩
      obtain ⟨s0, t0⟩ := sl
      obtain ⟨xs, hx, lx⟩ := open_i64s (by kernel_rfl) Try.underlying22 Try.underlying2 s0 (by rw [t0]; exact hd)
      obtain ⟨a, n, k, rfl⟩ := s0
      exact ⟨((a, n, k), xs), rfl, by simp [Value.oneCell'], hx, lx⟩) hv h
  refine ⟨ys.map (·.2), ⟨ys.map (·.1), by simp, ?_, fun j hj => ?_⟩, by simpa using h2, fun j hj => ?_⟩
  · rw [flat_one] at h1
    rw [List.map_map, List.length_map]
    exact h1
  · have hj' : j < ys.length := by simpa using hj
    rw [get_map _ ys (sv0, []) sv0 hj', get_map _ ys (sv0, []) [] hj']
    exact (h3 _ (getD_mem _ hj')).1
  · have hj' : j < ys.length := by simpa using hj
    rw [get_map _ ys (sv0, []) [] hj']
    exact (h3 _ (getD_mem _ hj')).2
end Go.Proofs.Ytgkmonllkfgbdaa
