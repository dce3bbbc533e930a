/- Arguments that are lists of texts, opened. -/
import Derived.Test.YthdnepjajhjmlaaDoorGy
namespace Go.Proofs.YthdnepjajhjmlaaDoor
set_option linter.unusedSimpArgs false
set_option linter.unusedVariables false
open Go Cn Go.ChangeShapes Go.WideShapes Go.ChangeAt Go.RowKit
theorem flat_oneS : ∀ xs : List ByteArray, xs.flatMap (fun x => [Value.string x]) = xs.map .string
  | [] => rfl
  | x :: xs => by rw [List.flatMap_cons, flat_oneS xs]; rfl
set_option maxRecDepth 100000 in
theorem open_strs {H : Type} {enc : TypeId × Value → H} {W : World} {fuel : Nat} {v : Value} {x : DataW H × List MemPlace} (hv : ∃ a n c, v = .slice a n c) (h : DataW.trod enc Tryd.prog W 0 (fun _ => true) true fuel 25 v.cells.toList = some x) :
    ∃ ys : List ByteArray, SlV (cw W.heap.size W) 1 v ys.length (ys.map .string) ∧ ys.length ≤ 9223372036854775807 ∧ ∀ j, j < ys.length → (ys.getD j ⟨#[]⟩).size ≤ 9223372036854775807 := by
  have w1 : Tryd.prog.cellsOf 9 = 1 := by kernel_rfl
  have : Inhabited ByteArray := ⟨⟨#[]⟩⟩
  obtain ⟨ys, h1, h2, h3⟩ := open_slV (P := Tryd.prog) (k := 1) (α := ByteArray) (by decide) w1 Tryd.underlying25 (fun y => [.string y]) (fun _ => rfl) (fun y => y.size ≤ 9223372036854775807) (fun n cs d hcs hd => by
    match cs, hcs with
    | [c], _ =>
      obtain ⟨z, rfl, hz⟩ := trod_string Tryd.underlying9 hd
      exact ⟨z, rfl, by simp [Value.oneCell'], hz⟩) hv h
  rw [flat_oneS] at h1
  refine ⟨ys, h1, h2, fun j hj => h3 _ ?_⟩
  rw [show ys.getD j ⟨#[]⟩ = ys[j] by simp [List.getD_eq_getElem?_getD, hj]]
  exact List.getElem_mem hj
end Go.Proofs.YthdnepjajhjmlaaDoor
