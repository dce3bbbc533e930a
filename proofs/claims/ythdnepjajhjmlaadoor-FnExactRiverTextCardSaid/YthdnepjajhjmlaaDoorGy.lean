/- Arguments of one cell, opened. -/
import Derived.Test.YthdnepjajhjmlaaDoorGz
namespace Go.Proofs.YthdnepjajhjmlaaDoor
set_option linter.unusedSimpArgs false
set_option linter.unusedVariables false
open Go Cn Go.ChangeShapes Go.WideShapes Go.ChangeAt Go.RowKit
section
variable {H : Type} {enc : TypeId × Value → H} {P : Program} {W : World} {base b0 : Nat} {spare : Nat → Bool} {held : Bool}
theorem trod_string {n : Nat} {t : TypeId} {v : Value} {x : DataW H × List MemPlace} (ht : P.underlying t = some .string) (h : DataW.trod enc P W b0 spare held n t [v] = some x) : ∃ s, v = .string s ∧ s.size ≤ 9223372036854775807 := by
  cases n with
  | zero => simp [DataW.trod] at h
  | succ n =>
    rw [DataW.trod_step] at h
    unfold DataW.trodStep at h
    rw [ht] at h
    cases v with
    | string s =>
      simp only [Option.ite_none_right_eq_some] at h
      exact ⟨s, rfl, h.1⟩
    | _ => simp at h
theorem trod_int {n : Nat} {t : TypeId} {k : IntKind} {v : Value} {x : DataW H × List MemPlace} (ht : P.underlying t = some (.int k)) (h : DataW.trod enc P W b0 spare held n t [v] = some x) : ∃ z, v = .int k z := by
  cases n with
  | zero => simp [DataW.trod] at h
  | succ n =>
    rw [DataW.trod_step] at h
    unfold DataW.trodStep at h
    rw [ht] at h
    cases v with
    | int k' z =>
      simp only [Option.ite_none_right_eq_some] at h
      exact ⟨z, by rw [h.1.1]⟩
    | _ => simp at h
theorem okWide_of_cell {t e : TypeId} {v : Value} (ht : P.underlying t = some (.slice e)) (h : Cell.okWide P W .any base t v) : Value.okWide P W .any base t v := by
  simp only [Value.okWide, ht]; exact h
end
end Go.Proofs.YthdnepjajhjmlaaDoor
