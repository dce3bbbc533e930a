/- Arguments of one cell, opened. -/
import Derived.Test.YthdnepjajhjmlaaGreatDoorXGz
import Derived.Test.YthdnepjajhjmlaaGreatDoorXRd
namespace Go.Proofs.YthdnepjajhjmlaaGreatDoor
set_option linter.unusedSimpArgs false
set_option linter.unusedVariables false
open Go Cn Go.ChangeShapes Go.WideShapes Go.ChangeAt Go.RowKit
instance : Inhabited Dm := ⟨dm0⟩
def RivA (W : World) (v : Value) (r : Riv) : Prop := ∃ p1 k1 p2 k2 p3 k3, v = rvV p1 k1 p2 k2 p3 k3 r ∧ RvS W p1 k1 p2 k2 p3 k3 r
end Go.Proofs.YthdnepjajhjmlaaGreatDoor
namespace Go.Proofs.YthdnepjajhjmlaaGreatDoor
set_option linter.unusedSimpArgs false
set_option linter.unusedVariables false
open Go Cn Go.ChangeShapes Go.WideShapes Go.ChangeAt Go.RowKit
section
variable {H : Type} {enc : TypeId × Value → H} {P : Program} {W : World} {base b0 : Nat} {spare : Nat → Bool} {held : Bool}
theorem trod_string {n : Nat} {t : TypeId} {v : Value} {x : DataW H × List MemPlace} (ht : P.underlying t = some .string) (h : DataW.trod enc P W b0 spare held n t [v] = some x) : ∃ s, v = .string s ∧ s.size ≤ 9223372036854775807 := by
  cases n with
  | zero => simp [DataW.trod] at h
  | succ n =>
    rw [DataW.trod_step] at h
    unfold DataW.trodStep at h
    rw [ht] at h
    cases v with
    | string s =>
      simp only [Option.ite_none_right_eq_some] at h
      exact ⟨s, rfl, h.1⟩
    | _ => simp at h
end
end Go.Proofs.YthdnepjajhjmlaaGreatDoor
