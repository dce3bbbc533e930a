/- Plain laws of floats: what is finite, two ways told. -/
import Derived.Test.YtmplincflbhmiaaCn9
namespace Go.Proofs.Ytmplincflbhmiaa
set_option linter.unusedSimpArgs false
set_option linter.unusedVariables false
open Go Cn

/-- neither an infinity nor a not-a-number -/
def isFin (k : FloatKind) (x : Nat) : Bool :=
  match k.decode x with
  | .number _ _ _ => true
  | _ => false
theorem order_self {k : FloatKind} {x : Nat} (h : (k.decode x).isNaN = false) : k.format.order x x = some .eq := by
  show (k.decode x).order (k.decode x) = some .eq
  cases hd : k.decode x with
  | number s m e =>
    exact congrArg some (Int.compare_eq_eq.mpr rfl)
  | infinity s => cases s <;> rfl
  | nan s f => rw [hd] at h; cases h
theorem neq_self (k : FloatKind) (x : Nat) : fcmp .neq k x x = (k.decode x).isNaN := by
  unfold fcmp
  cases h : (k.decode x).isNaN
  · rw [order_self h]; rfl
  · rw [show k.format.order x x = none from order_nan_l h]; rfl
theorem eql_self (k : FloatKind) (x : Nat) : fcmp .eql k x x = !(k.decode x).isNaN := by
  unfold fcmp
  cases h : (k.decode x).isNaN
  · rw [order_self h]; rfl
  · rw [show k.format.order x x = none from order_nan_l h]; rfl
attribute [irreducible] isFin
end Go.Proofs.Ytmplincflbhmiaa
