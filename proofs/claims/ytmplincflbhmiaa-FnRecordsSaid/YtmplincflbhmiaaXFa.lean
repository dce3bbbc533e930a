/- Lists of floats in memory; whether numbers are finite; lists looked through. -/
import Derived.Test.YtmplincflbhmiaaXTb
import Derived.Test.YtmplincflbhmiaaXFp
namespace Go.Proofs.Ytmplincflbhmiaa
set_option linter.unusedSimpArgs false
set_option linter.unusedVariables false
open Go Cn

/-- a row of 32-bit numbers, by their canonical words -/
def RdF (W : World) (b off : Nat) (xs : List Nat) : Prop := ∀ i, i < xs.length → ∃ y, W.cell? ⟨b, off + i, none⟩ = some (.float .f32 y) ∧ cb .f32 y = xs.getD i 0
def SlF (W : World) (v : Value) (xs : List Nat) : Prop := (v = .slice none 0 0 ∧ xs = []) ∨ ∃ b off c, v = .slice (some ⟨b, off, none⟩) xs.length c ∧ RdF W b off xs
theorem RdF.canon {W : World} {b off : Nat} {xs : List Nat} (h : RdF W b off xs) {i : Nat} (hi : i < xs.length) : cb .f32 (xs.getD i 0) = xs.getD i 0 := by
  obtain ⟨y, -, e⟩ := h i hi
  rw [← e, cb_cb]
theorem s_loadf {P : Program} {N B : Nat} {E : Env} {W : World} {ops : Array Oper} {K : Exit → Env → World → Prop} {T : Tab} (hT : TabOk P T) {i : Nat} {rest : List Nat} {d : Nat} {op : Op} {ty : TypeId} {pos : String} {aft : Array Edge} {g : Option (Nat × Bool)} {a : Addr} {k : FloatKind} {x : Nat} (ho : getL ops.toList i = some ⟨some d, op, ty, pos, aft, g⟩) (hg : guardE ops ⟨some d, op, ty, pos, aft, g⟩ E = some true) (hd : Nat.ble (d + 1) N = true)
    (hv : evLd T E ⟨some d, op, ty, pos, aft, g⟩ = some a) (hc : ∃ y, W.cell? a = some (.float k y) ∧ cb k y = x) (h : AOps P N B ops rest K ((d, .float k x) :: E) W) : AOps P N B ops (i :: rest) K E W := by
  obtain ⟨y, h1, rfl⟩ := hc
  exact s_load hT ho hg hd hv h1 (by simp [cl, cv, c1, cb_cb]) (by simpa [cl] using h)

/-! ### numbers -/
@[irreducible] def least (x : Nat) : Bool := isFin .f32 x && fcmp .geq .f32 x 0
section
variable {B : Nat} {W : World}
/-! ### lists looked through -/
end
end Go.Proofs.Ytmplincflbhmiaa
