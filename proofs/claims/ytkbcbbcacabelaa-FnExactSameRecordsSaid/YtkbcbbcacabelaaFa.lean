/- Lists of floats in memory; whether numbers are finite; lists looked through. -/
import Derived.Test.YtkbcbbcacabelaaTb
import Derived.Test.YtkbcbbcacabelaaFp
namespace Go.Proofs.Ytkbcbbcacabelaa
set_option linter.unusedSimpArgs false
set_option linter.unusedVariables false
open Go Cn

/-- a row of 32-bit numbers, by their canonical words -/
def RdF (W : World) (b off : Nat) (xs : List Nat) : Prop := ∀ i, i < xs.length → ∃ y, W.cell? ⟨b, off + i, none⟩ = some (.float .f32 y) ∧ cb .f32 y = xs.getD i 0
def SlF (W : World) (v : Value) (xs : List Nat) : Prop := (v = .slice none 0 0 ∧ xs = []) ∨ ∃ b off c, v = .slice (some ⟨b, off, none⟩) xs.length c ∧ RdF W b off xs
theorem RdF.canon {W : World} {b off : Nat} {xs : List Nat} (h : RdF W b off xs) {i : Nat} (hi : i < xs.length) : cb .f32 (xs.getD i 0) = xs.getD i 0 := by
  obtain ⟨y, -, e⟩ := h i hi
  rw [← e, cb_cb]
theorem s_loadf {P : Program} {N B : Nat} {E : Env} {W : World} {ops : Array Oper} {K : Exit → Env → World → Prop} {T : Tab} (hT : TabOk P T) {i : Nat} {rest : List Nat} {d : Nat} {op : Op} {ty : TypeId} {pos : String} {aft : Array Edge} {g : Option (Nat × Bool)} {a : Addr} {k : FloatKind} {x : Nat} (ho : getL ops.toList i = some ⟨some d, op, ty, pos, aft, g⟩) (hg : guardE ops ⟨some d, op, ty, pos, aft, g⟩ E = some true) (hd : Nat.ble (d + 1) N = true)
    (hv : evLd T E ⟨some d, op, ty, pos, aft, g⟩ = some a) (hc : ∃ y, W.cell? a = some (.float k y) ∧ cb k y = x) (h : AOps P N B ops rest K ((d, .float k x) :: E) W) : AOps P N B ops (i :: rest) K E W := by
  obtain ⟨y, h1, rfl⟩ := hc
  exact s_load hT ho hg hd hv h1 (by simp [cl, cv, c1, cb_cb]) (by simpa [cl] using h)

/-! ### numbers -/
@[irreducible] def nan64 (y : Nat) : Bool := (FloatKind.f64.decode y).isNaN
@[irreducible] def inf64 (y : Nat) : Bool := (FloatKind.f64.decode y).isInfinity
theorem fin64_of (y : Nat) : isFin .f64 y = (!nan64 y && !inf64 y) := by simp [nan64, inf64, isFin_eq]
@[irreducible] def least (x : Nat) : Bool := isFin .f32 x && fcmp .geq .f32 x 0
@[irreducible] def above (x : Nat) : Bool := isFin .f32 x && fcmp .gtr .f32 x 0
section
variable {B : Nat} {W : World}
/-! ### lists looked through -/
/-- the first place of which p holds, or -1 -/
@[irreducible] def idxF (p : Nat → Bool) (xs : List Nat) : Int := match xs.findIdx? p with
  | some i => i
  | none => -1
theorem idxF_some {p : Nat → Bool} {xs : List Nat} {i : Nat} (hi : i < xs.length) (h : p (xs.getD i 0) = true) (hb : ∀ j, j < i → p (xs.getD j 0) = false) : idxF p xs = i := by
  have : xs.findIdx? p = some i := by
    rw [List.findIdx?_eq_some_iff_getElem]
    refine ⟨hi, by simpa [List.getD_eq_getElem?_getD, hi] using h, fun j hj => ?_⟩
    have := hb j hj
    have hj' : j < xs.length := by omega
    simpa [List.getD_eq_getElem?_getD, hj'] using this
  simp [idxF, this]
theorem idxF_none {p : Nat → Bool} {xs : List Nat} (hb : ∀ j, j < xs.length → p (xs.getD j 0) = false) : idxF p xs = -1 := by
  have : xs.findIdx? p = none := by
    rw [List.findIdx?_eq_none_iff]
    intro x hx
    obtain ⟨j, hj, rfl⟩ := List.getElem_of_mem hx
    have := hb j hj
    simpa [List.getD_eq_getElem?_getD, hj] using this
  simp [idxF, this]
theorem idxF_any (p : Nat → Bool) (xs : List Nat) : decide (idxF p xs ≥ 0) = xs.any p := by
  unfold idxF
  cases h : xs.findIdx? p with
  | none =>
    rw [List.findIdx?_eq_none_iff] at h
    have : xs.any p = false := by simpa using h
    rw [this]; decide
  | some i =>
    rw [List.findIdx?_eq_some_iff_getElem] at h
    obtain ⟨hi, hp, -⟩ := h
    have : xs.any p = true := by simp only [List.any_eq_true]; exact ⟨_, List.getElem_mem hi, hp⟩
    rw [this]; simp
end
end Go.Proofs.Ytkbcbbcacabelaa
