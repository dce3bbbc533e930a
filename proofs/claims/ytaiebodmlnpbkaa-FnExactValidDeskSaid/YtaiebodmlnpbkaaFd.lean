/- The best lag of two gauges. -/
import Derived.Test.YtaiebodmlnpbkaaCn11
import Derived.Test.YtaiebodmlnpbkaaFc
namespace Go.Proofs.Ytaiebodmlnpbkaa
set_option linter.unusedSimpArgs false
set_option linter.unusedVariables false
open Go Cn Go.RowKit
/-- sums of 32-bit numbers, from the left -/
def sumTo (f : Nat → Nat) : Nat → Nat
  | 0 => 0
  | n + 1 => fop .add .f32 (sumTo f n) (f n)
theorem sumTo_zero (f : Nat → Nat) : sumTo f 0 = 0 := rfl
theorem sumTo_succ (f : Nat → Nat) (n : Nat) : sumTo f (n + 1) = fop .add .f32 (sumTo f n) (f n) := rfl
attribute [irreducible] sumTo
theorem sumTo_congr {f g : Nat → Nat} {n : Nat} (h : ∀ i, i < n → f i = g i) : sumTo f n = sumTo g n := by
  induction n with
  | zero => rw [sumTo_zero, sumTo_zero]
  | succ n ih => rw [sumTo_succ, sumTo_succ, ih (fun i hi => h i (by omega)), h n (by omega)]
@[irreducible] def meanOf (f : Nat → Nat) (n : Nat) : Nat := fop .quo .f32 (sumTo f n) (fint .f32 n)
@[irreducible] def lagProd (xs ys : List Nat) (l i : Nat) : Nat := fop .mul .f32 (xs.getD i 0) (ys.getD (i + l) 0)
@[irreducible] def lagMean (xs ys : List Nat) (l : Nat) : Nat := meanOf (lagProd xs ys l) (xs.length - l)
def lagBest (xs ys : List Nat) : Nat → Int × Nat
  | 0 => (-1, 0)
  | l + 1 => if decide ((lagBest xs ys l).1 < 0) || fcmp .gtr .f32 (lagMean xs ys l) (lagBest xs ys l).2 then ((l : Int), lagMean xs ys l) else lagBest xs ys l
theorem lagBest_zero (xs ys : List Nat) : lagBest xs ys 0 = (-1, 0) := rfl
theorem lagBest_succ (xs ys : List Nat) (l : Nat) : lagBest xs ys (l + 1) = if decide ((lagBest xs ys l).1 < 0) || fcmp .gtr .f32 (lagMean xs ys l) (lagBest xs ys l).2 then ((l : Int), lagMean xs ys l) else lagBest xs ys l := rfl
attribute [irreducible] lagBest
@[irreducible] def lagOf (xs ys : List Nat) (l : Int) : Int × Nat × Bool :=
  if gauge xs && gauge ys && decide (xs.length = ys.length) && (decide (0 ≤ l) && decide (l ≤ xs.length - 1)) then
    (if isFin .f32 (lagBest xs ys (l.toNat + 1)).2 then ((lagBest xs ys (l.toNat + 1)).1, (lagBest xs ys (l.toNat + 1)).2, true) else (0, 0, false))
  else (0, 0, false)
section
variable {B : Nat} {W : World}
theorem SlF.form {v : Value} {xs : List Nat} (hv : SlF W v xs) : ∃ a c, v = .slice a xs.length c := by
  rcases hv with ⟨rfl, rfl⟩ | ⟨b, off, c, rfl, hr⟩
  · exact ⟨_, _, rfl⟩
  · exact ⟨_, _, rfl⟩
theorem SlF.read {a : Option Addr} {n c : Nat} {xs : List Nat} (hv : SlF W (.slice a n c) xs) (h : 0 < xs.length) : ∃ b off, a = some ⟨b, off, none⟩ ∧ RdF W b off xs := by
  rcases hv with ⟨h1, rfl⟩ | ⟨b, off, c, h1, hr⟩
  · simp at h
  · cases h1; exact ⟨_, _, rfl, hr⟩
theorem gauge_len {xs : List Nat} (h : gauge xs = true) : 1 ≤ xs.length ∧ xs.length ≤ 128 := by
  unfold gauge at h
  simp at h
  omega
theorem lagOf_bad {xs ys : List Nat} {l : Int} (h : (gauge xs && gauge ys && decide (xs.length = ys.length) && (decide (0 ≤ l) && decide (l ≤ xs.length - 1))) = false) : lagOf xs ys l = (0, 0, false) := by
  unfold lagOf; rw [h]; rfl
theorem lagOf_good {xs ys : List Nat} {l : Int} (h1 : gauge xs = true) (h2 : gauge ys = true) (h3 : xs.length = ys.length) (h4 : 0 ≤ l) (h5 : l ≤ xs.length - 1) :
    lagOf xs ys l = if isFin .f32 (lagBest xs ys (l.toNat + 1)).2 then ((lagBest xs ys (l.toNat + 1)).1, (lagBest xs ys (l.toNat + 1)).2, true) else (0, 0, false) := by
  unfold lagOf
  rw [if_pos (by simp only [h1, h2, Bool.and_eq_true, decide_eq_true_eq]; exact ⟨⟨⟨trivial, trivial⟩, h3⟩, h4, h5⟩)]
theorem lagMean_eq {xs ys : List Nat} {k i : Nat} (h : i = xs.length - k) (hk : k ≤ xs.length) : fop .quo .f32 (sumTo (lagProd xs ys k) i) (fint .f32 ((xs.length : Int) - k)) = lagMean xs ys k := by
  subst h
  unfold lagMean meanOf
  rw [show ((xs.length : Int) - k) = ((xs.length - k : Nat) : Int) by omega]
theorem lagSum_succ (xs ys : List Nat) (k i : Nat) : fop .add .f32 (sumTo (lagProd xs ys k) i) (fop .mul .f32 (xs.getD (Int.toNat i) 0) (ys.getD (Int.toNat ((i : Int) + k)) 0)) = sumTo (lagProd xs ys k) (i + 1) := by
  rw [sumTo_succ]
  unfold lagProd
  rw [show Int.toNat ((i : Int) + k) = i + k by omega, show Int.toNat (i : Int) = i by omega]
theorem lagBest_take {xs ys : List Nat} {k : Nat} (h : (lagBest xs ys k).1 < 0 ∨ fcmp .gtr .f32 (lagMean xs ys k) (lagBest xs ys k).2 = true) : lagBest xs ys (k + 1) = ((k : Int), lagMean xs ys k) := by
  rw [lagBest_succ, if_pos]
  simpa using h
theorem lagBest_skip {xs ys : List Nat} {k : Nat} (h1 : ¬ (lagBest xs ys k).1 < 0) (h : fcmp .gtr .f32 (lagMean xs ys k) (lagBest xs ys k).2 = false) : lagBest xs ys (k + 1) = lagBest xs ys k := by
  rw [lagBest_succ, if_neg]
  simp [h, h1]
end
end Go.Proofs.Ytaiebodmlnpbkaa
