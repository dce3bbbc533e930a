/- Finite numbers compared by whole keys. -/
import Derived.Test.YtmplincflbhmiaaXXb
import Derived.Test.YtmplincflbhmiaaXLh
import Derived.Test.YtmplincflbhmiaaXFb
namespace Go.Proofs.Ytmplincflbhmiaa
set_option linter.unusedSimpArgs false
set_option linter.unusedVariables false
open Go Cn Go.RowKit
/-- a finite number in least units, with its sign -/
def key32 (x : Nat) : Int := match FloatKind.f32.decode x with
  | .number s m e => Ieee.signed s m (e + 149).toNat
  | _ => 0
theorem dec_fin {x : Nat} (h : isFin .f32 x = true) : ∃ s m, ∃ k : Nat, FloatKind.f32.decode x = .number s m (-149 + (k : Int)) := by
  rw [isFin_eq, dec32] at h
  rw [dec32]
  split
  · exact ⟨_, _, 0, rfl⟩
  · rename_i h1
    rw [if_neg h1] at h
    split
    · exact ⟨_, _, _, rfl⟩
    · rename_i h2
      rw [if_neg h2] at h
      split
      · rename_i h3
        rw [if_pos h3] at h; cases h
      · rename_i h3
        rw [if_neg h3] at h; cases h
theorem signed_up (s : Bool) (m a c : Nat) : Ieee.signed s m (a + c) = Ieee.signed s m a * ((2 ^ c : Nat) : Int) := by
  unfold Ieee.signed
  have e : m <<< (a + c) = m <<< a * 2 ^ c := by rw [Nat.shiftLeft_eq, Nat.shiftLeft_eq, Nat.pow_add, Nat.mul_assoc]
  rw [e]
  cases s <;> simp [Int.neg_mul]
theorem cmp_gt {a b : Int} : (compare a b == Ordering.gt) = decide (b < a) := by
  show (compareOfLessAndEq a b == Ordering.gt) = decide (b < a)
  unfold compareOfLessAndEq
  by_cases h1 : a < b
  · rw [if_pos h1, decide_eq_false (by omega)]; rfl
  · rw [if_neg h1]
    by_cases h2 : a = b
    · rw [if_pos h2, decide_eq_false (by omega)]; rfl
    · rw [if_neg h2, decide_eq_true (by omega)]; rfl
theorem key_of {x : Nat} {s : Bool} {m k : Nat} (h : FloatKind.f32.decode x = .number s m (-149 + (k : Int))) : key32 x = Ieee.signed s m k := by
  unfold key32
  rw [h]
  dsimp only
  rw [show (-149 + (k : Int) + 149).toNat = k by omega]
theorem gtr_key {x y : Nat} (hx : isFin .f32 x = true) (hy : isFin .f32 y = true) : fcmp .gtr .f32 x y = decide (key32 y < key32 x) := by
  obtain ⟨s, m, k, e1⟩ := dec_fin hx
  obtain ⟨t, n, l, e2⟩ := dec_fin hy
  rw [key_of e1, key_of e2]
  unfold fcmp
  simp only
  rw [show FloatKind.f32.format.order x y = (FloatKind.f32.decode x).order (FloatKind.f32.decode y) from rfl, e1, e2]
  have hk : k = (-149 + (k : Int) - min (-149 + (k : Int)) (-149 + (l : Int))).toNat + min k l := by omega
  have hl : l = (-149 + (l : Int) - min (-149 + (k : Int)) (-149 + (l : Int))).toNat + min k l := by omega
  have e3 : ((Ieee.Datum.number s m (-149 + (k : Int))).order (.number t n (-149 + (l : Int))) == some Ordering.gt) = (compare (Ieee.signed s m (-149 + (k : Int) - min (-149 + (k : Int)) (-149 + (l : Int))).toNat) (Ieee.signed t n (-149 + (l : Int) - min (-149 + (k : Int)) (-149 + (l : Int))).toNat) == Ordering.gt) := rfl
  have f1 := signed_up s m (-149 + (k : Int) - min (-149 + (k : Int)) (-149 + (l : Int))).toNat (min k l)
  have f2 := signed_up t n (-149 + (l : Int) - min (-149 + (k : Int)) (-149 + (l : Int))).toNat (min k l)
  rw [← hk] at f1
  rw [← hl] at f2
  rw [e3, cmp_gt, f1, f2]
  generalize Ieee.signed s m _ = a
  generalize Ieee.signed t n _ = b
  have hp : (0 : Int) < ((2 ^ min k l : Nat) : Int) := Int.natCast_pos.2 (Nat.pow_pos (by decide))
  generalize ((2 ^ min k l : Nat) : Int) = p at *
  rw [decide_eq_decide]
  exact ⟨fun h => Int.mul_lt_mul_of_pos_right h hp, fun h => Int.lt_of_mul_lt_mul_right h (Int.le_of_lt hp)⟩
theorem gauge_fin {xs : List Nat} (h : gauge xs = true) : (∀ x ∈ xs, isFin .f32 x = true) ∧ 1 ≤ xs.length ∧ xs.length ≤ 128 := by
  unfold gauge at h
  simp only [Bool.and_eq_true, decide_eq_true_eq, List.all_eq_true] at h
  refine ⟨fun x hx => ?_, h.1.1, h.1.2⟩
  have := h.2 x hx
  unfold least at this
  simp only [Bool.and_eq_true] at this
  exact this.1
/-- the first of two places has the greater number -/
@[irreducible] def gtP (xs : List Nat) (i k : Int) : Bool := fcmp .gtr .f32 (xs.getD i.toNat 0) (xs.getD k.toNat 0)
theorem fin_getD {xs : List Nat} (h : ∀ x ∈ xs, isFin .f32 x = true) (i : Nat) : isFin .f32 (xs.getD i 0) = true := by
  by_cases hi : i < xs.length
  · rw [List.getD_eq_getElem?_getD, List.getElem?_eq_getElem hi]; exact h _ (List.getElem_mem hi)
  · rw [List.getD_eq_getElem?_getD, List.getElem?_eq_none (by omega)]; exact (isFin_eq .f32 0).trans (by rw [dec32]; rfl)
theorem gtP_or {xs : List Nat} (h : ∀ x ∈ xs, isFin .f32 x = true) : StOr (stL (gtP xs)) := by
  have hk : ∀ x y, gtP xs x y = decide (key32 (xs.getD y.toNat 0) < key32 (xs.getD x.toNat 0)) := fun x y => by
    unfold gtP; exact gtr_key (fin_getD h _) (fin_getD h _)
  refine stL_or (fun x y h1 => ?_) (fun x y z h1 h2 => ?_)
  · rw [hk, decide_eq_true_eq] at h1
    rw [hk, decide_eq_false_iff_not]
    omega
  · rw [hk, decide_eq_false_iff_not] at h1 h2
    rw [hk, decide_eq_false_iff_not]
    omega
end Go.Proofs.Ytmplincflbhmiaa
