/- Floods of so many years, both ways. -/
import Derived.Test.YtmplincflbhmiaaXFb
import GoSem.Extern.MathSqrt
import Derived.Test.YtmplincflbhmiaaXFj
namespace Go.Proofs.Ytmplincflbhmiaa
set_option linter.unusedSimpArgs false
set_option linter.unusedVariables false
open Go Cn Go.RowKit
/-- how far from zero, in least units -/
def mg (r : Nat) : Nat := if r < 8388608 then r else (8388608 + r % 8388608) * 2 ^ (r / 8388608 - 1)
theorem mg_low {r : Nat} (h : ¬ r < 8388608) : 2 ^ (22 + r / 8388608) ≤ mg r := by
  unfold mg
  rw [if_neg h]
  have hq : 1 ≤ r / 8388608 := by omega
  rw [show 22 + r / 8388608 = 23 + (r / 8388608 - 1) by omega, Nat.pow_add]
  exact Nat.mul_le_mul_right _ (by omega)
theorem mg_high (r : Nat) : mg r < 2 ^ (23 + r / 8388608) := by
  unfold mg
  split
  · rename_i h
    rw [show r / 8388608 = 0 by omega]
    exact h
  · rename_i h
    have hq : 1 ≤ r / 8388608 := by omega
    rw [show 23 + r / 8388608 = 24 + (r / 8388608 - 1) by omega, Nat.pow_add]
    exact Nat.mul_lt_mul_of_pos_right (by omega) (Nat.pow_pos (by decide))
theorem mg_q {r r' : Nat} (h : r / 8388608 < r' / 8388608) : mg r < mg r' := by
  have h1 := mg_high r
  have h2 := mg_low (r := r') (by omega)
  have h3 : 2 ^ (23 + r / 8388608) ≤ 2 ^ (22 + r' / 8388608) := Nat.pow_le_pow_right (by decide) (by omega)
  omega
theorem mg_inj {r r' : Nat} (h : mg r = mg r') : r = r' := by
  rcases Nat.lt_trichotomy (r / 8388608) (r' / 8388608) with h1 | h1 | h1
  · have := mg_q h1; omega
  · unfold mg at h
    by_cases h0 : r < 8388608
    · rw [if_pos h0, if_pos (by omega)] at h; exact h
    · rw [if_neg h0, if_neg (by omega), h1] at h
      have := Nat.eq_of_mul_eq_mul_right (Nat.pow_pos (by decide)) h
      omega
  · have := mg_q h1; omega
theorem shl_up {m n a b k l c : Nat} (h : m <<< a = n <<< b) (hk : k = a + c) (hl : l = b + c) : m * 2 ^ k = n * 2 ^ l := by
  rw [Nat.shiftLeft_eq, Nat.shiftLeft_eq] at h
  subst hk hl
  rw [Nat.pow_add, Nat.pow_add, ← Nat.mul_assoc, ← Nat.mul_assoc, h]
theorem signed_inj {s : Bool} {m n a b : Nat} (h : Ieee.signed s m a = Ieee.signed s n b) : m <<< a = n <<< b := by
  unfold Ieee.signed at h
  cases s
  · simp only [Bool.false_eq_true, if_false] at h; omega
  · simp only [if_true] at h; omega
theorem dec32 (x : Nat) : FloatKind.f32.decode x = (if x % 2147483648 < 8388608 then .number (x / 2147483648 % 2 == 1) (x % 2147483648) (-149) else if x % 2147483648 < 2139095040 then .number (x / 2147483648 % 2 == 1) (8388608 + x % 2147483648 % 8388608) (-149 + ((x % 2147483648 / 8388608 - 1 : Nat) : Int)) else if x % 2147483648 = 2139095040 then .infinity (x / 2147483648 % 2 == 1) else .nan (x / 2147483648 % 2 == 1) (x % 2147483648 - 2139095040)) := rfl
/-- what is equal and of one sign is the same word -/
theorem eql_same {x y : Nat} (hx : x < 4294967296) (hy : y < 4294967296) (hs : (x / 2147483648 % 2 == 1) = (y / 2147483648 % 2 == 1)) (h : fcmp .eql .f32 x y = true) : x = y := by
  have hs' : x / 2147483648 = y / 2147483648 := by
    have h1 : x / 2147483648 < 2 := by omega
    have h2 : y / 2147483648 < 2 := by omega
    rw [Nat.mod_eq_of_lt h1, Nat.mod_eq_of_lt h2] at hs
    have h3 : (x / 2147483648 = 1) ↔ (y / 2147483648 = 1) := by rw [← beq_iff_eq (a := x / 2147483648), hs, beq_iff_eq]
    omega
  suffices hr : x % 2147483648 = y % 2147483648 by omega
  unfold fcmp at h
  simp only [beq_iff_eq] at h
  rw [show FloatKind.f32.format.order x y = (FloatKind.f32.decode x).order (FloatKind.f32.decode y) from rfl, dec32, dec32, hs] at h
  generalize (y / 2147483648 % 2 == 1) = s at h
  generalize x % 2147483648 = r at *
  generalize y % 2147483648 = t at *
  have fin : ∀ {m n : Nat} {i j : Int} {k l : Nat}, (Ieee.Datum.number s m i).order (.number s n j) = some .eq → i = -149 + (k : Int) → j = -149 + (l : Int) → m * 2 ^ k = n * 2 ^ l := by
    intro m n i j k l h hi hj
    simp only [Ieee.Datum.order, Option.some.injEq] at h
    have h2 := signed_inj (Std.LawfulEqOrd.eq_of_compare h)
    exact shl_up (c := (min i j + 149).toNat) h2 (by omega) (by omega)
  split at h
  · rename_i a1
    split at h
    · rename_i b1
      have := fin h (k := 0) (l := 0) rfl rfl
      omega
    · rename_i b1
      split at h
      · have := fin h (k := 0) rfl rfl
        refine mg_inj ?_
        unfold mg
        rw [if_pos a1, if_neg b1]
        omega
      · split at h
        · cases s <;> cases h
        · cases h
  · rename_i a1
    split at h
    · split at h
      · rename_i b1
        have := fin h (l := 0) rfl rfl
        refine mg_inj ?_
        unfold mg
        rw [if_neg a1, if_pos b1]
        omega
      · rename_i b1
        split at h
        · have := fin h rfl rfl
          refine mg_inj ?_
          unfold mg
          rw [if_neg a1, if_neg b1]
          exact this
        · split at h
          · cases s <;> cases h
          · cases h
    · split at h
      · split at h
        · cases s <;> cases h
        · split at h
          · cases s <;> cases h
          · split at h
            · omega
            · cases h
      · split at h
        · cases h
        · split at h
          · cases h
          · split at h <;> cases h
/-! ### the sign, seen in the wider number -/
theorem nearest_form (f : Ieee.Format) (s : Bool) (m : Nat) (p : Int) : ∃ r, r ≤ f.infRung ∧ f.nearest s m p = f.word s r := by
  unfold Ieee.Format.nearest
  split
  · exact ⟨0, Nat.zero_le _, rfl⟩
  · exact ⟨_, Nat.min_le_right _ _, rfl⟩
theorem dec64 (x : Nat) : FloatKind.f64.decode x = (if x % 9223372036854775808 < 4503599627370496 then .number (x / 9223372036854775808 % 2 == 1) (x % 9223372036854775808) (-1074) else if x % 9223372036854775808 < 9218868437227405312 then .number (x / 9223372036854775808 % 2 == 1) (4503599627370496 + x % 9223372036854775808 % 4503599627370496) (-1074 + ((x % 9223372036854775808 / 4503599627370496 - 1 : Nat) : Int)) else if x % 9223372036854775808 = 9218868437227405312 then .infinity (x / 9223372036854775808 % 2 == 1) else .nan (x / 9223372036854775808 % 2 == 1) (x % 9223372036854775808 - 9218868437227405312)) := rfl
theorem word64 (s : Bool) (r : Nat) : FloatKind.f64.format.word s r = if s then 9223372036854775808 + r else r := rfl
theorem cb_word64 {s : Bool} {r : Nat} (h : r ≤ 9218868437227405312) : cb .f64 (FloatKind.f64.format.word s r) = FloatKind.f64.format.word s r := by
  refine cb_num ?_
  rw [word64, dec64]
  have hm : (if s then 9223372036854775808 + r else r) % 9223372036854775808 = r := by split <;> omega
  rw [hm]
  split
  · rfl
  · split
    · rfl
    · rw [if_pos (by omega)]; rfl
theorem wide_form {x : Nat} (hn : (FloatKind.f32.decode x).isNaN = false) : ∃ r, r ≤ 9218868437227405312 ∧ fwide x = FloatKind.f64.format.word (x / 2147483648 % 2 == 1) r := by
  have hw := fconv_wide x
  unfold fconv at hw
  rw [if_neg (by decide)] at hw
  rw [dec32] at hw hn
  generalize (x / 2147483648 % 2 == 1) = s at *
  have num : ∀ {m : Nat} {e : Int}, (match Ieee.Datum.number s m e with
      | .nan _ _ => some (qnan .f64)
      | .infinity s => some (cb .f64 (FloatKind.f64.encode (.infinity s)))
      | .number s m e => if (FloatKind.f64.decode (FloatKind.f64.encode (.number s m e))).isInfinity then none else some (cb .f64 (FloatKind.f64.encode (.number s m e)))) = some (fwide x) → ∃ r, r ≤ 9218868437227405312 ∧ fwide x = FloatKind.f64.format.word s r := by
    intro m e h
    dsimp only at h
    split at h
    · cases h
    · obtain ⟨r, hr, he⟩ := nearest_form FloatKind.f64.format s m e
      have he' : FloatKind.f64.encode (.number s m e) = FloatKind.f64.format.word s r := he
      rw [he', cb_word64 hr] at h
      exact ⟨r, hr, (Option.some.inj h).symm⟩
  by_cases h1 : x % 2147483648 < 8388608
  · rw [if_pos h1] at hw
    exact num hw
  · by_cases h2 : x % 2147483648 < 2139095040
    · rw [if_neg h1, if_pos h2] at hw
      exact num hw
    · by_cases h3 : x % 2147483648 = 2139095040
      · rw [if_neg h1, if_neg h2, if_pos h3] at hw
        dsimp only at hw
        exact ⟨9218868437227405312, Nat.le_refl _, by rw [← Option.some.inj hw]; exact cb_word64 (Nat.le_refl _)⟩
      · rw [if_neg h1, if_neg h2, if_neg h3] at hn
        cases hn
theorem wide_sign {x : Nat} (hn : (FloatKind.f32.decode x).isNaN = false) : decide (9223372036854775808 ≤ fwide x) = (x / 2147483648 % 2 == 1) := by
  obtain ⟨r, hr, he⟩ := wide_form hn
  rw [he, word64]
  generalize (x / 2147483648 % 2 == 1) = s
  cases s
  · exact decide_eq_false (by simp only [Bool.false_eq_true, if_false]; omega)
  · exact decide_eq_true (by simp only [if_true]; omega)
theorem wide_lt {x : Nat} (hn : (FloatKind.f32.decode x).isNaN = false) : fwide x < 18446744073709551616 := by
  obtain ⟨r, hr, he⟩ := wide_form hn
  rw [he, word64]
  split <;> omega
theorem wide_nonan {x : Nat} (hn : (FloatKind.f32.decode x).isNaN = false) : (FloatKind.f64.decode (fwide x)).isNaN = false := by
  obtain ⟨r, hr, he⟩ := wide_form hn
  have hm : (if (x / 2147483648 % 2 == 1) = true then 9223372036854775808 + r else r) % 9223372036854775808 = r := by split <;> omega
  rw [he, word64, dec64, hm]
  split
  · rfl
  · split
    · rfl
    · rw [if_pos (by omega)]; rfl
end Go.Proofs.Ytmplincflbhmiaa
namespace Go.Proofs.Ytmplincflbhmiaa
set_option linter.unusedSimpArgs false
set_option linter.unusedVariables false
open Go Cn Go.RowKit
/-- mag * 2 ^ place is at most 2 ^ k -/
def Le2 (k : Int) (m : Nat) (e : Int) : Prop := m = 0 ∨ (e ≤ k ∧ m ≤ 2 ^ (k - e).toNat)
theorem Le2.up {k k' : Int} {m : Nat} {e : Int} (h : Le2 k m e) (hk : k ≤ k') : Le2 k' m e := by
  rcases h with h | ⟨h1, h2⟩
  · exact .inl h
  · exact .inr ⟨by omega, Nat.le_trans h2 (Nat.pow_le_pow_right (by decide) (by omega))⟩
def DLe (k : Int) : Ieee.Datum → Prop
  | .number _ m e => Le2 k m e
  | _ => False
end Go.Proofs.Ytmplincflbhmiaa
namespace Go.Proofs.Ytmplincflbhmiaa
set_option linter.unusedSimpArgs false
set_option linter.unusedVariables false
open Go Cn Go.RowKit
/-! ### order -/
end Go.Proofs.Ytmplincflbhmiaa
namespace Go.Proofs.Ytmplincflbhmiaa
set_option linter.unusedSimpArgs false
set_option linter.unusedVariables false
open Go Cn Go.RowKit
/-! ### the operations -/
theorem DLe.up {k k' : Int} {d : Ieee.Datum} (h : DLe k d) (hk : k ≤ k') : DLe k' d := by
  cases d with
  | number s m e => exact Le2.up (show Le2 k m e from h) hk
  | infinity s => exact absurd h id
  | nan a b => exact absurd h id
end Go.Proofs.Ytmplincflbhmiaa
namespace Go.Proofs.Ytmplincflbhmiaa
set_option linter.unusedSimpArgs false
set_option linter.unusedVariables false
open Go Cn Go.RowKit
section
variable {P : Program} {N B : Nat} {W : World}
end
section
variable {P : Program} {N B : Nat} {E : Env} {W : World} {ops : Array Oper} {K : Exit → Env → World → Prop} {T : Tab} {o : Oper}
end
section
variable {B : Nat} {A W W' : World} {L L' : List Res}
end
end Go.Proofs.Ytmplincflbhmiaa
namespace Go.Proofs.Ytmplincflbhmiaa
set_option linter.unusedSimpArgs false
set_option linter.unusedVariables false
open Go Cn Go.RowKit
/-! ### bounds -/
section
variable {B : Nat} {A W W' : World} {L L' : List Res}
/-! ### the same of 32-bit numbers -/
end
end Go.Proofs.Ytmplincflbhmiaa
namespace Go.Proofs.Ytmplincflbhmiaa
set_option linter.unusedSimpArgs false
set_option linter.unusedVariables false
open Go Cn Go.RowKit
section
variable {B : Nat} {A W W' : World} {L L' : List Res}
end
end Go.Proofs.Ytmplincflbhmiaa
namespace Go.Proofs.Ytmplincflbhmiaa
set_option linter.unusedSimpArgs false
set_option linter.unusedVariables false
open Go Cn Go.RowKit
section
variable {B : Nat} {W : World}
end
end Go.Proofs.Ytmplincflbhmiaa
namespace Go.Proofs.Ytmplincflbhmiaa
set_option linter.unusedSimpArgs false
set_option linter.unusedVariables false
open Go Cn Go.RowKit
theorem fop_lt {op : BinOp} {x y : Nat} : fop op .f32 x y < 4294967296 := by
  cases h : floatBits op .f32 x y with
  | none => rw [fop_none h]; decide
  | some r =>
    rw [fop_some h]
    refine cb_lt ?_
    have e : (2 : Nat) ^ Ieee.single.width = 4294967296 := rfl
    rw [← e]
    cases op <;> simp only [floatBits] at h <;> first | cases h | skip
    · exact Ieee.Format.add_lt _ h
    · exact Ieee.Format.sub_lt _ h
    · exact Ieee.Format.mul_lt _ h
    · exact Ieee.Format.div_lt _ h
section
variable {B : Nat} {A W W' : World} {L L' : List Res}
end
end Go.Proofs.Ytmplincflbhmiaa
