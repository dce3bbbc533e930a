/- Plain laws of floats: what is finite, two ways told. -/
import Derived.Test.YtmplincflbhmiaaCn9
namespace Go.Proofs.Ytmplincflbhmiaa
set_option linter.unusedSimpArgs false
set_option linter.unusedVariables false
open Go Cn

/-- neither an infinity nor a not-a-number -/
def isFin (k : FloatKind) (x : Nat) : Bool :=
  match k.decode x with
  | .number _ _ _ => true
  | _ => false
theorem isFin_eq (k : FloatKind) (x : Nat) : isFin k x = (!(k.decode x).isNaN && !(k.decode x).isInfinity) := by
  unfold isFin
  cases k.decode x <;> rfl
theorem order_self {k : FloatKind} {x : Nat} (h : (k.decode x).isNaN = false) : k.format.order x x = some .eq := by
  show (k.decode x).order (k.decode x) = some .eq
  cases hd : k.decode x with
  | number s m e =>
    exact congrArg some (Int.compare_eq_eq.mpr rfl)
  | infinity s => cases s <;> rfl
  | nan s f => rw [hd] at h; cases h
theorem neq_self (k : FloatKind) (x : Nat) : fcmp .neq k x x = (k.decode x).isNaN := by
  unfold fcmp
  cases h : (k.decode x).isNaN
  · rw [order_self h]; rfl
  · rw [show k.format.order x x = none from order_nan_l h]; rfl
theorem eql_self (k : FloatKind) (x : Nat) : fcmp .eql k x x = !(k.decode x).isNaN := by
  unfold fcmp
  cases h : (k.decode x).isNaN
  · rw [order_self h]; rfl
  · rw [show k.format.order x x = none from order_nan_l h]; rfl
theorem cb_zero (k : FloatKind) : cb k 0 = 0 := cb_num (by cases k <;> decide)
theorem write_zero (k : FloatKind) (i : Int) : k.format.write (.number false 0 i) = 0 := by
  show k.format.nearest false 0 i = 0
  unfold Ieee.Format.nearest
  rw [if_pos rfl]
  rfl
/-- what is taken from itself is zero where it is finite alone -/
theorem sub_self_eql (x : Nat) : fcmp .eql .f32 (fop .sub .f32 x x) 0 = isFin .f32 x := by
  have hq : ∀ y, FloatKind.f32.format.order (qnan .f32) y = none := fun y => order_nan_l (qnan_nan .f32)
  cases hd : FloatKind.f32.decode x with
  | number s m i =>
    have h1 : floatBits .sub .f32 x x = some 0 := by
      show ((FloatKind.f32.decode x).sum (FloatKind.f32.decode x).opposite).map _ = _
      rw [hd]
      show Option.map _ (some (Ieee.Datum.number _ _ _)) = _
      have ht : Ieee.signed s m (i - min i i).toNat + Ieee.signed (!s) m (i - min i i).toNat = 0 := by
        cases s <;> simp only [Ieee.signed] <;> simp <;> omega
      rw [ht]
      simp only [if_true, Int.natAbs_zero, Option.map_some]
      have : (s && !s) = false := by cases s <;> rfl
      rw [this]
      exact congrArg some (write_zero .f32 _)
    rw [fop_some h1, cb_zero]
    have : isFin .f32 x = true := by simp [isFin, hd]
    rw [this]
    unfold fcmp
    rw [order_self (k := .f32) (x := 0) (by decide)]; rfl
  | infinity s =>
    have h1 : floatBits .sub .f32 x x = none := by
      show ((FloatKind.f32.decode x).sum (FloatKind.f32.decode x).opposite).map _ = _
      rw [hd]; cases s <;> rfl
    rw [fop_none h1]
    have : isFin .f32 x = false := by simp [isFin, hd]
    rw [this]
    unfold fcmp
    rw [hq]; rfl
  | nan s f =>
    have h1 : floatBits .sub .f32 x x = none := by
      show ((FloatKind.f32.decode x).sum (FloatKind.f32.decode x).opposite).map _ = _
      rw [hd]; rfl
    rw [fop_none h1]
    have : isFin .f32 x = false := by simp [isFin, hd]
    rw [this]
    unfold fcmp
    rw [hq]; rfl

/-- a number of a sign, and what is read of its word without the sign -/
theorem read_abs {y : Nat} (h : (FloatKind.f64.decode y).isNaN = false) : (∃ s m e m' , FloatKind.f64.decode y = .number s m e ∧ FloatKind.f64.decode (y % 9223372036854775808) = .number false m' e ∧ m' = m ∧ m ≤ 9007199254740991 ∧ e ≤ 971 ∧ -1074 ≤ e) ∨
    (∃ s, FloatKind.f64.decode y = .infinity s ∧ FloatKind.f64.decode (y % 9223372036854775808) = .infinity false) := by
  have hsw : Ieee.double.signWeight = 9223372036854775808 := by decide
  have hbi : Ieee.double.binade = 4503599627370496 := by decide
  have hin : Ieee.double.infRung = 9218868437227405312 := by decide
  have hlp : Ieee.double.leastPlace = -1074 := by decide
  have e1 : FloatKind.f64.decode y = Ieee.double.read y := rfl
  have e2 : FloatKind.f64.decode (y % 9223372036854775808) = Ieee.double.read (y % 9223372036854775808) := rfl
  have hn : (y % 9223372036854775808 / 9223372036854775808 % 2 == 1) = false := by
    have : y % 9223372036854775808 / 9223372036854775808 = 0 := by omega
    rw [this]; rfl
  rw [e1] at h ⊢
  rw [e2]
  unfold Ieee.Format.read at h ⊢
  rw [hsw, hbi, hin, hlp] at h ⊢
  simp only [Nat.mod_mod, hn] at h ⊢
  by_cases h1 : y % 9223372036854775808 < 4503599627370496
  · left
    rw [if_pos h1, if_pos h1]
    exact ⟨_, _, _, _, rfl, rfl, rfl, by omega, by omega, by omega⟩
  · rw [if_neg h1] at h ⊢
    rw [if_neg h1]
    by_cases h2 : y % 9223372036854775808 < 9218868437227405312
    · left
      rw [if_pos h2, if_pos h2]
      have : y % 9223372036854775808 / 4503599627370496 ≤ 2046 := by omega
      exact ⟨_, _, _, _, rfl, rfl, rfl, by omega, by omega, by omega⟩
    · rw [if_neg h2] at h ⊢
      rw [if_neg h2]
      by_cases h3 : y % 9223372036854775808 = 9218868437227405312
      · right
        rw [if_pos h3, if_pos h3]
        exact ⟨_, rfl, rfl⟩
      · rw [if_neg h3] at h; cases h

theorem abs_gt_max (y : Nat) : fcmp .gtr .f64 (fabs y) 9218868437227405311 = (FloatKind.f64.decode y).isInfinity := by
  have hmax : FloatKind.f64.decode 9218868437227405311 = .number false 9007199254740991 971 := by decide
  unfold fabs
  cases h : (FloatKind.f64.decode y).isNaN
  · rw [cb_num (by rw [nan_mod64]; exact h)]
    unfold fcmp
    show (((FloatKind.f64.decode _).order (FloatKind.f64.decode _)) == some .gt) = _
    rw [hmax]
    rcases read_abs h with ⟨s, m, e, m', h1, h2, h3, h4, h5, h6⟩ | ⟨s, h1, h2⟩
    · rw [h1, h2]
      subst h3
      show (some (compare (Ieee.signed false m' (e - min e 971).toNat) (Ieee.signed false 9007199254740991 (971 - min e 971).toNat)) == some .gt) = false
      have hmin : min e 971 = e := by omega
      rw [hmin]
      have hz : (e - e).toNat = 0 := by omega
      rw [hz]
      have hle : ¬ (Ieee.signed false m' 0 > Ieee.signed false 9007199254740991 (971 - e).toNat) := by
        simp only [Ieee.signed, Bool.false_eq_true, if_false, Nat.shiftLeft_zero]
        have : (9007199254740991 : Nat) ≤ 9007199254740991 <<< (971 - e).toNat := by
          rw [Nat.shiftLeft_eq]
          exact Nat.le_mul_of_pos_right _ (Nat.two_pow_pos _)
        omega
      have hc : compare (Ieee.signed false m' 0) (Ieee.signed false 9007199254740991 (971 - e).toNat) ≠ .gt := by
        intro hg
        exact hle (Int.compare_eq_gt.1 hg)
      cases hcc : compare (Ieee.signed false m' 0) (Ieee.signed false 9007199254740991 (971 - e).toNat) with
      | lt => rfl
      | eq => rfl
      | gt => exact absurd hcc hc
    · rw [h1, h2]; rfl
  · rw [cb_nan (by rw [nan_mod64]; exact h)]
    unfold fcmp
    rw [show FloatKind.f64.format.order (qnan .f64) _ = none from order_nan_l (qnan_nan .f64)]
    obtain ⟨s, t, e⟩ := nan_of h
    rw [e]; rfl

theorem nearest_not_nan (k : FloatKind) (s : Bool) (m : Nat) (e : Int) : (k.decode (k.encode (.number s m e))).isNaN = false := by
  have h : ∀ f : Ieee.Format, (f.read (f.nearest s m e)).isNaN = false := by
    intro f
    rw [isNaN_rung]
    have hlt : ∀ r, r ≤ f.infRung → (f.word s r) % f.signWeight = r := by
      intro r hr
      have := f.infRung_lt
      cases s
      · simp only [Ieee.Format.word, Bool.false_eq_true, if_false]; exact Nat.mod_eq_of_lt (by omega)
      · simp only [Ieee.Format.word, if_true]; rw [Nat.add_mod_left]; exact Nat.mod_eq_of_lt (by omega)
    unfold Ieee.Format.nearest
    split
    · rw [hlt 0 (by omega)]
      have : 0 < f.binade := Nat.two_pow_pos _
      simp [this]
    · dsimp only
      rw [hlt _ (Nat.min_le_right _ _)]
      have := Nat.min_le_right ((max (e + ↑m.log2 - ↑f.fractionBits) f.leastPlace - f.leastPlace).toNat * f.binade + Ieee.Toward.even.cut s (m <<< (e - max (e + ↑m.log2 - ↑f.fractionBits) f.leastPlace).toNat) (max (e + ↑m.log2 - ↑f.fractionBits) f.leastPlace - e).toNat) f.infRung
      simp only [decide_eq_false_iff_not]
      omega
  exact h k.format
theorem wide_isNaN (x : Nat) : (FloatKind.f64.decode (fwide x)).isNaN = (FloatKind.f32.decode x).isNaN := by
  have h := fconv_wide x
  unfold fconv at h
  rw [if_neg (by decide)] at h
  split at h
  · rename_i s f hd
    rw [← Option.some.inj h, qnan_nan, hd]; rfl
  · rename_i s hd
    rw [← Option.some.inj h, cb_isNaN, hd]
    cases s <;> decide
  · rename_i s m e hd
    split at h
    · cases h
    · rw [← Option.some.inj h, cb_isNaN, nearest_not_nan, hd]; rfl
theorem wide_isInf (x : Nat) : (FloatKind.f64.decode (fwide x)).isInfinity = (FloatKind.f32.decode x).isInfinity := by
  have h := fconv_wide x
  unfold fconv at h
  rw [if_neg (by decide)] at h
  split at h
  · rename_i s f hd
    rw [← Option.some.inj h, hd]
    show _ = false
    decide
  · rename_i s hd
    rw [← Option.some.inj h, hd]
    rw [cb_num (by cases s <;> decide)]
    cases s <;> decide
  · rename_i s m e hd
    split at h
    · cases h
    · rename_i hni
      rw [← Option.some.inj h, cb_num (nearest_not_nan .f64 s m e), hd]
      simpa [Ieee.Datum.isInfinity] using hni
theorem wide_fin (x : Nat) : isFin .f64 (fwide x) = isFin .f32 x := by
  rw [isFin_eq, isFin_eq, wide_isNaN, wide_isInf]
attribute [irreducible] isFin
end Go.Proofs.Ytmplincflbhmiaa
