/- How great numbers can be: no number becomes too great for its format. -/
import Derived.Test.YtaiebodmlnpbkaaLh
namespace Go.Proofs.Ytaiebodmlnpbkaa
set_option linter.unusedSimpArgs false
set_option linter.unusedVariables false
open Go Cn Go.RowKit
/-- mag * 2 ^ place is at most 2 ^ k -/
def Le2 (k : Int) (m : Nat) (e : Int) : Prop := m = 0 ∨ (e ≤ k ∧ m ≤ 2 ^ (k - e).toNat)
theorem Le2.up {k k' : Int} {m : Nat} {e : Int} (h : Le2 k m e) (hk : k ≤ k') : Le2 k' m e := by
  rcases h with h | ⟨h1, h2⟩
  · exact .inl h
  · exact .inr ⟨by omega, Nat.le_trans h2 (Nat.pow_le_pow_right (by decide) (by omega))⟩
def DLe (k : Int) : Ieee.Datum → Prop
  | .number _ m e => Le2 k m e
  | _ => False
/-- cutting digits: not above what is next above -/
theorem cut_le {neg : Bool} {n drop b : Nat} (h : n ≤ b * 2 ^ drop) : Ieee.Toward.even.cut neg n drop ≤ b := by
  unfold Ieee.Toward.cut
  dsimp only
  rw [Nat.one_shiftLeft]
  by_cases hd : drop ≤ n.log2 + 2
  · rw [Nat.min_eq_left hd]
    generalize 2 ^ drop = g at *
    by_cases hg : g = 0
    · subst hg
      have : n = 0 := by omega
      subst this
      simp
    have h1 : n / g ≤ b := by
      have := Nat.div_le_div_right (c := g) h
      rwa [Nat.mul_div_cancel _ (by omega)] at this
    by_cases h2 : n / g = b
    · have h3 : n / g * g ≤ n := Nat.div_mul_le_self n g
      rw [h2] at h3
      have h4 : n = b * g := by omega
      have h5 : n % g = 0 := by rw [h4]; exact Nat.mul_mod_left _ _
      rw [h2, h5]
      have : (decide (g < 2 * 0) || g == 2 * 0 && b % 2 == 1) = false := by simp; omega
      rw [this]
      simp
    · have : (decide (g < 2 * (n % g)) || g == 2 * (n % g) && n / g % 2 == 1).toNat ≤ 1 := Bool.toNat_le _
      omega
  · rw [Nat.min_eq_right (by omega)]
    have hn : n < 2 ^ (n.log2 + 1) := Nat.lt_log2_self
    have hg : 2 ^ (n.log2 + 2) = 2 * 2 ^ (n.log2 + 1) := by rw [show n.log2 + 2 = (n.log2 + 1) + 1 by omega, Nat.pow_succ]; omega
    generalize 2 ^ (n.log2 + 2) = g at *
    have h1 : n / g = 0 := Nat.div_eq_of_lt (by omega)
    have h2 : n % g = n := Nat.mod_eq_of_lt (by omega)
    rw [h1, h2]
    have : (decide (g < 2 * n) || g == 2 * n && 0 % 2 == 1) = false := by simp; omega
    rw [this]
    simp
theorem log_le {m : Nat} {k e : Int} (hm : m ≠ 0) (h : Le2 k m e) : (m.log2 : Int) + e ≤ k := by
  rcases h with h | ⟨h1, h2⟩
  · exact absurd h hm
  · have h3 : 2 ^ m.log2 ≤ m := Nat.log2_self_le hm
    have h4 : 2 ^ m.log2 ≤ 2 ^ (k - e).toNat := Nat.le_trans h3 h2
    have h5 := (Nat.pow_le_pow_iff_right (by decide)).1 h4
    omega
theorem le_log {m : Nat} (e : Int) : Le2 ((m.log2 : Int) + 1 + e) m e := by
  refine .inr ⟨by omega, ?_⟩
  rw [show ((m.log2 : Int) + 1 + e - e).toNat = m.log2 + 1 by omega]
  exact Nat.le_of_lt Nat.lt_log2_self
theorem shl_le {m b : Nat} {k e l : Int} (h : Le2 k m e) (hl : l ≤ k) (hb : b = 2 ^ (k - l).toNat) : m <<< (e - l).toNat ≤ b * 2 ^ (l - e).toNat := by
  rcases h with h | ⟨h1, h2⟩
  · subst h; simp
  · rw [Nat.shiftLeft_eq, hb, ← Nat.pow_add]
    refine Nat.le_trans (Nat.mul_le_mul_right _ h2) ?_
    rw [← Nat.pow_add]
    exact Nat.pow_le_pow_right (by decide) (by omega)
/-- the rung of what is at most 2 ^ k -/
theorem nearest_le (f : Ieee.Format) {s : Bool} {m : Nat} {p k : Int} (h : Le2 k m p) (hk : f.leastPlace + f.fractionBits ≤ k) : ∃ r, r ≤ (k - f.leastPlace - f.fractionBits + 1).toNat * f.binade ∧ r ≤ f.infRung ∧ f.nearest s m p = f.word s r := by
  unfold Ieee.Format.nearest
  by_cases hm : m = 0
  · rw [if_pos hm]
    exact ⟨0, Nat.zero_le _, Nat.zero_le _, rfl⟩
  rw [if_neg hm]
  dsimp only
  refine ⟨_, ?_, Nat.min_le_right _ _, rfl⟩
  refine Nat.le_trans (Nat.min_le_left _ _) ?_
  have hl := log_le hm h
  unfold Ieee.Format.binade at *
  generalize f.leastPlace = ls at *
  generalize f.fractionBits = fb at *
  by_cases hc : ls ≤ p + m.log2 - fb
  · rw [Int.max_eq_left hc]
    have h1 := cut_le (neg := s) (shl_le (le_log (m := m) p) (l := p + m.log2 - fb) (b := 2 ^ (fb + 1)) (by omega) (by congr 1; omega))
    have h2 := cut_le (neg := s) (shl_le h (l := p + m.log2 - fb) (by omega) rfl)
    generalize Ieee.Toward.even.cut s (m <<< (p - (p + m.log2 - fb)).toNat) (p + m.log2 - fb - p).toNat = c at *
    by_cases he : p + m.log2 = k
    · rw [show (k - (p + (m.log2 : Int) - fb)).toNat = fb by omega] at h2
      rw [show (k - ls - fb + 1).toNat = (p + (m.log2 : Int) - fb - ls).toNat + 1 by omega, Nat.add_mul, Nat.one_mul]
      omega
    · have h3 : (p + (m.log2 : Int) - fb - ls).toNat + 2 ≤ (k - ls - fb + 1).toNat := by omega
      have h4 := Nat.mul_le_mul_right (2 ^ fb) h3
      rw [Nat.add_mul] at h4
      rw [Nat.pow_succ] at h1
      omega
  · rw [Int.max_eq_right (by omega)]
    have h1 : Ieee.Toward.even.cut s (m <<< (p - ls).toNat) (ls - p).toNat ≤ 2 ^ fb := cut_le (neg := s) (shl_le ((le_log (m := m) p).up (k' := ls + fb) (by omega)) (by omega) (by congr 1; omega))
    rw [show (ls - ls).toNat = 0 by omega, Nat.zero_mul, Nat.zero_add]
    have h3 : 1 ≤ (k - ls - fb + 1).toNat := by omega
    have h4 := Nat.mul_le_mul_right (2 ^ fb) h3
    omega
theorem DLe.of64 {k : Int} {s : Bool} {r : Nat} (hk : -1022 ≤ k) (hk2 : k ≤ 1022) (h : r ≤ (k + 1023).toNat * 4503599627370496) : DLe k (FloatKind.f64.decode (FloatKind.f64.format.word s r)) ∧ (FloatKind.f64.decode (FloatKind.f64.format.word s r)).neg = s := by
  have hr : r < 9218868437227405312 := by omega
  have hm : (if s then 9223372036854775808 + r else r) % 9223372036854775808 = r := by split <;> omega
  have hs : ((if s then 9223372036854775808 + r else r) / 9223372036854775808 % 2 == 1) = s := by
    cases s
    · simp only [Bool.false_eq_true, if_false]
      rw [Nat.div_eq_of_lt (by omega)]; rfl
    · simp only [if_true]
      rw [show (9223372036854775808 + r) / 9223372036854775808 = 1 by omega]; rfl
  rw [word64, dec64, hm, hs]
  split
  · rename_i h1
    refine ⟨.inr ⟨by omega, ?_⟩, rfl⟩
    have : 2 ^ 52 ≤ 2 ^ (k - -1074).toNat := Nat.pow_le_pow_right (by decide) (by omega)
    omega
  · rename_i h1
    refine ⟨.inr ⟨by omega, ?_⟩, rfl⟩
    have hq : r / 4503599627370496 ≤ (k + 1023).toNat := by omega
    by_cases he : r / 4503599627370496 = (k + 1023).toNat
    · have hz : r % 4503599627370496 = 0 := by omega
      rw [hz, show (k - (-1074 + ((r / 4503599627370496 - 1 : Nat) : Int))).toNat = 52 by omega]
      decide
    · have : 2 ^ 53 ≤ 2 ^ (k - (-1074 + ((r / 4503599627370496 - 1 : Nat) : Int))).toNat := Nat.pow_le_pow_right (by decide) (by omega)
      omega
/-- what is at most 2 ^ k is at most 2 ^ k when it is rounded -/
theorem enc64 {s : Bool} {m : Nat} {p k : Int} (h : Le2 k m p) (hk : -1022 ≤ k) (hk2 : k ≤ 1022) : DLe k (FloatKind.f64.decode (FloatKind.f64.encode (.number s m p))) ∧ cb .f64 (FloatKind.f64.encode (.number s m p)) = FloatKind.f64.encode (.number s m p) := by
  obtain ⟨r, h1, h2, h3⟩ := nearest_le FloatKind.f64.format (s := s) h (by show (2 - 2 ^ (11 - 1) - 52 : Int) + 52 ≤ k; omega)
  have h4 : FloatKind.f64.encode (.number s m p) = FloatKind.f64.format.word s r := h3
  have h5 : r ≤ (k + 1023).toNat * 4503599627370496 := by
    have e : (k - FloatKind.f64.format.leastPlace - FloatKind.f64.format.fractionBits + 1).toNat * FloatKind.f64.format.binade = (k + 1023).toNat * 4503599627370496 := by
      show (k - (2 - 2 ^ (11 - 1) - 52 : Int) - 52 + 1).toNat * 4503599627370496 = _
      congr 1
      omega
    rw [← e]; exact h1
  rw [h4]
  exact ⟨(DLe.of64 hk hk2 h5).1, cb_word64 h2⟩
/-- what is small enough narrows to a number -/
theorem narrow_ok {x : Nat} {k : Int} (h : DLe k (FloatKind.f64.decode x)) (hk : -126 ≤ k) (hk2 : k ≤ 126) : ∃ r, fconv .f64 .f32 x = some r := by
  unfold fconv
  rw [if_neg (by decide)]
  cases hd : FloatKind.f64.decode x with
  | nan a b => exact ⟨_, rfl⟩
  | infinity a => rw [hd] at h; exact absurd h id
  | number s m e =>
    rw [hd] at h
    obtain ⟨r, h1, h2, h3⟩ := nearest_le FloatKind.f32.format (s := s) h (by show (2 - 2 ^ (8 - 1) - 23 : Int) + 23 ≤ k; omega)
    have h4 : FloatKind.f32.encode (.number s m e) = FloatKind.f32.format.word s r := h3
    have h5 : r ≤ (k + 127).toNat * 8388608 := by
      have e : (k - FloatKind.f32.format.leastPlace - FloatKind.f32.format.fractionBits + 1).toNat * FloatKind.f32.format.binade = (k + 127).toNat * 8388608 := by
        show (k - (2 - 2 ^ (8 - 1) - 23 : Int) - 23 + 1).toNat * 8388608 = _
        congr 1
        omega
      rw [← e]; exact h1
    have h6 : r < 2139095040 := by omega
    have hw : FloatKind.f32.format.word s r = if s then 2147483648 + r else r := rfl
    have hi : (FloatKind.f32.decode (FloatKind.f32.encode (.number s m e))).isInfinity = false := by
      have hm : (if s then 2147483648 + r else r) % 2147483648 = r := by split <;> omega
      rw [h4, hw, dec32, hm]
      split
      · rfl
      · rfl
    dsimp only
    rw [hi]
    exact ⟨_, rfl⟩
end Go.Proofs.Ytaiebodmlnpbkaa
