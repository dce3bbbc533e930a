/- Halves, doubles and bounds of 64-bit numbers, exactly. -/
import Derived.Test.YtaiebodmlnpbkaaLq
namespace Go.Proofs.Ytaiebodmlnpbkaa
set_option linter.unusedSimpArgs false
set_option linter.unusedVariables false
open Go Cn Go.RowKit
theorem cut_exact (s : Bool) {n : Nat} (d : Nat) (hn : n ≠ 0) : Ieee.Toward.even.cut s (n * 2 ^ d) d = n := by
  have hp : 0 < 2 ^ d := Nat.pow_pos (by decide)
  have hd : d ≤ (n * 2 ^ d).log2 + 2 := by
    have h1 : 2 ^ d ≤ n * 2 ^ d := Nat.le_mul_of_pos_left _ (by omega)
    have h2 := (Nat.le_log2 (by have := Nat.mul_pos (Nat.pos_of_ne_zero hn) hp; omega)).2 h1
    omega
  unfold Ieee.Toward.cut
  dsimp only
  rw [Nat.one_shiftLeft, Nat.min_eq_left hd, Nat.mul_div_cancel _ hp, Nat.mul_mod_left]
  have : (decide (2 ^ d < 2 * 0) || 2 ^ d == 2 * 0 && n % 2 == 1) = false := by simp
  rw [this]
  simp
theorem log_shift {m j : Nat} (h1 : 4503599627370496 ≤ m) (h2 : m < 9007199254740992) : (m * 2 ^ j).log2 = 52 + j := by
  have hp : 0 < 2 ^ j := Nat.pow_pos (by decide)
  refine (Nat.log2_eq_iff (by have := Nat.mul_pos (show 0 < m by omega) hp; omega)).2 ⟨?_, ?_⟩
  · rw [Nat.pow_add]
    exact Nat.mul_le_mul_right _ h1
  · rw [show 52 + j + 1 = 53 + j by omega, Nat.pow_add]
    exact Nat.mul_lt_mul_of_pos_right h2 hp
theorem enc_exact {s : Bool} {m j : Nat} {p : Int} (h1 : 4503599627370496 ≤ m) (h2 : m < 9007199254740992) (hp : -1074 ≤ p + j) (hi : (p + j + 1074).toNat * 4503599627370496 + m ≤ 9218868437227405312) :
    FloatKind.f64.encode (.number s (m * 2 ^ j) p) = FloatKind.f64.format.word s ((p + j + 1074).toNat * 4503599627370496 + m) := by
  have hm : m * 2 ^ j ≠ 0 := by
    have hp : 0 < 2 ^ j := Nat.pow_pos (by decide)
    have := Nat.mul_pos (show 0 < m by omega) hp
    omega
  show Ieee.Format.nearest _ s (m * 2 ^ j) p = _
  unfold Ieee.Format.nearest
  rw [if_neg hm]
  dsimp only
  rw [log_shift h1 h2]
  have hl : FloatKind.f64.format.leastPlace = -1074 := rfl
  have hf : (FloatKind.f64.format.fractionBits : Int) = 52 := rfl
  have hb : FloatKind.f64.format.binade = 4503599627370496 := rfl
  have hin : FloatKind.f64.format.infRung = 9218868437227405312 := rfl
  rw [hl, hf, hb, hin, show p + ((52 + j : Nat) : Int) - 52 = p + j by omega, Int.max_eq_left hp, show (p - (p + (j : Int))).toNat = 0 by omega, show (p + (j : Int) - p).toNat = j by omega, Nat.shiftLeft_zero, cut_exact s j (by omega), show (p + (j : Int) - -1074) = p + j + 1074 by omega, Nat.min_eq_left hi]
theorem enc_small {s : Bool} {m : Nat} {p : Int} (h0 : m ≠ 0) (hl2 : m.log2 ≤ 52) (hp : -1074 ≤ p + m.log2 - 52) (hp2 : p + m.log2 ≤ 1000) :
    ∃ r, FloatKind.f64.encode (.number s m p) = FloatKind.f64.format.word s r ∧ (p + m.log2 + 1023).toNat * 4503599627370496 ≤ r ∧ r < (p + m.log2 + 1024).toNat * 4503599627370496 := by
  have hlo : 4503599627370496 ≤ m * 2 ^ (52 - m.log2) := by
    have h1 : 2 ^ m.log2 ≤ m := Nat.log2_self_le h0
    calc 4503599627370496 = 2 ^ m.log2 * 2 ^ (52 - m.log2) := by rw [← Nat.pow_add, show m.log2 + (52 - m.log2) = 52 by omega]
      _ ≤ _ := Nat.mul_le_mul_right _ h1
  have hhi : m * 2 ^ (52 - m.log2) < 9007199254740992 := by
    have h1 : m < 2 ^ (m.log2 + 1) := Nat.lt_log2_self
    calc m * 2 ^ (52 - m.log2) < 2 ^ (m.log2 + 1) * 2 ^ (52 - m.log2) := Nat.mul_lt_mul_of_pos_right h1 (Nat.pow_pos (by decide))
      _ = 9007199254740992 := by rw [← Nat.pow_add, show m.log2 + 1 + (52 - m.log2) = 53 by omega]
  show ∃ r, Ieee.Format.nearest _ s m p = _ ∧ _
  unfold Ieee.Format.nearest
  rw [if_neg h0]
  dsimp only
  have hl : FloatKind.f64.format.leastPlace = -1074 := rfl
  have hf : (FloatKind.f64.format.fractionBits : Int) = 52 := rfl
  have hb : FloatKind.f64.format.binade = 4503599627370496 := rfl
  have hin : FloatKind.f64.format.infRung = 9218868437227405312 := rfl
  rw [hl, hf, hb, hin, Int.max_eq_left (by omega), show (p - (p + (m.log2 : Int) - 52)).toNat = 52 - m.log2 by omega, show (p + (m.log2 : Int) - 52 - p).toNat = 0 by omega, Nat.shiftLeft_eq]
  have hc := cut_exact s (n := m * 2 ^ (52 - m.log2)) 0 (by omega)
  rw [Nat.pow_zero, Nat.mul_one] at hc
  rw [hc, show (p + (m.log2 : Int) - 52 - -1074) = p + m.log2 + 1022 by omega]
  generalize m * 2 ^ (52 - m.log2) = w at *
  refine ⟨_, rfl, ?_, ?_⟩ <;> rw [Nat.min_eq_left (by omega)] <;> omega
/-- a normal number above zero -/
theorem dec_norm {r : Nat} (h1 : 4503599627370496 ≤ r) (h2 : r < 9218868437227405312) : FloatKind.f64.decode r = .number false (4503599627370496 + r % 4503599627370496) (-1074 + ((r / 4503599627370496 - 1 : Nat) : Int)) := by
  have hm : r % 9223372036854775808 = r := by omega
  have hs : (r / 9223372036854775808 % 2 == 1) = false := by rw [Nat.div_eq_of_lt (by omega)]; rfl
  rw [dec64, hm, hs, if_neg (by omega), if_pos h2]
theorem dec_two : FloatKind.f64.decode 4611686018427387904 = .number false 4503599627370496 (-51) := by rw [dec_norm (by decide) (by decide)]; rfl
theorem dec_one : FloatKind.f64.decode 4607182418800017408 = .number false 4503599627370496 (-52) := by rw [dec_norm (by decide) (by decide)]; rfl
theorem fop_enc {op : BinOp} {x y : Nat} {s : Bool} {m : Nat} {e : Int} {r : Nat} (h : floatBits op .f64 x y = some (FloatKind.f64.encode (.number s m e))) (he : FloatKind.f64.encode (.number s m e) = FloatKind.f64.format.word s r) (hr : r ≤ 9218868437227405312) : fop op .f64 x y = FloatKind.f64.format.word s r := by
  rw [fop_some h, he, cb_word64 hr]
theorem half {r : Nat} (h1 : 9007199254740992 ≤ r) (h2 : r < 9218868437227405312) : fop .quo .f64 r 4611686018427387904 = r - 4503599627370496 := by
  have hd := dec_norm (by omega) h2
  have hm2 : 4503599627370496 + r % 4503599627370496 < 9007199254740992 := by omega
  have hlog := log_shift (m := 4503599627370496 + r % 4503599627370496) (j := 0) (by omega) hm2
  rw [Nat.pow_zero, Nat.mul_one] at hlog
  have h : floatBits .quo .f64 r 4611686018427387904 = some (FloatKind.f64.encode (.number false ((4503599627370496 + r % 4503599627370496) * 2 ^ 3) (-1074 + ((r / 4503599627370496 - 1 : Nat) : Int) - 4))) := by
    show Option.map FloatKind.f64.format.write (((FloatKind.f64.decode r).quotient 54 (FloatKind.f64.decode 4611686018427387904))) = _
    rw [hd, dec_two]
    generalize 4503599627370496 + r % 4503599627370496 = m at *
    unfold Ieee.Datum.quotient
    dsimp only
    rw [if_neg (by decide), hlog, show (54 + Nat.log2 4503599627370496 - (52 + 0)) = 54 by decide, Nat.shiftLeft_eq]
    have h3 : m * 2 ^ 54 / 4503599627370496 = m * 4 := by omega
    have h4 : m * 2 ^ 54 % 4503599627370496 = 0 := by omega
    rw [h3, h4]
    simp only [Option.map_some, Bool.xor_self, bne_self_eq_false, Bool.toNat_false, Nat.add_zero]
    congr 2
    show Ieee.Datum.number false _ _ = Ieee.Datum.number false _ _
    congr 1
    · omega
    · omega
  have he := enc_exact (s := false) (m := 4503599627370496 + r % 4503599627370496) (j := 3) (p := -1074 + ((r / 4503599627370496 - 1 : Nat) : Int) - 4) (by omega) hm2 (by omega) (by omega)
  rw [fop_enc h he (by omega), word64]
  simp only [Bool.false_eq_true, if_false]
  omega
theorem twice {r : Nat} (h1 : 4503599627370496 ≤ r) (h2 : r < 9214364837600034816) : fop .mul .f64 r 4611686018427387904 = r + 4503599627370496 := by
  have hd := dec_norm h1 (by omega)
  have hm2 : 4503599627370496 + r % 4503599627370496 < 9007199254740992 := by omega
  have h : floatBits .mul .f64 r 4611686018427387904 = some (FloatKind.f64.encode (.number false ((4503599627370496 + r % 4503599627370496) * 2 ^ 52) (-1074 + ((r / 4503599627370496 - 1 : Nat) : Int) + -51))) := by
    show Option.map FloatKind.f64.format.write (((FloatKind.f64.decode r).product (FloatKind.f64.decode 4611686018427387904))) = _
    rw [hd, dec_two]
    rfl
  have he := enc_exact (s := false) (m := 4503599627370496 + r % 4503599627370496) (j := 52) (p := -1074 + ((r / 4503599627370496 - 1 : Nat) : Int) + -51) (by omega) hm2 (by omega) (by omega)
  rw [fop_enc h he (by omega), word64]
  simp only [Bool.false_eq_true, if_false]
  omega
/-! ### order -/
def mgD (r : Nat) : Nat := (4503599627370496 + r % 4503599627370496) * 2 ^ (r / 4503599627370496 - 1)
theorem mgD_lt {r t : Nat} (h1 : 4503599627370496 ≤ r) (h : r < t) : mgD r < mgD t := by
  unfold mgD
  by_cases hq : r / 4503599627370496 = t / 4503599627370496
  · rw [hq]
    exact Nat.mul_lt_mul_of_pos_right (by omega) (Nat.pow_pos (by decide))
  · have h3 : r / 4503599627370496 - 1 + 1 ≤ t / 4503599627370496 - 1 := by omega
    calc (4503599627370496 + r % 4503599627370496) * 2 ^ (r / 4503599627370496 - 1) < 9007199254740992 * 2 ^ (r / 4503599627370496 - 1) := Nat.mul_lt_mul_of_pos_right (by omega) (Nat.pow_pos (by decide))
      _ = 4503599627370496 * 2 ^ (r / 4503599627370496 - 1 + 1) := by rw [Nat.pow_succ]; omega
      _ ≤ 4503599627370496 * 2 ^ (t / 4503599627370496 - 1) := Nat.mul_le_mul_left _ (Nat.pow_le_pow_right (by decide) h3)
      _ ≤ _ := Nat.mul_le_mul_right _ (by omega)
theorem ord_lt {m n a b k l c : Nat} (hk : k = a + c) (hl : l = b + c) (h : m * 2 ^ k < n * 2 ^ l) : m <<< a < n <<< b := by
  rw [Nat.shiftLeft_eq, Nat.shiftLeft_eq]
  subst hk hl
  rw [Nat.pow_add, Nat.pow_add, ← Nat.mul_assoc, ← Nat.mul_assoc] at h
  exact Nat.lt_of_mul_lt_mul_right h
theorem order_lt {r t : Nat} (h1 : 4503599627370496 ≤ r) (h2 : t < 9218868437227405312) (h : r < t) : FloatKind.f64.format.order r t = some .lt ∧ FloatKind.f64.format.order t r = some .gt := by
  have hr := dec_norm h1 (by omega)
  have ht := dec_norm (r := t) (by omega) h2
  have hm := mgD_lt h1 h
  unfold mgD at hm
  rw [show FloatKind.f64.format.order r t = (FloatKind.f64.decode r).order (FloatKind.f64.decode t) from rfl, show FloatKind.f64.format.order t r = (FloatKind.f64.decode t).order (FloatKind.f64.decode r) from rfl, hr, ht]
  generalize 4503599627370496 + r % 4503599627370496 = m at *
  generalize 4503599627370496 + t % 4503599627370496 = n at *
  generalize r / 4503599627370496 - 1 = k at *
  generalize t / 4503599627370496 - 1 = l at *
  simp only [Ieee.Datum.order, Ieee.signed, Bool.false_eq_true, if_false]
  have key : m <<< (-1074 + (k : Int) - min (-1074 + (k : Int)) (-1074 + (l : Int))).toNat < n <<< (-1074 + (l : Int) - min (-1074 + (k : Int)) (-1074 + (l : Int))).toNat := ord_lt (c := min k l) (by omega) (by omega) hm
  rw [Int.min_comm (-1074 + (l : Int)) (-1074 + (k : Int))]
  generalize m <<< (-1074 + (k : Int) - min (-1074 + (k : Int)) (-1074 + (l : Int))).toNat = X at *
  generalize n <<< (-1074 + (l : Int) - min (-1074 + (k : Int)) (-1074 + (l : Int))).toNat = Y at *
  refine ⟨congrArg some ?_, congrArg some ?_⟩
  · exact Int.compare_eq_lt.2 (by omega)
  · exact Int.compare_eq_gt.2 (by omega)
theorem order_eq64 {r : Nat} (h1 : 4503599627370496 ≤ r) (h2 : r < 9218868437227405312) : FloatKind.f64.format.order r r = some .eq := by
  rw [show FloatKind.f64.format.order r r = (FloatKind.f64.decode r).order (FloatKind.f64.decode r) from rfl, dec_norm h1 h2]
  simp only [Ieee.Datum.order]
  exact congrArg some (Int.compare_eq_eq.2 rfl)
theorem geq64 {r t : Nat} (h1 : 4503599627370496 ≤ r) (h2 : r < 9218868437227405312) (h3 : 4503599627370496 ≤ t) (h4 : t < 9218868437227405312) : fcmp .geq .f64 r t = decide (t ≤ r) := by
  unfold fcmp
  dsimp only
  rcases Nat.lt_trichotomy r t with h | h | h
  · rw [(order_lt h1 h4 h).1, decide_eq_false (by omega)]; rfl
  · subst h; rw [order_eq64 h1 h2, decide_eq_true (Nat.le_refl _)]; rfl
  · rw [(order_lt h3 h2 h).2, decide_eq_true (by omega)]; rfl
theorem lss64 {r t : Nat} (h1 : 4503599627370496 ≤ r) (h2 : r < 9218868437227405312) (h3 : 4503599627370496 ≤ t) (h4 : t < 9218868437227405312) : fcmp .lss .f64 r t = decide (r < t) := by
  unfold fcmp
  dsimp only
  rcases Nat.lt_trichotomy r t with h | h | h
  · rw [(order_lt h1 h4 h).1, decide_eq_true h]; rfl
  · subst h; rw [order_eq64 h1 h2, decide_eq_false (by omega)]; rfl
  · rw [(order_lt h3 h2 h).2, decide_eq_false (by omega)]; rfl
end Go.Proofs.Ytaiebodmlnpbkaa
