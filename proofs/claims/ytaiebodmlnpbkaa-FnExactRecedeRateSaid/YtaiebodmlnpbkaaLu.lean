/- How great sums, products and quotients of 64-bit numbers can be. -/
import Derived.Test.YtaiebodmlnpbkaaLt
namespace Go.Proofs.Ytaiebodmlnpbkaa
set_option linter.unusedSimpArgs false
set_option linter.unusedVariables false
open Go Cn Go.RowKit
/-- mag * 2 ^ place is at least 2 ^ k -/
def Ge2 (k : Int) (m : Nat) (e : Int) : Prop := m ≠ 0 ∧ k ≤ m.log2 + e
def DGe (k : Int) : Ieee.Datum → Prop
  | .number _ m e => Ge2 k m e
  | _ => False
theorem shl_bnd {m : Nat} {k e b : Int} (h : Le2 k m e) (hb : b ≤ e) (hk : b ≤ k) : m <<< (e - b).toNat ≤ 2 ^ (k - b).toNat := by
  rcases h with h | ⟨h1, h2⟩
  · subst h; simp
  · rw [Nat.shiftLeft_eq]
    refine Nat.le_trans (Nat.mul_le_mul_right _ h2) ?_
    rw [← Nat.pow_add]
    exact Nat.pow_le_pow_right (by decide) (by omega)
theorem signed_abs (s : Bool) (m a : Nat) : (Ieee.signed s m a).natAbs = m <<< a := by
  unfold Ieee.signed
  generalize m <<< a = X
  cases s
  · simp only [Bool.false_eq_true, if_false]; omega
  · simp only [if_true]; omega
theorem sum_le {s t : Bool} {m n : Nat} {i j k : Int} (h1 : Le2 k m i) (h2 : Le2 k n j) : Le2 (k + 1) (Ieee.signed s m (i - min i j).toNat + Ieee.signed t n (j - min i j).toNat).natAbs (min i j) := by
  have ha := signed_abs s m (i - min i j).toNat
  have hb := signed_abs t n (j - min i j).toNat
  by_cases hk : min i j ≤ k
  · have h3 := shl_bnd h1 (b := min i j) (by omega) hk
    have h4 := shl_bnd h2 (b := min i j) (by omega) hk
    refine .inr ⟨by omega, ?_⟩
    rw [show (k + 1 - min i j).toNat = (k - min i j).toNat + 1 by omega, Nat.pow_succ]
    generalize 2 ^ (k - min i j).toNat = X at *
    generalize m <<< (i - min i j).toNat = Y at *
    generalize n <<< (j - min i j).toNat = Z at *
    omega
  · have h3 : m = 0 := by rcases h1 with h | ⟨h, -⟩; exact h; omega
    have h4 : n = 0 := by rcases h2 with h | ⟨h, -⟩; exact h; omega
    subst h3 h4
    refine .inl ?_
    rw [Nat.zero_shiftLeft] at ha hb
    omega
theorem mul_le {m n : Nat} {i j a b : Int} (h1 : Le2 a m i) (h2 : Le2 b n j) : Le2 (a + b) (m * n) (i + j) := by
  rcases h1 with h1 | ⟨h1, h3⟩
  · exact .inl (by rw [h1, Nat.zero_mul])
  rcases h2 with h2 | ⟨h2, h4⟩
  · exact .inl (by rw [h2, Nat.mul_zero])
  refine .inr ⟨by omega, Nat.le_trans (Nat.mul_le_mul h3 h4) ?_⟩
  rw [← Nat.pow_add]
  exact Nat.pow_le_pow_right (by decide) (by omega)
theorem quo_le {m n : Nat} {i j a b : Int} {c : Nat} (h1 : Le2 a m i) (h2 : Ge2 b n j) (hm : m ≠ 0) (hc : c ≤ 1) : Le2 (a - b + 1) (2 * (m <<< (54 + n.log2 - m.log2) / n) + c) (i - j - ((54 + n.log2 - m.log2 : Nat) : Int) - 1) := by
  have h3 := log_le hm h1
  rcases h1 with h1 | ⟨h1, h4⟩
  · exact absurd h1 hm
  obtain ⟨hn, h5⟩ := h2
  generalize hmo : 54 + n.log2 - m.log2 = more
  have hn2 : 2 ^ n.log2 ≤ n := Nat.log2_self_le hn
  have hD : m <<< more / n ≤ 2 ^ ((a - i).toNat + more - n.log2) := by
    rw [Nat.shiftLeft_eq]
    apply Nat.div_le_of_le_mul
    calc m * 2 ^ more ≤ 2 ^ (a - i).toNat * 2 ^ more := Nat.mul_le_mul_right _ h4
      _ = 2 ^ n.log2 * 2 ^ ((a - i).toNat + more - n.log2) := by rw [← Nat.pow_add, ← Nat.pow_add]; congr 1; omega
      _ ≤ n * 2 ^ ((a - i).toNat + more - n.log2) := Nat.mul_le_mul_right _ hn2
  refine .inr ⟨by omega, ?_⟩
  have h6 : 1 ≤ 2 ^ ((a - i).toNat + more - n.log2) := Nat.one_le_two_pow
  calc 2 * (m <<< more / n) + c ≤ 2 ^ ((a - i).toNat + more - n.log2 + 1 + 1) := by
        rw [Nat.pow_succ, Nat.pow_succ]
        generalize 2 ^ ((a - i).toNat + more - n.log2) = X at *
        omega
    _ ≤ _ := Nat.pow_le_pow_right (by decide) (by omega)
/-! ### the operations -/
theorem num_of {k : Int} {x : Nat} (h : DLe k (FloatKind.f64.decode x)) : ∃ s m e, FloatKind.f64.decode x = .number s m e ∧ Le2 k m e := by
  cases hd : FloatKind.f64.decode x with
  | number s m e => rw [hd] at h; exact ⟨s, m, e, rfl, h⟩
  | infinity s => rw [hd] at h; exact absurd h id
  | nan a b => rw [hd] at h; exact absurd h id
theorem fop_le {op : BinOp} {x y : Nat} {s : Bool} {m : Nat} {e k : Int} (h : floatBits op .f64 x y = some (FloatKind.f64.encode (.number s m e))) (hl : Le2 k m e) (hk : -1022 ≤ k) (hk2 : k ≤ 1022) : DLe k (FloatKind.f64.decode (fop op .f64 x y)) := by
  obtain ⟨h1, h2⟩ := enc64 (s := s) hl hk hk2
  rw [fop_some h, h2]
  exact h1
theorem DLe.up {k k' : Int} {d : Ieee.Datum} (h : DLe k d) (hk : k ≤ k') : DLe k' d := by
  cases d with
  | number s m e => exact Le2.up (show Le2 k m e from h) hk
  | infinity s => exact absurd h id
  | nan a b => exact absurd h id
theorem add_le64 {x y : Nat} {k : Int} (hx : DLe k (FloatKind.f64.decode x)) (hy : DLe k (FloatKind.f64.decode y)) (hk : -1022 ≤ k) (hk2 : k ≤ 1021) : DLe (k + 1) (FloatKind.f64.decode (fop .add .f64 x y)) := by
  obtain ⟨s, m, i, e1, h1⟩ := num_of hx
  obtain ⟨t, n, j, e2, h2⟩ := num_of hy
  refine fop_le (s := if Ieee.signed s m (i - min i j).toNat + Ieee.signed t n (j - min i j).toNat = 0 then s && t else decide (Ieee.signed s m (i - min i j).toNat + Ieee.signed t n (j - min i j).toNat < 0)) ?_ (sum_le (s := s) (t := t) h1 h2) (by omega) (by omega)
  show Option.map _ ((FloatKind.f64.decode x).sum (FloatKind.f64.decode y)) = _
  rw [e1, e2]
  rfl
theorem sub_le64 {x y : Nat} {k : Int} (hx : DLe k (FloatKind.f64.decode x)) (hy : DLe k (FloatKind.f64.decode y)) (hk : -1022 ≤ k) (hk2 : k ≤ 1021) : DLe (k + 1) (FloatKind.f64.decode (fop .sub .f64 x y)) := by
  obtain ⟨s, m, i, e1, h1⟩ := num_of hx
  obtain ⟨t, n, j, e2, h2⟩ := num_of hy
  refine fop_le (s := if Ieee.signed s m (i - min i j).toNat + Ieee.signed (!t) n (j - min i j).toNat = 0 then s && !t else decide (Ieee.signed s m (i - min i j).toNat + Ieee.signed (!t) n (j - min i j).toNat < 0)) ?_ (sum_le (s := s) (t := !t) h1 h2) (by omega) (by omega)
  show Option.map _ ((FloatKind.f64.decode x).sum (FloatKind.f64.decode y).opposite) = _
  rw [e1, e2]
  rfl
theorem mul_le64 {x y : Nat} {a b : Int} (hx : DLe a (FloatKind.f64.decode x)) (hy : DLe b (FloatKind.f64.decode y)) (hk : -1022 ≤ a + b) (hk2 : a + b ≤ 1022) : DLe (a + b) (FloatKind.f64.decode (fop .mul .f64 x y)) := by
  obtain ⟨s, m, i, e1, h1⟩ := num_of hx
  obtain ⟨t, n, j, e2, h2⟩ := num_of hy
  refine fop_le (s := s ^^ t) ?_ (mul_le h1 h2) hk hk2
  show Option.map _ ((FloatKind.f64.decode x).product (FloatKind.f64.decode y)) = _
  rw [e1, e2]
  rfl
theorem quo_le64 {x y : Nat} {a b : Int} (hx : DLe a (FloatKind.f64.decode x)) (hy : DGe b (FloatKind.f64.decode y)) (hk : -1022 ≤ a - b + 1) (hk2 : a - b + 1 ≤ 1022) : DLe (a - b + 1) (FloatKind.f64.decode (fop .quo .f64 x y)) := by
  obtain ⟨s, m, i, e1, h1⟩ := num_of hx
  cases e2 : FloatKind.f64.decode y with
  | infinity t => rw [e2] at hy; exact absurd hy id
  | nan t u => rw [e2] at hy; exact absurd hy id
  | number t n j =>
    rw [e2] at hy
    have hn : n ≠ 0 := hy.1
    by_cases hm : m = 0
    · subst hm
      have hz : floatBits .quo .f64 x y = some (FloatKind.f64.encode (.number (s ^^ t) (2 * (0 <<< (54 + n.log2 - Nat.log2 0) / n) + (0 <<< (54 + n.log2 - Nat.log2 0) % n != 0).toNat) (i - j - ((54 + n.log2 - Nat.log2 0 : Nat) : Int) - 1))) := by
        show Option.map _ ((FloatKind.f64.decode x).quotient 54 (FloatKind.f64.decode y)) = _
        rw [e1, e2]
        unfold Ieee.Datum.quotient
        dsimp only
        rw [if_neg hn]
        rfl
      refine fop_le hz (.inl ?_) hk hk2
      rw [Nat.zero_shiftLeft, Nat.zero_div, Nat.zero_mod]; rfl
    · have hz : floatBits .quo .f64 x y = some (FloatKind.f64.encode (.number (s ^^ t) (2 * (m <<< (54 + n.log2 - m.log2) / n) + (m <<< (54 + n.log2 - m.log2) % n != 0).toNat) (i - j - ((54 + n.log2 - m.log2 : Nat) : Int) - 1))) := by
        show Option.map _ ((FloatKind.f64.decode x).quotient 54 (FloatKind.f64.decode y)) = _
        rw [e1, e2]
        unfold Ieee.Datum.quotient
        dsimp only
        rw [if_neg hn]
        rfl
      exact fop_le hz (quo_le h1 hy hm (Bool.toNat_le _)) hk hk2
theorem cut_ge {s : Bool} {n d w : Nat} (h : w * 2 ^ d ≤ n) (hw : 1 ≤ w) : w ≤ Ieee.Toward.even.cut s n d := by
  have hp : 0 < 2 ^ d := Nat.pow_pos (by decide)
  have hn : n ≠ 0 := by have := Nat.mul_pos (show 0 < w by omega) hp; omega
  have hd : d ≤ n.log2 + 2 := by
    have h1 : 2 ^ d ≤ n := Nat.le_trans (Nat.le_mul_of_pos_left _ (by omega)) h
    have h2 := (Nat.le_log2 hn).2 h1
    omega
  unfold Ieee.Toward.cut
  dsimp only
  rw [Nat.one_shiftLeft, Nat.min_eq_left hd]
  have := (Nat.le_div_iff_mul_le hp).2 h
  omega
/-- one more than what is not below zero is at least one -/
theorem add_one_ge {x : Nat} {m : Nat} {i : Int} (hx : FloatKind.f64.decode x = .number false m i) (hi : -1074 ≤ i) (hl : Le2 10 m i) : DGe 0 (FloatKind.f64.decode (fop .add .f64 x 4607182418800017408)) := by
  have hb : floatBits .add .f64 x 4607182418800017408 = some (FloatKind.f64.encode (.number (if Ieee.signed false m (i - min i (-52)).toNat + Ieee.signed false 4503599627370496 (-52 - min i (-52)).toNat = 0 then false && false else decide (Ieee.signed false m (i - min i (-52)).toNat + Ieee.signed false 4503599627370496 (-52 - min i (-52)).toNat < 0)) (Ieee.signed false m (i - min i (-52)).toNat + Ieee.signed false 4503599627370496 (-52 - min i (-52)).toNat).natAbs (min i (-52)))) := by
    show Option.map _ ((FloatKind.f64.decode x).sum (FloatKind.f64.decode 4607182418800017408)) = _
    rw [hx, dec_one]
    rfl
  have hone : Le2 10 4503599627370496 (-52) := .inr ⟨by decide, by decide⟩
  have hle := sum_le (s := false) (t := false) hl hone
  have hlo : 2 ^ (0 - min i (-52)).toNat ≤ (Ieee.signed false m (i - min i (-52)).toNat + Ieee.signed false 4503599627370496 (-52 - min i (-52)).toNat).natAbs := by
    unfold Ieee.signed
    simp only [Bool.false_eq_true, if_false]
    have h1 : 2 ^ (0 - min i (-52)).toNat = 4503599627370496 <<< (-52 - min i (-52)).toNat := by
      rw [Nat.shiftLeft_eq, show 4503599627370496 = 2 ^ 52 by decide, ← Nat.pow_add]
      congr 1
      omega
    rw [h1]
    generalize 4503599627370496 <<< (-52 - min i (-52)).toNat = X
    generalize m <<< (i - min i (-52)).toNat = Y
    omega
  generalize (if Ieee.signed false m (i - min i (-52)).toNat + Ieee.signed false 4503599627370496 (-52 - min i (-52)).toNat = 0 then false && false else decide (Ieee.signed false m (i - min i (-52)).toNat + Ieee.signed false 4503599627370496 (-52 - min i (-52)).toNat < 0)) = sg at *
  generalize (Ieee.signed false m (i - min i (-52)).toNat + Ieee.signed false 4503599627370496 (-52 - min i (-52)).toNat).natAbs = M at *
  have hM : M ≠ 0 := by have := Nat.one_le_two_pow (n := (0 - min i (-52)).toNat); omega
  have hlg : (0 - min i (-52)).toNat ≤ M.log2 := (Nat.le_log2 hM).2 hlo
  obtain ⟨h1, h2⟩ := enc64 (s := sg) hle (by decide) (by decide)
  rw [fop_some hb, h2]
  -- the rung from below
  obtain ⟨r, hr1, hr2⟩ : ∃ r, 4607182418800017408 ≤ r ∧ FloatKind.f64.encode (.number sg M (min i (-52))) = FloatKind.f64.format.word sg (min r 9218868437227405312) := by
    show ∃ r, _ ∧ Ieee.Format.nearest _ sg M (min i (-52)) = _
    unfold Ieee.Format.nearest
    rw [if_neg hM]
    dsimp only
    have hl : FloatKind.f64.format.leastPlace = -1074 := rfl
    have hf : (FloatKind.f64.format.fractionBits : Int) = 52 := rfl
    have hb : FloatKind.f64.format.binade = 4503599627370496 := rfl
    have hin : FloatKind.f64.format.infRung = 9218868437227405312 := rfl
    rw [hl, hf, hb, hin, Int.max_eq_left (by omega)]
    refine ⟨_, ?_, rfl⟩
    have h3 : 2 ^ M.log2 ≤ M := Nat.log2_self_le hM
    have hcg : 4503599627370496 ≤ Ieee.Toward.even.cut sg (M <<< (min i (-52) - (min i (-52) + (M.log2 : Int) - 52)).toNat) (min i (-52) + (M.log2 : Int) - 52 - min i (-52)).toNat := by
      refine cut_ge ?_ (by decide)
      rw [Nat.shiftLeft_eq]
      calc 4503599627370496 * 2 ^ (min i (-52) + (M.log2 : Int) - 52 - min i (-52)).toNat ≤ 2 ^ M.log2 * 2 ^ (min i (-52) - (min i (-52) + (M.log2 : Int) - 52)).toNat := by
            rw [show 4503599627370496 = 2 ^ 52 by decide, ← Nat.pow_add, ← Nat.pow_add]
            exact Nat.pow_le_pow_right (by decide) (by omega)
        _ ≤ _ := Nat.mul_le_mul_right _ h3
    generalize Ieee.Toward.even.cut sg (M <<< (min i (-52) - (min i (-52) + (M.log2 : Int) - 52)).toNat) (min i (-52) + (M.log2 : Int) - 52 - min i (-52)).toNat = C at *
    omega
  rw [hr2] at h1 ⊢
  generalize hq : min r 9218868437227405312 = q at *
  have hq1 : 4607182418800017408 ≤ q := by omega
  have hm : (if sg then 9223372036854775808 + q else q) % 9223372036854775808 = q := by split <;> omega
  rw [word64, dec64, hm] at h1 ⊢
  by_cases hq2 : q < 9218868437227405312
  · rw [if_neg (by omega), if_pos hq2]
    have hlog := log_shift (m := 4503599627370496 + q % 4503599627370496) (j := 0) (by omega) (by omega)
    rw [Nat.pow_zero, Nat.mul_one] at hlog
    refine ⟨by omega, ?_⟩
    rw [hlog]
    omega
  · rw [if_neg (by omega), if_neg hq2, if_pos (by omega)] at h1
    exact absurd h1 id
end Go.Proofs.Ytaiebodmlnpbkaa
