/- Shares of a count: no product of a share is above the count. -/
import Derived.Test.YtmplincflbhmiaaXLh
import GoSem.Extern.MathFloor
namespace Go.Proofs.Ytmplincflbhmiaa
set_option linter.unusedSimpArgs false
set_option linter.unusedVariables false
open Go Cn Go.RowKit
/-- m * 2 ^ e is at most c -/
def LeC (c m : Nat) (e : Int) : Prop := m * 2 ^ e.toNat ≤ c * 2 ^ (-e).toNat
theorem LeC.iff {c m z : Nat} {e : Int} (hz : -(z : Int) ≤ e) : LeC c m e ↔ m * 2 ^ (e + z).toNat ≤ c * 2 ^ z := by
  unfold LeC
  by_cases he : 0 ≤ e
  · rw [show (-e).toNat = 0 by omega, Nat.pow_zero, Nat.mul_one, show (e + (z : Int)).toNat = e.toNat + z by omega, Nat.pow_add, ← Nat.mul_assoc]
    exact ⟨fun h => Nat.mul_le_mul_right _ h, fun h => Nat.le_of_mul_le_mul_right h (Nat.pow_pos (by decide))⟩
  · rw [show e.toNat = 0 by omega, Nat.pow_zero, Nat.mul_one]
    have hzz : (2 : Nat) ^ z = 2 ^ (-e).toNat * 2 ^ (e + z).toNat := by rw [← Nat.pow_add]; congr 1; omega
    rw [hzz, ← Nat.mul_assoc]
    exact ⟨fun h => Nat.mul_le_mul_right _ h, fun h => Nat.le_of_mul_le_mul_right h (Nat.pow_pos (by decide))⟩
theorem LeC.mul {a b m n : Nat} {e f : Int} (h1 : LeC a m e) (h2 : LeC b n f) : LeC (a * b) (m * n) (e + f) := by
  have g1 := (LeC.iff (z := (-e).toNat) (by omega)).1 h1
  have g2 := (LeC.iff (z := (-f).toNat) (by omega)).1 h2
  refine (LeC.iff (z := (-e).toNat + (-f).toNat) (by omega)).2 ?_
  have := Nat.mul_le_mul g1 g2
  rw [show (e + f + (((-e).toNat + (-f).toNat : Nat) : Int)).toNat = (e + ((-e).toNat : Nat)).toNat + (f + ((-f).toNat : Nat)).toNat by omega, Nat.pow_add, Nat.pow_add]
  calc m * n * (2 ^ (e + ((-e).toNat : Nat)).toNat * 2 ^ (f + ((-f).toNat : Nat)).toNat) = m * 2 ^ (e + ((-e).toNat : Nat)).toNat * (n * 2 ^ (f + ((-f).toNat : Nat)).toNat) := by ac_rfl
    _ ≤ a * 2 ^ (-e).toNat * (b * 2 ^ (-f).toNat) := this
    _ = a * b * (2 ^ (-e).toNat * 2 ^ (-f).toNat) := by ac_rfl
theorem LeC.zero (c : Nat) (e : Int) : LeC c 0 e := by unfold LeC; rw [Nat.zero_mul]; exact Nat.zero_le _
theorem LeC.of {c M K z : Nat} (h : M * 2 ^ K ≤ c * 2 ^ z) : LeC c M (-(z : Int) + K) := by
  refine (LeC.iff (z := z) (by omega)).2 ?_
  rw [show (-(z : Int) + K + z).toNat = K by omega]
  exact h
theorem LeC.log {c m k : Nat} {e : Int} (hm : m ≠ 0) (h : LeC c m e) (hc : c < 2 ^ k) : (m.log2 : Int) + e < k := by
  have h1 : 2 ^ m.log2 ≤ m := Nat.log2_self_le hm
  have h2 := (LeC.iff (z := (-e).toNat) (by omega)).1 h
  have h3 : 2 ^ (m.log2 + (e + ((-e).toNat : Nat)).toNat) < 2 ^ (k + (-e).toNat) := by
    rw [Nat.pow_add, Nat.pow_add]
    calc 2 ^ m.log2 * 2 ^ (e + ((-e).toNat : Nat)).toNat ≤ m * 2 ^ (e + ((-e).toNat : Nat)).toNat := Nat.mul_le_mul_right _ h1
      _ ≤ c * 2 ^ (-e).toNat := h2
      _ < 2 ^ k * 2 ^ (-e).toNat := Nat.mul_lt_mul_of_pos_right hc (Nat.pow_pos (by decide))
  have h4 := (Nat.pow_lt_pow_iff_right (by decide)).1 h3
  omega
theorem LeC.shl {c m : Nat} {e l : Int} (h : LeC c m e) (hl : l ≤ 0) : m <<< (e - l).toNat ≤ (c * 2 ^ (-l).toNat) * 2 ^ (l - e).toNat := by
  rw [Nat.shiftLeft_eq]
  by_cases he : l ≤ e
  · have g := (LeC.iff (z := (-l).toNat) (by omega)).1 h
    rw [show (l - e).toNat = 0 by omega, Nat.pow_zero, Nat.mul_one, show (e - l).toNat = (e + ((-l).toNat : Nat)).toNat by omega]
    exact g
  · have g := (LeC.iff (z := (-e).toNat) (by omega)).1 h
    rw [show (e - l).toNat = 0 by omega, Nat.pow_zero, Nat.mul_one, Nat.mul_assoc, ← Nat.pow_add, show (-l).toNat + (l - e).toNat = (-e).toNat by omega]
    rw [show (e + ((-e).toNat : Nat)).toNat = 0 by omega, Nat.pow_zero, Nat.mul_one] at g
    exact g
theorem cut_ge {neg : Bool} {n drop b : Nat} (h : b * 2 ^ drop ≤ n) (hb : 0 < b) : b ≤ Ieee.Toward.even.cut neg n drop := by
  unfold Ieee.Toward.cut
  dsimp only
  have hd : drop ≤ n.log2 + 2 := by
    have h1 : 2 ^ drop ≤ n := Nat.le_trans (Nat.le_mul_of_pos_left _ hb) h
    have hn : n ≠ 0 := by have := Nat.pow_pos (n := drop) (show 0 < 2 by decide); omega
    have h2 : n < 2 ^ (n.log2 + 1) := Nat.lt_log2_self
    have h3 := (Nat.pow_lt_pow_iff_right (a := 2) (by decide)).1 (Nat.lt_of_le_of_lt h1 h2)
    omega
  rw [Nat.one_shiftLeft, Nat.min_eq_left hd]
  have := (Nat.le_div_iff_mul_le (Nat.pow_pos (n := drop) (show 0 < 2 by decide))).2 h
  omega
/-- what is at most a small count is at most it when it is rounded -/
theorem nearC (f : Ieee.Format) {s : Bool} {m c : Nat} {p : Int} (h : LeC c m p) (hc : c < 2 ^ f.fractionBits) (hls : f.leastPlace ≤ 0) (hin : ((-f.leastPlace).toNat + 2) * f.binade ≤ f.infRung) :
    ∃ q w, f.nearest s m p = f.word s (q * f.binade + w) ∧ w ≤ 2 * f.binade ∧ (q = 0 ∨ f.binade ≤ w) ∧ q ≤ (-f.leastPlace).toNat ∧ w * 2 ^ q ≤ c * 2 ^ (-f.leastPlace).toNat ∧ (m = 0 → q = 0 ∧ w = 0) := by
  unfold Ieee.Format.nearest
  by_cases hm : m = 0
  · rw [if_pos hm]
    exact ⟨0, 0, by rw [Nat.zero_mul], Nat.zero_le _, .inl rfl, Nat.zero_le _, by rw [Nat.zero_mul]; exact Nat.zero_le _, fun _ => ⟨rfl, rfl⟩⟩
  rw [if_neg hm]
  dsimp only
  have hl := h.log hm hc
  unfold Ieee.Format.binade at *
  generalize f.leastPlace = ls at *
  generalize f.fractionBits = fb at *
  have hlast : max (p + (m.log2 : Int) - fb) ls ≤ 0 := by omega
  have hls2 : ls ≤ max (p + (m.log2 : Int) - fb) ls := by omega
  have hpl : p + (m.log2 : Int) - fb ≤ max (p + (m.log2 : Int) - fb) ls := by omega
  have hor : max (p + (m.log2 : Int) - fb) ls = ls ∨ max (p + (m.log2 : Int) - fb) ls = p + (m.log2 : Int) - fb := by omega
  generalize max (p + (m.log2 : Int) - fb) ls = l at *
  have hlog1 : m < 2 ^ (m.log2 + 1) := Nat.lt_log2_self
  have hlog2 : 2 ^ m.log2 ≤ m := Nat.log2_self_le hm
  have h1 : Ieee.Toward.even.cut s (m <<< (p - l).toNat) (l - p).toNat ≤ 2 ^ (fb + 1) := by
    refine cut_le ?_
    rw [Nat.shiftLeft_eq]
    by_cases hpl2 : l ≤ p
    · rw [show (l - p).toNat = 0 by omega, Nat.pow_zero, Nat.mul_one]
      refine Nat.le_of_lt (Nat.lt_of_lt_of_le (Nat.mul_lt_mul_of_pos_right hlog1 (Nat.pow_pos (by decide))) ?_)
      rw [← Nat.pow_add]
      exact Nat.pow_le_pow_right (by decide) (by omega)
    · rw [show (p - l).toNat = 0 by omega, Nat.pow_zero, Nat.mul_one, ← Nat.pow_add]
      exact Nat.le_of_lt (Nat.lt_of_lt_of_le hlog1 (Nat.pow_le_pow_right (by decide) (by omega)))
  have h2 := cut_le (neg := s) (h.shl hlast)
  have h3 : l = ls ∨ 2 ^ fb ≤ Ieee.Toward.even.cut s (m <<< (p - l).toNat) (l - p).toNat := by
    rcases hor with e | e
    · exact .inl e
    · right
      refine cut_ge ?_ (Nat.pow_pos (by decide))
      rw [Nat.shiftLeft_eq]
      by_cases hpl2 : l ≤ p
      · rw [show (l - p).toNat = 0 by omega, Nat.pow_zero, Nat.mul_one]
        refine Nat.le_trans ?_ (Nat.mul_le_mul_right _ hlog2)
        rw [← Nat.pow_add]
        exact Nat.pow_le_pow_right (by decide) (by omega)
      · rw [show (p - l).toNat = 0 by omega, Nat.pow_zero, Nat.mul_one, ← Nat.pow_add]
        refine Nat.le_trans (Nat.pow_le_pow_right (by decide) ?_) hlog2
        omega
  generalize Ieee.Toward.even.cut s (m <<< (p - l).toNat) (l - p).toNat = w at *
  have hq : (l - ls).toNat ≤ (-ls).toNat := by omega
  have hw2 : w ≤ 2 * 2 ^ fb := by rw [Nat.pow_succ] at h1; omega
  have hmin : (l - ls).toNat * 2 ^ fb + w ≤ f.infRung := by
    have := Nat.mul_le_mul_right (2 ^ fb) hq
    rw [Nat.add_mul] at hin
    omega
  refine ⟨(l - ls).toNat, w, by rw [Nat.min_eq_left hmin], hw2, ?_, hq, ?_, fun h => absurd h hm⟩
  · rcases h3 with e | e
    · exact .inl (by omega)
    · exact .inr e
  · refine Nat.le_trans (Nat.mul_le_mul_right _ h2) ?_
    rw [Nat.mul_assoc, ← Nat.pow_add, show (-l).toNat + (l - ls).toNat = (-ls).toNat by omega]
    exact Nat.le_refl _
/-- what a number is that is at most c, and none below zero -/
def LeD (c : Nat) (d : Ieee.Datum) : Prop := ∃ s m e, d = .number s m e ∧ LeC c m e ∧ (s = true → m = 0)
/-- the rung's own number -/
theorem rung_mag {B q w c z : Nat} (hB : 0 < B) (hw : w ≤ 2 * B) (hqw : q = 0 ∨ B ≤ w) (h : w * 2 ^ q ≤ c * 2 ^ z) (hr : ¬ q * B + w < B) : (B + (q * B + w) % B) * 2 ^ ((q * B + w) / B - 1) ≤ c * 2 ^ z := by
  have hwB : B ≤ w := by
    rcases hqw with e | e
    · subst e; omega
    · exact e
  by_cases hw2 : w = 2 * B
  · subst hw2
    have e1 : q * B + 2 * B = (q + 2) * B := by rw [Nat.add_mul]
    rw [e1, Nat.mul_mod_left, Nat.mul_div_cancel _ hB, Nat.add_zero, show q + 2 - 1 = q + 1 by omega, Nat.pow_succ]
    calc B * (2 ^ q * 2) = 2 * B * 2 ^ q := by ac_rfl
      _ ≤ _ := h
  · have e1 : q * B + w = (w - B) + (q + 1) * B := by rw [Nat.add_mul, Nat.one_mul]; omega
    have hlt : w - B < B := by omega
    rw [e1, Nat.add_mul_mod_self_right, Nat.mod_eq_of_lt hlt, Nat.add_mul_div_right _ _ hB, Nat.div_eq_of_lt hlt, show 0 + (q + 1) - 1 = q by omega, show B + (w - B) = w by omega]
    exact h
theorem enc32C {s : Bool} {m c : Nat} {p : Int} (h : LeC c m p) (hc : c < 8388608) (hs : s = true → m = 0) : LeD c (FloatKind.f32.decode (FloatKind.f32.encode (.number s m p))) := by
  obtain ⟨q, w, h1, h2, h3, h4, h5, h6⟩ := nearC FloatKind.f32.format (s := s) h hc (by decide) (by decide)
  have hb : FloatKind.f32.format.binade = 8388608 := rfl
  have hl : (-FloatKind.f32.format.leastPlace).toNat = 149 := rfl
  rw [hb] at h1 h2 h3
  rw [hl] at h4 h5
  have he : FloatKind.f32.encode (.number s m p) = FloatKind.f32.format.word s (q * 8388608 + w) := h1
  have hw : FloatKind.f32.format.word s (q * 8388608 + w) = if s then 2147483648 + (q * 8388608 + w) else q * 8388608 + w := rfl
  have hr : q * 8388608 + w < 2139095040 := by omega
  have hm : (if s then 2147483648 + (q * 8388608 + w) else q * 8388608 + w) % 2147483648 = q * 8388608 + w := by split <;> omega
  have hsn : ((if s then 2147483648 + (q * 8388608 + w) else q * 8388608 + w) / 2147483648 % 2 == 1) = s := by
    cases s
    · simp only [Bool.false_eq_true, if_false]
      rw [Nat.div_eq_of_lt (by omega)]; rfl
    · simp only [if_true]
      rw [show (2147483648 + (q * 8388608 + w)) / 2147483648 = 1 by omega]; rfl
  rw [he, hw, dec32, hm, hsn]
  split
  · rename_i hlt
    have hq0 : q = 0 := by omega
    subst hq0
    refine ⟨s, _, _, rfl, ?_, fun e => ?_⟩
    · rw [Nat.zero_mul, Nat.zero_add]
      show LeC c w (-((149 : Nat) : Int) + ((0 : Nat) : Int))
      exact LeC.of (K := 0) h5
    · rw [(h6 (hs e)).2]
  · rename_i hlt
    refine ⟨s, _, _, rfl, LeC.of (z := 149) (rung_mag (by decide) h2 h3 h5 hlt), fun e => ?_⟩
    have := h6 (hs e)
    omega
theorem enc64C {s : Bool} {m c : Nat} {p : Int} (h : LeC c m p) (hc : c < 4503599627370496) (hs : s = true → m = 0) : LeD c (FloatKind.f64.decode (FloatKind.f64.encode (.number s m p))) := by
  obtain ⟨q, w, h1, h2, h3, h4, h5, h6⟩ := nearC FloatKind.f64.format (s := s) h hc (by decide) (by decide)
  have hb : FloatKind.f64.format.binade = 4503599627370496 := rfl
  have hl : (-FloatKind.f64.format.leastPlace).toNat = 1074 := rfl
  rw [hb] at h1 h2 h3
  rw [hl] at h4
  obtain ⟨z, hz⟩ : ∃ z : Nat, (-FloatKind.f64.format.leastPlace).toNat = z ∧ z = 1074 := ⟨_, rfl, hl⟩
  rw [hz.1] at h5
  have hzz : (-1074 : Int) = -((z : Nat) : Int) := by rw [hz.2]; rfl
  have he : FloatKind.f64.encode (.number s m p) = FloatKind.f64.format.word s (q * 4503599627370496 + w) := h1
  have hr : q * 4503599627370496 + w < 9218868437227405312 := by omega
  have hm : (if s then 9223372036854775808 + (q * 4503599627370496 + w) else q * 4503599627370496 + w) % 9223372036854775808 = q * 4503599627370496 + w := by split <;> omega
  have hsn : ((if s then 9223372036854775808 + (q * 4503599627370496 + w) else q * 4503599627370496 + w) / 9223372036854775808 % 2 == 1) = s := by
    cases s
    · simp only [Bool.false_eq_true, if_false]
      rw [Nat.div_eq_of_lt (by omega)]; rfl
    · simp only [if_true]
      rw [show (9223372036854775808 + (q * 4503599627370496 + w)) / 9223372036854775808 = 1 by omega]; rfl
  rw [he, word64, dec64, hm, hsn]
  split
  · rename_i hlt
    have hq0 : q = 0 := by omega
    subst hq0
    refine ⟨s, _, _, rfl, ?_, fun e => ?_⟩
    · rw [Nat.zero_mul, Nat.zero_add]
      rw [hzz, ← Int.add_zero (-((z : Nat) : Int))]
      exact LeC.of (K := 0) h5
    · rw [(h6 (hs e)).2]
  · rename_i hlt
    rw [hzz]
    refine ⟨s, _, _, rfl, LeC.of (rung_mag (by decide) h2 h3 h5 hlt), fun e => ?_⟩
    have := h6 (hs e)
    omega
theorem LeD.num {c : Nat} {k : FloatKind} {x : Nat} (h : LeD c (k.decode x)) : cb k x = x := by
  obtain ⟨s, m, e, h1, -, -⟩ := h
  exact cb_num (by rw [h1]; rfl)
theorem fint_C {c : Nat} (hc : c < 8388608) : LeD c (FloatKind.f32.decode (fint .f32 (c : Int))) := by
  have h := enc32C (s := decide ((c : Int) < 0)) (m := (c : Int).natAbs) (p := 0) (c := c) (by unfold LeC; simp) hc (fun e => by simp at e; omega)
  have e : FloatKind.f32.nearest (c : Int) = FloatKind.f32.encode (.number (decide ((c : Int) < 0)) (c : Int).natAbs 0) := rfl
  unfold fint
  rw [e, h.num]
  exact h
theorem mul_C {x y a c : Nat} (h1 : LeD a (FloatKind.f32.decode x)) (h2 : LeD c (FloatKind.f32.decode y)) (hc : a * c < 8388608) : LeD (a * c) (FloatKind.f32.decode (fop .mul .f32 x y)) := by
  obtain ⟨s, m, e, d1, l1, z1⟩ := h1
  obtain ⟨t, n, f, d2, l2, z2⟩ := h2
  have hb : floatBits .mul .f32 x y = some (FloatKind.f32.encode (.number (s ^^ t) (m * n) (e + f))) := by
    show ((FloatKind.f32.decode x).product (FloatKind.f32.decode y)).map _ = _
    rw [d1, d2]; rfl
  have h := enc32C (s := s ^^ t) (l1.mul l2) hc (fun q => by
    cases s
    · have : t = true := by simpa using q
      rw [z2 this, Nat.mul_zero]
    · rw [z1 rfl, Nat.zero_mul])
  rw [fop_some hb, h.num]
  exact h
theorem wide_C {x c : Nat} (h : LeD c (FloatKind.f32.decode x)) (hc : c < 8388608) : LeD c (FloatKind.f64.decode (fwide x)) := by
  obtain ⟨s, m, e, d1, l1, z1⟩ := h
  have h := enc64C (s := s) l1 (by omega) z1
  have hw := fconv_wide x
  unfold fconv at hw
  rw [if_neg (by decide), d1] at hw
  dsimp only at hw
  split at hw
  · cases hw
  · rw [← Option.some.inj hw, h.num]
    exact h
/-- rounded down -/
def fflo (x : Nat) : Nat := match FloatKind.f64.decode x with
  | .number s m e => FloatKind.f64.encode ((Ieee.Datum.number s m e).integral .down)
  | _ => x
theorem down_C {s : Bool} {m c : Nat} {e : Int} (h : LeC c m e) (hs : s = true → m = 0) : Ieee.Toward.down.cut s (m <<< e.toNat) (-e).toNat ≤ c ∧ (s = true → Ieee.Toward.down.cut s (m <<< e.toNat) (-e).toNat = 0) := by
  unfold LeC at h
  rw [← Nat.shiftLeft_eq] at h
  cases s
  · refine ⟨?_, fun e => by cases e⟩
    unfold Ieee.Toward.cut
    dsimp only
    rw [Bool.false_and, Nat.one_shiftLeft]
    generalize m <<< e.toNat = n at *
    simp only [Bool.toNat_false, Nat.add_zero]
    by_cases hd : (-e).toNat ≤ n.log2 + 2
    · rw [Nat.min_eq_left hd]
      exact Nat.div_le_of_le_mul (by rw [Nat.mul_comm]; exact h)
    · rw [Nat.min_eq_right (by omega)]
      have hn : n < 2 ^ (n.log2 + 1) := Nat.lt_log2_self
      have : 2 ^ (n.log2 + 1) ≤ 2 ^ (n.log2 + 2) := Nat.pow_le_pow_right (by decide) (by omega)
      rw [Nat.div_eq_of_lt (by omega)]
      exact Nat.zero_le _
  · have hm := hs rfl
    subst hm
    rw [Nat.zero_shiftLeft]
    have : Ieee.Toward.down.cut true 0 (-e).toNat = 0 := by
      unfold Ieee.Toward.cut
      simp
    rw [this]
    exact ⟨Nat.zero_le _, fun _ => rfl⟩
theorem flo_C {x c : Nat} (h : LeD c (FloatKind.f64.decode x)) (hc : c < 8388608) : LeD c (FloatKind.f64.decode (fflo x)) := by
  obtain ⟨s, m, e, d1, l1, z1⟩ := h
  obtain ⟨h1, h2⟩ := down_C l1 z1
  unfold fflo
  rw [d1]
  exact enc64C (s := s) (p := 0) (by unfold LeC; simpa using h1) (by omega) h2
theorem int_C {d : Ieee.Datum} {c : Nat} (h : LeD c d) : ∃ n : Nat, d.toInt .zero = some (n : Int) ∧ n ≤ c := by
  obtain ⟨s, m, e, rfl, l1, z1⟩ := h
  have hz : Ieee.Toward.zero.cut s (m <<< e.toNat) (-e).toNat ≤ c ∧ (s = true → Ieee.Toward.zero.cut s (m <<< e.toNat) (-e).toNat = 0) := by
    unfold LeC at l1
    rw [← Nat.shiftLeft_eq] at l1
    have hle : Ieee.Toward.zero.cut s (m <<< e.toNat) (-e).toNat ≤ c := by
      unfold Ieee.Toward.cut
      dsimp only
      rw [Nat.one_shiftLeft]
      generalize m <<< e.toNat = n at *
      simp only [Bool.toNat_false, Nat.add_zero]
      by_cases hd : (-e).toNat ≤ n.log2 + 2
      · rw [Nat.min_eq_left hd]
        exact Nat.div_le_of_le_mul (by rw [Nat.mul_comm]; exact l1)
      · rw [Nat.min_eq_right (by omega)]
        have hn : n < 2 ^ (n.log2 + 1) := Nat.lt_log2_self
        have : 2 ^ (n.log2 + 1) ≤ 2 ^ (n.log2 + 2) := Nat.pow_le_pow_right (by decide) (by omega)
        rw [Nat.div_eq_of_lt (by omega)]
        exact Nat.zero_le _
    refine ⟨hle, fun q => ?_⟩
    rw [z1 q, Nat.zero_shiftLeft]
    unfold Ieee.Toward.cut
    simp
  refine ⟨Ieee.Toward.zero.cut s (m <<< e.toNat) (-e).toNat, ?_, hz.1⟩
  unfold Ieee.Datum.toInt Ieee.Datum.integral
  dsimp only
  congr 1
  unfold Ieee.signed
  cases s
  · simp
  · rw [hz.2 rfl]; simp
theorem cmp_geI {a b : Int} (h : (some (compare a b) == some Ordering.gt || some (compare a b) == some Ordering.eq) = true) : b ≤ a := by
  rw [show compare a b = compareOfLessAndEq a b from rfl] at h
  unfold compareOfLessAndEq at h
  by_cases h1 : a < b
  · rw [if_pos h1] at h; exact absurd h (by decide)
  · omega
theorem cmp_leI {a b : Int} (h : (some (compare a b) == some Ordering.lt || some (compare a b) == some Ordering.eq) = true) : a ≤ b := by
  rw [show compare a b = compareOfLessAndEq a b from rfl] at h
  unfold compareOfLessAndEq at h
  by_cases h1 : a < b
  · omega
  · rw [if_neg h1] at h
    by_cases h2 : a = b
    · omega
    · rw [if_neg h2] at h; exact absurd h (by decide)
theorem share_C {x : Nat} (h : (fcmp .geq .f32 x 0 && fcmp .leq .f32 x 1065353216) = true) : LeD 1 (FloatKind.f32.decode x) := by
  rw [Bool.and_eq_true] at h
  obtain ⟨h1, h2⟩ := h
  unfold fcmp at h1 h2
  simp only at h1 h2
  have d0 : FloatKind.f32.decode 0 = .number false 0 (-149) := by rw [dec32]; rfl
  have d1 : FloatKind.f32.decode 1065353216 = .number false 8388608 (-23) := by rw [dec32]; rfl
  rw [show FloatKind.f32.format.order x 0 = (FloatKind.f32.decode x).order (FloatKind.f32.decode 0) from rfl, d0] at h1
  rw [show FloatKind.f32.format.order x 1065353216 = (FloatKind.f32.decode x).order (FloatKind.f32.decode 1065353216) from rfl, d1] at h2
  cases hd : FloatKind.f32.decode x with
  | nan a b => rw [hd] at h1; simp [Ieee.Datum.order] at h1
  | infinity s =>
    rw [hd] at h1 h2
    cases s <;> simp [Ieee.Datum.order] at h1 h2
  | number s m e =>
    rw [hd] at h1 h2
    simp only [Ieee.Datum.order] at h1 h2
    have g1 := cmp_geI h1
    have g2 := cmp_leI h2
    have z0 : ∀ k, Ieee.signed false 0 k = 0 := fun k => by unfold Ieee.signed; simp
    have z1 : s = true → m = 0 := fun q => by
      subst q
      rw [z0] at g1
      generalize (e - min e (-149)).toNat = K at g1
      rw [show Ieee.signed true m K = -((m <<< K : Nat) : Int) from rfl] at g1
      generalize hq : m <<< K = q9 at g1
      have : m <<< K = 0 := by rw [hq]; omega
      rw [Nat.shiftLeft_eq] at this
      rcases Nat.mul_eq_zero.1 this with h | h
      · exact h
      · exact absurd h (Nat.ne_of_gt (Nat.pow_pos (by decide)))
    refine ⟨s, m, e, rfl, ?_, z1⟩
    cases s
    · unfold Ieee.signed at g2
      simp only [Bool.false_eq_true, if_false] at g2
      have g3 : m <<< (e - min e (-23)).toNat ≤ 8388608 <<< (-23 - min e (-23)).toNat := by omega
      rw [Nat.shiftLeft_eq, Nat.shiftLeft_eq] at g3
      by_cases he : e ≤ -23
      · rw [Int.min_eq_left he, show (e - e).toNat = 0 by omega, Nat.pow_zero, Nat.mul_one, show (8388608 : Nat) = 2 ^ 23 by decide, ← Nat.pow_add] at g3
        unfold LeC
        rw [show e.toNat = 0 by omega, Nat.pow_zero, Nat.mul_one, Nat.one_mul, show (-e).toNat = 23 + (-23 - e).toNat by omega]
        exact g3
      · rw [Int.min_eq_right (by omega), show (-23 - -23 : Int).toNat = 0 by decide, Nat.pow_zero, Nat.mul_one] at g3
        refine (LeC.iff (z := 23) (by omega)).2 ?_
        rw [Nat.one_mul, show (e + ((23 : Nat) : Int)).toNat = (e - -23).toNat by omega]
        exact g3
    · rw [z1 rfl]; exact LeC.zero _ _
section
variable {P : Program} {N B : Nat} {E : Env} {W : World} {ops : Array Oper} {K : Exit → Env → World → Prop} {T : Tab} {o : Oper}
theorem ext_floor {f : FuncId} {fn : Func} {nm : String} (hf : P.funcs[f]? = some fn) (hn : (fn.name == "runtime.NumGoroutine") = false) (hb : fn.body.isNone = true) (hx : Extern.findNext fn = none) (he : Extern.find fn = some (Extern.MathFloor.toIntegral nm .down))
    {x c : Nat} (h : LeD c (FloatKind.f64.decode x)) (hc : c < 8388608) : AExt P B f [.float .f64 x] W (fun v W' => v = .float .f64 (fflo x) ∧ W' = W) := by
  intro xs w h1 h2 h3
  obtain ⟨u, rfl, hu⟩ := one_arg h1
  obtain ⟨b, rfl, hb'⟩ := cv_float hu
  have hbx : b = x := by
    cases hq : (FloatKind.f64.decode b).isNaN
    · rw [cb_num hq] at hb'; exact hb'
    · rw [cb_nan hq] at hb'
      obtain ⟨s, m, e, d1, -, -⟩ := h
      have := qnan_nan .f64
      rw [hb', d1] at this; cases this
  subst hbx
  have hfl := (flo_C h hc).num
  obtain ⟨s, m, e, d1, -, -⟩ := h
  have hq0 : Extern.MathFloor.toIntegral nm .down #[.float .f64 b] = (match FloatKind.f64.decode b with
    | .nan s t => if FloatKind.f64.format.quiet t = t then pure (.float .f64 b) else do
      let kept ← choose (.extern "math.Floor,Ceil,Trunc,RoundToEven.signallingNaN kept" 2)
      pure (.float .f64 (if kept == 1 then b else FloatKind.f64.encode (.nan s (FloatKind.f64.format.quiet t))))
    | d => pure (.float .f64 (FloatKind.f64.encode (d.integral .down)))) := rfl
  have hq : Extern.MathFloor.toIntegral nm .down #[.float .f64 b] = pure (.float .f64 (fflo b)) := by
    rw [hq0]
    unfold fflo
    rw [d1]
  refine ⟨.float .f64 (fflo b), w, ext_run hf hn hb hx he (by rw [hq]; rfl), h3, ?_, h2⟩
  simp only [cv, Cn.c1, cl, hfl]
def evFi (T : Tab) (E : Env) (o : Oper) : Option Nat :=
  match o.op with
  | .convert s d x => match T.at s with
    | some _ => match T.at d with
      | some ⟨.int .i64, _, _, _⟩ => match ev E x with
        | some (.float .f64 b) => some b
        | _ => none
      | _ => none
    | none => none
  | _ => none
theorem gives_f2i (hT : TabOk P T) {x c : Nat} {n : Nat} (hv : evFi T E o = some x) (h : LeD c (FloatKind.f64.decode x)) (hc : c < 8388608) (hn : (FloatKind.f64.decode x).toInt .zero = some (n : Int)) : Gives P N B o E W (.int .i64 (n : Int)) W := by
  refine gives_of fun a w ha hw hB => ?_
  unfold evFi at hv
  split at hv
  · rename_i s d y ho
    split at hv
    · rename_i ts hs
      obtain ⟨hus, -⟩ := hT _ _ hs
      split at hv
      · rename_i sz by_ z hd
        obtain ⟨hud, -⟩ := hT _ _ hd
        simp only at hud
        split at hv
        · rename_i b hx
          cases hv
          obtain ⟨b', e1, e2⟩ := cv_float (ev_sound ha hx)
          have hbx : b' = x := by
            cases hq : (FloatKind.f64.decode b').isNaN
            · rw [cb_num hq] at e2; exact e2
            · rw [cb_nan hq] at e2
              obtain ⟨s, m, e, d1, -, -⟩ := h
              have := qnan_nan .f64
              rw [e2, d1] at this; cases this
          subst hbx
          obtain ⟨n', hn', hle⟩ := int_C h
          have hnn : n' = n := by rw [hn] at hn'; have := Option.some.inj hn'; omega
          subst hnn
          refine ⟨.int .i64 (n' : Int), w, ?_, rfl, rfl⟩
          simp only [execOp, ho, e1]
          refine run_v ?_
          have hcv : (Conv.floatToInt .f64 b' .i64).run P w = .ok (.int .i64 (n' : Int)) w := by
            unfold Conv.floatToInt
            simp only [hn]
            rw [if_pos (by simp only [IntKind.min, IntKind.max, IntKind.bits, IntKind.signed]; constructor <;> simp <;> omega)]
            rfl
          simp [convert, run_underlying hus, run_underlying hud]
          generalize ts.d = dd at *
          cases dd <;> simp [hcv]
        · cases hv
      · cases hv
    · cases hv
  · cases hv
theorem s_f2i (hT : TabOk P T) {i : Nat} {rest : List Nat} {d : Nat} {op : Op} {ty : TypeId} {pos : String} {aft : Array Edge} {g : Option (Nat × Bool)} {x c n : Nat} (ho : getL ops.toList i = some ⟨some d, op, ty, pos, aft, g⟩) (hg : guardE ops ⟨some d, op, ty, pos, aft, g⟩ E = some true) (hd : Nat.ble (d + 1) N = true)
    (hv : evFi T E ⟨some d, op, ty, pos, aft, g⟩ = some x) (hl : LeD c (FloatKind.f64.decode x)) (hc : c < 8388608) (hn : (FloatKind.f64.decode x).toInt .zero = some (n : Int)) (h : AOps P N B ops rest K ((d, .int .i64 (n : Int)) :: E) W) : AOps P N B ops (i :: rest) K E W :=
  s_givesv ho hg hd (gives_f2i hT hv hl hc hn) h
end
end Go.Proofs.Ytmplincflbhmiaa
