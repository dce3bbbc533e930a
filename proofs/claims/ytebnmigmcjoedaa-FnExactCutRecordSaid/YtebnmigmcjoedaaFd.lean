/- The best lag of two gauges. -/
import Derived.Test.YtebnmigmcjoedaaCn11
import Derived.Test.YtebnmigmcjoedaaFc
namespace Go.Proofs.Ytebnmigmcjoedaa
open Go Cn Go.RowKit
/-- sums of 32-bit numbers, from the left -/
def sumTo (f : Nat → Nat) : Nat → Nat
  | 0 => 0
  | n + 1 => fop .add .f32 (sumTo f n) (f n)
theorem sumTo_zero (f : Nat → Nat) : sumTo f 0 = 0 := rfl
theorem sumTo_succ (f : Nat → Nat) (n : Nat) : sumTo f (n + 1) = fop .add .f32 (sumTo f n) (f n) := rfl
attribute [irreducible] sumTo
theorem sumTo_congr {f g : Nat → Nat} {n : Nat} (h : ∀ i, i < n → f i = g i) : sumTo f n = sumTo g n := by
  induction n with
  | zero => rw [sumTo_zero, sumTo_zero]
  | succ n ih => rw [sumTo_succ, sumTo_succ, ih (fun i hi => h i (by omega)), h n (by omega)]
@[irreducible] def meanOf (f : Nat → Nat) (n : Nat) : Nat := fop .quo .f32 (sumTo f n) (fint .f32 n)
@[irreducible] def lagProd (xs ys : List Nat) (l i : Nat) : Nat := fop .mul .f32 (xs.getD i 0) (ys.getD (i + l) 0)
@[irreducible] def lagMean (xs ys : List Nat) (l : Nat) : Nat := meanOf (lagProd xs ys l) (xs.length - l)
def lagBest (xs ys : List Nat) : Nat → Int × Nat
  | 0 => (-1, 0)
  | l + 1 => if decide ((lagBest xs ys l).1 < 0) || fcmp .gtr .f32 (lagMean xs ys l) (lagBest xs ys l).2 then ((l : Int), lagMean xs ys l) else lagBest xs ys l
theorem lagBest_zero (xs ys : List Nat) : lagBest xs ys 0 = (-1, 0) := rfl
theorem lagBest_succ (xs ys : List Nat) (l : Nat) : lagBest xs ys (l + 1) = if decide ((lagBest xs ys l).1 < 0) || fcmp .gtr .f32 (lagMean xs ys l) (lagBest xs ys l).2 then ((l : Int), lagMean xs ys l) else lagBest xs ys l := rfl
attribute [irreducible] lagBest
@[irreducible] def lagOf (xs ys : List Nat) (l : Int) : Int × Nat × Bool :=
  if gauge xs && gauge ys && decide (xs.length = ys.length) && (decide (0 ≤ l) && decide (l ≤ xs.length - 1)) then
    (if isFin .f32 (lagBest xs ys (l.toNat + 1)).2 then ((lagBest xs ys (l.toNat + 1)).1, (lagBest xs ys (l.toNat + 1)).2, true) else (0, 0, false))
  else (0, 0, false)
section
variable {B : Nat} {W : World}
theorem c_spec_l00In (n lo hi : Int) : ACalls Try.prog B 79 [.int .i64 n, .int .i64 lo, .int .i64 hi] W (fun r W' => r = .bool (decide (lo ≤ n) && decide (n ≤ hi)) ∧ W' = W) := by
  refine acalls_of Try.func79 rfl Try.ntmps79 (Nat.le_of_ble_eq_true rfl) ?_
  repeat' (first
      | refine s_pure tabOk rfl rfl rfl rfl ?_
      | refine aops_nil ?_
      | refine thn_normal ?_
      | refine aw_seq ?_
      | refine aw_reg ?_
      | refine s_pass rfl rfl rfl ?_
      | refine s_len tabOk rfl rfl rfl rfl ?_
      | refine aw_true rfl ?_
      | refine aw_false rfl ?_
      | refine aw_block ?_
      | refine aw_skip ?_
      | refine aw_exit ?_
      | refine blk_exit ?_
      | refine blk_exit_other rfl ?_
      | refine blk_normal ?_
      | refine thn_exit ?_
      | refine thn_ret ?_
      | refine blk_ret ?_
      | refine rnd_ret ?_
      | refine rnd_exit ?_
      | refine aw_ret ?_
      | refine s_arith tabOk rfl rfl rfl rfl (by simp only [InR]; omega) ?_
      | ((fail_if_success refine s_told rfl rfl ?_); refine s_part rfl rfl rfl ?_ ?_ <;> intro hc <;> (first | replace hc := of_decide_eq_true hc | replace hc := of_decide_eq_false hc | replace hc := eq_of_beq hc | skip))
      | (refine aw_if rfl ?_ ?_ <;> intro hc <;> (first | replace hc := of_decide_eq_true hc | replace hc := of_decide_eq_false hc | replace hc := eq_of_beq hc | skip))
      | refine s_index1 tabOk rfl rfl rfl rfl (by omega) (by omega) ?_)
  all_goals exact retK_ret tabOk (congrArg Array.toList Try.results79) (rv_tmp rfl rfl rv_nil) ⟨by simp [retV, hc], rfl⟩
theorem SlF.form {v : Value} {xs : List Nat} (hv : SlF W v xs) : ∃ a c, v = .slice a xs.length c := by
  rcases hv with ⟨rfl, rfl⟩ | ⟨b, off, c, rfl, hr⟩
  · exact ⟨_, _, rfl⟩
  · exact ⟨_, _, rfl⟩
theorem SlF.read {a : Option Addr} {n c : Nat} {xs : List Nat} (hv : SlF W (.slice a n c) xs) (h : 0 < xs.length) : ∃ b off, a = some ⟨b, off, none⟩ ∧ RdF W b off xs := by
  rcases hv with ⟨h1, rfl⟩ | ⟨b, off, c, h1, hr⟩
  · simp at h
  · cases h1; exact ⟨_, _, rfl, hr⟩
theorem gauge_len {xs : List Nat} (h : gauge xs = true) : 1 ≤ xs.length ∧ xs.length ≤ 128 := by
  unfold gauge at h
  simp at h
  omega
theorem lagOf_bad {xs ys : List Nat} {l : Int} (h : (gauge xs && gauge ys && decide (xs.length = ys.length) && (decide (0 ≤ l) && decide (l ≤ xs.length - 1))) = false) : lagOf xs ys l = (0, 0, false) := by
  unfold lagOf; rw [h]; rfl
theorem lagOf_good {xs ys : List Nat} {l : Int} (h1 : gauge xs = true) (h2 : gauge ys = true) (h3 : xs.length = ys.length) (h4 : 0 ≤ l) (h5 : l ≤ xs.length - 1) :
    lagOf xs ys l = if isFin .f32 (lagBest xs ys (l.toNat + 1)).2 then ((lagBest xs ys (l.toNat + 1)).1, (lagBest xs ys (l.toNat + 1)).2, true) else (0, 0, false) := by
  unfold lagOf
  rw [if_pos (by simp only [h1, h2, Bool.and_eq_true, decide_eq_true_eq]; exact ⟨⟨⟨trivial, trivial⟩, h3⟩, h4, h5⟩)]
theorem lagMean_eq {xs ys : List Nat} {k i : Nat} (h : i = xs.length - k) (hk : k ≤ xs.length) : fop .quo .f32 (sumTo (lagProd xs ys k) i) (fint .f32 ((xs.length : Int) - k)) = lagMean xs ys k := by
  subst h
  unfold lagMean meanOf
  rw [show ((xs.length : Int) - k) = ((xs.length - k : Nat) : Int) by omega]
theorem lagSum_succ (xs ys : List Nat) (k i : Nat) : fop .add .f32 (sumTo (lagProd xs ys k) i) (fop .mul .f32 (xs.getD (Int.toNat i) 0) (ys.getD (Int.toNat ((i : Int) + k)) 0)) = sumTo (lagProd xs ys k) (i + 1) := by
  rw [sumTo_succ]
  unfold lagProd
  rw [show Int.toNat ((i : Int) + k) = i + k by omega, show Int.toNat (i : Int) = i by omega]
theorem lagBest_take {xs ys : List Nat} {k : Nat} (h : (lagBest xs ys k).1 < 0 ∨ fcmp .gtr .f32 (lagMean xs ys k) (lagBest xs ys k).2 = true) : lagBest xs ys (k + 1) = ((k : Int), lagMean xs ys k) := by
  rw [lagBest_succ, if_pos]
  simpa using h
theorem lagBest_skip {xs ys : List Nat} {k : Nat} (h1 : ¬ (lagBest xs ys k).1 < 0) (h : fcmp .gtr .f32 (lagMean xs ys k) (lagBest xs ys k).2 = false) : lagBest xs ys (k + 1) = lagBest xs ys k := by
  rw [lagBest_succ, if_neg]
  simp [h, h1]
theorem c_spec_BestLag {v v' : Value} {xs ys : List Nat} (hv : SlF W v xs) (hv' : SlF W v' ys) (hl : xs.length ≤ 1048576) (hl' : ys.length ≤ 1048576) (l : Int) :
    ACalls Try.prog B 31 [v, v', .int .i64 l] W (fun r W' => r = .tuple #[.int .i64 (lagOf xs ys l).1, .float .f32 (lagOf xs ys l).2.1, .bool (lagOf xs ys l).2.2] ∧ W' = W) := by
  obtain ⟨a, c, rfl⟩ := hv.form
  obtain ⟨a', c', rfl⟩ := hv'.form
  refine acalls_of Try.func31 rfl Try.ntmps31 (Nat.le_of_ble_eq_true rfl) ?_
  repeat' (first
      | refine s_pure tabOk rfl rfl rfl rfl ?_
      | refine aops_nil ?_
      | refine thn_normal ?_
      | refine aw_seq ?_
      | refine aw_reg ?_
      | refine s_pass rfl rfl rfl ?_
      | refine s_len tabOk rfl rfl rfl rfl ?_
      | refine aw_true rfl ?_
      | refine aw_false rfl ?_
      | refine aw_block ?_
      | refine aw_skip ?_
      | refine aw_exit ?_
      | refine blk_exit ?_
      | refine blk_exit_other rfl ?_
      | refine blk_normal ?_
      | refine thn_exit ?_
      | refine thn_ret ?_
      | refine blk_ret ?_
      | refine rnd_ret ?_
      | refine rnd_exit ?_
      | refine aw_ret ?_
      | refine s_arith tabOk rfl rfl rfl rfl (by simp only [InR]; omega) ?_
      | ((fail_if_success refine s_told rfl rfl ?_); refine s_part rfl rfl rfl ?_ ?_ <;> intro hc <;> (first | replace hc := of_decide_eq_true hc | replace hc := of_decide_eq_false hc | replace hc := eq_of_beq hc | skip))
      | (refine aw_if rfl ?_ ?_ <;> intro hc <;> (first | replace hc := of_decide_eq_true hc | replace hc := of_decide_eq_false hc | replace hc := eq_of_beq hc | skip))
      | refine s_index1 tabOk rfl rfl rfl rfl (by omega) (by omega) ?_)
  refine s_call rfl rfl rfl rfl ent61 (c_spec_l07Gauge hv hl) ?_
  rintro _ W ⟨rfl, rfl⟩
  repeat' (first
      | refine s_pure tabOk rfl rfl rfl rfl ?_
      | refine aops_nil ?_
      | refine thn_normal ?_
      | refine aw_seq ?_
      | refine aw_reg ?_
      | refine s_pass rfl rfl rfl ?_
      | refine s_len tabOk rfl rfl rfl rfl ?_
      | refine aw_true rfl ?_
      | refine aw_false rfl ?_
      | refine aw_block ?_
      | refine aw_skip ?_
      | refine aw_exit ?_
      | refine blk_exit ?_
      | refine blk_exit_other rfl ?_
      | refine blk_normal ?_
      | refine thn_exit ?_
      | refine thn_ret ?_
      | refine blk_ret ?_
      | refine rnd_ret ?_
      | refine rnd_exit ?_
      | refine aw_ret ?_
      | refine s_arith tabOk rfl rfl rfl rfl (by simp only [InR]; omega) ?_
      | ((fail_if_success refine s_told rfl rfl ?_); refine s_part rfl rfl rfl ?_ ?_ <;> intro hc <;> (first | replace hc := of_decide_eq_true hc | replace hc := of_decide_eq_false hc | replace hc := eq_of_beq hc | skip))
      | (refine aw_if rfl ?_ ?_ <;> intro hc <;> (first | replace hc := of_decide_eq_true hc | replace hc := of_decide_eq_false hc | replace hc := eq_of_beq hc | skip))
      | refine s_index1 tabOk rfl rfl rfl rfl (by omega) (by omega) ?_)
  · refine retK_ret tabOk (congrArg Array.toList Try.results31) (rv_tmp rfl rfl (rv_tmp rfl rfl (rv_tmp rfl rfl rv_nil))) ⟨?_, rfl⟩
    rw [lagOf_bad (by simp at hc; simp [hc])]; rfl
  have h1 : gauge xs = true := by simpa using hc
  clear hc
  refine s_call rfl rfl rfl rfl ent61 (c_spec_l07Gauge hv' hl') ?_
  rintro _ W ⟨rfl, rfl⟩
  repeat' (first
      | refine s_pure tabOk rfl rfl rfl rfl ?_
      | refine aops_nil ?_
      | refine thn_normal ?_
      | refine aw_seq ?_
      | refine aw_reg ?_
      | refine s_pass rfl rfl rfl ?_
      | refine s_len tabOk rfl rfl rfl rfl ?_
      | refine aw_true rfl ?_
      | refine aw_false rfl ?_
      | refine aw_block ?_
      | refine aw_skip ?_
      | refine aw_exit ?_
      | refine blk_exit ?_
      | refine blk_exit_other rfl ?_
      | refine blk_normal ?_
      | refine thn_exit ?_
      | refine thn_ret ?_
      | refine blk_ret ?_
      | refine rnd_ret ?_
      | refine rnd_exit ?_
      | refine aw_ret ?_
      | refine s_arith tabOk rfl rfl rfl rfl (by simp only [InR]; omega) ?_
      | ((fail_if_success refine s_told rfl rfl ?_); refine s_part rfl rfl rfl ?_ ?_ <;> intro hc <;> (first | replace hc := of_decide_eq_true hc | replace hc := of_decide_eq_false hc | replace hc := eq_of_beq hc | skip))
      | (refine aw_if rfl ?_ ?_ <;> intro hc <;> (first | replace hc := of_decide_eq_true hc | replace hc := of_decide_eq_false hc | replace hc := eq_of_beq hc | skip))
      | refine s_index1 tabOk rfl rfl rfl rfl (by omega) (by omega) ?_)
  · refine retK_ret tabOk (congrArg Array.toList Try.results31) (rv_tmp rfl rfl (rv_tmp rfl rfl (rv_tmp rfl rfl rv_nil))) ⟨?_, rfl⟩
    rw [lagOf_bad (by simp at hc; simp [hc])]; rfl
  · refine retK_ret tabOk (congrArg Array.toList Try.results31) (rv_tmp rfl rfl (rv_tmp rfl rfl (rv_tmp rfl rfl rv_nil))) ⟨?_, rfl⟩
    have hne : ¬ xs.length = ys.length := by simp at hc; omega
    rw [lagOf_bad (by simp [hne])]; rfl
  rename_i hc2
  have h2 : gauge ys = true := by simpa using hc2
  have h3 : xs.length = ys.length := by simp at hc; omega
  clear hc hc2
  refine s_call rfl rfl rfl rfl ent79 (c_spec_l00In _ _ _) ?_
  rintro _ W ⟨rfl, rfl⟩
  repeat' (first
      | refine s_pure tabOk rfl rfl rfl rfl ?_
      | refine aops_nil ?_
      | refine thn_normal ?_
      | refine aw_seq ?_
      | refine aw_reg ?_
      | refine s_pass rfl rfl rfl ?_
      | refine s_len tabOk rfl rfl rfl rfl ?_
      | refine aw_true rfl ?_
      | refine aw_false rfl ?_
      | refine aw_block ?_
      | refine aw_skip ?_
      | refine aw_exit ?_
      | refine blk_exit ?_
      | refine blk_exit_other rfl ?_
      | refine blk_normal ?_
      | refine thn_exit ?_
      | refine thn_ret ?_
      | refine blk_ret ?_
      | refine rnd_ret ?_
      | refine rnd_exit ?_
      | refine aw_ret ?_
      | refine s_arith tabOk rfl rfl rfl rfl (by simp only [InR]; omega) ?_
      | ((fail_if_success refine s_told rfl rfl ?_); refine s_part rfl rfl rfl ?_ ?_ <;> intro hc <;> (first | replace hc := of_decide_eq_true hc | replace hc := of_decide_eq_false hc | replace hc := eq_of_beq hc | skip))
      | (refine aw_if rfl ?_ ?_ <;> intro hc <;> (first | replace hc := of_decide_eq_true hc | replace hc := of_decide_eq_false hc | replace hc := eq_of_beq hc | skip))
      | refine s_index1 tabOk rfl rfl rfl rfl (by omega) (by omega) ?_)
  · refine retK_ret tabOk (congrArg Array.toList Try.results31) (rv_tmp rfl rfl (rv_tmp rfl rfl (rv_tmp rfl rfl rv_nil))) ⟨?_, rfl⟩
    rw [lagOf_bad (by simp only [Bool.not_eq_true'] at hc; rw [hc, Bool.and_false])]; rfl
  simp only [Bool.not_eq_false', Bool.and_eq_true, decide_eq_true_eq] at hc
  obtain ⟨h4, h5⟩ := hc
  have hg := gauge_len h1
  obtain ⟨b, off, rfl, hr⟩ := hv.read (by omega)
  obtain ⟨b', off', rfl, hr'⟩ := hv'.read (by omega)
  refine aw_loop (fun s : Nat × Int × Nat => [(11, .int .i64 s.1), (10, .float .f32 s.2.2), (9, .int .i64 s.2.1), (0, .slice (some ⟨b, off, none⟩) xs.length c), (1, .slice (some ⟨b', off', none⟩) ys.length c'), (2, .int .i64 l)]) (fun _ => W)
    (fun s => (s.1 : Int) ≤ l + 1 ∧ s.2 = lagBest xs ys s.1) (fun s => (l + 1).toNat - s.1) (0, -1, 0) ⟨by omega, (lagBest_zero _ _).symm⟩ (by repeat (first | exact less_nil | refine less_cons rfl ?_)) rfl ?_
  rintro ⟨k, m⟩ ⟨hk, hm⟩
  dsimp only at hk hm ⊢
  subst hm
  repeat' (first
      | refine s_pure tabOk rfl rfl rfl rfl ?_
      | refine aops_nil ?_
      | refine thn_normal ?_
      | refine aw_seq ?_
      | refine aw_reg ?_
      | refine s_pass rfl rfl rfl ?_
      | refine s_len tabOk rfl rfl rfl rfl ?_
      | refine aw_true rfl ?_
      | refine aw_false rfl ?_
      | refine aw_block ?_
      | refine aw_skip ?_
      | refine aw_exit ?_
      | refine blk_exit ?_
      | refine blk_exit_other rfl ?_
      | refine blk_normal ?_
      | refine thn_exit ?_
      | refine thn_ret ?_
      | refine blk_ret ?_
      | refine rnd_ret ?_
      | refine rnd_exit ?_
      | refine aw_ret ?_
      | refine s_arith tabOk rfl rfl rfl rfl (by simp only [InR]; omega) ?_
      | ((fail_if_success refine s_told rfl rfl ?_); refine s_part rfl rfl rfl ?_ ?_ <;> intro hc <;> (first | replace hc := of_decide_eq_true hc | replace hc := of_decide_eq_false hc | replace hc := eq_of_beq hc | skip))
      | (refine aw_if rfl ?_ ?_ <;> intro hc <;> (first | replace hc := of_decide_eq_true hc | replace hc := of_decide_eq_false hc | replace hc := eq_of_beq hc | skip))
      | refine s_index1 tabOk rfl rfl rfl rfl (by omega) (by omega) ?_)
  all_goals try (exfalso; omega)
  · refine aw_loop (fun s : Nat × Nat => [(14, .int .i64 s.1), (13, .int .i64 (xs.length - k)), (12, .float .f32 s.2), (11, .int .i64 k), (10, .float .f32 (lagBest xs ys k).2), (9, .int .i64 (lagBest xs ys k).1), (0, .slice (some ⟨b, off, none⟩) xs.length c), (1, .slice (some ⟨b', off', none⟩) ys.length c'), (2, .int .i64 l)]) (fun _ => W)
      (fun s => s.1 ≤ xs.length - k ∧ s.2 = sumTo (lagProd xs ys k) s.1) (fun s => xs.length - s.1) (0, 0) ⟨by omega, (sumTo_zero _).symm⟩ (by repeat (first | exact less_nil | refine less_cons rfl ?_)) rfl ?_
    rintro ⟨i, m⟩ ⟨hi, hm⟩
    dsimp only at hi hm ⊢
    subst hm
    repeat' (first
      | refine s_pure tabOk rfl rfl rfl rfl ?_
      | refine aops_nil ?_
      | refine thn_normal ?_
      | refine aw_seq ?_
      | refine aw_reg ?_
      | refine s_pass rfl rfl rfl ?_
      | refine s_len tabOk rfl rfl rfl rfl ?_
      | refine aw_true rfl ?_
      | refine aw_false rfl ?_
      | refine aw_block ?_
      | refine aw_skip ?_
      | refine aw_exit ?_
      | refine blk_exit ?_
      | refine blk_exit_other rfl ?_
      | refine blk_normal ?_
      | refine thn_exit ?_
      | refine thn_ret ?_
      | refine blk_ret ?_
      | refine rnd_ret ?_
      | refine rnd_exit ?_
      | refine aw_ret ?_
      | refine s_arith tabOk rfl rfl rfl rfl (by simp only [InR]; omega) ?_
      | ((fail_if_success refine s_told rfl rfl ?_); refine s_part rfl rfl rfl ?_ ?_ <;> intro hc <;> (first | replace hc := of_decide_eq_true hc | replace hc := of_decide_eq_false hc | replace hc := eq_of_beq hc | skip))
      | (refine aw_if rfl ?_ ?_ <;> intro hc <;> (first | replace hc := of_decide_eq_true hc | replace hc := of_decide_eq_false hc | replace hc := eq_of_beq hc | skip))
      | refine s_index1 tabOk rfl rfl rfl rfl (by omega) (by omega) ?_)
    all_goals try (exfalso; omega)
    · (refine aw_quiet followsMixed (by first | exact lax_thn | exact lax_blk lax_thn | exact lax_rnd | exact lax_blk lax_rnd) (by kernel_rfl) ?_; repeat (first
      | refine q_pure tabOk rfl rfl rfl rfl ?_
      | refine q_len tabOk rfl rfl rfl rfl ?_
      | refine q_pass rfl rfl rfl ?_
      | refine q_index1 tabOk rfl rfl rfl rfl (by omega) (by omega) ?_
      | refine q_arith tabOk rfl rfl rfl rfl (by simp only [InR]; omega) ?_))
      refine q_loadf tabOk rfl rfl rfl rfl (hr _ (by omega)) ?_
      repeat (first
      | refine q_pure tabOk rfl rfl rfl rfl ?_
      | refine q_len tabOk rfl rfl rfl rfl ?_
      | refine q_pass rfl rfl rfl ?_
      | refine q_index1 tabOk rfl rfl rfl rfl (by omega) (by omega) ?_
      | refine q_arith tabOk rfl rfl rfl rfl (by simp only [InR]; omega) ?_)
      refine q_loadf tabOk rfl rfl rfl rfl (hr' _ (by omega)) ?_
      repeat (first
      | refine q_pure tabOk rfl rfl rfl rfl ?_
      | refine q_len tabOk rfl rfl rfl rfl ?_
      | refine q_pass rfl rfl rfl ?_
      | refine q_index1 tabOk rfl rfl rfl rfl (by omega) (by omega) ?_
      | refine q_arith tabOk rfl rfl rfl rfl (by simp only [InR]; omega) ?_)
      refine aq_nil ?_
      repeat' (first
      | refine s_pure tabOk rfl rfl rfl rfl ?_
      | refine aops_nil ?_
      | refine thn_normal ?_
      | refine aw_seq ?_
      | refine aw_reg ?_
      | refine s_pass rfl rfl rfl ?_
      | refine s_len tabOk rfl rfl rfl rfl ?_
      | refine aw_true rfl ?_
      | refine aw_false rfl ?_
      | refine aw_block ?_
      | refine aw_skip ?_
      | refine aw_exit ?_
      | refine blk_exit ?_
      | refine blk_exit_other rfl ?_
      | refine blk_normal ?_
      | refine thn_exit ?_
      | refine thn_ret ?_
      | refine blk_ret ?_
      | refine rnd_ret ?_
      | refine rnd_exit ?_
      | refine aw_ret ?_
      | refine s_arith tabOk rfl rfl rfl rfl (by simp only [InR]; omega) ?_
      | ((fail_if_success refine s_told rfl rfl ?_); refine s_part rfl rfl rfl ?_ ?_ <;> intro hc <;> (first | replace hc := of_decide_eq_true hc | replace hc := of_decide_eq_false hc | replace hc := eq_of_beq hc | skip))
      | (refine aw_if rfl ?_ ?_ <;> intro hc <;> (first | replace hc := of_decide_eq_true hc | replace hc := of_decide_eq_false hc | replace hc := eq_of_beq hc | skip))
      | refine s_index1 tabOk rfl rfl rfl rfl (by omega) (by omega) ?_)
      rw [lagSum_succ]
      refine rnd_next (i + 1, _) ⟨by dsimp only; omega, rfl⟩ (by dsimp only; omega) (by repeat (first | exact less_nil | refine less_cons rfl ?_)) rfl
    all_goals rw [lagMean_eq (show i = xs.length - k by omega) (by omega)] at *
    · refine rnd_next (k + 1, (k : Int), lagMean xs ys k) ⟨by dsimp only; omega, (lagBest_take (.inl hc)).symm⟩ (by dsimp only; omega) (by repeat (first | exact less_nil | refine less_cons rfl ?_)) rfl
    · refine rnd_next (k + 1, (k : Int), lagMean xs ys k) ⟨by dsimp only; omega, (lagBest_take (.inr hc)).symm⟩ (by dsimp only; omega) (by repeat (first | exact less_nil | refine less_cons rfl ?_)) rfl
    · refine rnd_next (k + 1, lagBest xs ys k) ⟨by dsimp only; omega, (lagBest_skip (by assumption) hc).symm⟩ (by dsimp only; omega) (by repeat (first | exact less_nil | refine less_cons rfl ?_)) rfl
  refine s_call rfl rfl rfl rfl ent71 (c_spec_l01Finite _) ?_
  rintro _ W ⟨rfl, rfl⟩
  have hkl : k = l.toNat + 1 := by omega
  subst hkl
  repeat' (first
      | refine s_pure tabOk rfl rfl rfl rfl ?_
      | refine aops_nil ?_
      | refine thn_normal ?_
      | refine aw_seq ?_
      | refine aw_reg ?_
      | refine s_pass rfl rfl rfl ?_
      | refine s_len tabOk rfl rfl rfl rfl ?_
      | refine aw_true rfl ?_
      | refine aw_false rfl ?_
      | refine aw_block ?_
      | refine aw_skip ?_
      | refine aw_exit ?_
      | refine blk_exit ?_
      | refine blk_exit_other rfl ?_
      | refine blk_normal ?_
      | refine thn_exit ?_
      | refine thn_ret ?_
      | refine blk_ret ?_
      | refine rnd_ret ?_
      | refine rnd_exit ?_
      | refine aw_ret ?_
      | refine s_arith tabOk rfl rfl rfl rfl (by simp only [InR]; omega) ?_
      | ((fail_if_success refine s_told rfl rfl ?_); refine s_part rfl rfl rfl ?_ ?_ <;> intro hc <;> (first | replace hc := of_decide_eq_true hc | replace hc := of_decide_eq_false hc | replace hc := eq_of_beq hc | skip))
      | (refine aw_if rfl ?_ ?_ <;> intro hc <;> (first | replace hc := of_decide_eq_true hc | replace hc := of_decide_eq_false hc | replace hc := eq_of_beq hc | skip))
      | refine s_index1 tabOk rfl rfl rfl rfl (by omega) (by omega) ?_)
  all_goals refine retK_ret tabOk (congrArg Array.toList Try.results31) (rv_tmp rfl rfl (rv_tmp rfl rfl (rv_tmp rfl rfl rv_nil))) ⟨?_, rfl⟩
  · rw [lagOf_good h1 h2 h3 h4 h5, if_neg (by simpa using hc)]; rfl
  · rw [lagOf_good h1 h2 h3 h4 h5, if_pos (by simpa using hc)]; rfl
end
end Go.Proofs.Ytebnmigmcjoedaa
