/- Droughts: days below a level. -/
import Derived.Test.YtebnmigmcjoedaaFe
namespace Go.Proofs.Ytebnmigmcjoedaa
open Go Cn Go.RowKit
/-- how many, the longest, the present one's length; the worst, the present one's lack -/
structure Dry where
  a : Int
  b : Int
  c : Int
  d : Nat
  e : Nat
def dryStep (x lim : Nat) (s : Dry) : Dry :=
  if fcmp .lss .f32 x lim then ⟨if s.c = 0 then s.a + 1 else s.a, max s.b (s.c + 1), s.c + 1, fmax .f32 s.d (fop .add .f32 s.e (fop .sub .f32 lim x)), fop .add .f32 s.e (fop .sub .f32 lim x)⟩ else ⟨s.a, s.b, 0, s.d, 0⟩
def dry (xs : List Nat) (lim : Nat) : Nat → Dry
  | 0 => ⟨0, 0, 0, 0, 0⟩
  | n + 1 => dryStep (xs.getD n 0) lim (dry xs lim n)
theorem dry_zero (xs : List Nat) (lim : Nat) : dry xs lim 0 = ⟨0, 0, 0, 0, 0⟩ := rfl
theorem dry_succ (xs : List Nat) (lim n : Nat) : dry xs lim (n + 1) = dryStep (xs.getD n 0) lim (dry xs lim n) := rfl
attribute [irreducible] dry
theorem dry_bounds (xs : List Nat) (lim : Nat) : ∀ n, 0 ≤ (dry xs lim n).a ∧ (dry xs lim n).a ≤ n ∧ 0 ≤ (dry xs lim n).b ∧ (dry xs lim n).b ≤ n ∧ 0 ≤ (dry xs lim n).c ∧ (dry xs lim n).c ≤ n ∧ ((dry xs lim n).c = 0 → (dry xs lim n).e = 0)
  | 0 => by simp [dry_zero]
  | n + 1 => by
    have := dry_bounds xs lim n
    rw [dry_succ]
    unfold dryStep
    split
    · simp only
      refine ⟨by split <;> omega, by split <;> omega, by omega, by omega, by omega, by omega, by omega⟩
    · simp only
      refine ⟨by omega, by omega, by omega, by omega, by omega, by omega, fun _ => trivial⟩
theorem dry_lo {xs : List Nat} {lim n : Nat} (h : fcmp .lss .f32 (xs.getD n 0) lim = false) : dry xs lim (n + 1) = ⟨(dry xs lim n).a, (dry xs lim n).b, 0, (dry xs lim n).d, 0⟩ := by
  rw [dry_succ]; unfold dryStep; rw [h]; rfl
theorem dry_hi {xs : List Nat} {lim n : Nat} (h : fcmp .lss .f32 (xs.getD n 0) lim = true) (h0 : ¬ (dry xs lim n).c = 0) : dry xs lim (n + 1) = ⟨(dry xs lim n).a, max (dry xs lim n).b ((dry xs lim n).c + 1), (dry xs lim n).c + 1,
    fmax .f32 (dry xs lim n).d (fop .add .f32 (dry xs lim n).e (fop .sub .f32 lim (xs.getD n 0))), fop .add .f32 (dry xs lim n).e (fop .sub .f32 lim (xs.getD n 0))⟩ := by
  rw [dry_succ]; unfold dryStep; rw [h]; simp [h0]
theorem dry_new {xs : List Nat} {lim n : Nat} (h : fcmp .lss .f32 (xs.getD n 0) lim = true) (h0 : (dry xs lim n).c = 0) : dry xs lim (n + 1) = ⟨(dry xs lim n).a + 1, max (dry xs lim n).b ((dry xs lim n).c + 1), (dry xs lim n).c + 1,
    fmax .f32 (dry xs lim n).d (fop .add .f32 (dry xs lim n).e (fop .sub .f32 lim (xs.getD n 0))), fop .add .f32 (dry xs lim n).e (fop .sub .f32 lim (xs.getD n 0))⟩ := by
  rw [dry_succ]; unfold dryStep; rw [h]; simp [h0]
@[irreducible] def droughts (xs : List Nat) (lim : Nat) : Int × Int × Nat × Bool :=
  if gauge xs && !(fcmp .neq .f32 lim lim) then
    (if isFin .f32 (dry xs lim xs.length).d then ((dry xs lim xs.length).a, (dry xs lim xs.length).b, (dry xs lim xs.length).d, true) else (0, 0, 0, false))
  else (0, 0, 0, false)
theorem droughts_bad {xs : List Nat} {lim : Nat} (h : (gauge xs && !(fcmp .neq .f32 lim lim)) = false) : droughts xs lim = (0, 0, 0, false) := by
  unfold droughts; rw [h]; rfl
theorem droughts_good {xs : List Nat} {lim : Nat} (h1 : gauge xs = true) (h2 : fcmp .neq .f32 lim lim = false) :
    droughts xs lim = if isFin .f32 (dry xs lim xs.length).d then ((dry xs lim xs.length).a, (dry xs lim xs.length).b, (dry xs lim xs.length).d, true) else (0, 0, 0, false) := by
  unfold droughts; rw [h1, h2]; rfl
section
variable {B : Nat} {W : World}
theorem c_spec_l00Max (n m : Int) : ACalls Try.prog B 82 [.int .i64 n, .int .i64 m] W (fun r W' => r = .int .i64 (max n m) ∧ W' = W) := by
  refine acalls_of Try.func82 rfl Try.ntmps82 (Nat.le_of_ble_eq_true rfl) ?_
  repeat' (first
      | refine s_pure tabOk rfl rfl rfl rfl ?_
      | refine aops_nil ?_
      | refine thn_normal ?_
      | refine aw_seq ?_
      | refine aw_reg ?_
      | refine s_pass rfl rfl rfl ?_
      | refine s_len tabOk rfl rfl rfl rfl ?_
      | refine aw_true rfl ?_
      | refine aw_false rfl ?_
      | refine aw_block ?_
      | refine aw_skip ?_
      | refine aw_exit ?_
      | refine blk_exit ?_
      | refine blk_exit_other rfl ?_
      | refine blk_normal ?_
      | refine thn_exit ?_
      | refine thn_ret ?_
      | refine blk_ret ?_
      | refine rnd_ret ?_
      | refine rnd_exit ?_
      | refine aw_ret ?_
      | refine s_arith tabOk rfl rfl rfl rfl (by simp only [InR]; omega) ?_
      | ((fail_if_success refine s_told rfl rfl ?_); refine s_part rfl rfl rfl ?_ ?_ <;> intro hc <;> (first | replace hc := of_decide_eq_true hc | replace hc := of_decide_eq_false hc | replace hc := eq_of_beq hc | skip))
      | (refine aw_if rfl ?_ ?_ <;> intro hc <;> (first | replace hc := of_decide_eq_true hc | replace hc := of_decide_eq_false hc | replace hc := eq_of_beq hc | skip))
      | refine s_index1 tabOk rfl rfl rfl rfl (by omega) (by omega) ?_)
  · refine retK_ret tabOk (congrArg Array.toList Try.results82) (rv_tmp rfl rfl rv_nil) ⟨?_, rfl⟩
    simp only [retV]; congr 1; omega
  · refine retK_ret tabOk (congrArg Array.toList Try.results82) (rv_tmp rfl rfl rv_nil) ⟨?_, rfl⟩
    simp only [retV]; congr 1; omega
theorem c_spec_DroughtsIn {v : Value} {xs : List Nat} (hv : SlF W v xs) (hl : xs.length ≤ 1048576) (lim : Nat) :
    ACalls Try.prog B 33 [v, .float .f32 lim] W (fun r W' => r = .tuple #[.int .i64 (droughts xs lim).1, .int .i64 (droughts xs lim).2.1, .float .f32 (droughts xs lim).2.2.1, .bool (droughts xs lim).2.2.2] ∧ W' = W) := by
  obtain ⟨a, c, rfl⟩ := hv.form
  refine acalls_of Try.func33 rfl Try.ntmps33 (Nat.le_of_ble_eq_true rfl) ?_
  repeat' (first
      | refine s_pure tabOk rfl rfl rfl rfl ?_
      | refine aops_nil ?_
      | refine thn_normal ?_
      | refine aw_seq ?_
      | refine aw_reg ?_
      | refine s_pass rfl rfl rfl ?_
      | refine s_len tabOk rfl rfl rfl rfl ?_
      | refine aw_true rfl ?_
      | refine aw_false rfl ?_
      | refine aw_block ?_
      | refine aw_skip ?_
      | refine aw_exit ?_
      | refine blk_exit ?_
      | refine blk_exit_other rfl ?_
      | refine blk_normal ?_
      | refine thn_exit ?_
      | refine thn_ret ?_
      | refine blk_ret ?_
      | refine rnd_ret ?_
      | refine rnd_exit ?_
      | refine aw_ret ?_
      | refine s_arith tabOk rfl rfl rfl rfl (by simp only [InR]; omega) ?_
      | ((fail_if_success refine s_told rfl rfl ?_); refine s_part rfl rfl rfl ?_ ?_ <;> intro hc <;> (first | replace hc := of_decide_eq_true hc | replace hc := of_decide_eq_false hc | replace hc := eq_of_beq hc | skip))
      | (refine aw_if rfl ?_ ?_ <;> intro hc <;> (first | replace hc := of_decide_eq_true hc | replace hc := of_decide_eq_false hc | replace hc := eq_of_beq hc | skip))
      | refine s_index1 tabOk rfl rfl rfl rfl (by omega) (by omega) ?_)
  refine s_call rfl rfl rfl rfl ent61 (c_spec_l07Gauge hv hl) ?_
  rintro _ W ⟨rfl, rfl⟩
  repeat' (first
      | refine s_pure tabOk rfl rfl rfl rfl ?_
      | refine aops_nil ?_
      | refine thn_normal ?_
      | refine aw_seq ?_
      | refine aw_reg ?_
      | refine s_pass rfl rfl rfl ?_
      | refine s_len tabOk rfl rfl rfl rfl ?_
      | refine aw_true rfl ?_
      | refine aw_false rfl ?_
      | refine aw_block ?_
      | refine aw_skip ?_
      | refine aw_exit ?_
      | refine blk_exit ?_
      | refine blk_exit_other rfl ?_
      | refine blk_normal ?_
      | refine thn_exit ?_
      | refine thn_ret ?_
      | refine blk_ret ?_
      | refine rnd_ret ?_
      | refine rnd_exit ?_
      | refine aw_ret ?_
      | refine s_arith tabOk rfl rfl rfl rfl (by simp only [InR]; omega) ?_
      | ((fail_if_success refine s_told rfl rfl ?_); refine s_part rfl rfl rfl ?_ ?_ <;> intro hc <;> (first | replace hc := of_decide_eq_true hc | replace hc := of_decide_eq_false hc | replace hc := eq_of_beq hc | skip))
      | (refine aw_if rfl ?_ ?_ <;> intro hc <;> (first | replace hc := of_decide_eq_true hc | replace hc := of_decide_eq_false hc | replace hc := eq_of_beq hc | skip))
      | refine s_index1 tabOk rfl rfl rfl rfl (by omega) (by omega) ?_)
  · refine retK_ret tabOk (congrArg Array.toList Try.results33) (rv_tmp rfl rfl (rv_tmp rfl rfl (rv_tmp rfl rfl (rv_tmp rfl rfl rv_nil)))) ⟨?_, rfl⟩
    rw [droughts_bad (by simp at hc; simp [hc])]; rfl
  · refine retK_ret tabOk (congrArg Array.toList Try.results33) (rv_tmp rfl rfl (rv_tmp rfl rfl (rv_tmp rfl rfl (rv_tmp rfl rfl rv_nil)))) ⟨?_, rfl⟩
    rw [droughts_bad (by simp [hc])]; rfl
  rename_i hc2
  have h1 : gauge xs = true := by simpa using hc2
  have h2 := hc
  clear hc hc2
  have hg := gauge_len h1
  obtain ⟨b, off, rfl, hr⟩ := hv.read (by omega)
  refine aw_loop (fun i : Nat => [(24, .int .i64 i), (23, .int .i64 xs.length), (12, .float .f32 (dry xs lim i).e), (11, .float .f32 (dry xs lim i).d), (10, .int .i64 (dry xs lim i).c), (9, .int .i64 (dry xs lim i).b), (8, .int .i64 (dry xs lim i).a), (0, .slice (some ⟨b, off, none⟩) xs.length c), (1, .float .f32 lim)]) (fun _ => W)
    (fun i => i ≤ xs.length) (fun i => xs.length - i) 0 (by omega) (by rw [dry_zero]; exact (by repeat (first | exact less_nil | refine less_cons rfl ?_))) rfl ?_
  intro i hi
  have hb := dry_bounds xs lim i
  repeat' (first
      | refine s_pure tabOk rfl rfl rfl rfl ?_
      | refine aops_nil ?_
      | refine thn_normal ?_
      | refine aw_seq ?_
      | refine aw_reg ?_
      | refine s_pass rfl rfl rfl ?_
      | refine s_len tabOk rfl rfl rfl rfl ?_
      | refine aw_true rfl ?_
      | refine aw_false rfl ?_
      | refine aw_block ?_
      | refine aw_skip ?_
      | refine aw_exit ?_
      | refine blk_exit ?_
      | refine blk_exit_other rfl ?_
      | refine blk_normal ?_
      | refine thn_exit ?_
      | refine thn_ret ?_
      | refine blk_ret ?_
      | refine rnd_ret ?_
      | refine rnd_exit ?_
      | refine aw_ret ?_
      | refine s_arith tabOk rfl rfl rfl rfl (by simp only [InR]; omega) ?_
      | ((fail_if_success refine s_told rfl rfl ?_); refine s_part rfl rfl rfl ?_ ?_ <;> intro hc <;> (first | replace hc := of_decide_eq_true hc | replace hc := of_decide_eq_false hc | replace hc := eq_of_beq hc | skip))
      | (refine aw_if rfl ?_ ?_ <;> intro hc <;> (first | replace hc := of_decide_eq_true hc | replace hc := of_decide_eq_false hc | replace hc := eq_of_beq hc | skip))
      | refine s_index1 tabOk rfl rfl rfl rfl (by omega) (by omega) ?_)
  all_goals try (exfalso; omega)
  · refine s_loadf tabOk rfl rfl rfl rfl (hr _ (by omega)) ?_
    repeat' (first
      | refine s_pure tabOk rfl rfl rfl rfl ?_
      | refine aops_nil ?_
      | refine thn_normal ?_
      | refine aw_seq ?_
      | refine aw_reg ?_
      | refine s_pass rfl rfl rfl ?_
      | refine s_len tabOk rfl rfl rfl rfl ?_
      | refine aw_true rfl ?_
      | refine aw_false rfl ?_
      | refine aw_block ?_
      | refine aw_skip ?_
      | refine aw_exit ?_
      | refine blk_exit ?_
      | refine blk_exit_other rfl ?_
      | refine blk_normal ?_
      | refine thn_exit ?_
      | refine thn_ret ?_
      | refine blk_ret ?_
      | refine rnd_ret ?_
      | refine rnd_exit ?_
      | refine aw_ret ?_
      | refine s_arith tabOk rfl rfl rfl rfl (by simp only [InR]; omega) ?_
      | ((fail_if_success refine s_told rfl rfl ?_); refine s_part rfl rfl rfl ?_ ?_ <;> intro hc <;> (first | replace hc := of_decide_eq_true hc | replace hc := of_decide_eq_false hc | replace hc := eq_of_beq hc | skip))
      | (refine aw_if rfl ?_ ?_ <;> intro hc <;> (first | replace hc := of_decide_eq_true hc | replace hc := of_decide_eq_false hc | replace hc := eq_of_beq hc | skip))
      | refine s_index1 tabOk rfl rfl rfl rfl (by omega) (by omega) ?_)
    · simp only [Int.toNat_natCast, Bool.not_eq_true'] at hc
      refine rnd_next (i + 1) (by omega) (by omega) (by rw [dry_lo hc]; exact (by repeat (first | exact less_nil | refine less_cons rfl ?_))) rfl
    · rename_i hlo
      simp only [Int.toNat_natCast, Bool.not_eq_false'] at hlo
      refine s_loadf tabOk rfl rfl rfl rfl (hr _ (by omega)) ?_
      repeat' (first
      | refine s_pure tabOk rfl rfl rfl rfl ?_
      | refine aops_nil ?_
      | refine thn_normal ?_
      | refine aw_seq ?_
      | refine aw_reg ?_
      | refine s_pass rfl rfl rfl ?_
      | refine s_len tabOk rfl rfl rfl rfl ?_
      | refine aw_true rfl ?_
      | refine aw_false rfl ?_
      | refine aw_block ?_
      | refine aw_skip ?_
      | refine aw_exit ?_
      | refine blk_exit ?_
      | refine blk_exit_other rfl ?_
      | refine blk_normal ?_
      | refine thn_exit ?_
      | refine thn_ret ?_
      | refine blk_ret ?_
      | refine rnd_ret ?_
      | refine rnd_exit ?_
      | refine aw_ret ?_
      | refine s_arith tabOk rfl rfl rfl rfl (by simp only [InR]; omega) ?_
      | ((fail_if_success refine s_told rfl rfl ?_); refine s_part rfl rfl rfl ?_ ?_ <;> intro hc <;> (first | replace hc := of_decide_eq_true hc | replace hc := of_decide_eq_false hc | replace hc := eq_of_beq hc | skip))
      | (refine aw_if rfl ?_ ?_ <;> intro hc <;> (first | replace hc := of_decide_eq_true hc | replace hc := of_decide_eq_false hc | replace hc := eq_of_beq hc | skip))
      | refine s_index1 tabOk rfl rfl rfl rfl (by omega) (by omega) ?_)
      refine s_call rfl rfl rfl rfl ent82 (c_spec_l00Max _ _) ?_
      rintro _ W ⟨rfl, rfl⟩
      repeat' (first
      | refine s_pure tabOk rfl rfl rfl rfl ?_
      | refine aops_nil ?_
      | refine thn_normal ?_
      | refine aw_seq ?_
      | refine aw_reg ?_
      | refine s_pass rfl rfl rfl ?_
      | refine s_len tabOk rfl rfl rfl rfl ?_
      | refine aw_true rfl ?_
      | refine aw_false rfl ?_
      | refine aw_block ?_
      | refine aw_skip ?_
      | refine aw_exit ?_
      | refine blk_exit ?_
      | refine blk_exit_other rfl ?_
      | refine blk_normal ?_
      | refine thn_exit ?_
      | refine thn_ret ?_
      | refine blk_ret ?_
      | refine rnd_ret ?_
      | refine rnd_exit ?_
      | refine aw_ret ?_
      | refine s_arith tabOk rfl rfl rfl rfl (by simp only [InR]; omega) ?_
      | ((fail_if_success refine s_told rfl rfl ?_); refine s_part rfl rfl rfl ?_ ?_ <;> intro hc <;> (first | replace hc := of_decide_eq_true hc | replace hc := of_decide_eq_false hc | replace hc := eq_of_beq hc | skip))
      | (refine aw_if rfl ?_ ?_ <;> intro hc <;> (first | replace hc := of_decide_eq_true hc | replace hc := of_decide_eq_false hc | replace hc := eq_of_beq hc | skip))
      | refine s_index1 tabOk rfl rfl rfl rfl (by omega) (by omega) ?_)
      simp only [Int.toNat_natCast]
      refine rnd_next (i + 1) (by omega) (by omega) (by rw [dry_new hlo hc]; exact (by repeat (first | exact less_nil | refine less_cons rfl ?_))) rfl
    · rename_i hlo
      simp only [Int.toNat_natCast, Bool.not_eq_false'] at hlo
      refine s_loadf tabOk rfl rfl rfl rfl (hr _ (by omega)) ?_
      repeat' (first
      | refine s_pure tabOk rfl rfl rfl rfl ?_
      | refine aops_nil ?_
      | refine thn_normal ?_
      | refine aw_seq ?_
      | refine aw_reg ?_
      | refine s_pass rfl rfl rfl ?_
      | refine s_len tabOk rfl rfl rfl rfl ?_
      | refine aw_true rfl ?_
      | refine aw_false rfl ?_
      | refine aw_block ?_
      | refine aw_skip ?_
      | refine aw_exit ?_
      | refine blk_exit ?_
      | refine blk_exit_other rfl ?_
      | refine blk_normal ?_
      | refine thn_exit ?_
      | refine thn_ret ?_
      | refine blk_ret ?_
      | refine rnd_ret ?_
      | refine rnd_exit ?_
      | refine aw_ret ?_
      | refine s_arith tabOk rfl rfl rfl rfl (by simp only [InR]; omega) ?_
      | ((fail_if_success refine s_told rfl rfl ?_); refine s_part rfl rfl rfl ?_ ?_ <;> intro hc <;> (first | replace hc := of_decide_eq_true hc | replace hc := of_decide_eq_false hc | replace hc := eq_of_beq hc | skip))
      | (refine aw_if rfl ?_ ?_ <;> intro hc <;> (first | replace hc := of_decide_eq_true hc | replace hc := of_decide_eq_false hc | replace hc := eq_of_beq hc | skip))
      | refine s_index1 tabOk rfl rfl rfl rfl (by omega) (by omega) ?_)
      refine s_call rfl rfl rfl rfl ent82 (c_spec_l00Max _ _) ?_
      rintro _ W ⟨rfl, rfl⟩
      repeat' (first
      | refine s_pure tabOk rfl rfl rfl rfl ?_
      | refine aops_nil ?_
      | refine thn_normal ?_
      | refine aw_seq ?_
      | refine aw_reg ?_
      | refine s_pass rfl rfl rfl ?_
      | refine s_len tabOk rfl rfl rfl rfl ?_
      | refine aw_true rfl ?_
      | refine aw_false rfl ?_
      | refine aw_block ?_
      | refine aw_skip ?_
      | refine aw_exit ?_
      | refine blk_exit ?_
      | refine blk_exit_other rfl ?_
      | refine blk_normal ?_
      | refine thn_exit ?_
      | refine thn_ret ?_
      | refine blk_ret ?_
      | refine rnd_ret ?_
      | refine rnd_exit ?_
      | refine aw_ret ?_
      | refine s_arith tabOk rfl rfl rfl rfl (by simp only [InR]; omega) ?_
      | ((fail_if_success refine s_told rfl rfl ?_); refine s_part rfl rfl rfl ?_ ?_ <;> intro hc <;> (first | replace hc := of_decide_eq_true hc | replace hc := of_decide_eq_false hc | replace hc := eq_of_beq hc | skip))
      | (refine aw_if rfl ?_ ?_ <;> intro hc <;> (first | replace hc := of_decide_eq_true hc | replace hc := of_decide_eq_false hc | replace hc := eq_of_beq hc | skip))
      | refine s_index1 tabOk rfl rfl rfl rfl (by omega) (by omega) ?_)
      simp only [Int.toNat_natCast]
      refine rnd_next (i + 1) (by omega) (by omega) (by rw [dry_hi hlo hc]; exact (by repeat (first | exact less_nil | refine less_cons rfl ?_))) rfl
  refine s_call rfl rfl rfl rfl ent71 (c_spec_l01Finite _) ?_
  rintro _ W ⟨rfl, rfl⟩
  have hil : i = xs.length := by omega
  subst hil
  repeat' (first
      | refine s_pure tabOk rfl rfl rfl rfl ?_
      | refine aops_nil ?_
      | refine thn_normal ?_
      | refine aw_seq ?_
      | refine aw_reg ?_
      | refine s_pass rfl rfl rfl ?_
      | refine s_len tabOk rfl rfl rfl rfl ?_
      | refine aw_true rfl ?_
      | refine aw_false rfl ?_
      | refine aw_block ?_
      | refine aw_skip ?_
      | refine aw_exit ?_
      | refine blk_exit ?_
      | refine blk_exit_other rfl ?_
      | refine blk_normal ?_
      | refine thn_exit ?_
      | refine thn_ret ?_
      | refine blk_ret ?_
      | refine rnd_ret ?_
      | refine rnd_exit ?_
      | refine aw_ret ?_
      | refine s_arith tabOk rfl rfl rfl rfl (by simp only [InR]; omega) ?_
      | ((fail_if_success refine s_told rfl rfl ?_); refine s_part rfl rfl rfl ?_ ?_ <;> intro hc <;> (first | replace hc := of_decide_eq_true hc | replace hc := of_decide_eq_false hc | replace hc := eq_of_beq hc | skip))
      | (refine aw_if rfl ?_ ?_ <;> intro hc <;> (first | replace hc := of_decide_eq_true hc | replace hc := of_decide_eq_false hc | replace hc := eq_of_beq hc | skip))
      | refine s_index1 tabOk rfl rfl rfl rfl (by omega) (by omega) ?_)
  all_goals refine retK_ret tabOk (congrArg Array.toList Try.results33) (rv_tmp rfl rfl (rv_tmp rfl rfl (rv_tmp rfl rfl (rv_tmp rfl rfl rv_nil)))) ⟨?_, rfl⟩
  · rw [droughts_good h1 h2, if_neg (by simpa using hc)]; rfl
  · rw [droughts_good h1 h2, if_pos (by simpa using hc)]; rfl
theorem c_impl_DroughtsIn {v : Value} {xs : List Nat} (hv : SlF W v xs) (hl : xs.length ≤ 1048576) (lim : Nat) :
    ACalls Try.prog B 34 [v, .float .f32 lim] W (fun r W' => r = .tuple #[.int .i64 (droughts xs lim).1, .int .i64 (droughts xs lim).2.1, .float .f32 (droughts xs lim).2.2.1, .bool (droughts xs lim).2.2.2] ∧ W' = W) := by
  obtain ⟨a, c, rfl⟩ := hv.form
  refine acalls_of Try.func34 rfl Try.ntmps34 (Nat.le_of_ble_eq_true rfl) ?_
  repeat' (first
      | refine s_pure tabOk rfl rfl rfl rfl ?_
      | refine aops_nil ?_
      | refine thn_normal ?_
      | refine aw_seq ?_
      | refine aw_reg ?_
      | refine s_pass rfl rfl rfl ?_
      | refine s_len tabOk rfl rfl rfl rfl ?_
      | refine aw_true rfl ?_
      | refine aw_false rfl ?_
      | refine aw_block ?_
      | refine aw_skip ?_
      | refine aw_exit ?_
      | refine blk_exit ?_
      | refine blk_exit_other rfl ?_
      | refine blk_normal ?_
      | refine thn_exit ?_
      | refine thn_ret ?_
      | refine blk_ret ?_
      | refine rnd_ret ?_
      | refine rnd_exit ?_
      | refine aw_ret ?_
      | refine s_arith tabOk rfl rfl rfl rfl (by simp only [InR]; omega) ?_
      | ((fail_if_success refine s_told rfl rfl ?_); refine s_part rfl rfl rfl ?_ ?_ <;> intro hc <;> (first | replace hc := of_decide_eq_true hc | replace hc := of_decide_eq_false hc | replace hc := eq_of_beq hc | skip))
      | (refine aw_if rfl ?_ ?_ <;> intro hc <;> (first | replace hc := of_decide_eq_true hc | replace hc := of_decide_eq_false hc | replace hc := eq_of_beq hc | skip))
      | refine s_index1 tabOk rfl rfl rfl rfl (by omega) (by omega) ?_)
  refine s_call rfl rfl rfl rfl ent19 (c_impl_IsGauge hv hl) ?_
  rintro _ W ⟨rfl, rfl⟩
  repeat' (first
      | refine s_pure tabOk rfl rfl rfl rfl ?_
      | refine aops_nil ?_
      | refine thn_normal ?_
      | refine aw_seq ?_
      | refine aw_reg ?_
      | refine s_pass rfl rfl rfl ?_
      | refine s_len tabOk rfl rfl rfl rfl ?_
      | refine aw_true rfl ?_
      | refine aw_false rfl ?_
      | refine aw_block ?_
      | refine aw_skip ?_
      | refine aw_exit ?_
      | refine blk_exit ?_
      | refine blk_exit_other rfl ?_
      | refine blk_normal ?_
      | refine thn_exit ?_
      | refine thn_ret ?_
      | refine blk_ret ?_
      | refine rnd_ret ?_
      | refine rnd_exit ?_
      | refine aw_ret ?_
      | refine s_arith tabOk rfl rfl rfl rfl (by simp only [InR]; omega) ?_
      | ((fail_if_success refine s_told rfl rfl ?_); refine s_part rfl rfl rfl ?_ ?_ <;> intro hc <;> (first | replace hc := of_decide_eq_true hc | replace hc := of_decide_eq_false hc | replace hc := eq_of_beq hc | skip))
      | (refine aw_if rfl ?_ ?_ <;> intro hc <;> (first | replace hc := of_decide_eq_true hc | replace hc := of_decide_eq_false hc | replace hc := eq_of_beq hc | skip))
      | refine s_index1 tabOk rfl rfl rfl rfl (by omega) (by omega) ?_)
  · refine retK_ret tabOk (congrArg Array.toList Try.results34) (rv_tmp rfl rfl (rv_tmp rfl rfl (rv_tmp rfl rfl (rv_tmp rfl rfl rv_nil)))) ⟨?_, rfl⟩
    rw [droughts_bad (by simp at hc; simp [hc])]; rfl
  · refine retK_ret tabOk (congrArg Array.toList Try.results34) (rv_tmp rfl rfl (rv_tmp rfl rfl (rv_tmp rfl rfl (rv_tmp rfl rfl rv_nil)))) ⟨?_, rfl⟩
    rw [droughts_bad (by simp [hc])]; rfl
  rename_i hc2
  have h1 : gauge xs = true := by simpa using hc2
  have h2 := hc
  clear hc hc2
  have hg := gauge_len h1
  obtain ⟨b, off, rfl, hr⟩ := hv.read (by omega)
  refine aw_loop (fun s : Nat × Nat => [(25, .int .i64 s.1), (24, .int .i64 xs.length), (23, .slice (some ⟨b, off, none⟩) xs.length c), (12, .float .f32 s.2), (11, .float .f32 (dry xs lim s.1).d), (10, .int .i64 (dry xs lim s.1).c), (9, .int .i64 (dry xs lim s.1).b), (8, .int .i64 (dry xs lim s.1).a), (0, .slice (some ⟨b, off, none⟩) xs.length c), (1, .float .f32 lim)]) (fun _ => W)
    (fun s => s.1 ≤ xs.length ∧ (¬ (dry xs lim s.1).c = 0 → s.2 = (dry xs lim s.1).e)) (fun s => xs.length - s.1) (0, 0) ⟨by omega, by simp [dry_zero]⟩ (by dsimp only; rw [dry_zero]; exact (by repeat (first | exact less_nil | refine less_cons rfl ?_))) rfl ?_
  rintro ⟨i, e⟩ ⟨hi, he⟩
  dsimp only at hi he ⊢
  have hb := dry_bounds xs lim i
  repeat' (first
      | refine s_pure tabOk rfl rfl rfl rfl ?_
      | refine aops_nil ?_
      | refine thn_normal ?_
      | refine aw_seq ?_
      | refine aw_reg ?_
      | refine s_pass rfl rfl rfl ?_
      | refine s_len tabOk rfl rfl rfl rfl ?_
      | refine aw_true rfl ?_
      | refine aw_false rfl ?_
      | refine aw_block ?_
      | refine aw_skip ?_
      | refine aw_exit ?_
      | refine blk_exit ?_
      | refine blk_exit_other rfl ?_
      | refine blk_normal ?_
      | refine thn_exit ?_
      | refine thn_ret ?_
      | refine blk_ret ?_
      | refine rnd_ret ?_
      | refine rnd_exit ?_
      | refine aw_ret ?_
      | refine s_arith tabOk rfl rfl rfl rfl (by simp only [InR]; omega) ?_
      | ((fail_if_success refine s_told rfl rfl ?_); refine s_part rfl rfl rfl ?_ ?_ <;> intro hc <;> (first | replace hc := of_decide_eq_true hc | replace hc := of_decide_eq_false hc | replace hc := eq_of_beq hc | skip))
      | (refine aw_if rfl ?_ ?_ <;> intro hc <;> (first | replace hc := of_decide_eq_true hc | replace hc := of_decide_eq_false hc | replace hc := eq_of_beq hc | skip))
      | refine s_index1 tabOk rfl rfl rfl rfl (by omega) (by omega) ?_)
  all_goals try (exfalso; omega)
  · refine s_loadf tabOk rfl rfl rfl rfl (hr _ (by omega)) ?_
    repeat' (first
      | refine s_pure tabOk rfl rfl rfl rfl ?_
      | refine aops_nil ?_
      | refine thn_normal ?_
      | refine aw_seq ?_
      | refine aw_reg ?_
      | refine s_pass rfl rfl rfl ?_
      | refine s_len tabOk rfl rfl rfl rfl ?_
      | refine aw_true rfl ?_
      | refine aw_false rfl ?_
      | refine aw_block ?_
      | refine aw_skip ?_
      | refine aw_exit ?_
      | refine blk_exit ?_
      | refine blk_exit_other rfl ?_
      | refine blk_normal ?_
      | refine thn_exit ?_
      | refine thn_ret ?_
      | refine blk_ret ?_
      | refine rnd_ret ?_
      | refine rnd_exit ?_
      | refine aw_ret ?_
      | refine s_arith tabOk rfl rfl rfl rfl (by simp only [InR]; omega) ?_
      | ((fail_if_success refine s_told rfl rfl ?_); refine s_part rfl rfl rfl ?_ ?_ <;> intro hc <;> (first | replace hc := of_decide_eq_true hc | replace hc := of_decide_eq_false hc | replace hc := eq_of_beq hc | skip))
      | (refine aw_if rfl ?_ ?_ <;> intro hc <;> (first | replace hc := of_decide_eq_true hc | replace hc := of_decide_eq_false hc | replace hc := eq_of_beq hc | skip))
      | refine s_index1 tabOk rfl rfl rfl rfl (by omega) (by omega) ?_)
    · simp only [Int.toNat_natCast, Bool.not_eq_true'] at hc
      refine rnd_next (i + 1, e) ⟨by dsimp only; omega, by dsimp only; rw [dry_lo hc]; simp⟩ (by dsimp only; omega) (by dsimp only; rw [dry_lo hc]; exact (by repeat (first | exact less_nil | refine less_cons rfl ?_))) rfl
    · rename_i hlo
      simp only [Int.toNat_natCast, Bool.not_eq_false'] at hlo ⊢
      have e0 := hb.2.2.2.2.2.2 hc
      refine rnd_next (i + 1, fop .add .f32 0 (fop .sub .f32 lim (xs.getD i 0))) ⟨by dsimp only; omega, fun _ => by dsimp only; rw [dry_new hlo hc, e0]⟩ (by dsimp only; omega) (by dsimp only; rw [dry_new hlo hc, e0]; exact (by repeat (first | exact less_nil | refine less_cons rfl ?_))) rfl
    · rename_i hlo
      simp only [Int.toNat_natCast, Bool.not_eq_false'] at hlo ⊢
      have e0 := he hc
      subst e0
      refine rnd_next (i + 1, fop .add .f32 (dry xs lim i).e (fop .sub .f32 lim (xs.getD i 0))) ⟨by dsimp only; omega, fun _ => by dsimp only; rw [dry_hi hlo hc]⟩ (by dsimp only; omega) (by dsimp only; rw [dry_hi hlo hc]; exact (by repeat (first | exact less_nil | refine less_cons rfl ?_))) rfl
  refine s_call rfl rfl rfl rfl ent81 (c_impl_IsFinite _) ?_
  rintro _ W ⟨rfl, rfl⟩
  have hil : i = xs.length := by omega
  subst hil
  repeat' (first
      | refine s_pure tabOk rfl rfl rfl rfl ?_
      | refine aops_nil ?_
      | refine thn_normal ?_
      | refine aw_seq ?_
      | refine aw_reg ?_
      | refine s_pass rfl rfl rfl ?_
      | refine s_len tabOk rfl rfl rfl rfl ?_
      | refine aw_true rfl ?_
      | refine aw_false rfl ?_
      | refine aw_block ?_
      | refine aw_skip ?_
      | refine aw_exit ?_
      | refine blk_exit ?_
      | refine blk_exit_other rfl ?_
      | refine blk_normal ?_
      | refine thn_exit ?_
      | refine thn_ret ?_
      | refine blk_ret ?_
      | refine rnd_ret ?_
      | refine rnd_exit ?_
      | refine aw_ret ?_
      | refine s_arith tabOk rfl rfl rfl rfl (by simp only [InR]; omega) ?_
      | ((fail_if_success refine s_told rfl rfl ?_); refine s_part rfl rfl rfl ?_ ?_ <;> intro hc <;> (first | replace hc := of_decide_eq_true hc | replace hc := of_decide_eq_false hc | replace hc := eq_of_beq hc | skip))
      | (refine aw_if rfl ?_ ?_ <;> intro hc <;> (first | replace hc := of_decide_eq_true hc | replace hc := of_decide_eq_false hc | replace hc := eq_of_beq hc | skip))
      | refine s_index1 tabOk rfl rfl rfl rfl (by omega) (by omega) ?_)
  all_goals refine retK_ret tabOk (congrArg Array.toList Try.results34) (rv_tmp rfl rfl (rv_tmp rfl rfl (rv_tmp rfl rfl (rv_tmp rfl rfl rv_nil)))) ⟨?_, rfl⟩
  · rw [droughts_good h1 h2, if_neg (by simpa using hc)]; rfl
  · rw [droughts_good h1 h2, if_pos (by simpa using hc)]; rfl
end
end Go.Proofs.Ytebnmigmcjoedaa
