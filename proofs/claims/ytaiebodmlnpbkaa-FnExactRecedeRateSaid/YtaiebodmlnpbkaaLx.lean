/- Floods of so many years, both ways. -/
import Derived.Test.YtaiebodmlnpbkaaLw
import Derived.Test.YtaiebodmlnpbkaaFl
import Derived.Test.YtaiebodmlnpbkaaHd
namespace Go.Proofs.Ytaiebodmlnpbkaa
set_option linter.unusedSimpArgs false
set_option linter.unusedVariables false
open Go Cn Go.RowKit
theorem fop_lt {op : BinOp} {x y : Nat} : fop op .f32 x y < 4294967296 := by
  cases h : floatBits op .f32 x y with
  | none => rw [fop_none h]; decide
  | some r =>
    rw [fop_some h]
    refine cb_lt ?_
    have e : (2 : Nat) ^ Ieee.single.width = 4294967296 := rfl
    rw [← e]
    cases op <;> simp only [floatBits] at h <;> first | cases h | skip
    · exact Ieee.Format.add_lt _ h
    · exact Ieee.Format.sub_lt _ h
    · exact Ieee.Format.mul_lt _ h
    · exact Ieee.Format.div_lt _ h
theorem fconv_lt {x r : Nat} (h : fconv .f64 .f32 x = some r) : r < 4294967296 := by
  have e : ∀ d, FloatKind.f32.encode d < 4294967296 := fun d => Ieee.Format.write_lt Ieee.single d
  unfold fconv at h
  rw [if_neg (by decide)] at h
  cases hd : FloatKind.f64.decode x with
  | nan a b => rw [hd] at h; rw [← Option.some.inj h]; decide
  | infinity s => rw [hd] at h; rw [← Option.some.inj h]; exact cb_lt (e _)
  | number s m p =>
    rw [hd] at h
    dsimp only at h
    split at h
    · cases h
    · rw [← Option.some.inj h]; exact cb_lt (e _)
theorem logN_lt {x : Nat} (hx : x < 4294967296) : logN x < 4294967296 := by
  cases h1 : (fcmp .neq .f32 x x || fcmp .lss .f32 x 0)
  · cases h2 : fcmp .eql .f32 x 0
    · cases h3 : isFin .f32 x
      · rw [log_inf h1 h2 h3]; exact hx
      · exact fconv_lt (log_num h1 h2 h3).2
    · rw [log_zero h1 h2]; decide
  · rw [log_nan h1]; decide
theorem fneg_lt {x : Nat} (hx : x < 4294967296) : fneg .f32 x < 4294967296 := by
  unfold fneg
  refine cb_lt ?_
  unfold Op.negFloat
  exact Nat.xor_lt_two_pow (n := 32) hx (by decide)
@[irreducible] def flV (p s y : Nat) : Nat := fop .sub .f32 p (fop .mul .f32 s (logN (fneg .f32 (logN (fop .sub .f32 1065353216 (fop .quo .f32 1065353216 y))))))
@[irreducible] def flOk (p s y : Nat) : Bool := isFin .f32 p && (least s && (isFin .f32 y && fcmp .gtr .f32 y 1065353216))
@[irreducible] def flR (p s y : Nat) : Nat × Bool := if flOk p s y then finNum (flV p s y) else (0, false)
theorem flR_no {p s y : Nat} (h : flOk p s y = false) : flR p s y = (0, false) := by unfold flR; rw [h]; rfl
theorem flR_yes {p s y : Nat} (h : flOk p s y = true) : flR p s y = finNum (flV p s y) := by unfold flR; rw [h]; rfl
section
variable {B : Nat} {A W W' : World} {L L' : List Res}
theorem c_spec_FloodOf (p s y : Nat) : ACalls Try.prog B 24 [.float .f32 p, .float .f32 s, .float .f32 y] W (fun r W' => r = .tuple #[.float .f32 (flR p s y).1, .bool (flR p s y).2] ∧ W' = W) := by
  have hok : flOk p s y = (isFin .f32 p && (least s && (isFin .f32 y && fcmp .gtr .f32 y 1065353216))) := by unfold flOk; rfl
  refine acalls_of Try.func24 rfl Try.ntmps24 (Nat.le_of_ble_eq_true rfl) ?_
  repeat' (first
      | refine s_pure tabOk rfl rfl rfl rfl ?_
      | refine aops_nil ?_
      | refine thn_normal ?_
      | refine aw_seq ?_
      | refine aw_reg ?_
      | refine s_pass rfl rfl rfl ?_
      | refine s_len tabOk rfl rfl rfl rfl ?_
      | refine aw_true rfl ?_
      | refine aw_false rfl ?_
      | refine aw_block ?_
      | refine aw_skip ?_
      | refine aw_exit ?_
      | refine blk_exit ?_
      | refine blk_exit_other rfl ?_
      | refine blk_normal ?_
      | refine thn_exit ?_
      | refine thn_ret ?_
      | refine blk_ret ?_
      | refine rnd_ret ?_
      | refine rnd_exit ?_
      | refine aw_ret ?_
      | refine s_arith tabOk rfl rfl rfl rfl (by simp only [InR]; omega) ?_
      | ((fail_if_success refine s_told rfl rfl ?_); refine s_part rfl rfl rfl ?_ ?_ <;> intro hc <;> (first | replace hc := of_decide_eq_true hc | replace hc := of_decide_eq_false hc | replace hc := eq_of_beq hc | skip))
      | (refine aw_if rfl ?_ ?_ <;> intro hc <;> (first | replace hc := of_decide_eq_true hc | replace hc := of_decide_eq_false hc | replace hc := eq_of_beq hc | skip))
      | refine s_index1 tabOk rfl rfl rfl rfl (by omega) (by omega) ?_)
  refine s_call rfl rfl rfl rfl ent45 (c_spec_l01Finite _) ?_
  rintro _ _ ⟨rfl, rfl⟩
  cases h1 : isFin .f32 p
  · repeat' (first
      | refine s_pure tabOk rfl rfl rfl rfl ?_
      | refine aops_nil ?_
      | refine thn_normal ?_
      | refine aw_seq ?_
      | refine aw_reg ?_
      | refine s_pass rfl rfl rfl ?_
      | refine s_len tabOk rfl rfl rfl rfl ?_
      | refine aw_true rfl ?_
      | refine aw_false rfl ?_
      | refine aw_block ?_
      | refine aw_skip ?_
      | refine aw_exit ?_
      | refine blk_exit ?_
      | refine blk_exit_other rfl ?_
      | refine blk_normal ?_
      | refine thn_exit ?_
      | refine thn_ret ?_
      | refine blk_ret ?_
      | refine rnd_ret ?_
      | refine rnd_exit ?_
      | refine aw_ret ?_
      | refine s_arith tabOk rfl rfl rfl rfl (by simp only [InR]; omega) ?_
      | ((fail_if_success refine s_told rfl rfl ?_); refine s_part rfl rfl rfl ?_ ?_ <;> intro hc <;> (first | replace hc := of_decide_eq_true hc | replace hc := of_decide_eq_false hc | replace hc := eq_of_beq hc | skip))
      | (refine aw_if rfl ?_ ?_ <;> intro hc <;> (first | replace hc := of_decide_eq_true hc | replace hc := of_decide_eq_false hc | replace hc := eq_of_beq hc | skip))
      | refine s_index1 tabOk rfl rfl rfl rfl (by omega) (by omega) ?_)
    refine retK_ret tabOk (congrArg Array.toList Try.results24) (by repeat (first | exact rv_nil | apply rv_tmp rfl rfl | apply rv_cellH (by assumption) rfl rfl rfl (by repeat (first | exact List.Mem.head _ | apply List.Mem.tail)) rfl)) ?_
    rw [flR_no (by rw [hok, h1]; rfl)]; exact ⟨rfl, rfl⟩
  repeat' (first
      | refine s_pure tabOk rfl rfl rfl rfl ?_
      | refine aops_nil ?_
      | refine thn_normal ?_
      | refine aw_seq ?_
      | refine aw_reg ?_
      | refine s_pass rfl rfl rfl ?_
      | refine s_len tabOk rfl rfl rfl rfl ?_
      | refine aw_true rfl ?_
      | refine aw_false rfl ?_
      | refine aw_block ?_
      | refine aw_skip ?_
      | refine aw_exit ?_
      | refine blk_exit ?_
      | refine blk_exit_other rfl ?_
      | refine blk_normal ?_
      | refine thn_exit ?_
      | refine thn_ret ?_
      | refine blk_ret ?_
      | refine rnd_ret ?_
      | refine rnd_exit ?_
      | refine aw_ret ?_
      | refine s_arith tabOk rfl rfl rfl rfl (by simp only [InR]; omega) ?_
      | ((fail_if_success refine s_told rfl rfl ?_); refine s_part rfl rfl rfl ?_ ?_ <;> intro hc <;> (first | replace hc := of_decide_eq_true hc | replace hc := of_decide_eq_false hc | replace hc := eq_of_beq hc | skip))
      | (refine aw_if rfl ?_ ?_ <;> intro hc <;> (first | replace hc := of_decide_eq_true hc | replace hc := of_decide_eq_false hc | replace hc := eq_of_beq hc | skip))
      | refine s_index1 tabOk rfl rfl rfl rfl (by omega) (by omega) ?_)
  refine s_call rfl rfl rfl rfl ent55 (c_spec_l02Least _) ?_
  rintro _ _ ⟨rfl, rfl⟩
  cases h2 : least s
  · repeat' (first
      | refine s_pure tabOk rfl rfl rfl rfl ?_
      | refine aops_nil ?_
      | refine thn_normal ?_
      | refine aw_seq ?_
      | refine aw_reg ?_
      | refine s_pass rfl rfl rfl ?_
      | refine s_len tabOk rfl rfl rfl rfl ?_
      | refine aw_true rfl ?_
      | refine aw_false rfl ?_
      | refine aw_block ?_
      | refine aw_skip ?_
      | refine aw_exit ?_
      | refine blk_exit ?_
      | refine blk_exit_other rfl ?_
      | refine blk_normal ?_
      | refine thn_exit ?_
      | refine thn_ret ?_
      | refine blk_ret ?_
      | refine rnd_ret ?_
      | refine rnd_exit ?_
      | refine aw_ret ?_
      | refine s_arith tabOk rfl rfl rfl rfl (by simp only [InR]; omega) ?_
      | ((fail_if_success refine s_told rfl rfl ?_); refine s_part rfl rfl rfl ?_ ?_ <;> intro hc <;> (first | replace hc := of_decide_eq_true hc | replace hc := of_decide_eq_false hc | replace hc := eq_of_beq hc | skip))
      | (refine aw_if rfl ?_ ?_ <;> intro hc <;> (first | replace hc := of_decide_eq_true hc | replace hc := of_decide_eq_false hc | replace hc := eq_of_beq hc | skip))
      | refine s_index1 tabOk rfl rfl rfl rfl (by omega) (by omega) ?_)
    refine retK_ret tabOk (congrArg Array.toList Try.results24) (by repeat (first | exact rv_nil | apply rv_tmp rfl rfl | apply rv_cellH (by assumption) rfl rfl rfl (by repeat (first | exact List.Mem.head _ | apply List.Mem.tail)) rfl)) ?_
    rw [flR_no (by rw [hok, h1, h2]; rfl)]; exact ⟨rfl, rfl⟩
  repeat' (first
      | refine s_pure tabOk rfl rfl rfl rfl ?_
      | refine aops_nil ?_
      | refine thn_normal ?_
      | refine aw_seq ?_
      | refine aw_reg ?_
      | refine s_pass rfl rfl rfl ?_
      | refine s_len tabOk rfl rfl rfl rfl ?_
      | refine aw_true rfl ?_
      | refine aw_false rfl ?_
      | refine aw_block ?_
      | refine aw_skip ?_
      | refine aw_exit ?_
      | refine blk_exit ?_
      | refine blk_exit_other rfl ?_
      | refine blk_normal ?_
      | refine thn_exit ?_
      | refine thn_ret ?_
      | refine blk_ret ?_
      | refine rnd_ret ?_
      | refine rnd_exit ?_
      | refine aw_ret ?_
      | refine s_arith tabOk rfl rfl rfl rfl (by simp only [InR]; omega) ?_
      | ((fail_if_success refine s_told rfl rfl ?_); refine s_part rfl rfl rfl ?_ ?_ <;> intro hc <;> (first | replace hc := of_decide_eq_true hc | replace hc := of_decide_eq_false hc | replace hc := eq_of_beq hc | skip))
      | (refine aw_if rfl ?_ ?_ <;> intro hc <;> (first | replace hc := of_decide_eq_true hc | replace hc := of_decide_eq_false hc | replace hc := eq_of_beq hc | skip))
      | refine s_index1 tabOk rfl rfl rfl rfl (by omega) (by omega) ?_)
  refine s_call rfl rfl rfl rfl ent45 (c_spec_l01Finite _) ?_
  rintro _ _ ⟨rfl, rfl⟩
  cases h3 : isFin .f32 y
  · repeat' (first
      | refine s_pure tabOk rfl rfl rfl rfl ?_
      | refine aops_nil ?_
      | refine thn_normal ?_
      | refine aw_seq ?_
      | refine aw_reg ?_
      | refine s_pass rfl rfl rfl ?_
      | refine s_len tabOk rfl rfl rfl rfl ?_
      | refine aw_true rfl ?_
      | refine aw_false rfl ?_
      | refine aw_block ?_
      | refine aw_skip ?_
      | refine aw_exit ?_
      | refine blk_exit ?_
      | refine blk_exit_other rfl ?_
      | refine blk_normal ?_
      | refine thn_exit ?_
      | refine thn_ret ?_
      | refine blk_ret ?_
      | refine rnd_ret ?_
      | refine rnd_exit ?_
      | refine aw_ret ?_
      | refine s_arith tabOk rfl rfl rfl rfl (by simp only [InR]; omega) ?_
      | ((fail_if_success refine s_told rfl rfl ?_); refine s_part rfl rfl rfl ?_ ?_ <;> intro hc <;> (first | replace hc := of_decide_eq_true hc | replace hc := of_decide_eq_false hc | replace hc := eq_of_beq hc | skip))
      | (refine aw_if rfl ?_ ?_ <;> intro hc <;> (first | replace hc := of_decide_eq_true hc | replace hc := of_decide_eq_false hc | replace hc := eq_of_beq hc | skip))
      | refine s_index1 tabOk rfl rfl rfl rfl (by omega) (by omega) ?_)
    refine retK_ret tabOk (congrArg Array.toList Try.results24) (by repeat (first | exact rv_nil | apply rv_tmp rfl rfl | apply rv_cellH (by assumption) rfl rfl rfl (by repeat (first | exact List.Mem.head _ | apply List.Mem.tail)) rfl)) ?_
    rw [flR_no (by rw [hok, h1, h2, h3]; rfl)]; exact ⟨rfl, rfl⟩
  cases h4 : fcmp .gtr .f32 y 1065353216
  · repeat' (first
      | refine s_pure tabOk rfl rfl rfl rfl ?_
      | refine aops_nil ?_
      | refine thn_normal ?_
      | refine aw_seq ?_
      | refine aw_reg ?_
      | refine s_pass rfl rfl rfl ?_
      | refine s_len tabOk rfl rfl rfl rfl ?_
      | refine aw_true rfl ?_
      | refine aw_false rfl ?_
      | refine aw_block ?_
      | refine aw_skip ?_
      | refine aw_exit ?_
      | refine blk_exit ?_
      | refine blk_exit_other rfl ?_
      | refine blk_normal ?_
      | refine thn_exit ?_
      | refine thn_ret ?_
      | refine blk_ret ?_
      | refine rnd_ret ?_
      | refine rnd_exit ?_
      | refine aw_ret ?_
      | refine s_arith tabOk rfl rfl rfl rfl (by simp only [InR]; omega) ?_
      | ((fail_if_success refine s_told rfl rfl ?_); refine s_part rfl rfl rfl ?_ ?_ <;> intro hc <;> (first | replace hc := of_decide_eq_true hc | replace hc := of_decide_eq_false hc | replace hc := eq_of_beq hc | skip))
      | (refine aw_if rfl ?_ ?_ <;> intro hc <;> (first | replace hc := of_decide_eq_true hc | replace hc := of_decide_eq_false hc | replace hc := eq_of_beq hc | skip))
      | refine s_index1 tabOk rfl rfl rfl rfl (by omega) (by omega) ?_)
    all_goals try (exfalso; simp [h4] at hc; done)
    refine retK_ret tabOk (congrArg Array.toList Try.results24) (by repeat (first | exact rv_nil | apply rv_tmp rfl rfl | apply rv_cellH (by assumption) rfl rfl rfl (by repeat (first | exact List.Mem.head _ | apply List.Mem.tail)) rfl)) ?_
    rw [flR_no (by rw [hok, h1, h2, h3, h4]; rfl)]; exact ⟨rfl, rfl⟩
  have hk : flOk p s y = true := by rw [hok, h1, h2, h3, h4]; rfl
  repeat' (first
      | refine s_pure tabOk rfl rfl rfl rfl ?_
      | refine aops_nil ?_
      | refine thn_normal ?_
      | refine aw_seq ?_
      | refine aw_reg ?_
      | refine s_pass rfl rfl rfl ?_
      | refine s_len tabOk rfl rfl rfl rfl ?_
      | refine aw_true rfl ?_
      | refine aw_false rfl ?_
      | refine aw_block ?_
      | refine aw_skip ?_
      | refine aw_exit ?_
      | refine blk_exit ?_
      | refine blk_exit_other rfl ?_
      | refine blk_normal ?_
      | refine thn_exit ?_
      | refine thn_ret ?_
      | refine blk_ret ?_
      | refine rnd_ret ?_
      | refine rnd_exit ?_
      | refine aw_ret ?_
      | refine s_arith tabOk rfl rfl rfl rfl (by simp only [InR]; omega) ?_
      | ((fail_if_success refine s_told rfl rfl ?_); refine s_part rfl rfl rfl ?_ ?_ <;> intro hc <;> (first | replace hc := of_decide_eq_true hc | replace hc := of_decide_eq_false hc | replace hc := eq_of_beq hc | skip))
      | (refine aw_if rfl ?_ ?_ <;> intro hc <;> (first | replace hc := of_decide_eq_true hc | replace hc := of_decide_eq_false hc | replace hc := eq_of_beq hc | skip))
      | refine s_index1 tabOk rfl rfl rfl rfl (by omega) (by omega) ?_)
  all_goals try (exfalso; simp [h4] at hc; done)
  refine s_call rfl rfl rfl rfl ent50 (c_spec_l01Log fop_lt) ?_
  rintro _ _ ⟨rfl, rfl⟩
  repeat' (first
      | refine s_pure tabOk rfl rfl rfl rfl ?_
      | refine aops_nil ?_
      | refine thn_normal ?_
      | refine aw_seq ?_
      | refine aw_reg ?_
      | refine s_pass rfl rfl rfl ?_
      | refine s_len tabOk rfl rfl rfl rfl ?_
      | refine aw_true rfl ?_
      | refine aw_false rfl ?_
      | refine aw_block ?_
      | refine aw_skip ?_
      | refine aw_exit ?_
      | refine blk_exit ?_
      | refine blk_exit_other rfl ?_
      | refine blk_normal ?_
      | refine thn_exit ?_
      | refine thn_ret ?_
      | refine blk_ret ?_
      | refine rnd_ret ?_
      | refine rnd_exit ?_
      | refine aw_ret ?_
      | refine s_arith tabOk rfl rfl rfl rfl (by simp only [InR]; omega) ?_
      | ((fail_if_success refine s_told rfl rfl ?_); refine s_part rfl rfl rfl ?_ ?_ <;> intro hc <;> (first | replace hc := of_decide_eq_true hc | replace hc := of_decide_eq_false hc | replace hc := eq_of_beq hc | skip))
      | (refine aw_if rfl ?_ ?_ <;> intro hc <;> (first | replace hc := of_decide_eq_true hc | replace hc := of_decide_eq_false hc | replace hc := eq_of_beq hc | skip))
      | refine s_index1 tabOk rfl rfl rfl rfl (by omega) (by omega) ?_)
  refine s_call rfl rfl rfl rfl ent50 (c_spec_l01Log (fneg_lt (logN_lt fop_lt))) ?_
  rintro _ _ ⟨rfl, rfl⟩
  repeat' (first
      | refine s_pure tabOk rfl rfl rfl rfl ?_
      | refine aops_nil ?_
      | refine thn_normal ?_
      | refine aw_seq ?_
      | refine aw_reg ?_
      | refine s_pass rfl rfl rfl ?_
      | refine s_len tabOk rfl rfl rfl rfl ?_
      | refine aw_true rfl ?_
      | refine aw_false rfl ?_
      | refine aw_block ?_
      | refine aw_skip ?_
      | refine aw_exit ?_
      | refine blk_exit ?_
      | refine blk_exit_other rfl ?_
      | refine blk_normal ?_
      | refine thn_exit ?_
      | refine thn_ret ?_
      | refine blk_ret ?_
      | refine rnd_ret ?_
      | refine rnd_exit ?_
      | refine aw_ret ?_
      | refine s_arith tabOk rfl rfl rfl rfl (by simp only [InR]; omega) ?_
      | ((fail_if_success refine s_told rfl rfl ?_); refine s_part rfl rfl rfl ?_ ?_ <;> intro hc <;> (first | replace hc := of_decide_eq_true hc | replace hc := of_decide_eq_false hc | replace hc := eq_of_beq hc | skip))
      | (refine aw_if rfl ?_ ?_ <;> intro hc <;> (first | replace hc := of_decide_eq_true hc | replace hc := of_decide_eq_false hc | replace hc := eq_of_beq hc | skip))
      | refine s_index1 tabOk rfl rfl rfl rfl (by omega) (by omega) ?_)
  refine s_call rfl rfl rfl rfl ent51 (c_spec_l02Number _) ?_
  rintro _ _ ⟨rfl, rfl⟩
  repeat' (first
      | refine s_pure tabOk rfl rfl rfl rfl ?_
      | refine aops_nil ?_
      | refine thn_normal ?_
      | refine aw_seq ?_
      | refine aw_reg ?_
      | refine s_pass rfl rfl rfl ?_
      | refine s_len tabOk rfl rfl rfl rfl ?_
      | refine aw_true rfl ?_
      | refine aw_false rfl ?_
      | refine aw_block ?_
      | refine aw_skip ?_
      | refine aw_exit ?_
      | refine blk_exit ?_
      | refine blk_exit_other rfl ?_
      | refine blk_normal ?_
      | refine thn_exit ?_
      | refine thn_ret ?_
      | refine blk_ret ?_
      | refine rnd_ret ?_
      | refine rnd_exit ?_
      | refine aw_ret ?_
      | refine s_arith tabOk rfl rfl rfl rfl (by simp only [InR]; omega) ?_
      | ((fail_if_success refine s_told rfl rfl ?_); refine s_part rfl rfl rfl ?_ ?_ <;> intro hc <;> (first | replace hc := of_decide_eq_true hc | replace hc := of_decide_eq_false hc | replace hc := eq_of_beq hc | skip))
      | (refine aw_if rfl ?_ ?_ <;> intro hc <;> (first | replace hc := of_decide_eq_true hc | replace hc := of_decide_eq_false hc | replace hc := eq_of_beq hc | skip))
      | refine s_index1 tabOk rfl rfl rfl rfl (by omega) (by omega) ?_)
  refine retK_ret tabOk (congrArg Array.toList Try.results24) (by repeat (first | exact rv_nil | apply rv_tmp rfl rfl | apply rv_cellH (by assumption) rfl rfl rfl (by repeat (first | exact List.Mem.head _ | apply List.Mem.tail)) rfl)) ?_
  rw [flR_yes hk]
  unfold flV
  exact ⟨rfl, rfl⟩
theorem c_impl_FloodOf {p s y : Nat} (hB : B ≤ W.heap.size) : ACalls Try.prog B 25 [.float .f32 p, .float .f32 s, .float .f32 y] W (fun r W' => r = .tuple #[.float .f32 (flR p s y).1, .bool (flR p s y).2] ∧ Hp B W W' []) := by
  have H0 : Hp B W W [] := Hp.new hB
  have hok : flOk p s y = (isFin .f32 p && (least s && (isFin .f32 y && fcmp .gtr .f32 y 1065353216))) := by unfold flOk; rfl
  refine acalls_of Try.func25 rfl Try.ntmps25 (Nat.le_of_ble_eq_true rfl) ?_
  repeat' (first | refine s_pure tabOk rfl rfl rfl rfl ?_ | refine Stp.imp ?_ | refine aops_nil ?_ | refine aw_reg ?_ | refine aw_seq ?_ | refine s_pass rfl rfl rfl ?_ | refine s_len tabOk rfl rfl rfl rfl ?_ | refine aw_true rfl ?_ | refine aw_false rfl ?_ | refine blk_exit_other rfl ?_ | refine s_arith tabOk rfl rfl rfl rfl (by simp only [InR]; omega) ?_ | ((first | ((fail_if_success refine s_told rfl rfl ?_); refine s_part rfl rfl rfl ?_ ?_) | refine aw_if rfl ?_ ?_) <;> intro hc <;> (first | replace hc := DecT.imp hc | simp only [decs] at hc | skip)) | refine s_index1n tabOk rfl rfl rfl rfl (by omega) ?_ | refine s_indexn tabOk rfl rfl rfl rfl (by omega) ?_ | refine s_index1 tabOk rfl rfl rfl rfl (by omega) (by omega) ?_ | refine sh_load tabOk (by assumption) rfl rfl rfl rfl (by repeat (first | exact List.Mem.head _ | apply List.Mem.tail)) (by rfl) (by rfl) ?_ | refine sh_loada tabOk (by assumption) rfl rfl rfl rfl (by repeat (first | exact List.Mem.head _ | apply List.Mem.tail)) (by rfl) ?_ | (refine sh_box (by assumption) rfl rfl rfl rfl rfl rfl ?_; intro _ _ _) | (refine sh_alloc tabOk (by assumption) rfl rfl rfl rfl rfl rfl ?_; intro _ _ _) | (refine sh_store tabOk (by assumption) rfl rfl rfl rfl rfl rfl (by repeat (first | exact Upd.here | apply Upd.there)) (by rfl) ?_; intro _ _) | (refine sh_lit tabOk (by assumption) rfl rfl rfl rfl rfl rfl rfl rfl rfl rfl rfl ?_; intro _ _ _) | refine sh_build tabOk rfl rfl rfl rfl rfl rfl ?_)
  rename_i b1 W1 H1
  refine s_call rfl rfl rfl rfl ent41 (c_impl_areFinite (xs := [p, y]) (Hp.slF H1 (List.mem_cons_self ..)) (by simp)) ?_
  rintro _ W9 ⟨rfl, e9⟩
  obtain rfl := e9.symm
  rw [show [p, y].all (isFin .f32) = (isFin .f32 p && isFin .f32 y) by simp]
  cases h1 : isFin .f32 p
  · rw [Bool.false_and]
    repeat' (first | refine s_pure tabOk rfl rfl rfl rfl ?_ | refine Stp.imp ?_ | refine aops_nil ?_ | refine aw_reg ?_ | refine aw_seq ?_ | refine s_pass rfl rfl rfl ?_ | refine s_len tabOk rfl rfl rfl rfl ?_ | refine aw_true rfl ?_ | refine aw_false rfl ?_ | refine blk_exit_other rfl ?_ | refine s_arith tabOk rfl rfl rfl rfl (by simp only [InR]; omega) ?_ | ((first | ((fail_if_success refine s_told rfl rfl ?_); refine s_part rfl rfl rfl ?_ ?_) | refine aw_if rfl ?_ ?_) <;> intro hc <;> (first | replace hc := DecT.imp hc | simp only [decs] at hc | skip)) | refine s_index1n tabOk rfl rfl rfl rfl (by omega) ?_ | refine s_indexn tabOk rfl rfl rfl rfl (by omega) ?_ | refine s_index1 tabOk rfl rfl rfl rfl (by omega) (by omega) ?_ | refine sh_load tabOk (by assumption) rfl rfl rfl rfl (by repeat (first | exact List.Mem.head _ | apply List.Mem.tail)) (by rfl) (by rfl) ?_ | refine sh_loada tabOk (by assumption) rfl rfl rfl rfl (by repeat (first | exact List.Mem.head _ | apply List.Mem.tail)) (by rfl) ?_ | (refine sh_box (by assumption) rfl rfl rfl rfl rfl rfl ?_; intro _ _ _) | (refine sh_alloc tabOk (by assumption) rfl rfl rfl rfl rfl rfl ?_; intro _ _ _) | (refine sh_store tabOk (by assumption) rfl rfl rfl rfl rfl rfl (by repeat (first | exact Upd.here | apply Upd.there)) (by rfl) ?_; intro _ _) | (refine sh_lit tabOk (by assumption) rfl rfl rfl rfl rfl rfl rfl rfl rfl rfl rfl ?_; intro _ _ _) | refine sh_build tabOk rfl rfl rfl rfl rfl rfl ?_)
    refine retK_ret tabOk (congrArg Array.toList Try.results25) (by repeat (first | exact rv_nil | apply rv_tmp rfl rfl | apply rv_cellH (by assumption) rfl rfl rfl (by repeat (first | exact List.Mem.head _ | apply List.Mem.tail)) rfl)) ?_
    rw [flR_no (by rw [hok, h1]; rfl)]; exact ⟨rfl, Hp.sub H1 (by repeat (first | exact List.nil_sublist _ | refine List.Sublist.cons_cons _ ?_ | refine List.Sublist.cons _ ?_))⟩
  cases h3 : isFin .f32 y
  · rw [Bool.and_false]
    repeat' (first | refine s_pure tabOk rfl rfl rfl rfl ?_ | refine Stp.imp ?_ | refine aops_nil ?_ | refine aw_reg ?_ | refine aw_seq ?_ | refine s_pass rfl rfl rfl ?_ | refine s_len tabOk rfl rfl rfl rfl ?_ | refine aw_true rfl ?_ | refine aw_false rfl ?_ | refine blk_exit_other rfl ?_ | refine s_arith tabOk rfl rfl rfl rfl (by simp only [InR]; omega) ?_ | ((first | ((fail_if_success refine s_told rfl rfl ?_); refine s_part rfl rfl rfl ?_ ?_) | refine aw_if rfl ?_ ?_) <;> intro hc <;> (first | replace hc := DecT.imp hc | simp only [decs] at hc | skip)) | refine s_index1n tabOk rfl rfl rfl rfl (by omega) ?_ | refine s_indexn tabOk rfl rfl rfl rfl (by omega) ?_ | refine s_index1 tabOk rfl rfl rfl rfl (by omega) (by omega) ?_ | refine sh_load tabOk (by assumption) rfl rfl rfl rfl (by repeat (first | exact List.Mem.head _ | apply List.Mem.tail)) (by rfl) (by rfl) ?_ | refine sh_loada tabOk (by assumption) rfl rfl rfl rfl (by repeat (first | exact List.Mem.head _ | apply List.Mem.tail)) (by rfl) ?_ | (refine sh_box (by assumption) rfl rfl rfl rfl rfl rfl ?_; intro _ _ _) | (refine sh_alloc tabOk (by assumption) rfl rfl rfl rfl rfl rfl ?_; intro _ _ _) | (refine sh_store tabOk (by assumption) rfl rfl rfl rfl rfl rfl (by repeat (first | exact Upd.here | apply Upd.there)) (by rfl) ?_; intro _ _) | (refine sh_lit tabOk (by assumption) rfl rfl rfl rfl rfl rfl rfl rfl rfl rfl rfl ?_; intro _ _ _) | refine sh_build tabOk rfl rfl rfl rfl rfl rfl ?_)
    refine retK_ret tabOk (congrArg Array.toList Try.results25) (by repeat (first | exact rv_nil | apply rv_tmp rfl rfl | apply rv_cellH (by assumption) rfl rfl rfl (by repeat (first | exact List.Mem.head _ | apply List.Mem.tail)) rfl)) ?_
    rw [flR_no (by rw [hok, h1, h3]; simp)]; exact ⟨rfl, Hp.sub H1 (by repeat (first | exact List.nil_sublist _ | refine List.Sublist.cons_cons _ ?_ | refine List.Sublist.cons _ ?_))⟩
  rw [Bool.and_true]
  repeat' (first | refine s_pure tabOk rfl rfl rfl rfl ?_ | refine Stp.imp ?_ | refine aops_nil ?_ | refine aw_reg ?_ | refine aw_seq ?_ | refine s_pass rfl rfl rfl ?_ | refine s_len tabOk rfl rfl rfl rfl ?_ | refine aw_true rfl ?_ | refine aw_false rfl ?_ | refine blk_exit_other rfl ?_ | refine s_arith tabOk rfl rfl rfl rfl (by simp only [InR]; omega) ?_ | ((first | ((fail_if_success refine s_told rfl rfl ?_); refine s_part rfl rfl rfl ?_ ?_) | refine aw_if rfl ?_ ?_) <;> intro hc <;> (first | replace hc := DecT.imp hc | simp only [decs] at hc | skip)) | refine s_index1n tabOk rfl rfl rfl rfl (by omega) ?_ | refine s_indexn tabOk rfl rfl rfl rfl (by omega) ?_ | refine s_index1 tabOk rfl rfl rfl rfl (by omega) (by omega) ?_ | refine sh_load tabOk (by assumption) rfl rfl rfl rfl (by repeat (first | exact List.Mem.head _ | apply List.Mem.tail)) (by rfl) (by rfl) ?_ | refine sh_loada tabOk (by assumption) rfl rfl rfl rfl (by repeat (first | exact List.Mem.head _ | apply List.Mem.tail)) (by rfl) ?_ | (refine sh_box (by assumption) rfl rfl rfl rfl rfl rfl ?_; intro _ _ _) | (refine sh_alloc tabOk (by assumption) rfl rfl rfl rfl rfl rfl ?_; intro _ _ _) | (refine sh_store tabOk (by assumption) rfl rfl rfl rfl rfl rfl (by repeat (first | exact Upd.here | apply Upd.there)) (by rfl) ?_; intro _ _) | (refine sh_lit tabOk (by assumption) rfl rfl rfl rfl rfl rfl rfl rfl rfl rfl rfl ?_; intro _ _ _) | refine sh_build tabOk rfl rfl rfl rfl rfl rfl ?_)
  refine s_call rfl rfl rfl rfl ent56 (c_impl_aMass _) ?_
  rintro _ W9 ⟨rfl, e9⟩
  obtain rfl := e9.symm
  cases h2 : least s
  · repeat' (first | refine s_pure tabOk rfl rfl rfl rfl ?_ | refine Stp.imp ?_ | refine aops_nil ?_ | refine aw_reg ?_ | refine aw_seq ?_ | refine s_pass rfl rfl rfl ?_ | refine s_len tabOk rfl rfl rfl rfl ?_ | refine aw_true rfl ?_ | refine aw_false rfl ?_ | refine blk_exit_other rfl ?_ | refine s_arith tabOk rfl rfl rfl rfl (by simp only [InR]; omega) ?_ | ((first | ((fail_if_success refine s_told rfl rfl ?_); refine s_part rfl rfl rfl ?_ ?_) | refine aw_if rfl ?_ ?_) <;> intro hc <;> (first | replace hc := DecT.imp hc | simp only [decs] at hc | skip)) | refine s_index1n tabOk rfl rfl rfl rfl (by omega) ?_ | refine s_indexn tabOk rfl rfl rfl rfl (by omega) ?_ | refine s_index1 tabOk rfl rfl rfl rfl (by omega) (by omega) ?_ | refine sh_load tabOk (by assumption) rfl rfl rfl rfl (by repeat (first | exact List.Mem.head _ | apply List.Mem.tail)) (by rfl) (by rfl) ?_ | refine sh_loada tabOk (by assumption) rfl rfl rfl rfl (by repeat (first | exact List.Mem.head _ | apply List.Mem.tail)) (by rfl) ?_ | (refine sh_box (by assumption) rfl rfl rfl rfl rfl rfl ?_; intro _ _ _) | (refine sh_alloc tabOk (by assumption) rfl rfl rfl rfl rfl rfl ?_; intro _ _ _) | (refine sh_store tabOk (by assumption) rfl rfl rfl rfl rfl rfl (by repeat (first | exact Upd.here | apply Upd.there)) (by rfl) ?_; intro _ _) | (refine sh_lit tabOk (by assumption) rfl rfl rfl rfl rfl rfl rfl rfl rfl rfl rfl ?_; intro _ _ _) | refine sh_build tabOk rfl rfl rfl rfl rfl rfl ?_)
    refine retK_ret tabOk (congrArg Array.toList Try.results25) (by repeat (first | exact rv_nil | apply rv_tmp rfl rfl | apply rv_cellH (by assumption) rfl rfl rfl (by repeat (first | exact List.Mem.head _ | apply List.Mem.tail)) rfl)) ?_
    rw [flR_no (by rw [hok, h1, h2]; rfl)]; exact ⟨rfl, Hp.sub H1 (by repeat (first | exact List.nil_sublist _ | refine List.Sublist.cons_cons _ ?_ | refine List.Sublist.cons _ ?_))⟩
  cases h4 : fcmp .gtr .f32 y 1065353216
  · repeat' (first | refine s_pure tabOk rfl rfl rfl rfl ?_ | refine Stp.imp ?_ | refine aops_nil ?_ | refine aw_reg ?_ | refine aw_seq ?_ | refine s_pass rfl rfl rfl ?_ | refine s_len tabOk rfl rfl rfl rfl ?_ | refine aw_true rfl ?_ | refine aw_false rfl ?_ | refine blk_exit_other rfl ?_ | refine s_arith tabOk rfl rfl rfl rfl (by simp only [InR]; omega) ?_ | ((first | ((fail_if_success refine s_told rfl rfl ?_); refine s_part rfl rfl rfl ?_ ?_) | refine aw_if rfl ?_ ?_) <;> intro hc <;> (first | replace hc := DecT.imp hc | simp only [decs] at hc | skip)) | refine s_index1n tabOk rfl rfl rfl rfl (by omega) ?_ | refine s_indexn tabOk rfl rfl rfl rfl (by omega) ?_ | refine s_index1 tabOk rfl rfl rfl rfl (by omega) (by omega) ?_ | refine sh_load tabOk (by assumption) rfl rfl rfl rfl (by repeat (first | exact List.Mem.head _ | apply List.Mem.tail)) (by rfl) (by rfl) ?_ | refine sh_loada tabOk (by assumption) rfl rfl rfl rfl (by repeat (first | exact List.Mem.head _ | apply List.Mem.tail)) (by rfl) ?_ | (refine sh_box (by assumption) rfl rfl rfl rfl rfl rfl ?_; intro _ _ _) | (refine sh_alloc tabOk (by assumption) rfl rfl rfl rfl rfl rfl ?_; intro _ _ _) | (refine sh_store tabOk (by assumption) rfl rfl rfl rfl rfl rfl (by repeat (first | exact Upd.here | apply Upd.there)) (by rfl) ?_; intro _ _) | (refine sh_lit tabOk (by assumption) rfl rfl rfl rfl rfl rfl rfl rfl rfl rfl rfl ?_; intro _ _ _) | refine sh_build tabOk rfl rfl rfl rfl rfl rfl ?_)
    all_goals try (exfalso; simp [h4] at hc; done)
    refine retK_ret tabOk (congrArg Array.toList Try.results25) (by repeat (first | exact rv_nil | apply rv_tmp rfl rfl | apply rv_cellH (by assumption) rfl rfl rfl (by repeat (first | exact List.Mem.head _ | apply List.Mem.tail)) rfl)) ?_
    rw [flR_no (by rw [hok, h1, h2, h3, h4]; rfl)]; exact ⟨rfl, Hp.sub H1 (by repeat (first | exact List.nil_sublist _ | refine List.Sublist.cons_cons _ ?_ | refine List.Sublist.cons _ ?_))⟩
  have hk : flOk p s y = true := by rw [hok, h1, h2, h3, h4]; rfl
  repeat' (first | refine s_pure tabOk rfl rfl rfl rfl ?_ | refine Stp.imp ?_ | refine aops_nil ?_ | refine aw_reg ?_ | refine aw_seq ?_ | refine s_pass rfl rfl rfl ?_ | refine s_len tabOk rfl rfl rfl rfl ?_ | refine aw_true rfl ?_ | refine aw_false rfl ?_ | refine blk_exit_other rfl ?_ | refine s_arith tabOk rfl rfl rfl rfl (by simp only [InR]; omega) ?_ | ((first | ((fail_if_success refine s_told rfl rfl ?_); refine s_part rfl rfl rfl ?_ ?_) | refine aw_if rfl ?_ ?_) <;> intro hc <;> (first | replace hc := DecT.imp hc | simp only [decs] at hc | skip)) | refine s_index1n tabOk rfl rfl rfl rfl (by omega) ?_ | refine s_indexn tabOk rfl rfl rfl rfl (by omega) ?_ | refine s_index1 tabOk rfl rfl rfl rfl (by omega) (by omega) ?_ | refine sh_load tabOk (by assumption) rfl rfl rfl rfl (by repeat (first | exact List.Mem.head _ | apply List.Mem.tail)) (by rfl) (by rfl) ?_ | refine sh_loada tabOk (by assumption) rfl rfl rfl rfl (by repeat (first | exact List.Mem.head _ | apply List.Mem.tail)) (by rfl) ?_ | (refine sh_box (by assumption) rfl rfl rfl rfl rfl rfl ?_; intro _ _ _) | (refine sh_alloc tabOk (by assumption) rfl rfl rfl rfl rfl rfl ?_; intro _ _ _) | (refine sh_store tabOk (by assumption) rfl rfl rfl rfl rfl rfl (by repeat (first | exact Upd.here | apply Upd.there)) (by rfl) ?_; intro _ _) | (refine sh_lit tabOk (by assumption) rfl rfl rfl rfl rfl rfl rfl rfl rfl rfl rfl ?_; intro _ _ _) | refine sh_build tabOk rfl rfl rfl rfl rfl rfl ?_)
  all_goals try (exfalso; simp [h4] at hc; done)
  refine s_call rfl rfl rfl rfl ent53 (c_impl_LogNumber fop_lt) ?_
  rintro _ W9 ⟨rfl, e9⟩
  obtain rfl := e9.symm
  repeat' (first | refine s_pure tabOk rfl rfl rfl rfl ?_ | refine Stp.imp ?_ | refine aops_nil ?_ | refine aw_reg ?_ | refine aw_seq ?_ | refine s_pass rfl rfl rfl ?_ | refine s_len tabOk rfl rfl rfl rfl ?_ | refine aw_true rfl ?_ | refine aw_false rfl ?_ | refine blk_exit_other rfl ?_ | refine s_arith tabOk rfl rfl rfl rfl (by simp only [InR]; omega) ?_ | ((first | ((fail_if_success refine s_told rfl rfl ?_); refine s_part rfl rfl rfl ?_ ?_) | refine aw_if rfl ?_ ?_) <;> intro hc <;> (first | replace hc := DecT.imp hc | simp only [decs] at hc | skip)) | refine s_index1n tabOk rfl rfl rfl rfl (by omega) ?_ | refine s_indexn tabOk rfl rfl rfl rfl (by omega) ?_ | refine s_index1 tabOk rfl rfl rfl rfl (by omega) (by omega) ?_ | refine sh_load tabOk (by assumption) rfl rfl rfl rfl (by repeat (first | exact List.Mem.head _ | apply List.Mem.tail)) (by rfl) (by rfl) ?_ | refine sh_loada tabOk (by assumption) rfl rfl rfl rfl (by repeat (first | exact List.Mem.head _ | apply List.Mem.tail)) (by rfl) ?_ | (refine sh_box (by assumption) rfl rfl rfl rfl rfl rfl ?_; intro _ _ _) | (refine sh_alloc tabOk (by assumption) rfl rfl rfl rfl rfl rfl ?_; intro _ _ _) | (refine sh_store tabOk (by assumption) rfl rfl rfl rfl rfl rfl (by repeat (first | exact Upd.here | apply Upd.there)) (by rfl) ?_; intro _ _) | (refine sh_lit tabOk (by assumption) rfl rfl rfl rfl rfl rfl rfl rfl rfl rfl rfl ?_; intro _ _ _) | refine sh_build tabOk rfl rfl rfl rfl rfl rfl ?_)
  refine s_call rfl rfl rfl rfl ent53 (c_impl_LogNumber (fneg_lt (logN_lt fop_lt))) ?_
  rintro _ W9 ⟨rfl, e9⟩
  obtain rfl := e9.symm
  repeat' (first | refine s_pure tabOk rfl rfl rfl rfl ?_ | refine Stp.imp ?_ | refine aops_nil ?_ | refine aw_reg ?_ | refine aw_seq ?_ | refine s_pass rfl rfl rfl ?_ | refine s_len tabOk rfl rfl rfl rfl ?_ | refine aw_true rfl ?_ | refine aw_false rfl ?_ | refine blk_exit_other rfl ?_ | refine s_arith tabOk rfl rfl rfl rfl (by simp only [InR]; omega) ?_ | ((first | ((fail_if_success refine s_told rfl rfl ?_); refine s_part rfl rfl rfl ?_ ?_) | refine aw_if rfl ?_ ?_) <;> intro hc <;> (first | replace hc := DecT.imp hc | simp only [decs] at hc | skip)) | refine s_index1n tabOk rfl rfl rfl rfl (by omega) ?_ | refine s_indexn tabOk rfl rfl rfl rfl (by omega) ?_ | refine s_index1 tabOk rfl rfl rfl rfl (by omega) (by omega) ?_ | refine sh_load tabOk (by assumption) rfl rfl rfl rfl (by repeat (first | exact List.Mem.head _ | apply List.Mem.tail)) (by rfl) (by rfl) ?_ | refine sh_loada tabOk (by assumption) rfl rfl rfl rfl (by repeat (first | exact List.Mem.head _ | apply List.Mem.tail)) (by rfl) ?_ | (refine sh_box (by assumption) rfl rfl rfl rfl rfl rfl ?_; intro _ _ _) | (refine sh_alloc tabOk (by assumption) rfl rfl rfl rfl rfl rfl ?_; intro _ _ _) | (refine sh_store tabOk (by assumption) rfl rfl rfl rfl rfl rfl (by repeat (first | exact Upd.here | apply Upd.there)) (by rfl) ?_; intro _ _) | (refine sh_lit tabOk (by assumption) rfl rfl rfl rfl rfl rfl rfl rfl rfl rfl rfl ?_; intro _ _ _) | refine sh_build tabOk rfl rfl rfl rfl rfl rfl ?_)
  refine s_call rfl rfl rfl rfl ent54 (c_impl_finite32 _) ?_
  rintro _ W9 ⟨rfl, e9⟩
  obtain rfl := e9.symm
  repeat' (first | refine s_pure tabOk rfl rfl rfl rfl ?_ | refine Stp.imp ?_ | refine aops_nil ?_ | refine aw_reg ?_ | refine aw_seq ?_ | refine s_pass rfl rfl rfl ?_ | refine s_len tabOk rfl rfl rfl rfl ?_ | refine aw_true rfl ?_ | refine aw_false rfl ?_ | refine blk_exit_other rfl ?_ | refine s_arith tabOk rfl rfl rfl rfl (by simp only [InR]; omega) ?_ | ((first | ((fail_if_success refine s_told rfl rfl ?_); refine s_part rfl rfl rfl ?_ ?_) | refine aw_if rfl ?_ ?_) <;> intro hc <;> (first | replace hc := DecT.imp hc | simp only [decs] at hc | skip)) | refine s_index1n tabOk rfl rfl rfl rfl (by omega) ?_ | refine s_indexn tabOk rfl rfl rfl rfl (by omega) ?_ | refine s_index1 tabOk rfl rfl rfl rfl (by omega) (by omega) ?_ | refine sh_load tabOk (by assumption) rfl rfl rfl rfl (by repeat (first | exact List.Mem.head _ | apply List.Mem.tail)) (by rfl) (by rfl) ?_ | refine sh_loada tabOk (by assumption) rfl rfl rfl rfl (by repeat (first | exact List.Mem.head _ | apply List.Mem.tail)) (by rfl) ?_ | (refine sh_box (by assumption) rfl rfl rfl rfl rfl rfl ?_; intro _ _ _) | (refine sh_alloc tabOk (by assumption) rfl rfl rfl rfl rfl rfl ?_; intro _ _ _) | (refine sh_store tabOk (by assumption) rfl rfl rfl rfl rfl rfl (by repeat (first | exact Upd.here | apply Upd.there)) (by rfl) ?_; intro _ _) | (refine sh_lit tabOk (by assumption) rfl rfl rfl rfl rfl rfl rfl rfl rfl rfl rfl ?_; intro _ _ _) | refine sh_build tabOk rfl rfl rfl rfl rfl rfl ?_)
  refine retK_ret tabOk (congrArg Array.toList Try.results25) (by repeat (first | exact rv_nil | apply rv_tmp rfl rfl | apply rv_cellH (by assumption) rfl rfl rfl (by repeat (first | exact List.Mem.head _ | apply List.Mem.tail)) rfl)) ?_
  rw [flR_yes hk]
  unfold flV
  exact ⟨rfl, Hp.sub H1 (by repeat (first | exact List.nil_sublist _ | refine List.Sublist.cons_cons _ ?_ | refine List.Sublist.cons _ ?_))⟩
end
end Go.Proofs.Ytaiebodmlnpbkaa
