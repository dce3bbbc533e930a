/- Records packed: both ways. -/
import Derived.Test.YtaiebodmlnpbkaaFh
namespace Go.Proofs.Ytaiebodmlnpbkaa
set_option linter.unusedSimpArgs false
set_option linter.unusedVariables false
open Go Cn Go.RowKit
theorem word_of_nonan {b x : Nat} (h : cb .f32 b = x) (hc : fcmp .neq .f32 x x = false) : b = x := by
  subst h
  rw [neq_self] at hc
  unfold cb at hc ⊢
  split
  · rename_i hn
    rw [if_pos hn] at hc
    rw [qnan_nan] at hc; cases hc
  · rfl
section
variable {B : Nat} {W : World}
theorem c_spec_l01Bits {x : Nat} (hx : x < 4294967296) : ACalls Try.prog B 139 [.float .f32 x] W (fun r W' => r = .int .i64 (wordOf x) ∧ W' = W) := by
  refine acalls_of Try.func139 rfl Try.ntmps139 (Nat.le_of_ble_eq_true rfl) ?_
  repeat' (first
      | refine s_pure tabOk rfl rfl rfl rfl ?_
      | refine aops_nil ?_
      | refine thn_normal ?_
      | refine aw_seq ?_
      | refine aw_reg ?_
      | refine s_pass rfl rfl rfl ?_
      | refine s_len tabOk rfl rfl rfl rfl ?_
      | refine aw_true rfl ?_
      | refine aw_false rfl ?_
      | refine aw_block ?_
      | refine aw_skip ?_
      | refine aw_exit ?_
      | refine blk_exit ?_
      | refine blk_exit_other rfl ?_
      | refine blk_normal ?_
      | refine thn_exit ?_
      | refine thn_ret ?_
      | refine blk_ret ?_
      | refine rnd_ret ?_
      | refine rnd_exit ?_
      | refine aw_ret ?_
      | refine s_arith tabOk rfl rfl rfl rfl (by simp only [InR]; omega) ?_
      | ((fail_if_success refine s_told rfl rfl ?_); refine s_part rfl rfl rfl ?_ ?_ <;> intro hc <;> (first | replace hc := of_decide_eq_true hc | replace hc := of_decide_eq_false hc | replace hc := eq_of_beq hc | skip))
      | (refine aw_if rfl ?_ ?_ <;> intro hc <;> (first | replace hc := of_decide_eq_true hc | replace hc := of_decide_eq_false hc | replace hc := eq_of_beq hc | skip))
      | refine s_index1 tabOk rfl rfl rfl rfl (by omega) (by omega) ?_)
  · exact retK_ret tabOk (congrArg Array.toList Try.results139) (rv_tmp rfl rfl rv_nil) ⟨by unfold wordOf; rw [if_pos hc]; rfl, rfl⟩
  · refine s_ext rfl rfl rfl rfl (x_math_Float32bits _) ?_
    rintro _ W ⟨⟨b, rfl, hb⟩, rfl⟩
    have := word_of_nonan hb hc
    subst this
    repeat' (first
      | refine s_pure tabOk rfl rfl rfl rfl ?_
      | refine aops_nil ?_
      | refine thn_normal ?_
      | refine aw_seq ?_
      | refine aw_reg ?_
      | refine s_pass rfl rfl rfl ?_
      | refine s_len tabOk rfl rfl rfl rfl ?_
      | refine aw_true rfl ?_
      | refine aw_false rfl ?_
      | refine aw_block ?_
      | refine aw_skip ?_
      | refine aw_exit ?_
      | refine blk_exit ?_
      | refine blk_exit_other rfl ?_
      | refine blk_normal ?_
      | refine thn_exit ?_
      | refine thn_ret ?_
      | refine blk_ret ?_
      | refine rnd_ret ?_
      | refine rnd_exit ?_
      | refine aw_ret ?_
      | refine s_arith tabOk rfl rfl rfl rfl (by simp only [InR]; omega) ?_
      | ((fail_if_success refine s_told rfl rfl ?_); refine s_part rfl rfl rfl ?_ ?_ <;> intro hc <;> (first | replace hc := of_decide_eq_true hc | replace hc := of_decide_eq_false hc | replace hc := eq_of_beq hc | skip))
      | (refine aw_if rfl ?_ ?_ <;> intro hc <;> (first | replace hc := of_decide_eq_true hc | replace hc := of_decide_eq_false hc | replace hc := eq_of_beq hc | skip))
      | refine s_index1 tabOk rfl rfl rfl rfl (by omega) (by omega) ?_)
    exact retK_ret tabOk (congrArg Array.toList Try.results139) (rv_tmp rfl rfl rv_nil) ⟨by unfold wordOf; rw [if_neg (by simp [hc])]; rfl, rfl⟩
abbrev u8s (xs : List Int) : List Value := xs.map (.int .u8)
theorem u8s_push (xs : List Int) (z : Int) : u8s xs ++ [cl (.int .u8 z)] = u8s (xs ++ [z]) := by simp [u8s, cl]
theorem Bd.at {xs : List Nat} (h : Bd xs) {i : Nat} (hi : i < xs.length) : xs.getD i 0 < 4294967296 := by
  have : xs[i] ∈ xs := List.getElem_mem hi
  have := h _ this
  simpa [List.getD_eq_getElem?_getD, hi] using this
theorem prevW_range {xs : List Nat} (h : Bd xs) : ∀ {i : Nat}, i ≤ xs.length → 0 ≤ prevW xs i ∧ prevW xs i < 4294967296
  | 0, _ => by rw [prevW_zero]; decide
  | i + 1, hi => by rw [prevW_succ]; exact wordOf_range (h.at hi)
theorem zig_hi' {b p : Int} (h : (b - p) % 4294967296 ≥ 2147483648) : -2 * ((b - p) % 4294967296 - 4294967296) - 1 = zig b p := by
  have := zig_hi (b := b) (p := p) (by omega); omega
theorem zig_lo' {b p : Int} (h : ¬ (b - p) % 4294967296 ≥ 2147483648) : 2 * ((b - p) % 4294967296) = zig b p := by
  have := zig_lo (b := b) (p := p) (by omega); omega
@[irreducible] def packOk (n : Nat) : Bool := decide (1 ≤ n) && decide (n ≤ 128)
@[irreducible] def packS (xs : List Nat) : ByteArray := if packOk xs.length then strOfNums (packTo xs xs.length) else ⟨#[]⟩
end
end Go.Proofs.Ytaiebodmlnpbkaa
