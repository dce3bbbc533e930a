/- Base flow: what is slow. -/
import Derived.Test.YtmplincflbhmiaaXLh
namespace Go.Proofs.Ytmplincflbhmiaa
set_option linter.unusedSimpArgs false
set_option linter.unusedVariables false
open Go Cn Go.RowKit
def isShare (k : Nat) : Bool := fcmp .geq .f32 k 0 && fcmp .leq .f32 k 1065353216
section
variable {B : Nat} {W : World}
theorem c_spec_l02Share (k : Nat) : ACalls Try.prog B 52 [.float .f32 k] W (fun r W' => r = .bool (isShare k) ∧ W' = W) := by
  refine acalls_of Try.func52 rfl Try.ntmps52 (Nat.le_of_ble_eq_true rfl) ?_
  repeat' (first
      | refine s_pure tabOk rfl rfl rfl rfl ?_
      | refine aops_nil ?_
      | refine thn_normal ?_
      | refine aw_seq ?_
      | refine aw_reg ?_
      | refine s_pass rfl rfl rfl ?_
      | refine s_len tabOk rfl rfl rfl rfl ?_
      | refine aw_true rfl ?_
      | refine aw_false rfl ?_
      | refine aw_block ?_
      | refine aw_skip ?_
      | refine aw_exit ?_
      | refine blk_exit ?_
      | refine blk_exit_other rfl ?_
      | refine blk_normal ?_
      | refine thn_exit ?_
      | refine thn_ret ?_
      | refine blk_ret ?_
      | refine rnd_ret ?_
      | refine rnd_exit ?_
      | refine aw_ret ?_
      | refine s_arith tabOk rfl rfl rfl rfl (by simp only [InR]; omega) ?_
      | ((fail_if_success refine s_told rfl rfl ?_); refine s_part rfl rfl rfl ?_ ?_ <;> intro hc <;> (first | replace hc := of_decide_eq_true hc | replace hc := of_decide_eq_false hc | replace hc := eq_of_beq hc | skip))
      | (refine aw_if rfl ?_ ?_ <;> intro hc <;> (first | replace hc := of_decide_eq_true hc | replace hc := of_decide_eq_false hc | replace hc := eq_of_beq hc | skip))
      | refine s_index1 tabOk rfl rfl rfl rfl (by omega) (by omega) ?_)
  all_goals exact retK_ret tabOk (congrArg Array.toList Try.results52) (rv_tmp rfl rfl rv_nil) ⟨by simp [retV, isShare, hc], rfl⟩
theorem OwnF.one {W : World} {x : Nat} (hx : cb .f32 x = x) : OwnF (W.alloc (.cells (cellsAll [.float .f32 x]) 32)) W.heap.size (.slice (some ⟨W.heap.size, 0, none⟩) 1 1) [x] := by
  refine ⟨⟨rfl, .inr ⟨W.heap.size, 1, cellsAll [.float .f32 x], rfl, Nat.le_refl _, heap_alloc_new W _, by simp, by decide, rfl, rfl⟩⟩, fun i hi => ?_⟩
  have : i = 0 := by simpa using hi
  subst this
  exact hx
end
end Go.Proofs.Ytmplincflbhmiaa
