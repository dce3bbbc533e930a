/- Base flow: what is slow. -/
import Derived.Test.YtaiebodmlnpbkaaFj
namespace Go.Proofs.Ytaiebodmlnpbkaa
set_option linter.unusedSimpArgs false
set_option linter.unusedVariables false
open Go Cn Go.RowKit
def bfQ (k : Nat) (xs : List Nat) : Nat → Nat
  | 0 => 0
  | i + 1 => if fcmp .gtr .f32 (fop .add .f32 (fop .mul .f32 k (bfQ k xs i)) (fop .mul .f32 (fop .mul .f32 1056964608 (fop .add .f32 1065353216 k)) (fop .sub .f32 (xs.getD (i + 1) 0) (xs.getD i 0)))) 0
      then fop .add .f32 (fop .mul .f32 k (bfQ k xs i)) (fop .mul .f32 (fop .mul .f32 1056964608 (fop .add .f32 1065353216 k)) (fop .sub .f32 (xs.getD (i + 1) 0) (xs.getD i 0))) else 0
theorem bfQ_zero (k : Nat) (xs : List Nat) : bfQ k xs 0 = 0 := rfl
theorem bfQ_succ (k : Nat) (xs : List Nat) (i : Nat) : bfQ k xs (i + 1) = if fcmp .gtr .f32 (fop .add .f32 (fop .mul .f32 k (bfQ k xs i)) (fop .mul .f32 (fop .mul .f32 1056964608 (fop .add .f32 1065353216 k)) (fop .sub .f32 (xs.getD (i + 1) 0) (xs.getD i 0)))) 0
      then fop .add .f32 (fop .mul .f32 k (bfQ k xs i)) (fop .mul .f32 (fop .mul .f32 1056964608 (fop .add .f32 1065353216 k)) (fop .sub .f32 (xs.getD (i + 1) 0) (xs.getD i 0))) else 0 := rfl
attribute [irreducible] bfQ
@[irreducible] def bfB (k : Nat) (xs : List Nat) (i : Nat) : Nat := if i = 0 then xs.getD 0 0 else if fcmp .lss .f32 (fop .sub .f32 (xs.getD i 0) (bfQ k xs i)) 0 then 0 else fop .sub .f32 (xs.getD i 0) (bfQ k xs i)
theorem bfB_zero (k : Nat) (xs : List Nat) : bfB k xs 0 = xs.getD 0 0 := by unfold bfB; rfl
theorem bfB_lo {k : Nat} {xs : List Nat} {i : Nat} (h : fcmp .lss .f32 (fop .sub .f32 (xs.getD (i + 1) 0) (bfQ k xs (i + 1))) 0 = true) : bfB k xs (i + 1) = 0 := by
  unfold bfB; rw [if_neg (by omega), if_pos h]
theorem bfB_hi {k : Nat} {xs : List Nat} {i : Nat} (h : fcmp .lss .f32 (fop .sub .f32 (xs.getD (i + 1) 0) (bfQ k xs (i + 1))) 0 = false) : bfB k xs (i + 1) = fop .sub .f32 (xs.getD (i + 1) 0) (bfQ k xs (i + 1)) := by
  unfold bfB; rw [if_neg (by omega), if_neg (by rw [h]; decide)]
def bfTo (k : Nat) (xs : List Nat) (n : Nat) : List Nat := (List.range n).map (bfB k xs)
theorem bfTo_one (k : Nat) (xs : List Nat) : bfTo k xs 1 = [xs.getD 0 0] := by simp [bfTo, List.range_succ, bfB_zero]
theorem bfTo_succ (k : Nat) (xs : List Nat) (n : Nat) : bfTo k xs (n + 1) = bfTo k xs n ++ [bfB k xs n] := (range_push n).symm
theorem bfTo_len (k : Nat) (xs : List Nat) (n : Nat) : (bfTo k xs n).length = n := by simp [bfTo]
attribute [irreducible] bfTo
def isShare (k : Nat) : Bool := fcmp .geq .f32 k 0 && fcmp .leq .f32 k 1065353216
@[irreducible] def bfOk (xs : List Nat) (k : Nat) : Bool := gauge xs && isShare k && (bfTo k xs xs.length).all (isFin .f32)
@[irreducible] def bfRes (xs : List Nat) (k : Nat) : List Nat := if bfOk xs k then bfTo k xs xs.length else []
theorem bfRes_len (xs : List Nat) (k : Nat) : (bfRes xs k).length ≤ xs.length := by
  unfold bfRes
  split
  · rw [bfTo_len]; exact Nat.le_refl _
  · simp
section
variable {B : Nat} {W : World}
theorem all_no {p : Nat → Bool} {xs : List Nat} {i : Nat} (hi : i < xs.length) (h : p (xs.getD i 0) = false) : xs.all p = false := by
  rw [List.all_eq_false]
  refine ⟨xs[i], List.getElem_mem hi, ?_⟩
  simpa [List.getD_eq_getElem?_getD, hi] using h
theorem c_spec_l02Finite {v : Value} {xs : List Nat} (hv : SlF W v xs) (hl : xs.length ≤ 1048576) : ACalls Try.prog B 38 [v] W (fun r W' => r = .bool (xs.all (isFin .f32)) ∧ W' = W) := by
  obtain ⟨a, c, rfl⟩ := hv.form
  refine acalls_of Try.func38 rfl Try.ntmps38 (Nat.le_of_ble_eq_true rfl) ?_
  repeat' (first
      | refine s_pure tabOk rfl rfl rfl rfl ?_
      | refine aops_nil ?_
      | refine thn_normal ?_
      | refine aw_seq ?_
      | refine aw_reg ?_
      | refine s_pass rfl rfl rfl ?_
      | refine s_len tabOk rfl rfl rfl rfl ?_
      | refine aw_true rfl ?_
      | refine aw_false rfl ?_
      | refine aw_block ?_
      | refine aw_skip ?_
      | refine aw_exit ?_
      | refine blk_exit ?_
      | refine blk_exit_other rfl ?_
      | refine blk_normal ?_
      | refine thn_exit ?_
      | refine thn_ret ?_
      | refine blk_ret ?_
      | refine rnd_ret ?_
      | refine rnd_exit ?_
      | refine aw_ret ?_
      | refine s_arith tabOk rfl rfl rfl rfl (by simp only [InR]; omega) ?_
      | ((fail_if_success refine s_told rfl rfl ?_); refine s_part rfl rfl rfl ?_ ?_ <;> intro hc <;> (first | replace hc := of_decide_eq_true hc | replace hc := of_decide_eq_false hc | replace hc := eq_of_beq hc | skip))
      | (refine aw_if rfl ?_ ?_ <;> intro hc <;> (first | replace hc := of_decide_eq_true hc | replace hc := of_decide_eq_false hc | replace hc := eq_of_beq hc | skip))
      | refine s_index1 tabOk rfl rfl rfl rfl (by omega) (by omega) ?_)
  refine aw_loop (fun i : Nat => [(3, .int .i64 i), (0, .slice a xs.length c)]) (fun _ => W) (fun i => i ≤ xs.length ∧ ∀ j, j < i → isFin .f32 (xs.getD j 0) = true) (fun i => xs.length - i) 0 ⟨by omega, by omega⟩ (by repeat (first | exact less_nil | refine less_cons rfl ?_)) rfl ?_
  rintro i ⟨hi, ha⟩
  repeat' (first
      | refine s_pure tabOk rfl rfl rfl rfl ?_
      | refine aops_nil ?_
      | refine thn_normal ?_
      | refine aw_seq ?_
      | refine aw_reg ?_
      | refine s_pass rfl rfl rfl ?_
      | refine s_len tabOk rfl rfl rfl rfl ?_
      | refine aw_true rfl ?_
      | refine aw_false rfl ?_
      | refine aw_block ?_
      | refine aw_skip ?_
      | refine aw_exit ?_
      | refine blk_exit ?_
      | refine blk_exit_other rfl ?_
      | refine blk_normal ?_
      | refine thn_exit ?_
      | refine thn_ret ?_
      | refine blk_ret ?_
      | refine rnd_ret ?_
      | refine rnd_exit ?_
      | refine aw_ret ?_
      | refine s_arith tabOk rfl rfl rfl rfl (by simp only [InR]; omega) ?_
      | ((fail_if_success refine s_told rfl rfl ?_); refine s_part rfl rfl rfl ?_ ?_ <;> intro hc <;> (first | replace hc := of_decide_eq_true hc | replace hc := of_decide_eq_false hc | replace hc := eq_of_beq hc | skip))
      | (refine aw_if rfl ?_ ?_ <;> intro hc <;> (first | replace hc := of_decide_eq_true hc | replace hc := of_decide_eq_false hc | replace hc := eq_of_beq hc | skip))
      | refine s_index1 tabOk rfl rfl rfl rfl (by omega) (by omega) ?_)
  · obtain ⟨b, off, rfl, hr⟩ := hv.read (by omega)
    repeat' (first
      | refine s_pure tabOk rfl rfl rfl rfl ?_
      | refine aops_nil ?_
      | refine thn_normal ?_
      | refine aw_seq ?_
      | refine aw_reg ?_
      | refine s_pass rfl rfl rfl ?_
      | refine s_len tabOk rfl rfl rfl rfl ?_
      | refine aw_true rfl ?_
      | refine aw_false rfl ?_
      | refine aw_block ?_
      | refine aw_skip ?_
      | refine aw_exit ?_
      | refine blk_exit ?_
      | refine blk_exit_other rfl ?_
      | refine blk_normal ?_
      | refine thn_exit ?_
      | refine thn_ret ?_
      | refine blk_ret ?_
      | refine rnd_ret ?_
      | refine rnd_exit ?_
      | refine aw_ret ?_
      | refine s_arith tabOk rfl rfl rfl rfl (by simp only [InR]; omega) ?_
      | ((fail_if_success refine s_told rfl rfl ?_); refine s_part rfl rfl rfl ?_ ?_ <;> intro hc <;> (first | replace hc := of_decide_eq_true hc | replace hc := of_decide_eq_false hc | replace hc := eq_of_beq hc | skip))
      | (refine aw_if rfl ?_ ?_ <;> intro hc <;> (first | replace hc := of_decide_eq_true hc | replace hc := of_decide_eq_false hc | replace hc := eq_of_beq hc | skip))
      | refine s_index1 tabOk rfl rfl rfl rfl (by omega) (by omega) ?_)
    refine s_loadf tabOk rfl rfl rfl rfl (hr _ (by omega)) ?_
    simp only [Int.toNat_natCast]
    repeat' (first
      | refine s_pure tabOk rfl rfl rfl rfl ?_
      | refine aops_nil ?_
      | refine thn_normal ?_
      | refine aw_seq ?_
      | refine aw_reg ?_
      | refine s_pass rfl rfl rfl ?_
      | refine s_len tabOk rfl rfl rfl rfl ?_
      | refine aw_true rfl ?_
      | refine aw_false rfl ?_
      | refine aw_block ?_
      | refine aw_skip ?_
      | refine aw_exit ?_
      | refine blk_exit ?_
      | refine blk_exit_other rfl ?_
      | refine blk_normal ?_
      | refine thn_exit ?_
      | refine thn_ret ?_
      | refine blk_ret ?_
      | refine rnd_ret ?_
      | refine rnd_exit ?_
      | refine aw_ret ?_
      | refine s_arith tabOk rfl rfl rfl rfl (by simp only [InR]; omega) ?_
      | ((fail_if_success refine s_told rfl rfl ?_); refine s_part rfl rfl rfl ?_ ?_ <;> intro hc <;> (first | replace hc := of_decide_eq_true hc | replace hc := of_decide_eq_false hc | replace hc := eq_of_beq hc | skip))
      | (refine aw_if rfl ?_ ?_ <;> intro hc <;> (first | replace hc := of_decide_eq_true hc | replace hc := of_decide_eq_false hc | replace hc := eq_of_beq hc | skip))
      | refine s_index1 tabOk rfl rfl rfl rfl (by omega) (by omega) ?_)
    refine s_call rfl rfl rfl rfl ent45 (c_spec_l01Finite _) ?_
    rintro _ W ⟨rfl, rfl⟩
    repeat' (first
      | refine s_pure tabOk rfl rfl rfl rfl ?_
      | refine aops_nil ?_
      | refine thn_normal ?_
      | refine aw_seq ?_
      | refine aw_reg ?_
      | refine s_pass rfl rfl rfl ?_
      | refine s_len tabOk rfl rfl rfl rfl ?_
      | refine aw_true rfl ?_
      | refine aw_false rfl ?_
      | refine aw_block ?_
      | refine aw_skip ?_
      | refine aw_exit ?_
      | refine blk_exit ?_
      | refine blk_exit_other rfl ?_
      | refine blk_normal ?_
      | refine thn_exit ?_
      | refine thn_ret ?_
      | refine blk_ret ?_
      | refine rnd_ret ?_
      | refine rnd_exit ?_
      | refine aw_ret ?_
      | refine s_arith tabOk rfl rfl rfl rfl (by simp only [InR]; omega) ?_
      | ((fail_if_success refine s_told rfl rfl ?_); refine s_part rfl rfl rfl ?_ ?_ <;> intro hc <;> (first | replace hc := of_decide_eq_true hc | replace hc := of_decide_eq_false hc | replace hc := eq_of_beq hc | skip))
      | (refine aw_if rfl ?_ ?_ <;> intro hc <;> (first | replace hc := of_decide_eq_true hc | replace hc := of_decide_eq_false hc | replace hc := eq_of_beq hc | skip))
      | refine s_index1 tabOk rfl rfl rfl rfl (by omega) (by omega) ?_)
    · refine retK_ret tabOk (congrArg Array.toList Try.results38) (rv_tmp rfl rfl rv_nil) ⟨?_, rfl⟩
      rw [all_no (i := i) (by omega) (by simpa using hc)]; rfl
    · refine rnd_next (i + 1) ⟨by omega, ?_⟩ (by omega) (by repeat (first | exact less_nil | refine less_cons rfl ?_)) rfl
      intro j hj
      by_cases e : j = i
      · subst e; simpa using hc
      · exact ha j (by omega)
  · refine retK_ret tabOk (congrArg Array.toList Try.results38) (rv_tmp rfl rfl rv_nil) ⟨?_, rfl⟩
    rw [all_getD fun j hj => ha j (by omega)]; rfl
theorem OwnF.one {W : World} {x : Nat} (hx : cb .f32 x = x) : OwnF (W.alloc (.cells (cellsAll [.float .f32 x]) 33)) W.heap.size (.slice (some ⟨W.heap.size, 0, none⟩) 1 1) [x] := by
  refine ⟨⟨rfl, .inr ⟨W.heap.size, 1, cellsAll [.float .f32 x], rfl, Nat.le_refl _, heap_alloc_new W _, by simp, by decide, rfl, rfl⟩⟩, fun i hi => ?_⟩
  have : i = 0 := by simpa using hi
  subst this
  exact hx
theorem bfQ_off {k m : Nat} {xs : List Nat} {i j : Nat} (hi : i = m + 1) (hj : j = m) (h : (!fcmp .gtr .f32 (fop .add .f32 (fop .mul .f32 k (bfQ k xs m)) (fop .mul .f32 (fop .mul .f32 1056964608 (fop .add .f32 1065353216 k)) (fop .sub .f32 (xs.getD i 0) (xs.getD j 0)))) 0) = true) : bfQ k xs (m + 1) = 0 := by
  subst hi; subst hj
  rw [bfQ_succ, if_neg (by simpa using h)]
theorem bfQ_on {k m : Nat} {xs : List Nat} {i j : Nat} (hi : i = m + 1) (hj : j = m) (h : (!fcmp .gtr .f32 (fop .add .f32 (fop .mul .f32 k (bfQ k xs m)) (fop .mul .f32 (fop .mul .f32 1056964608 (fop .add .f32 1065353216 k)) (fop .sub .f32 (xs.getD i 0) (xs.getD j 0)))) 0) = false) :
    fop .add .f32 (fop .mul .f32 k (bfQ k xs m)) (fop .mul .f32 (fop .mul .f32 1056964608 (fop .add .f32 1065353216 k)) (fop .sub .f32 (xs.getD i 0) (xs.getD j 0))) = bfQ k xs (m + 1) := by
  subst hi; subst hj
  rw [bfQ_succ, if_pos (by simpa using h)]
end
end Go.Proofs.Ytaiebodmlnpbkaa
