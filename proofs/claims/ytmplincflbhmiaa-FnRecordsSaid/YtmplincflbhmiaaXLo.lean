/- Lists of records compared, both ways. -/
import Derived.Test.YtmplincflbhmiaaXLh
import Derived.Test.YtmplincflbhmiaaHc
import Derived.Test.YtmplincflbhmiaaXFb
import Derived.Test.YtmplincflbhmiaaXLk
namespace Go.Proofs.Ytmplincflbhmiaa
set_option linter.unusedSimpArgs false
set_option linter.unusedVariables false
open Go Cn Go.RowKit
theorem nan_word : (FloatKind.f32.decode 2143289344).isNaN = true := by decide
/-- the same by words -/
@[irreducible] def smN (x y : Nat) : Bool := decide (wordOf x = wordOf y)
theorem smN_nan {x y : Nat} (h : fcmp .neq .f32 x x = true ∨ fcmp .neq .f32 y y = true) (hx : cb .f32 x = x) (hy : cb .f32 y = y) : smN x y = (fcmp .neq .f32 x x && fcmp .neq .f32 y y) := by
  have key : ∀ z, cb .f32 z = z → fcmp .neq .f32 z z = false → wordOf z ≠ 2143289344 := fun z hz hn hw => by
    unfold wordOf at hw
    rw [if_neg (by simp [hn])] at hw
    have hz2 : z = 2143289344 := by omega
    rw [neq_self, hz2, nan_word] at hn
    cases hn
  have nan : ∀ z, fcmp .neq .f32 z z = true → wordOf z = 2143289344 := fun z h => by unfold wordOf; rw [if_pos h]
  unfold smN
  cases h1 : fcmp .neq .f32 x x
  · cases h2 : fcmp .neq .f32 y y
    · rw [h1, h2] at h; rcases h with h | h <;> cases h
    · rw [nan y h2]
      exact decide_eq_false (key x hx h1)
  · cases h2 : fcmp .neq .f32 y y
    · rw [nan x h1]
      exact decide_eq_false (fun e => key y hy h2 e.symm)
    · rw [nan x h1, nan y h2]
      rfl
theorem smN_num {x y : Nat} (hx : x < 4294967296) (hy : y < 4294967296) (h1 : fcmp .neq .f32 x x = false) (h2 : fcmp .neq .f32 y y = false) : smN x y = (fcmp .eql .f32 x y && (decide (9223372036854775808 ≤ fwide x) == decide (9223372036854775808 ≤ fwide y))) := by
  have e1 : wordOf x = x := by unfold wordOf; rw [if_neg (by simp [h1])]
  have e2 : wordOf y = y := by unfold wordOf; rw [if_neg (by simp [h2])]
  have n1 : (FloatKind.f32.decode x).isNaN = false := by rw [← neq_self]; exact h1
  have n2 : (FloatKind.f32.decode y).isNaN = false := by rw [← neq_self]; exact h2
  unfold smN
  rw [e1, e2, wide_sign n1, wide_sign n2]
  by_cases e : x = y
  · subst e
    rw [decide_eq_true rfl, eql_self, n1]
    simp
  · rw [decide_eq_false (by omega)]
    cases he : fcmp .eql .f32 x y
    · rfl
    · cases hs : ((x / 2147483648 % 2 == 1) == (y / 2147483648 % 2 == 1))
      · rfl
      · exact absurd (eql_same hx hy (by simpa using hs) he) e
theorem all_one {n i : Nat} {p : Nat → Bool} (hi : i < n) (hp : p i = false) : (List.range n).all p = false := by
  rw [List.all_eq_false]
  exact ⟨i, List.mem_range.2 hi, by simp [hp]⟩
theorem all_full {n : Nat} {p : Nat → Bool} (h : ∀ j, j < n → p j = true) : (List.range n).all p = true := by
  rw [List.all_eq_true]
  exact fun j hj => h j (List.mem_range.1 hj)
@[irreducible] def smL (xs ys : List Nat) : Bool := decide (xs.length = ys.length) && (List.range xs.length).all fun j => smN (xs.getD j 0) (ys.getD j 0)
theorem smL_len {xs ys : List Nat} (h : ¬ xs.length = ys.length) : smL xs ys = false := by unfold smL; rw [decide_eq_false h]; rfl
theorem smL_no {xs ys : List Nat} {i : Nat} (hi : i < xs.length) (h : smN (xs.getD i 0) (ys.getD i 0) = false) : smL xs ys = false := by
  unfold smL
  rw [all_one (p := fun j => smN (xs.getD j 0) (ys.getD j 0)) hi h, Bool.and_false]
theorem smL_yes {xs ys : List Nat} (hl : xs.length = ys.length) (h : ∀ j, j < xs.length → smN (xs.getD j 0) (ys.getD j 0) = true) : smL xs ys = true := by
  unfold smL
  rw [all_full (p := fun j => smN (xs.getD j 0) (ys.getD j 0)) h, decide_eq_true hl]; rfl
section
variable {B : Nat} {A W W' : World} {L L' : List Res}
theorem c_math_Signbit {y : Nat} (hy : y < 18446744073709551616) (hz : (FloatKind.f64.decode y).isNaN = false) : ACalls Try.prog B 121 [.float .f64 y] W (fun v W' => v = .bool (decide (9223372036854775808 ≤ y)) ∧ W' = W) := by
  refine acalls_of Try.func121 rfl Try.ntmps121 (Nat.le_of_ble_eq_true rfl) ?_
  repeat' (first
      | refine s_pure tabOk rfl rfl rfl rfl ?_
      | refine aops_nil ?_
      | refine thn_normal ?_
      | refine aw_seq ?_
      | refine aw_reg ?_
      | refine s_pass rfl rfl rfl ?_
      | refine s_len tabOk rfl rfl rfl rfl ?_
      | refine aw_true rfl ?_
      | refine aw_false rfl ?_
      | refine aw_block ?_
      | refine aw_skip ?_
      | refine aw_exit ?_
      | refine blk_exit ?_
      | refine blk_exit_other rfl ?_
      | refine blk_normal ?_
      | refine thn_exit ?_
      | refine thn_ret ?_
      | refine blk_ret ?_
      | refine rnd_ret ?_
      | refine rnd_exit ?_
      | refine aw_ret ?_
      | refine s_arith tabOk rfl rfl rfl rfl (by simp only [InR]; omega) ?_
      | ((fail_if_success refine s_told rfl rfl ?_); refine s_part rfl rfl rfl ?_ ?_ <;> intro hc <;> (first | replace hc := of_decide_eq_true hc | replace hc := of_decide_eq_false hc | replace hc := eq_of_beq hc | skip))
      | (refine aw_if rfl ?_ ?_ <;> intro hc <;> (first | replace hc := of_decide_eq_true hc | replace hc := of_decide_eq_false hc | replace hc := eq_of_beq hc | skip))
      | refine s_index1 tabOk rfl rfl rfl rfl (by omega) (by omega) ?_)
  refine s_ext rfl rfl rfl rfl (x_math_Float64bits _) ?_
  rintro _ _ ⟨⟨b, rfl, hb⟩, rfl⟩
  have hby : b = y := by
    unfold cb at hb
    split at hb
    · rw [← hb, qnan_nan] at hz; cases hz
    · exact hb
  subst hby
  refine s_wrap tabOk rfl rfl rfl rfl ?_
  repeat' (first
      | refine s_pure tabOk rfl rfl rfl rfl ?_
      | refine aops_nil ?_
      | refine thn_normal ?_
      | refine aw_seq ?_
      | refine aw_reg ?_
      | refine s_pass rfl rfl rfl ?_
      | refine s_len tabOk rfl rfl rfl rfl ?_
      | refine aw_true rfl ?_
      | refine aw_false rfl ?_
      | refine aw_block ?_
      | refine aw_skip ?_
      | refine aw_exit ?_
      | refine blk_exit ?_
      | refine blk_exit_other rfl ?_
      | refine blk_normal ?_
      | refine thn_exit ?_
      | refine thn_ret ?_
      | refine blk_ret ?_
      | refine rnd_ret ?_
      | refine rnd_exit ?_
      | refine aw_ret ?_
      | refine s_arith tabOk rfl rfl rfl rfl (by simp only [InR]; omega) ?_
      | ((fail_if_success refine s_told rfl rfl ?_); refine s_part rfl rfl rfl ?_ ?_ <;> intro hc <;> (first | replace hc := of_decide_eq_true hc | replace hc := of_decide_eq_false hc | replace hc := eq_of_beq hc | skip))
      | (refine aw_if rfl ?_ ?_ <;> intro hc <;> (first | replace hc := of_decide_eq_true hc | replace hc := of_decide_eq_false hc | replace hc := eq_of_beq hc | skip))
      | refine s_index1 tabOk rfl rfl rfl rfl (by omega) (by omega) ?_)
  refine retK_ret tabOk (congrArg Array.toList Try.results121) (rv_tmp rfl rfl rv_nil) ⟨?_, rfl⟩
  have e : decide (IntKind.i64.wrap (b : Int) < 0) = decide (9223372036854775808 ≤ b) := by
    refine decide_eq_decide.2 ?_
    have hw : IntKind.i64.wrap (b : Int) = if (b : Int) % 18446744073709551616 ≥ 9223372036854775808 then (b : Int) % 18446744073709551616 - 18446744073709551616 else (b : Int) % 18446744073709551616 := by
      unfold IntKind.wrap; simp [IntKind.bits, IntKind.signed]
    rw [hw]
    split <;> omega
  rw [← e]; rfl
theorem c_impl_SameNumber {x y : Nat} (hx : x < 4294967296) (hy : y < 4294967296) (cx : cb .f32 x = x) (cy : cb .f32 y = y) : ACalls Try.prog B 101 [.float .f32 x, .float .f32 y] W (fun v W' => v = .bool (smN x y) ∧ W' = W) := by
  have hn : ∀ z, fcmp .neq .f32 z z = false → fwide z < 18446744073709551616 ∧ (FloatKind.f64.decode (fwide z)).isNaN = false := fun z h => by
    rw [neq_self] at h
    exact ⟨wide_lt h, wide_nonan h⟩
  have h00 : fcmp .neq .f32 x x = false → fcmp .neq .f32 y y = false → smN x y = (fcmp .eql .f32 x y && (decide (9223372036854775808 ≤ fwide x) == decide (9223372036854775808 ≤ fwide y))) := fun h1 h2 => smN_num hx hy h1 h2
  have h01 : fcmp .neq .f32 x x = true ∨ fcmp .neq .f32 y y = true → smN x y = (fcmp .neq .f32 x x && fcmp .neq .f32 y y) := fun h => smN_nan h cx cy
  refine acalls_of Try.func101 rfl Try.ntmps101 (Nat.le_of_ble_eq_true rfl) ?_
  repeat' (first | refine s_pure tabOk rfl rfl rfl rfl ?_ | refine Stp.imp ?_ | refine aops_nil ?_ | refine aw_reg ?_ | refine aw_seq ?_ | refine s_pass rfl rfl rfl ?_ | refine s_len tabOk rfl rfl rfl rfl ?_ | refine aw_true rfl ?_ | refine aw_false rfl ?_ | refine blk_exit_other rfl ?_ | refine s_arith tabOk rfl rfl rfl rfl (by simp only [InR]; omega) ?_ | ((first | ((fail_if_success refine s_told rfl rfl ?_); refine s_part rfl rfl rfl ?_ ?_) | refine aw_if rfl ?_ ?_) <;> intro hc <;> (first | replace hc := DecT.imp hc | simp only [decs] at hc | skip)) | refine s_index1n tabOk rfl rfl rfl rfl (by omega) ?_ | refine s_indexn tabOk rfl rfl rfl rfl (by omega) ?_ | refine s_index1 tabOk rfl rfl rfl rfl (by omega) (by omega) ?_ | refine sh_load tabOk (by assumption) rfl rfl rfl rfl (by repeat (first | exact List.Mem.head _ | apply List.Mem.tail)) (by rfl) (by rfl) ?_ | refine sh_loada tabOk (by assumption) rfl rfl rfl rfl (by repeat (first | exact List.Mem.head _ | apply List.Mem.tail)) (by rfl) ?_ | (refine sh_box (by assumption) rfl rfl rfl rfl rfl rfl ?_; intro _ _ _) | (refine sh_alloc tabOk (by assumption) rfl rfl rfl rfl rfl rfl ?_; intro _ _ _) | (refine sh_store tabOk (by assumption) rfl rfl rfl rfl rfl rfl (by repeat (first | exact Upd.here | apply Upd.there)) (by rfl) ?_; intro _ _) | (refine sh_lit tabOk (by assumption) rfl rfl rfl rfl rfl rfl rfl rfl rfl rfl rfl ?_; intro _ _ _) | refine sh_build tabOk rfl rfl rfl rfl rfl rfl ?_)
  · refine retK_ret tabOk (congrArg Array.toList Try.results101) (by repeat (first | exact rv_nil | apply rv_tmp rfl rfl | apply rv_cellH (by assumption) rfl rfl rfl (by repeat (first | exact List.Mem.head _ | apply List.Mem.tail)) rfl)) ?_
    rw [h01 (.inl hc), hc]; exact ⟨rfl, rfl⟩
  · rename_i hd; rw [hd] at hc; cases hc
  · rename_i hd _; rw [hd] at hc; cases hc
  · rename_i hd
    refine retK_ret tabOk (congrArg Array.toList Try.results101) (by repeat (first | exact rv_nil | apply rv_tmp rfl rfl | apply rv_cellH (by assumption) rfl rfl rfl (by repeat (first | exact List.Mem.head _ | apply List.Mem.tail)) rfl)) ?_
    rw [h01 (.inr hd), hc]; exact ⟨rfl, rfl⟩
  · rename_i hd he
    obtain ⟨x1, x2⟩ := hn x hd
    obtain ⟨y1, y2⟩ := hn y he
    refine s_call rfl rfl rfl rfl ent121 (c_math_Signbit x1 x2) ?_
    rintro _ _ ⟨rfl, rfl⟩
    repeat' (first | refine s_pure tabOk rfl rfl rfl rfl ?_ | refine Stp.imp ?_ | refine aops_nil ?_ | refine aw_reg ?_ | refine aw_seq ?_ | refine s_pass rfl rfl rfl ?_ | refine s_len tabOk rfl rfl rfl rfl ?_ | refine aw_true rfl ?_ | refine aw_false rfl ?_ | refine blk_exit_other rfl ?_ | refine s_arith tabOk rfl rfl rfl rfl (by simp only [InR]; omega) ?_ | ((first | ((fail_if_success refine s_told rfl rfl ?_); refine s_part rfl rfl rfl ?_ ?_) | refine aw_if rfl ?_ ?_) <;> intro hc <;> (first | replace hc := DecT.imp hc | simp only [decs] at hc | skip)) | refine s_index1n tabOk rfl rfl rfl rfl (by omega) ?_ | refine s_indexn tabOk rfl rfl rfl rfl (by omega) ?_ | refine s_index1 tabOk rfl rfl rfl rfl (by omega) (by omega) ?_ | refine sh_load tabOk (by assumption) rfl rfl rfl rfl (by repeat (first | exact List.Mem.head _ | apply List.Mem.tail)) (by rfl) (by rfl) ?_ | refine sh_loada tabOk (by assumption) rfl rfl rfl rfl (by repeat (first | exact List.Mem.head _ | apply List.Mem.tail)) (by rfl) ?_ | (refine sh_box (by assumption) rfl rfl rfl rfl rfl rfl ?_; intro _ _ _) | (refine sh_alloc tabOk (by assumption) rfl rfl rfl rfl rfl rfl ?_; intro _ _ _) | (refine sh_store tabOk (by assumption) rfl rfl rfl rfl rfl rfl (by repeat (first | exact Upd.here | apply Upd.there)) (by rfl) ?_; intro _ _) | (refine sh_lit tabOk (by assumption) rfl rfl rfl rfl rfl rfl rfl rfl rfl rfl rfl ?_; intro _ _ _) | refine sh_build tabOk rfl rfl rfl rfl rfl rfl ?_)
    refine s_call rfl rfl rfl rfl ent121 (c_math_Signbit y1 y2) ?_
    rintro _ _ ⟨rfl, rfl⟩
    repeat' (first | refine s_pure tabOk rfl rfl rfl rfl ?_ | refine Stp.imp ?_ | refine aops_nil ?_ | refine aw_reg ?_ | refine aw_seq ?_ | refine s_pass rfl rfl rfl ?_ | refine s_len tabOk rfl rfl rfl rfl ?_ | refine aw_true rfl ?_ | refine aw_false rfl ?_ | refine blk_exit_other rfl ?_ | refine s_arith tabOk rfl rfl rfl rfl (by simp only [InR]; omega) ?_ | ((first | ((fail_if_success refine s_told rfl rfl ?_); refine s_part rfl rfl rfl ?_ ?_) | refine aw_if rfl ?_ ?_) <;> intro hc <;> (first | replace hc := DecT.imp hc | simp only [decs] at hc | skip)) | refine s_index1n tabOk rfl rfl rfl rfl (by omega) ?_ | refine s_indexn tabOk rfl rfl rfl rfl (by omega) ?_ | refine s_index1 tabOk rfl rfl rfl rfl (by omega) (by omega) ?_ | refine sh_load tabOk (by assumption) rfl rfl rfl rfl (by repeat (first | exact List.Mem.head _ | apply List.Mem.tail)) (by rfl) (by rfl) ?_ | refine sh_loada tabOk (by assumption) rfl rfl rfl rfl (by repeat (first | exact List.Mem.head _ | apply List.Mem.tail)) (by rfl) ?_ | (refine sh_box (by assumption) rfl rfl rfl rfl rfl rfl ?_; intro _ _ _) | (refine sh_alloc tabOk (by assumption) rfl rfl rfl rfl rfl rfl ?_; intro _ _ _) | (refine sh_store tabOk (by assumption) rfl rfl rfl rfl rfl rfl (by repeat (first | exact Upd.here | apply Upd.there)) (by rfl) ?_; intro _ _) | (refine sh_lit tabOk (by assumption) rfl rfl rfl rfl rfl rfl rfl rfl rfl rfl rfl ?_; intro _ _ _) | refine sh_build tabOk rfl rfl rfl rfl rfl rfl ?_)
    refine retK_ret tabOk (congrArg Array.toList Try.results101) (by repeat (first | exact rv_nil | apply rv_tmp rfl rfl | apply rv_cellH (by assumption) rfl rfl rfl (by repeat (first | exact List.Mem.head _ | apply List.Mem.tail)) rfl)) ?_
    rw [h00 hd he, hc]; exact ⟨rfl, rfl⟩
  · rename_i hd he
    refine retK_ret tabOk (congrArg Array.toList Try.results101) (by repeat (first | exact rv_nil | apply rv_tmp rfl rfl | apply rv_cellH (by assumption) rfl rfl rfl (by repeat (first | exact List.Mem.head _ | apply List.Mem.tail)) rfl)) ?_
    rw [h00 hd he, hc]; exact ⟨rfl, rfl⟩
theorem c_spec_l01Same {x y : Nat} (hx : x < 4294967296) (hy : y < 4294967296) : ACalls Try.prog B 102 [.float .f32 x, .float .f32 y] W (fun v W' => v = .bool (smN x y) ∧ W' = W) := by
  refine acalls_of Try.func102 rfl Try.ntmps102 (Nat.le_of_ble_eq_true rfl) ?_
  repeat' (first | refine s_pure tabOk rfl rfl rfl rfl ?_ | refine Stp.imp ?_ | refine aops_nil ?_ | refine aw_reg ?_ | refine aw_seq ?_ | refine s_pass rfl rfl rfl ?_ | refine s_len tabOk rfl rfl rfl rfl ?_ | refine aw_true rfl ?_ | refine aw_false rfl ?_ | refine blk_exit_other rfl ?_ | refine s_arith tabOk rfl rfl rfl rfl (by simp only [InR]; omega) ?_ | ((first | ((fail_if_success refine s_told rfl rfl ?_); refine s_part rfl rfl rfl ?_ ?_) | refine aw_if rfl ?_ ?_) <;> intro hc <;> (first | replace hc := DecT.imp hc | simp only [decs] at hc | skip)) | refine s_index1n tabOk rfl rfl rfl rfl (by omega) ?_ | refine s_indexn tabOk rfl rfl rfl rfl (by omega) ?_ | refine s_index1 tabOk rfl rfl rfl rfl (by omega) (by omega) ?_ | refine sh_load tabOk (by assumption) rfl rfl rfl rfl (by repeat (first | exact List.Mem.head _ | apply List.Mem.tail)) (by rfl) (by rfl) ?_ | refine sh_loada tabOk (by assumption) rfl rfl rfl rfl (by repeat (first | exact List.Mem.head _ | apply List.Mem.tail)) (by rfl) ?_ | (refine sh_box (by assumption) rfl rfl rfl rfl rfl rfl ?_; intro _ _ _) | (refine sh_alloc tabOk (by assumption) rfl rfl rfl rfl rfl rfl ?_; intro _ _ _) | (refine sh_store tabOk (by assumption) rfl rfl rfl rfl rfl rfl (by repeat (first | exact Upd.here | apply Upd.there)) (by rfl) ?_; intro _ _) | (refine sh_lit tabOk (by assumption) rfl rfl rfl rfl rfl rfl rfl rfl rfl rfl rfl ?_; intro _ _ _) | refine sh_build tabOk rfl rfl rfl rfl rfl rfl ?_)
  refine s_call rfl rfl rfl rfl ent122 (c_spec_l01Bits hx) ?_
  rintro _ _ ⟨rfl, rfl⟩
  repeat' (first | refine s_pure tabOk rfl rfl rfl rfl ?_ | refine Stp.imp ?_ | refine aops_nil ?_ | refine aw_reg ?_ | refine aw_seq ?_ | refine s_pass rfl rfl rfl ?_ | refine s_len tabOk rfl rfl rfl rfl ?_ | refine aw_true rfl ?_ | refine aw_false rfl ?_ | refine blk_exit_other rfl ?_ | refine s_arith tabOk rfl rfl rfl rfl (by simp only [InR]; omega) ?_ | ((first | ((fail_if_success refine s_told rfl rfl ?_); refine s_part rfl rfl rfl ?_ ?_) | refine aw_if rfl ?_ ?_) <;> intro hc <;> (first | replace hc := DecT.imp hc | simp only [decs] at hc | skip)) | refine s_index1n tabOk rfl rfl rfl rfl (by omega) ?_ | refine s_indexn tabOk rfl rfl rfl rfl (by omega) ?_ | refine s_index1 tabOk rfl rfl rfl rfl (by omega) (by omega) ?_ | refine sh_load tabOk (by assumption) rfl rfl rfl rfl (by repeat (first | exact List.Mem.head _ | apply List.Mem.tail)) (by rfl) (by rfl) ?_ | refine sh_loada tabOk (by assumption) rfl rfl rfl rfl (by repeat (first | exact List.Mem.head _ | apply List.Mem.tail)) (by rfl) ?_ | (refine sh_box (by assumption) rfl rfl rfl rfl rfl rfl ?_; intro _ _ _) | (refine sh_alloc tabOk (by assumption) rfl rfl rfl rfl rfl rfl ?_; intro _ _ _) | (refine sh_store tabOk (by assumption) rfl rfl rfl rfl rfl rfl (by repeat (first | exact Upd.here | apply Upd.there)) (by rfl) ?_; intro _ _) | (refine sh_lit tabOk (by assumption) rfl rfl rfl rfl rfl rfl rfl rfl rfl rfl rfl ?_; intro _ _ _) | refine sh_build tabOk rfl rfl rfl rfl rfl rfl ?_)
  refine s_call rfl rfl rfl rfl ent122 (c_spec_l01Bits hy) ?_
  rintro _ _ ⟨rfl, rfl⟩
  repeat' (first | refine s_pure tabOk rfl rfl rfl rfl ?_ | refine Stp.imp ?_ | refine aops_nil ?_ | refine aw_reg ?_ | refine aw_seq ?_ | refine s_pass rfl rfl rfl ?_ | refine s_len tabOk rfl rfl rfl rfl ?_ | refine aw_true rfl ?_ | refine aw_false rfl ?_ | refine blk_exit_other rfl ?_ | refine s_arith tabOk rfl rfl rfl rfl (by simp only [InR]; omega) ?_ | ((first | ((fail_if_success refine s_told rfl rfl ?_); refine s_part rfl rfl rfl ?_ ?_) | refine aw_if rfl ?_ ?_) <;> intro hc <;> (first | replace hc := DecT.imp hc | simp only [decs] at hc | skip)) | refine s_index1n tabOk rfl rfl rfl rfl (by omega) ?_ | refine s_indexn tabOk rfl rfl rfl rfl (by omega) ?_ | refine s_index1 tabOk rfl rfl rfl rfl (by omega) (by omega) ?_ | refine sh_load tabOk (by assumption) rfl rfl rfl rfl (by repeat (first | exact List.Mem.head _ | apply List.Mem.tail)) (by rfl) (by rfl) ?_ | refine sh_loada tabOk (by assumption) rfl rfl rfl rfl (by repeat (first | exact List.Mem.head _ | apply List.Mem.tail)) (by rfl) ?_ | (refine sh_box (by assumption) rfl rfl rfl rfl rfl rfl ?_; intro _ _ _) | (refine sh_alloc tabOk (by assumption) rfl rfl rfl rfl rfl rfl ?_; intro _ _ _) | (refine sh_store tabOk (by assumption) rfl rfl rfl rfl rfl rfl (by repeat (first | exact Upd.here | apply Upd.there)) (by rfl) ?_; intro _ _) | (refine sh_lit tabOk (by assumption) rfl rfl rfl rfl rfl rfl rfl rfl rfl rfl rfl ?_; intro _ _ _) | refine sh_build tabOk rfl rfl rfl rfl rfl rfl ?_)
  refine retK_ret tabOk (congrArg Array.toList Try.results102) (by repeat (first | exact rv_nil | apply rv_tmp rfl rfl | apply rv_cellH (by assumption) rfl rfl rfl (by repeat (first | exact List.Mem.head _ | apply List.Mem.tail)) rfl)) ?_
  exact ⟨by unfold smN; rfl, rfl⟩
theorem c_EqualFuncF {v v' : Value} {xs ys : List Nat} (hv : SlF W v xs) (hv' : SlF W v' ys) (hl : xs.length ≤ 1048576) (hl' : ys.length ≤ 1048576) (hb : Bd xs) (hb' : Bd ys) : ACalls Try.prog B 100 [v, v', .func (.func 101) #[] #[]] W (fun u W' => u = .bool (smL xs ys) ∧ W' = W) := by
  have hv0 := hv
  have hv0' := hv'
  obtain ⟨a, c, rfl⟩ := hv.form
  obtain ⟨a', c', rfl⟩ := hv'.form
  refine acalls_of Try.func100 rfl Try.ntmps100 (Nat.le_of_ble_eq_true rfl) ?_
  repeat' (first | refine s_pure tabOk rfl rfl rfl rfl ?_ | refine Stp.imp ?_ | refine aops_nil ?_ | refine aw_reg ?_ | refine aw_seq ?_ | refine s_pass rfl rfl rfl ?_ | refine s_len tabOk rfl rfl rfl rfl ?_ | refine aw_true rfl ?_ | refine aw_false rfl ?_ | refine blk_exit_other rfl ?_ | refine s_arith tabOk rfl rfl rfl rfl (by simp only [InR]; omega) ?_ | ((first | ((fail_if_success refine s_told rfl rfl ?_); refine s_part rfl rfl rfl ?_ ?_) | refine aw_if rfl ?_ ?_) <;> intro hc <;> (first | replace hc := DecT.imp hc | simp only [decs] at hc | skip)) | refine s_index1n tabOk rfl rfl rfl rfl (by omega) ?_ | refine s_indexn tabOk rfl rfl rfl rfl (by omega) ?_ | refine s_index1 tabOk rfl rfl rfl rfl (by omega) (by omega) ?_ | refine sh_load tabOk (by assumption) rfl rfl rfl rfl (by repeat (first | exact List.Mem.head _ | apply List.Mem.tail)) (by rfl) (by rfl) ?_ | refine sh_loada tabOk (by assumption) rfl rfl rfl rfl (by repeat (first | exact List.Mem.head _ | apply List.Mem.tail)) (by rfl) ?_ | (refine sh_box (by assumption) rfl rfl rfl rfl rfl rfl ?_; intro _ _ _) | (refine sh_alloc tabOk (by assumption) rfl rfl rfl rfl rfl rfl ?_; intro _ _ _) | (refine sh_store tabOk (by assumption) rfl rfl rfl rfl rfl rfl (by repeat (first | exact Upd.here | apply Upd.there)) (by rfl) ?_; intro _ _) | (refine sh_lit tabOk (by assumption) rfl rfl rfl rfl rfl rfl rfl rfl rfl rfl rfl ?_; intro _ _ _) | refine sh_build tabOk rfl rfl rfl rfl rfl rfl ?_)
  · refine retK_ret tabOk (congrArg Array.toList Try.results100) (by repeat (first | exact rv_nil | apply rv_tmp rfl rfl | apply rv_cellH (by assumption) rfl rfl rfl (by repeat (first | exact List.Mem.head _ | apply List.Mem.tail)) rfl)) ?_
    exact ⟨by rw [smL_len (by omega)]; rfl, rfl⟩
  have hll : xs.length = ys.length := by omega
  refine aw_loop (fun i : Nat => [(17, .int .i64 i), (16, .int .i64 xs.length), (15, .slice a xs.length c), (1, .slice a' ys.length c'), (2, .func (.func 101) #[] #[])]) (fun _ => W) (fun i => i ≤ xs.length ∧ ∀ j, j < i → smN (xs.getD j 0) (ys.getD j 0) = true) (fun i => xs.length - i) 0 ⟨by omega, by omega⟩ (by repeat (first | exact less_nil | refine less_cons rfl ?_)) rfl ?_
  rintro i ⟨hi, hall⟩
  by_cases hin : i < xs.length
  rotate_left
  · repeat' (first
      | refine s_pure tabOk rfl rfl rfl rfl ?_
      | refine aops_nil ?_
      | refine thn_normal ?_
      | refine aw_seq ?_
      | refine aw_reg ?_
      | refine s_pass rfl rfl rfl ?_
      | refine s_len tabOk rfl rfl rfl rfl ?_
      | refine aw_true rfl ?_
      | refine aw_false rfl ?_
      | refine aw_block ?_
      | refine aw_skip ?_
      | refine aw_exit ?_
      | refine blk_exit ?_
      | refine blk_exit_other rfl ?_
      | refine blk_normal ?_
      | refine thn_exit ?_
      | refine thn_ret ?_
      | refine blk_ret ?_
      | refine rnd_ret ?_
      | refine rnd_exit ?_
      | refine aw_ret ?_
      | refine s_arith tabOk rfl rfl rfl rfl (by simp only [InR]; omega) ?_
      | ((fail_if_success refine s_told rfl rfl ?_); refine s_part rfl rfl rfl ?_ ?_ <;> intro hc <;> (first | replace hc := of_decide_eq_true hc | replace hc := of_decide_eq_false hc | replace hc := eq_of_beq hc | skip))
      | (refine aw_if rfl ?_ ?_ <;> intro hc <;> (first | replace hc := of_decide_eq_true hc | replace hc := of_decide_eq_false hc | replace hc := eq_of_beq hc | skip))
      | refine s_index1 tabOk rfl rfl rfl rfl (by omega) (by omega) ?_)
    all_goals try (exfalso; omega)
    refine retK_ret tabOk (congrArg Array.toList Try.results100) (by repeat (first | exact rv_nil | apply rv_tmp rfl rfl | apply rv_cellH (by assumption) rfl rfl rfl (by repeat (first | exact List.Mem.head _ | apply List.Mem.tail)) rfl)) ?_
    exact ⟨by rw [smL_yes hll fun j hj => hall j (by omega)]; rfl, rfl⟩
  obtain ⟨b, off, rfl, hr⟩ := hv.read (by omega)
  obtain ⟨b', off', rfl, hr'⟩ := hv'.read (by omega)
  have bx := hb.at hin
  have by' := hb'.at (i := i) (by omega)
  have cx := hr.canon hin
  have cy := hr'.canon (i := i) (by omega)
  repeat' (first
      | refine s_pure tabOk rfl rfl rfl rfl ?_
      | refine aops_nil ?_
      | refine thn_normal ?_
      | refine aw_seq ?_
      | refine aw_reg ?_
      | refine s_pass rfl rfl rfl ?_
      | refine s_len tabOk rfl rfl rfl rfl ?_
      | refine aw_true rfl ?_
      | refine aw_false rfl ?_
      | refine aw_block ?_
      | refine aw_skip ?_
      | refine aw_exit ?_
      | refine blk_exit ?_
      | refine blk_exit_other rfl ?_
      | refine blk_normal ?_
      | refine thn_exit ?_
      | refine thn_ret ?_
      | refine blk_ret ?_
      | refine rnd_ret ?_
      | refine rnd_exit ?_
      | refine aw_ret ?_
      | refine s_arith tabOk rfl rfl rfl rfl (by simp only [InR]; omega) ?_
      | ((fail_if_success refine s_told rfl rfl ?_); refine s_part rfl rfl rfl ?_ ?_ <;> intro hc <;> (first | replace hc := of_decide_eq_true hc | replace hc := of_decide_eq_false hc | replace hc := eq_of_beq hc | skip))
      | (refine aw_if rfl ?_ ?_ <;> intro hc <;> (first | replace hc := of_decide_eq_true hc | replace hc := of_decide_eq_false hc | replace hc := eq_of_beq hc | skip))
      | refine s_index1 tabOk rfl rfl rfl rfl (by omega) (by omega) ?_)
  all_goals try (exfalso; omega)
  refine s_loadf tabOk rfl rfl rfl rfl (hr _ (by omega)) ?_
  simp only [Int.toNat_natCast]
  repeat' (first
      | refine s_pure tabOk rfl rfl rfl rfl ?_
      | refine aops_nil ?_
      | refine thn_normal ?_
      | refine aw_seq ?_
      | refine aw_reg ?_
      | refine s_pass rfl rfl rfl ?_
      | refine s_len tabOk rfl rfl rfl rfl ?_
      | refine aw_true rfl ?_
      | refine aw_false rfl ?_
      | refine aw_block ?_
      | refine aw_skip ?_
      | refine aw_exit ?_
      | refine blk_exit ?_
      | refine blk_exit_other rfl ?_
      | refine blk_normal ?_
      | refine thn_exit ?_
      | refine thn_ret ?_
      | refine blk_ret ?_
      | refine rnd_ret ?_
      | refine rnd_exit ?_
      | refine aw_ret ?_
      | refine s_arith tabOk rfl rfl rfl rfl (by simp only [InR]; omega) ?_
      | ((fail_if_success refine s_told rfl rfl ?_); refine s_part rfl rfl rfl ?_ ?_ <;> intro hc <;> (first | replace hc := of_decide_eq_true hc | replace hc := of_decide_eq_false hc | replace hc := eq_of_beq hc | skip))
      | (refine aw_if rfl ?_ ?_ <;> intro hc <;> (first | replace hc := of_decide_eq_true hc | replace hc := of_decide_eq_false hc | replace hc := eq_of_beq hc | skip))
      | refine s_index1 tabOk rfl rfl rfl rfl (by omega) (by omega) ?_)
  refine s_loadf tabOk rfl rfl rfl rfl (hr' _ (by omega)) ?_
  simp only [Int.toNat_natCast]
  repeat' (first
      | refine s_pure tabOk rfl rfl rfl rfl ?_
      | refine aops_nil ?_
      | refine thn_normal ?_
      | refine aw_seq ?_
      | refine aw_reg ?_
      | refine s_pass rfl rfl rfl ?_
      | refine s_len tabOk rfl rfl rfl rfl ?_
      | refine aw_true rfl ?_
      | refine aw_false rfl ?_
      | refine aw_block ?_
      | refine aw_skip ?_
      | refine aw_exit ?_
      | refine blk_exit ?_
      | refine blk_exit_other rfl ?_
      | refine blk_normal ?_
      | refine thn_exit ?_
      | refine thn_ret ?_
      | refine blk_ret ?_
      | refine rnd_ret ?_
      | refine rnd_exit ?_
      | refine aw_ret ?_
      | refine s_arith tabOk rfl rfl rfl rfl (by simp only [InR]; omega) ?_
      | ((fail_if_success refine s_told rfl rfl ?_); refine s_part rfl rfl rfl ?_ ?_ <;> intro hc <;> (first | replace hc := of_decide_eq_true hc | replace hc := of_decide_eq_false hc | replace hc := eq_of_beq hc | skip))
      | (refine aw_if rfl ?_ ?_ <;> intro hc <;> (first | replace hc := of_decide_eq_true hc | replace hc := of_decide_eq_false hc | replace hc := eq_of_beq hc | skip))
      | refine s_index1 tabOk rfl rfl rfl rfl (by omega) (by omega) ?_)
  refine s_call rfl rfl rfl rfl ent101 (c_impl_SameNumber bx by' cx cy) ?_
  rintro _ _ ⟨rfl, rfl⟩
  cases hk : smN (xs.getD i 0) (ys.getD i 0)
  · repeat' (first
      | refine s_pure tabOk rfl rfl rfl rfl ?_
      | refine aops_nil ?_
      | refine thn_normal ?_
      | refine aw_seq ?_
      | refine aw_reg ?_
      | refine s_pass rfl rfl rfl ?_
      | refine s_len tabOk rfl rfl rfl rfl ?_
      | refine aw_true rfl ?_
      | refine aw_false rfl ?_
      | refine aw_block ?_
      | refine aw_skip ?_
      | refine aw_exit ?_
      | refine blk_exit ?_
      | refine blk_exit_other rfl ?_
      | refine blk_normal ?_
      | refine thn_exit ?_
      | refine thn_ret ?_
      | refine blk_ret ?_
      | refine rnd_ret ?_
      | refine rnd_exit ?_
      | refine aw_ret ?_
      | refine s_arith tabOk rfl rfl rfl rfl (by simp only [InR]; omega) ?_
      | ((fail_if_success refine s_told rfl rfl ?_); refine s_part rfl rfl rfl ?_ ?_ <;> intro hc <;> (first | replace hc := of_decide_eq_true hc | replace hc := of_decide_eq_false hc | replace hc := eq_of_beq hc | skip))
      | (refine aw_if rfl ?_ ?_ <;> intro hc <;> (first | replace hc := of_decide_eq_true hc | replace hc := of_decide_eq_false hc | replace hc := eq_of_beq hc | skip))
      | refine s_index1 tabOk rfl rfl rfl rfl (by omega) (by omega) ?_)
    refine retK_ret tabOk (congrArg Array.toList Try.results100) (by repeat (first | exact rv_nil | apply rv_tmp rfl rfl | apply rv_cellH (by assumption) rfl rfl rfl (by repeat (first | exact List.Mem.head _ | apply List.Mem.tail)) rfl)) ?_
    exact ⟨by rw [smL_no hin hk]; rfl, rfl⟩
  · repeat' (first
      | refine s_pure tabOk rfl rfl rfl rfl ?_
      | refine aops_nil ?_
      | refine thn_normal ?_
      | refine aw_seq ?_
      | refine aw_reg ?_
      | refine s_pass rfl rfl rfl ?_
      | refine s_len tabOk rfl rfl rfl rfl ?_
      | refine aw_true rfl ?_
      | refine aw_false rfl ?_
      | refine aw_block ?_
      | refine aw_skip ?_
      | refine aw_exit ?_
      | refine blk_exit ?_
      | refine blk_exit_other rfl ?_
      | refine blk_normal ?_
      | refine thn_exit ?_
      | refine thn_ret ?_
      | refine blk_ret ?_
      | refine rnd_ret ?_
      | refine rnd_exit ?_
      | refine aw_ret ?_
      | refine s_arith tabOk rfl rfl rfl rfl (by simp only [InR]; omega) ?_
      | ((fail_if_success refine s_told rfl rfl ?_); refine s_part rfl rfl rfl ?_ ?_ <;> intro hc <;> (first | replace hc := of_decide_eq_true hc | replace hc := of_decide_eq_false hc | replace hc := eq_of_beq hc | skip))
      | (refine aw_if rfl ?_ ?_ <;> intro hc <;> (first | replace hc := of_decide_eq_true hc | replace hc := of_decide_eq_false hc | replace hc := eq_of_beq hc | skip))
      | refine s_index1 tabOk rfl rfl rfl rfl (by omega) (by omega) ?_)
    refine rnd_next (i + 1) ⟨by omega, ?_⟩ (by omega) (by repeat (first | exact less_nil | refine less_cons rfl ?_)) rfl
    intro j hj
    by_cases e : j = i
    · subst e; exact hk
    · exact hall j (by omega)
theorem c_impl_sameNumbers {v v' : Value} {xs ys : List Nat} (hv : SlF W v xs) (hv' : SlF W v' ys) (hl : xs.length ≤ 1048576) (hl' : ys.length ≤ 1048576) (hb : Bd xs) (hb' : Bd ys) : ACalls Try.prog B 68 [v, v'] W (fun u W' => u = .bool (smL xs ys) ∧ W' = W) := by
  have hv0 := hv
  have hv0' := hv'
  obtain ⟨a, c, rfl⟩ := hv.form
  obtain ⟨a', c', rfl⟩ := hv'.form
  refine acalls_of Try.func68 rfl Try.ntmps68 (Nat.le_of_ble_eq_true rfl) ?_
  repeat' (first
      | refine s_pure tabOk rfl rfl rfl rfl ?_
      | refine aops_nil ?_
      | refine thn_normal ?_
      | refine aw_seq ?_
      | refine aw_reg ?_
      | refine s_pass rfl rfl rfl ?_
      | refine s_len tabOk rfl rfl rfl rfl ?_
      | refine aw_true rfl ?_
      | refine aw_false rfl ?_
      | refine aw_block ?_
      | refine aw_skip ?_
      | refine aw_exit ?_
      | refine blk_exit ?_
      | refine blk_exit_other rfl ?_
      | refine blk_normal ?_
      | refine thn_exit ?_
      | refine thn_ret ?_
      | refine blk_ret ?_
      | refine rnd_ret ?_
      | refine rnd_exit ?_
      | refine aw_ret ?_
      | refine s_arith tabOk rfl rfl rfl rfl (by simp only [InR]; omega) ?_
      | ((fail_if_success refine s_told rfl rfl ?_); refine s_part rfl rfl rfl ?_ ?_ <;> intro hc <;> (first | replace hc := of_decide_eq_true hc | replace hc := of_decide_eq_false hc | replace hc := eq_of_beq hc | skip))
      | (refine aw_if rfl ?_ ?_ <;> intro hc <;> (first | replace hc := of_decide_eq_true hc | replace hc := of_decide_eq_false hc | replace hc := eq_of_beq hc | skip))
      | refine s_index1 tabOk rfl rfl rfl rfl (by omega) (by omega) ?_)
  refine s_call rfl rfl rfl rfl ent100 (c_EqualFuncF hv0 hv0' hl hl' hb hb') ?_
  rintro _ _ ⟨rfl, rfl⟩
  repeat' (first
      | refine s_pure tabOk rfl rfl rfl rfl ?_
      | refine aops_nil ?_
      | refine thn_normal ?_
      | refine aw_seq ?_
      | refine aw_reg ?_
      | refine s_pass rfl rfl rfl ?_
      | refine s_len tabOk rfl rfl rfl rfl ?_
      | refine aw_true rfl ?_
      | refine aw_false rfl ?_
      | refine aw_block ?_
      | refine aw_skip ?_
      | refine aw_exit ?_
      | refine blk_exit ?_
      | refine blk_exit_other rfl ?_
      | refine blk_normal ?_
      | refine thn_exit ?_
      | refine thn_ret ?_
      | refine blk_ret ?_
      | refine rnd_ret ?_
      | refine rnd_exit ?_
      | refine aw_ret ?_
      | refine s_arith tabOk rfl rfl rfl rfl (by simp only [InR]; omega) ?_
      | ((fail_if_success refine s_told rfl rfl ?_); refine s_part rfl rfl rfl ?_ ?_ <;> intro hc <;> (first | replace hc := of_decide_eq_true hc | replace hc := of_decide_eq_false hc | replace hc := eq_of_beq hc | skip))
      | (refine aw_if rfl ?_ ?_ <;> intro hc <;> (first | replace hc := of_decide_eq_true hc | replace hc := of_decide_eq_false hc | replace hc := eq_of_beq hc | skip))
      | refine s_index1 tabOk rfl rfl rfl rfl (by omega) (by omega) ?_)
  refine retK_ret tabOk (congrArg Array.toList Try.results68) (by repeat (first | exact rv_nil | apply rv_tmp rfl rfl | apply rv_cellH (by assumption) rfl rfl rfl (by repeat (first | exact List.Mem.head _ | apply List.Mem.tail)) rfl)) ?_
  exact ⟨rfl, rfl⟩
end
end Go.Proofs.Ytmplincflbhmiaa
namespace Go.Proofs.Ytmplincflbhmiaa
set_option linter.unusedSimpArgs false
set_option linter.unusedVariables false
open Go Cn Go.RowKit
@[irreducible] def smR (r t : Rcd) : Bool := decide (r.s.toList = t.s.toList) && (decide (r.st = t.st) && (decide (r.sp = t.sp) && smL r.xs t.xs))
@[irreducible] def smRs (ys zs : List Rcd) : Bool := decide (ys.length = zs.length) && (List.range ys.length).all fun j => smR (ys.getD j rc1) (zs.getD j rc1)
theorem smRs_len {ys zs : List Rcd} (h : ¬ ys.length = zs.length) : smRs ys zs = false := by unfold smRs; rw [decide_eq_false h]; rfl
theorem smRs_no {ys zs : List Rcd} {i : Nat} (hi : i < ys.length) (h : smR (ys.getD i rc1) (zs.getD i rc1) = false) : smRs ys zs = false := by
  unfold smRs
  rw [all_one (p := fun j => smR (ys.getD j rc1) (zs.getD j rc1)) hi h, Bool.and_false]
theorem smRs_yes {ys zs : List Rcd} (hl : ys.length = zs.length) (h : ∀ j, j < ys.length → smR (ys.getD j rc1) (zs.getD j rc1) = true) : smRs ys zs = true := by
  unfold smRs
  rw [all_full (p := fun j => smR (ys.getD j rc1) (zs.getD j rc1)) h, decide_eq_true hl]; rfl
section
variable {B : Nat} {A W W' : World} {L L' : List Res}
theorem c_SameRecords_1 {y z : RcY} (h : rcS W y) (h' : rcS W z) (hl : y.2.xs.length ≤ 1048576) (hl' : z.2.xs.length ≤ 1048576) (hb : Bd y.2.xs) (hb' : Bd z.2.xs) (hB : B ≤ W.heap.size) : ACalls Try.prog B 67 [.agg (rcF y).toArray, .agg (rcF z).toArray] W (fun u W' => u = .bool (smR y.2 z.2) ∧ Hp B W W' []) := by
  have H0 : Hp B W W [] := Hp.new hB
  obtain ⟨⟨p, pc⟩, ⟨s, st, sp, xs⟩⟩ := y
  obtain ⟨⟨p', pc'⟩, ⟨s', st', sp', xs'⟩⟩ := z
  have hs : smR ⟨s, st, sp, xs⟩ ⟨s', st', sp', xs'⟩ = (decide (s.toList = s'.toList) && (decide (st = st') && (decide (sp = sp') && smL xs xs'))) := by unfold smR; rfl
  dsimp only at hl hl' hb hb' h h' ⊢
  refine acalls_of Try.func67 rfl Try.ntmps67 (Nat.le_of_ble_eq_true rfl) ?_
  repeat' (first | refine s_pure tabOk rfl rfl rfl rfl ?_ | refine Stp.imp ?_ | refine aops_nil ?_ | refine aw_reg ?_ | refine aw_seq ?_ | refine s_pass rfl rfl rfl ?_ | refine s_len tabOk rfl rfl rfl rfl ?_ | refine aw_true rfl ?_ | refine aw_false rfl ?_ | refine blk_exit_other rfl ?_ | refine s_arith tabOk rfl rfl rfl rfl (by simp only [InR]; omega) ?_ | ((first | ((fail_if_success refine s_told rfl rfl ?_); refine s_part rfl rfl rfl ?_ ?_) | refine aw_if rfl ?_ ?_) <;> intro hc <;> (first | replace hc := DecT.imp hc | simp only [decs] at hc | skip)) | refine s_index1n tabOk rfl rfl rfl rfl (by omega) ?_ | refine s_indexn tabOk rfl rfl rfl rfl (by omega) ?_ | refine s_index1 tabOk rfl rfl rfl rfl (by omega) (by omega) ?_ | refine sh_load tabOk (by assumption) rfl rfl rfl rfl (by repeat (first | exact List.Mem.head _ | apply List.Mem.tail)) (by rfl) (by rfl) ?_ | refine sh_loada tabOk (by assumption) rfl rfl rfl rfl (by repeat (first | exact List.Mem.head _ | apply List.Mem.tail)) (by rfl) ?_ | (refine sh_box (by assumption) rfl rfl rfl rfl rfl rfl ?_; intro _ _ _) | (refine sh_alloc tabOk (by assumption) rfl rfl rfl rfl rfl rfl ?_; intro _ _ _) | (refine sh_store tabOk (by assumption) rfl rfl rfl rfl rfl rfl (by repeat (first | exact Upd.here | apply Upd.there)) (by rfl) ?_; intro _ _) | (refine sh_lit tabOk (by assumption) rfl rfl rfl rfl rfl rfl rfl rfl rfl rfl rfl ?_; intro _ _ _) | refine sh_build tabOk rfl rfl rfl rfl rfl rfl ?_)
  · rename_i e1 e2
    refine s_call rfl rfl rfl rfl ent68 (c_impl_sameNumbers (h.below (Hp.below (by assumption))) (h'.below (Hp.below (by assumption))) hl hl' hb hb') ?_
    rintro _ _ ⟨rfl, rfl⟩
    repeat' (first | refine s_pure tabOk rfl rfl rfl rfl ?_ | refine Stp.imp ?_ | refine aops_nil ?_ | refine aw_reg ?_ | refine aw_seq ?_ | refine s_pass rfl rfl rfl ?_ | refine s_len tabOk rfl rfl rfl rfl ?_ | refine aw_true rfl ?_ | refine aw_false rfl ?_ | refine blk_exit_other rfl ?_ | refine s_arith tabOk rfl rfl rfl rfl (by simp only [InR]; omega) ?_ | ((first | ((fail_if_success refine s_told rfl rfl ?_); refine s_part rfl rfl rfl ?_ ?_) | refine aw_if rfl ?_ ?_) <;> intro hc <;> (first | replace hc := DecT.imp hc | simp only [decs] at hc | skip)) | refine s_index1n tabOk rfl rfl rfl rfl (by omega) ?_ | refine s_indexn tabOk rfl rfl rfl rfl (by omega) ?_ | refine s_index1 tabOk rfl rfl rfl rfl (by omega) (by omega) ?_ | refine sh_load tabOk (by assumption) rfl rfl rfl rfl (by repeat (first | exact List.Mem.head _ | apply List.Mem.tail)) (by rfl) (by rfl) ?_ | refine sh_loada tabOk (by assumption) rfl rfl rfl rfl (by repeat (first | exact List.Mem.head _ | apply List.Mem.tail)) (by rfl) ?_ | (refine sh_box (by assumption) rfl rfl rfl rfl rfl rfl ?_; intro _ _ _) | (refine sh_alloc tabOk (by assumption) rfl rfl rfl rfl rfl rfl ?_; intro _ _ _) | (refine sh_store tabOk (by assumption) rfl rfl rfl rfl rfl rfl (by repeat (first | exact Upd.here | apply Upd.there)) (by rfl) ?_; intro _ _) | (refine sh_lit tabOk (by assumption) rfl rfl rfl rfl rfl rfl rfl rfl rfl rfl rfl ?_; intro _ _ _) | refine sh_build tabOk rfl rfl rfl rfl rfl rfl ?_)
    refine retK_ret tabOk (congrArg Array.toList Try.results67) (by repeat (first | exact rv_nil | apply rv_tmp rfl rfl | apply rv_cellH (by assumption) rfl rfl rfl (by repeat (first | exact List.Mem.head _ | apply List.Mem.tail)) rfl)) ?_
    exact ⟨by rw [hs, decide_eq_true e1, decide_eq_true e2, decide_eq_true hc]; rfl, Hp.sub (by assumption) (by repeat (first | exact List.nil_sublist _ | refine List.Sublist.cons_cons _ ?_ | refine List.Sublist.cons _ ?_))⟩
  · refine retK_ret tabOk (congrArg Array.toList Try.results67) (by repeat (first | exact rv_nil | apply rv_tmp rfl rfl | apply rv_cellH (by assumption) rfl rfl rfl (by repeat (first | exact List.Mem.head _ | apply List.Mem.tail)) rfl)) ?_
    exact ⟨by rw [hs, decide_eq_false hc]; simp only [Bool.false_and, Bool.and_false]; rfl, Hp.sub (by assumption) (by repeat (first | exact List.nil_sublist _ | refine List.Sublist.cons_cons _ ?_ | refine List.Sublist.cons _ ?_))⟩
  · refine retK_ret tabOk (congrArg Array.toList Try.results67) (by repeat (first | exact rv_nil | apply rv_tmp rfl rfl | apply rv_cellH (by assumption) rfl rfl rfl (by repeat (first | exact List.Mem.head _ | apply List.Mem.tail)) rfl)) ?_
    exact ⟨by rw [hs, decide_eq_false hc]; simp only [Bool.false_and, Bool.and_false]; rfl, Hp.sub (by assumption) (by repeat (first | exact List.nil_sublist _ | refine List.Sublist.cons_cons _ ?_ | refine List.Sublist.cons _ ?_))⟩
  · refine retK_ret tabOk (congrArg Array.toList Try.results67) (by repeat (first | exact rv_nil | apply rv_tmp rfl rfl | apply rv_cellH (by assumption) rfl rfl rfl (by repeat (first | exact List.Mem.head _ | apply List.Mem.tail)) rfl)) ?_
    exact ⟨by rw [hs, decide_eq_false hc]; simp only [Bool.false_and, Bool.and_false]; rfl, Hp.sub (by assumption) (by repeat (first | exact List.nil_sublist _ | refine List.Sublist.cons_cons _ ?_ | refine List.Sublist.cons _ ?_))⟩
theorem smRs_noY {ys zs : List RcY} {i : Nat} (hi : i < ys.length) (hi' : i < zs.length) (h : smR (ys.getD i rc0).2 (zs.getD i rc0).2 = false) : smRs (ys.map (·.2)) (zs.map (·.2)) = false :=
  smRs_no (i := i) (by simpa using hi) (by rw [rs_getC hi, rs_getC hi']; exact h)
theorem smRs_yesY {ys zs : List RcY} (hl : ys.length = zs.length) (h : ∀ j, j < ys.length → smR (ys.getD j rc0).2 (zs.getD j rc0).2 = true) : smRs (ys.map (·.2)) (zs.map (·.2)) = true :=
  smRs_yes (by simpa using hl) (fun j hj => by
    have hj' : j < ys.length := by simpa using hj
    rw [rs_getC hj', rs_getC (by omega)]; exact h j hj')
set_option maxHeartbeats 4000000 in
theorem c_EqualFuncC {v v' : Value} {ys zs : List RcY} (hv : SlC W v ys) (hv' : SlC W v' zs) (hl : ys.length + totC ys ≤ 1048576) (hl' : zs.length + totC zs ≤ 1048576) (hb : BdC ys) (hb' : BdC zs) (hB : B ≤ W.heap.size) :
    ACalls Try.prog B 66 [v, v', .func (.func 67) #[] #[]] W (fun u W' => u = .bool (smRs (ys.map (·.2)) (zs.map (·.2))) ∧ Hp B W W' []) := by
  have H0 : Hp B W W [] := Hp.new hB
  have hv0 := hv
  have hv0' := hv'
  obtain ⟨a, c, rfl, -⟩ := hv.form
  obtain ⟨a', c', rfl, -⟩ := hv'.form
  refine acalls_of Try.func66 rfl Try.ntmps66 (Nat.le_of_ble_eq_true rfl) ?_
  repeat' (first | refine s_pure tabOk rfl rfl rfl rfl ?_ | refine Stp.imp ?_ | refine aops_nil ?_ | refine aw_reg ?_ | refine aw_seq ?_ | refine s_pass rfl rfl rfl ?_ | refine s_len tabOk rfl rfl rfl rfl ?_ | refine aw_true rfl ?_ | refine aw_false rfl ?_ | refine blk_exit_other rfl ?_ | refine s_arith tabOk rfl rfl rfl rfl (by simp only [InR]; omega) ?_ | ((first | ((fail_if_success refine s_told rfl rfl ?_); refine s_part rfl rfl rfl ?_ ?_) | refine aw_if rfl ?_ ?_) <;> intro hc <;> (first | replace hc := DecT.imp hc | simp only [decs] at hc | skip)) | refine s_index1n tabOk rfl rfl rfl rfl (by omega) ?_ | refine s_indexn tabOk rfl rfl rfl rfl (by omega) ?_ | refine s_index1 tabOk rfl rfl rfl rfl (by omega) (by omega) ?_ | refine sh_load tabOk (by assumption) rfl rfl rfl rfl (by repeat (first | exact List.Mem.head _ | apply List.Mem.tail)) (by rfl) (by rfl) ?_ | refine sh_loada tabOk (by assumption) rfl rfl rfl rfl (by repeat (first | exact List.Mem.head _ | apply List.Mem.tail)) (by rfl) ?_ | (refine sh_box (by assumption) rfl rfl rfl rfl rfl rfl ?_; intro _ _ _) | (refine sh_alloc tabOk (by assumption) rfl rfl rfl rfl rfl rfl ?_; intro _ _ _) | (refine sh_store tabOk (by assumption) rfl rfl rfl rfl rfl rfl (by repeat (first | exact Upd.here | apply Upd.there)) (by rfl) ?_; intro _ _) | (refine sh_lit tabOk (by assumption) rfl rfl rfl rfl rfl rfl rfl rfl rfl rfl rfl ?_; intro _ _ _) | refine sh_build tabOk rfl rfl rfl rfl rfl rfl ?_)
  · refine retK_ret tabOk (congrArg Array.toList Try.results66) (by repeat (first | exact rv_nil | apply rv_tmp rfl rfl | apply rv_cellH (by assumption) rfl rfl rfl (by repeat (first | exact List.Mem.head _ | apply List.Mem.tail)) rfl)) ?_
    exact ⟨by rw [smRs_len (by simp; omega)]; rfl, H0⟩
  have hll : ys.length = zs.length := by omega
  clear hc
  refine aw_loopH (A := W) (fun i : Nat => [(17, .int .i64 i), (16, .int .i64 ys.length), (15, .slice a ys.length c), (1, .slice a' zs.length c'), (2, .func (.func 67) #[] #[])]) (fun _ => []) (fun i => i ≤ ys.length ∧ ∀ j, j < i → smR (ys.getD j rc0).2 (zs.getD j rc0).2 = true) (fun i => ys.length - i) 0 ⟨by omega, by omega⟩ H0 (by repeat (first | exact less_nil | refine less_cons rfl ?_)) ?_
  rintro i W2 ⟨hi, hall⟩ H2
  by_cases hin : i < ys.length
  rotate_left
  · repeat' (first | refine s_pure tabOk rfl rfl rfl rfl ?_ | refine Stp.imp ?_ | refine aops_nil ?_ | refine aw_reg ?_ | refine aw_seq ?_ | refine s_pass rfl rfl rfl ?_ | refine s_len tabOk rfl rfl rfl rfl ?_ | refine aw_true rfl ?_ | refine aw_false rfl ?_ | refine blk_exit_other rfl ?_ | refine s_arith tabOk rfl rfl rfl rfl (by simp only [InR]; omega) ?_ | ((first | ((fail_if_success refine s_told rfl rfl ?_); refine s_part rfl rfl rfl ?_ ?_) | refine aw_if rfl ?_ ?_) <;> intro hc <;> (first | replace hc := DecT.imp hc | simp only [decs] at hc | skip)) | refine s_index1n tabOk rfl rfl rfl rfl (by omega) ?_ | refine s_indexn tabOk rfl rfl rfl rfl (by omega) ?_ | refine s_index1 tabOk rfl rfl rfl rfl (by omega) (by omega) ?_ | refine sh_load tabOk (by assumption) rfl rfl rfl rfl (by repeat (first | exact List.Mem.head _ | apply List.Mem.tail)) (by rfl) (by rfl) ?_ | refine sh_loada tabOk (by assumption) rfl rfl rfl rfl (by repeat (first | exact List.Mem.head _ | apply List.Mem.tail)) (by rfl) ?_ | (refine sh_box (by assumption) rfl rfl rfl rfl rfl rfl ?_; intro _ _ _) | (refine sh_alloc tabOk (by assumption) rfl rfl rfl rfl rfl rfl ?_; intro _ _ _) | (refine sh_store tabOk (by assumption) rfl rfl rfl rfl rfl rfl (by repeat (first | exact Upd.here | apply Upd.there)) (by rfl) ?_; intro _ _) | (refine sh_lit tabOk (by assumption) rfl rfl rfl rfl rfl rfl rfl rfl rfl rfl rfl ?_; intro _ _ _) | refine sh_build tabOk rfl rfl rfl rfl rfl rfl ?_)
    all_goals try (exfalso; omega)
    refine retK_ret tabOk (congrArg Array.toList Try.results66) (by repeat (first | exact rv_nil | apply rv_tmp rfl rfl | apply rv_cellH (by assumption) rfl rfl rfl (by repeat (first | exact List.Mem.head _ | apply List.Mem.tail)) rfl)) ?_
    exact ⟨by rw [smRs_yesY hll fun j hj => hall j (by omega)]; rfl, H2⟩
  obtain ⟨b, off, rfl, hr⟩ := hv.read (by omega)
  obtain ⟨b', off', rfl, hr'⟩ := hv'.read (by omega)
  have g1 := totC_getD hin
  have g2 := totC_getD (ys := zs) (i := i) (by omega)
  unfold rcN at g1 g2
  have r1 := hv0.2 i hin
  have r2 := hv0'.2 i (by omega)
  have b1 := hb i hin
  have b2 := hb' i (by omega)
  repeat' (first | refine s_pure tabOk rfl rfl rfl rfl ?_ | refine Stp.imp ?_ | refine aops_nil ?_ | refine aw_reg ?_ | refine aw_seq ?_ | refine s_pass rfl rfl rfl ?_ | refine s_len tabOk rfl rfl rfl rfl ?_ | refine aw_true rfl ?_ | refine aw_false rfl ?_ | refine blk_exit_other rfl ?_ | refine s_arith tabOk rfl rfl rfl rfl (by simp only [InR]; omega) ?_ | ((first | ((fail_if_success refine s_told rfl rfl ?_); refine s_part rfl rfl rfl ?_ ?_) | refine aw_if rfl ?_ ?_) <;> intro hc <;> (first | replace hc := DecT.imp hc | simp only [decs] at hc | skip)) | refine s_index1n tabOk rfl rfl rfl rfl (by omega) ?_ | refine s_indexn tabOk rfl rfl rfl rfl (by omega) ?_ | refine s_index1 tabOk rfl rfl rfl rfl (by omega) (by omega) ?_ | refine sh_load tabOk (by assumption) rfl rfl rfl rfl (by repeat (first | exact List.Mem.head _ | apply List.Mem.tail)) (by rfl) (by rfl) ?_ | refine sh_loada tabOk (by assumption) rfl rfl rfl rfl (by repeat (first | exact List.Mem.head _ | apply List.Mem.tail)) (by rfl) ?_ | (refine sh_box (by assumption) rfl rfl rfl rfl rfl rfl ?_; intro _ _ _) | (refine sh_alloc tabOk (by assumption) rfl rfl rfl rfl rfl rfl ?_; intro _ _ _) | (refine sh_store tabOk (by assumption) rfl rfl rfl rfl rfl rfl (by repeat (first | exact Upd.here | apply Upd.there)) (by rfl) ?_; intro _ _) | (refine sh_lit tabOk (by assumption) rfl rfl rfl rfl rfl rfl rfl rfl rfl rfl rfl ?_; intro _ _ _) | refine sh_build tabOk rfl rfl rfl rfl rfl rfl ?_)
  all_goals try (exfalso; omega)
  refine sh_readA tabOk rcF_len rc0 rfl rfl rfl rfl (H2.rd hr) rfl hin ?_
  repeat' (first | refine s_pure tabOk rfl rfl rfl rfl ?_ | refine Stp.imp ?_ | refine aops_nil ?_ | refine aw_reg ?_ | refine aw_seq ?_ | refine s_pass rfl rfl rfl ?_ | refine s_len tabOk rfl rfl rfl rfl ?_ | refine aw_true rfl ?_ | refine aw_false rfl ?_ | refine blk_exit_other rfl ?_ | refine s_arith tabOk rfl rfl rfl rfl (by simp only [InR]; omega) ?_ | ((first | ((fail_if_success refine s_told rfl rfl ?_); refine s_part rfl rfl rfl ?_ ?_) | refine aw_if rfl ?_ ?_) <;> intro hc <;> (first | replace hc := DecT.imp hc | simp only [decs] at hc | skip)) | refine s_index1n tabOk rfl rfl rfl rfl (by omega) ?_ | refine s_indexn tabOk rfl rfl rfl rfl (by omega) ?_ | refine s_index1 tabOk rfl rfl rfl rfl (by omega) (by omega) ?_ | refine sh_load tabOk (by assumption) rfl rfl rfl rfl (by repeat (first | exact List.Mem.head _ | apply List.Mem.tail)) (by rfl) (by rfl) ?_ | refine sh_loada tabOk (by assumption) rfl rfl rfl rfl (by repeat (first | exact List.Mem.head _ | apply List.Mem.tail)) (by rfl) ?_ | (refine sh_box (by assumption) rfl rfl rfl rfl rfl rfl ?_; intro _ _ _) | (refine sh_alloc tabOk (by assumption) rfl rfl rfl rfl rfl rfl ?_; intro _ _ _) | (refine sh_store tabOk (by assumption) rfl rfl rfl rfl rfl rfl (by repeat (first | exact Upd.here | apply Upd.there)) (by rfl) ?_; intro _ _) | (refine sh_lit tabOk (by assumption) rfl rfl rfl rfl rfl rfl rfl rfl rfl rfl rfl ?_; intro _ _ _) | refine sh_build tabOk rfl rfl rfl rfl rfl rfl ?_)
  refine sh_readA tabOk rcF_len rc0 rfl rfl rfl rfl (Hp.rd (show Hp B W _ _ by assumption) hr') rfl (by omega) ?_
  repeat' (first | refine s_pure tabOk rfl rfl rfl rfl ?_ | refine Stp.imp ?_ | refine aops_nil ?_ | refine aw_reg ?_ | refine aw_seq ?_ | refine s_pass rfl rfl rfl ?_ | refine s_len tabOk rfl rfl rfl rfl ?_ | refine aw_true rfl ?_ | refine aw_false rfl ?_ | refine blk_exit_other rfl ?_ | refine s_arith tabOk rfl rfl rfl rfl (by simp only [InR]; omega) ?_ | ((first | ((fail_if_success refine s_told rfl rfl ?_); refine s_part rfl rfl rfl ?_ ?_) | refine aw_if rfl ?_ ?_) <;> intro hc <;> (first | replace hc := DecT.imp hc | simp only [decs] at hc | skip)) | refine s_index1n tabOk rfl rfl rfl rfl (by omega) ?_ | refine s_indexn tabOk rfl rfl rfl rfl (by omega) ?_ | refine s_index1 tabOk rfl rfl rfl rfl (by omega) (by omega) ?_ | refine sh_load tabOk (by assumption) rfl rfl rfl rfl (by repeat (first | exact List.Mem.head _ | apply List.Mem.tail)) (by rfl) (by rfl) ?_ | refine sh_loada tabOk (by assumption) rfl rfl rfl rfl (by repeat (first | exact List.Mem.head _ | apply List.Mem.tail)) (by rfl) ?_ | (refine sh_box (by assumption) rfl rfl rfl rfl rfl rfl ?_; intro _ _ _) | (refine sh_alloc tabOk (by assumption) rfl rfl rfl rfl rfl rfl ?_; intro _ _ _) | (refine sh_store tabOk (by assumption) rfl rfl rfl rfl rfl rfl (by repeat (first | exact Upd.here | apply Upd.there)) (by rfl) ?_; intro _ _) | (refine sh_lit tabOk (by assumption) rfl rfl rfl rfl rfl rfl rfl rfl rfl rfl rfl ?_; intro _ _ _) | refine sh_build tabOk rfl rfl rfl rfl rfl rfl ?_)
  refine s_call rfl rfl rfl rfl ent67 (c_SameRecords_1 (y := ys.getD i rc0) (z := zs.getD i rc0) (r1.below (Hp.below (by assumption))) (r2.below (Hp.below (by assumption))) (by omega) (by omega) b1 b2 (Hp.size (by assumption))) ?_
  rintro _ W3 ⟨rfl, g3⟩
  have H3 := Hp.call0 (show Hp B W _ _ by assumption) g3
  cases hk : smR (ys.getD i rc0).2 (zs.getD i rc0).2
  · repeat' (first | refine s_pure tabOk rfl rfl rfl rfl ?_ | refine Stp.imp ?_ | refine aops_nil ?_ | refine aw_reg ?_ | refine aw_seq ?_ | refine s_pass rfl rfl rfl ?_ | refine s_len tabOk rfl rfl rfl rfl ?_ | refine aw_true rfl ?_ | refine aw_false rfl ?_ | refine blk_exit_other rfl ?_ | refine s_arith tabOk rfl rfl rfl rfl (by simp only [InR]; omega) ?_ | ((first | ((fail_if_success refine s_told rfl rfl ?_); refine s_part rfl rfl rfl ?_ ?_) | refine aw_if rfl ?_ ?_) <;> intro hc <;> (first | replace hc := DecT.imp hc | simp only [decs] at hc | skip)) | refine s_index1n tabOk rfl rfl rfl rfl (by omega) ?_ | refine s_indexn tabOk rfl rfl rfl rfl (by omega) ?_ | refine s_index1 tabOk rfl rfl rfl rfl (by omega) (by omega) ?_ | refine sh_load tabOk (by assumption) rfl rfl rfl rfl (by repeat (first | exact List.Mem.head _ | apply List.Mem.tail)) (by rfl) (by rfl) ?_ | refine sh_loada tabOk (by assumption) rfl rfl rfl rfl (by repeat (first | exact List.Mem.head _ | apply List.Mem.tail)) (by rfl) ?_ | (refine sh_box (by assumption) rfl rfl rfl rfl rfl rfl ?_; intro _ _ _) | (refine sh_alloc tabOk (by assumption) rfl rfl rfl rfl rfl rfl ?_; intro _ _ _) | (refine sh_store tabOk (by assumption) rfl rfl rfl rfl rfl rfl (by repeat (first | exact Upd.here | apply Upd.there)) (by rfl) ?_; intro _ _) | (refine sh_lit tabOk (by assumption) rfl rfl rfl rfl rfl rfl rfl rfl rfl rfl rfl ?_; intro _ _ _) | refine sh_build tabOk rfl rfl rfl rfl rfl rfl ?_)
    refine retK_ret tabOk (congrArg Array.toList Try.results66) (by repeat (first | exact rv_nil | apply rv_tmp rfl rfl | apply rv_cellH (by assumption) rfl rfl rfl (by repeat (first | exact List.Mem.head _ | apply List.Mem.tail)) rfl)) ?_
    exact ⟨by rw [smRs_noY hin (by omega) hk]; rfl, Hp.sub (by assumption) (by repeat (first | exact List.nil_sublist _ | refine List.Sublist.cons_cons _ ?_ | refine List.Sublist.cons _ ?_))⟩
  · repeat' (first | refine s_pure tabOk rfl rfl rfl rfl ?_ | refine Stp.imp ?_ | refine aops_nil ?_ | refine aw_reg ?_ | refine aw_seq ?_ | refine s_pass rfl rfl rfl ?_ | refine s_len tabOk rfl rfl rfl rfl ?_ | refine aw_true rfl ?_ | refine aw_false rfl ?_ | refine blk_exit_other rfl ?_ | refine s_arith tabOk rfl rfl rfl rfl (by simp only [InR]; omega) ?_ | ((first | ((fail_if_success refine s_told rfl rfl ?_); refine s_part rfl rfl rfl ?_ ?_) | refine aw_if rfl ?_ ?_) <;> intro hc <;> (first | replace hc := DecT.imp hc | simp only [decs] at hc | skip)) | refine s_index1n tabOk rfl rfl rfl rfl (by omega) ?_ | refine s_indexn tabOk rfl rfl rfl rfl (by omega) ?_ | refine s_index1 tabOk rfl rfl rfl rfl (by omega) (by omega) ?_ | refine sh_load tabOk (by assumption) rfl rfl rfl rfl (by repeat (first | exact List.Mem.head _ | apply List.Mem.tail)) (by rfl) (by rfl) ?_ | refine sh_loada tabOk (by assumption) rfl rfl rfl rfl (by repeat (first | exact List.Mem.head _ | apply List.Mem.tail)) (by rfl) ?_ | (refine sh_box (by assumption) rfl rfl rfl rfl rfl rfl ?_; intro _ _ _) | (refine sh_alloc tabOk (by assumption) rfl rfl rfl rfl rfl rfl ?_; intro _ _ _) | (refine sh_store tabOk (by assumption) rfl rfl rfl rfl rfl rfl (by repeat (first | exact Upd.here | apply Upd.there)) (by rfl) ?_; intro _ _) | (refine sh_lit tabOk (by assumption) rfl rfl rfl rfl rfl rfl rfl rfl rfl rfl rfl ?_; intro _ _ _) | refine sh_build tabOk rfl rfl rfl rfl rfl rfl ?_)
    refine rndh_next (i + 1) ⟨by omega, ?_⟩ (by omega) (by repeat (first | exact less_nil | refine less_cons rfl ?_)) (Hp.sub (by assumption) (by repeat (first | exact List.nil_sublist _ | refine List.Sublist.cons_cons _ ?_ | refine List.Sublist.cons _ ?_)))
    intro j hj
    by_cases e : j = i
    · subst e; exact hk
    · exact hall j (by omega)
theorem hc_impl_SameRecords {v v' : Value} {ys zs : List RcY} (hv : SlC W v ys) (hv' : SlC W v' zs) (hl : ys.length + totC ys ≤ 1048576) (hl' : zs.length + totC zs ≤ 1048576) (hb : BdC ys) (hb' : BdC zs) (hB : B ≤ W.heap.size) :
    ACalls Try.prog B 26 [v, v'] W (fun u W' => u = .bool (smRs (ys.map (·.2)) (zs.map (·.2))) ∧ Hp B W W' []) := by
  have H0 : Hp B W W [] := Hp.new hB
  have hv0 := hv
  have hv0' := hv'
  obtain ⟨a, c, rfl, -⟩ := hv.form
  obtain ⟨a', c', rfl, -⟩ := hv'.form
  refine acalls_of Try.func26 rfl Try.ntmps26 (Nat.le_of_ble_eq_true rfl) ?_
  repeat' (first | refine s_pure tabOk rfl rfl rfl rfl ?_ | refine Stp.imp ?_ | refine aops_nil ?_ | refine aw_reg ?_ | refine aw_seq ?_ | refine s_pass rfl rfl rfl ?_ | refine s_len tabOk rfl rfl rfl rfl ?_ | refine aw_true rfl ?_ | refine aw_false rfl ?_ | refine blk_exit_other rfl ?_ | refine s_arith tabOk rfl rfl rfl rfl (by simp only [InR]; omega) ?_ | ((first | ((fail_if_success refine s_told rfl rfl ?_); refine s_part rfl rfl rfl ?_ ?_) | refine aw_if rfl ?_ ?_) <;> intro hc <;> (first | replace hc := DecT.imp hc | simp only [decs] at hc | skip)) | refine s_index1n tabOk rfl rfl rfl rfl (by omega) ?_ | refine s_indexn tabOk rfl rfl rfl rfl (by omega) ?_ | refine s_index1 tabOk rfl rfl rfl rfl (by omega) (by omega) ?_ | refine sh_load tabOk (by assumption) rfl rfl rfl rfl (by repeat (first | exact List.Mem.head _ | apply List.Mem.tail)) (by rfl) (by rfl) ?_ | refine sh_loada tabOk (by assumption) rfl rfl rfl rfl (by repeat (first | exact List.Mem.head _ | apply List.Mem.tail)) (by rfl) ?_ | (refine sh_box (by assumption) rfl rfl rfl rfl rfl rfl ?_; intro _ _ _) | (refine sh_alloc tabOk (by assumption) rfl rfl rfl rfl rfl rfl ?_; intro _ _ _) | (refine sh_store tabOk (by assumption) rfl rfl rfl rfl rfl rfl (by repeat (first | exact Upd.here | apply Upd.there)) (by rfl) ?_; intro _ _) | (refine sh_lit tabOk (by assumption) rfl rfl rfl rfl rfl rfl rfl rfl rfl rfl rfl ?_; intro _ _ _) | refine sh_build tabOk rfl rfl rfl rfl rfl rfl ?_)
  refine s_call rfl rfl rfl rfl ent66 (c_EqualFuncC hv0 hv0' hl hl' hb hb' hB) ?_
  rintro _ W2 ⟨rfl, H2⟩
  repeat' (first | refine s_pure tabOk rfl rfl rfl rfl ?_ | refine Stp.imp ?_ | refine aops_nil ?_ | refine aw_reg ?_ | refine aw_seq ?_ | refine s_pass rfl rfl rfl ?_ | refine s_len tabOk rfl rfl rfl rfl ?_ | refine aw_true rfl ?_ | refine aw_false rfl ?_ | refine blk_exit_other rfl ?_ | refine s_arith tabOk rfl rfl rfl rfl (by simp only [InR]; omega) ?_ | ((first | ((fail_if_success refine s_told rfl rfl ?_); refine s_part rfl rfl rfl ?_ ?_) | refine aw_if rfl ?_ ?_) <;> intro hc <;> (first | replace hc := DecT.imp hc | simp only [decs] at hc | skip)) | refine s_index1n tabOk rfl rfl rfl rfl (by omega) ?_ | refine s_indexn tabOk rfl rfl rfl rfl (by omega) ?_ | refine s_index1 tabOk rfl rfl rfl rfl (by omega) (by omega) ?_ | refine sh_load tabOk (by assumption) rfl rfl rfl rfl (by repeat (first | exact List.Mem.head _ | apply List.Mem.tail)) (by rfl) (by rfl) ?_ | refine sh_loada tabOk (by assumption) rfl rfl rfl rfl (by repeat (first | exact List.Mem.head _ | apply List.Mem.tail)) (by rfl) ?_ | (refine sh_box (by assumption) rfl rfl rfl rfl rfl rfl ?_; intro _ _ _) | (refine sh_alloc tabOk (by assumption) rfl rfl rfl rfl rfl rfl ?_; intro _ _ _) | (refine sh_store tabOk (by assumption) rfl rfl rfl rfl rfl rfl (by repeat (first | exact Upd.here | apply Upd.there)) (by rfl) ?_; intro _ _) | (refine sh_lit tabOk (by assumption) rfl rfl rfl rfl rfl rfl rfl rfl rfl rfl rfl ?_; intro _ _ _) | refine sh_build tabOk rfl rfl rfl rfl rfl rfl ?_)
  refine retK_ret tabOk (congrArg Array.toList Try.results26) (by repeat (first | exact rv_nil | apply rv_tmp rfl rfl | apply rv_cellH (by assumption) rfl rfl rfl (by repeat (first | exact List.Mem.head _ | apply List.Mem.tail)) rfl)) ?_
  exact ⟨rfl, H2⟩
end
end Go.Proofs.Ytmplincflbhmiaa
