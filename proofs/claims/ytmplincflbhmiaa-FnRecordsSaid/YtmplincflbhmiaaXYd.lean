/- Arrays: an element's address, a slice of one, bytes of a slice made a text. -/
import Derived.Test.YtmplincflbhmiaaXXa
import Derived.Test.YtmplincflbhmiaaXLo
import Derived.Test.YtmplincflbhmiaaXFn
import Derived.Test.YtmplincflbhmiaaXGz
import Derived.Test.YtmplincflbhmiaaXFq
import Derived.Test.YtmplincflbhmiaaXHm
namespace Go.Proofs.Ytmplincflbhmiaa
set_option linter.unusedSimpArgs false
set_option linter.unusedVariables false
open Go Cn Go.RowKit
theorem smN_self (x : Nat) : smN x x = true := by unfold smN; simp
theorem smL_self (xs : List Nat) : smL xs xs = true := smL_yes rfl fun j _ => smN_self _
theorem smR_self (r : Rcd) : smR r r = true := by unfold smR; rw [smL_self]; simp
theorem smRs_self (rs : List Rcd) : smRs rs rs = true := smRs_yes rfl fun j _ => smR_self _
section
variable {B : Nat} {A W W' : World} {L L' : List Res} {n c n' c' : Nat} {a a' : Option Addr} {xs : List Int}
theorem c_b10Long (hn : n ≤ 9223372036854775807) (hn' : n' ≤ 9223372036854775807) :
    ACalls Try.prog B 19 [.slice a n c, .slice a' n' c'] W (fun r W' => (∃ x, r = .bool x ∧ (x = false → n ≤ 1048576 ∧ n' ≤ 1048576)) ∧ W' = W) := by
  refine acalls_of Try.func19 rfl Try.ntmps19 (Nat.le_of_ble_eq_true rfl) ?_
  by_cases h1 : 1048576 < n
  · repeat' (first | refine s_pure tabOk rfl rfl rfl rfl ?_ | refine Stp.imp ?_ | refine aops_nil ?_ | refine aw_reg ?_ | refine aw_seq ?_ | refine s_pass rfl rfl rfl ?_ | refine s_len tabOk rfl rfl rfl rfl ?_ | refine aw_true rfl ?_ | refine aw_false rfl ?_ | refine blk_exit_other rfl ?_ | refine s_arith tabOk rfl rfl rfl rfl (by simp only [InR]; omega) ?_ | ((first | ((fail_if_success refine s_told rfl rfl ?_); refine s_part rfl rfl rfl ?_ ?_) | refine aw_if rfl ?_ ?_) <;> intro hc <;> (first | replace hc := DecT.imp hc | simp only [decs] at hc | skip)) | refine s_index1n tabOk rfl rfl rfl rfl (by omega) ?_ | refine s_indexn tabOk rfl rfl rfl rfl (by omega) ?_ | refine s_index1 tabOk rfl rfl rfl rfl (by omega) (by omega) ?_ | refine sh_load tabOk (by assumption) rfl rfl rfl rfl (by repeat (first | exact List.Mem.head _ | apply List.Mem.tail)) (by rfl) (by rfl) ?_ | refine sh_loada tabOk (by assumption) rfl rfl rfl rfl (by repeat (first | exact List.Mem.head _ | apply List.Mem.tail)) (by rfl) ?_ | (refine sh_box (by assumption) rfl rfl rfl rfl rfl rfl ?_; intro _ _ _) | (refine sh_alloc tabOk (by assumption) rfl rfl rfl rfl rfl rfl ?_; intro _ _ _) | (refine sh_store tabOk (by assumption) rfl rfl rfl rfl rfl rfl (by repeat (first | exact Upd.here | apply Upd.there)) (by rfl) ?_; intro _ _) | (refine sh_lit tabOk (by assumption) rfl rfl rfl rfl rfl rfl rfl rfl rfl rfl rfl ?_; intro _ _ _) | refine sh_build tabOk rfl rfl rfl rfl rfl rfl ?_)
    all_goals try (exfalso; omega)
    refine retK_ret tabOk (congrArg Array.toList Try.results19) (by repeat (first | exact rv_nil | apply rv_tmp rfl rfl | apply rv_cellH (by assumption) rfl rfl rfl (by repeat (first | exact List.Mem.head _ | apply List.Mem.tail)) rfl)) ?_
    exact ⟨⟨_, rfl, fun h => by cases h⟩, rfl⟩
  · by_cases h2 : 1048576 < n'
    · repeat' (first | refine s_pure tabOk rfl rfl rfl rfl ?_ | refine Stp.imp ?_ | refine aops_nil ?_ | refine aw_reg ?_ | refine aw_seq ?_ | refine s_pass rfl rfl rfl ?_ | refine s_len tabOk rfl rfl rfl rfl ?_ | refine aw_true rfl ?_ | refine aw_false rfl ?_ | refine blk_exit_other rfl ?_ | refine s_arith tabOk rfl rfl rfl rfl (by simp only [InR]; omega) ?_ | ((first | ((fail_if_success refine s_told rfl rfl ?_); refine s_part rfl rfl rfl ?_ ?_) | refine aw_if rfl ?_ ?_) <;> intro hc <;> (first | replace hc := DecT.imp hc | simp only [decs] at hc | skip)) | refine s_index1n tabOk rfl rfl rfl rfl (by omega) ?_ | refine s_indexn tabOk rfl rfl rfl rfl (by omega) ?_ | refine s_index1 tabOk rfl rfl rfl rfl (by omega) (by omega) ?_ | refine sh_load tabOk (by assumption) rfl rfl rfl rfl (by repeat (first | exact List.Mem.head _ | apply List.Mem.tail)) (by rfl) (by rfl) ?_ | refine sh_loada tabOk (by assumption) rfl rfl rfl rfl (by repeat (first | exact List.Mem.head _ | apply List.Mem.tail)) (by rfl) ?_ | (refine sh_box (by assumption) rfl rfl rfl rfl rfl rfl ?_; intro _ _ _) | (refine sh_alloc tabOk (by assumption) rfl rfl rfl rfl rfl rfl ?_; intro _ _ _) | (refine sh_store tabOk (by assumption) rfl rfl rfl rfl rfl rfl (by repeat (first | exact Upd.here | apply Upd.there)) (by rfl) ?_; intro _ _) | (refine sh_lit tabOk (by assumption) rfl rfl rfl rfl rfl rfl rfl rfl rfl rfl rfl ?_; intro _ _ _) | refine sh_build tabOk rfl rfl rfl rfl rfl rfl ?_)
      all_goals try (exfalso; omega)
      refine retK_ret tabOk (congrArg Array.toList Try.results19) (by repeat (first | exact rv_nil | apply rv_tmp rfl rfl | apply rv_cellH (by assumption) rfl rfl rfl (by repeat (first | exact List.Mem.head _ | apply List.Mem.tail)) rfl)) ?_
      exact ⟨⟨_, rfl, fun h => by simp at h; omega⟩, rfl⟩
    · repeat' (first | refine s_pure tabOk rfl rfl rfl rfl ?_ | refine Stp.imp ?_ | refine aops_nil ?_ | refine aw_reg ?_ | refine aw_seq ?_ | refine s_pass rfl rfl rfl ?_ | refine s_len tabOk rfl rfl rfl rfl ?_ | refine aw_true rfl ?_ | refine aw_false rfl ?_ | refine blk_exit_other rfl ?_ | refine s_arith tabOk rfl rfl rfl rfl (by simp only [InR]; omega) ?_ | ((first | ((fail_if_success refine s_told rfl rfl ?_); refine s_part rfl rfl rfl ?_ ?_) | refine aw_if rfl ?_ ?_) <;> intro hc <;> (first | replace hc := DecT.imp hc | simp only [decs] at hc | skip)) | refine s_index1n tabOk rfl rfl rfl rfl (by omega) ?_ | refine s_indexn tabOk rfl rfl rfl rfl (by omega) ?_ | refine s_index1 tabOk rfl rfl rfl rfl (by omega) (by omega) ?_ | refine sh_load tabOk (by assumption) rfl rfl rfl rfl (by repeat (first | exact List.Mem.head _ | apply List.Mem.tail)) (by rfl) (by rfl) ?_ | refine sh_loada tabOk (by assumption) rfl rfl rfl rfl (by repeat (first | exact List.Mem.head _ | apply List.Mem.tail)) (by rfl) ?_ | (refine sh_box (by assumption) rfl rfl rfl rfl rfl rfl ?_; intro _ _ _) | (refine sh_alloc tabOk (by assumption) rfl rfl rfl rfl rfl rfl ?_; intro _ _ _) | (refine sh_store tabOk (by assumption) rfl rfl rfl rfl rfl rfl (by repeat (first | exact Upd.here | apply Upd.there)) (by rfl) ?_; intro _ _) | (refine sh_lit tabOk (by assumption) rfl rfl rfl rfl rfl rfl rfl rfl rfl rfl rfl ?_; intro _ _ _) | refine sh_build tabOk rfl rfl rfl rfl rfl rfl ?_)
      all_goals try (exfalso; omega)
      refine retK_ret tabOk (congrArg Array.toList Try.results19) (by repeat (first | exact rv_nil | apply rv_tmp rfl rfl | apply rv_cellH (by assumption) rfl rfl rfl (by repeat (first | exact List.Mem.head _ | apply List.Mem.tail)) rfl)) ?_
      exact ⟨⟨_, rfl, fun h => by omega⟩, rfl⟩
def atV (xs : List Int) (i m : Int) : Int := if m ≤ 1 then 0 else if i < xs.length then xs.getD i.toNat 0 % m else (i * 37 + 11) % m
theorem atV_rng {xs : List Int} {i m : Int} (hi : 0 ≤ i) (hm : 1 ≤ m) : 0 ≤ atV xs i m ∧ atV xs i m < m := by
  unfold atV
  split
  · omega
  split
  · exact ⟨Int.emod_nonneg _ (by omega), Int.emod_lt_of_pos _ (by omega)⟩
  · exact ⟨Int.emod_nonneg _ (by omega), Int.emod_lt_of_pos _ (by omega)⟩
theorem c_b10At (hcb : CodeB W a n c xs) {i m : Int} (hi : 0 ≤ i ∧ i ≤ 1000) (hm : 1 ≤ m ∧ m ≤ 256) :
    ACalls Try.prog B 28 [.slice a n c, .int .i64 i, .int .i64 m] W (fun r W' => r = .int .i64 (atV xs i m) ∧ W' = W) := by
  obtain ⟨c1, c2, c3, c4⟩ := hcb
  refine acalls_of Try.func28 rfl Try.ntmps28 (Nat.le_of_ble_eq_true rfl) ?_
  by_cases h1 : m ≤ 1
  · repeat' (first | refine s_pure tabOk rfl rfl rfl rfl ?_ | refine Stp.imp ?_ | refine aops_nil ?_ | refine aw_reg ?_ | refine aw_seq ?_ | refine s_pass rfl rfl rfl ?_ | refine s_len tabOk rfl rfl rfl rfl ?_ | refine aw_true rfl ?_ | refine aw_false rfl ?_ | refine blk_exit_other rfl ?_ | refine s_arith tabOk rfl rfl rfl rfl (by simp only [InR]; omega) ?_ | ((first | ((fail_if_success refine s_told rfl rfl ?_); refine s_part rfl rfl rfl ?_ ?_) | refine aw_if rfl ?_ ?_) <;> intro hc <;> (first | replace hc := DecT.imp hc | simp only [decs] at hc | skip)) | refine s_index1n tabOk rfl rfl rfl rfl (by omega) ?_ | refine s_indexn tabOk rfl rfl rfl rfl (by omega) ?_ | refine s_index1 tabOk rfl rfl rfl rfl (by omega) (by omega) ?_ | refine sh_load tabOk (by assumption) rfl rfl rfl rfl (by repeat (first | exact List.Mem.head _ | apply List.Mem.tail)) (by rfl) (by rfl) ?_ | refine sh_loada tabOk (by assumption) rfl rfl rfl rfl (by repeat (first | exact List.Mem.head _ | apply List.Mem.tail)) (by rfl) ?_ | (refine sh_box (by assumption) rfl rfl rfl rfl rfl rfl ?_; intro _ _ _) | (refine sh_alloc tabOk (by assumption) rfl rfl rfl rfl rfl rfl ?_; intro _ _ _) | (refine sh_store tabOk (by assumption) rfl rfl rfl rfl rfl rfl (by repeat (first | exact Upd.here | apply Upd.there)) (by rfl) ?_; intro _ _) | (refine sh_lit tabOk (by assumption) rfl rfl rfl rfl rfl rfl rfl rfl rfl rfl rfl ?_; intro _ _ _) | refine sh_build tabOk rfl rfl rfl rfl rfl rfl ?_)
    all_goals try (exfalso; omega)
    refine retK_ret tabOk (congrArg Array.toList Try.results28) (by repeat (first | exact rv_nil | apply rv_tmp rfl rfl | apply rv_cellH (by assumption) rfl rfl rfl (by repeat (first | exact List.Mem.head _ | apply List.Mem.tail)) rfl)) ?_
    exact ⟨by unfold atV; rw [if_pos h1]; rfl, rfl⟩
  by_cases h2 : i < n
  · obtain ⟨b, off, rfl, hr⟩ := c1.read (by omega)
    obtain ⟨j, rfl⟩ : ∃ j : Nat, i = (j : Int) := ⟨i.toNat, by omega⟩
    have hx := c4 _ (getD_mem (xs := xs) (i := j) (by omega))
    have ha : atV xs j m = xs.getD j 0 % m := by unfold atV; rw [if_neg h1, if_pos (by omega), Int.toNat_natCast]
    rw [ha]
    repeat' (first | refine s_pure tabOk rfl rfl rfl rfl ?_ | refine Stp.imp ?_ | refine aops_nil ?_ | refine aw_reg ?_ | refine aw_seq ?_ | refine s_pass rfl rfl rfl ?_ | refine s_len tabOk rfl rfl rfl rfl ?_ | refine aw_true rfl ?_ | refine aw_false rfl ?_ | refine blk_exit_other rfl ?_ | refine s_arith tabOk rfl rfl rfl rfl (by simp only [InR]; omega) ?_ | ((first | ((fail_if_success refine s_told rfl rfl ?_); refine s_part rfl rfl rfl ?_ ?_) | refine aw_if rfl ?_ ?_) <;> intro hc <;> (first | replace hc := DecT.imp hc | simp only [decs] at hc | skip)) | refine s_index1n tabOk rfl rfl rfl rfl (by omega) ?_ | refine s_indexn tabOk rfl rfl rfl rfl (by omega) ?_ | refine s_index1 tabOk rfl rfl rfl rfl (by omega) (by omega) ?_ | refine sh_load tabOk (by assumption) rfl rfl rfl rfl (by repeat (first | exact List.Mem.head _ | apply List.Mem.tail)) (by rfl) (by rfl) ?_ | refine sh_loada tabOk (by assumption) rfl rfl rfl rfl (by repeat (first | exact List.Mem.head _ | apply List.Mem.tail)) (by rfl) ?_ | (refine sh_box (by assumption) rfl rfl rfl rfl rfl rfl ?_; intro _ _ _) | (refine sh_alloc tabOk (by assumption) rfl rfl rfl rfl rfl rfl ?_; intro _ _ _) | (refine sh_store tabOk (by assumption) rfl rfl rfl rfl rfl rfl (by repeat (first | exact Upd.here | apply Upd.there)) (by rfl) ?_; intro _ _) | (refine sh_lit tabOk (by assumption) rfl rfl rfl rfl rfl rfl rfl rfl rfl rfl rfl ?_; intro _ _ _) | refine sh_build tabOk rfl rfl rfl rfl rfl rfl ?_)
    all_goals try (exfalso; omega)
    refine sh_readT tabOk (f := Value.int .u8) 0 rfl rfl rfl rfl hr rfl (by omega) ?_
    simp only [Int.toNat_natCast]
    generalize xs.getD j 0 = u at *
    repeat' (first | refine s_pure tabOk rfl rfl rfl rfl ?_ | refine Stp.imp ?_ | refine aops_nil ?_ | refine aw_reg ?_ | refine aw_seq ?_ | refine s_pass rfl rfl rfl ?_ | refine s_len tabOk rfl rfl rfl rfl ?_ | refine aw_true rfl ?_ | refine aw_false rfl ?_ | refine blk_exit_other rfl ?_ | refine s_arith tabOk rfl rfl rfl rfl (by simp only [InR]; omega) ?_ | ((first | ((fail_if_success refine s_told rfl rfl ?_); refine s_part rfl rfl rfl ?_ ?_) | refine aw_if rfl ?_ ?_) <;> intro hc <;> (first | replace hc := DecT.imp hc | simp only [decs] at hc | skip)) | refine s_index1n tabOk rfl rfl rfl rfl (by omega) ?_ | refine s_indexn tabOk rfl rfl rfl rfl (by omega) ?_ | refine s_index1 tabOk rfl rfl rfl rfl (by omega) (by omega) ?_ | refine sh_load tabOk (by assumption) rfl rfl rfl rfl (by repeat (first | exact List.Mem.head _ | apply List.Mem.tail)) (by rfl) (by rfl) ?_ | refine sh_loada tabOk (by assumption) rfl rfl rfl rfl (by repeat (first | exact List.Mem.head _ | apply List.Mem.tail)) (by rfl) ?_ | (refine sh_box (by assumption) rfl rfl rfl rfl rfl rfl ?_; intro _ _ _) | (refine sh_alloc tabOk (by assumption) rfl rfl rfl rfl rfl rfl ?_; intro _ _ _) | (refine sh_store tabOk (by assumption) rfl rfl rfl rfl rfl rfl (by repeat (first | exact Upd.here | apply Upd.there)) (by rfl) ?_; intro _ _) | (refine sh_lit tabOk (by assumption) rfl rfl rfl rfl rfl rfl rfl rfl rfl rfl rfl ?_; intro _ _ _) | refine sh_build tabOk rfl rfl rfl rfl rfl rfl ?_)
    refine s_givesv rfl rfl rfl (gives_rem rfl (by omega) (by omega)) ?_
    have := Int.emod_nonneg u (show m ≠ 0 by omega)
    have := Int.emod_lt_of_pos u (show 0 < m by omega)
    generalize u % m = z at *
    repeat' (first | refine s_pure tabOk rfl rfl rfl rfl ?_ | refine Stp.imp ?_ | refine aops_nil ?_ | refine aw_reg ?_ | refine aw_seq ?_ | refine s_pass rfl rfl rfl ?_ | refine s_len tabOk rfl rfl rfl rfl ?_ | refine aw_true rfl ?_ | refine aw_false rfl ?_ | refine blk_exit_other rfl ?_ | refine s_arith tabOk rfl rfl rfl rfl (by simp only [InR]; omega) ?_ | ((first | ((fail_if_success refine s_told rfl rfl ?_); refine s_part rfl rfl rfl ?_ ?_) | refine aw_if rfl ?_ ?_) <;> intro hc <;> (first | replace hc := DecT.imp hc | simp only [decs] at hc | skip)) | refine s_index1n tabOk rfl rfl rfl rfl (by omega) ?_ | refine s_indexn tabOk rfl rfl rfl rfl (by omega) ?_ | refine s_index1 tabOk rfl rfl rfl rfl (by omega) (by omega) ?_ | refine sh_load tabOk (by assumption) rfl rfl rfl rfl (by repeat (first | exact List.Mem.head _ | apply List.Mem.tail)) (by rfl) (by rfl) ?_ | refine sh_loada tabOk (by assumption) rfl rfl rfl rfl (by repeat (first | exact List.Mem.head _ | apply List.Mem.tail)) (by rfl) ?_ | (refine sh_box (by assumption) rfl rfl rfl rfl rfl rfl ?_; intro _ _ _) | (refine sh_alloc tabOk (by assumption) rfl rfl rfl rfl rfl rfl ?_; intro _ _ _) | (refine sh_store tabOk (by assumption) rfl rfl rfl rfl rfl rfl (by repeat (first | exact Upd.here | apply Upd.there)) (by rfl) ?_; intro _ _) | (refine sh_lit tabOk (by assumption) rfl rfl rfl rfl rfl rfl rfl rfl rfl rfl rfl ?_; intro _ _ _) | refine sh_build tabOk rfl rfl rfl rfl rfl rfl ?_)
    refine retK_ret tabOk (congrArg Array.toList Try.results28) (by repeat (first | exact rv_nil | apply rv_tmp rfl rfl | apply rv_cellH (by assumption) rfl rfl rfl (by repeat (first | exact List.Mem.head _ | apply List.Mem.tail)) rfl)) ?_
    exact ⟨rfl, rfl⟩
  · have ha : atV xs i m = (i * 37 + 11) % m := by unfold atV; rw [if_neg h1, if_neg (by omega)]
    rw [ha]
    repeat' (first | refine s_pure tabOk rfl rfl rfl rfl ?_ | refine Stp.imp ?_ | refine aops_nil ?_ | refine aw_reg ?_ | refine aw_seq ?_ | refine s_pass rfl rfl rfl ?_ | refine s_len tabOk rfl rfl rfl rfl ?_ | refine aw_true rfl ?_ | refine aw_false rfl ?_ | refine blk_exit_other rfl ?_ | refine s_arith tabOk rfl rfl rfl rfl (by simp only [InR]; omega) ?_ | ((first | ((fail_if_success refine s_told rfl rfl ?_); refine s_part rfl rfl rfl ?_ ?_) | refine aw_if rfl ?_ ?_) <;> intro hc <;> (first | replace hc := DecT.imp hc | simp only [decs] at hc | skip)) | refine s_index1n tabOk rfl rfl rfl rfl (by omega) ?_ | refine s_indexn tabOk rfl rfl rfl rfl (by omega) ?_ | refine s_index1 tabOk rfl rfl rfl rfl (by omega) (by omega) ?_ | refine sh_load tabOk (by assumption) rfl rfl rfl rfl (by repeat (first | exact List.Mem.head _ | apply List.Mem.tail)) (by rfl) (by rfl) ?_ | refine sh_loada tabOk (by assumption) rfl rfl rfl rfl (by repeat (first | exact List.Mem.head _ | apply List.Mem.tail)) (by rfl) ?_ | (refine sh_box (by assumption) rfl rfl rfl rfl rfl rfl ?_; intro _ _ _) | (refine sh_alloc tabOk (by assumption) rfl rfl rfl rfl rfl rfl ?_; intro _ _ _) | (refine sh_store tabOk (by assumption) rfl rfl rfl rfl rfl rfl (by repeat (first | exact Upd.here | apply Upd.there)) (by rfl) ?_; intro _ _) | (refine sh_lit tabOk (by assumption) rfl rfl rfl rfl rfl rfl rfl rfl rfl rfl rfl ?_; intro _ _ _) | refine sh_build tabOk rfl rfl rfl rfl rfl rfl ?_)
    all_goals try (exfalso; omega)
    refine s_givesv rfl rfl rfl (gives_rem rfl (by omega) (by omega)) ?_
    have := Int.emod_nonneg (i * 37 + 11) (show m ≠ 0 by omega)
    have := Int.emod_lt_of_pos (i * 37 + 11) (show 0 < m by omega)
    generalize (i * 37 + 11) % m = z at *
    repeat' (first | refine s_pure tabOk rfl rfl rfl rfl ?_ | refine Stp.imp ?_ | refine aops_nil ?_ | refine aw_reg ?_ | refine aw_seq ?_ | refine s_pass rfl rfl rfl ?_ | refine s_len tabOk rfl rfl rfl rfl ?_ | refine aw_true rfl ?_ | refine aw_false rfl ?_ | refine blk_exit_other rfl ?_ | refine s_arith tabOk rfl rfl rfl rfl (by simp only [InR]; omega) ?_ | ((first | ((fail_if_success refine s_told rfl rfl ?_); refine s_part rfl rfl rfl ?_ ?_) | refine aw_if rfl ?_ ?_) <;> intro hc <;> (first | replace hc := DecT.imp hc | simp only [decs] at hc | skip)) | refine s_index1n tabOk rfl rfl rfl rfl (by omega) ?_ | refine s_indexn tabOk rfl rfl rfl rfl (by omega) ?_ | refine s_index1 tabOk rfl rfl rfl rfl (by omega) (by omega) ?_ | refine sh_load tabOk (by assumption) rfl rfl rfl rfl (by repeat (first | exact List.Mem.head _ | apply List.Mem.tail)) (by rfl) (by rfl) ?_ | refine sh_loada tabOk (by assumption) rfl rfl rfl rfl (by repeat (first | exact List.Mem.head _ | apply List.Mem.tail)) (by rfl) ?_ | (refine sh_box (by assumption) rfl rfl rfl rfl rfl rfl ?_; intro _ _ _) | (refine sh_alloc tabOk (by assumption) rfl rfl rfl rfl rfl rfl ?_; intro _ _ _) | (refine sh_store tabOk (by assumption) rfl rfl rfl rfl rfl rfl (by repeat (first | exact Upd.here | apply Upd.there)) (by rfl) ?_; intro _ _) | (refine sh_lit tabOk (by assumption) rfl rfl rfl rfl rfl rfl rfl rfl rfl rfl rfl ?_; intro _ _ _) | refine sh_build tabOk rfl rfl rfl rfl rfl rfl ?_)
    refine retK_ret tabOk (congrArg Array.toList Try.results28) (by repeat (first | exact rv_nil | apply rv_tmp rfl rfl | apply rv_cellH (by assumption) rfl rfl rfl (by repeat (first | exact List.Mem.head _ | apply List.Mem.tail)) rfl)) ?_
    exact ⟨rfl, rfl⟩
theorem c_spec_SameNumber {x y : Nat} (hx : x < 4294967296) (hy : y < 4294967296) : ACalls Try.prog B 69 [.float .f32 x, .float .f32 y] W (fun v W' => v = .bool (smN x y) ∧ W' = W) := by
  refine acalls_of Try.func69 rfl Try.ntmps69 (Nat.le_of_ble_eq_true rfl) ?_
  repeat' (first | refine s_pure tabOk rfl rfl rfl rfl ?_ | refine Stp.imp ?_ | refine aops_nil ?_ | refine aw_reg ?_ | refine aw_seq ?_ | refine s_pass rfl rfl rfl ?_ | refine s_len tabOk rfl rfl rfl rfl ?_ | refine aw_true rfl ?_ | refine aw_false rfl ?_ | refine blk_exit_other rfl ?_ | refine s_arith tabOk rfl rfl rfl rfl (by simp only [InR]; omega) ?_ | ((first | ((fail_if_success refine s_told rfl rfl ?_); refine s_part rfl rfl rfl ?_ ?_) | refine aw_if rfl ?_ ?_) <;> intro hc <;> (first | replace hc := DecT.imp hc | simp only [decs] at hc | skip)) | refine s_index1n tabOk rfl rfl rfl rfl (by omega) ?_ | refine s_indexn tabOk rfl rfl rfl rfl (by omega) ?_ | refine s_index1 tabOk rfl rfl rfl rfl (by omega) (by omega) ?_ | refine sh_load tabOk (by assumption) rfl rfl rfl rfl (by repeat (first | exact List.Mem.head _ | apply List.Mem.tail)) (by rfl) (by rfl) ?_ | refine sh_loada tabOk (by assumption) rfl rfl rfl rfl (by repeat (first | exact List.Mem.head _ | apply List.Mem.tail)) (by rfl) ?_ | (refine sh_box (by assumption) rfl rfl rfl rfl rfl rfl ?_; intro _ _ _) | (refine sh_alloc tabOk (by assumption) rfl rfl rfl rfl rfl rfl ?_; intro _ _ _) | (refine sh_store tabOk (by assumption) rfl rfl rfl rfl rfl rfl (by repeat (first | exact Upd.here | apply Upd.there)) (by rfl) ?_; intro _ _) | (refine sh_lit tabOk (by assumption) rfl rfl rfl rfl rfl rfl rfl rfl rfl rfl rfl ?_; intro _ _ _) | refine sh_build tabOk rfl rfl rfl rfl rfl rfl ?_)
  refine s_call rfl rfl rfl rfl ent102 (c_spec_l01Same hx hy) ?_
  rintro _ _ ⟨rfl, rfl⟩
  repeat' (first | refine s_pure tabOk rfl rfl rfl rfl ?_ | refine Stp.imp ?_ | refine aops_nil ?_ | refine aw_reg ?_ | refine aw_seq ?_ | refine s_pass rfl rfl rfl ?_ | refine s_len tabOk rfl rfl rfl rfl ?_ | refine aw_true rfl ?_ | refine aw_false rfl ?_ | refine blk_exit_other rfl ?_ | refine s_arith tabOk rfl rfl rfl rfl (by simp only [InR]; omega) ?_ | ((first | ((fail_if_success refine s_told rfl rfl ?_); refine s_part rfl rfl rfl ?_ ?_) | refine aw_if rfl ?_ ?_) <;> intro hc <;> (first | replace hc := DecT.imp hc | simp only [decs] at hc | skip)) | refine s_index1n tabOk rfl rfl rfl rfl (by omega) ?_ | refine s_indexn tabOk rfl rfl rfl rfl (by omega) ?_ | refine s_index1 tabOk rfl rfl rfl rfl (by omega) (by omega) ?_ | refine sh_load tabOk (by assumption) rfl rfl rfl rfl (by repeat (first | exact List.Mem.head _ | apply List.Mem.tail)) (by rfl) (by rfl) ?_ | refine sh_loada tabOk (by assumption) rfl rfl rfl rfl (by repeat (first | exact List.Mem.head _ | apply List.Mem.tail)) (by rfl) ?_ | (refine sh_box (by assumption) rfl rfl rfl rfl rfl rfl ?_; intro _ _ _) | (refine sh_alloc tabOk (by assumption) rfl rfl rfl rfl rfl rfl ?_; intro _ _ _) | (refine sh_store tabOk (by assumption) rfl rfl rfl rfl rfl rfl (by repeat (first | exact Upd.here | apply Upd.there)) (by rfl) ?_; intro _ _) | (refine sh_lit tabOk (by assumption) rfl rfl rfl rfl rfl rfl rfl rfl rfl rfl rfl ?_; intro _ _ _) | refine sh_build tabOk rfl rfl rfl rfl rfl rfl ?_)
  refine retK_ret tabOk (congrArg Array.toList Try.results69) (by repeat (first | exact rv_nil | apply rv_tmp rfl rfl | apply rv_cellH (by assumption) rfl rfl rfl (by repeat (first | exact List.Mem.head _ | apply List.Mem.tail)) rfl)) ?_
  exact ⟨rfl, rfl⟩
theorem c_b10List {v v' : Value} {xs : List Nat} (hv : SlF W v xs) (hv' : SlF W v' xs) (hl : xs.length ≤ 1048576) (hb : Bd xs) : ACalls Try.prog B 27 [v, v'] W (fun u W' => u = .bool true ∧ W' = W) := by
  have hv0 := hv
  have hv0' := hv'
  obtain ⟨a, c, rfl⟩ := hv.form
  obtain ⟨a', c', rfl⟩ := hv'.form
  refine acalls_of Try.func27 rfl Try.ntmps27 (Nat.le_of_ble_eq_true rfl) ?_
  repeat' (first | refine s_pure tabOk rfl rfl rfl rfl ?_ | refine Stp.imp ?_ | refine aops_nil ?_ | refine aw_reg ?_ | refine aw_seq ?_ | refine s_pass rfl rfl rfl ?_ | refine s_len tabOk rfl rfl rfl rfl ?_ | refine aw_true rfl ?_ | refine aw_false rfl ?_ | refine blk_exit_other rfl ?_ | refine s_arith tabOk rfl rfl rfl rfl (by simp only [InR]; omega) ?_ | ((first | ((fail_if_success refine s_told rfl rfl ?_); refine s_part rfl rfl rfl ?_ ?_) | refine aw_if rfl ?_ ?_) <;> intro hc <;> (first | replace hc := DecT.imp hc | simp only [decs] at hc | skip)) | refine s_index1n tabOk rfl rfl rfl rfl (by omega) ?_ | refine s_indexn tabOk rfl rfl rfl rfl (by omega) ?_ | refine s_index1 tabOk rfl rfl rfl rfl (by omega) (by omega) ?_ | refine sh_load tabOk (by assumption) rfl rfl rfl rfl (by repeat (first | exact List.Mem.head _ | apply List.Mem.tail)) (by rfl) (by rfl) ?_ | refine sh_loada tabOk (by assumption) rfl rfl rfl rfl (by repeat (first | exact List.Mem.head _ | apply List.Mem.tail)) (by rfl) ?_ | (refine sh_box (by assumption) rfl rfl rfl rfl rfl rfl ?_; intro _ _ _) | (refine sh_alloc tabOk (by assumption) rfl rfl rfl rfl rfl rfl ?_; intro _ _ _) | (refine sh_store tabOk (by assumption) rfl rfl rfl rfl rfl rfl (by repeat (first | exact Upd.here | apply Upd.there)) (by rfl) ?_; intro _ _) | (refine sh_lit tabOk (by assumption) rfl rfl rfl rfl rfl rfl rfl rfl rfl rfl rfl ?_; intro _ _ _) | refine sh_build tabOk rfl rfl rfl rfl rfl rfl ?_)
  all_goals try (exfalso; omega)
  refine aw_loop (fun i : Nat => [(13, .int .i64 i), (12, .int .i64 xs.length), (0, .slice a xs.length c), (1, .slice a' xs.length c')]) (fun _ => W) (fun i => i ≤ xs.length) (fun i => xs.length - i) 0 (by omega) (by repeat (first | exact less_nil | refine less_cons rfl ?_)) rfl ?_
  rintro i hi
  by_cases hin : i < xs.length
  rotate_left
  · repeat' (first
      | refine s_pure tabOk rfl rfl rfl rfl ?_
      | refine aops_nil ?_
      | refine thn_normal ?_
      | refine aw_seq ?_
      | refine aw_reg ?_
      | refine s_pass rfl rfl rfl ?_
      | refine s_len tabOk rfl rfl rfl rfl ?_
      | refine aw_true rfl ?_
      | refine aw_false rfl ?_
      | refine aw_block ?_
      | refine aw_skip ?_
      | refine aw_exit ?_
      | refine blk_exit ?_
      | refine blk_exit_other rfl ?_
      | refine blk_normal ?_
      | refine thn_exit ?_
      | refine thn_ret ?_
      | refine blk_ret ?_
      | refine rnd_ret ?_
      | refine rnd_exit ?_
      | refine aw_ret ?_
      | refine s_arith tabOk rfl rfl rfl rfl (by simp only [InR]; omega) ?_
      | ((fail_if_success refine s_told rfl rfl ?_); refine s_part rfl rfl rfl ?_ ?_ <;> intro hc <;> (first | replace hc := of_decide_eq_true hc | replace hc := of_decide_eq_false hc | replace hc := eq_of_beq hc | skip))
      | (refine aw_if rfl ?_ ?_ <;> intro hc <;> (first | replace hc := of_decide_eq_true hc | replace hc := of_decide_eq_false hc | replace hc := eq_of_beq hc | skip))
      | refine s_index1 tabOk rfl rfl rfl rfl (by omega) (by omega) ?_)
    all_goals try (exfalso; omega)
    refine retK_ret tabOk (congrArg Array.toList Try.results27) (by repeat (first | exact rv_nil | apply rv_tmp rfl rfl | apply rv_cellH (by assumption) rfl rfl rfl (by repeat (first | exact List.Mem.head _ | apply List.Mem.tail)) rfl)) ?_
    exact ⟨rfl, rfl⟩
  obtain ⟨b, off, rfl, hr⟩ := hv.read (by omega)
  obtain ⟨b', off', rfl, hr'⟩ := hv'.read (by omega)
  have bx := hb.at hin
  repeat' (first
      | refine s_pure tabOk rfl rfl rfl rfl ?_
      | refine aops_nil ?_
      | refine thn_normal ?_
      | refine aw_seq ?_
      | refine aw_reg ?_
      | refine s_pass rfl rfl rfl ?_
      | refine s_len tabOk rfl rfl rfl rfl ?_
      | refine aw_true rfl ?_
      | refine aw_false rfl ?_
      | refine aw_block ?_
      | refine aw_skip ?_
      | refine aw_exit ?_
      | refine blk_exit ?_
      | refine blk_exit_other rfl ?_
      | refine blk_normal ?_
      | refine thn_exit ?_
      | refine thn_ret ?_
      | refine blk_ret ?_
      | refine rnd_ret ?_
      | refine rnd_exit ?_
      | refine aw_ret ?_
      | refine s_arith tabOk rfl rfl rfl rfl (by simp only [InR]; omega) ?_
      | ((fail_if_success refine s_told rfl rfl ?_); refine s_part rfl rfl rfl ?_ ?_ <;> intro hc <;> (first | replace hc := of_decide_eq_true hc | replace hc := of_decide_eq_false hc | replace hc := eq_of_beq hc | skip))
      | (refine aw_if rfl ?_ ?_ <;> intro hc <;> (first | replace hc := of_decide_eq_true hc | replace hc := of_decide_eq_false hc | replace hc := eq_of_beq hc | skip))
      | refine s_index1 tabOk rfl rfl rfl rfl (by omega) (by omega) ?_)
  all_goals try (exfalso; omega)
  (refine aw_quiet followsMixed lx (by kernel_rfl) ?_; repeat (first
      | refine q_pure tabOk rfl rfl rfl rfl ?_
      | refine q_len tabOk rfl rfl rfl rfl ?_
      | refine q_pass rfl rfl rfl ?_
      | refine q_index1 tabOk rfl rfl rfl rfl (by omega) (by omega) ?_
      | refine q_arith tabOk rfl rfl rfl rfl (by simp only [InR]; omega) ?_))
  refine q_loadf tabOk rfl rfl rfl rfl (hr _ (by omega)) ?_
  simp only [Int.toNat_natCast]
  repeat (first
      | refine q_pure tabOk rfl rfl rfl rfl ?_
      | refine q_len tabOk rfl rfl rfl rfl ?_
      | refine q_pass rfl rfl rfl ?_
      | refine q_index1 tabOk rfl rfl rfl rfl (by omega) (by omega) ?_
      | refine q_arith tabOk rfl rfl rfl rfl (by simp only [InR]; omega) ?_)
  refine q_loadf tabOk rfl rfl rfl rfl (hr' _ (by omega)) ?_
  simp only [Int.toNat_natCast]
  repeat (first
      | refine q_pure tabOk rfl rfl rfl rfl ?_
      | refine q_len tabOk rfl rfl rfl rfl ?_
      | refine q_pass rfl rfl rfl ?_
      | refine q_index1 tabOk rfl rfl rfl rfl (by omega) (by omega) ?_
      | refine q_arith tabOk rfl rfl rfl rfl (by simp only [InR]; omega) ?_)
  refine q_call rfl rfl rfl rfl ent69 (c_spec_SameNumber bx bx) ?_
  repeat (first
      | refine q_pure tabOk rfl rfl rfl rfl ?_
      | refine q_len tabOk rfl rfl rfl rfl ?_
      | refine q_pass rfl rfl rfl ?_
      | refine q_index1 tabOk rfl rfl rfl rfl (by omega) (by omega) ?_
      | refine q_arith tabOk rfl rfl rfl rfl (by simp only [InR]; omega) ?_)
  refine aq_nil (thn_normal ?_)
  rw [smN_self]
  repeat' (first
      | refine s_pure tabOk rfl rfl rfl rfl ?_
      | refine aops_nil ?_
      | refine thn_normal ?_
      | refine aw_seq ?_
      | refine aw_reg ?_
      | refine s_pass rfl rfl rfl ?_
      | refine s_len tabOk rfl rfl rfl rfl ?_
      | refine aw_true rfl ?_
      | refine aw_false rfl ?_
      | refine aw_block ?_
      | refine aw_skip ?_
      | refine aw_exit ?_
      | refine blk_exit ?_
      | refine blk_exit_other rfl ?_
      | refine blk_normal ?_
      | refine thn_exit ?_
      | refine thn_ret ?_
      | refine blk_ret ?_
      | refine rnd_ret ?_
      | refine rnd_exit ?_
      | refine aw_ret ?_
      | refine s_arith tabOk rfl rfl rfl rfl (by simp only [InR]; omega) ?_
      | ((fail_if_success refine s_told rfl rfl ?_); refine s_part rfl rfl rfl ?_ ?_ <;> intro hc <;> (first | replace hc := of_decide_eq_true hc | replace hc := of_decide_eq_false hc | replace hc := eq_of_beq hc | skip))
      | (refine aw_if rfl ?_ ?_ <;> intro hc <;> (first | replace hc := of_decide_eq_true hc | replace hc := of_decide_eq_false hc | replace hc := eq_of_beq hc | skip))
      | refine s_index1 tabOk rfl rfl rfl rfl (by omega) (by omega) ?_)
  refine rnd_next (i + 1) (by omega) (by omega) (by repeat (first | exact less_nil | refine less_cons rfl ?_)) rfl
/-! ### lists of one record -/
theorem Hp.inRec {B : Nat} {A W : World} {L : List Res} {v : Value} {ys : List RcY} (H : Hp B A W L) (hm : rcM v ys ∈ L) {j : Nat} (hj : j < ys.length) : ∃ M, Hp B A W M ∧ fRow (.slice (ys.getD j rc0).1.1 (ys.getD j rc0).2.xs.length (ys.getD j rc0).1.2) (ys.getD j rc0).2.xs ∈ M :=
  ⟨_, (H.sub (List.singleton_sublist.2 hm)).unpack, List.mem_append_left _ (List.Mem.tail _ (List.mem_flatMap.2 ⟨_, gD_mem hj, List.Mem.head _⟩))⟩
theorem sliced_lo (b off h c sz : Nat) : sliced (some ⟨b, off, none⟩) 0 h c sz = .slice (some ⟨b, off, none⟩) h c := by
  unfold sliced
  split
  · rfl
  · simp [Addr.add]
theorem sliced_one {b off i c sz : Nat} (h : i < c) : sliced (some ⟨b, off, none⟩) i (i + 1) c sz = .slice (some ⟨b, off + i * sz, none⟩) 1 (c - i) := by
  unfold sliced
  rw [if_neg (by omega), Option.map_some, Nat.add_sub_cancel_left]
  simp [Addr.add]
theorem Hp.oneRec {B : Nat} {A W : World} {L : List Res} {b : Nat} {y : RcY} (H : Hp B A W L) (hm : Res.row 44 4 (.slice (some ⟨b, 0, none⟩) 1 1) 1 (rcF y) ∈ L) (hf : fRow (.slice y.1.1 y.2.xs.length y.1.2) y.2.xs ∈ L) : SlC W (.slice (some ⟨b, 0, none⟩) 1 1) [y] := by
  refine ⟨?_, fun j hj => ?_⟩
  · have := SlV.of_row (H.ok _ hm)
    simpa using this
  · have : j = 0 := by simp at hj; omega
    subst this
    exact row_slf (H.ok _ hf)
theorem slc_sub {b off q m : Nat} {ys : List RcY} {W : World} (h : SlC W (.slice (some ⟨b, off, none⟩) ys.length q) ys) {i : Nat} (hi : i < ys.length) (hm : 1 ≤ m) : SlC W (.slice (some ⟨b, off + i * 4, none⟩) 1 m) [ys.getD i rc0] := by
  refine ⟨?_, fun j hj => ?_⟩
  · obtain ⟨b2, o2, e, hr⟩ := h.read (by omega)
    cases e
    have := RdV.elem rcF_len rc0 hr hi
    refine ⟨rfl, .inr ⟨b, off + i * 4, m, rfl, hm, by simpa using this⟩⟩
  · have : j = 0 := by simp at hj; omega
    subst this
    exact h.2 i hi
end
end Go.Proofs.Ytmplincflbhmiaa
namespace Go.Proofs.Ytmplincflbhmiaa
set_option linter.unusedSimpArgs false
set_option linter.unusedVariables false
open Go Cn Go.RowKit
theorem recOk_of {s : ByteArray} {st sp : Int} {n m : Nat} (h : recOk s st sp n = true) {st' : Int} (h0 : 0 ≤ st' ∧ st' ≤ 4294967295) (h1 : 1 ≤ m ∧ m ≤ 128) : recOk s st' sp m = true := by
  unfold recOk at h ⊢
  simp only [Bool.and_eq_true, decide_eq_true_eq] at h ⊢
  obtain ⟨⟨⟨a, b⟩, c⟩, d⟩ := h
  exact ⟨⟨⟨a, h0⟩, c⟩, h1⟩
theorem cut_join {s : ByteArray} {st sp : Int} {xs : List Nat} {k : Nat} (hk : recOk s st sp xs.length = true) (hst : st ≤ 7992) (hsp : sp ≤ 8) (hl : xs.length ≤ 7) (h1 : 1 ≤ k) (h2 : k < xs.length) :
    (cutOk s st sp xs.length 0 k = true ∧ cutRec s st sp xs 0 k = (s, st, sp, xs.take k)) ∧ (cutOk s st sp xs.length k xs.length = true ∧ cutRec s st sp xs k xs.length = (s, st + k * sp, sp, xs.drop k)) ∧
    (jnOk s st sp (xs.take k).length s (st + k * sp) sp (xs.drop k).length = true ∧ jnRec s st sp (xs.take k) s (st + k * sp) sp (xs.drop k) = (s, st, sp, xs)) ∧
    (jnOk s (st + k * sp) sp (xs.drop k).length s st sp (xs.take k).length = false ∧ jnRec s (st + k * sp) sp (xs.drop k) s st sp (xs.take k) = (⟨#[]⟩, 0, 0, [])) := by
  obtain ⟨r1, r2, r3, r4, r5, r6⟩ := recOk_range hk
  have m0 : 0 ≤ (k : Int) * sp := Int.mul_nonneg (by omega) (by omega)
  have m1 : (k : Int) * sp ≤ 7 * 8 := Int.mul_le_mul (by omega) hsp (by omega) (by decide)
  have lt : (xs.take k).length = k := by rw [List.length_take]; omega
  have ld : (xs.drop k).length = xs.length - k := by rw [List.length_drop]
  have a1 : cutOk s st sp xs.length 0 k = true := by
    rw [cutOk_4 hk (by omega) (by omega)]
    exact recOk_of hk (by omega) (by omega)
  have a2 : cutOk s st sp xs.length k xs.length = true := by
    rw [cutOk_4 hk (by omega) (by omega)]
    exact recOk_of hk (by omega) (by omega)
  have a3 : jnOk s st sp (xs.take k).length s (st + k * sp) sp (xs.drop k).length = true := by
    rw [lt, ld]
    exact jnOk_yes ⟨recOk_of hk (by omega) (by omega), recOk_of hk (by omega) (by omega), rfl, rfl, rfl, recOk_of hk (by omega) (by omega)⟩
  have a4 : jnOk s (st + k * sp) sp (xs.drop k).length s st sp (xs.take k).length = false := by
    rw [lt, ld]
    refine jnOk_no fun h => ?_
    have := h.2.2.2.2.1
    have h9 : 0 ≤ ((xs.length - k : Nat) : Int) * sp := Int.mul_nonneg (by omega) (by omega)
    have h8 : 1 * 1 ≤ (k : Int) * sp := Int.mul_le_mul (by omega) (by omega) (by omega) (by omega)
    omega
  refine ⟨⟨a1, ?_⟩, ⟨a2, ?_⟩, ⟨a3, ?_⟩, ⟨a4, ?_⟩⟩
  · rw [cutRec_good a1]
    simp
  · rw [cutRec_good a2]
    have : ((xs.length : Int).toNat - (k : Int).toNat) = (xs.drop k).length := by rw [ld]; omega
    rw [this, Int.toNat_natCast, List.take_length]
  · unfold jnRec
    rw [a3, List.take_append_drop]; rfl
  · unfold jnRec
    rw [a4]; rfl
/-! ### where each record ends -/
def eL (rs : List Rcd) (i : Nat) : List Int := (List.range (i + 1)).map fun j => ((catR (rs.take j)).size : Int)
theorem eL_zero (rs : List Rcd) : eL rs 0 = [0] := by unfold eL; simp [catR_nil]; rfl
theorem eL_len (rs : List Rcd) (i : Nat) : (eL rs i).length = i + 1 := by unfold eL; simp
theorem eL_push (rs : List Rcd) (i : Nat) : eL rs (i + 1) = eL rs i ++ [((catR (rs.take (i + 1))).size : Int)] := by
  unfold eL; rw [List.range_succ, List.map_append]; rfl
theorem eL_get {rs : List Rcd} {i j : Nat} (h : j ≤ i) : (eL rs i).getD j 0 = ((catR (rs.take j)).size : Int) := by
  unfold eL
  rw [List.getD_eq_getElem?_getD, List.getElem?_map, List.getElem?_range (by omega)]
  rfl
theorem eL_step {rs : List Rcd} {i : Nat} (h : i < rs.length) : (eL rs i).getD i 0 + ((stR (rs.getD i rc1)).size : Int) = ((catR (rs.take (i + 1))).size : Int) := by
  rw [eL_get (Nat.le_refl _), catR_take rc1 h, ByteArray.size_append]; omega
theorem beg_split {a t : ByteArray} (h : Beg a t) : a ++ t.extract a.size t.size = t := by
  have := ext_join (s := t) (p := 0) (z := a.size) (y := t.size) (by have := h.1; omega) (Nat.le_refl _)
  rw [Nat.zero_add, h.ext] at this
  rw [this]
  refine ba_ext (by rw [extract_size (Nat.le_refl _)]; omega) fun i hi => ?_
  rw [extract_size (Nat.le_refl _)] at hi
  rw [bt_extract (Nat.le_refl _) (by omega), Nat.zero_add]
section
variable {rs : List Rcd} {k c : Nat}
theorem cat_split (k : Nat) : catR rs = catR (rs.take k) ++ catR (rs.drop k) := by rw [← catR_app, List.take_append_drop]
theorem cat_beg (k : Nat) : Beg (catR (rs.take k)) (catR rs) := by
  rw [cat_split (rs := rs) k]; exact beg_app _ _
theorem cut_part (hg : ∀ r ∈ rs, GoodR r) (h8 : rs.length ≤ 8) (hk : k < rs.length) (h1 : (catR (rs.take k)).size ≤ c) (h2 : c < (catR (rs.take (k + 1))).size) :
    rvL ((catR rs).extract 0 c) = rs.take k ∧ rvA ((catR rs).extract 0 c) = (catR (rs.take k)).size := by
  have hS := catR_take rc1 hk
  have hb := cat_beg (rs := rs) k
  have hb2 := cat_beg (rs := rs) (k + 1)
  have hr : GoodR (rs.getD k rc1) := by
    rw [List.getD_eq_getElem?_getD, List.getElem?_eq_getElem hk]
    exact hg _ (List.getElem_mem _)
  have hz : (catR (rs.take (k + 1))).size = (catR (rs.take k)).size + (stR (rs.getD k rc1)).size := by rw [hS, ByteArray.size_append]
  have hcl : c ≤ (catR rs).size := by have := hb2.1; omega
  have hsp : (catR rs).extract 0 c = catR (rs.take k) ++ (catR rs).extract (catR (rs.take k)).size c := by
    have := ext_join (s := catR rs) (p := 0) (z := (catR (rs.take k)).size) (y := c) (by omega) hcl
    rw [Nat.zero_add, hb.ext] at this
    exact this.symm
  have he : fstOk ((catR rs).extract (catR (rs.take k)).size c) = false := by
    refine fst_part (s := (rs.getD k rc1).s) (st := (rs.getD k rc1).st) (sp := (rs.getD k rc1).sp) (xs := (rs.getD k rc1).xs) hr.ok ⟨?_, fun i hi => ?_⟩ ?_
    · rw [extract_size hcl]
      show _ ≤ (stR (rs.getD k rc1)).size
      omega
    · rw [extract_size hcl] at hi
      rw [bt_extract hcl (by omega)]
      show bt (stR (rs.getD k rc1)) i = _
      rw [hb2.2 _ (by omega), hS, bt_app_hi]
    · rw [extract_size hcl]
      show _ < (stR (rs.getD k rc1)).size
      omega
  rw [hsp]
  exact rv_stop (fun r hr => hg r (List.mem_of_mem_take hr)) (by rw [List.length_take]; omega) he
theorem bent_more {t : ByteArray} (hg : ∀ r ∈ rs, GoodR r) (h8 : rs.length ≤ 8) (hk : k ≤ rs.length) (h1 : (catR (rs.take k)).size ≤ c) (ht : t.size = (catR rs).size) (hb : ∀ i, i < c → bt t i = bt (catR rs) i) : k ≤ (rvL t).length := by
  have hbk := cat_beg (rs := rs) k
  have hB : Beg (catR (rs.take k)) t := ⟨by have := hbk.1; omega, fun i hi => by rw [hb i (by omega), hbk.2 i hi]⟩
  have := rv_more (rs := rs.take k) (e := t.extract (catR (rs.take k)).size t.size) (fun r hr => hg r (List.mem_of_mem_take hr)) (by rw [List.length_take]; omega)
  rw [beg_split hB, List.length_take] at this
  omega
end
/-! ### what is read back is of 32 bits -/
theorem fstC_bd {t : ByteArray} (h : fstOk t = true) : ∀ x ∈ (fstC t).xs, x < 4294967296 := by
  have h3 := uVal_bd (lim := 28) (ldBody t)
  have e := fstC_eq (fstR_yes h)
  generalize uVal 28 (ldBody t) = xs at *
  rw [e]
  exact h3
theorem rvG_bd : ∀ (f : Nat) (s : ByteArray) (p : Nat), ∀ r ∈ (rvG f s p).1, ∀ x ∈ r.xs, x < 4294967296
  | 0, s, p => by rw [show rvG 0 s p = ([], p) from rfl]; intro r hr; cases hr
  | f + 1, s, p => by
    cases h : fstOk (s.extract p s.size) with
    | false => rw [rvG_no h]; intro r hr; cases hr
    | true =>
      have hv := fstC_bd h
      have ih := rvG_bd f s (p + (fstR (s.extract p s.size)).2)
      rw [rvG_yes h]
      generalize fstC (s.extract p s.size) = r0 at *
      generalize rvG f s (p + (fstR (s.extract p s.size)).2) = q at *
      obtain ⟨q1, q2⟩ := q
      dsimp only at ih ⊢
      intro r hr
      rcases List.mem_cons.1 hr with rfl | hr
      · exact hv
      · exact ih r hr
theorem rvL_bd (s : ByteArray) : ∀ r ∈ rvL s, Bd r.xs := by
  unfold rvL
  exact rvG_bd 8 s 0
theorem rvL_bdC {s : ByteArray} {us : List RcY} (h : us.map (·.2) = rvL s) : BdC us := fun j hj => rvL_bd s _ (by rw [← h]; exact List.mem_map.2 ⟨_, gD_mem hj, rfl⟩)
theorem totC_small : ∀ (ys : List RcY), (∀ y ∈ ys, rcN y.2 ≤ 300) → totC ys ≤ 300 * ys.length
  | [], _ => Nat.zero_le _
  | y :: ys, h => by
    have h1 := totC_small ys fun z hz => h z (List.mem_cons_of_mem _ hz)
    have h2 := h y List.mem_cons_self
    unfold totC at *
    simp only [List.map_cons, List.sum_cons, List.length_cons]
    omega
theorem GoodY.fits {ys : List RcY} (h : GoodY ys) : totC ys ≤ 300 * ys.length ∧ BdC ys := by
  refine ⟨totC_small ys fun y hy => ?_, fun j hj => (h _ (gD_mem hj)).1.2.2⟩
  have := recOk_name (h y hy).1.ok
  have := (h y hy).2.1
  unfold rcN
  omega
theorem GoodY.sr {ys : List RcY} (h : GoodY ys) (h8 : ys.length ≤ 8) : srOk (ys.map (·.2)) = true ∧ srS (ys.map (·.2)) = catR (ys.map (·.2)) := by
  have hk : srOk (ys.map (·.2)) = true := by
    unfold srOk
    rw [decide_eq_true (by simpa using h8), List.all_eq_true.2 fun r hr => ?_]
    · rfl
    · obtain ⟨y, hy, rfl⟩ := List.mem_map.1 hr
      exact (h y hy).1.1
  refine ⟨hk, ?_⟩
  unfold srS
  rw [hk]; rfl
theorem catR_len : ∀ (rs : List Rcd), (∀ r ∈ rs, GoodR r) → (catR rs).size ≤ 1000 * rs.length
  | [], _ => by rw [catR_nil]; exact Nat.le_refl _
  | r :: rs, h => by
    have h1 := catR_len rs fun z hz => h z (List.mem_cons_of_mem _ hz)
    have h2 := stR_size (h r List.mem_cons_self).1
    rw [catR_cons, ByteArray.size_append, List.length_cons]
    omega
/-! ### bytes -/
theorem nums_take {xs : List Int} (h : ∀ x ∈ xs, 0 ≤ x ∧ x < 256) {o : Nat} (ho : o ≤ xs.length) : strOfNums (xs.take o) = (strOfNums xs).extract 0 o := by
  have hl : (xs.take o).length = o := by rw [List.length_take]; omega
  refine ba_ext (by rw [strOfNums_size, extract_size (by rw [strOfNums_size]; exact ho), hl]; omega) fun i hi => ?_
  rw [strOfNums_size, hl] at hi
  rw [bt_extract (by rw [strOfNums_size]; exact ho) (by omega), Nat.zero_add]
  have e1 := bt_nums (xs := xs.take o) (fun x hx => h x (List.mem_of_mem_take hx)) (i := i) (by omega)
  have e2 := bt_nums h (i := i) (by omega)
  have e3 : (xs.take o).getD i 0 = xs.getD i 0 := by
    rw [List.getD_eq_getElem?_getD, List.getD_eq_getElem?_getD, List.getElem?_take_of_lt hi]
  rw [e3] at e1
  omega
theorem bent_rng {s : ByteArray} {c : Nat} {v : Int} (hv : 0 ≤ v ∧ v < 256) : ∀ x ∈ (bI s).set c v, 0 ≤ x ∧ x < 256 := fun x hx => by
  rcases List.mem_or_eq_of_mem_set hx with h | h
  · exact bI_rng s x h
  · omega
theorem bent_bt {s : ByteArray} {c : Nat} {v : Int} (hv : 0 ≤ v ∧ v < 256) {i : Nat} (hi : i < c) (hs : i < s.size) : bt (strOfNums ((bI s).set c v)) i = bt s i := by
  have e1 := bt_nums (bent_rng (s := s) (c := c) hv) (i := i) (by rw [List.length_set, bI_len]; exact hs)
  have e2 : ((bI s).set c v).getD i 0 = (bI s).getD i 0 := by
    rw [List.getD_eq_getElem?_getD, List.getD_eq_getElem?_getD, List.getElem?_set_ne (by omega)]
  rw [e2, bI_get hs] at e1
  omega
end Go.Proofs.Ytmplincflbhmiaa
namespace Go.Proofs.Ytmplincflbhmiaa.Cn
set_option linter.unusedSimpArgs false
set_option linter.unusedVariables false
open Go Go.RowKit
/-- a block with a mark -/
abbrev Rowk (b : Nat) (cs : List Value) (e : TypeId) (fz : Nat × Nat) : Res := .deep (fun k => k = b) (fun W => W.heap[b]? = some (.cells cs.toArray e fz) ∧ (Canl cs ∧ cs.all (·.oneCell') = true))
section
variable {P : Program} {N B : Nat} {E : Env} {A W : World} {ops : Array Oper} {K : Exit → Env → World → Prop} {T : Tab} {l l0 l' : List Res} {o : Oper}
variable {i : Nat} {rest q q' : List Nat} {d : Nat} {op : Op} {ty : TypeId} {pos : String} {aft : Array Edge} {g : Option (Nat × Bool)}
theorem rowk_rd {b : Nat} {cs ys zs : List Value} {e : TypeId} {fz : Nat × Nat} (h : (Rowk b cs e fz).ok W) (hc : cs = ys ++ zs) : RdV W b 0 ys := by
  obtain ⟨⟨h1, h2, h3⟩, -⟩ := h
  subst hc
  intro i hi
  have hm : ys.getD i undef ∈ ys ++ zs := by
    rw [List.getD_eq_getElem?_getD, List.getElem?_eq_getElem hi]
    exact List.mem_append_left _ (List.getElem_mem hi)
  refine ⟨ys.getD i undef, ?_, h2 _ hm, List.all_eq_true.1 h3 _ hm⟩
  rw [Nat.zero_add]
  simp only [World.cell?, h1]
  simp [List.getD_eq_getElem?_getD, List.getElem?_append_left hi, List.getElem?_eq_getElem hi]
theorem storeCells_one {w : World} {b off : Nat} {cur : Array Value} {e : TypeId} {fz : Nat × Nat} {v : Value} (hg : w.heap[b]? = some (.cells cur e fz)) (hf : off < fz.1) (hl : off < cur.size) (h1 : v.oneCell' = true) :
    (storeCells ⟨b, off, none⟩ [v] 0).run P w = .ok () (w.setRow b (splice cur off [v])) := by
  have hcell : w.cell? ⟨b, off, none⟩ = some cur[off] := by simp [World.cell?, hg, hl]
  have hfro : w.frozen? ⟨b, off, none⟩ = false := by
    obtain ⟨lo, hi'⟩ := fz
    simp only [World.frozen?, hg, Bool.and_eq_false_iff, decide_eq_false_iff_not]
    left
    simp only at hf
    omega
  have hadd : (⟨b, off, none⟩ : Addr).add 0 = ⟨b, off, none⟩ := by unfold Addr.add; split <;> simp_all
  have hst : (store ((⟨b, off, none⟩ : Addr).add 0) v).run P w = .ok () (w.setRow b (cur.setIfInBounds off v)) := by
    rw [hadd, run_store P w _ v _ h1, hcell]
    simp [hfro, setCell_eq_setRow w b off cur e fz v hg]
  have hs : cur.setIfInBounds off v = splice cur off [v] := by
    apply Array.toList_inj.1
    simp only [splice, Array.toList_setIfInBounds, List.set_eq_take_append_cons_drop, Array.length_toList, if_pos hl]
    simp
  rw [hs] at hst
  simp only [storeCells, Sem.run_bind, hst, Result.andThen_ok]
  rfl
theorem skips_storeK (hT : TabOk P T) {b off : Nat} {k : IntKind} {x : Int} {cur : Array Value} {e : TypeId} {fz : Nat × Nat}
    (hv : evSt T E o = some (b, off, 1, .int k x)) (hb : B ≤ b) (hc : W.heap[b]? = some (.cells cur e fz)) (hf : off < fz.1) (hl : off < cur.size) :
    ∀ a w, EnvR E N a → cw B w = W → B ≤ w.heap.size → ∃ w', (execOp a.eval o).run P w = .ok .skip w' ∧ B ≤ w'.heap.size ∧ cw B w' = W.setRow b (splice cur off [.int k x]) := by
  intro ac w ha hw hB
  unfold evSt at hv
  split at hv
  · rename_i t x1 y hop
    split at hv
    · rename_i d1 n1 b1 z1 ht
      obtain ⟨-, ii, hi, hs, -⟩ := hT _ _ ht
      simp only at hs
      split at hv
      · rename_i b' off' hx
        split at hv
        · rename_i v' hy
          cases hv
          have e1 := cv_pointer (ev_sound ha hx)
          have e2 := cv_int (ev_sound ha hy)
          obtain ⟨cur0, h2, h3⟩ := block_back hw hb hc
          have hcs : cur0.size = cur.size := by rw [← h3]; simp
          have hst := storeCells_one (P := P) (v := .int k x) h2 hf (by omega) rfl
          refine ⟨w.setRow b (splice cur0 off [.int k x]), ?_, by simp; omega, ?_⟩
          · simp only [execOp, hop, e1]
            simp [Instr.storeAt, Instr.sureAddr, storeVar, sizeOf, typeInfo, hi, hs, e2, Value.cells, hst]
          · rw [cw_setRow hb, map_splice, h3, hw]
            rfl
        · cases hv
      · cases hv
    · cases hv
  · cases hv
theorem kh_storeK (hT : TabOk P T) {b off n : Nat} {k : IntKind} {x : Int} {cs : List Value} {e : TypeId} {fz : Nat × Nat} (H : Hp B A W l) (hv : evSt T E o = some (b, off, n, .int k x)) (hn : Nat.beq 1 n = true)
    (hU : Upd l (Rowk b cs e fz) (Rowk b (cs.set off (.int k x)) e fz) l') (hf : off < fz.1) (hl : off < cs.length) :
    ∃ W', (∀ a w, EnvR E N a → cw B w = W → B ≤ w.heap.size → ∃ w', (execOp a.eval o).run P w = .ok .skip w' ∧ B ≤ w'.heap.size ∧ cw B w' = W') ∧ Hp B A W' l' := by
  have := Nat.eq_of_beq_eq_true hn
  subst this
  have hm := hU.mem
  obtain ⟨⟨h1, h2, h3⟩, hloc⟩ := H.ok _ hm
  have hown := H.own _ hm b rfl
  refine ⟨_, skips_storeK (N := N) hT hv (Nat.le_trans H.hB hown.1) h1 hf (by simpa using hl), ?_⟩
  have hs : splice cs.toArray off [.int k x] = (cs.set off (.int k x)).toArray := by
    simp only [splice, List.set_eq_take_append_cons_drop, if_pos hl]
    simp
  rw [hs]
  refine H.upd hU (by simp [World.setRow]) rfl rfl rfl (fun k _ hk => setRow_other _ _ _ _ hk) ⟨⟨setRow_heap _ _ _ _ _ _ h1, ?_, ?_⟩, fun W W' ha h => ⟨by rw [ha b rfl]; exact h.1, h.2⟩⟩ (fun k hk => .inl hk)
  · intro y hy
    rcases List.mem_or_eq_of_mem_set hy with h | h
    · exact h2 y h
    · rw [h]; rfl
  · rw [List.all_eq_true] at h3 ⊢
    intro y hy
    rcases List.mem_or_eq_of_mem_set hy with h | h
    · exact h3 y h
    · rw [h]; rfl
theorem th_storeK (hT : TabOk P T) {b off n : Nat} {k : IntKind} {x : Int} {cs : List Value} {e : TypeId} {fz : Nat × Nat} (H : Hp B A W l) (q' : List Nat) (ht : takenO ops.size i q q' = true) (ho : getL ops.toList i = some ⟨none, op, ty, pos, aft, g⟩) (hg : guardE ops ⟨none, op, ty, pos, aft, g⟩ E = some true) (hv : evSt T E ⟨none, op, ty, pos, aft, g⟩ = some (b, off, n, .int k x)) (hn : Nat.beq 1 n = true)
    (hU : Upd l (Rowk b cs e fz) (Rowk b (cs.set off (.int k x)) e fz) l') (hf : off < fz.1) (hl : off < cs.length)
    (hs : l0.Sublist l') (hk : ∀ W', Hp B A W' l' → SO P N B ops (DH B A l0) K q' E W') : TurnO P N B ops (DH B A l0) K q E W i := by
  obtain ⟨W1, h7, h8⟩ := kh_storeK (E := E) (N := N) hT H hv hn hU hf hl
  refine ⟨q', ht, _, getL_ok ho, rfl, _, srun_skips hg h7, ?_⟩
  rintro v' W' ⟨-, rfl⟩
  exact ⟨h8.sub hs, hk _ h8⟩
theorem bytes_list (w : World) (e : TypeId) (s : ByteArray) : (Go.Lib.bytesCells w e s).toList = u8s (bI s) ++ List.replicate (grownCap w s.size 0 e - s.size) (.int .u8 0) := by
  unfold Go.Lib.bytesCells
  rw [Array.toList_append, Array.toList_map, Array.toList_replicate]
  congr 1
  refine List.ext_getElem (by simp [bI_len]) fun i h1 h2 => ?_
  have hi : i < s.size := by simpa using h1
  simp only [List.getElem_map]
  obtain ⟨h3, e3⟩ := bt_data hi
  have e4 := bL_get hi
  have : (bI s)[i]'(by rw [bI_len]; exact hi) = (bt s i : Int) := by
    unfold bI
    simp only [List.getElem_map, e4]
  rw [this, e3]
theorem map_cl_bytes (w : World) (e : TypeId) (s : ByteArray) : (Go.Lib.bytesCells w e s).map cl = Go.Lib.bytesCells w e s := by
  apply Array.toList_inj.1
  rw [Array.toList_map, bytes_list, List.map_append, List.map_replicate, List.map_map]
  congr 1
theorem yields_strK (hT : TabOk P T) {e : TypeId} {s : ByteArray} (H : Hp B A W l) (hv : evSb T E o = some (e, s)) :
    Go.Proofs.Ytmplincflbhmiaa.Cn.Yields P N B o E W (fun v' W' => ∃ b c m, s.size ≤ c ∧ v' = .slice (some ⟨b, 0, none⟩) s.size c ∧ Hp B A W' (Rowk b (u8s (bI s) ++ List.replicate m (.int .u8 0)) e (s.size + m, s.size + m + 1) :: l)) := by
  intro a w ha hw hB
  unfold evSb at hv
  split at hv
  · rename_i src dst x hop
    split at hv
    · rename_i s1 b1 z1 ht1
      split at hv
      · rename_i e' s2 b2 z2 ht2
        split at hv
        · rename_i s3 b3 z3 ht3
          split at hv
          · rename_i s0 hx
            cases hv
            have e1 := cv_string (ev_sound ha hx)
            have hs := (hT _ _ ht1).1
            have hd := (hT _ _ ht2).1
            have he := (hT _ _ ht3).1
            have hrun := Go.Lib.run_convert_string_bytes w src dst e s hs hd he
            have hsz := Go.Lib.bytesWorld_size w e s
            have hW : W.heap.size = w.heap.size := by rw [← hw, cw_size]
            refine ⟨.slice (some ⟨w.heap.size, 0, none⟩) s.size (grownCap w s.size 0 e), Go.Lib.bytesWorld w e s, ?_, by rw [hsz]; omega, ?_⟩
            · simp only [execOp, hop, e1]
              exact run_v hrun
            · refine ⟨w.heap.size, grownCap w s.size 0 e, grownCap w s.size 0 e - s.size, grownCap_ge .., rfl, ?_⟩
              have hbl : (Go.Lib.bytesCells w e s).size = s.size + (grownCap w s.size 0 e - s.size) := by
                rw [← Array.length_toList, bytes_list, List.length_append, List.length_map, bI_len, List.length_replicate]
              refine H.add ?_ ⟨⟨?_, ?_, ?_⟩, fun W W' ha h => ⟨by rw [ha _ rfl]; exact h.1, h.2⟩⟩ ?_
              · rw [hW]
                subst hw
                refine ⟨rfl, rfl, rfl, by rw [cw_size, cw_size, hsz]; omega, fun k hk => ?_⟩
                rw [cw_heap, cw_heap, Go.Lib.bytesWorld_at_old w e s k hk]
              · rw [cw_heap, Go.Lib.bytesWorld_at_new w e s]
                simp only [Option.map_some, show ¬ w.heap.size < B by omega, if_false, co, map_cl_bytes, hbl]
                congr 2
                apply Array.toList_inj.1
                rw [bytes_list]
              · intro y hy
                rcases List.mem_append.1 hy with h | h
                · obtain ⟨z, -, rfl⟩ := List.mem_map.1 h
                  rfl
                · rw [List.eq_of_mem_replicate h]; rfl
              · rw [List.all_eq_true]
                intro y hy
                rcases List.mem_append.1 hy with h | h
                · obtain ⟨z, -, rfl⟩ := List.mem_map.1 h
                  rfl
                · rw [List.eq_of_mem_replicate h]; rfl
              · intro b hb
                have hb' : b = w.heap.size := hb
                subst hb'
                rw [cw_size, hsz, hW]
                omega
          · cases hv
        · cases hv
      · cases hv
    · cases hv
  · cases hv
theorem s_strK (hT : TabOk P T) {e : TypeId} {s : ByteArray} (H : Hp B A W l) (ho : getL ops.toList i = some ⟨some d, op, ty, pos, aft, g⟩) (hg : guardE ops ⟨some d, op, ty, pos, aft, g⟩ E = some true) (hd : Nat.ble (d + 1) N = true)
    (hv : evSb T E ⟨some d, op, ty, pos, aft, g⟩ = some (e, s))
    (k : ∀ b c m W', s.size ≤ c → Hp B A W' (Rowk b (u8s (bI s) ++ List.replicate m (.int .u8 0)) e (s.size + m, s.size + m + 1) :: l) → AOps P N B ops rest K ((d, .slice (some ⟨b, 0, none⟩) s.size c) :: E) W') : AOps P N B ops (i :: rest) K E W :=
  s_yields ho hg hd (yields_strK hT H hv) fun v' W' h => by
    obtain ⟨b, c, m, h1, rfl, h2⟩ := h
    exact k b c m W' h1 h2
end
end Go.Proofs.Ytmplincflbhmiaa.Cn
namespace Go.Proofs.Ytmplincflbhmiaa
set_option linter.unusedSimpArgs false
set_option linter.unusedVariables false
open Go Cn Go.ChangeShapes Go.WideShapes Go.ChangeAt Go.RowKit
theorem trod_u8 {H : Type} {enc : TypeId × Value → H} {P : Program} {W : World} {b0 : Nat} {spare : TypeId → Bool} {held : Bool} {n : Nat} {t : TypeId} {v : Value} {x : DataW H × List MemPlace} (ht : P.underlying t = some (.int .u8)) (h : DataW.trod enc P W b0 spare held n t [v] = some x) : ∃ z, v = .int .u8 z ∧ 0 ≤ z ∧ z < 256 := by
  cases n with
  | zero => simp [DataW.trod] at h
  | succ n =>
    rw [DataW.trod_step] at h
    unfold DataW.trodStep at h
    rw [ht] at h
    cases v with
    | int k' z =>
      simp only [Option.ite_none_right_eq_some] at h
      have h1 := h.1.1
      have h2 := h.1.2
      subst h1
      refine ⟨z, rfl, ?_⟩
      simp [Lit.wf, IntKind.min, IntKind.max, IntKind.signed, IntKind.bits] at h2
      omega
    | _ => simp at h
theorem flat_oneB8 (ys : List Int) : ys.flatMap (fun z => [Value.int .u8 z]) = u8s ys := by
  induction ys with
  | nil => rfl
  | cons y ys ih => simp only [List.flatMap_cons, ih, List.map_cons]; rfl
theorem open_u8s {H : Type} {enc : TypeId × Value → H} {W : World} {fuel : Nat} {v : Value} {x : DataW H × List MemPlace} (hv : ∃ a n c, v = .slice a n c) (h : DataW.trod enc Try.prog W 0 (fun _ => true) true fuel 38 v.cells.toList = some x) :
    ∃ xs, SlV (cw W.heap.size W) 1 v xs.length (u8s xs) ∧ xs.length ≤ 9223372036854775807 ∧ ∀ z ∈ xs, 0 ≤ z ∧ z < 256 := by
  have w1 : Try.prog.cellsOf 5 = 1 := by kernel_rfl
  obtain ⟨ys, h1, h2, h3⟩ := open_slV (P := Try.prog) (k := 1) (α := Int) (by decide) w1 Try.underlying38 (fun z => [.int .u8 z]) (fun _ => rfl) (fun z => 0 ≤ z ∧ z < 256) (fun n cs d hcs hd => by
    match cs, hcs with
    | [c], _ =>
      obtain ⟨z, rfl, hz⟩ := trod_u8 Try.underlying5 hd
      exact ⟨z, rfl, by simp [Value.oneCell'], hz⟩) hv h
  rw [flat_oneB8] at h1
  exact ⟨ys, h1, h2, h3⟩
end Go.Proofs.Ytmplincflbhmiaa
namespace Go.Proofs.Ytmplincflbhmiaa
set_option linter.unusedSimpArgs false
set_option linter.unusedVariables false
open Go Cn Go.RowKit
section
variable {P : Program} {N B : Nat} {E : Env} {W : World} {ops : Array Oper} {K : Exit → Env → World → Prop} {T : Tab} {o : Oper} {i : Nat} {rest : List Nat} {d : Nat} {op : Op} {ty : TypeId} {pos : String} {aft : Array Edge} {g : Option (Nat × Bool)}
theorem gives_bytesStrR (hT : TabOk P T) {b off n c : Nat} {xs : List Int} (hv : evBc T E o = some (.slice (some ⟨b, off, none⟩) n c)) (hn : xs.length = n) (hr : RdV W b off (u8s xs)) : Gives P N B o E W (.string (strOfNums xs)) W := by
  refine gives_of fun a w ha hw hB => ?_
  unfold evBc at hv
  split at hv
  · rename_i src dst x hop
    split at hv
    · rename_i e' s1 b1 z1 ht1
      split at hv
      · rename_i s2 b2 z2 ht2
        split at hv
        · rename_i s3 b3 z3 ht3
          split at hv
          · rename_i ad n' c' hx
            cases hv
            have e1 := cv_slice (ev_sound ha hx)
            have hs := (hT _ _ ht1).1
            have he := (hT _ _ ht2).1
            have hd := (hT _ _ ht3).1
            refine ⟨.string (strOfNums xs), w, ?_, rfl, rfl⟩
            simp only [execOp, hop, e1]
            refine run_v ?_
            refine run_convert_bytes_arg w src _ hs he b off n c xs hn (fun i hi => ?_) dst hd
            obtain ⟨u, h1, h2, -⟩ := hr i (by rw [List.length_map]; omega)
            obtain ⟨y, h3, h4⟩ := cell_back hw h1
            rw [h3]
            have h5 : (u8s xs).getD i undef = .int .u8 (xs.getD i 0) := by
              simp [u8s, List.getD_eq_getElem?_getD, show i < xs.length by omega]
            rw [h5] at h2
            have h6 : cl y = .int .u8 (xs.getD i 0) := by rw [← h2, ← h4]
            cases y <;> simp_all [cl]
          · cases hv
        · cases hv
      · cases hv
    · cases hv
  · cases hv
theorem s_bytesStrR (hT : TabOk P T) {b off n c : Nat} {xs : List Int} (ho : getL ops.toList i = some ⟨some d, op, ty, pos, aft, g⟩) (hg : guardE ops ⟨some d, op, ty, pos, aft, g⟩ E = some true) (hd : Nat.ble (d + 1) N = true)
    (hv : evBc T E ⟨some d, op, ty, pos, aft, g⟩ = some (.slice (some ⟨b, off, none⟩) n c)) (hn : xs.length = n) (hr : RdV W b off (u8s xs)) (k : AOps P N B ops rest K ((d, .string (strOfNums xs)) :: E) W) : AOps P N B ops (i :: rest) K E W :=
  s_givesv ho hg hd (gives_bytesStrR hT hv hn hr) k
end
end Go.Proofs.Ytmplincflbhmiaa
