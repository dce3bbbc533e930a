/- A record's bytes, the model's way. -/
import Derived.Test.YtmplincflbhmiaaXUb
import Derived.Test.YtmplincflbhmiaaAo
import Derived.Test.YtmplincflbhmiaaXCt
import Derived.Test.YtmplincflbhmiaaXFn
import Derived.Lib.ConvBytes
namespace Go.Proofs.Ytmplincflbhmiaa
set_option linter.unusedSimpArgs false
set_option linter.unusedVariables false
open Go Cn Go.RowKit
/-- the least byte first -/
def leL (n : Int) : Nat → List Int
  | 0 => []
  | k + 1 => leL n k ++ [n / 256 ^ k % 256]
theorem leL_zero (n : Int) : leL n 0 = [] := rfl
theorem leL_succ (n : Int) (k : Nat) : leL n (k + 1) = leL n k ++ [n / 256 ^ k % 256] := rfl
theorem leL_len (n : Int) : ∀ k, (leL n k).length = k
  | 0 => rfl
  | k + 1 => by rw [leL_succ, List.length_append, leL_len n k]; rfl
attribute [irreducible] leL
section
variable {B : Nat} {A W W' : World} {L : List Res}
theorem c_impl_little {n : Int} {k : Nat} (hn : 0 ≤ n) (hn2 : n < 9223372036854775807) (hk : k ≤ 4) (hB : B ≤ W.heap.size) : ACalls Try.prog B 96 [.int .i64 n, .int .i64 k] W (fun r W' => OwnV W' W.heap.size 5 r (u8s (leL n k)) ∧ Below W.heap.size W W') := by
  refine acalls_of Try.func96 rfl Try.ntmps96 (Nat.le_of_ble_eq_true rfl) ?_
  repeat' (first
      | refine s_pure tabOk rfl rfl rfl rfl ?_
      | refine aops_nil ?_
      | refine thn_normal ?_
      | refine aw_seq ?_
      | refine aw_reg ?_
      | refine s_pass rfl rfl rfl ?_
      | refine s_len tabOk rfl rfl rfl rfl ?_
      | refine aw_true rfl ?_
      | refine aw_false rfl ?_
      | refine aw_block ?_
      | refine aw_skip ?_
      | refine aw_exit ?_
      | refine blk_exit ?_
      | refine blk_exit_other rfl ?_
      | refine blk_normal ?_
      | refine thn_exit ?_
      | refine thn_ret ?_
      | refine blk_ret ?_
      | refine rnd_ret ?_
      | refine rnd_exit ?_
      | refine aw_ret ?_
      | refine s_arith tabOk rfl rfl rfl rfl (by simp only [InR]; omega) ?_
      | ((fail_if_success refine s_told rfl rfl ?_); refine s_part rfl rfl rfl ?_ ?_ <;> intro hc <;> (first | replace hc := of_decide_eq_true hc | replace hc := of_decide_eq_false hc | replace hc := eq_of_beq hc | skip))
      | (refine aw_if rfl ?_ ?_ <;> intro hc <;> (first | replace hc := of_decide_eq_true hc | replace hc := of_decide_eq_false hc | replace hc := eq_of_beq hc | skip))
      | refine s_index1 tabOk rfl rfl rfl rfl (by omega) (by omega) ?_)
  refine s_buildSlice tabOk rfl rfl rfl rfl rfl (by simp) (by decide) (by decide) (by decide) ?_
  repeat' (first
      | refine s_pure tabOk rfl rfl rfl rfl ?_
      | refine aops_nil ?_
      | refine thn_normal ?_
      | refine aw_seq ?_
      | refine aw_reg ?_
      | refine s_pass rfl rfl rfl ?_
      | refine s_len tabOk rfl rfl rfl rfl ?_
      | refine aw_true rfl ?_
      | refine aw_false rfl ?_
      | refine aw_block ?_
      | refine aw_skip ?_
      | refine aw_exit ?_
      | refine blk_exit ?_
      | refine blk_exit_other rfl ?_
      | refine blk_normal ?_
      | refine thn_exit ?_
      | refine thn_ret ?_
      | refine blk_ret ?_
      | refine rnd_ret ?_
      | refine rnd_exit ?_
      | refine aw_ret ?_
      | refine s_arith tabOk rfl rfl rfl rfl (by simp only [InR]; omega) ?_
      | ((fail_if_success refine s_told rfl rfl ?_); refine s_part rfl rfl rfl ?_ ?_ <;> intro hc <;> (first | replace hc := of_decide_eq_true hc | replace hc := of_decide_eq_false hc | replace hc := eq_of_beq hc | skip))
      | (refine aw_if rfl ?_ ?_ <;> intro hc <;> (first | replace hc := of_decide_eq_true hc | replace hc := of_decide_eq_false hc | replace hc := eq_of_beq hc | skip))
      | refine s_index1 tabOk rfl rfl rfl rfl (by omega) (by omega) ?_)
  refine aw_loop (fun x : Nat × Value × World => [(8, .int .i64 x.1), (7, .int .i64 k), (5, x.2.1), (0, .int .i64 (n / 256 ^ x.1))]) (fun x => x.2.2) (fun x => x.1 ≤ k ∧ OwnV x.2.2 W.heap.size 5 x.2.1 (u8s (leL n x.1)) ∧ Below W.heap.size W x.2.2) (fun x => k - x.1)
    (0, .slice (some ⟨W.heap.size, 0, none⟩) 0 0, W.alloc (.cells #[] 5)) ⟨by omega, by rw [leL_zero]; exact OwnV.new (Nat.le_refl _), (Below.refl _ _).alloc (Nat.le_refl _) _⟩ (by dsimp only; rw [Int.pow_zero, Int.ediv_one]; exact (by repeat (first | exact less_nil | refine less_cons rfl ?_))) rfl ?_
  rintro ⟨i, u, W1⟩ ⟨hi, hu, hW⟩
  dsimp only at hi hu hW ⊢
  have hlen := leL_len n i
  have hd0 : 0 ≤ n / 256 ^ i := Int.ediv_nonneg hn (Int.pow_nonneg (by decide))
  have hd1 : n / 256 ^ i ≤ n := Int.ediv_le_self _ hn
  obtain ⟨ua, uc, rfl⟩ := hu.form
  repeat' (first
      | refine s_pure tabOk rfl rfl rfl rfl ?_
      | refine aops_nil ?_
      | refine thn_normal ?_
      | refine aw_seq ?_
      | refine aw_reg ?_
      | refine s_pass rfl rfl rfl ?_
      | refine s_len tabOk rfl rfl rfl rfl ?_
      | refine aw_true rfl ?_
      | refine aw_false rfl ?_
      | refine aw_block ?_
      | refine aw_skip ?_
      | refine aw_exit ?_
      | refine blk_exit ?_
      | refine blk_exit_other rfl ?_
      | refine blk_normal ?_
      | refine thn_exit ?_
      | refine thn_ret ?_
      | refine blk_ret ?_
      | refine rnd_ret ?_
      | refine rnd_exit ?_
      | refine aw_ret ?_
      | refine s_arith tabOk rfl rfl rfl rfl (by simp only [InR]; omega) ?_
      | ((fail_if_success refine s_told rfl rfl ?_); refine s_part rfl rfl rfl ?_ ?_ <;> intro hc <;> (first | replace hc := of_decide_eq_true hc | replace hc := of_decide_eq_false hc | replace hc := eq_of_beq hc | skip))
      | (refine aw_if rfl ?_ ?_ <;> intro hc <;> (first | replace hc := of_decide_eq_true hc | replace hc := of_decide_eq_false hc | replace hc := eq_of_beq hc | skip))
      | refine s_index1 tabOk rfl rfl rfl rfl (by omega) (by omega) ?_)
  · refine s_wrap tabOk rfl rfl rfl rfl ?_
    rw [wrap_u8]
    repeat' (first
      | refine s_pure tabOk rfl rfl rfl rfl ?_
      | refine aops_nil ?_
      | refine thn_normal ?_
      | refine aw_seq ?_
      | refine aw_reg ?_
      | refine s_pass rfl rfl rfl ?_
      | refine s_len tabOk rfl rfl rfl rfl ?_
      | refine aw_true rfl ?_
      | refine aw_false rfl ?_
      | refine aw_block ?_
      | refine aw_skip ?_
      | refine aw_exit ?_
      | refine blk_exit ?_
      | refine blk_exit_other rfl ?_
      | refine blk_normal ?_
      | refine thn_exit ?_
      | refine thn_ret ?_
      | refine blk_ret ?_
      | refine rnd_ret ?_
      | refine rnd_exit ?_
      | refine aw_ret ?_
      | refine s_arith tabOk rfl rfl rfl rfl (by simp only [InR]; omega) ?_
      | ((fail_if_success refine s_told rfl rfl ?_); refine s_part rfl rfl rfl ?_ ?_ <;> intro hc <;> (first | replace hc := of_decide_eq_true hc | replace hc := of_decide_eq_false hc | replace hc := eq_of_beq hc | skip))
      | (refine aw_if rfl ?_ ?_ <;> intro hc <;> (first | replace hc := of_decide_eq_true hc | replace hc := of_decide_eq_false hc | replace hc := eq_of_beq hc | skip))
      | refine s_index1 tabOk rfl rfl rfl rfl (by omega) (by omega) ?_)
    refine s_buildSlice tabOk rfl rfl rfl rfl rfl (by simp [Value.cells]) (by decide) (by decide) (by simp) ?_
    refine s_push tabOk rfl rfl rfl rfl rfl rfl rfl rfl rfl rfl hu hB hW.size (by simp; omega) ?_
    intro u' W2 ho hg
    rw [u8s_push, ← leL_succ] at ho
    obtain ⟨va, vc, rfl⟩ := ho.form
    repeat' (first
      | refine s_pure tabOk rfl rfl rfl rfl ?_
      | refine aops_nil ?_
      | refine thn_normal ?_
      | refine aw_seq ?_
      | refine aw_reg ?_
      | refine s_pass rfl rfl rfl ?_
      | refine s_len tabOk rfl rfl rfl rfl ?_
      | refine aw_true rfl ?_
      | refine aw_false rfl ?_
      | refine aw_block ?_
      | refine aw_skip ?_
      | refine aw_exit ?_
      | refine blk_exit ?_
      | refine blk_exit_other rfl ?_
      | refine blk_normal ?_
      | refine thn_exit ?_
      | refine thn_ret ?_
      | refine blk_ret ?_
      | refine rnd_ret ?_
      | refine rnd_exit ?_
      | refine aw_ret ?_
      | refine s_arith tabOk rfl rfl rfl rfl (by simp only [InR]; omega) ?_
      | ((fail_if_success refine s_told rfl rfl ?_); refine s_part rfl rfl rfl ?_ ?_ <;> intro hc <;> (first | replace hc := of_decide_eq_true hc | replace hc := of_decide_eq_false hc | replace hc := eq_of_beq hc | skip))
      | (refine aw_if rfl ?_ ?_ <;> intro hc <;> (first | replace hc := of_decide_eq_true hc | replace hc := of_decide_eq_false hc | replace hc := eq_of_beq hc | skip))
      | refine s_index1 tabOk rfl rfl rfl rfl (by omega) (by omega) ?_)
    refine s_shr rfl rfl rfl rfl (by decide) (by decide) ?_
    repeat' (first
      | refine s_pure tabOk rfl rfl rfl rfl ?_
      | refine aops_nil ?_
      | refine thn_normal ?_
      | refine aw_seq ?_
      | refine aw_reg ?_
      | refine s_pass rfl rfl rfl ?_
      | refine s_len tabOk rfl rfl rfl rfl ?_
      | refine aw_true rfl ?_
      | refine aw_false rfl ?_
      | refine aw_block ?_
      | refine aw_skip ?_
      | refine aw_exit ?_
      | refine blk_exit ?_
      | refine blk_exit_other rfl ?_
      | refine blk_normal ?_
      | refine thn_exit ?_
      | refine thn_ret ?_
      | refine blk_ret ?_
      | refine rnd_ret ?_
      | refine rnd_exit ?_
      | refine aw_ret ?_
      | refine s_arith tabOk rfl rfl rfl rfl (by simp only [InR]; omega) ?_
      | ((fail_if_success refine s_told rfl rfl ?_); refine s_part rfl rfl rfl ?_ ?_ <;> intro hc <;> (first | replace hc := of_decide_eq_true hc | replace hc := of_decide_eq_false hc | replace hc := eq_of_beq hc | skip))
      | (refine aw_if rfl ?_ ?_ <;> intro hc <;> (first | replace hc := of_decide_eq_true hc | replace hc := of_decide_eq_false hc | replace hc := eq_of_beq hc | skip))
      | refine s_index1 tabOk rfl rfl rfl rfl (by omega) (by omega) ?_)
    refine rnd_next (i + 1, _, W2) ⟨by dsimp only; omega, ho, hW.trans hg⟩ (by dsimp only; omega) ?_ rfl
    dsimp only
    rw [Int.pow_succ, Int.ediv_ediv_of_nonneg (Int.pow_nonneg (by decide))]
    exact (by repeat (first | exact less_nil | refine less_cons rfl ?_))
  · have hil : i = k := by omega
    subst hil
    exact retK_ret tabOk (congrArg Array.toList Try.results96) (rv_tmp rfl rfl rv_nil) ⟨hu, hW⟩
end
end Go.Proofs.Ytmplincflbhmiaa
namespace Go.Proofs.Ytmplincflbhmiaa
set_option linter.unusedSimpArgs false
set_option linter.unusedVariables false
open Go Cn Go.RowKit
def catL (yss : List (List Int)) (i : Nat) : List Int := (yss.take i).flatten
theorem catL_zero (yss : List (List Int)) : catL yss 0 = [] := rfl
theorem catL_succ {yss : List (List Int)} {i : Nat} (h : i < yss.length) : catL yss (i + 1) = catL yss i ++ yss.getD i [] := by
  unfold catL
  rw [List.take_succ_eq_append_getElem h, List.flatten_append]
  simp [List.getD_eq_getElem?_getD, h]
theorem catL_le (yss : List (List Int)) : ∀ i, i ≤ yss.length → (catL yss i).length ≤ yss.flatten.length := by
  intro i _
  unfold catL
  conv => rhs; rw [← List.take_append_drop i yss, List.flatten_append, List.length_append]
  omega
theorem catL_all (yss : List (List Int)) : catL yss yss.length = yss.flatten := by unfold catL; rw [List.take_length]
attribute [irreducible] catL
/-- parts to be read -/
def Parts (W : World) (ps : List (Option Addr × Nat × Nat)) (yss : List (List Int)) : Prop :=
  ps.length = yss.length ∧ ∀ i, i < yss.length → (ps.getD i sv0).2.1 = (yss.getD i []).length ∧ SlV W 1 (slV (ps.getD i sv0)) (yss.getD i []).length (u8s (yss.getD i []))
section
variable {B : Nat} {A W W' : World} {L : List Res}
theorem c_GrowB (hB : B ≤ W.heap.size) {n : Int} (h0 : 0 < n) (h1 : n ≤ 1048576) :
    ACalls Try.prog B 119 [.slice none 0 0, .int .i64 n] W (fun r W' => ∃ b c, r = .slice (some ⟨b, 0, none⟩) 0 c ∧ Hp B W W' [.row 5 1 (.slice (some ⟨b, 0, none⟩) 0 c) 0 []]) := by
  have H0 : Hp B W W [] := Hp.new hB
  refine acalls_of Try.func119 rfl Try.ntmps119 (Nat.le_of_ble_eq_true rfl) ?_
  repeat' (first | refine s_pure tabOk rfl rfl rfl rfl ?_ | refine Stp.imp ?_ | refine aops_nil ?_ | refine aw_reg ?_ | refine aw_seq ?_ | refine s_pass rfl rfl rfl ?_ | refine s_len tabOk rfl rfl rfl rfl ?_ | refine aw_true rfl ?_ | refine aw_false rfl ?_ | refine blk_exit_other rfl ?_ | refine s_arith tabOk rfl rfl rfl rfl (by simp only [InR]; omega) ?_ | ((first | ((fail_if_success refine s_told rfl rfl ?_); refine s_part rfl rfl rfl ?_ ?_) | refine aw_if rfl ?_ ?_) <;> intro hc <;> (first | replace hc := DecT.imp hc | simp only [decs] at hc | skip)) | refine s_index1n tabOk rfl rfl rfl rfl (by omega) ?_ | refine s_indexn tabOk rfl rfl rfl rfl (by omega) ?_ | refine s_index1 tabOk rfl rfl rfl rfl (by omega) (by omega) ?_ | refine sh_load tabOk (by assumption) rfl rfl rfl rfl (by repeat (first | exact List.Mem.head _ | apply List.Mem.tail)) (by rfl) (by rfl) ?_ | refine sh_loada tabOk (by assumption) rfl rfl rfl rfl (by repeat (first | exact List.Mem.head _ | apply List.Mem.tail)) (by rfl) ?_ | (refine sh_box (by assumption) rfl rfl rfl rfl rfl rfl ?_; intro _ _ _) | (refine sh_alloc tabOk (by assumption) rfl rfl rfl rfl rfl rfl ?_; intro _ _ _) | (refine sh_store tabOk (by assumption) rfl rfl rfl rfl rfl rfl (by repeat (first | exact Upd.here | apply Upd.there)) (by rfl) ?_; intro _ _) | (refine sh_lit tabOk (by assumption) rfl rfl rfl rfl rfl rfl rfl rfl rfl rfl rfl ?_; intro _ _ _) | refine sh_build tabOk rfl rfl rfl rfl rfl rfl ?_)
  all_goals try (exfalso; omega)
  refine s_cap tabOk rfl rfl rfl rfl ?_
  repeat' (first | refine s_pure tabOk rfl rfl rfl rfl ?_ | refine Stp.imp ?_ | refine aops_nil ?_ | refine aw_reg ?_ | refine aw_seq ?_ | refine s_pass rfl rfl rfl ?_ | refine s_len tabOk rfl rfl rfl rfl ?_ | refine aw_true rfl ?_ | refine aw_false rfl ?_ | refine blk_exit_other rfl ?_ | refine s_arith tabOk rfl rfl rfl rfl (by simp only [InR]; omega) ?_ | ((first | ((fail_if_success refine s_told rfl rfl ?_); refine s_part rfl rfl rfl ?_ ?_) | refine aw_if rfl ?_ ?_) <;> intro hc <;> (first | replace hc := DecT.imp hc | simp only [decs] at hc | skip)) | refine s_index1n tabOk rfl rfl rfl rfl (by omega) ?_ | refine s_indexn tabOk rfl rfl rfl rfl (by omega) ?_ | refine s_index1 tabOk rfl rfl rfl rfl (by omega) (by omega) ?_ | refine sh_load tabOk (by assumption) rfl rfl rfl rfl (by repeat (first | exact List.Mem.head _ | apply List.Mem.tail)) (by rfl) (by rfl) ?_ | refine sh_loada tabOk (by assumption) rfl rfl rfl rfl (by repeat (first | exact List.Mem.head _ | apply List.Mem.tail)) (by rfl) ?_ | (refine sh_box (by assumption) rfl rfl rfl rfl rfl rfl ?_; intro _ _ _) | (refine sh_alloc tabOk (by assumption) rfl rfl rfl rfl rfl rfl ?_; intro _ _ _) | (refine sh_store tabOk (by assumption) rfl rfl rfl rfl rfl rfl (by repeat (first | exact Upd.here | apply Upd.there)) (by rfl) ?_; intro _ _) | (refine sh_lit tabOk (by assumption) rfl rfl rfl rfl rfl rfl rfl rfl rfl rfl rfl ?_; intro _ _ _) | refine sh_build tabOk rfl rfl rfl rfl rfl rfl ?_)
  all_goals try (exfalso; omega)
  refine s_cap tabOk rfl rfl rfl rfl ?_
  refine s_cut tabOk rfl rfl rfl rfl (by omega) (by omega) (by omega) (by omega) ?_
  repeat' (first | refine s_pure tabOk rfl rfl rfl rfl ?_ | refine Stp.imp ?_ | refine aops_nil ?_ | refine aw_reg ?_ | refine aw_seq ?_ | refine s_pass rfl rfl rfl ?_ | refine s_len tabOk rfl rfl rfl rfl ?_ | refine aw_true rfl ?_ | refine aw_false rfl ?_ | refine blk_exit_other rfl ?_ | refine s_arith tabOk rfl rfl rfl rfl (by simp only [InR]; omega) ?_ | ((first | ((fail_if_success refine s_told rfl rfl ?_); refine s_part rfl rfl rfl ?_ ?_) | refine aw_if rfl ?_ ?_) <;> intro hc <;> (first | replace hc := DecT.imp hc | simp only [decs] at hc | skip)) | refine s_index1n tabOk rfl rfl rfl rfl (by omega) ?_ | refine s_indexn tabOk rfl rfl rfl rfl (by omega) ?_ | refine s_index1 tabOk rfl rfl rfl rfl (by omega) (by omega) ?_ | refine sh_load tabOk (by assumption) rfl rfl rfl rfl (by repeat (first | exact List.Mem.head _ | apply List.Mem.tail)) (by rfl) (by rfl) ?_ | refine sh_loada tabOk (by assumption) rfl rfl rfl rfl (by repeat (first | exact List.Mem.head _ | apply List.Mem.tail)) (by rfl) ?_ | (refine sh_box (by assumption) rfl rfl rfl rfl rfl rfl ?_; intro _ _ _) | (refine sh_alloc tabOk (by assumption) rfl rfl rfl rfl rfl rfl ?_; intro _ _ _) | (refine sh_store tabOk (by assumption) rfl rfl rfl rfl rfl rfl (by repeat (first | exact Upd.here | apply Upd.there)) (by rfl) ?_; intro _ _) | (refine sh_lit tabOk (by assumption) rfl rfl rfl rfl rfl rfl rfl rfl rfl rfl rfl ?_; intro _ _ _) | refine sh_build tabOk rfl rfl rfl rfl rfl rfl ?_)
  refine sh_growNil tabOk H0 rfl rfl rfl rfl rfl rfl rfl rfl (by omega) (by omega) ?_
  intro b c W1 hc1 H1
  repeat' (first | refine s_pure tabOk rfl rfl rfl rfl ?_ | refine Stp.imp ?_ | refine aops_nil ?_ | refine aw_reg ?_ | refine aw_seq ?_ | refine s_pass rfl rfl rfl ?_ | refine s_len tabOk rfl rfl rfl rfl ?_ | refine aw_true rfl ?_ | refine aw_false rfl ?_ | refine blk_exit_other rfl ?_ | refine s_arith tabOk rfl rfl rfl rfl (by simp only [InR]; omega) ?_ | ((first | ((fail_if_success refine s_told rfl rfl ?_); refine s_part rfl rfl rfl ?_ ?_) | refine aw_if rfl ?_ ?_) <;> intro hc <;> (first | replace hc := DecT.imp hc | simp only [decs] at hc | skip)) | refine s_index1n tabOk rfl rfl rfl rfl (by omega) ?_ | refine s_indexn tabOk rfl rfl rfl rfl (by omega) ?_ | refine s_index1 tabOk rfl rfl rfl rfl (by omega) (by omega) ?_ | refine sh_load tabOk (by assumption) rfl rfl rfl rfl (by repeat (first | exact List.Mem.head _ | apply List.Mem.tail)) (by rfl) (by rfl) ?_ | refine sh_loada tabOk (by assumption) rfl rfl rfl rfl (by repeat (first | exact List.Mem.head _ | apply List.Mem.tail)) (by rfl) ?_ | (refine sh_box (by assumption) rfl rfl rfl rfl rfl rfl ?_; intro _ _ _) | (refine sh_alloc tabOk (by assumption) rfl rfl rfl rfl rfl rfl ?_; intro _ _ _) | (refine sh_store tabOk (by assumption) rfl rfl rfl rfl rfl rfl (by repeat (first | exact Upd.here | apply Upd.there)) (by rfl) ?_; intro _ _) | (refine sh_lit tabOk (by assumption) rfl rfl rfl rfl rfl rfl rfl rfl rfl rfl rfl ?_; intro _ _ _) | refine sh_build tabOk rfl rfl rfl rfl rfl rfl ?_)
  refine s_cut tabOk rfl rfl rfl rfl (by omega) (by omega) (by omega) (by omega) ?_
  rw [show (0 : Int).toNat = 0 from rfl, show ((0 : Nat) : Int).toNat = 0 from rfl, sliced_none]
  repeat' (first | refine s_pure tabOk rfl rfl rfl rfl ?_ | refine Stp.imp ?_ | refine aops_nil ?_ | refine aw_reg ?_ | refine aw_seq ?_ | refine s_pass rfl rfl rfl ?_ | refine s_len tabOk rfl rfl rfl rfl ?_ | refine aw_true rfl ?_ | refine aw_false rfl ?_ | refine blk_exit_other rfl ?_ | refine s_arith tabOk rfl rfl rfl rfl (by simp only [InR]; omega) ?_ | ((first | ((fail_if_success refine s_told rfl rfl ?_); refine s_part rfl rfl rfl ?_ ?_) | refine aw_if rfl ?_ ?_) <;> intro hc <;> (first | replace hc := DecT.imp hc | simp only [decs] at hc | skip)) | refine s_index1n tabOk rfl rfl rfl rfl (by omega) ?_ | refine s_indexn tabOk rfl rfl rfl rfl (by omega) ?_ | refine s_index1 tabOk rfl rfl rfl rfl (by omega) (by omega) ?_ | refine sh_load tabOk (by assumption) rfl rfl rfl rfl (by repeat (first | exact List.Mem.head _ | apply List.Mem.tail)) (by rfl) (by rfl) ?_ | refine sh_loada tabOk (by assumption) rfl rfl rfl rfl (by repeat (first | exact List.Mem.head _ | apply List.Mem.tail)) (by rfl) ?_ | (refine sh_box (by assumption) rfl rfl rfl rfl rfl rfl ?_; intro _ _ _) | (refine sh_alloc tabOk (by assumption) rfl rfl rfl rfl rfl rfl ?_; intro _ _ _) | (refine sh_store tabOk (by assumption) rfl rfl rfl rfl rfl rfl (by repeat (first | exact Upd.here | apply Upd.there)) (by rfl) ?_; intro _ _) | (refine sh_lit tabOk (by assumption) rfl rfl rfl rfl rfl rfl rfl rfl rfl rfl rfl ?_; intro _ _ _) | refine sh_build tabOk rfl rfl rfl rfl rfl rfl ?_)
  refine retK_ret tabOk (congrArg Array.toList Try.results119) (by repeat (first | exact rv_nil | apply rv_tmp rfl rfl | apply rv_cellH (by assumption) rfl rfl rfl (by repeat (first | exact List.Mem.head _ | apply List.Mem.tail)) rfl)) ?_
  exact ⟨b, c, rfl, H1⟩
theorem c_ConcatB (hB : B ≤ W.heap.size) {b : Nat} {ps : List (Option Addr × Nat × Nat)} {yss : List (List Int)} (hr : RdV W b 0 (ps.map slV)) (hp : Parts W ps yss) (h0 : 0 < yss.flatten.length) (h1 : yss.flatten.length ≤ 1048576) (hk : yss.length ≤ 128) :
    ACalls Try.prog B 95 [.slice (some ⟨b, 0, none⟩) yss.length yss.length] W (fun r W' => ∃ a c, r = .slice a yss.flatten.length c ∧ Hp B W W' [.row 5 1 (.slice a yss.flatten.length c) yss.flatten.length (u8s yss.flatten)]) := by
  have H0 : Hp B W W [] := Hp.new hB
  obtain ⟨hpl, hps⟩ := hp
  refine acalls_of Try.func95 rfl Try.ntmps95 (Nat.le_of_ble_eq_true rfl) ?_
  repeat' (first | refine s_pure tabOk rfl rfl rfl rfl ?_ | refine Stp.imp ?_ | refine aops_nil ?_ | refine aw_reg ?_ | refine aw_seq ?_ | refine s_pass rfl rfl rfl ?_ | refine s_len tabOk rfl rfl rfl rfl ?_ | refine aw_true rfl ?_ | refine aw_false rfl ?_ | refine blk_exit_other rfl ?_ | refine s_arith tabOk rfl rfl rfl rfl (by simp only [InR]; omega) ?_ | ((first | ((fail_if_success refine s_told rfl rfl ?_); refine s_part rfl rfl rfl ?_ ?_) | refine aw_if rfl ?_ ?_) <;> intro hc <;> (first | replace hc := DecT.imp hc | simp only [decs] at hc | skip)) | refine s_index1n tabOk rfl rfl rfl rfl (by omega) ?_ | refine s_indexn tabOk rfl rfl rfl rfl (by omega) ?_ | refine s_index1 tabOk rfl rfl rfl rfl (by omega) (by omega) ?_ | refine sh_load tabOk (by assumption) rfl rfl rfl rfl (by repeat (first | exact List.Mem.head _ | apply List.Mem.tail)) (by rfl) (by rfl) ?_ | refine sh_loada tabOk (by assumption) rfl rfl rfl rfl (by repeat (first | exact List.Mem.head _ | apply List.Mem.tail)) (by rfl) ?_ | (refine sh_box (by assumption) rfl rfl rfl rfl rfl rfl ?_; intro _ _ _) | (refine sh_alloc tabOk (by assumption) rfl rfl rfl rfl rfl rfl ?_; intro _ _ _) | (refine sh_store tabOk (by assumption) rfl rfl rfl rfl rfl rfl (by repeat (first | exact Upd.here | apply Upd.there)) (by rfl) ?_; intro _ _) | (refine sh_lit tabOk (by assumption) rfl rfl rfl rfl rfl rfl rfl rfl rfl rfl rfl ?_; intro _ _ _) | refine sh_build tabOk rfl rfl rfl rfl rfl rfl ?_)
  refine aw_loop (fun i : Nat => [(11, .int .i64 i), (10, .int .i64 yss.length), (9, .slice (some ⟨b, 0, none⟩) yss.length yss.length), (3, .int .i64 (((catL yss i).length : Nat) : Int)), (0, .slice (some ⟨b, 0, none⟩) yss.length yss.length), (2, .slice none 0 0)]) (fun _ => W) (fun i => i ≤ yss.length) (fun i => yss.length - i) 0 (by omega) (by rw [catL_zero]; exact (by repeat (first | exact less_nil | refine less_cons rfl ?_))) rfl ?_
  intro i hi
  have hle := catL_le yss i hi
  repeat' (first | refine s_pure tabOk rfl rfl rfl rfl ?_ | refine Stp.imp ?_ | refine aops_nil ?_ | refine aw_reg ?_ | refine aw_seq ?_ | refine s_pass rfl rfl rfl ?_ | refine s_len tabOk rfl rfl rfl rfl ?_ | refine aw_true rfl ?_ | refine aw_false rfl ?_ | refine blk_exit_other rfl ?_ | refine s_arith tabOk rfl rfl rfl rfl (by simp only [InR]; omega) ?_ | ((first | ((fail_if_success refine s_told rfl rfl ?_); refine s_part rfl rfl rfl ?_ ?_) | refine aw_if rfl ?_ ?_) <;> intro hc <;> (first | replace hc := DecT.imp hc | simp only [decs] at hc | skip)) | refine s_index1n tabOk rfl rfl rfl rfl (by omega) ?_ | refine s_indexn tabOk rfl rfl rfl rfl (by omega) ?_ | refine s_index1 tabOk rfl rfl rfl rfl (by omega) (by omega) ?_ | refine sh_load tabOk (by assumption) rfl rfl rfl rfl (by repeat (first | exact List.Mem.head _ | apply List.Mem.tail)) (by rfl) (by rfl) ?_ | refine sh_loada tabOk (by assumption) rfl rfl rfl rfl (by repeat (first | exact List.Mem.head _ | apply List.Mem.tail)) (by rfl) ?_ | (refine sh_box (by assumption) rfl rfl rfl rfl rfl rfl ?_; intro _ _ _) | (refine sh_alloc tabOk (by assumption) rfl rfl rfl rfl rfl rfl ?_; intro _ _ _) | (refine sh_store tabOk (by assumption) rfl rfl rfl rfl rfl rfl (by repeat (first | exact Upd.here | apply Upd.there)) (by rfl) ?_; intro _ _) | (refine sh_lit tabOk (by assumption) rfl rfl rfl rfl rfl rfl rfl rfl rfl rfl rfl ?_; intro _ _ _) | refine sh_build tabOk rfl rfl rfl rfl rfl rfl ?_)
  · have hil : i < yss.length := by omega
    refine sh_readT tabOk sv0 rfl rfl rfl rfl hr rfl (by omega) ?_
    obtain ⟨e, -⟩ := hps i hil
    have hle2 := catL_le yss (i + 1) hil
    have hcs := congrArg List.length (catL_succ hil)
    rw [List.length_append] at hcs
    generalize ps.getD i sv0 = p at *
    obtain ⟨a, n, c⟩ := p
    dsimp only at e
    rw [show slV (a, n, c) = .slice a n c from rfl]
    generalize (yss.getD i []).length = m at *
    subst e
    repeat' (first | refine s_pure tabOk rfl rfl rfl rfl ?_ | refine Stp.imp ?_ | refine aops_nil ?_ | refine aw_reg ?_ | refine aw_seq ?_ | refine s_pass rfl rfl rfl ?_ | refine s_len tabOk rfl rfl rfl rfl ?_ | refine aw_true rfl ?_ | refine aw_false rfl ?_ | refine blk_exit_other rfl ?_ | refine s_arith tabOk rfl rfl rfl rfl (by simp only [InR]; omega) ?_ | ((first | ((fail_if_success refine s_told rfl rfl ?_); refine s_part rfl rfl rfl ?_ ?_) | refine aw_if rfl ?_ ?_) <;> intro hc <;> (first | replace hc := DecT.imp hc | simp only [decs] at hc | skip)) | refine s_index1n tabOk rfl rfl rfl rfl (by omega) ?_ | refine s_indexn tabOk rfl rfl rfl rfl (by omega) ?_ | refine s_index1 tabOk rfl rfl rfl rfl (by omega) (by omega) ?_ | refine sh_load tabOk (by assumption) rfl rfl rfl rfl (by repeat (first | exact List.Mem.head _ | apply List.Mem.tail)) (by rfl) (by rfl) ?_ | refine sh_loada tabOk (by assumption) rfl rfl rfl rfl (by repeat (first | exact List.Mem.head _ | apply List.Mem.tail)) (by rfl) ?_ | (refine sh_box (by assumption) rfl rfl rfl rfl rfl rfl ?_; intro _ _ _) | (refine sh_alloc tabOk (by assumption) rfl rfl rfl rfl rfl rfl ?_; intro _ _ _) | (refine sh_store tabOk (by assumption) rfl rfl rfl rfl rfl rfl (by repeat (first | exact Upd.here | apply Upd.there)) (by rfl) ?_; intro _ _) | (refine sh_lit tabOk (by assumption) rfl rfl rfl rfl rfl rfl rfl rfl rfl rfl rfl ?_; intro _ _ _) | refine sh_build tabOk rfl rfl rfl rfl rfl rfl ?_)
    all_goals try (exfalso; omega)
    refine rnd_next (i + 1) (by omega) (by omega) (by rw [hcs]; exact (by repeat (first | exact less_nil | refine less_cons rfl ?_))) rfl
  · have hil : i = yss.length := by omega
    subst hil
    rw [catL_all] at *
    refine s_call rfl rfl rfl rfl ent119 (c_GrowB hB (by omega) (by omega)) ?_
    rintro _ W2 ⟨b2, c2, rfl, g2⟩
    have H2 := H0.call1 g2
    repeat' (first | refine s_pure tabOk rfl rfl rfl rfl ?_ | refine Stp.imp ?_ | refine aops_nil ?_ | refine aw_reg ?_ | refine aw_seq ?_ | refine s_pass rfl rfl rfl ?_ | refine s_len tabOk rfl rfl rfl rfl ?_ | refine aw_true rfl ?_ | refine aw_false rfl ?_ | refine blk_exit_other rfl ?_ | refine s_arith tabOk rfl rfl rfl rfl (by simp only [InR]; omega) ?_ | ((first | ((fail_if_success refine s_told rfl rfl ?_); refine s_part rfl rfl rfl ?_ ?_) | refine aw_if rfl ?_ ?_) <;> intro hc <;> (first | replace hc := DecT.imp hc | simp only [decs] at hc | skip)) | refine s_index1n tabOk rfl rfl rfl rfl (by omega) ?_ | refine s_indexn tabOk rfl rfl rfl rfl (by omega) ?_ | refine s_index1 tabOk rfl rfl rfl rfl (by omega) (by omega) ?_ | refine sh_load tabOk (by assumption) rfl rfl rfl rfl (by repeat (first | exact List.Mem.head _ | apply List.Mem.tail)) (by rfl) (by rfl) ?_ | refine sh_loada tabOk (by assumption) rfl rfl rfl rfl (by repeat (first | exact List.Mem.head _ | apply List.Mem.tail)) (by rfl) ?_ | (refine sh_box (by assumption) rfl rfl rfl rfl rfl rfl ?_; intro _ _ _) | (refine sh_alloc tabOk (by assumption) rfl rfl rfl rfl rfl rfl ?_; intro _ _ _) | (refine sh_store tabOk (by assumption) rfl rfl rfl rfl rfl rfl (by repeat (first | exact Upd.here | apply Upd.there)) (by rfl) ?_; intro _ _) | (refine sh_lit tabOk (by assumption) rfl rfl rfl rfl rfl rfl rfl rfl rfl rfl rfl ?_; intro _ _ _) | refine sh_build tabOk rfl rfl rfl rfl rfl rfl ?_)
    refine aw_loopH (A := W) (fun x : Nat × Option Addr × Nat => [(27, .int .i64 x.1), (26, .int .i64 yss.length), (25, .slice (some ⟨b, 0, none⟩) yss.length yss.length), (6, .slice x.2.1 (catL yss x.1).length x.2.2), (2, .slice none 0 0)]) (fun x => [.row 5 1 (.slice x.2.1 (catL yss x.1).length x.2.2) (catL yss x.1).length (u8s (catL yss x.1))]) (fun x => x.1 ≤ yss.length) (fun x => yss.length - x.1) (0, some ⟨b2, 0, none⟩, c2) (by dsimp only; omega) (by dsimp only; rw [catL_zero]; exact H2) (by dsimp only; rw [catL_zero]; exact (by repeat (first | exact less_nil | refine less_cons rfl ?_))) ?_
    rintro ⟨j, p, k⟩ W3 hj H3
    dsimp only at hj H3 ⊢
    repeat' (first | refine s_pure tabOk rfl rfl rfl rfl ?_ | refine Stp.imp ?_ | refine aops_nil ?_ | refine aw_reg ?_ | refine aw_seq ?_ | refine s_pass rfl rfl rfl ?_ | refine s_len tabOk rfl rfl rfl rfl ?_ | refine aw_true rfl ?_ | refine aw_false rfl ?_ | refine blk_exit_other rfl ?_ | refine s_arith tabOk rfl rfl rfl rfl (by simp only [InR]; omega) ?_ | ((first | ((fail_if_success refine s_told rfl rfl ?_); refine s_part rfl rfl rfl ?_ ?_) | refine aw_if rfl ?_ ?_) <;> intro hc <;> (first | replace hc := DecT.imp hc | simp only [decs] at hc | skip)) | refine s_index1n tabOk rfl rfl rfl rfl (by omega) ?_ | refine s_indexn tabOk rfl rfl rfl rfl (by omega) ?_ | refine s_index1 tabOk rfl rfl rfl rfl (by omega) (by omega) ?_ | refine sh_load tabOk (by assumption) rfl rfl rfl rfl (by repeat (first | exact List.Mem.head _ | apply List.Mem.tail)) (by rfl) (by rfl) ?_ | refine sh_loada tabOk (by assumption) rfl rfl rfl rfl (by repeat (first | exact List.Mem.head _ | apply List.Mem.tail)) (by rfl) ?_ | (refine sh_box (by assumption) rfl rfl rfl rfl rfl rfl ?_; intro _ _ _) | (refine sh_alloc tabOk (by assumption) rfl rfl rfl rfl rfl rfl ?_; intro _ _ _) | (refine sh_store tabOk (by assumption) rfl rfl rfl rfl rfl rfl (by repeat (first | exact Upd.here | apply Upd.there)) (by rfl) ?_; intro _ _) | (refine sh_lit tabOk (by assumption) rfl rfl rfl rfl rfl rfl rfl rfl rfl rfl rfl ?_; intro _ _ _) | refine sh_build tabOk rfl rfl rfl rfl rfl rfl ?_)
    · have hil : j < yss.length := by omega
      refine sh_readT tabOk sv0 rfl rfl rfl rfl (H3.rd hr) rfl (by omega) ?_
      obtain ⟨e, hsl⟩ := hps j hil
      have hle2 := catL_le yss (j + 1) hil
      have hcs := catL_succ hil
      have hcl := congrArg List.length hcs
      rw [List.length_append] at hcl
      generalize ps.getD j sv0 = p9 at *
      obtain ⟨a, n, c⟩ := p9
      dsimp only at e
      subst e
      rw [show slV (a, (yss.getD j []).length, c) = .slice a (yss.getD j []).length c from rfl] at hsl ⊢
      repeat' (first | refine s_pure tabOk rfl rfl rfl rfl ?_ | refine Stp.imp ?_ | refine aops_nil ?_ | refine aw_reg ?_ | refine aw_seq ?_ | refine s_pass rfl rfl rfl ?_ | refine s_len tabOk rfl rfl rfl rfl ?_ | refine aw_true rfl ?_ | refine aw_false rfl ?_ | refine blk_exit_other rfl ?_ | refine s_arith tabOk rfl rfl rfl rfl (by simp only [InR]; omega) ?_ | ((first | ((fail_if_success refine s_told rfl rfl ?_); refine s_part rfl rfl rfl ?_ ?_) | refine aw_if rfl ?_ ?_) <;> intro hc <;> (first | replace hc := DecT.imp hc | simp only [decs] at hc | skip)) | refine s_index1n tabOk rfl rfl rfl rfl (by omega) ?_ | refine s_indexn tabOk rfl rfl rfl rfl (by omega) ?_ | refine s_index1 tabOk rfl rfl rfl rfl (by omega) (by omega) ?_ | refine sh_load tabOk (by assumption) rfl rfl rfl rfl (by repeat (first | exact List.Mem.head _ | apply List.Mem.tail)) (by rfl) (by rfl) ?_ | refine sh_loada tabOk (by assumption) rfl rfl rfl rfl (by repeat (first | exact List.Mem.head _ | apply List.Mem.tail)) (by rfl) ?_ | (refine sh_box (by assumption) rfl rfl rfl rfl rfl rfl ?_; intro _ _ _) | (refine sh_alloc tabOk (by assumption) rfl rfl rfl rfl rfl rfl ?_; intro _ _ _) | (refine sh_store tabOk (by assumption) rfl rfl rfl rfl rfl rfl (by repeat (first | exact Upd.here | apply Upd.there)) (by rfl) ?_; intro _ _) | (refine sh_lit tabOk (by assumption) rfl rfl rfl rfl rfl rfl rfl rfl rfl rfl rfl ?_; intro _ _ _) | refine sh_build tabOk rfl rfl rfl rfl rfl rfl ?_)
      refine sh_append tabOk H3 rfl rfl rfl rfl rfl rfl rfl rfl rfl (fun _ _ => (by repeat (first | exact Upd.here | apply Upd.there))) (H3.sl hsl) (by omega) ?_
      intro a7 c7 W7 H7
      rw [← hcl]
      rw [← hcl, ← List.map_append, ← hcs] at H7
      repeat' (first | refine s_pure tabOk rfl rfl rfl rfl ?_ | refine Stp.imp ?_ | refine aops_nil ?_ | refine aw_reg ?_ | refine aw_seq ?_ | refine s_pass rfl rfl rfl ?_ | refine s_len tabOk rfl rfl rfl rfl ?_ | refine aw_true rfl ?_ | refine aw_false rfl ?_ | refine blk_exit_other rfl ?_ | refine s_arith tabOk rfl rfl rfl rfl (by simp only [InR]; omega) ?_ | ((first | ((fail_if_success refine s_told rfl rfl ?_); refine s_part rfl rfl rfl ?_ ?_) | refine aw_if rfl ?_ ?_) <;> intro hc <;> (first | replace hc := DecT.imp hc | simp only [decs] at hc | skip)) | refine s_index1n tabOk rfl rfl rfl rfl (by omega) ?_ | refine s_indexn tabOk rfl rfl rfl rfl (by omega) ?_ | refine s_index1 tabOk rfl rfl rfl rfl (by omega) (by omega) ?_ | refine sh_load tabOk (by assumption) rfl rfl rfl rfl (by repeat (first | exact List.Mem.head _ | apply List.Mem.tail)) (by rfl) (by rfl) ?_ | refine sh_loada tabOk (by assumption) rfl rfl rfl rfl (by repeat (first | exact List.Mem.head _ | apply List.Mem.tail)) (by rfl) ?_ | (refine sh_box (by assumption) rfl rfl rfl rfl rfl rfl ?_; intro _ _ _) | (refine sh_alloc tabOk (by assumption) rfl rfl rfl rfl rfl rfl ?_; intro _ _ _) | (refine sh_store tabOk (by assumption) rfl rfl rfl rfl rfl rfl (by repeat (first | exact Upd.here | apply Upd.there)) (by rfl) ?_; intro _ _) | (refine sh_lit tabOk (by assumption) rfl rfl rfl rfl rfl rfl rfl rfl rfl rfl rfl ?_; intro _ _ _) | refine sh_build tabOk rfl rfl rfl rfl rfl rfl ?_)
      exact rndh_next (j + 1, a7, c7) (by dsimp only; omega) (by dsimp only; omega) (by exact (by repeat (first | exact less_nil | refine less_cons rfl ?_))) H7
    · have hil : j = yss.length := by omega
      subst hil
      rw [catL_all] at *
      refine retK_ret tabOk (congrArg Array.toList Try.results95) (by repeat (first | exact rv_nil | apply rv_tmp rfl rfl | apply rv_cellH (by assumption) rfl rfl rfl (by repeat (first | exact List.Mem.head _ | apply List.Mem.tail)) rfl)) ?_
      exact ⟨p, k, rfl, H3⟩
end
end Go.Proofs.Ytmplincflbhmiaa
namespace Go.Proofs.Ytmplincflbhmiaa
set_option linter.unusedSimpArgs false
set_option linter.unusedVariables false
open Go Cn Go.RowKit
/-- the bytes of a text, as numbers -/
def bI (s : ByteArray) : List Int := (bL s).map fun (x : Nat) => (x : Int)
theorem bI_len (s : ByteArray) : (bI s).length = s.size := by unfold bI; rw [List.length_map, bL_len]
/-- cells stay as they are; a mark may come -/
def Keeps (W W' : World) : Prop := W.heap.size ≤ W'.heap.size ∧ ∀ (g : Nat) (c : Array Value) (e : TypeId) (fz : Nat × Nat), W.heap[g]? = some (Obj.cells c e fz) → ∃ fz' : Nat × Nat, W'.heap[g]? = some (Obj.cells c e fz')
theorem Keeps.refl (W : World) : Keeps W W := ⟨Nat.le_refl _, fun g c e fz h => ⟨fz, h⟩⟩
theorem Keeps.trans {W W1 W2 : World} (h : Keeps W W1) (k : Keeps W1 W2) : Keeps W W2 := ⟨Nat.le_trans h.1 k.1, fun g c e fz hg => by
  obtain ⟨f1, h1⟩ := h.2 g c e fz hg
  exact k.2 g c e f1 h1⟩
theorem Keeps.of {W W' : World} (h : Below W.heap.size W W') : Keeps W W' := ⟨h.size, fun g c e fz hg => ⟨fz, by rw [h.block g (Array.getElem?_eq_some_iff.1 hg).1]; exact hg⟩⟩
theorem Keeps.cell {W W' : World} (h : Keeps W W') {a : Addr} {v : Value} (hc : W.cell? a = some v) : W'.cell? a = some v := by
  unfold World.cell? at hc ⊢
  cases hg : W.heap[a.block]? with
  | none => rw [hg] at hc; cases hc
  | some o =>
    rw [hg] at hc
    cases o with
    | cells c e fz =>
      obtain ⟨fz', h1⟩ := h.2 _ c e fz hg
      rw [h1]; exact hc
    | _ => cases hc
theorem Keeps.rd {W W' : World} (h : Keeps W W') {b off : Nat} {ys : List Value} (hr : RdV W b off ys) : RdV W' b off ys := hr.mono fun _ _ _ hc => h.cell hc
theorem Keeps.sl {W W' : World} (h : Keeps W W') {sz n : Nat} {v : Value} {ys : List Value} (hs : SlV W sz v n ys) : SlV W' sz v n ys := by
  refine ⟨hs.1, ?_⟩
  rcases hs.2 with h1 | ⟨b, off, c, h1, h2, h3⟩
  · exact .inl h1
  · exact .inr ⟨b, off, c, h1, h2, h.rd h3⟩
/-- a row of the call's own, marked or not -/
def Rowm (W : World) (base : Nat) (e : TypeId) (v : Value) (ys : List Value) : Prop := ∃ (b : Nat) (c : Array Value) (fz : Nat × Nat), v = .slice (some ⟨b, 0, none⟩) ys.length ys.length ∧ base ≤ b ∧ W.heap[b]? = some (Obj.cells c e fz) ∧ c.size = ys.length ∧ RdV W b 0 ys
theorem Rowm.keeps {W W' : World} {base : Nat} {e : TypeId} {v : Value} {ys : List Value} (h : Rowm W base e v ys) (k : Keeps W W') : Rowm W' base e v ys := by
  obtain ⟨b, c, fz, h1, h2, h3, h4, h5⟩ := h
  obtain ⟨fz', h6⟩ := k.2 _ _ _ _ h3
  exact ⟨b, c, fz', h1, h2, h6, h4, k.rd h5⟩
theorem Rowm.sl {W : World} {base : Nat} {e : TypeId} {v : Value} {ys : List Value} (h : Rowm W base e v ys) : SlV W 1 v ys.length ys := by
  obtain ⟨b, c, fz, h1, h2, h3, h4, h5⟩ := h
  exact ⟨by omega, .inr ⟨b, 0, _, h1, Nat.le_refl _, h5⟩⟩
theorem rowm_new {W : World} {base : Nat} {e : TypeId} {vs : List Value} (hb : base ≤ W.heap.size) (h1 : ∀ v ∈ vs, v.oneCell' = true ∧ cl v = v) : Rowm (W.alloc (.cells vs.toArray e)) base e (.slice (some ⟨W.heap.size, 0, none⟩) vs.length vs.length) vs := by
  refine ⟨W.heap.size, vs.toArray, (0, 0), rfl, hb, heap_alloc_new W _, by simp, fun i hi => ?_⟩
  refine ⟨vs[i], ?_, ?_, (h1 _ (List.getElem_mem hi)).1⟩
  · unfold World.cell?
    rw [heap_alloc_new W _]
    simp [hi]
  · rw [(h1 _ (List.getElem_mem hi)).2]
    simp [List.getD_eq_getElem?_getD, hi]
section
variable {P : Program} {N B : Nat} {E : Env} {W : World} {ops : Array Oper} {K : Exit → Env → World → Prop} {T : Tab} {o : Oper}
def evCb (T : Tab) (E : Env) (o : Oper) : Option (TypeId × Value) :=
  match o.op with
  | .convert src dst x => match T.at src with
    | some ⟨.slice e, _, _, _⟩ => match T.at e with
      | some ⟨.int .u8, _, _, _⟩ => match Nat.beq src dst with
        | true => match ev E x with
          | some (.slice a n c) => some (e, .slice a n c)
          | _ => none
        | false => none
      | _ => none
    | _ => none
  | _ => none
theorem yields_markBytes (hT : TabOk P T) {base : Nat} {e : TypeId} {v : Value} {ys : List Value} (hv : evCb T E o = some (e, v)) (hu : Rowm W base e v ys) (hbase : base ≤ W.heap.size) :
    Go.Proofs.Ytmplincflbhmiaa.Cn.Yields P N B o E W (fun v' W' => v' = v ∧ Rowm W' base e v ys ∧ Keeps W W' ∧ Below base W W' ∧ ∀ k : Nat, W'.heap[k]? = W.heap[k]? ∨ ∃ (c : Array Value) (e : TypeId) (fz : Nat × Nat), W.heap[k]? = some (Obj.cells c e fz) ∧ c.size = ys.length) := by
  intro a w ha hw hB
  unfold evCb at hv
  split at hv
  · rename_i src dst x hop
    split at hv
    · rename_i e' s1 b1 z1 ht1
      split at hv
      · rename_i s2 b2 z2 ht2
        split at hv
        · rename_i hsd
          split at hv
          · rename_i ad n c hx
            cases hv
            have hsd := Nat.eq_of_beq_eq_true hsd
            subst hsd
            have e1 := cv_slice (ev_sound ha hx)
            have hs := (hT _ _ ht1).1
            have he := (hT _ _ ht2).1
            obtain ⟨b, cs, fz, h1, h2, h3, h4, h5⟩ := hu
            cases h1
            have hg : ∃ cs', w.heap[b]? = some (.cells cs' e fz) ∧ cs'.size = cs.size := by
              rw [← hw, cw_heap] at h3
              cases hq : w.heap[b]? with
              | none => rw [hq] at h3; cases h3
              | some ob =>
                rw [hq] at h3
                simp only [Option.map_some, Option.some.injEq] at h3
                split at h3
                · subst h3; exact ⟨cs, rfl, rfl⟩
                · cases ob with
                  | cells c' e'' f' =>
                    simp only [co, Obj.cells.injEq] at h3
                    obtain ⟨rfl, rfl, rfl⟩ := h3
                    exact ⟨c', rfl, by simp⟩
                  | _ => cases h3
            obtain ⟨cs', hg, hsz⟩ := hg
            have hsh : w.shape? b = some (e, cs'.size) := by unfold World.shape?; rw [hg]
            have hrun : (convert src src (.slice (some ⟨b, 0, none⟩) ys.length ys.length)).run P w = .ok (.slice (some ⟨b, 0, none⟩) ys.length ys.length) (w.freeze ⟨b, cs'.size, none⟩ 1) := by
              simp [convert, run_underlying hs, run_underlying he, markStringish, hsh]
            have hfh : ∀ k, (w.freeze ⟨b, cs'.size, none⟩ 1).heap[k]? = if b = k then (w.heap[k]?).map (fun | .cells c elem (lo, hi) => .cells c elem (if lo == hi then (cs'.size, cs'.size + 1) else (min lo cs'.size, max hi (cs'.size + 1))) | o => o) else w.heap[k]? := by
              intro k
              simp [World.freeze, Array.getElem?_modify]
              rfl
            have hfs : (w.freeze ⟨b, cs'.size, none⟩ 1).heap.size = w.heap.size := by simp [World.freeze]
            refine ⟨.slice (some ⟨b, 0, none⟩) ys.length ys.length, w.freeze ⟨b, cs'.size, none⟩ 1, ?_, by rw [hfs]; exact hB, ?_⟩
            · simp only [execOp, hop, e1]
              exact run_v hrun
            · have hk : Keeps W (cw B (w.freeze ⟨b, cs'.size, none⟩ 1)) := by
                refine ⟨by rw [cw_size, hfs, ← hw, cw_size]; exact Nat.le_refl _, fun g c e fz hgc => ?_⟩
                rw [← hw, cw_heap] at hgc
                rw [cw_heap, hfh]
                by_cases hbg : b = g
                · subst hbg
                  rw [hg] at hgc ⊢
                  simp only [Option.map_some, if_true] at hgc ⊢
                  obtain ⟨lo, hi⟩ := fz
                  split at hgc
                  · rename_i hlt
                    simp only [hlt, if_true]
                    cases hgc
                    exact ⟨_, rfl⟩
                  · rename_i hlt
                    simp only [hlt, if_false]
                    cases hgc
                    exact ⟨_, rfl⟩
                · rw [if_neg hbg]
                  exact ⟨fz, hgc⟩
              refine ⟨rfl, Rowm.keeps ⟨b, cs, fz, rfl, h2, h3, h4, h5⟩ hk, hk, ?_, fun k => ?_⟩
              · subst hw
                refine ⟨rfl, rfl, rfl, hk.1, fun k hkb => ?_⟩
                rw [cw_heap, cw_heap, hfh, if_neg (by omega)]
              · by_cases hbk : b = k
                · subst hbk
                  exact .inr ⟨cs, e, fz, h3, h4⟩
                · left
                  subst hw
                  rw [cw_heap, cw_heap, hfh, if_neg hbk]
          · cases hv
        · cases hv
      · cases hv
    · cases hv
  · cases hv
def evSb (T : Tab) (E : Env) (o : Oper) : Option (TypeId × ByteArray) :=
  match o.op with
  | .convert src dst x => match T.at src with
    | some ⟨.string, _, _, _⟩ => match T.at dst with
      | some ⟨.slice e, _, _, _⟩ => match T.at e with
        | some ⟨.int .u8, _, _, _⟩ => match ev E x with
          | some (.string s) => some (e, s)
          | _ => none
        | _ => none
      | _ => none
    | _ => none
  | _ => none
theorem yields_strBytes (hT : TabOk P T) {e : TypeId} {s : ByteArray} (hv : evSb T E o = some (e, s)) :
    Go.Proofs.Ytmplincflbhmiaa.Cn.Yields P N B o E W (fun v' W' => ∃ a c, v' = .slice a (bI s).length c ∧ SlV W' 1 v' (bI s).length (u8s (bI s)) ∧ Below W.heap.size W W') := by
  intro a w ha hw hB
  unfold evSb at hv
  split at hv
  · rename_i src dst x hop
    split at hv
    · rename_i s1 b1 z1 ht1
      split at hv
      · rename_i e' s2 b2 z2 ht2
        split at hv
        · rename_i s3 b3 z3 ht3
          split at hv
          · rename_i s0 hx
            cases hv
            have e1 := cv_string (ev_sound ha hx)
            have hs := (hT _ _ ht1).1
            have hd := (hT _ _ ht2).1
            have he := (hT _ _ ht3).1
            have hrun := Go.Lib.run_convert_string_bytes w src dst e s hs hd he
            have hsz := Go.Lib.bytesWorld_size w e s
            refine ⟨.slice (some ⟨w.heap.size, 0, none⟩) s.size (grownCap w s.size 0 e), Go.Lib.bytesWorld w e s, ?_, by rw [hsz]; omega, ?_⟩
            · simp only [execOp, hop, e1]
              exact run_v hrun
            · have hW : W.heap.size = w.heap.size := by rw [← hw, cw_size]
              refine ⟨some ⟨w.heap.size, 0, none⟩, grownCap w s.size 0 e, by rw [bI_len]; rfl, ?_, ?_⟩
              · rw [bI_len]
                refine ⟨by simp [bI_len], .inr ⟨w.heap.size, 0, _, rfl, grownCap_ge .., fun i hi => ?_⟩⟩
                have hi' : i < s.size := by simpa [bI_len] using hi
                refine ⟨.int .u8 (bt s i), ?_, ?_, rfl⟩
                · rw [cw_cell, if_neg (by dsimp only; omega), Nat.zero_add, Go.Lib.bytesWorld_cell w e s i hi']
                  simp [cl, bt, List.getD_eq_getElem?_getD]
                · simp [bI, List.getD_eq_getElem?_getD, hi', bL_len, bL_get hi', cl, bL]
              · rw [hW]
                subst hw
                refine ⟨rfl, rfl, rfl, by rw [cw_size, cw_size, hsz]; omega, fun k hk => ?_⟩
                rw [cw_heap, cw_heap, Go.Lib.bytesWorld_at_old w e s k hk]
          · cases hv
        · cases hv
      · cases hv
    · cases hv
  · cases hv
end
end Go.Proofs.Ytmplincflbhmiaa
namespace Go.Proofs.Ytmplincflbhmiaa
set_option linter.unusedSimpArgs false
set_option linter.unusedVariables false
open Go Cn Go.RowKit
section
variable {P : Program} {N B : Nat} {ops : Array Oper} {D : World → Prop} {S : World → World → Prop} {Q : Nat → Value → World → Prop} {E0 E : Env} {W : World} {T : Tab}
variable {i d : Nat} {op : Op} {ty : TypeId} {pos : String} {aft : Array Edge} {g : Option (Nat × Bool)}
/-- one turn, its needs at hand -/
def Step1 (P : Program) (N B : Nat) (ops : Array Oper) (D : World → Prop) (S : World → World → Prop) (Q : Nat → Value → World → Prop) (i : Nat) (o : Oper) (W : World) (E : Env) : Prop :=
  ∃ R : Value → World → Prop, (∀ a w, EnvR E N a → cw B w = W → B ≤ w.heap.size → SRun P B ops o a w R) ∧ ∀ v W', R v W' → D W' ∧ S W W' ∧ Q i v W'
theorem any_op (ho : getL ops.toList i = some ⟨some d, op, ty, pos, aft, g⟩) (hd : Nat.ble (d + 1) N = true) (js : List (Nat × Nat)) (hj : depsB ops i js = true)
    (h : ∀ W, D W → WithD Q W js E0 (Step1 P N B ops D S Q i ⟨some d, op, ty, pos, aft, g⟩ W)) : OpAny P N B ops D S Q E0 i :=
  ⟨_, d, getL_ok ho, rfl, hd, js, hj, h⟩
theorem t_yields {o : Oper} {R : Value → World → Prop} (hg : guardE ops o E = some true) (hy : Go.Proofs.Ytmplincflbhmiaa.Cn.Yields P N B o E W R) (k : ∀ v W', R v W' → D W' ∧ S W W' ∧ Q i v W') : Step1 P N B ops D S Q i o W E := ⟨R, srun_yields hg hy, k⟩
theorem t_gives {o : Oper} {v : Value} {W' : World} (hg : guardE ops o E = some true) (hy : Gives P N B o E W v W') (h1 : D W') (h2 : S W W') (h3 : Q i v W') : Step1 P N B ops D S Q i o W E :=
  t_yields hg hy fun v1 W1 h => by obtain ⟨rfl, rfl⟩ := h; exact ⟨h1, h2, h3⟩
theorem t_call {o : Oper} {f : FuncId} {args : List Value} {R : Value → World → Prop} (hg : guardE ops o E = some true) (hv : evC' E o = some (f, args)) (hE : Ent P f) (hc : ACalls P B f args W R) (k : ∀ v W', R v W' → D W' ∧ S W W' ∧ Q i v W') : Step1 P N B ops D S Q i o W E := ⟨R, srun_call hg hv hE hc, k⟩
end
/-- every one of the operations -/
def AllOps (p : Nat → Prop) : Nat → Nat → Prop
  | _, 0 => True
  | i, k + 1 => p i ∧ AllOps p (i + 1) k
theorem allOps_spec {p : Nat → Prop} : ∀ {k i : Nat}, AllOps p i k → ∀ j, i ≤ j → j < i + k → p j
  | 0, i, _, j, h1, h2 => by omega
  | k + 1, i, h, j, h1, h2 => by
    by_cases e : j = i
    · subst e; exact h.1
    · exact allOps_spec h.2 j (by omega) (by omega)
/-! ### the bytes -/
def storeL (s : ByteArray) (st sp : Int) (xs : List Nat) : List (List Int) :=
  [[82, 73, 86, 49], [(s.size : Int)], bI s, leL st 4, leL sp 2, leL ((packTo xs xs.length).length : Int) 2, packTo xs xs.length]
def storeS (s : ByteArray) (st sp : Int) (xs : List Nat) : ByteArray :=
  strOfNums ((storeL s st sp xs).flatten ++ leL (chk 0 (strOfNums (storeL s st sp xs).flatten) (strOfNums (storeL s st sp xs).flatten).size) 2)
/-- what stays, and rows of more than four cells stay whole -/
def Keep4 (W W' : World) : Prop := Keeps W W' ∧ ∀ k, k < W.heap.size → W'.heap[k]? = W.heap[k]? ∨ ∃ (c : Array Value) (e : TypeId) (fz : Nat × Nat), W.heap[k]? = some (Obj.cells c e fz) ∧ c.size ≤ 4
theorem Keep4.of {W W' : World} (h : Below W.heap.size W W') : Keep4 W W' := ⟨Keeps.of h, fun k hk => .inl (h.block k hk)⟩
theorem Keep4.refl (W : World) : Keep4 W W := Keep4.of (Below.refl _ _)
theorem OwnV.keep4 {W W' : World} {base : Nat} {e : TypeId} {v : Value} {ys : List Value} (h : OwnV W base e v ys) (k : Keep4 W W') (hl : 4 < ys.length) : OwnV W' base e v ys := by
  obtain ⟨h1, h2⟩ := h
  refine ⟨h1, ?_⟩
  rcases h2 with ⟨rfl, h0⟩ | ⟨g, cap, cur, hv, hb, hg, hn, hm, hc, ht⟩
  · omega
  · refine .inr ⟨g, cap, cur, hv, hb, ?_, hn, hm, hc, ht⟩
    rcases k.2 g (Array.getElem?_eq_some_iff.1 hg).1 with h | ⟨c, e', fz, h, hs⟩
    · rw [h]; exact hg
    · rw [hg] at h
      cases h
      omega
/-- a slice of bytes that can be read -/
def Sby (W : World) (v : Value) (xs : List Int) : Prop := ∃ a c, v = .slice a xs.length c ∧ SlV W 1 v xs.length (u8s xs)
theorem Sby.keeps {W W' : World} {v : Value} {xs : List Int} (h : Sby W v xs) (k : Keeps W W') : Sby W' v xs := by
  obtain ⟨a, c, h1, h2⟩ := h
  exact ⟨a, c, h1, k.sl h2⟩
/-- what each operation of the seven parts leaves -/
def QS (base b : Nat) (v3 : Value) (s : ByteArray) (st sp : Int) (xs : List Nat) : Nat → Value → World → Prop
  | 0, v, W => Rowm W base 5 v (u8s [82, 73, 86, 49])
  | 1, v, W => Rowm W base 5 v (u8s [82, 73, 86, 49])
  | 2, v, _ => v = .pointer (some ⟨b, 0, none⟩)
  | 3, v, _ => v = .string s
  | 4, v, _ => v = .int .i64 s.size
  | 5, v, _ => v = .int .u8 s.size
  | 6, v, W => Sby W v [(s.size : Int)]
  | 7, v, _ => v = .pointer (some ⟨b, 0, none⟩)
  | 8, v, _ => v = .string s
  | 9, v, W => Sby W v (bI s)
  | 10, v, _ => v = .pointer (some ⟨b, 1, none⟩)
  | 11, v, _ => v = .int .i64 st
  | 12, v, W => Sby W v (leL st 4)
  | 13, v, _ => v = .pointer (some ⟨b, 2, none⟩)
  | 14, v, _ => v = .int .i64 sp
  | 15, v, W => Sby W v (leL sp 2)
  | 16, v, _ => v = v3
  | 17, v, _ => v = .int .i64 (packTo xs xs.length).length
  | 18, v, W => Sby W v (leL (packTo xs xs.length).length 2)
  | 19, v, _ => v = v3
  | 20, v, W => ∃ b7 ps, v = .slice (some ⟨b7, 0, none⟩) 7 7 ∧ RdV W b7 0 (ps.map slV) ∧ Parts W ps (storeL s st sp xs)
  | 21, v, W => OwnV W base 5 v (u8s (storeL s st sp xs).flatten)
  | 22, v, W => OwnV W base 5 v (u8s (storeL s st sp xs).flatten)
  | _, _, _ => True
theorem Parts.keeps {W W' : World} {ps : List (Option Addr × Nat × Nat)} {yss : List (List Int)} (h : Parts W ps yss) (k : Keeps W W') : Parts W' ps yss :=
  ⟨h.1, fun i hi => ⟨(h.2 i hi).1, k.sl (h.2 i hi).2⟩⟩
theorem storeL_len (s : ByteArray) (st sp : Int) (xs : List Nat) : (storeL s st sp xs).flatten.length = 13 + s.size + (packTo xs xs.length).length := by
  simp only [storeL, List.flatten_cons, List.flatten_nil, List.length_append, List.length_cons, List.length_nil, bI_len, leL_len]
  omega
theorem QS.stay {base b : Nat} {v3 : Value} {s : ByteArray} {st sp : Int} {xs : List Nat} (i : Nat) (v : Value) (W W' : World) (k : Keep4 W W') (h : QS base b v3 s st sp xs i v W) : QS base b v3 s st sp xs i v W' := by
  have hl : 4 < (u8s (storeL s st sp xs).flatten).length := by rw [List.length_map, storeL_len]; omega
  match i, h with
  | 0, h => exact Rowm.keeps h k.1
  | 1, h => exact Rowm.keeps h k.1
  | 2, h => exact h
  | 3, h => exact h
  | 4, h => exact h
  | 5, h => exact h
  | 6, h => exact Sby.keeps h k.1
  | 7, h => exact h
  | 8, h => exact h
  | 9, h => exact Sby.keeps h k.1
  | 10, h => exact h
  | 11, h => exact h
  | 12, h => exact Sby.keeps h k.1
  | 13, h => exact h
  | 14, h => exact h
  | 15, h => exact Sby.keeps h k.1
  | 16, h => exact h
  | 17, h => exact h
  | 18, h => exact Sby.keeps h k.1
  | 19, h => exact h
  | 20, h =>
    obtain ⟨b7, ps, h1, h2, h3⟩ := h
    exact ⟨b7, ps, h1, k.1.rd h2, h3.keeps k.1⟩
  | 21, h => exact OwnV.keep4 h k hl
  | 22, h => exact OwnV.keep4 h k hl
  | n + 23, _ => trivial
theorem Rowm.sby {W : World} {base : Nat} {e : TypeId} {v : Value} {xs : List Int} (h : Rowm W base e v (u8s xs)) : Sby W v xs := by
  have h1 := h.sl
  obtain ⟨b, c, fz, rfl, -⟩ := h
  rw [List.length_map] at h1 ⊢
  exact ⟨_, _, rfl, h1⟩
theorem OwnV.sby {W : World} {base : Nat} {e : TypeId} {v : Value} {xs : List Int} (h : OwnV W base e v (u8s xs)) : Sby W v xs := by
  obtain ⟨a, c, rfl⟩ := h.form
  have h1 : SlV W 1 (.slice a (u8s xs).length c) (u8s xs).length (u8s xs) := SlV.of_row ⟨ownsRow_base h fun _ _ => Nat.zero_le _, by simp [u8s, Value.oneCell'], by
    intro v hv
    simp only [u8s, List.mem_map] at hv
    obtain ⟨x, -, rfl⟩ := hv
    rfl⟩
  rw [List.length_map] at h1 ⊢
  exact ⟨_, _, rfl, h1⟩
section
variable {B : Nat} {A W W' : World} {L : List Res}
set_option maxHeartbeats 4000000 in
theorem c_impl_storeRecord {v : Value} {s : ByteArray} {st sp : Int} {xs : List Nat} (hv : RecA W v s st sp xs) (hs : s.size ≤ 255) (hl : xs.length ≤ 128) (hbd : Bd xs) (hst : 0 ≤ st ∧ st ≤ 4294967295) (hsp : 0 ≤ sp ∧ sp ≤ 65535) (hB : B ≤ W.heap.size) :
    ACalls Try.prog B 59 [v] W (fun r W' => r = .string (storeS s st sp xs) ∧ Below W.heap.size W W') := by
  obtain ⟨a, c, rfl, hx⟩ := hv
  have H0 : Hp B W W [] := Hp.new hB
  have hpl := packTo_len xs xs.length
  refine acalls_of Try.func59 rfl Try.ntmps59 (Nat.le_of_ble_eq_true rfl) ?_
  repeat' (first | refine s_pure tabOk rfl rfl rfl rfl ?_ | refine Stp.imp ?_ | refine aops_nil ?_ | refine aw_reg ?_ | refine aw_seq ?_ | refine s_pass rfl rfl rfl ?_ | refine s_len tabOk rfl rfl rfl rfl ?_ | refine aw_true rfl ?_ | refine aw_false rfl ?_ | refine blk_exit_other rfl ?_ | refine s_arith tabOk rfl rfl rfl rfl (by simp only [InR]; omega) ?_ | ((first | ((fail_if_success refine s_told rfl rfl ?_); refine s_part rfl rfl rfl ?_ ?_) | refine aw_if rfl ?_ ?_) <;> intro hc <;> (first | replace hc := DecT.imp hc | simp only [decs] at hc | skip)) | refine s_index1n tabOk rfl rfl rfl rfl (by omega) ?_ | refine s_indexn tabOk rfl rfl rfl rfl (by omega) ?_ | refine s_index1 tabOk rfl rfl rfl rfl (by omega) (by omega) ?_ | refine sh_load tabOk (by assumption) rfl rfl rfl rfl (by repeat (first | exact List.Mem.head _ | apply List.Mem.tail)) (by rfl) (by rfl) ?_ | refine sh_loada tabOk (by assumption) rfl rfl rfl rfl (by repeat (first | exact List.Mem.head _ | apply List.Mem.tail)) (by rfl) ?_ | (refine sh_box (by assumption) rfl rfl rfl rfl rfl rfl ?_; intro _ _ _) | (refine sh_alloc tabOk (by assumption) rfl rfl rfl rfl rfl rfl ?_; intro _ _ _) | (refine sh_store tabOk (by assumption) rfl rfl rfl rfl rfl rfl (by repeat (first | exact Upd.here | apply Upd.there)) (by rfl) ?_; intro _ _) | (refine sh_lit tabOk (by assumption) rfl rfl rfl rfl rfl rfl rfl rfl rfl rfl rfl ?_; intro _ _ _) | refine sh_build tabOk rfl rfl rfl rfl rfl rfl ?_)
  rename_i b W1 H1
  refine s_call rfl rfl rfl rfl ent62 (c_impl_pack (Hp.slFA H1 hx) (by omega) hbd H1.size) ?_
  rintro v3 W2 ⟨h3, g2⟩
  have H2 := Hp.grow (by assumption) g2
  obtain ⟨va, vc, rfl⟩ := h3.form
  repeat' (first | refine s_pure tabOk rfl rfl rfl rfl ?_ | refine Stp.imp ?_ | refine aops_nil ?_ | refine aw_reg ?_ | refine aw_seq ?_ | refine s_pass rfl rfl rfl ?_ | refine s_len tabOk rfl rfl rfl rfl ?_ | refine aw_true rfl ?_ | refine aw_false rfl ?_ | refine blk_exit_other rfl ?_ | refine s_arith tabOk rfl rfl rfl rfl (by simp only [InR]; omega) ?_ | ((first | ((fail_if_success refine s_told rfl rfl ?_); refine s_part rfl rfl rfl ?_ ?_) | refine aw_if rfl ?_ ?_) <;> intro hc <;> (first | replace hc := DecT.imp hc | simp only [decs] at hc | skip)) | refine s_index1n tabOk rfl rfl rfl rfl (by omega) ?_ | refine s_indexn tabOk rfl rfl rfl rfl (by omega) ?_ | refine s_index1 tabOk rfl rfl rfl rfl (by omega) (by omega) ?_ | refine sh_load tabOk (by assumption) rfl rfl rfl rfl (by repeat (first | exact List.Mem.head _ | apply List.Mem.tail)) (by rfl) (by rfl) ?_ | refine sh_loada tabOk (by assumption) rfl rfl rfl rfl (by repeat (first | exact List.Mem.head _ | apply List.Mem.tail)) (by rfl) ?_ | (refine sh_box (by assumption) rfl rfl rfl rfl rfl rfl ?_; intro _ _ _) | (refine sh_alloc tabOk (by assumption) rfl rfl rfl rfl rfl rfl ?_; intro _ _ _) | (refine sh_store tabOk (by assumption) rfl rfl rfl rfl rfl rfl (by repeat (first | exact Upd.here | apply Upd.there)) (by rfl) ?_; intro _ _) | (refine sh_lit tabOk (by assumption) rfl rfl rfl rfl rfl rfl rfl rfl rfl rfl rfl ?_; intro _ _ _) | refine sh_build tabOk rfl rfl rfl rfl rfl rfl ?_)
  have hblk := H2.blk (b := b) (by repeat (first | exact List.Mem.head _ | apply List.Mem.tail))
  have hB2 := H2.size
  have hL := storeL_len s st sp xs
  refine aw_any followsMixed (fun W' => Below W2.heap.size W2 W') Keep4 (QS W2.heap.size b (.slice va (u8s (packTo xs xs.length)).length vc) s st sp xs) [(1, .pointer (some ⟨b, 0, none⟩)), (2, .string ⟨#[]⟩), (3, .slice va (u8s (packTo xs xs.length)).length vc)] (by exact (by repeat (first | exact less_nil | refine less_cons rfl ?_))) (by kernel_rfl) (Below.refl _ _) QS.stay ?_ ?_
  · intro i hi
    refine allOps_spec (i := 0) (k := 23) ?_ i (Nat.zero_le _) hi
    have ok : ∀ {W3 : World}, Below W2.heap.size W2 W3 → (Res.blk b [.string s, .int .i64 st, .int .i64 sp, .slice a xs.length c] 44).ok W3 := fun hD => (Hp.grow H2 hD).ok _ (by repeat (first | exact List.Mem.head _ | apply List.Mem.tail))
    have al : ∀ {W3 : World} (o : Obj), Below W2.heap.size W2 W3 → Below W2.heap.size W2 (W3.alloc o) := fun o hD => hD.alloc hD.size o
    have ka : ∀ {W3 : World} (o : Obj), Keep4 W3 (W3.alloc o) := fun o => Keep4.of ((Below.refl _ _).alloc (Nat.le_refl _) o)
    have big : ∀ {W3 : World}, Below W2.heap.size W2 W3 → B ≤ W3.heap.size := fun hD => Nat.le_trans hB2 hD.size
    have ub : ∀ (xs : List Int), ∀ v ∈ u8s xs, v.oneCell' = true ∧ cl v = v := by
      intro xs v hv
      simp only [u8s, List.mem_map] at hv
      obtain ⟨x, -, rfl⟩ := hv
      exact ⟨rfl, rfl⟩
    refine ⟨?_, ?_, ?_, ?_, ?_, ?_, ?_, ?_, ?_, ?_, ?_, ?_, ?_, ?_, ?_, ?_, ?_, ?_, ?_, ?_, ?_, ?_, ?_, trivial⟩
    · exact any_op rfl rfl [] rfl fun W3 hD => t_gives rfl (gives_buildSlice tabOk rfl rfl (by simp [Value.cells]) (by decide) (by decide) (by decide)) (al _ hD) (ka _) (rowm_new (vs := u8s [82, 73, 86, 49]) hD.size (ub _))
    · refine any_op rfl rfl [(0, 8)] rfl fun W3 hD v hv => ?_
      have hv0 : Rowm W3 W2.heap.size 5 v (u8s [82, 73, 86, 49]) := hv
      obtain ⟨g, cs, fz, rfl, -⟩ := hv
      exact t_yields rfl (yields_markBytes tabOk rfl hv0 hD.size) fun v' W' ⟨e, h1, h2, h3, h4⟩ => ⟨hD.trans h3, ⟨h2, fun k _ => (h4 k).imp id fun ⟨c, e, fz, h, h'⟩ => ⟨c, e, fz, h, by rw [h']; decide⟩⟩, by rw [e]; exact h1⟩
    · exact any_op rfl rfl [] rfl fun W3 hD => t_gives rfl (gives_evP tabOk rfl) hD (Keep4.refl _) rfl
    · refine any_op rfl rfl [(2, 10)] rfl fun W3 hD v hv => ?_
      obtain rfl : v = _ := hv
      exact t_gives rfl (gh_load tabOk rfl (ok hD) rfl rfl) hD (Keep4.refl _) rfl
    · refine any_op rfl rfl [(3, 11)] rfl fun W3 hD v hv => ?_
      obtain rfl : v = _ := hv
      exact t_gives rfl (gives_evL tabOk rfl) hD (Keep4.refl _) rfl
    · refine any_op rfl rfl [(4, 12)] rfl fun W3 hD v hv => ?_
      obtain rfl : v = _ := hv
      refine t_gives rfl (gives_evA tabOk rfl) hD (Keep4.refl _) ?_
      show Value.int .u8 _ = .int .u8 _
      rw [wrap_u8]; congr 1; omega
    · refine any_op rfl rfl [(5, 13)] rfl fun W3 hD v hv => ?_
      obtain rfl : v = _ := hv
      exact t_gives rfl (gives_buildSlice tabOk rfl rfl (by simp [Value.cells]) (by decide) (by decide) (by simp)) (al _ hD) (ka _) (Rowm.sby (base := W2.heap.size) (e := 5) (rowm_new (vs := u8s [(s.size : Int)]) hD.size (ub _)))
    · exact any_op rfl rfl [] rfl fun W3 hD => t_gives rfl (gives_evP tabOk rfl) hD (Keep4.refl _) rfl
    · refine any_op rfl rfl [(7, 15)] rfl fun W3 hD v hv => ?_
      obtain rfl : v = _ := hv
      exact t_gives rfl (gh_load tabOk rfl (ok hD) rfl rfl) hD (Keep4.refl _) rfl
    · refine any_op rfl rfl [(8, 16)] rfl fun W3 hD v hv => ?_
      obtain rfl : v = _ := hv
      exact t_yields rfl (yields_strBytes tabOk rfl) fun v' W' ⟨a, c, e, h1, h2⟩ => ⟨hD.trans (h2.mono hD.size), Keep4.of h2, ⟨a, c, e, h1⟩⟩
    · exact any_op rfl rfl [] rfl fun W3 hD => t_gives rfl (gives_evP tabOk rfl) hD (Keep4.refl _) rfl
    · refine any_op rfl rfl [(10, 18)] rfl fun W3 hD v hv => ?_
      obtain rfl : v = _ := hv
      exact t_gives rfl (gh_load tabOk rfl (ok hD) rfl rfl) hD (Keep4.refl _) rfl
    · refine any_op rfl rfl [(11, 19)] rfl fun W3 hD v hv => ?_
      obtain rfl : v = _ := hv
      exact t_call rfl rfl ent96 (c_impl_little (k := 4) hst.1 (by omega) (by decide) (big hD)) fun v' W' ⟨h1, h2⟩ => ⟨hD.trans (h2.mono hD.size), Keep4.of h2, h1.sby⟩
    · exact any_op rfl rfl [] rfl fun W3 hD => t_gives rfl (gives_evP tabOk rfl) hD (Keep4.refl _) rfl
    · refine any_op rfl rfl [(13, 21)] rfl fun W3 hD v hv => ?_
      obtain rfl : v = _ := hv
      exact t_gives rfl (gh_load tabOk rfl (ok hD) rfl rfl) hD (Keep4.refl _) rfl
    · refine any_op rfl rfl [(14, 22)] rfl fun W3 hD v hv => ?_
      obtain rfl : v = _ := hv
      exact t_call rfl rfl ent96 (c_impl_little (k := 2) hsp.1 (by omega) (by decide) (big hD)) fun v' W' ⟨h1, h2⟩ => ⟨hD.trans (h2.mono hD.size), Keep4.of h2, h1.sby⟩
    · exact any_op rfl rfl [] rfl fun W3 hD => t_gives rfl (gives_evP tabOk rfl) hD (Keep4.refl _) rfl
    · refine any_op rfl rfl [(16, 24)] rfl fun W3 hD v hv => ?_
      obtain rfl : v = _ := hv
      refine t_gives rfl (gives_evL tabOk rfl) hD (Keep4.refl _) ?_
      show Value.int .i64 _ = .int .i64 _
      rw [List.length_map]
    · refine any_op rfl rfl [(17, 25)] rfl fun W3 hD v hv => ?_
      obtain rfl : v = _ := hv
      exact t_call rfl rfl ent96 (c_impl_little (k := 2) (by omega) (by omega) (by decide) (big hD)) fun v' W' ⟨h1, h2⟩ => ⟨hD.trans (h2.mono hD.size), Keep4.of h2, h1.sby⟩
    · exact any_op rfl rfl [] rfl fun W3 hD => t_gives rfl (gives_evP tabOk rfl) hD (Keep4.refl _) rfl
    · refine any_op rfl rfl [(1, 9), (6, 14), (9, 17), (12, 20), (15, 23), (18, 26), (19, 27)] rfl fun W3 hD v1 q1 v2 q2 v3 q3 v4 q4 v5 q5 v6 q6 v7 q7 => ?_
      have q1 : Sby W3 v1 [82, 73, 86, 49] := Rowm.sby (show Rowm _ _ _ _ _ from q1)
      obtain rfl : v7 = _ := q7
      have q7 := Sby.keeps (OwnV.sby h3) (Keeps.of hD)
      obtain ⟨a1, c1, rfl, p1⟩ := q1
      obtain ⟨a2, c2, rfl, p2⟩ := (show Sby _ _ _ from q2)
      obtain ⟨a3, c3, rfl, p3⟩ := (show Sby _ _ _ from q3)
      obtain ⟨a4, c4, rfl, p4⟩ := (show Sby _ _ _ from q4)
      obtain ⟨a5, c5, rfl, p5⟩ := (show Sby _ _ _ from q5)
      obtain ⟨a6, c6, rfl, p6⟩ := (show Sby _ _ _ from q6)
      obtain ⟨a7, c7, e7, p7⟩ := q7
      rw [e7] at p7 ⊢
      refine t_gives rfl (gives_buildSlice tabOk rfl rfl (by simp [Value.cells]) (by decide) (by decide) (by simp)) (al _ hD) (ka _) ?_
      refine ⟨W3.heap.size, [(a1, 4, c1), (a2, 1, c2), (a3, (bI s).length, c3), (a4, (leL st 4).length, c4), (a5, (leL sp 2).length, c5), (a6, (leL ((packTo xs xs.length).length : Int) 2).length, c6), (a7, (packTo xs xs.length).length, c7)], rfl, ?_, ?_⟩
      · obtain ⟨b8, c8, fz8, e8, -, -, -, h8⟩ := rowm_new (base := 0) (e := 38) (vs := ([(a1, 4, c1), (a2, 1, c2), (a3, (bI s).length, c3), (a4, (leL st 4).length, c4), (a5, (leL sp 2).length, c5), (a6, (leL ((packTo xs xs.length).length : Int) 2).length, c6), (a7, (packTo xs xs.length).length, c7)] : List Sv).map slV) (W := W3) (Nat.zero_le _) (by simp [slV, Value.oneCell', cl])
        cases e8
        exact h8
      · have kk := (ka (W3 := W3) (.cells (cellsAll [.slice a1 4 c1, .slice a2 1 c2, .slice a3 (bI s).length c3, .slice a4 (leL st 4).length c4, .slice a5 (leL sp 2).length c5, .slice a6 (leL ((packTo xs xs.length).length : Int) 2).length c6, .slice a7 (packTo xs xs.length).length c7]) 38)).1
        refine ⟨rfl, fun i hi => ?_⟩
        match i, hi with
        | 0, _ => exact ⟨rfl, kk.sl p1⟩
        | 1, _ => exact ⟨rfl, kk.sl p2⟩
        | 2, _ => exact ⟨rfl, kk.sl p3⟩
        | 3, _ => exact ⟨rfl, kk.sl p4⟩
        | 4, _ => exact ⟨rfl, kk.sl p5⟩
        | 5, _ => exact ⟨rfl, kk.sl p6⟩
        | 6, _ => exact ⟨rfl, kk.sl p7⟩
        | n + 7, hi => exact absurd hi (by simp [storeL])
    · refine any_op rfl rfl [(20, 28)] rfl fun W3 hD v hv => ?_
      obtain ⟨b7, ps, rfl, r7, p7⟩ := hv
      refine t_call rfl rfl ent95 (c_ConcatB (yss := storeL s st sp xs) (big hD) r7 p7 (by omega) (by omega) (by simp [storeL])) fun v' W' ⟨a, c, e, g⟩ => ⟨hD.trans (g.below.mono hD.size), Keep4.of g.below, ?_⟩
      subst e
      have h1 := ownsRow_base (g.ok _ (List.mem_cons_self ..)).1 fun b hb => (g.own _ (List.mem_cons_self ..) b hb).1
      show OwnV _ _ _ _ _
      unfold OwnV
      rw [List.length_map]
      exact ownsRow_base h1 fun b hb => Nat.le_trans hD.size (g.own _ (List.mem_cons_self ..) b hb).1
    · refine any_op rfl rfl [(21, 29)] rfl fun W3 hD v hv => ?_
      exact t_gives rfl (gives_evP tabOk rfl) hD (Keep4.refl _) hv
  · intro E W3 hD hE hQ
    obtain ⟨v4, e4, q4⟩ := hQ 22 _ 4 rfl rfl
    have q4 : OwnV W3 W2.heap.size 5 v4 (u8s (storeL s st sp xs).flatten) := q4
    have H3 := Hp.grow H2 hD
    have H4 : Hp B W W3 (.row 5 1 v4 (u8s (storeL s st sp xs).flatten).length (u8s (storeL s st sp xs).flatten) :: [.blk b [.string s, .int .i64 st, .int .i64 sp, .slice a xs.length c] 44]) := H2.add hD ⟨ownsRow_base q4 fun _ _ => Nat.zero_le _, by simp [u8s, Value.oneCell'], by
      intro v hv
      simp only [u8s, List.mem_map] at hv
      obtain ⟨x, -, rfl⟩ := hv
      rfl⟩ fun k hk => by
        have h5 := q4.lt k hk
        exact h5
    obtain ⟨a4, c4, rfl⟩ := q4.form
    refine thn_normal (AW.less (E' := [(4, .slice a4 (u8s (storeL s st sp xs).flatten).length c4), (2, .string ⟨#[]⟩)]) (fun t u ht => ?_) ?_)
    · by_cases h4 : 4 = t
      · subst h4
        rw [get_same] at ht
        rw [e4]; exact ht
      · rw [get_other h4] at ht
        exact hE t u (by
          by_cases h2 : 2 = t
          · subst h2; exact ht
          · rw [get_other h2] at ht; cases ht)
    · clear H0 H1 H2 H3 hQ hE
      repeat' (first | refine s_pure tabOk rfl rfl rfl rfl ?_ | refine Stp.imp ?_ | refine aops_nil ?_ | refine aw_reg ?_ | refine aw_seq ?_ | refine s_pass rfl rfl rfl ?_ | refine s_len tabOk rfl rfl rfl rfl ?_ | refine aw_true rfl ?_ | refine aw_false rfl ?_ | refine blk_exit_other rfl ?_ | refine s_arith tabOk rfl rfl rfl rfl (by simp only [InR]; omega) ?_ | ((first | ((fail_if_success refine s_told rfl rfl ?_); refine s_part rfl rfl rfl ?_ ?_) | refine aw_if rfl ?_ ?_) <;> intro hc <;> (first | replace hc := DecT.imp hc | simp only [decs] at hc | skip)) | refine s_index1n tabOk rfl rfl rfl rfl (by omega) ?_ | refine s_indexn tabOk rfl rfl rfl rfl (by omega) ?_ | refine s_index1 tabOk rfl rfl rfl rfl (by omega) (by omega) ?_ | refine sh_load tabOk (by assumption) rfl rfl rfl rfl (by repeat (first | exact List.Mem.head _ | apply List.Mem.tail)) (by rfl) (by rfl) ?_ | refine sh_loada tabOk (by assumption) rfl rfl rfl rfl (by repeat (first | exact List.Mem.head _ | apply List.Mem.tail)) (by rfl) ?_ | (refine sh_box (by assumption) rfl rfl rfl rfl rfl rfl ?_; intro _ _ _) | (refine sh_alloc tabOk (by assumption) rfl rfl rfl rfl rfl rfl ?_; intro _ _ _) | (refine sh_store tabOk (by assumption) rfl rfl rfl rfl rfl rfl (by repeat (first | exact Upd.here | apply Upd.there)) (by rfl) ?_; intro _ _) | (refine sh_lit tabOk (by assumption) rfl rfl rfl rfl rfl rfl rfl rfl rfl rfl rfl ?_; intro _ _ _) | refine sh_build tabOk rfl rfl rfl rfl rfl rfl ?_)
      refine s_bytesString tabOk rfl rfl rfl rfl q4 ?_
      repeat' (first | refine s_pure tabOk rfl rfl rfl rfl ?_ | refine Stp.imp ?_ | refine aops_nil ?_ | refine aw_reg ?_ | refine aw_seq ?_ | refine s_pass rfl rfl rfl ?_ | refine s_len tabOk rfl rfl rfl rfl ?_ | refine aw_true rfl ?_ | refine aw_false rfl ?_ | refine blk_exit_other rfl ?_ | refine s_arith tabOk rfl rfl rfl rfl (by simp only [InR]; omega) ?_ | ((first | ((fail_if_success refine s_told rfl rfl ?_); refine s_part rfl rfl rfl ?_ ?_) | refine aw_if rfl ?_ ?_) <;> intro hc <;> (first | replace hc := DecT.imp hc | simp only [decs] at hc | skip)) | refine s_index1n tabOk rfl rfl rfl rfl (by omega) ?_ | refine s_indexn tabOk rfl rfl rfl rfl (by omega) ?_ | refine s_index1 tabOk rfl rfl rfl rfl (by omega) (by omega) ?_ | refine sh_load tabOk (by assumption) rfl rfl rfl rfl (by repeat (first | exact List.Mem.head _ | apply List.Mem.tail)) (by rfl) (by rfl) ?_ | refine sh_loada tabOk (by assumption) rfl rfl rfl rfl (by repeat (first | exact List.Mem.head _ | apply List.Mem.tail)) (by rfl) ?_ | (refine sh_box (by assumption) rfl rfl rfl rfl rfl rfl ?_; intro _ _ _) | (refine sh_alloc tabOk (by assumption) rfl rfl rfl rfl rfl rfl ?_; intro _ _ _) | (refine sh_store tabOk (by assumption) rfl rfl rfl rfl rfl rfl (by repeat (first | exact Upd.here | apply Upd.there)) (by rfl) ?_; intro _ _) | (refine sh_lit tabOk (by assumption) rfl rfl rfl rfl rfl rfl rfl rfl rfl rfl rfl ?_; intro _ _ _) | refine sh_build tabOk rfl rfl rfl rfl rfl rfl ?_)
      refine s_call rfl rfl rfl rfl ent97 (c_impl_check (by decide) (by rw [strOfNums_size]; omega)) ?_
      rintro _ _ ⟨rfl, rfl⟩
      have hc := chk_range (n := 0) (s := strOfNums (storeL s st sp xs).flatten) (by decide) (strOfNums (storeL s st sp xs).flatten).size
      repeat' (first | refine s_pure tabOk rfl rfl rfl rfl ?_ | refine Stp.imp ?_ | refine aops_nil ?_ | refine aw_reg ?_ | refine aw_seq ?_ | refine s_pass rfl rfl rfl ?_ | refine s_len tabOk rfl rfl rfl rfl ?_ | refine aw_true rfl ?_ | refine aw_false rfl ?_ | refine blk_exit_other rfl ?_ | refine s_arith tabOk rfl rfl rfl rfl (by simp only [InR]; omega) ?_ | ((first | ((fail_if_success refine s_told rfl rfl ?_); refine s_part rfl rfl rfl ?_ ?_) | refine aw_if rfl ?_ ?_) <;> intro hc <;> (first | replace hc := DecT.imp hc | simp only [decs] at hc | skip)) | refine s_index1n tabOk rfl rfl rfl rfl (by omega) ?_ | refine s_indexn tabOk rfl rfl rfl rfl (by omega) ?_ | refine s_index1 tabOk rfl rfl rfl rfl (by omega) (by omega) ?_ | refine sh_load tabOk (by assumption) rfl rfl rfl rfl (by repeat (first | exact List.Mem.head _ | apply List.Mem.tail)) (by rfl) (by rfl) ?_ | refine sh_loada tabOk (by assumption) rfl rfl rfl rfl (by repeat (first | exact List.Mem.head _ | apply List.Mem.tail)) (by rfl) ?_ | (refine sh_box (by assumption) rfl rfl rfl rfl rfl rfl ?_; intro _ _ _) | (refine sh_alloc tabOk (by assumption) rfl rfl rfl rfl rfl rfl ?_; intro _ _ _) | (refine sh_store tabOk (by assumption) rfl rfl rfl rfl rfl rfl (by repeat (first | exact Upd.here | apply Upd.there)) (by rfl) ?_; intro _ _) | (refine sh_lit tabOk (by assumption) rfl rfl rfl rfl rfl rfl rfl rfl rfl rfl rfl ?_; intro _ _ _) | refine sh_build tabOk rfl rfl rfl rfl rfl rfl ?_)
      refine s_call rfl rfl rfl rfl ent96 (c_impl_little (k := 2) hc.1 (by omega) (by decide) (Hp.size (by assumption))) ?_
      rintro v5 W5 ⟨h5, g5⟩
      have H5 := Hp.grow H4 g5
      obtain ⟨a5, c5, rfl, p5⟩ := OwnV.sby h5
      refine sh_append tabOk H5 rfl rfl rfl rfl rfl rfl rfl rfl rfl (fun _ _ => (by repeat (first | exact Upd.here | apply Upd.there))) p5 (by rw [List.length_map, leL_len]; omega) ?_
      intro a7 c7 W7 H7
      have h7 : (u8s (storeL s st sp xs).flatten).length + (leL (chk 0 (strOfNums (storeL s st sp xs).flatten) (strOfNums (storeL s st sp xs).flatten).size) 2).length = ((storeL s st sp xs).flatten ++ leL (chk 0 (strOfNums (storeL s st sp xs).flatten) (strOfNums (storeL s st sp xs).flatten).size) 2).length := by
        rw [List.length_append, List.length_map]
      rw [h7, ← List.map_append] at H7
      rw [h7]
      have q7 := Hp.ownB H7 (List.mem_cons_self ..)
      refine s_bytesString tabOk rfl rfl rfl rfl q7 ?_
      repeat' (first | refine s_pure tabOk rfl rfl rfl rfl ?_ | refine Stp.imp ?_ | refine aops_nil ?_ | refine aw_reg ?_ | refine aw_seq ?_ | refine s_pass rfl rfl rfl ?_ | refine s_len tabOk rfl rfl rfl rfl ?_ | refine aw_true rfl ?_ | refine aw_false rfl ?_ | refine blk_exit_other rfl ?_ | refine s_arith tabOk rfl rfl rfl rfl (by simp only [InR]; omega) ?_ | ((first | ((fail_if_success refine s_told rfl rfl ?_); refine s_part rfl rfl rfl ?_ ?_) | refine aw_if rfl ?_ ?_) <;> intro hc <;> (first | replace hc := DecT.imp hc | simp only [decs] at hc | skip)) | refine s_index1n tabOk rfl rfl rfl rfl (by omega) ?_ | refine s_indexn tabOk rfl rfl rfl rfl (by omega) ?_ | refine s_index1 tabOk rfl rfl rfl rfl (by omega) (by omega) ?_ | refine sh_load tabOk (by assumption) rfl rfl rfl rfl (by repeat (first | exact List.Mem.head _ | apply List.Mem.tail)) (by rfl) (by rfl) ?_ | refine sh_loada tabOk (by assumption) rfl rfl rfl rfl (by repeat (first | exact List.Mem.head _ | apply List.Mem.tail)) (by rfl) ?_ | (refine sh_box (by assumption) rfl rfl rfl rfl rfl rfl ?_; intro _ _ _) | (refine sh_alloc tabOk (by assumption) rfl rfl rfl rfl rfl rfl ?_; intro _ _ _) | (refine sh_store tabOk (by assumption) rfl rfl rfl rfl rfl rfl (by repeat (first | exact Upd.here | apply Upd.there)) (by rfl) ?_; intro _ _) | (refine sh_lit tabOk (by assumption) rfl rfl rfl rfl rfl rfl rfl rfl rfl rfl rfl ?_; intro _ _ _) | refine sh_build tabOk rfl rfl rfl rfl rfl rfl ?_)
      refine retK_ret tabOk (congrArg Array.toList Try.results59) (by repeat (first | exact rv_nil | apply rv_tmp rfl rfl | apply rv_cellH (by assumption) rfl rfl rfl (by repeat (first | exact List.Mem.head _ | apply List.Mem.tail)) rfl)) ?_
      exact ⟨rfl, H7.below⟩
end
end Go.Proofs.Ytmplincflbhmiaa
namespace Go.Proofs.Ytmplincflbhmiaa
set_option linter.unusedSimpArgs false
set_option linter.unusedVariables false
open Go Cn Go.RowKit
section
variable {P : Program} {N B : Nat} {E : Env} {A W : World} {ops : Array Oper} {K : Exit → Env → World → Prop} {T : Tab} {l : List Res} {o : Oper}
end
end Go.Proofs.Ytmplincflbhmiaa
namespace Go.Proofs.Ytmplincflbhmiaa
set_option linter.unusedSimpArgs false
set_option linter.unusedVariables false
open Go Cn Go.RowKit
theorem leL_2 (n : Int) : leL n 2 = [n % 256, n / 256 % 256] := by
  rw [leL_succ, leL_succ, leL_zero]; simp
theorem leL_4 (n : Int) : leL n 4 = [n % 256, n / 256 % 256, n / 65536 % 256, n / 16777216 % 256] := by
  rw [leL_succ, leL_succ, leL_succ, leL_succ, leL_zero]; simp
section
variable {P : Program} {N B : Nat} {E : Env} {W : World} {o : Oper}
theorem gives_rem {k : IntKind} {n m : Int} (hv : evD E o = some (.rem, k, n, m)) (h0 : 0 ≤ n) (h1 : 1 ≤ m) : Gives P N B o E W (.int k (n % m)) W := by
  refine gives_of fun a w ha hw hB => ⟨.int k (n % m), w, evD_run hv ha w ?_, rfl, rfl⟩
  have e : n.tmod m = n % m := Int.tmod_eq_emod_of_nonneg h0
  simp [binOp, Op.intDiv, e, show m ≠ 0 by omega]
end
section
variable {B : Nat} {A W W' : World} {L : List Res}
@[irreducible] def stS (s : ByteArray) (st sp : Int) (xs : List Nat) : ByteArray := if recOk s st sp xs.length then storeS s st sp xs else ⟨#[]⟩
theorem stS_yes {s : ByteArray} {st sp : Int} {xs : List Nat} (h : recOk s st sp xs.length = true) : stS s st sp xs = storeS s st sp xs := by unfold stS; rw [h]; rfl
theorem stS_no {s : ByteArray} {st sp : Int} {xs : List Nat} (h : recOk s st sp xs.length = false) : stS s st sp xs = ⟨#[]⟩ := by unfold stS; rw [h]; rfl
theorem recOk_name {s : ByteArray} {st sp : Int} {n : Nat} (h : recOk s st sp n = true) : s.size ≤ 255 := by
  unfold recOk nameOk at h
  simp at h
  omega
theorem hc_impl_StoreRecord {v : Value} {s : ByteArray} {st sp : Int} {xs : List Nat} (hv : RecA W v s st sp xs) (hs : s.size ≤ 1048576) (hbd : Bd xs) (hB : B ≤ W.heap.size) :
    ACalls Try.prog B 21 [v] W (fun r W' => r = .tuple #[.string (stS s st sp xs), .bool (recOk s st sp xs.length)] ∧ Below W.heap.size W W') := by
  have hv0 := hv
  obtain ⟨a, c, rfl, hx⟩ := hv
  have H0 : Hp B W W [] := Hp.new hB
  refine acalls_of Try.func21 rfl Try.ntmps21 (Nat.le_of_ble_eq_true rfl) ?_
  repeat' (first | refine s_pure tabOk rfl rfl rfl rfl ?_ | refine Stp.imp ?_ | refine aops_nil ?_ | refine aw_reg ?_ | refine aw_seq ?_ | refine s_pass rfl rfl rfl ?_ | refine s_len tabOk rfl rfl rfl rfl ?_ | refine aw_true rfl ?_ | refine aw_false rfl ?_ | refine blk_exit_other rfl ?_ | refine s_arith tabOk rfl rfl rfl rfl (by simp only [InR]; omega) ?_ | ((first | ((fail_if_success refine s_told rfl rfl ?_); refine s_part rfl rfl rfl ?_ ?_) | refine aw_if rfl ?_ ?_) <;> intro hc <;> (first | replace hc := DecT.imp hc | simp only [decs] at hc | skip)) | refine s_index1n tabOk rfl rfl rfl rfl (by omega) ?_ | refine s_indexn tabOk rfl rfl rfl rfl (by omega) ?_ | refine s_index1 tabOk rfl rfl rfl rfl (by omega) (by omega) ?_ | refine sh_load tabOk (by assumption) rfl rfl rfl rfl (by repeat (first | exact List.Mem.head _ | apply List.Mem.tail)) (by rfl) (by rfl) ?_ | refine sh_loada tabOk (by assumption) rfl rfl rfl rfl (by repeat (first | exact List.Mem.head _ | apply List.Mem.tail)) (by rfl) ?_ | (refine sh_box (by assumption) rfl rfl rfl rfl rfl rfl ?_; intro _ _ _) | (refine sh_alloc tabOk (by assumption) rfl rfl rfl rfl rfl rfl ?_; intro _ _ _) | (refine sh_store tabOk (by assumption) rfl rfl rfl rfl rfl rfl (by repeat (first | exact Upd.here | apply Upd.there)) (by rfl) ?_; intro _ _) | (refine sh_lit tabOk (by assumption) rfl rfl rfl rfl rfl rfl rfl rfl rfl rfl rfl ?_; intro _ _ _) | refine sh_build tabOk rfl rfl rfl rfl rfl rfl ?_)
  refine s_call rfl rfl rfl rfl ent25 (c_impl_ValidRecord (RecA.below hv0 (Hp.below (by assumption))) hs) ?_
  rintro _ W2 ⟨rfl, g2⟩
  have H2 := Hp.grow (by assumption) g2
  cases hk : recOk s st sp xs.length
  · repeat' (first | refine s_pure tabOk rfl rfl rfl rfl ?_ | refine Stp.imp ?_ | refine aops_nil ?_ | refine aw_reg ?_ | refine aw_seq ?_ | refine s_pass rfl rfl rfl ?_ | refine s_len tabOk rfl rfl rfl rfl ?_ | refine aw_true rfl ?_ | refine aw_false rfl ?_ | refine blk_exit_other rfl ?_ | refine s_arith tabOk rfl rfl rfl rfl (by simp only [InR]; omega) ?_ | ((first | ((fail_if_success refine s_told rfl rfl ?_); refine s_part rfl rfl rfl ?_ ?_) | refine aw_if rfl ?_ ?_) <;> intro hc <;> (first | replace hc := DecT.imp hc | simp only [decs] at hc | skip)) | refine s_index1n tabOk rfl rfl rfl rfl (by omega) ?_ | refine s_indexn tabOk rfl rfl rfl rfl (by omega) ?_ | refine s_index1 tabOk rfl rfl rfl rfl (by omega) (by omega) ?_ | refine sh_load tabOk (by assumption) rfl rfl rfl rfl (by repeat (first | exact List.Mem.head _ | apply List.Mem.tail)) (by rfl) (by rfl) ?_ | refine sh_loada tabOk (by assumption) rfl rfl rfl rfl (by repeat (first | exact List.Mem.head _ | apply List.Mem.tail)) (by rfl) ?_ | (refine sh_box (by assumption) rfl rfl rfl rfl rfl rfl ?_; intro _ _ _) | (refine sh_alloc tabOk (by assumption) rfl rfl rfl rfl rfl rfl ?_; intro _ _ _) | (refine sh_store tabOk (by assumption) rfl rfl rfl rfl rfl rfl (by repeat (first | exact Upd.here | apply Upd.there)) (by rfl) ?_; intro _ _) | (refine sh_lit tabOk (by assumption) rfl rfl rfl rfl rfl rfl rfl rfl rfl rfl rfl ?_; intro _ _ _) | refine sh_build tabOk rfl rfl rfl rfl rfl rfl ?_)
    refine retK_ret tabOk (congrArg Array.toList Try.results21) (by repeat (first | exact rv_nil | apply rv_tmp rfl rfl | apply rv_cellH (by assumption) rfl rfl rfl (by repeat (first | exact List.Mem.head _ | apply List.Mem.tail)) rfl)) ?_
    rw [stS_no hk]
    exact ⟨rfl, Hp.below (by assumption)⟩
  · have hrg := recOk_range hk
    have hnm := recOk_name hk
    repeat' (first | refine s_pure tabOk rfl rfl rfl rfl ?_ | refine Stp.imp ?_ | refine aops_nil ?_ | refine aw_reg ?_ | refine aw_seq ?_ | refine s_pass rfl rfl rfl ?_ | refine s_len tabOk rfl rfl rfl rfl ?_ | refine aw_true rfl ?_ | refine aw_false rfl ?_ | refine blk_exit_other rfl ?_ | refine s_arith tabOk rfl rfl rfl rfl (by simp only [InR]; omega) ?_ | ((first | ((fail_if_success refine s_told rfl rfl ?_); refine s_part rfl rfl rfl ?_ ?_) | refine aw_if rfl ?_ ?_) <;> intro hc <;> (first | replace hc := DecT.imp hc | simp only [decs] at hc | skip)) | refine s_index1n tabOk rfl rfl rfl rfl (by omega) ?_ | refine s_indexn tabOk rfl rfl rfl rfl (by omega) ?_ | refine s_index1 tabOk rfl rfl rfl rfl (by omega) (by omega) ?_ | refine sh_load tabOk (by assumption) rfl rfl rfl rfl (by repeat (first | exact List.Mem.head _ | apply List.Mem.tail)) (by rfl) (by rfl) ?_ | refine sh_loada tabOk (by assumption) rfl rfl rfl rfl (by repeat (first | exact List.Mem.head _ | apply List.Mem.tail)) (by rfl) ?_ | (refine sh_box (by assumption) rfl rfl rfl rfl rfl rfl ?_; intro _ _ _) | (refine sh_alloc tabOk (by assumption) rfl rfl rfl rfl rfl rfl ?_; intro _ _ _) | (refine sh_store tabOk (by assumption) rfl rfl rfl rfl rfl rfl (by repeat (first | exact Upd.here | apply Upd.there)) (by rfl) ?_; intro _ _) | (refine sh_lit tabOk (by assumption) rfl rfl rfl rfl rfl rfl rfl rfl rfl rfl rfl ?_; intro _ _ _) | refine sh_build tabOk rfl rfl rfl rfl rfl rfl ?_)
    refine s_call rfl rfl rfl rfl ent59 (c_impl_storeRecord (RecA.below hv0 (Hp.below (by assumption))) hnm (by omega) hbd (by omega) (by omega) (Hp.size (by assumption))) ?_
    rintro _ W3 ⟨rfl, g3⟩
    have H3 := Hp.grow (by assumption) g3
    repeat' (first | refine s_pure tabOk rfl rfl rfl rfl ?_ | refine Stp.imp ?_ | refine aops_nil ?_ | refine aw_reg ?_ | refine aw_seq ?_ | refine s_pass rfl rfl rfl ?_ | refine s_len tabOk rfl rfl rfl rfl ?_ | refine aw_true rfl ?_ | refine aw_false rfl ?_ | refine blk_exit_other rfl ?_ | refine s_arith tabOk rfl rfl rfl rfl (by simp only [InR]; omega) ?_ | ((first | ((fail_if_success refine s_told rfl rfl ?_); refine s_part rfl rfl rfl ?_ ?_) | refine aw_if rfl ?_ ?_) <;> intro hc <;> (first | replace hc := DecT.imp hc | simp only [decs] at hc | skip)) | refine s_index1n tabOk rfl rfl rfl rfl (by omega) ?_ | refine s_indexn tabOk rfl rfl rfl rfl (by omega) ?_ | refine s_index1 tabOk rfl rfl rfl rfl (by omega) (by omega) ?_ | refine sh_load tabOk (by assumption) rfl rfl rfl rfl (by repeat (first | exact List.Mem.head _ | apply List.Mem.tail)) (by rfl) (by rfl) ?_ | refine sh_loada tabOk (by assumption) rfl rfl rfl rfl (by repeat (first | exact List.Mem.head _ | apply List.Mem.tail)) (by rfl) ?_ | (refine sh_box (by assumption) rfl rfl rfl rfl rfl rfl ?_; intro _ _ _) | (refine sh_alloc tabOk (by assumption) rfl rfl rfl rfl rfl rfl ?_; intro _ _ _) | (refine sh_store tabOk (by assumption) rfl rfl rfl rfl rfl rfl (by repeat (first | exact Upd.here | apply Upd.there)) (by rfl) ?_; intro _ _) | (refine sh_lit tabOk (by assumption) rfl rfl rfl rfl rfl rfl rfl rfl rfl rfl rfl ?_; intro _ _ _) | refine sh_build tabOk rfl rfl rfl rfl rfl rfl ?_)
    refine retK_ret tabOk (congrArg Array.toList Try.results21) (by repeat (first | exact rv_nil | apply rv_tmp rfl rfl | apply rv_cellH (by assumption) rfl rfl rfl (by repeat (first | exact List.Mem.head _ | apply List.Mem.tail)) rfl)) ?_
    rw [stS_yes hk]
    exact ⟨rfl, Hp.below (by assumption)⟩
end
end Go.Proofs.Ytmplincflbhmiaa
